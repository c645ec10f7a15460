/- WitnessTales answers true. -/
import Derived.Test.YtbnclifpdmpjnaaGreatDoorZ50
import Derived.Test.YtbnclifpdmpjnaaGreatDoorZ51
namespace Go.Proofs.YtbnclifpdmpjnaaGreatDoor
open Go.RowKit
def tl (kind index cl nm : Int) (acts : List ActD) (commit : Bool) (reads : List Rd) (ao : Option Addr) (ac : Nat) (ro : Option Addr) (rc : Nat) : TaleZ := ⟨⟨kind, index, cl, nm, acts, commit, reads⟩, 0, 0, 0, ao, ac, ro, rc, ⟨#[]⟩, ⟨#[]⟩, 0, 0, 0, 0, none, 0, 0, none, 0, 0⟩
structure FitT (W1 : World) (z : TaleZ) : Prop where
  small : z.d.small
  an : z.d.acts.length ≤ 1000
  rn : z.d.reads.length ≤ 1000
  here : ∀ W, Ext W1 W → z.at W.heap.size W
theorem FitT.ok {W1 : World} {z : TaleZ} (h : FitT W1 z) : z.d.ok := h.small.ok h.an h.rn
structure FitS (d : StepD) : Prop where
  acts : ∀ a ∈ d.acts, a.ok
  reads : ∀ r ∈ d.reads, r.key.size ≤ 140737488351232 ∧ r.value.size ≤ 140737488351232
  cl : i64B d.cl
  nm : i64B d.nm
  an : d.acts.length ≤ 1
  rn : d.reads.length ≤ 1
theorem put_fit : FitS (putOf 1 ⟨#[107]⟩ ⟨#[53]⟩) := by
  refine ⟨fun a ha => ?_, (fun r hr => by cases hr), ⟨by show _ ≤ (1 : Int); omega, by show (1 : Int) ≤ _; omega⟩, ⟨by show _ ≤ (1 : Int); omega, by show (1 : Int) ≤ _; omega⟩, Nat.le_refl _, Nat.zero_le _⟩
  simp only [putOf, List.mem_singleton] at ha
  subst ha
  exact ⟨by show (0 : Int) ≤ 2; omega, by show (2 : Int) ≤ 255; omega, by show (1 : Nat) ≤ _; omega, by show (1 : Nat) ≤ _; omega, by show _ ≤ (0 : Int); omega, by show (0 : Int) ≤ _; omega⟩
theorem get_fit : FitS (getOf 2 ⟨#[107]⟩ ⟨#[53]⟩) := by
  refine ⟨fun a ha => ?_, fun r hr => ?_, ⟨by show _ ≤ (2 : Int); omega, by show (2 : Int) ≤ _; omega⟩, ⟨by show _ ≤ (1 : Int); omega, by show (1 : Int) ≤ _; omega⟩, Nat.le_refl _, Nat.le_refl _⟩
  · simp only [getOf, List.mem_singleton] at ha
    subst ha
    exact ⟨by show (0 : Int) ≤ 1; omega, by show (1 : Int) ≤ 255; omega, by show (1 : Nat) ≤ _; omega, by show (0 : Nat) ≤ _; omega, by show _ ≤ (0 : Int); omega, by show (0 : Int) ≤ _; omega⟩
  · simp only [getOf, List.mem_singleton] at hr
    subst hr
    exact ⟨by show (1 : Nat) ≤ _; omega, by show (1 : Nat) ≤ _; omega⟩
theorem tl_fit {W1 : World} {d : StepD} {kind index : Int} {commit : Bool} {o r : Option Addr} {c s : Nat} {acts : List ActD} {reads : List Rd} {ao ro : Option Addr} {ac rc : Nat} (hd : FitS d) (hk : 0 ≤ kind ∧ kind ≤ 255) (hi : i64B index) (hz : ∀ W, Ext W1 W → (⟨d, o, c, r, s⟩ : StepZ).at W.heap.size W)
    (ha : acts = [] ∨ (acts = d.acts ∧ ao = o)) (hr : reads = [] ∨ (reads = d.reads ∧ ro = r)) : FitT W1 (tl kind index d.cl d.nm acts commit reads ao ac ro rc) := by
  have h1 : (∀ a ∈ acts, a.ok) ∧ acts.length ≤ 1 := by
    rcases ha with rfl | ⟨rfl, _⟩
    · exact ⟨fun a h => by (cases h), Nat.zero_le _⟩
    · exact ⟨hd.acts, hd.an⟩
  have h2 : (∀ r ∈ reads, r.key.size ≤ 140737488351232 ∧ r.value.size ≤ 140737488351232) ∧ reads.length ≤ 1 := by
    rcases hr with rfl | ⟨rfl, _⟩
    · exact ⟨fun a h => by (cases h), Nat.zero_le _⟩
    · exact ⟨hd.reads, hd.rn⟩
  refine ⟨⟨h1.1, h2.1, hd.cl, hd.nm, hi, hk, by show acts.length ≤ _; omega, by show reads.length ≤ _; omega⟩, by show acts.length ≤ _; omega, by show reads.length ≤ _; omega, fun W hW => ⟨?_, ?_⟩⟩
  · show Rows 4 encAct W.heap.size W ao acts
    rcases ha with rfl | ⟨rfl, rfl⟩
    · exact fun h => absurd rfl h
    · exact (hz W hW).1
  · show Rows 3 encRd W.heap.size W ro reads
    rcases hr with rfl | ⟨rfl, rfl⟩
    · exact fun h => absurd rfl h
    · exact (hz W hW).2
theorem ask_calls {w W1 W : World} {so : Option Addr} {c : Nat} {m : List TaleZ} (hlv : LV w.heap.size w) (h1 : Ext w W1) (hx : Ext W1 W) (hl : m.length ≤ 60) (hr : Rows 18 encTale W.heap.size W so m) (hf : ∀ z ∈ m, FitT W1 z) :
    Calls Tryz.prog 3 #[.slice so m.length c] W fun e w' => e = .returned (.bool true) ∧ Ext W w' :=
  fromW_calls m so c W (by omega) ⟨hr, fun z hz => (hf z hz).here W hx⟩ (fun z hz => (hf z hz).small) ((hlv.below (Ext.trans h1 hx)).up (Ext.trans h1 hx).size)
set_option maxRecDepth 1000000 in
set_option maxHeartbeats 6400000 in
theorem talesW_calls (w : World) (hlv : LV w.heap.size w) :
    Calls Tryz.prog 4 #[] w fun e w' => e = .returned (.bool true) ∧ Ext w w' := by
  have HLV := Lib.hid hlv
  clear hlv
  go_enter Tryz.func4, Tryz.ntmps4
  go_wp2_with fail
  refine (putS_calls 1 ⟨#[107]⟩ ⟨#[53]⟩ w).mono ?_
  rintro e w1 ⟨⟨d1, o1, c1, r1, s1⟩, rfl, hd1, hz1, hx1⟩
  have FS1 : Hid (FitS d1) := Lib.hid (by simp only at hd1; rw [hd1]; exact put_fit)
  have ZZ1 := Lib.hid (fun W (hW : Ext w1 W) => (hz1.ext hW).mono hW.size); have X1 := Lib.hid hx1
  unfold encStep
  simp only
  clear hd1 hz1 hx1
  go_wp2_with fail
  refine (getS_calls 2 ⟨#[107]⟩ ⟨#[53]⟩ w1).mono ?_
  rintro e w2 ⟨⟨d2, o2, c2, r2, s2⟩, rfl, hd2, hz2, hx2⟩
  have FS2 : Hid (FitS d2) := Lib.hid (by simp only at hd2; rw [hd2]; exact get_fit)
  have ZZ2 := Lib.hid (fun W (hW : Ext w2 W) => (hz2.ext hW).mono hW.size); have X2 := Lib.hid (Ext.trans X1.out hx2); have Y2 := Lib.hid hx2
  unfold encStep
  simp only
  clear hd2 hz2 hx2
  obtain ⟨W0, hW0⟩ : ∃ W0, W0 = (w2.alloc (.cells #[.int .i64 d1.cl, .int .i64 d1.nm, .slice o1 d1.acts.length c1, .slice r1 d1.reads.length s1, .int .i64 d1.ca, .int .i64 d1.an] 51)).alloc (.cells #[.int .i64 d2.cl, .int .i64 d2.nm, .slice o2 d2.acts.length c2, .slice r2 d2.reads.length s2, .int .i64 d2.ca, .int .i64 d2.an] 51) := ⟨_, rfl⟩
  have XA : Hid (Ext w2 W0) := Lib.hid (by rw [hW0]; exact ((Below.refl _ w2).alloc (Nat.le_refl _) _).alloc (by simp) _)
  have B1 : Hid (Blk W0 w2.heap.size (encStep ⟨d1, o1, c1, r1, s1⟩) 51) := Lib.hid (by rw [hW0]; exact (Blk.new w2 (encStep ⟨d1, o1, c1, r1, s1⟩) 51).alloc _)
  have B2 : Hid (Blk W0 (w2.heap.size + 1) (encStep ⟨d2, o2, c2, r2, s2⟩) 51) := Lib.hid (by
    have := Blk.new (w2.alloc (.cells #[.int .i64 d1.cl, .int .i64 d1.nm, .slice o1 d1.acts.length c1, .slice r1 d1.reads.length s1, .int .i64 d1.ca, .int .i64 d1.an] 51)) (encStep ⟨d2, o2, c2, r2, s2⟩) 51
    rw [show (w2.alloc (.cells #[.int .i64 d1.cl, .int .i64 d1.nm, .slice o1 d1.acts.length c1, .slice r1 d1.reads.length s1, .int .i64 d1.ca, .int .i64 d1.an] 51)).heap.size = w2.heap.size + 1 from by simp] at this
    rw [hW0]; exact this)
  have WW0 := Lib.hid hW0
  clear hW0
  go_upto_region 2 with fail
  rw [← WW0.out]
  have a0 : W0.cell? ⟨w2.heap.size, 0, none⟩ = some (.int .i64 d1.cl) := B1.out.cell 0; have a1 : W0.cell? ⟨w2.heap.size, 1, none⟩ = some (.int .i64 d1.nm) := B1.out.cell 1
  have a2 : W0.cell? ⟨w2.heap.size, 2, none⟩ = some (.slice o1 d1.acts.length c1) := B1.out.cell 2
  have b0 : W0.cell? ⟨w2.heap.size + 1, 0, none⟩ = some (.int .i64 d2.cl) := B2.out.cell 0; have b1 : W0.cell? ⟨w2.heap.size + 1, 1, none⟩ = some (.int .i64 d2.nm) := B2.out.cell 1
  have b2 : W0.cell? ⟨w2.heap.size + 1, 2, none⟩ = some (.slice o2 d2.acts.length c2) := B2.out.cell 2; have b3 : W0.cell? ⟨w2.heap.size + 1, 3, none⟩ = some (.slice r2 d2.reads.length s2) := B2.out.cell 3
  go_upto_region 3 with fail
  clear a0 a1 a2 b0 b1 b2 b3
  obtain ⟨L, hL⟩ : ∃ L : List TaleZ, L = [tl 1 0 d1.cl d1.nm (d1.acts) false ([]) o1 c1 none 0, tl 1 0 d2.cl d2.nm (d2.acts) false ([]) o2 c2 none 0, tl 6 4 d1.cl d1.nm ([]) true ([]) none 0 none 0, tl 2 0 d1.cl d1.nm ([]) true ([]) none 0 none 0, tl 6 6 d2.cl d2.nm ([]) true (d2.reads) none 0 r2 s2, tl 6 9 d2.cl d2.nm ([]) true (d2.reads) none 0 r2 s2, tl 2 0 d2.cl d2.nm ([]) true (d2.reads) none 0 r2 s2, tl 3 0 d1.cl d1.nm ([]) false ([]) none 0 none 0] := ⟨_, rfl⟩
  change Code.wp _ _ _ _ (W0.alloc (.cells (([tl 1 0 d1.cl d1.nm (d1.acts) false ([]) o1 c1 none 0, tl 1 0 d2.cl d2.nm (d2.acts) false ([]) o2 c2 none 0, tl 6 4 d1.cl d1.nm ([]) true ([]) none 0 none 0, tl 2 0 d1.cl d1.nm ([]) true ([]) none 0 none 0, tl 6 6 d2.cl d2.nm ([]) true (d2.reads) none 0 r2 s2, tl 6 9 d2.cl d2.nm ([]) true (d2.reads) none 0 r2 s2, tl 2 0 d2.cl d2.nm ([]) true (d2.reads) none 0 r2 s2, tl 3 0 d1.cl d1.nm ([]) false ([]) none 0 none 0] : List TaleZ).flatMap encTale).toArray 39))
  rw [← hL]
  obtain ⟨W1, hW1⟩ : ∃ W1, W1 = W0.alloc (.cells (L.flatMap encTale).toArray 39) := ⟨_, rfl⟩
  have X01 : Hid (Ext W0 W1) := Lib.hid (by rw [hW1]; exact (Below.refl _ W0).alloc (Nat.le_refl _) _)
  have XW := Lib.hid (Ext.trans (Ext.trans X2.out XA.out) X01.out)
  have L8 : Hid (L.length = 8) := Lib.hid (by rw [hL]; rfl)
  have RL : Hid (Rows 18 encTale W1.heap.size W1 (some ⟨W0.heap.size, 0, none⟩) L) := Lib.hid (by rw [hW1]; exact rows_blk (enc := encTale) (sz := 18) (fun _ => rfl) (Blk.new W0 _ 39) (by rw [L8.out]; omega))
  have ZA1 := Lib.hid (fun W (hW : Ext W1 W) => ZZ1.out W (Ext.trans Y2.out (Ext.trans XA.out (Ext.trans X01.out hW)))); have ZA2 := Lib.hid (fun W (hW : Ext W1 W) => ZZ2.out W (Ext.trans XA.out (Ext.trans X01.out hW)))
  have FL : Hid (∀ z ∈ L, FitT W1 z) := Lib.hid (fun z hz => by
    rw [hL] at hz
    simp only [List.mem_cons, List.not_mem_nil, or_false] at hz
    rcases hz with rfl | rfl | rfl | rfl | rfl | rfl | rfl | rfl
    · exact tl_fit (o := o1) (c := c1) (r := r1) (s := s1) FS1.out ⟨by omega, by omega⟩ ⟨by omega, by omega⟩ ZA1.out (.inr ⟨rfl, rfl⟩) (.inl rfl)
    · exact tl_fit (o := o2) (c := c2) (r := r2) (s := s2) FS2.out ⟨by omega, by omega⟩ ⟨by omega, by omega⟩ ZA2.out (.inr ⟨rfl, rfl⟩) (.inl rfl)
    · exact tl_fit (o := o1) (c := c1) (r := r1) (s := s1) FS1.out ⟨by omega, by omega⟩ ⟨by omega, by omega⟩ ZA1.out (.inl rfl) (.inl rfl)
    · exact tl_fit (o := o1) (c := c1) (r := r1) (s := s1) FS1.out ⟨by omega, by omega⟩ ⟨by omega, by omega⟩ ZA1.out (.inl rfl) (.inl rfl)
    · exact tl_fit (o := o2) (c := c2) (r := r2) (s := s2) FS2.out ⟨by omega, by omega⟩ ⟨by omega, by omega⟩ ZA2.out (.inl rfl) (.inr ⟨rfl, rfl⟩)
    · exact tl_fit (o := o2) (c := c2) (r := r2) (s := s2) FS2.out ⟨by omega, by omega⟩ ⟨by omega, by omega⟩ ZA2.out (.inl rfl) (.inr ⟨rfl, rfl⟩)
    · exact tl_fit (o := o2) (c := c2) (r := r2) (s := s2) FS2.out ⟨by omega, by omega⟩ ⟨by omega, by omega⟩ ZA2.out (.inl rfl) (.inr ⟨rfl, rfl⟩)
    · exact tl_fit (o := o1) (c := c1) (r := r1) (s := s1) FS1.out ⟨by omega, by omega⟩ ⟨by omega, by omega⟩ ZA1.out (.inl rfl) (.inl rfl)
    )
  have BB := Lib.hid (fun W (hW : Ext W1 W) => B2.out.ext' (Ext.trans X01.out hW))
  have ASK := Lib.hid (fun W (hx : Ext W1 W) (so : Option Addr) (c : Nat) (m : List TaleZ) (hl : m.length ≤ 60) (hr : Rows 18 encTale W.heap.size W so m) (hf : ∀ z ∈ m, FitT W1 z) => ask_calls (c := c) HLV.out XW.out hx hl hr hf)
  have AW := Lib.hid (fun W (hW : Ext W1 W) => awake_calls W ((HLV.out.below (Ext.trans XW.out hW)).up (Ext.trans XW.out hW).size))
  have LVX := Lib.hid (fun W (hW : Ext W1 W) => (HLV.out.below (Ext.trans XW.out hW)).up (Ext.trans XW.out hW).size)
  obtain ⟨lb, hlb⟩ : ∃ lb, lb = W0.heap.size := ⟨_, rfl⟩
  obtain ⟨pb, hpb⟩ : ∃ pb, pb = w2.heap.size + 1 := ⟨_, rfl⟩
  rw [← hpb] at BB
  rw [← hlb] at RL
  rw [← hW1, ← hlb, ← hpb]
  clear hL hW1 hlb hpb
  go_wp2_with fail
  go_loopw [4] (fun i wr => ∃ j : Nat, j ≤ 8 ∧ i = .int .i64 j ∧ Hid (Ext W1 wr)) (fun i _ => 8 - (intOf i).toNat)
  case atStart => exact ⟨0, by omega, rfl, Lib.hid (Below.refl _ _)⟩
  case round =>
    obtain ⟨i, hi, rfl, XI⟩ := hrel
    by_cases hlt : i < 8
    · obtain ⟨z, hz⟩ : ∃ z, L[i]? = some z := ⟨_, List.getElem?_eq_getElem (by rw [L8.out]; omega)⟩
      have HZ := Lib.hid hz
      have HI := Lib.hid hlt
      have g0 : decide ((i : Int) < 8) = true := decide_eq_true (by omega)
      clear hz
      go_wp2_with fail
      go_loopw [5] (fun i wr => ∃ j : Nat, j ≤ 9 ∧ i = .int .i64 j ∧ Hid (Ext W1 wr)) (fun i _ => 9 - (intOf i).toNat)
      case atStart => exact ⟨0, by omega, rfl, XI⟩
      case round =>
        clear XI
        obtain ⟨k, hk, rfl, XK⟩ := hrel
        by_cases hlk : k < 9
        · obtain ⟨wk, hwk⟩ : ∃ wk, wk = wr := ⟨_, rfl⟩
          rw [← hwk] at XK ⊢
          clear hwk
          have hk8 : k ≤ 8 := by omega
          go_upto_region 9 with fail
          refine tr9_wp (fun _ _ _ _ h => h) (L := L) (off := 0) (m := L.take i ++ L.drop (i + 1)) L8.out HI.out ((RL.out.ext XK.out).mono XK.out.size) rfl ?_
          intro g61 g62 g63 g64 g65 g66 g67 g68 g69 g70 xo xc wa hxc hxr hxa
          obtain ⟨xl, hxl⟩ : ∃ xl, xl = L.take i ++ L.drop (i + 1) := ⟨_, rfl⟩
          rw [← hxl] at hxc hxr ⊢
          have XLN : Hid (xl.length = 7) := Lib.hid (by rw [hxl, List.length_append, List.length_take, List.length_drop, L8.out]; have := HI.out; omega)
          have FX : Hid (∀ z ∈ xl, FitT W1 z) := Lib.hid (fun z hz => by
            rw [hxl] at hz
            rcases List.mem_append.1 hz with h | h
            · exact FL.out z (List.mem_of_mem_take h)
            · exact FL.out z (List.mem_of_mem_drop h))
          have XXC := Lib.hid hxc; have XXR := Lib.hid hxr; have Xa := Lib.hid (Ext.trans XK.out hxa)
          clear hxc hxr hxa hxl
          go_upto_region 10 with fail
          obtain ⟨t, ht⟩ : ∃ t, t = min k xl.length := ⟨_, rfl⟩
          refine tr10_wp (fun _ _ _ _ h => h) (L := L) (off := 0) (z := z) (m := xl.take t ++ [z] ++ xl.drop t) L8.out HI.out ((RL.out.ext Xa.out).mono Xa.out.size) HZ.out (by have := XLN.out; omega) XXC.out XXR.out ht hk8 rfl ?_
          intro g71 g72 g73 g74 g75 g76 g77 g78 g79 g80 g81 g82 g83 g84 g85 g86 g87 g88 g89 g90 g91 yo yc wb hyc hyr hxb
          obtain ⟨yl, hyl⟩ : ∃ yl, yl = xl.take t ++ [z] ++ xl.drop t := ⟨_, rfl⟩
          rw [← hyl] at hyc hyr ⊢
          have YLN : Hid (yl.length = 8) := Lib.hid (by rw [hyl, List.length_append, List.length_append, List.length_take, List.length_drop, List.length_singleton, XLN.out]; have := XLN.out; omega)
          have FY : Hid (∀ y ∈ yl, FitT W1 y) := Lib.hid (fun y hy => by
            rw [hyl] at hy
            rcases List.mem_append.1 hy with h | h
            · rcases List.mem_append.1 h with h | h
              · exact FX.out y (List.mem_of_mem_take h)
              · rw [List.mem_singleton] at h; rw [h]; exact FL.out z (List.mem_of_getElem? HZ.out)
            · exact FX.out y (List.mem_of_mem_drop h))
          have YYR := Lib.hid hyr; have Xb := Lib.hid (Ext.trans Xa.out hxb); have XXB := Lib.hid ((XXR.out.ext hxb).mono hxb.size)
          clear hyc hyr hxb hyl ht
          go_upto_region 11 with fail
          refine tr11_wp (fun _ _ _ _ h => h) (L := L) (off := 0) (z := z) (m := L ++ [z]) L8.out HI.out ((RL.out.ext Xb.out).mono Xb.out.size) HZ.out rfl ?_
          intro g92 g93 g94 g95 g96 g97 g98 g99 g100 zo zc wc hzc hzr hxc
          obtain ⟨zl, hzl⟩ : ∃ zl, zl = L ++ [z] := ⟨_, rfl⟩
          rw [← hzl] at hzc hzr ⊢
          have ZLN : Hid (zl.length = 9) := Lib.hid (by rw [hzl, List.length_append, L8.out]; rfl)
          have FZ : Hid (∀ y ∈ zl, FitT W1 y) := Lib.hid (fun y hy => by
            rw [hzl] at hy
            rcases List.mem_append.1 hy with h | h
            · exact FL.out y h
            · rw [List.mem_singleton] at h; rw [h]; exact FL.out z (List.mem_of_getElem? HZ.out))
          have ZZR := Lib.hid hzr; have Xc := Lib.hid (Ext.trans Xb.out hxc); have XXC2 := Lib.hid ((XXB.out.ext hxc).mono hxc.size); have YYC := Lib.hid ((YYR.out.ext hxc).mono hxc.size)
          clear hzc hzr hxc hzl
          go_wp2_with fail
          refine turns_wp (yl := yl) (zb := ⟨d2, o2, c2, r2, s2⟩) ⟨YYC.out, fun y hy => (FY.out y hy).here wc Xc.out⟩ (by have := YLN.out; omega) (by have := YLN.out; omega) hk8 (fun y hy => (FY.out y hy).small) (fun y hy => (FY.out y hy).ok) (BB.out wc Xc.out) FS2.out.cl FS2.out.nm (LVX.out wc Xc.out) ?_
          intro g0 g9 g10 g11 g101 g102 g103 g104 g105 g106 g107 g108 g109 g110 g111 g112 g113 g114 g115 g116 g117 g118 g119 g120 g121 g122 g123 g124 g125 g126 g127 g128 g129 g130 g131 g132 g133 g134 g135 g136 g137 g138 g139 g140 g141 g142 g143 g144 g145 g146 g147 g148 g149 g150 g151 g152 g153 g154 g155 wd hxd
          have Xd := Lib.hid (Ext.trans Xc.out hxd)
          have CX := Lib.hid (ASK.out wd Xd.out xo xc xl (by have := XLN.out; omega) ((XXC2.out.ext hxd).mono hxd.size) FX.out)
          have CZ := Lib.hid (fun W (hW : Ext wd W) => ASK.out W (Ext.trans Xd.out hW) zo zc zl (by have := ZLN.out; omega) ((ZZR.out.ext (Ext.trans hxd hW)).mono (Ext.trans hxd hW).size) FZ.out)
          clear hxd
          go_wp2_with fail
          refine CX.out.mono ?_
          rintro e we ⟨rfl, hxe⟩
          have Xe := Lib.hid (Ext.trans Xd.out hxe); have Ye := Lib.hid hxe
          clear hxe CX
          go_wp2_with fail
          refine (CZ.out we Ye.out).mono ?_
          rintro e wf ⟨rfl, hxf⟩
          have Xf := Lib.hid (Ext.trans Xe.out hxf)
          clear hxf CZ
          go_wp2_with fail
          go_roundw
          case rel => exact ⟨k + 1, by omega, by go_num, Xf⟩
          case measure => simp [intOf]; omega
        · obtain rfl : k = 9 := by omega
          go_wp2_with fail
          go_roundw
          case rel => exact ⟨i + 1, by omega, by go_num, XK⟩
          case measure => simp [intOf]; omega
    · have CN := Lib.hid (ASK.out wr XI.out none 0 [] (by simp) (fun h => absurd rfl h) (fun z hz => by cases hz))
      simp only [List.length_nil] at CN
      go_wp2_with fail
      refine CN.out.mono ?_
      rintro e we ⟨rfl, hxe⟩
      have Xe := Lib.hid (Ext.trans XI.out hxe)
      clear hxe CN
      go_wp2_with fail
      refine (AW.out we Xe.out).mono ?_
      rintro e wf ⟨rfl, hxf⟩
      have Xf := Lib.hid (Ext.trans XW.out (Ext.trans Xe.out hxf))
      clear hxf
      go_wp2_with fail
      go_ret
      exact ⟨rfl, Xf.out⟩
end Go.Proofs.YtbnclifpdmpjnaaGreatDoor

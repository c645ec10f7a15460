/- What a history tells of its names, in memory: witness.read, its names, its tales. -/
import Derived.Test.YtbnclifpdmpjnaaGreatDoorZ08
import Derived.Test.YtbnclifpdmpjnaaGreatDoorZ17
import Derived.Test.YtbnclifpdmpjnaaGreatDoorZ19
import Derived.Deep.CutRange
import Derived.Deep.MidRow
import Derived.Deep.DeepCutAuto
import Derived.Test.YtbnclifpdmpjnaaGreatDoorZ07
namespace Go.Proofs.YtbnclifpdmpjnaaGreatDoor
open Go.RowKit
open Go.Maps (Keyed)
structure TaleZ where
  d : TaleD
  node : Int
  group : Int
  term : Int
  ao : Option Addr
  ac : Nat
  ro : Option Addr
  rc : Nat
  lo : ByteArray
  hi : ByteArray
  ep : Int
  st : Int
  sc : Int
  se : Int
  so : Option Addr
  sn : Nat
  sp : Nat
  co : Option Addr
  cn : Nat
  cp : Nat
def encTale (z : TaleZ) : List Value := [.int .u8 z.d.kind, .int .i64 z.node, .int .i64 z.group, .int .i64 z.term, .int .i64 z.d.index, .int .i64 z.d.cl, .int .i64 z.d.nm, .slice z.ao z.d.acts.length z.ac, .bool z.d.commit, .slice z.ro z.d.reads.length z.rc, .string z.lo, .string z.hi, .int .i64 z.ep, .int .u8 z.st, .int .i64 z.sc, .int .i64 z.se, .slice z.so z.sn z.sp, .slice z.co z.cn z.cp]
def TaleZ.at (B : Nat) (w : World) (z : TaleZ) : Prop := Rows 4 encAct B w z.ao z.d.acts ∧ Rows 3 encRd B w z.ro z.d.reads
theorem TaleZ.at.ext {B : Nat} {w w' : World} {z : TaleZ} (h : z.at B w) (hx : Below B w w') : z.at B w' := ⟨h.1.ext hx, h.2.ext hx⟩
theorem TaleZ.at.mono {B B' : Nat} {w : World} {z : TaleZ} (h : z.at B w) (hB : B ≤ B') : z.at B' w := ⟨h.1.mono hB, h.2.mono hB⟩
structure TaleD.ok (d : TaleD) : Prop where
  acts : ∀ a ∈ d.acts, a.ok
  an : d.acts.length ≤ 1000
  rn : d.reads.length ≤ 1000
  cl : i64B d.cl
  nm : i64B d.nm
  index : i64B d.index
  kind : 0 ≤ d.kind ∧ d.kind ≤ 255
theorem sizeTale : (Tryz.prog.info? 39).map (·.size) = some 18 := by kernel_rfl
structure KnZ where
  k : KnD
  ao : Option Addr
  ac : Nat
  ro : Option Addr
  rc : Nat
def encKn (z : KnZ) : List Value := [.int .i64 z.k.cl, .int .i64 z.k.nm, .int .i64 z.k.index, .bool z.k.decided, .bool z.k.commit, .slice z.ro z.k.reads.length z.rc, .slice z.ao z.k.acts.length z.ac, .int .i64 z.k.called, .int .i64 z.k.answered]
def KnZ.new (n : Int × Int) : KnZ := ⟨KnD.new n, none, 0, none, 0⟩
def KnZ.at (B : Nat) (w : World) (z : KnZ) : Prop := Rows 4 encAct B w z.ao z.k.acts ∧ Rows 3 encRd B w z.ro z.k.reads
theorem KnZ.at.ext {B : Nat} {w w' : World} {z : KnZ} (h : z.at B w) (hx : Below B w w') : z.at B w' := ⟨h.1.ext hx, h.2.ext hx⟩
def KnZ.tell (z : KnZ) (i : Nat) (x : TaleZ) : KnZ :=
  if x.d.kind = 1 then (if z.k.called = 0 then ⟨z.k.tell i x.d, x.ao, x.ac, z.ro, z.rc⟩ else z)
  else if x.d.kind = 2 then ⟨z.k.tell i x.d, z.ao, z.ac, z.ro, z.rc⟩
  else if x.d.kind = 6 then ⟨z.k.tell i x.d, z.ao, z.ac, x.ro, x.rc⟩ else z
theorem KnZ.tell_k (z : KnZ) (i : Nat) (x : TaleZ) : (z.tell i x).k = z.k.tell i x.d := by
  unfold KnZ.tell
  by_cases h1 : x.d.kind = 1
  · rw [if_pos h1]
    by_cases hc : z.k.called = 0
    · rw [if_pos hc]
    · rw [if_neg hc]; unfold KnD.tell; rw [if_pos h1, if_neg hc]
  · rw [if_neg h1]
    by_cases h2 : x.d.kind = 2
    · rw [if_pos h2]
    · rw [if_neg h2]
      by_cases h6 : x.d.kind = 6
      · rw [if_pos h6]
      · rw [if_neg h6]; exact (tell_else h1 h2 h6).symm
structure RdS where
  names : List (Int × Int)
  p : Int × Int → Nat
  kz : Int × Int → KnZ
  bad : Bool
structure ReadAt (B : Nat) (w : World) (rb mb : Nat) (v : Value) (r : RdS) : Prop where
  blk : Blk w rb [.map (some mb), v, .bool r.bad] 70
  ge : B ≤ rb
  map : ∃ val has, MapF Tryz.prog 26 w mb r.names.length (.pointer none) val has ∧ ∀ n : Int × Int, i64B n.1 → i64B n.2 → val (nameLit n) = if n ∈ r.names then pv (r.p n) else .pointer none
  mge : B ≤ mb
  row : w.ownsRow B 75 1 v r.names.length (r.names.map fun n => pv (r.p n))
  kn : ∀ n ∈ r.names, Blk w (r.p n) (encKn (r.kz n)) 77 ∧ B ≤ r.p n ∧ (r.kz n).at B w
  inj : ∀ n ∈ r.names, ∀ m ∈ r.names, r.p n = r.p m → n = m
  i64 : ∀ n ∈ r.names, i64B n.1 ∧ i64B n.2
  new : ∀ n, n ∉ r.names → r.kz n = KnZ.new n
variable {B rb mb : Nat} {w w' : World} {v : Value} {r : RdS}
theorem ReadAt.ext (R : ReadAt B w rb mb v r) (hx : Ext w w') (hB : B ≤ w.heap.size) : ReadAt B w' rb mb v r := by
  obtain ⟨val, has, h1, h2⟩ := R.map
  exact ⟨R.blk.ext' hx, R.ge, ⟨val, has, h1.ext hx, h2⟩, R.mge, own_ext R.row hx, fun n hn => ⟨(R.kn n hn).1.ext' hx, (R.kn n hn).2.1, (R.kn n hn).2.2.ext (hx.mono hB)⟩, R.inj, R.i64, R.new⟩
theorem ReadAt.look (R : ReadAt B w rb mb v r) {n : Int × Int} (hc : i64B n.1) (hn : i64B n.2) : ∀ W, Ext w W →
    (Instr.lookup 67 (.map (some mb)) (.agg #[.int .i64 n.1, .int .i64 n.2]) false).run Tryz.prog W = .ok (if n ∈ r.names then pv (r.p n) else .pointer none) W := fun W hW => by
  obtain ⟨val, has, h1, h2⟩ := R.map
  rw [← h2 n hc hn]
  exact (h1.ext hW).lookup nameKeyed Tryz.underlying67 (by kernel_rfl) (nameLit_key hc hn)
def OwnR (rb mb : Nat) (v : Value) (r : RdS) (j : Nat) : Prop := j = rb ∨ j = mb ∨ v.ownBlock = some j ∨ ∃ n ∈ r.names, j = r.p n
structure MovesR (rb mb : Nat) (v v' : Value) (r r' : RdS) (w w' : World) : Prop where
  but : But (OwnR rb mb v r) w w'
  own : ∀ j, OwnR rb mb v' r' j → OwnR rb mb v r j ∨ w.heap.size ≤ j
theorem MovesR.refl (rb mb : Nat) (v : Value) (r : RdS) (w : World) : MovesR rb mb v v r r w w := ⟨But.refl _ _, fun _ h => .inl h⟩
theorem MovesR.ext {v : Value} (h : Ext w w') : MovesR rb mb v v r r w w' := ⟨Ext.but h _, fun _ h => .inl h⟩
theorem MovesR.trans {v v' v'' : Value} {r r' r'' : RdS} {a b c : World} (h : MovesR rb mb v v' r r' a b) (k : MovesR rb mb v' v'' r' r'' b c) : MovesR rb mb v v'' r r'' a c := by
  have key : ∀ i, i < a.heap.size → OwnR rb mb v' r' i → OwnR rb mb v r i := fun i hi e => by
    rcases h.own i e with e | e
    · exact e
    · omega
  refine ⟨h.but.trans k.but (fun _ _ e => e) key, fun j e => ?_⟩
  rcases k.own j e with e | e
  · exact h.own j e
  · exact .inr (Nat.le_trans h.but.size e)
theorem ReadAt.own_ge (R : ReadAt B w rb mb v r) {j : Nat} (h : OwnR rb mb v r j) : B ≤ j := by
  rcases h with h | h | h | ⟨n, hn, h⟩
  · rw [h]; exact R.ge
  · rw [h]; exact R.mge
  · exact (R.row.lt j h).1
  · rw [h]; exact (R.kn n hn).2.1
theorem ReadAt.own_lt (R : ReadAt B w rb mb v r) {j : Nat} (h : OwnR rb mb v r j) : j < w.heap.size := by
  rcases h with h | h | h | ⟨n, hn, h⟩
  · rw [h]; exact R.blk.lt
  · obtain ⟨_, _, h1, _⟩ := R.map
    rw [h]; exact h1.lt
  · exact (R.row.lt j h).2
  · rw [h]; exact (R.kn n hn).1.lt
def NameDone (B rb mb : Nat) (n : Int × Int) (v : Value) (r : RdS) (w : World) (e : Ending) (w' : World) : Prop :=
  ∃ v' r', e = .returned (.pointer (some ⟨r'.p n, 0, none⟩)) ∧ ReadAt B w' rb mb v' r' ∧ r'.names = (if n ∈ r.names then r.names else r.names ++ [n]) ∧ r'.kz = r.kz ∧ r'.bad = r.bad ∧ MovesR rb mb v v' r r' w w'
theorem infoPtr : (Tryz.prog.info? 75).map (fun i => (i.zero, i.size, i.bytes)) = some (some (.pointer none), 1, 8) := by kernel_rfl
set_option maxRecDepth 100000 in
set_option maxHeartbeats 3200000 in
theorem nameOld_calls (n : Int × Int) (R : ReadAt B w rb mb v r) (hB : B ≤ w.heap.size) (hc : i64B n.1) (hn : i64B n.2) (hin : n ∈ r.names) :
    Calls Tryz.prog 45 #[.pointer (some ⟨rb, 0, none⟩), .agg #[.int .i64 n.1, .int .i64 n.2]] w (NameDone B rb mb n v r w) := by
  obtain ⟨c, m⟩ := n
  have HR := Lib.hid R; have HIN := Lib.hid hin; have HB := Lib.hid hB
  obtain ⟨W, hW⟩ : ∃ W, W = w.alloc (.cells #[.int .i64 c, .int .i64 m] 26) := ⟨_, rfl⟩
  have XW : Hid (Ext w W) := Lib.hid (by rw [hW]; exact (Below.refl _ w).alloc (Nat.le_refl _) _)
  have BW : Hid (Blk W w.heap.size [.int .i64 c, .int .i64 m] 26) := Lib.hid (by rw [hW]; exact Blk.new w _ _)
  have hlk := R.look (n := (c, m)) hc hn
  rw [if_pos hin] at hlk
  have hlk2 : ∀ p : ExtBy W, (Instr.lookup 67 (.map (some mb)) (.agg #[.int .i64 c, .int .i64 m]) false).run Tryz.prog p.W = .ok (.pointer (some ⟨r.p (c, m), 0, none⟩)) p.W := fun p => hlk p.W (Ext.trans XW.out p.ext)
  have c0 := ExtBy.cell (show W.cell? ⟨rb, 0, none⟩ = some (.map (some mb)) from (R.blk.ext' XW.out).cell 0)
  have d0 := ExtBy.cell (show W.cell? ⟨w.heap.size, 0, none⟩ = some (.int .i64 c) from BW.out.cell 0); have d1 := ExtBy.cell (show W.cell? ⟨w.heap.size, 1, none⟩ = some (.int .i64 m) from BW.out.cell 1)
  have HW := Lib.hid hW
  clear hlk R hin hB hW
  simp only
  go_enter Tryz.func45, Tryz.ntmps45
  go_wp2_with fail
  rw [← HW.out]
  refine wp_region_ext (by kernel_rfl) (by kernel_rfl) ?_
  repeat (go_big_quiet_step (fail))
  refine wpQuiet_nil ?_
  intro wc hw'
  have XC : Hid (Ext w wc) := Lib.hid (Ext.trans XW.out (by obtain ⟨p, rfl⟩ := hw'; exact p.ext))
  clear hw' hlk2 c0 d0 d1
  go_wp2_with fail
  go_ret
  exact ⟨v, r, rfl, HR.out.ext XC.out HB.out, by rw [if_pos HIN.out], rfl, rfl, MovesR.ext XC.out⟩
theorem KnZ.new_at (B : Nat) (w : World) (n : Int × Int) : (KnZ.new n).at B w := ⟨Rows.nil _ _ _ _ _, Rows.nil _ _ _ _ _⟩
def RdS.add (r : RdS) (n : Int × Int) (b : Nat) : RdS := ⟨r.names ++ [n], fun m => if m = n then b else r.p m, r.kz, r.bad⟩
theorem ReadAt.ne_map (R : ReadAt B w rb mb v r) : rb ≠ mb ∧ v.ownBlock ≠ some mb ∧ ∀ n ∈ r.names, r.p n ≠ mb := by
  obtain ⟨val, has, h1, _⟩ := R.map
  exact ⟨R.blk.noCells h1.noCells, own_noCells R.row h1.noCells, fun n hn => (R.kn n hn).1.noCells h1.noCells⟩
theorem ReadAt.ne_row (R : ReadAt B w rb mb v r) : v.ownBlock ≠ some rb ∧ ∀ n ∈ r.names, v.ownBlock ≠ some (r.p n) ∧ r.p n ≠ rb :=
  ⟨own_ne R.row R.blk (by decide), fun n hn => ⟨own_ne R.row (R.kn n hn).1 (by decide), fun e => by
    have h1 := R.blk; have h2 := (R.kn n hn).1
    rw [e] at h2; unfold Blk at h1 h2; rw [h1] at h2
    simp [encKn] at h2⟩⟩
theorem name_added {c m : Int} {ao : Option Addr} {cap g5 cap5 : Nat} {wc wk w4 w6 : World} {val : Lit → Value} {has : Lit → Bool} (R : ReadAt B w rb mb (.slice ao r.names.length cap) r) (hB : B ≤ w.heap.size) (hin : (c, m) ∉ r.names) (hc : i64B c) (hm : i64B m)
    (XC : Ext w wc) (XK : Ext wc wk) (BK : Blk wk wc.heap.size (encKn (KnZ.new (c, m))) 77) (RK : ReadAt B wk rb mb (.slice ao r.names.length cap) r)
    (HM : MapF Tryz.prog 26 w4 mb (r.names.length + 1) (.pointer none) (fun x => if x = nameLit (c, m) then .pointer (some ⟨wc.heap.size, 0, none⟩) else val x) (fun x => decide (x = nameLit (c, m)) || has x))
    (H2 : ∀ n : Int × Int, i64B n.1 → i64B n.2 → val (nameLit n) = if n ∈ r.names then pv (r.p n) else .pointer none) (B4 : But (fun j => j = mb) wk w4)
    (EN : Ext w4 (w4.alloc (.cells #[.pointer (some ⟨wc.heap.size, 0, none⟩)] 75))) (HB6 : Blk w6 rb [.map (some mb), .slice ao r.names.length cap, .bool r.bad] 70)
    (Y1 : w6.ownsRow 0 75 1 (.slice (some ⟨g5, 0, none⟩) (r.names.length + 1) cap5) (r.names.length + 1) ((r.names.map fun n => pv (r.p n)) ++ [.pointer (some ⟨wc.heap.size, 0, none⟩)]))
    (Y2 : But (fun k => (Value.slice ao r.names.length cap).ownBlock = some k) (w4.alloc (.cells #[.pointer (some ⟨wc.heap.size, 0, none⟩)] 75)) w6)
    (Y3 : Kept1 (w4.alloc (.cells #[.pointer (some ⟨wc.heap.size, 0, none⟩)] 75)) (.slice ao r.names.length cap) (.slice (some ⟨g5, 0, none⟩) (r.names.length + 1) cap5)) :
    NameDone B rb mb (c, m) (.slice ao r.names.length cap) r w (.returned (.pointer (some ⟨wc.heap.size, 0, none⟩))) (w6.setCell ⟨rb, 1, none⟩ (.slice (some ⟨g5, 0, none⟩) (r.names.length + 1) cap5)) := by
  have NM := RK.ne_map; have NR := RK.ne_row
  have hpl : rb < w.heap.size := R.blk.lt
  have h1 := XC.size; have h2 := XK.size; have h3 := B4.size; have h4 := EN.size; have h5 := Y2.size
  have hp0 : ∀ n ∈ r.names, r.p n < w.heap.size := fun n hn => (R.kn n hn).1.lt
  have hkl := BK.lt
  obtain ⟨_, _, hmf, _⟩ := R.map
  have hml := hmf.lt
  have hvl : ∀ j, (Value.slice ao r.names.length cap).ownBlock = some j → j < w.heap.size := fun j e => (R.row.lt j e).2
  have hp' : ∀ n ∈ r.names, (r.add (c, m) wc.heap.size).p n = r.p n := fun n hn => by
    show (if n = (c, m) then _ else r.p n) = _
    rw [if_neg (fun e => hin (by rw [← e]; exact hn))]
  have hpn : (r.add (c, m) wc.heap.size).p (c, m) = wc.heap.size := if_pos rfl
  have hg5 : ∀ j, (Value.slice (some ⟨g5, 0, none⟩) (r.names.length + 1) cap5).ownBlock = some j → (Value.slice ao r.names.length cap).ownBlock = some j ∨ wk.heap.size ≤ j := fun j e => by
    rcases Y3 j e with e | e
    · exact .inl e
    · simp only [World.size_alloc] at e; exact .inr (by omega)
  -- what stays
  have T : But (fun j => j = mb ∨ (Value.slice ao r.names.length cap).ownBlock = some j ∨ j = rb) wk (w6.setCell ⟨rb, 1, none⟩ (.slice (some ⟨g5, 0, none⟩) (r.names.length + 1) cap5)) :=
    (((B4.mono (T := fun j => j = mb ∨ (Value.slice ao r.names.length cap).ownBlock = some j ∨ j = rb) (fun _ _ e => .inl e)).trans (Ext.but EN (fun _ => False)) (fun _ _ e => e) (fun _ _ e => e.elim)).trans Y2 (fun _ _ e => e) (fun _ _ e => .inr (.inl e))).setCell (fun _ => .inr (.inr rfl)) _
  have hkb : ∀ {b : Nat} {cs : List Value}, Blk wk b cs 77 → b ≠ rb → b ≠ mb → Blk (w6.setCell ⟨rb, 1, none⟩ (.slice (some ⟨g5, 0, none⟩) (r.names.length + 1) cap5)) b cs 77 := fun hb h1 h2 =>
    hb.but T (fun e => by
      rcases e with e | e | e
      · exact h2 e
      · exact own_ne RK.row hb (by decide) e
      · exact h1 e)
  refine ⟨_, r.add (c, m) wc.heap.size, by rw [hpn], ⟨HB6.set 1 _, R.ge, ?_, R.mge, ?_, ?_, ?_, ?_, ?_⟩, by rw [if_neg hin]; rfl, rfl, rfl, ⟨?_, ?_⟩⟩
  · rw [show (r.add (c, m) wc.heap.size).names.length = r.names.length + 1 from by simp [RdS.add]]
    refine ⟨_, _, ((HM.ext EN).same (w' := w6) (Y2.block mb (by omega) NM.2.1)).same ?_, fun n hc' hn' => ?_⟩
    · exact heap_setCell_other _ _ _ _ (fun e => NM.1 e.symm)
    · by_cases e : n = (c, m)
      · subst e
        rw [if_pos rfl, if_pos (by simp [RdS.add]), hpn]; rfl
      · rw [if_neg (fun e2 => e (nameLit_inj hc' hn' hc hm e2)), H2 n hc' hn']
        by_cases hn2 : n ∈ r.names
        · rw [if_pos hn2, if_pos (by simp [RdS.add, hn2]), hp' n hn2]
        · rw [if_neg hn2, if_neg (by simp [RdS.add, hn2, e])]
  · have hl : (r.add (c, m) wc.heap.size).names.length = r.names.length + 1 := by simp [RdS.add]
    have hm2 : ((r.add (c, m) wc.heap.size).names.map fun n => pv ((r.add (c, m) wc.heap.size).p n)) = (r.names.map fun n => pv (r.p n)) ++ [.pointer (some ⟨wc.heap.size, 0, none⟩)] := by
      show (r.names ++ [(c, m)]).map _ = _
      rw [List.map_append, List.map_cons, List.map_nil, hpn]
      congr 1
      exact List.map_congr_left fun n hn => by rw [hp' n hn]
    rw [hl, hm2]
    refine own_setOther (own_base Y1 fun k hk => ?_) (fun e => ?_) _
    · rcases hg5 k hk with e | e
      · exact (R.row.lt k e).1
      · omega
    · rcases hg5 _ e with e | e
      · exact NR.1 e
      · simp only at e; omega
  · intro n hn
    rcases List.mem_append.1 hn with h | h
    · rw [hp' n h]
      refine ⟨hkb (RK.kn n h).1 (NR.2 n h).2 (NM.2.2 n h), (R.kn n h).2.1, (RK.kn n h).2.2.ext ?_⟩
      exact T.below (by omega) (fun i e => by
        rcases e with e | e | e
        · rw [e]; exact R.mge
        · exact (R.row.lt i e).1
        · rw [e]; exact R.ge)
    · rw [List.mem_singleton] at h
      subst h
      rw [hpn]
      have e : (r.add (c, m) wc.heap.size).kz (c, m) = KnZ.new (c, m) := R.new _ hin
      rw [e]
      exact ⟨hkb BK (by omega) (by omega), by omega, KnZ.new_at _ _ _⟩
  · intro n hn k hk e
    rcases List.mem_append.1 hn with h | h <;> rcases List.mem_append.1 hk with h' | h'
    · rw [hp' n h, hp' k h'] at e; exact R.inj n h k h' e
    · rw [List.mem_singleton] at h'; subst h'
      rw [hp' n h, hpn] at e
      have := hp0 n h; omega
    · rw [List.mem_singleton] at h; subst h
      rw [hp' k h', hpn] at e
      have := hp0 k h'; omega
    · rw [List.mem_singleton] at h h'; rw [h, h']
  · intro n hn
    rcases List.mem_append.1 hn with h | h
    · exact R.i64 n h
    · rw [List.mem_singleton] at h; subst h; exact ⟨hc, hm⟩
  · intro n hn
    exact R.new n (fun h => hn (List.mem_append.2 (.inl h)))
  · exact ((Ext.but (Ext.trans XC XK) (fun _ => False)).trans T (fun _ _ e => e.elim) (fun i _ e => by
      rcases e with e | e | e
      · exact .inr (.inl e)
      · exact .inr (.inr (.inl e))
      · exact .inl e))
  · intro j e
    rcases e with e | e | e | ⟨n, hn, e⟩
    · exact .inl (.inl e)
    · exact .inl (.inr (.inl e))
    · rcases hg5 j e with e | e
      · exact .inl (.inr (.inr (.inl e)))
      · exact .inr (by omega)
    · rcases List.mem_append.1 hn with h | h
      · rw [hp' n h] at e; exact .inl (.inr (.inr (.inr ⟨n, h, e⟩)))
      · rw [List.mem_singleton] at h; subst h
        rw [hpn] at e; exact .inr (by omega)
set_option maxRecDepth 100000 in
set_option maxHeartbeats 3200000 in
theorem nameNew_calls (n : Int × Int) (R : ReadAt B w rb mb v r) (hB : B ≤ w.heap.size) (hc : i64B n.1) (hn : i64B n.2) (hin : n ∉ r.names) (hfew : r.names.length ≤ 100) :
    Calls Tryz.prog 45 #[.pointer (some ⟨rb, 0, none⟩), .agg #[.int .i64 n.1, .int .i64 n.2]] w (NameDone B rb mb n v r w) := by
  obtain ⟨i0, hi, hz0, hz1, hz2⟩ := info_parts infoPtr
  obtain ⟨c, m⟩ := n
  have HR := Lib.hid R; have HIN := Lib.hid hin; have HB := Lib.hid hB
  obtain ⟨W, hW⟩ : ∃ W, W = w.alloc (.cells #[.int .i64 c, .int .i64 m] 26) := ⟨_, rfl⟩
  have XW : Hid (Ext w W) := Lib.hid (by rw [hW]; exact (Below.refl _ w).alloc (Nat.le_refl _) _)
  have BW : Hid (Blk W w.heap.size [.int .i64 c, .int .i64 m] 26) := Lib.hid (by rw [hW]; exact Blk.new w _ _)
  have hlk := R.look (n := (c, m)) hc hn
  rw [if_neg hin] at hlk
  have hlk2 : ∀ p : ExtBy W, (Instr.lookup 67 (.map (some mb)) (.agg #[.int .i64 c, .int .i64 m]) false).run Tryz.prog p.W = .ok (.pointer none) p.W := fun p => hlk p.W (Ext.trans XW.out p.ext)
  have c0 := ExtBy.cell (show W.cell? ⟨rb, 0, none⟩ = some (.map (some mb)) from (R.blk.ext' XW.out).cell 0)
  have d0 := ExtBy.cell (show W.cell? ⟨w.heap.size, 0, none⟩ = some (.int .i64 c) from BW.out.cell 0); have d1 := ExtBy.cell (show W.cell? ⟨w.heap.size, 1, none⟩ = some (.int .i64 m) from BW.out.cell 1)
  have HW := Lib.hid hW
  clear hlk R hin hB hW
  simp only
  go_enter Tryz.func45, Tryz.ntmps45
  go_wp2_with fail
  rw [← HW.out]
  refine wp_region_ext (by kernel_rfl) (by kernel_rfl) ?_
  repeat (go_big_quiet_step (fail))
  refine wpQuiet_nil ?_
  intro wc hw'
  have XC : Hid (Ext w wc) := Lib.hid (Ext.trans XW.out (by obtain ⟨p, rfl⟩ := hw'; exact p.ext))
  have BC : Hid (Blk wc w.heap.size [.int .i64 c, .int .i64 m] 26) := Lib.hid (BW.out.ext' (by obtain ⟨p, rfl⟩ := hw'; exact p.ext))
  clear hw' hlk2 c0 d0 d1
  have d0 := BC.out.cell 0; have d1 := BC.out.cell 1
  simp only [List.getElem?_cons_zero, List.getElem?_cons_succ] at d0 d1
  obtain ⟨wk, hwk⟩ : ∃ wk, wk = wc.alloc (.cells #[.int .i64 c, .int .i64 m, .int .i64 0, .bool false, .bool false, .slice none 0 0, .slice none 0 0, .int .i64 0, .int .i64 0] 77) := ⟨_, rfl⟩
  have XK : Hid (Ext wc wk) := Lib.hid (by rw [hwk]; exact (Below.refl _ wc).alloc (Nat.le_refl _) _)
  have BK : Hid (Blk wk wc.heap.size (encKn (KnZ.new (c, m))) 77) := Lib.hid (by rw [hwk]; exact Blk.new wc _ _)
  have HWK := Lib.hid hwk
  have RK := Lib.hid (HR.out.ext (Ext.trans XC.out XK.out) HB.out)
  have hckey := Lib.hid (nameLit_key hc hn)
  clear hwk
  go_upto_region 4 with fail
  rw [← HWK.out]
  obtain ⟨ao, cap, rfl⟩ : ∃ ao cap, v = .slice ao r.names.length cap := by
    rcases own_cases RK.out.row with ⟨rfl, h0⟩ | ⟨g, cap, hv, _⟩
    · exact ⟨none, 0, by rw [h0]⟩
    · exact ⟨_, _, hv⟩
  obtain ⟨N1, hN1⟩ : ∃ N1, N1 = r.names.length := ⟨_, rfl⟩
  obtain ⟨val, has, h1, h2⟩ := RK.out.map
  have hxd : Ext wk wk.drew := (Below.refl _ wk).drew
  obtain ⟨w4, hrun, hmap, hg⟩ := (h1.ext hxd).update (e := 75) nameKeyed Tryz.underlying67 (by unfold maxLen; omega) (v := .pointer (some ⟨wc.heap.size, 0, none⟩)) hckey.out
  have b4 : But (fun j => j = mb) wk w4 := ((But.refl (fun j => j = mb) wk).drew).trans ((But.of_grown hg).mono fun i _ e => (Option.some.inj e).symm) (fun _ _ e => e) (fun _ _ e => e)
  have NM := Lib.hid RK.out.ne_map; have NR := Lib.hid RK.out.ne_row
  have HM := Lib.hid hmap; have H2 := Lib.hid h2; have B4 := Lib.hid b4; have MNC := Lib.hid h1.noCells
  have hbk := RK.out.blk; have hbc := BC.out.ext' XK.out
  have c0 := hbk.cell 0
  have d2 := hbc.cell 0; have d3 := hbc.cell 1
  simp only [List.getElem?_cons_zero, List.getElem?_cons_succ] at c0 d2 d3
  clear hmap h2 h1 b4 hg d0 d1 hxd
  go_wp2_with fail
  go_still_tail 6, (by kernel_rfl)
  change wpList _ _ _ _ _ wk.drew
  have hb4 := hbk.but B4.out NM.out.1
  have c1 := hb4.cell 1; have f1 := hb4.free 1
  simp only [List.getElem?_cons_zero, List.getElem?_cons_succ] at c1
  have HB4 := Lib.hid hb4
  have OW := Lib.hid (own_but RK.out.row B4.out (fun k hk e => NM.out.2.1 (by rw [hk, show k = mb from e])))
  have CN := Lib.hid (cells_new w4 [.pointer (some ⟨wc.heap.size, 0, none⟩)] 75)
  have EN : Hid (Ext w4 (w4.alloc (.cells #[.pointer (some ⟨wc.heap.size, 0, none⟩)] 75))) := Lib.hid ((Below.refl _ w4).alloc (Nat.le_refl _) _)
  clear hbk hbc d2 d3 c0 hb4
  go_wp2_with (at_builtin; refine wpList_append_at _ rfl (.tmp 27) (.tmp 29) 68 rfl 75 i0 _ 1 8 Tryz.underlying68 hi hz0 hz1 hz2 rfl (by decide) _ r.names.length (r.names.map fun n => pv (r.p n)) rfl (own_base (own_ext OW.out EN.out) (fun _ _ => Nat.zero_le _)) ⟨w4.heap.size, 0, none⟩ 1 1 [.pointer (some ⟨wc.heap.size, 0, none⟩)] rfl rfl CN.out (by intro u hu; rw [List.mem_singleton] at hu; subst hu; rfl) (by decide) (by unfold maxLen; omega) (by omega) ?_; intro g5 cap5 w6 hown' hbut hkept; have hb6 := (Blk.alloc HB4.out _).but hbut NR.out.1; have c6 := hb6.cell 1; have f6 := hb6.free 1; simp only [List.getElem?_cons_zero, List.getElem?_cons_succ] at c6; have HB6 := Lib.hid hb6; have Y1 := Lib.hid hown'; have Y2 := Lib.hid hbut; have Y3 := Lib.hid hkept; clear hown' hbut hkept hb6 c1 f1 hrun)
  go_ret
  exact name_added HR.out HB.out HIN.out hc hn XC.out XK.out BK.out RK.out HM.out H2.out B4.out EN.out HB6.out Y1.out Y2.out Y3.out
end Go.Proofs.YtbnclifpdmpjnaaGreatDoor
/- The document's reading of a history: first, index, replied. -/
namespace Go.Proofs.YtbnclifpdmpjnaaGreatDoor
open Go.RowKit
def TalesAt (w : World) (ao : Option Addr) (l : List TaleZ) : Prop := Rows 18 encTale w.heap.size w ao l ∧ ∀ z ∈ l, z.at w.heap.size w
theorem TalesAt.ext {w w' : World} {ao : Option Addr} {l : List TaleZ} (h : TalesAt w ao l) (hx : Ext w w') : TalesAt w' ao l := ⟨(h.1.ext hx).mono hx.size, fun z hz => ((h.2 z hz).ext hx).mono hx.size⟩
def posT (o : Option Nat) : Int := match o with
  | none => -1
  | some i => i
theorem first_none {D : List TaleD} {k : Int} {n : Int × Int} (h : ∀ x ∈ D, isT k n x = false) : firstT D k n = none := by
  unfold firstT
  exact List.findIdx?_eq_none_iff.2 h
theorem first_at {D : List TaleD} {k : Int} {n : Int × Int} {i : Nat} {x : TaleD} (hx : D[i]? = some x) (h : isT k n x = true) (hb : ∀ (j : Nat) (y : TaleD), j < i → D[j]? = some y → isT k n y = false) : firstT D k n = some i := by
  unfold firstT
  obtain ⟨hi, he⟩ := List.getElem?_eq_some_iff.1 hx
  rw [List.findIdx?_eq_some_iff_getElem]
  refine ⟨hi, by rw [he]; exact h, fun j hj => ?_⟩
  have := hb j _ hj (List.getElem?_eq_getElem (by omega))
  simp [this]
set_option maxRecDepth 100000 in
set_option maxHeartbeats 3200000 in
theorem refFirst_calls (l : List TaleZ) (ao : Option Addr) (cap : Nat) (k c m : Int) (w : World) (hl : l.length ≤ 1000) (hs : Rows 18 encTale w.heap.size w ao l) :
    Calls Tryz.prog 31 #[.slice ao l.length cap, .int .u8 k, .agg #[.int .i64 c, .int .i64 m]] w fun e w' => e = .returned (.int .i64 (posT (firstT (l.map (·.d)) k (c, m)))) ∧ Ext w w' := by
  have HS := Lib.hid hs
  obtain ⟨W, hW⟩ : ∃ W, W = w.alloc (.cells #[.int .i64 c, .int .i64 m] 26) := ⟨_, rfl⟩
  have XW : Hid (Ext w W) := Lib.hid (by rw [hW]; exact (Below.refl _ w).alloc (Nat.le_refl _) _)
  have BW : Hid (Blk W w.heap.size [.int .i64 c, .int .i64 m] 26) := Lib.hid (by rw [hW]; exact Blk.new w _ _)
  have HW := Lib.hid hW
  clear hs hW
  go_enter Tryz.func31, Tryz.ntmps31
  go_upto_region 1 with fail
  rw [← HW.out]
  go_wp2_with fail
  go_loopw [7] (fun i wr => ∃ j : Nat, j ≤ l.length ∧ i = .int .i64 j ∧ Hid (∀ (t : Nat) (y : TaleD), t < j → (l.map (·.d))[t]? = some y → isT k (c, m) y = false) ∧ Hid (Ext W wr)) (fun i _ => l.length - (intOf i).toNat)
  case atStart => exact ⟨0, by omega, rfl, Lib.hid (fun t y h => by omega), Lib.hid (Below.refl _ _)⟩
  case round =>
    obtain ⟨j, hj, rfl, A1, X1⟩ := hrel
    have XX := Lib.hid (Ext.trans XW.out X1.out)
    by_cases hlt : j < l.length
    · obtain ⟨z, hz⟩ : ∃ z, l[j]? = some z := ⟨_, List.getElem?_eq_getElem hlt⟩
      obtain ⟨b, off, rfl, hb, hcell⟩ := HS.out (by intro e; rw [e] at hlt; simp at hlt)
      have hcx := fun (t : Nat) (u : Value) (ht : (encTale z)[t]? = some u) => (XX.out.cell (p := ⟨b, _, none⟩) hb).trans (hcell j z hz t u ht)
      have HZ : Hid ((l.map (·.d))[j]? = some z.d) := Lib.hid (by rw [List.getElem?_map, hz]; rfl)
      have d0 := ExtBy.cell (show wr.cell? ⟨b, off + j * 18, none⟩ = some (.int .u8 z.d.kind) from hcx 0 _ rfl)
      have d5 := ExtBy.cell (show wr.cell? ⟨b, off + j * 18 + 5, none⟩ = some (.int .i64 z.d.cl) from hcx 5 _ rfl); have d6 := ExtBy.cell (show wr.cell? ⟨b, off + j * 18 + 6, none⟩ = some (.int .i64 z.d.nm) from hcx 6 _ rfl)
      have bw := BW.out.ext' X1.out
      have n0 := ExtBy.cell (show wr.cell? ⟨w.heap.size, 0, none⟩ = some (.int .i64 c) from bw.cell 0); have n1 := ExtBy.cell (show wr.cell? ⟨w.heap.size, 1, none⟩ = some (.int .i64 m) from bw.cell 1)
      obtain ⟨⟨kind, index, cl, nm, acts, commit, reads⟩, _⟩ := z
      simp only at d0 d5 d6 HZ
      obtain ⟨E, hE⟩ : ∃ E : Bool, (cl == c && nm == m) = E := ⟨_, rfl⟩
      have hEq : ∀ W, (binOp .eql 26 (.agg #[.int .i64 cl, .int .i64 nm]) (.agg #[.int .i64 c, .int .i64 m])).run Tryz.prog W = .ok (.bool E) W := fun W => by rw [eql_name, hE]
      have HE : Hid (decide ((cl, nm) = (c, m)) = E) := Lib.hid (by rw [← hE, Bool.eq_iff_iff]; simp [Prod.ext_iff])
      have i0 : (0 : Int) ≤ (j : Int) := by omega
      have i1 : (j : Int) < (l.length : Int) := by omega
      clear hz hcell hcx bw hE
      by_cases hk : kind = k
      · have g1 : (kind == k) = true := by simpa using hk
        have HK := Lib.hid hk
        clear hk
        cases E
        · go_wp2_with fail
          refine wp_region_ext (by kernel_rfl) (by kernel_rfl) ?_
          repeat (go_big_quiet_step (fail))
          refine wpQuiet_nil ?_
          intro wc hw'
          have XC : Hid (Ext W wc) := Lib.hid (by obtain ⟨p, rfl⟩ := hw'; exact Ext.trans X1.out p.ext)
          clear hw' d0 d5 d6 n0 n1 hEq
          go_wp2_with fail
          go_roundw
          case rel =>
            refine ⟨j + 1, by omega, by go_num, Lib.hid (fun t y ht hy => ?_), XC⟩
            rcases Nat.lt_or_ge t j with h | h
            · exact A1.out t y h hy
            · obtain rfl : t = j := by omega
              rw [HZ.out] at hy
              rw [← Option.some.inj hy]
              show (decide (kind = k) && decide ((cl, nm) = (c, m))) = false
              rw [HE.out, Bool.and_false]
          case measure => simp [intOf]; omega
        · go_wp2_with fail
          refine wp_region_ext (by kernel_rfl) (by kernel_rfl) ?_
          repeat (go_big_quiet_step (fail))
          refine wpQuiet_nil ?_
          intro wc hw'
          have XC : Hid (Ext w wc) := Lib.hid (by obtain ⟨p, rfl⟩ := hw'; exact Ext.trans XX.out p.ext)
          clear hw' d0 d5 d6 n0 n1 hEq
          go_wp2_with fail
          go_ret
          refine ⟨ret_int ?_, XC.out⟩
          rw [first_at HZ.out (show (decide (kind = k) && decide ((cl, nm) = (c, m))) = true from by rw [HE.out, HK.out]; simp) A1.out]
          rfl
      · have g1 : (kind == k) = false := by simpa using hk
        have HK := Lib.hid hk
        clear hk
        go_wp2_with fail
        refine wp_region_ext (by kernel_rfl) (by kernel_rfl) ?_
        repeat (go_big_quiet_step (fail))
        refine wpQuiet_nil ?_
        intro wc hw'
        have XC : Hid (Ext W wc) := Lib.hid (by obtain ⟨p, rfl⟩ := hw'; exact Ext.trans X1.out p.ext)
        clear hw' d0 d5 d6 n0 n1 hEq
        go_wp2_with fail
        go_roundw
        case rel =>
          refine ⟨j + 1, by omega, by go_num, Lib.hid (fun t y ht hy => ?_), XC⟩
          rcases Nat.lt_or_ge t j with h | h
          · exact A1.out t y h hy
          · obtain rfl : t = j := by omega
            rw [HZ.out] at hy
            rw [← Option.some.inj hy]
            simp [isT, HK.out]
        case measure => simp [intOf]; omega
    · go_wp2_with fail
      go_ret
      refine ⟨ret_int ?_, XX.out⟩
      rw [first_none (fun x hx => ?_)]
      · rfl
      · obtain ⟨t, ht⟩ := List.mem_iff_getElem?.1 hx
        exact A1.out t x (by have := (List.getElem?_eq_some_iff.1 ht).1; rw [List.length_map] at this; omega) ht
end Go.Proofs.YtbnclifpdmpjnaaGreatDoor

/- What acts tell, taken out of a map of rows: witness.told. -/
import Derived.Test.YtngahblgicjoiaaGreatDoorStepDefs
import Derived.Test.YtngahblgicjoiaaGreatDoorCloneS
namespace Go.Proofs.YtngahblgicjoiaaGreatDoor
open Go.RowKit
open Go.Maps (Keyed)

/-- Block b is of no cells. -/
def NoCells (w : World) (b : Nat) : Prop := ∀ cs t x, w.heap[b]? ≠ some (.cells cs t x)
theorem NoCells.ne {w : World} {b g : Nat} (h : NoCells w b) {i : Nat} {v : Value} (hc : w.cell? ⟨g, i, none⟩ = some v) : g ≠ b := by
  intro e; subst e
  unfold World.cell? at hc
  split at hc
  · rename_i c t x hg; exact h _ _ _ hg
  · cases hc
/-- Rows lie on where but blocks of 'no', and such of no cells, turn. -/
theorem NRows.step {α : Type} {sz : Nat} {enc : α → List Value} {no no' S : Nat → Prop} {w w' : World} {ao : Option Addr} {l : List α} (h : NRows sz enc no w ao l) (hx : But S w w') (hS : ∀ b, b < w.heap.size → S b → no b ∨ NoCells w b)
    (hn : ∀ b, b < w.heap.size → no' b → no b) : NRows sz enc no' w' ao l := by
  intro hl
  obtain ⟨g, off, rfl, hg, hno, hc⟩ := h hl
  refine ⟨g, off, rfl, by have := hx.size; omega, fun e => hno (hn g hg e), fun i x hi j v hj => (hx.cell (p := ⟨g, _, none⟩) hg fun hs => ?_).trans (hc i x hi j v hj)⟩
  rcases hS g hg hs with e | e
  · exact hno e
  · exact e.ne (hc i x hi j v hj) rfl
theorem MapF.noCells {P : Program} {k : TypeId} {w : World} {b n : Nat} {z : Value} {val : Lit → Value} {has : Lit → Bool} (h : MapF P k w b n z val has) : NoCells w b := fun _ _ _ e => h.ne e rfl
theorem NRows.drop3 {no : Nat → Prop} {w : World} {ao ao' : Option Addr} {r : Rd} {rs : List Rd} (h : NRows 3 encRd no w ao (r :: rs)) (ha : rs ≠ [] → ∀ b off, ao = some ⟨b, off, none⟩ → ao' = some ⟨b, off + 3, none⟩) : NRows 3 encRd no w ao' rs := by
  intro hl
  obtain ⟨g, off, rfl, hg, hno, hc⟩ := h (by simp)
  refine ⟨g, off + 3, ha hl g off rfl, hg, hno, fun i x hi j v hj => ?_⟩
  have := hc (i + 1) x (by simpa using hi) j v hj
  rw [show off + (i + 1) * 3 + j = off + 3 + i * 3 + j from by omega] at this
  exact this
/-- What each key's acts tell, in a map of rows that lie in no block of 'no'. -/
structure ToldAt (no : Nat → Prop) (w : World) (mb n : Nat) (m : Told) : Prop where
  own : ∃ val has, MapF Tryz.prog 9 w mb n (.slice none 0 0) val has ∧ ∀ x : Txt, ∃ ao cap, val (.string x) = .slice ao (m x).length cap ∧ (m x).length ≤ cap ∧ NRows 3 encRd no w ao (m x)
variable {no no' S : Nat → Prop} {w w' : World} {mb n : Nat} {m : Told}
theorem ToldAt.lt (T : ToldAt no w mb n m) : mb < w.heap.size := by obtain ⟨_, _, h, _⟩ := T.own; exact h.lt
theorem ToldAt.noCells (T : ToldAt no w mb n m) : NoCells w mb := by obtain ⟨_, _, h, _⟩ := T.own; exact h.noCells
theorem ToldAt.step (T : ToldAt no w mb n m) (hx : But S w w') (hm : ¬ S mb) (hS : ∀ b, b < w.heap.size → S b → no b) (hn : ∀ b, b < w.heap.size → no' b → no b) : ToldAt no' w' mb n m := by
  obtain ⟨val, has, h1, h2⟩ := T.own
  refine ⟨val, has, h1.same (hx.block _ h1.lt hm), fun x => ?_⟩
  obtain ⟨ao, cap, e1, e2, e3⟩ := h2 x
  exact ⟨ao, cap, e1, e2, e3.step hx (fun b hb e => .inl (hS b hb e)) hn⟩
theorem ToldAt.ext (T : ToldAt no w mb n m) (hx : Ext w w') : ToldAt no w' mb n m := T.step (Ext.but hx fun _ => False) id (fun _ _ e => e.elim) (fun _ _ e => e)
theorem ToldAt.moreN (T : ToldAt no w mb n m) {n' : Nat} (hn : n ≤ n') : ToldAt no w mb n' m := by
  obtain ⟨val, has, h1, h2⟩ := T.own
  exact ⟨val, has, h1.mono hn, h2⟩
theorem ToldAt.congr (T : ToldAt no w mb n m) {m' : Told} (h : ∀ x, m x = m' x) : ToldAt no w mb n m' := by
  have : m = m' := funext h
  subst this; exact T
theorem ToldAt.made (no : Nat → Prop) (w : World) : ToldAt no (w.alloc (.map #[] 0)) w.heap.size 0 (fun _ => []) :=
  ⟨_, _, MapF.made _ _ _ _, fun _ => ⟨none, 0, rfl, Nat.le_refl _, fun h => absurd rfl h⟩⟩
theorem ToldAt.look (T : ToldAt no w mb n m) (k : ByteArray) (hk : k.size ≤ 140737488351232) : ∃ ao cap, (m k.data.toList).length ≤ cap ∧ NRows 3 encRd no w ao (m k.data.toList) ∧
    ∀ W, Ext w W → (Instr.lookup 172 (.map (some mb)) (.string k) false).run Tryz.prog W = .ok (.slice ao (m k.data.toList).length cap) W := by
  obtain ⟨val, has, h1, h2⟩ := T.own
  obtain ⟨ao, cap, e1, e2, e3⟩ := h2 k.data.toList
  refine ⟨ao, cap, e2, e3, fun W hW => ?_⟩
  rw [← e1]
  exact (h1.ext hW).lookup strKeyed Tryz.underlying172 (by kernel_rfl) (WideMaps.keyOf_string_mk Tryz.underlying9 (by unfold maxLen; omega))
theorem ToldAt.put (T : ToldAt no w mb n m) (hn : n < 1000000) (k : ByteArray) (hk : k.size ≤ 140737488351232) (rs : List Rd) (ao : Option Addr) (cap : Nat) (hc : rs.length ≤ cap) (hr : NRows 3 encRd no w ao rs) :
    ∃ w', (Instr.mapUpdate 172 (.map (some mb)) (.string k) (.slice ao rs.length cap)).run Tryz.prog w = .ok () w' ∧ ToldAt no w' mb (n + 1) (fun x => if x = k.data.toList then rs else m x) ∧ But (fun j => j = mb) w w' := by
  obtain ⟨val, has, h1, h2⟩ := T.own
  obtain ⟨w', hrun, hmap, hg⟩ := h1.update strKeyed Tryz.underlying172 (by unfold maxLen; omega) (key := .string k) (v := .slice ao rs.length cap) (WideMaps.keyOf_string_mk Tryz.underlying9 (by unfold maxLen; omega))
  have hb : But (fun j => j = mb) w w' := (But.of_grown hg).mono fun i _ e => (Option.some.inj e).symm
  have hrow : ∀ {ao : Option Addr} {l : List Rd}, NRows 3 encRd no w ao l → NRows 3 encRd no w' ao l := fun h =>
    h.step hb (fun b _ e => by subst e; exact .inr h1.noCells) (fun _ _ e => e)
  refine ⟨w', hrun, ⟨_, _, hmap, fun x => ?_⟩, hb⟩
  by_cases e : x = k.data.toList
  · subst e
    exact ⟨ao, cap, by simp, by simpa using hc, by simpa using hrow hr⟩
  · obtain ⟨bo, c2, e1, e2, e3⟩ := h2 x
    refine ⟨bo, c2, ?_, ?_, ?_⟩
    · simp only [Lit.string.injEq, e, if_false]; exact e1
    · simpa [e] using e2
    · simpa [e] using hrow e3
theorem slice_one3 {t : TypeId} (ht : Tryz.prog.underlying t = some (.slice (Tryz.prog.elem t))) (hz : ∀ W, (sizeOf (Tryz.prog.elem t)).run Tryz.prog W = .ok 3 W) (ao : Option Addr) (len cap : Nat) (h : 1 ≤ len) (hc : len ≤ cap) :
    ∃ ao', (2 ≤ len → ∀ b off, ao = some ⟨b, off, none⟩ → ao' = some ⟨b, off + 3, none⟩) ∧ ∀ W, (Instr.slice t (.slice ao len cap) (some (.int .i64 1)) none none).run Tryz.prog W = .ok (.slice ao' (len - 1) (cap - 1)) W := by
  refine ⟨if cap = 1 then ao else ao.map (·.add (1 * 3)), fun hl b off e => ?_, fun W => ?_⟩
  · rw [if_neg (by omega), e, Option.map_some, WideShapes.add_plain]
  · rw [run_slice_l W t _ _ _ ht .i64 1 (by omega) (by omega), hz W]
    simp only [Result.andThen_ok, sliced, show (1 : Int).toNat = 1 from rfl]
theorem elemRds : Tryz.prog.underlying 36 = some (.slice (Tryz.prog.elem 36)) := by kernel_rfl
theorem sizeRds : ∀ W, (sizeOf (Tryz.prog.elem 36)).run Tryz.prog W = .ok 3 W := fun W => by kernel_rfl
theorem tellAct_skip {p : List Rd × Told} {a : ActD} (h : a.kind = 2) : tellAct p a = p := by unfold tellAct; rw [if_pos h]
theorem tellAct_take {p : List Rd × Told} {a : ActD} {r : Rd} {rs : List Rd} (h : a.kind ≠ 2) (hp : p.2 (keyT a) = r :: rs) : tellAct p a = (p.1 ++ [r], fun x => if x = keyT a then rs else p.2 x) := by
  unfold tellAct
  rw [if_neg h, hp]
  simp only [List.head?_cons, Option.toList_some]
  congr 1
  funext x
  split
  · rename_i e; rw [e, hp]; rfl
  · rfl
/-- What told leaves. -/
def ToldPost (w : World) (mb : Nat) (l : List Rd) (e : Ending) (w' : World) : Prop :=
  ∃ rv, e = .returned rv ∧ w'.ownsRow 0 78 3 rv l.length (l.flatMap encRd) ∧ (∀ j, rv.ownBlock = some j → w.heap.size ≤ j) ∧ But (fun j => j = mb) w w'
theorem But.freshTrans {S : Nat → Prop} {a b c : World} {B : Nat} {T : Nat → Prop} (h : But S a b) (k : But T b c) (hT : ∀ i, T i → B ≤ i) (hB : a.heap.size ≤ B) : But S a c :=
  h.trans k (fun _ _ e => e) (fun i hi e => absurd (hT i e) (by omega))

set_option maxRecDepth 100000 in
set_option maxHeartbeats 1600000 in
theorem told_calls (acts : List ActD) (ao : Option Addr) (cap : Nat) (w : World) (mb n : Nat) (m : Told) (hl : acts.length ≤ 1000) (hok : ∀ a ∈ acts, a.ok) (hr : Rows 4 encAct w.heap.size w ao acts)
    (T : ToldAt (fun b => w.heap.size ≤ b) w mb n m) (hn : n ≤ 1000) (hm : ∀ x, (m x).length = cntK x acts) :
    Calls Tryz.prog 100 #[.slice ao acts.length cap, .map (some mb)] w (ToldPost w mb (tellAt m acts).1) := by
  obtain ⟨i0, hi, hz0, hz1, hz2⟩ := info_parts infoRd
  have HR := Lib.hid hr; have HT := Lib.hid T; have HM := Lib.hid hm; have HOK := Lib.hid hok
  have hmb := T.lt
  clear hr T hm hok
  go_enter Tryz.func100, Tryz.ntmps100
  go_wp2_with fail
  go_loopw [5, 10] (fun v i wr => ∃ (k : Nat), k ≤ acts.length ∧ i = .int .i64 k ∧ wr.ownsRow 0 78 3 v (tellAt m (acts.take k)).1.length ((tellAt m (acts.take k)).1.flatMap encRd) ∧ (∀ j, v.ownBlock = some j → w.heap.size ≤ j) ∧ ToldAt (fun b => w.heap.size ≤ b) wr mb (n + k) (tellAt m (acts.take k)).2 ∧ But (fun j => j = mb) w wr) (fun _ i _ => acts.length - (intOf i).toNat)
  case atStart => exact ⟨0, by omega, rfl, World.ownsRow_nil _ _ _ _, by simp [Value.ownBlock], HT.out, But.refl _ _⟩
  case round =>
    obtain ⟨k, hk, rfl, hown, hnew, htold, hx⟩ := hrel
    have K1 := Lib.hid hown; have K2 := Lib.hid hnew; have K3 := Lib.hid htold; have K4 := Lib.hid hx
    clear hown hnew htold hx
    by_cases hlt : k < acts.length
    · obtain ⟨x, hx⟩ : ∃ x, acts[k]? = some x := ⟨_, List.getElem?_eq_getElem hlt⟩
      obtain ⟨b, off, rfl, hb, _, hcell⟩ := (NRows.step (no := fun _ => False) (no' := fun _ => False) (HR.out.nrows (Nat.le_refl _) (fun _ _ e => e)) K4.out (fun b _ e => by subst e; exact .inr HT.out.noCells) (fun _ _ e => e)) (by intro e; rw [e] at hlt; simp at hlt)
      have hcx := hcell k x hx
      have hsucc : tellAt m (acts.take (k + 1)) = tellAct (tellAt m (acts.take k)) x := by rw [List.take_add_one, hx, Option.toList_some, tellAt_snoc]
      have hbd : (tellAt m (acts.take k)).1.length ≤ 1000 := Nat.le_trans (tell_len _ _) (by simp; omega)
      have hsome := fun h => tell_some HM.out hx h
      have hkz := (HOK.out x (List.mem_of_getElem? hx)).2.2.1
      obtain ⟨q, hq⟩ : ∃ q, tellAt m (acts.take k) = q := ⟨_, rfl⟩
      rw [hq] at K1 K3 hsucc hbd hsome
      have SU := Lib.hid hsucc
      obtain ⟨kd, ky, val, num⟩ := x
      have d0 := hcx 0 _ rfl; have d1 := hcx 1 _ rfl; have d2 := hcx 2 _ rfl; have d3 := hcx 3 _ rfl
      simp only [Nat.add_zero] at d0
      have hi0 : (0 : Int) ≤ (k : Int) := by omega
      have hi1 : (k : Int) < (acts.length : Int) := by omega
      have SO := Lib.hid hsome
      clear hsucc hx hcell hcx hq hsome
      have E1 : Hid (Ext wr (wr.alloc (.cells #[.int .u8 kd, .string ky, .string val, .int .i64 num] 53))) := Lib.hid ((Below.refl _ wr).alloc (Nat.le_refl _) _)
      by_cases hkd : kd = 2
      · have g1 : (kd != 2) = false := by simp [hkd]
        have HK := Lib.hid hkd; clear hkd
        go_wp2_with fail
        go_roundw
        case rel => exact ⟨k + 1, by omega, by go_num, by rw [SU.out, tellAct_skip HK.out]; exact own_ext K1.out E1.out, K2.out, by rw [SU.out, tellAct_skip HK.out]; exact ((K3.out.ext E1.out).moreN (by omega)), K4.out.trans (Ext.but E1.out (fun _ => False)) (fun _ _ e => e) (fun _ _ e => e.elim)⟩
        case measure => simp [intOf]; omega
      · have g1 : (kd != 2) = true := by simp [hkd]
        obtain ⟨r, rs, hrs⟩ := SO.out hkd
        have HK := Lib.hid hkd; clear hkd
        obtain ⟨ao2, cap2, hc2, hr2, hlk⟩ := K3.out.look ky hkz
        have hrs2 : q.2 ky.data.toList = r :: rs := hrs
        rw [hrs2] at hc2 hr2 hlk
        obtain ⟨b2, off2, rfl, hb2, hno2, hcell2⟩ := hr2 (by simp)
        have hcr := hcell2 0 r rfl
        have hlk0 := hlk _ E1.out
        simp only [List.length_cons] at hlk0 hc2
        have RS := Lib.hid hrs2
        obtain ⟨rk, ri, rv⟩ := r
        have e0 := (E1.out.cell (p := ⟨b2, _, none⟩) hb2).trans (hcr 0 _ rfl); have e1 := (E1.out.cell (p := ⟨b2, _, none⟩) hb2).trans (hcr 1 _ rfl); have e2 := (E1.out.cell (p := ⟨b2, _, none⟩) hb2).trans (hcr 2 _ rfl)
        simp only [Nat.zero_mul, Nat.add_zero] at e0 e1 e2
        have j0 : (0 : Int) < ((rs.length + 1 : Nat) : Int) := by omega
        have j1 : 0 < rs.length + 1 := by omega
        have CN := Lib.hid (cells_new (wr.alloc (.cells #[.int .u8 kd, .string ky, .string val, .int .i64 num] 53)) [.string rk, .bool ri, .string rv] 78)
        rw [show (wr.alloc (.cells #[.int .u8 kd, .string ky, .string val, .int .i64 num] 53)).heap.size = wr.heap.size + 1 from by simp] at CN
        have E2 : Hid (Ext wr ((wr.alloc (.cells #[.int .u8 kd, .string ky, .string val, .int .i64 num] 53)).alloc (.cells #[.string rk, .bool ri, .string rv] 78))) := Lib.hid (((Below.refl _ wr).alloc (Nat.le_refl _) _).alloc (by simp) _)
        have BX : Hid (Blk ((wr.alloc (.cells #[.int .u8 kd, .string ky, .string val, .int .i64 num] 53)).alloc (.cells #[.string rk, .bool ri, .string rv] 78)) wr.heap.size [.int .u8 kd, .string ky, .string val, .int .i64 num] 53) := Lib.hid ((Blk.new wr _ _).alloc _)
        clear hc2 hr2 hlk hb2 hno2 hcell2 hcr hrs2 hrs
        go_wp2_with (at_builtin; refine wpList_append_at _ rfl _ _ 36 rfl 78 i0 _ 3 40 Tryz.underlying36 hi hz0 hz1 hz2 rfl (by decide) _ q.1.length (q.1.flatMap encRd) rfl (own_ext K1.out E2.out) ⟨wr.heap.size + 1, 0, none⟩ 1 1 (encRd ⟨rk, ri, rv⟩) rfl rfl CN.out (by simp [encRd, Value.oneCell']) (by decide) (by unfold maxLen; omega) (by omega) ?_; intro g cap3 w1 hown' hbut hkept; have X1 := Lib.hid hown'; have X2 := Lib.hid hbut; have X3 := Lib.hid hkept; clear hown' hbut hkept)
        have hlt0 := K1.out.lt
        have hbx : Blk w1 wr.heap.size [.int .u8 kd, .string ky, .string val, .int .i64 num] 53 := BX.out.but X2.out (fun e => by have := (hlt0 _ e).2; omega)
        have b1 := hbx.cell 1
        simp only [List.getElem?_cons_zero, List.getElem?_cons_succ] at b1
        have T1 : ToldAt (fun b => w.heap.size ≤ b) w1 mb (n + k) q.2 := (K3.out.ext E2.out).step X2.out (fun e => by have := K2.out _ e; omega) (fun b _ e => K2.out b e) (fun _ _ e => e)
        obtain ⟨ao3, cap4, hc3, hr3, hlk3⟩ := T1.look ky hkz
        rw [RS.out] at hc3 hr3 hlk3
        simp only [List.length_cons] at hc3 hlk3
        obtain ⟨ao4, h4, hsl⟩ := slice_one3 elemRds sizeRds ao3 (rs.length + 1) cap4 (by omega) hc3
        have hxd : Ext w1 w1.drew := (Below.refl _ w1).drew
        have hl1 := hlk3 w1 (Below.refl _ _); have hl2 := hlk3 _ hxd
        obtain ⟨w4, hrun, T4, B4⟩ := (T1.ext hxd).put (by omega) ky hkz rs ao4 (cap4 - 1) (by omega) ((hr3.ext hxd).drop3 (fun hne b off e => h4 (by have := List.length_pos_iff.2 hne; omega) b off e))
        have hs1 := hsl w1; have hs2 := hsl w1.drew
        simp only [Nat.add_sub_cancel] at hs1 hs2
        have TT := Lib.hid T4; have BB := Lib.hid (But.trans ((But.refl (fun j => j = mb) w1).drew) B4 (U := fun j => j = mb) (fun _ _ e => e) (fun _ _ e => e))
        clear hbx T1 hc3 hr3 hlk3 h4 hsl hxd T4 B4 e0 e1 e2 hlk0 hlt0
        go_still_tail 8, (by kernel_rfl)
        change wpList _ _ _ _ _ w1.drew
        go_wp2_with fail
        go_roundw
        case rel =>
          refine ⟨k + 1, by omega, by go_num, ?_, ?_, ?_, ?_⟩
          · rw [SU.out, tellAct_take HK.out RS.out]
            have := own_but X1.out BB.out (fun j hj e => by
              have hj2 := X3.out j hj
              have e' : j = mb := e
              subst e'
              rcases hj2 with e | e
              · have := K2.out _ e; omega
              · have := K3.out.lt; have := E2.out.size; omega)
            rw [List.length_append, List.flatMap_append]
            simpa using this
          · intro j hj
            rcases X3.out j hj with e | e
            · exact K2.out j e
            · have := K4.out.size; have := E2.out.size; omega
          · rw [SU.out, tellAct_take HK.out RS.out, show n + (k + 1) = n + k + 1 from by omega]
            exact TT.out
          · exact ((K4.out.trans (Ext.but E2.out (fun _ => False)) (fun _ _ e => e) (fun _ _ e => e.elim)).trans X2.out (fun _ _ e => e) (fun i hi e => by have := K2.out i e; omega)).trans BB.out (fun _ _ e => e) (fun _ _ e => e)
        case measure => simp [intOf]; omega
    · have hall : acts.take k = acts := List.take_of_length_le (by omega)
      have HA := Lib.hid hall; clear hall
      go_wp2_with fail
      go_ret
      exact ⟨_, rfl, by have := K1.out; rwa [HA.out] at this, K2.out, K4.out⟩
end Go.Proofs.YtngahblgicjoiaaGreatDoor

/- The stable sort of what is known, whole. -/
import Derived.Test.YtbnclifpdmpjnaaGreatDoorZ35
import Derived.Test.YtbnclifpdmpjnaaGreatDoorZ33
namespace Go.Proofs.YtbnclifpdmpjnaaGreatDoor
open Go.RowKit
set_option maxRecDepth 100000 in
set_option maxHeartbeats 3200000 in
theorem insertionNil_calls (v g : Value) (w : World) : Calls Tryz.prog 84 #[v, .int .i64 0, .int .i64 0, g] w fun e w' => e = .returned (.tuple #[]) ∧ Ext w w' := by
  go_enter Tryz.func84, Tryz.ntmps84
  go_wp2_with fail
  go_loopw [8] (fun i wr => i = .int .i64 1 ∧ Ext w wr) (fun i _ => 0)
  case atStart => exact ⟨rfl, Below.refl _ _⟩
  case round =>
    obtain ⟨rfl, hx⟩ := hrel
    have X := Lib.hid hx
    clear hx
    go_wp2_with fail
    go_end0
    exact ⟨rfl, X.out⟩
set_option maxRecDepth 100000 in
set_option maxHeartbeats 3200000 in
theorem stableNil_calls (v g : Value) (w : World) : Calls Tryz.prog 50 #[v, .int .i64 0, g] w fun e w' => e = .returned (.tuple #[]) ∧ Ext w w' := by
  go_enter Tryz.func50, Tryz.ntmps50
  go_wp2_with fail
  go_loopw [7, 8] (fun a b wr => a = .int .i64 0 ∧ b = .int .i64 20 ∧ Ext w wr) (fun a b _ => 0)
  case atStart => exact ⟨rfl, rfl, Below.refl _ _⟩
  case round =>
    obtain ⟨rfl, rfl, hx⟩ := hrel
    have X := Lib.hid hx
    clear hx
    go_wp2_with fail
    refine (insertionNil_calls v g _).mono ?_
    rintro e w1 ⟨rfl, hx1⟩
    have X1 := Lib.hid (Ext.trans X.out hx1)
    clear hx1
    go_wp2_with fail
    go_loopw [6] (fun b wr => b = .int .i64 20 ∧ Ext w wr) (fun b _ => 0)
    case atStart => exact ⟨rfl, X1.out⟩
    case round =>
      obtain ⟨rfl, hx⟩ := hrel
      have X := Lib.hid hx
      clear hx
      go_wp2_with fail
      go_end0
      exact ⟨rfl, X.out⟩
set_option maxRecDepth 100000 in
set_option maxHeartbeats 6400000 in
theorem stableK_calls (f : Nat → Int) (q : List Nat) (L cap rb : Nat) (tl : List Value) (w : World) (hrow : RowP w rb q tl) (hL : q.length = L) (hkeys : KeysAt w rb f q) (hl : L ≤ 80) :
    Calls Tryz.prog 50 #[.slice (some ⟨rb, 0, none⟩) L cap, .int .i64 L, .func (.func 27) #[] #[]] w (SortPost f q 0 L rb tl w) := by
  have HR := Lib.hid hrow; have RL := Lib.hid hL; have HK := Lib.hid hkeys
  clear hrow hL hkeys
  go_enter Tryz.func50, Tryz.ntmps50
  go_wp2_with fail
  go_loopw [7, 8] (fun a b wr => ∃ (x y : Nat) (r : List Nat), x ≤ L ∧ Hid (y = x + 20) ∧ a = .int .i64 x ∧ b = .int .i64 y ∧ Hid (RowP wr rb r tl) ∧ Hid (Moved q r 0 L) ∧ Hid (∀ t, (t + 1) * 20 ≤ x → SortedOn f r (t * 20) ((t + 1) * 20)) ∧ Hid (∃ u, x = u * 20) ∧ Hid (But (fun j => j = rb) w wr)) (fun a b _ => L - (intOf a).toNat)
  case atStart => exact ⟨0, 20, q, by omega, Lib.hid rfl, rfl, rfl, HR, Lib.hid (Moved.refl _ _ _), Lib.hid (fun t ht => by omega), Lib.hid ⟨0, rfl⟩, Lib.hid (But.refl _ _)⟩
  case round =>
    obtain ⟨x, y, r, hx, hy, rfl, rfl, R1, M1, S1, U1, X1⟩ := hrel
    have LR : Hid (r.length = L) := Lib.hid (M1.out.len.trans RL.out)
    have hy2 : x < y ∧ y ≤ L + 20 := by have := hy.out; omega
    have K1 := Lib.hid ((HK.out.but X1.out).perm M1.out.perm)
    by_cases hle : y ≤ L
    · have g1 : decide (y ≤ L) = true := by simpa using hle
      obtain ⟨z, hz⟩ : ∃ z, z = y + 20 := ⟨_, rfl⟩
      have e1 : (y : Int) + 20 = (z : Int) := by omega
      have HZ := Lib.hid hz
      clear hz
      go_wp2_with fail
      refine (insertionK_calls f r x y L cap rb tl _ R1.out LR.out K1.out (by omega) (by omega) (by omega)).mono ?_
      rintro e w2 ⟨rfl, r2, R2, M2, S2, B2⟩
      have R2 := Lib.hid R2; have M2 := Lib.hid M2; have S2 := Lib.hid S2; have B2 := Lib.hid B2
      go_wp2_with fail
      have N2 := blocks_next S1.out U1.out (by rw [← hy.out]; exact M2.out) (by rw [← hy.out]; exact S2.out)
      exact ⟨⟨y, z, r2, hle, HZ, rfl, rfl, R2, Lib.hid (M1.out.trans (M2.out.wide (by omega) (by omega))), Lib.hid (by rw [hy.out]; exact N2.1), Lib.hid (by rw [hy.out]; exact N2.2), Lib.hid (X1.out.trans B2.out (fun _ _ e => e) (fun _ _ e => e))⟩, by simp [intOf]; omega⟩
    · have g1 : decide (y ≤ L) = false := by simpa using hle
      go_wp2_with fail
      refine (insertionK_calls f r x L L cap rb tl _ R1.out LR.out K1.out (by omega) (Nat.le_refl _) (by omega)).mono ?_
      rintro e w2 ⟨rfl, r2, R2, M2, S2, B2⟩
      have BL := Lib.hid (blocks_end S1.out U1.out (by have := hy.out; omega) M2 S2)
      replace R2 := Lib.hid R2
      replace M2 : Hid (Moved q r2 0 L) := Lib.hid (M1.out.trans (M2.wide (by omega) (Nat.le_refl _)))
      replace B2 : Hid (But (fun j => j = rb) w w2) := Lib.hid (X1.out.trans B2 (fun _ _ e => e) (fun _ _ e => e))
      clear S2 R1 M1 S1 U1 X1 LR K1
      go_wp2_with fail
      go_loopw [6] (fun c wr => ∃ (bs : Nat) (r : List Nat), Hid (bs = 20 ∨ bs = 40 ∨ bs = 80) ∧ bs ≤ 80 ∧ 20 ≤ bs ∧ c = .int .i64 bs ∧ Hid (RowP wr rb r tl) ∧ Hid (Moved q r 0 L) ∧ Hid (Blocks f r bs L) ∧ Hid (But (fun j => j = rb) w wr)) (fun c _ => 100 - (intOf c).toNat)
      case atStart => exact ⟨20, r2, Lib.hid (.inl rfl), by omega, by omega, rfl, R2, M2, BL, B2⟩
      case round =>
        clear R2 M2 BL B2
        obtain ⟨bs, r, hbs, hb80, hb20, rfl, R1, M1, S1, X1⟩ := hrel
        by_cases hlt : bs < L
        · have g2 : decide (bs < L) = true := by simpa using hlt
          have HB : Hid (bs = 20 ∨ bs = 40) := Lib.hid (by have := hbs.out; omega)
          obtain ⟨b2, hb2⟩ : ∃ b2, b2 = 2 * bs := ⟨_, rfl⟩
          have e2 : (2 : Int) * (bs : Int) = (b2 : Int) := by omega
          have e3 : (bs : Int) * 2 = (b2 : Int) := by omega
          have hb160 : b2 ≤ 80 := by have := HB.out; omega
          have H2 := Lib.hid hb2
          have HB2 : Hid (b2 = 20 ∨ b2 = 40 ∨ b2 = 80) := Lib.hid (by have := HB.out; omega)
          have hbp : bs < b2 := by omega
          clear hb2 hlt
          go_wp2_with fail
          go_loopw [7, 8] (fun a b wr => ∃ (x y : Nat) (r : List Nat), x ≤ L ∧ Hid (y = x + b2) ∧ a = .int .i64 x ∧ b = .int .i64 y ∧ Hid (RowP wr rb r tl) ∧ Hid (Moved q r 0 L) ∧ Hid (BMid f r bs L x) ∧ Hid (But (fun j => j = rb) w wr)) (fun a b _ => L - (intOf a).toNat)
          case atStart => exact ⟨0, b2, r, by omega, Lib.hid (by omega), rfl, rfl, R1, M1, Lib.hid (bmid_start S1.out HB.out), X1⟩
          case round =>
            clear R1 M1 S1 X1
            obtain ⟨x, y, r, hx, hy, rfl, rfl, R1, M1, S1, X1⟩ := hrel
            have LR : Hid (r.length = L) := Lib.hid (M1.out.len.trans RL.out)
            have K1 := Lib.hid ((HK.out.but X1.out).perm M1.out.perm)
            obtain ⟨m, hm⟩ : ∃ m, m = x + bs := ⟨_, rfl⟩
            have e4 : (x : Int) + (bs : Int) = (m : Int) := by omega
            have hmy : x < m ∧ m < y ∧ y ≤ L + 80 := by have := hy.out; have := H2.out; omega
            have HM := Lib.hid hm
            clear hm
            by_cases hle : y ≤ L
            · have g3 : decide (y ≤ L) = true := by simpa using hle
              obtain ⟨z, hz⟩ : ∃ z, z = y + b2 := ⟨_, rfl⟩
              have e5 : (y : Int) + (b2 : Int) = (z : Int) := by omega
              have HZ := Lib.hid hz
              clear hz
              have T := bmid_two S1.out HB.out (by have := hy.out; have := H2.out; omega)
              rw [← HM.out, ← H2.out, ← hy.out] at T
              have TT := Lib.hid T
              clear T
              go_wp2_with fail
              refine (symMergeK_calls f L cap rb tl _ r x m y _ (Nat.le_refl _) ⟨R1.out, LR.out, K1.out, by omega, by omega, hle, by omega, TT.out.1, TT.out.2⟩).mono ?_
              rintro e w3 ⟨rfl, r3, R3, M3, S3, B3⟩
              have R3 := Lib.hid R3; have M3 := Lib.hid M3; have S3 := Lib.hid S3; have B3 := Lib.hid B3
              have N3 := bmid_step S1.out HB.out (by rw [← H2.out, ← hy.out]; exact M3.out) (by rw [← H2.out, ← hy.out]; exact S3.out)
              rw [← H2.out, ← hy.out] at N3
              have NN := Lib.hid N3
              clear N3
              go_wp2_with fail
              exact ⟨⟨y, z, r3, hle, HZ, rfl, rfl, R3, Lib.hid (M1.out.trans (M3.out.wide (by omega) (by omega))), NN, Lib.hid (X1.out.trans B3.out (fun _ _ e => e) (fun _ _ e => e))⟩, by simp [intOf]; omega⟩
            · have g3 : decide (y ≤ L) = false := by simpa using hle
              have hnl : L < x + 2 * bs := by have := hy.out; have := H2.out; omega
              by_cases hml : m < L
              · have g4 : decide (m < L) = true := by simpa using hml
                have T := bmid_last S1.out HB.out hnl (by have := HM.out; omega)
                rw [← HM.out] at T
                have TT := Lib.hid T
                clear T
                have HNL := Lib.hid hnl
                clear hnl
                go_wp2_with fail
                refine (symMergeK_calls f L cap rb tl _ r x m L _ (Nat.le_refl _) ⟨R1.out, LR.out, K1.out, by omega, hml, Nat.le_refl _, by omega, TT.out.1, TT.out.2⟩).mono ?_
                rintro e w3 ⟨rfl, r3, R3, M3, S3, B3⟩
                have N3 := bmid_end S1.out HB.out HNL.out M3 S3
                rw [← H2.out] at N3
                have NN := Lib.hid N3
                have R3 := Lib.hid R3; have M3 := Lib.hid M3; have B3 := Lib.hid B3
                clear N3 S3
                go_wp2_with fail
                exact ⟨⟨b2, r3, HB2, hb160, by omega, rfl, R3, Lib.hid (M1.out.trans (M3.out.wide (by omega) (Nat.le_refl _))), NN, Lib.hid (X1.out.trans B3.out (fun _ _ e => e) (fun _ _ e => e))⟩, by simp [intOf]; omega⟩
              · have g4 : decide (m < L) = false := by simpa using hml
                have N3 := bmid_end S1.out HB.out hnl (Moved.refl r x L) (bmid_one S1.out HB.out (by have := HM.out; omega))
                rw [← H2.out] at N3
                have NN := Lib.hid N3
                clear N3 hnl
                go_wp2_with fail
                exact ⟨⟨b2, r, HB2, hb160, by omega, rfl, R1, M1, NN, X1⟩, by simp [intOf]; omega⟩
        · have g2 : decide (bs < L) = false := by simpa using hlt
          go_wp2_with fail
          go_end0
          exact ⟨rfl, r, R1.out, M1.out, blocks_all S1.out (by omega), X1.out⟩
set_option maxRecDepth 100000 in
theorem sortK_calls (f : Nat → Int) (q : List Nat) (L cap rb : Nat) (tl : List Value) (w : World) (hrow : RowP w rb q tl) (hL : q.length = L) (hkeys : KeysAt w rb f q) (hl : L ≤ 80) :
    Calls Tryz.prog 26 #[.slice (some ⟨rb, 0, none⟩) L cap, .func (.func 27) #[] #[]] w (SortPost f q 0 L rb tl w) := by
  have HS := Lib.hid (stableK_calls f q L cap rb tl w hrow hL hkeys hl)
  clear hrow hL hkeys
  go_enter Tryz.func26, Tryz.ntmps26
  go_wp2_with fail
  refine HS.out.mono ?_
  rintro e w1 ⟨rfl, h⟩
  have H := Lib.hid h
  clear h
  go_wp2_with fail
  go_end0
  exact ⟨rfl, H.out⟩
set_option maxRecDepth 100000 in
theorem sortNil_calls (g : Value) (w : World) : Calls Tryz.prog 26 #[.slice none 0 0, g] w fun e w' => e = .returned (.tuple #[]) ∧ Ext w w' := by
  have HS := Lib.hid (stableNil_calls (.slice none 0 0) g w)
  go_enter Tryz.func26, Tryz.ntmps26
  go_wp2_with fail
  refine HS.out.mono ?_
  rintro e w1 ⟨rfl, h⟩
  have H := Lib.hid h
  clear h
  go_wp2_with fail
  go_end0
  exact ⟨rfl, H.out⟩
end Go.Proofs.YtbnclifpdmpjnaaGreatDoor
/- What a history tells: plain facts for the walk of witness.From; a tale of any kind taken. -/
namespace Go.Proofs.YtbnclifpdmpjnaaGreatDoor
open Go.RowKit
theorem names_len (l : List TaleD) : ∀ k, (namesD l k).length ≤ k
  | 0 => by simp [namesD]
  | k + 1 => by
    have := names_len l k
    unfold namesD
    split
    · omega
    · split
      · simp; omega
      · omega
theorem know_reads (l : List TaleD) (hl : ∀ x ∈ l, x.reads.length ≤ 1000) (n : Int × Int) : ∀ k, (knowD l n k).reads.length ≤ 1000
  | 0 => by simp [knowD, KnD.new]
  | k + 1 => by
    have ih := know_reads l hl n k
    unfold knowD
    cases hx : l[k]? with
    | none => exact ih
    | some x =>
      simp only
      split
      · unfold KnD.tell
        split
        · split <;> exact ih
        · split
          · split <;> exact ih
          · split
            · exact hl x (List.mem_of_getElem? hx)
            · exact ih
      · exact ih
theorem know_acts (l : List TaleD) (hl : ∀ x ∈ l, x.acts.length ≤ 1000) (n : Int × Int) : ∀ k, (knowD l n k).acts.length ≤ 1000
  | 0 => by simp [knowD, KnD.new]
  | k + 1 => by
    have ih := know_acts l hl n k
    unfold knowD
    cases hx : l[k]? with
    | none => exact ih
    | some x =>
      simp only
      split
      · unfold KnD.tell
        split
        · split
          · exact hl x (List.mem_of_getElem? hx)
          · exact ih
        · split
          · split <;> exact ih
          · split <;> exact ih
      · exact ih
variable {B rb mb : Nat} {w w' : World} {v : Value} {r : RdS}
theorem tale_calls (i : Nat) (z : TaleZ) (R : ReadAt B w rb mb v r) (hB : B ≤ w.heap.size) (hz : z.at B w) (hd : z.d.ok) (hfew : r.names.length ≤ 100) (hrn : (r.kz z.d.name).k.reads.length ≤ 1000) :
    Calls Tryz.prog 20 #[.pointer (some ⟨rb, 0, none⟩), .int .i64 ((i : Int) + 1), .agg (encTale z).toArray] w (TaleDone B rb mb i z v r w) := by
  by_cases h1 : z.d.kind = 1
  · exact taleCalled_calls i z R hB hz hd hfew h1 hrn
  · by_cases h2 : z.d.kind = 2
    · exact taleReplied_calls i z R hB hz hd hfew h2 hrn
    · by_cases h6 : z.d.kind = 6
      · exact taleDecided_calls i z R hB hz hd hfew h6 hrn
      · exact taleOther_calls i z R hB h1 h2 h6
structure ReadK (D : List TaleD) (k : Nat) (r : RdS) : Prop where
  names : r.names = namesD D k
  kz : ∀ n, (r.kz n).k = knowD D n k
  bad : r.bad = badD D k
theorem ReadK.next {D : List TaleD} {k : Nat} {r r' : RdS} {z : TaleZ} (h : ReadK D k r) (hz : D[k]? = some z.d) (h1 : r'.names = (if counts z.d = true ∧ z.d.name ∉ r.names then r.names ++ [z.d.name] else r.names))
    (h2 : r'.kz z.d.name = (r.kz z.d.name).tell k z) (h3 : ∀ m, m ≠ z.d.name → r'.kz m = r.kz m) (h4 : r'.bad = (r.bad || (decide (z.d.kind = 6) && !(r.kz z.d.name).k.agrees z.d))) : ReadK D (k + 1) r' := by
  refine ⟨?_, fun n => ?_, ?_⟩
  · unfold namesD
    rw [hz, h1, h.names]
  · unfold knowD
    rw [hz]
    simp only
    by_cases e : z.d.name = n
    · rw [if_pos e, ← e, h2, KnZ.tell_k, h.kz]
    · rw [if_neg e, h3 n (fun h => e h.symm), h.kz]
  · unfold badD
    rw [hz, h4, h.bad, h.kz]
def nmOf (r : RdS) (b : Nat) : Int × Int := (r.names.find? fun n => decide (r.p n = b)).getD (0, 0)
theorem nm_of {r : RdS} (hi : ∀ n ∈ r.names, ∀ m ∈ r.names, r.p n = r.p m → n = m) {n : Int × Int} (hn : n ∈ r.names) : nmOf r (r.p n) = n := by
  unfold nmOf
  cases h : r.names.find? fun m => decide (r.p m = r.p n) with
  | none => have := List.find?_eq_none.1 h n hn; simp at this
  | some m =>
    have h1 := List.find?_some h
    have h2 := List.mem_of_find?_eq_some h
    exact hi m h2 n hn (by simpa using h1)
theorem ptr_names {r : RdS} (hi : ∀ n ∈ r.names, ∀ m ∈ r.names, r.p n = r.p m → n = m) {ns : List (Int × Int)} (hs : ∀ n ∈ ns, n ∈ r.names) {q : List Nat} (hp : q.Perm (ns.map r.p)) : (q.map (nmOf r)).Perm ns ∧ (q.map (nmOf r)).map r.p = q ∧ ∀ n ∈ q.map (nmOf r), n ∈ r.names := by
  have h1 : (ns.map r.p).map (nmOf r) = ns := by
    rw [List.map_map]
    exact (List.map_congr_left fun n hn => nm_of hi (hs n hn)).trans (List.map_id _)
  have h2 : (q.map (nmOf r)).Perm ns := by
    have := hp.map (nmOf r)
    rw [h1] at this; exact this
  refine ⟨h2, ?_, fun n hn => hs n (h2.mem_iff.1 hn)⟩
  rw [List.map_map]
  refine (List.map_congr_left fun b hb => ?_).trans (List.map_id _)
  obtain ⟨n, hn, rfl⟩ := List.mem_map.1 (hp.mem_iff.1 hb)
  show r.p (nmOf r (r.p n)) = r.p n
  rw [nm_of hi (hs n hn)]
theorem keep_names {r : RdS} (hi : ∀ n ∈ r.names, ∀ m ∈ r.names, r.p n = r.p m → n = m) : keepP (fun b => !(r.kz (nmOf r b)).k.decided) (r.names.map r.p) = (r.names.filter fun n => (r.kz n).k.decided).map r.p := by
  unfold keepP
  rw [List.filter_map]
  congr 1
  refine List.filter_congr fun n hn => ?_
  simp [nm_of hi hn]
theorem sorted_pair {r : RdS} {q : List Nat} (hs : SortedOn (fun b => (r.kz (nmOf r b)).k.index) q 0 q.length) : ((q.map (nmOf r)).map fun n => (r.kz n).k).Pairwise (fun a b => a.index ≤ b.index) := by
  rw [List.map_map, List.pairwise_map, List.pairwise_iff_getElem]
  intro i j hi hj hij
  have := hs i j (Nat.zero_le _) hij hj
  unfold keyAt at this
  rw [List.getD_eq_getElem?_getD, List.getD_eq_getElem?_getD, List.getElem?_eq_getElem hi, List.getElem?_eq_getElem hj] at this
  exact this
theorem ref_bad {D : List TaleD} (h : badD D D.length = true) : refFromD D = none := by
  have hO : ¬ OneT D := fun e => by
    have := (bad_at D D.length (Nat.le_refl _)).2 (by rw [List.take_length]; exact e)
    rw [h] at this; cases this
  unfold refFromD
  rw [from_bad hO]; simp
theorem bad_one {D : List TaleD} (h : badD D D.length = false) : OneT D := by
  have := (bad_at D D.length (Nat.le_refl _)).1 h
  rwa [List.take_length] at this
theorem ref_unsaid {D : List TaleD} (h : badD D D.length = false) (h2 : D.all (fun x => saidD (kn D x.name) x) = false) : refFromD D = none := by
  unfold refFromD
  have hr : D.all (repliedT D) = D.all (fun x => saidD (kn D x.name) x) := by congr 1; funext x; exact replied_one (bad_one h) x
  rw [hr, h2]; simp
theorem ref_out {D : List TaleD} (h : badD D D.length = false) (h2 : D.all (fun x => saidD (kn D x.name) x) = true) {q : List (Int × Int)} (hp : q.Perm ((namesD D D.length).filter fun n => (kn D n).decided)) (hs : (q.map (kn D)).Pairwise (fun a b => a.index ≤ b.index)) : refFromD D = outD (q.map (kn D)) q.length := by
  rw [← from_eq hp hs]
  unfold progFromD
  rw [if_neg (by rw [h, h2]; simp)]
theorem any_said {l : List TaleZ} {D : List TaleD} {r : RdS} (hD : D = l.map (·.d)) (h : ReadK D D.length r) : (l.any fun z => !saidD (r.kz z.d.name).k z.d) = !(D.all fun x => saidD (kn D x.name) x) := by
  have e : (fun z : TaleZ => !saidD (r.kz z.d.name).k z.d) = fun z => !(fun z : TaleZ => saidD (kn D z.d.name) z.d) z := funext fun z => by rw [h.kz]
  have e2 : (D.all fun x => saidD (kn D x.name) x) = l.all fun z => saidD (kn D z.d.name) z.d := by
    conv => lhs; arg 1; rw [hD]
    rw [List.all_map]; rfl
  rw [e, e2, List.any_eq_not_all_not]
  simp
set_option maxRecDepth 100000 in
theorem sortAny_calls (f : Nat → Int) (q : List Nat) (v : Value) (w : World) (hown : w.ownsRow 0 75 1 v q.length (q.map pv)) (hk : ∀ p ∈ q, v.ownBlock ≠ some p ∧ p < w.heap.size ∧ w.cell? ⟨p, 2, none⟩ = some (.int .i64 (f p))) (hl : q.length ≤ 80) :
    Calls Tryz.prog 26 #[v, .func (.func 27) #[] #[]] w fun e w' => e = .returned (.tuple #[]) ∧ ∃ q' : List Nat, q'.Perm q ∧ SortedOn f q' 0 q'.length ∧ w'.ownsRow 0 75 1 v q.length (q'.map pv) ∧ But (fun j => v.ownBlock = some j) w w' := by
  rcases hown.2 with ⟨rfl, h0⟩ | ⟨g, cap, cur, rfl, _, hg, hn, hm, hcs, htk⟩
  · have hq : q = [] := List.length_eq_zero_iff.1 h0
    subst hq
    refine (sortNil_calls _ w).mono ?_
    rintro e w1 ⟨rfl, hx⟩
    exact ⟨rfl, [], List.Perm.refl _, SortedOn.one _ _ (by simp), own_ext hown hx, hx.but _⟩
  · have hb : Blk w g cur.toList 75 := blk_of hg
    rw [Nat.mul_one] at htk hcs
    have hrow : RowP w g q (cur.toList.drop q.length) := by
      unfold RowP
      have e : q.map pv ++ cur.toList.drop q.length = cur.toList := by
        have h : cur.toList.take q.length = q.map pv := htk
        rw [← h, List.take_append_drop]
      rw [e]; exact hb
    refine (sortK_calls f q q.length cap g (cur.toList.drop q.length) w hrow rfl (fun p hp => ?_) hl).mono ?_
    · obtain ⟨h1, h2, h3⟩ := hk p hp
      exact ⟨fun e => h1 (by rw [e]; rfl), h2, h3⟩
    · rintro e w1 ⟨rfl, q', hr, hmv, hst, hbt⟩
      have hl' : q'.length = q.length := hmv.len
      refine ⟨rfl, q', hmv.perm, by rw [hl']; exact hst, ?_, hbt.mono (fun i _ e => by rw [show i = g from e]; rfl)⟩
      refine own_of_blk (cap := cap) hr ?_ hn hm ?_
      · have : cur.toList.length = cap := by simpa using hcs
        rw [List.length_append, List.length_map, List.length_drop, hl', this, Nat.mul_one]; omega
      · rw [Nat.mul_one, ← hl', ← List.length_map (f := pv), List.take_left]
theorem delR_calls {va : Option Addr} {vc : Nat} {q0 : List Nat} (R : ReadAt B w rb mb (.slice va q0.length vc) r) (hq0 : q0 = r.names.map r.p) (hl : q0.length ≤ 1000) :
    Calls Tryz.prog 24 #[.slice va q0.length vc, .func (.func 25) #[] #[]] w fun e w' => ∃ (a2 : Option Addr) (c2 : Nat) (q1 : List Nat), e = .returned (.slice a2 q1.length c2) ∧ q1 = (r.names.filter fun n => (r.kz n).k.decided).map r.p ∧ w'.ownsRow B 75 1 (.slice a2 q1.length c2) q1.length (q1.map pv) ∧ (∀ j, (Value.slice a2 q1.length c2).ownBlock = some j → (Value.slice va q0.length vc).ownBlock = some j) ∧ But (fun j => (Value.slice va q0.length vc).ownBlock = some j) w w' := by
  have egD : ∀ args w, (callFunc 25 args).run Tryz.prog w = .ok (.enter 25 args) w := enters_of Tryz.func25 (by kernel_rfl) rfl
  have OW : w.ownsRow B 75 1 (.slice va q0.length vc) q0.length (q0.map pv) := by
    have := R.row
    rw [hq0, List.length_map, List.map_map]; rw [hq0, List.length_map] at this; exact this
  refine (delP_calls 25 #[] egD (fun b => !(r.kz (nmOf r b)).k.decided) q0 (.slice va q0.length vc) w (by omega) (own_base OW (fun _ _ => Nat.zero_le _)) (fun W hW x hx => ?_)).mono ?_
  · rw [hq0] at hx
    obtain ⟨n, hn, rfl⟩ := List.mem_map.1 hx
    simp only [nm_of R.inj hn]
    exact notDecided_calls (r.p n) (r.kz n) W ((R.kn n hn).1.but hW (R.ne_row.2 n hn).1)
  · rintro e w1 ⟨v', rfl, h1, h2, h3⟩
    have hk : keepP (fun b => !(r.kz (nmOf r b)).k.decided) q0 = (r.names.filter fun n => (r.kz n).k.decided).map r.p := by rw [hq0]; exact keep_names R.inj
    rw [hk] at h1
    obtain ⟨a2, c2, rfl⟩ : ∃ a2 c2, v' = .slice a2 ((r.names.filter fun n => (r.kz n).k.decided).map r.p).length c2 := by
      rcases own_cases h1 with ⟨rfl, h0⟩ | ⟨g, cap, hv, _⟩
      · exact ⟨none, 0, by rw [h0]⟩
      · exact ⟨_, _, hv⟩
    exact ⟨a2, c2, _, rfl, rfl, own_base h1 (fun k e => (R.row.lt k (h2 k e)).1), h2, h3⟩
theorem outD_stop (q : List KnD) {j : Nat} (h : outD q j = none) : ∀ L, j ≤ L → outD q L = none := by
  intro L
  induction L with
  | zero => intro hL; obtain rfl : j = 0 := by omega
            exact h
  | succ L ih =>
    intro hL
    by_cases e : j = L + 1
    · rw [← e]; exact h
    · unfold outD; rw [ih (by omega)]
theorem outD_next {q : List KnD} {j : Nat} {k : KnD} {out : List StepD} (h : outD q j = some out) (hk : q[j]? = some k) :
    outD q (j + 1) = if (0 < j ∧ (q[j - 1]?.map (·.index)) = some k.index) ∨ (k.commit = true ∧ k.called = 0) then none else if k.commit = true then some (out ++ [k.step]) else some out := by
  conv => lhs; unfold outD
  rw [h, hk]
end Go.Proofs.YtbnclifpdmpjnaaGreatDoor

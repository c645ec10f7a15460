/- The merge of the stable sort, and the whole. -/
import Derived.Test.YtbnclifpdmpjnaaGreatDoorZ34
namespace Go.Proofs.YtbnclifpdmpjnaaGreatDoor
open Go.RowKit
set_option maxRecDepth 100000 in
set_option maxHeartbeats 6400000 in
theorem symStep_calls (f : Nat → Int) (q : List Nat) (a m b L cap rb : Nat) (tl : List Value) (w : World) (hI : SymIn f q a m b L rb tl w) (h0 : m ≠ a + 1) (h1 : b ≠ m + 1)
    (ih : ∀ (q : List Nat) (a' m' b' : Nat) (w : World), b' - a' < b - a → SymIn f q a' m' b' L rb tl w → Calls Tryz.prog 85 #[.slice (some ⟨rb, 0, none⟩) L cap, .int .i64 a', .int .i64 m', .int .i64 b', .func (.func 27) #[] #[]] w (SortPost f q a' b' rb tl w)) :
    Calls Tryz.prog 85 #[.slice (some ⟨rb, 0, none⟩) L cap, .int .i64 a, .int .i64 m, .int .i64 b, .func (.func 27) #[] #[]] w (SortPost f q a b rb tl w) := by
  obtain ⟨hrow, hL, hkeys, ham, hmb, hb, hl, hs1, hs2⟩ := hI
  have HR := Lib.hid hrow; have RL := Lib.hid hL; have HK := Lib.hid hkeys; have S1 := Lib.hid hs1; have S2 := Lib.hid hs2
  have eg := egK
  have g0 : ((m : Int) - (a : Int) == 1) = false := by simp; omega
  have g00 : ((b : Int) - (m : Int) == 1) = false := by simp; omega
  obtain ⟨mid, hmid⟩ : ∃ mid, mid = (a + b) / 2 := ⟨_, rfl⟩
  have u1 : IntKind.u64.wrap ((a : Int) + (b : Int)) = (a : Int) + (b : Int) := wrapU (by omega) (by omega)
  have e1 : ((a : Int) + (b : Int)) / 2 = (mid : Int) := by omega
  obtain ⟨n, hn⟩ : ∃ n, n = mid + m := ⟨_, rfl⟩
  have e2 : (mid : Int) + (m : Int) = (n : Int) := by omega
  obtain ⟨lo, hlo⟩ : ∃ lo, lo = if mid < m then mid + m - b else a := ⟨_, rfl⟩
  obtain ⟨hi, hhi⟩ : ∃ hi, hi = if mid < m then mid else m := ⟨_, rfl⟩
  have SB := Lib.hid (SymB.mk ham hmb hmid hlo hhi)
  have F := Lib.hid SB.out.facts
  have HN := Lib.hid hn; have IH := Lib.hid ih; have HM := Lib.hid hmid; have HLO := Lib.hid hlo; have HHI := Lib.hid hhi
  have hn9 : n ≤ 2000 := by omega
  have hm9 : mid ≤ 1000 := by omega
  have bm : a < mid := by omega
  clear hrow hL hkeys hs1 hs2 h1 h0 ih hmid hn hlo hhi
  go_enter Tryz.func85, Tryz.ntmps85
  go_upto_if 140 with fail
  go_cut [20, 21] from 141 to 146 (fun s r W => s = .int .i64 lo ∧ r = .int .i64 hi ∧ Hid (Ext w W))
  case first =>
    by_cases hg : mid < m
    · have g2 : decide (mid < m) = true := by simpa using hg
      have hlo := HLO.out; have hhi := HHI.out
      rw [if_pos hg] at hlo hhi
      have e3 : (n : Int) - (b : Int) = (lo : Int) := by have := HN.out; have := HM.out; omega
      have HH := Lib.hid hhi
      clear hlo hhi
      go_wp2_with fail
      go_meet
      exact ⟨rfl, by rw [HH.out], Lib.hid (Below.refl _ _)⟩
    · have g2 : decide (mid < m) = false := by simpa using hg
      have hlo := HLO.out; have hhi := HHI.out
      rw [if_neg hg] at hlo hhi
      have HH := Lib.hid hhi; have HL := Lib.hid hlo
      clear hlo hhi
      go_wp2_with fail
      go_meet
      exact ⟨by rw [HL.out], by rw [HH.out], Lib.hid (Below.refl _ _)⟩
  case rest =>
    obtain ⟨rfl, rfl, X0⟩ := hcut
    obtain ⟨pp, hpp⟩ : ∃ pp, pp = n - 1 := ⟨_, rfl⟩
    have e4 : (n : Int) - 1 = (pp : Int) := by have := HN.out; omega
    have HP := Lib.hid hpp
    have bl : lo ≤ hi ∧ hi ≤ m ∧ a ≤ mid ∧ mid < b ∧ a ≤ lo := by have := F.out; omega
    clear hpp e1 u1 g0 g00
    go_wp2_with fail
    go_loopw [20, 21] (fun i j wr => ∃ s r : Nat, lo ≤ s ∧ s ≤ r ∧ r ≤ hi ∧ i = .int .i64 s ∧ j = .int .i64 r ∧ Hid (SymS f q (mid + m) lo hi s r) ∧ Hid (Ext w wr)) (fun i j _ => (intOf j).toNat - (intOf i).toNat)
    case atStart => exact ⟨lo, hi, Nat.le_refl _, by omega, Nat.le_refl _, rfl, rfl, Lib.hid (symS_start _ _ _ (by omega)), X0⟩
    case round =>
      clear X0
      obtain ⟨s, r, hls, hsr, hrh, rfl, rfl, Y1, X1⟩ := hrel
      have R1 : Hid (RowP wr rb q tl) := Lib.hid (HR.out.ext X1.out)
      by_cases hlt : s < r
      · obtain ⟨c, hc⟩ : ∃ c, c = (s + r) / 2 := ⟨_, rfl⟩
        have hx : s ≤ c := by omega
        have hy : c < r := by omega
        have g1 : decide (s < r) = true := by simpa using hlt
        have u1 : IntKind.u64.wrap ((s : Int) + (r : Int)) = (s : Int) + (r : Int) := wrapU (by omega) (by omega)
        have e1 : ((s : Int) + (r : Int)) / 2 = (c : Int) := by omega
        obtain ⟨pc, hpc⟩ : ∃ pc, pc = pp - c := ⟨_, rfl⟩
        have h5 : (pp : Int) - (c : Int) = (pc : Int) := by have := HP.out; have := HN.out; have := F.out; omega
        have e5 : IntKind.i64.wrap ((pp : Int) - (c : Int)) = (pc : Int) := by rw [h5]; exact wrapK (by omega) (by omega)
        have hpL : pc < L := by have := HP.out; have := HN.out; have := F.out; omega
        have HPC : Hid (pc = mid + m - 1 - c) := Lib.hid (by have := HP.out; have := HN.out; omega)
        clear hc hpc h5
        have kk := HK.out.ext X1.out
        have k1 := kk.cell (i := pc) (by have := RL.out; omega); have k2 := kk.cell (i := c) (by have := RL.out; omega)
        have c1 := R1.out.cell (i := pc) (by have := RL.out; omega); have c2 := R1.out.cell (i := c) (by have := RL.out; omega)
        obtain ⟨p1, hp1⟩ : ∃ p, q.getD pc 0 = p := ⟨_, rfl⟩
        obtain ⟨p2, hp2⟩ : ∃ p, q.getD c 0 = p := ⟨_, rfl⟩
        rw [hp1] at k1 c1; rw [hp2] at k2 c2
        obtain ⟨cc, hcc⟩ : ∃ cc, cmpI (keyAt f q pc) (keyAt f q c) = cc := ⟨_, rfl⟩
        have CK := Lib.hid (fun p : ExtBy wr => cmpK_calls p1 p2 (keyAt f q pc) (keyAt f q c) p.W (ExtBy.cell k1 p) (ExtBy.cell k2 p))
        rw [hcc] at CK
        have HCC : Hid (cc < 0 ↔ keyAt f q pc < keyAt f q c) := Lib.hid (by rw [← hcc]; exact cmpI_lt _ _)
        replace c1 := ExtBy.cell c1; replace c2 := ExtBy.cell c2
        have y0 : (0 : Int) ≤ (pc : Int) := by omega
        have y1 : (pc : Int) < (L : Int) := by omega
        have z0 : (0 : Int) ≤ (c : Int) := by omega
        have z1 : (c : Int) < (L : Int) := by omega
        clear kk k1 k2 hp1 hp2 hcc
        go_wp2_with fail
        refine wp_region_ext (by kernel_rfl) (by kernel_rfl) ?_
        repeat (go_big_quiet_step ((with_reducible exact Calls.ext_of _ (CK.out _))))
        refine wpQuiet_nil ?_
        intro wc hw'
        have XC : Hid (Ext wr wc) := Lib.hid (by obtain ⟨p, rfl⟩ := hw'; exact p.ext)
        clear hw' CK c1 c2 y0 y1 z0 z1
        clear e1 u1 e5
        by_cases hcc : cc < 0
        · have HLT := Lib.hid (HCC.out.1 hcc)
          have g3 : (!decide (cc < 0)) = false := by simpa using hcc
          clear HCC
          go_wp2_with fail
          all_goals first | (exfalso; omega) | (exfalso; rename_i hh; simp at hh; omega) | skip
          exact ⟨⟨s, c, hls, by omega, by omega, rfl, rfl, Lib.hid (symS_left SB.out S1.out S2.out Y1.out hx hy (by rw [← HPC.out]; exact HLT.out)), Lib.hid (Ext.trans X1.out XC.out)⟩, by simp [intOf]; omega⟩
        · have HLT : Hid (¬ keyAt f q pc < keyAt f q c) := Lib.hid (fun e => hcc (HCC.out.2 e))
          have g3 : 0 ≤ cc := by omega
          have g4 : (!decide (cc < 0)) = true := by simpa using hcc
          clear HCC hcc
          go_wp2_with fail
          all_goals first | (exfalso; omega) | (exfalso; rename_i hh; simp at hh; omega) | skip
          exact ⟨⟨c + 1, r, by omega, by omega, hrh, by go_num, rfl, Lib.hid (symS_right SB.out S1.out S2.out Y1.out hx hy (by rw [← HPC.out]; exact HLT.out)), Lib.hid (Ext.trans X1.out XC.out)⟩, by simp [intOf]; omega⟩
      · obtain rfl : s = r := by omega
        have g1 : decide (s < s) = false := by simp
        obtain ⟨E, hE⟩ : ∃ E, E = mid + m - s := ⟨_, rfl⟩
        have e6 : (n : Int) - (s : Int) = (E : Int) := by have := HN.out; have := F.out; omega
        have bE : mid ≤ E ∧ E ≤ b ∧ s ≤ mid ∧ s ≤ m ∧ m ≤ E := by have := HN.out; have := F.out; omega
        have HE := Lib.hid hE
        clear hE
        obtain ⟨B1, hB1⟩ : ∃ B : Bool, B = decide (s < m ∧ m < E) := ⟨_, rfl⟩
        have KB1 := Lib.hid hB1
        clear hB1
        go_upto_region 39 with fail
        go_cut [185] (fun v W => v = .bool B1 ∧ Hid (Ext wr W))
        case first =>
          by_cases h1 : s < m
          · have q1 : decide (s < m) = true := by simpa using h1
            by_cases h2 : m < E
            · have q2 : decide (m < E) = true := by simpa using h2
              have Q : Hid (B1 = true) := Lib.hid (by rw [KB1.out]; simp [h1, h2])
              go_wp2_with fail
              go_meet
              exact ⟨by rw [Q.out], Lib.hid (Below.refl _ _)⟩
            · have q2 : decide (m < E) = false := by simpa using h2
              have Q : Hid (B1 = false) := Lib.hid (by rw [KB1.out]; simp [h2])
              go_wp2_with fail
              go_meet
              exact ⟨by rw [Q.out], Lib.hid (Below.refl _ _)⟩
          · have q1 : decide (s < m) = false := by simpa using h1
            have Q : Hid (B1 = false) := Lib.hid (by rw [KB1.out]; simp [h1])
            go_wp2_with fail
            go_meet
            exact ⟨by rw [Q.out], Lib.hid (Below.refl _ _)⟩
        case rest =>
          obtain ⟨rfl, X9⟩ := hcut
          replace R1 := Lib.hid (R1.out.ext X9.out)
          replace X1 := Lib.hid (Ext.trans X1.out X9.out)
          clear X9
          go_upto_if 185 with fail
          go_cut [] from 186 to 191 (fun W => ∃ r, Hid (RowP W rb r tl) ∧ Hid (Via q r (rho s m E)) ∧ Hid (r.Perm q) ∧ Hid (But (fun j => j = rb) w W))
          case first =>
            cases B1
            · have Q2 : Hid (¬ (s < m ∧ m < E)) := Lib.hid (of_decide_eq_false KB1.out.symm)
              go_wp2_with fail
              go_meet
              exact ⟨q, R1, Lib.hid (fun k => by rw [rho_nil (by have := Q2.out; omega) (by omega) (by omega)]), Lib.hid (List.Perm.refl _), Lib.hid (Ext.but X1.out _)⟩
            · have Q2 : Hid (s < m ∧ m < E) := Lib.hid (of_decide_eq_true KB1.out.symm)
              go_wp2_with fail
              refine (rotateK_calls q s m E L cap rb tl _ _ R1.out RL.out Q2.out.1 Q2.out.2 (by omega) hl).mono ?_
              rintro e w2 ⟨rfl, r2, R2, V2, P2, B2⟩
              have R2 := Lib.hid R2; have V2 := Lib.hid V2; have P2 := Lib.hid P2; have B2 := Lib.hid B2
              go_wp2_with fail
              go_meet
              exact ⟨r2, R2, V2, P2, Lib.hid ((Ext.but X1.out (fun _ => False)).trans B2.out (fun _ _ e => e.elim) (fun _ _ e => e))⟩
          case rest =>
            obtain ⟨r, R2, V2, P2, X2⟩ := hcut
            clear R1 X1 KB1
            have T := Lib.hid (sym_turned SB.out S1.out S2.out Y1.out (by rw [← HE.out]; exact V2.out))
            have LR : Hid (r.length = L) := Lib.hid (P2.out.length_eq.trans RL.out)
            obtain ⟨B2, hB2⟩ : ∃ B : Bool, B = decide (a < s ∧ s < mid) := ⟨_, rfl⟩
            have KB2 := Lib.hid hB2
            clear hB2
            go_upto_region 41 with fail
            go_cut [199] (fun v W => v = .bool B2 ∧ Hid (Ext wc W))
            case first =>
              by_cases h1 : a < s
              · have q1 : decide (a < s) = true := by simpa using h1
                by_cases h2 : s < mid
                · have q2 : decide (s < mid) = true := by simpa using h2
                  have Q : Hid (B2 = true) := Lib.hid (by rw [KB2.out]; simp [h1, h2])
                  go_wp2_with fail
                  go_meet
                  exact ⟨by rw [Q.out], Lib.hid (Below.refl _ _)⟩
                · have q2 : decide (s < mid) = false := by simpa using h2
                  have Q : Hid (B2 = false) := Lib.hid (by rw [KB2.out]; simp [h2])
                  go_wp2_with fail
                  go_meet
                  exact ⟨by rw [Q.out], Lib.hid (Below.refl _ _)⟩
              · have q1 : decide (a < s) = false := by simpa using h1
                have Q : Hid (B2 = false) := Lib.hid (by rw [KB2.out]; simp [h1])
                go_wp2_with fail
                go_meet
                exact ⟨by rw [Q.out], Lib.hid (Below.refl _ _)⟩
            case rest =>
              obtain ⟨rfl, X9⟩ := hcut
              replace R2 := Lib.hid (R2.out.ext X9.out)
              replace X2 := Lib.hid (X2.out.trans (Ext.but X9.out (fun j => j = rb)) (fun _ _ e => e) (fun _ _ e => e))
              clear X9
              go_upto_if 199 with fail
              go_cut [] from 200 to 205 (fun W => ∃ t, Hid (RowP W rb t tl) ∧ Hid (Moved r t a mid) ∧ Hid (SortedOn f t a mid) ∧ Hid (But (fun j => j = rb) w W))
              case first =>
                cases B2
                · have Q2 : Hid (¬ (a < s ∧ s < mid)) := Lib.hid (of_decide_eq_false KB2.out.symm)
                  go_wp2_with fail
                  go_meet
                  exact ⟨r, R2, Lib.hid (Moved.refl _ _ _), Lib.hid (sorted_join T.out.1 T.out.2.1 Q2.out (by omega) (by omega)), X2⟩
                · have Q2 : Hid (a < s ∧ s < mid) := Lib.hid (of_decide_eq_true KB2.out.symm)
                  go_wp2_with fail
                  refine (IH.out r a s mid _ (by omega) ⟨R2.out, LR.out, (HK.out.but X2.out).perm P2.out, Q2.out.1, Q2.out.2, by omega, hl, T.out.1, T.out.2.1⟩).mono ?_
                  rintro e w3 ⟨rfl, t, R3, M3, S3, B3⟩
                  have R3 := Lib.hid R3; have M3 := Lib.hid M3; have S3 := Lib.hid S3; have B3 := Lib.hid B3
                  go_wp2_with fail
                  go_meet
                  exact ⟨t, R3, M3, S3, Lib.hid (X2.out.trans B3.out (fun _ _ e => e) (fun _ _ e => e))⟩
              case rest =>
                obtain ⟨t, R3, M3, S3, X3⟩ := hcut
                clear R2 KB2
                have LT : Hid (t.length = L) := Lib.hid (M3.out.len.trans LR.out)
                have RT : Hid (Moved q r a b) := Lib.hid ((via_moved V2.out P2.out (by omega) (by omega)).wide (by omega) (by omega))
                have A3 : Hid (SortedOn f t mid E) := Lib.hid (by rw [HE.out]; exact T.out.2.2.1.apart M3.out (.inr (Nat.le_refl _)))
                have B3 : Hid (SortedOn f t E b) := Lib.hid (by rw [HE.out]; exact T.out.2.2.2.1.apart M3.out (.inr (by have := HE.out; omega)))
                obtain ⟨B4, hB4⟩ : ∃ B : Bool, B = decide (mid < E ∧ E < b) := ⟨_, rfl⟩
                have KB4 := Lib.hid hB4
                clear hB4
                go_upto_region 43 with fail
                go_cut [213] (fun v W => v = .bool B4 ∧ Hid (Ext wc W))
                case first =>
                  by_cases h1 : mid < E
                  · have q1 : decide (mid < E) = true := by simpa using h1
                    by_cases h2 : E < b
                    · have q2 : decide (E < b) = true := by simpa using h2
                      have Q : Hid (B4 = true) := Lib.hid (by rw [KB4.out]; simp [h1, h2])
                      go_wp2_with fail
                      go_meet
                      exact ⟨by rw [Q.out], Lib.hid (Below.refl _ _)⟩
                    · have q2 : decide (E < b) = false := by simpa using h2
                      have Q : Hid (B4 = false) := Lib.hid (by rw [KB4.out]; simp [h2])
                      go_wp2_with fail
                      go_meet
                      exact ⟨by rw [Q.out], Lib.hid (Below.refl _ _)⟩
                  · have q1 : decide (mid < E) = false := by simpa using h1
                    have Q : Hid (B4 = false) := Lib.hid (by rw [KB4.out]; simp [h1])
                    go_wp2_with fail
                    go_meet
                    exact ⟨by rw [Q.out], Lib.hid (Below.refl _ _)⟩
                case rest =>
                  obtain ⟨rfl, X9⟩ := hcut
                  replace R3 := Lib.hid (R3.out.ext X9.out)
                  replace X3 := Lib.hid (X3.out.trans (Ext.but X9.out (fun j => j = rb)) (fun _ _ e => e) (fun _ _ e => e))
                  clear X9
                  cases B4
                  · have Q2 : Hid (¬ (mid < E ∧ E < b)) := Lib.hid (of_decide_eq_false KB4.out.symm)
                    have E4 := Lib.hid (sym_end (by omega) (by omega) T.out.2.2.2.2 M3.out S3.out (Moved.refl t mid b) (sorted_join A3.out B3.out Q2.out (by omega) (by omega)))
                    go_wp2_with fail
                    go_end0
                    exact ⟨rfl, t, R3.out, RT.out.trans E4.out.2, E4.out.1, X3.out⟩
                  · have Q2 : Hid (mid < E ∧ E < b) := Lib.hid (of_decide_eq_true KB4.out.symm)
                    go_wp2_with fail
                    refine (IH.out t mid E b _ (by omega) ⟨R3.out, LT.out, (HK.out.but X3.out).perm (M3.out.perm.trans P2.out), Q2.out.1, Q2.out.2, hb, hl, A3.out, B3.out⟩).mono ?_
                    rintro e w4 ⟨rfl, v, R4, M4, S4, B4⟩
                    have E4 := Lib.hid (sym_end (by omega) (by omega) T.out.2.2.2.2 M3.out S3.out M4 S4)
                    have R4 := Lib.hid R4; have B4 := Lib.hid B4
                    clear M4 S4
                    go_wp2_with fail
                    go_end0
                    exact ⟨rfl, v, R4.out, RT.out.trans E4.out.2, E4.out.1, X3.out.trans B4.out (fun _ _ e => e) (fun _ _ e => e)⟩
theorem symMergeK_calls (f : Nat → Int) (L cap rb : Nat) (tl : List Value) : ∀ (d : Nat) (q : List Nat) (a m b : Nat) (w : World), b - a ≤ d → SymIn f q a m b L rb tl w →
    Calls Tryz.prog 85 #[.slice (some ⟨rb, 0, none⟩) L cap, .int .i64 a, .int .i64 m, .int .i64 b, .func (.func 27) #[] #[]] w (SortPost f q a b rb tl w)
  | 0, q, a, m, b, w, hd, hI => by have := hI.am; have := hI.mb; omega
  | d + 1, q, a, m, b, w, hd, hI => by
    by_cases h1 : m = a + 1
    · exact symOne_calls f q a m b L cap rb tl w hI h1
    · by_cases h2 : b = m + 1
      · exact symLast_calls f q a m b L cap rb tl w hI h1 h2
      · exact symStep_calls f q a m b L cap rb tl w hI h1 h2 (fun q a' m' b' w hlt hI' => symMergeK_calls f L cap rb tl d q a' m' b' w (by omega) hI')
end Go.Proofs.YtbnclifpdmpjnaaGreatDoor

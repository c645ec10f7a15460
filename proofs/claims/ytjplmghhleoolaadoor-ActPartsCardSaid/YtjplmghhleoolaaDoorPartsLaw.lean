/- Acts done in two parts: plain law. -/
import Derived.Test.YtjplmghhleoolaaDoorDo2
namespace Go.Proofs.YtjplmghhleoolaaDoor

structure Rel (s t s' t' : St) : Prop where
  is : s'.is = t'.is
  value : s'.value = t'.value
  more : ∃ (X : List Rd) (Y : Bool), s'.reads = s.reads ++ X ∧ t'.reads = t.reads ++ X ∧ s'.put = (s.put || Y) ∧ t'.put = (t.put || Y) ∧ (Y = false → s'.value = s.value ∧ s'.is = s.is) ∧ (Y = true → s'.is = true)

theorem Rel.step (s t : St) (a : ActD) (hi : s.is = t.is) (hv : s.value = t.value) : Rel s t (s.step a) (t.step a) := by
  unfold St.step
  split
  · exact ⟨hi, hv, [⟨a.key, s.is, s.value⟩], false, rfl, by simp [St.get, hi, hv], by simp [St.get], by simp [St.get], fun _ => ⟨rfl, rfl⟩, fun h => by cases h⟩
  · split
    · exact ⟨rfl, rfl, [], true, by simp [St.puts], by simp [St.puts], by simp [St.puts], by simp [St.puts], fun h => by (cases h), fun _ => rfl⟩
    · split
      · exact ⟨rfl, by simp [St.puts, hv], [⟨a.key, s.is, s.value⟩], true, rfl, by simp [St.get, St.puts, hi, hv], by simp [St.puts], by simp [St.puts], fun h => by (cases h), fun _ => rfl⟩
      · exact ⟨hi, hv, [], false, by simp, by simp, by simp, by simp, fun _ => ⟨rfl, rfl⟩, fun h => by cases h⟩
theorem Rel.after (l : List ActD) : ∀ (s t : St), s.is = t.is → s.value = t.value → Rel s t (s.after l) (t.after l) := by
  induction l with
  | nil => intro s t hi hv; exact ⟨hi, hv, [], false, by simp [St.after], by simp [St.after], by simp [St.after], by simp [St.after], fun _ => ⟨rfl, rfl⟩, fun h => by cases h⟩
  | cons a l ih =>
    intro s t hi hv
    obtain ⟨i1, v1, X, Y, r1, r2, p1, p2, f1, g1⟩ := Rel.step s t a hi hv
    obtain ⟨i2, v2, X', Y', r3, r4, p3, p4, f2, g2⟩ := ih _ _ i1 v1
    refine ⟨i2, v2, X ++ X', Y || Y', ?_, ?_, ?_, ?_, fun h => ?_, fun h => ?_⟩
    · show ((s.step a).after l).reads = _
      rw [r3, r1, List.append_assoc]
    · show ((t.step a).after l).reads = _
      rw [r4, r2, List.append_assoc]
    · show ((s.step a).after l).put = _
      rw [p3, p1, Bool.or_assoc]
    · show ((t.step a).after l).put = _
      rw [p4, p2, Bool.or_assoc]
    · simp only [Bool.or_eq_false_iff] at h
      have a1 := f1 h.1; have a2 := f2 h.2
      exact ⟨a2.1.trans a1.1, a2.2.trans a1.2⟩
    · cases hY : Y' with
      | true => exact g2 hY
      | false =>
        rw [hY, Bool.or_false] at h
        exact (f2 hY).2.trans (g1 h)

/-- What stands behind the first part. -/
def hasD (is : Bool) (value : ByteArray) (l : List ActD) : Bool := if (doRes is value l).put then true else is
def standsD (is : Bool) (value : ByteArray) (l : List ActD) : ByteArray := if (doRes is value l).put then doAfter is value l else value
theorem parts_law (is : Bool) (value : ByteArray) (l1 l2 : List ActD) :
    (doRes is value (l1 ++ l2)).reads = (doRes is value l1).reads ++ (doRes (hasD is value l1) (standsD is value l1) l2).reads ∧
    (doRes is value (l1 ++ l2)).put = ((doRes is value l1).put || (doRes (hasD is value l1) (standsD is value l1) l2).put) ∧
    doAfter is value (l1 ++ l2) = (if (doRes (hasD is value l1) (standsD is value l1) l2).put then doAfter (hasD is value l1) (standsD is value l1) l2 else if (doRes is value l1).put then doAfter is value l1 else noBytes) := by
  have e0 : doRes is value (l1 ++ l2) = (doRes is value l1).after l2 := by unfold doRes St.after; rw [List.foldl_append]
  obtain ⟨_, _, X0, Y0, _, _, p0, _, f0, g0⟩ := Rel.after l1 (St.begin is value) (St.begin is value) rfl rfl
  have hA : (St.begin is value).after l1 = doRes is value l1 := rfl
  rw [hA] at p0 f0 g0
  have hp : (doRes is value l1).put = Y0 := by rw [p0]; simp [St.begin]
  have hi : (doRes is value l1).is = (St.begin (hasD is value l1) (standsD is value l1)).is := by
    unfold hasD
    rw [hp]
    cases hY : Y0 with
    | true => exact g0 hY
    | false => exact (f0 hY).2
  have hv : (doRes is value l1).value = (St.begin (hasD is value l1) (standsD is value l1)).value := by
    unfold hasD standsD doAfter St.begin
    rw [hp]
    cases hY : Y0 with
    | true => simp
    | false => simpa [St.begin] using (f0 hY).1
  obtain ⟨_, v2, X, Y, r1, r2, p1, p2, f1, _⟩ := Rel.after l2 (doRes is value l1) (St.begin (hasD is value l1) (standsD is value l1)) hi hv
  have hB : (St.begin (hasD is value l1) (standsD is value l1)).after l2 = doRes (hasD is value l1) (standsD is value l1) l2 := rfl
  rw [hB] at r2 p2 v2
  have hpB : (doRes (hasD is value l1) (standsD is value l1) l2).put = Y := by rw [p2]; simp [St.begin]
  refine ⟨by rw [e0, r1, r2]; simp [St.begin], by rw [e0, p1, hpB], ?_⟩
  unfold doAfter at *
  rw [e0, p1, hpB, hp, v2]
  cases hY : Y with
  | true => simp
  | false =>
    cases Y0 with
    | true => simp only [Bool.or_false, if_true, Bool.false_eq_true, if_false]; rw [← v2]; exact (f1 hY).1
    | false => simp
end Go.Proofs.YtjplmghhleoolaaDoor

/- awake: the example that every statement of layer 14 looks at first. -/
import Derived.Test.YtjplmghhleoolaaGreatDoorRights
import Derived.Test.YtjplmghhleoolaaGreatDoorDo2
namespace Go.Proofs.YtjplmghhleoolaaGreatDoor
open Go.RowKit

def kB : ByteArray := ⟨#[107]⟩
def fiveB : ByteArray := ⟨#[53]⟩
def exActs : List ActD := [⟨1, kB, noBytes, 0⟩, ⟨3, kB, noBytes, 2⟩, ⟨1, kB, noBytes, 0⟩]
theorem ex_reads : (doRes true fiveB exActs).reads = [⟨kB, true, fiveB⟩, ⟨kB, true, fiveB⟩, ⟨kB, true, ⟨#[55]⟩⟩] := by kernel_rfl
theorem ex_put : (doRes true fiveB exActs).put = true := by kernel_rfl
theorem ex_after : doAfter true fiveB exActs = ⟨#[55]⟩ := by kernel_rfl
theorem ex_right : rightsB exActs = true := by kernel_rfl
theorem ex_ok : ∀ a ∈ exActs, a.ok := by
  intro a ha
  simp only [exActs, List.mem_cons, List.not_mem_nil, or_false] at ha
  rcases ha with rfl | rfl | rfl <;> simp [ActD.ok, kB, noBytes, ByteArray.size]

theorem Rows.fresh {α : Type} {sz : Nat} {enc : α → List Value} (hsz : ∀ x, (enc x).length = sz) (l : List α) (w : World) (t : TypeId) : Rows sz enc (w.alloc (.cells (l.flatMap enc).toArray t)).heap.size (w.alloc (.cells (l.flatMap enc).toArray t)) (some ⟨w.heap.size, 0, none⟩) l := by
  intro _
  refine ⟨_, 0, rfl, by simp, fun i x hi j v hj => ?_⟩
  rw [(Blk.new w (l.flatMap enc) t).cell, Nat.zero_add]
  exact flat_at hsz l i x hi j v hj

set_option maxRecDepth 100000 in
theorem awake_calls {B : Nat} (hR : RightOne) (w : World) (hv : LV B w) (hB : B ≤ w.heap.size) : Calls Tryz.prog 5 #[] w fun e w' => e = .returned (.bool true) ∧ Ext w w' := by
  have HV := Lib.hid hv; have HF := Lib.hid hR
  clear hv hR
  go_enter Tryz.func5, Tryz.ntmps5
  go_wp2_with fail
  have hrow := Rows.fresh (enc := encAct) (sz := 4) (fun _ => rfl) exActs w 51
  have hext : Ext w (w.alloc (.cells (exActs.flatMap encAct).toArray 51)) := (Below.refl _ w).alloc (Nat.le_refl _) _
  have e0 : (w.alloc (.cells (exActs.flatMap encAct).toArray 51)) = w.alloc (.cells #[.int .u8 1, .string ⟨#[107]⟩, .string ⟨#[]⟩, .int .i64 0, .int .u8 3, .string ⟨#[107]⟩, .string ⟨#[]⟩, .int .i64 2, .int .u8 1, .string ⟨#[107]⟩, .string ⟨#[]⟩, .int .i64 0] 51) := rfl
  rw [e0] at hrow hext
  generalize w.alloc _ = W0 at *
  generalize w.heap.size = N at hrow ⊢
  have H1 := Lib.hid hrow; have H2 := Lib.hid hext
  clear hrow hext e0
  refine (do_calls true ⟨#[53]⟩ exActs (some ⟨N, 0, none⟩) 3 W0 (HV.out.ext H2.out) (Nat.le_trans hB H2.out.size) (by decide) (by decide) ex_ok H1.out).mono ?_
  rintro e w1 ⟨rv, rfl, hown, -, hx1⟩
  have hown' : w1.ownsRow 0 53 3 rv [(⟨kB, true, fiveB⟩ : Rd), ⟨kB, true, fiveB⟩, ⟨kB, true, ⟨#[55]⟩⟩].length ([(⟨kB, true, fiveB⟩ : Rd), ⟨kB, true, fiveB⟩, ⟨kB, true, ⟨#[55]⟩⟩].flatMap encRd) := by rw [← ex_reads]; exact hown
  obtain ⟨ao, rcap, rfl, -, -, hrr⟩ := Rows.own (enc := encRd) (sz := 3) (fun _ => rfl) hown'
  obtain ⟨b, off, rfl, hb, hc⟩ := hrr (by simp)
  rw [show (doRes true ⟨#[53]⟩ exActs).put = true from ex_put, show doAfter true ⟨#[53]⟩ exActs = ⟨#[55]⟩ from ex_after]
  have r0 := hc 0 _ rfl 2 _ rfl
  have r1 := hc 1 _ rfl 2 _ rfl
  have r2 := hc 2 _ rfl 2 _ rfl
  have H3 := Lib.hid hx1
  clear hown hown' hrr hx1 hc
  simp only [Nat.zero_mul, Nat.add_zero, Nat.one_mul, Nat.reduceMul, Nat.add_assoc, Nat.reduceAdd, fiveB, List.length_cons, List.length_nil] at r0 r1 r2 ⊢
  go_wp2_with fail
  refine (rights_calls HF.out exActs (some ⟨N, 0, none⟩) 3 _ (by decide) ex_ok ((H1.out.ext H3.out).mono H3.out.size)).mono ?_
  rintro e w2 ⟨rfl, hx2⟩
  rw [ex_right]
  have H4 := Lib.hid hx2; clear hx2
  go_wp2_with fail
  go_ret
  exact ⟨ret_bool rfl, Ext.trans H2.out (Ext.trans H3.out H4.out)⟩
end Go.Proofs.YtjplmghhleoolaaGreatDoor

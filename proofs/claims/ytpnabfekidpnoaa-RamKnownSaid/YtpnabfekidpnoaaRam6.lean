/-
  New of a memory.
-/
import Derived.Test.YtpnabfekidpnoaaRam5
import Derived.Carry
namespace Go.Proofs.Ytpnabfekidpnoaa
open Go Go.RowKit

/-- What New takes. -/
def goodR (base size : Nat) : Bool := base % 4096 == 0 && size % 4096 == 0 && size != 0 && decide (size ≤ 67108864) && decide (base ≤ 9223372036854775808 - size)
theorem goodR_true {base size : Nat} (h : goodR base size = true) : base % 4096 = 0 ∧ size % 4096 = 0 ∧ 0 < size ∧ size ≤ 67108864 ∧ base + size ≤ 9223372036854775808 := by
  unfold goodR at h
  simp at h
  omega
def zeroM : Nat → Nat := fun _ => 0
set_option maxRecDepth 100000 in
set_option maxHeartbeats 1000000 in
theorem new_c (w : World) (base size : Nat) (h : goodR base size = true) :
    Calls Try.prog 9 #[.int .u64 (base : Int), .int .u64 (size : Int)] w fun r w' => ∃ b, r = .returned (.tuple #[.pointer (some ⟨b, 0, none⟩), .int .i64 0]) ∧ RAt w' b base size zeroM 0 (Plus No w w') ∧ Fr No w w' := by
  obtain ⟨h1, h2, h3, h4, h5⟩ := goodR_true h
  have d1 : ((base : Int) % 4096 != 0) = false := by simp; omega
  have d2 : ((size : Int) % 4096 != 0) = false := by simp; omega
  have d3 : ((size : Int) == 0) = false := by simp; omega
  have d4 : decide ((67108864 : Int) < (size : Int)) = false := by rw [decide_eq_false_iff_not]; omega
  have d4' : decide (67108864 < size) = false := by rw [decide_eq_false_iff_not]; omega
  have w1 : IntKind.u64.wrap ((9223372036854775808 : Int) - (size : Int)) = 9223372036854775808 - (size : Int) := by rw [IntKind.wrap_u64]; omega
  have d5 : decide ((9223372036854775808 : Int) - (size : Int) < (base : Int)) = false := by rw [decide_eq_false_iff_not]; omega
  have hmm := @run_makeMap Try.prog
  have dd : decide (IntKind.u64.wrap ((9223372036854775808 : Int) - (size : Int)) < (base : Int)) = false := by rw [w1]; exact d5
  clear h h1 h2 h3 h4 h5 w1 d5
  go_enter Try.func9, Try.ntmps9
  go_wp2_with fail
  go_ret2
  have hb0 : Blk ((w.alloc (.map #[] 0)).alloc (.cells #[.int .u64 (base : Int), .int .u64 (size : Int), .map (some w.heap.size)] 63)) (w.heap.size + 1) 63 #[.int .u64 (base : Int), .int .u64 (size : Int), .map (some w.heap.size)] := by
    have := Blk.new (w.alloc (.map #[] 0)) 63 #[.int .u64 (base : Int), .int .u64 (size : Int), .map (some w.heap.size)]
    simpa using this
  refine ⟨w.heap.size + 1, rfl, ⟨w.heap.size, .map [], fun _ => none, hb0, (World.ownsMap_made w _ _ pgElem).alloc _, fun p => ⟨rfl, rfl⟩, (fun p B h => by cases h), (fun p p' B h => by cases h), (fun _ _ _ _ => rfl), (fun a => show (0 : Nat) < 256 by omega), by omega, ?_, ?_⟩, ((Fr.refl No w).alloc _).alloc _⟩
  · exact .inr ⟨by omega, by simp⟩
  · exact .inr ⟨by omega, by simp; omega⟩
set_option maxRecDepth 100000 in
set_option maxHeartbeats 1000000 in
theorem new_bad (w : World) (base size : Nat) (h : goodR base size = false) (hb : base < 18446744073709551616) (hs : size < 18446744073709551616) :
    Calls Try.prog 9 #[.int .u64 (base : Int), .int .u64 (size : Int)] w fun r w' => r = .returned (.tuple #[.pointer none, .int .i64 1]) ∧ w' = w := by
  have H := Lib.hid h
  have HB := Lib.hid (And.intro hb hs)
  clear h hb hs
  go_enter Try.func9, Try.ntmps9
  go_wp2_with fail
  all_goals first
    | (go_ret2
       exact ⟨rfl, rfl⟩)
    | (exfalso
       have h := H.out
       have hb := HB.out
       unfold goodR at h
       simp at h
       have h2 := h (by omega) (by omega) (by omega) (by omega)
       omega)
end Go.Proofs.Ytpnabfekidpnoaa

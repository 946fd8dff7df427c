/-
  slices.Sort of at most twelve numbers.
-/
import Derived.Test.YtpnabfekidpnoaaRamS2
namespace Go.Proofs.Ytpnabfekidpnoaa
open Go Go.RowKit

set_option maxRecDepth 100000 in
theorem insertion_nil (w : World) : Calls Try.prog 47 #[.slice none 0 0, .int .i64 0, .int .i64 0] w fun r w' => r = .returned (.tuple #[]) ∧ w' = w := by
  go_enter Try.func47, Try.ntmps47
  go_wp2_with fail
  go_loopw [6] (fun pi wr => pi = .int .i64 1 ∧ wr = w) (fun pi _ => 0)
  case atStart => exact ⟨rfl, rfl⟩
  case round =>
    obtain ⟨rfl, hwr⟩ := hrel
    subst hwr
    go_wp2_with fail
    go_end0
    exact ⟨rfl, rfl⟩
set_option maxRecDepth 100000 in
set_option maxHeartbeats 1000000 in
theorem pdq_c (w : World) (v : Value) (n : Nat) (lim : Int) (hn : n ≤ 12) (hv : ∃ a c, v = .slice a n c) (R : World → Prop)
    (h : Calls Try.prog 47 #[v, .int .i64 0, .int .i64 (n : Int)] w fun r w' => r = .returned (.tuple #[]) ∧ R w') :
    Calls Try.prog 43 #[v, .int .i64 0, .int .i64 (n : Int), .int .i64 lim] w fun r w' => r = .returned (.tuple #[]) ∧ R w' := by
  obtain ⟨a, c, rfl⟩ := hv
  have H := Lib.hid h
  have d1 : decide ((n : Int) ≤ 12) = true := by rw [decide_eq_true_iff]; omega
  have d2 : decide (n ≤ 12) = true := decide_eq_true hn
  clear h
  go_enter Try.func43, Try.ntmps43
  go_wp2_with fail
  go_loopw [1, 2, 3] (fun s1 s2 s3 wr => s1 = .int .i64 0 ∧ s2 = .int .i64 (n : Int) ∧ s3 = .int .i64 lim ∧ wr = w) (fun _ _ _ _ => 0)
  case atStart => exact ⟨rfl, rfl, rfl, rfl⟩
  case round =>
    obtain ⟨rfl, rfl, rfl, hwr⟩ := hrel
    subst hwr
    go_wp2_with (go_at_call 47; refine H.out.mono ?_; rintro r w1 ⟨rfl, hR⟩)
    refine bodyPost_ret (results_none rfl _ _ _) rfl ?_
    exact ⟨rfl, hR⟩
set_option maxRecDepth 100000 in
set_option maxHeartbeats 1000000 in
theorem sort_c (w : World) (v : Value) (n : Nat) (hn : n ≤ 12) (hv : ∃ a c, v = .slice a n c) (R : World → Prop)
    (h : Calls Try.prog 47 #[v, .int .i64 0, .int .i64 (n : Int)] w fun r w' => r = .returned (.tuple #[]) ∧ R w') :
    Calls Try.prog 33 #[v] w fun r w' => r = .returned (.tuple #[]) ∧ R w' := by
  have HP := Lib.hid (fun lim => pdq_c w v n lim hn hv R h)
  obtain ⟨a, c, rfl⟩ := hv
  have HL := Lib.hid (len_c w n hn)
  have e1 : IntKind.u64.wrap (n : Int) = (n : Int) := by rw [IntKind.wrap_u64]; omega
  clear h
  go_enter Try.func33, Try.ntmps33
  go_wp2_with (first
    | (go_at_call 44; refine HL.out.mono ?_; rintro r w1 ⟨⟨k, rfl⟩, rfl⟩)
    | (go_at_call 43; refine (HP.out _).mono ?_; rintro r w2 ⟨rfl, hR⟩))
  go_end0
  exact ⟨rfl, hR⟩
/-- Numbers are sorted. -/
theorem sort_row (w : World) (g o c sz : Nat) (l : List Nat) (h : URow w g o l sz) (hn : l.length ≤ 12) (hc : l.length ≤ c) :
    Calls Try.prog 33 #[.slice (some ⟨g, o, none⟩) l.length c] w fun r w' => r = .returned (.tuple #[]) ∧ ∃ l', URow w' g o l' sz ∧ l'.Perm l ∧ l'.Pairwise (· ≤ ·) ∧ Fr (One g) w w' :=
  sort_c w _ l.length hn ⟨_, _, rfl⟩ (fun w' => ∃ l', URow w' g o l' sz ∧ l'.Perm l ∧ l'.Pairwise (· ≤ ·) ∧ Fr (One g) w w') (insertion_c w g o c sz l h hn hc)
theorem sort_nil (w : World) : Calls Try.prog 33 #[.slice none 0 0] w fun r w' => r = .returned (.tuple #[]) ∧ w' = w :=
  sort_c w _ 0 (by omega) ⟨_, _, rfl⟩ (fun w' => w' = w) (insertion_nil w)
end Go.Proofs.Ytpnabfekidpnoaa

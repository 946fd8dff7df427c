/-
  The numbers of the bits that are 1, as plain data. No program in sight.
-/
import Derived.Test.YtpnabfekidpnoaaDoorBase
import Derived.Lib.TrailingZeros
namespace Go.Proofs.YtpnabfekidpnoaaDoor
open Go Go.RowKit

/-- The numbers of the bits that are 1, the lowest first: of `f` bits, the lowest of which bears the number `i`. -/
def onesFrom : Nat → Nat → Nat → List Nat
  | 0, _, _ => []
  | f + 1, i, x => if x % 2 = 1 then i :: onesFrom f (i + 1) (x / 2) else onesFrom f (i + 1) (x / 2)
theorem onesFrom_succ (f i x : Nat) : onesFrom (f + 1) i x = if x % 2 = 1 then i :: onesFrom f (i + 1) (x / 2) else onesFrom f (i + 1) (x / 2) := rfl
/-- The numbers of a word's bits that are 1. -/
def ones (x : Nat) : List Nat := onesFrom 64 0 x

theorem onesFrom_mem : ∀ (f i x j : Nat), j ∈ onesFrom f i x ↔ i ≤ j ∧ j < i + f ∧ x.testBit (j - i) = true
  | 0, i, x, j => by simp [onesFrom]; omega
  | f + 1, i, x, j => by
    have ih := onesFrom_mem f (i + 1) (x / 2) j
    have h0 : x.testBit 0 = decide (x % 2 = 1) := Nat.testBit_zero x
    have hs : i + 1 ≤ j → x.testBit (j - i) = (x / 2).testBit (j - (i + 1)) := fun h => by
      rw [show j - i = (j - (i + 1)) + 1 by omega, Nat.testBit_succ]
    unfold onesFrom
    split
    · rename_i h1
      rw [List.mem_cons, ih]
      constructor
      · rintro (rfl | ⟨h2, h3, h4⟩)
        · exact ⟨Nat.le_refl _, by omega, by rw [Nat.sub_self, h0]; simpa using h1⟩
        · exact ⟨by omega, by omega, by rw [hs h2]; exact h4⟩
      · rintro ⟨h2, h3, h4⟩
        by_cases hj : j = i
        · exact .inl hj
        · exact .inr ⟨by omega, by omega, by rw [← hs (by omega)]; exact h4⟩
    · rename_i h1
      rw [ih]
      constructor
      · rintro ⟨h2, h3, h4⟩
        exact ⟨by omega, by omega, by rw [hs h2]; exact h4⟩
      · rintro ⟨h2, h3, h4⟩
        have hj : j ≠ i := by
          rintro rfl
          rw [Nat.sub_self, h0] at h4
          exact h1 (by simpa using h4)
        exact ⟨by omega, by omega, by rw [← hs (by omega)]; exact h4⟩
theorem ones_mem (x j : Nat) : j ∈ ones x ↔ j < 64 ∧ x.testBit j = true := by
  unfold ones
  rw [onesFrom_mem]
  simp
theorem onesFrom_zero : ∀ (f i : Nat), onesFrom f i 0 = []
  | 0, _ => rfl
  | f + 1, i => by
    unfold onesFrom
    rw [if_neg (by omega)]
    exact onesFrom_zero f (i + 1)
theorem ones_zero : ones 0 = [] := onesFrom_zero 64 0
/-- Zeros are passed over. -/
theorem onesFrom_skip : ∀ (k f i m : Nat), onesFrom (k + f) i (2 ^ k * m) = onesFrom f (i + k) m
  | 0, f, i, m => by simp
  | k + 1, f, i, m => by
    have e : 2 ^ (k + 1) * m = 2 * (2 ^ k * m) := by rw [Nat.pow_succ, Nat.mul_comm (2 ^ k) 2, Nat.mul_assoc]
    rw [e, show k + 1 + f = (k + f) + 1 by omega]
    have hd := Nat.mul_div_cancel_left (2 ^ k * m) (show 0 < 2 by omega)
    have hr := Nat.mul_mod_right 2 (2 ^ k * m)
    have ih := onesFrom_skip k f (i + 1) m
    generalize 2 ^ k * m = y at hd hr ih ⊢
    rw [onesFrom_succ, if_neg (by omega), hd, ih, show i + 1 + k = i + (k + 1) by omega]
/-- A word that is not 0: its lowest bit, and the rest. -/
theorem ones_step (x : Nat) (h0 : x ≠ 0) (hx : x < 18446744073709551616) : Lib.ctz 64 x < 64 ∧ ones x = Lib.ctz 64 x :: ones (x &&& (x - 1)) := by
  obtain ⟨m, hm, hk⟩ := Lib.ctzFrom_spec 64 x (by omega) (by simpa using hx)
  have hc : Lib.ctz 64 x = Lib.ctzFrom 64 x := by unfold Lib.ctz; rw [if_neg h0]
  rw [hc]
  generalize Lib.ctzFrom 64 x = k at hm hk ⊢
  refine ⟨hk, ?_⟩
  have hand : x &&& (x - 1) = 2 ^ (k + 1) * m := by
    have e1 : x = 2 ^ k * (2 * m + 1) + 0 := by rw [hm]; rfl
    have hp : 0 < 2 ^ k := Nat.pow_pos (by omega)
    have e2 : x - 1 = 2 ^ k * (2 * m) + (2 ^ k - 1) := by rw [hm, Nat.mul_add]; omega
    have e3 : 2 ^ (k + 1) * m = 2 ^ k * (2 * m) + 0 := by rw [Nat.pow_succ, Nat.mul_assoc]; rfl
    apply Nat.eq_of_testBit_eq
    intro j
    rw [Nat.testBit_and]
    rw [e2, e3]
    conv => lhs; lhs; rw [e1]
    rw [Nat.testBit_two_pow_mul_add _ hp, Nat.testBit_two_pow_mul_add _ (by omega), Nat.testBit_two_pow_mul_add _ hp]
    by_cases hj : j < k
    · simp [hj]
    · rw [if_neg hj, if_neg hj, if_neg hj]
      cases j - k with
      | zero => simp [Nat.testBit_zero]
      | succ i => rw [Nat.testBit_succ, Nat.testBit_succ, show (2 * m + 1) / 2 = m by omega, show 2 * m / 2 = m by omega, Bool.and_self]
  rw [hand]
  unfold ones
  obtain ⟨f, hf⟩ : ∃ f, 64 = k + (f + 1) := ⟨64 - k - 1, by omega⟩
  rw [hm, hf, onesFrom_skip, show k + (f + 1) = (k + 1) + f by omega, onesFrom_skip]
  rw [onesFrom_succ, if_pos (by omega), show (2 * m + 1) / 2 = m by omega, Nat.zero_add, Nat.zero_add]
theorem onesFrom_len : ∀ (f i x : Nat), (onesFrom f i x).length ≤ f
  | 0, _, _ => Nat.le_refl _
  | f + 1, i, x => by
    unfold onesFrom
    have := onesFrom_len f (i + 1) (x / 2)
    split
    · simp only [List.length_cons]; omega
    · omega
theorem ones_len (x : Nat) : (ones x).length ≤ 64 := onesFrom_len 64 0 x
end Go.Proofs.YtpnabfekidpnoaaDoor

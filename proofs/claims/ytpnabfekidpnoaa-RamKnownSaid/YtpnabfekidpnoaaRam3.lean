/-
  Numbers of a memory: their widths, their bytes.
-/
import Derived.Test.YtpnabfekidpnoaaRam2
import Derived.Laws.BitsAllLaws
namespace Go.Proofs.Ytpnabfekidpnoaa
open Go Go.RowKit

def widthR (n : Int) : Bool := n == 1 || n == 2 || n == 4 || n == 8
set_option maxRecDepth 100000 in
theorem width_c (w : World) (n : Int) : Calls Try.prog 28 #[.int .i64 n] w fun r w' => r = .returned (.bool (widthR n)) ∧ w' = w := by
  go_enter Try.func28, Try.ntmps28
  go_wp2_with fail
  all_goals
    go_ret
    refine ⟨?_, rfl⟩
    unfold widthR
    simp_all
set_option maxRecDepth 100000 in
theorem bwidth_c (w : World) (i : Nat) (hi : i + 8 ≤ 64) : Calls Try.prog 41 #[.int .i64 (i : Int), .int .i64 8] w fun r w' => r = .returned (.int .i64 8) ∧ w' = w := by
  have d1 : decide ((i : Int) < 0) = false := by rw [decide_eq_false_iff_not]; omega
  have d2 : decide ((63 : Int) < (i : Int)) = false := by rw [decide_eq_false_iff_not]; omega
  have d3 : decide (63 < i) = false := by rw [decide_eq_false_iff_not]; omega
  have e1 : IntKind.i64.wrap ((64 : Int) - (i : Int)) = 64 - (i : Int) := by rw [IntKind.wrap_i64]; omega
  have e2 : wrap64 ((64 : Int) - (i : Int)) = 64 - (i : Int) := by unfold wrap64; omega
  have e3 : min (8 : Int) (64 - (i : Int)) = 8 := by omega
  have e4 : ¬ (64 - (i : Int) < 8) := by omega
  go_enter Try.func41, Try.ntmps41
  go_wp2_with fail
  go_ret
  exact ⟨rfl, rfl⟩
set_option maxRecDepth 100000 in
theorem mask8_c (w : World) : Calls Try.prog 42 #[.int .i64 8] w fun r w' => r = .returned (.int .u64 255) ∧ w' = w := by
  go_enter Try.func42, Try.ntmps42
  go_wp2_with fail
  go_ret
  exact ⟨rfl, rfl⟩
theorem and255 (a : Nat) : bits .and .u64 (a : Int) 255 = ((a % 256 : Nat) : Int) := by
  have h1 : (BitVec.ofInt 64 (a : Int)).toNat = a % 2 ^ 64 := by rw [BitVec.ofInt_natCast, BitVec.toNat_ofNat]
  have h2 : (BitVec.ofInt 64 (255 : Int)).toNat = 255 := by
    rw [show (255 : Int) = ((255 : Nat) : Int) from rfl, BitVec.ofInt_natCast, BitVec.toNat_ofNat]
  show IntKind.u64.wrap ((BitVec.ofInt 64 (a : Int) &&& BitVec.ofInt 64 (255 : Int)).toNat : Int) = _
  have h3 : ∀ z : Nat, z &&& 255 = z % 256 := fun z => Nat.and_two_pow_sub_one_eq_mod z 8
  rw [BitVec.toNat_and, h1, h2, h3, IntKind.wrap_u64]
  omega
set_option maxRecDepth 100000 in
theorem field_c (w : World) (v i : Nat) (hi : i + 8 ≤ 64) (hv : v < 18446744073709551616) : Calls Try.prog 30 #[.int .u64 (v : Int), .int .i64 (i : Int), .int .i64 8] w fun r w' => r = .returned (.int .u64 ((v / 2 ^ i % 256 : Nat) : Int)) ∧ ∃ k, w' = w.drewN k := by
  have HW := Lib.hid (bwidth_c w i hi)
  have hi0 : ¬ ((i : Int) < 0) := by omega
  have HI := Lib.hid hi
  have HM := Lib.hid (fun W => (mask8_c W).mono (R' := fun e w' => e = .returned (.int .u64 255) ∧ W = w') (fun _ _ ⟨h1, h2⟩ => ⟨h1, h2.symm⟩))
  clear hi
  go_enter Try.func30, Try.ntmps30
  go_upto_region 4 with (go_at_call 41; refine HW.out.mono ?_; rintro r w1 ⟨rfl, rfl⟩)
  go_quiet ((go_at_call 42; exact quiet_eq (HM.out _)))
  go_wp2_with fail
  go_ret
  refine ⟨?_, _, rfl⟩
  have h1 : (v : Int) / 2 ^ min i 64 = ((v / 2 ^ i : Nat) : Int) := by rw [Nat.min_eq_left (by have := HI.out; omega)]; simp
  show Ending.returned (.int .u64 (bits .and .u64 ((v : Int) / 2 ^ min i 64) 255)) = _
  rw [h1, and255]
set_option maxRecDepth 10000 in
theorem put8_nat (v i x : Nat) (hi : i + 8 ≤ 64) (hv : v < 2 ^ i) (hx : x < 256) : (v &&& (18446744073709551615 - 255 * 2 ^ i)) ||| ((x * 2 ^ i) &&& (255 * 2 ^ i)) = v + x * 2 ^ i := by
  have hpow : 2 ^ i * 256 ≤ 2 ^ 64 := by
    have := Nat.pow_le_pow_right (show 0 < 2 by omega) hi
    rw [Nat.pow_add] at this
    exact this
  have hm : 255 * 2 ^ i < 2 ^ 64 := by
    have : 0 < 2 ^ i := Nat.two_pow_pos i
    omega
  apply Nat.eq_of_testBit_eq
  intro j
  have e1 : 18446744073709551615 - 255 * 2 ^ i = 2 ^ 64 - (255 * 2 ^ i + 1) := by omega
  have e2 : v + x * 2 ^ i = 2 ^ i * x + v := by rw [Nat.mul_comm, Nat.add_comm]
  have e3 : x * 2 ^ i = 2 ^ i * x + 0 := by rw [Nat.mul_comm]; rfl
  have e4 : (255 : Nat) * 2 ^ i = 2 ^ i * 255 + 0 := by rw [Nat.mul_comm]; rfl
  rw [Nat.testBit_or, Nat.testBit_and, Nat.testBit_and, e1, Nat.testBit_two_pow_sub_succ hm, e2, e3, e4, Nat.testBit_two_pow_mul_add _ (Nat.two_pow_pos i), Nat.testBit_two_pow_mul_add _ (Nat.two_pow_pos i), Nat.testBit_two_pow_mul_add _ hv]
  by_cases hj : j < i
  · simp only [if_pos hj, Nat.zero_testBit, Bool.not_false, Bool.and_true, Bool.and_false, Bool.or_false]
    have hj64 : j < 64 := Nat.lt_of_lt_of_le hj (by clear hpow hm e1 e2 e3 e4; omega)
    rw [decide_eq_true hj64, Bool.and_true]
  · simp only [if_neg hj]
    have hij : i ≤ j := Nat.le_of_not_lt hj
    have hvj : v.testBit j = false := Nat.testBit_lt_two_pow (Nat.lt_of_lt_of_le hv (Nat.pow_le_pow_right (Nat.succ_pos 1) hij))
    rw [hvj, Bool.false_and, Bool.false_or]
    by_cases hk : j - i < 8
    · have h255 : (255 : Nat).testBit (j - i) = true := by
        have : (255 : Nat) = 2 ^ 8 - 1 := rfl
        rw [this, Nat.testBit_two_pow_sub_one]
        exact decide_eq_true hk
      rw [h255, Bool.and_true]
    · have hxj : x.testBit (j - i) = false := Nat.testBit_lt_two_pow (Nat.lt_of_lt_of_le hx (Nat.pow_le_pow_right (Nat.succ_pos 1) (Nat.le_of_not_lt hk)))
      rw [hxj, Bool.false_and]
theorem put8_bits (v i x : Nat) (hi : i + 8 ≤ 64) (hv : v < 2 ^ i) (hx : x < 256) :
    bits .or .u64 (bits .andNot .u64 (v : Int) (IntKind.u64.wrap (255 * 2 ^ min i 64))) (bits .and .u64 (IntKind.u64.wrap ((x : Int) * 2 ^ min i 64)) (IntKind.u64.wrap (255 * 2 ^ min i 64))) = ((v + x * 2 ^ i : Nat) : Int) := by
  have hn := put8_nat v i x hi hv hx
  have hpow : 2 ^ i * 256 ≤ 2 ^ 64 := by
    have := Nat.pow_le_pow_right (show 0 < 2 by omega) hi
    rw [Nat.pow_add] at this
    exact this
  have hmin : min i 64 = i := by omega
  rw [hmin]
  have hcast : ((2 : Int) ^ i) = ((2 ^ i : Nat) : Int) := by simp
  rw [hcast]
  obtain ⟨p, hp⟩ : ∃ p, p = 2 ^ i := ⟨_, rfl⟩
  rw [← hp] at hn hpow hv ⊢
  have hxp : x * p ≤ 255 * p := Nat.mul_le_mul_right p (by omega)
  have h64 : (2 : Nat) ^ 64 = 18446744073709551616 := by decide
  rw [h64] at hpow
  have w1 : IntKind.u64.wrap (255 * (p : Int)) = ((255 * p : Nat) : Int) := by rw [IntKind.wrap_u64]; omega
  have w2 : IntKind.u64.wrap ((x : Int) * (p : Int)) = ((x * p : Nat) : Int) := by
    rw [IntKind.wrap_u64, ← Int.natCast_mul]
    omega
  rw [w1, w2, u64_andNot_nat _ _ (by omega) (by omega), u64_and_nat _ _ (by omega) (by omega)]
  have b1 : v &&& (18446744073709551615 - 255 * p) ≤ v := Nat.and_le_left
  have b2 : (x * p) &&& (255 * p) ≤ x * p := Nat.and_le_left
  rw [u64_or_nat _ _ (by omega) (by omega), hn]
set_option maxRecDepth 100000 in
theorem put8_c (w : World) (v i x : Nat) (hi : i + 8 ≤ 64) (hv : v < 2 ^ i) (hx : x < 256) : Calls Try.prog 31 #[.int .u64 (v : Int), .int .i64 (i : Int), .int .i64 8, .int .u64 (x : Int)] w fun r w' => r = .returned (.int .u64 ((v + x * 2 ^ i : Nat) : Int)) ∧ w' = w := by
  have HW := Lib.hid (bwidth_c w i hi)
  have hi0 : ¬ ((i : Int) < 0) := by omega
  have HI := Lib.hid hi
  have HV := Lib.hid (And.intro hv hx)
  have HM := Lib.hid (fun W => mask8_c W)
  clear hi hv hx
  go_enter Try.func31, Try.ntmps31
  go_wp2_with (first
    | (go_at_call 41; refine HW.out.mono ?_; rintro r w1 ⟨rfl, rfl⟩)
    | (go_at_call 42; refine (HM.out _).mono ?_; rintro r w2 ⟨rfl, rfl⟩))
  go_ret
  refine ⟨?_, rfl⟩
  exact congrArg (fun z => Ending.returned (.int .u64 z)) (put8_bits v i x HI.out HV.out.1 HV.out.2)
end Go.Proofs.Ytpnabfekidpnoaa

/-
  Contracts of package bits, as far as this seat reaches it, and the words in which they are said.
-/
import Derived.Test.YtcnglhneknbllaaDoorProg
import Derived.Test.YtcnglhneknbllaaDoorBase
namespace Go.Proofs.YtcnglhneknbllaaDoor
open Go Go.RowKit

/-- The lowest bit of a shifted word. -/
theorem bit_of (x i : Nat) (hx : x < 18446744073709551616) : (bits .and .u64 ((x : Int) / 2 ^ i) 1 == 1) = x.testBit i := by
  have h1 : ((x : Int) / 2 ^ i) = ((x / 2 ^ i : Nat) : Int) := by simp
  have h2 : x / 2 ^ i < 18446744073709551616 := Nat.lt_of_le_of_lt (Nat.div_le_self _ _) hx
  have h3 : bits .and .u64 (((x / 2 ^ i : Nat) : Int)) ((1 : Nat) : Int) = ((x / 2 ^ i &&& 1 : Nat) : Int) := u64_and_nat _ _ h2 (by omega)
  rw [h1]
  have h4 : ((1 : Nat) : Int) = 1 := rfl
  rw [h4] at h3
  rw [h3, Nat.testBit, Nat.shiftRight_eq_div_pow, Nat.and_comm]
  rcases Nat.mod_two_eq_zero_or_one (x / 2 ^ i) with h | h <;> simp [h]

set_option maxHeartbeats 400000 in
theorem Bit_u8 (x : Nat) (i : Int) (w : World) (hx : x < 256) (h0 : 0 ≤ i) (h1 : i < 64) :
    Calls Tryd.prog 45 #[.int .u8 (x : Int), .int .i64 i] w fun e w' => e = .returned (.bool (x.testBit i.toNat)) ∧ w = w' := by
  have hb := bit_of x i.toNat (by omega)
  have hw : IntKind.u64.wrap (x : Int) = x := by rw [IntKind.wrap_u64]; omega
  have HB := Lib.hid hb
  clear hb
  go_enter Tryd.func45, Tryd.ntmps45
  go_wp2
  go_ret
  exact ⟨by simp [HB.out], rfl⟩
set_option maxHeartbeats 400000 in
theorem Bit_u32 (x : Nat) (i : Int) (w : World) (hx : x < 4294967296) (h0 : 0 ≤ i) (h1 : i < 64) :
    Calls Tryd.prog 64 #[.int .u32 (x : Int), .int .i64 i] w fun e w' => e = .returned (.bool (x.testBit i.toNat)) ∧ w = w' := by
  have hb := bit_of x i.toNat (by omega)
  have hw : IntKind.u64.wrap (x : Int) = x := by rw [IntKind.wrap_u64]; omega
  have HB := Lib.hid hb
  clear hb
  go_enter Tryd.func64, Tryd.ntmps64
  go_wp2
  go_ret
  exact ⟨by simp [HB.out], rfl⟩
end Go.Proofs.YtcnglhneknbllaaDoor

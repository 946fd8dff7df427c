/-
  The set of an address, as the laws reckon it.
-/
import Derived.Test.YtpnabfekidpnoaaDoorTlbC
namespace Go.Proofs.YtpnabfekidpnoaaDoor
open Go Go.RowKit

theorem and3 (a : Nat) : bits .and .u64 (a : Int) 3 = ((a % 4 : Nat) : Int) := by
  have h1 : (BitVec.ofInt 64 (a : Int)).toNat = a % 2 ^ 64 := by rw [BitVec.ofInt_natCast, BitVec.toNat_ofNat]
  have h2 : (BitVec.ofInt 64 (3 : Int)).toNat = 3 := by
    rw [show (3 : Int) = ((3 : Nat) : Int) from rfl, BitVec.ofInt_natCast, BitVec.toNat_ofNat]
  show IntKind.u64.wrap ((BitVec.ofInt 64 (a : Int) &&& BitVec.ofInt 64 (3 : Int)).toNat : Int) = _
  have h3 : ∀ z : Nat, z &&& 3 = z % 4 := fun z => Nat.and_two_pow_sub_one_eq_mod z 2
  rw [BitVec.toNat_and, h1, h2, h3, IntKind.wrap_u64]
  omega
theorem set_int (va : Nat) : bits .and .u64 ((va : Int) / 4096) 3 = ((va / 4096 % 4 : Nat) : Int) := and3 (va / 4096)
theorem wrap_small (m : Nat) (h : m < 4) : wrap64 (m : Int) = (m : Int) := by unfold wrap64; omega
theorem set_int2 (va q : Nat) (h : va / 4096 % 4 = q) : wrap64 (bits .and .u64 ((va : Int) / 4096) 3) = (q : Int) := by
  rw [set_int, h]
  exact wrap_small q (by rw [← h]; exact Nat.mod_lt _ (by omega))
end Go.Proofs.YtpnabfekidpnoaaDoor

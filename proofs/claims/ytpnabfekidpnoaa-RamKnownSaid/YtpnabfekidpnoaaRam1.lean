/-
  Has, at, set: what a memory's functions do to a byte.
-/
import Derived.Test.YtpnabfekidpnoaaRamM
import Derived.Test.YtpnabfekidpnoaaTk
import Derived.Lib.Hide
import Derived.Deep.QuietTactic
import Derived.BigQuiet
namespace Go.Proofs.Ytpnabfekidpnoaa
open Go Go.RowKit

/-- Do n bytes from a on lie in it? -/
def hasR (base size a : Nat) (n : Int) : Bool := decide (0 ≤ n) && (decide (n = 0) || (decide (base ≤ a) && decide (n ≤ (size : Int)) && decide ((a : Int) - base ≤ size - n)))
set_option maxRecDepth 100000 in
theorem has_nil (w : World) (a : Nat) (n : Int) : Calls Try.prog 17 #[.pointer none, .int .u64 (a : Int), .int .i64 n] w fun r w' => r = .returned (.bool false) ∧ w' = w := by
  go_enter Try.func17, Try.ntmps17
  go_wp2_with fail
  go_ret
  exact ⟨rfl, rfl⟩
set_option maxRecDepth 100000 in
set_option maxHeartbeats 1000000 in
theorem has_c (w : World) (b base size mb : Nat) (a : Nat) (n : Int) (hb : Blk w b 63 #[.int .u64 (base : Int), .int .u64 (size : Int), .map (some mb)]) (hn : n < 9223372036854775808) (ha : a < 18446744073709551616) (hs : size < 18446744073709551616) :
    Calls Try.prog 17 #[.pointer (some ⟨b, 0, none⟩), .int .u64 (a : Int), .int .i64 n] w fun r w' => r = .returned (.bool (hasR base size a n)) ∧ ∃ k, w' = w.drewN k := by
  have c0 : w.cell? ⟨b, 0, none⟩ = some (.int .u64 (base : Int)) := hb.cell 0
  have c1 : w.cell? ⟨b, 1, none⟩ = some (.int .u64 (size : Int)) := hb.cell 1
  by_cases h1 : n < 0
  · have d1 : decide (n < 0) = true := by rw [decide_eq_true_iff]; exact h1
    have hr : hasR base size a n = false := by unfold hasR; rw [decide_eq_false (by omega)]; rfl
    have HR := Lib.hid hr
    clear hr hn ha hs hb
    go_enter Try.func17, Try.ntmps17
    go_wp2_with fail
    go_ret
    refine ⟨?_, 0, rfl⟩
    rw [HR.out]
    rfl
  have d1 : decide (n < 0) = false := by rw [decide_eq_false_iff_not]; exact h1
  by_cases h2 : n = 0
  · subst h2
    clear hn ha hs hb
    go_enter Try.func17, Try.ntmps17
    go_wp2_with fail
    go_ret
    exact ⟨rfl, 0, rfl⟩
  have d2 : (n == 0) = false := by simpa using h2
  obtain ⟨k, rfl⟩ : ∃ k : Nat, n = (k : Int) := ⟨n.toNat, by omega⟩
  have w1 : IntKind.u64.wrap (k : Int) = (k : Int) := by rw [IntKind.wrap_u64]; omega
  have hR : hasR base size a (k : Int) = (decide (base ≤ a) && decide (k ≤ size) && decide ((a : Int) - base ≤ size - (k : Int))) := by
    unfold hasR
    rw [decide_eq_true (show (0 : Int) ≤ (k : Int) by omega), decide_eq_false h2]
    simp
  have HR := Lib.hid hR
  clear hR
  by_cases q1 : base ≤ a
  · have d3 : decide (base ≤ a) = true := decide_eq_true q1
    by_cases q2 : k ≤ size
    · have d4 : decide (k ≤ size) = true := decide_eq_true q2
      have w2 : IntKind.u64.wrap ((a : Int) - (base : Int)) = (a : Int) - (base : Int) := by rw [IntKind.wrap_u64]; omega
      have w3 : IntKind.u64.wrap ((size : Int) - (k : Int)) = (size : Int) - (k : Int) := by rw [IntKind.wrap_u64]; omega
      rw [d3, d4] at HR
      clear hn ha hs hb h1 h2 q1 q2
      go_enter Try.func17, Try.ntmps17
      go_upto_region 5 with fail
      go_quiet (fail)
      go_wp2_with fail
      go_ret
      refine ⟨?_, _, rfl⟩
      rw [HR.out]
      simp
    · have d4 : decide (k ≤ size) = false := decide_eq_false q2
      rw [d3, d4] at HR
      clear hn ha hs hb h1 h2 q1 q2
      go_enter Try.func17, Try.ntmps17
      go_upto_region 5 with fail
      go_quiet (fail)
      go_wp2_with fail
      go_ret
      refine ⟨?_, _, rfl⟩
      rw [HR.out]
      rfl
  · have d3 : decide (base ≤ a) = false := decide_eq_false q1
    rw [d3] at HR
    clear hn ha hs hb h1 h2 q1
    go_enter Try.func17, Try.ntmps17
    go_upto_region 5 with fail
    go_quiet (fail)
    go_wp2_with fail
    go_ret
    refine ⟨?_, _, rfl⟩
    rw [HR.out]
    rfl
set_option maxRecDepth 100000 in
set_option maxHeartbeats 1000000 in
/-- A byte. -/
theorem at_c (w : World) (b base size : Nat) (m : Nat → Nat) (n : Nat) (F : Nat → Prop) (a : Nat) (h : RAt w b base size m n F) (ha : a < 18446744073709551616) :
    Calls Try.prog 32 #[.pointer (some ⟨b, 0, none⟩), .int .u64 (a : Int)] w fun r w' => r = .returned (.int .u8 ((m a : Nat) : Int)) ∧ w' = w := by
  obtain ⟨mb, D, pg, hin⟩ := h
  have hlook := hin.look (a / 4096) (by omega)
  have c2 : w.cell? ⟨b, 2, none⟩ = some (.map (some mb)) := hin.1.cell 2
  rw [Int.natCast_ediv] at hlook
  have hlk : (Instr.lookup 61 (.map (some mb)) (.int .u64 ((a : Int) / 4096)) false).run Try.prog w = .ok (pgVal (pg (a / 4096))) w := hlook
  have wq : IntKind.u64.wrap ((a : Int) / 4096) = (a : Int) / 4096 := by rw [IntKind.wrap_u64]; omega
  clear hlook
  obtain ⟨o, ho⟩ : ∃ o, o = pg (a / 4096) := ⟨_, rfl⟩
  rw [← ho] at hlk
  cases o with
  | none =>
    have hz : m a = 0 := by
      have := hin.2.2.2.2.2.1 (a / 4096) (a % 4096) ho.symm (by omega)
      rwa [show a / 4096 * 4096 + a % 4096 = a by omega] at this
    have HZ := Lib.hid hz
    unfold pgVal at hlk
    clear hin ho ha hz
    go_enter Try.func32, Try.ntmps32
    go_wp2_with fail
    go_ret
    refine ⟨?_, rfl⟩
    rw [HZ.out]
    rfl
  | some B =>
    obtain ⟨⟨cs, c1, c3, c4⟩, _⟩ := hin.2.2.2.1 (a / 4096) B ho.symm
    have hcell := c4 (a % 4096) (by omega)
    rw [show a / 4096 * 4096 + a % 4096 = a by omega, ← c1.cell] at hcell
    obtain ⟨i, hi⟩ : ∃ i, i = a % 4096 := ⟨_, rfl⟩
    rw [← hi] at hcell
    have hmod : (a : Int) % 4096 = (i : Int) := by omega
    have hi2 : i < 4096 := by omega
    unfold pgVal at hlk
    clear hin ho ha hi c1 c3 c4
    go_enter Try.func32, Try.ntmps32
    go_wp2_with fail
    go_ret
    exact ⟨rfl, rfl⟩
end Go.Proofs.Ytpnabfekidpnoaa

/-
  Pages, whether an entry is for a question, whether an address lies in its region: what the walks over the translations compute.
-/
import Derived.Test.YtpnabfekidpnoaaDoorTlbK
import Derived.Test.YtpnabfekidpnoaaDoorOnes
import Derived.Lib.Hide
import Derived.Deep.QuietTactic
import Derived.BigQuiet
namespace Go.Proofs.YtpnabfekidpnoaaDoor
open Go Go.RowKit

set_option maxRecDepth 100000 in
theorem page_c (w : World) (a : Nat) : Calls Tryd.prog 43 #[.int .u64 (a : Int)] w fun e w' => e = .returned (.int .u64 ((a / 4096 : Nat) : Int)) ∧ w = w' := by
  go_enter Tryd.func43, Tryd.ntmps43
  go_wp2_with fail
  go_ret
  refine ⟨?_, rfl⟩
  show Ending.returned (.int .u64 ((a : Int) / 4096)) = _
  rw [Int.natCast_ediv]
  rfl
theorem pgeq (x y : Nat) : ((x : Int) / 4096 == (y : Int) / 4096) = (x / 4096 == y / 4096) := by
  rw [Bool.eq_iff_iff]
  simp only [beq_iff_eq]
  omega
set_option maxRecDepth 100000 in
set_option maxHeartbeats 1000000 in
theorem answers_c (w : World) (e : TE) (v : Bool) (vmid asid va : Nat) :
    Calls Tryd.prog 26 #[.agg e.cells.toArray, .bool v, .int .u64 (vmid : Int), .int .u64 (asid : Int), .int .u64 (va : Int)] w fun r w' => r = .returned (.bool (e.ans v vmid asid va)) ∧ Below w.heap.size w w' := by
  obtain ⟨ev, evmid, easid, egl, eva, egpa, epa, evl, egll, evs, eg⟩ := e
  have hans : TE.ans ⟨ev, evmid, easid, egl, eva, egpa, epa, evl, egll, evs, eg⟩ v vmid asid va = (ev == v && (!v || evmid == vmid) && (egl || easid == asid) && (eva / 4096 == va / 4096)) := rfl
  have HA := Lib.hid hans
  have hb := Lib.hid ((Below.refl w.heap.size w).alloc (Nat.le_refl _) (.cells #[.bool ev, .int .u64 (evmid : Int), .int .u64 (easid : Int), .bool egl, .int .u64 (eva : Int), .int .u64 (egpa : Int), .int .u64 (epa : Int), .int .i64 evl, .int .i64 egll, .int .u64 (evs : Int), .int .u64 (eg : Int)] 25))
  clear hans
  show Calls Tryd.prog 26 #[.agg #[.bool ev, .int .u64 (evmid : Int), .int .u64 (easid : Int), .bool egl, .int .u64 (eva : Int), .int .u64 (egpa : Int), .int .u64 (epa : Int), .int .i64 evl, .int .i64 egll, .int .u64 (evs : Int), .int .u64 (eg : Int)], .bool v, .int .u64 (vmid : Int), .int .u64 (asid : Int), .int .u64 (va : Int)] w _
  go_enter Tryd.func26, Tryd.ntmps26
  go_wp2_with (go_at_call 43; refine (page_c _ _).mono ?_; rintro e w' ⟨rfl, rfl⟩)
  all_goals
    go_ret
    refine ⟨?_, (Below.refl _ w).alloc (Nat.le_refl _) _⟩
    rw [HA.out]
    clear HA hb
    have hpg := pgeq eva va
    simp_all [Int.natCast_inj]
theorem below_drewN {B : Nat} {w w' : World} (h : Below B w w') (n : Nat) : Below B w (w'.drewN n) := ⟨h.os, h.tape, h.output, h.size, h.block⟩
/-- The shift of an entry's region. -/
def shiftOf (vl : Int) : Nat := 12 + 9 * (min (max vl 0) 2).toNat
theorem shiftOf_eq (vl : Int) : shiftOf vl = 12 ∨ shiftOf vl = 21 ∨ shiftOf vl = 30 := by unfold shiftOf; omega
set_option maxRecDepth 100000 in
set_option maxHeartbeats 1000000 in
theorem holds_c (w : World) (e : TE) (va : Nat) :
    Calls Tryd.prog 33 #[.agg e.cells.toArray, .int .u64 (va : Int)] w fun r w' => r = .returned (.bool (e.hold va)) ∧ Below w.heap.size w w' := by
  obtain ⟨ev, evmid, easid, egl, eva, egpa, epa, evl, egll, evs, eg⟩ := e
  have hans : TE.hold ⟨ev, evmid, easid, egl, eva, egpa, epa, evl, egll, evs, eg⟩ va = (eva / 2 ^ shiftOf evl == va / 2 ^ shiftOf evl) := rfl
  have HA := Lib.hid hans
  clear hans
  show Calls Tryd.prog 33 #[.agg #[.bool ev, .int .u64 (evmid : Int), .int .u64 (easid : Int), .bool egl, .int .u64 (eva : Int), .int .u64 (egpa : Int), .int .u64 (epa : Int), .int .i64 evl, .int .i64 egll, .int .u64 (evs : Int), .int .u64 (eg : Int)], .int .u64 (va : Int)] w _
  have hpg : ∀ k : Nat, ((eva : Int) / (k : Int) == (va : Int) / (k : Int)) = (eva / k == va / k) := fun k => by
    rw [Bool.eq_iff_iff, beq_iff_eq, beq_iff_eq, ← Int.natCast_ediv, ← Int.natCast_ediv]
    exact Int.natCast_inj
  have h12 := hpg 4096
  have h21 := hpg 2097152
  have h30 := hpg 1073741824
  have H12 := Lib.hid h12
  have H21 := Lib.hid h21
  have H30 := Lib.hid h30
  clear hpg h12 h21 h30
  rcases (show evl ≤ 0 ∨ evl = 1 ∨ 2 ≤ evl by omega) with h | h | h
  · have hs : shiftOf evl = 12 := by unfold shiftOf; omega
    rw [hs] at HA
    obtain ⟨z, hz⟩ : ∃ z, z = max evl 0 := ⟨_, rfl⟩
    go_enter Tryd.func33, Tryd.ntmps33
    go_wp2_with fail
    all_goals first
      | (exfalso; omega)
      | skip
    all_goals rcases (show evl = 0 ∨ evl < 0 by omega) with rfl | _
    all_goals first
      | (exfalso; omega)
      | (go_quiet (fail)
         go_wp2_with fail
         go_ret
         refine ⟨?_, below_drewN ((Below.refl _ w).alloc (Nat.le_refl _) _) _⟩
         rw [HA.out]
         exact congrArg (fun b => Ending.returned (Value.bool b)) H12.out)
  · subst h
    go_enter Tryd.func33, Tryd.ntmps33
    go_wp2_with fail
    go_quiet (fail)
    go_wp2_with fail
    go_ret
    refine ⟨?_, below_drewN ((Below.refl _ w).alloc (Nat.le_refl _) _) _⟩
    rw [HA.out]
    exact congrArg (fun b => Ending.returned (Value.bool b)) H21.out
  · have hs : shiftOf evl = 30 := by unfold shiftOf; omega
    rw [hs] at HA
    go_enter Tryd.func33, Tryd.ntmps33
    go_wp2_with fail
    all_goals first
      | (exfalso; omega)
      | skip
    all_goals rcases (show evl = 2 ∨ 2 < evl by omega) with rfl | _
    all_goals first
      | (exfalso; omega)
      | (go_quiet (fail)
         go_wp2_with fail
         go_ret
         refine ⟨?_, below_drewN ((Below.refl _ w).alloc (Nat.le_refl _) _) _⟩
         rw [HA.out]
         exact congrArg (fun b => Ending.returned (Value.bool b)) H30.out)
/-- What stands in memory of one: its block, the row of its sets, and each set's row; all lie in blocks of F. -/
def TlbAt (w : World) (b ways : Nat) (L : TS) (F : Nat → Prop) : Prop :=
  ∃ (s c : Nat) (vs : List Value) (cur : Array Value) (g : Nat → Option Nat), Blk w b 64 #[.int .i64 (ways : Int), .slice (some ⟨s, 0, none⟩) L.length c] ∧
    Blk w s 22 cur ∧ cur.size = c ∧ L.length ≤ c ∧ c ≤ maxLen ∧ vs.length = L.length ∧ (∀ j, j < L.length → cur[j]? = vs[j]?) ∧
    (∀ i (hi : i < L.length) (hv : i < vs.length), Own w 25 11 vs[i] L[i].length (tcells L[i]) (fun k => g i = some k)) ∧
    b ≠ s ∧ F b ∧ F s ∧ (∀ i k, g i = some k → F k ∧ k ≠ b ∧ k ≠ s) ∧ (∀ i j k, g i = some k → g j = some k → i = j)
end Go.Proofs.YtpnabfekidpnoaaDoor

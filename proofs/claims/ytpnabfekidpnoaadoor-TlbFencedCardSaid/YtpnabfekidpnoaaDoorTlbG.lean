/-
  The statement's `is`.
-/
import Derived.Test.YtpnabfekidpnoaaDoorTlbE
import Derived.Test.YtpnabfekidpnoaaDoorTlbF
namespace Go.Proofs.YtpnabfekidpnoaaDoor
open Go Go.RowKit

set_option maxRecDepth 100000 in
set_option maxHeartbeats 1000000 in
theorem is_c (w : World) (e : TE) (v : Bool) (vmid asid va : Nat) :
    Calls Tryd.prog 22 #[.agg e.cells.toArray, .bool v, .int .u64 (vmid : Int), .int .u64 (asid : Int), .int .u64 (va : Int)] w fun r w' => r = .returned (.bool (e.ans v vmid asid va)) ∧ Below w.heap.size w w' := by
  obtain ⟨ev, evmid, easid, egl, eva, egpa, epa, evl, egll, evs, eg⟩ := e
  have hans : TE.ans ⟨ev, evmid, easid, egl, eva, egpa, epa, evl, egll, evs, eg⟩ v vmid asid va = (ev == v && (!v || evmid == vmid) && (egl || easid == asid) && (eva / 4096 == va / 4096)) := rfl
  have HA := Lib.hid hans
  have hb := Lib.hid ((Below.refl w.heap.size w).alloc (Nat.le_refl _) (.cells #[.bool ev, .int .u64 (evmid : Int), .int .u64 (easid : Int), .bool egl, .int .u64 (eva : Int), .int .u64 (egpa : Int), .int .u64 (epa : Int), .int .i64 evl, .int .i64 egll, .int .u64 (evs : Int), .int .u64 (eg : Int)] 25))
  clear hans
  show Calls Tryd.prog 22 #[.agg #[.bool ev, .int .u64 (evmid : Int), .int .u64 (easid : Int), .bool egl, .int .u64 (eva : Int), .int .u64 (egpa : Int), .int .u64 (epa : Int), .int .i64 evl, .int .i64 egll, .int .u64 (evs : Int), .int .u64 (eg : Int)], .bool v, .int .u64 (vmid : Int), .int .u64 (asid : Int), .int .u64 (va : Int)] w _
  go_enter Tryd.func22, Tryd.ntmps22
  go_wp2_with fail
  all_goals
    go_ret
    refine ⟨?_, (Below.refl _ w).alloc (Nat.le_refl _) _⟩
    rw [HA.out]
    clear HA hb
    have hpg := pgeq eva va
    simp_all [Int.natCast_inj]
end Go.Proofs.YtpnabfekidpnoaaDoor

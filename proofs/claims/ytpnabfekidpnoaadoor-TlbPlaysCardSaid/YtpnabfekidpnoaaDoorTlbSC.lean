/-
  The law's both at nil ones.
-/
import Derived.Test.YtpnabfekidpnoaaDoorTlbSB
namespace Go.Proofs.YtpnabfekidpnoaaDoor
open Go Go.RowKit

set_option maxRecDepth 100000 in
set_option maxHeartbeats 2000000 in
theorem rget_nil (w : World) (v : Bool) (vmid asid va : Nat) : Calls Tryd.prog 38 #[.pointer none, .bool v, .int .u64 (vmid : Int), .int .u64 (asid : Int), .int .u64 (va : Int)] w fun r w' => r = .returned (getRes none) ∧ Fr No w w' := by
  obtain ⟨W0, hW0⟩ : ∃ W0, W0 = w.alloc (.cells TE.none_.cells.toArray 78) := ⟨_, rfl⟩
  have HW0 := Lib.hid (show w.alloc (.cells #[.bool false, .int .u64 0, .int .u64 0, .bool false, .int .u64 0, .int .u64 0, .int .u64 0, .int .i64 0, .int .i64 0, .int .u64 0, .int .u64 0] 78) = W0 from hW0.symm)
  have HF0 := Lib.hid (show Fr No w W0 from by rw [hW0]; exact (Fr.refl No w).alloc _)
  have HX0 := Lib.hid (show Blk W0 w.heap.size 78 TE.none_.cells.toArray from by rw [hW0]; exact Blk.new w _ _)
  clear hW0
  go_enter Tryd.func38, Tryd.ntmps38
  go_upto_region 1 with fail
  rw [HW0.out]
  go_wp2_with (first
          | (refine wpList_store_row rfl 78 _ _ rfl _ _ rfl rfl _ _ HX0.out infoRE rfl (by kernel_rfl) ?_))
  obtain ⟨X, hX⟩ : ∃ X, X = World.setRow W0 w.heap.size #[.bool false, .int .u64 0, .int .u64 0, .bool false, .int .u64 0, .int .u64 0, .int .u64 0, .int .i64 0, .int .i64 0, .int .u64 0, .int .u64 0] := ⟨_, rfl⟩
  have rX : Blk X w.heap.size 78 #[.bool false, .int .u64 0, .int .u64 0, .bool false, .int .u64 0, .int .u64 0, .int .u64 0, .int .i64 0, .int .i64 0, .int .u64 0, .int .u64 0] := by rw [hX]; exact HX0.out.row _
  have kf : Fr No w X := by rw [hX]; exact HF0.out.andThen (Fr.row _) (fun k hk q => by have q2 : k = w.heap.size := q; omega)
  rw [← hX]
  have y0 : X.cell? ⟨w.heap.size, 0, none⟩ = some (.bool false) := rX.cell 0
  have y1 : X.cell? ⟨w.heap.size, 1, none⟩ = some (.int .u64 0) := rX.cell 1
  have y2 : X.cell? ⟨w.heap.size, 2, none⟩ = some (.int .u64 0) := rX.cell 2
  have y3 : X.cell? ⟨w.heap.size, 3, none⟩ = some (.bool false) := rX.cell 3
  have y4 : X.cell? ⟨w.heap.size, 4, none⟩ = some (.int .u64 0) := rX.cell 4
  have y5 : X.cell? ⟨w.heap.size, 5, none⟩ = some (.int .u64 0) := rX.cell 5
  have y6 : X.cell? ⟨w.heap.size, 6, none⟩ = some (.int .u64 0) := rX.cell 6
  have y7 : X.cell? ⟨w.heap.size, 7, none⟩ = some (.int .i64 0) := rX.cell 7
  have y8 : X.cell? ⟨w.heap.size, 8, none⟩ = some (.int .i64 0) := rX.cell 8
  have y9 : X.cell? ⟨w.heap.size, 9, none⟩ = some (.int .u64 0) := rX.cell 9
  have y10 : X.cell? ⟨w.heap.size, 10, none⟩ = some (.int .u64 0) := rX.cell 10
  clear hX rX
  refine bodyPost_ret (v := getRes none) ?_ rfl ⟨rfl, kf⟩
  simp [results, Tryd.f38, go_sem, y0, y1, y2, y3, y4, y5, y6, y7, y8, y9, y10, getRes]
  rfl
end Go.Proofs.YtpnabfekidpnoaaDoor

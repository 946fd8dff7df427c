/-
  The law's both at nil ones, whatever the act.
-/
import Derived.Test.YtpnabfekidpnoaaDoorTlbSC
namespace Go.Proofs.YtpnabfekidpnoaaDoor
open Go Go.RowKit

set_option maxRecDepth 100000 in
set_option maxHeartbeats 4000000 in
theorem bnil_0 (w : World) (x : TA) (ha : x.act = 0) :
    Calls Tryd.prog 19 #[.pointer none, .pointer none, .agg x.cells.toArray] w fun z w' => z = .returned (.bool true) ∧ Fr No w w' := by
  obtain ⟨W1, hW1⟩ : ∃ W1, W1 = w.alloc (.cells x.cells.toArray 50) := ⟨_, rfl⟩
  have hb1 : Blk W1 w.heap.size 50 x.cells.toArray := by rw [hW1]; exact Blk.new w _ _
  have hf1 : Fr No w W1 := by rw [hW1]; exact (Fr.refl No w).alloc _
  have HW1 := Lib.hid hW1.symm
  have HB1 := Lib.hid hb1
  have HF1 := Lib.hid hf1
  have HSE := Lib.hid (show Seg W1 w.heap.size 1 x.e.cells from ⟨_, _, hb1, fun j u hj => by
    have hl : j < x.e.cells.length := (List.getElem?_eq_some_iff.1 hj).1
    unfold TA.cells
    rw [List.getElem?_toArray, Nat.add_comm, List.getElem?_cons_succ, List.getElem?_append_left hl]
    exact hj⟩)
  clear hb1 hf1 hW1
  obtain ⟨act, hact⟩ : ∃ act, act = x.act := ⟨_, rfl⟩
  rw [← hact] at ha
  obtain ⟨e, he⟩ : ∃ e, e = x.e := ⟨_, rfl⟩
  obtain ⟨byVa, hbv⟩ : ∃ byVa, byVa = x.byVa := ⟨_, rfl⟩
  obtain ⟨byAsid, hba⟩ : ∃ byAsid, byAsid = x.byAsid := ⟨_, rfl⟩
  have HX := Lib.hid (show ∀ W, Fr No W1 W → W.cell? ⟨w.heap.size, 0, none⟩ = some (.int .i64 act) ∧ W.cell? ⟨w.heap.size, 12, none⟩ = some (.bool byVa) ∧ W.cell? ⟨w.heap.size, 13, none⟩ = some (.bool byAsid) from fun W hW => by
    have hb := HB1.out.fr hW (fun q => q)
    rw [hact, hbv, hba]
    exact ⟨hb.cell 0, hb.cell 12, hb.cell 13⟩)
  rw [← he] at HSE
  clear hact he hbv hba
  go_enter Tryd.func19, Tryd.ntmps19
  go_upto_region 1 with fail
  rw [HW1.out]
  go_upto_region 2 with (first
    | (refine wpList_load_seg rfl 25 _ rfl w.heap.size 1 rfl _ HSE.out _ Tryd.underlying25 rfl infoE ?_)
    | (refine wpList_store_row rfl 25 _ _ rfl _ _ rfl rfl _ _ (heap_alloc_new _ _) infoE rfl (all_oneCell_toArray e.cells_one) ?_))
  have hw4 := fun old => setRow_fr2 W1 (.cells old 25) e.cells.toArray
  have hb4 := fun old => setRow_heap (W1.alloc (.cells old 25)) W1.heap.size old e.cells.toArray 25 _ (heap_alloc_new W1 _)
  obtain ⟨B, hB⟩ : ∃ B, B = W1.heap.size := ⟨_, rfl⟩
  generalize hW : (World.setRow _ _ _) = W2
  have HF2 := Lib.hid (show Fr No W1 W2 from by rw [← hW]; exact hw4 _)
  have HBE := Lib.hid (show Blk W2 B 25 e.cells.toArray from by rw [← hW, hB]; exact hb4 _)
  rw [← hB]
  have HBs := Lib.hid (show w.heap.size < B from by rw [hB]; have := HB1.out.lt; omega)
  have HF := Lib.hid (HF1.out.trans HF2.out)
  have HC := Lib.hid (show ∀ W, Fr No W2 W → (W.cell? ⟨B, 0, none⟩ = some (.bool e.v) ∧ W.cell? ⟨B, 1, none⟩ = some (.int .u64 (e.vmid : Int)) ∧ W.cell? ⟨B, 2, none⟩ = some (.int .u64 (e.asid : Int)) ∧ W.cell? ⟨B, 4, none⟩ = some (.int .u64 (e.va : Int)) ∧ W.cell? ⟨w.heap.size, 12, none⟩ = some (.bool byVa) ∧ W.cell? ⟨w.heap.size, 13, none⟩ = some (.bool byAsid)) ∧ W.cell? ⟨w.heap.size, 0, none⟩ = some (.int .i64 act) ∧ Seg W B 0 e.cells from fun W hW => by
    have h1 := HBE.out.fr hW (fun q => q)
    have h2 := HX.out W (HF2.out.trans hW)
    exact ⟨⟨h1.cell 0, h1.cell 1, h1.cell 2, h1.cell 4, h2.2.1, h2.2.2⟩, h2.1, Seg.of_blk h1⟩)
  clear hw4 hb4 hW hB
  obtain ⟨⟨q0, q1, q2, q3, q4, q5⟩, qa, hseg⟩ := HC.out W2 (Fr.refl No W2)
  have HSG := Lib.hid hseg
  clear hseg
  subst ha
  go_wp2_with (first
    | (refine wpList_load_seg rfl 25 (.tmp 7) rfl B 0 rfl _ HSG.out _ Tryd.underlying25 rfl infoE ?_)
    )
  refine (put_nil W2 e).mono ?_
  rintro z w3 ⟨rfl, hf⟩
  have HF3 := Lib.hid (HF.out.trans hf)
  have HSG3 := Lib.hid (HSG.out.fr hf (fun q => q))
  clear hf
  go_wp2_with (first
    | (refine wpList_load_seg rfl 25 (.tmp 7) rfl B 0 rfl _ HSG3.out _ Tryd.underlying25 rfl infoE ?_)
    )
  refine (rput_nil w3 e).mono ?_
  rintro z w4 ⟨rfl, hf⟩
  have HF4 := Lib.hid (HF3.out.trans hf)
  clear hf
  go_wp2_with fail
  go_ret
  exact ⟨rfl, HF4.out⟩
set_option maxRecDepth 100000 in
set_option maxHeartbeats 4000000 in
theorem bnil_1 (w : World) (x : TA) (ha : x.act = 1) :
    Calls Tryd.prog 19 #[.pointer none, .pointer none, .agg x.cells.toArray] w fun z w' => z = .returned (.bool true) ∧ Fr No w w' := by
  obtain ⟨W1, hW1⟩ : ∃ W1, W1 = w.alloc (.cells x.cells.toArray 50) := ⟨_, rfl⟩
  have hb1 : Blk W1 w.heap.size 50 x.cells.toArray := by rw [hW1]; exact Blk.new w _ _
  have hf1 : Fr No w W1 := by rw [hW1]; exact (Fr.refl No w).alloc _
  have HW1 := Lib.hid hW1.symm
  have HB1 := Lib.hid hb1
  have HF1 := Lib.hid hf1
  have HSE := Lib.hid (show Seg W1 w.heap.size 1 x.e.cells from ⟨_, _, hb1, fun j u hj => by
    have hl : j < x.e.cells.length := (List.getElem?_eq_some_iff.1 hj).1
    unfold TA.cells
    rw [List.getElem?_toArray, Nat.add_comm, List.getElem?_cons_succ, List.getElem?_append_left hl]
    exact hj⟩)
  clear hb1 hf1 hW1
  obtain ⟨act, hact⟩ : ∃ act, act = x.act := ⟨_, rfl⟩
  rw [← hact] at ha
  obtain ⟨e, he⟩ : ∃ e, e = x.e := ⟨_, rfl⟩
  obtain ⟨byVa, hbv⟩ : ∃ byVa, byVa = x.byVa := ⟨_, rfl⟩
  obtain ⟨byAsid, hba⟩ : ∃ byAsid, byAsid = x.byAsid := ⟨_, rfl⟩
  have HX := Lib.hid (show ∀ W, Fr No W1 W → W.cell? ⟨w.heap.size, 0, none⟩ = some (.int .i64 act) ∧ W.cell? ⟨w.heap.size, 12, none⟩ = some (.bool byVa) ∧ W.cell? ⟨w.heap.size, 13, none⟩ = some (.bool byAsid) from fun W hW => by
    have hb := HB1.out.fr hW (fun q => q)
    rw [hact, hbv, hba]
    exact ⟨hb.cell 0, hb.cell 12, hb.cell 13⟩)
  rw [← he] at HSE
  clear hact he hbv hba
  go_enter Tryd.func19, Tryd.ntmps19
  go_upto_region 1 with fail
  rw [HW1.out]
  go_upto_region 2 with (first
    | (refine wpList_load_seg rfl 25 _ rfl w.heap.size 1 rfl _ HSE.out _ Tryd.underlying25 rfl infoE ?_)
    | (refine wpList_store_row rfl 25 _ _ rfl _ _ rfl rfl _ _ (heap_alloc_new _ _) infoE rfl (all_oneCell_toArray e.cells_one) ?_))
  have hw4 := fun old => setRow_fr2 W1 (.cells old 25) e.cells.toArray
  have hb4 := fun old => setRow_heap (W1.alloc (.cells old 25)) W1.heap.size old e.cells.toArray 25 _ (heap_alloc_new W1 _)
  obtain ⟨B, hB⟩ : ∃ B, B = W1.heap.size := ⟨_, rfl⟩
  generalize hW : (World.setRow _ _ _) = W2
  have HF2 := Lib.hid (show Fr No W1 W2 from by rw [← hW]; exact hw4 _)
  have HBE := Lib.hid (show Blk W2 B 25 e.cells.toArray from by rw [← hW, hB]; exact hb4 _)
  rw [← hB]
  have HBs := Lib.hid (show w.heap.size < B from by rw [hB]; have := HB1.out.lt; omega)
  have HF := Lib.hid (HF1.out.trans HF2.out)
  have HC := Lib.hid (show ∀ W, Fr No W2 W → (W.cell? ⟨B, 0, none⟩ = some (.bool e.v) ∧ W.cell? ⟨B, 1, none⟩ = some (.int .u64 (e.vmid : Int)) ∧ W.cell? ⟨B, 2, none⟩ = some (.int .u64 (e.asid : Int)) ∧ W.cell? ⟨B, 4, none⟩ = some (.int .u64 (e.va : Int)) ∧ W.cell? ⟨w.heap.size, 12, none⟩ = some (.bool byVa) ∧ W.cell? ⟨w.heap.size, 13, none⟩ = some (.bool byAsid)) ∧ W.cell? ⟨w.heap.size, 0, none⟩ = some (.int .i64 act) ∧ Seg W B 0 e.cells from fun W hW => by
    have h1 := HBE.out.fr hW (fun q => q)
    have h2 := HX.out W (HF2.out.trans hW)
    exact ⟨⟨h1.cell 0, h1.cell 1, h1.cell 2, h1.cell 4, h2.2.1, h2.2.2⟩, h2.1, Seg.of_blk h1⟩)
  clear hw4 hb4 hW hB
  obtain ⟨⟨q0, q1, q2, q3, q4, q5⟩, qa, hseg⟩ := HC.out W2 (Fr.refl No W2)
  have HSG := Lib.hid hseg
  clear hseg
  subst ha
  obtain ⟨y, hy⟩ : ∃ y, y = TE.none_ := ⟨_, rfl⟩
  have HG1 := Lib.hid (show ∀ W, Calls Tryd.prog 10 #[.pointer none, .bool e.v, .int .u64 (e.vmid : Int), .int .u64 (e.asid : Int), .int .u64 (e.va : Int)] W fun r w' => r = .returned (.tuple #[.agg y.cells.toArray, .bool false]) ∧ Fr No W w' from fun W => by
    rw [hy]; exact get_nil W e.v e.vmid e.asid e.va)
  have HG2 := Lib.hid (show ∀ W, Calls Tryd.prog 38 #[.pointer none, .bool e.v, .int .u64 (e.vmid : Int), .int .u64 (e.asid : Int), .int .u64 (e.va : Int)] W fun r w' => r = .returned (.tuple #[.agg y.cells.toArray, .bool false]) ∧ Fr No W w' from fun W => by
    rw [hy]; exact rget_nil W e.v e.vmid e.asid e.va)
  have hyy : ∀ W : World, (binOp .eql 25 (.agg y.cells.toArray) (.agg y.cells.toArray)).run Tryd.prog W = .ok (.bool true) W := fun W => by rw [(te_eq_run y y W).1]; simp
  clear hy
  go_wp2_with fail
  refine (HG1.out _).mono ?_
  rintro z w3 ⟨rfl, hb3⟩
  have H23 := Lib.hid hb3
  clear hb3
  go_upto_region 8 with (first
    | (refine wpList_store_row rfl 25 _ _ rfl _ _ rfl rfl _ _ (heap_alloc_new _ _) infoE rfl (all_oneCell_toArray y.cells_one) ?_))
  have hw5 := fun old => setRow_fr2 w3 (.cells old 25) y.cells.toArray
  have hb5 := fun old => setRow_heap (w3.alloc (.cells old 25)) w3.heap.size old y.cells.toArray 25 _ (heap_alloc_new w3 _)
  obtain ⟨B8, hB5⟩ : ∃ B8, B8 = w3.heap.size := ⟨_, rfl⟩
  generalize hW5 : (World.setRow _ _ _) = W4
  have H34 := Lib.hid (show Fr No w3 W4 from by rw [← hW5]; exact hw5 _)
  have HS8 := Lib.hid (show Seg W4 B8 0 y.cells from by rw [hB5, ← hW5]; exact Seg.of_blk (hb5 _))
  rw [← hB5]
  clear hw5 hb5 hW5 hB5
  have H24 := Lib.hid (H23.out.trans H34.out)
  obtain ⟨⟨k0, k1, k2, k3, k4, k5⟩, ka, _⟩ := HC.out W4 H24.out
  go_wp2_with fail
  refine (HG2.out W4).mono ?_
  rintro z w5 ⟨rfl, hf5⟩
  have H25 := Lib.hid (H24.out.trans hf5)
  have HS85 := Lib.hid (HS8.out.fr hf5 (fun q => q))
  clear hf5
  go_upto_region 9 with (first
    | (refine wpList_store_row rfl 78 _ _ rfl _ _ rfl rfl _ _ (heap_alloc_new _ _) infoRE rfl (all_oneCell_toArray y.cells_one) ?_))
  have hw6 := fun old => setRow_fr2 w5 (.cells old 78) y.cells.toArray
  have hb6 := fun old => setRow_heap (w5.alloc (.cells old 78)) w5.heap.size old y.cells.toArray 78 _ (heap_alloc_new w5 _)
  obtain ⟨B10, hB6⟩ : ∃ B10, B10 = w5.heap.size := ⟨_, rfl⟩
  generalize hW6 : (World.setRow _ _ _) = W6
  have H56 := Lib.hid (show Fr No w5 W6 from by rw [← hW6]; exact hw6 _)
  have HS10 := Lib.hid (show Seg W6 B10 0 y.cells from by rw [hB6, ← hW6]; exact Seg.of_blk (hb6 _))
  rw [← hB6]
  clear hw6 hb6 hW6 hB6
  have HS86 := Lib.hid (HS85.out.fr H56.out (fun q => q))
  have H26 := Lib.hid (H25.out.trans H56.out)
  go_wp2_with (first
    | (refine wpList_load_seg_h 25 (.tmp 8) (by rfl) (by kernel_rfl) B8 0 (by rfl) _ HS86.out _ Tryd.underlying25 (by rfl) infoE ?_)
    | (refine wpList_load_seg_h 78 (.tmp 10) (by rfl) (by kernel_rfl) B10 0 (by rfl) _ HS10.out _ Tryd.underlying78 (by rfl) infoRE ?_)
    )
  go_ret
  exact ⟨by simp, HF.out.trans H26.out⟩
set_option maxRecDepth 100000 in
set_option maxHeartbeats 4000000 in
theorem bnil_2 (w : World) (x : TA) (ha : x.act = 2) :
    Calls Tryd.prog 19 #[.pointer none, .pointer none, .agg x.cells.toArray] w fun z w' => z = .returned (.bool true) ∧ Fr No w w' := by
  obtain ⟨W1, hW1⟩ : ∃ W1, W1 = w.alloc (.cells x.cells.toArray 50) := ⟨_, rfl⟩
  have hb1 : Blk W1 w.heap.size 50 x.cells.toArray := by rw [hW1]; exact Blk.new w _ _
  have hf1 : Fr No w W1 := by rw [hW1]; exact (Fr.refl No w).alloc _
  have HW1 := Lib.hid hW1.symm
  have HB1 := Lib.hid hb1
  have HF1 := Lib.hid hf1
  have HSE := Lib.hid (show Seg W1 w.heap.size 1 x.e.cells from ⟨_, _, hb1, fun j u hj => by
    have hl : j < x.e.cells.length := (List.getElem?_eq_some_iff.1 hj).1
    unfold TA.cells
    rw [List.getElem?_toArray, Nat.add_comm, List.getElem?_cons_succ, List.getElem?_append_left hl]
    exact hj⟩)
  clear hb1 hf1 hW1
  obtain ⟨act, hact⟩ : ∃ act, act = x.act := ⟨_, rfl⟩
  rw [← hact] at ha
  obtain ⟨e, he⟩ : ∃ e, e = x.e := ⟨_, rfl⟩
  obtain ⟨byVa, hbv⟩ : ∃ byVa, byVa = x.byVa := ⟨_, rfl⟩
  obtain ⟨byAsid, hba⟩ : ∃ byAsid, byAsid = x.byAsid := ⟨_, rfl⟩
  have HX := Lib.hid (show ∀ W, Fr No W1 W → W.cell? ⟨w.heap.size, 0, none⟩ = some (.int .i64 act) ∧ W.cell? ⟨w.heap.size, 12, none⟩ = some (.bool byVa) ∧ W.cell? ⟨w.heap.size, 13, none⟩ = some (.bool byAsid) from fun W hW => by
    have hb := HB1.out.fr hW (fun q => q)
    rw [hact, hbv, hba]
    exact ⟨hb.cell 0, hb.cell 12, hb.cell 13⟩)
  rw [← he] at HSE
  clear hact he hbv hba
  go_enter Tryd.func19, Tryd.ntmps19
  go_upto_region 1 with fail
  rw [HW1.out]
  go_upto_region 2 with (first
    | (refine wpList_load_seg rfl 25 _ rfl w.heap.size 1 rfl _ HSE.out _ Tryd.underlying25 rfl infoE ?_)
    | (refine wpList_store_row rfl 25 _ _ rfl _ _ rfl rfl _ _ (heap_alloc_new _ _) infoE rfl (all_oneCell_toArray e.cells_one) ?_))
  have hw4 := fun old => setRow_fr2 W1 (.cells old 25) e.cells.toArray
  have hb4 := fun old => setRow_heap (W1.alloc (.cells old 25)) W1.heap.size old e.cells.toArray 25 _ (heap_alloc_new W1 _)
  obtain ⟨B, hB⟩ : ∃ B, B = W1.heap.size := ⟨_, rfl⟩
  generalize hW : (World.setRow _ _ _) = W2
  have HF2 := Lib.hid (show Fr No W1 W2 from by rw [← hW]; exact hw4 _)
  have HBE := Lib.hid (show Blk W2 B 25 e.cells.toArray from by rw [← hW, hB]; exact hb4 _)
  rw [← hB]
  have HBs := Lib.hid (show w.heap.size < B from by rw [hB]; have := HB1.out.lt; omega)
  have HF := Lib.hid (HF1.out.trans HF2.out)
  have HC := Lib.hid (show ∀ W, Fr No W2 W → (W.cell? ⟨B, 0, none⟩ = some (.bool e.v) ∧ W.cell? ⟨B, 1, none⟩ = some (.int .u64 (e.vmid : Int)) ∧ W.cell? ⟨B, 2, none⟩ = some (.int .u64 (e.asid : Int)) ∧ W.cell? ⟨B, 4, none⟩ = some (.int .u64 (e.va : Int)) ∧ W.cell? ⟨w.heap.size, 12, none⟩ = some (.bool byVa) ∧ W.cell? ⟨w.heap.size, 13, none⟩ = some (.bool byAsid)) ∧ W.cell? ⟨w.heap.size, 0, none⟩ = some (.int .i64 act) ∧ Seg W B 0 e.cells from fun W hW => by
    have h1 := HBE.out.fr hW (fun q => q)
    have h2 := HX.out W (HF2.out.trans hW)
    exact ⟨⟨h1.cell 0, h1.cell 1, h1.cell 2, h1.cell 4, h2.2.1, h2.2.2⟩, h2.1, Seg.of_blk h1⟩)
  clear hw4 hb4 hW hB
  obtain ⟨⟨q0, q1, q2, q3, q4, q5⟩, qa, hseg⟩ := HC.out W2 (Fr.refl No W2)
  have HSG := Lib.hid hseg
  clear hseg
  subst ha
  go_upto_region 11 with fail
  refine wp_region_held_drew (S := fun W => W.cell? ⟨B, 0, none⟩ = some (.bool e.v) ∧ W.cell? ⟨B, 1, none⟩ = some (.int .u64 (e.vmid : Int)) ∧ W.cell? ⟨B, 2, none⟩ = some (.int .u64 (e.asid : Int)) ∧ W.cell? ⟨B, 4, none⟩ = some (.int .u64 (e.va : Int)) ∧ W.cell? ⟨w.heap.size, 12, none⟩ = some (.bool byVa) ∧ W.cell? ⟨w.heap.size, 13, none⟩ = some (.bool byAsid)) (by kernel_rfl) ⟨q0, q1, q2, q3, q4, q5⟩ (fun hHeld => ?_)
  clear q0 q1 q2 q3 q4 q5 qa
  refine' tkG (i := 0) (v := _) rfl (by kernel_rfl) (by kernel_rfl) (by kernel_rfl) (fun _ _ _ h => h) (by rfl) ?hy10 (by assumption) ?rest10
  case hy10 => (intro wq hSq; obtain ⟨q0, q1, q2, q3, q4, q5⟩ := hSq; go_simp; try with_reducible rfl)
  simp only [Act.put, List.setIfInBounds_toArray, List.set_cons_zero, List.set_cons_succ]
  refine' tkG (i := 1) (v := _) rfl (by kernel_rfl) (by kernel_rfl) (by kernel_rfl) (fun _ _ _ h => h) (by rfl) ?hy11 (by assumption) ?rest11
  case hy11 => (intro wq hSq; obtain ⟨q0, q1, q2, q3, q4, q5⟩ := hSq; go_simp; try with_reducible rfl)
  simp only [Act.put, List.setIfInBounds_toArray, List.set_cons_zero, List.set_cons_succ]
  refine' tkG (i := 2) (v := _) rfl (by kernel_rfl) (by kernel_rfl) (by kernel_rfl) (fun _ _ _ h => h) (by rfl) ?hy12 (by assumption) ?rest12
  case hy12 => (intro wq hSq; obtain ⟨q0, q1, q2, q3, q4, q5⟩ := hSq; go_simp; try with_reducible rfl)
  simp only [Act.put, List.setIfInBounds_toArray, List.set_cons_zero, List.set_cons_succ]
  refine' tkG (i := 3) (v := _) rfl (by kernel_rfl) (by kernel_rfl) (by kernel_rfl) (fun _ _ _ h => h) (by rfl) ?hy13 (by assumption) ?rest13
  case hy13 => (intro wq hSq; obtain ⟨q0, q1, q2, q3, q4, q5⟩ := hSq; go_simp; try with_reducible rfl)
  simp only [Act.put, List.setIfInBounds_toArray, List.set_cons_zero, List.set_cons_succ]
  refine' tkG (i := 4) (v := _) rfl (by kernel_rfl) (by kernel_rfl) (by kernel_rfl) (fun _ _ _ h => h) (by rfl) ?hy14 (by assumption) ?rest14
  case hy14 => (intro wq hSq; obtain ⟨q0, q1, q2, q3, q4, q5⟩ := hSq; go_simp; try with_reducible rfl)
  simp only [Act.put, List.setIfInBounds_toArray, List.set_cons_zero, List.set_cons_succ]
  refine' tkG (i := 5) (v := _) rfl (by kernel_rfl) (by kernel_rfl) (by kernel_rfl) (fun _ _ _ h => h) (by rfl) ?hy15 (by assumption) ?rest15
  case hy15 => (intro wq hSq; obtain ⟨q0, q1, q2, q3, q4, q5⟩ := hSq; go_simp; try with_reducible rfl)
  simp only [Act.put, List.setIfInBounds_toArray, List.set_cons_zero, List.set_cons_succ]
  refine' tkG (i := 6) (v := _) rfl (by kernel_rfl) (by kernel_rfl) (by kernel_rfl) (fun _ _ _ h => h) (by rfl) ?hy16 (by assumption) ?rest16
  case hy16 => (intro wq hSq; obtain ⟨q0, q1, q2, q3, q4, q5⟩ := hSq; go_simp; try with_reducible rfl)
  simp only [Act.put, List.setIfInBounds_toArray, List.set_cons_zero, List.set_cons_succ]
  refine' tkG (i := 7) (v := _) rfl (by kernel_rfl) (by kernel_rfl) (by kernel_rfl) (fun _ _ _ h => h) (by rfl) ?hy17 (by assumption) ?rest17
  case hy17 => (intro wq hSq; obtain ⟨q0, q1, q2, q3, q4, q5⟩ := hSq; go_simp; try with_reducible rfl)
  simp only [Act.put, List.setIfInBounds_toArray, List.set_cons_zero, List.set_cons_succ]
  refine' tkG (i := 8) (v := _) rfl (by kernel_rfl) (by kernel_rfl) (by kernel_rfl) (fun _ _ _ h => h) (by rfl) ?hy18 (by assumption) ?rest18
  case hy18 => (intro wq hSq; obtain ⟨q0, q1, q2, q3, q4, q5⟩ := hSq; go_simp; try with_reducible rfl)
  simp only [Act.put, List.setIfInBounds_toArray, List.set_cons_zero, List.set_cons_succ]
  refine' tkG (i := 9) (v := _) rfl (by kernel_rfl) (by kernel_rfl) (by kernel_rfl) (fun _ _ _ h => h) (by rfl) ?hy19 (by assumption) ?rest19
  case hy19 => (intro wq hSq; obtain ⟨q0, q1, q2, q3, q4, q5⟩ := hSq; go_simp; try with_reducible rfl)
  simp only [Act.put, List.setIfInBounds_toArray, List.set_cons_zero, List.set_cons_succ]
  refine' tkG (i := 10) (v := _) rfl (by kernel_rfl) (by kernel_rfl) (by kernel_rfl) (fun _ _ _ h => h) (by rfl) ?hy20 (by assumption) ?rest20
  case hy20 => (intro wq hSq; obtain ⟨q0, q1, q2, q3, q4, q5⟩ := hSq; go_simp; try with_reducible rfl)
  simp only [Act.put, List.setIfInBounds_toArray, List.set_cons_zero, List.set_cons_succ]
  refine' tkG (i := 11) (v := _) rfl (by kernel_rfl) (by kernel_rfl) (by kernel_rfl) (fun _ _ _ h => h) (by rfl) ?hy21 (by assumption) ?rest21
  case hy21 => (intro wq hSq; obtain ⟨q0, q1, q2, q3, q4, q5⟩ := hSq; go_simp; try with_reducible rfl)
  simp only [Act.put, List.setIfInBounds_toArray, List.set_cons_zero, List.set_cons_succ]
  refine' tkG (i := 12) (v := _) rfl (by kernel_rfl) (by kernel_rfl) (by kernel_rfl) (fun _ _ _ h => h) (by rfl) ?hy22 (by assumption) ?rest22
  case hy22 => (intro wq hSq; obtain ⟨q0, q1, q2, q3, q4, q5⟩ := hSq; go_simp; try with_reducible rfl)
  simp only [Act.put, List.setIfInBounds_toArray, List.set_cons_zero, List.set_cons_succ]
  refine' tkG (i := 14) (v := _) rfl (by kernel_rfl) (by kernel_rfl) (by kernel_rfl) (fun _ _ _ h => h) (by rfl) ?hy23 (by assumption) ?rest23
  case hy23 => (intro wq hSq; obtain ⟨q0, q1, q2, q3, q4, q5⟩ := hSq; go_simp; try with_reducible rfl)
  simp only [Act.put, List.setIfInBounds_toArray, List.set_cons_zero, List.set_cons_succ]
  refine' tkG (i := 15) (v := _) rfl (by kernel_rfl) (by kernel_rfl) (by kernel_rfl) (fun _ _ _ h => h) (by rfl) ?hy24 (by assumption) ?rest24
  case hy24 => (intro wq hSq; obtain ⟨q0, q1, q2, q3, q4, q5⟩ := hSq; go_simp; try with_reducible rfl)
  simp only [Act.put, List.setIfInBounds_toArray, List.set_cons_zero, List.set_cons_succ]
  refine' tkG (i := 16) (v := _) rfl (by kernel_rfl) (by kernel_rfl) (by kernel_rfl) (fun _ _ _ h => h) (by rfl) ?hy25 (by assumption) ?rest25
  case hy25 => (intro wq hSq; obtain ⟨q0, q1, q2, q3, q4, q5⟩ := hSq; go_simp; try with_reducible rfl)
  simp only [Act.put, List.setIfInBounds_toArray, List.set_cons_zero, List.set_cons_succ]
  refine' tkG (i := 17) (v := _) rfl (by kernel_rfl) (by kernel_rfl) (by kernel_rfl) (fun _ _ _ h => h) (by rfl) ?hy26 (by assumption) ?rest26
  case hy26 => (intro wq hSq; obtain ⟨q0, q1, q2, q3, q4, q5⟩ := hSq; go_simp; try with_reducible rfl)
  simp only [Act.put, List.setIfInBounds_toArray, List.set_cons_zero, List.set_cons_succ]
  refine' tkG (i := 18) (v := _) rfl (by kernel_rfl) (by kernel_rfl) (by kernel_rfl) (fun _ _ _ h => h) (by rfl) ?hy27 (by assumption) ?rest27
  case hy27 => (intro wq hSq; obtain ⟨q0, q1, q2, q3, q4, q5⟩ := hSq; go_simp; try with_reducible rfl)
  simp only [Act.put, List.setIfInBounds_toArray, List.set_cons_zero, List.set_cons_succ]
  refine' tkG (i := 19) (v := _) rfl (by kernel_rfl) (by kernel_rfl) (by kernel_rfl) (fun _ _ _ h => h) (by rfl) ?hy28 (by assumption) ?rest28
  case hy28 => (intro wq hSq; obtain ⟨q0, q1, q2, q3, q4, q5⟩ := hSq; go_simp; try with_reducible rfl)
  simp only [Act.put, List.setIfInBounds_toArray, List.set_cons_zero, List.set_cons_succ]
  refine' tkG (i := 20) (v := _) rfl (by kernel_rfl) (by kernel_rfl) (by kernel_rfl) (fun _ _ _ h => h) (by rfl) ?hy29 (by assumption) ?rest29
  case hy29 => (intro wq hSq; obtain ⟨q0, q1, q2, q3, q4, q5⟩ := hSq; go_simp; try with_reducible rfl)
  simp only [Act.put, List.setIfInBounds_toArray, List.set_cons_zero, List.set_cons_succ]
  refine' tkG (i := 21) (v := _) rfl (by kernel_rfl) (by kernel_rfl) (by kernel_rfl) (fun _ _ _ h => h) (by rfl) ?hy30 (by assumption) ?rest30
  case hy30 => (intro wq hSq; obtain ⟨q0, q1, q2, q3, q4, q5⟩ := hSq; go_simp; try with_reducible rfl)
  simp only [Act.put, List.setIfInBounds_toArray, List.set_cons_zero, List.set_cons_succ]
  refine' tkG (i := 22) (v := _) rfl (by kernel_rfl) (by kernel_rfl) (by kernel_rfl) (fun _ _ _ h => h) (by rfl) ?hy31 (by assumption) ?rest31
  case hy31 => (intro wq hSq; obtain ⟨q0, q1, q2, q3, q4, q5⟩ := hSq; go_simp; try with_reducible rfl)
  simp only [Act.put, List.setIfInBounds_toArray, List.set_cons_zero, List.set_cons_succ]
  refine' tkG (i := 23) (v := _) rfl (by kernel_rfl) (by kernel_rfl) (by kernel_rfl) (fun _ _ _ h => h) (by rfl) ?hy32 (by assumption) ?rest32
  case hy32 => (intro wq hSq; obtain ⟨q0, q1, q2, q3, q4, q5⟩ := hSq; go_simp; try with_reducible rfl)
  simp only [Act.put, List.setIfInBounds_toArray, List.set_cons_zero, List.set_cons_succ]
  refine' tkG (i := 24) (v := _) rfl (by kernel_rfl) (by kernel_rfl) (by kernel_rfl) (fun _ _ _ h => h) (by rfl) ?hy33 (by assumption) ?rest33
  case hy33 => (intro wq hSq; obtain ⟨q0, q1, q2, q3, q4, q5⟩ := hSq; go_simp; try with_reducible rfl)
  simp only [Act.put, List.setIfInBounds_toArray, List.set_cons_zero, List.set_cons_succ]
  refine' tkG (i := 25) (v := _) rfl (by kernel_rfl) (by kernel_rfl) (by kernel_rfl) (fun _ _ _ h => h) (by rfl) ?hy34 (by assumption) ?rest34
  case hy34 => (intro wq hSq; obtain ⟨q0, q1, q2, q3, q4, q5⟩ := hSq; go_simp; try with_reducible rfl)
  simp only [Act.put, List.setIfInBounds_toArray, List.set_cons_zero, List.set_cons_succ]
  refine' tkG (i := 26) (v := _) rfl (by kernel_rfl) (by kernel_rfl) (by kernel_rfl) (fun _ _ _ h => h) (by rfl) ?hy35 (by assumption) ?rest35
  case hy35 => (intro wq hSq; obtain ⟨q0, q1, q2, q3, q4, q5⟩ := hSq; go_simp; try with_reducible rfl)
  simp only [Act.put, List.setIfInBounds_toArray, List.set_cons_zero, List.set_cons_succ]
  refine wpAnyH_ready (rs := [13]) (by kernel_rfl) (by simp) ?_
  refine AllReadyH.cons rfl (fun K hK => ?_) AllReadyH.nil
  go_simp
  refine (fence_nil W2.drew e.v e.vmid e.asid e.va byVa byAsid).mono ?_
  rintro z w3 ⟨rfl, hf⟩
  have HF3 := Lib.hid (show Fr No W2 w3 from (Fr.refl No W2).drew.trans hf)
  go_simp
  refine hK.out _ _ ⟨hf.cell hHeld.1 (fun q => q), hf.cell hHeld.2.1 (fun q => q), hf.cell hHeld.2.2.1 (fun q => q), hf.cell hHeld.2.2.2.1 (fun q => q), hf.cell hHeld.2.2.2.2.1 (fun q => q), hf.cell hHeld.2.2.2.2.2 (fun q => q)⟩ (fun hHeld3 => ?_)
  clear hK K hHeld hf
  try simp only [List.setIfInBounds_toArray, List.set_cons_zero, List.set_cons_succ]
  refine wpAnyH_ready (rs := [27]) (by kernel_rfl) (by simp) ?_
  refine AllReadyH.cons rfl (fun K hK => ?_) AllReadyH.nil
  go_simp
  refine (rfence_nil w3 e.v e.vmid e.asid e.va byVa byAsid).mono ?_
  rintro z w4 ⟨rfl, hg⟩
  have HF4 := Lib.hid (HF3.out.trans hg)
  go_simp
  refine hK.out _ _ ⟨hg.cell hHeld3.1 (fun q => q), hg.cell hHeld3.2.1 (fun q => q), hg.cell hHeld3.2.2.1 (fun q => q), hg.cell hHeld3.2.2.2.1 (fun q => q), hg.cell hHeld3.2.2.2.2.1 (fun q => q), hg.cell hHeld3.2.2.2.2.2 (fun q => q)⟩ (fun hHeld4 => ?_)
  clear hK K hHeld3 hg
  try simp only [List.setIfInBounds_toArray, List.set_cons_zero, List.set_cons_succ]
  refine' tkG (i := 28) (v := _) rfl (by kernel_rfl) (by kernel_rfl) (by kernel_rfl) (fun _ _ _ h => h) (by rfl) ?hy37 (by assumption) ?rest37
  case hy37 => (intro wq hSq; obtain ⟨q0, q1, q2, q3, q4, q5⟩ := hSq; go_simp; try with_reducible rfl)
  simp only [Act.put, List.setIfInBounds_toArray, List.set_cons_zero, List.set_cons_succ]
  refine' tkG (i := 29) (v := _) rfl (by kernel_rfl) (by kernel_rfl) (by kernel_rfl) (fun _ _ _ h => h) (by rfl) ?hy38 (by assumption) ?rest38
  case hy38 => (intro wq hSq; obtain ⟨q0, q1, q2, q3, q4, q5⟩ := hSq; go_simp; try with_reducible rfl)
  simp only [Act.put, List.setIfInBounds_toArray, List.set_cons_zero, List.set_cons_succ]
  refine wpAnyH_done (by kernel_rfl) ?_ _
  clear hHeld4
  go_wp2_with fail
  go_ret
  exact ⟨by simp, HF.out.trans HF4.out⟩
set_option maxRecDepth 100000 in
set_option maxHeartbeats 4000000 in
theorem bnil_3 (w : World) (x : TA) (ha : x.act = 3) :
    Calls Tryd.prog 19 #[.pointer none, .pointer none, .agg x.cells.toArray] w fun z w' => z = .returned (.bool true) ∧ Fr No w w' := by
  obtain ⟨W1, hW1⟩ : ∃ W1, W1 = w.alloc (.cells x.cells.toArray 50) := ⟨_, rfl⟩
  have hb1 : Blk W1 w.heap.size 50 x.cells.toArray := by rw [hW1]; exact Blk.new w _ _
  have hf1 : Fr No w W1 := by rw [hW1]; exact (Fr.refl No w).alloc _
  have HW1 := Lib.hid hW1.symm
  have HB1 := Lib.hid hb1
  have HF1 := Lib.hid hf1
  have HSE := Lib.hid (show Seg W1 w.heap.size 1 x.e.cells from ⟨_, _, hb1, fun j u hj => by
    have hl : j < x.e.cells.length := (List.getElem?_eq_some_iff.1 hj).1
    unfold TA.cells
    rw [List.getElem?_toArray, Nat.add_comm, List.getElem?_cons_succ, List.getElem?_append_left hl]
    exact hj⟩)
  clear hb1 hf1 hW1
  obtain ⟨act, hact⟩ : ∃ act, act = x.act := ⟨_, rfl⟩
  rw [← hact] at ha
  obtain ⟨e, he⟩ : ∃ e, e = x.e := ⟨_, rfl⟩
  obtain ⟨byVa, hbv⟩ : ∃ byVa, byVa = x.byVa := ⟨_, rfl⟩
  obtain ⟨byAsid, hba⟩ : ∃ byAsid, byAsid = x.byAsid := ⟨_, rfl⟩
  have HX := Lib.hid (show ∀ W, Fr No W1 W → W.cell? ⟨w.heap.size, 0, none⟩ = some (.int .i64 act) ∧ W.cell? ⟨w.heap.size, 12, none⟩ = some (.bool byVa) ∧ W.cell? ⟨w.heap.size, 13, none⟩ = some (.bool byAsid) from fun W hW => by
    have hb := HB1.out.fr hW (fun q => q)
    rw [hact, hbv, hba]
    exact ⟨hb.cell 0, hb.cell 12, hb.cell 13⟩)
  rw [← he] at HSE
  clear hact he hbv hba
  go_enter Tryd.func19, Tryd.ntmps19
  go_upto_region 1 with fail
  rw [HW1.out]
  go_upto_region 2 with (first
    | (refine wpList_load_seg rfl 25 _ rfl w.heap.size 1 rfl _ HSE.out _ Tryd.underlying25 rfl infoE ?_)
    | (refine wpList_store_row rfl 25 _ _ rfl _ _ rfl rfl _ _ (heap_alloc_new _ _) infoE rfl (all_oneCell_toArray e.cells_one) ?_))
  have hw4 := fun old => setRow_fr2 W1 (.cells old 25) e.cells.toArray
  have hb4 := fun old => setRow_heap (W1.alloc (.cells old 25)) W1.heap.size old e.cells.toArray 25 _ (heap_alloc_new W1 _)
  obtain ⟨B, hB⟩ : ∃ B, B = W1.heap.size := ⟨_, rfl⟩
  generalize hW : (World.setRow _ _ _) = W2
  have HF2 := Lib.hid (show Fr No W1 W2 from by rw [← hW]; exact hw4 _)
  have HBE := Lib.hid (show Blk W2 B 25 e.cells.toArray from by rw [← hW, hB]; exact hb4 _)
  rw [← hB]
  have HBs := Lib.hid (show w.heap.size < B from by rw [hB]; have := HB1.out.lt; omega)
  have HF := Lib.hid (HF1.out.trans HF2.out)
  have HC := Lib.hid (show ∀ W, Fr No W2 W → (W.cell? ⟨B, 0, none⟩ = some (.bool e.v) ∧ W.cell? ⟨B, 1, none⟩ = some (.int .u64 (e.vmid : Int)) ∧ W.cell? ⟨B, 2, none⟩ = some (.int .u64 (e.asid : Int)) ∧ W.cell? ⟨B, 4, none⟩ = some (.int .u64 (e.va : Int)) ∧ W.cell? ⟨w.heap.size, 12, none⟩ = some (.bool byVa) ∧ W.cell? ⟨w.heap.size, 13, none⟩ = some (.bool byAsid)) ∧ W.cell? ⟨w.heap.size, 0, none⟩ = some (.int .i64 act) ∧ Seg W B 0 e.cells from fun W hW => by
    have h1 := HBE.out.fr hW (fun q => q)
    have h2 := HX.out W (HF2.out.trans hW)
    exact ⟨⟨h1.cell 0, h1.cell 1, h1.cell 2, h1.cell 4, h2.2.1, h2.2.2⟩, h2.1, Seg.of_blk h1⟩)
  clear hw4 hb4 hW hB
  obtain ⟨⟨q0, q1, q2, q3, q4, q5⟩, qa, hseg⟩ := HC.out W2 (Fr.refl No W2)
  have HSG := Lib.hid hseg
  clear hseg
  subst ha
  go_upto_region 13 with fail
  refine wp_region_held_drew (S := fun W => W.cell? ⟨B, 0, none⟩ = some (.bool e.v) ∧ W.cell? ⟨B, 1, none⟩ = some (.int .u64 (e.vmid : Int)) ∧ W.cell? ⟨B, 2, none⟩ = some (.int .u64 (e.asid : Int)) ∧ W.cell? ⟨B, 4, none⟩ = some (.int .u64 (e.va : Int)) ∧ W.cell? ⟨w.heap.size, 12, none⟩ = some (.bool byVa) ∧ W.cell? ⟨w.heap.size, 13, none⟩ = some (.bool byAsid)) (by kernel_rfl) ⟨q0, q1, q2, q3, q4, q5⟩ (fun hHeld => ?_)
  clear q0 q1 q2 q3 q4 q5 qa
  refine' tkG (i := 0) (v := _) rfl (by kernel_rfl) (by kernel_rfl) (by kernel_rfl) (fun _ _ _ h => h) (by rfl) ?hy40 (by assumption) ?rest40
  case hy40 => (intro wq hSq; obtain ⟨q0, q1, q2, q3, q4, q5⟩ := hSq; go_simp; try with_reducible rfl)
  simp only [Act.put, List.setIfInBounds_toArray, List.set_cons_zero, List.set_cons_succ]
  refine' tkG (i := 1) (v := _) rfl (by kernel_rfl) (by kernel_rfl) (by kernel_rfl) (fun _ _ _ h => h) (by rfl) ?hy41 (by assumption) ?rest41
  case hy41 => (intro wq hSq; obtain ⟨q0, q1, q2, q3, q4, q5⟩ := hSq; go_simp; try with_reducible rfl)
  simp only [Act.put, List.setIfInBounds_toArray, List.set_cons_zero, List.set_cons_succ]
  refine' tkG (i := 2) (v := _) rfl (by kernel_rfl) (by kernel_rfl) (by kernel_rfl) (fun _ _ _ h => h) (by rfl) ?hy42 (by assumption) ?rest42
  case hy42 => (intro wq hSq; obtain ⟨q0, q1, q2, q3, q4, q5⟩ := hSq; go_simp; try with_reducible rfl)
  simp only [Act.put, List.setIfInBounds_toArray, List.set_cons_zero, List.set_cons_succ]
  refine' tkG (i := 3) (v := _) rfl (by kernel_rfl) (by kernel_rfl) (by kernel_rfl) (fun _ _ _ h => h) (by rfl) ?hy43 (by assumption) ?rest43
  case hy43 => (intro wq hSq; obtain ⟨q0, q1, q2, q3, q4, q5⟩ := hSq; go_simp; try with_reducible rfl)
  simp only [Act.put, List.setIfInBounds_toArray, List.set_cons_zero, List.set_cons_succ]
  refine' tkG (i := 4) (v := _) rfl (by kernel_rfl) (by kernel_rfl) (by kernel_rfl) (fun _ _ _ h => h) (by rfl) ?hy44 (by assumption) ?rest44
  case hy44 => (intro wq hSq; obtain ⟨q0, q1, q2, q3, q4, q5⟩ := hSq; go_simp; try with_reducible rfl)
  simp only [Act.put, List.setIfInBounds_toArray, List.set_cons_zero, List.set_cons_succ]
  refine' tkG (i := 6) (v := _) rfl (by kernel_rfl) (by kernel_rfl) (by kernel_rfl) (fun _ _ _ h => h) (by rfl) ?hy45 (by assumption) ?rest45
  case hy45 => (intro wq hSq; obtain ⟨q0, q1, q2, q3, q4, q5⟩ := hSq; go_simp; try with_reducible rfl)
  simp only [Act.put, List.setIfInBounds_toArray, List.set_cons_zero, List.set_cons_succ]
  refine' tkG (i := 7) (v := _) rfl (by kernel_rfl) (by kernel_rfl) (by kernel_rfl) (fun _ _ _ h => h) (by rfl) ?hy46 (by assumption) ?rest46
  case hy46 => (intro wq hSq; obtain ⟨q0, q1, q2, q3, q4, q5⟩ := hSq; go_simp; try with_reducible rfl)
  simp only [Act.put, List.setIfInBounds_toArray, List.set_cons_zero, List.set_cons_succ]
  refine' tkG (i := 8) (v := _) rfl (by kernel_rfl) (by kernel_rfl) (by kernel_rfl) (fun _ _ _ h => h) (by rfl) ?hy47 (by assumption) ?rest47
  case hy47 => (intro wq hSq; obtain ⟨q0, q1, q2, q3, q4, q5⟩ := hSq; go_simp; try with_reducible rfl)
  simp only [Act.put, List.setIfInBounds_toArray, List.set_cons_zero, List.set_cons_succ]
  refine' tkG (i := 9) (v := _) rfl (by kernel_rfl) (by kernel_rfl) (by kernel_rfl) (fun _ _ _ h => h) (by rfl) ?hy48 (by assumption) ?rest48
  case hy48 => (intro wq hSq; obtain ⟨q0, q1, q2, q3, q4, q5⟩ := hSq; go_simp; try with_reducible rfl)
  simp only [Act.put, List.setIfInBounds_toArray, List.set_cons_zero, List.set_cons_succ]
  refine' tkG (i := 10) (v := _) rfl (by kernel_rfl) (by kernel_rfl) (by kernel_rfl) (fun _ _ _ h => h) (by rfl) ?hy49 (by assumption) ?rest49
  case hy49 => (intro wq hSq; obtain ⟨q0, q1, q2, q3, q4, q5⟩ := hSq; go_simp; try with_reducible rfl)
  simp only [Act.put, List.setIfInBounds_toArray, List.set_cons_zero, List.set_cons_succ]
  refine wpAnyH_ready (rs := [5]) (by kernel_rfl) (by simp) ?_
  refine AllReadyH.cons rfl (fun K hK => ?_) AllReadyH.nil
  go_simp
  refine (fenceG_nil W2.drew e.vmid byVa).mono ?_
  rintro z w3 ⟨rfl, hf⟩
  have HF3 := Lib.hid (show Fr No W2 w3 from (Fr.refl No W2).drew.trans hf)
  go_simp
  refine hK.out _ _ ⟨hf.cell hHeld.1 (fun q => q), hf.cell hHeld.2.1 (fun q => q), hf.cell hHeld.2.2.1 (fun q => q), hf.cell hHeld.2.2.2.1 (fun q => q), hf.cell hHeld.2.2.2.2.1 (fun q => q), hf.cell hHeld.2.2.2.2.2 (fun q => q)⟩ (fun hHeld3 => ?_)
  clear hK K hHeld hf
  try simp only [List.setIfInBounds_toArray, List.set_cons_zero, List.set_cons_succ]
  refine wpAnyH_ready (rs := [11]) (by kernel_rfl) (by simp) ?_
  refine AllReadyH.cons rfl (fun K hK => ?_) AllReadyH.nil
  go_simp
  refine (rfenceG_nil w3 e.vmid byVa).mono ?_
  rintro z w4 ⟨rfl, hg⟩
  have HF4 := Lib.hid (HF3.out.trans hg)
  go_simp
  refine hK.out _ _ ⟨hg.cell hHeld3.1 (fun q => q), hg.cell hHeld3.2.1 (fun q => q), hg.cell hHeld3.2.2.1 (fun q => q), hg.cell hHeld3.2.2.2.1 (fun q => q), hg.cell hHeld3.2.2.2.2.1 (fun q => q), hg.cell hHeld3.2.2.2.2.2 (fun q => q)⟩ (fun hHeld4 => ?_)
  clear hK K hHeld3 hg
  try simp only [List.setIfInBounds_toArray, List.set_cons_zero, List.set_cons_succ]
  refine' tkG (i := 12) (v := _) rfl (by kernel_rfl) (by kernel_rfl) (by kernel_rfl) (fun _ _ _ h => h) (by rfl) ?hy51 (by assumption) ?rest51
  case hy51 => (intro wq hSq; obtain ⟨q0, q1, q2, q3, q4, q5⟩ := hSq; go_simp; try with_reducible rfl)
  simp only [Act.put, List.setIfInBounds_toArray, List.set_cons_zero, List.set_cons_succ]
  refine' tkG (i := 13) (v := _) rfl (by kernel_rfl) (by kernel_rfl) (by kernel_rfl) (fun _ _ _ h => h) (by rfl) ?hy52 (by assumption) ?rest52
  case hy52 => (intro wq hSq; obtain ⟨q0, q1, q2, q3, q4, q5⟩ := hSq; go_simp; try with_reducible rfl)
  simp only [Act.put, List.setIfInBounds_toArray, List.set_cons_zero, List.set_cons_succ]
  refine wpAnyH_done (by kernel_rfl) ?_ _
  clear hHeld4
  go_wp2_with fail
  go_ret
  exact ⟨by simp, HF.out.trans HF4.out⟩
set_option maxRecDepth 100000 in
set_option maxHeartbeats 4000000 in
theorem bnil_4 (w : World) (x : TA) (ha : x.act = 4) :
    Calls Tryd.prog 19 #[.pointer none, .pointer none, .agg x.cells.toArray] w fun z w' => z = .returned (.bool true) ∧ Fr No w w' := by
  obtain ⟨W1, hW1⟩ : ∃ W1, W1 = w.alloc (.cells x.cells.toArray 50) := ⟨_, rfl⟩
  have hb1 : Blk W1 w.heap.size 50 x.cells.toArray := by rw [hW1]; exact Blk.new w _ _
  have hf1 : Fr No w W1 := by rw [hW1]; exact (Fr.refl No w).alloc _
  have HW1 := Lib.hid hW1.symm
  have HB1 := Lib.hid hb1
  have HF1 := Lib.hid hf1
  have HSE := Lib.hid (show Seg W1 w.heap.size 1 x.e.cells from ⟨_, _, hb1, fun j u hj => by
    have hl : j < x.e.cells.length := (List.getElem?_eq_some_iff.1 hj).1
    unfold TA.cells
    rw [List.getElem?_toArray, Nat.add_comm, List.getElem?_cons_succ, List.getElem?_append_left hl]
    exact hj⟩)
  clear hb1 hf1 hW1
  obtain ⟨act, hact⟩ : ∃ act, act = x.act := ⟨_, rfl⟩
  rw [← hact] at ha
  obtain ⟨e, he⟩ : ∃ e, e = x.e := ⟨_, rfl⟩
  obtain ⟨byVa, hbv⟩ : ∃ byVa, byVa = x.byVa := ⟨_, rfl⟩
  obtain ⟨byAsid, hba⟩ : ∃ byAsid, byAsid = x.byAsid := ⟨_, rfl⟩
  have HX := Lib.hid (show ∀ W, Fr No W1 W → W.cell? ⟨w.heap.size, 0, none⟩ = some (.int .i64 act) ∧ W.cell? ⟨w.heap.size, 12, none⟩ = some (.bool byVa) ∧ W.cell? ⟨w.heap.size, 13, none⟩ = some (.bool byAsid) from fun W hW => by
    have hb := HB1.out.fr hW (fun q => q)
    rw [hact, hbv, hba]
    exact ⟨hb.cell 0, hb.cell 12, hb.cell 13⟩)
  rw [← he] at HSE
  clear hact he hbv hba
  go_enter Tryd.func19, Tryd.ntmps19
  go_upto_region 1 with fail
  rw [HW1.out]
  go_upto_region 2 with (first
    | (refine wpList_load_seg rfl 25 _ rfl w.heap.size 1 rfl _ HSE.out _ Tryd.underlying25 rfl infoE ?_)
    | (refine wpList_store_row rfl 25 _ _ rfl _ _ rfl rfl _ _ (heap_alloc_new _ _) infoE rfl (all_oneCell_toArray e.cells_one) ?_))
  have hw4 := fun old => setRow_fr2 W1 (.cells old 25) e.cells.toArray
  have hb4 := fun old => setRow_heap (W1.alloc (.cells old 25)) W1.heap.size old e.cells.toArray 25 _ (heap_alloc_new W1 _)
  obtain ⟨B, hB⟩ : ∃ B, B = W1.heap.size := ⟨_, rfl⟩
  generalize hW : (World.setRow _ _ _) = W2
  have HF2 := Lib.hid (show Fr No W1 W2 from by rw [← hW]; exact hw4 _)
  have HBE := Lib.hid (show Blk W2 B 25 e.cells.toArray from by rw [← hW, hB]; exact hb4 _)
  rw [← hB]
  have HBs := Lib.hid (show w.heap.size < B from by rw [hB]; have := HB1.out.lt; omega)
  have HF := Lib.hid (HF1.out.trans HF2.out)
  have HC := Lib.hid (show ∀ W, Fr No W2 W → (W.cell? ⟨B, 0, none⟩ = some (.bool e.v) ∧ W.cell? ⟨B, 1, none⟩ = some (.int .u64 (e.vmid : Int)) ∧ W.cell? ⟨B, 2, none⟩ = some (.int .u64 (e.asid : Int)) ∧ W.cell? ⟨B, 4, none⟩ = some (.int .u64 (e.va : Int)) ∧ W.cell? ⟨w.heap.size, 12, none⟩ = some (.bool byVa) ∧ W.cell? ⟨w.heap.size, 13, none⟩ = some (.bool byAsid)) ∧ W.cell? ⟨w.heap.size, 0, none⟩ = some (.int .i64 act) ∧ Seg W B 0 e.cells from fun W hW => by
    have h1 := HBE.out.fr hW (fun q => q)
    have h2 := HX.out W (HF2.out.trans hW)
    exact ⟨⟨h1.cell 0, h1.cell 1, h1.cell 2, h1.cell 4, h2.2.1, h2.2.2⟩, h2.1, Seg.of_blk h1⟩)
  clear hw4 hb4 hW hB
  obtain ⟨⟨q0, q1, q2, q3, q4, q5⟩, qa, hseg⟩ := HC.out W2 (Fr.refl No W2)
  have HSG := Lib.hid hseg
  clear hseg
  subst ha
  go_wp2_with fail
  refine (clear_nil W2).mono ?_
  rintro z w3 ⟨rfl, hf⟩
  have HF3 := Lib.hid (HF.out.trans hf)
  clear hf
  go_wp2_with fail
  refine (rclear_nil w3).mono ?_
  rintro z w4 ⟨rfl, hf⟩
  have HF4 := Lib.hid (HF3.out.trans hf)
  clear hf
  go_wp2_with fail
  go_ret
  exact ⟨by simp, HF4.out⟩
set_option maxRecDepth 100000 in
set_option maxHeartbeats 4000000 in
theorem bnil_6 (w : World) (x : TA) (ha : x.act = 6) :
    Calls Tryd.prog 19 #[.pointer none, .pointer none, .agg x.cells.toArray] w fun z w' => z = .returned (.bool true) ∧ Fr No w w' := by
  obtain ⟨W1, hW1⟩ : ∃ W1, W1 = w.alloc (.cells x.cells.toArray 50) := ⟨_, rfl⟩
  have hb1 : Blk W1 w.heap.size 50 x.cells.toArray := by rw [hW1]; exact Blk.new w _ _
  have hf1 : Fr No w W1 := by rw [hW1]; exact (Fr.refl No w).alloc _
  have HW1 := Lib.hid hW1.symm
  have HB1 := Lib.hid hb1
  have HF1 := Lib.hid hf1
  have HSE := Lib.hid (show Seg W1 w.heap.size 1 x.e.cells from ⟨_, _, hb1, fun j u hj => by
    have hl : j < x.e.cells.length := (List.getElem?_eq_some_iff.1 hj).1
    unfold TA.cells
    rw [List.getElem?_toArray, Nat.add_comm, List.getElem?_cons_succ, List.getElem?_append_left hl]
    exact hj⟩)
  clear hb1 hf1 hW1
  obtain ⟨act, hact⟩ : ∃ act, act = x.act := ⟨_, rfl⟩
  rw [← hact] at ha
  obtain ⟨e, he⟩ : ∃ e, e = x.e := ⟨_, rfl⟩
  obtain ⟨byVa, hbv⟩ : ∃ byVa, byVa = x.byVa := ⟨_, rfl⟩
  obtain ⟨byAsid, hba⟩ : ∃ byAsid, byAsid = x.byAsid := ⟨_, rfl⟩
  have HX := Lib.hid (show ∀ W, Fr No W1 W → W.cell? ⟨w.heap.size, 0, none⟩ = some (.int .i64 act) ∧ W.cell? ⟨w.heap.size, 12, none⟩ = some (.bool byVa) ∧ W.cell? ⟨w.heap.size, 13, none⟩ = some (.bool byAsid) from fun W hW => by
    have hb := HB1.out.fr hW (fun q => q)
    rw [hact, hbv, hba]
    exact ⟨hb.cell 0, hb.cell 12, hb.cell 13⟩)
  rw [← he] at HSE
  clear hact he hbv hba
  go_enter Tryd.func19, Tryd.ntmps19
  go_upto_region 1 with fail
  rw [HW1.out]
  go_upto_region 2 with (first
    | (refine wpList_load_seg rfl 25 _ rfl w.heap.size 1 rfl _ HSE.out _ Tryd.underlying25 rfl infoE ?_)
    | (refine wpList_store_row rfl 25 _ _ rfl _ _ rfl rfl _ _ (heap_alloc_new _ _) infoE rfl (all_oneCell_toArray e.cells_one) ?_))
  have hw4 := fun old => setRow_fr2 W1 (.cells old 25) e.cells.toArray
  have hb4 := fun old => setRow_heap (W1.alloc (.cells old 25)) W1.heap.size old e.cells.toArray 25 _ (heap_alloc_new W1 _)
  obtain ⟨B, hB⟩ : ∃ B, B = W1.heap.size := ⟨_, rfl⟩
  generalize hW : (World.setRow _ _ _) = W2
  have HF2 := Lib.hid (show Fr No W1 W2 from by rw [← hW]; exact hw4 _)
  have HBE := Lib.hid (show Blk W2 B 25 e.cells.toArray from by rw [← hW, hB]; exact hb4 _)
  rw [← hB]
  have HBs := Lib.hid (show w.heap.size < B from by rw [hB]; have := HB1.out.lt; omega)
  have HF := Lib.hid (HF1.out.trans HF2.out)
  have HC := Lib.hid (show ∀ W, Fr No W2 W → (W.cell? ⟨B, 0, none⟩ = some (.bool e.v) ∧ W.cell? ⟨B, 1, none⟩ = some (.int .u64 (e.vmid : Int)) ∧ W.cell? ⟨B, 2, none⟩ = some (.int .u64 (e.asid : Int)) ∧ W.cell? ⟨B, 4, none⟩ = some (.int .u64 (e.va : Int)) ∧ W.cell? ⟨w.heap.size, 12, none⟩ = some (.bool byVa) ∧ W.cell? ⟨w.heap.size, 13, none⟩ = some (.bool byAsid)) ∧ W.cell? ⟨w.heap.size, 0, none⟩ = some (.int .i64 act) ∧ Seg W B 0 e.cells from fun W hW => by
    have h1 := HBE.out.fr hW (fun q => q)
    have h2 := HX.out W (HF2.out.trans hW)
    exact ⟨⟨h1.cell 0, h1.cell 1, h1.cell 2, h1.cell 4, h2.2.1, h2.2.2⟩, h2.1, Seg.of_blk h1⟩)
  clear hw4 hb4 hW hB
  obtain ⟨⟨q0, q1, q2, q3, q4, q5⟩, qa, hseg⟩ := HC.out W2 (Fr.refl No W2)
  have HSG := Lib.hid hseg
  clear hseg
  subst ha
  go_wp2_with fail
  refine (entries_nil W2).mono ?_
  rintro z w3 ⟨rfl, hf⟩
  have HF3 := Lib.hid (HF.out.trans hf)
  clear hf
  go_wp2_with fail
  go_loopw [13] (fun pi wr => pi = .int .i64 0 ∧ Hid (Fr No w wr)) (fun pi _ => 0)
  case atStart => exact ⟨rfl, HF3⟩
  case round =>
    obtain ⟨rfl, HFR⟩ := hrel
    go_wp2_with fail
    go_ret
    exact ⟨rfl, HFR.out⟩
set_option maxRecDepth 100000 in
set_option maxHeartbeats 4000000 in
theorem bnil_else_ (w : World) (x : TA) (ha : x.act ≠ 0 ∧ x.act ≠ 1 ∧ x.act ≠ 2 ∧ x.act ≠ 3 ∧ x.act ≠ 4 ∧ x.act ≠ 6) :
    Calls Tryd.prog 19 #[.pointer none, .pointer none, .agg x.cells.toArray] w fun z w' => z = .returned (.bool true) ∧ Fr No w w' := by
  obtain ⟨W1, hW1⟩ : ∃ W1, W1 = w.alloc (.cells x.cells.toArray 50) := ⟨_, rfl⟩
  have hb1 : Blk W1 w.heap.size 50 x.cells.toArray := by rw [hW1]; exact Blk.new w _ _
  have hf1 : Fr No w W1 := by rw [hW1]; exact (Fr.refl No w).alloc _
  have HW1 := Lib.hid hW1.symm
  have HB1 := Lib.hid hb1
  have HF1 := Lib.hid hf1
  have HSE := Lib.hid (show Seg W1 w.heap.size 1 x.e.cells from ⟨_, _, hb1, fun j u hj => by
    have hl : j < x.e.cells.length := (List.getElem?_eq_some_iff.1 hj).1
    unfold TA.cells
    rw [List.getElem?_toArray, Nat.add_comm, List.getElem?_cons_succ, List.getElem?_append_left hl]
    exact hj⟩)
  clear hb1 hf1 hW1
  obtain ⟨act, hact⟩ : ∃ act, act = x.act := ⟨_, rfl⟩
  rw [← hact] at ha
  obtain ⟨e, he⟩ : ∃ e, e = x.e := ⟨_, rfl⟩
  obtain ⟨byVa, hbv⟩ : ∃ byVa, byVa = x.byVa := ⟨_, rfl⟩
  obtain ⟨byAsid, hba⟩ : ∃ byAsid, byAsid = x.byAsid := ⟨_, rfl⟩
  have HX := Lib.hid (show ∀ W, Fr No W1 W → W.cell? ⟨w.heap.size, 0, none⟩ = some (.int .i64 act) ∧ W.cell? ⟨w.heap.size, 12, none⟩ = some (.bool byVa) ∧ W.cell? ⟨w.heap.size, 13, none⟩ = some (.bool byAsid) from fun W hW => by
    have hb := HB1.out.fr hW (fun q => q)
    rw [hact, hbv, hba]
    exact ⟨hb.cell 0, hb.cell 12, hb.cell 13⟩)
  rw [← he] at HSE
  clear hact he hbv hba
  go_enter Tryd.func19, Tryd.ntmps19
  go_upto_region 1 with fail
  rw [HW1.out]
  go_upto_region 2 with (first
    | (refine wpList_load_seg rfl 25 _ rfl w.heap.size 1 rfl _ HSE.out _ Tryd.underlying25 rfl infoE ?_)
    | (refine wpList_store_row rfl 25 _ _ rfl _ _ rfl rfl _ _ (heap_alloc_new _ _) infoE rfl (all_oneCell_toArray e.cells_one) ?_))
  have hw4 := fun old => setRow_fr2 W1 (.cells old 25) e.cells.toArray
  have hb4 := fun old => setRow_heap (W1.alloc (.cells old 25)) W1.heap.size old e.cells.toArray 25 _ (heap_alloc_new W1 _)
  obtain ⟨B, hB⟩ : ∃ B, B = W1.heap.size := ⟨_, rfl⟩
  generalize hW : (World.setRow _ _ _) = W2
  have HF2 := Lib.hid (show Fr No W1 W2 from by rw [← hW]; exact hw4 _)
  have HBE := Lib.hid (show Blk W2 B 25 e.cells.toArray from by rw [← hW, hB]; exact hb4 _)
  rw [← hB]
  have HBs := Lib.hid (show w.heap.size < B from by rw [hB]; have := HB1.out.lt; omega)
  have HF := Lib.hid (HF1.out.trans HF2.out)
  have HC := Lib.hid (show ∀ W, Fr No W2 W → (W.cell? ⟨B, 0, none⟩ = some (.bool e.v) ∧ W.cell? ⟨B, 1, none⟩ = some (.int .u64 (e.vmid : Int)) ∧ W.cell? ⟨B, 2, none⟩ = some (.int .u64 (e.asid : Int)) ∧ W.cell? ⟨B, 4, none⟩ = some (.int .u64 (e.va : Int)) ∧ W.cell? ⟨w.heap.size, 12, none⟩ = some (.bool byVa) ∧ W.cell? ⟨w.heap.size, 13, none⟩ = some (.bool byAsid)) ∧ W.cell? ⟨w.heap.size, 0, none⟩ = some (.int .i64 act) ∧ Seg W B 0 e.cells from fun W hW => by
    have h1 := HBE.out.fr hW (fun q => q)
    have h2 := HX.out W (HF2.out.trans hW)
    exact ⟨⟨h1.cell 0, h1.cell 1, h1.cell 2, h1.cell 4, h2.2.1, h2.2.2⟩, h2.1, Seg.of_blk h1⟩)
  clear hw4 hb4 hW hB
  obtain ⟨⟨q0, q1, q2, q3, q4, q5⟩, qa, hseg⟩ := HC.out W2 (Fr.refl No W2)
  have HSG := Lib.hid hseg
  clear hseg
  obtain ⟨a0, a1, a2, a3, a4, a6⟩ := ha
  go_wp2_with fail
  go_ret
  exact ⟨rfl, HF.out⟩
theorem both_nil (w : World) (x : TA) :
    Calls Tryd.prog 19 #[.pointer none, .pointer none, .agg x.cells.toArray] w fun z w' => z = .returned (.bool true) ∧ Fr No w w' := by
  by_cases a0 : x.act = 0
  · exact bnil_0 w x a0
  by_cases a1 : x.act = 1
  · exact bnil_1 w x a1
  by_cases a2 : x.act = 2
  · exact bnil_2 w x a2
  by_cases a3 : x.act = 3
  · exact bnil_3 w x a3
  by_cases a4 : x.act = 4
  · exact bnil_4 w x a4
  by_cases a6 : x.act = 6
  · exact bnil_6 w x a6
  · exact bnil_else_ w x ⟨a0, a1, a2, a3, a4, a6⟩
end Go.Proofs.YtpnabfekidpnoaaDoor

/-
  The law's both, other acts.
-/
import Derived.Test.YtpnabfekidpnoaaDoorTlbS8
namespace Go.Proofs.YtpnabfekidpnoaaDoor
open Go Go.RowKit

set_option maxRecDepth 100000 in
set_option maxHeartbeats 4000000 in
theorem both_2 (w0 w : World) (t r n ways : Nat) (L : TS) (R : List TE) (F G : Nat → Prop) (x : TA) (hva : x.e.va < 18446744073709551616) (h : Duo w0 w t r n ways L R F G) (ha : x.act = 2) :
    Calls Tryd.prog 19 #[.pointer (some ⟨t, 0, none⟩), .pointer (some ⟨r, 0, none⟩), .agg x.cells.toArray] w fun z w' => z = .returned (.bool true) ∧ Duo_ w0 w' t r n ways := by
  obtain ⟨W1, hW1⟩ : ∃ W1, W1 = w.alloc (.cells x.cells.toArray 50) := ⟨_, rfl⟩
  have hb1 : Blk W1 w.heap.size 50 x.cells.toArray := by rw [hW1]; exact Blk.new w _ _
  have hf1 : Fr No w W1 := by rw [hW1]; exact (Fr.refl No w).alloc _
  have HW1 := Lib.hid hW1.symm
  have HB1 := Lib.hid hb1
  have HD := Lib.hid (h.cut)
  have HF1 := Lib.hid hf1
  have HVA := Lib.hid hva
  have HSE := Lib.hid (show Seg W1 w.heap.size 1 x.e.cells from ⟨_, _, hb1, fun j u hj => by
    have hl : j < x.e.cells.length := (List.getElem?_eq_some_iff.1 hj).1
    unfold TA.cells
    rw [List.getElem?_toArray, Nat.add_comm, List.getElem?_cons_succ, List.getElem?_append_left hl]
    exact hj⟩)
  clear hb1 hf1 hW1 h hva
  obtain ⟨act, hact⟩ : ∃ act, act = x.act := ⟨_, rfl⟩
  rw [← hact] at ha
  obtain ⟨e, he⟩ : ∃ e, e = x.e := ⟨_, rfl⟩
  obtain ⟨byVa, hbv⟩ : ∃ byVa, byVa = x.byVa := ⟨_, rfl⟩
  obtain ⟨byAsid, hba⟩ : ∃ byAsid, byAsid = x.byAsid := ⟨_, rfl⟩
  have HX := Lib.hid (show ∀ W, Fr No W1 W → W.cell? ⟨w.heap.size, 0, none⟩ = some (.int .i64 act) ∧ W.cell? ⟨w.heap.size, 12, none⟩ = some (.bool byVa) ∧ W.cell? ⟨w.heap.size, 13, none⟩ = some (.bool byAsid) from fun W hW => by
    have hb := HB1.out.fr hW (fun q => q)
    rw [hact, hbv, hba]
    exact ⟨hb.cell 0, hb.cell 12, hb.cell 13⟩)
  rw [← he] at HVA HSE
  clear hact he hbv hba
  go_enter Tryd.func19, Tryd.ntmps19
  go_upto_region 1 with fail
  rw [HW1.out]
  go_upto_region 2 with (first
    | (refine wpList_load_seg rfl 25 _ rfl w.heap.size 1 rfl _ HSE.out _ Tryd.underlying25 rfl infoE ?_)
    | (refine wpList_store_row rfl 25 _ _ rfl _ _ rfl rfl _ _ (heap_alloc_new _ _) infoE rfl (all_oneCell_toArray e.cells_one) ?_))
  have hw4 := fun old => setRow_fr2 W1 (.cells old 25) e.cells.toArray
  have hb4 := fun old => setRow_heap (W1.alloc (.cells old 25)) W1.heap.size old e.cells.toArray 25 _ (heap_alloc_new W1 _)
  obtain ⟨B, hB⟩ : ∃ B, B = W1.heap.size := ⟨_, rfl⟩
  generalize hW : (World.setRow _ _ _) = W2
  have HF2 := Lib.hid (show Fr No W1 W2 from by rw [← hW]; exact hw4 _)
  have HBE := Lib.hid (show Blk W2 B 25 e.cells.toArray from by rw [← hW, hB]; exact hb4 _)
  rw [← hB]
  have HBs := Lib.hid (show w.heap.size < B from by rw [hB]; have := HB1.out.lt; omega)
  have HF := Lib.hid (HF1.out.trans HF2.out)
  have HC := Lib.hid (show ∀ W, Fr No W2 W → (W.cell? ⟨B, 0, none⟩ = some (.bool e.v) ∧ W.cell? ⟨B, 1, none⟩ = some (.int .u64 (e.vmid : Int)) ∧ W.cell? ⟨B, 2, none⟩ = some (.int .u64 (e.asid : Int)) ∧ W.cell? ⟨B, 4, none⟩ = some (.int .u64 (e.va : Int)) ∧ W.cell? ⟨w.heap.size, 12, none⟩ = some (.bool byVa) ∧ W.cell? ⟨w.heap.size, 13, none⟩ = some (.bool byAsid)) ∧ W.cell? ⟨w.heap.size, 0, none⟩ = some (.int .i64 act) ∧ Seg W B 0 e.cells from fun W hW => by
    have h1 := HBE.out.fr hW (fun q => q)
    have h2 := HX.out W (HF2.out.trans hW)
    exact ⟨⟨h1.cell 0, h1.cell 1, h1.cell 2, h1.cell 4, h2.2.1, h2.2.2⟩, h2.1, Seg.of_blk h1⟩)
  have HD2 := Lib.hid (HD.out.keep HF.out)
  clear hw4 hb4 hW hB
  obtain ⟨⟨q0, q1, q2, q3, q4, q5⟩, qa, hseg⟩ := HC.out W2 (Fr.refl No W2)
  have HSG := Lib.hid hseg
  clear hseg
  subst ha
  go_upto_region 11 with fail
  refine wp_region_held_drew (S := fun W => W.cell? ⟨B, 0, none⟩ = some (.bool e.v) ∧ W.cell? ⟨B, 1, none⟩ = some (.int .u64 (e.vmid : Int)) ∧ W.cell? ⟨B, 2, none⟩ = some (.int .u64 (e.asid : Int)) ∧ W.cell? ⟨B, 4, none⟩ = some (.int .u64 (e.va : Int)) ∧ W.cell? ⟨w.heap.size, 12, none⟩ = some (.bool byVa) ∧ W.cell? ⟨w.heap.size, 13, none⟩ = some (.bool byAsid)) (by kernel_rfl) ⟨q0, q1, q2, q3, q4, q5⟩ (fun hHeld => ?_)
  clear q0 q1 q2 q3 q4 q5 qa
  refine' tkG (i := 0) (v := _) rfl (by kernel_rfl) (by kernel_rfl) (by kernel_rfl) (fun _ _ _ h => h) (by rfl) ?hy2 (by assumption) ?rest2
  case hy2 => (intro wq hSq; obtain ⟨q0, q1, q2, q3, q4, q5⟩ := hSq; go_simp; try with_reducible rfl)
  simp only [Act.put, List.setIfInBounds_toArray, List.set_cons_zero, List.set_cons_succ]
  refine' tkG (i := 1) (v := _) rfl (by kernel_rfl) (by kernel_rfl) (by kernel_rfl) (fun _ _ _ h => h) (by rfl) ?hy3 (by assumption) ?rest3
  case hy3 => (intro wq hSq; obtain ⟨q0, q1, q2, q3, q4, q5⟩ := hSq; go_simp; try with_reducible rfl)
  simp only [Act.put, List.setIfInBounds_toArray, List.set_cons_zero, List.set_cons_succ]
  refine' tkG (i := 2) (v := _) rfl (by kernel_rfl) (by kernel_rfl) (by kernel_rfl) (fun _ _ _ h => h) (by rfl) ?hy4 (by assumption) ?rest4
  case hy4 => (intro wq hSq; obtain ⟨q0, q1, q2, q3, q4, q5⟩ := hSq; go_simp; try with_reducible rfl)
  simp only [Act.put, List.setIfInBounds_toArray, List.set_cons_zero, List.set_cons_succ]
  refine' tkG (i := 3) (v := _) rfl (by kernel_rfl) (by kernel_rfl) (by kernel_rfl) (fun _ _ _ h => h) (by rfl) ?hy5 (by assumption) ?rest5
  case hy5 => (intro wq hSq; obtain ⟨q0, q1, q2, q3, q4, q5⟩ := hSq; go_simp; try with_reducible rfl)
  simp only [Act.put, List.setIfInBounds_toArray, List.set_cons_zero, List.set_cons_succ]
  refine' tkG (i := 4) (v := _) rfl (by kernel_rfl) (by kernel_rfl) (by kernel_rfl) (fun _ _ _ h => h) (by rfl) ?hy6 (by assumption) ?rest6
  case hy6 => (intro wq hSq; obtain ⟨q0, q1, q2, q3, q4, q5⟩ := hSq; go_simp; try with_reducible rfl)
  simp only [Act.put, List.setIfInBounds_toArray, List.set_cons_zero, List.set_cons_succ]
  refine' tkG (i := 5) (v := _) rfl (by kernel_rfl) (by kernel_rfl) (by kernel_rfl) (fun _ _ _ h => h) (by rfl) ?hy7 (by assumption) ?rest7
  case hy7 => (intro wq hSq; obtain ⟨q0, q1, q2, q3, q4, q5⟩ := hSq; go_simp; try with_reducible rfl)
  simp only [Act.put, List.setIfInBounds_toArray, List.set_cons_zero, List.set_cons_succ]
  refine' tkG (i := 6) (v := _) rfl (by kernel_rfl) (by kernel_rfl) (by kernel_rfl) (fun _ _ _ h => h) (by rfl) ?hy8 (by assumption) ?rest8
  case hy8 => (intro wq hSq; obtain ⟨q0, q1, q2, q3, q4, q5⟩ := hSq; go_simp; try with_reducible rfl)
  simp only [Act.put, List.setIfInBounds_toArray, List.set_cons_zero, List.set_cons_succ]
  refine' tkG (i := 7) (v := _) rfl (by kernel_rfl) (by kernel_rfl) (by kernel_rfl) (fun _ _ _ h => h) (by rfl) ?hy9 (by assumption) ?rest9
  case hy9 => (intro wq hSq; obtain ⟨q0, q1, q2, q3, q4, q5⟩ := hSq; go_simp; try with_reducible rfl)
  simp only [Act.put, List.setIfInBounds_toArray, List.set_cons_zero, List.set_cons_succ]
  refine' tkG (i := 8) (v := _) rfl (by kernel_rfl) (by kernel_rfl) (by kernel_rfl) (fun _ _ _ h => h) (by rfl) ?hy10 (by assumption) ?rest10
  case hy10 => (intro wq hSq; obtain ⟨q0, q1, q2, q3, q4, q5⟩ := hSq; go_simp; try with_reducible rfl)
  simp only [Act.put, List.setIfInBounds_toArray, List.set_cons_zero, List.set_cons_succ]
  refine' tkG (i := 9) (v := _) rfl (by kernel_rfl) (by kernel_rfl) (by kernel_rfl) (fun _ _ _ h => h) (by rfl) ?hy11 (by assumption) ?rest11
  case hy11 => (intro wq hSq; obtain ⟨q0, q1, q2, q3, q4, q5⟩ := hSq; go_simp; try with_reducible rfl)
  simp only [Act.put, List.setIfInBounds_toArray, List.set_cons_zero, List.set_cons_succ]
  refine' tkG (i := 10) (v := _) rfl (by kernel_rfl) (by kernel_rfl) (by kernel_rfl) (fun _ _ _ h => h) (by rfl) ?hy12 (by assumption) ?rest12
  case hy12 => (intro wq hSq; obtain ⟨q0, q1, q2, q3, q4, q5⟩ := hSq; go_simp; try with_reducible rfl)
  simp only [Act.put, List.setIfInBounds_toArray, List.set_cons_zero, List.set_cons_succ]
  refine' tkG (i := 11) (v := _) rfl (by kernel_rfl) (by kernel_rfl) (by kernel_rfl) (fun _ _ _ h => h) (by rfl) ?hy13 (by assumption) ?rest13
  case hy13 => (intro wq hSq; obtain ⟨q0, q1, q2, q3, q4, q5⟩ := hSq; go_simp; try with_reducible rfl)
  simp only [Act.put, List.setIfInBounds_toArray, List.set_cons_zero, List.set_cons_succ]
  refine' tkG (i := 12) (v := _) rfl (by kernel_rfl) (by kernel_rfl) (by kernel_rfl) (fun _ _ _ h => h) (by rfl) ?hy14 (by assumption) ?rest14
  case hy14 => (intro wq hSq; obtain ⟨q0, q1, q2, q3, q4, q5⟩ := hSq; go_simp; try with_reducible rfl)
  simp only [Act.put, List.setIfInBounds_toArray, List.set_cons_zero, List.set_cons_succ]
  refine' tkG (i := 14) (v := _) rfl (by kernel_rfl) (by kernel_rfl) (by kernel_rfl) (fun _ _ _ h => h) (by rfl) ?hy15 (by assumption) ?rest15
  case hy15 => (intro wq hSq; obtain ⟨q0, q1, q2, q3, q4, q5⟩ := hSq; go_simp; try with_reducible rfl)
  simp only [Act.put, List.setIfInBounds_toArray, List.set_cons_zero, List.set_cons_succ]
  refine' tkG (i := 15) (v := _) rfl (by kernel_rfl) (by kernel_rfl) (by kernel_rfl) (fun _ _ _ h => h) (by rfl) ?hy16 (by assumption) ?rest16
  case hy16 => (intro wq hSq; obtain ⟨q0, q1, q2, q3, q4, q5⟩ := hSq; go_simp; try with_reducible rfl)
  simp only [Act.put, List.setIfInBounds_toArray, List.set_cons_zero, List.set_cons_succ]
  refine' tkG (i := 16) (v := _) rfl (by kernel_rfl) (by kernel_rfl) (by kernel_rfl) (fun _ _ _ h => h) (by rfl) ?hy17 (by assumption) ?rest17
  case hy17 => (intro wq hSq; obtain ⟨q0, q1, q2, q3, q4, q5⟩ := hSq; go_simp; try with_reducible rfl)
  simp only [Act.put, List.setIfInBounds_toArray, List.set_cons_zero, List.set_cons_succ]
  refine' tkG (i := 17) (v := _) rfl (by kernel_rfl) (by kernel_rfl) (by kernel_rfl) (fun _ _ _ h => h) (by rfl) ?hy18 (by assumption) ?rest18
  case hy18 => (intro wq hSq; obtain ⟨q0, q1, q2, q3, q4, q5⟩ := hSq; go_simp; try with_reducible rfl)
  simp only [Act.put, List.setIfInBounds_toArray, List.set_cons_zero, List.set_cons_succ]
  refine' tkG (i := 18) (v := _) rfl (by kernel_rfl) (by kernel_rfl) (by kernel_rfl) (fun _ _ _ h => h) (by rfl) ?hy19 (by assumption) ?rest19
  case hy19 => (intro wq hSq; obtain ⟨q0, q1, q2, q3, q4, q5⟩ := hSq; go_simp; try with_reducible rfl)
  simp only [Act.put, List.setIfInBounds_toArray, List.set_cons_zero, List.set_cons_succ]
  refine' tkG (i := 19) (v := _) rfl (by kernel_rfl) (by kernel_rfl) (by kernel_rfl) (fun _ _ _ h => h) (by rfl) ?hy20 (by assumption) ?rest20
  case hy20 => (intro wq hSq; obtain ⟨q0, q1, q2, q3, q4, q5⟩ := hSq; go_simp; try with_reducible rfl)
  simp only [Act.put, List.setIfInBounds_toArray, List.set_cons_zero, List.set_cons_succ]
  refine' tkG (i := 20) (v := _) rfl (by kernel_rfl) (by kernel_rfl) (by kernel_rfl) (fun _ _ _ h => h) (by rfl) ?hy21 (by assumption) ?rest21
  case hy21 => (intro wq hSq; obtain ⟨q0, q1, q2, q3, q4, q5⟩ := hSq; go_simp; try with_reducible rfl)
  simp only [Act.put, List.setIfInBounds_toArray, List.set_cons_zero, List.set_cons_succ]
  refine' tkG (i := 21) (v := _) rfl (by kernel_rfl) (by kernel_rfl) (by kernel_rfl) (fun _ _ _ h => h) (by rfl) ?hy22 (by assumption) ?rest22
  case hy22 => (intro wq hSq; obtain ⟨q0, q1, q2, q3, q4, q5⟩ := hSq; go_simp; try with_reducible rfl)
  simp only [Act.put, List.setIfInBounds_toArray, List.set_cons_zero, List.set_cons_succ]
  refine' tkG (i := 22) (v := _) rfl (by kernel_rfl) (by kernel_rfl) (by kernel_rfl) (fun _ _ _ h => h) (by rfl) ?hy23 (by assumption) ?rest23
  case hy23 => (intro wq hSq; obtain ⟨q0, q1, q2, q3, q4, q5⟩ := hSq; go_simp; try with_reducible rfl)
  simp only [Act.put, List.setIfInBounds_toArray, List.set_cons_zero, List.set_cons_succ]
  refine' tkG (i := 23) (v := _) rfl (by kernel_rfl) (by kernel_rfl) (by kernel_rfl) (fun _ _ _ h => h) (by rfl) ?hy24 (by assumption) ?rest24
  case hy24 => (intro wq hSq; obtain ⟨q0, q1, q2, q3, q4, q5⟩ := hSq; go_simp; try with_reducible rfl)
  simp only [Act.put, List.setIfInBounds_toArray, List.set_cons_zero, List.set_cons_succ]
  refine' tkG (i := 24) (v := _) rfl (by kernel_rfl) (by kernel_rfl) (by kernel_rfl) (fun _ _ _ h => h) (by rfl) ?hy25 (by assumption) ?rest25
  case hy25 => (intro wq hSq; obtain ⟨q0, q1, q2, q3, q4, q5⟩ := hSq; go_simp; try with_reducible rfl)
  simp only [Act.put, List.setIfInBounds_toArray, List.set_cons_zero, List.set_cons_succ]
  refine' tkG (i := 25) (v := _) rfl (by kernel_rfl) (by kernel_rfl) (by kernel_rfl) (fun _ _ _ h => h) (by rfl) ?hy26 (by assumption) ?rest26
  case hy26 => (intro wq hSq; obtain ⟨q0, q1, q2, q3, q4, q5⟩ := hSq; go_simp; try with_reducible rfl)
  simp only [Act.put, List.setIfInBounds_toArray, List.set_cons_zero, List.set_cons_succ]
  refine' tkG (i := 26) (v := _) rfl (by kernel_rfl) (by kernel_rfl) (by kernel_rfl) (fun _ _ _ h => h) (by rfl) ?hy27 (by assumption) ?rest27
  case hy27 => (intro wq hSq; obtain ⟨q0, q1, q2, q3, q4, q5⟩ := hSq; go_simp; try with_reducible rfl)
  simp only [Act.put, List.setIfInBounds_toArray, List.set_cons_zero, List.set_cons_succ]
  refine wpAnyH_ready (rs := [13]) (by kernel_rfl) (by simp) ?_
  refine AllReadyH.cons rfl (fun K hK => ?_) AllReadyH.nil
  go_simp
  refine (fence_c W2.drew t ways L _ e.v e.vmid e.asid e.va byVa byAsid (HD2.out.keep (Fr.refl No W2).drew).ta HD2.out.ok).mono ?_
  rintro z w3 ⟨rfl, ht, hf⟩
  have HT3 := Lib.hid ht
  have HF3 := Lib.hid hf
  have HR3 := Lib.hid ((HD2.out.keep (Fr.refl No W2).drew).ra.fr hf (fun k q q2 => HD2.out.ne k q2 q))
  have c3 : ¬ (F B ∧ B < w.heap.size) := fun q => by have := q.2; have := HBs.out; omega
  have c4 : ¬ (F w.heap.size ∧ w.heap.size < w.heap.size) := fun q => by have := q.2; omega
  clear ht hf
  go_simp
  refine hK.out _ _ ⟨HF3.out.cell hHeld.1 c3, HF3.out.cell hHeld.2.1 c3, HF3.out.cell hHeld.2.2.1 c3, HF3.out.cell hHeld.2.2.2.1 c3, HF3.out.cell hHeld.2.2.2.2.1 c4, HF3.out.cell hHeld.2.2.2.2.2 c4⟩ (fun hHeld3 => ?_)
  clear hK K hHeld
  try simp only [List.setIfInBounds_toArray, List.set_cons_zero, List.set_cons_succ]
  refine wpAnyH_ready (rs := [27]) (by kernel_rfl) (by simp) ?_
  refine AllReadyH.cons rfl (fun K hK => ?_) AllReadyH.nil
  go_simp
  refine (rfence_c w3 r n ways R _ e.v e.vmid e.asid e.va byVa byAsid HR3.out (by have := HD2.out.rl; omega) HD2.out.va HVA.out).mono ?_
  rintro z w4 ⟨rfl, hr, hg⟩
  have HD4 := Lib.hid ((HD2.out.keep (Fr.refl No W2).drew).step (fun k q => by have h1 := q.2; have h2 := HF.out.size; have h3 : W2.drew.heap.size = W2.heap.size := rfl; omega) (fun k q => by have h1 := q.2; have h2 := HF.out.size; have h3 : W2.drew.heap.size = W2.heap.size := rfl; omega) (HT3.out.mono (fun k q => .inl q)) HF3.out hr hg (HD2.out.rel.drop _) (HD2.out.ok.drop _) (TS.drop_len _ _) (fun y hy => HD2.out.va y (List.mem_filter.1 hy).1))
  have hwent := HD2.out.rel.went HD2.out.ok.n (TS.fence e.v e.vmid e.asid e.va byVa byAsid)
  have c3 : ¬ (G B ∧ B < w.heap.size) := fun q => by have := q.2; have := HBs.out; omega
  have c4 : ¬ (G w.heap.size ∧ w.heap.size < w.heap.size) := fun q => by have := q.2; omega
  rw [← hwent]
  obtain ⟨m, hm⟩ : ∃ m, m = TS.went L (TS.fence e.v e.vmid e.asid e.va byVa byAsid) := ⟨_, rfl⟩
  rw [← hm]
  clear hr hwent hm
  go_simp
  refine hK.out _ _ ⟨hg.cell hHeld3.1 c3, hg.cell hHeld3.2.1 c3, hg.cell hHeld3.2.2.1 c3, hg.cell hHeld3.2.2.2.1 c3, hg.cell hHeld3.2.2.2.2.1 c4, hg.cell hHeld3.2.2.2.2.2 c4⟩ (fun hHeld4 => ?_)
  clear hK K hHeld3 hg
  try simp only [List.setIfInBounds_toArray, List.set_cons_zero, List.set_cons_succ]
  refine' tkG (i := 28) (v := _) rfl (by kernel_rfl) (by kernel_rfl) (by kernel_rfl) (fun _ _ _ h => h) (by rfl) ?hy29 (by assumption) ?rest29
  case hy29 => (intro wq hSq; obtain ⟨q0, q1, q2, q3, q4, q5⟩ := hSq; go_simp; try with_reducible rfl)
  simp only [Act.put, List.setIfInBounds_toArray, List.set_cons_zero, List.set_cons_succ]
  refine' tkG (i := 29) (v := _) rfl (by kernel_rfl) (by kernel_rfl) (by kernel_rfl) (fun _ _ _ h => h) (by rfl) ?hy30 (by assumption) ?rest30
  case hy30 => (intro wq hSq; obtain ⟨q0, q1, q2, q3, q4, q5⟩ := hSq; go_simp; try with_reducible rfl)
  simp only [Act.put, List.setIfInBounds_toArray, List.set_cons_zero, List.set_cons_succ]
  refine wpAnyH_done (by kernel_rfl) ?_ _
  clear hHeld4
  go_wp2_with fail
  go_ret
  exact ⟨by simp, _, _, _, _, HD4.out⟩
set_option maxRecDepth 100000 in
set_option maxHeartbeats 4000000 in
theorem both_3 (w0 w : World) (t r n ways : Nat) (L : TS) (R : List TE) (F G : Nat → Prop) (x : TA) (hva : x.e.va < 18446744073709551616) (h : Duo w0 w t r n ways L R F G) (ha : x.act = 3) :
    Calls Tryd.prog 19 #[.pointer (some ⟨t, 0, none⟩), .pointer (some ⟨r, 0, none⟩), .agg x.cells.toArray] w fun z w' => z = .returned (.bool true) ∧ Duo_ w0 w' t r n ways := by
  obtain ⟨W1, hW1⟩ : ∃ W1, W1 = w.alloc (.cells x.cells.toArray 50) := ⟨_, rfl⟩
  have hb1 : Blk W1 w.heap.size 50 x.cells.toArray := by rw [hW1]; exact Blk.new w _ _
  have hf1 : Fr No w W1 := by rw [hW1]; exact (Fr.refl No w).alloc _
  have HW1 := Lib.hid hW1.symm
  have HB1 := Lib.hid hb1
  have HD := Lib.hid (h.cut)
  have HF1 := Lib.hid hf1
  have HVA := Lib.hid hva
  have HSE := Lib.hid (show Seg W1 w.heap.size 1 x.e.cells from ⟨_, _, hb1, fun j u hj => by
    have hl : j < x.e.cells.length := (List.getElem?_eq_some_iff.1 hj).1
    unfold TA.cells
    rw [List.getElem?_toArray, Nat.add_comm, List.getElem?_cons_succ, List.getElem?_append_left hl]
    exact hj⟩)
  clear hb1 hf1 hW1 h hva
  obtain ⟨act, hact⟩ : ∃ act, act = x.act := ⟨_, rfl⟩
  rw [← hact] at ha
  obtain ⟨e, he⟩ : ∃ e, e = x.e := ⟨_, rfl⟩
  obtain ⟨byVa, hbv⟩ : ∃ byVa, byVa = x.byVa := ⟨_, rfl⟩
  obtain ⟨byAsid, hba⟩ : ∃ byAsid, byAsid = x.byAsid := ⟨_, rfl⟩
  have HX := Lib.hid (show ∀ W, Fr No W1 W → W.cell? ⟨w.heap.size, 0, none⟩ = some (.int .i64 act) ∧ W.cell? ⟨w.heap.size, 12, none⟩ = some (.bool byVa) ∧ W.cell? ⟨w.heap.size, 13, none⟩ = some (.bool byAsid) from fun W hW => by
    have hb := HB1.out.fr hW (fun q => q)
    rw [hact, hbv, hba]
    exact ⟨hb.cell 0, hb.cell 12, hb.cell 13⟩)
  rw [← he] at HVA HSE
  clear hact he hbv hba
  go_enter Tryd.func19, Tryd.ntmps19
  go_upto_region 1 with fail
  rw [HW1.out]
  go_upto_region 2 with (first
    | (refine wpList_load_seg rfl 25 _ rfl w.heap.size 1 rfl _ HSE.out _ Tryd.underlying25 rfl infoE ?_)
    | (refine wpList_store_row rfl 25 _ _ rfl _ _ rfl rfl _ _ (heap_alloc_new _ _) infoE rfl (all_oneCell_toArray e.cells_one) ?_))
  have hw4 := fun old => setRow_fr2 W1 (.cells old 25) e.cells.toArray
  have hb4 := fun old => setRow_heap (W1.alloc (.cells old 25)) W1.heap.size old e.cells.toArray 25 _ (heap_alloc_new W1 _)
  obtain ⟨B, hB⟩ : ∃ B, B = W1.heap.size := ⟨_, rfl⟩
  generalize hW : (World.setRow _ _ _) = W2
  have HF2 := Lib.hid (show Fr No W1 W2 from by rw [← hW]; exact hw4 _)
  have HBE := Lib.hid (show Blk W2 B 25 e.cells.toArray from by rw [← hW, hB]; exact hb4 _)
  rw [← hB]
  have HBs := Lib.hid (show w.heap.size < B from by rw [hB]; have := HB1.out.lt; omega)
  have HF := Lib.hid (HF1.out.trans HF2.out)
  have HC := Lib.hid (show ∀ W, Fr No W2 W → (W.cell? ⟨B, 0, none⟩ = some (.bool e.v) ∧ W.cell? ⟨B, 1, none⟩ = some (.int .u64 (e.vmid : Int)) ∧ W.cell? ⟨B, 2, none⟩ = some (.int .u64 (e.asid : Int)) ∧ W.cell? ⟨B, 4, none⟩ = some (.int .u64 (e.va : Int)) ∧ W.cell? ⟨w.heap.size, 12, none⟩ = some (.bool byVa) ∧ W.cell? ⟨w.heap.size, 13, none⟩ = some (.bool byAsid)) ∧ W.cell? ⟨w.heap.size, 0, none⟩ = some (.int .i64 act) ∧ Seg W B 0 e.cells from fun W hW => by
    have h1 := HBE.out.fr hW (fun q => q)
    have h2 := HX.out W (HF2.out.trans hW)
    exact ⟨⟨h1.cell 0, h1.cell 1, h1.cell 2, h1.cell 4, h2.2.1, h2.2.2⟩, h2.1, Seg.of_blk h1⟩)
  have HD2 := Lib.hid (HD.out.keep HF.out)
  clear hw4 hb4 hW hB
  obtain ⟨⟨q0, q1, q2, q3, q4, q5⟩, qa, hseg⟩ := HC.out W2 (Fr.refl No W2)
  have HSG := Lib.hid hseg
  clear hseg
  subst ha
  go_upto_region 13 with fail
  refine wp_region_held_drew (S := fun W => W.cell? ⟨B, 0, none⟩ = some (.bool e.v) ∧ W.cell? ⟨B, 1, none⟩ = some (.int .u64 (e.vmid : Int)) ∧ W.cell? ⟨B, 2, none⟩ = some (.int .u64 (e.asid : Int)) ∧ W.cell? ⟨B, 4, none⟩ = some (.int .u64 (e.va : Int)) ∧ W.cell? ⟨w.heap.size, 12, none⟩ = some (.bool byVa) ∧ W.cell? ⟨w.heap.size, 13, none⟩ = some (.bool byAsid)) (by kernel_rfl) ⟨q0, q1, q2, q3, q4, q5⟩ (fun hHeld => ?_)
  clear q0 q1 q2 q3 q4 q5 qa
  refine' tkG (i := 0) (v := _) rfl (by kernel_rfl) (by kernel_rfl) (by kernel_rfl) (fun _ _ _ h => h) (by rfl) ?hy32 (by assumption) ?rest32
  case hy32 => (intro wq hSq; obtain ⟨q0, q1, q2, q3, q4, q5⟩ := hSq; go_simp; try with_reducible rfl)
  simp only [Act.put, List.setIfInBounds_toArray, List.set_cons_zero, List.set_cons_succ]
  refine' tkG (i := 1) (v := _) rfl (by kernel_rfl) (by kernel_rfl) (by kernel_rfl) (fun _ _ _ h => h) (by rfl) ?hy33 (by assumption) ?rest33
  case hy33 => (intro wq hSq; obtain ⟨q0, q1, q2, q3, q4, q5⟩ := hSq; go_simp; try with_reducible rfl)
  simp only [Act.put, List.setIfInBounds_toArray, List.set_cons_zero, List.set_cons_succ]
  refine' tkG (i := 2) (v := _) rfl (by kernel_rfl) (by kernel_rfl) (by kernel_rfl) (fun _ _ _ h => h) (by rfl) ?hy34 (by assumption) ?rest34
  case hy34 => (intro wq hSq; obtain ⟨q0, q1, q2, q3, q4, q5⟩ := hSq; go_simp; try with_reducible rfl)
  simp only [Act.put, List.setIfInBounds_toArray, List.set_cons_zero, List.set_cons_succ]
  refine' tkG (i := 3) (v := _) rfl (by kernel_rfl) (by kernel_rfl) (by kernel_rfl) (fun _ _ _ h => h) (by rfl) ?hy35 (by assumption) ?rest35
  case hy35 => (intro wq hSq; obtain ⟨q0, q1, q2, q3, q4, q5⟩ := hSq; go_simp; try with_reducible rfl)
  simp only [Act.put, List.setIfInBounds_toArray, List.set_cons_zero, List.set_cons_succ]
  refine' tkG (i := 4) (v := _) rfl (by kernel_rfl) (by kernel_rfl) (by kernel_rfl) (fun _ _ _ h => h) (by rfl) ?hy36 (by assumption) ?rest36
  case hy36 => (intro wq hSq; obtain ⟨q0, q1, q2, q3, q4, q5⟩ := hSq; go_simp; try with_reducible rfl)
  simp only [Act.put, List.setIfInBounds_toArray, List.set_cons_zero, List.set_cons_succ]
  refine' tkG (i := 6) (v := _) rfl (by kernel_rfl) (by kernel_rfl) (by kernel_rfl) (fun _ _ _ h => h) (by rfl) ?hy37 (by assumption) ?rest37
  case hy37 => (intro wq hSq; obtain ⟨q0, q1, q2, q3, q4, q5⟩ := hSq; go_simp; try with_reducible rfl)
  simp only [Act.put, List.setIfInBounds_toArray, List.set_cons_zero, List.set_cons_succ]
  refine' tkG (i := 7) (v := _) rfl (by kernel_rfl) (by kernel_rfl) (by kernel_rfl) (fun _ _ _ h => h) (by rfl) ?hy38 (by assumption) ?rest38
  case hy38 => (intro wq hSq; obtain ⟨q0, q1, q2, q3, q4, q5⟩ := hSq; go_simp; try with_reducible rfl)
  simp only [Act.put, List.setIfInBounds_toArray, List.set_cons_zero, List.set_cons_succ]
  refine' tkG (i := 8) (v := _) rfl (by kernel_rfl) (by kernel_rfl) (by kernel_rfl) (fun _ _ _ h => h) (by rfl) ?hy39 (by assumption) ?rest39
  case hy39 => (intro wq hSq; obtain ⟨q0, q1, q2, q3, q4, q5⟩ := hSq; go_simp; try with_reducible rfl)
  simp only [Act.put, List.setIfInBounds_toArray, List.set_cons_zero, List.set_cons_succ]
  refine' tkG (i := 9) (v := _) rfl (by kernel_rfl) (by kernel_rfl) (by kernel_rfl) (fun _ _ _ h => h) (by rfl) ?hy40 (by assumption) ?rest40
  case hy40 => (intro wq hSq; obtain ⟨q0, q1, q2, q3, q4, q5⟩ := hSq; go_simp; try with_reducible rfl)
  simp only [Act.put, List.setIfInBounds_toArray, List.set_cons_zero, List.set_cons_succ]
  refine' tkG (i := 10) (v := _) rfl (by kernel_rfl) (by kernel_rfl) (by kernel_rfl) (fun _ _ _ h => h) (by rfl) ?hy41 (by assumption) ?rest41
  case hy41 => (intro wq hSq; obtain ⟨q0, q1, q2, q3, q4, q5⟩ := hSq; go_simp; try with_reducible rfl)
  simp only [Act.put, List.setIfInBounds_toArray, List.set_cons_zero, List.set_cons_succ]
  refine wpAnyH_ready (rs := [5]) (by kernel_rfl) (by simp) ?_
  refine AllReadyH.cons rfl (fun K hK => ?_) AllReadyH.nil
  go_simp
  refine (fenceG_c W2.drew t ways L _ e.vmid byVa (HD2.out.keep (Fr.refl No W2).drew).ta HD2.out.ok).mono ?_
  rintro z w3 ⟨rfl, ht, hf⟩
  have HT3 := Lib.hid ht
  have HF3 := Lib.hid hf
  have HR3 := Lib.hid ((HD2.out.keep (Fr.refl No W2).drew).ra.fr hf (fun k q q2 => HD2.out.ne k q2 q))
  have c3 : ¬ (F B ∧ B < w.heap.size) := fun q => by have := q.2; have := HBs.out; omega
  have c4 : ¬ (F w.heap.size ∧ w.heap.size < w.heap.size) := fun q => by have := q.2; omega
  clear ht hf
  go_simp
  refine hK.out _ _ ⟨HF3.out.cell hHeld.1 c3, HF3.out.cell hHeld.2.1 c3, HF3.out.cell hHeld.2.2.1 c3, HF3.out.cell hHeld.2.2.2.1 c3, HF3.out.cell hHeld.2.2.2.2.1 c4, HF3.out.cell hHeld.2.2.2.2.2 c4⟩ (fun hHeld3 => ?_)
  clear hK K hHeld
  try simp only [List.setIfInBounds_toArray, List.set_cons_zero, List.set_cons_succ]
  refine wpAnyH_ready (rs := [11]) (by kernel_rfl) (by simp) ?_
  refine AllReadyH.cons rfl (fun K hK => ?_) AllReadyH.nil
  go_simp
  refine (rfenceG_c w3 r n ways R _ e.vmid byVa HR3.out (by have := HD2.out.rl; omega)).mono ?_
  rintro z w4 ⟨rfl, hr, hg⟩
  have HD4 := Lib.hid ((HD2.out.keep (Fr.refl No W2).drew).step (fun k q => by have h1 := q.2; have h2 := HF.out.size; have h3 : W2.drew.heap.size = W2.heap.size := rfl; omega) (fun k q => by have h1 := q.2; have h2 := HF.out.size; have h3 : W2.drew.heap.size = W2.heap.size := rfl; omega) (HT3.out.mono (fun k q => .inl q)) HF3.out hr hg (HD2.out.rel.drop _) (HD2.out.ok.drop _) (TS.drop_len _ _) (fun y hy => HD2.out.va y (List.mem_filter.1 hy).1))
  have hwent := HD2.out.rel.went HD2.out.ok.n (TS.fenceG e.vmid byVa)
  have c3 : ¬ (G B ∧ B < w.heap.size) := fun q => by have := q.2; have := HBs.out; omega
  have c4 : ¬ (G w.heap.size ∧ w.heap.size < w.heap.size) := fun q => by have := q.2; omega
  rw [← hwent]
  obtain ⟨m, hm⟩ : ∃ m, m = TS.went L (TS.fenceG e.vmid byVa) := ⟨_, rfl⟩
  rw [← hm]
  clear hr hwent hm
  go_simp
  refine hK.out _ _ ⟨hg.cell hHeld3.1 c3, hg.cell hHeld3.2.1 c3, hg.cell hHeld3.2.2.1 c3, hg.cell hHeld3.2.2.2.1 c3, hg.cell hHeld3.2.2.2.2.1 c4, hg.cell hHeld3.2.2.2.2.2 c4⟩ (fun hHeld4 => ?_)
  clear hK K hHeld3 hg
  try simp only [List.setIfInBounds_toArray, List.set_cons_zero, List.set_cons_succ]
  refine' tkG (i := 12) (v := _) rfl (by kernel_rfl) (by kernel_rfl) (by kernel_rfl) (fun _ _ _ h => h) (by rfl) ?hy43 (by assumption) ?rest43
  case hy43 => (intro wq hSq; obtain ⟨q0, q1, q2, q3, q4, q5⟩ := hSq; go_simp; try with_reducible rfl)
  simp only [Act.put, List.setIfInBounds_toArray, List.set_cons_zero, List.set_cons_succ]
  refine' tkG (i := 13) (v := _) rfl (by kernel_rfl) (by kernel_rfl) (by kernel_rfl) (fun _ _ _ h => h) (by rfl) ?hy44 (by assumption) ?rest44
  case hy44 => (intro wq hSq; obtain ⟨q0, q1, q2, q3, q4, q5⟩ := hSq; go_simp; try with_reducible rfl)
  simp only [Act.put, List.setIfInBounds_toArray, List.set_cons_zero, List.set_cons_succ]
  refine wpAnyH_done (by kernel_rfl) ?_ _
  clear hHeld4
  go_wp2_with fail
  go_ret
  exact ⟨by simp, _, _, _, _, HD4.out⟩
end Go.Proofs.YtpnabfekidpnoaaDoor

/-
  The law's both, whatever the act.
-/
import Derived.Test.YtpnabfekidpnoaaDoorTlbS9
namespace Go.Proofs.YtpnabfekidpnoaaDoor
open Go Go.RowKit

set_option maxRecDepth 100000 in
set_option maxHeartbeats 4000000 in
theorem both_4 (w0 w : World) (t r n ways : Nat) (L : TS) (R : List TE) (F G : Nat → Prop) (x : TA) (hva : x.e.va < 18446744073709551616) (h : Duo w0 w t r n ways L R F G) (ha : x.act = 4) :
    Calls Tryd.prog 19 #[.pointer (some ⟨t, 0, none⟩), .pointer (some ⟨r, 0, none⟩), .agg x.cells.toArray] w fun z w' => z = .returned (.bool true) ∧ Duo_ w0 w' t r n ways := by
  obtain ⟨W1, hW1⟩ : ∃ W1, W1 = w.alloc (.cells x.cells.toArray 50) := ⟨_, rfl⟩
  have hb1 : Blk W1 w.heap.size 50 x.cells.toArray := by rw [hW1]; exact Blk.new w _ _
  have hf1 : Fr No w W1 := by rw [hW1]; exact (Fr.refl No w).alloc _
  have HW1 := Lib.hid hW1.symm
  have HB1 := Lib.hid hb1
  have HD := Lib.hid (h.cut)
  have HF1 := Lib.hid hf1
  have HVA := Lib.hid hva
  have HSE := Lib.hid (show Seg W1 w.heap.size 1 x.e.cells from ⟨_, _, hb1, fun j u hj => by
    have hl : j < x.e.cells.length := (List.getElem?_eq_some_iff.1 hj).1
    unfold TA.cells
    rw [List.getElem?_toArray, Nat.add_comm, List.getElem?_cons_succ, List.getElem?_append_left hl]
    exact hj⟩)
  clear hb1 hf1 hW1 h hva
  obtain ⟨act, hact⟩ : ∃ act, act = x.act := ⟨_, rfl⟩
  rw [← hact] at ha
  obtain ⟨e, he⟩ : ∃ e, e = x.e := ⟨_, rfl⟩
  obtain ⟨byVa, hbv⟩ : ∃ byVa, byVa = x.byVa := ⟨_, rfl⟩
  obtain ⟨byAsid, hba⟩ : ∃ byAsid, byAsid = x.byAsid := ⟨_, rfl⟩
  have HX := Lib.hid (show ∀ W, Fr No W1 W → W.cell? ⟨w.heap.size, 0, none⟩ = some (.int .i64 act) ∧ W.cell? ⟨w.heap.size, 12, none⟩ = some (.bool byVa) ∧ W.cell? ⟨w.heap.size, 13, none⟩ = some (.bool byAsid) from fun W hW => by
    have hb := HB1.out.fr hW (fun q => q)
    rw [hact, hbv, hba]
    exact ⟨hb.cell 0, hb.cell 12, hb.cell 13⟩)
  rw [← he] at HVA HSE
  clear hact he hbv hba
  go_enter Tryd.func19, Tryd.ntmps19
  go_upto_region 1 with fail
  rw [HW1.out]
  go_upto_region 2 with (first
    | (refine wpList_load_seg rfl 25 _ rfl w.heap.size 1 rfl _ HSE.out _ Tryd.underlying25 rfl infoE ?_)
    | (refine wpList_store_row rfl 25 _ _ rfl _ _ rfl rfl _ _ (heap_alloc_new _ _) infoE rfl (all_oneCell_toArray e.cells_one) ?_))
  have hw4 := fun old => setRow_fr2 W1 (.cells old 25) e.cells.toArray
  have hb4 := fun old => setRow_heap (W1.alloc (.cells old 25)) W1.heap.size old e.cells.toArray 25 _ (heap_alloc_new W1 _)
  obtain ⟨B, hB⟩ : ∃ B, B = W1.heap.size := ⟨_, rfl⟩
  generalize hW : (World.setRow _ _ _) = W2
  have HF2 := Lib.hid (show Fr No W1 W2 from by rw [← hW]; exact hw4 _)
  have HBE := Lib.hid (show Blk W2 B 25 e.cells.toArray from by rw [← hW, hB]; exact hb4 _)
  rw [← hB]
  have HBs := Lib.hid (show w.heap.size < B from by rw [hB]; have := HB1.out.lt; omega)
  have HF := Lib.hid (HF1.out.trans HF2.out)
  have HC := Lib.hid (show ∀ W, Fr No W2 W → (W.cell? ⟨B, 0, none⟩ = some (.bool e.v) ∧ W.cell? ⟨B, 1, none⟩ = some (.int .u64 (e.vmid : Int)) ∧ W.cell? ⟨B, 2, none⟩ = some (.int .u64 (e.asid : Int)) ∧ W.cell? ⟨B, 4, none⟩ = some (.int .u64 (e.va : Int)) ∧ W.cell? ⟨w.heap.size, 12, none⟩ = some (.bool byVa) ∧ W.cell? ⟨w.heap.size, 13, none⟩ = some (.bool byAsid)) ∧ W.cell? ⟨w.heap.size, 0, none⟩ = some (.int .i64 act) ∧ Seg W B 0 e.cells from fun W hW => by
    have h1 := HBE.out.fr hW (fun q => q)
    have h2 := HX.out W (HF2.out.trans hW)
    exact ⟨⟨h1.cell 0, h1.cell 1, h1.cell 2, h1.cell 4, h2.2.1, h2.2.2⟩, h2.1, Seg.of_blk h1⟩)
  have HD2 := Lib.hid (HD.out.keep HF.out)
  clear hw4 hb4 hW hB
  obtain ⟨⟨q0, q1, q2, q3, q4, q5⟩, qa, hseg⟩ := HC.out W2 (Fr.refl No W2)
  have HSG := Lib.hid hseg
  clear hseg
  subst ha
  go_wp2_with fail
  refine (clear_c W2 t ways L _ HD2.out.ta HD2.out.ok).mono ?_
  rintro z w3 ⟨rfl, ht, hf⟩
  have HT3 := Lib.hid ht
  have HF3 := Lib.hid hf
  have HR3 := Lib.hid (HD2.out.ra.fr hf (fun k q q2 => HD2.out.ne k q2 q))
  have hcount : L.went (fun _ => true) = R.length := by
    rw [HD2.out.rel.went HD2.out.ok.n, show (R.filter fun x => !(fun _ : TE => true) x) = [] from List.filter_eq_nil_iff.2 (by simp)]
    rfl
  rw [hcount]
  obtain ⟨m, hm⟩ : ∃ m, m = R.length := ⟨_, rfl⟩
  have HM := Lib.hid hm
  rw [← hm]
  clear ht hf hcount hm
  go_wp2_with fail
  refine (rclear_c w3 r n ways R _ HR3.out).mono ?_
  rintro z w4 ⟨rfl, hr, hg⟩
  rw [← HM.out]
  have hrel : Rel (L.drop fun _ => true) [] := by
    have h := HD2.out.rel.drop (fun _ => true)
    have e : (R.filter fun x => !(fun _ : TE => true) x) = [] := List.filter_eq_nil_iff.2 (by simp)
    rw [e] at h
    exact h
  have HD4 := Lib.hid (HD2.out.step (fun k q => by have h1 := q.2; have h2 := HF.out.size; omega) (fun k q => by have h1 := q.2; have h2 := HF.out.size; omega) (HT3.out.mono (fun k q => .inl q)) HF3.out (hr.mono (fun k q => .inl q)) hg hrel (HD2.out.ok.drop _) (TS.drop_len _ _) (fun y hy => by cases hy))
  clear hr hg hrel
  go_wp2_with fail
  go_ret
  exact ⟨by simp, _, _, _, _, HD4.out⟩
set_option maxRecDepth 100000 in
set_option maxHeartbeats 4000000 in
theorem both_6 (w0 w : World) (t r n ways : Nat) (L : TS) (R : List TE) (F G : Nat → Prop) (x : TA) (hva : x.e.va < 18446744073709551616) (h : Duo w0 w t r n ways L R F G) (ha : x.act = 6) :
    Calls Tryd.prog 19 #[.pointer (some ⟨t, 0, none⟩), .pointer (some ⟨r, 0, none⟩), .agg x.cells.toArray] w fun z w' => z = .returned (.bool true) ∧ Duo_ w0 w' t r n ways := by
  obtain ⟨W1, hW1⟩ : ∃ W1, W1 = w.alloc (.cells x.cells.toArray 50) := ⟨_, rfl⟩
  have hb1 : Blk W1 w.heap.size 50 x.cells.toArray := by rw [hW1]; exact Blk.new w _ _
  have hf1 : Fr No w W1 := by rw [hW1]; exact (Fr.refl No w).alloc _
  have HW1 := Lib.hid hW1.symm
  have HB1 := Lib.hid hb1
  have HD := Lib.hid (h.cut)
  have HF1 := Lib.hid hf1
  have HVA := Lib.hid hva
  have HSE := Lib.hid (show Seg W1 w.heap.size 1 x.e.cells from ⟨_, _, hb1, fun j u hj => by
    have hl : j < x.e.cells.length := (List.getElem?_eq_some_iff.1 hj).1
    unfold TA.cells
    rw [List.getElem?_toArray, Nat.add_comm, List.getElem?_cons_succ, List.getElem?_append_left hl]
    exact hj⟩)
  clear hb1 hf1 hW1 h hva
  obtain ⟨act, hact⟩ : ∃ act, act = x.act := ⟨_, rfl⟩
  rw [← hact] at ha
  obtain ⟨e, he⟩ : ∃ e, e = x.e := ⟨_, rfl⟩
  obtain ⟨byVa, hbv⟩ : ∃ byVa, byVa = x.byVa := ⟨_, rfl⟩
  obtain ⟨byAsid, hba⟩ : ∃ byAsid, byAsid = x.byAsid := ⟨_, rfl⟩
  have HX := Lib.hid (show ∀ W, Fr No W1 W → W.cell? ⟨w.heap.size, 0, none⟩ = some (.int .i64 act) ∧ W.cell? ⟨w.heap.size, 12, none⟩ = some (.bool byVa) ∧ W.cell? ⟨w.heap.size, 13, none⟩ = some (.bool byAsid) from fun W hW => by
    have hb := HB1.out.fr hW (fun q => q)
    rw [hact, hbv, hba]
    exact ⟨hb.cell 0, hb.cell 12, hb.cell 13⟩)
  rw [← he] at HVA HSE
  clear hact he hbv hba
  go_enter Tryd.func19, Tryd.ntmps19
  go_upto_region 1 with fail
  rw [HW1.out]
  go_upto_region 2 with (first
    | (refine wpList_load_seg rfl 25 _ rfl w.heap.size 1 rfl _ HSE.out _ Tryd.underlying25 rfl infoE ?_)
    | (refine wpList_store_row rfl 25 _ _ rfl _ _ rfl rfl _ _ (heap_alloc_new _ _) infoE rfl (all_oneCell_toArray e.cells_one) ?_))
  have hw4 := fun old => setRow_fr2 W1 (.cells old 25) e.cells.toArray
  have hb4 := fun old => setRow_heap (W1.alloc (.cells old 25)) W1.heap.size old e.cells.toArray 25 _ (heap_alloc_new W1 _)
  obtain ⟨B, hB⟩ : ∃ B, B = W1.heap.size := ⟨_, rfl⟩
  generalize hW : (World.setRow _ _ _) = W2
  have HF2 := Lib.hid (show Fr No W1 W2 from by rw [← hW]; exact hw4 _)
  have HBE := Lib.hid (show Blk W2 B 25 e.cells.toArray from by rw [← hW, hB]; exact hb4 _)
  rw [← hB]
  have HBs := Lib.hid (show w.heap.size < B from by rw [hB]; have := HB1.out.lt; omega)
  have HF := Lib.hid (HF1.out.trans HF2.out)
  have HC := Lib.hid (show ∀ W, Fr No W2 W → (W.cell? ⟨B, 0, none⟩ = some (.bool e.v) ∧ W.cell? ⟨B, 1, none⟩ = some (.int .u64 (e.vmid : Int)) ∧ W.cell? ⟨B, 2, none⟩ = some (.int .u64 (e.asid : Int)) ∧ W.cell? ⟨B, 4, none⟩ = some (.int .u64 (e.va : Int)) ∧ W.cell? ⟨w.heap.size, 12, none⟩ = some (.bool byVa) ∧ W.cell? ⟨w.heap.size, 13, none⟩ = some (.bool byAsid)) ∧ W.cell? ⟨w.heap.size, 0, none⟩ = some (.int .i64 act) ∧ Seg W B 0 e.cells from fun W hW => by
    have h1 := HBE.out.fr hW (fun q => q)
    have h2 := HX.out W (HF2.out.trans hW)
    exact ⟨⟨h1.cell 0, h1.cell 1, h1.cell 2, h1.cell 4, h2.2.1, h2.2.2⟩, h2.1, Seg.of_blk h1⟩)
  have HD2 := Lib.hid (HD.out.keep HF.out)
  clear hw4 hb4 hW hB
  obtain ⟨⟨q0, q1, q2, q3, q4, q5⟩, qa, hseg⟩ := HC.out W2 (Fr.refl No W2)
  have HSG := Lib.hid hseg
  clear hseg
  subst ha
  go_wp2_with fail
  refine (entries_c W2 t ways L _ HD2.out.ta HD2.out.ok).mono ?_
  rintro z w3 ⟨v3, rfl, hrow, hf3⟩
  obtain ⟨a3, c3, rfl, _, hcm⟩ := hrow.len
  obtain ⟨l, hl⟩ : ∃ l, l = L.flatten := ⟨_, rfl⟩
  rw [← hl] at hrow ⊢
  clear hl
  obtain ⟨N, hN⟩ : ∃ N, N = l.length := ⟨_, rfl⟩
  rw [← hN] at hrow ⊢
  have HN := Lib.hid hN
  have HROW := Lib.hid (hrow.mono (fun k q => q.1))
  have H3 := Lib.hid hf3
  have hlen := HN.out
  have hNb : N ≤ 9223372036854775807 := by
    obtain ⟨a', c', hv', hc1, hc2⟩ := HROW.out.len
    unfold maxLen at hc2
    omega
  have HNB := Lib.hid hNb
  clear hrow hN hf3 hcm hlen hNb q0 q1 q2 q3 q4 q5 qa
  go_wp2_with fail
  go_loopw [13] (fun pi wr => ∃ (i : Nat) (l' : List TE), i ≤ N ∧ pi = .int .i64 (i : Int) ∧ Hid (l'.length = N) ∧ Hid (Row wr (.slice a3 N c3) l' (fun k => W2.heap.size ≤ k)) ∧ Hid (Fr No W2 wr)) (fun pi _ => N - (intOf pi).toNat)
  case atStart => exact ⟨0, l, Nat.zero_le _, rfl, Lib.hid HN.out.symm, HROW, H3⟩
  case round =>
    obtain ⟨i, l', hi, rfl, HLL, HRW, HFR⟩ := hrel
    by_cases hlt : i < N
    · have hil : i < l'.length := by have := HLL.out; omega
      obtain ⟨g, c2, cur, hvs, _⟩ := HRW.out.at_ (by omega)
      rw [HLL.out] at hvs
      injection hvs with e1 _ e3
      subst e1 e3
      have e2 : IntKind.i64.wrap ((i : Int) + 1) = ((i + 1 : Nat) : Int) := by have := HNB.out; rw [IntKind.wrap_i64]; omega
      have HRW2 := Lib.hid (show Row wr (.slice (some ⟨g, 0, none⟩) l'.length c3) l' (fun k => W2.heap.size ≤ k) from by rw [HLL.out]; exact HRW.out)
      go_wp2_with (first
        | (refine wpList_store_row_te rfl _ _ rfl rfl (⟨false, 0, 0, false, 0, 0, 77, 0, 0, 0, 0⟩ : TE) rfl rfl HRW2.out hil ?_
           intro w5 hr5 hf5
           have HR5 := Lib.hid (show Row w5 (.slice (some ⟨g, 0, none⟩) N c3) (l'.set i ⟨false, 0, 0, false, 0, 0, 77, 0, 0, 0, 0⟩) (fun k => W2.heap.size ≤ k) from by rw [← HLL.out]; exact hr5)
           have HF5 := Lib.hid (show Fr No W2 w5 from HFR.out.andThen hf5 (fun k hk q => by have q2 : W2.heap.size ≤ k := q; omega))
           clear hr5 hf5))
      exact ⟨⟨i + 1, _, by omega, by simp, Lib.hid (by rw [List.length_set]; exact HLL.out), HR5, HF5⟩, by simp [intOf]; omega⟩
    · obtain rfl : i = N := by omega
      go_wp2_with fail
      go_ret
      exact ⟨rfl, _, _, _, _, HD2.out.keep HFR.out⟩
set_option maxRecDepth 100000 in
set_option maxHeartbeats 4000000 in
theorem both_else_ (w0 w : World) (t r n ways : Nat) (L : TS) (R : List TE) (F G : Nat → Prop) (x : TA) (hva : x.e.va < 18446744073709551616) (h : Duo w0 w t r n ways L R F G) (ha : x.act ≠ 0 ∧ x.act ≠ 1 ∧ x.act ≠ 2 ∧ x.act ≠ 3 ∧ x.act ≠ 4 ∧ x.act ≠ 6) :
    Calls Tryd.prog 19 #[.pointer (some ⟨t, 0, none⟩), .pointer (some ⟨r, 0, none⟩), .agg x.cells.toArray] w fun z w' => z = .returned (.bool true) ∧ Duo_ w0 w' t r n ways := by
  obtain ⟨W1, hW1⟩ : ∃ W1, W1 = w.alloc (.cells x.cells.toArray 50) := ⟨_, rfl⟩
  have hb1 : Blk W1 w.heap.size 50 x.cells.toArray := by rw [hW1]; exact Blk.new w _ _
  have hf1 : Fr No w W1 := by rw [hW1]; exact (Fr.refl No w).alloc _
  have HW1 := Lib.hid hW1.symm
  have HB1 := Lib.hid hb1
  have HD := Lib.hid (h.cut)
  have HF1 := Lib.hid hf1
  have HVA := Lib.hid hva
  have HSE := Lib.hid (show Seg W1 w.heap.size 1 x.e.cells from ⟨_, _, hb1, fun j u hj => by
    have hl : j < x.e.cells.length := (List.getElem?_eq_some_iff.1 hj).1
    unfold TA.cells
    rw [List.getElem?_toArray, Nat.add_comm, List.getElem?_cons_succ, List.getElem?_append_left hl]
    exact hj⟩)
  clear hb1 hf1 hW1 h hva
  obtain ⟨act, hact⟩ : ∃ act, act = x.act := ⟨_, rfl⟩
  rw [← hact] at ha
  obtain ⟨e, he⟩ : ∃ e, e = x.e := ⟨_, rfl⟩
  obtain ⟨byVa, hbv⟩ : ∃ byVa, byVa = x.byVa := ⟨_, rfl⟩
  obtain ⟨byAsid, hba⟩ : ∃ byAsid, byAsid = x.byAsid := ⟨_, rfl⟩
  have HX := Lib.hid (show ∀ W, Fr No W1 W → W.cell? ⟨w.heap.size, 0, none⟩ = some (.int .i64 act) ∧ W.cell? ⟨w.heap.size, 12, none⟩ = some (.bool byVa) ∧ W.cell? ⟨w.heap.size, 13, none⟩ = some (.bool byAsid) from fun W hW => by
    have hb := HB1.out.fr hW (fun q => q)
    rw [hact, hbv, hba]
    exact ⟨hb.cell 0, hb.cell 12, hb.cell 13⟩)
  rw [← he] at HVA HSE
  clear hact he hbv hba
  go_enter Tryd.func19, Tryd.ntmps19
  go_upto_region 1 with fail
  rw [HW1.out]
  go_upto_region 2 with (first
    | (refine wpList_load_seg rfl 25 _ rfl w.heap.size 1 rfl _ HSE.out _ Tryd.underlying25 rfl infoE ?_)
    | (refine wpList_store_row rfl 25 _ _ rfl _ _ rfl rfl _ _ (heap_alloc_new _ _) infoE rfl (all_oneCell_toArray e.cells_one) ?_))
  have hw4 := fun old => setRow_fr2 W1 (.cells old 25) e.cells.toArray
  have hb4 := fun old => setRow_heap (W1.alloc (.cells old 25)) W1.heap.size old e.cells.toArray 25 _ (heap_alloc_new W1 _)
  obtain ⟨B, hB⟩ : ∃ B, B = W1.heap.size := ⟨_, rfl⟩
  generalize hW : (World.setRow _ _ _) = W2
  have HF2 := Lib.hid (show Fr No W1 W2 from by rw [← hW]; exact hw4 _)
  have HBE := Lib.hid (show Blk W2 B 25 e.cells.toArray from by rw [← hW, hB]; exact hb4 _)
  rw [← hB]
  have HBs := Lib.hid (show w.heap.size < B from by rw [hB]; have := HB1.out.lt; omega)
  have HF := Lib.hid (HF1.out.trans HF2.out)
  have HC := Lib.hid (show ∀ W, Fr No W2 W → (W.cell? ⟨B, 0, none⟩ = some (.bool e.v) ∧ W.cell? ⟨B, 1, none⟩ = some (.int .u64 (e.vmid : Int)) ∧ W.cell? ⟨B, 2, none⟩ = some (.int .u64 (e.asid : Int)) ∧ W.cell? ⟨B, 4, none⟩ = some (.int .u64 (e.va : Int)) ∧ W.cell? ⟨w.heap.size, 12, none⟩ = some (.bool byVa) ∧ W.cell? ⟨w.heap.size, 13, none⟩ = some (.bool byAsid)) ∧ W.cell? ⟨w.heap.size, 0, none⟩ = some (.int .i64 act) ∧ Seg W B 0 e.cells from fun W hW => by
    have h1 := HBE.out.fr hW (fun q => q)
    have h2 := HX.out W (HF2.out.trans hW)
    exact ⟨⟨h1.cell 0, h1.cell 1, h1.cell 2, h1.cell 4, h2.2.1, h2.2.2⟩, h2.1, Seg.of_blk h1⟩)
  have HD2 := Lib.hid (HD.out.keep HF.out)
  clear hw4 hb4 hW hB
  obtain ⟨⟨q0, q1, q2, q3, q4, q5⟩, qa, hseg⟩ := HC.out W2 (Fr.refl No W2)
  have HSG := Lib.hid hseg
  clear hseg
  obtain ⟨a0, a1, a2, a3, a4, a6⟩ := ha
  go_wp2_with fail
  go_ret
  exact ⟨rfl, _, _, _, _, HD2.out⟩
theorem both_c (w0 w : World) (t r n ways : Nat) (L : TS) (R : List TE) (F G : Nat → Prop) (x : TA) (hva : x.e.va < 18446744073709551616) (h : Duo w0 w t r n ways L R F G) :
    Calls Tryd.prog 19 #[.pointer (some ⟨t, 0, none⟩), .pointer (some ⟨r, 0, none⟩), .agg x.cells.toArray] w fun z w' => z = .returned (.bool true) ∧ Duo_ w0 w' t r n ways := by
  by_cases a0 : x.act = 0
  · exact both_0 w0 w t r n ways L R F G x hva h a0
  by_cases a1 : x.act = 1
  · exact both_1 w0 w t r n ways L R F G x hva h a1
  by_cases a2 : x.act = 2
  · exact both_2 w0 w t r n ways L R F G x hva h a2
  by_cases a3 : x.act = 3
  · exact both_3 w0 w t r n ways L R F G x hva h a3
  by_cases a4 : x.act = 4
  · exact both_4 w0 w t r n ways L R F G x hva h a4
  by_cases a6 : x.act = 6
  · exact both_6 w0 w t r n ways L R F G x hva h a6
  · exact both_else_ w0 w t r n ways L R F G x hva h ⟨a0, a1, a2, a3, a4, a6⟩
end Go.Proofs.YtpnabfekidpnoaaDoor

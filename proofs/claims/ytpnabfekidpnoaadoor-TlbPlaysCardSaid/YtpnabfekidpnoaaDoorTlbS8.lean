/-
  The law's both.
-/
import Derived.Test.YtpnabfekidpnoaaDoorTlbS5
import Derived.Test.YtpnabfekidpnoaaDoorTlbS7
import Derived.Test.YtpnabfekidpnoaaDoorTlbC
import Derived.Test.YtpnabfekidpnoaaDoorTlbF
namespace Go.Proofs.YtpnabfekidpnoaaDoor
open Go Go.RowKit

/-- An act of the law. -/
structure TA where
  act : Int
  e : TE
  byVa : Bool
  byAsid : Bool
def TA.cells (x : TA) : List Value := .int .i64 x.act :: (x.e.cells ++ [.bool x.byVa, .bool x.byAsid])
theorem TA.cells_len (x : TA) : x.cells.length = 14 := rfl
theorem TA.cells_one (x : TA) : ∀ u ∈ x.cells, u.oneCell' = true := by
  intro u hu
  unfold TA.cells at hu
  rcases List.mem_cons.1 hu with rfl | hu
  · rfl
  rcases List.mem_append.1 hu with hu | hu
  · exact x.e.cells_one u hu
  · simp only [List.mem_cons, List.not_mem_nil, or_false] at hu
    rcases hu with rfl | rfl <;> rfl
/-- One and the document's, side by side, laid since w0. -/
structure Duo (w0 w : World) (t r n ways : Nat) (L : TS) (R : List TE) (F G : Nat → Prop) : Prop where
  ta : TAt w t ways L F
  ra : RTAt w r n ways R G
  ne : ∀ k, F k → ¬ G k
  fn : ∀ k, F k → w0.heap.size ≤ k
  gn : ∀ k, G k → w0.heap.size ≤ k
  fr : Fr No w0 w
  rel : Rel L R
  ok : TS.Ok ways L
  len : L.length = n
  va : ∀ x ∈ R, x.va < 18446744073709551616
def Duo_ (w0 w : World) (t r n ways : Nat) : Prop := ∃ L R F G, Duo w0 w t r n ways L R F G
namespace Duo
variable {w0 w w' : World} {t r n ways : Nat} {L L' : TS} {R R' : List TE} {F G : Nat → Prop}
theorem keep (h : Duo w0 w t r n ways L R F G) (hf : Fr No w w') : Duo w0 w' t r n ways L R F G :=
  ⟨h.ta.fr hf (fun _ _ q => q), h.ra.fr hf (fun _ _ q => q), h.ne, h.fn, h.gn, h.fr.trans hf, h.rel, h.ok, h.len, h.va⟩
theorem cut (h : Duo w0 w t r n ways L R F G) : Duo w0 w t r n ways L R (fun k => F k ∧ k < w.heap.size) (fun k => G k ∧ k < w.heap.size) :=
  ⟨h.ta.cut, h.ra.cut, fun k q q2 => h.ne k q.1 q2.1, fun k q => h.fn k q.1, fun k q => h.gn k q.1, h.fr, h.rel, h.ok, h.len, h.va⟩
theorem nn (h : Duo w0 w t r n ways L R F G) : 0 < n ∧ n ≤ 64 := by have h1 := h.ok.n; have h2 := h.ok.n64; rw [h.len] at h1 h2; exact ⟨h1, h2⟩
theorem rl (h : Duo w0 w t r n ways L R F G) : R.length ≤ 512 := h.rel.len h.ok
end Duo
/-- A step of one of them, and then of the other. -/
theorem Duo.step {w0 w w1 w2 : World} {t r n ways : Nat} {L L' : TS} {R R' : List TE} {F G : Nat → Prop} (h : Duo w0 w t r n ways L R F G) (hG : ∀ k, G k → k < w.heap.size) (hF : ∀ k, F k → k < w.heap.size)
    (ht : TAt w1 t ways L' (Plus F w w1)) (hf : Fr F w w1) (hr : RTAt w2 r n ways R' (Plus G w1 w2)) (hg : Fr G w1 w2) (hrel : Rel L' R') (hok : TS.Ok ways L') (hlen : L'.length = L.length) (hva : ∀ x ∈ R', x.va < 18446744073709551616) :
    Duo w0 w2 t r n ways L' R' (Plus F w w1) (Plus G w1 w2) := by
  have hs := h.fr.size
  have hs1 := hf.size
  refine ⟨ht.fr hg (fun k hk hq => ?_), hr, fun k hk hq => ?_, fun k hk => ?_, fun k hk => ?_, ?_, hrel, hok, hlen.trans h.len, hva⟩
  · rcases hk with hk | hk
    · exact h.ne k hk hq
    · have := hG k hq; omega
  · rcases hk with hk | hk
    · rcases hq with hq | hq
      · exact h.ne k hk hq
      · have := hF k hk; omega
    · rcases hq with hq | hq
      · have := hG k hq; omega
      · omega
  · rcases hk with hk | hk
    · exact h.fn k hk
    · omega
  · rcases hk with hk | hk
    · exact h.gn k hk
    · omega
  · exact (h.fr.andThen hf (fun k hk q => by have := h.fn k q; omega)).andThen hg (fun k hk q => by have := h.gn k q; omega)
theorem foldS_mem (n ways va : Nat) : ∀ (l : List TE) (s : List TE × Nat) (x : TE), x ∈ (l.foldl (cutS n ways va) s).1 → x ∈ s.1 ∨ x ∈ l
  | [], s, x, h => .inl h
  | y :: l, s, x, h => by
    rw [List.foldl_cons] at h
    rcases foldS_mem n ways va l _ x h with h | h
    · unfold cutS at h
      split at h
      · exact .inl h
      · rcases List.mem_append.1 h with h | h
        · exact .inl h
        · exact .inr (by rw [List.mem_singleton.1 h]; exact List.mem_cons_self ..)
    · exact .inr (List.mem_cons_of_mem _ h)
theorem refPut_va {ways n : Nat} {R : List TE} {e : TE} (h : ∀ x ∈ R, x.va < 18446744073709551616) (he : e.va < 18446744073709551616) (y : TE) (hy : y ∈ refPut ways n R e) : y.va < 18446744073709551616 := by
  unfold refPut at hy
  rcases List.mem_append.1 hy with hy | hy
  · rcases foldS_mem _ _ _ _ _ _ hy with q | q
    · cases q
    · exact h y (List.mem_filter.1 q).1
  · rw [List.mem_singleton.1 hy]; exact he
set_option maxRecDepth 100000 in
set_option maxHeartbeats 4000000 in
theorem both_0 (w0 w : World) (t r n ways : Nat) (L : TS) (R : List TE) (F G : Nat → Prop) (x : TA) (hva : x.e.va < 18446744073709551616) (h : Duo w0 w t r n ways L R F G) (ha : x.act = 0) :
    Calls Tryd.prog 19 #[.pointer (some ⟨t, 0, none⟩), .pointer (some ⟨r, 0, none⟩), .agg x.cells.toArray] w fun z w' => z = .returned (.bool true) ∧ Duo_ w0 w' t r n ways := by
  obtain ⟨W1, hW1⟩ : ∃ W1, W1 = w.alloc (.cells x.cells.toArray 50) := ⟨_, rfl⟩
  have hb1 : Blk W1 w.heap.size 50 x.cells.toArray := by rw [hW1]; exact Blk.new w _ _
  have hf1 : Fr No w W1 := by rw [hW1]; exact (Fr.refl No w).alloc _
  have HW1 := Lib.hid hW1.symm
  have HB1 := Lib.hid hb1
  have HD := Lib.hid (h.cut)
  have HF1 := Lib.hid hf1
  have HVA := Lib.hid hva
  have HSE := Lib.hid (show Seg W1 w.heap.size 1 x.e.cells from ⟨_, _, hb1, fun j u hj => by
    have hl : j < x.e.cells.length := (List.getElem?_eq_some_iff.1 hj).1
    unfold TA.cells
    rw [List.getElem?_toArray, Nat.add_comm, List.getElem?_cons_succ, List.getElem?_append_left hl]
    exact hj⟩)
  clear hb1 hf1 hW1 h hva
  obtain ⟨act, hact⟩ : ∃ act, act = x.act := ⟨_, rfl⟩
  rw [← hact] at ha
  obtain ⟨e, he⟩ : ∃ e, e = x.e := ⟨_, rfl⟩
  obtain ⟨byVa, hbv⟩ : ∃ byVa, byVa = x.byVa := ⟨_, rfl⟩
  obtain ⟨byAsid, hba⟩ : ∃ byAsid, byAsid = x.byAsid := ⟨_, rfl⟩
  have HX := Lib.hid (show ∀ W, Fr No W1 W → W.cell? ⟨w.heap.size, 0, none⟩ = some (.int .i64 act) ∧ W.cell? ⟨w.heap.size, 12, none⟩ = some (.bool byVa) ∧ W.cell? ⟨w.heap.size, 13, none⟩ = some (.bool byAsid) from fun W hW => by
    have hb := HB1.out.fr hW (fun q => q)
    rw [hact, hbv, hba]
    exact ⟨hb.cell 0, hb.cell 12, hb.cell 13⟩)
  rw [← he] at HVA HSE
  clear hact he hbv hba
  go_enter Tryd.func19, Tryd.ntmps19
  go_upto_region 1 with fail
  rw [HW1.out]
  go_upto_region 2 with (first
    | (refine wpList_load_seg rfl 25 _ rfl w.heap.size 1 rfl _ HSE.out _ Tryd.underlying25 rfl infoE ?_)
    | (refine wpList_store_row rfl 25 _ _ rfl _ _ rfl rfl _ _ (heap_alloc_new _ _) infoE rfl (all_oneCell_toArray e.cells_one) ?_))
  have hw4 := fun old => setRow_fr2 W1 (.cells old 25) e.cells.toArray
  have hb4 := fun old => setRow_heap (W1.alloc (.cells old 25)) W1.heap.size old e.cells.toArray 25 _ (heap_alloc_new W1 _)
  obtain ⟨B, hB⟩ : ∃ B, B = W1.heap.size := ⟨_, rfl⟩
  generalize hW : (World.setRow _ _ _) = W2
  have HF2 := Lib.hid (show Fr No W1 W2 from by rw [← hW]; exact hw4 _)
  have HBE := Lib.hid (show Blk W2 B 25 e.cells.toArray from by rw [← hW, hB]; exact hb4 _)
  rw [← hB]
  have HBs := Lib.hid (show w.heap.size < B from by rw [hB]; have := HB1.out.lt; omega)
  have HF := Lib.hid (HF1.out.trans HF2.out)
  have HC := Lib.hid (show ∀ W, Fr No W2 W → (W.cell? ⟨B, 0, none⟩ = some (.bool e.v) ∧ W.cell? ⟨B, 1, none⟩ = some (.int .u64 (e.vmid : Int)) ∧ W.cell? ⟨B, 2, none⟩ = some (.int .u64 (e.asid : Int)) ∧ W.cell? ⟨B, 4, none⟩ = some (.int .u64 (e.va : Int)) ∧ W.cell? ⟨w.heap.size, 12, none⟩ = some (.bool byVa) ∧ W.cell? ⟨w.heap.size, 13, none⟩ = some (.bool byAsid)) ∧ W.cell? ⟨w.heap.size, 0, none⟩ = some (.int .i64 act) ∧ Seg W B 0 e.cells from fun W hW => by
    have h1 := HBE.out.fr hW (fun q => q)
    have h2 := HX.out W (HF2.out.trans hW)
    exact ⟨⟨h1.cell 0, h1.cell 1, h1.cell 2, h1.cell 4, h2.2.1, h2.2.2⟩, h2.1, Seg.of_blk h1⟩)
  have HD2 := Lib.hid (HD.out.keep HF.out)
  clear hw4 hb4 hW hB
  obtain ⟨⟨q0, q1, q2, q3, q4, q5⟩, qa, hseg⟩ := HC.out W2 (Fr.refl No W2)
  have HSG := Lib.hid hseg
  clear hseg
  subst ha
  go_wp2_with (first
    | (refine wpList_load_seg rfl 25 (.tmp 7) rfl B 0 rfl _ HSG.out _ Tryd.underlying25 rfl infoE ?_)
    )
  refine (put_c W2 t ways L _ e HD2.out.ta HD2.out.ok).mono ?_
  rintro z w3 ⟨rfl, ht, hf⟩
  have HT3 := Lib.hid ht
  have HF3 := Lib.hid hf
  have HR3 := Lib.hid (HD2.out.ra.fr hf (fun k q q2 => HD2.out.ne k q2 q))
  have HSG3 := Lib.hid (HSG.out.fr hf (fun q => by have := q.2; have := HBs.out; omega))
  clear ht hf
  go_wp2_with (first
    | (refine wpList_load_seg rfl 25 (.tmp 7) rfl B 0 rfl _ HSG3.out _ Tryd.underlying25 rfl infoE ?_)
    )
  refine (rput_c w3 r n ways R _ e HR3.out HD2.out.nn HD2.out.ok.w (by have := HD2.out.rl; omega) HD2.out.va HVA.out).mono ?_
  rintro z w4 ⟨rfl, hr, hg⟩
  have hrel := HD2.out.rel.put HD2.out.ok e
  rw [HD2.out.len] at hrel
  have HD4 := Lib.hid (HD2.out.step (fun k q => by have h1 := q.2; have h2 := HF.out.size; omega) (fun k q => by have h1 := q.2; have h2 := HF.out.size; omega) HT3.out HF3.out hr hg hrel (HD2.out.ok.put e) (by unfold TS.put; rw [List.length_set]) (fun y hy => refPut_va HD2.out.va HVA.out y hy))
  clear hr hg hrel
  go_wp2_with fail
  go_ret
  exact ⟨rfl, _, _, _, _, HD4.out⟩
set_option maxRecDepth 100000 in
set_option maxHeartbeats 4000000 in
theorem both_1 (w0 w : World) (t r n ways : Nat) (L : TS) (R : List TE) (F G : Nat → Prop) (x : TA) (hva : x.e.va < 18446744073709551616) (h : Duo w0 w t r n ways L R F G) (ha : x.act = 1) :
    Calls Tryd.prog 19 #[.pointer (some ⟨t, 0, none⟩), .pointer (some ⟨r, 0, none⟩), .agg x.cells.toArray] w fun z w' => z = .returned (.bool true) ∧ Duo_ w0 w' t r n ways := by
  obtain ⟨W1, hW1⟩ : ∃ W1, W1 = w.alloc (.cells x.cells.toArray 50) := ⟨_, rfl⟩
  have hb1 : Blk W1 w.heap.size 50 x.cells.toArray := by rw [hW1]; exact Blk.new w _ _
  have hf1 : Fr No w W1 := by rw [hW1]; exact (Fr.refl No w).alloc _
  have HW1 := Lib.hid hW1.symm
  have HB1 := Lib.hid hb1
  have HD := Lib.hid (h.cut)
  have HF1 := Lib.hid hf1
  have HVA := Lib.hid hva
  have HSE := Lib.hid (show Seg W1 w.heap.size 1 x.e.cells from ⟨_, _, hb1, fun j u hj => by
    have hl : j < x.e.cells.length := (List.getElem?_eq_some_iff.1 hj).1
    unfold TA.cells
    rw [List.getElem?_toArray, Nat.add_comm, List.getElem?_cons_succ, List.getElem?_append_left hl]
    exact hj⟩)
  clear hb1 hf1 hW1 h hva
  obtain ⟨act, hact⟩ : ∃ act, act = x.act := ⟨_, rfl⟩
  rw [← hact] at ha
  obtain ⟨e, he⟩ : ∃ e, e = x.e := ⟨_, rfl⟩
  obtain ⟨byVa, hbv⟩ : ∃ byVa, byVa = x.byVa := ⟨_, rfl⟩
  obtain ⟨byAsid, hba⟩ : ∃ byAsid, byAsid = x.byAsid := ⟨_, rfl⟩
  have HX := Lib.hid (show ∀ W, Fr No W1 W → W.cell? ⟨w.heap.size, 0, none⟩ = some (.int .i64 act) ∧ W.cell? ⟨w.heap.size, 12, none⟩ = some (.bool byVa) ∧ W.cell? ⟨w.heap.size, 13, none⟩ = some (.bool byAsid) from fun W hW => by
    have hb := HB1.out.fr hW (fun q => q)
    rw [hact, hbv, hba]
    exact ⟨hb.cell 0, hb.cell 12, hb.cell 13⟩)
  rw [← he] at HVA HSE
  clear hact he hbv hba
  go_enter Tryd.func19, Tryd.ntmps19
  go_upto_region 1 with fail
  rw [HW1.out]
  go_upto_region 2 with (first
    | (refine wpList_load_seg rfl 25 _ rfl w.heap.size 1 rfl _ HSE.out _ Tryd.underlying25 rfl infoE ?_)
    | (refine wpList_store_row rfl 25 _ _ rfl _ _ rfl rfl _ _ (heap_alloc_new _ _) infoE rfl (all_oneCell_toArray e.cells_one) ?_))
  have hw4 := fun old => setRow_fr2 W1 (.cells old 25) e.cells.toArray
  have hb4 := fun old => setRow_heap (W1.alloc (.cells old 25)) W1.heap.size old e.cells.toArray 25 _ (heap_alloc_new W1 _)
  obtain ⟨B, hB⟩ : ∃ B, B = W1.heap.size := ⟨_, rfl⟩
  generalize hW : (World.setRow _ _ _) = W2
  have HF2 := Lib.hid (show Fr No W1 W2 from by rw [← hW]; exact hw4 _)
  have HBE := Lib.hid (show Blk W2 B 25 e.cells.toArray from by rw [← hW, hB]; exact hb4 _)
  rw [← hB]
  have HBs := Lib.hid (show w.heap.size < B from by rw [hB]; have := HB1.out.lt; omega)
  have HF := Lib.hid (HF1.out.trans HF2.out)
  have HC := Lib.hid (show ∀ W, Fr No W2 W → (W.cell? ⟨B, 0, none⟩ = some (.bool e.v) ∧ W.cell? ⟨B, 1, none⟩ = some (.int .u64 (e.vmid : Int)) ∧ W.cell? ⟨B, 2, none⟩ = some (.int .u64 (e.asid : Int)) ∧ W.cell? ⟨B, 4, none⟩ = some (.int .u64 (e.va : Int)) ∧ W.cell? ⟨w.heap.size, 12, none⟩ = some (.bool byVa) ∧ W.cell? ⟨w.heap.size, 13, none⟩ = some (.bool byAsid)) ∧ W.cell? ⟨w.heap.size, 0, none⟩ = some (.int .i64 act) ∧ Seg W B 0 e.cells from fun W hW => by
    have h1 := HBE.out.fr hW (fun q => q)
    have h2 := HX.out W (HF2.out.trans hW)
    exact ⟨⟨h1.cell 0, h1.cell 1, h1.cell 2, h1.cell 4, h2.2.1, h2.2.2⟩, h2.1, Seg.of_blk h1⟩)
  have HD2 := Lib.hid (HD.out.keep HF.out)
  clear hw4 hb4 hW hB
  obtain ⟨⟨q0, q1, q2, q3, q4, q5⟩, qa, hseg⟩ := HC.out W2 (Fr.refl No W2)
  have HSG := Lib.hid hseg
  clear hseg
  subst ha
  obtain ⟨o, ho⟩ : ∃ o, o = L.get e.v e.vmid e.asid e.va := ⟨_, rfl⟩
  have hro : o = refGet R e.v e.vmid e.asid e.va := ho.trans (HD2.out.rel.get HD2.out.ok.n _ _ _ _)
  obtain ⟨y, hy⟩ : ∃ y, y = o.getD TE.none_ := ⟨_, rfl⟩
  obtain ⟨q, hq⟩ : ∃ q, q = o.isSome := ⟨_, rfl⟩
  have HG1 := Lib.hid (show Calls Tryd.prog 10 #[.pointer (some ⟨t, 0, none⟩), .bool e.v, .int .u64 (e.vmid : Int), .int .u64 (e.asid : Int), .int .u64 (e.va : Int)] W2 fun r w' => r = .returned (.tuple #[.agg y.cells.toArray, .bool q]) ∧ Below W2.heap.size W2 w' from by
    have h := get_c W2 t ways L _ e.v e.vmid e.asid e.va HD2.out.ta HD2.out.ok
    rw [← ho] at h
    unfold getRes at h
    rw [← hy, ← hq] at h
    exact h)
  have HG2 := Lib.hid (show ∀ W, Fr No W2 W → Calls Tryd.prog 38 #[.pointer (some ⟨r, 0, none⟩), .bool e.v, .int .u64 (e.vmid : Int), .int .u64 (e.asid : Int), .int .u64 (e.va : Int)] W fun r w' => r = .returned (.tuple #[.agg y.cells.toArray, .bool q]) ∧ Fr No W w' from fun W hW => by
    have h := rget_c W r n ways R _ e.v e.vmid e.asid e.va (HD2.out.keep hW).ra (by have := HD2.out.rl; omega) HD2.out.va HVA.out
    rw [← hro] at h
    unfold getRes at h
    rw [← hy, ← hq] at h
    exact h)
  have hyy : ∀ W : World, (binOp .eql 25 (.agg y.cells.toArray) (.agg y.cells.toArray)).run Tryd.prog W = .ok (.bool true) W := fun W => by rw [(te_eq_run y y W).1]; simp
  clear ho hro hy hq
  go_wp2_with fail
  refine HG1.out.mono ?_
  rintro z w3 ⟨rfl, hb3⟩
  have H23 := Lib.hid (Fr.of_below hb3 No)
  clear hb3
  go_upto_region 8 with (first
    | (refine wpList_store_row rfl 25 _ _ rfl _ _ rfl rfl _ _ (heap_alloc_new _ _) infoE rfl (all_oneCell_toArray y.cells_one) ?_))
  have hw5 := fun old => setRow_fr2 w3 (.cells old 25) y.cells.toArray
  have hb5 := fun old => setRow_heap (w3.alloc (.cells old 25)) w3.heap.size old y.cells.toArray 25 _ (heap_alloc_new w3 _)
  obtain ⟨B8, hB5⟩ : ∃ B8, B8 = w3.heap.size := ⟨_, rfl⟩
  generalize hW5 : (World.setRow _ _ _) = W4
  have H34 := Lib.hid (show Fr No w3 W4 from by rw [← hW5]; exact hw5 _)
  have HS8 := Lib.hid (show Seg W4 B8 0 y.cells from by rw [hB5, ← hW5]; exact Seg.of_blk (hb5 _))
  rw [← hB5]
  clear hw5 hb5 hW5 hB5
  have H24 := Lib.hid (H23.out.trans H34.out)
  obtain ⟨⟨k0, k1, k2, k3, k4, k5⟩, ka, _⟩ := HC.out W4 H24.out
  go_wp2_with fail
  refine (HG2.out W4 H24.out).mono ?_
  rintro z w5 ⟨rfl, hf5⟩
  have H25 := Lib.hid (H24.out.trans hf5)
  have HS85 := Lib.hid (HS8.out.fr hf5 (fun q => q))
  clear hf5
  go_upto_region 9 with (first
    | (refine wpList_store_row rfl 78 _ _ rfl _ _ rfl rfl _ _ (heap_alloc_new _ _) infoRE rfl (all_oneCell_toArray y.cells_one) ?_))
  have hw6 := fun old => setRow_fr2 w5 (.cells old 78) y.cells.toArray
  have hb6 := fun old => setRow_heap (w5.alloc (.cells old 78)) w5.heap.size old y.cells.toArray 78 _ (heap_alloc_new w5 _)
  obtain ⟨B10, hB6⟩ : ∃ B10, B10 = w5.heap.size := ⟨_, rfl⟩
  generalize hW6 : (World.setRow _ _ _) = W6
  have H56 := Lib.hid (show Fr No w5 W6 from by rw [← hW6]; exact hw6 _)
  have HS10 := Lib.hid (show Seg W6 B10 0 y.cells from by rw [hB6, ← hW6]; exact Seg.of_blk (hb6 _))
  rw [← hB6]
  clear hw6 hb6 hW6 hB6
  have HS86 := Lib.hid (HS85.out.fr H56.out (fun q => q))
  have H26 := Lib.hid (H25.out.trans H56.out)
  go_wp2_with (first
    | (refine wpList_load_seg_h 25 (.tmp 8) (by rfl) (by kernel_rfl) B8 0 (by rfl) _ HS86.out _ Tryd.underlying25 (by rfl) infoE ?_)
    | (refine wpList_load_seg_h 78 (.tmp 10) (by rfl) (by kernel_rfl) B10 0 (by rfl) _ HS10.out _ Tryd.underlying78 (by rfl) infoRE ?_)
    )
  go_ret
  exact ⟨by simp, _, _, _, _, HD2.out.keep H26.out⟩
end Go.Proofs.YtpnabfekidpnoaaDoor

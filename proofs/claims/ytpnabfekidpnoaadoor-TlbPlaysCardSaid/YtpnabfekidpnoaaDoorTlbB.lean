/-
  Entries; the laws' entry of no guest; awake; made.
-/
import Derived.Test.YtpnabfekidpnoaaDoorTlbA
import Derived.Test.YtpnabfekidpnoaaDoorEq
namespace Go.Proofs.YtpnabfekidpnoaaDoor
open Go Go.RowKit

theorem te_fits (x : TE) : Fits x.cells (kindsOf Tryd.prog 5 25) := by
  rw [show kindsOf Tryd.prog 5 25 = [none, some .u64, some .u64, none, some .u64, some .u64, some .u64, some .i64, some .i64, some .u64, some .u64] from by kernel_rfl]
  simp [Fits, TE.cells]
theorem te_cellsEq (x y : TE) : cellsEq x.cells y.cells = decide (x = y) := by
  obtain ⟨x0, x1, x2, x3, x4, x5, x6, x7, x8, x9, x10⟩ := x
  obtain ⟨y0, y1, y2, y3, y4, y5, y6, y7, y8, y9, y10⟩ := y
  rw [Bool.eq_iff_iff, decide_eq_true_eq]
  simp [cellsEq, cellEq, TE.cells]
  intro _
  simp only [Int.natCast_inj]
theorem te_eq_run (x y : TE) (w : World) : (binOp .eql 25 (.agg x.cells.toArray) (.agg y.cells.toArray)).run Tryd.prog w = .ok (.bool (decide (x = y))) w ∧
    (binOp .neq 25 (.agg x.cells.toArray) (.agg y.cells.toArray)).run Tryd.prog w = .ok (.bool (!decide (x = y))) w := by
  have h := run_eql_plain (P := Tryd.prog) w 5 25 x.cells y.cells (by omega) (by kernel_rfl) (te_fits x) (te_fits y) ⟨_, .inl Tryd.underlying25⟩
  rw [te_cellsEq] at h
  exact h
set_option maxRecDepth 100000 in
theorem entries_c (w : World) (b ways : Nat) (L : TS) (F : Nat → Prop) (h : TAt w b ways L F) (hok : TS.Ok ways L) :
    Calls Tryd.prog 11 #[.pointer (some ⟨b, 0, none⟩)] w fun e w' => ∃ v, e = .returned v ∧ Row w' v L.flatten (fun k => w.heap.size ≤ k ∧ k < w'.heap.size) ∧ Fr No w w' := by
  obtain ⟨s, c, hin⟩ := h
  have cb : w.cell? ⟨b, 1, none⟩ = some (.slice (some ⟨s, 0, none⟩) L.length c) := by obtain ⟨vs, G, h1, _⟩ := hin; exact h1.cell 1
  have HC := Lib.hid (concat_c w b s c ways L F hin hok.n64 (fun l hl => Nat.le_trans (hok.r l hl) hok.w.2))
  clear hin hok
  go_enter Tryd.func11, Tryd.ntmps11
  go_wp2_with (go_at_call 29; refine HC.out.mono ?_; rintro e w2 ⟨v2, rfl, hr2, hf2⟩)
  go_ret
  exact ⟨v2, rfl, hr2, hf2⟩
def mkPage (n : Nat) : TE := ⟨false, 0, 0, false, n * 4096, 0, 4096, 0, 0, 0, 0⟩
set_option maxRecDepth 100000 in
theorem lawpage_c (w : World) (n : Nat) (hn : n ≤ 1000) :
    Calls Tryd.prog 13 #[.int .u64 (n : Int)] w fun e w' => e = .returned (.agg (mkPage n).cells.toArray) ∧ Fr No w w' := by
  have e1 : IntKind.u64.wrap ((n : Int) * 4096) = ((n * 4096 : Nat) : Int) := by rw [IntKind.wrap_u64]; omega
  have e2 : (n : Int) * 4096 = ((n * 4096 : Nat) : Int) := by omega
  obtain ⟨m, hm⟩ : ∃ m, m = n * 4096 := ⟨_, rfl⟩
  have hmk : mkPage n = ⟨false, 0, 0, false, m, 0, 4096, 0, 0, 0, 0⟩ := by unfold mkPage; rw [hm]
  rw [← hm] at e1
  rw [hmk]
  have hmz : m < 5000000 := by omega
  clear hm hmk e2
  go_enter Tryd.func13, Tryd.ntmps13
  go_wp2_with fail
  refine bodyPost_ret (results_cell_row rfl _ _ w.heap.size 25 _ _ _ rfl (heap_alloc_new _ _) Tryd.underlying25 rfl infoE) rfl ?_
  exact ⟨rfl, (Fr.refl No w).alloc _⟩
set_option maxRecDepth 100000 in
set_option maxHeartbeats 2000000 in
theorem awake_c (w : World) (hT : TzAt w) :
    Calls Tryd.prog 7 #[] w fun e w' => e = .returned (.bool true) ∧ Fr No w w' := by
  have hnew : Calls Tryd.prog 12 #[.int .i64 2, .int .i64 2] w fun e w' => ∃ b, e = .returned (.tuple #[.pointer (some ⟨b, 0, none⟩), .int .i64 0]) ∧ TAt w' b 2 [[], []] (Plus No w w') ∧ Fr No w w' := new_c w 2 2 (by omega) (by decide) (by omega) hT
  have hp0 : ∀ W, Calls Tryd.prog 13 #[.int .u64 0] W fun e w' => e = .returned (.agg (mkPage 0).cells.toArray) ∧ Fr No W w' := fun W => lawpage_c W 0 (by omega)
  have hp2 : ∀ W, Calls Tryd.prog 13 #[.int .u64 2] W fun e w' => e = .returned (.agg (mkPage 2).cells.toArray) ∧ Fr No W w' := fun W => lawpage_c W 2 (by omega)
  have hp4 : ∀ W, Calls Tryd.prog 13 #[.int .u64 4] W fun e w' => e = .returned (.agg (mkPage 4).cells.toArray) ∧ Fr No W w' := fun W => lawpage_c W 4 (by omega)
  have hok0 : TS.Ok 2 [[], []] := Ok.new 2 2 (by omega) (by omega)
  have hL1 : TS.put 2 [[], []] (mkPage 0) = [[mkPage 0], []] := by decide
  have hL2 : TS.put 2 [[mkPage 0], []] (mkPage 2) = [[mkPage 0, mkPage 2], []] := by decide
  have hL3 : TS.put 2 [[mkPage 0, mkPage 2], []] (mkPage 4) = [[mkPage 2, mkPage 4], []] := by decide
  have hok1 : TS.Ok 2 [[mkPage 0], []] := hL1 ▸ hok0.put (mkPage 0)
  have hok2 : TS.Ok 2 [[mkPage 0, mkPage 2], []] := hL2 ▸ hok1.put (mkPage 2)
  have hok3 : TS.Ok 2 [[mkPage 2, mkPage 4], []] := hL3 ▸ hok2.put (mkPage 4)
  have hg1 : TS.get [[mkPage 2, mkPage 4], []] false 9 0 20479 = some (mkPage 4) := by decide
  have hg2 : TS.get [[mkPage 2, mkPage 4], []] false 0 0 0 = none := by decide
  have HNEW := Lib.hid hnew
  have HP0 := Lib.hid hp0
  have HP2 := Lib.hid hp2
  have HP4 := Lib.hid hp4
  have K0 := Lib.hid hok0
  have K1 := Lib.hid hok1
  have K2 := Lib.hid hok2
  have K3 := Lib.hid hok3
  have E1 := Lib.hid hL1
  have E2 := Lib.hid hL2
  have E3 := Lib.hid hL3
  have G1 := Lib.hid hg1
  have G2 := Lib.hid hg2
  clear hT hnew hp0 hp2 hp4 hok0 hok1 hok2 hok3 hL1 hL2 hL3 hg1 hg2
  go_enter Tryd.func7, Tryd.ntmps7
  go_wp2_with fail
  refine HNEW.out.mono ?_
  rintro e w1 ⟨b, rfl, hA1, hf1⟩
  have HA1 := Lib.hid (hA1.mono (F' := fun k => w.heap.size ≤ k) (fun k h => h.elim (fun h => h.elim) (fun h => h.1)))
  have HF1 := Lib.hid hf1
  clear hA1 hf1
  go_wp2_with fail
  refine (HP0.out _).mono ?_
  rintro e w2 ⟨rfl, hf⟩
  have hA := HA1.out.fr hf (fun _ _ q => q)
  have hF := HF1.out.trans hf
  clear hf
  go_wp2_with fail
  refine (put_c w2 b 2 _ _ (mkPage 0) hA K0.out).mono ?_
  rintro e w3 ⟨rfl, hA2, hf⟩
  rw [E1.out] at hA2
  have HQA := Lib.hid (hA2.mono (F' := fun k => w.heap.size ≤ k) (fun k h => h.elim (fun h => h) (fun h => Nat.le_trans hF.size h.1)))
  have HQF := Lib.hid (show Fr No w w3 from hF.andThen hf (fun k hk h => by have h2 : w.heap.size ≤ k := h; omega))
  clear hA2 hf hA hF
  have HA3 := HQA
  have HF3 := HQF
  clear HQA HQF
  go_wp2_with fail
  refine (HP2.out _).mono ?_
  rintro e w4 ⟨rfl, hf⟩
  have hA := HA3.out.fr hf (fun _ _ q => q)
  have hF := HF3.out.trans hf
  clear hf
  go_wp2_with fail
  refine (put_c w4 b 2 _ _ (mkPage 2) hA K1.out).mono ?_
  rintro e w5 ⟨rfl, hA2, hf⟩
  rw [E2.out] at hA2
  have HQA := Lib.hid (hA2.mono (F' := fun k => w.heap.size ≤ k) (fun k h => h.elim (fun h => h) (fun h => Nat.le_trans hF.size h.1)))
  have HQF := Lib.hid (show Fr No w w5 from hF.andThen hf (fun k hk h => by have h2 : w.heap.size ≤ k := h; omega))
  clear hA2 hf hA hF
  have HA5 := HQA
  have HF5 := HQF
  clear HQA HQF
  go_wp2_with fail
  refine (HP4.out _).mono ?_
  rintro e w6 ⟨rfl, hf⟩
  have hA := HA5.out.fr hf (fun _ _ q => q)
  have hF := HF5.out.trans hf
  clear hf
  go_wp2_with fail
  refine (put_c w6 b 2 _ _ (mkPage 4) hA K2.out).mono ?_
  rintro e w7 ⟨rfl, hA2, hf⟩
  rw [E3.out] at hA2
  have HQA := Lib.hid (hA2.mono (F' := fun k => w.heap.size ≤ k) (fun k h => h.elim (fun h => h) (fun h => Nat.le_trans hF.size h.1)))
  have HQF := Lib.hid (show Fr No w w7 from hF.andThen hf (fun k hk h => by have h2 : w.heap.size ≤ k := h; omega))
  clear hA2 hf hA hF
  have HA7 := HQA
  have HF7 := HQF
  clear HQA HQF
  go_wp2_with fail
  have hq : Calls Tryd.prog 10 #[.pointer (some ⟨b, 0, none⟩), .bool false, .int .u64 9, .int .u64 0, .int .u64 20479] w7 fun r w' => r = .returned (getRes (TS.get [[mkPage 2, mkPage 4], []] false 9 0 20479)) ∧ Below w7.heap.size w7 w' := get_c w7 b 2 _ _ false 9 0 20479 HA7.out K3.out
  rw [G1.out] at hq
  have hres : getRes (some (mkPage 4)) = .tuple #[.agg #[.bool false, .int .u64 0, .int .u64 0, .bool false, .int .u64 16384, .int .u64 0, .int .u64 4096, .int .i64 0, .int .i64 0, .int .u64 0, .int .u64 0], .bool true] := rfl
  rw [hres] at hq
  refine hq.mono ?_
  rintro e w8 ⟨rfl, hb8⟩
  have HA8 := Lib.hid (HA7.out.fr (Fr.of_below hb8 No) (fun _ _ q => q))
  have HF8 := Lib.hid (HF7.out.trans (Fr.of_below hb8 No))
  clear hq hres hb8
  go_wp2_with fail
  obtain ⟨X8, hX8⟩ : ∃ X8, X8 = w8.alloc (.cells #[.bool false, .int .u64 0, .int .u64 0, .bool false, .int .u64 16384, .int .u64 0, .int .u64 4096, .int .i64 0, .int .i64 0, .int .u64 0, .int .u64 0] 25) := ⟨_, rfl⟩
  rw [← hX8]
  have hB3 : Blk X8 w8.heap.size 25 #[.bool false, .int .u64 0, .int .u64 0, .bool false, .int .u64 16384, .int .u64 0, .int .u64 4096, .int .i64 0, .int .i64 0, .int .u64 0, .int .u64 0] := by rw [hX8]; exact Blk.new _ _ _
  have hfx : Fr No w8 X8 := by rw [hX8]; exact (Fr.refl No w8).alloc _
  have HB3 := Lib.hid hB3
  have HA9 := Lib.hid (HA8.out.fr hfx (fun _ _ q => q))
  have HF9 := Lib.hid (HF8.out.trans hfx)
  clear hX8 hB3 hfx HA7 HF7 HA8 HF8
  have hq : Calls Tryd.prog 10 #[.pointer (some ⟨b, 0, none⟩), .bool false, .int .u64 0, .int .u64 0, .int .u64 0] X8 fun r w' => r = .returned (getRes (TS.get [[mkPage 2, mkPage 4], []] false 0 0 0)) ∧ Below X8.heap.size X8 w' := get_c X8 b 2 _ _ false 0 0 0 HA9.out K3.out
  rw [G2.out] at hq
  have hres : getRes none = .tuple #[.agg #[.bool false, .int .u64 0, .int .u64 0, .bool false, .int .u64 0, .int .u64 0, .int .u64 0, .int .i64 0, .int .i64 0, .int .u64 0, .int .u64 0], .bool false] := rfl
  rw [hres] at hq
  refine hq.mono ?_
  rintro e w9 ⟨rfl, hb9⟩
  have HA10 := Lib.hid (HA9.out.fr (Fr.of_below hb9 No) (fun _ _ q => q))
  have HF10 := Lib.hid (HF9.out.trans (Fr.of_below hb9 No))
  have HB4 := Lib.hid (HB3.out.fr (Fr.of_below hb9 No) (fun q => q))
  clear hq hres hb9
  obtain ⟨B3, hB3⟩ : ∃ B3, B3 = w8.heap.size := ⟨_, rfl⟩
  rw [← hB3] at HB4 ⊢
  clear hB3
  go_upto_region 9 with fail
  obtain ⟨W1, hW1⟩ : ∃ W1, W1 = w9.alloc (.cells #[.bool false, .int .u64 0, .int .u64 0, .bool false, .int .u64 0, .int .u64 0, .int .u64 0, .int .i64 0, .int .i64 0, .int .u64 0, .int .u64 0] 25) := ⟨_, rfl⟩
  rw [← hW1]
  have hfx : Fr No w9 W1 := by rw [hW1]; exact (Fr.refl No w9).alloc _
  have HB5 := Lib.hid (HB4.out.fr hfx (fun q => q))
  have HA11 := Lib.hid (HA10.out.fr hfx (fun _ _ q => q))
  have HF11 := Lib.hid (HF10.out.trans hfx)
  have heq : ∀ W, (binOp .eql 25 (.agg #[.bool false, .int .u64 0, .int .u64 0, .bool false, .int .u64 16384, .int .u64 0, .int .u64 4096, .int .i64 0, .int .i64 0, .int .u64 0, .int .u64 0]) (.agg (mkPage 4).cells.toArray)).run Tryd.prog W = .ok (.bool true) W := fun W => (te_eq_run (mkPage 4) (mkPage 4) W).1.trans (by rw [decide_eq_true rfl])
  clear hW1 hfx HA9 HF9 HA10 HF10 HB4
  refine wp_region_held_drew (S := fun W => W.cell? ⟨B3, 0, none⟩ = some (.bool false) ∧ W.cell? ⟨B3, 1, none⟩ = some (.int .u64 0) ∧ W.cell? ⟨B3, 2, none⟩ = some (.int .u64 0) ∧ W.cell? ⟨B3, 3, none⟩ = some (.bool false) ∧ W.cell? ⟨B3, 4, none⟩ = some (.int .u64 16384) ∧ W.cell? ⟨B3, 5, none⟩ = some (.int .u64 0) ∧ W.cell? ⟨B3, 6, none⟩ = some (.int .u64 4096) ∧ W.cell? ⟨B3, 7, none⟩ = some (.int .i64 0) ∧ W.cell? ⟨B3, 8, none⟩ = some (.int .i64 0) ∧ W.cell? ⟨B3, 9, none⟩ = some (.int .u64 0) ∧ W.cell? ⟨B3, 10, none⟩ = some (.int .u64 0)) (by kernel_rfl) ⟨HB5.out.cell 0, HB5.out.cell 1, HB5.out.cell 2, HB5.out.cell 3, HB5.out.cell 4, HB5.out.cell 5, HB5.out.cell 6, HB5.out.cell 7, HB5.out.cell 8, HB5.out.cell 9, HB5.out.cell 10⟩ (fun hHeld => ?_)
  refine' tkG (i := 0) (v := _) rfl (by kernel_rfl) (by kernel_rfl) (by kernel_rfl) (fun _ _ _ h => h) (by rfl) ?hy4 (by assumption) ?rest4
  case hy4 => (intro wq hSq; (try dsimp only at hSq); go_simp; try with_reducible rfl)
  simp only [Act.put, List.setIfInBounds_toArray, List.set_cons_zero, List.set_cons_succ]
  refine' tkG (i := 1) (v := _) rfl (by kernel_rfl) (by kernel_rfl) (by kernel_rfl) (fun _ _ _ h => h) (by rfl) ?hy5 (by assumption) ?rest5
  case hy5 => (intro wq hSq; (try dsimp only at hSq); go_simp; try with_reducible rfl)
  simp only [Act.put, List.setIfInBounds_toArray, List.set_cons_zero, List.set_cons_succ]
  refine' tkG (i := 2) (v := _) rfl (by kernel_rfl) (by kernel_rfl) (by kernel_rfl) (fun _ _ _ h => h) (by rfl) ?hy6 (by assumption) ?rest6
  case hy6 => (intro wq hSq; (try dsimp only at hSq); go_simp; try with_reducible rfl)
  simp only [Act.put, List.setIfInBounds_toArray, List.set_cons_zero, List.set_cons_succ]
  refine wpAnyH_ready (rs := [3]) (by kernel_rfl) (by simp) ?_
  refine AllReadyH.cons rfl (fun K hK => ?_) AllReadyH.nil
  go_simp
  refine (HP4.out _).mono ?_
  rintro e wp ⟨rfl, hfp⟩
  have hfp2 : Fr No W1 wp := ((Fr.refl No W1).drew).trans hfp
  have HB6 := Lib.hid (HB5.out.fr hfp2 (fun q => q))
  have HA12 := Lib.hid (HA11.out.fr hfp2 (fun _ _ q => q))
  have HF12 := Lib.hid (HF11.out.trans hfp2)
  clear hfp hfp2
  go_simp
  refine hK.out _ _ ⟨HB6.out.cell 0, HB6.out.cell 1, HB6.out.cell 2, HB6.out.cell 3, HB6.out.cell 4, HB6.out.cell 5, HB6.out.cell 6, HB6.out.cell 7, HB6.out.cell 8, HB6.out.cell 9, HB6.out.cell 10⟩ (fun hHeld => ?_)
  clear hK K
  try simp only [List.setIfInBounds_toArray, List.set_cons_zero, List.set_cons_succ]
  refine' tkG (i := 4) (v := _) rfl (by kernel_rfl) (by kernel_rfl) (by kernel_rfl) (fun _ _ _ h => h) (by rfl) ?hy7 (by assumption) ?rest7
  case hy7 => (intro wq hSq; (try dsimp only at hSq); go_simp; try with_reducible rfl)
  simp only [Act.put, List.setIfInBounds_toArray, List.set_cons_zero, List.set_cons_succ]
  refine' tkG (i := 5) (v := _) rfl (by kernel_rfl) (by kernel_rfl) (by kernel_rfl) (fun _ _ _ h => h) (by rfl) ?hy8 (by assumption) ?rest8
  case hy8 => (intro wq hSq; (try dsimp only at hSq); go_simp; try with_reducible rfl)
  simp only [Act.put, List.setIfInBounds_toArray, List.set_cons_zero, List.set_cons_succ]
  refine' tkG (i := 6) (v := _) rfl (by kernel_rfl) (by kernel_rfl) (by kernel_rfl) (fun _ _ _ h => h) (by rfl) ?hy9 (by assumption) ?rest9
  case hy9 => (intro wq hSq; (try dsimp only at hSq); go_simp; try with_reducible rfl)
  simp only [Act.put, List.setIfInBounds_toArray, List.set_cons_zero, List.set_cons_succ]
  refine' tkG (i := 7) (v := _) rfl (by kernel_rfl) (by kernel_rfl) (by kernel_rfl) (fun _ _ _ h => h) (by rfl) ?hy10 (by assumption) ?rest10
  case hy10 => (intro wq hSq; (try dsimp only at hSq); go_simp; try with_reducible rfl)
  simp only [Act.put, List.setIfInBounds_toArray, List.set_cons_zero, List.set_cons_succ]
  refine' tkG (i := 8) (v := _) rfl (by kernel_rfl) (by kernel_rfl) (by kernel_rfl) (fun _ _ _ h => h) (by rfl) ?hy11 (by assumption) ?rest11
  case hy11 => (intro wq hSq; (try dsimp only at hSq); go_simp; try with_reducible rfl)
  simp only [Act.put, List.setIfInBounds_toArray, List.set_cons_zero, List.set_cons_succ]
  refine' tkG (i := 9) (v := _) rfl (by kernel_rfl) (by kernel_rfl) (by kernel_rfl) (fun _ _ _ h => h) (by rfl) ?hy12 (by assumption) ?rest12
  case hy12 => (intro wq hSq; (try dsimp only at hSq); go_simp; try with_reducible rfl)
  simp only [Act.put, List.setIfInBounds_toArray, List.set_cons_zero, List.set_cons_succ]
  refine' tkG (i := 10) (v := _) rfl (by kernel_rfl) (by kernel_rfl) (by kernel_rfl) (fun _ _ _ h => h) (by rfl) ?hy13 (by assumption) ?rest13
  case hy13 => (intro wq hSq; (try dsimp only at hSq); go_simp; try with_reducible rfl)
  simp only [Act.put, List.setIfInBounds_toArray, List.set_cons_zero, List.set_cons_succ]
  refine' tkG (i := 11) (v := _) rfl (by kernel_rfl) (by kernel_rfl) (by kernel_rfl) (fun _ _ _ h => h) (by rfl) ?hy14 (by assumption) ?rest14
  case hy14 => (intro wq hSq; (try dsimp only at hSq); go_simp; try with_reducible rfl)
  simp only [Act.put, List.setIfInBounds_toArray, List.set_cons_zero, List.set_cons_succ]
  refine wpAnyH_ready (rs := [12]) (by kernel_rfl) (by simp) ?_
  refine AllReadyH.cons rfl (fun K hK => ?_) AllReadyH.nil
  go_simp
  refine (entries_c _ b 2 _ _ HA12.out K3.out).mono ?_
  rintro e we ⟨ve, rfl, hre, hfe⟩
  obtain ⟨ae, ce, rfl, _, _⟩ := hre.len
  have hln : ([[mkPage 2, mkPage 4], []] : TS).flatten.length = 2 := rfl
  rw [hln]
  have HB7 := Lib.hid (HB6.out.fr hfe (fun q => q))
  have HF13 := Lib.hid (HF12.out.trans hfe)
  clear hre hfe hln
  go_simp
  refine hK.out _ _ ⟨HB7.out.cell 0, HB7.out.cell 1, HB7.out.cell 2, HB7.out.cell 3, HB7.out.cell 4, HB7.out.cell 5, HB7.out.cell 6, HB7.out.cell 7, HB7.out.cell 8, HB7.out.cell 9, HB7.out.cell 10⟩ (fun hHeld => ?_)
  clear hK K
  try simp only [List.setIfInBounds_toArray, List.set_cons_zero, List.set_cons_succ]
  refine' tkG (i := 13) (v := _) rfl (by kernel_rfl) (by kernel_rfl) (by kernel_rfl) (fun _ _ _ h => h) (by rfl) ?hy15 (by assumption) ?rest15
  case hy15 => (intro wq hSq; (try dsimp only at hSq); go_simp; try with_reducible rfl)
  simp only [Act.put, List.setIfInBounds_toArray, List.set_cons_zero, List.set_cons_succ]
  refine' tkG (i := 14) (v := _) rfl (by kernel_rfl) (by kernel_rfl) (by kernel_rfl) (fun _ _ _ h => h) (by rfl) ?hy16 (by assumption) ?rest16
  case hy16 => (intro wq hSq; (try dsimp only at hSq); go_simp; try with_reducible rfl)
  simp only [Act.put, List.setIfInBounds_toArray, List.set_cons_zero, List.set_cons_succ]
  refine' tkG (i := 15) (v := _) rfl (by kernel_rfl) (by kernel_rfl) (by kernel_rfl) (fun _ _ _ h => h) (by rfl) ?hy17 (by assumption) ?rest17
  case hy17 => (intro wq hSq; (try dsimp only at hSq); go_simp; try with_reducible rfl)
  simp only [Act.put, List.setIfInBounds_toArray, List.set_cons_zero, List.set_cons_succ]
  refine' tkG (i := 16) (v := _) rfl (by kernel_rfl) (by kernel_rfl) (by kernel_rfl) (fun _ _ _ h => h) (by rfl) ?hy18 (by assumption) ?rest18
  case hy18 => (intro wq hSq; (try dsimp only at hSq); go_simp; try with_reducible rfl)
  simp only [Act.put, List.setIfInBounds_toArray, List.set_cons_zero, List.set_cons_succ]
  refine wpAnyH_done (by kernel_rfl) ?_ _
  go_wp2_with fail
  go_ret
  exact ⟨rfl, HF13.out⟩
end Go.Proofs.YtpnabfekidpnoaaDoor

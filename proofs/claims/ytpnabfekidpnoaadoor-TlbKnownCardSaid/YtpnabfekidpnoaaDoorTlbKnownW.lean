/-
  TlbKnown, walked.
-/
import Derived.Test.YtpnabfekidpnoaaDoorTlbN
import Derived.Test.YtpnabfekidpnoaaDoorTlbF
import Derived.Test.YtpnabfekidpnoaaDoorTake
namespace Go.Proofs.YtpnabfekidpnoaaDoor
open Go Go.RowKit

def eA : TE := ⟨false, 0, 5, false, 2101248, 0, 0, 1, 0, 0, 0⟩
def eB : TE := ⟨false, 0, 0, true, 2105344, 0, 0, 1, 0, 0, 0⟩
def eC : TE := ⟨true, 3, 0, false, 0, 0, 0, 0, 0, 0, 0⟩
def eD : TE := ⟨true, 4, 0, false, 4096, 0, 0, 0, 0, 0, 0⟩
abbrev pg0 := mkPage 0
abbrev pg1 := mkPage 1
abbrev pg2 := mkPage 2
abbrev pg4 := mkPage 4
theorem ok22 (L : TS) (h : (L.length = 2 ∧ L.all (fun l => decide (l.length ≤ 2))) = true) : TS.Ok 2 L := by
  simp only [eq_iff_iff, iff_true] at h
  exact ⟨by omega, by omega, by omega, fun l hl => of_decide_eq_true (List.all_eq_true.1 h.2 l hl)⟩
set_option maxRecDepth 100000 in
set_option maxHeartbeats 4000000 in
theorem TlbKnown_c (w : World) (hT : TzAt w) :
    Calls Tryd.prog 4 #[] w fun e w' => e = .returned (.bool true) ∧ Fr No w w' := by
  have hnew : ∀ W, TzAt W → Calls Tryd.prog 12 #[.int .i64 2, .int .i64 2] W fun e w' => ∃ b, e = .returned (.tuple #[.pointer (some ⟨b, 0, none⟩), .int .i64 0]) ∧ TAt w' b 2 [[], []] (Plus No W w') ∧ Fr No W w' := fun W h => new_c W 2 2 (by omega) (by decide) (by omega) h
  have hbad : ∀ W (n ways : Int), ¬ goodNew n ways → TzAt W → Calls Tryd.prog 12 #[.int .i64 n, .int .i64 ways] W fun e w' => e = .returned (.tuple #[.pointer none, .int .i64 1]) ∧ Fr No W w' := fun W n ways h hT => new_bad W n ways h hT
  have hp0 : ∀ W, Calls Tryd.prog 13 #[.int .u64 0] W fun e w' => e = .returned (.agg (mkPage 0).cells.toArray) ∧ Fr No W w' := fun W => lawpage_c W 0 (by omega)
  have hp1 : ∀ W, Calls Tryd.prog 13 #[.int .u64 1] W fun e w' => e = .returned (.agg (mkPage 1).cells.toArray) ∧ Fr No W w' := fun W => lawpage_c W 1 (by omega)
  have hp2 : ∀ W, Calls Tryd.prog 13 #[.int .u64 2] W fun e w' => e = .returned (.agg (mkPage 2).cells.toArray) ∧ Fr No W w' := fun W => lawpage_c W 2 (by omega)
  have hp4 : ∀ W, Calls Tryd.prog 13 #[.int .u64 4] W fun e w' => e = .returned (.agg (mkPage 4).cells.toArray) ∧ Fr No W w' := fun W => lawpage_c W 4 (by omega)
  have HNEW := Lib.hid hnew
  have HBAD := Lib.hid hbad
  have HP0 := Lib.hid hp0
  have HP1 := Lib.hid hp1
  have HP2 := Lib.hid hp2
  have HP4 := Lib.hid hp4
  have K0 := Lib.hid (ok22 [[], []] (by decide))
  have K1 := Lib.hid (ok22 [[pg0], []] (by decide))
  have K2 := Lib.hid (ok22 [[pg0], [pg1]] (by decide))
  have K3 := Lib.hid (ok22 [[pg0, pg2], [pg1]] (by decide))
  have K4 := Lib.hid (ok22 [[pg2, pg0], [pg1]] (by decide))
  have K5 := Lib.hid (ok22 [[pg0, pg4], [pg1]] (by decide))
  have E1 := Lib.hid (show TS.put 2 [[], []] (mkPage 0) = [[pg0], []] by decide)
  have E2 := Lib.hid (show TS.put 2 [[pg0], []] (mkPage 1) = [[pg0], [pg1]] by decide)
  have E3 := Lib.hid (show TS.put 2 [[pg0], [pg1]] (mkPage 2) = [[pg0, pg2], [pg1]] by decide)
  have E4 := Lib.hid (show TS.put 2 [[pg0, pg2], [pg1]] (mkPage 0) = [[pg2, pg0], [pg1]] by decide)
  have E5 := Lib.hid (show TS.put 2 [[pg2, pg0], [pg1]] (mkPage 4) = [[pg0, pg4], [pg1]] by decide)
  have G1 := Lib.hid (show TS.get [[pg0, pg4], [pg1]] false 0 0 8192 = none by decide)
  have G2 := Lib.hid (show TS.get [[pg0, pg4], [pg1]] false 9 0 20479 = some pg4 by decide)
  have G3 := Lib.hid (show TS.get [[pg0, pg4], [pg1]] true 0 0 16384 = none by decide)
  have G4 := Lib.hid (show TS.get [[pg0, pg4], [pg1]] false 0 1 16384 = none by decide)
  have F1 := Lib.hid (show TS.drop [[pg0, pg4], [pg1]] (TS.fence false 0 0 0 false true) = [[], []] ∧ TS.went [[pg0, pg4], [pg1]] (TS.fence false 0 0 0 false true) = 3 by decide)
  have K6 := Lib.hid (ok22 [[], [eA]] (by decide))
  have K7 := Lib.hid (ok22 [[eB], [eA]] (by decide))
  have K8 := Lib.hid (ok22 [[eB], []] (by decide))
  have K9 := Lib.hid (ok22 [[eC], []] (by decide))
  have KA := Lib.hid (ok22 [[eC], [eD]] (by decide))
  have KB := Lib.hid (ok22 [[], [eD]] (by decide))
  have E6 := Lib.hid (show TS.put 2 [[], []] eA = [[], [eA]] by decide)
  have E7 := Lib.hid (show TS.put 2 [[], [eA]] eB = [[eB], [eA]] by decide)
  have E8 := Lib.hid (show TS.put 2 [[], []] eC = [[eC], []] by decide)
  have E9 := Lib.hid (show TS.put 2 [[eC], []] eD = [[eC], [eD]] by decide)
  have F2 := Lib.hid (show TS.drop [[eB], [eA]] (TS.fence false 0 5 4194303 true true) = [[eB], []] ∧ TS.went [[eB], [eA]] (TS.fence false 0 5 4194303 true true) = 1 by decide)
  have F3 := Lib.hid (show TS.drop [[eB], []] (TS.fence false 0 0 4194303 true false) = [[], []] ∧ TS.went [[eB], []] (TS.fence false 0 0 4194303 true false) = 1 by decide)
  have F4 := Lib.hid (show TS.drop [[eC], [eD]] (TS.fenceG 3 true) = [[], [eD]] ∧ TS.went [[eC], [eD]] (TS.fenceG 3 true) = 1 by decide)
  have F5 := Lib.hid (show TS.drop [[], [eD]] (TS.fenceG 3 false) = [[], []] ∧ TS.went [[], [eD]] (TS.fenceG 3 false) = 1 by decide)
  have HT := Lib.hid hT
  obtain ⟨s, hs⟩ : ∃ s, s = w.heap.size := ⟨_, rfl⟩
  have HSS := Lib.hid hs
  have HF0 := Lib.hid (Fr.refl No w)
  clear hT hnew hbad hp0 hp1 hp2 hp4 hs
  go_enter Tryd.func4, Tryd.ntmps4
  go_wp2_with fail
  refine (HBAD.out _ (0) (1) (by unfold goodNew; decide) (HT.out)).mono ?_
  rintro e w1 ⟨rfl, hf⟩
  have HF1 := Lib.hid ((HF0.out).trans hf)
  clear hf
  go_wp2_with fail
  refine (HBAD.out _ (3) (1) (by unfold goodNew; decide) (HT.out.fr HF1.out (fun q => q))).mono ?_
  rintro e w2 ⟨rfl, hf⟩
  have HF2 := Lib.hid ((HF1.out).trans hf)
  clear hf
  go_wp2_with fail
  refine (HBAD.out _ (128) (1) (by unfold goodNew; decide) (HT.out.fr HF2.out (fun q => q))).mono ?_
  rintro e w3 ⟨rfl, hf⟩
  have HF3 := Lib.hid ((HF2.out).trans hf)
  clear hf
  go_wp2_with fail
  refine (HBAD.out _ (1) (0) (by unfold goodNew; decide) (HT.out.fr HF3.out (fun q => q))).mono ?_
  rintro e w4 ⟨rfl, hf⟩
  have HF4 := Lib.hid ((HF3.out).trans hf)
  clear hf
  go_wp2_with fail
  refine (HBAD.out _ (64) (9) (by unfold goodNew; decide) (HT.out.fr HF4.out (fun q => q))).mono ?_
  rintro e w5 ⟨rfl, hf⟩
  have HF5 := Lib.hid ((HF4.out).trans hf)
  clear hf
  clear HF0 HF1 HF2 HF3 HF4
  go_wp2_with fail
  refine (HNEW.out w5 (HT.out.fr HF5.out (fun q => q))).mono ?_
  rintro e w6 ⟨b, rfl, hA6, hf6⟩
  have HA6 := Lib.hid (hA6.mono (F' := fun k => s ≤ k) (fun k h => h.elim (fun h => h.elim) (fun h => by have h1 : w5.heap.size ≤ k := h.1; have := HF5.out.size; have := HSS.out; omega)))
  have HF6 := Lib.hid (HF5.out.trans hf6)
  clear hA6 hf6 HF5
  go_wp2_with fail
  refine (HP0.out _).mono ?_
  rintro e w7 ⟨rfl, hf⟩
  have hA := HA6.out.fr hf (fun _ _ q => q)
  have hF := HF6.out.trans hf
  clear hf
  go_wp2_with fail
  refine (put_c w7 b 2 _ _ (mkPage 0) hA K0.out).mono ?_
  rintro e w8 ⟨rfl, hA2, hf⟩
  rw [E1.out] at hA2
  have HQA := Lib.hid (hA2.mono (F' := fun k => s ≤ k) (fun k h => h.elim (fun h => h) (fun h => Nat.le_trans (by have := hF.size; have := HSS.out; omega) h.1)))
  have HQF := Lib.hid (show Fr No w w8 from hF.andThen hf (fun k hk h => by have h2 : s ≤ k := h; have := HSS.out; omega))
  clear hA2 hf hA hF
  have HA8 := HQA
  have HF8 := HQF
  clear HQA HQF HA6 HF6
  go_wp2_with fail
  refine (HP1.out _).mono ?_
  rintro e w9 ⟨rfl, hf⟩
  have hA := HA8.out.fr hf (fun _ _ q => q)
  have hF := HF8.out.trans hf
  clear hf
  go_wp2_with fail
  refine (put_c w9 b 2 _ _ (mkPage 1) hA K1.out).mono ?_
  rintro e w10 ⟨rfl, hA2, hf⟩
  rw [E2.out] at hA2
  have HQA := Lib.hid (hA2.mono (F' := fun k => s ≤ k) (fun k h => h.elim (fun h => h) (fun h => Nat.le_trans (by have := hF.size; have := HSS.out; omega) h.1)))
  have HQF := Lib.hid (show Fr No w w10 from hF.andThen hf (fun k hk h => by have h2 : s ≤ k := h; have := HSS.out; omega))
  clear hA2 hf hA hF
  have HA10 := HQA
  have HF10 := HQF
  clear HQA HQF HA8 HF8
  go_wp2_with fail
  refine (HP2.out _).mono ?_
  rintro e w11 ⟨rfl, hf⟩
  have hA := HA10.out.fr hf (fun _ _ q => q)
  have hF := HF10.out.trans hf
  clear hf
  go_wp2_with fail
  refine (put_c w11 b 2 _ _ (mkPage 2) hA K2.out).mono ?_
  rintro e w12 ⟨rfl, hA2, hf⟩
  rw [E3.out] at hA2
  have HQA := Lib.hid (hA2.mono (F' := fun k => s ≤ k) (fun k h => h.elim (fun h => h) (fun h => Nat.le_trans (by have := hF.size; have := HSS.out; omega) h.1)))
  have HQF := Lib.hid (show Fr No w w12 from hF.andThen hf (fun k hk h => by have h2 : s ≤ k := h; have := HSS.out; omega))
  clear hA2 hf hA hF
  have HA12 := HQA
  have HF12 := HQF
  clear HQA HQF HA10 HF10
  go_wp2_with fail
  refine (entries_c w12 b 2 _ _ HA12.out K3.out).mono ?_
  rintro r w13 ⟨va, rfl, hra, hf13⟩
  obtain ⟨ga, ca, cura, hva, hga, hBa, _, _, _, hcs⟩ := hra.at_ (by decide)
  have hln : ([[pg0, pg2], [pg1]] : TS).flatten.length = 3 := rfl
  rw [hln] at hva
  have hsg : ∀ (i : Nat) (hi : i < ([[pg0, pg2], [pg1]] : TS).flatten.length), Seg w13 ga (i * 11) (([[pg0, pg2], [pg1]] : TS).flatten[i]).cells := fun i hi => by
    have hra' := hra
    rw [hva] at hra'
    have := hra'.own.elem hi
    rw [Nat.zero_add] at this
    exact this
  have q0 : Seg w13 ga 0 pg0.cells := hsg 0 (by decide)
  have q1 : Seg w13 ga 11 pg2.cells := hsg 1 (by decide)
  have q2 : Seg w13 ga 22 pg1.cells := hsg 2 (by decide)
  subst hva
  have HA13 := Lib.hid (HA12.out.fr hf13 (fun _ _ q => q))
  have HF13 := Lib.hid (HF12.out.trans hf13)
  have heq0 : ∀ W, (binOp .neq 25 (.agg pg0.cells.toArray) (.agg (mkPage 0).cells.toArray)).run Tryd.prog W = .ok (.bool false) W := fun W => (te_eq_run (mkPage 0) (mkPage 0) W).2.trans (by rw [decide_eq_true rfl]; rfl)
  have heq1 : ∀ W, (binOp .neq 25 (.agg pg1.cells.toArray) (.agg (mkPage 1).cells.toArray)).run Tryd.prog W = .ok (.bool false) W := fun W => (te_eq_run (mkPage 1) (mkPage 1) W).2.trans (by rw [decide_eq_true rfl]; rfl)
  have heq2 : ∀ W, (binOp .neq 25 (.agg pg2.cells.toArray) (.agg (mkPage 2).cells.toArray)).run Tryd.prog W = .ok (.bool false) W := fun W => (te_eq_run (mkPage 2) (mkPage 2) W).2.trans (by rw [decide_eq_true rfl]; rfl)
  clear hra hga hBa hcs hln hsg hf13 HA12 HF12
  go_upto_region 13 with fail
  refine wp_region_held_drew (S := fun W => Seg W ga 0 pg0.cells ∧ Seg W ga 11 pg2.cells ∧ Seg W ga 22 pg1.cells) (by kernel_rfl) ⟨q0, q1, q2⟩ (fun hHeld => ?_)
  clear q0 q1 q2
  refine' tkG (i := 0) (v := _) rfl (by kernel_rfl) (by kernel_rfl) (by kernel_rfl) (fun _ _ _ h => h) (by rfl) ?hy12 (by assumption) ?rest12
  case hy12 => (intro wq hSq; (try dsimp only at hSq); go_simp; try with_reducible rfl)
  simp only [Act.put, List.setIfInBounds_toArray, List.set_cons_zero, List.set_cons_succ]
  refine' tkG (i := 1) (v := _) rfl (by kernel_rfl) (by kernel_rfl) (by kernel_rfl) (fun _ _ _ h => h) (by rfl) ?hy13 (by assumption) ?rest13
  case hy13 => (intro wq hSq; (try dsimp only at hSq); go_simp; try with_reducible rfl)
  simp only [Act.put, List.setIfInBounds_toArray, List.set_cons_zero, List.set_cons_succ]
  refine' tkG (i := 2) (v := _) rfl (by kernel_rfl) (by kernel_rfl) (by kernel_rfl) (fun _ _ _ h => h) (by rfl) ?hy14 (by assumption) ?rest14
  case hy14 => (intro wq hSq; (try dsimp only at hSq); go_simp; try with_reducible rfl)
  simp only [Act.put, List.setIfInBounds_toArray, List.set_cons_zero, List.set_cons_succ]
  refine' tkG (i := 3) (v := _) rfl (by kernel_rfl) (by kernel_rfl) (by kernel_rfl) (fun _ _ _ h => h) (by rfl) ?hy15 (by assumption) ?rest15
  case hy15 => (intro wq hSq; (try dsimp only at hSq); go_simp; try with_reducible rfl)
  simp only [Act.put, List.setIfInBounds_toArray, List.set_cons_zero, List.set_cons_succ]
  refine' tkG (i := 4) (v := _) rfl (by kernel_rfl) (by kernel_rfl) (by kernel_rfl) (fun _ _ _ h => h) (by rfl) ?hy16 (by assumption) ?rest16
  case hy16 => (intro wq hSq; (try dsimp only at hSq); go_simp; try with_reducible rfl)
  simp only [Act.put, List.setIfInBounds_toArray, List.set_cons_zero, List.set_cons_succ]
  refine' tkG (i := 5) (v := _) rfl (by kernel_rfl) (by kernel_rfl) (by kernel_rfl) (fun _ _ _ h => h) (by rfl) ?hy17 (by assumption) ?rest17
  case hy17 => (intro wq hSq; (try dsimp only at hSq); go_simp; try with_reducible rfl)
  simp only [Act.put, List.setIfInBounds_toArray, List.set_cons_zero, List.set_cons_succ]
  refine' tkG (i := 6) (v := _) rfl (by kernel_rfl) (by kernel_rfl) (by kernel_rfl) (fun _ _ _ h => h) (by rfl) ?hy18 (by assumption) ?rest18
  case hy18 => (intro wq hSq; refine exec_load_seg 25 (.tmp 91) ?_ ga (0) ?_ _ (hSq.1) _ Tryd.underlying25 rfl infoE <;> rfl)
  simp only [Act.put, List.setIfInBounds_toArray, List.set_cons_zero, List.set_cons_succ]
  refine wpAnyH_ready (rs := [7]) (by kernel_rfl) (by simp) ?_
  refine AllReadyH.cons rfl (fun K hK => ?_) AllReadyH.nil
  go_simp
  refine (HP0.out _).mono ?_
  rintro e w14 ⟨rfl, hfp⟩
  have HX14 := Lib.hid (((Fr.refl No w13).drew).trans hfp)
  have hS := (⟨hHeld.1.fr hfp (fun q => q), hHeld.2.1.fr hfp (fun q => q), hHeld.2.2.fr hfp (fun q => q)⟩ : Seg w14 ga 0 pg0.cells ∧ Seg w14 ga 11 pg2.cells ∧ Seg w14 ga 22 pg1.cells)
  clear hfp hHeld
  go_simp
  refine hK.out _ _ hS (fun hHeld => ?_)
  clear hK K hS
  try simp only [List.setIfInBounds_toArray, List.set_cons_zero, List.set_cons_succ]
  refine' tkG (i := 8) (v := _) rfl (by kernel_rfl) (by kernel_rfl) (by kernel_rfl) (fun _ _ _ h => h) (by rfl) ?hy20 (by assumption) ?rest20
  case hy20 => (intro wq hSq; (try dsimp only at hSq); go_simp; try with_reducible rfl)
  simp only [Act.put, List.setIfInBounds_toArray, List.set_cons_zero, List.set_cons_succ]
  refine' tkG (i := 9) (v := _) rfl (by kernel_rfl) (by kernel_rfl) (by kernel_rfl) (fun _ _ _ h => h) (by rfl) ?hy21 (by assumption) ?rest21
  case hy21 => (intro wq hSq; (try dsimp only at hSq); go_simp; try with_reducible rfl)
  simp only [Act.put, List.setIfInBounds_toArray, List.set_cons_zero, List.set_cons_succ]
  refine' tkG (i := 10) (v := _) rfl (by kernel_rfl) (by kernel_rfl) (by kernel_rfl) (fun _ _ _ h => h) (by rfl) ?hy22 (by assumption) ?rest22
  case hy22 => (intro wq hSq; (try dsimp only at hSq); go_simp; try with_reducible rfl)
  simp only [Act.put, List.setIfInBounds_toArray, List.set_cons_zero, List.set_cons_succ]
  refine' tkG (i := 11) (v := _) rfl (by kernel_rfl) (by kernel_rfl) (by kernel_rfl) (fun _ _ _ h => h) (by rfl) ?hy23 (by assumption) ?rest23
  case hy23 => (intro wq hSq; (try dsimp only at hSq); go_simp; try with_reducible rfl)
  simp only [Act.put, List.setIfInBounds_toArray, List.set_cons_zero, List.set_cons_succ]
  refine' tkG (i := 12) (v := _) rfl (by kernel_rfl) (by kernel_rfl) (by kernel_rfl) (fun _ _ _ h => h) (by rfl) ?hy24 (by assumption) ?rest24
  case hy24 => (intro wq hSq; (try dsimp only at hSq); go_simp; try with_reducible rfl)
  simp only [Act.put, List.setIfInBounds_toArray, List.set_cons_zero, List.set_cons_succ]
  refine' tkG (i := 13) (v := _) rfl (by kernel_rfl) (by kernel_rfl) (by kernel_rfl) (fun _ _ _ h => h) (by rfl) ?hy25 (by assumption) ?rest25
  case hy25 => (intro wq hSq; refine exec_load_seg 25 (.tmp 98) ?_ ga (11) ?_ _ (hSq.2.1) _ Tryd.underlying25 rfl infoE <;> rfl)
  simp only [Act.put, List.setIfInBounds_toArray, List.set_cons_zero, List.set_cons_succ]
  refine wpAnyH_ready (rs := [14]) (by kernel_rfl) (by simp) ?_
  refine AllReadyH.cons rfl (fun K hK => ?_) AllReadyH.nil
  go_simp
  refine (HP2.out _).mono ?_
  rintro e w15 ⟨rfl, hfp⟩
  have HX15 := Lib.hid (HX14.out.trans hfp)
  have hS := (⟨hHeld.1.fr hfp (fun q => q), hHeld.2.1.fr hfp (fun q => q), hHeld.2.2.fr hfp (fun q => q)⟩ : Seg w15 ga 0 pg0.cells ∧ Seg w15 ga 11 pg2.cells ∧ Seg w15 ga 22 pg1.cells)
  clear hfp hHeld
  go_simp
  refine hK.out _ _ hS (fun hHeld => ?_)
  clear hK K hS
  try simp only [List.setIfInBounds_toArray, List.set_cons_zero, List.set_cons_succ]
  refine' tkG (i := 15) (v := _) rfl (by kernel_rfl) (by kernel_rfl) (by kernel_rfl) (fun _ _ _ h => h) (by rfl) ?hy27 (by assumption) ?rest27
  case hy27 => (intro wq hSq; (try dsimp only at hSq); go_simp; try with_reducible rfl)
  simp only [Act.put, List.setIfInBounds_toArray, List.set_cons_zero, List.set_cons_succ]
  refine' tkG (i := 16) (v := _) rfl (by kernel_rfl) (by kernel_rfl) (by kernel_rfl) (fun _ _ _ h => h) (by rfl) ?hy28 (by assumption) ?rest28
  case hy28 => (intro wq hSq; (try dsimp only at hSq); go_simp; try with_reducible rfl)
  simp only [Act.put, List.setIfInBounds_toArray, List.set_cons_zero, List.set_cons_succ]
  refine' tkG (i := 17) (v := _) rfl (by kernel_rfl) (by kernel_rfl) (by kernel_rfl) (fun _ _ _ h => h) (by rfl) ?hy29 (by assumption) ?rest29
  case hy29 => (intro wq hSq; (try dsimp only at hSq); go_simp; try with_reducible rfl)
  simp only [Act.put, List.setIfInBounds_toArray, List.set_cons_zero, List.set_cons_succ]
  refine' tkG (i := 18) (v := _) rfl (by kernel_rfl) (by kernel_rfl) (by kernel_rfl) (fun _ _ _ h => h) (by rfl) ?hy30 (by assumption) ?rest30
  case hy30 => (intro wq hSq; (try dsimp only at hSq); go_simp; try with_reducible rfl)
  simp only [Act.put, List.setIfInBounds_toArray, List.set_cons_zero, List.set_cons_succ]
  refine' tkG (i := 19) (v := _) rfl (by kernel_rfl) (by kernel_rfl) (by kernel_rfl) (fun _ _ _ h => h) (by rfl) ?hy31 (by assumption) ?rest31
  case hy31 => (intro wq hSq; (try dsimp only at hSq); go_simp; try with_reducible rfl)
  simp only [Act.put, List.setIfInBounds_toArray, List.set_cons_zero, List.set_cons_succ]
  refine' tkG (i := 20) (v := _) rfl (by kernel_rfl) (by kernel_rfl) (by kernel_rfl) (fun _ _ _ h => h) (by rfl) ?hy32 (by assumption) ?rest32
  case hy32 => (intro wq hSq; refine exec_load_seg 25 (.tmp 105) ?_ ga (22) ?_ _ (hSq.2.2) _ Tryd.underlying25 rfl infoE <;> rfl)
  simp only [Act.put, List.setIfInBounds_toArray, List.set_cons_zero, List.set_cons_succ]
  refine wpAnyH_ready (rs := [21]) (by kernel_rfl) (by simp) ?_
  refine AllReadyH.cons rfl (fun K hK => ?_) AllReadyH.nil
  go_simp
  refine (HP1.out _).mono ?_
  rintro e w16 ⟨rfl, hfp⟩
  have HX16 := Lib.hid (HX15.out.trans hfp)
  have hS := (⟨hHeld.1.fr hfp (fun q => q), hHeld.2.1.fr hfp (fun q => q), hHeld.2.2.fr hfp (fun q => q)⟩ : Seg w16 ga 0 pg0.cells ∧ Seg w16 ga 11 pg2.cells ∧ Seg w16 ga 22 pg1.cells)
  clear hfp hHeld
  go_simp
  refine hK.out _ _ hS (fun hHeld => ?_)
  clear hK K hS
  try simp only [List.setIfInBounds_toArray, List.set_cons_zero, List.set_cons_succ]
  refine' tkG (i := 22) (v := _) rfl (by kernel_rfl) (by kernel_rfl) (by kernel_rfl) (fun _ _ _ h => h) (by rfl) ?hy34 (by assumption) ?rest34
  case hy34 => (intro wq hSq; (try dsimp only at hSq); go_simp; try with_reducible rfl)
  simp only [Act.put, List.setIfInBounds_toArray, List.set_cons_zero, List.set_cons_succ]
  refine' tkG (i := 23) (v := _) rfl (by kernel_rfl) (by kernel_rfl) (by kernel_rfl) (fun _ _ _ h => h) (by rfl) ?hy35 (by assumption) ?rest35
  case hy35 => (intro wq hSq; (try dsimp only at hSq); go_simp; try with_reducible rfl)
  simp only [Act.put, List.setIfInBounds_toArray, List.set_cons_zero, List.set_cons_succ]
  refine wpAnyH_done (by kernel_rfl) ?_ _
  have HA16 := Lib.hid (HA13.out.fr HX16.out (fun _ _ q => q))
  have HF16 := Lib.hid (HF13.out.trans HX16.out)
  clear hHeld HX14 HX15 HX16 HA13 HF13 heq0 heq1 heq2
  go_wp2_with fail
  refine (HP0.out _).mono ?_
  rintro e w17 ⟨rfl, hf⟩
  have hA := HA16.out.fr hf (fun _ _ q => q)
  have hF := HF16.out.trans hf
  clear hf
  go_wp2_with fail
  refine (put_c w17 b 2 _ _ (mkPage 0) hA K3.out).mono ?_
  rintro e w18 ⟨rfl, hA2, hf⟩
  rw [E4.out] at hA2
  have HQA := Lib.hid (hA2.mono (F' := fun k => s ≤ k) (fun k h => h.elim (fun h => h) (fun h => Nat.le_trans (by have := hF.size; have := HSS.out; omega) h.1)))
  have HQF := Lib.hid (show Fr No w w18 from hF.andThen hf (fun k hk h => by have h2 : s ≤ k := h; have := HSS.out; omega))
  clear hA2 hf hA hF
  have HA18 := HQA
  have HF18 := HQF
  clear HQA HQF HA16 HF16
  go_wp2_with fail
  refine (HP4.out _).mono ?_
  rintro e w19 ⟨rfl, hf⟩
  have hA := HA18.out.fr hf (fun _ _ q => q)
  have hF := HF18.out.trans hf
  clear hf
  go_wp2_with fail
  refine (put_c w19 b 2 _ _ (mkPage 4) hA K4.out).mono ?_
  rintro e w20 ⟨rfl, hA2, hf⟩
  rw [E5.out] at hA2
  have HQA := Lib.hid (hA2.mono (F' := fun k => s ≤ k) (fun k h => h.elim (fun h => h) (fun h => Nat.le_trans (by have := hF.size; have := HSS.out; omega) h.1)))
  have HQF := Lib.hid (show Fr No w w20 from hF.andThen hf (fun k hk h => by have h2 : s ≤ k := h; have := HSS.out; omega))
  clear hA2 hf hA hF
  have HF20 := HQF
  obtain ⟨s2, hs2⟩ : ∃ s2, s2 = w20.heap.size := ⟨_, rfl⟩
  have HA20 := Lib.hid (show TAt w20 b 2 [[pg0, pg4], [pg1]] (fun k => s ≤ k ∧ k < s2) from by rw [hs2]; exact HQA.out.cut)
  have HS2 := Lib.hid hs2
  clear HQA HQF HA18 HF18
  have HAc := HA20
  have HFc := HF20
  have HZc := Lib.hid (Nat.le_of_eq hs2)
  clear HA20 HF20 hs2
  go_wp2_with fail
  have hq : Calls Tryd.prog 10 #[.pointer (some ⟨b, 0, none⟩), .bool false, .int .u64 0, .int .u64 0, .int .u64 8192] w20 fun r w' => r = .returned (getRes (TS.get [[pg0, pg4], [pg1]] false 0 0 8192)) ∧ Below w20.heap.size w20 w' := get_c w20 b 2 _ _ false 0 0 8192 HAc.out K5.out
  rw [G1.out] at hq
  have hres : getRes (none) = .tuple #[.agg #[.bool false, .int .u64 0, .int .u64 0, .bool false, .int .u64 0, .int .u64 0, .int .u64 0, .int .i64 0, .int .i64 0, .int .u64 0, .int .u64 0], .bool false] := rfl
  rw [hres] at hq
  refine hq.mono ?_
  rintro e w21 ⟨rfl, hb⟩
  go_upto_region 18 with fail
  obtain ⟨Xw21, hX⟩ : ∃ X, X = w21.alloc (.cells #[.bool false, .int .u64 0, .int .u64 0, .bool false, .int .u64 0, .int .u64 0, .int .u64 0, .int .i64 0, .int .i64 0, .int .u64 0, .int .u64 0] 25) := ⟨_, rfl⟩
  rw [← hX]
  have hfx : Fr No w20 Xw21 := by rw [hX]; exact (Fr.of_below hb No).alloc _
  have hbx : Blk Xw21 w21.heap.size 25 #[.bool false, .int .u64 0, .int .u64 0, .bool false, .int .u64 0, .int .u64 0, .int .u64 0, .int .i64 0, .int .i64 0, .int .u64 0, .int .u64 0] := by rw [hX]; exact Blk.new _ _ _
  have hsx : s2 ≤ w21.heap.size := by have := hb.size; have := HZc.out; omega
  have HZd := Lib.hid (show s2 ≤ Xw21.heap.size by have := hfx.size; have := HZc.out; omega)
  have HAd := Lib.hid (HAc.out.fr hfx (fun _ _ q => q))
  have HFd := Lib.hid (HFc.out.trans hfx)
  have HFXw21 := Lib.hid hfx
  clear hq hres hb hX hfx HAc HFc HZc
  have HAc := HAd
  have HFc := HFd
  have HZc := HZd
  clear HAd HFd HZd
  clear hbx hsx
  go_wp2_with fail
  have hq : Calls Tryd.prog 10 #[.pointer (some ⟨b, 0, none⟩), .bool false, .int .u64 9, .int .u64 0, .int .u64 20479] Xw21 fun r w' => r = .returned (getRes (TS.get [[pg0, pg4], [pg1]] false 9 0 20479)) ∧ Below Xw21.heap.size Xw21 w' := get_c Xw21 b 2 _ _ false 9 0 20479 HAc.out K5.out
  rw [G2.out] at hq
  have hres : getRes (some pg4) = .tuple #[.agg #[.bool false, .int .u64 0, .int .u64 0, .bool false, .int .u64 16384, .int .u64 0, .int .u64 4096, .int .i64 0, .int .i64 0, .int .u64 0, .int .u64 0], .bool true] := rfl
  rw [hres] at hq
  refine hq.mono ?_
  rintro e w22 ⟨rfl, hb⟩
  go_upto_region 19 with fail
  obtain ⟨Xw22, hX⟩ : ∃ X, X = w22.alloc (.cells #[.bool false, .int .u64 0, .int .u64 0, .bool false, .int .u64 16384, .int .u64 0, .int .u64 4096, .int .i64 0, .int .i64 0, .int .u64 0, .int .u64 0] 25) := ⟨_, rfl⟩
  rw [← hX]
  have hfx : Fr No Xw21 Xw22 := by rw [hX]; exact (Fr.of_below hb No).alloc _
  have hbx : Blk Xw22 w22.heap.size 25 #[.bool false, .int .u64 0, .int .u64 0, .bool false, .int .u64 16384, .int .u64 0, .int .u64 4096, .int .i64 0, .int .i64 0, .int .u64 0, .int .u64 0] := by rw [hX]; exact Blk.new _ _ _
  have hsx : s2 ≤ w22.heap.size := by have := hb.size; have := HZc.out; omega
  have HZd := Lib.hid (show s2 ≤ Xw22.heap.size by have := hfx.size; have := HZc.out; omega)
  have HAd := Lib.hid (HAc.out.fr hfx (fun _ _ q => q))
  have HFd := Lib.hid (HFc.out.trans hfx)
  have HFXw22 := Lib.hid hfx
  clear hq hres hb hX hfx HAc HFc HZc
  have HAc := HAd
  have HFc := HFd
  have HZc := HZd
  clear HAd HFd HZd
  obtain ⟨bx, hbxe⟩ : ∃ bx, bx = w22.heap.size := ⟨_, rfl⟩
  rw [← hbxe] at hbx hsx ⊢
  have HBX := Lib.hid hbx
  have HSX := Lib.hid hsx
  clear hbx hsx hbxe
  go_wp2_with fail
  have hq : Calls Tryd.prog 10 #[.pointer (some ⟨b, 0, none⟩), .bool true, .int .u64 0, .int .u64 0, .int .u64 16384] Xw22 fun r w' => r = .returned (getRes (TS.get [[pg0, pg4], [pg1]] true 0 0 16384)) ∧ Below Xw22.heap.size Xw22 w' := get_c Xw22 b 2 _ _ true 0 0 16384 HAc.out K5.out
  rw [G3.out] at hq
  have hres : getRes (none) = .tuple #[.agg #[.bool false, .int .u64 0, .int .u64 0, .bool false, .int .u64 0, .int .u64 0, .int .u64 0, .int .i64 0, .int .i64 0, .int .u64 0, .int .u64 0], .bool false] := rfl
  rw [hres] at hq
  refine hq.mono ?_
  rintro e w23 ⟨rfl, hb⟩
  go_upto_region 20 with fail
  obtain ⟨Xw23, hX⟩ : ∃ X, X = w23.alloc (.cells #[.bool false, .int .u64 0, .int .u64 0, .bool false, .int .u64 0, .int .u64 0, .int .u64 0, .int .i64 0, .int .i64 0, .int .u64 0, .int .u64 0] 25) := ⟨_, rfl⟩
  rw [← hX]
  have hfx : Fr No Xw22 Xw23 := by rw [hX]; exact (Fr.of_below hb No).alloc _
  have hbx : Blk Xw23 w23.heap.size 25 #[.bool false, .int .u64 0, .int .u64 0, .bool false, .int .u64 0, .int .u64 0, .int .u64 0, .int .i64 0, .int .i64 0, .int .u64 0, .int .u64 0] := by rw [hX]; exact Blk.new _ _ _
  have hsx : s2 ≤ w23.heap.size := by have := hb.size; have := HZc.out; omega
  have HZd := Lib.hid (show s2 ≤ Xw23.heap.size by have := hfx.size; have := HZc.out; omega)
  have HAd := Lib.hid (HAc.out.fr hfx (fun _ _ q => q))
  have HFd := Lib.hid (HFc.out.trans hfx)
  have HFXw23 := Lib.hid hfx
  clear hq hres hb hX hfx HAc HFc HZc
  have HAc := HAd
  have HFc := HFd
  have HZc := HZd
  clear HAd HFd HZd
  clear hbx hsx
  go_wp2_with fail
  have hq : Calls Tryd.prog 10 #[.pointer (some ⟨b, 0, none⟩), .bool false, .int .u64 0, .int .u64 1, .int .u64 16384] Xw23 fun r w' => r = .returned (getRes (TS.get [[pg0, pg4], [pg1]] false 0 1 16384)) ∧ Below Xw23.heap.size Xw23 w' := get_c Xw23 b 2 _ _ false 0 1 16384 HAc.out K5.out
  rw [G4.out] at hq
  have hres : getRes (none) = .tuple #[.agg #[.bool false, .int .u64 0, .int .u64 0, .bool false, .int .u64 0, .int .u64 0, .int .u64 0, .int .i64 0, .int .i64 0, .int .u64 0, .int .u64 0], .bool false] := rfl
  rw [hres] at hq
  refine hq.mono ?_
  rintro e w24 ⟨rfl, hb⟩
  go_upto_region 21 with fail
  obtain ⟨Xw24, hX⟩ : ∃ X, X = w24.alloc (.cells #[.bool false, .int .u64 0, .int .u64 0, .bool false, .int .u64 0, .int .u64 0, .int .u64 0, .int .i64 0, .int .i64 0, .int .u64 0, .int .u64 0] 25) := ⟨_, rfl⟩
  rw [← hX]
  have hfx : Fr No Xw23 Xw24 := by rw [hX]; exact (Fr.of_below hb No).alloc _
  have hbx : Blk Xw24 w24.heap.size 25 #[.bool false, .int .u64 0, .int .u64 0, .bool false, .int .u64 0, .int .u64 0, .int .u64 0, .int .i64 0, .int .i64 0, .int .u64 0, .int .u64 0] := by rw [hX]; exact Blk.new _ _ _
  have hsx : s2 ≤ w24.heap.size := by have := hb.size; have := HZc.out; omega
  have HZd := Lib.hid (show s2 ≤ Xw24.heap.size by have := hfx.size; have := HZc.out; omega)
  have HAd := Lib.hid (HAc.out.fr hfx (fun _ _ q => q))
  have HFd := Lib.hid (HFc.out.trans hfx)
  have HFXw24 := Lib.hid hfx
  clear hq hres hb hX hfx HAc HFc HZc
  have HAc := HAd
  have HFc := HFd
  have HZc := HZd
  clear HAd HFd HZd
  clear hbx hsx
  have q0 : Seg Xw24 bx 0 pg4.cells := ⟨_, _, (HBX.out.fr HFXw23.out (fun q => q)).fr HFXw24.out (fun q => q), fun j u hu => by rw [Nat.zero_add]; show (pg4.cells.toArray)[j]? = some u; rw [List.getElem?_toArray]; exact hu⟩
  have HBS := Lib.hid (show s2 ≤ bx from HSX.out)
  have heq4 : ∀ W, (binOp .neq 25 (.agg pg4.cells.toArray) (.agg (mkPage 4).cells.toArray)).run Tryd.prog W = .ok (.bool false) W := fun W => (te_eq_run (mkPage 4) (mkPage 4) W).2.trans (by rw [decide_eq_true rfl]; rfl)
  clear HBX HSX HFXw21 HFXw22 HFXw23 HFXw24
  refine wp_region_held_drew (S := fun W => Seg W bx 0 pg4.cells) (by kernel_rfl) q0 (fun hHeld => ?_)
  clear q0
  refine' tkG (i := 0) (v := _) rfl (by kernel_rfl) (by kernel_rfl) (by kernel_rfl) (fun _ _ _ h => h) (by rfl) ?hy44 (by assumption) ?rest44
  case hy44 => (intro wq hSq; (try dsimp only at hSq); go_simp; try with_reducible rfl)
  simp only [Act.put, List.setIfInBounds_toArray, List.set_cons_zero, List.set_cons_succ]
  refine' tkG (i := 1) (v := _) rfl (by kernel_rfl) (by kernel_rfl) (by kernel_rfl) (fun _ _ _ h => h) (by rfl) ?hy45 (by assumption) ?rest45
  case hy45 => (intro wq hSq; (try dsimp only at hSq); go_simp; try with_reducible rfl)
  simp only [Act.put, List.setIfInBounds_toArray, List.set_cons_zero, List.set_cons_succ]
  refine' tkG (i := 2) (v := _) rfl (by kernel_rfl) (by kernel_rfl) (by kernel_rfl) (fun _ _ _ h => h) (by rfl) ?hy46 (by assumption) ?rest46
  case hy46 => (intro wq hSq; (try dsimp only at hSq); go_simp; try with_reducible rfl)
  simp only [Act.put, List.setIfInBounds_toArray, List.set_cons_zero, List.set_cons_succ]
  refine' tkG (i := 3) (v := _) rfl (by kernel_rfl) (by kernel_rfl) (by kernel_rfl) (fun _ _ _ h => h) (by rfl) ?hy47 (by assumption) ?rest47
  case hy47 => (intro wq hSq; (try dsimp only at hSq); go_simp; try with_reducible rfl)
  simp only [Act.put, List.setIfInBounds_toArray, List.set_cons_zero, List.set_cons_succ]
  refine' tkG (i := 4) (v := _) rfl (by kernel_rfl) (by kernel_rfl) (by kernel_rfl) (fun _ _ _ h => h) (by rfl) ?hy48 (by assumption) ?rest48
  case hy48 => (intro wq hSq; (try dsimp only at hSq); go_simp; try with_reducible rfl)
  simp only [Act.put, List.setIfInBounds_toArray, List.set_cons_zero, List.set_cons_succ]
  refine' tkG (i := 5) (v := _) rfl (by kernel_rfl) (by kernel_rfl) (by kernel_rfl) (fun _ _ _ h => h) (by rfl) ?hy49 (by assumption) ?rest49
  case hy49 => (intro wq hSq; (try dsimp only at hSq); go_simp; try with_reducible rfl)
  simp only [Act.put, List.setIfInBounds_toArray, List.set_cons_zero, List.set_cons_succ]
  refine' tkG (i := 6) (v := _) rfl (by kernel_rfl) (by kernel_rfl) (by kernel_rfl) (fun _ _ _ h => h) (by rfl) ?hy50 (by assumption) ?rest50
  case hy50 => (intro wq hSq; refine exec_load_seg 25 (.tmp 16) ?_ bx (0) ?_ _ (hSq) _ Tryd.underlying25 rfl infoE <;> rfl)
  simp only [Act.put, List.setIfInBounds_toArray, List.set_cons_zero, List.set_cons_succ]
  refine wpAnyH_ready (rs := [7]) (by kernel_rfl) (by simp) ?_
  refine AllReadyH.cons rfl (fun K hK => ?_) AllReadyH.nil
  go_simp
  refine (HP4.out _).mono ?_
  rintro e w25 ⟨rfl, hfp⟩
  have HX25 := Lib.hid (((Fr.refl No Xw24).drew).trans hfp)
  have hS := (hHeld.fr hfp (fun q => q) : Seg w25 bx 0 pg4.cells)
  clear hfp hHeld
  go_simp
  refine hK.out _ _ hS (fun hHeld => ?_)
  clear hK K hS
  try simp only [List.setIfInBounds_toArray, List.set_cons_zero, List.set_cons_succ]
  refine' tkG (i := 8) (v := _) rfl (by kernel_rfl) (by kernel_rfl) (by kernel_rfl) (fun _ _ _ h => h) (by rfl) ?hy52 (by assumption) ?rest52
  case hy52 => (intro wq hSq; (try dsimp only at hSq); go_simp; try with_reducible rfl)
  simp only [Act.put, List.setIfInBounds_toArray, List.set_cons_zero, List.set_cons_succ]
  refine' tkG (i := 9) (v := _) rfl (by kernel_rfl) (by kernel_rfl) (by kernel_rfl) (fun _ _ _ h => h) (by rfl) ?hy53 (by assumption) ?rest53
  case hy53 => (intro wq hSq; (try dsimp only at hSq); go_simp; try with_reducible rfl)
  simp only [Act.put, List.setIfInBounds_toArray, List.set_cons_zero, List.set_cons_succ]
  refine' tkG (i := 10) (v := _) rfl (by kernel_rfl) (by kernel_rfl) (by kernel_rfl) (fun _ _ _ h => h) (by rfl) ?hy54 (by assumption) ?rest54
  case hy54 => (intro wq hSq; (try dsimp only at hSq); go_simp; try with_reducible rfl)
  simp only [Act.put, List.setIfInBounds_toArray, List.set_cons_zero, List.set_cons_succ]
  refine' tkG (i := 11) (v := _) rfl (by kernel_rfl) (by kernel_rfl) (by kernel_rfl) (fun _ _ _ h => h) (by rfl) ?hy55 (by assumption) ?rest55
  case hy55 => (intro wq hSq; (try dsimp only at hSq); go_simp; try with_reducible rfl)
  simp only [Act.put, List.setIfInBounds_toArray, List.set_cons_zero, List.set_cons_succ]
  refine' tkG (i := 12) (v := _) rfl (by kernel_rfl) (by kernel_rfl) (by kernel_rfl) (fun _ _ _ h => h) (by rfl) ?hy56 (by assumption) ?rest56
  case hy56 => (intro wq hSq; (try dsimp only at hSq); go_simp; try with_reducible rfl)
  simp only [Act.put, List.setIfInBounds_toArray, List.set_cons_zero, List.set_cons_succ]
  refine' tkG (i := 13) (v := _) rfl (by kernel_rfl) (by kernel_rfl) (by kernel_rfl) (fun _ _ _ h => h) (by rfl) ?hy57 (by assumption) ?rest57
  case hy57 => (intro wq hSq; (try dsimp only at hSq); go_simp; try with_reducible rfl)
  simp only [Act.put, List.setIfInBounds_toArray, List.set_cons_zero, List.set_cons_succ]
  refine' tkG (i := 14) (v := _) rfl (by kernel_rfl) (by kernel_rfl) (by kernel_rfl) (fun _ _ _ h => h) (by rfl) ?hy58 (by assumption) ?rest58
  case hy58 => (intro wq hSq; (try dsimp only at hSq); go_simp; try with_reducible rfl)
  simp only [Act.put, List.setIfInBounds_toArray, List.set_cons_zero, List.set_cons_succ]
  refine' tkG (i := 15) (v := _) rfl (by kernel_rfl) (by kernel_rfl) (by kernel_rfl) (fun _ _ _ h => h) (by rfl) ?hy59 (by assumption) ?rest59
  case hy59 => (intro wq hSq; (try dsimp only at hSq); go_simp; try with_reducible rfl)
  simp only [Act.put, List.setIfInBounds_toArray, List.set_cons_zero, List.set_cons_succ]
  refine' tkG (i := 16) (v := _) rfl (by kernel_rfl) (by kernel_rfl) (by kernel_rfl) (fun _ _ _ h => h) (by rfl) ?hy60 (by assumption) ?rest60
  case hy60 => (intro wq hSq; (try dsimp only at hSq); go_simp; try with_reducible rfl)
  simp only [Act.put, List.setIfInBounds_toArray, List.set_cons_zero, List.set_cons_succ]
  refine' tkG (i := 17) (v := _) rfl (by kernel_rfl) (by kernel_rfl) (by kernel_rfl) (fun _ _ _ h => h) (by rfl) ?hy61 (by assumption) ?rest61
  case hy61 => (intro wq hSq; (try dsimp only at hSq); go_simp; try with_reducible rfl)
  simp only [Act.put, List.setIfInBounds_toArray, List.set_cons_zero, List.set_cons_succ]
  refine wpAnyH_ready (rs := [18]) (by kernel_rfl) (by simp) ?_
  refine AllReadyH.cons rfl (fun K hK => ?_) AllReadyH.nil
  go_simp
  have hA25 := HAc.out.fr HX25.out (fun _ _ q => q)
  have hq : Calls Tryd.prog 14 #[.pointer (some ⟨b, 0, none⟩), .bool false, .int .u64 0, .int .u64 0, .int .u64 0, .bool false, .bool true] w25 fun r w' => r = .returned (.int .i64 ((TS.went [[pg0, pg4], [pg1]] (TS.fence false 0 0 0 false true) : Nat) : Int)) ∧ TAt w' b 2 (TS.drop [[pg0, pg4], [pg1]] (TS.fence false 0 0 0 false true)) (fun k => s ≤ k ∧ k < s2) ∧ Fr (fun k => s ≤ k ∧ k < s2) w25 w' := fence_c w25 b 2 _ _ false 0 0 0 false true hA25 K5.out
  rw [F1.out.1, F1.out.2] at hq
  refine hq.mono ?_
  rintro e w26 ⟨rfl, hA26, hf26⟩
  have hS := hHeld.fr hf26 (fun q => by have q2 : bx < s2 := q.2; have := HBS.out; omega)
  have HE26 := Lib.hid (entries_c w26 b 2 _ _ hA26 K0.out)
  have HA26 := Lib.hid (hA26.mono (F' := fun k => s ≤ k) (fun k h => h.1))
  have HF26 := Lib.hid (show Fr No w w26 from (HFc.out.trans HX25.out).andThen hf26 (fun k hk h => by have h2 : s ≤ k := h.1; have := HSS.out; omega))
  clear hq hA25 hA26 hf26 hHeld HAc HFc HZc HX25
  go_simp
  refine hK.out _ _ hS (fun hHeld => ?_)
  clear hK K hS
  try simp only [List.setIfInBounds_toArray, List.set_cons_zero, List.set_cons_succ]
  refine' tkG (i := 19) (v := _) rfl (by kernel_rfl) (by kernel_rfl) (by kernel_rfl) (fun _ _ _ h => h) (by rfl) ?hy62 (by assumption) ?rest62
  case hy62 => (intro wq hSq; (try dsimp only at hSq); go_simp; try with_reducible rfl)
  simp only [Act.put, List.setIfInBounds_toArray, List.set_cons_zero, List.set_cons_succ]
  refine' tkG (i := 20) (v := _) rfl (by kernel_rfl) (by kernel_rfl) (by kernel_rfl) (fun _ _ _ h => h) (by rfl) ?hy63 (by assumption) ?rest63
  case hy63 => (intro wq hSq; (try dsimp only at hSq); go_simp; try with_reducible rfl)
  simp only [Act.put, List.setIfInBounds_toArray, List.set_cons_zero, List.set_cons_succ]
  refine' tkG (i := 21) (v := _) rfl (by kernel_rfl) (by kernel_rfl) (by kernel_rfl) (fun _ _ _ h => h) (by rfl) ?hy64 (by assumption) ?rest64
  case hy64 => (intro wq hSq; (try dsimp only at hSq); go_simp; try with_reducible rfl)
  simp only [Act.put, List.setIfInBounds_toArray, List.set_cons_zero, List.set_cons_succ]
  refine' tkG (i := 22) (v := _) rfl (by kernel_rfl) (by kernel_rfl) (by kernel_rfl) (fun _ _ _ h => h) (by rfl) ?hy65 (by assumption) ?rest65
  case hy65 => (intro wq hSq; (try dsimp only at hSq); go_simp; try with_reducible rfl)
  simp only [Act.put, List.setIfInBounds_toArray, List.set_cons_zero, List.set_cons_succ]
  refine wpAnyH_ready (rs := [23]) (by kernel_rfl) (by simp) ?_
  refine AllReadyH.cons rfl (fun K hK => ?_) AllReadyH.nil
  go_simp
  refine HE26.out.mono ?_
  rintro e w27 ⟨ve, rfl, hre, hfe⟩
  obtain ⟨ae, ce, rfl, _, _⟩ := hre.len
  have hln : ([[], []] : TS).flatten.length = 0 := rfl
  rw [hln]
  have hS := hHeld.fr hfe (fun q => q)
  have HAc := Lib.hid (HA26.out.fr hfe (fun _ _ q => q))
  have HFc := Lib.hid (HF26.out.trans hfe)
  clear hre hfe hln HE26 HA26 HF26 hHeld
  go_simp
  refine hK.out _ _ hS (fun hHeld => ?_)
  clear hK K hS
  try simp only [List.setIfInBounds_toArray, List.set_cons_zero, List.set_cons_succ]
  refine' tkG (i := 24) (v := _) rfl (by kernel_rfl) (by kernel_rfl) (by kernel_rfl) (fun _ _ _ h => h) (by rfl) ?hy66 (by assumption) ?rest66
  case hy66 => (intro wq hSq; (try dsimp only at hSq); go_simp; try with_reducible rfl)
  simp only [Act.put, List.setIfInBounds_toArray, List.set_cons_zero, List.set_cons_succ]
  refine' tkG (i := 25) (v := _) rfl (by kernel_rfl) (by kernel_rfl) (by kernel_rfl) (fun _ _ _ h => h) (by rfl) ?hy67 (by assumption) ?rest67
  case hy67 => (intro wq hSq; (try dsimp only at hSq); go_simp; try with_reducible rfl)
  simp only [Act.put, List.setIfInBounds_toArray, List.set_cons_zero, List.set_cons_succ]
  refine' tkG (i := 26) (v := _) rfl (by kernel_rfl) (by kernel_rfl) (by kernel_rfl) (fun _ _ _ h => h) (by rfl) ?hy68 (by assumption) ?rest68
  case hy68 => (intro wq hSq; (try dsimp only at hSq); go_simp; try with_reducible rfl)
  simp only [Act.put, List.setIfInBounds_toArray, List.set_cons_zero, List.set_cons_succ]
  refine wpAnyH_done (by kernel_rfl) ?_ _
  clear hHeld heq4
  go_wp2_with fail
  refine (put_c w27 b 2 _ _ (eA) HAc.out K0.out).mono ?_
  rintro e w28 ⟨rfl, hA2, hf⟩
  rw [E6.out] at hA2
  have HAd := Lib.hid (hA2.mono (F' := fun k => s ≤ k) (fun k h => h.elim (fun h => h) (fun h => Nat.le_trans (by have := HFc.out.size; have := HSS.out; omega) h.1)))
  have HFd := Lib.hid (show Fr No w w28 from HFc.out.andThen hf (fun k hk h => by have h2 : s ≤ k := h; have := HSS.out; omega))
  clear hA2 hf HAc HFc
  have HAc := HAd
  have HFc := HFd
  clear HAd HFd
  go_wp2_with fail
  refine (put_c w28 b 2 _ _ (eB) HAc.out K6.out).mono ?_
  rintro e w29 ⟨rfl, hA2, hf⟩
  rw [E7.out] at hA2
  have HAd := Lib.hid (hA2.mono (F' := fun k => s ≤ k) (fun k h => h.elim (fun h => h) (fun h => Nat.le_trans (by have := HFc.out.size; have := HSS.out; omega) h.1)))
  have HFd := Lib.hid (show Fr No w w29 from HFc.out.andThen hf (fun k hk h => by have h2 : s ≤ k := h; have := HSS.out; omega))
  clear hA2 hf HAc HFc
  have HAc := HAd
  have HFc := HFd
  clear HAd HFd
  go_wp2_with fail
  have hq : Calls Tryd.prog 14 #[.pointer (some ⟨b, 0, none⟩), .bool false, .int .u64 0, .int .u64 5, .int .u64 4194303, .bool true, .bool true] w29 fun r w' => r = .returned (.int .i64 ((TS.went ([[eB], [eA]]) (TS.fence false 0 5 4194303 true true) : Nat) : Int)) ∧ TAt w' b 2 (TS.drop ([[eB], [eA]]) (TS.fence false 0 5 4194303 true true)) (fun k => s ≤ k) ∧ Fr (fun k => s ≤ k) w29 w' := fence_c w29 b 2 _ _ false 0 5 4194303 true true HAc.out K7.out
  rw [F2.out.1, F2.out.2] at hq
  refine hq.mono ?_
  rintro e w30 ⟨rfl, hA, hf⟩
  have HAd := Lib.hid hA
  have HFd := Lib.hid (show Fr No w w30 from HFc.out.andThen hf (fun k hk h => by have h2 : s ≤ k := h; have := HSS.out; omega))
  clear hq hA hf HAc HFc
  have HAc := HAd
  have HFc := HFd
  clear HAd HFd
  go_wp2_with fail
  have hq : Calls Tryd.prog 14 #[.pointer (some ⟨b, 0, none⟩), .bool false, .int .u64 0, .int .u64 0, .int .u64 4194303, .bool true, .bool false] w30 fun r w' => r = .returned (.int .i64 ((TS.went ([[eB], []]) (TS.fence false 0 0 4194303 true false) : Nat) : Int)) ∧ TAt w' b 2 (TS.drop ([[eB], []]) (TS.fence false 0 0 4194303 true false)) (fun k => s ≤ k) ∧ Fr (fun k => s ≤ k) w30 w' := fence_c w30 b 2 _ _ false 0 0 4194303 true false HAc.out K8.out
  rw [F3.out.1, F3.out.2] at hq
  refine hq.mono ?_
  rintro e w31 ⟨rfl, hA, hf⟩
  have HAd := Lib.hid hA
  have HFd := Lib.hid (show Fr No w w31 from HFc.out.andThen hf (fun k hk h => by have h2 : s ≤ k := h; have := HSS.out; omega))
  clear hq hA hf HAc HFc
  have HAc := HAd
  have HFc := HFd
  clear HAd HFd
  go_wp2_with fail
  refine (put_c w31 b 2 _ _ (eC) HAc.out K0.out).mono ?_
  rintro e w32 ⟨rfl, hA2, hf⟩
  rw [E8.out] at hA2
  have HAd := Lib.hid (hA2.mono (F' := fun k => s ≤ k) (fun k h => h.elim (fun h => h) (fun h => Nat.le_trans (by have := HFc.out.size; have := HSS.out; omega) h.1)))
  have HFd := Lib.hid (show Fr No w w32 from HFc.out.andThen hf (fun k hk h => by have h2 : s ≤ k := h; have := HSS.out; omega))
  clear hA2 hf HAc HFc
  have HAc := HAd
  have HFc := HFd
  clear HAd HFd
  go_wp2_with fail
  refine (put_c w32 b 2 _ _ (eD) HAc.out K9.out).mono ?_
  rintro e w33 ⟨rfl, hA2, hf⟩
  rw [E9.out] at hA2
  have HAd := Lib.hid (hA2.mono (F' := fun k => s ≤ k) (fun k h => h.elim (fun h => h) (fun h => Nat.le_trans (by have := HFc.out.size; have := HSS.out; omega) h.1)))
  have HFd := Lib.hid (show Fr No w w33 from HFc.out.andThen hf (fun k hk h => by have h2 : s ≤ k := h; have := HSS.out; omega))
  clear hA2 hf HAc HFc
  have HAc := HAd
  have HFc := HFd
  clear HAd HFd
  go_wp2_with fail
  refine (HP1.out w33).mono ?_
  rintro e w34 ⟨rfl, hf34⟩
  go_wp2_with fail
  refine (put_nil w34 (mkPage 1)).mono ?_
  rintro e w35 ⟨rfl, hf35⟩
  have HX35 := Lib.hid (hf34.trans hf35)
  clear hf34 hf35
  go_wp2_with fail
  have hres : getRes none = .tuple #[.agg #[.bool false, .int .u64 0, .int .u64 0, .bool false, .int .u64 0, .int .u64 0, .int .u64 0, .int .i64 0, .int .i64 0, .int .u64 0, .int .u64 0], .bool false] := rfl
  have hq : Calls Tryd.prog 10 #[.pointer none, .bool false, .int .u64 0, .int .u64 0, .int .u64 4096] w35 fun r w' => r = .returned (getRes none) ∧ Fr No w35 w' := get_nil w35 false 0 0 4096
  rw [hres] at hq
  refine hq.mono ?_
  rintro e w36 ⟨rfl, hf36⟩
  clear hq hres
  go_upto_region 32 with fail
  obtain ⟨X36, hX⟩ : ∃ X, X = w36.alloc (.cells #[.bool false, .int .u64 0, .int .u64 0, .bool false, .int .u64 0, .int .u64 0, .int .u64 0, .int .i64 0, .int .i64 0, .int .u64 0, .int .u64 0] 25) := ⟨_, rfl⟩
  rw [← hX]
  have hfx : Fr No w33 X36 := by rw [hX]; exact (HX35.out.trans hf36).alloc _
  have HAd := Lib.hid (HAc.out.fr hfx (fun _ _ q => q))
  have HFd := Lib.hid (HFc.out.trans hfx)
  clear hX hfx hf36 HX35 HAc HFc
  go_wp2_with fail
  refine (awake_c X36 (HT.out.fr HFd.out (fun q => q))).mono ?_
  rintro e w37 ⟨rfl, hf37⟩
  have HAc := Lib.hid (HAd.out.fr hf37 (fun _ _ q => q))
  have HFc := Lib.hid (HFd.out.trans hf37)
  clear HAd HFd hf37
  go_wp2_with fail
  have hq : Calls Tryd.prog 15 #[.pointer (some ⟨b, 0, none⟩), .int .u64 3, .bool true] w37 fun r w' => r = .returned (.int .i64 ((TS.went ([[eC], [eD]]) (TS.fenceG 3 true) : Nat) : Int)) ∧ TAt w' b 2 (TS.drop ([[eC], [eD]]) (TS.fenceG 3 true)) (fun k => s ≤ k) ∧ Fr (fun k => s ≤ k) w37 w' := fenceG_c w37 b 2 _ _ 3 true HAc.out KA.out
  rw [F4.out.1, F4.out.2] at hq
  refine hq.mono ?_
  rintro e w38 ⟨rfl, hA, hf⟩
  have HAd := Lib.hid hA
  have HFd := Lib.hid (show Fr No w w38 from HFc.out.andThen hf (fun k hk h => by have h2 : s ≤ k := h; have := HSS.out; omega))
  clear hq hA hf HAc HFc
  have HAc := HAd
  have HFc := HFd
  clear HAd HFd
  go_wp2_with fail
  have hq : Calls Tryd.prog 15 #[.pointer (some ⟨b, 0, none⟩), .int .u64 3, .bool false] w38 fun r w' => r = .returned (.int .i64 ((TS.went ([[], [eD]]) (TS.fenceG 3 false) : Nat) : Int)) ∧ TAt w' b 2 (TS.drop ([[], [eD]]) (TS.fenceG 3 false)) (fun k => s ≤ k) ∧ Fr (fun k => s ≤ k) w38 w' := fenceG_c w38 b 2 _ _ 3 false HAc.out KB.out
  rw [F5.out.1, F5.out.2] at hq
  refine hq.mono ?_
  rintro e w39 ⟨rfl, hA, hf⟩
  have HAd := Lib.hid hA
  have HFd := Lib.hid (show Fr No w w39 from HFc.out.andThen hf (fun k hk h => by have h2 : s ≤ k := h; have := HSS.out; omega))
  clear hq hA hf HAc HFc
  have HAc := HAd
  have HFc := HFd
  clear HAd HFd
  go_wp2_with fail
  refine (entries_nil w39).mono ?_
  rintro e w40 ⟨rfl, hf40⟩
  go_wp2_with fail
  refine (twin_nil w40).mono ?_
  rintro e w41 ⟨rfl, hf41⟩
  go_wp2_with fail
  refine (clear_nil w41).mono ?_
  rintro e w42 ⟨rfl, hf42⟩
  go_wp2_with fail
  have hq : Calls Tryd.prog 14 #[.pointer none, .bool false, .int .u64 0, .int .u64 0, .int .u64 0, .bool false, .bool false] w42 fun r w' => r = .returned (.int .i64 0) ∧ Fr No w42 w' := fence_nil w42 false 0 0 0 false false
  refine hq.mono ?_
  rintro e w43 ⟨rfl, hf43⟩
  go_wp2_with fail
  have hq2 : Calls Tryd.prog 15 #[.pointer none, .int .u64 0, .bool false] w43 fun r w' => r = .returned (.int .i64 0) ∧ Fr No w43 w' := fenceG_nil w43 0 false
  refine hq2.mono ?_
  rintro e w44 ⟨rfl, hf44⟩
  go_wp2_with fail
  go_ret
  exact ⟨rfl, ((((HFc.out.trans hf40).trans hf41).trans hf42).trans hf43).trans hf44⟩
end Go.Proofs.YtpnabfekidpnoaaDoor

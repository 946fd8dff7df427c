/-
  Two interrupt controllers side by side: an act that moves a line; whatever act.
-/
import Derived.Test.YtcnglhneknbllaaDoorRP7
import Derived.Test.YtcnglhneknbllaaDoorTake
namespace Go.Proofs.YtcnglhneknbllaaDoor
open Go Go.RowKit PS

set_option maxRecDepth 100000 in
set_option maxHeartbeats 4000000 in
/-- An act that moves a line. -/
theorem both_level (w : World) (b r : Nat) (s : PS) (off : Nat) (n : Int) (v : Nat) (src : Int) (up : Bool) (hD : Duo w b r s) (act : Int) (ha : act = 2) :
    Calls Tryd.prog 37 #[.pointer (some ⟨b, 0, none⟩), .pointer (some ⟨r, 0, none⟩), .agg #[.int .i64 act, .int .u64 (off : Int), .int .i64 n, .int .u64 (v : Int), .int .i64 src, .bool up]] w fun e w' => e = .returned (.bool true) ∧ Duo w' b r (s.level src up).1 ∧ Fr (Or2 (One b) (One r)) w w' := by
  have BA := Lib.hid (Blk.new w 68 #[.int .i64 act, .int .u64 (off : Int), .int .i64 n, .int .u64 (v : Int), .int .i64 src, .bool up])
  have DA := Lib.hid (hD.keep ((Fr.refl No w).alloc (.cells #[.int .i64 act, .int .u64 (off : Int), .int .i64 n, .int .u64 (v : Int), .int .i64 src, .bool up] 68)))
  have FA := Lib.hid ((Fr.refl No w).alloc (.cells #[.int .i64 act, .int .u64 (off : Int), .int .i64 n, .int .u64 (v : Int), .int .i64 src, .bool up] 68))
  have hxb : ¬ Or2 (One b) (One r) w.heap.size := fun q => by
    have h1 := hD.pic.seg.lt
    have h2 := hD.ref.seg.lt
    rcases q with q | q
    · have : w.heap.size = b := q
      omega
    · have : w.heap.size = r := q
      omega
  have HX := Lib.hid hxb
  clear hxb hD
  subst ha
  obtain ⟨x, hx⟩ : ∃ x, x = w.heap.size := ⟨_, rfl⟩
  have HXN := Lib.hid hx
  obtain ⟨t, ht⟩ : ∃ t, t = (s.level src up).1 := ⟨_, rfl⟩
  obtain ⟨u, hu⟩ : ∃ u, u = (s.level src up).2 := ⟨_, rfl⟩
  have HTT := Lib.hid ht
  have HUU := Lib.hid hu
  clear hx ht hu
  go_enter Tryd.func37, Tryd.ntmps37
  go_wp2_with fail
  refine (Level_c _ b 0 s src up DA.out.pic).mono ?_
  rintro e w1 ⟨rfl, hp, hf⟩
  rw [← HTT.out] at hp
  rw [← HUU.out]
  have H1 := Lib.hid (DA.out.go hp hf)
  have r1 := H1.out.2.2.2.cell (BA.out.cell 4) HX.out
  have r2 := H1.out.2.2.2.cell (BA.out.cell 5) HX.out
  simp at r1 r2
  rw [← HXN.out] at r1 r2 ⊢
  clear hp hf
  go_upto_region 11 with fail
  refine wp_region_held_drew (S := fun w' => w'.cell? ⟨x, 4, none⟩ = some (.int .i64 src) ∧ w'.cell? ⟨x, 5, none⟩ = some (.bool up) ∧ PicAt w' b 0 t) (by kernel_rfl) ⟨r1, r2, H1.out.2.1.drew⟩ (fun hHeld => ?_)
  refine' tk0 (v := _) (by kernel_rfl) (by kernel_rfl) (by kernel_rfl) (fun _ _ _ h => h) (by rfl) ?hy3 (by assumption) ?rest3
  case hy3 => (intro wq hSq; (try dsimp only at hSq); go_simp; try with_reducible rfl)
  simp only [Act.put, List.setIfInBounds_toArray, List.set_cons_zero, List.set_cons_succ]
  refine' tk1 (v := _) (by kernel_rfl) (by kernel_rfl) (by kernel_rfl) (fun _ _ _ h => h) (by rfl) ?hy4 (by assumption) ?rest4
  case hy4 => (intro wq hSq; (try dsimp only at hSq); go_simp; try with_reducible rfl)
  simp only [Act.put, List.setIfInBounds_toArray, List.set_cons_zero, List.set_cons_succ]
  refine' tk2 (v := _) (by kernel_rfl) (by kernel_rfl) (by kernel_rfl) (fun _ _ _ h => h) (by rfl) ?hy5 (by assumption) ?rest5
  case hy5 => (intro wq hSq; (try dsimp only at hSq); go_simp; try with_reducible rfl)
  simp only [Act.put, List.setIfInBounds_toArray, List.set_cons_zero, List.set_cons_succ]
  refine' tk3 (v := _) (by kernel_rfl) (by kernel_rfl) (by kernel_rfl) (fun _ _ _ h => h) (by rfl) ?hy6 (by assumption) ?rest6
  case hy6 => (intro wq hSq; (try dsimp only at hSq); go_simp; try with_reducible rfl)
  simp only [Act.put, List.setIfInBounds_toArray, List.set_cons_zero, List.set_cons_succ]
  refine' tk4 (v := _) (by kernel_rfl) (by kernel_rfl) (by kernel_rfl) (fun _ _ _ h => h) (by rfl) ?hy7 (by assumption) ?rest7
  case hy7 => (intro wq hSq; (try dsimp only at hSq); go_simp; try with_reducible rfl)
  simp only [Act.put, List.setIfInBounds_toArray, List.set_cons_zero, List.set_cons_succ]
  refine' tk5 (v := _) (by kernel_rfl) (by kernel_rfl) (by kernel_rfl) (fun _ _ _ h => h) (by rfl) ?hy8 (by assumption) ?rest8
  case hy8 => (intro wq hSq; (try dsimp only at hSq); go_simp; try with_reducible rfl)
  simp only [Act.put, List.setIfInBounds_toArray, List.set_cons_zero, List.set_cons_succ]
  refine wpAnyH_ready (rs := [6]) (by kernel_rfl) (by simp) ?_
  refine AllReadyH.cons rfl (fun K hK => ?_) AllReadyH.nil
  go_simp
  refine (rLevel_c _ r 0 s src up H1.out.2.2.1.drew).mono ?_
  rintro e w3 ⟨rfl, hp, hf⟩
  rw [← HTT.out] at hp
  rw [← HUU.out]
  have H3 := Lib.hid (DA.out.behind (s' := t) ⟨H1.out.1, H1.out.2.1, H1.out.2.2.1, H1.out.2.2.2⟩ hp hf.of_drew)
  have hxr : ¬ One r x := fun q => HX.out (.inr (HXN.out.symm.trans q))
  have r3 := hf.fr.cell (p := ⟨x, 4, none⟩) r1 hxr
  have r4 := hf.fr.cell (p := ⟨x, 5, none⟩) r2 hxr
  have HS : Hid (∀ wa wb, Fr No wa wb → ((wa.cell? ⟨x, 4, none⟩ = some (.int .i64 src) ∧ wa.cell? ⟨x, 5, none⟩ = some (.bool up) ∧ PicAt wa b 0 t) ∧ RAt wa r 0 t) → ((wb.cell? ⟨x, 4, none⟩ = some (.int .i64 src) ∧ wb.cell? ⟨x, 5, none⟩ = some (.bool up) ∧ PicAt wb b 0 t) ∧ RAt wb r 0 t)) :=
    Lib.hid fun wa wb hf h => ⟨⟨hf.cell h.1.1 (fun q => q), hf.cell h.1.2.1 (fun q => q), h.1.2.2.fr hf (fun q => q)⟩, h.2.fr hf (fun q => q)⟩
  clear hf r1 r2 hHeld hxr
  go_wp2_with fail
  refine hK.out _ _ ⟨r3, r4, H3.out.1.pic⟩ (fun _ => ?_)
  clear hK K
  refine wpAnyH_sharper (T := fun w' => (w'.cell? ⟨x, 4, none⟩ = some (.int .i64 src) ∧ w'.cell? ⟨x, 5, none⟩ = some (.bool up) ∧ PicAt w' b 0 t) ∧ RAt w' r 0 t) (fun _ h => h.1) _ _ _ _ ?_
  have hHeld : (w3.cell? ⟨x, 4, none⟩ = some (.int .i64 src) ∧ w3.cell? ⟨x, 5, none⟩ = some (.bool up) ∧ PicAt w3 b 0 t) ∧ RAt w3 r 0 t := ⟨⟨r3, r4, H3.out.1.pic⟩, hp⟩
  clear hp r3 r4
  refine' tk7 (v := _) (by kernel_rfl) (by kernel_rfl) (by kernel_rfl) (fun _ _ _ h => h) (by rfl) ?hy9 (by assumption) ?rest9
  case hy9 => (intro wq hSq; (try dsimp only at hSq); go_simp; try with_reducible rfl)
  simp only [Act.put, List.setIfInBounds_toArray, List.set_cons_zero, List.set_cons_succ]
  refine' tk8 (v := _) (by kernel_rfl) (by kernel_rfl) (by kernel_rfl) (fun _ _ _ h => h) (by rfl) ?hy10 (by assumption) ?rest10
  case hy10 => (intro wq hSq; (try dsimp only at hSq); go_simp; try with_reducible rfl)
  simp only [Act.put, List.setIfInBounds_toArray, List.set_cons_zero, List.set_cons_succ]
  refine' tk9 (v := _) (by kernel_rfl) (by kernel_rfl) (by kernel_rfl) (fun _ _ _ h => h) (by rfl) ?hy11 (by assumption) ?rest11
  case hy11 => (intro wq hSq; (try dsimp only at hSq); go_simp; try with_reducible rfl)
  simp only [Act.put, List.setIfInBounds_toArray, List.set_cons_zero, List.set_cons_succ]
  refine' tk10 (v := _) (by kernel_rfl) (by kernel_rfl) (by kernel_rfl) (fun _ _ _ h => h) (by rfl) ?hy12 (by assumption) ?rest12
  case hy12 => (intro wq hSq; (try dsimp only at hSq); go_simp; try with_reducible rfl)
  simp only [Act.put, List.setIfInBounds_toArray, List.set_cons_zero, List.set_cons_succ]
  refine' tk11 (v := .agg (plist t).toArray) (by kernel_rfl) (by kernel_rfl) (by kernel_rfl) (fun _ _ _ h => h) (by rfl) ?hy13 (by assumption) ?rest13
  case hy13 => (intro wq hSq; exact exec_load_seg 48 (.tmp 81) rfl b 0 rfl _ hSq.1.2.2.seg _ Tryd.underlying48 rfl (infoPl hSq.1.2.2.ok))
  simp only [Act.put, List.setIfInBounds_toArray, List.set_cons_zero, List.set_cons_succ]
  refine' tk12 (v := _) (by kernel_rfl) (by kernel_rfl) (by kernel_rfl) (fun _ _ _ h => h) (by rfl) ?hy14 (by assumption) ?rest14
  case hy14 => (intro wq hSq; (try dsimp only at hSq); go_simp; try with_reducible rfl)
  simp only [Act.put, List.setIfInBounds_toArray, List.set_cons_zero, List.set_cons_succ]
  refine' tk13 (v := _) (by kernel_rfl) (by kernel_rfl) (by kernel_rfl) (fun _ _ _ h => h) (by rfl) ?hy15 (by assumption) ?rest15
  case hy15 => (intro wq hSq; (try dsimp only at hSq); go_simp; try with_reducible rfl)
  simp only [Act.put, List.setIfInBounds_toArray, List.set_cons_zero, List.set_cons_succ]
  refine' tk15 (v := _) (by kernel_rfl) (by kernel_rfl) (by kernel_rfl) (fun _ _ _ h => h) (by rfl) ?hy16 (by assumption) ?rest16
  case hy16 => (intro wq hSq; (try dsimp only at hSq); go_simp; try with_reducible rfl)
  simp only [Act.put, List.setIfInBounds_toArray, List.set_cons_zero, List.set_cons_succ]
  refine' tk16 (v := _) (by kernel_rfl) (by kernel_rfl) (by kernel_rfl) (fun _ _ _ h => h) (by rfl) ?hy17 (by assumption) ?rest17
  case hy17 => (intro wq hSq; (try dsimp only at hSq); go_simp; try with_reducible rfl)
  simp only [Act.put, List.setIfInBounds_toArray, List.set_cons_zero, List.set_cons_succ]
  refine' tk17 (v := .agg (rlist t).toArray) (by kernel_rfl) (by kernel_rfl) (by kernel_rfl) (fun _ _ _ h => h) (by rfl) ?hy18 (by assumption) ?rest18
  case hy18 => (intro wq hSq; exact exec_load_seg 66 (.tmp 87) rfl r 0 rfl _ hSq.2.seg _ Tryd.underlying66 rfl (infoRl t))
  simp only [Act.put, List.setIfInBounds_toArray, List.set_cons_zero, List.set_cons_succ]
  refine' tk18 (v := _) (by kernel_rfl) (by kernel_rfl) (by kernel_rfl) (fun _ _ _ h => h) (by rfl) ?hy19 (by assumption) ?rest19
  case hy19 => (intro wq hSq; (try dsimp only at hSq); go_simp; try with_reducible rfl)
  simp only [Act.put, List.setIfInBounds_toArray, List.set_cons_zero, List.set_cons_succ]
  refine' tk19 (v := _) (by kernel_rfl) (by kernel_rfl) (by kernel_rfl) (fun _ _ _ h => h) (by rfl) ?hy20 (by assumption) ?rest20
  case hy20 => (intro wq hSq; (try dsimp only at hSq); go_simp; try with_reducible rfl)
  simp only [Act.put, List.setIfInBounds_toArray, List.set_cons_zero, List.set_cons_succ]
  have HOK := Lib.hid hHeld.2.ok
  refine wpAnyH_ready (rs := [14]) (by kernel_rfl) (by simp) ?_
  refine AllReadyH.cons rfl (fun K hK => ?_) AllReadyH.nil
  go_simp
  refine (Up_c _ t HOK.out src).mono ?_
  rintro e w4 ⟨rfl, hf21⟩
  have hT21 := HS.out _ _ hf21 hHeld
  have H4 := Lib.hid (H3.out.1.keep hf21)
  have F4 := Lib.hid (H3.out.2.trans (hf21.mono fun _ _ q => q.elim))
  clear H3 hHeld
  have H3 : Hid (Duo w4 b r t ∧ Fr (Or2 (One b) (One r)) _ w4) := Lib.hid ⟨H4.out, F4.out⟩
  clear hf21 H4 F4
  go_wp2_with fail
  refine hK.out _ _ hT21 (fun _ => ?_)
  clear hK K
  have hHeld := hT21
  clear hT21
  refine wpAnyH_ready (rs := [20]) (by kernel_rfl) (by simp) ?_
  refine AllReadyH.cons rfl (fun K hK => ?_) AllReadyH.nil
  go_simp
  refine (rUp_c _ t HOK.out src).mono ?_
  rintro e w5 ⟨rfl, hf22⟩
  have hT22 := HS.out _ _ hf22 hHeld
  have H4 := Lib.hid (H3.out.1.keep hf22)
  have F4 := Lib.hid (H3.out.2.trans (hf22.mono fun _ _ q => q.elim))
  clear H3 hHeld
  have H3 : Hid (Duo w5 b r t ∧ Fr (Or2 (One b) (One r)) _ w5) := Lib.hid ⟨H4.out, F4.out⟩
  clear hf22 H4 F4
  go_wp2_with fail
  refine hK.out _ _ hT22 (fun _ => ?_)
  clear hK K
  have hHeld := hT22
  clear hT22
  refine' tk21 (v := _) (by kernel_rfl) (by kernel_rfl) (by kernel_rfl) (fun _ _ _ h => h) (by rfl) ?hy24 (by assumption) ?rest24
  case hy24 => (intro wq hSq; (try dsimp only at hSq); go_simp; try with_reducible rfl)
  simp only [Act.put, List.setIfInBounds_toArray, List.set_cons_zero, List.set_cons_succ]
  refine' tk22 (v := _) (by kernel_rfl) (by kernel_rfl) (by kernel_rfl) (fun _ _ _ h => h) (by rfl) ?hy25 (by assumption) ?rest25
  case hy25 => (intro wq hSq; (try dsimp only at hSq); go_simp; try with_reducible rfl)
  simp only [Act.put, List.setIfInBounds_toArray, List.set_cons_zero, List.set_cons_succ]
  refine' tk23 (v := _) (by kernel_rfl) (by kernel_rfl) (by kernel_rfl) (fun _ _ _ h => h) (by rfl) ?hy26 (by assumption) ?rest26
  case hy26 => (intro wq hSq; (try dsimp only at hSq); go_simp; try with_reducible rfl)
  simp only [Act.put, List.setIfInBounds_toArray, List.set_cons_zero, List.set_cons_succ]
  refine wpAnyH_done (by kernel_rfl) ?_ _
  go_wp2_with fail
  go_ret
  exact ⟨by simp, by rw [← HTT.out]; exact H3.out.1, (FA.out.mono fun _ _ q => q.elim).trans H3.out.2⟩
set_option maxRecDepth 100000 in
set_option maxHeartbeats 4000000 in
/-- No act. -/
theorem both_none (w : World) (b r : Nat) (s : PS) (off : Nat) (n : Int) (v : Nat) (src : Int) (up : Bool) (hD : Duo w b r s) (act : Int) (h0 : act ≠ 0) (h1 : act ≠ 1) (h2 : act ≠ 2) :
    Calls Tryd.prog 37 #[.pointer (some ⟨b, 0, none⟩), .pointer (some ⟨r, 0, none⟩), .agg #[.int .i64 act, .int .u64 (off : Int), .int .i64 n, .int .u64 (v : Int), .int .i64 src, .bool up]] w fun e w' => e = .returned (.bool true) ∧ Duo w' b r s ∧ Fr (Or2 (One b) (One r)) w w' := by
  have BA := Lib.hid (Blk.new w 68 #[.int .i64 act, .int .u64 (off : Int), .int .i64 n, .int .u64 (v : Int), .int .i64 src, .bool up])
  have DA := Lib.hid (hD.keep ((Fr.refl No w).alloc (.cells #[.int .i64 act, .int .u64 (off : Int), .int .i64 n, .int .u64 (v : Int), .int .i64 src, .bool up] 68)))
  have FA := Lib.hid ((Fr.refl No w).alloc (.cells #[.int .i64 act, .int .u64 (off : Int), .int .i64 n, .int .u64 (v : Int), .int .i64 src, .bool up] 68))
  have hxb : ¬ Or2 (One b) (One r) w.heap.size := fun q => by
    have h1 := hD.pic.seg.lt
    have h2 := hD.ref.seg.lt
    rcases q with q | q
    · have : w.heap.size = b := q
      omega
    · have : w.heap.size = r := q
      omega
  have HX := Lib.hid hxb
  clear hxb hD
  have e0 : (act == 0) = false := by rw [beq_eq_false_iff_ne]; exact h0
  have e1 : (act == 1) = false := by rw [beq_eq_false_iff_ne]; exact h1
  have e2 : (act == 2) = false := by rw [beq_eq_false_iff_ne]; exact h2
  clear h0 h1 h2
  go_enter Tryd.func37, Tryd.ntmps37
  go_wp2_with fail
  go_ret
  exact ⟨rfl, DA.out, FA.out.mono fun _ _ q => q.elim⟩
/-- Whatever act. -/
theorem both_c (w : World) (b r : Nat) (s : PS) (x : PAct) (hx : x.Ok) (hD : Duo w b r s) :
    Calls Tryd.prog 37 #[.pointer (some ⟨b, 0, none⟩), .pointer (some ⟨r, 0, none⟩), .agg #[.int .i64 x.act, .int .u64 (x.off : Int), .int .i64 x.n, .int .u64 (x.v : Int), .int .i64 x.src, .bool x.up]] w fun e w' => e = .returned (.bool true) ∧ Duo w' b r (x.step s) ∧ Fr (Or2 (One b) (One r)) w w' := by
  obtain ⟨act, off, n, v, src, up⟩ := x
  by_cases h0 : act = 0
  · refine (both_write w b r s off n v src up hx.1 hx.2 hD act h0).mono fun e w' h => ?_
    rw [show PAct.step ⟨act, off, n, v, src, up⟩ s = (s.write off n v).1 from if_pos h0]
    exact h
  · by_cases h1 : act = 1
    · refine (both_read w b r s off n v src up hx.1 hD act h1).mono fun e w' h => ?_
      rw [show PAct.step ⟨act, off, n, v, src, up⟩ s = (s.read off n).1 from (if_neg h0).trans (if_pos h1)]
      exact h
    · by_cases h2 : act = 2
      · refine (both_level w b r s off n v src up hD act h2).mono fun e w' h => ?_
        rw [show PAct.step ⟨act, off, n, v, src, up⟩ s = (s.level src up).1 from (if_neg h0).trans ((if_neg h1).trans (if_pos h2))]
        exact h
      · refine (both_none w b r s off n v src up hD act h0 h1 h2).mono fun e w' h => ?_
        rw [show PAct.step ⟨act, off, n, v, src, up⟩ s = s from (if_neg h0).trans ((if_neg h1).trans (if_neg h2))]
        exact h
end Go.Proofs.YtcnglhneknbllaaDoor

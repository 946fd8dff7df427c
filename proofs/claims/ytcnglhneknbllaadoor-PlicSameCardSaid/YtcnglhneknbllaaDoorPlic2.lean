/-
  Contracts of package plic, the second part: Best, Line, claim, and New.
-/
import Derived.Test.YtcnglhneknbllaaDoorPlic1
import Derived.Deep.RegionHeld
import Derived.WalkMore
namespace Go.Proofs.YtcnglhneknbllaaDoor
open Go Go.RowKit

theorem best_other (s : PS) (c : Int) (h : ¬ (0 ≤ c ∧ c < 2)) : s.best c = 0 := by
  unfold PS.best
  rw [if_neg (by omega)]
theorem ones_lt32 {s : PS} (h : s.Ok) (c : Nat) : ∀ i ∈ ones (s.pend &&& s.on c), i < 32 := by
  intro i hi
  have := ((ones_mem _ _).1 hi).2
  rw [Nat.testBit_and, Bool.and_eq_true] at this
  apply Nat.lt_of_not_le
  intro hge
  have e := Nat.testBit_lt_two_pow (Nat.lt_of_lt_of_le h.pend (Nat.pow_le_pow_right (show 0 < 2 by omega) (show 32 ≤ i by omega)))
  rw [e] at this
  exact absurd this.1 (by decide)

set_option maxHeartbeats 4000000 in
theorem Best_c (w : World) (s : PS) (hs : s.Ok) (c : Int) (hT : TzAt w) :
    Calls Tryd.prog 32 #[.agg (plist s).toArray, .int .i64 c] w fun e w' => e = .returned (.int .i64 ((s.best c : Nat) : Int)) ∧ Fr No w w' := by
  have hF := (Fr.refl No w).alloc (.cells (plist s).toArray 48)
  have hP : PicAt (w.alloc (.cells (plist s).toArray 48)) w.heap.size 0 s := ⟨hs, Seg.new w _ _⟩
  have HT := Lib.hid (hT.fr hF (fun h => h))
  by_cases hc : 0 ≤ c ∧ c < 2
  · obtain ⟨k, rfl⟩ : ∃ k : Nat, c = (k : Int) := ⟨c.toNat, by omega⟩
    have hk : k < 2 := by omega
    obtain ⟨p0, p1, p2, p3, p4, p5, p6, pr, hfz⟩ := hP.facts
    simp only [Nat.zero_add] at p0 p1 p2 p3 p4 p5 p6 pr
    have hon : s.on k < 4294967296 := by unfold PS.on; split; exact hs.on0; exact hs.on1
    have hx := u32_and_nat s.pend (s.on k) hs.pend hon
    have hpc : (w.alloc (.cells (plist s).toArray 48)).cell? ⟨w.heap.size, 35 + k, none⟩ = some (u32v (s.on k)) := by
      rcases (show k = 0 ∨ k = 1 by omega) with rfl | rfl
      · exact p3
      · exact p4
    obtain ⟨L, hL⟩ : ∃ L, L = ones (s.pend &&& s.on k) := ⟨_, rfl⟩
    have hb : s.best (k : Int) = PS.bestOf s.pr L := by
      unfold PS.best
      rw [if_pos (by omega), hL, Int.toNat_natCast]
    have hL32 := ones_lt32 hs k
    rw [← hL] at hL32
    obtain ⟨x, hxe⟩ : ∃ x, x = s.pend &&& s.on k := ⟨_, rfl⟩
    have hxl : x < 18446744073709551616 := by
      have : s.pend &&& s.on k ≤ s.pend := Nat.and_le_left
      have := hs.pend
      omega
    obtain ⟨y, hy⟩ : ∃ y, y = s.on k := ⟨_, rfl⟩
    rw [← hxe] at hL hx
    rw [← hy] at hx hpc
    have HB := Lib.hid hb
    have HL := Lib.hid hL
    have hwx : IntKind.u64.wrap (x : Int) = (x : Int) := by rw [IntKind.wrap_u64]; omega
    have HXL := Lib.hid hxl
    have H32 := Lib.hid hL32
    clear hxl hL32
    have HF := Lib.hid hF
    have HK := Lib.hid hP
    have hc0 : decide ((k : Int) < 0) = false := decide_eq_false (by omega)
    have hc1 : decide ((2 : Int) ≤ (k : Int)) = false := decide_eq_false (by omega)
    clear hT hF hP hb hL hxe hy hon p0 p2 p3 p4 p5 p6 hc
    go_enter Tryd.func32, Tryd.ntmps32
    go_wp2_with fail
    refine wp_scope_straight ?_
    go_wp2_with fail
    refine wp_label ?_
    simp only [Exit.then]
    go_at_K
    go_wp2_with fail
    go_region_held (fun w' => w'.cell? ⟨w.heap.size, 1, none⟩ = some (u32v s.pend) ∧ w'.cell? ⟨w.heap.size, 35 + k, none⟩ = some (u32v y))
      (first | exact ⟨p1, hpc⟩ | exact ⟨F3.out.cell p1 (fun h => h), F3.out.cell hpc (fun h => h)⟩)
      ((go_at_call 59; refine (Ones_c _ x HXL.out (HT.out.fr (Fr.refl No _).drew (fun h => h))).mono ?_; rw [← HL.out]; rintro e w3 ⟨v3, rfl, ho3, hf3⟩; have O3 := Lib.hid ho3; obtain ⟨a3, c3, rfl, hnc3, hcm3⟩ := ho3.slice; have HC3 := Lib.hid hcm3; clear hcm3; have F3 := Lib.hid ((Fr.refl No _).drew.trans hf3); clear ho3 hf3))
    have HS := Lib.hid (fun (wr : World) (hw : Fr No w3 wr) (i : Nat) (hi : i < 32) => (F3.out.trans hw).cell (pr i hi) (fun h => h))
    have HFF := Lib.hid (HF.out.trans F3.out)
    obtain ⟨n, hn⟩ : ∃ n, n = L.length := ⟨_, rfl⟩
    have hn64 : n ≤ 64 := by rw [hn, HL.out]; exact ones_len x
    rw [← hn] at O3 hnc3 ⊢
    have HN := Lib.hid hn
    clear hn pr p1 hpc hx hfz
    go_wp2_with fail
    go_loopw [5, 24] (fun b i wr => ∃ j bst : Nat, j ≤ n ∧ i = .int .i64 (j : Int) ∧ b = .int .i64 (bst : Int) ∧ bst < 32 ∧ Hid (bst = PS.bestOf s.pr (L.take j)) ∧ Hid (Fr No w3 wr)) (fun _ i _ => n - (intOf i).toNat)
    case atStart => exact ⟨0, 0, Nat.zero_le _, rfl, rfl, by omega, Lib.hid rfl, Lib.hid (Fr.refl _ _)⟩
    case round =>
      obtain ⟨j, bst, hj, rfl, rfl, hb32, HB2, HW⟩ := hrel
      by_cases hlt : j < n
      · have hlt' : j < L.length := by rw [← HN.out]; exact hlt
        obtain ⟨l, hl⟩ : ∃ l, l = L[j] := ⟨_, rfl⟩
        have hl32 : l < 32 := by rw [hl]; exact H32.out _ (List.getElem_mem hlt')
        obtain ⟨g, og, cg, hv, _, _, _, _, hcell, _⟩ := O3.out.at_ (by omega)
        cases hv
        have q1 := (HW.out).cell (hcell j (i64v l) (by rw [intsV, List.getElem?_map, List.getElem?_eq_getElem hlt', hl]; rfl)) (fun h => h)
        have q2 := HS.out wr HW.out l hl32
        have q3 := HS.out wr HW.out bst hb32
        have hstep : PS.bestOf s.pr (L.take (j + 1)) = if s.pr l ≤ s.pr bst then bst else l := by
          rw [List.take_succ_eq_append_getElem hlt', ← hl]
          unfold PS.bestOf
          rw [List.foldl_append]
          have := HB2.out
          unfold PS.bestOf at this
          rw [← this]
          rfl
        obtain ⟨P1, hP1⟩ : ∃ P1, P1 = s.pr l := ⟨_, rfl⟩
        obtain ⟨P2, hP2⟩ : ∃ P2, P2 = s.pr bst := ⟨_, rfl⟩
        rw [← hP1] at q2 hstep
        rw [← hP2] at q3 hstep
        clear hcell hP1 hP2 hl
        by_cases hle : P1 ≤ P2
        · have hg : decide ((P1 : Int) ≤ (P2 : Int)) = true := decide_eq_true (by omega)
          rw [if_pos hle] at hstep
          have HST := Lib.hid hstep
          clear hstep
          go_wp2_with fail
          go_quiet (fail)
          go_wp2_with fail
          exact ⟨⟨j + 1, bst, hlt, rfl, rfl, hb32, Lib.hid HST.out.symm, Lib.hid (HW.out.drewN _)⟩, by simp [intOf]; omega⟩
        · have hg : decide ((P1 : Int) ≤ (P2 : Int)) = false := decide_eq_false (by omega)
          rw [if_neg hle] at hstep
          have HST := Lib.hid hstep
          clear hstep
          go_wp2_with fail
          go_quiet (fail)
          go_wp2_with fail
          exact ⟨⟨j + 1, l, hlt, rfl, rfl, hl32, Lib.hid HST.out.symm, Lib.hid (HW.out.drewN _)⟩, by simp [intOf]; omega⟩
      · have he : bst = s.best (k : Int) := by
          rw [HB.out, HB2.out, List.take_of_length_le (by rw [← HN.out]; omega)]
        have HE := Lib.hid he
        clear he
        go_wp2_with fail
        try rw [Exit.noGoto_ret]
        go_ret
        rw [← HE.out]
        exact ⟨rfl, HFF.out.trans HW.out⟩
  · have hb := best_other s c hc
    rw [hb]
    clear hP
    by_cases h0 : c < 0
    · have hc0 : decide (c < 0) = true := decide_eq_true h0
      go_enter Tryd.func32, Tryd.ntmps32
      go_wp2_with fail
      refine wp_scope_straight ?_
      go_wp2_with fail
      simp only [Exit.noGoto]
      go_ret
      exact ⟨rfl, hF⟩
    · have hc0 : decide (c < 0) = false := decide_eq_false h0
      go_enter Tryd.func32, Tryd.ntmps32
      go_wp2_with fail
      refine wp_scope_straight ?_
      go_wp2_with fail
      simp only [Exit.noGoto]
      go_ret
      exact ⟨rfl, hF⟩
end Go.Proofs.YtcnglhneknbllaaDoor

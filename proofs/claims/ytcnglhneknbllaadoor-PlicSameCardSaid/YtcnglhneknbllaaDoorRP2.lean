/-
  The document's interrupt controller, the second part: Best and Line.
-/
import Derived.Test.YtcnglhneknbllaaDoorRP1
import Derived.Deep.RegionHeld
import Derived.WalkMore
namespace Go.Proofs.YtcnglhneknbllaaDoor
open Go Go.RowKit PS

theorem infoRP : (Tryd.prog.info? 66).map (·.size) = some 194 := by kernel_rfl
theorem infoRl (s : PS) : (Tryd.prog.info? 66).map (·.size) = some (rlist s).length := by rw [rlist_len]; exact infoRP
/-- Going down: one source more. -/
theorem best_step {p : Nat → Nat} {q : Nat → Prop} {m r bst new : Nat} (h : IsBest p (fun j => m < j ∧ q j) bst) (hb : 0 < bst → m < bst) (h0 : p 0 = 0) (hr : m = r + 1)
    (hn : (q m ∧ 0 < p m ∧ (bst = 0 ∨ p bst ≤ p m) ∧ new = m) ∨ (¬ (q m ∧ 0 < p m ∧ (bst = 0 ∨ p bst ≤ p m)) ∧ new = bst)) :
    IsBest p (fun j => r < j ∧ q j) new ∧ (0 < new → r < new) := by
  rcases hn with ⟨hq, hp, hx, rfl⟩ | ⟨hx, rfl⟩
  · have hle : p bst ≤ p new := by
      rcases hx with rfl | hx
      · omega
      · exact hx
    refine ⟨⟨fun _ => ⟨⟨by omega, hq⟩, hp⟩, fun j hj => ?_, fun j hj _ _ => by have := hj.1; omega⟩, fun _ => by omega⟩
    by_cases e : j = new
    · subst e; exact Nat.le_refl _
    · exact Nat.le_trans (h.top j ⟨by have := hj.1; omega, hj.2⟩) hle
  · refine ⟨⟨fun hp => ⟨⟨by have := hb hp; omega, (h.pos hp).1.2⟩, (h.pos hp).2⟩, fun j hj => ?_, fun j hj he hp => ?_⟩, fun hp => by have := hb hp; omega⟩
    · by_cases e : j = m
      · subst e
        apply Nat.le_of_not_lt
        intro hlt
        exact hx ⟨hj.2, by omega, .inr (by omega)⟩
      · exact h.top j ⟨by have := hj.1; omega, hj.2⟩
    · by_cases e : j = m
      · subst e
        exact absurd ⟨hj.2, hp, .inr (by omega)⟩ hx
      · exact h.low j ⟨by have := hj.1; omega, hj.2⟩ he hp
theorem best_end {s : PS} (hs : s.Ok) (c : Nat) (hc : c ≤ 1) {bst : Nat} (h : IsBest s.pr (fun j => 0 < j ∧ (s.pend.testBit j = true ∧ (s.on c).testBit j = true)) bst) : bst = s.best c := by
  refine IsBest.unique hs.pr0 (q := fun i => s.pend.testBit i = true ∧ (s.on c).testBit i = true) ⟨fun hp => ⟨(h.pos hp).1.2, (h.pos hp).2⟩, fun j hj => ?_, fun j hj => ?_⟩ (hs.best_is c hc)
  · rcases Nat.eq_zero_or_pos j with rfl | hj0
    · rw [hs.z0] at hj; exact absurd hj.1 (by decide)
    · exact h.top j ⟨hj0, hj⟩
  · rcases Nat.eq_zero_or_pos j with rfl | hj0
    · rw [hs.z0] at hj; exact absurd hj.1 (by decide)
    · exact h.low j ⟨hj0, hj⟩
theorem best_start {p : Nat → Nat} {q : Nat → Prop} (hq : ∀ j, 31 < j → ¬ q j) : IsBest p (fun j => 31 < j ∧ q j) 0 :=
  ⟨fun h => absurd h (Nat.lt_irrefl 0), fun j hj => absurd hj.2 (hq j hj.1), fun j hj => absurd hj.2 (hq j hj.1)⟩
theorem down64 (m r : Nat) (h : m = r + 1) (hm : m ≤ 31) : IntKind.i64.wrap ((m : Int) - 1) = (r : Int) := by rw [IntKind.wrap_i64]; omega
set_option maxHeartbeats 4000000 in
theorem rBest_c (w : World) (s : PS) (hs : s.Ok) (c : Int) :
    Calls Tryd.prog 38 #[.agg (rlist s).toArray, .int .i64 c] w fun e w' => e = .returned (.int .i64 ((s.best c : Nat) : Int)) ∧ Fr No w w' := by
  have hF := (Fr.refl No w).alloc (.cells (rlist s).toArray 66)
  have hP := RAt.boxed w s hs 66
  have HP := Lib.hid hP
  have HF := Lib.hid hF
  have hfz := hP.seg.free
  clear hP hF
  by_cases h0 : c = 0
  · subst h0
    obtain ⟨Q, hQ⟩ : ∃ Q : Nat → Prop, Q = fun j => s.pend.testBit j = true ∧ (s.on 0).testBit j = true := ⟨_, rfl⟩
    have hend : ∀ bst, IsBest s.pr (fun j => 0 < j ∧ Q j) bst → bst = s.best (0 : Nat) := fun bst h => by subst hQ; exact best_end hs 0 (by omega) h
    have hq31 : ∀ j, 31 < j → ¬ Q j := fun j hj q => by
      subst hQ
      rw [Nat.testBit_lt_two_pow (Nat.lt_of_lt_of_le hs.pend (Nat.pow_le_pow_right (show 0 < 2 by omega) (show 32 ≤ j by omega)))] at q
      exact absurd q.1 (by decide)
    have hqat : ∀ j, Q j ↔ (s.pend.testBit j = true ∧ s.on0.testBit j = true) := fun j => by subst hQ; exact Iff.rfl
    have HEND := Lib.hid hend
    have HQ31 := Lib.hid hq31
    have HQAT := Lib.hid hqat
    clear hQ hend hq31 hqat
    go_enter Tryd.func38, Tryd.ntmps38
    go_wp2_with fail
    go_loopw [5, 6] (fun b i wr => ∃ m bst : Nat, m ≤ 31 ∧ bst < 32 ∧ i = .int .i64 (m : Int) ∧ b = .int .i64 (bst : Int) ∧ Hid (IsBest s.pr (fun j => m < j ∧ Q j) bst ∧ (0 < bst → m < bst)) ∧ Hid (Fr No (w.alloc (.cells (rlist s).toArray 66)) wr)) (fun _ i _ => (intOf i).toNat)
    case atStart => exact ⟨31, 0, by omega, by omega, rfl, rfl, Lib.hid ⟨best_start HQ31.out, fun h => absurd h (Nat.lt_irrefl 0)⟩, Lib.hid (Fr.refl _ _)⟩
    case round =>
      obtain ⟨m, bst, hm, hb32, rfl, rfl, HB2, HW⟩ := hrel
      rcases Nat.eq_zero_or_pos m with rfl | hm1
      · have he := HEND.out bst HB2.out.1
        have HE := Lib.hid he
        clear he
        go_wp2_with fail
        go_ret
        rw [HE.out]
        exact ⟨rfl, HF.out.trans HW.out⟩
      · obtain ⟨r, hr⟩ : ∃ r, m = r + 1 := ⟨m - 1, by omega⟩
        have hd1 : decide ((1 : Int) ≤ (m : Int)) = true := decide_eq_true (by omega)
        have hwd := down64 m r hr hm
        have hm32 : m < 32 := by omega
        have hrm : r < m := by omega
        have hR := HP.out.fr HW.out (fun h => h)
        have c2 := hR.pend_ hm32
        have c4 := hR.on0_ hm32
        have c0 := hR.prio_ hm32
        have cb := hR.prio_ hb32
        rw [Nat.zero_add] at c0 c2 c4 cb
        have HS := Lib.hid (fun new hn => best_step (new := new) HB2.out.1 HB2.out.2 hs.pr0 hr hn)
        have HQM := Lib.hid (HQAT.out m)
        obtain ⟨P1, hP1⟩ : ∃ P1, P1 = s.pr m := ⟨_, rfl⟩
        obtain ⟨P2, hP2⟩ : ∃ P2, P2 = s.pr bst := ⟨_, rfl⟩
        rw [← hP1] at c0
        rw [← hP2] at cb
        rw [← hP1, ← hP2] at HS
        clear hP1 hP2 hR hr HB2
        cases hpe : s.pend.testBit m
        · have HST := Lib.hid (HS.out bst (.inr ⟨fun q => (by have := (HQM.out.1 q.1).1; rw [hpe] at this; cases this), rfl⟩))
          rw [hpe] at c2
          clear HS HQM hpe
          go_wp2_with fail
          go_quiet (fail)
          go_wp2_with fail
          exact ⟨⟨r, bst, by omega, by omega, rfl, rfl, HST.out, Lib.hid (HW.out.drewN _)⟩, by simp [intOf]; omega⟩
        · cases hon : s.on0.testBit m
          · have HST := Lib.hid (HS.out bst (.inr ⟨fun q => (by have := (HQM.out.1 q.1).2; rw [hon] at this; cases this), rfl⟩))
            rw [hpe] at c2
            rw [hon] at c4
            clear HS HQM hpe hon
            go_wp2_with fail
            go_quiet (fail)
            go_wp2_with fail
            exact ⟨⟨r, bst, by omega, by omega, rfl, rfl, HST.out, Lib.hid (HW.out.drewN _)⟩, by simp [intOf]; omega⟩
          · have hqm := HQM.out.2 ⟨hpe, hon⟩
            rw [hpe] at c2
            rw [hon] at c4
            rcases Nat.eq_zero_or_pos P1 with e0 | e0
            · have HST := Lib.hid (HS.out bst (.inr ⟨fun q => (by have := q.2.1; omega), rfl⟩))
              have hg : decide (0 < P1) = false := decide_eq_false (by omega)
              clear HS HQM hpe hon hqm e0
              go_wp2_with fail
              go_quiet (fail)
              go_wp2_with fail
              exact ⟨⟨r, bst, by omega, by omega, rfl, rfl, HST.out, Lib.hid (HW.out.drewN _)⟩, by simp [intOf]; omega⟩
            · have hg : decide (0 < P1) = true := decide_eq_true (by omega)
              rcases Nat.eq_zero_or_pos bst with e1 | e1
              · have HST := Lib.hid (HS.out m (.inl ⟨hqm, e0, .inl e1, rfl⟩))
                have hz : ((bst : Int) == 0) = true := by rw [beq_iff_eq]; omega
                clear HS HQM hpe hon hqm e0 e1
                go_wp2_with fail
                go_quiet (fail)
                go_wp2_with fail
                exact ⟨⟨r, m, by omega, by omega, rfl, rfl, HST.out, Lib.hid (HW.out.drewN _)⟩, by simp [intOf]; omega⟩
              · have hz : ((bst : Int) == 0) = false := by rw [beq_eq_false_iff_ne]; omega
                by_cases e2 : P2 ≤ P1
                · have HST := Lib.hid (HS.out m (.inl ⟨hqm, e0, .inr e2, rfl⟩))
                  have hle : decide (P2 ≤ P1) = true := decide_eq_true (by omega)
                  clear HS HQM hpe hon hqm e0 e1 e2
                  go_wp2_with fail
                  go_quiet (fail)
                  go_wp2_with fail
                  exact ⟨⟨r, m, by omega, by omega, rfl, rfl, HST.out, Lib.hid (HW.out.drewN _)⟩, by simp [intOf]; omega⟩
                · have HST := Lib.hid (HS.out bst (.inr ⟨fun q => (by rcases q.2.2 with q | q <;> omega), rfl⟩))
                  have hle : decide (P2 ≤ P1) = false := decide_eq_false (by omega)
                  clear HS HQM hpe hon hqm e0 e1 e2
                  go_wp2_with fail
                  go_quiet (fail)
                  go_wp2_with fail
                  exact ⟨⟨r, bst, by omega, by omega, rfl, rfl, HST.out, Lib.hid (HW.out.drewN _)⟩, by simp [intOf]; omega⟩
  · by_cases h1 : c = 1
    · subst h1
      clear h0
      obtain ⟨Q, hQ⟩ : ∃ Q : Nat → Prop, Q = fun j => s.pend.testBit j = true ∧ (s.on 1).testBit j = true := ⟨_, rfl⟩
      have hend : ∀ bst, IsBest s.pr (fun j => 0 < j ∧ Q j) bst → bst = s.best (1 : Nat) := fun bst h => by subst hQ; exact best_end hs 1 (by omega) h
      have hq31 : ∀ j, 31 < j → ¬ Q j := fun j hj q => by
        subst hQ
        rw [Nat.testBit_lt_two_pow (Nat.lt_of_lt_of_le hs.pend (Nat.pow_le_pow_right (show 0 < 2 by omega) (show 32 ≤ j by omega)))] at q
        exact absurd q.1 (by decide)
      have hqat : ∀ j, Q j ↔ (s.pend.testBit j = true ∧ s.on1.testBit j = true) := fun j => by subst hQ; exact Iff.rfl
      have HEND := Lib.hid hend
      have HQ31 := Lib.hid hq31
      have HQAT := Lib.hid hqat
      clear hQ hend hq31 hqat
      go_enter Tryd.func38, Tryd.ntmps38
      go_wp2_with fail
      go_loopw [5, 6] (fun b i wr => ∃ m bst : Nat, m ≤ 31 ∧ bst < 32 ∧ i = .int .i64 (m : Int) ∧ b = .int .i64 (bst : Int) ∧ Hid (IsBest s.pr (fun j => m < j ∧ Q j) bst ∧ (0 < bst → m < bst)) ∧ Hid (Fr No (w.alloc (.cells (rlist s).toArray 66)) wr)) (fun _ i _ => (intOf i).toNat)
      case atStart => exact ⟨31, 0, by omega, by omega, rfl, rfl, Lib.hid ⟨best_start HQ31.out, fun h => absurd h (Nat.lt_irrefl 0)⟩, Lib.hid (Fr.refl _ _)⟩
      case round =>
        obtain ⟨m, bst, hm, hb32, rfl, rfl, HB2, HW⟩ := hrel
        rcases Nat.eq_zero_or_pos m with rfl | hm1
        · have he := HEND.out bst HB2.out.1
          have HE := Lib.hid he
          clear he
          go_wp2_with fail
          go_ret
          rw [HE.out]
          exact ⟨rfl, HF.out.trans HW.out⟩
        · obtain ⟨r, hr⟩ : ∃ r, m = r + 1 := ⟨m - 1, by omega⟩
          have hd1 : decide ((1 : Int) ≤ (m : Int)) = true := decide_eq_true (by omega)
          have hwd := down64 m r hr hm
          have hm32 : m < 32 := by omega
          have hrm : r < m := by omega
          have hR := HP.out.fr HW.out (fun h => h)
          have c2 := hR.pend_ hm32
          have c4 := hR.on1_ hm32
          have c0 := hR.prio_ hm32
          have cb := hR.prio_ hb32
          rw [Nat.zero_add] at c0 c2 c4 cb
          have HS := Lib.hid (fun new hn => best_step (new := new) HB2.out.1 HB2.out.2 hs.pr0 hr hn)
          have HQM := Lib.hid (HQAT.out m)
          obtain ⟨P1, hP1⟩ : ∃ P1, P1 = s.pr m := ⟨_, rfl⟩
          obtain ⟨P2, hP2⟩ : ∃ P2, P2 = s.pr bst := ⟨_, rfl⟩
          rw [← hP1] at c0
          rw [← hP2] at cb
          rw [← hP1, ← hP2] at HS
          clear hP1 hP2 hR hr HB2
          cases hpe : s.pend.testBit m
          · have HST := Lib.hid (HS.out bst (.inr ⟨fun q => (by have := (HQM.out.1 q.1).1; rw [hpe] at this; cases this), rfl⟩))
            rw [hpe] at c2
            clear HS HQM hpe
            go_wp2_with fail
            go_quiet (fail)
            go_wp2_with fail
            exact ⟨⟨r, bst, by omega, by omega, rfl, rfl, HST.out, Lib.hid (HW.out.drewN _)⟩, by simp [intOf]; omega⟩
          · cases hon : s.on1.testBit m
            · have HST := Lib.hid (HS.out bst (.inr ⟨fun q => (by have := (HQM.out.1 q.1).2; rw [hon] at this; cases this), rfl⟩))
              rw [hpe] at c2
              rw [hon] at c4
              clear HS HQM hpe hon
              go_wp2_with fail
              go_quiet (fail)
              go_wp2_with fail
              exact ⟨⟨r, bst, by omega, by omega, rfl, rfl, HST.out, Lib.hid (HW.out.drewN _)⟩, by simp [intOf]; omega⟩
            · have hqm := HQM.out.2 ⟨hpe, hon⟩
              rw [hpe] at c2
              rw [hon] at c4
              rcases Nat.eq_zero_or_pos P1 with e0 | e0
              · have HST := Lib.hid (HS.out bst (.inr ⟨fun q => (by have := q.2.1; omega), rfl⟩))
                have hg : decide (0 < P1) = false := decide_eq_false (by omega)
                clear HS HQM hpe hon hqm e0
                go_wp2_with fail
                go_quiet (fail)
                go_wp2_with fail
                exact ⟨⟨r, bst, by omega, by omega, rfl, rfl, HST.out, Lib.hid (HW.out.drewN _)⟩, by simp [intOf]; omega⟩
              · have hg : decide (0 < P1) = true := decide_eq_true (by omega)
                rcases Nat.eq_zero_or_pos bst with e1 | e1
                · have HST := Lib.hid (HS.out m (.inl ⟨hqm, e0, .inl e1, rfl⟩))
                  have hz : ((bst : Int) == 0) = true := by rw [beq_iff_eq]; omega
                  clear HS HQM hpe hon hqm e0 e1
                  go_wp2_with fail
                  go_quiet (fail)
                  go_wp2_with fail
                  exact ⟨⟨r, m, by omega, by omega, rfl, rfl, HST.out, Lib.hid (HW.out.drewN _)⟩, by simp [intOf]; omega⟩
                · have hz : ((bst : Int) == 0) = false := by rw [beq_eq_false_iff_ne]; omega
                  by_cases e2 : P2 ≤ P1
                  · have HST := Lib.hid (HS.out m (.inl ⟨hqm, e0, .inr e2, rfl⟩))
                    have hle : decide (P2 ≤ P1) = true := decide_eq_true (by omega)
                    clear HS HQM hpe hon hqm e0 e1 e2
                    go_wp2_with fail
                    go_quiet (fail)
                    go_wp2_with fail
                    exact ⟨⟨r, m, by omega, by omega, rfl, rfl, HST.out, Lib.hid (HW.out.drewN _)⟩, by simp [intOf]; omega⟩
                  · have HST := Lib.hid (HS.out bst (.inr ⟨fun q => (by rcases q.2.2 with q | q <;> omega), rfl⟩))
                    have hle : decide (P2 ≤ P1) = false := decide_eq_false (by omega)
                    clear HS HQM hpe hon hqm e0 e1 e2
                    go_wp2_with fail
                    go_quiet (fail)
                    go_wp2_with fail
                    exact ⟨⟨r, bst, by omega, by omega, rfl, rfl, HST.out, Lib.hid (HW.out.drewN _)⟩, by simp [intOf]; omega⟩
    · have hb := best_other s c (by omega)
      have HB := Lib.hid hb
      have g0 : (c != 0) = true := by rw [bne_iff_ne]; exact h0
      have g1 : (c != 1) = true := by rw [bne_iff_ne]; exact h1
      clear hb
      go_enter Tryd.func38, Tryd.ntmps38
      go_wp2_with fail
      go_ret
      rw [HB.out]
      exact ⟨rfl, HF.out⟩
set_option maxHeartbeats 1000000 in
theorem rLine_c (w : World) (s : PS) (hs : s.Ok) (c : Int) :
    Calls Tryd.prog 39 #[.agg (rlist s).toArray, .int .i64 c] w fun e w' => e = .returned (.bool (s.line c)) ∧ Fr No w w' := by
  have hF := (Fr.refl No w).alloc (.cells (rlist s).toArray 66)
  have hP := RAt.boxed w s hs 66
  have HP := Lib.hid hP
  have HF := Lib.hid hF
  have hi := infoRl s
  clear hP hF
  go_enter Tryd.func39, Tryd.ntmps39
  go_wp2_with (refine wpList_load_seg rfl 66 _ rfl _ _ rfl _ HP.out.seg _ Tryd.underlying66 rfl hi ?_)
  refine (rBest_c _ s hs c).mono ?_
  rintro e w2 ⟨rfl, hf2⟩
  have HP2 := Lib.hid (HP.out.fr hf2 (fun h => h))
  have HF2 := Lib.hid (HF.out.trans hf2)
  clear hf2 hi
  have h31 := hs.best_le c
  obtain ⟨B, hB⟩ : ∃ B, B = s.best c := ⟨_, rfl⟩
  by_cases hb : 0 < s.best c
  · have hc : 0 ≤ c ∧ c < 2 := Classical.byContradiction fun q => by rw [best_other s c q] at hb; omega
    obtain ⟨k, rfl⟩ : ∃ k : Nat, c = (k : Int) := ⟨c.toNat, by omega⟩
    have hk : k < 2 := by omega
    have q1 := HP2.out.prio_ (by omega : s.best (k : Int) < 32)
    have p5 := HP2.out.fl0_
    have p6 := HP2.out.fl1_
    simp only [Nat.zero_add] at p5 p6 q1
    obtain ⟨f, hf⟩ : ∃ f, f = s.fl k := ⟨_, rfl⟩
    have q2 : w2.cell? ⟨w.heap.size, 192 + k, none⟩ = some (.int .u64 (f : Int)) := by
      rw [hf]
      rcases (show k = 0 ∨ k = 1 by omega) with rfl | rfl
      · exact p5
      · exact p6
    have hl : s.line (k : Int) = decide (f < s.pr (s.best (k : Int))) := by
      unfold PS.line
      rw [decide_eq_true hb, Bool.true_and, Int.toNat_natCast, hf]
    obtain ⟨r, hr⟩ : ∃ r, r = s.pr (s.best (k : Int)) := ⟨_, rfl⟩
    rw [← hr] at hl q1
    rw [← hB] at q1 hb h31 ⊢
    have HLN := Lib.hid hl
    clear hr hB hl hf p5 p6 hc
    have hg : decide ((0 : Int) < (B : Int)) = true := decide_eq_true (by omega)
    have hg' : decide (0 < B) = true := decide_eq_true (by omega)
    have hB32 : B < 32 := by omega
    go_wp2_with fail
    go_quiet (fail)
    go_wp2_with fail
    go_ret
    exact ⟨by rw [HLN.out]; simp, HF2.out.drewN _⟩
  · have hl : s.line c = false := by unfold PS.line; rw [decide_eq_false hb]; rfl
    have HLN := Lib.hid hl
    rw [← hB] at hb ⊢
    have hg : decide ((0 : Int) < (B : Int)) = false := decide_eq_false (by omega)
    have hg' : decide (0 < B) = false := decide_eq_false (by omega)
    clear hB hl h31
    go_wp2_with fail
    go_quiet (fail)
    go_wp2_with fail
    go_ret
    exact ⟨by rw [HLN.out]; rfl, HF2.out.drewN _⟩
end Go.Proofs.YtcnglhneknbllaaDoor

-- Laid by a program: a print of this law's functions, with contracts of this session's own put in.
import Derived.Test.YtacgjgmladbgeaaPConfPlacesx0
namespace Go.Proofs.Ytacgjgmladbgeaa.PConfPlaces
open Go.RowKit Go.Proofs.YtacgjgmladbgeaaW.PrintWords Go.Proofs.YtacgjgmladbgeaaW.PrintLast Go.Proofs.YtacgjgmladbgeaaW.PrintMore
attribute [local go_sem] max2_int min2_int max_two min_two max_three min_three max_four min_four   -- for this text's walks alone
set_option linter.unusedVariables false
set_option linter.unusedSimpArgs false

/-! ### bits_width: function 54 -/
def bits_width.f (a0 : Int) (a1 : Int) : Option (Int) := if a0 < 0 then (some 0) else (if a0 > 63 then (some 0) else (if a1 < 1 then (some 0) else (some (mn a1 (wrap64 (64 - a0))))))
set_option maxHeartbeats 8000000 in
set_option maxRecDepth 100000 in
theorem bits_width.calls (a0 : Int) (a1 : Int) (r : Int) (w : World) (h : bits_width.f a0 a1 = some r) :
    Calls Try.prog 54 #[.int .i64 a0, .int .i64 a1] w fun e w' => e = .returned (.int .i64 r) ∧ Below w.heap.size w w' := by
  have HB := Aside0.mk (Below.refl w.heap.size w)
  have H : (if a0 < 0 then (some 0) else (if a0 > 63 then (some 0) else (if a1 < 1 then (some 0) else (some (mn a1 (wrap64 (64 - a0))))))) = some r := h
  clear h
  by_cases c3 : a0 < 0
  · rw [if_pos c3] at H
    have c3b0 : decide (a0 < 0) = true := decide_eq_true c3
    clear c3
    obtain rfl := Option.some.inj H
    go_enter Try.func54, Try.ntmps54
    go_wp2
    go_ret
    exact ⟨by first | rfl | (simp [errW_none, errW_some] <;> rfl) | (simp [*, errW_none, errW_some] <;> rfl), by repeat (first | (with_reducible first | exact HB.out | apply below_alloc | apply pw_below_drewN | apply below_drew1) | exact HB.out)⟩
  · rw [if_neg c3] at H
    have c3b0 : decide (a0 < 0) = false := decide_eq_false c3
    clear c3
    by_cases c4 : a0 > 63
    · rw [if_pos c4] at H
      have c4b0 : decide (63 < a0) = true := decide_eq_true c4
      clear c4
      obtain rfl := Option.some.inj H
      go_enter Try.func54, Try.ntmps54
      go_wp2
      go_ret
      exact ⟨by first | rfl | (simp [errW_none, errW_some] <;> rfl) | (simp [*, errW_none, errW_some] <;> rfl), by repeat (first | (with_reducible first | exact HB.out | apply below_alloc | apply pw_below_drewN | apply below_drew1) | exact HB.out)⟩
    · rw [if_neg c4] at H
      have c4b0 : decide (63 < a0) = false := decide_eq_false c4
      clear c4
      by_cases c5 : a1 < 1
      · rw [if_pos c5] at H
        have c5b0 : decide (a1 < 1) = true := decide_eq_true c5
        clear c5
        obtain rfl := Option.some.inj H
        go_enter Try.func54, Try.ntmps54
        go_wp2
        go_ret
        exact ⟨by first | rfl | (simp [errW_none, errW_some] <;> rfl) | (simp [*, errW_none, errW_some] <;> rfl), by repeat (first | (with_reducible first | exact HB.out | apply below_alloc | apply pw_below_drewN | apply below_drew1) | exact HB.out)⟩
      · rw [if_neg c5] at H
        have c5b0 : decide (a1 < 1) = false := decide_eq_false c5
        clear c5
        obtain ⟨ji6, hji6⟩ : ∃ j_ : Int, (mn a1 (wrap64 (64 - a0))) = j_ := ⟨_, rfl⟩
        replace H : (some ji6) = some r := by first | (rw [hji6] at H; exact H) | (simp only [hji6] at H ⊢; exact H)
        have hji6_ : (if (wrap64 (64 - a0)) < a1 then (wrap64 (64 - a0)) else a1) = ji6 := hji6
        obtain rfl := Option.some.inj H
        go_enter Try.func54, Try.ntmps54
        go_wp2
        go_ret
        exact ⟨by first | rfl | (simp [errW_none, errW_some] <;> rfl) | (simp only [← hji6]; first | rfl | (simp [errW_none, errW_some] <;> rfl)) | (simp [*, errW_none, errW_some] <;> rfl), by repeat (first | (with_reducible first | exact HB.out | apply below_alloc | apply pw_below_drewN | apply below_drew1) | exact HB.out)⟩

/-! ### bits_Mask: function 55 -/
def bits_Mask.f (a0 : Int) : Option (Int) := if a0 ≤ 0 then (some 0) else (if a0 > 63 then (some 18446744073709551615) else (if 0 ≤ a0 then (some (IntKind.u64.wrap ((shl .u64 1 a0) - 1))) else (none)))
set_option maxHeartbeats 8000000 in
set_option maxRecDepth 100000 in
theorem bits_Mask.calls (a0 : Int) (r : Int) (w : World) (h : bits_Mask.f a0 = some r) :
    Calls Try.prog 55 #[.int .i64 a0] w fun e w' => e = .returned (.int .u64 r) ∧ Drawn0 w w' := by
  have H : (if a0 ≤ 0 then (some 0) else (if a0 > 63 then (some 18446744073709551615) else (if 0 ≤ a0 then (some (IntKind.u64.wrap ((shl .u64 1 a0) - 1))) else (none)))) = some r := h
  clear h
  by_cases c2 : a0 ≤ 0
  · rw [if_pos c2] at H
    have c2b0 : decide (a0 ≤ 0) = true := decide_eq_true c2
    clear c2
    obtain rfl := Option.some.inj H
    go_enter Try.func55, Try.ntmps55
    go_wp2
    go_ret
    exact ⟨by first | rfl | (simp; done) | (simp [*]; done), by repeat (first | exact Drawn0.refl _ | apply Drawn0.step)⟩
  · rw [if_neg c2] at H
    have c2b0 : decide (a0 ≤ 0) = false := decide_eq_false c2
    clear c2
    by_cases c3 : a0 > 63
    · rw [if_pos c3] at H
      have c3b0 : decide (63 < a0) = true := decide_eq_true c3
      clear c3
      obtain rfl := Option.some.inj H
      go_enter Try.func55, Try.ntmps55
      go_wp2
      go_ret
      exact ⟨by first | rfl | (simp; done) | (simp [*]; done), by repeat (first | exact Drawn0.refl _ | apply Drawn0.step)⟩
    · rw [if_neg c3] at H
      have c3b0 : decide (63 < a0) = false := decide_eq_false c3
      clear c3
      by_cases c4 : 0 ≤ a0
      · rw [if_pos c4] at H
        have c4b0 := eq_true c4
        have c4b1 : decide (0 ≤ a0) = true := decide_eq_true c4
        clear c4
        obtain ⟨ji5, hji5⟩ : ∃ j_ : Int, (shl .u64 1 a0) = j_ := ⟨_, rfl⟩
        replace H : (some (IntKind.u64.wrap ((ji5) - 1))) = some r := by first | (rw [hji5] at H; exact H) | (simp only [hji5] at H ⊢; exact H)
        have hji5_ : (IntKind.u64.wrap (1 * 2 ^ min a0.toNat 64)) = ji5 := hji5
        have hji5z : a0 ≤ 64 → (IntKind.u64.wrap (1 * 2 ^ a0.toNat)) = ji5 := shl_small hji5
        have hji5u : (IntKind.u64.wrap (2 ^ min a0.toNat 64)) = ji5 := by have h_ := hji5_; rw [Int.one_mul] at h_; exact h_
        have hji5v : a0 ≤ 64 → (IntKind.u64.wrap (2 ^ a0.toNat)) = ji5 := fun hle_ => by have h_ := hji5z hle_; rw [Int.one_mul] at h_; exact h_
        obtain rfl := Option.some.inj H
        go_enter Try.func55, Try.ntmps55
        go_wp2
        go_ret
        exact ⟨by first | rfl | (simp; done) | (simp only [← hji5] <;> (first | rfl | simp)) | (simp [*]; done), by repeat (first | exact Drawn0.refl _ | apply Drawn0.step)⟩
      · rw [if_neg c4] at H
        exact absurd H (by simp)

/-! ### bits_Field: function 46 -/
def bits_Field.f (a0 : Int) (a1 : Int) (a2 : Int) : Option (Int) := (bits_width.f a1 a2).bind fun t101 => (if t101 = 0 then (some 0) else (if 0 ≤ a1 then ((bits_Mask.f t101).bind fun t102 => (some (Go.bits .and .u64 (shr .u64 a0 a1) t102))) else (none)))
set_option maxHeartbeats 8000000 in
set_option maxRecDepth 100000 in
theorem bits_Field.calls (a0 : Int) (a1 : Int) (a2 : Int) (r : Int) (w : World) (h : bits_Field.f a0 a1 a2 = some r) :
    Calls Try.prog 46 #[.int .u64 a0, .int .i64 a1, .int .i64 a2] w fun e w' => e = .returned (.int .u64 r) ∧ Below w.heap.size w w' := by
  have HB := Aside0.mk (Below.refl w.heap.size w)
  have H : ((bits_width.f a1 a2).bind fun t101 => (if t101 = 0 then (some 0) else (if 0 ≤ a1 then ((bits_Mask.f t101).bind fun t102 => (some (Go.bits .and .u64 (shr .u64 a0 a1) t102))) else (none)))) = some r := h
  clear h
  replace H := Option.bind_eq_some_iff.mp H
  obtain ⟨t101, A40, H⟩ := H
  replace H : (if t101 = 0 then (some 0) else (if 0 ≤ a1 then ((bits_Mask.f t101).bind fun t102 => (some (Go.bits .and .u64 (shr .u64 a0 a1) t102))) else (none))) = some r := H
  have A4 := Aside0.mk A40
  clear A40
  by_cases c5 : t101 = 0
  · rw [if_pos c5] at H
    have c5b0 : (t101 == 0) = true := beq_iff_eq.mpr c5
    have c5b1 : (t101 != 0) = false := bne_eq_false_iff_eq.mpr c5
    clear c5
    obtain rfl := Option.some.inj H
    go_enter Try.func46, Try.ntmps46
    go_wp2_with (first | (go_at_call 54; (with_reducible refine (bits_width.calls a1 a2 t101 _ A4.out).mono ?_); rintro e w6 ⟨rfl, hb⟩; have n0_ := Aside0.mk (below_step (by repeat (first | (with_reducible first | exact HB.out | apply below_alloc | apply pw_below_drewN | apply below_drew1) | exact HB.out)) hb); clear HB; have HB := n0_; clear n0_; (try clear hb); (try clear hb2); (try clear hk); (try clear hi)))
    repeat (go_quiet (first | (go_at_call 54; (with_reducible refine (bits_width.calls a1 a2 t101 _ A4.out).mono ?_); rintro e w6 ⟨rfl, hb⟩; have n0_ := Aside0.mk (below_step (by repeat (first | (with_reducible first | exact HB.out | apply below_alloc | apply pw_below_drewN | apply below_drew1) | exact HB.out)) hb); clear HB; have HB := n0_; clear n0_; (try clear hb); (try clear hb2); (try clear hk); (try clear hi))); try go_wp2_with (first | (go_at_call 54; (with_reducible refine (bits_width.calls a1 a2 t101 _ A4.out).mono ?_); rintro e w6 ⟨rfl, hb⟩; have n0_ := Aside0.mk (below_step (by repeat (first | (with_reducible first | exact HB.out | apply below_alloc | apply pw_below_drewN | apply below_drew1) | exact HB.out)) hb); clear HB; have HB := n0_; clear n0_; (try clear hb); (try clear hb2); (try clear hk); (try clear hi))))
    go_ret
    exact ⟨by first | rfl | (simp [errW_none, errW_some] <;> rfl) | (simp [*, errW_none, errW_some] <;> rfl), by repeat (first | (with_reducible first | exact HB.out | apply below_alloc | apply pw_below_drewN | apply below_drew1) | exact HB.out)⟩
  · rw [if_neg c5] at H
    have c5b0 : (t101 == 0) = false := beq_eq_false_iff_ne.mpr c5
    have c5b1 : (t101 != 0) = true := bne_iff_ne.mpr c5
    by_cases c7 : 0 ≤ a1
    · rw [if_pos c7] at H
      have c7b0 := eq_true c7
      have c7b1 : decide (0 ≤ a1) = true := decide_eq_true c7
      clear c7
      obtain ⟨ji8, hji8⟩ : ∃ j_ : Int, (shr .u64 a0 a1) = j_ := ⟨_, rfl⟩
      replace H : ((bits_Mask.f t101).bind fun t102 => (some (Go.bits .and .u64 (ji8) t102))) = some r := by first | (rw [hji8] at H; exact H) | (simp only [hji8] at H ⊢; exact H)
      (try rw [hji8] at A4)
      have hji8_ : (a0 / 2 ^ min a1.toNat 64) = ji8 := hji8
      have hji8z : a1 ≤ 64 → (a0 / 2 ^ a1.toNat) = ji8 := shr_small hji8
      replace H := Option.bind_eq_some_iff.mp H
      obtain ⟨t102, A90, H⟩ := H
      replace H : (some (Go.bits .and .u64 (ji8) t102)) = some r := H
      have A9 := Aside0.mk A90
      clear A90
      obtain rfl := Option.some.inj H
      go_enter Try.func46, Try.ntmps46
      go_wp2_with (first | (go_at_call 54; (with_reducible refine (bits_width.calls a1 a2 t101 _ A4.out).mono ?_); rintro e w10 ⟨rfl, hb⟩; have n0_ := Aside0.mk (below_step (by repeat (first | (with_reducible first | exact HB.out | apply below_alloc | apply pw_below_drewN | apply below_drew1) | exact HB.out)) hb); clear HB; have HB := n0_; clear n0_; (try clear hb); (try clear hb2); (try clear hk); (try clear hi)) | (go_at_call 55; (with_reducible refine (bits_Mask.calls t101 t102 _ A9.out).mono ?_); rintro e w' ⟨rfl, ⟨nd, rfl⟩⟩; (try first | exact ⟨rfl, _, World.drewN_drewN _ _ _⟩ | exact ⟨rfl, _, Eq.trans (World.drewN_drewN _ _ _) (congrArg (World.drewN _) (Nat.add_assoc _ _ _))⟩)))
      repeat (go_quiet (first | (go_at_call 54; (with_reducible refine (bits_width.calls a1 a2 t101 _ A4.out).mono ?_); rintro e w10 ⟨rfl, hb⟩; have n0_ := Aside0.mk (below_step (by repeat (first | (with_reducible first | exact HB.out | apply below_alloc | apply pw_below_drewN | apply below_drew1) | exact HB.out)) hb); clear HB; have HB := n0_; clear n0_; (try clear hb); (try clear hb2); (try clear hk); (try clear hi)) | (go_at_call 55; (with_reducible refine (bits_Mask.calls t101 t102 _ A9.out).mono ?_); rintro e w' ⟨rfl, ⟨nd, rfl⟩⟩; (try first | exact ⟨rfl, _, World.drewN_drewN _ _ _⟩ | exact ⟨rfl, _, Eq.trans (World.drewN_drewN _ _ _) (congrArg (World.drewN _) (Nat.add_assoc _ _ _))⟩))); try go_wp2_with (first | (go_at_call 54; (with_reducible refine (bits_width.calls a1 a2 t101 _ A4.out).mono ?_); rintro e w10 ⟨rfl, hb⟩; have n0_ := Aside0.mk (below_step (by repeat (first | (with_reducible first | exact HB.out | apply below_alloc | apply pw_below_drewN | apply below_drew1) | exact HB.out)) hb); clear HB; have HB := n0_; clear n0_; (try clear hb); (try clear hb2); (try clear hk); (try clear hi)) | (go_at_call 55; (with_reducible refine (bits_Mask.calls t101 t102 _ A9.out).mono ?_); rintro e w' ⟨rfl, ⟨nd, rfl⟩⟩; (try first | exact ⟨rfl, _, World.drewN_drewN _ _ _⟩ | exact ⟨rfl, _, Eq.trans (World.drewN_drewN _ _ _) (congrArg (World.drewN _) (Nat.add_assoc _ _ _))⟩))))
      go_ret
      exact ⟨by first | rfl | (simp [errW_none, errW_some] <;> rfl) | (simp only [← hji8]; first | rfl | (simp [errW_none, errW_some] <;> rfl)) | (simp [*, errW_none, errW_some] <;> rfl), by repeat (first | (with_reducible first | exact HB.out | apply below_alloc | apply pw_below_drewN | apply below_drew1) | exact HB.out)⟩
    · rw [if_neg c7] at H
      exact absurd H (by simp)

/-! ### conf_whole: function 35 -/
def conf_whole.f (a0 : Int) : Option (Bool) := (bits_Field.f a0 0 12).bind fun t103 => (some (t103 == 0))
set_option maxHeartbeats 8000000 in
set_option maxRecDepth 100000 in
theorem conf_whole.calls (a0 : Int) (r : Bool) (w : World) (h : conf_whole.f a0 = some r) :
    Calls Try.prog 35 #[.int .u64 a0] w fun e w' => e = .returned (.bool r) ∧ Below w.heap.size w w' := by
  have HB := Aside0.mk (Below.refl w.heap.size w)
  have H : ((bits_Field.f a0 0 12).bind fun t103 => (some (t103 == 0))) = some r := h
  clear h
  replace H := Option.bind_eq_some_iff.mp H
  obtain ⟨t103, A20, H⟩ := H
  replace H : (some (t103 == 0)) = some r := H
  have A2 := Aside0.mk A20
  clear A20
  obtain rfl := Option.some.inj H
  go_enter Try.func35, Try.ntmps35
  go_wp2_with (first | ((with_reducible refine gate_callee (f := 46) rfl ?_); refine goesL_ (some 4) rfl rfl Try.func46 (by kernel_rfl) rfl #[.int .u64 a0, .int .i64 0, .int .i64 12] rfl (by (try simp only [List.map_toArray, List.map_cons, List.map_nil]); first | done | rfl | (simp only [List.length_drop, List.length_take]; rfl)) ?_; (with_reducible refine (bits_Field.calls a0 0 12 t103 _ A2.out).mono ?_); rintro e w3 ⟨rfl, hb⟩; refine ⟨_, rfl, ?_⟩; have n0_ := Aside0.mk (below_step (by repeat (first | (with_reducible first | exact HB.out | apply below_alloc | apply pw_below_drewN | apply below_drew1) | exact HB.out)) hb); clear HB; have HB := n0_; clear n0_; (try clear hb); (try clear hb2); (try clear hk); (try clear hi)))
  go_ret
  exact ⟨by first | rfl | (simp [errW_none, errW_some] <;> rfl) | (simp [*, errW_none, errW_some] <;> rfl), by repeat (first | (with_reducible first | exact HB.out | apply below_alloc | apply pw_below_drewN | apply below_drew1) | exact HB.out)⟩

/-! ### conf_lies: function 47 -/
def conf_lies.f (a0_0 : Int) (a0_1 : Int) (a1 : Int) : Option (Bool) := if a0_0 ≥ 2148532224 then (if a0_0 < (IntKind.u64.wrap (2147483648 + a1)) then (some (decide (a0_1 ≤ (IntKind.u64.wrap ((IntKind.u64.wrap (2147483648 + a1)) - a0_0))))) else (some false)) else (some false)
set_option maxHeartbeats 8000000 in
set_option maxRecDepth 100000 in
theorem conf_lies.calls (a0_0 : Int) (a0_1 : Int) (a1 : Int) (r : Bool) (w : World) (h : conf_lies.f a0_0 a0_1 a1 = some r) :
    Calls Try.prog 47 #[.agg #[.int .u64 a0_0, .int .u64 a0_1], .int .u64 a1] w fun e w' => e = .returned (.bool r) ∧ Below w.heap.size w w' := by
  have hu53 := Try.underlying53
  have HB := Aside0.mk (Below.refl w.heap.size w)
  have H : (if a0_0 ≥ 2148532224 then (if a0_0 < (IntKind.u64.wrap (2147483648 + a1)) then (some (decide (a0_1 ≤ (IntKind.u64.wrap ((IntKind.u64.wrap (2147483648 + a1)) - a0_0))))) else (some false)) else (some false)) = some r := h
  clear h
  by_cases c3 : a0_0 ≥ 2148532224
  · rw [if_pos c3] at H
    have c3b0 : decide (2148532224 ≤ a0_0) = true := decide_eq_true c3
    clear c3
    by_cases c4 : a0_0 < (IntKind.u64.wrap (2147483648 + a1))
    · rw [if_pos c4] at H
      have c4b0 : decide (a0_0 < (IntKind.u64.wrap (2147483648 + a1))) = true := decide_eq_true c4
      clear c4
      obtain rfl := Option.some.inj H
      go_enter Try.func47, Try.ntmps47
      go_wp2_with (first | ((with_reducible refine gate_dst (N := 2) rfl ?_); refine box_event ?hg (N := 2) ?hd (cs := #[.int .u64 a0_0, .int .u64 a0_1]) (t := 53) ?hr ?_; (case hd => rfl); (case hg => rfl); (case hr => first | (go_simp; done) | (go_simp; rfl)); intro gb104 hg w5 hbox hb; have n0_ := Aside0.mk (below_step (by repeat (first | (with_reducible first | exact HB.out | apply below_alloc | apply pw_below_drewN | apply below_drew1) | exact HB.out)) hb); have n1_ := Aside0.mk (hbox); have n2_ := Aside0.mk ((by rw [hg]; exact (below_size (by repeat (first | (with_reducible first | exact HB.out | apply below_alloc | apply pw_below_drewN | apply below_drew1) | exact HB.out))) : w.heap.size ≤ gb104)); have n3_ := Aside0.mk ((by rw [hg]; exact (below_size (by repeat (first | (with_reducible first | exact HB.out | apply below_alloc | apply pw_below_drewN | apply below_drew1) | exact HB.out))) : w.heap.size ≤ gb104)); clear HB; have HB := n0_; have BK104 := n1_; have GW104 := n2_; have GE104 := n3_; clear n0_ n1_ n2_ n3_; clear hb hbox hg; have hcz6_0 : w5.cell? ⟨gb104, 0, none⟩ = some (.int .u64 a0_0) := (blk_cell BK104.out 0).trans rfl; have hcz6_1 : w5.cell? ⟨gb104, 1, none⟩ = some (.int .u64 a0_1) := (blk_cell BK104.out 1).trans rfl; have hfz6_0 := blk_frozen BK104.out 0; have hfz6_1 := blk_frozen BK104.out 1))
      go_ret
      exact ⟨by first | rfl | (simp [errW_none, errW_some] <;> rfl) | (simp [*, errW_none, errW_some] <;> rfl), by repeat (first | (with_reducible first | exact HB.out | apply below_alloc | apply pw_below_drewN | apply below_drew1 | refine below_set ?_ GE104.out) | exact HB.out)⟩
    · rw [if_neg c4] at H
      have c4b0 : decide (a0_0 < (IntKind.u64.wrap (2147483648 + a1))) = false := decide_eq_false c4
      clear c4
      obtain rfl := Option.some.inj H
      go_enter Try.func47, Try.ntmps47
      go_wp2_with (first | ((with_reducible refine gate_dst (N := 2) rfl ?_); refine box_event ?hg (N := 2) ?hd (cs := #[.int .u64 a0_0, .int .u64 a0_1]) (t := 53) ?hr ?_; (case hd => rfl); (case hg => rfl); (case hr => first | (go_simp; done) | (go_simp; rfl)); intro gb104 hg w7 hbox hb; have n0_ := Aside0.mk (below_step (by repeat (first | (with_reducible first | exact HB.out | apply below_alloc | apply pw_below_drewN | apply below_drew1) | exact HB.out)) hb); have n1_ := Aside0.mk (hbox); have n2_ := Aside0.mk ((by rw [hg]; exact (below_size (by repeat (first | (with_reducible first | exact HB.out | apply below_alloc | apply pw_below_drewN | apply below_drew1) | exact HB.out))) : w.heap.size ≤ gb104)); have n3_ := Aside0.mk ((by rw [hg]; exact (below_size (by repeat (first | (with_reducible first | exact HB.out | apply below_alloc | apply pw_below_drewN | apply below_drew1) | exact HB.out))) : w.heap.size ≤ gb104)); clear HB; have HB := n0_; have BK104 := n1_; have GW104 := n2_; have GE104 := n3_; clear n0_ n1_ n2_ n3_; clear hb hbox hg; have hcz8_0 : w7.cell? ⟨gb104, 0, none⟩ = some (.int .u64 a0_0) := (blk_cell BK104.out 0).trans rfl; have hcz8_1 : w7.cell? ⟨gb104, 1, none⟩ = some (.int .u64 a0_1) := (blk_cell BK104.out 1).trans rfl; have hfz8_0 := blk_frozen BK104.out 0; have hfz8_1 := blk_frozen BK104.out 1))
      go_ret
      exact ⟨by first | rfl | (simp [errW_none, errW_some] <;> rfl) | (simp [*, errW_none, errW_some] <;> rfl), by repeat (first | (with_reducible first | exact HB.out | apply below_alloc | apply pw_below_drewN | apply below_drew1 | refine below_set ?_ GE104.out) | exact HB.out)⟩
  · rw [if_neg c3] at H
    have c3b0 : decide (2148532224 ≤ a0_0) = false := decide_eq_false c3
    clear c3
    obtain rfl := Option.some.inj H
    go_enter Try.func47, Try.ntmps47
    go_wp2_with (first | ((with_reducible refine gate_dst (N := 2) rfl ?_); refine box_event ?hg (N := 2) ?hd (cs := #[.int .u64 a0_0, .int .u64 a0_1]) (t := 53) ?hr ?_; (case hd => rfl); (case hg => rfl); (case hr => first | (go_simp; done) | (go_simp; rfl)); intro gb104 hg w9 hbox hb; have n0_ := Aside0.mk (below_step (by repeat (first | (with_reducible first | exact HB.out | apply below_alloc | apply pw_below_drewN | apply below_drew1) | exact HB.out)) hb); have n1_ := Aside0.mk (hbox); have n2_ := Aside0.mk ((by rw [hg]; exact (below_size (by repeat (first | (with_reducible first | exact HB.out | apply below_alloc | apply pw_below_drewN | apply below_drew1) | exact HB.out))) : w.heap.size ≤ gb104)); have n3_ := Aside0.mk ((by rw [hg]; exact (below_size (by repeat (first | (with_reducible first | exact HB.out | apply below_alloc | apply pw_below_drewN | apply below_drew1) | exact HB.out))) : w.heap.size ≤ gb104)); clear HB; have HB := n0_; have BK104 := n1_; have GW104 := n2_; have GE104 := n3_; clear n0_ n1_ n2_ n3_; clear hb hbox hg; have hcz10_0 : w9.cell? ⟨gb104, 0, none⟩ = some (.int .u64 a0_0) := (blk_cell BK104.out 0).trans rfl; have hcz10_1 : w9.cell? ⟨gb104, 1, none⟩ = some (.int .u64 a0_1) := (blk_cell BK104.out 1).trans rfl; have hfz10_0 := blk_frozen BK104.out 0; have hfz10_1 := blk_frozen BK104.out 1))
    go_ret
    exact ⟨by first | rfl | (simp [errW_none, errW_some] <;> rfl) | (simp [*, errW_none, errW_some] <;> rfl), by repeat (first | (with_reducible first | exact HB.out | apply below_alloc | apply pw_below_drewN | apply below_drew1 | refine below_set ?_ GE104.out) | exact HB.out)⟩

-- NOT PRINTED: function 56 (api_Guest_56)

-- NOT PRINTED: function 48 (api_Guest_48)

/-! ### conf_bars: by hand (it hands a function value to the library) -/
def toCG (g : S53) : CG := ⟨g.f0.toNat, g.f1.toNat⟩
def fit64 (x : Int) : Bool := decide (0 ≤ x) && decide (x < 18446744073709551616)
def conf_bars.f (a0_0 : Int) (a0_1 : Int) (l1 : List (S53)) (a2 : Int) : Option (Int) :=
  if (fit64 a0_0 && fit64 a0_1 && l1.all (fun g => fit64 g.f0 && fit64 g.f1) && decide (l1.length ≤ 100) && decide (0 ≤ a2) && decide (a2 ≤ 67108864)) = true then some ((CG.bars a2.toNat (l1.map toCG) ⟨a0_0.toNat, a0_1.toNat⟩ : Nat) : Int) else none
theorem fit64_nat {x : Int} (h : fit64 x = true) : ∃ n : Nat, x = (n : Int) ∧ n < 18446744073709551616 := by
  unfold fit64 at h
  simp only [Bool.and_eq_true, decide_eq_true_eq] at h
  exact ⟨x.toNat, by omega, by omega⟩
theorem conf_meet_any (g o : CG) (hg : g.Ok) (ho : o.Ok) (w : World) :
    Calls Try.prog 50 #[.agg #[.int .u64 (g.base : Int), .int .u64 (g.size : Int)], .agg #[.int .u64 (o.base : Int), .int .u64 (o.size : Int)]] w fun e w' => e = .returned (.bool (g.meets o)) ∧ Below w.heap.size w w' := by
  obtain ⟨m, hm⟩ : ∃ m, m = (o.base + o.size) % 18446744073709551616 := ⟨_, rfl⟩
  obtain ⟨n, hn⟩ : ∃ n, n = (g.base + g.size) % 18446744073709551616 := ⟨_, rfl⟩
  have h1 : IntKind.u64.wrap ((o.base : Int) + (o.size : Int)) = (m : Int) := by rw [IntKind.wrap_u64]; omega
  have h2 : IntKind.u64.wrap ((g.base : Int) + (g.size : Int)) = (n : Int) := by rw [IntKind.wrap_u64]; omega
  have hr : g.meets o = (decide (g.base < m) && decide (o.base < n)) := by unfold CG.meets; rw [← hm, ← hn]
  have HR := Lib.hid hr
  clear hr hm hn hg ho
  by_cases c1 : g.base < m
  · have d1 : decide (g.base < m) = true := decide_eq_true c1
    by_cases c2 : o.base < n
    · have d2 : decide (o.base < n) = true := decide_eq_true c2
      clear c1 c2
      go_enter Try.func50, Try.ntmps50
      go_wp2_with fail
      go_ret
      exact ⟨by rw [HR.out, d1, d2]; rfl, ((Below.refl _ _).alloc (Nat.le_refl _) _).alloc (by simp) _⟩
    · have d2 : decide (o.base < n) = false := decide_eq_false c2
      clear c1 c2
      go_enter Try.func50, Try.ntmps50
      go_wp2_with fail
      go_ret
      exact ⟨by rw [HR.out, d1, d2]; rfl, ((Below.refl _ _).alloc (Nat.le_refl _) _).alloc (by simp) _⟩
  · have d1 : decide (g.base < m) = false := decide_eq_false c1
    clear c1
    go_enter Try.func50, Try.ntmps50
    go_wp2_with fail
    go_ret
    exact ⟨by rw [HR.out, d1]; rfl, ((Below.refl _ _).alloc (Nat.le_refl _) _).alloc (by simp) _⟩
theorem bars_closure (B : Nat) (g o : CG) (hg : g.Ok) (ho : o.Ok) (w : World) (h0 : w.cell? ⟨B, 0, none⟩ = some (.int .u64 (g.base : Int))) (h1 : w.cell? ⟨B, 1, none⟩ = some (.int .u64 (g.size : Int))) :
    Calls Try.prog 49 #[.agg #[.int .u64 (o.base : Int), .int .u64 (o.size : Int)], .pointer (some ⟨B, 0, none⟩)] w fun e w' => e = .returned (.bool (g.meets o)) ∧ Below w.heap.size w w' := by
  have HG := Lib.hid hg
  have HO := Lib.hid ho
  have hB : B < w.heap.size := World.block_lt_of_cell? w _ h0
  have q0 := (World.cell?_alloc_lt w (.cells #[.int .u64 (o.base : Int), .int .u64 (o.size : Int)] 53) ⟨B, 0, none⟩ hB).trans h0
  have q1 := (World.cell?_alloc_lt w (.cells #[.int .u64 (o.base : Int), .int .u64 (o.size : Int)] 53) ⟨B, 1, none⟩ hB).trans h1
  clear hg ho hB
  go_enter Try.func49, Try.ntmps49
  go_wp2_with fail
  refine (conf_meet_any g o HG.out HO.out _).mono ?_
  rintro e w1 ⟨rfl, hb⟩
  have HB := Lib.hid hb
  clear hb
  go_wp2_with fail
  go_ret
  exact ⟨rfl, ((Below.refl _ _).alloc (Nat.le_refl _) _).trans (HB.out.mono (by simp))⟩
/-- Where in a row of guests the one at `i` lies. -/
theorem bars_cells {w : World} {A : Option Addr} {l : List (S53)} (hr : Kd.C k53 w A l.length l) (hl : l.all (fun g => fit64 g.f0 && fit64 g.f1) = true) (i : Nat) (hi : i < l.length) :
    ∃ g o, A = some ⟨g, o, none⟩ ∧ ((l.map toCG).getD i ⟨0, 0⟩).Ok ∧ w.cell? ⟨g, o + i * 2, none⟩ = some (.int .u64 (((l.map toCG).getD i ⟨0, 0⟩).base : Int)) ∧ w.cell? ⟨g, o + i * 2 + 1, none⟩ = some (.int .u64 (((l.map toCG).getD i ⟨0, 0⟩).size : Int)) := by
  obtain ⟨ad, rfl, h1, h2⟩ := at_T53 hr (i : Int) (by omega) (by omega)
  have hm : rd_T53 l (i : Int) ∈ l := by
    unfold rd_T53
    rw [Int.toNat_natCast, List.getD_eq_getElem?_getD, List.getElem?_eq_getElem hi]
    exact List.getElem_mem hi
  have hok := List.all_eq_true.1 hl _ hm
  simp only [Bool.and_eq_true] at hok
  obtain ⟨x, hx, hx2⟩ := fit64_nat hok.1
  obtain ⟨y, hy, hy2⟩ := fit64_nat hok.2
  have e : (l.map toCG).getD i ⟨0, 0⟩ = ⟨x, y⟩ := by
    unfold rd_T53 at hx hy
    rw [Int.toNat_natCast, List.getD_eq_getElem?_getD, List.getElem?_eq_getElem hi] at hx hy
    rw [List.getD_eq_getElem?_getD, List.getElem?_map, List.getElem?_eq_getElem hi]
    simp only [Option.getD_some] at hx hy
    simp only [Option.map_some, Option.getD_some, toCG, hx, hy, Int.toNat_natCast]
  rw [hx] at h1
  rw [hy] at h2
  rw [e]
  obtain ⟨g, o, sp⟩ := ad
  rw [Int.toNat_natCast] at h1 h2
  cases sp with
  | none => exact ⟨g, o, rfl, ⟨hx2, hy2⟩, by rw [addr_add] at h1; exact h1, by rw [addr_add] at h2; exact h2⟩
  | some sp =>
    exfalso
    obtain ⟨ad, ha, h3, _⟩ := at_T53 hr 0 (by omega) (by omega)
    obtain rfl := (Option.some.inj ha).symm
    have hsp : (⟨g, o, some sp⟩ : Addr).add ((0 : Int).toNat * 2) = ⟨g, o, some sp⟩ := rfl
    rw [hsp] at h3
    unfold World.cell? at h3
    split at h3 <;> simp at h3
/-- The library's search, with this closure. -/
theorem bars_index (B : Nat) (g : CG) (hg : g.Ok) (A : Option Addr) (c : Nat) (l : List (S53)) (w : World) (h0 : w.cell? ⟨B, 0, none⟩ = some (.int .u64 (g.base : Int))) (h1 : w.cell? ⟨B, 1, none⟩ = some (.int .u64 (g.size : Int)))
    (hr : Kd.C k53 w A l.length l) (hc : l.length ≤ c) (hm : l.length ≤ 100) (hl : l.all (fun g => fit64 g.f0 && fit64 g.f1) = true) :
    Calls Try.prog 56 #[.slice A l.length c, .func (.func 49) #[] #[.pointer (some ⟨B, 0, none⟩)]] w fun e w' => ∃ r : Int, e = .returned (.int .i64 r) ∧ decide (0 ≤ r) = (l.map toCG).any (fun o => g.meets o) ∧ Below w.heap.size w w' := by
  have HG := Lib.hid hg
  have HC := Lib.hid (bars_cells hr hl)
  obtain ⟨n, hn⟩ : ∃ n, n = l.length := ⟨_, rfl⟩
  obtain ⟨L, hL⟩ : ∃ L, L = l.map toCG := ⟨_, rfl⟩
  have hLn : L.length = n := by rw [hL, hn, List.length_map]
  rw [← hL, ← hn] at HC
  rw [← hL, ← hn]
  rw [← hn] at hc hm
  have HL := Lib.hid hLn
  have H0 := Lib.hid h0
  have H1 := Lib.hid h1
  have HB := Lib.hid (World.block_lt_of_cell? w _ h0)
  clear hg hr hl hn hL hLn h0 h1
  go_enter Try.func56, Try.ntmps56
  go_wp2_with fail
  go_loopw [8] (fun i wr => ∃ k : Nat, k ≤ n ∧ i = .int .i64 (k : Int) ∧ Hid ((L.take k).any (fun o => g.meets o) = false) ∧ Hid (Below w.heap.size w wr)) (fun i _ => n - (intOf i).toNat)
  case atStart => exact ⟨0, Nat.zero_le _, rfl, Lib.hid rfl, Lib.hid (Below.refl _ _)⟩
  case round =>
    obtain ⟨k, hk, rfl, HA, HW⟩ := hrel
    by_cases hlt : k < n
    · obtain ⟨gb, o, rfl, hok, hc1, hc2⟩ := HC.out k hlt
      have b1 := World.block_lt_of_cell? w _ hc1
      have q1 := (HW.out.cell (p := ⟨gb, o + k * 2, none⟩) b1).trans hc1
      have q2 := (HW.out.cell (p := ⟨gb, o + k * 2 + 1, none⟩) b1).trans hc2
      obtain ⟨x, hx⟩ : ∃ x, x = L.getD k ⟨0, 0⟩ := ⟨_, rfl⟩
      rw [← hx] at hok q1 q2
      have HOK := Lib.hid hok
      have HX := Lib.hid hx
      clear hok hc1 hc2 b1 hx
      have p0 := (HW.out.cell (p := ⟨B, 0, none⟩) HB.out).trans H0.out
      have p1 := (HW.out.cell (p := ⟨B, 1, none⟩) HB.out).trans H1.out
      have HQ := Lib.hid (bars_closure B g x HG.out HOK.out wr p0 p1)
      clear p0 p1
      obtain ⟨m, hm'⟩ : ∃ m, m = g.meets x := ⟨_, rfl⟩
      rw [← hm'] at HQ
      have HM := Lib.hid hm'
      clear hm'
      have htk : (L.take (k + 1)).any (fun o => g.meets o) = m := by
        have hx : L[k]? = some x := by
          have h2 : k < L.length := by rw [HL.out]; exact hlt
          rw [HX.out, List.getD_eq_getElem?_getD, List.getElem?_eq_getElem h2]
          rfl
        rw [List.take_add_one, hx, Option.toList_some, List.any_append, HA.out, HM.out]
        simp
      have HT := Lib.hid htk
      clear htk
      cases m
      · go_wp2_with fail
        refine HQ.out.mono ?_
        rintro e w1 ⟨rfl, hb⟩
        have HW1 := Lib.hid (HW.out.trans (hb.mono HW.out.size))
        clear hb
        go_wp2_with fail
        exact ⟨⟨k + 1, hlt, rfl, HT, HW1⟩, by simp [intOf]; omega⟩
      · go_wp2_with fail
        refine HQ.out.mono ?_
        rintro e w1 ⟨rfl, hb⟩
        have HW1 := Lib.hid (HW.out.trans (hb.mono HW.out.size))
        have hany : L.any (fun o => g.meets o) = true := by
          obtain ⟨o, ho, h1⟩ := List.any_eq_true.1 HT.out
          exact List.any_eq_true.2 ⟨o, List.mem_of_mem_take ho, h1⟩
        have HY := Lib.hid hany
        clear hb hany
        go_wp2_with fail
        go_ret
        exact ⟨k, rfl, by rw [HY.out]; exact decide_eq_true (by omega), HW1.out⟩
    · have hL : L.take k = L := List.take_of_length_le (by rw [HL.out]; omega)
      rw [hL] at HA
      clear hL
      go_wp2_with fail
      go_ret
      exact ⟨-1, rfl, by rw [HA.out]; rfl, HW.out⟩
theorem bars_contains (B : Nat) (g : CG) (hg : g.Ok) (A : Option Addr) (c : Nat) (l : List (S53)) (w : World) (h0 : w.cell? ⟨B, 0, none⟩ = some (.int .u64 (g.base : Int))) (h1 : w.cell? ⟨B, 1, none⟩ = some (.int .u64 (g.size : Int)))
    (hr : Kd.C k53 w A l.length l) (hc : l.length ≤ c) (hm : l.length ≤ 100) (hl : l.all (fun g => fit64 g.f0 && fit64 g.f1) = true) :
    Calls Try.prog 48 #[.slice A l.length c, .func (.func 49) #[] #[.pointer (some ⟨B, 0, none⟩)]] w fun e w' => e = .returned (.bool ((l.map toCG).any (fun o => g.meets o))) ∧ Below w.heap.size w w' := by
  have HI := Lib.hid (bars_index B g hg A c l w h0 h1 hr hc hm hl)
  clear hg hr hl h0 h1
  go_enter Try.func48, Try.ntmps48
  go_wp2_with fail
  refine HI.out.mono ?_
  rintro e w1 ⟨r, rfl, h2, hb⟩
  have H2 := Lib.hid h2
  have HB := Lib.hid hb
  clear h2 hb
  go_wp2_with fail
  go_ret
  exact ⟨by rw [← H2.out]; rfl, HB.out⟩
theorem and4095 (v : Nat) (h : v < 18446744073709551616) : Go.bits .and .u64 (v : Int) 4095 = ((v % 4096 : Nat) : Int) := by
  have e : Go.bits .and .u64 (v : Int) ((4095 : Nat) : Int) = ((v &&& 4095 : Nat) : Int) := u64_and_nat v 4095 h (by omega)
  have e2 : v &&& 4095 = v % 4096 := Nat.and_two_pow_sub_one_eq_mod v 12
  rw [e2] at e
  exact e
theorem whole_f (v : Nat) (h : v < 18446744073709551616) : conf_whole.f (v : Int) = some (decide (v % 4096 = 0)) := by
  have e : bits_Field.f (v : Int) 0 12 = some ((v % 4096 : Nat) : Int) := by
    have e1 : bits_width.f 0 12 = some 12 := by kernel_rfl
    have e2 : bits_Mask.f 12 = some 4095 := by kernel_rfl
    have e3 : shr .u64 (v : Int) 0 = (v : Int) := by unfold shr; simp
    unfold bits_Field.f
    rw [e1]
    simp only [Option.bind_some, e2, e3, and4095 v h]
    rfl
  unfold conf_whole.f
  rw [e]
  simp only [Option.bind_some]
  congr 1
  rw [Bool.eq_iff_iff, beq_iff_eq, decide_eq_true_eq]
  omega
theorem lies_f (ram : Nat) (g : CG) (hg : g.Ok) (hr : ram ≤ 67108864) (h0 : 0 < g.size) : conf_lies.f (g.base : Int) (g.size : Int) (ram : Int) = some (g.lies ram) := by
  have hb := hg.base
  have hs := hg.size
  have e1 : IntKind.u64.wrap (2147483648 + (ram : Int)) = 2147483648 + (ram : Int) := by rw [IntKind.wrap_u64]; omega
  unfold conf_lies.f CG.lies
  rw [e1]
  by_cases c1 : (g.base : Int) ≥ 2148532224
  · rw [if_pos c1, decide_eq_true (p := 2148532224 ≤ g.base) (by omega)]
    by_cases c2 : (g.base : Int) < 2147483648 + (ram : Int)
    · have e2 : IntKind.u64.wrap (2147483648 + (ram : Int) - (g.base : Int)) = 2147483648 + (ram : Int) - (g.base : Int) := by rw [IntKind.wrap_u64]; omega
      rw [if_pos c2, e2, Bool.true_and]
      congr 1
      rw [decide_eq_decide]
      omega
    · rw [if_neg c2, Bool.true_and, decide_eq_false (p := g.base + g.size ≤ 2147483648 + ram) (by omega)]
  · rw [if_neg c1, decide_eq_false (p := 2148532224 ≤ g.base) (by omega), Bool.false_and]
/-- Since w a block of two cells has been laid, and nothing that was there has changed. -/
structure BoxAt (w w' : World) (x y : Value) : Prop where
  lt : w.heap.size < w'.heap.size
  c0 : w'.cell? ⟨w.heap.size, 0, none⟩ = some x
  c1 : w'.cell? ⟨w.heap.size, 1, none⟩ = some y
  below : Below w.heap.size w w'
theorem BoxAt.new (w : World) (x y : Value) (t : TypeId) : BoxAt w (w.alloc (.cells #[x, y] t)) x y :=
  ⟨by simp, (Blk.new w t #[x, y]).cell 0, (Blk.new w t #[x, y]).cell 1, (Below.refl w.heap.size w).alloc (Nat.le_refl _) _⟩
theorem BoxAt.next {w w1 w2 : World} {x y : Value} (h : BoxAt w w1 x y) (hb : Below w1.heap.size w1 w2) : BoxAt w w2 x y :=
  ⟨Nat.lt_of_lt_of_le h.lt hb.size, (hb.cell (p := ⟨w.heap.size, 0, none⟩) h.lt).trans h.c0, (hb.cell (p := ⟨w.heap.size, 1, none⟩) h.lt).trans h.c1, h.below.trans (hb.mono (Nat.le_of_lt h.lt))⟩
set_option maxRecDepth 100000 in
theorem conf_bars.calls (a0_0 : Int) (a0_1 : Int) (A1 : Option Addr) (c1 : Nat) (l1 : List (S53)) (a2 : Int) (r : Int) (w : World) (hr1 : Kd.C k53 w A1 l1.length l1) (hc1 : l1.length ≤ c1) (h : conf_bars.f a0_0 a0_1 l1 a2 = some r) :
    Calls Try.prog 36 #[.agg #[.int .u64 a0_0, .int .u64 a0_1], .slice A1 l1.length c1, .int .u64 a2] w fun e w' => e = .returned (.int .i64 r) ∧ Below w.heap.size w w' := by
  unfold conf_bars.f at h
  split at h
  case isFalse => cases h
  rename_i hok
  simp only [Bool.and_eq_true, decide_eq_true_eq] at hok
  obtain ⟨⟨⟨⟨⟨ho1, ho2⟩, ho3⟩, ho4⟩, ho5⟩, ho6⟩ := hok
  obtain ⟨b, rfl, hb⟩ := fit64_nat ho1
  obtain ⟨z, rfl, hz⟩ := fit64_nat ho2
  obtain ⟨m, rfl⟩ : ∃ m : Nat, a2 = (m : Int) := ⟨a2.toNat, by omega⟩
  obtain rfl := (Option.some.inj h).symm
  simp only [Int.toNat_natCast]
  have HQ := Lib.hid (fun (w' : World) (hw : Below w.heap.size w w') (B : Nat) (h0 : w'.cell? ⟨B, 0, none⟩ = some (.int .u64 (b : Int))) (h1 : w'.cell? ⟨B, 1, none⟩ = some (.int .u64 (z : Int))) =>
    bars_contains B ⟨b, z⟩ ⟨hb, hz⟩ A1 c1 l1 w' h0 h1 (Kd.C_below hr1 hw) hc1 ho4 (by simpa using ho3))
  have HW1 := Lib.hid (fun w' => conf_whole.calls (z : Int) _ w' (whole_f z hz))
  have HW2 := Lib.hid (fun w' => conf_whole.calls (b : Int) _ w' (whole_f b hb))
  have HLI := Lib.hid (fun (h0 : 0 < z) w' => conf_lies.calls (b : Int) (z : Int) (m : Int) _ w' (lies_f m ⟨b, z⟩ ⟨hb, hz⟩ (by omega) h0))
  have HR := Lib.hid (show CG.bars m (l1.map toCG) ⟨b, z⟩ = if z = 0 ∨ 2097152 < z ∨ z % 4096 ≠ 0 then 251 else if b % 4096 ≠ 0 then 252 else if (CG.mk b z).lies m = false then 253 else if (l1.map toCG).any (fun o => (CG.mk b z).meets o) = true then 254 else 0 from rfl)
  have BX := Lib.hid (BoxAt.new w (.int .u64 (b : Int)) (.int .u64 (z : Int)) 53)
  clear hb hz h ho1 ho2 ho3 ho4 ho5 ho6 hr1
  have d0 : ∀ x : Bool, x = true ∨ x = false := fun x => by cases x <;> simp
  by_cases z0 : z = 0
  · subst z0
    rw [show CG.bars m (l1.map toCG) ⟨b, 0⟩ = 251 from by rw [HR.out, if_pos (.inl rfl)]]
    clear d0
    go_enter Try.func36, Try.ntmps36
    go_wp2_with fail
    go_ret
    exact ⟨rfl, BX.out.below⟩
  · have z0' : ((z : Int) == 0) = false := by rw [beq_eq_false_iff_ne]; omega
    have HZ := Lib.hid (show 0 < z by omega)
    clear z0
    by_cases z1 : 2097152 < z
    · rw [show CG.bars m (l1.map toCG) ⟨b, z⟩ = 251 from by rw [HR.out, if_pos (.inr (.inl z1))]]
      clear d0
      go_enter Try.func36, Try.ntmps36
      go_wp2_with fail
      go_ret
      exact ⟨rfl, BX.out.below⟩
    · rcases d0 (decide (z % 4096 = 0)) with d1 | d1
      · have D1 := Lib.hid d1
        have z2 : z % 4096 = 0 := of_decide_eq_true d1
        rcases d0 (decide (b % 4096 = 0)) with d2 | d2
        · have D2 := Lib.hid d2
          have z3 : b % 4096 = 0 := of_decide_eq_true d2
          rcases d0 ((CG.mk b z).lies m) with d3 | d3
          · have D3 := Lib.hid d3
            obtain ⟨q, hq⟩ : ∃ q, q = (l1.map toCG).any (fun o => (CG.mk b z).meets o) := ⟨_, rfl⟩
            rw [show CG.bars m (l1.map toCG) ⟨b, z⟩ = if q = true then 254 else 0 from by rw [HR.out, if_neg (by have := HZ.out; omega), if_neg (by omega), if_neg (by rw [d3]; exact fun h => by cases h), ← hq]]
            rw [← hq] at HQ
            clear d0 d1 d2 d3 z2 z3 hq HR
            cases q
            · go_enter Try.func36, Try.ntmps36
              go_wp2_with fail
              refine (HW1.out _).mono ?_
              rintro e w1 ⟨rfl, h_⟩
              have B1 := Lib.hid (BX.out.next h_)
              have r0 := B1.out.c0
              have r1 := B1.out.c1
              rw [D1.out]
              clear h_
              go_wp2_with fail
              refine (HW2.out _).mono ?_
              rintro e w2 ⟨rfl, h_⟩
              have B2 := Lib.hid (B1.out.next h_)
              have s0 := B2.out.c0
              have s1 := B2.out.c1
              clear r0 r1
              have r0 := s0
              have r1 := s1
              clear s0 s1
              rw [D2.out]
              clear h_
              go_wp2_with fail
              refine (HLI.out HZ.out _).mono ?_
              rintro e w3 ⟨rfl, h_⟩
              have B3 := Lib.hid (B2.out.next h_)
              have s0 := B3.out.c0
              have s1 := B3.out.c1
              clear r0 r1
              have r0 := s0
              have r1 := s1
              clear s0 s1
              rw [D3.out]
              clear h_
              go_wp2_with fail
              refine (HQ.out _ B3.out.below w.heap.size r0 r1).mono ?_
              rintro e w4 ⟨rfl, h_⟩
              have B4 := Lib.hid (B3.out.next h_)
              clear h_
              go_wp2_with fail
              go_ret
              exact ⟨rfl, B4.out.below⟩
            · go_enter Try.func36, Try.ntmps36
              go_wp2_with fail
              refine (HW1.out _).mono ?_
              rintro e w1 ⟨rfl, h_⟩
              have B1 := Lib.hid (BX.out.next h_)
              have r0 := B1.out.c0
              have r1 := B1.out.c1
              rw [D1.out]
              clear h_
              go_wp2_with fail
              refine (HW2.out _).mono ?_
              rintro e w2 ⟨rfl, h_⟩
              have B2 := Lib.hid (B1.out.next h_)
              have s0 := B2.out.c0
              have s1 := B2.out.c1
              clear r0 r1
              have r0 := s0
              have r1 := s1
              clear s0 s1
              rw [D2.out]
              clear h_
              go_wp2_with fail
              refine (HLI.out HZ.out _).mono ?_
              rintro e w3 ⟨rfl, h_⟩
              have B3 := Lib.hid (B2.out.next h_)
              have s0 := B3.out.c0
              have s1 := B3.out.c1
              clear r0 r1
              have r0 := s0
              have r1 := s1
              clear s0 s1
              rw [D3.out]
              clear h_
              go_wp2_with fail
              refine (HQ.out _ B3.out.below w.heap.size r0 r1).mono ?_
              rintro e w4 ⟨rfl, h_⟩
              have B4 := Lib.hid (B3.out.next h_)
              clear h_
              go_wp2_with fail
              go_ret
              exact ⟨rfl, B4.out.below⟩
          · have D3 := Lib.hid d3
            rw [show CG.bars m (l1.map toCG) ⟨b, z⟩ = 253 from by rw [HR.out, if_neg (by have := HZ.out; omega), if_neg (by omega), if_pos d3]]
            clear d0 d1 d2 d3 z2 z3 HR HQ
            go_enter Try.func36, Try.ntmps36
            go_wp2_with fail
            refine (HW1.out _).mono ?_
            rintro e w1 ⟨rfl, h_⟩
            have B1 := Lib.hid (BX.out.next h_)
            have r0 := B1.out.c0
            have r1 := B1.out.c1
            rw [D1.out]
            clear h_
            go_wp2_with fail
            refine (HW2.out _).mono ?_
            rintro e w2 ⟨rfl, h_⟩
            have B2 := Lib.hid (B1.out.next h_)
            have s0 := B2.out.c0
            have s1 := B2.out.c1
            clear r0 r1
            have r0 := s0
            have r1 := s1
            clear s0 s1
            rw [D2.out]
            clear h_
            go_wp2_with fail
            refine (HLI.out HZ.out _).mono ?_
            rintro e w3 ⟨rfl, h_⟩
            have B3 := Lib.hid (B2.out.next h_)
            rw [D3.out]
            clear h_
            go_wp2_with fail
            go_ret
            exact ⟨rfl, B3.out.below⟩
        · have D2 := Lib.hid d2
          have z3 : ¬ b % 4096 = 0 := of_decide_eq_false d2
          rw [show CG.bars m (l1.map toCG) ⟨b, z⟩ = 252 from by rw [HR.out, if_neg (by have := HZ.out; omega), if_pos z3]]
          clear d0 d1 d2 z2 z3 HR HQ
          go_enter Try.func36, Try.ntmps36
          go_wp2_with fail
          refine (HW1.out _).mono ?_
          rintro e w1 ⟨rfl, h_⟩
          have B1 := Lib.hid (BX.out.next h_)
          have r0 := B1.out.c0
          have r1 := B1.out.c1
          rw [D1.out]
          clear h_
          go_wp2_with fail
          refine (HW2.out _).mono ?_
          rintro e w2 ⟨rfl, h_⟩
          have B2 := Lib.hid (B1.out.next h_)
          rw [D2.out]
          clear h_
          go_wp2_with fail
          go_ret
          exact ⟨rfl, B2.out.below⟩
      · have D1 := Lib.hid d1
        have z2 : ¬ z % 4096 = 0 := of_decide_eq_false d1
        rw [show CG.bars m (l1.map toCG) ⟨b, z⟩ = 251 from by rw [HR.out, if_pos (.inr (.inr z2))]]
        clear d0 d1 z2 HR HQ
        go_enter Try.func36, Try.ntmps36
        go_wp2_with fail
        refine (HW1.out _).mono ?_
        rintro e w1 ⟨rfl, h_⟩
        have B1 := Lib.hid (BX.out.next h_)
        have r0 := B1.out.c0
        have r1 := B1.out.c1
        rw [D1.out]
        clear h_
        go_wp2_with fail
        go_ret
        exact ⟨rfl, B1.out.below⟩

end Go.Proofs.Ytacgjgmladbgeaa.PConfPlaces

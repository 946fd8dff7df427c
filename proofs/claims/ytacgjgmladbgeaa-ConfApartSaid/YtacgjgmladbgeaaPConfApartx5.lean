-- Laid by a program: a print of this law's functions, with contracts of this session's own put in.
import Derived.Test.YtacgjgmladbgeaaPConfApartx0
import Derived.Test.YtacgjgmladbgeaaPConfApartx2
import Derived.Test.YtacgjgmladbgeaaPConfApartx3
import Derived.Test.YtacgjgmladbgeaaPConfApartx4
namespace Go.Proofs.Ytacgjgmladbgeaa.PConfApart
open Go.RowKit Go.Proofs.YtacgjgmladbgeaaW.PrintWords Go.Proofs.YtacgjgmladbgeaaW.PrintLast Go.Proofs.YtacgjgmladbgeaaW.PrintMore
attribute [local go_sem] max2_int min2_int max_two min_two max_three min_three max_four min_four   -- for this text's walks alone
set_option linter.unusedVariables false
set_option linter.unusedSimpArgs false

/-! ### mezzaninelaw25_ConfApart: function 7 -/
mutual
def mezzaninelaw25_ConfApart.l0 : Nat → Int → Int → Int → Int → Int → Int → Int → List (S53) → Option (Bool)
  | 0, _, _, _, _, _, _, _, _ => none
  | k + 1, x1, x5, x7, x8, x9, x145000, x145001, x145002 => if x9 < (x145002.length : Int) then (if 0 ≤ x9 then ((conf_Whose.f x145000 x145001 x145002 ((rd_T53 x145002 x9).f0)).bind fun t154 => (if t154 = x9 then ((conf_Whose.f x145000 x145001 x145002 (IntKind.u64.wrap ((IntKind.u64.wrap (((rd_T53 x145002 x9).f0) + ((rd_T53 x145002 x9).f1))) - 1))).bind fun t155 => (if t155 = x9 then ((conf_Whose.f x145000 x145001 x145002 (IntKind.u64.wrap (((rd_T53 x145002 x9).f0) - 1))).bind fun t156 => (if t156 = x9 then (mezzaninelaw25_ConfApart.j1 k x1 x5 (IntKind.u64.wrap (x7 + ((rd_T53 x145002 x9).f1))) x8 x9 true x145000 x145001 x145002 ((rd_T53 x145002 x9).f0) ((rd_T53 x145002 x9).f1)) else ((conf_Whose.f x145000 x145001 x145002 (IntKind.u64.wrap (((rd_T53 x145002 x9).f0) + ((rd_T53 x145002 x9).f1)))).bind fun t157 => (if t157 = x9 then (mezzaninelaw25_ConfApart.j1 k x1 x5 (IntKind.u64.wrap (x7 + ((rd_T53 x145002 x9).f1))) x8 x9 true x145000 x145001 x145002 ((rd_T53 x145002 x9).f0) ((rd_T53 x145002 x9).f1)) else (if ((rd_T53 x145002 x9).f0) < 2148532224 then (mezzaninelaw25_ConfApart.j1 k x1 x5 (IntKind.u64.wrap (x7 + ((rd_T53 x145002 x9).f1))) x8 x9 true x145000 x145001 x145002 ((rd_T53 x145002 x9).f0) ((rd_T53 x145002 x9).f1)) else (mezzaninelaw25_ConfApart.j1 k x1 x5 (IntKind.u64.wrap (x7 + ((rd_T53 x145002 x9).f1))) x8 x9 (decide ((IntKind.u64.wrap (((rd_T53 x145002 x9).f0) + ((rd_T53 x145002 x9).f1))) > (IntKind.u64.wrap (2147483648 + x145000)))) x145000 x145001 x145002 ((rd_T53 x145002 x9).f0) ((rd_T53 x145002 x9).f1))))))) else (mezzaninelaw25_ConfApart.j1 k x1 x5 (IntKind.u64.wrap (x7 + ((rd_T53 x145002 x9).f1))) x8 x9 true x145000 x145001 x145002 ((rd_T53 x145002 x9).f0) ((rd_T53 x145002 x9).f1)))) else (mezzaninelaw25_ConfApart.j1 k x1 x5 (IntKind.u64.wrap (x7 + ((rd_T53 x145002 x9).f1))) x8 x9 true x145000 x145001 x145002 ((rd_T53 x145002 x9).f0) ((rd_T53 x145002 x9).f1)))) else (none)) else (if x5 = (-1) then (if x7 = x145000 then ((conf_Whose.f x145000 x145001 x145002 x1).bind fun t151 => (some (t151 == x8))) else (some false)) else (some false))
def mezzaninelaw25_ConfApart.j1 : Nat → Int → Int → Int → Int → Int → Bool → Int → Int → List (S53) → Int → Int → Option (Bool)
  | 0, _, _, _, _, _, _, _, _, _, _, _ => none
  | k + 1, x1, x5, x7, x8, x9, x116, x145000, x145001, x145002, x154000, x154001 => if x116 = true then (some false) else (if (IntKind.u64.wrap (x1 - x154000)) < x154001 then (if x8 ≥ 0 then (some false) else (mezzaninelaw25_ConfApart.l0 k x1 x5 x7 x9 (wrap64 (x9 + 1)) x145000 x145001 x145002)) else (mezzaninelaw25_ConfApart.l0 k x1 x5 x7 x8 (wrap64 (x9 + 1)) x145000 x145001 x145002))
end
def mezzaninelaw25_ConfApart.f (k : Nat) (a0_0 : Int) (a0_1 : Int) (l0_2 : List (S53)) (a1 : Int) : Option (Bool) := (mezzaninelaw25_awake.f k).bind fun t145 => (if t145 = true then (if (l0_2.length : Int) > 100 then (some true) else ((conf_Check.f k a0_0 a0_1 l0_2).bind fun bt146 => (if bt146.2 = 0 then ((conf_Free.f k a0_0 a0_1 l0_2).bind fun t150 => (mezzaninelaw25_ConfApart.l0 k a1 bt146.1 (IntKind.u64.wrap (t150 + 1048576)) (-1) 0 a0_0 a0_1 l0_2)) else (if bt146.1 < (l0_2.length : Int) then (if bt146.1 ≥ (-1) then ((conf_Whose.f a0_0 a0_1 l0_2 a1).bind fun t148 => (if t148 = (-1) then ((conf_Free.f k a0_0 a0_1 l0_2).bind fun t149 => (some (t149 == 0))) else (some false))) else (some false)) else (some false))))) else (some false))
theorem mezzaninelaw25_ConfApart.mono_l : ∀ k, (∀ y0 y1 y2 y3 y4 y5 y6 y7, LeO (mezzaninelaw25_ConfApart.l0 k y0 y1 y2 y3 y4 y5 y6 y7) (mezzaninelaw25_ConfApart.l0 (k + 1) y0 y1 y2 y3 y4 y5 y6 y7)) ∧ (∀ y0 y1 y2 y3 y4 y5 y6 y7 y8 y9 y10, LeO (mezzaninelaw25_ConfApart.j1 k y0 y1 y2 y3 y4 y5 y6 y7 y8 y9 y10) (mezzaninelaw25_ConfApart.j1 (k + 1) y0 y1 y2 y3 y4 y5 y6 y7 y8 y9 y10))
  | 0 => ⟨fun _ _ _ _ _ _ _ _ r h => by simp [mezzaninelaw25_ConfApart.l0] at h, fun _ _ _ _ _ _ _ _ _ _ _ r h => by simp [mezzaninelaw25_ConfApart.j1] at h⟩
  | k + 1 => by
    obtain ⟨ih0, ih1⟩ := mezzaninelaw25_ConfApart.mono_l k
    refine ⟨?_, ?_⟩
    · intro y0 y1 y2 y3 y4 y5 y6 y7
      unfold mezzaninelaw25_ConfApart.l0
      repeat' first
      | (with_reducible exact ih0 _ _ _ _ _ _ _ _)
      | (with_reducible exact ih1 _ _ _ _ _ _ _ _ _ _ _)
      | (with_reducible exact conf_Check.mono _ _ _ _)
      | (with_reducible exact conf_Free.mono _ _ _ _)
      | (with_reducible exact mezzaninelaw25_awake.mono _)
      | (with_reducible exact LeO.refl _)
      | (with_reducible exact LeO.none _)
      | (with_reducible refine LeO.ite ?_ ?_)
      | (with_reducible refine LeO.bind ?_ (fun _ => ?_))
      | exact ih0 _ _ _ _ _ _ _ _
      | exact ih1 _ _ _ _ _ _ _ _ _ _ _
      | exact conf_Check.mono _ _ _ _
      | exact conf_Free.mono _ _ _ _
      | exact mezzaninelaw25_awake.mono _
      | exact LeO.none _
      | refine LeO.ite ?_ ?_
      | refine LeO.bind ?_ (fun _ => ?_)
    · intro y0 y1 y2 y3 y4 y5 y6 y7 y8 y9 y10
      unfold mezzaninelaw25_ConfApart.j1
      repeat' first
      | (with_reducible exact ih0 _ _ _ _ _ _ _ _)
      | (with_reducible exact ih1 _ _ _ _ _ _ _ _ _ _ _)
      | (with_reducible exact conf_Check.mono _ _ _ _)
      | (with_reducible exact conf_Free.mono _ _ _ _)
      | (with_reducible exact mezzaninelaw25_awake.mono _)
      | (with_reducible exact LeO.refl _)
      | (with_reducible exact LeO.none _)
      | (with_reducible refine LeO.ite ?_ ?_)
      | (with_reducible refine LeO.bind ?_ (fun _ => ?_))
      | exact ih0 _ _ _ _ _ _ _ _
      | exact ih1 _ _ _ _ _ _ _ _ _ _ _
      | exact conf_Check.mono _ _ _ _
      | exact conf_Free.mono _ _ _ _
      | exact mezzaninelaw25_awake.mono _
      | exact LeO.none _
      | refine LeO.ite ?_ ?_
      | refine LeO.bind ?_ (fun _ => ?_)
theorem mezzaninelaw25_ConfApart.mono : ∀ a0 a1 a2 a3 k, LeO (mezzaninelaw25_ConfApart.f k a0 a1 a2 a3) (mezzaninelaw25_ConfApart.f (k + 1) a0 a1 a2 a3) := by
  intro a0 a1 a2 a3 k
  obtain ⟨ih0, ih1⟩ := mezzaninelaw25_ConfApart.mono_l k
  unfold mezzaninelaw25_ConfApart.f
  repeat' first
      | (with_reducible exact ih0 _ _ _ _ _ _ _ _)
      | (with_reducible exact ih1 _ _ _ _ _ _ _ _ _ _ _)
      | (with_reducible exact conf_Check.mono _ _ _ _)
      | (with_reducible exact conf_Free.mono _ _ _ _)
      | (with_reducible exact mezzaninelaw25_awake.mono _)
      | (with_reducible exact LeO.refl _)
      | (with_reducible exact LeO.none _)
      | (with_reducible refine LeO.ite ?_ ?_)
      | (with_reducible refine LeO.bind ?_ (fun _ => ?_))
      | exact ih0 _ _ _ _ _ _ _ _
      | exact ih1 _ _ _ _ _ _ _ _ _ _ _
      | exact conf_Check.mono _ _ _ _
      | exact conf_Free.mono _ _ _ _
      | exact mezzaninelaw25_awake.mono _
      | exact LeO.none _
      | refine LeO.ite ?_ ?_
      | refine LeO.bind ?_ (fun _ => ?_)
set_option maxHeartbeats 8000000 in
set_option maxRecDepth 100000 in
theorem mezzaninelaw25_ConfApart.calls (k : Nat) (a0_0 : Int) (a0_1 : Int) (A0_2 : Option Addr) (c0_2 : Nat) (l0_2 : List (S53)) (a1 : Int) (r : Bool) (w : World) (hr0_2 : Kd.C k53 w A0_2 l0_2.length l0_2) (hc0_2 : l0_2.length ≤ c0_2) (h : mezzaninelaw25_ConfApart.f k a0_0 a0_1 l0_2 a1 = some r) :
    Calls Try.prog 7 #[.agg #[.int .u64 a0_0, .int .u64 a0_1, .slice A0_2 l0_2.length c0_2], .int .u64 a1] w fun e w' => e = .returned (.bool r) ∧ Below w.heap.size w w' := by
  have hu25 := Try.underlying25
  have hu53 := Try.underlying53
  have HR0_2 := Aside0.mk hr0_2
  have HC0_2 := Aside0.mk hc0_2
  clear hr0_2 hc0_2
  have HB := Aside0.mk (Below.refl w.heap.size w)
  have H : ((mezzaninelaw25_awake.f k).bind fun t145 => (if t145 = true then (if (l0_2.length : Int) > 100 then (some true) else ((conf_Check.f k a0_0 a0_1 l0_2).bind fun bt146 => (if bt146.2 = 0 then ((conf_Free.f k a0_0 a0_1 l0_2).bind fun t150 => (mezzaninelaw25_ConfApart.l0 k a1 bt146.1 (IntKind.u64.wrap (t150 + 1048576)) (-1) 0 a0_0 a0_1 l0_2)) else (if bt146.1 < (l0_2.length : Int) then (if bt146.1 ≥ (-1) then ((conf_Whose.f a0_0 a0_1 l0_2 a1).bind fun t148 => (if t148 = (-1) then ((conf_Free.f k a0_0 a0_1 l0_2).bind fun t149 => (some (t149 == 0))) else (some false))) else (some false)) else (some false))))) else (some false))) = some r := h
  clear h
  replace H := Option.bind_eq_some_iff.mp H
  obtain ⟨t145, A30, H⟩ := H
  replace H : (if t145 = true then (if (l0_2.length : Int) > 100 then (some true) else ((conf_Check.f k a0_0 a0_1 l0_2).bind fun bt146 => (if bt146.2 = 0 then ((conf_Free.f k a0_0 a0_1 l0_2).bind fun t150 => (mezzaninelaw25_ConfApart.l0 k a1 bt146.1 (IntKind.u64.wrap (t150 + 1048576)) (-1) 0 a0_0 a0_1 l0_2)) else (if bt146.1 < (l0_2.length : Int) then (if bt146.1 ≥ (-1) then ((conf_Whose.f a0_0 a0_1 l0_2 a1).bind fun t148 => (if t148 = (-1) then ((conf_Free.f k a0_0 a0_1 l0_2).bind fun t149 => (some (t149 == 0))) else (some false))) else (some false)) else (some false))))) else (some false)) = some r := H
  have A3 := Aside0.mk A30
  clear A30
  by_cases c4 : t145 = true
  · subst c4
    have H1 : (if (l0_2.length : Int) > 100 then (some true) else ((conf_Check.f k a0_0 a0_1 l0_2).bind fun bt146 => (if bt146.2 = 0 then ((conf_Free.f k a0_0 a0_1 l0_2).bind fun t150 => (mezzaninelaw25_ConfApart.l0 k a1 bt146.1 (IntKind.u64.wrap (t150 + 1048576)) (-1) 0 a0_0 a0_1 l0_2)) else (if bt146.1 < (l0_2.length : Int) then (if bt146.1 ≥ (-1) then ((conf_Whose.f a0_0 a0_1 l0_2 a1).bind fun t148 => (if t148 = (-1) then ((conf_Free.f k a0_0 a0_1 l0_2).bind fun t149 => (some (t149 == 0))) else (some false))) else (some false)) else (some false))))) = some r := by rw [if_pos rfl] at H; exact H
    clear H
    have H := H1
    clear H1
    by_cases c5 : (l0_2.length : Int) > 100
    · rw [if_pos c5] at H
      have c5b0 : decide (100 < (l0_2.length : Int)) = true := decide_eq_true c5
      have c5b1 : decide (100 < l0_2.length) = true := decide_eq_true (by omega)
      clear c5
      obtain rfl := Option.some.inj H
      go_enter Try.func7, Try.ntmps7
      go_wp2_with (first | ((with_reducible refine gate_dst (N := 2) rfl ?_); refine box_event ?hg (N := 2) ?hd (cs := #[.int .u64 a0_0, .int .u64 a0_1, .slice A0_2 l0_2.length c0_2]) (t := 25) ?hr ?_; (case hd => rfl); (case hg => rfl); (case hr => first | (go_simp; done) | (go_simp; rfl)); intro gb144 hg w6 hbox hb; have n0_ := Aside0.mk (below_step (by repeat (first | (with_reducible first | exact HB.out | apply below_alloc | apply pw_below_drewN | apply below_drew1) | exact HB.out)) hb); have n1_ := Aside0.mk (hbox); have n2_ := Aside0.mk ((by rw [hg]; exact (below_size (by repeat (first | (with_reducible first | exact HB.out | apply below_alloc | apply pw_below_drewN | apply below_drew1) | exact HB.out))) : w.heap.size ≤ gb144)); have n3_ := Aside0.mk ((by rw [hg]; exact (below_size (by repeat (first | (with_reducible first | exact HB.out | apply below_alloc | apply pw_below_drewN | apply below_drew1) | exact HB.out))) : w.heap.size ≤ gb144)); clear HB; have HB := n0_; have BK144 := n1_; have GW144 := n2_; have GE144 := n3_; clear n0_ n1_ n2_ n3_; clear hb hbox hg) | ((with_reducible refine gate_callee (f := 21) rfl ?_); refine goesL_ (some 11) rfl rfl Try.func21 (by kernel_rfl) rfl #[] rfl (by (try simp only [List.map_toArray, List.map_cons, List.map_nil]); first | done | rfl | (simp only [List.length_drop, List.length_take]; rfl)) ?_; (with_reducible refine (mezzaninelaw25_awake.calls k  true _ A3.out).mono ?_); rintro e w7 ⟨rfl, hb⟩; refine ⟨_, rfl, ?_⟩; have n0_ := Aside0.mk (blk_below (g := gb144) (o := .cells #[.int .u64 a0_0, .int .u64 a0_1, .slice A0_2 l0_2.length c0_2] 25 (0, 0)) (by (with_reducible repeat (first | refine blk_drewN ?_ _ | refine blk_drew ?_ | refine blk_alloc ?_ _)); exact BK144.out) hb); have n1_ := Aside0.mk (below_step (by repeat (first | (with_reducible first | exact HB.out | apply below_alloc | apply pw_below_drewN | apply below_drew1 | refine below_set ?_ GE144.out) | exact HB.out)) hb); clear BK144; clear HB; have BK144 := n0_; have HB := n1_; clear n0_ n1_; (try clear hb); (try clear hb2); (try clear hk); (try clear hi); have hcz8_0 : w7.cell? ⟨gb144, 0, none⟩ = some (.int .u64 a0_0) := (blk_cell BK144.out 0).trans rfl; have hcz8_1 : w7.cell? ⟨gb144, 1, none⟩ = some (.int .u64 a0_1) := (blk_cell BK144.out 1).trans rfl; have hcz8_2 : w7.cell? ⟨gb144, 2, none⟩ = some (.slice A0_2 l0_2.length c0_2) := (blk_cell BK144.out 2).trans rfl; have hfz8_0 := blk_frozen BK144.out 0; have hfz8_1 := blk_frozen BK144.out 1; have hfz8_2 := blk_frozen BK144.out 2))
      go_ret
      exact ⟨by first | rfl | (simp [errW_none, errW_some] <;> rfl) | (simp [*, errW_none, errW_some] <;> rfl), by repeat (first | (with_reducible first | exact HB.out | apply below_alloc | apply pw_below_drewN | apply below_drew1 | refine below_set ?_ GE144.out) | exact HB.out)⟩
    · rw [if_neg c5] at H
      have c5b0 : decide (100 < (l0_2.length : Int)) = false := decide_eq_false c5
      have c5b1 : decide (100 < l0_2.length) = false := decide_eq_false (by omega)
      clear c5
      replace H := Option.bind_eq_some_iff.mp H
      obtain ⟨⟨t146, t147⟩, A90, H⟩ := H
      replace H : (if t147 = 0 then ((conf_Free.f k a0_0 a0_1 l0_2).bind fun t150 => (mezzaninelaw25_ConfApart.l0 k a1 t146 (IntKind.u64.wrap (t150 + 1048576)) (-1) 0 a0_0 a0_1 l0_2)) else (if t146 < (l0_2.length : Int) then (if t146 ≥ (-1) then ((conf_Whose.f a0_0 a0_1 l0_2 a1).bind fun t148 => (if t148 = (-1) then ((conf_Free.f k a0_0 a0_1 l0_2).bind fun t149 => (some (t149 == 0))) else (some false))) else (some false)) else (some false))) = some r := H
      have A9 := Aside0.mk A90
      clear A90
      by_cases c10 : t147 = 0
      · rw [if_pos c10] at H
        have c10b0 : (t147 == 0) = true := beq_iff_eq.mpr c10
        have c10b1 : (t147 != 0) = false := bne_eq_false_iff_eq.mpr c10
        clear c10
        replace H := Option.bind_eq_some_iff.mp H
        obtain ⟨t150, A110, H⟩ := H
        replace H : (mezzaninelaw25_ConfApart.l0 k a1 t146 (IntKind.u64.wrap (t150 + 1048576)) (-1) 0 a0_0 a0_1 l0_2) = some r := H
        have A11 := Aside0.mk A110
        clear A110
        have H' := Aside0.mk H
        clear H
        go_enter Try.func7, Try.ntmps7
        go_wp2_with (first | ((with_reducible refine gate_dst (N := 2) rfl ?_); refine box_event ?hg (N := 2) ?hd (cs := #[.int .u64 a0_0, .int .u64 a0_1, .slice A0_2 l0_2.length c0_2]) (t := 25) ?hr ?_; (case hd => rfl); (case hg => rfl); (case hr => first | (go_simp; done) | (go_simp; rfl)); intro gb144 hg w12 hbox hb; have n0_ := Aside0.mk (below_step (by repeat (first | (with_reducible first | exact HB.out | apply below_alloc | apply pw_below_drewN | apply below_drew1) | exact HB.out)) hb); have n1_ := Aside0.mk (hbox); have n2_ := Aside0.mk ((by rw [hg]; exact (below_size (by repeat (first | (with_reducible first | exact HB.out | apply below_alloc | apply pw_below_drewN | apply below_drew1) | exact HB.out))) : w.heap.size ≤ gb144)); have n3_ := Aside0.mk ((by rw [hg]; exact (below_size (by repeat (first | (with_reducible first | exact HB.out | apply below_alloc | apply pw_below_drewN | apply below_drew1) | exact HB.out))) : w.heap.size ≤ gb144)); clear HB; have HB := n0_; have BK144 := n1_; have GW144 := n2_; have GE144 := n3_; clear n0_ n1_ n2_ n3_; clear hb hbox hg) | ((with_reducible refine gate_callee (f := 21) rfl ?_); refine goesL_ (some 11) rfl rfl Try.func21 (by kernel_rfl) rfl #[] rfl (by (try simp only [List.map_toArray, List.map_cons, List.map_nil]); first | done | rfl | (simp only [List.length_drop, List.length_take]; rfl)) ?_; (with_reducible refine (mezzaninelaw25_awake.calls k  true _ A3.out).mono ?_); rintro e w13 ⟨rfl, hb⟩; refine ⟨_, rfl, ?_⟩; have n0_ := Aside0.mk (blk_below (g := gb144) (o := .cells #[.int .u64 a0_0, .int .u64 a0_1, .slice A0_2 l0_2.length c0_2] 25 (0, 0)) (by (with_reducible repeat (first | refine blk_drewN ?_ _ | refine blk_drew ?_ | refine blk_alloc ?_ _)); exact BK144.out) hb); have n1_ := Aside0.mk (below_step (by repeat (first | (with_reducible first | exact HB.out | apply below_alloc | apply pw_below_drewN | apply below_drew1 | refine below_set ?_ GE144.out) | exact HB.out)) hb); clear BK144; clear HB; have BK144 := n0_; have HB := n1_; clear n0_ n1_; (try clear hb); (try clear hb2); (try clear hk); (try clear hi); have hcz14_0 : w13.cell? ⟨gb144, 0, none⟩ = some (.int .u64 a0_0) := (blk_cell BK144.out 0).trans rfl; have hcz14_1 : w13.cell? ⟨gb144, 1, none⟩ = some (.int .u64 a0_1) := (blk_cell BK144.out 1).trans rfl; have hcz14_2 : w13.cell? ⟨gb144, 2, none⟩ = some (.slice A0_2 l0_2.length c0_2) := (blk_cell BK144.out 2).trans rfl; have hfz14_0 := blk_frozen BK144.out 0; have hfz14_1 := blk_frozen BK144.out 1; have hfz14_2 := blk_frozen BK144.out 2) | ((with_reducible refine gate_callee (f := 24) rfl ?_); refine goesL_ (some 19) rfl rfl Try.func24 (by kernel_rfl) rfl #[.agg #[.int .u64 a0_0, .int .u64 a0_1, .slice A0_2 l0_2.length c0_2]] rfl (by (try simp only [List.map_toArray, List.map_cons, List.map_nil]); first | done | rfl | (simp only [List.length_drop, List.length_take]; rfl)) ?_; (with_reducible refine (conf_Check.calls k a0_0 a0_1 _ _ l0_2 t146 t147 _ ?side1 ?side2 A9.out).mono ?_); (case side1 => repeat (first | exact (Kd.C_below HR0_2.out HB.out) | (with_reducible refine Kd.C_alloc ?_ _) | (with_reducible refine Kd.C_drewN ?_ _) | (with_reducible refine Kd.C_drew ?_))); (case side2 => exact HC0_2.out); rintro e w15 ⟨rfl, hb⟩; refine ⟨_, rfl, ?_⟩; have n0_ := Aside0.mk (blk_below (g := gb144) (o := .cells #[.int .u64 a0_0, .int .u64 a0_1, .slice A0_2 l0_2.length c0_2] 25 (0, 0)) (by (with_reducible repeat (first | refine blk_drewN ?_ _ | refine blk_drew ?_ | refine blk_alloc ?_ _)); exact BK144.out) hb); have n1_ := Aside0.mk (below_step (by repeat (first | (with_reducible first | exact HB.out | apply below_alloc | apply pw_below_drewN | apply below_drew1 | refine below_set ?_ GE144.out) | exact HB.out)) hb); clear BK144; clear HB; have BK144 := n0_; have HB := n1_; clear n0_ n1_; (try clear hb); (try clear hb2); (try clear hk); (try clear hi); have hcz16_0 : w15.cell? ⟨gb144, 0, none⟩ = some (.int .u64 a0_0) := (blk_cell BK144.out 0).trans rfl; have hcz16_1 : w15.cell? ⟨gb144, 1, none⟩ = some (.int .u64 a0_1) := (blk_cell BK144.out 1).trans rfl; have hcz16_2 : w15.cell? ⟨gb144, 2, none⟩ = some (.slice A0_2 l0_2.length c0_2) := (blk_cell BK144.out 2).trans rfl; have hfz16_0 := blk_frozen BK144.out 0; have hfz16_1 := blk_frozen BK144.out 1; have hfz16_2 := blk_frozen BK144.out 2) | ((with_reducible refine gate_callee (f := 19) rfl ?_); refine goesL_ (some 45) rfl rfl Try.func19 (by kernel_rfl) rfl #[.agg #[.int .u64 a0_0, .int .u64 a0_1, .slice A0_2 l0_2.length c0_2]] rfl (by (try simp only [List.map_toArray, List.map_cons, List.map_nil]); first | done | rfl | (simp only [List.length_drop, List.length_take]; rfl)) ?_; (with_reducible refine (conf_Free.calls k a0_0 a0_1 _ _ l0_2 t150 _ ?side1 ?side2 A11.out).mono ?_); (case side1 => repeat (first | exact (Kd.C_below HR0_2.out HB.out) | (with_reducible refine Kd.C_alloc ?_ _) | (with_reducible refine Kd.C_drewN ?_ _) | (with_reducible refine Kd.C_drew ?_))); (case side2 => exact HC0_2.out); rintro e w17 ⟨rfl, hb⟩; refine ⟨_, rfl, ?_⟩; have n0_ := Aside0.mk (blk_below (g := gb144) (o := .cells #[.int .u64 a0_0, .int .u64 a0_1, .slice A0_2 l0_2.length c0_2] 25 (0, 0)) (by (with_reducible repeat (first | refine blk_drewN ?_ _ | refine blk_drew ?_ | refine blk_alloc ?_ _)); exact BK144.out) hb); have n1_ := Aside0.mk (below_step (by repeat (first | (with_reducible first | exact HB.out | apply below_alloc | apply pw_below_drewN | apply below_drew1 | refine below_set ?_ GE144.out) | exact HB.out)) hb); clear BK144; clear HB; have BK144 := n0_; have HB := n1_; clear n0_ n1_; (try clear hb); (try clear hb2); (try clear hk); (try clear hi)))
        go_loopg [7, 8, 9] k (fun kq v7 v8 v9 w' => ∃ (x7_1 : Int) (x8_1 : Int) (x9_1 : Int), v7 = .int .u64 x7_1 ∧ v8 = .int .i64 x8_1 ∧ v9 = .int .i64 x9_1 ∧ Aside0 (mezzaninelaw25_ConfApart.l0 kq a1 t146 x7_1 x8_1 x9_1 a0_0 a0_1 l0_2 = some r) ∧ Aside0 (kq ≤ k) ∧ Aside0 (w'.heap[gb144]? = some (.cells #[.int .u64 a0_0, .int .u64 a0_1, (.slice A0_2 l0_2.length c0_2)] 25 (0, 0))) ∧ Aside0 (Below w.heap.size w w'))
        case atStart => exact ⟨(IntKind.u64.wrap (t150 + 1048576)), ((-1)), (0), (by first | rfl | (simp; done) | (simp [*]; done)), (by first | rfl | (simp; done) | (simp [*]; done)), (by first | rfl | (simp; done) | (simp [*]; done)), H', ⟨Nat.le_refl _⟩, ⟨by (with_reducible repeat (first | refine blk_drewN ?_ _ | refine blk_drew ?_ | refine blk_alloc ?_ _)); exact BK144.out⟩, ⟨by repeat (first | (with_reducible first | exact HB.out | apply below_alloc | apply pw_below_drewN | apply below_drew1 | refine below_set ?_ GE144.out) | exact HB.out)⟩⟩
        case round =>
          clear H'
          try clear c1
          try clear c2
          try clear p2
          try clear c4
          try clear c5
          try clear c5b0
          try clear c5b1
          try clear c7
          try clear c10
          try clear c10b0
          try clear c10b1
          try clear hcz14_0
          try clear hcz14_1
          try clear hcz14_2
          try clear hcz16_0
          try clear hcz16_1
          try clear hcz16_2
          try clear hcz8_0
          try clear hcz8_1
          try clear hcz8_2
          try clear hfz14_0
          try clear hfz14_1
          try clear hfz14_2
          try clear hfz16_0
          try clear hfz16_1
          try clear hfz16_2
          try clear hfz8_0
          try clear hfz8_1
          try clear hfz8_2
          obtain ⟨x7_1, x8_1, x9_1, rfl, rfl, rfl, HA, HK1, BK144, HB⟩ := hrel
          cases gk with
          | zero => exact absurd HA.out (by simp [mezzaninelaw25_ConfApart.l0])
          | succ k1 =>
            have H := HA.out
            clear HA
            simp only [mezzaninelaw25_ConfApart.l0] at H
            by_cases c18 : x9_1 < (l0_2.length : Int)
            · rw [if_pos c18] at H
              have c18b0 : decide (x9_1 < (l0_2.length : Int)) = true := decide_eq_true c18
              clear c18
              by_cases c19 : 0 ≤ x9_1
              · rw [if_pos c19] at H
                have c19b0 : decide (0 ≤ x9_1) = true := decide_eq_true c19
                clear c19
                have HC20 := Aside0.mk H
                clear H
                have hcz21_0 : wr.cell? ⟨gb144, 0, none⟩ = some (.int .u64 a0_0) := (blk_cell BK144.out 0).trans rfl
                have hcz21_1 : wr.cell? ⟨gb144, 1, none⟩ = some (.int .u64 a0_1) := (blk_cell BK144.out 1).trans rfl
                have hcz21_2 : wr.cell? ⟨gb144, 2, none⟩ = some (.slice A0_2 l0_2.length c0_2) := (blk_cell BK144.out 2).trans rfl
                have hfz21_0 := blk_frozen BK144.out 0
                have hfz21_1 := blk_frozen BK144.out 1
                have hfz21_2 := blk_frozen BK144.out 2
                have p152 : 0 ≤ (x9_1 : Int) := of_decide_eq_true (by first | (with_reducible assumption) | assumption)
                have q152 : x9_1 < (l0_2.length : Int) := of_decide_eq_true (by first | (with_reducible assumption) | assumption)
                obtain ⟨ad152, e152, hx152_0, hx152_1⟩ := at_T53 HR0_2.out x9_1 p152 q152
                cases e152
                replace hx152_0 := (HB.out.cell (World.block_lt_of_cell? w _ hx152_0)).trans hx152_0
                replace hx152_1 := (HB.out.cell (World.block_lt_of_cell? w _ hx152_1)).trans hx152_1
                replace p152 := eq_true p152
                replace q152 := eq_true q152
                go_upto_region 15 with (first | ((with_reducible refine gate_dst (N := 10) rfl ?_); refine box_event ?hg (N := 10) ?hd (cs := #[.int .u64 0, .int .u64 0]) (t := 53) ?hr ?_; (case hd => rfl); (case hg => rfl); (case hr => first | (go_simp; done) | (go_simp; rfl)); intro gb153 hg w22 hbox hb; have n0_ := Aside0.mk (blk_below (g := gb144) (o := .cells #[.int .u64 a0_0, .int .u64 a0_1, .slice (some ad152) l0_2.length c0_2] 25 (0, 0)) (by (with_reducible repeat (first | refine blk_drewN ?_ _ | refine blk_drew ?_ | refine blk_alloc ?_ _)); exact BK144.out) hb); have n1_ := Aside0.mk (below_step (by repeat (first | (with_reducible first | exact HB.out | apply below_alloc | apply pw_below_drewN | apply below_drew1 | refine below_set ?_ GE144.out) | exact HB.out)) hb); have n2_ := Aside0.mk (hbox); have n3_ := Aside0.mk ((by rw [hg]; exact (below_size (by repeat (first | (with_reducible first | exact HB.out | apply below_alloc | apply pw_below_drewN | apply below_drew1 | refine below_set ?_ GE144.out) | exact HB.out))) : w.heap.size ≤ gb153)); have n4_ := Aside0.mk ((by rw [hg]; exact (below_size (by repeat (first | (with_reducible first | exact HB.out | apply below_alloc | apply pw_below_drewN | apply below_drew1 | refine below_set ?_ GE144.out) | exact HB.out))) : w.heap.size ≤ gb153)); have n5_ := Aside0.mk ((by rw [hg]; exact Nat.ne_of_lt (blk_lt (g := gb144) (o := .cells #[.int .u64 a0_0, .int .u64 a0_1, .slice (some ad152) l0_2.length c0_2] 25 (0, 0)) (by (with_reducible repeat (first | refine blk_drewN ?_ _ | refine blk_drew ?_ | refine blk_alloc ?_ _)); exact BK144.out)) : gb144 ≠ gb153)); have n6_ := Aside0.mk ((by rw [hg]; exact Nat.ne_of_gt (blk_lt (g := gb144) (o := .cells #[.int .u64 a0_0, .int .u64 a0_1, .slice (some ad152) l0_2.length c0_2] 25 (0, 0)) (by (with_reducible repeat (first | refine blk_drewN ?_ _ | refine blk_drew ?_ | refine blk_alloc ?_ _)); exact BK144.out)) : gb153 ≠ gb144)); clear BK144; clear HB; have BK144 := n0_; have HB := n1_; have BK153 := n2_; have GW153 := n3_; have GE153 := n4_; have NB144_153 := n5_; have NB153_144 := n6_; clear n0_ n1_ n2_ n3_ n4_ n5_ n6_; clear hb hbox hg; have hnb23 := NB153_144.out; have hnc23 := NB144_153.out; have hcz24_0 : w22.cell? ⟨gb153, 0, none⟩ = some (.int .u64 0) := (blk_cell BK153.out 0).trans rfl; have hcz24_1 : w22.cell? ⟨gb153, 1, none⟩ = some (.int .u64 0) := (blk_cell BK153.out 1).trans rfl; have hfz24_0 := blk_frozen BK153.out 0; have hfz24_1 := blk_frozen BK153.out 1))
                (try simp only [Act.put, List.setIfInBounds_toArray, List.set_cons_zero, List.set_cons_succ])
                go_cut [116] (fun v116 wc => ∃ (kq : Nat) (x116_19 : Bool), v116 = .bool x116_19 ∧ Aside0 (mezzaninelaw25_ConfApart.j1 kq a1 t146 (IntKind.u64.wrap (x7_1 + ((rd_T53 l0_2 x9_1).f1))) x8_1 x9_1 x116_19 a0_0 a0_1 l0_2 ((rd_T53 l0_2 x9_1).f0) ((rd_T53 l0_2 x9_1).f1) = some r) ∧ Aside0 (kq ≤ k1) ∧ Aside0 (wc.heap[gb144]? = some (.cells #[.int .u64 a0_0, .int .u64 a0_1, (.slice (some ad152) l0_2.length c0_2)] 25 (0, 0))) ∧ Aside0 (wc.heap[gb153]? = some (.cells #[.int .u64 ((rd_T53 l0_2 x9_1).f0), .int .u64 ((rd_T53 l0_2 x9_1).f1)] 53 (0, 0))) ∧ Aside0 (Below w.heap.size w wc))
                case first =>
                  have H := HC20.out
                  clear HC20
                  replace H := Option.bind_eq_some_iff.mp H
                  obtain ⟨t154, A250, H⟩ := H
                  replace H : (if t154 = x9_1 then ((conf_Whose.f a0_0 a0_1 l0_2 (IntKind.u64.wrap ((IntKind.u64.wrap (((rd_T53 l0_2 x9_1).f0) + ((rd_T53 l0_2 x9_1).f1))) - 1))).bind fun t155 => (if t155 = x9_1 then ((conf_Whose.f a0_0 a0_1 l0_2 (IntKind.u64.wrap (((rd_T53 l0_2 x9_1).f0) - 1))).bind fun t156 => (if t156 = x9_1 then (mezzaninelaw25_ConfApart.j1 k1 a1 t146 (IntKind.u64.wrap (x7_1 + ((rd_T53 l0_2 x9_1).f1))) x8_1 x9_1 true a0_0 a0_1 l0_2 ((rd_T53 l0_2 x9_1).f0) ((rd_T53 l0_2 x9_1).f1)) else ((conf_Whose.f a0_0 a0_1 l0_2 (IntKind.u64.wrap (((rd_T53 l0_2 x9_1).f0) + ((rd_T53 l0_2 x9_1).f1)))).bind fun t157 => (if t157 = x9_1 then (mezzaninelaw25_ConfApart.j1 k1 a1 t146 (IntKind.u64.wrap (x7_1 + ((rd_T53 l0_2 x9_1).f1))) x8_1 x9_1 true a0_0 a0_1 l0_2 ((rd_T53 l0_2 x9_1).f0) ((rd_T53 l0_2 x9_1).f1)) else (if ((rd_T53 l0_2 x9_1).f0) < 2148532224 then (mezzaninelaw25_ConfApart.j1 k1 a1 t146 (IntKind.u64.wrap (x7_1 + ((rd_T53 l0_2 x9_1).f1))) x8_1 x9_1 true a0_0 a0_1 l0_2 ((rd_T53 l0_2 x9_1).f0) ((rd_T53 l0_2 x9_1).f1)) else (mezzaninelaw25_ConfApart.j1 k1 a1 t146 (IntKind.u64.wrap (x7_1 + ((rd_T53 l0_2 x9_1).f1))) x8_1 x9_1 (decide ((IntKind.u64.wrap (((rd_T53 l0_2 x9_1).f0) + ((rd_T53 l0_2 x9_1).f1))) > (IntKind.u64.wrap (2147483648 + a0_0)))) a0_0 a0_1 l0_2 ((rd_T53 l0_2 x9_1).f0) ((rd_T53 l0_2 x9_1).f1))))))) else (mezzaninelaw25_ConfApart.j1 k1 a1 t146 (IntKind.u64.wrap (x7_1 + ((rd_T53 l0_2 x9_1).f1))) x8_1 x9_1 true a0_0 a0_1 l0_2 ((rd_T53 l0_2 x9_1).f0) ((rd_T53 l0_2 x9_1).f1)))) else (mezzaninelaw25_ConfApart.j1 k1 a1 t146 (IntKind.u64.wrap (x7_1 + ((rd_T53 l0_2 x9_1).f1))) x8_1 x9_1 true a0_0 a0_1 l0_2 ((rd_T53 l0_2 x9_1).f0) ((rd_T53 l0_2 x9_1).f1))) = some r := H
                  have A25 := Aside0.mk A250
                  clear A250
                  by_cases c26 : t154 = x9_1
                  · rw [if_pos c26] at H
                    have c26b0 : (t154 == x9_1) = true := beq_iff_eq.mpr c26
                    have c26b1 : (t154 != x9_1) = false := bne_eq_false_iff_eq.mpr c26
                    clear c26
                    (first | rw [c26b0] | (simp only [i64_w, i32_w]; rw [c26b0]) | skip)
                    replace H := Option.bind_eq_some_iff.mp H
                    obtain ⟨t155, A270, H⟩ := H
                    replace H : (if t155 = x9_1 then ((conf_Whose.f a0_0 a0_1 l0_2 (IntKind.u64.wrap (((rd_T53 l0_2 x9_1).f0) - 1))).bind fun t156 => (if t156 = x9_1 then (mezzaninelaw25_ConfApart.j1 k1 a1 t146 (IntKind.u64.wrap (x7_1 + ((rd_T53 l0_2 x9_1).f1))) x8_1 x9_1 true a0_0 a0_1 l0_2 ((rd_T53 l0_2 x9_1).f0) ((rd_T53 l0_2 x9_1).f1)) else ((conf_Whose.f a0_0 a0_1 l0_2 (IntKind.u64.wrap (((rd_T53 l0_2 x9_1).f0) + ((rd_T53 l0_2 x9_1).f1)))).bind fun t157 => (if t157 = x9_1 then (mezzaninelaw25_ConfApart.j1 k1 a1 t146 (IntKind.u64.wrap (x7_1 + ((rd_T53 l0_2 x9_1).f1))) x8_1 x9_1 true a0_0 a0_1 l0_2 ((rd_T53 l0_2 x9_1).f0) ((rd_T53 l0_2 x9_1).f1)) else (if ((rd_T53 l0_2 x9_1).f0) < 2148532224 then (mezzaninelaw25_ConfApart.j1 k1 a1 t146 (IntKind.u64.wrap (x7_1 + ((rd_T53 l0_2 x9_1).f1))) x8_1 x9_1 true a0_0 a0_1 l0_2 ((rd_T53 l0_2 x9_1).f0) ((rd_T53 l0_2 x9_1).f1)) else (mezzaninelaw25_ConfApart.j1 k1 a1 t146 (IntKind.u64.wrap (x7_1 + ((rd_T53 l0_2 x9_1).f1))) x8_1 x9_1 (decide ((IntKind.u64.wrap (((rd_T53 l0_2 x9_1).f0) + ((rd_T53 l0_2 x9_1).f1))) > (IntKind.u64.wrap (2147483648 + a0_0)))) a0_0 a0_1 l0_2 ((rd_T53 l0_2 x9_1).f0) ((rd_T53 l0_2 x9_1).f1))))))) else (mezzaninelaw25_ConfApart.j1 k1 a1 t146 (IntKind.u64.wrap (x7_1 + ((rd_T53 l0_2 x9_1).f1))) x8_1 x9_1 true a0_0 a0_1 l0_2 ((rd_T53 l0_2 x9_1).f0) ((rd_T53 l0_2 x9_1).f1))) = some r := H
                    have A27 := Aside0.mk A270
                    clear A270
                    by_cases c28 : t155 = x9_1
                    · rw [if_pos c28] at H
                      have c28b0 : (t155 == x9_1) = true := beq_iff_eq.mpr c28
                      have c28b1 : (t155 != x9_1) = false := bne_eq_false_iff_eq.mpr c28
                      clear c28
                      replace H := Option.bind_eq_some_iff.mp H
                      obtain ⟨t156, A290, H⟩ := H
                      replace H : (if t156 = x9_1 then (mezzaninelaw25_ConfApart.j1 k1 a1 t146 (IntKind.u64.wrap (x7_1 + ((rd_T53 l0_2 x9_1).f1))) x8_1 x9_1 true a0_0 a0_1 l0_2 ((rd_T53 l0_2 x9_1).f0) ((rd_T53 l0_2 x9_1).f1)) else ((conf_Whose.f a0_0 a0_1 l0_2 (IntKind.u64.wrap (((rd_T53 l0_2 x9_1).f0) + ((rd_T53 l0_2 x9_1).f1)))).bind fun t157 => (if t157 = x9_1 then (mezzaninelaw25_ConfApart.j1 k1 a1 t146 (IntKind.u64.wrap (x7_1 + ((rd_T53 l0_2 x9_1).f1))) x8_1 x9_1 true a0_0 a0_1 l0_2 ((rd_T53 l0_2 x9_1).f0) ((rd_T53 l0_2 x9_1).f1)) else (if ((rd_T53 l0_2 x9_1).f0) < 2148532224 then (mezzaninelaw25_ConfApart.j1 k1 a1 t146 (IntKind.u64.wrap (x7_1 + ((rd_T53 l0_2 x9_1).f1))) x8_1 x9_1 true a0_0 a0_1 l0_2 ((rd_T53 l0_2 x9_1).f0) ((rd_T53 l0_2 x9_1).f1)) else (mezzaninelaw25_ConfApart.j1 k1 a1 t146 (IntKind.u64.wrap (x7_1 + ((rd_T53 l0_2 x9_1).f1))) x8_1 x9_1 (decide ((IntKind.u64.wrap (((rd_T53 l0_2 x9_1).f0) + ((rd_T53 l0_2 x9_1).f1))) > (IntKind.u64.wrap (2147483648 + a0_0)))) a0_0 a0_1 l0_2 ((rd_T53 l0_2 x9_1).f0) ((rd_T53 l0_2 x9_1).f1)))))) = some r := H
                      have A29 := Aside0.mk A290
                      clear A290
                      by_cases c30 : t156 = x9_1
                      · rw [if_pos c30] at H
                        have c30b0 : (t156 == x9_1) = true := beq_iff_eq.mpr c30
                        have c30b1 : (t156 != x9_1) = false := bne_eq_false_iff_eq.mpr c30
                        clear c30
                        have H' := Aside0.mk H
                        clear H
                        have hnb31 := NB144_153.out
                        have hnc31 := NB153_144.out
                        have hcz32_0 : w22.cell? ⟨gb144, 0, none⟩ = some (.int .u64 a0_0) := (blk_cell BK144.out 0).trans rfl
                        have hcz32_1 : w22.cell? ⟨gb144, 1, none⟩ = some (.int .u64 a0_1) := (blk_cell BK144.out 1).trans rfl
                        have hcz32_2 : w22.cell? ⟨gb144, 2, none⟩ = some (.slice (some ad152) l0_2.length c0_2) := (blk_cell BK144.out 2).trans rfl
                        have hfz32_0 := blk_frozen BK144.out 0
                        have hfz32_1 := blk_frozen BK144.out 1
                        have hfz32_2 := blk_frozen BK144.out 2
                        have hcz33_0 : w22.cell? ⟨gb153, 0, none⟩ = some (.int .u64 0) := (blk_cell BK153.out 0).trans rfl
                        have hcz33_1 : w22.cell? ⟨gb153, 1, none⟩ = some (.int .u64 0) := (blk_cell BK153.out 1).trans rfl
                        have hfz33_0 := blk_frozen BK153.out 0
                        have hfz33_1 := blk_frozen BK153.out 1
                        go_wp2_with (first | ((with_reducible refine gate_callee (f := 18) rfl ?_); refine goesL_ (some 66) rfl rfl Try.func18 (by kernel_rfl) rfl #[.agg #[.int .u64 a0_0, .int .u64 a0_1, .slice (some ad152) l0_2.length c0_2], .int .u64 ((rd_T53 l0_2 x9_1).f0)] rfl (by (try simp only [List.map_toArray, List.map_cons, List.map_nil]); first | done | rfl | (simp only [List.length_drop, List.length_take]; rfl)) ?_; (with_reducible refine (conf_Whose.calls a0_0 a0_1 _ _ l0_2 ((rd_T53 l0_2 x9_1).f0) t154 _ ?side1 ?side2 A25.out).mono ?_); (case side1 => exact Kd.C_below HR0_2.out (by repeat (first | (with_reducible first | exact HB.out | apply below_alloc | apply pw_below_drewN | apply below_drew1 | refine below_set ?_ GE144.out | refine below_set ?_ GE153.out) | exact HB.out))); (case side2 => exact HC0_2.out); rintro e w34 ⟨rfl, hb⟩; refine ⟨_, rfl, ?_⟩; have n0_ := Aside0.mk (blk_below (g := gb144) (o := .cells #[.int .u64 a0_0, .int .u64 a0_1, .slice (some ad152) l0_2.length c0_2] 25 (0, 0)) (by (with_reducible repeat (first | refine blk_drewN ?_ _ | refine blk_drew ?_ | refine blk_alloc ?_ _)); refine blk_far ?_ NB144_153.out _; (with_reducible repeat (first | refine blk_drewN ?_ _ | refine blk_drew ?_ | refine blk_alloc ?_ _)); refine blk_far ?_ NB144_153.out _; (with_reducible repeat (first | refine blk_drewN ?_ _ | refine blk_drew ?_ | refine blk_alloc ?_ _)); exact BK144.out) hb); have n1_ := Aside0.mk (blk_below (g := gb153) (o := .cells #[.int .u64 ((rd_T53 l0_2 x9_1).f0), .int .u64 ((rd_T53 l0_2 x9_1).f1)] 53 (0, 0)) (by (with_reducible repeat (first | refine blk_drewN ?_ _ | refine blk_drew ?_ | refine blk_alloc ?_ _)); refine blk_put (cs := #[.int .u64 ((rd_T53 l0_2 x9_1).f0), .int .u64 0]) ?_ 1 _ rfl; (with_reducible repeat (first | refine blk_drewN ?_ _ | refine blk_drew ?_ | refine blk_alloc ?_ _)); refine blk_put (cs := #[.int .u64 0, .int .u64 0]) ?_ 0 _ rfl; (with_reducible repeat (first | refine blk_drewN ?_ _ | refine blk_drew ?_ | refine blk_alloc ?_ _)); exact BK153.out) hb); have n2_ := Aside0.mk (below_step (by repeat (first | (with_reducible first | exact HB.out | apply below_alloc | apply pw_below_drewN | apply below_drew1 | refine below_set ?_ GE144.out | refine below_set ?_ GE153.out) | exact HB.out)) hb); clear BK144; clear BK153; clear HB; have BK144 := n0_; have BK153 := n1_; have HB := n2_; clear n0_ n1_ n2_; (try clear hb); (try clear hb2); (try clear hk); (try clear hi); have hcz35_0 : w34.cell? ⟨gb144, 0, none⟩ = some (.int .u64 a0_0) := (blk_cell BK144.out 0).trans rfl; have hcz35_1 : w34.cell? ⟨gb144, 1, none⟩ = some (.int .u64 a0_1) := (blk_cell BK144.out 1).trans rfl; have hcz35_2 : w34.cell? ⟨gb144, 2, none⟩ = some (.slice (some ad152) l0_2.length c0_2) := (blk_cell BK144.out 2).trans rfl; have hfz35_0 := blk_frozen BK144.out 0; have hfz35_1 := blk_frozen BK144.out 1; have hfz35_2 := blk_frozen BK144.out 2; have hcz36_0 : w34.cell? ⟨gb153, 0, none⟩ = some (.int .u64 ((rd_T53 l0_2 x9_1).f0)) := (blk_cell BK153.out 0).trans rfl; have hcz36_1 : w34.cell? ⟨gb153, 1, none⟩ = some (.int .u64 ((rd_T53 l0_2 x9_1).f1)) := (blk_cell BK153.out 1).trans rfl; have hfz36_0 := blk_frozen BK153.out 0; have hfz36_1 := blk_frozen BK153.out 1) | (go_at_call 18; (with_reducible refine (conf_Whose.calls a0_0 a0_1 _ _ l0_2 (IntKind.u64.wrap ((IntKind.u64.wrap (((rd_T53 l0_2 x9_1).f0) + ((rd_T53 l0_2 x9_1).f1))) - 1)) t155 _ ?side1 ?side2 A27.out).mono ?_); (case side1 => repeat (first | exact (Kd.C_below HR0_2.out HB.out) | (with_reducible refine Kd.C_alloc ?_ _) | (with_reducible refine Kd.C_drewN ?_ _) | (with_reducible refine Kd.C_drew ?_))); (case side2 => exact HC0_2.out); rintro e w37 ⟨rfl, hb⟩; have n0_ := Aside0.mk (blk_below (g := gb144) (o := .cells #[.int .u64 a0_0, .int .u64 a0_1, .slice (some ad152) l0_2.length c0_2] 25 (0, 0)) (by (with_reducible repeat (first | refine blk_drewN ?_ _ | refine blk_drew ?_ | refine blk_alloc ?_ _)); exact BK144.out) hb); have n1_ := Aside0.mk (blk_below (g := gb153) (o := .cells #[.int .u64 ((rd_T53 l0_2 x9_1).f0), .int .u64 ((rd_T53 l0_2 x9_1).f1)] 53 (0, 0)) (by (with_reducible repeat (first | refine blk_drewN ?_ _ | refine blk_drew ?_ | refine blk_alloc ?_ _)); exact BK153.out) hb); have n2_ := Aside0.mk (below_step (by repeat (first | (with_reducible first | exact HB.out | apply below_alloc | apply pw_below_drewN | apply below_drew1 | refine below_set ?_ GE144.out | refine below_set ?_ GE153.out) | exact HB.out)) hb); clear BK144; clear BK153; clear HB; have BK144 := n0_; have BK153 := n1_; have HB := n2_; clear n0_ n1_ n2_; (try clear hb); (try clear hb2); (try clear hk); (try clear hi); have hcz38_0 : w37.cell? ⟨gb144, 0, none⟩ = some (.int .u64 a0_0) := (blk_cell BK144.out 0).trans rfl; have hcz38_1 : w37.cell? ⟨gb144, 1, none⟩ = some (.int .u64 a0_1) := (blk_cell BK144.out 1).trans rfl; have hcz38_2 : w37.cell? ⟨gb144, 2, none⟩ = some (.slice (some ad152) l0_2.length c0_2) := (blk_cell BK144.out 2).trans rfl; have hfz38_0 := blk_frozen BK144.out 0; have hfz38_1 := blk_frozen BK144.out 1; have hfz38_2 := blk_frozen BK144.out 2; have hcz39_0 : w37.cell? ⟨gb153, 0, none⟩ = some (.int .u64 ((rd_T53 l0_2 x9_1).f0)) := (blk_cell BK153.out 0).trans rfl; have hcz39_1 : w37.cell? ⟨gb153, 1, none⟩ = some (.int .u64 ((rd_T53 l0_2 x9_1).f1)) := (blk_cell BK153.out 1).trans rfl; have hfz39_0 := blk_frozen BK153.out 0; have hfz39_1 := blk_frozen BK153.out 1) | (go_at_call 18; (with_reducible refine (conf_Whose.calls a0_0 a0_1 _ _ l0_2 (IntKind.u64.wrap (((rd_T53 l0_2 x9_1).f0) - 1)) t156 _ ?side1 ?side2 A29.out).mono ?_); (case side1 => repeat (first | exact (Kd.C_below HR0_2.out HB.out) | (with_reducible refine Kd.C_alloc ?_ _) | (with_reducible refine Kd.C_drewN ?_ _) | (with_reducible refine Kd.C_drew ?_))); (case side2 => exact HC0_2.out); rintro e w40 ⟨rfl, hb⟩; have n0_ := Aside0.mk (blk_below (g := gb144) (o := .cells #[.int .u64 a0_0, .int .u64 a0_1, .slice (some ad152) l0_2.length c0_2] 25 (0, 0)) (by (with_reducible repeat (first | refine blk_drewN ?_ _ | refine blk_drew ?_ | refine blk_alloc ?_ _)); exact BK144.out) hb); have n1_ := Aside0.mk (blk_below (g := gb153) (o := .cells #[.int .u64 ((rd_T53 l0_2 x9_1).f0), .int .u64 ((rd_T53 l0_2 x9_1).f1)] 53 (0, 0)) (by (with_reducible repeat (first | refine blk_drewN ?_ _ | refine blk_drew ?_ | refine blk_alloc ?_ _)); exact BK153.out) hb); have n2_ := Aside0.mk (below_step (by repeat (first | (with_reducible first | exact HB.out | apply below_alloc | apply pw_below_drewN | apply below_drew1 | refine below_set ?_ GE144.out | refine below_set ?_ GE153.out) | exact HB.out)) hb); clear BK144; clear BK153; clear HB; have BK144 := n0_; have BK153 := n1_; have HB := n2_; clear n0_ n1_ n2_; (try clear hb); (try clear hb2); (try clear hk); (try clear hi)))
                        go_meet
                        case rel => exact ⟨_, (true), (by first | rfl | (simp; done) | (simp [*]; done)), H', ⟨by have := HK1.out; first | omega | exact Nat.le_refl _⟩, ⟨by (with_reducible repeat (first | refine blk_drewN ?_ _ | refine blk_drew ?_ | refine blk_alloc ?_ _)); exact BK144.out⟩, ⟨by (with_reducible repeat (first | refine blk_drewN ?_ _ | refine blk_drew ?_ | refine blk_alloc ?_ _)); exact BK153.out⟩, ⟨by repeat (first | (with_reducible first | exact HB.out | apply below_alloc | apply pw_below_drewN | apply below_drew1 | refine below_set ?_ GE144.out | refine below_set ?_ GE153.out) | exact HB.out)⟩⟩
                      · rw [if_neg c30] at H
                        have c30b0 : (t156 == x9_1) = false := beq_eq_false_iff_ne.mpr c30
                        have c30b1 : (t156 != x9_1) = true := bne_iff_ne.mpr c30
                        replace H := Option.bind_eq_some_iff.mp H
                        obtain ⟨t157, A410, H⟩ := H
                        replace H : (if t157 = x9_1 then (mezzaninelaw25_ConfApart.j1 k1 a1 t146 (IntKind.u64.wrap (x7_1 + ((rd_T53 l0_2 x9_1).f1))) x8_1 x9_1 true a0_0 a0_1 l0_2 ((rd_T53 l0_2 x9_1).f0) ((rd_T53 l0_2 x9_1).f1)) else (if ((rd_T53 l0_2 x9_1).f0) < 2148532224 then (mezzaninelaw25_ConfApart.j1 k1 a1 t146 (IntKind.u64.wrap (x7_1 + ((rd_T53 l0_2 x9_1).f1))) x8_1 x9_1 true a0_0 a0_1 l0_2 ((rd_T53 l0_2 x9_1).f0) ((rd_T53 l0_2 x9_1).f1)) else (mezzaninelaw25_ConfApart.j1 k1 a1 t146 (IntKind.u64.wrap (x7_1 + ((rd_T53 l0_2 x9_1).f1))) x8_1 x9_1 (decide ((IntKind.u64.wrap (((rd_T53 l0_2 x9_1).f0) + ((rd_T53 l0_2 x9_1).f1))) > (IntKind.u64.wrap (2147483648 + a0_0)))) a0_0 a0_1 l0_2 ((rd_T53 l0_2 x9_1).f0) ((rd_T53 l0_2 x9_1).f1)))) = some r := H
                        have A41 := Aside0.mk A410
                        clear A410
                        by_cases c42 : t157 = x9_1
                        · rw [if_pos c42] at H
                          have c42b0 : (t157 == x9_1) = true := beq_iff_eq.mpr c42
                          have c42b1 : (t157 != x9_1) = false := bne_eq_false_iff_eq.mpr c42
                          clear c42
                          have H' := Aside0.mk H
                          clear H
                          have hnb43 := NB144_153.out
                          have hnc43 := NB153_144.out
                          have hcz44_0 : w22.cell? ⟨gb144, 0, none⟩ = some (.int .u64 a0_0) := (blk_cell BK144.out 0).trans rfl
                          have hcz44_1 : w22.cell? ⟨gb144, 1, none⟩ = some (.int .u64 a0_1) := (blk_cell BK144.out 1).trans rfl
                          have hcz44_2 : w22.cell? ⟨gb144, 2, none⟩ = some (.slice (some ad152) l0_2.length c0_2) := (blk_cell BK144.out 2).trans rfl
                          have hfz44_0 := blk_frozen BK144.out 0
                          have hfz44_1 := blk_frozen BK144.out 1
                          have hfz44_2 := blk_frozen BK144.out 2
                          have hcz45_0 : w22.cell? ⟨gb153, 0, none⟩ = some (.int .u64 0) := (blk_cell BK153.out 0).trans rfl
                          have hcz45_1 : w22.cell? ⟨gb153, 1, none⟩ = some (.int .u64 0) := (blk_cell BK153.out 1).trans rfl
                          have hfz45_0 := blk_frozen BK153.out 0
                          have hfz45_1 := blk_frozen BK153.out 1
                          go_wp2_with (first | ((with_reducible refine gate_callee (f := 18) rfl ?_); refine goesL_ (some 66) rfl rfl Try.func18 (by kernel_rfl) rfl #[.agg #[.int .u64 a0_0, .int .u64 a0_1, .slice (some ad152) l0_2.length c0_2], .int .u64 ((rd_T53 l0_2 x9_1).f0)] rfl (by (try simp only [List.map_toArray, List.map_cons, List.map_nil]); first | done | rfl | (simp only [List.length_drop, List.length_take]; rfl)) ?_; (with_reducible refine (conf_Whose.calls a0_0 a0_1 _ _ l0_2 ((rd_T53 l0_2 x9_1).f0) t154 _ ?side1 ?side2 A25.out).mono ?_); (case side1 => exact Kd.C_below HR0_2.out (by repeat (first | (with_reducible first | exact HB.out | apply below_alloc | apply pw_below_drewN | apply below_drew1 | refine below_set ?_ GE144.out | refine below_set ?_ GE153.out) | exact HB.out))); (case side2 => exact HC0_2.out); rintro e w46 ⟨rfl, hb⟩; refine ⟨_, rfl, ?_⟩; have n0_ := Aside0.mk (blk_below (g := gb144) (o := .cells #[.int .u64 a0_0, .int .u64 a0_1, .slice (some ad152) l0_2.length c0_2] 25 (0, 0)) (by (with_reducible repeat (first | refine blk_drewN ?_ _ | refine blk_drew ?_ | refine blk_alloc ?_ _)); refine blk_far ?_ NB144_153.out _; (with_reducible repeat (first | refine blk_drewN ?_ _ | refine blk_drew ?_ | refine blk_alloc ?_ _)); refine blk_far ?_ NB144_153.out _; (with_reducible repeat (first | refine blk_drewN ?_ _ | refine blk_drew ?_ | refine blk_alloc ?_ _)); exact BK144.out) hb); have n1_ := Aside0.mk (blk_below (g := gb153) (o := .cells #[.int .u64 ((rd_T53 l0_2 x9_1).f0), .int .u64 ((rd_T53 l0_2 x9_1).f1)] 53 (0, 0)) (by (with_reducible repeat (first | refine blk_drewN ?_ _ | refine blk_drew ?_ | refine blk_alloc ?_ _)); refine blk_put (cs := #[.int .u64 ((rd_T53 l0_2 x9_1).f0), .int .u64 0]) ?_ 1 _ rfl; (with_reducible repeat (first | refine blk_drewN ?_ _ | refine blk_drew ?_ | refine blk_alloc ?_ _)); refine blk_put (cs := #[.int .u64 0, .int .u64 0]) ?_ 0 _ rfl; (with_reducible repeat (first | refine blk_drewN ?_ _ | refine blk_drew ?_ | refine blk_alloc ?_ _)); exact BK153.out) hb); have n2_ := Aside0.mk (below_step (by repeat (first | (with_reducible first | exact HB.out | apply below_alloc | apply pw_below_drewN | apply below_drew1 | refine below_set ?_ GE144.out | refine below_set ?_ GE153.out) | exact HB.out)) hb); clear BK144; clear BK153; clear HB; have BK144 := n0_; have BK153 := n1_; have HB := n2_; clear n0_ n1_ n2_; (try clear hb); (try clear hb2); (try clear hk); (try clear hi); have hcz47_0 : w46.cell? ⟨gb144, 0, none⟩ = some (.int .u64 a0_0) := (blk_cell BK144.out 0).trans rfl; have hcz47_1 : w46.cell? ⟨gb144, 1, none⟩ = some (.int .u64 a0_1) := (blk_cell BK144.out 1).trans rfl; have hcz47_2 : w46.cell? ⟨gb144, 2, none⟩ = some (.slice (some ad152) l0_2.length c0_2) := (blk_cell BK144.out 2).trans rfl; have hfz47_0 := blk_frozen BK144.out 0; have hfz47_1 := blk_frozen BK144.out 1; have hfz47_2 := blk_frozen BK144.out 2; have hcz48_0 : w46.cell? ⟨gb153, 0, none⟩ = some (.int .u64 ((rd_T53 l0_2 x9_1).f0)) := (blk_cell BK153.out 0).trans rfl; have hcz48_1 : w46.cell? ⟨gb153, 1, none⟩ = some (.int .u64 ((rd_T53 l0_2 x9_1).f1)) := (blk_cell BK153.out 1).trans rfl; have hfz48_0 := blk_frozen BK153.out 0; have hfz48_1 := blk_frozen BK153.out 1) | (go_at_call 18; (with_reducible refine (conf_Whose.calls a0_0 a0_1 _ _ l0_2 (IntKind.u64.wrap ((IntKind.u64.wrap (((rd_T53 l0_2 x9_1).f0) + ((rd_T53 l0_2 x9_1).f1))) - 1)) t155 _ ?side1 ?side2 A27.out).mono ?_); (case side1 => repeat (first | exact (Kd.C_below HR0_2.out HB.out) | (with_reducible refine Kd.C_alloc ?_ _) | (with_reducible refine Kd.C_drewN ?_ _) | (with_reducible refine Kd.C_drew ?_))); (case side2 => exact HC0_2.out); rintro e w49 ⟨rfl, hb⟩; have n0_ := Aside0.mk (blk_below (g := gb144) (o := .cells #[.int .u64 a0_0, .int .u64 a0_1, .slice (some ad152) l0_2.length c0_2] 25 (0, 0)) (by (with_reducible repeat (first | refine blk_drewN ?_ _ | refine blk_drew ?_ | refine blk_alloc ?_ _)); exact BK144.out) hb); have n1_ := Aside0.mk (blk_below (g := gb153) (o := .cells #[.int .u64 ((rd_T53 l0_2 x9_1).f0), .int .u64 ((rd_T53 l0_2 x9_1).f1)] 53 (0, 0)) (by (with_reducible repeat (first | refine blk_drewN ?_ _ | refine blk_drew ?_ | refine blk_alloc ?_ _)); exact BK153.out) hb); have n2_ := Aside0.mk (below_step (by repeat (first | (with_reducible first | exact HB.out | apply below_alloc | apply pw_below_drewN | apply below_drew1 | refine below_set ?_ GE144.out | refine below_set ?_ GE153.out) | exact HB.out)) hb); clear BK144; clear BK153; clear HB; have BK144 := n0_; have BK153 := n1_; have HB := n2_; clear n0_ n1_ n2_; (try clear hb); (try clear hb2); (try clear hk); (try clear hi); have hcz50_0 : w49.cell? ⟨gb144, 0, none⟩ = some (.int .u64 a0_0) := (blk_cell BK144.out 0).trans rfl; have hcz50_1 : w49.cell? ⟨gb144, 1, none⟩ = some (.int .u64 a0_1) := (blk_cell BK144.out 1).trans rfl; have hcz50_2 : w49.cell? ⟨gb144, 2, none⟩ = some (.slice (some ad152) l0_2.length c0_2) := (blk_cell BK144.out 2).trans rfl; have hfz50_0 := blk_frozen BK144.out 0; have hfz50_1 := blk_frozen BK144.out 1; have hfz50_2 := blk_frozen BK144.out 2; have hcz51_0 : w49.cell? ⟨gb153, 0, none⟩ = some (.int .u64 ((rd_T53 l0_2 x9_1).f0)) := (blk_cell BK153.out 0).trans rfl; have hcz51_1 : w49.cell? ⟨gb153, 1, none⟩ = some (.int .u64 ((rd_T53 l0_2 x9_1).f1)) := (blk_cell BK153.out 1).trans rfl; have hfz51_0 := blk_frozen BK153.out 0; have hfz51_1 := blk_frozen BK153.out 1) | (go_at_call 18; (with_reducible refine (conf_Whose.calls a0_0 a0_1 _ _ l0_2 (IntKind.u64.wrap (((rd_T53 l0_2 x9_1).f0) - 1)) t156 _ ?side1 ?side2 A29.out).mono ?_); (case side1 => repeat (first | exact (Kd.C_below HR0_2.out HB.out) | (with_reducible refine Kd.C_alloc ?_ _) | (with_reducible refine Kd.C_drewN ?_ _) | (with_reducible refine Kd.C_drew ?_))); (case side2 => exact HC0_2.out); rintro e w52 ⟨rfl, hb⟩; have n0_ := Aside0.mk (blk_below (g := gb144) (o := .cells #[.int .u64 a0_0, .int .u64 a0_1, .slice (some ad152) l0_2.length c0_2] 25 (0, 0)) (by (with_reducible repeat (first | refine blk_drewN ?_ _ | refine blk_drew ?_ | refine blk_alloc ?_ _)); exact BK144.out) hb); have n1_ := Aside0.mk (blk_below (g := gb153) (o := .cells #[.int .u64 ((rd_T53 l0_2 x9_1).f0), .int .u64 ((rd_T53 l0_2 x9_1).f1)] 53 (0, 0)) (by (with_reducible repeat (first | refine blk_drewN ?_ _ | refine blk_drew ?_ | refine blk_alloc ?_ _)); exact BK153.out) hb); have n2_ := Aside0.mk (below_step (by repeat (first | (with_reducible first | exact HB.out | apply below_alloc | apply pw_below_drewN | apply below_drew1 | refine below_set ?_ GE144.out | refine below_set ?_ GE153.out) | exact HB.out)) hb); clear BK144; clear BK153; clear HB; have BK144 := n0_; have BK153 := n1_; have HB := n2_; clear n0_ n1_ n2_; (try clear hb); (try clear hb2); (try clear hk); (try clear hi); have hcz53_0 : w52.cell? ⟨gb144, 0, none⟩ = some (.int .u64 a0_0) := (blk_cell BK144.out 0).trans rfl; have hcz53_1 : w52.cell? ⟨gb144, 1, none⟩ = some (.int .u64 a0_1) := (blk_cell BK144.out 1).trans rfl; have hcz53_2 : w52.cell? ⟨gb144, 2, none⟩ = some (.slice (some ad152) l0_2.length c0_2) := (blk_cell BK144.out 2).trans rfl; have hfz53_0 := blk_frozen BK144.out 0; have hfz53_1 := blk_frozen BK144.out 1; have hfz53_2 := blk_frozen BK144.out 2; have hcz54_0 : w52.cell? ⟨gb153, 0, none⟩ = some (.int .u64 ((rd_T53 l0_2 x9_1).f0)) := (blk_cell BK153.out 0).trans rfl; have hcz54_1 : w52.cell? ⟨gb153, 1, none⟩ = some (.int .u64 ((rd_T53 l0_2 x9_1).f1)) := (blk_cell BK153.out 1).trans rfl; have hfz54_0 := blk_frozen BK153.out 0; have hfz54_1 := blk_frozen BK153.out 1) | (go_at_call 18; (with_reducible refine (conf_Whose.calls a0_0 a0_1 _ _ l0_2 (IntKind.u64.wrap (((rd_T53 l0_2 x9_1).f0) + ((rd_T53 l0_2 x9_1).f1))) t157 _ ?side1 ?side2 A41.out).mono ?_); (case side1 => repeat (first | exact (Kd.C_below HR0_2.out HB.out) | (with_reducible refine Kd.C_alloc ?_ _) | (with_reducible refine Kd.C_drewN ?_ _) | (with_reducible refine Kd.C_drew ?_))); (case side2 => exact HC0_2.out); rintro e w55 ⟨rfl, hb⟩; have n0_ := Aside0.mk (blk_below (g := gb144) (o := .cells #[.int .u64 a0_0, .int .u64 a0_1, .slice (some ad152) l0_2.length c0_2] 25 (0, 0)) (by (with_reducible repeat (first | refine blk_drewN ?_ _ | refine blk_drew ?_ | refine blk_alloc ?_ _)); exact BK144.out) hb); have n1_ := Aside0.mk (blk_below (g := gb153) (o := .cells #[.int .u64 ((rd_T53 l0_2 x9_1).f0), .int .u64 ((rd_T53 l0_2 x9_1).f1)] 53 (0, 0)) (by (with_reducible repeat (first | refine blk_drewN ?_ _ | refine blk_drew ?_ | refine blk_alloc ?_ _)); exact BK153.out) hb); have n2_ := Aside0.mk (below_step (by repeat (first | (with_reducible first | exact HB.out | apply below_alloc | apply pw_below_drewN | apply below_drew1 | refine below_set ?_ GE144.out | refine below_set ?_ GE153.out) | exact HB.out)) hb); clear BK144; clear BK153; clear HB; have BK144 := n0_; have BK153 := n1_; have HB := n2_; clear n0_ n1_ n2_; (try clear hb); (try clear hb2); (try clear hk); (try clear hi)))
                          go_meet
                          case rel => exact ⟨_, (true), (by first | rfl | (simp; done) | (simp [*]; done)), H', ⟨by have := HK1.out; first | omega | exact Nat.le_refl _⟩, ⟨by (with_reducible repeat (first | refine blk_drewN ?_ _ | refine blk_drew ?_ | refine blk_alloc ?_ _)); exact BK144.out⟩, ⟨by (with_reducible repeat (first | refine blk_drewN ?_ _ | refine blk_drew ?_ | refine blk_alloc ?_ _)); exact BK153.out⟩, ⟨by repeat (first | (with_reducible first | exact HB.out | apply below_alloc | apply pw_below_drewN | apply below_drew1 | refine below_set ?_ GE144.out | refine below_set ?_ GE153.out) | exact HB.out)⟩⟩
                        · rw [if_neg c42] at H
                          have c42b0 : (t157 == x9_1) = false := beq_eq_false_iff_ne.mpr c42
                          have c42b1 : (t157 != x9_1) = true := bne_iff_ne.mpr c42
                          by_cases c56 : ((rd_T53 l0_2 x9_1).f0) < 2148532224
                          · rw [if_pos c56] at H
                            have c56b0 : decide (((rd_T53 l0_2 x9_1).f0) < 2148532224) = true := decide_eq_true c56
                            clear c56
                            have H' := Aside0.mk H
                            clear H
                            have hnb57 := NB144_153.out
                            have hnc57 := NB153_144.out
                            have hcz58_0 : w22.cell? ⟨gb144, 0, none⟩ = some (.int .u64 a0_0) := (blk_cell BK144.out 0).trans rfl
                            have hcz58_1 : w22.cell? ⟨gb144, 1, none⟩ = some (.int .u64 a0_1) := (blk_cell BK144.out 1).trans rfl
                            have hcz58_2 : w22.cell? ⟨gb144, 2, none⟩ = some (.slice (some ad152) l0_2.length c0_2) := (blk_cell BK144.out 2).trans rfl
                            have hfz58_0 := blk_frozen BK144.out 0
                            have hfz58_1 := blk_frozen BK144.out 1
                            have hfz58_2 := blk_frozen BK144.out 2
                            have hcz59_0 : w22.cell? ⟨gb153, 0, none⟩ = some (.int .u64 0) := (blk_cell BK153.out 0).trans rfl
                            have hcz59_1 : w22.cell? ⟨gb153, 1, none⟩ = some (.int .u64 0) := (blk_cell BK153.out 1).trans rfl
                            have hfz59_0 := blk_frozen BK153.out 0
                            have hfz59_1 := blk_frozen BK153.out 1
                            go_wp2_with (first | ((with_reducible refine gate_callee (f := 18) rfl ?_); refine goesL_ (some 66) rfl rfl Try.func18 (by kernel_rfl) rfl #[.agg #[.int .u64 a0_0, .int .u64 a0_1, .slice (some ad152) l0_2.length c0_2], .int .u64 ((rd_T53 l0_2 x9_1).f0)] rfl (by (try simp only [List.map_toArray, List.map_cons, List.map_nil]); first | done | rfl | (simp only [List.length_drop, List.length_take]; rfl)) ?_; (with_reducible refine (conf_Whose.calls a0_0 a0_1 _ _ l0_2 ((rd_T53 l0_2 x9_1).f0) t154 _ ?side1 ?side2 A25.out).mono ?_); (case side1 => exact Kd.C_below HR0_2.out (by repeat (first | (with_reducible first | exact HB.out | apply below_alloc | apply pw_below_drewN | apply below_drew1 | refine below_set ?_ GE144.out | refine below_set ?_ GE153.out) | exact HB.out))); (case side2 => exact HC0_2.out); rintro e w60 ⟨rfl, hb⟩; refine ⟨_, rfl, ?_⟩; have n0_ := Aside0.mk (blk_below (g := gb144) (o := .cells #[.int .u64 a0_0, .int .u64 a0_1, .slice (some ad152) l0_2.length c0_2] 25 (0, 0)) (by (with_reducible repeat (first | refine blk_drewN ?_ _ | refine blk_drew ?_ | refine blk_alloc ?_ _)); refine blk_far ?_ NB144_153.out _; (with_reducible repeat (first | refine blk_drewN ?_ _ | refine blk_drew ?_ | refine blk_alloc ?_ _)); refine blk_far ?_ NB144_153.out _; (with_reducible repeat (first | refine blk_drewN ?_ _ | refine blk_drew ?_ | refine blk_alloc ?_ _)); exact BK144.out) hb); have n1_ := Aside0.mk (blk_below (g := gb153) (o := .cells #[.int .u64 ((rd_T53 l0_2 x9_1).f0), .int .u64 ((rd_T53 l0_2 x9_1).f1)] 53 (0, 0)) (by (with_reducible repeat (first | refine blk_drewN ?_ _ | refine blk_drew ?_ | refine blk_alloc ?_ _)); refine blk_put (cs := #[.int .u64 ((rd_T53 l0_2 x9_1).f0), .int .u64 0]) ?_ 1 _ rfl; (with_reducible repeat (first | refine blk_drewN ?_ _ | refine blk_drew ?_ | refine blk_alloc ?_ _)); refine blk_put (cs := #[.int .u64 0, .int .u64 0]) ?_ 0 _ rfl; (with_reducible repeat (first | refine blk_drewN ?_ _ | refine blk_drew ?_ | refine blk_alloc ?_ _)); exact BK153.out) hb); have n2_ := Aside0.mk (below_step (by repeat (first | (with_reducible first | exact HB.out | apply below_alloc | apply pw_below_drewN | apply below_drew1 | refine below_set ?_ GE144.out | refine below_set ?_ GE153.out) | exact HB.out)) hb); clear BK144; clear BK153; clear HB; have BK144 := n0_; have BK153 := n1_; have HB := n2_; clear n0_ n1_ n2_; (try clear hb); (try clear hb2); (try clear hk); (try clear hi); have hcz61_0 : w60.cell? ⟨gb144, 0, none⟩ = some (.int .u64 a0_0) := (blk_cell BK144.out 0).trans rfl; have hcz61_1 : w60.cell? ⟨gb144, 1, none⟩ = some (.int .u64 a0_1) := (blk_cell BK144.out 1).trans rfl; have hcz61_2 : w60.cell? ⟨gb144, 2, none⟩ = some (.slice (some ad152) l0_2.length c0_2) := (blk_cell BK144.out 2).trans rfl; have hfz61_0 := blk_frozen BK144.out 0; have hfz61_1 := blk_frozen BK144.out 1; have hfz61_2 := blk_frozen BK144.out 2; have hcz62_0 : w60.cell? ⟨gb153, 0, none⟩ = some (.int .u64 ((rd_T53 l0_2 x9_1).f0)) := (blk_cell BK153.out 0).trans rfl; have hcz62_1 : w60.cell? ⟨gb153, 1, none⟩ = some (.int .u64 ((rd_T53 l0_2 x9_1).f1)) := (blk_cell BK153.out 1).trans rfl; have hfz62_0 := blk_frozen BK153.out 0; have hfz62_1 := blk_frozen BK153.out 1) | (go_at_call 18; (with_reducible refine (conf_Whose.calls a0_0 a0_1 _ _ l0_2 (IntKind.u64.wrap ((IntKind.u64.wrap (((rd_T53 l0_2 x9_1).f0) + ((rd_T53 l0_2 x9_1).f1))) - 1)) t155 _ ?side1 ?side2 A27.out).mono ?_); (case side1 => repeat (first | exact (Kd.C_below HR0_2.out HB.out) | (with_reducible refine Kd.C_alloc ?_ _) | (with_reducible refine Kd.C_drewN ?_ _) | (with_reducible refine Kd.C_drew ?_))); (case side2 => exact HC0_2.out); rintro e w63 ⟨rfl, hb⟩; have n0_ := Aside0.mk (blk_below (g := gb144) (o := .cells #[.int .u64 a0_0, .int .u64 a0_1, .slice (some ad152) l0_2.length c0_2] 25 (0, 0)) (by (with_reducible repeat (first | refine blk_drewN ?_ _ | refine blk_drew ?_ | refine blk_alloc ?_ _)); exact BK144.out) hb); have n1_ := Aside0.mk (blk_below (g := gb153) (o := .cells #[.int .u64 ((rd_T53 l0_2 x9_1).f0), .int .u64 ((rd_T53 l0_2 x9_1).f1)] 53 (0, 0)) (by (with_reducible repeat (first | refine blk_drewN ?_ _ | refine blk_drew ?_ | refine blk_alloc ?_ _)); exact BK153.out) hb); have n2_ := Aside0.mk (below_step (by repeat (first | (with_reducible first | exact HB.out | apply below_alloc | apply pw_below_drewN | apply below_drew1 | refine below_set ?_ GE144.out | refine below_set ?_ GE153.out) | exact HB.out)) hb); clear BK144; clear BK153; clear HB; have BK144 := n0_; have BK153 := n1_; have HB := n2_; clear n0_ n1_ n2_; (try clear hb); (try clear hb2); (try clear hk); (try clear hi); have hcz64_0 : w63.cell? ⟨gb144, 0, none⟩ = some (.int .u64 a0_0) := (blk_cell BK144.out 0).trans rfl; have hcz64_1 : w63.cell? ⟨gb144, 1, none⟩ = some (.int .u64 a0_1) := (blk_cell BK144.out 1).trans rfl; have hcz64_2 : w63.cell? ⟨gb144, 2, none⟩ = some (.slice (some ad152) l0_2.length c0_2) := (blk_cell BK144.out 2).trans rfl; have hfz64_0 := blk_frozen BK144.out 0; have hfz64_1 := blk_frozen BK144.out 1; have hfz64_2 := blk_frozen BK144.out 2; have hcz65_0 : w63.cell? ⟨gb153, 0, none⟩ = some (.int .u64 ((rd_T53 l0_2 x9_1).f0)) := (blk_cell BK153.out 0).trans rfl; have hcz65_1 : w63.cell? ⟨gb153, 1, none⟩ = some (.int .u64 ((rd_T53 l0_2 x9_1).f1)) := (blk_cell BK153.out 1).trans rfl; have hfz65_0 := blk_frozen BK153.out 0; have hfz65_1 := blk_frozen BK153.out 1) | (go_at_call 18; (with_reducible refine (conf_Whose.calls a0_0 a0_1 _ _ l0_2 (IntKind.u64.wrap (((rd_T53 l0_2 x9_1).f0) - 1)) t156 _ ?side1 ?side2 A29.out).mono ?_); (case side1 => repeat (first | exact (Kd.C_below HR0_2.out HB.out) | (with_reducible refine Kd.C_alloc ?_ _) | (with_reducible refine Kd.C_drewN ?_ _) | (with_reducible refine Kd.C_drew ?_))); (case side2 => exact HC0_2.out); rintro e w66 ⟨rfl, hb⟩; have n0_ := Aside0.mk (blk_below (g := gb144) (o := .cells #[.int .u64 a0_0, .int .u64 a0_1, .slice (some ad152) l0_2.length c0_2] 25 (0, 0)) (by (with_reducible repeat (first | refine blk_drewN ?_ _ | refine blk_drew ?_ | refine blk_alloc ?_ _)); exact BK144.out) hb); have n1_ := Aside0.mk (blk_below (g := gb153) (o := .cells #[.int .u64 ((rd_T53 l0_2 x9_1).f0), .int .u64 ((rd_T53 l0_2 x9_1).f1)] 53 (0, 0)) (by (with_reducible repeat (first | refine blk_drewN ?_ _ | refine blk_drew ?_ | refine blk_alloc ?_ _)); exact BK153.out) hb); have n2_ := Aside0.mk (below_step (by repeat (first | (with_reducible first | exact HB.out | apply below_alloc | apply pw_below_drewN | apply below_drew1 | refine below_set ?_ GE144.out | refine below_set ?_ GE153.out) | exact HB.out)) hb); clear BK144; clear BK153; clear HB; have BK144 := n0_; have BK153 := n1_; have HB := n2_; clear n0_ n1_ n2_; (try clear hb); (try clear hb2); (try clear hk); (try clear hi); have hcz67_0 : w66.cell? ⟨gb144, 0, none⟩ = some (.int .u64 a0_0) := (blk_cell BK144.out 0).trans rfl; have hcz67_1 : w66.cell? ⟨gb144, 1, none⟩ = some (.int .u64 a0_1) := (blk_cell BK144.out 1).trans rfl; have hcz67_2 : w66.cell? ⟨gb144, 2, none⟩ = some (.slice (some ad152) l0_2.length c0_2) := (blk_cell BK144.out 2).trans rfl; have hfz67_0 := blk_frozen BK144.out 0; have hfz67_1 := blk_frozen BK144.out 1; have hfz67_2 := blk_frozen BK144.out 2; have hcz68_0 : w66.cell? ⟨gb153, 0, none⟩ = some (.int .u64 ((rd_T53 l0_2 x9_1).f0)) := (blk_cell BK153.out 0).trans rfl; have hcz68_1 : w66.cell? ⟨gb153, 1, none⟩ = some (.int .u64 ((rd_T53 l0_2 x9_1).f1)) := (blk_cell BK153.out 1).trans rfl; have hfz68_0 := blk_frozen BK153.out 0; have hfz68_1 := blk_frozen BK153.out 1) | (go_at_call 18; (with_reducible refine (conf_Whose.calls a0_0 a0_1 _ _ l0_2 (IntKind.u64.wrap (((rd_T53 l0_2 x9_1).f0) + ((rd_T53 l0_2 x9_1).f1))) t157 _ ?side1 ?side2 A41.out).mono ?_); (case side1 => repeat (first | exact (Kd.C_below HR0_2.out HB.out) | (with_reducible refine Kd.C_alloc ?_ _) | (with_reducible refine Kd.C_drewN ?_ _) | (with_reducible refine Kd.C_drew ?_))); (case side2 => exact HC0_2.out); rintro e w69 ⟨rfl, hb⟩; have n0_ := Aside0.mk (blk_below (g := gb144) (o := .cells #[.int .u64 a0_0, .int .u64 a0_1, .slice (some ad152) l0_2.length c0_2] 25 (0, 0)) (by (with_reducible repeat (first | refine blk_drewN ?_ _ | refine blk_drew ?_ | refine blk_alloc ?_ _)); exact BK144.out) hb); have n1_ := Aside0.mk (blk_below (g := gb153) (o := .cells #[.int .u64 ((rd_T53 l0_2 x9_1).f0), .int .u64 ((rd_T53 l0_2 x9_1).f1)] 53 (0, 0)) (by (with_reducible repeat (first | refine blk_drewN ?_ _ | refine blk_drew ?_ | refine blk_alloc ?_ _)); exact BK153.out) hb); have n2_ := Aside0.mk (below_step (by repeat (first | (with_reducible first | exact HB.out | apply below_alloc | apply pw_below_drewN | apply below_drew1 | refine below_set ?_ GE144.out | refine below_set ?_ GE153.out) | exact HB.out)) hb); clear BK144; clear BK153; clear HB; have BK144 := n0_; have BK153 := n1_; have HB := n2_; clear n0_ n1_ n2_; (try clear hb); (try clear hb2); (try clear hk); (try clear hi); have hcz70_0 : w69.cell? ⟨gb153, 0, none⟩ = some (.int .u64 ((rd_T53 l0_2 x9_1).f0)) := (blk_cell BK153.out 0).trans rfl; have hcz70_1 : w69.cell? ⟨gb153, 1, none⟩ = some (.int .u64 ((rd_T53 l0_2 x9_1).f1)) := (blk_cell BK153.out 1).trans rfl; have hfz70_0 := blk_frozen BK153.out 0; have hfz70_1 := blk_frozen BK153.out 1))
                            go_meet
                            case rel => exact ⟨_, (true), (by first | rfl | (simp; done) | (simp [*]; done)), H', ⟨by have := HK1.out; first | omega | exact Nat.le_refl _⟩, ⟨by (with_reducible repeat (first | refine blk_drewN ?_ _ | refine blk_drew ?_ | refine blk_alloc ?_ _)); exact BK144.out⟩, ⟨by (with_reducible repeat (first | refine blk_drewN ?_ _ | refine blk_drew ?_ | refine blk_alloc ?_ _)); exact BK153.out⟩, ⟨by repeat (first | (with_reducible first | exact HB.out | apply below_alloc | apply pw_below_drewN | apply below_drew1 | refine below_set ?_ GE144.out | refine below_set ?_ GE153.out) | exact HB.out)⟩⟩
                          · rw [if_neg c56] at H
                            have c56b0 : decide (((rd_T53 l0_2 x9_1).f0) < 2148532224) = false := decide_eq_false c56
                            clear c56
                            have H' := Aside0.mk H
                            clear H
                            have hnb71 := NB144_153.out
                            have hnc71 := NB153_144.out
                            have hcz72_0 : w22.cell? ⟨gb144, 0, none⟩ = some (.int .u64 a0_0) := (blk_cell BK144.out 0).trans rfl
                            have hcz72_1 : w22.cell? ⟨gb144, 1, none⟩ = some (.int .u64 a0_1) := (blk_cell BK144.out 1).trans rfl
                            have hcz72_2 : w22.cell? ⟨gb144, 2, none⟩ = some (.slice (some ad152) l0_2.length c0_2) := (blk_cell BK144.out 2).trans rfl
                            have hfz72_0 := blk_frozen BK144.out 0
                            have hfz72_1 := blk_frozen BK144.out 1
                            have hfz72_2 := blk_frozen BK144.out 2
                            have hcz73_0 : w22.cell? ⟨gb153, 0, none⟩ = some (.int .u64 0) := (blk_cell BK153.out 0).trans rfl
                            have hcz73_1 : w22.cell? ⟨gb153, 1, none⟩ = some (.int .u64 0) := (blk_cell BK153.out 1).trans rfl
                            have hfz73_0 := blk_frozen BK153.out 0
                            have hfz73_1 := blk_frozen BK153.out 1
                            go_wp2_with (first | ((with_reducible refine gate_callee (f := 18) rfl ?_); refine goesL_ (some 66) rfl rfl Try.func18 (by kernel_rfl) rfl #[.agg #[.int .u64 a0_0, .int .u64 a0_1, .slice (some ad152) l0_2.length c0_2], .int .u64 ((rd_T53 l0_2 x9_1).f0)] rfl (by (try simp only [List.map_toArray, List.map_cons, List.map_nil]); first | done | rfl | (simp only [List.length_drop, List.length_take]; rfl)) ?_; (with_reducible refine (conf_Whose.calls a0_0 a0_1 _ _ l0_2 ((rd_T53 l0_2 x9_1).f0) t154 _ ?side1 ?side2 A25.out).mono ?_); (case side1 => exact Kd.C_below HR0_2.out (by repeat (first | (with_reducible first | exact HB.out | apply below_alloc | apply pw_below_drewN | apply below_drew1 | refine below_set ?_ GE144.out | refine below_set ?_ GE153.out) | exact HB.out))); (case side2 => exact HC0_2.out); rintro e w74 ⟨rfl, hb⟩; refine ⟨_, rfl, ?_⟩; have n0_ := Aside0.mk (blk_below (g := gb144) (o := .cells #[.int .u64 a0_0, .int .u64 a0_1, .slice (some ad152) l0_2.length c0_2] 25 (0, 0)) (by (with_reducible repeat (first | refine blk_drewN ?_ _ | refine blk_drew ?_ | refine blk_alloc ?_ _)); refine blk_far ?_ NB144_153.out _; (with_reducible repeat (first | refine blk_drewN ?_ _ | refine blk_drew ?_ | refine blk_alloc ?_ _)); refine blk_far ?_ NB144_153.out _; (with_reducible repeat (first | refine blk_drewN ?_ _ | refine blk_drew ?_ | refine blk_alloc ?_ _)); exact BK144.out) hb); have n1_ := Aside0.mk (blk_below (g := gb153) (o := .cells #[.int .u64 ((rd_T53 l0_2 x9_1).f0), .int .u64 ((rd_T53 l0_2 x9_1).f1)] 53 (0, 0)) (by (with_reducible repeat (first | refine blk_drewN ?_ _ | refine blk_drew ?_ | refine blk_alloc ?_ _)); refine blk_put (cs := #[.int .u64 ((rd_T53 l0_2 x9_1).f0), .int .u64 0]) ?_ 1 _ rfl; (with_reducible repeat (first | refine blk_drewN ?_ _ | refine blk_drew ?_ | refine blk_alloc ?_ _)); refine blk_put (cs := #[.int .u64 0, .int .u64 0]) ?_ 0 _ rfl; (with_reducible repeat (first | refine blk_drewN ?_ _ | refine blk_drew ?_ | refine blk_alloc ?_ _)); exact BK153.out) hb); have n2_ := Aside0.mk (below_step (by repeat (first | (with_reducible first | exact HB.out | apply below_alloc | apply pw_below_drewN | apply below_drew1 | refine below_set ?_ GE144.out | refine below_set ?_ GE153.out) | exact HB.out)) hb); clear BK144; clear BK153; clear HB; have BK144 := n0_; have BK153 := n1_; have HB := n2_; clear n0_ n1_ n2_; (try clear hb); (try clear hb2); (try clear hk); (try clear hi); have hcz75_0 : w74.cell? ⟨gb144, 0, none⟩ = some (.int .u64 a0_0) := (blk_cell BK144.out 0).trans rfl; have hcz75_1 : w74.cell? ⟨gb144, 1, none⟩ = some (.int .u64 a0_1) := (blk_cell BK144.out 1).trans rfl; have hcz75_2 : w74.cell? ⟨gb144, 2, none⟩ = some (.slice (some ad152) l0_2.length c0_2) := (blk_cell BK144.out 2).trans rfl; have hfz75_0 := blk_frozen BK144.out 0; have hfz75_1 := blk_frozen BK144.out 1; have hfz75_2 := blk_frozen BK144.out 2; have hcz76_0 : w74.cell? ⟨gb153, 0, none⟩ = some (.int .u64 ((rd_T53 l0_2 x9_1).f0)) := (blk_cell BK153.out 0).trans rfl; have hcz76_1 : w74.cell? ⟨gb153, 1, none⟩ = some (.int .u64 ((rd_T53 l0_2 x9_1).f1)) := (blk_cell BK153.out 1).trans rfl; have hfz76_0 := blk_frozen BK153.out 0; have hfz76_1 := blk_frozen BK153.out 1) | (go_at_call 18; (with_reducible refine (conf_Whose.calls a0_0 a0_1 _ _ l0_2 (IntKind.u64.wrap ((IntKind.u64.wrap (((rd_T53 l0_2 x9_1).f0) + ((rd_T53 l0_2 x9_1).f1))) - 1)) t155 _ ?side1 ?side2 A27.out).mono ?_); (case side1 => repeat (first | exact (Kd.C_below HR0_2.out HB.out) | (with_reducible refine Kd.C_alloc ?_ _) | (with_reducible refine Kd.C_drewN ?_ _) | (with_reducible refine Kd.C_drew ?_))); (case side2 => exact HC0_2.out); rintro e w77 ⟨rfl, hb⟩; have n0_ := Aside0.mk (blk_below (g := gb144) (o := .cells #[.int .u64 a0_0, .int .u64 a0_1, .slice (some ad152) l0_2.length c0_2] 25 (0, 0)) (by (with_reducible repeat (first | refine blk_drewN ?_ _ | refine blk_drew ?_ | refine blk_alloc ?_ _)); exact BK144.out) hb); have n1_ := Aside0.mk (blk_below (g := gb153) (o := .cells #[.int .u64 ((rd_T53 l0_2 x9_1).f0), .int .u64 ((rd_T53 l0_2 x9_1).f1)] 53 (0, 0)) (by (with_reducible repeat (first | refine blk_drewN ?_ _ | refine blk_drew ?_ | refine blk_alloc ?_ _)); exact BK153.out) hb); have n2_ := Aside0.mk (below_step (by repeat (first | (with_reducible first | exact HB.out | apply below_alloc | apply pw_below_drewN | apply below_drew1 | refine below_set ?_ GE144.out | refine below_set ?_ GE153.out) | exact HB.out)) hb); clear BK144; clear BK153; clear HB; have BK144 := n0_; have BK153 := n1_; have HB := n2_; clear n0_ n1_ n2_; (try clear hb); (try clear hb2); (try clear hk); (try clear hi); have hcz78_0 : w77.cell? ⟨gb144, 0, none⟩ = some (.int .u64 a0_0) := (blk_cell BK144.out 0).trans rfl; have hcz78_1 : w77.cell? ⟨gb144, 1, none⟩ = some (.int .u64 a0_1) := (blk_cell BK144.out 1).trans rfl; have hcz78_2 : w77.cell? ⟨gb144, 2, none⟩ = some (.slice (some ad152) l0_2.length c0_2) := (blk_cell BK144.out 2).trans rfl; have hfz78_0 := blk_frozen BK144.out 0; have hfz78_1 := blk_frozen BK144.out 1; have hfz78_2 := blk_frozen BK144.out 2; have hcz79_0 : w77.cell? ⟨gb153, 0, none⟩ = some (.int .u64 ((rd_T53 l0_2 x9_1).f0)) := (blk_cell BK153.out 0).trans rfl; have hcz79_1 : w77.cell? ⟨gb153, 1, none⟩ = some (.int .u64 ((rd_T53 l0_2 x9_1).f1)) := (blk_cell BK153.out 1).trans rfl; have hfz79_0 := blk_frozen BK153.out 0; have hfz79_1 := blk_frozen BK153.out 1) | (go_at_call 18; (with_reducible refine (conf_Whose.calls a0_0 a0_1 _ _ l0_2 (IntKind.u64.wrap (((rd_T53 l0_2 x9_1).f0) - 1)) t156 _ ?side1 ?side2 A29.out).mono ?_); (case side1 => repeat (first | exact (Kd.C_below HR0_2.out HB.out) | (with_reducible refine Kd.C_alloc ?_ _) | (with_reducible refine Kd.C_drewN ?_ _) | (with_reducible refine Kd.C_drew ?_))); (case side2 => exact HC0_2.out); rintro e w80 ⟨rfl, hb⟩; have n0_ := Aside0.mk (blk_below (g := gb144) (o := .cells #[.int .u64 a0_0, .int .u64 a0_1, .slice (some ad152) l0_2.length c0_2] 25 (0, 0)) (by (with_reducible repeat (first | refine blk_drewN ?_ _ | refine blk_drew ?_ | refine blk_alloc ?_ _)); exact BK144.out) hb); have n1_ := Aside0.mk (blk_below (g := gb153) (o := .cells #[.int .u64 ((rd_T53 l0_2 x9_1).f0), .int .u64 ((rd_T53 l0_2 x9_1).f1)] 53 (0, 0)) (by (with_reducible repeat (first | refine blk_drewN ?_ _ | refine blk_drew ?_ | refine blk_alloc ?_ _)); exact BK153.out) hb); have n2_ := Aside0.mk (below_step (by repeat (first | (with_reducible first | exact HB.out | apply below_alloc | apply pw_below_drewN | apply below_drew1 | refine below_set ?_ GE144.out | refine below_set ?_ GE153.out) | exact HB.out)) hb); clear BK144; clear BK153; clear HB; have BK144 := n0_; have BK153 := n1_; have HB := n2_; clear n0_ n1_ n2_; (try clear hb); (try clear hb2); (try clear hk); (try clear hi); have hcz81_0 : w80.cell? ⟨gb144, 0, none⟩ = some (.int .u64 a0_0) := (blk_cell BK144.out 0).trans rfl; have hcz81_1 : w80.cell? ⟨gb144, 1, none⟩ = some (.int .u64 a0_1) := (blk_cell BK144.out 1).trans rfl; have hcz81_2 : w80.cell? ⟨gb144, 2, none⟩ = some (.slice (some ad152) l0_2.length c0_2) := (blk_cell BK144.out 2).trans rfl; have hfz81_0 := blk_frozen BK144.out 0; have hfz81_1 := blk_frozen BK144.out 1; have hfz81_2 := blk_frozen BK144.out 2; have hcz82_0 : w80.cell? ⟨gb153, 0, none⟩ = some (.int .u64 ((rd_T53 l0_2 x9_1).f0)) := (blk_cell BK153.out 0).trans rfl; have hcz82_1 : w80.cell? ⟨gb153, 1, none⟩ = some (.int .u64 ((rd_T53 l0_2 x9_1).f1)) := (blk_cell BK153.out 1).trans rfl; have hfz82_0 := blk_frozen BK153.out 0; have hfz82_1 := blk_frozen BK153.out 1) | (go_at_call 18; (with_reducible refine (conf_Whose.calls a0_0 a0_1 _ _ l0_2 (IntKind.u64.wrap (((rd_T53 l0_2 x9_1).f0) + ((rd_T53 l0_2 x9_1).f1))) t157 _ ?side1 ?side2 A41.out).mono ?_); (case side1 => repeat (first | exact (Kd.C_below HR0_2.out HB.out) | (with_reducible refine Kd.C_alloc ?_ _) | (with_reducible refine Kd.C_drewN ?_ _) | (with_reducible refine Kd.C_drew ?_))); (case side2 => exact HC0_2.out); rintro e w83 ⟨rfl, hb⟩; have n0_ := Aside0.mk (blk_below (g := gb144) (o := .cells #[.int .u64 a0_0, .int .u64 a0_1, .slice (some ad152) l0_2.length c0_2] 25 (0, 0)) (by (with_reducible repeat (first | refine blk_drewN ?_ _ | refine blk_drew ?_ | refine blk_alloc ?_ _)); exact BK144.out) hb); have n1_ := Aside0.mk (blk_below (g := gb153) (o := .cells #[.int .u64 ((rd_T53 l0_2 x9_1).f0), .int .u64 ((rd_T53 l0_2 x9_1).f1)] 53 (0, 0)) (by (with_reducible repeat (first | refine blk_drewN ?_ _ | refine blk_drew ?_ | refine blk_alloc ?_ _)); exact BK153.out) hb); have n2_ := Aside0.mk (below_step (by repeat (first | (with_reducible first | exact HB.out | apply below_alloc | apply pw_below_drewN | apply below_drew1 | refine below_set ?_ GE144.out | refine below_set ?_ GE153.out) | exact HB.out)) hb); clear BK144; clear BK153; clear HB; have BK144 := n0_; have BK153 := n1_; have HB := n2_; clear n0_ n1_ n2_; (try clear hb); (try clear hb2); (try clear hk); (try clear hi); have hcz84_0 : w83.cell? ⟨gb153, 0, none⟩ = some (.int .u64 ((rd_T53 l0_2 x9_1).f0)) := (blk_cell BK153.out 0).trans rfl; have hcz84_1 : w83.cell? ⟨gb153, 1, none⟩ = some (.int .u64 ((rd_T53 l0_2 x9_1).f1)) := (blk_cell BK153.out 1).trans rfl; have hfz84_0 := blk_frozen BK153.out 0; have hfz84_1 := blk_frozen BK153.out 1; have hcz85_0 : w83.cell? ⟨gb144, 0, none⟩ = some (.int .u64 a0_0) := (blk_cell BK144.out 0).trans rfl; have hcz85_1 : w83.cell? ⟨gb144, 1, none⟩ = some (.int .u64 a0_1) := (blk_cell BK144.out 1).trans rfl; have hcz85_2 : w83.cell? ⟨gb144, 2, none⟩ = some (.slice (some ad152) l0_2.length c0_2) := (blk_cell BK144.out 2).trans rfl; have hfz85_0 := blk_frozen BK144.out 0; have hfz85_1 := blk_frozen BK144.out 1; have hfz85_2 := blk_frozen BK144.out 2))
                            go_meet
                            case rel => exact ⟨_, (decide ((IntKind.u64.wrap (((rd_T53 l0_2 x9_1).f0) + ((rd_T53 l0_2 x9_1).f1))) > (IntKind.u64.wrap (2147483648 + a0_0)))), (by first | rfl | (simp; done) | (simp [*]; done)), H', ⟨by have := HK1.out; first | omega | exact Nat.le_refl _⟩, ⟨by (with_reducible repeat (first | refine blk_drewN ?_ _ | refine blk_drew ?_ | refine blk_alloc ?_ _)); exact BK144.out⟩, ⟨by (with_reducible repeat (first | refine blk_drewN ?_ _ | refine blk_drew ?_ | refine blk_alloc ?_ _)); exact BK153.out⟩, ⟨by repeat (first | (with_reducible first | exact HB.out | apply below_alloc | apply pw_below_drewN | apply below_drew1 | refine below_set ?_ GE144.out | refine below_set ?_ GE153.out) | exact HB.out)⟩⟩
                    · rw [if_neg c28] at H
                      have c28b0 : (t155 == x9_1) = false := beq_eq_false_iff_ne.mpr c28
                      have c28b1 : (t155 != x9_1) = true := bne_iff_ne.mpr c28
                      have H' := Aside0.mk H
                      clear H
                      have hnb86 := NB144_153.out
                      have hnc86 := NB153_144.out
                      have hcz87_0 : w22.cell? ⟨gb144, 0, none⟩ = some (.int .u64 a0_0) := (blk_cell BK144.out 0).trans rfl
                      have hcz87_1 : w22.cell? ⟨gb144, 1, none⟩ = some (.int .u64 a0_1) := (blk_cell BK144.out 1).trans rfl
                      have hcz87_2 : w22.cell? ⟨gb144, 2, none⟩ = some (.slice (some ad152) l0_2.length c0_2) := (blk_cell BK144.out 2).trans rfl
                      have hfz87_0 := blk_frozen BK144.out 0
                      have hfz87_1 := blk_frozen BK144.out 1
                      have hfz87_2 := blk_frozen BK144.out 2
                      have hcz88_0 : w22.cell? ⟨gb153, 0, none⟩ = some (.int .u64 0) := (blk_cell BK153.out 0).trans rfl
                      have hcz88_1 : w22.cell? ⟨gb153, 1, none⟩ = some (.int .u64 0) := (blk_cell BK153.out 1).trans rfl
                      have hfz88_0 := blk_frozen BK153.out 0
                      have hfz88_1 := blk_frozen BK153.out 1
                      go_wp2_with (first | ((with_reducible refine gate_callee (f := 18) rfl ?_); refine goesL_ (some 66) rfl rfl Try.func18 (by kernel_rfl) rfl #[.agg #[.int .u64 a0_0, .int .u64 a0_1, .slice (some ad152) l0_2.length c0_2], .int .u64 ((rd_T53 l0_2 x9_1).f0)] rfl (by (try simp only [List.map_toArray, List.map_cons, List.map_nil]); first | done | rfl | (simp only [List.length_drop, List.length_take]; rfl)) ?_; (with_reducible refine (conf_Whose.calls a0_0 a0_1 _ _ l0_2 ((rd_T53 l0_2 x9_1).f0) t154 _ ?side1 ?side2 A25.out).mono ?_); (case side1 => exact Kd.C_below HR0_2.out (by repeat (first | (with_reducible first | exact HB.out | apply below_alloc | apply pw_below_drewN | apply below_drew1 | refine below_set ?_ GE144.out | refine below_set ?_ GE153.out) | exact HB.out))); (case side2 => exact HC0_2.out); rintro e w89 ⟨rfl, hb⟩; refine ⟨_, rfl, ?_⟩; have n0_ := Aside0.mk (blk_below (g := gb144) (o := .cells #[.int .u64 a0_0, .int .u64 a0_1, .slice (some ad152) l0_2.length c0_2] 25 (0, 0)) (by (with_reducible repeat (first | refine blk_drewN ?_ _ | refine blk_drew ?_ | refine blk_alloc ?_ _)); refine blk_far ?_ NB144_153.out _; (with_reducible repeat (first | refine blk_drewN ?_ _ | refine blk_drew ?_ | refine blk_alloc ?_ _)); refine blk_far ?_ NB144_153.out _; (with_reducible repeat (first | refine blk_drewN ?_ _ | refine blk_drew ?_ | refine blk_alloc ?_ _)); exact BK144.out) hb); have n1_ := Aside0.mk (blk_below (g := gb153) (o := .cells #[.int .u64 ((rd_T53 l0_2 x9_1).f0), .int .u64 ((rd_T53 l0_2 x9_1).f1)] 53 (0, 0)) (by (with_reducible repeat (first | refine blk_drewN ?_ _ | refine blk_drew ?_ | refine blk_alloc ?_ _)); refine blk_put (cs := #[.int .u64 ((rd_T53 l0_2 x9_1).f0), .int .u64 0]) ?_ 1 _ rfl; (with_reducible repeat (first | refine blk_drewN ?_ _ | refine blk_drew ?_ | refine blk_alloc ?_ _)); refine blk_put (cs := #[.int .u64 0, .int .u64 0]) ?_ 0 _ rfl; (with_reducible repeat (first | refine blk_drewN ?_ _ | refine blk_drew ?_ | refine blk_alloc ?_ _)); exact BK153.out) hb); have n2_ := Aside0.mk (below_step (by repeat (first | (with_reducible first | exact HB.out | apply below_alloc | apply pw_below_drewN | apply below_drew1 | refine below_set ?_ GE144.out | refine below_set ?_ GE153.out) | exact HB.out)) hb); clear BK144; clear BK153; clear HB; have BK144 := n0_; have BK153 := n1_; have HB := n2_; clear n0_ n1_ n2_; (try clear hb); (try clear hb2); (try clear hk); (try clear hi); have hcz90_0 : w89.cell? ⟨gb144, 0, none⟩ = some (.int .u64 a0_0) := (blk_cell BK144.out 0).trans rfl; have hcz90_1 : w89.cell? ⟨gb144, 1, none⟩ = some (.int .u64 a0_1) := (blk_cell BK144.out 1).trans rfl; have hcz90_2 : w89.cell? ⟨gb144, 2, none⟩ = some (.slice (some ad152) l0_2.length c0_2) := (blk_cell BK144.out 2).trans rfl; have hfz90_0 := blk_frozen BK144.out 0; have hfz90_1 := blk_frozen BK144.out 1; have hfz90_2 := blk_frozen BK144.out 2; have hcz91_0 : w89.cell? ⟨gb153, 0, none⟩ = some (.int .u64 ((rd_T53 l0_2 x9_1).f0)) := (blk_cell BK153.out 0).trans rfl; have hcz91_1 : w89.cell? ⟨gb153, 1, none⟩ = some (.int .u64 ((rd_T53 l0_2 x9_1).f1)) := (blk_cell BK153.out 1).trans rfl; have hfz91_0 := blk_frozen BK153.out 0; have hfz91_1 := blk_frozen BK153.out 1) | (go_at_call 18; (with_reducible refine (conf_Whose.calls a0_0 a0_1 _ _ l0_2 (IntKind.u64.wrap ((IntKind.u64.wrap (((rd_T53 l0_2 x9_1).f0) + ((rd_T53 l0_2 x9_1).f1))) - 1)) t155 _ ?side1 ?side2 A27.out).mono ?_); (case side1 => repeat (first | exact (Kd.C_below HR0_2.out HB.out) | (with_reducible refine Kd.C_alloc ?_ _) | (with_reducible refine Kd.C_drewN ?_ _) | (with_reducible refine Kd.C_drew ?_))); (case side2 => exact HC0_2.out); rintro e w92 ⟨rfl, hb⟩; have n0_ := Aside0.mk (blk_below (g := gb144) (o := .cells #[.int .u64 a0_0, .int .u64 a0_1, .slice (some ad152) l0_2.length c0_2] 25 (0, 0)) (by (with_reducible repeat (first | refine blk_drewN ?_ _ | refine blk_drew ?_ | refine blk_alloc ?_ _)); exact BK144.out) hb); have n1_ := Aside0.mk (blk_below (g := gb153) (o := .cells #[.int .u64 ((rd_T53 l0_2 x9_1).f0), .int .u64 ((rd_T53 l0_2 x9_1).f1)] 53 (0, 0)) (by (with_reducible repeat (first | refine blk_drewN ?_ _ | refine blk_drew ?_ | refine blk_alloc ?_ _)); exact BK153.out) hb); have n2_ := Aside0.mk (below_step (by repeat (first | (with_reducible first | exact HB.out | apply below_alloc | apply pw_below_drewN | apply below_drew1 | refine below_set ?_ GE144.out | refine below_set ?_ GE153.out) | exact HB.out)) hb); clear BK144; clear BK153; clear HB; have BK144 := n0_; have BK153 := n1_; have HB := n2_; clear n0_ n1_ n2_; (try clear hb); (try clear hb2); (try clear hk); (try clear hi)))
                      go_meet
                      case rel => exact ⟨_, (true), (by first | rfl | (simp; done) | (simp [*]; done)), H', ⟨by have := HK1.out; first | omega | exact Nat.le_refl _⟩, ⟨by (with_reducible repeat (first | refine blk_drewN ?_ _ | refine blk_drew ?_ | refine blk_alloc ?_ _)); exact BK144.out⟩, ⟨by (with_reducible repeat (first | refine blk_drewN ?_ _ | refine blk_drew ?_ | refine blk_alloc ?_ _)); exact BK153.out⟩, ⟨by repeat (first | (with_reducible first | exact HB.out | apply below_alloc | apply pw_below_drewN | apply below_drew1 | refine below_set ?_ GE144.out | refine below_set ?_ GE153.out) | exact HB.out)⟩⟩
                  · rw [if_neg c26] at H
                    have c26b0 : (t154 == x9_1) = false := beq_eq_false_iff_ne.mpr c26
                    have c26b1 : (t154 != x9_1) = true := bne_iff_ne.mpr c26
                    (first | rw [c26b0] | (simp only [i64_w, i32_w]; rw [c26b0]) | skip)
                    have H' := Aside0.mk H
                    clear H
                    have hnb93 := NB144_153.out
                    have hnc93 := NB153_144.out
                    have hcz94_0 : w22.cell? ⟨gb144, 0, none⟩ = some (.int .u64 a0_0) := (blk_cell BK144.out 0).trans rfl
                    have hcz94_1 : w22.cell? ⟨gb144, 1, none⟩ = some (.int .u64 a0_1) := (blk_cell BK144.out 1).trans rfl
                    have hcz94_2 : w22.cell? ⟨gb144, 2, none⟩ = some (.slice (some ad152) l0_2.length c0_2) := (blk_cell BK144.out 2).trans rfl
                    have hfz94_0 := blk_frozen BK144.out 0
                    have hfz94_1 := blk_frozen BK144.out 1
                    have hfz94_2 := blk_frozen BK144.out 2
                    have hcz95_0 : w22.cell? ⟨gb153, 0, none⟩ = some (.int .u64 0) := (blk_cell BK153.out 0).trans rfl
                    have hcz95_1 : w22.cell? ⟨gb153, 1, none⟩ = some (.int .u64 0) := (blk_cell BK153.out 1).trans rfl
                    have hfz95_0 := blk_frozen BK153.out 0
                    have hfz95_1 := blk_frozen BK153.out 1
                    go_wp2_with (first | ((with_reducible refine gate_callee (f := 18) rfl ?_); refine goesL_ (some 66) rfl rfl Try.func18 (by kernel_rfl) rfl #[.agg #[.int .u64 a0_0, .int .u64 a0_1, .slice (some ad152) l0_2.length c0_2], .int .u64 ((rd_T53 l0_2 x9_1).f0)] rfl (by (try simp only [List.map_toArray, List.map_cons, List.map_nil]); first | done | rfl | (simp only [List.length_drop, List.length_take]; rfl)) ?_; (with_reducible refine (conf_Whose.calls a0_0 a0_1 _ _ l0_2 ((rd_T53 l0_2 x9_1).f0) t154 _ ?side1 ?side2 A25.out).mono ?_); (case side1 => exact Kd.C_below HR0_2.out (by repeat (first | (with_reducible first | exact HB.out | apply below_alloc | apply pw_below_drewN | apply below_drew1 | refine below_set ?_ GE144.out | refine below_set ?_ GE153.out) | exact HB.out))); (case side2 => exact HC0_2.out); rintro e w96 ⟨rfl, hb⟩; refine ⟨_, rfl, ?_⟩; have n0_ := Aside0.mk (blk_below (g := gb144) (o := .cells #[.int .u64 a0_0, .int .u64 a0_1, .slice (some ad152) l0_2.length c0_2] 25 (0, 0)) (by (with_reducible repeat (first | refine blk_drewN ?_ _ | refine blk_drew ?_ | refine blk_alloc ?_ _)); refine blk_far ?_ NB144_153.out _; (with_reducible repeat (first | refine blk_drewN ?_ _ | refine blk_drew ?_ | refine blk_alloc ?_ _)); refine blk_far ?_ NB144_153.out _; (with_reducible repeat (first | refine blk_drewN ?_ _ | refine blk_drew ?_ | refine blk_alloc ?_ _)); exact BK144.out) hb); have n1_ := Aside0.mk (blk_below (g := gb153) (o := .cells #[.int .u64 ((rd_T53 l0_2 x9_1).f0), .int .u64 ((rd_T53 l0_2 x9_1).f1)] 53 (0, 0)) (by (with_reducible repeat (first | refine blk_drewN ?_ _ | refine blk_drew ?_ | refine blk_alloc ?_ _)); refine blk_put (cs := #[.int .u64 ((rd_T53 l0_2 x9_1).f0), .int .u64 0]) ?_ 1 _ rfl; (with_reducible repeat (first | refine blk_drewN ?_ _ | refine blk_drew ?_ | refine blk_alloc ?_ _)); refine blk_put (cs := #[.int .u64 0, .int .u64 0]) ?_ 0 _ rfl; (with_reducible repeat (first | refine blk_drewN ?_ _ | refine blk_drew ?_ | refine blk_alloc ?_ _)); exact BK153.out) hb); have n2_ := Aside0.mk (below_step (by repeat (first | (with_reducible first | exact HB.out | apply below_alloc | apply pw_below_drewN | apply below_drew1 | refine below_set ?_ GE144.out | refine below_set ?_ GE153.out) | exact HB.out)) hb); clear BK144; clear BK153; clear HB; have BK144 := n0_; have BK153 := n1_; have HB := n2_; clear n0_ n1_ n2_; (try clear hb); (try clear hb2); (try clear hk); (try clear hi)))
                    go_meet
                    case rel => exact ⟨_, (true), (by first | rfl | (simp; done) | (simp [*]; done)), H', ⟨by have := HK1.out; first | omega | exact Nat.le_refl _⟩, ⟨by (with_reducible repeat (first | refine blk_drewN ?_ _ | refine blk_drew ?_ | refine blk_alloc ?_ _)); exact BK144.out⟩, ⟨by (with_reducible repeat (first | refine blk_drewN ?_ _ | refine blk_drew ?_ | refine blk_alloc ?_ _)); exact BK153.out⟩, ⟨by repeat (first | (with_reducible first | exact HB.out | apply below_alloc | apply pw_below_drewN | apply below_drew1 | refine below_set ?_ GE144.out | refine below_set ?_ GE153.out) | exact HB.out)⟩⟩
                case rest =>
                  clear HC20
                  try clear c1
                  try clear p1
                  try clear q1
                  try clear hx1
                  try clear c2
                  try clear p2
                  try clear c3
                  try clear c4
                  try clear c5
                  try clear c5b0
                  try clear c5b1
                  try clear c7
                  try clear c8
                  try clear c9
                  try clear c10
                  try clear c10b0
                  try clear c10b1
                  try clear p15
                  try clear q15
                  try clear hx15
                  try clear c18
                  try clear c18b0
                  try clear c19
                  try clear c19b0
                  try clear c21
                  try clear c23
                  try clear c24
                  try clear c26
                  try clear c26b0
                  try clear c26b1
                  try clear c28
                  try clear c28b0
                  try clear c28b1
                  try clear c30
                  try clear c30b0
                  try clear c30b1
                  try clear c31
                  try clear c42
                  try clear c42b0
                  try clear c42b1
                  try clear c43
                  try clear c56
                  try clear c56b0
                  try clear c57
                  try clear c71
                  try clear c86
                  try clear c93
                  try clear hcz14_0
                  try clear hcz14_1
                  try clear hcz14_2
                  try clear hcz16_0
                  try clear hcz16_1
                  try clear hcz16_2
                  try clear hcz21_0
                  try clear hcz21_1
                  try clear hcz21_2
                  try clear hcz24_0
                  try clear hcz24_1
                  try clear hcz32_0
                  try clear hcz32_1
                  try clear hcz32_2
                  try clear hcz33_0
                  try clear hcz33_1
                  try clear hcz35_0
                  try clear hcz35_1
                  try clear hcz35_2
                  try clear hcz36_0
                  try clear hcz36_1
                  try clear hcz38_0
                  try clear hcz38_1
                  try clear hcz38_2
                  try clear hcz39_0
                  try clear hcz39_1
                  try clear hcz44_0
                  try clear hcz44_1
                  try clear hcz44_2
                  try clear hcz45_0
                  try clear hcz45_1
                  try clear hcz47_0
                  try clear hcz47_1
                  try clear hcz47_2
                  try clear hcz48_0
                  try clear hcz48_1
                  try clear hcz50_0
                  try clear hcz50_1
                  try clear hcz50_2
                  try clear hcz51_0
                  try clear hcz51_1
                  try clear hcz53_0
                  try clear hcz53_1
                  try clear hcz53_2
                  try clear hcz54_0
                  try clear hcz54_1
                  try clear hcz58_0
                  try clear hcz58_1
                  try clear hcz58_2
                  try clear hcz59_0
                  try clear hcz59_1
                  try clear hcz61_0
                  try clear hcz61_1
                  try clear hcz61_2
                  try clear hcz62_0
                  try clear hcz62_1
                  try clear hcz64_0
                  try clear hcz64_1
                  try clear hcz64_2
                  try clear hcz65_0
                  try clear hcz65_1
                  try clear hcz67_0
                  try clear hcz67_1
                  try clear hcz67_2
                  try clear hcz68_0
                  try clear hcz68_1
                  try clear hcz70_0
                  try clear hcz70_1
                  try clear hcz72_0
                  try clear hcz72_1
                  try clear hcz72_2
                  try clear hcz73_0
                  try clear hcz73_1
                  try clear hcz75_0
                  try clear hcz75_1
                  try clear hcz75_2
                  try clear hcz76_0
                  try clear hcz76_1
                  try clear hcz78_0
                  try clear hcz78_1
                  try clear hcz78_2
                  try clear hcz79_0
                  try clear hcz79_1
                  try clear hcz81_0
                  try clear hcz81_1
                  try clear hcz81_2
                  try clear hcz82_0
                  try clear hcz82_1
                  try clear hcz84_0
                  try clear hcz84_1
                  try clear hcz85_0
                  try clear hcz85_1
                  try clear hcz85_2
                  try clear hcz87_0
                  try clear hcz87_1
                  try clear hcz87_2
                  try clear hcz88_0
                  try clear hcz88_1
                  try clear hcz8_0
                  try clear hcz8_1
                  try clear hcz8_2
                  try clear hcz90_0
                  try clear hcz90_1
                  try clear hcz90_2
                  try clear hcz91_0
                  try clear hcz91_1
                  try clear hcz94_0
                  try clear hcz94_1
                  try clear hcz94_2
                  try clear hcz95_0
                  try clear hcz95_1
                  try clear hfz14_0
                  try clear hfz14_1
                  try clear hfz14_2
                  try clear hfz16_0
                  try clear hfz16_1
                  try clear hfz16_2
                  try clear hfz21_0
                  try clear hfz21_1
                  try clear hfz21_2
                  try clear hfz24_0
                  try clear hfz24_1
                  try clear hfz32_0
                  try clear hfz32_1
                  try clear hfz32_2
                  try clear hfz33_0
                  try clear hfz33_1
                  try clear hfz35_0
                  try clear hfz35_1
                  try clear hfz35_2
                  try clear hfz36_0
                  try clear hfz36_1
                  try clear hfz38_0
                  try clear hfz38_1
                  try clear hfz38_2
                  try clear hfz39_0
                  try clear hfz39_1
                  try clear hfz44_0
                  try clear hfz44_1
                  try clear hfz44_2
                  try clear hfz45_0
                  try clear hfz45_1
                  try clear hfz47_0
                  try clear hfz47_1
                  try clear hfz47_2
                  try clear hfz48_0
                  try clear hfz48_1
                  try clear hfz50_0
                  try clear hfz50_1
                  try clear hfz50_2
                  try clear hfz51_0
                  try clear hfz51_1
                  try clear hfz53_0
                  try clear hfz53_1
                  try clear hfz53_2
                  try clear hfz54_0
                  try clear hfz54_1
                  try clear hfz58_0
                  try clear hfz58_1
                  try clear hfz58_2
                  try clear hfz59_0
                  try clear hfz59_1
                  try clear hfz61_0
                  try clear hfz61_1
                  try clear hfz61_2
                  try clear hfz62_0
                  try clear hfz62_1
                  try clear hfz64_0
                  try clear hfz64_1
                  try clear hfz64_2
                  try clear hfz65_0
                  try clear hfz65_1
                  try clear hfz67_0
                  try clear hfz67_1
                  try clear hfz67_2
                  try clear hfz68_0
                  try clear hfz68_1
                  try clear hfz70_0
                  try clear hfz70_1
                  try clear hfz72_0
                  try clear hfz72_1
                  try clear hfz72_2
                  try clear hfz73_0
                  try clear hfz73_1
                  try clear hfz75_0
                  try clear hfz75_1
                  try clear hfz75_2
                  try clear hfz76_0
                  try clear hfz76_1
                  try clear hfz78_0
                  try clear hfz78_1
                  try clear hfz78_2
                  try clear hfz79_0
                  try clear hfz79_1
                  try clear hfz81_0
                  try clear hfz81_1
                  try clear hfz81_2
                  try clear hfz82_0
                  try clear hfz82_1
                  try clear hfz84_0
                  try clear hfz84_1
                  try clear hfz85_0
                  try clear hfz85_1
                  try clear hfz85_2
                  try clear hfz87_0
                  try clear hfz87_1
                  try clear hfz87_2
                  try clear hfz88_0
                  try clear hfz88_1
                  try clear hfz8_0
                  try clear hfz8_1
                  try clear hfz8_2
                  try clear hfz90_0
                  try clear hfz90_1
                  try clear hfz90_2
                  try clear hfz91_0
                  try clear hfz91_1
                  try clear hfz94_0
                  try clear hfz94_1
                  try clear hfz94_2
                  try clear hfz95_0
                  try clear hfz95_1
                  try clear hx152_0
                  try clear hx152_1
                  try clear p152
                  try clear p2
                  try clear q152
                  obtain ⟨kq, x116_19, rfl, HA, HJ19, BK144, BK153, HB⟩ := hcut
                  cases kq with
                  | zero => exact absurd HA.out (by simp [mezzaninelaw25_ConfApart.j1])
                  | succ kj19 =>
                    have H := HA.out
                    clear HA
                    simp only [mezzaninelaw25_ConfApart.j1] at H
                    by_cases c97 : x116_19 = true
                    · subst c97
                      have H1 : (some false) = some r := by rw [if_pos rfl] at H; exact H
                      clear H
                      have H := H1
                      clear H1
                      obtain rfl := Option.some.inj H
                      go_wp2
                      go_ret
                      exact ⟨by first | rfl | (simp [errW_none, errW_some] <;> rfl) | (simp [*, errW_none, errW_some] <;> rfl), by repeat (first | (with_reducible first | exact HB.out | apply below_alloc | apply pw_below_drewN | apply below_drew1 | refine below_set ?_ GE144.out | refine below_set ?_ GE153.out) | exact HB.out)⟩
                    · replace c97 := Bool.eq_false_iff.mpr c97
                      subst c97
                      have H1 : (if (IntKind.u64.wrap (a1 - ((rd_T53 l0_2 x9_1).f0))) < ((rd_T53 l0_2 x9_1).f1) then (if x8_1 ≥ 0 then (some false) else (mezzaninelaw25_ConfApart.l0 kj19 a1 t146 (IntKind.u64.wrap (x7_1 + ((rd_T53 l0_2 x9_1).f1))) x9_1 (wrap64 (x9_1 + 1)) a0_0 a0_1 l0_2)) else (mezzaninelaw25_ConfApart.l0 kj19 a1 t146 (IntKind.u64.wrap (x7_1 + ((rd_T53 l0_2 x9_1).f1))) x8_1 (wrap64 (x9_1 + 1)) a0_0 a0_1 l0_2)) = some r := by rw [if_neg (show ¬ (false = true) by decide)] at H; exact H
                      clear H
                      have H := H1
                      clear H1
                      by_cases c98 : (IntKind.u64.wrap (a1 - ((rd_T53 l0_2 x9_1).f0))) < ((rd_T53 l0_2 x9_1).f1)
                      · rw [if_pos c98] at H
                        have c98b0 : decide ((IntKind.u64.wrap (a1 - ((rd_T53 l0_2 x9_1).f0))) < ((rd_T53 l0_2 x9_1).f1)) = true := decide_eq_true c98
                        clear c98
                        by_cases c99 : x8_1 ≥ 0
                        · rw [if_pos c99] at H
                          have c99b0 : decide (0 ≤ x8_1) = true := decide_eq_true c99
                          clear c99
                          obtain rfl := Option.some.inj H
                          have hnb100 := NB153_144.out
                          have hnc100 := NB144_153.out
                          have hcz101_0 : wc.cell? ⟨gb153, 0, none⟩ = some (.int .u64 ((rd_T53 l0_2 x9_1).f0)) := (blk_cell BK153.out 0).trans rfl
                          have hcz101_1 : wc.cell? ⟨gb153, 1, none⟩ = some (.int .u64 ((rd_T53 l0_2 x9_1).f1)) := (blk_cell BK153.out 1).trans rfl
                          have hfz101_0 := blk_frozen BK153.out 0
                          have hfz101_1 := blk_frozen BK153.out 1
                          go_wp2
                          go_ret
                          exact ⟨by first | rfl | (simp [errW_none, errW_some] <;> rfl) | (simp [*, errW_none, errW_some] <;> rfl), by repeat (first | (with_reducible first | exact HB.out | apply below_alloc | apply pw_below_drewN | apply below_drew1 | refine below_set ?_ GE144.out | refine below_set ?_ GE153.out) | exact HB.out)⟩
                        · rw [if_neg c99] at H
                          have c99b0 : decide (0 ≤ x8_1) = false := decide_eq_false c99
                          clear c99
                          have H' := Aside0.mk H
                          clear H
                          have hnb102 := NB153_144.out
                          have hnc102 := NB144_153.out
                          have hcz103_0 : wc.cell? ⟨gb153, 0, none⟩ = some (.int .u64 ((rd_T53 l0_2 x9_1).f0)) := (blk_cell BK153.out 0).trans rfl
                          have hcz103_1 : wc.cell? ⟨gb153, 1, none⟩ = some (.int .u64 ((rd_T53 l0_2 x9_1).f1)) := (blk_cell BK153.out 1).trans rfl
                          have hfz103_0 := blk_frozen BK153.out 0
                          have hfz103_1 := blk_frozen BK153.out 1
                          go_wp2
                          go_roundg kj19
                          case measure => have := HK1.out; have := HJ19.out; omega
                          case rel => exact ⟨((IntKind.u64.wrap (x7_1 + ((rd_T53 l0_2 x9_1).f1)))), (x9_1), (wrap64 (x9_1 + 1)), (by first | rfl | (simp; done) | (simp [*]; done)), (by first | rfl | (simp; done) | (simp [*]; done)), (by first | rfl | (simp; done) | (simp [*]; done)), H', ⟨by have := HK1.out; have := HJ19.out; omega⟩, ⟨by (with_reducible repeat (first | refine blk_drewN ?_ _ | refine blk_drew ?_ | refine blk_alloc ?_ _)); exact BK144.out⟩, ⟨by repeat (first | (with_reducible first | exact HB.out | apply below_alloc | apply pw_below_drewN | apply below_drew1 | refine below_set ?_ GE144.out | refine below_set ?_ GE153.out) | exact HB.out)⟩⟩
                      · rw [if_neg c98] at H
                        have c98b0 : decide ((IntKind.u64.wrap (a1 - ((rd_T53 l0_2 x9_1).f0))) < ((rd_T53 l0_2 x9_1).f1)) = false := decide_eq_false c98
                        clear c98
                        have H' := Aside0.mk H
                        clear H
                        have hnb104 := NB153_144.out
                        have hnc104 := NB144_153.out
                        have hcz105_0 : wc.cell? ⟨gb153, 0, none⟩ = some (.int .u64 ((rd_T53 l0_2 x9_1).f0)) := (blk_cell BK153.out 0).trans rfl
                        have hcz105_1 : wc.cell? ⟨gb153, 1, none⟩ = some (.int .u64 ((rd_T53 l0_2 x9_1).f1)) := (blk_cell BK153.out 1).trans rfl
                        have hfz105_0 := blk_frozen BK153.out 0
                        have hfz105_1 := blk_frozen BK153.out 1
                        go_wp2
                        go_roundg kj19
                        case measure => have := HK1.out; have := HJ19.out; omega
                        case rel => exact ⟨((IntKind.u64.wrap (x7_1 + ((rd_T53 l0_2 x9_1).f1)))), (x8_1), (wrap64 (x9_1 + 1)), (by first | rfl | (simp; done) | (simp [*]; done)), (by first | rfl | (simp; done) | (simp [*]; done)), (by first | rfl | (simp; done) | (simp [*]; done)), H', ⟨by have := HK1.out; have := HJ19.out; omega⟩, ⟨by (with_reducible repeat (first | refine blk_drewN ?_ _ | refine blk_drew ?_ | refine blk_alloc ?_ _)); exact BK144.out⟩, ⟨by repeat (first | (with_reducible first | exact HB.out | apply below_alloc | apply pw_below_drewN | apply below_drew1 | refine below_set ?_ GE144.out | refine below_set ?_ GE153.out) | exact HB.out)⟩⟩
              · rw [if_neg c19] at H
                exact absurd H (by simp)
            · rw [if_neg c18] at H
              have c18b0 : decide (x9_1 < (l0_2.length : Int)) = false := decide_eq_false c18
              clear c18
              by_cases c106 : t146 = (-1)
              · rw [if_pos c106] at H
                have c106b0 : (t146 == (-1)) = true := beq_iff_eq.mpr c106
                have c106b1 : (t146 != (-1)) = false := bne_eq_false_iff_eq.mpr c106
                clear c106
                by_cases c107 : x7_1 = a0_0
                · rw [if_pos c107] at H
                  have c107b0 : (x7_1 == a0_0) = true := beq_iff_eq.mpr c107
                  have c107b1 : (x7_1 != a0_0) = false := bne_eq_false_iff_eq.mpr c107
                  clear c107
                  replace H := Option.bind_eq_some_iff.mp H
                  obtain ⟨t151, A1080, H⟩ := H
                  replace H : (some (t151 == x8_1)) = some r := H
                  have A108 := Aside0.mk A1080
                  clear A1080
                  obtain rfl := Option.some.inj H
                  have hcz109_0 : wr.cell? ⟨gb144, 0, none⟩ = some (.int .u64 a0_0) := (blk_cell BK144.out 0).trans rfl
                  have hcz109_1 : wr.cell? ⟨gb144, 1, none⟩ = some (.int .u64 a0_1) := (blk_cell BK144.out 1).trans rfl
                  have hcz109_2 : wr.cell? ⟨gb144, 2, none⟩ = some (.slice A0_2 l0_2.length c0_2) := (blk_cell BK144.out 2).trans rfl
                  have hfz109_0 := blk_frozen BK144.out 0
                  have hfz109_1 := blk_frozen BK144.out 1
                  have hfz109_2 := blk_frozen BK144.out 2
                  go_wp2_with (first | (go_at_call 18; (with_reducible refine (conf_Whose.calls a0_0 a0_1 _ _ l0_2 a1 t151 _ ?side1 ?side2 A108.out).mono ?_); (case side1 => repeat (first | exact (Kd.C_below HR0_2.out HB.out) | (with_reducible refine Kd.C_alloc ?_ _) | (with_reducible refine Kd.C_drewN ?_ _) | (with_reducible refine Kd.C_drew ?_))); (case side2 => exact HC0_2.out); rintro e w110 ⟨rfl, hb⟩; have n0_ := Aside0.mk (blk_below (g := gb144) (o := .cells #[.int .u64 a0_0, .int .u64 a0_1, .slice A0_2 l0_2.length c0_2] 25 (0, 0)) (by (with_reducible repeat (first | refine blk_drewN ?_ _ | refine blk_drew ?_ | refine blk_alloc ?_ _)); exact BK144.out) hb); have n1_ := Aside0.mk (below_step (by repeat (first | (with_reducible first | exact HB.out | apply below_alloc | apply pw_below_drewN | apply below_drew1 | refine below_set ?_ GE144.out) | exact HB.out)) hb); clear BK144; clear HB; have BK144 := n0_; have HB := n1_; clear n0_ n1_; (try clear hb); (try clear hb2); (try clear hk); (try clear hi)))
                  go_ret
                  exact ⟨by first | rfl | (simp [errW_none, errW_some] <;> rfl) | (simp [*, errW_none, errW_some] <;> rfl), by repeat (first | (with_reducible first | exact HB.out | apply below_alloc | apply pw_below_drewN | apply below_drew1 | refine below_set ?_ GE144.out) | exact HB.out)⟩
                · rw [if_neg c107] at H
                  have c107b0 : (x7_1 == a0_0) = false := beq_eq_false_iff_ne.mpr c107
                  have c107b1 : (x7_1 != a0_0) = true := bne_iff_ne.mpr c107
                  obtain rfl := Option.some.inj H
                  have hcz111_0 : wr.cell? ⟨gb144, 0, none⟩ = some (.int .u64 a0_0) := (blk_cell BK144.out 0).trans rfl
                  have hcz111_1 : wr.cell? ⟨gb144, 1, none⟩ = some (.int .u64 a0_1) := (blk_cell BK144.out 1).trans rfl
                  have hcz111_2 : wr.cell? ⟨gb144, 2, none⟩ = some (.slice A0_2 l0_2.length c0_2) := (blk_cell BK144.out 2).trans rfl
                  have hfz111_0 := blk_frozen BK144.out 0
                  have hfz111_1 := blk_frozen BK144.out 1
                  have hfz111_2 := blk_frozen BK144.out 2
                  go_wp2
                  go_ret
                  exact ⟨by first | rfl | (simp [errW_none, errW_some] <;> rfl) | (simp [*, errW_none, errW_some] <;> rfl), by repeat (first | (with_reducible first | exact HB.out | apply below_alloc | apply pw_below_drewN | apply below_drew1 | refine below_set ?_ GE144.out) | exact HB.out)⟩
              · rw [if_neg c106] at H
                have c106b0 : (t146 == (-1)) = false := beq_eq_false_iff_ne.mpr c106
                have c106b1 : (t146 != (-1)) = true := bne_iff_ne.mpr c106
                obtain rfl := Option.some.inj H
                have hcz112_0 : wr.cell? ⟨gb144, 0, none⟩ = some (.int .u64 a0_0) := (blk_cell BK144.out 0).trans rfl
                have hcz112_1 : wr.cell? ⟨gb144, 1, none⟩ = some (.int .u64 a0_1) := (blk_cell BK144.out 1).trans rfl
                have hcz112_2 : wr.cell? ⟨gb144, 2, none⟩ = some (.slice A0_2 l0_2.length c0_2) := (blk_cell BK144.out 2).trans rfl
                have hfz112_0 := blk_frozen BK144.out 0
                have hfz112_1 := blk_frozen BK144.out 1
                have hfz112_2 := blk_frozen BK144.out 2
                go_wp2
                go_ret
                exact ⟨by first | rfl | (simp [errW_none, errW_some] <;> rfl) | (simp [*, errW_none, errW_some] <;> rfl), by repeat (first | (with_reducible first | exact HB.out | apply below_alloc | apply pw_below_drewN | apply below_drew1 | refine below_set ?_ GE144.out) | exact HB.out)⟩
      · rw [if_neg c10] at H
        have c10b0 : (t147 == 0) = false := beq_eq_false_iff_ne.mpr c10
        have c10b1 : (t147 != 0) = true := bne_iff_ne.mpr c10
        by_cases c113 : t146 < (l0_2.length : Int)
        · rw [if_pos c113] at H
          have c113b0 : decide (t146 < (l0_2.length : Int)) = true := decide_eq_true c113
          clear c113
          by_cases c114 : t146 ≥ (-1)
          · rw [if_pos c114] at H
            have c114b0 : decide ((-1) ≤ t146) = true := decide_eq_true c114
            clear c114
            replace H := Option.bind_eq_some_iff.mp H
            obtain ⟨t148, A1150, H⟩ := H
            replace H : (if t148 = (-1) then ((conf_Free.f k a0_0 a0_1 l0_2).bind fun t149 => (some (t149 == 0))) else (some false)) = some r := H
            have A115 := Aside0.mk A1150
            clear A1150
            by_cases c116 : t148 = (-1)
            · rw [if_pos c116] at H
              have c116b0 : (t148 == (-1)) = true := beq_iff_eq.mpr c116
              have c116b1 : (t148 != (-1)) = false := bne_eq_false_iff_eq.mpr c116
              clear c116
              replace H := Option.bind_eq_some_iff.mp H
              obtain ⟨t149, A1170, H⟩ := H
              replace H : (some (t149 == 0)) = some r := H
              have A117 := Aside0.mk A1170
              clear A1170
              obtain rfl := Option.some.inj H
              go_enter Try.func7, Try.ntmps7
              go_wp2_with (first | ((with_reducible refine gate_dst (N := 2) rfl ?_); refine box_event ?hg (N := 2) ?hd (cs := #[.int .u64 a0_0, .int .u64 a0_1, .slice A0_2 l0_2.length c0_2]) (t := 25) ?hr ?_; (case hd => rfl); (case hg => rfl); (case hr => first | (go_simp; done) | (go_simp; rfl)); intro gb144 hg w118 hbox hb; have n0_ := Aside0.mk (below_step (by repeat (first | (with_reducible first | exact HB.out | apply below_alloc | apply pw_below_drewN | apply below_drew1) | exact HB.out)) hb); have n1_ := Aside0.mk (hbox); have n2_ := Aside0.mk ((by rw [hg]; exact (below_size (by repeat (first | (with_reducible first | exact HB.out | apply below_alloc | apply pw_below_drewN | apply below_drew1) | exact HB.out))) : w.heap.size ≤ gb144)); have n3_ := Aside0.mk ((by rw [hg]; exact (below_size (by repeat (first | (with_reducible first | exact HB.out | apply below_alloc | apply pw_below_drewN | apply below_drew1) | exact HB.out))) : w.heap.size ≤ gb144)); clear HB; have HB := n0_; have BK144 := n1_; have GW144 := n2_; have GE144 := n3_; clear n0_ n1_ n2_ n3_; clear hb hbox hg) | ((with_reducible refine gate_callee (f := 21) rfl ?_); refine goesL_ (some 11) rfl rfl Try.func21 (by kernel_rfl) rfl #[] rfl (by (try simp only [List.map_toArray, List.map_cons, List.map_nil]); first | done | rfl | (simp only [List.length_drop, List.length_take]; rfl)) ?_; (with_reducible refine (mezzaninelaw25_awake.calls k  true _ A3.out).mono ?_); rintro e w119 ⟨rfl, hb⟩; refine ⟨_, rfl, ?_⟩; have n0_ := Aside0.mk (blk_below (g := gb144) (o := .cells #[.int .u64 a0_0, .int .u64 a0_1, .slice A0_2 l0_2.length c0_2] 25 (0, 0)) (by (with_reducible repeat (first | refine blk_drewN ?_ _ | refine blk_drew ?_ | refine blk_alloc ?_ _)); exact BK144.out) hb); have n1_ := Aside0.mk (below_step (by repeat (first | (with_reducible first | exact HB.out | apply below_alloc | apply pw_below_drewN | apply below_drew1 | refine below_set ?_ GE144.out) | exact HB.out)) hb); clear BK144; clear HB; have BK144 := n0_; have HB := n1_; clear n0_ n1_; (try clear hb); (try clear hb2); (try clear hk); (try clear hi); have hcz120_0 : w119.cell? ⟨gb144, 0, none⟩ = some (.int .u64 a0_0) := (blk_cell BK144.out 0).trans rfl; have hcz120_1 : w119.cell? ⟨gb144, 1, none⟩ = some (.int .u64 a0_1) := (blk_cell BK144.out 1).trans rfl; have hcz120_2 : w119.cell? ⟨gb144, 2, none⟩ = some (.slice A0_2 l0_2.length c0_2) := (blk_cell BK144.out 2).trans rfl; have hfz120_0 := blk_frozen BK144.out 0; have hfz120_1 := blk_frozen BK144.out 1; have hfz120_2 := blk_frozen BK144.out 2) | ((with_reducible refine gate_callee (f := 24) rfl ?_); refine goesL_ (some 19) rfl rfl Try.func24 (by kernel_rfl) rfl #[.agg #[.int .u64 a0_0, .int .u64 a0_1, .slice A0_2 l0_2.length c0_2]] rfl (by (try simp only [List.map_toArray, List.map_cons, List.map_nil]); first | done | rfl | (simp only [List.length_drop, List.length_take]; rfl)) ?_; (with_reducible refine (conf_Check.calls k a0_0 a0_1 _ _ l0_2 t146 t147 _ ?side1 ?side2 A9.out).mono ?_); (case side1 => repeat (first | exact (Kd.C_below HR0_2.out HB.out) | (with_reducible refine Kd.C_alloc ?_ _) | (with_reducible refine Kd.C_drewN ?_ _) | (with_reducible refine Kd.C_drew ?_))); (case side2 => exact HC0_2.out); rintro e w121 ⟨rfl, hb⟩; refine ⟨_, rfl, ?_⟩; have n0_ := Aside0.mk (blk_below (g := gb144) (o := .cells #[.int .u64 a0_0, .int .u64 a0_1, .slice A0_2 l0_2.length c0_2] 25 (0, 0)) (by (with_reducible repeat (first | refine blk_drewN ?_ _ | refine blk_drew ?_ | refine blk_alloc ?_ _)); exact BK144.out) hb); have n1_ := Aside0.mk (below_step (by repeat (first | (with_reducible first | exact HB.out | apply below_alloc | apply pw_below_drewN | apply below_drew1 | refine below_set ?_ GE144.out) | exact HB.out)) hb); clear BK144; clear HB; have BK144 := n0_; have HB := n1_; clear n0_ n1_; (try clear hb); (try clear hb2); (try clear hk); (try clear hi); have hcz122_0 : w121.cell? ⟨gb144, 0, none⟩ = some (.int .u64 a0_0) := (blk_cell BK144.out 0).trans rfl; have hcz122_1 : w121.cell? ⟨gb144, 1, none⟩ = some (.int .u64 a0_1) := (blk_cell BK144.out 1).trans rfl; have hcz122_2 : w121.cell? ⟨gb144, 2, none⟩ = some (.slice A0_2 l0_2.length c0_2) := (blk_cell BK144.out 2).trans rfl; have hfz122_0 := blk_frozen BK144.out 0; have hfz122_1 := blk_frozen BK144.out 1; have hfz122_2 := blk_frozen BK144.out 2) | (go_at_call 18; (with_reducible refine (conf_Whose.calls a0_0 a0_1 _ _ l0_2 a1 t148 _ ?side1 ?side2 A115.out).mono ?_); (case side1 => repeat (first | exact (Kd.C_below HR0_2.out HB.out) | (with_reducible refine Kd.C_alloc ?_ _) | (with_reducible refine Kd.C_drewN ?_ _) | (with_reducible refine Kd.C_drew ?_))); (case side2 => exact HC0_2.out); rintro e w123 ⟨rfl, hb⟩; have n0_ := Aside0.mk (blk_below (g := gb144) (o := .cells #[.int .u64 a0_0, .int .u64 a0_1, .slice A0_2 l0_2.length c0_2] 25 (0, 0)) (by (with_reducible repeat (first | refine blk_drewN ?_ _ | refine blk_drew ?_ | refine blk_alloc ?_ _)); exact BK144.out) hb); have n1_ := Aside0.mk (below_step (by repeat (first | (with_reducible first | exact HB.out | apply below_alloc | apply pw_below_drewN | apply below_drew1 | refine below_set ?_ GE144.out) | exact HB.out)) hb); clear BK144; clear HB; have BK144 := n0_; have HB := n1_; clear n0_ n1_; (try clear hb); (try clear hb2); (try clear hk); (try clear hi); have hcz124_0 : w123.cell? ⟨gb144, 0, none⟩ = some (.int .u64 a0_0) := (blk_cell BK144.out 0).trans rfl; have hcz124_1 : w123.cell? ⟨gb144, 1, none⟩ = some (.int .u64 a0_1) := (blk_cell BK144.out 1).trans rfl; have hcz124_2 : w123.cell? ⟨gb144, 2, none⟩ = some (.slice A0_2 l0_2.length c0_2) := (blk_cell BK144.out 2).trans rfl; have hfz124_0 := blk_frozen BK144.out 0; have hfz124_1 := blk_frozen BK144.out 1; have hfz124_2 := blk_frozen BK144.out 2) | (go_at_call 19; (with_reducible refine (conf_Free.calls k a0_0 a0_1 _ _ l0_2 t149 _ ?side1 ?side2 A117.out).mono ?_); (case side1 => repeat (first | exact (Kd.C_below HR0_2.out HB.out) | (with_reducible refine Kd.C_alloc ?_ _) | (with_reducible refine Kd.C_drewN ?_ _) | (with_reducible refine Kd.C_drew ?_))); (case side2 => exact HC0_2.out); rintro e w125 ⟨rfl, hb⟩; have n0_ := Aside0.mk (blk_below (g := gb144) (o := .cells #[.int .u64 a0_0, .int .u64 a0_1, .slice A0_2 l0_2.length c0_2] 25 (0, 0)) (by (with_reducible repeat (first | refine blk_drewN ?_ _ | refine blk_drew ?_ | refine blk_alloc ?_ _)); exact BK144.out) hb); have n1_ := Aside0.mk (below_step (by repeat (first | (with_reducible first | exact HB.out | apply below_alloc | apply pw_below_drewN | apply below_drew1 | refine below_set ?_ GE144.out) | exact HB.out)) hb); clear BK144; clear HB; have BK144 := n0_; have HB := n1_; clear n0_ n1_; (try clear hb); (try clear hb2); (try clear hk); (try clear hi)))
              go_ret
              exact ⟨by first | rfl | (simp [errW_none, errW_some] <;> rfl) | (simp [*, errW_none, errW_some] <;> rfl), by repeat (first | (with_reducible first | exact HB.out | apply below_alloc | apply pw_below_drewN | apply below_drew1 | refine below_set ?_ GE144.out) | exact HB.out)⟩
            · rw [if_neg c116] at H
              have c116b0 : (t148 == (-1)) = false := beq_eq_false_iff_ne.mpr c116
              have c116b1 : (t148 != (-1)) = true := bne_iff_ne.mpr c116
              obtain rfl := Option.some.inj H
              go_enter Try.func7, Try.ntmps7
              go_wp2_with (first | ((with_reducible refine gate_dst (N := 2) rfl ?_); refine box_event ?hg (N := 2) ?hd (cs := #[.int .u64 a0_0, .int .u64 a0_1, .slice A0_2 l0_2.length c0_2]) (t := 25) ?hr ?_; (case hd => rfl); (case hg => rfl); (case hr => first | (go_simp; done) | (go_simp; rfl)); intro gb144 hg w126 hbox hb; have n0_ := Aside0.mk (below_step (by repeat (first | (with_reducible first | exact HB.out | apply below_alloc | apply pw_below_drewN | apply below_drew1) | exact HB.out)) hb); have n1_ := Aside0.mk (hbox); have n2_ := Aside0.mk ((by rw [hg]; exact (below_size (by repeat (first | (with_reducible first | exact HB.out | apply below_alloc | apply pw_below_drewN | apply below_drew1) | exact HB.out))) : w.heap.size ≤ gb144)); have n3_ := Aside0.mk ((by rw [hg]; exact (below_size (by repeat (first | (with_reducible first | exact HB.out | apply below_alloc | apply pw_below_drewN | apply below_drew1) | exact HB.out))) : w.heap.size ≤ gb144)); clear HB; have HB := n0_; have BK144 := n1_; have GW144 := n2_; have GE144 := n3_; clear n0_ n1_ n2_ n3_; clear hb hbox hg) | ((with_reducible refine gate_callee (f := 21) rfl ?_); refine goesL_ (some 11) rfl rfl Try.func21 (by kernel_rfl) rfl #[] rfl (by (try simp only [List.map_toArray, List.map_cons, List.map_nil]); first | done | rfl | (simp only [List.length_drop, List.length_take]; rfl)) ?_; (with_reducible refine (mezzaninelaw25_awake.calls k  true _ A3.out).mono ?_); rintro e w127 ⟨rfl, hb⟩; refine ⟨_, rfl, ?_⟩; have n0_ := Aside0.mk (blk_below (g := gb144) (o := .cells #[.int .u64 a0_0, .int .u64 a0_1, .slice A0_2 l0_2.length c0_2] 25 (0, 0)) (by (with_reducible repeat (first | refine blk_drewN ?_ _ | refine blk_drew ?_ | refine blk_alloc ?_ _)); exact BK144.out) hb); have n1_ := Aside0.mk (below_step (by repeat (first | (with_reducible first | exact HB.out | apply below_alloc | apply pw_below_drewN | apply below_drew1 | refine below_set ?_ GE144.out) | exact HB.out)) hb); clear BK144; clear HB; have BK144 := n0_; have HB := n1_; clear n0_ n1_; (try clear hb); (try clear hb2); (try clear hk); (try clear hi); have hcz128_0 : w127.cell? ⟨gb144, 0, none⟩ = some (.int .u64 a0_0) := (blk_cell BK144.out 0).trans rfl; have hcz128_1 : w127.cell? ⟨gb144, 1, none⟩ = some (.int .u64 a0_1) := (blk_cell BK144.out 1).trans rfl; have hcz128_2 : w127.cell? ⟨gb144, 2, none⟩ = some (.slice A0_2 l0_2.length c0_2) := (blk_cell BK144.out 2).trans rfl; have hfz128_0 := blk_frozen BK144.out 0; have hfz128_1 := blk_frozen BK144.out 1; have hfz128_2 := blk_frozen BK144.out 2) | ((with_reducible refine gate_callee (f := 24) rfl ?_); refine goesL_ (some 19) rfl rfl Try.func24 (by kernel_rfl) rfl #[.agg #[.int .u64 a0_0, .int .u64 a0_1, .slice A0_2 l0_2.length c0_2]] rfl (by (try simp only [List.map_toArray, List.map_cons, List.map_nil]); first | done | rfl | (simp only [List.length_drop, List.length_take]; rfl)) ?_; (with_reducible refine (conf_Check.calls k a0_0 a0_1 _ _ l0_2 t146 t147 _ ?side1 ?side2 A9.out).mono ?_); (case side1 => repeat (first | exact (Kd.C_below HR0_2.out HB.out) | (with_reducible refine Kd.C_alloc ?_ _) | (with_reducible refine Kd.C_drewN ?_ _) | (with_reducible refine Kd.C_drew ?_))); (case side2 => exact HC0_2.out); rintro e w129 ⟨rfl, hb⟩; refine ⟨_, rfl, ?_⟩; have n0_ := Aside0.mk (blk_below (g := gb144) (o := .cells #[.int .u64 a0_0, .int .u64 a0_1, .slice A0_2 l0_2.length c0_2] 25 (0, 0)) (by (with_reducible repeat (first | refine blk_drewN ?_ _ | refine blk_drew ?_ | refine blk_alloc ?_ _)); exact BK144.out) hb); have n1_ := Aside0.mk (below_step (by repeat (first | (with_reducible first | exact HB.out | apply below_alloc | apply pw_below_drewN | apply below_drew1 | refine below_set ?_ GE144.out) | exact HB.out)) hb); clear BK144; clear HB; have BK144 := n0_; have HB := n1_; clear n0_ n1_; (try clear hb); (try clear hb2); (try clear hk); (try clear hi); have hcz130_0 : w129.cell? ⟨gb144, 0, none⟩ = some (.int .u64 a0_0) := (blk_cell BK144.out 0).trans rfl; have hcz130_1 : w129.cell? ⟨gb144, 1, none⟩ = some (.int .u64 a0_1) := (blk_cell BK144.out 1).trans rfl; have hcz130_2 : w129.cell? ⟨gb144, 2, none⟩ = some (.slice A0_2 l0_2.length c0_2) := (blk_cell BK144.out 2).trans rfl; have hfz130_0 := blk_frozen BK144.out 0; have hfz130_1 := blk_frozen BK144.out 1; have hfz130_2 := blk_frozen BK144.out 2) | (go_at_call 18; (with_reducible refine (conf_Whose.calls a0_0 a0_1 _ _ l0_2 a1 t148 _ ?side1 ?side2 A115.out).mono ?_); (case side1 => repeat (first | exact (Kd.C_below HR0_2.out HB.out) | (with_reducible refine Kd.C_alloc ?_ _) | (with_reducible refine Kd.C_drewN ?_ _) | (with_reducible refine Kd.C_drew ?_))); (case side2 => exact HC0_2.out); rintro e w131 ⟨rfl, hb⟩; have n0_ := Aside0.mk (blk_below (g := gb144) (o := .cells #[.int .u64 a0_0, .int .u64 a0_1, .slice A0_2 l0_2.length c0_2] 25 (0, 0)) (by (with_reducible repeat (first | refine blk_drewN ?_ _ | refine blk_drew ?_ | refine blk_alloc ?_ _)); exact BK144.out) hb); have n1_ := Aside0.mk (below_step (by repeat (first | (with_reducible first | exact HB.out | apply below_alloc | apply pw_below_drewN | apply below_drew1 | refine below_set ?_ GE144.out) | exact HB.out)) hb); clear BK144; clear HB; have BK144 := n0_; have HB := n1_; clear n0_ n1_; (try clear hb); (try clear hb2); (try clear hk); (try clear hi)))
              go_ret
              exact ⟨by first | rfl | (simp [errW_none, errW_some] <;> rfl) | (simp [*, errW_none, errW_some] <;> rfl), by repeat (first | (with_reducible first | exact HB.out | apply below_alloc | apply pw_below_drewN | apply below_drew1 | refine below_set ?_ GE144.out) | exact HB.out)⟩
          · rw [if_neg c114] at H
            have c114b0 : decide ((-1) ≤ t146) = false := decide_eq_false c114
            clear c114
            obtain rfl := Option.some.inj H
            go_enter Try.func7, Try.ntmps7
            go_wp2_with (first | ((with_reducible refine gate_dst (N := 2) rfl ?_); refine box_event ?hg (N := 2) ?hd (cs := #[.int .u64 a0_0, .int .u64 a0_1, .slice A0_2 l0_2.length c0_2]) (t := 25) ?hr ?_; (case hd => rfl); (case hg => rfl); (case hr => first | (go_simp; done) | (go_simp; rfl)); intro gb144 hg w132 hbox hb; have n0_ := Aside0.mk (below_step (by repeat (first | (with_reducible first | exact HB.out | apply below_alloc | apply pw_below_drewN | apply below_drew1) | exact HB.out)) hb); have n1_ := Aside0.mk (hbox); have n2_ := Aside0.mk ((by rw [hg]; exact (below_size (by repeat (first | (with_reducible first | exact HB.out | apply below_alloc | apply pw_below_drewN | apply below_drew1) | exact HB.out))) : w.heap.size ≤ gb144)); have n3_ := Aside0.mk ((by rw [hg]; exact (below_size (by repeat (first | (with_reducible first | exact HB.out | apply below_alloc | apply pw_below_drewN | apply below_drew1) | exact HB.out))) : w.heap.size ≤ gb144)); clear HB; have HB := n0_; have BK144 := n1_; have GW144 := n2_; have GE144 := n3_; clear n0_ n1_ n2_ n3_; clear hb hbox hg) | ((with_reducible refine gate_callee (f := 21) rfl ?_); refine goesL_ (some 11) rfl rfl Try.func21 (by kernel_rfl) rfl #[] rfl (by (try simp only [List.map_toArray, List.map_cons, List.map_nil]); first | done | rfl | (simp only [List.length_drop, List.length_take]; rfl)) ?_; (with_reducible refine (mezzaninelaw25_awake.calls k  true _ A3.out).mono ?_); rintro e w133 ⟨rfl, hb⟩; refine ⟨_, rfl, ?_⟩; have n0_ := Aside0.mk (blk_below (g := gb144) (o := .cells #[.int .u64 a0_0, .int .u64 a0_1, .slice A0_2 l0_2.length c0_2] 25 (0, 0)) (by (with_reducible repeat (first | refine blk_drewN ?_ _ | refine blk_drew ?_ | refine blk_alloc ?_ _)); exact BK144.out) hb); have n1_ := Aside0.mk (below_step (by repeat (first | (with_reducible first | exact HB.out | apply below_alloc | apply pw_below_drewN | apply below_drew1 | refine below_set ?_ GE144.out) | exact HB.out)) hb); clear BK144; clear HB; have BK144 := n0_; have HB := n1_; clear n0_ n1_; (try clear hb); (try clear hb2); (try clear hk); (try clear hi); have hcz134_0 : w133.cell? ⟨gb144, 0, none⟩ = some (.int .u64 a0_0) := (blk_cell BK144.out 0).trans rfl; have hcz134_1 : w133.cell? ⟨gb144, 1, none⟩ = some (.int .u64 a0_1) := (blk_cell BK144.out 1).trans rfl; have hcz134_2 : w133.cell? ⟨gb144, 2, none⟩ = some (.slice A0_2 l0_2.length c0_2) := (blk_cell BK144.out 2).trans rfl; have hfz134_0 := blk_frozen BK144.out 0; have hfz134_1 := blk_frozen BK144.out 1; have hfz134_2 := blk_frozen BK144.out 2) | ((with_reducible refine gate_callee (f := 24) rfl ?_); refine goesL_ (some 19) rfl rfl Try.func24 (by kernel_rfl) rfl #[.agg #[.int .u64 a0_0, .int .u64 a0_1, .slice A0_2 l0_2.length c0_2]] rfl (by (try simp only [List.map_toArray, List.map_cons, List.map_nil]); first | done | rfl | (simp only [List.length_drop, List.length_take]; rfl)) ?_; (with_reducible refine (conf_Check.calls k a0_0 a0_1 _ _ l0_2 t146 t147 _ ?side1 ?side2 A9.out).mono ?_); (case side1 => repeat (first | exact (Kd.C_below HR0_2.out HB.out) | (with_reducible refine Kd.C_alloc ?_ _) | (with_reducible refine Kd.C_drewN ?_ _) | (with_reducible refine Kd.C_drew ?_))); (case side2 => exact HC0_2.out); rintro e w135 ⟨rfl, hb⟩; refine ⟨_, rfl, ?_⟩; have n0_ := Aside0.mk (blk_below (g := gb144) (o := .cells #[.int .u64 a0_0, .int .u64 a0_1, .slice A0_2 l0_2.length c0_2] 25 (0, 0)) (by (with_reducible repeat (first | refine blk_drewN ?_ _ | refine blk_drew ?_ | refine blk_alloc ?_ _)); exact BK144.out) hb); have n1_ := Aside0.mk (below_step (by repeat (first | (with_reducible first | exact HB.out | apply below_alloc | apply pw_below_drewN | apply below_drew1 | refine below_set ?_ GE144.out) | exact HB.out)) hb); clear BK144; clear HB; have BK144 := n0_; have HB := n1_; clear n0_ n1_; (try clear hb); (try clear hb2); (try clear hk); (try clear hi); have hcz136_0 : w135.cell? ⟨gb144, 0, none⟩ = some (.int .u64 a0_0) := (blk_cell BK144.out 0).trans rfl; have hcz136_1 : w135.cell? ⟨gb144, 1, none⟩ = some (.int .u64 a0_1) := (blk_cell BK144.out 1).trans rfl; have hcz136_2 : w135.cell? ⟨gb144, 2, none⟩ = some (.slice A0_2 l0_2.length c0_2) := (blk_cell BK144.out 2).trans rfl; have hfz136_0 := blk_frozen BK144.out 0; have hfz136_1 := blk_frozen BK144.out 1; have hfz136_2 := blk_frozen BK144.out 2))
            go_ret
            exact ⟨by first | rfl | (simp [errW_none, errW_some] <;> rfl) | (simp [*, errW_none, errW_some] <;> rfl), by repeat (first | (with_reducible first | exact HB.out | apply below_alloc | apply pw_below_drewN | apply below_drew1 | refine below_set ?_ GE144.out) | exact HB.out)⟩
        · rw [if_neg c113] at H
          have c113b0 : decide (t146 < (l0_2.length : Int)) = false := decide_eq_false c113
          clear c113
          obtain rfl := Option.some.inj H
          go_enter Try.func7, Try.ntmps7
          go_wp2_with (first | ((with_reducible refine gate_dst (N := 2) rfl ?_); refine box_event ?hg (N := 2) ?hd (cs := #[.int .u64 a0_0, .int .u64 a0_1, .slice A0_2 l0_2.length c0_2]) (t := 25) ?hr ?_; (case hd => rfl); (case hg => rfl); (case hr => first | (go_simp; done) | (go_simp; rfl)); intro gb144 hg w137 hbox hb; have n0_ := Aside0.mk (below_step (by repeat (first | (with_reducible first | exact HB.out | apply below_alloc | apply pw_below_drewN | apply below_drew1) | exact HB.out)) hb); have n1_ := Aside0.mk (hbox); have n2_ := Aside0.mk ((by rw [hg]; exact (below_size (by repeat (first | (with_reducible first | exact HB.out | apply below_alloc | apply pw_below_drewN | apply below_drew1) | exact HB.out))) : w.heap.size ≤ gb144)); have n3_ := Aside0.mk ((by rw [hg]; exact (below_size (by repeat (first | (with_reducible first | exact HB.out | apply below_alloc | apply pw_below_drewN | apply below_drew1) | exact HB.out))) : w.heap.size ≤ gb144)); clear HB; have HB := n0_; have BK144 := n1_; have GW144 := n2_; have GE144 := n3_; clear n0_ n1_ n2_ n3_; clear hb hbox hg) | ((with_reducible refine gate_callee (f := 21) rfl ?_); refine goesL_ (some 11) rfl rfl Try.func21 (by kernel_rfl) rfl #[] rfl (by (try simp only [List.map_toArray, List.map_cons, List.map_nil]); first | done | rfl | (simp only [List.length_drop, List.length_take]; rfl)) ?_; (with_reducible refine (mezzaninelaw25_awake.calls k  true _ A3.out).mono ?_); rintro e w138 ⟨rfl, hb⟩; refine ⟨_, rfl, ?_⟩; have n0_ := Aside0.mk (blk_below (g := gb144) (o := .cells #[.int .u64 a0_0, .int .u64 a0_1, .slice A0_2 l0_2.length c0_2] 25 (0, 0)) (by (with_reducible repeat (first | refine blk_drewN ?_ _ | refine blk_drew ?_ | refine blk_alloc ?_ _)); exact BK144.out) hb); have n1_ := Aside0.mk (below_step (by repeat (first | (with_reducible first | exact HB.out | apply below_alloc | apply pw_below_drewN | apply below_drew1 | refine below_set ?_ GE144.out) | exact HB.out)) hb); clear BK144; clear HB; have BK144 := n0_; have HB := n1_; clear n0_ n1_; (try clear hb); (try clear hb2); (try clear hk); (try clear hi); have hcz139_0 : w138.cell? ⟨gb144, 0, none⟩ = some (.int .u64 a0_0) := (blk_cell BK144.out 0).trans rfl; have hcz139_1 : w138.cell? ⟨gb144, 1, none⟩ = some (.int .u64 a0_1) := (blk_cell BK144.out 1).trans rfl; have hcz139_2 : w138.cell? ⟨gb144, 2, none⟩ = some (.slice A0_2 l0_2.length c0_2) := (blk_cell BK144.out 2).trans rfl; have hfz139_0 := blk_frozen BK144.out 0; have hfz139_1 := blk_frozen BK144.out 1; have hfz139_2 := blk_frozen BK144.out 2) | ((with_reducible refine gate_callee (f := 24) rfl ?_); refine goesL_ (some 19) rfl rfl Try.func24 (by kernel_rfl) rfl #[.agg #[.int .u64 a0_0, .int .u64 a0_1, .slice A0_2 l0_2.length c0_2]] rfl (by (try simp only [List.map_toArray, List.map_cons, List.map_nil]); first | done | rfl | (simp only [List.length_drop, List.length_take]; rfl)) ?_; (with_reducible refine (conf_Check.calls k a0_0 a0_1 _ _ l0_2 t146 t147 _ ?side1 ?side2 A9.out).mono ?_); (case side1 => repeat (first | exact (Kd.C_below HR0_2.out HB.out) | (with_reducible refine Kd.C_alloc ?_ _) | (with_reducible refine Kd.C_drewN ?_ _) | (with_reducible refine Kd.C_drew ?_))); (case side2 => exact HC0_2.out); rintro e w140 ⟨rfl, hb⟩; refine ⟨_, rfl, ?_⟩; have n0_ := Aside0.mk (blk_below (g := gb144) (o := .cells #[.int .u64 a0_0, .int .u64 a0_1, .slice A0_2 l0_2.length c0_2] 25 (0, 0)) (by (with_reducible repeat (first | refine blk_drewN ?_ _ | refine blk_drew ?_ | refine blk_alloc ?_ _)); exact BK144.out) hb); have n1_ := Aside0.mk (below_step (by repeat (first | (with_reducible first | exact HB.out | apply below_alloc | apply pw_below_drewN | apply below_drew1 | refine below_set ?_ GE144.out) | exact HB.out)) hb); clear BK144; clear HB; have BK144 := n0_; have HB := n1_; clear n0_ n1_; (try clear hb); (try clear hb2); (try clear hk); (try clear hi); have hcz141_0 : w140.cell? ⟨gb144, 0, none⟩ = some (.int .u64 a0_0) := (blk_cell BK144.out 0).trans rfl; have hcz141_1 : w140.cell? ⟨gb144, 1, none⟩ = some (.int .u64 a0_1) := (blk_cell BK144.out 1).trans rfl; have hcz141_2 : w140.cell? ⟨gb144, 2, none⟩ = some (.slice A0_2 l0_2.length c0_2) := (blk_cell BK144.out 2).trans rfl; have hfz141_0 := blk_frozen BK144.out 0; have hfz141_1 := blk_frozen BK144.out 1; have hfz141_2 := blk_frozen BK144.out 2))
          go_ret
          exact ⟨by first | rfl | (simp [errW_none, errW_some] <;> rfl) | (simp [*, errW_none, errW_some] <;> rfl), by repeat (first | (with_reducible first | exact HB.out | apply below_alloc | apply pw_below_drewN | apply below_drew1 | refine below_set ?_ GE144.out) | exact HB.out)⟩
  · replace c4 := Bool.eq_false_iff.mpr c4
    subst c4
    have H1 : (some false) = some r := by rw [if_neg (show ¬ (false = true) by decide)] at H; exact H
    clear H
    have H := H1
    clear H1
    obtain rfl := Option.some.inj H
    go_enter Try.func7, Try.ntmps7
    go_wp2_with (first | ((with_reducible refine gate_dst (N := 2) rfl ?_); refine box_event ?hg (N := 2) ?hd (cs := #[.int .u64 a0_0, .int .u64 a0_1, .slice A0_2 l0_2.length c0_2]) (t := 25) ?hr ?_; (case hd => rfl); (case hg => rfl); (case hr => first | (go_simp; done) | (go_simp; rfl)); intro gb144 hg w142 hbox hb; have n0_ := Aside0.mk (below_step (by repeat (first | (with_reducible first | exact HB.out | apply below_alloc | apply pw_below_drewN | apply below_drew1) | exact HB.out)) hb); have n1_ := Aside0.mk (hbox); have n2_ := Aside0.mk ((by rw [hg]; exact (below_size (by repeat (first | (with_reducible first | exact HB.out | apply below_alloc | apply pw_below_drewN | apply below_drew1) | exact HB.out))) : w.heap.size ≤ gb144)); have n3_ := Aside0.mk ((by rw [hg]; exact (below_size (by repeat (first | (with_reducible first | exact HB.out | apply below_alloc | apply pw_below_drewN | apply below_drew1) | exact HB.out))) : w.heap.size ≤ gb144)); clear HB; have HB := n0_; have BK144 := n1_; have GW144 := n2_; have GE144 := n3_; clear n0_ n1_ n2_ n3_; clear hb hbox hg) | ((with_reducible refine gate_callee (f := 21) rfl ?_); refine goesL_ (some 11) rfl rfl Try.func21 (by kernel_rfl) rfl #[] rfl (by (try simp only [List.map_toArray, List.map_cons, List.map_nil]); first | done | rfl | (simp only [List.length_drop, List.length_take]; rfl)) ?_; (with_reducible refine (mezzaninelaw25_awake.calls k  false _ A3.out).mono ?_); rintro e w143 ⟨rfl, hb⟩; refine ⟨_, rfl, ?_⟩; have n0_ := Aside0.mk (blk_below (g := gb144) (o := .cells #[.int .u64 a0_0, .int .u64 a0_1, .slice A0_2 l0_2.length c0_2] 25 (0, 0)) (by (with_reducible repeat (first | refine blk_drewN ?_ _ | refine blk_drew ?_ | refine blk_alloc ?_ _)); exact BK144.out) hb); have n1_ := Aside0.mk (below_step (by repeat (first | (with_reducible first | exact HB.out | apply below_alloc | apply pw_below_drewN | apply below_drew1 | refine below_set ?_ GE144.out) | exact HB.out)) hb); clear BK144; clear HB; have BK144 := n0_; have HB := n1_; clear n0_ n1_; (try clear hb); (try clear hb2); (try clear hk); (try clear hi)))
    go_ret
    exact ⟨by first | rfl | (simp [errW_none, errW_some] <;> rfl) | (simp [*, errW_none, errW_some] <;> rfl), by repeat (first | (with_reducible first | exact HB.out | apply below_alloc | apply pw_below_drewN | apply below_drew1 | refine below_set ?_ GE144.out) | exact HB.out)⟩

end Go.Proofs.Ytacgjgmladbgeaa.PConfApart

-- Laid by a program: a print of this law's functions, with contracts of this session's own put in.
import Derived.Test.YtacgjgmladbgeaaPConfPlacesx0
import Derived.Test.YtacgjgmladbgeaaPConfPlacesx4
namespace Go.Proofs.Ytacgjgmladbgeaa.PConfPlaces
open Go.RowKit Go.Proofs.YtacgjgmladbgeaaW.PrintWords Go.Proofs.YtacgjgmladbgeaaW.PrintLast Go.Proofs.YtacgjgmladbgeaaW.PrintMore
attribute [local go_sem] max2_int min2_int max_two min_two max_three min_three max_four min_four   -- for this text's walks alone
set_option linter.unusedVariables false
set_option linter.unusedSimpArgs false

/-! ### mezzanineref25_guest: function 37 -/
mutual
def mezzanineref25_guest.j0 : Nat → Int → Bool → Int → Int → List (S53) → Int → Int → Option (Int)
  | 0, _, _, _, _, _, _, _ => none
  | k + 1, x1, x28, x161000, x161001, x161002, x163000, x163001 => if x28 = true then (some 251) else (if (Int.tmod x163000 4096) = 0 then (mezzanineref25_guest.l0 k x1 0 x161000 x161001 x161002 x163000 x163001) else (some 252))
def mezzanineref25_guest.l0 : Nat → Int → Int → Int → Int → List (S53) → Int → Int → Option (Int)
  | 0, _, _, _, _, _, _, _ => none
  | k + 1, x1, x6, x161000, x161001, x161002, x163000, x163001 => if x6 < x163001 then (if (IntKind.u64.wrap (x163000 + x6)) < 2148532224 then (some 253) else (if (IntKind.u64.wrap (x163000 + x6)) ≥ (IntKind.u64.wrap (2147483648 + x161000)) then (some 253) else (mezzanineref25_guest.l0 k x1 (IntKind.u64.wrap (x6 + 4096)) x161000 x161001 x161002 x163000 x163001))) else (mezzanineref25_guest.l1 k x1 0 x161000 x161001 x161002 x163000 x163001)
def mezzanineref25_guest.l1 : Nat → Int → Int → Int → Int → List (S53) → Int → Int → Option (Int)
  | 0, _, _, _, _, _, _, _ => none
  | k + 1, x1, x8, x161000, x161001, x161002, x163000, x163001 => if x8 < x163001 then (mezzanineref25_guest.l2 k x1 x8 0 x161000 x161001 x161002 x163000 x163001) else (some 0)
def mezzanineref25_guest.l2 : Nat → Int → Int → Int → Int → Int → List (S53) → Int → Int → Option (Int)
  | 0, _, _, _, _, _, _, _, _ => none
  | k + 1, x1, x8, x9, x161000, x161001, x161002, x163000, x163001 => if x9 < x1 then (if 0 ≤ x9 then (if x9 < (x161002.length : Int) then ((mezzanineref25_Has.f ((rd_T53 x161002 x9).f0) ((rd_T53 x161002 x9).f1) (IntKind.u64.wrap (x163000 + x8))).bind fun t164 => (if t164 = true then (some 254) else (mezzanineref25_guest.l2 k x1 x8 (wrap64 (x9 + 1)) x161000 x161001 x161002 x163000 x163001))) else (none)) else (none)) else (mezzanineref25_guest.l1 k x1 (IntKind.u64.wrap (x8 + 4096)) x161000 x161001 x161002 x163000 x163001)
end
def mezzanineref25_guest.f (k : Nat) (a0_0 : Int) (a0_1 : Int) (l0_2 : List (S53)) (a1 : Int) : Option (Int) := if 0 ≤ a1 then (if a1 < (l0_2.length : Int) then (if ((rd_T53 l0_2 a1).f1) < 4096 then (mezzanineref25_guest.j0 k a1 true a0_0 a0_1 l0_2 ((rd_T53 l0_2 a1).f0) ((rd_T53 l0_2 a1).f1)) else (if ((rd_T53 l0_2 a1).f1) > 2097152 then (mezzanineref25_guest.j0 k a1 true a0_0 a0_1 l0_2 ((rd_T53 l0_2 a1).f0) ((rd_T53 l0_2 a1).f1)) else (mezzanineref25_guest.j0 k a1 ((Int.tmod ((rd_T53 l0_2 a1).f1) 4096) != 0) a0_0 a0_1 l0_2 ((rd_T53 l0_2 a1).f0) ((rd_T53 l0_2 a1).f1)))) else (none)) else (none)
theorem mezzanineref25_guest.mono_l : ∀ k, (∀ y0 y1 y2 y3 y4 y5 y6, LeO (mezzanineref25_guest.j0 k y0 y1 y2 y3 y4 y5 y6) (mezzanineref25_guest.j0 (k + 1) y0 y1 y2 y3 y4 y5 y6)) ∧ (∀ y0 y1 y2 y3 y4 y5 y6, LeO (mezzanineref25_guest.l0 k y0 y1 y2 y3 y4 y5 y6) (mezzanineref25_guest.l0 (k + 1) y0 y1 y2 y3 y4 y5 y6)) ∧ (∀ y0 y1 y2 y3 y4 y5 y6, LeO (mezzanineref25_guest.l1 k y0 y1 y2 y3 y4 y5 y6) (mezzanineref25_guest.l1 (k + 1) y0 y1 y2 y3 y4 y5 y6)) ∧ (∀ y0 y1 y2 y3 y4 y5 y6 y7, LeO (mezzanineref25_guest.l2 k y0 y1 y2 y3 y4 y5 y6 y7) (mezzanineref25_guest.l2 (k + 1) y0 y1 y2 y3 y4 y5 y6 y7))
  | 0 => ⟨fun _ _ _ _ _ _ _ r h => by simp [mezzanineref25_guest.j0] at h, fun _ _ _ _ _ _ _ r h => by simp [mezzanineref25_guest.l0] at h, fun _ _ _ _ _ _ _ r h => by simp [mezzanineref25_guest.l1] at h, fun _ _ _ _ _ _ _ _ r h => by simp [mezzanineref25_guest.l2] at h⟩
  | k + 1 => by
    obtain ⟨ih0, ih1, ih2, ih3⟩ := mezzanineref25_guest.mono_l k
    refine ⟨?_, ?_, ?_, ?_⟩
    · intro y0 y1 y2 y3 y4 y5 y6
      unfold mezzanineref25_guest.j0
      repeat' first
      | (with_reducible exact ih0 _ _ _ _ _ _ _)
      | (with_reducible exact ih1 _ _ _ _ _ _ _)
      | (with_reducible exact ih2 _ _ _ _ _ _ _)
      | (with_reducible exact ih3 _ _ _ _ _ _ _ _)
      | (with_reducible exact LeO.refl _)
      | (with_reducible exact LeO.none _)
      | (with_reducible refine LeO.ite ?_ ?_)
      | (with_reducible refine LeO.bind ?_ (fun _ => ?_))
      | exact ih0 _ _ _ _ _ _ _
      | exact ih1 _ _ _ _ _ _ _
      | exact ih2 _ _ _ _ _ _ _
      | exact ih3 _ _ _ _ _ _ _ _
      | exact LeO.none _
      | refine LeO.ite ?_ ?_
      | refine LeO.bind ?_ (fun _ => ?_)
    · intro y0 y1 y2 y3 y4 y5 y6
      unfold mezzanineref25_guest.l0
      repeat' first
      | (with_reducible exact ih0 _ _ _ _ _ _ _)
      | (with_reducible exact ih1 _ _ _ _ _ _ _)
      | (with_reducible exact ih2 _ _ _ _ _ _ _)
      | (with_reducible exact ih3 _ _ _ _ _ _ _ _)
      | (with_reducible exact LeO.refl _)
      | (with_reducible exact LeO.none _)
      | (with_reducible refine LeO.ite ?_ ?_)
      | (with_reducible refine LeO.bind ?_ (fun _ => ?_))
      | exact ih0 _ _ _ _ _ _ _
      | exact ih1 _ _ _ _ _ _ _
      | exact ih2 _ _ _ _ _ _ _
      | exact ih3 _ _ _ _ _ _ _ _
      | exact LeO.none _
      | refine LeO.ite ?_ ?_
      | refine LeO.bind ?_ (fun _ => ?_)
    · intro y0 y1 y2 y3 y4 y5 y6
      unfold mezzanineref25_guest.l1
      repeat' first
      | (with_reducible exact ih0 _ _ _ _ _ _ _)
      | (with_reducible exact ih1 _ _ _ _ _ _ _)
      | (with_reducible exact ih2 _ _ _ _ _ _ _)
      | (with_reducible exact ih3 _ _ _ _ _ _ _ _)
      | (with_reducible exact LeO.refl _)
      | (with_reducible exact LeO.none _)
      | (with_reducible refine LeO.ite ?_ ?_)
      | (with_reducible refine LeO.bind ?_ (fun _ => ?_))
      | exact ih0 _ _ _ _ _ _ _
      | exact ih1 _ _ _ _ _ _ _
      | exact ih2 _ _ _ _ _ _ _
      | exact ih3 _ _ _ _ _ _ _ _
      | exact LeO.none _
      | refine LeO.ite ?_ ?_
      | refine LeO.bind ?_ (fun _ => ?_)
    · intro y0 y1 y2 y3 y4 y5 y6 y7
      unfold mezzanineref25_guest.l2
      repeat' first
      | (with_reducible exact ih0 _ _ _ _ _ _ _)
      | (with_reducible exact ih1 _ _ _ _ _ _ _)
      | (with_reducible exact ih2 _ _ _ _ _ _ _)
      | (with_reducible exact ih3 _ _ _ _ _ _ _ _)
      | (with_reducible exact LeO.refl _)
      | (with_reducible exact LeO.none _)
      | (with_reducible refine LeO.ite ?_ ?_)
      | (with_reducible refine LeO.bind ?_ (fun _ => ?_))
      | exact ih0 _ _ _ _ _ _ _
      | exact ih1 _ _ _ _ _ _ _
      | exact ih2 _ _ _ _ _ _ _
      | exact ih3 _ _ _ _ _ _ _ _
      | exact LeO.none _
      | refine LeO.ite ?_ ?_
      | refine LeO.bind ?_ (fun _ => ?_)
theorem mezzanineref25_guest.mono : ∀ a0 a1 a2 a3 k, LeO (mezzanineref25_guest.f k a0 a1 a2 a3) (mezzanineref25_guest.f (k + 1) a0 a1 a2 a3) := by
  intro a0 a1 a2 a3 k
  obtain ⟨ih0, ih1, ih2, ih3⟩ := mezzanineref25_guest.mono_l k
  unfold mezzanineref25_guest.f
  repeat' first
      | (with_reducible exact ih0 _ _ _ _ _ _ _)
      | (with_reducible exact ih1 _ _ _ _ _ _ _)
      | (with_reducible exact ih2 _ _ _ _ _ _ _)
      | (with_reducible exact ih3 _ _ _ _ _ _ _ _)
      | (with_reducible exact LeO.refl _)
      | (with_reducible exact LeO.none _)
      | (with_reducible refine LeO.ite ?_ ?_)
      | (with_reducible refine LeO.bind ?_ (fun _ => ?_))
      | exact ih0 _ _ _ _ _ _ _
      | exact ih1 _ _ _ _ _ _ _
      | exact ih2 _ _ _ _ _ _ _
      | exact ih3 _ _ _ _ _ _ _ _
      | exact LeO.none _
      | refine LeO.ite ?_ ?_
      | refine LeO.bind ?_ (fun _ => ?_)
def mezzanineref25_guest.T18 : Bool × List (List Nat × List Nat) := (true, [([], []), ([0], [0]), ([], []), ([1, 2], [1, 2]), ([3], [3]), ([], []), ([5], [5]), ([], []), ([6, 7], [6, 7]), ([4, 8], [4, 8])])
def mezzanineref25_guest.B18 : List Nat := [0, 1, 0, 7, 15, 0, 32, 0, 224, 511]
theorem mezzanineref25_guest.tab18 : rtab .any (opsOf Try.f37 18) = mezzanineref25_guest.T18 := by kernel_rfl
theorem mezzanineref25_guest.bits18 : waitsOk mezzanineref25_guest.T18.2 mezzanineref25_guest.B18 = true := by kernel_rfl
set_option maxHeartbeats 8000000 in
set_option maxRecDepth 100000 in
theorem mezzanineref25_guest.calls (k : Nat) (a0_0 : Int) (a0_1 : Int) (A0_2 : Option Addr) (c0_2 : Nat) (l0_2 : List (S53)) (a1 : Int) (r : Int) (w : World) (hr0_2 : Kd.C k53 w A0_2 l0_2.length l0_2) (hc0_2 : l0_2.length ≤ c0_2) (h : mezzanineref25_guest.f k a0_0 a0_1 l0_2 a1 = some r) :
    Calls Try.prog 37 #[.agg #[.int .u64 a0_0, .int .u64 a0_1, .slice A0_2 l0_2.length c0_2], .int .i64 a1] w fun e w' => e = .returned (.int .i64 r) ∧ Below w.heap.size w w' := by
  have hu25 := Try.underlying25
  have hu53 := Try.underlying53
  have HR0_2 := Aside0.mk hr0_2
  have HC0_2 := Aside0.mk hc0_2
  clear hr0_2 hc0_2
  have HB := Aside0.mk (Below.refl w.heap.size w)
  have H : (if 0 ≤ a1 then (if a1 < (l0_2.length : Int) then (if ((rd_T53 l0_2 a1).f1) < 4096 then (mezzanineref25_guest.j0 k a1 true a0_0 a0_1 l0_2 ((rd_T53 l0_2 a1).f0) ((rd_T53 l0_2 a1).f1)) else (if ((rd_T53 l0_2 a1).f1) > 2097152 then (mezzanineref25_guest.j0 k a1 true a0_0 a0_1 l0_2 ((rd_T53 l0_2 a1).f0) ((rd_T53 l0_2 a1).f1)) else (mezzanineref25_guest.j0 k a1 ((Int.tmod ((rd_T53 l0_2 a1).f1) 4096) != 0) a0_0 a0_1 l0_2 ((rd_T53 l0_2 a1).f0) ((rd_T53 l0_2 a1).f1)))) else (none)) else (none)) = some r := h
  clear h
  by_cases c3 : 0 ≤ a1
  · rw [if_pos c3] at H
    have c3b0 : decide (0 ≤ a1) = true := decide_eq_true c3
    clear c3
    by_cases c4 : a1 < (l0_2.length : Int)
    · rw [if_pos c4] at H
      have c4b0 : decide (a1 < (l0_2.length : Int)) = true := decide_eq_true c4
      clear c4
      have HC5 := Aside0.mk H
      clear H
      go_enter Try.func37, Try.ntmps37
      go_upto_region 2 with (first | ((with_reducible refine gate_dst (N := 2) rfl ?_); refine box_event ?hg (N := 2) ?hd (cs := #[.int .u64 a0_0, .int .u64 a0_1, .slice A0_2 l0_2.length c0_2]) (t := 25) ?hr ?_; (case hd => rfl); (case hg => rfl); (case hr => first | (go_simp; done) | (go_simp; rfl)); intro gb160 hg w6 hbox hb; have n0_ := Aside0.mk (below_step (by repeat (first | (with_reducible first | exact HB.out | apply below_alloc | apply pw_below_drewN | apply below_drew1) | exact HB.out)) hb); have n1_ := Aside0.mk (hbox); have n2_ := Aside0.mk ((by rw [hg]; exact (below_size (by repeat (first | (with_reducible first | exact HB.out | apply below_alloc | apply pw_below_drewN | apply below_drew1) | exact HB.out))) : w.heap.size ≤ gb160)); have n3_ := Aside0.mk ((by rw [hg]; exact (below_size (by repeat (first | (with_reducible first | exact HB.out | apply below_alloc | apply pw_below_drewN | apply below_drew1) | exact HB.out))) : w.heap.size ≤ gb160)); clear HB; have HB := n0_; have BK160 := n1_; have GW160 := n2_; have GE160 := n3_; clear n0_ n1_ n2_ n3_; clear hb hbox hg; have hcz7_0 : w6.cell? ⟨gb160, 0, none⟩ = some (.int .u64 a0_0) := (blk_cell BK160.out 0).trans rfl; have hcz7_1 : w6.cell? ⟨gb160, 1, none⟩ = some (.int .u64 a0_1) := (blk_cell BK160.out 1).trans rfl; have hcz7_2 : w6.cell? ⟨gb160, 2, none⟩ = some (.slice A0_2 l0_2.length c0_2) := (blk_cell BK160.out 2).trans rfl; have hfz7_0 := blk_frozen BK160.out 0; have hfz7_1 := blk_frozen BK160.out 1; have hfz7_2 := blk_frozen BK160.out 2; have p161 : 0 ≤ (a1 : Int) := of_decide_eq_true (by first | (with_reducible assumption) | assumption); have q161 : a1 < (l0_2.length : Int) := of_decide_eq_true (by first | (with_reducible assumption) | assumption); obtain ⟨ad161, e161, hx161_0, hx161_1⟩ := at_T53 HR0_2.out a1 p161 q161; cases e161; replace hx161_0 := (HB.out.cell (World.block_lt_of_cell? w _ hx161_0)).trans hx161_0; replace hx161_1 := (HB.out.cell (World.block_lt_of_cell? w _ hx161_1)).trans hx161_1; replace p161 := eq_true p161; replace q161 := eq_true q161) | ((with_reducible refine gate_dst (N := 5) rfl ?_); refine box_event ?hg (N := 5) ?hd (cs := #[.int .u64 0, .int .u64 0]) (t := 53) ?hr ?_; (case hd => rfl); (case hg => rfl); (case hr => first | (go_simp; done) | (go_simp; rfl)); intro gb162 hg w8 hbox hb; have n0_ := Aside0.mk (blk_below (g := gb160) (o := .cells #[.int .u64 a0_0, .int .u64 a0_1, .slice (some ad161) l0_2.length c0_2] 25 (0, 0)) (by (with_reducible repeat (first | refine blk_drewN ?_ _ | refine blk_drew ?_ | refine blk_alloc ?_ _)); exact BK160.out) hb); have n1_ := Aside0.mk (below_step (by repeat (first | (with_reducible first | exact HB.out | apply below_alloc | apply pw_below_drewN | apply below_drew1 | refine below_set ?_ GE160.out) | exact HB.out)) hb); have n2_ := Aside0.mk (hbox); have n3_ := Aside0.mk ((by rw [hg]; exact (below_size (by repeat (first | (with_reducible first | exact HB.out | apply below_alloc | apply pw_below_drewN | apply below_drew1 | refine below_set ?_ GE160.out) | exact HB.out))) : w.heap.size ≤ gb162)); have n4_ := Aside0.mk ((by rw [hg]; exact (below_size (by repeat (first | (with_reducible first | exact HB.out | apply below_alloc | apply pw_below_drewN | apply below_drew1 | refine below_set ?_ GE160.out) | exact HB.out))) : w.heap.size ≤ gb162)); have n5_ := Aside0.mk ((by rw [hg]; exact Nat.ne_of_lt (blk_lt (g := gb160) (o := .cells #[.int .u64 a0_0, .int .u64 a0_1, .slice (some ad161) l0_2.length c0_2] 25 (0, 0)) (by (with_reducible repeat (first | refine blk_drewN ?_ _ | refine blk_drew ?_ | refine blk_alloc ?_ _)); exact BK160.out)) : gb160 ≠ gb162)); have n6_ := Aside0.mk ((by rw [hg]; exact Nat.ne_of_gt (blk_lt (g := gb160) (o := .cells #[.int .u64 a0_0, .int .u64 a0_1, .slice (some ad161) l0_2.length c0_2] 25 (0, 0)) (by (with_reducible repeat (first | refine blk_drewN ?_ _ | refine blk_drew ?_ | refine blk_alloc ?_ _)); exact BK160.out)) : gb162 ≠ gb160)); clear BK160; clear HB; have BK160 := n0_; have HB := n1_; have BK162 := n2_; have GW162 := n3_; have GE162 := n4_; have NB160_162 := n5_; have NB162_160 := n6_; clear n0_ n1_ n2_ n3_ n4_ n5_ n6_; clear hb hbox hg; have hnb9 := NB162_160.out; have hnc9 := NB160_162.out; have hcz10_0 : w8.cell? ⟨gb162, 0, none⟩ = some (.int .u64 0) := (blk_cell BK162.out 0).trans rfl; have hcz10_1 : w8.cell? ⟨gb162, 1, none⟩ = some (.int .u64 0) := (blk_cell BK162.out 1).trans rfl; have hfz10_0 := blk_frozen BK162.out 0; have hfz10_1 := blk_frozen BK162.out 1))
      (try simp only [Act.put, List.setIfInBounds_toArray, List.set_cons_zero, List.set_cons_succ])
      go_cut [28] (fun v28 wc => ∃ (kq : Nat) (x28_4 : Bool), v28 = .bool x28_4 ∧ Aside0 (mezzanineref25_guest.j0 kq a1 x28_4 a0_0 a0_1 l0_2 ((rd_T53 l0_2 a1).f0) ((rd_T53 l0_2 a1).f1) = some r) ∧ Aside0 (kq ≤ k) ∧ Aside0 (wc.heap[gb160]? = some (.cells #[.int .u64 a0_0, .int .u64 a0_1, (.slice (some ad161) l0_2.length c0_2)] 25 (0, 0))) ∧ Aside0 (wc.heap[gb162]? = some (.cells #[.int .u64 ((rd_T53 l0_2 a1).f0), .int .u64 ((rd_T53 l0_2 a1).f1)] 53 (0, 0))) ∧ Aside0 (Below w.heap.size w wc))
      case first =>
        have H := HC5.out
        clear HC5
        by_cases c11 : ((rd_T53 l0_2 a1).f1) < 4096
        · rw [if_pos c11] at H
          have c11b0 : decide (((rd_T53 l0_2 a1).f1) < 4096) = true := decide_eq_true c11
          clear c11
          (first | rw [c11b0] | (simp only [i64_w, i32_w]; rw [c11b0]) | skip)
          have H' := Aside0.mk H
          clear H
          have hnb12 := NB162_160.out
          have hnc12 := NB160_162.out
          have hcz13_0 : w8.cell? ⟨gb162, 0, none⟩ = some (.int .u64 0) := (blk_cell BK162.out 0).trans rfl
          have hcz13_1 : w8.cell? ⟨gb162, 1, none⟩ = some (.int .u64 0) := (blk_cell BK162.out 1).trans rfl
          have hfz13_0 := blk_frozen BK162.out 0
          have hfz13_1 := blk_frozen BK162.out 1
          go_wp2
          go_meet
          case rel => exact ⟨_, (true), (by first | rfl | (simp; done) | (simp [*]; done)), H', ⟨by first | omega | exact Nat.le_refl _⟩, ⟨by (with_reducible repeat (first | refine blk_drewN ?_ _ | refine blk_drew ?_ | refine blk_alloc ?_ _)); refine blk_far ?_ NB160_162.out _; (with_reducible repeat (first | refine blk_drewN ?_ _ | refine blk_drew ?_ | refine blk_alloc ?_ _)); refine blk_far ?_ NB160_162.out _; (with_reducible repeat (first | refine blk_drewN ?_ _ | refine blk_drew ?_ | refine blk_alloc ?_ _)); exact BK160.out⟩, ⟨by (with_reducible repeat (first | refine blk_drewN ?_ _ | refine blk_drew ?_ | refine blk_alloc ?_ _)); refine blk_put (cs := #[.int .u64 ((rd_T53 l0_2 a1).f0), .int .u64 0]) ?_ 1 _ rfl; (with_reducible repeat (first | refine blk_drewN ?_ _ | refine blk_drew ?_ | refine blk_alloc ?_ _)); refine blk_put (cs := #[.int .u64 0, .int .u64 0]) ?_ 0 _ rfl; (with_reducible repeat (first | refine blk_drewN ?_ _ | refine blk_drew ?_ | refine blk_alloc ?_ _)); exact BK162.out⟩, ⟨by repeat (first | (with_reducible first | exact HB.out | apply below_alloc | apply pw_below_drewN | apply below_drew1 | refine below_set ?_ GE160.out | refine below_set ?_ GE162.out) | exact HB.out)⟩⟩
        · rw [if_neg c11] at H
          have c11b0 : decide (((rd_T53 l0_2 a1).f1) < 4096) = false := decide_eq_false c11
          clear c11
          (first | rw [c11b0] | (simp only [i64_w, i32_w]; rw [c11b0]) | skip)
          by_cases c14 : ((rd_T53 l0_2 a1).f1) > 2097152
          · rw [if_pos c14] at H
            have c14b0 : decide (2097152 < ((rd_T53 l0_2 a1).f1)) = true := decide_eq_true c14
            clear c14
            have H' := Aside0.mk H
            clear H
            have hnb15 := NB162_160.out
            have hnc15 := NB160_162.out
            have hcz16_0 : w8.cell? ⟨gb162, 0, none⟩ = some (.int .u64 0) := (blk_cell BK162.out 0).trans rfl
            have hcz16_1 : w8.cell? ⟨gb162, 1, none⟩ = some (.int .u64 0) := (blk_cell BK162.out 1).trans rfl
            have hfz16_0 := blk_frozen BK162.out 0
            have hfz16_1 := blk_frozen BK162.out 1
            go_wp2
            go_meet
            case rel => exact ⟨_, (true), (by first | rfl | (simp; done) | (simp [*]; done)), H', ⟨by first | omega | exact Nat.le_refl _⟩, ⟨by (with_reducible repeat (first | refine blk_drewN ?_ _ | refine blk_drew ?_ | refine blk_alloc ?_ _)); refine blk_far ?_ NB160_162.out _; (with_reducible repeat (first | refine blk_drewN ?_ _ | refine blk_drew ?_ | refine blk_alloc ?_ _)); refine blk_far ?_ NB160_162.out _; (with_reducible repeat (first | refine blk_drewN ?_ _ | refine blk_drew ?_ | refine blk_alloc ?_ _)); exact BK160.out⟩, ⟨by (with_reducible repeat (first | refine blk_drewN ?_ _ | refine blk_drew ?_ | refine blk_alloc ?_ _)); refine blk_put (cs := #[.int .u64 ((rd_T53 l0_2 a1).f0), .int .u64 0]) ?_ 1 _ rfl; (with_reducible repeat (first | refine blk_drewN ?_ _ | refine blk_drew ?_ | refine blk_alloc ?_ _)); refine blk_put (cs := #[.int .u64 0, .int .u64 0]) ?_ 0 _ rfl; (with_reducible repeat (first | refine blk_drewN ?_ _ | refine blk_drew ?_ | refine blk_alloc ?_ _)); exact BK162.out⟩, ⟨by repeat (first | (with_reducible first | exact HB.out | apply below_alloc | apply pw_below_drewN | apply below_drew1 | refine below_set ?_ GE160.out | refine below_set ?_ GE162.out) | exact HB.out)⟩⟩
          · rw [if_neg c14] at H
            have c14b0 : decide (2097152 < ((rd_T53 l0_2 a1).f1)) = false := decide_eq_false c14
            clear c14
            have H' := Aside0.mk H
            clear H
            have hnb17 := NB162_160.out
            have hnc17 := NB160_162.out
            have hcz18_0 : w8.cell? ⟨gb162, 0, none⟩ = some (.int .u64 0) := (blk_cell BK162.out 0).trans rfl
            have hcz18_1 : w8.cell? ⟨gb162, 1, none⟩ = some (.int .u64 0) := (blk_cell BK162.out 1).trans rfl
            have hfz18_0 := blk_frozen BK162.out 0
            have hfz18_1 := blk_frozen BK162.out 1
            go_wp2
            go_meet
            case rel => exact ⟨_, (((Int.tmod ((rd_T53 l0_2 a1).f1) 4096) != 0)), (by first | rfl | (simp; done) | (simp [*]; done)), H', ⟨by first | omega | exact Nat.le_refl _⟩, ⟨by (with_reducible repeat (first | refine blk_drewN ?_ _ | refine blk_drew ?_ | refine blk_alloc ?_ _)); refine blk_far ?_ NB160_162.out _; (with_reducible repeat (first | refine blk_drewN ?_ _ | refine blk_drew ?_ | refine blk_alloc ?_ _)); refine blk_far ?_ NB160_162.out _; (with_reducible repeat (first | refine blk_drewN ?_ _ | refine blk_drew ?_ | refine blk_alloc ?_ _)); exact BK160.out⟩, ⟨by (with_reducible repeat (first | refine blk_drewN ?_ _ | refine blk_drew ?_ | refine blk_alloc ?_ _)); refine blk_put (cs := #[.int .u64 ((rd_T53 l0_2 a1).f0), .int .u64 0]) ?_ 1 _ rfl; (with_reducible repeat (first | refine blk_drewN ?_ _ | refine blk_drew ?_ | refine blk_alloc ?_ _)); refine blk_put (cs := #[.int .u64 0, .int .u64 0]) ?_ 0 _ rfl; (with_reducible repeat (first | refine blk_drewN ?_ _ | refine blk_drew ?_ | refine blk_alloc ?_ _)); exact BK162.out⟩, ⟨by repeat (first | (with_reducible first | exact HB.out | apply below_alloc | apply pw_below_drewN | apply below_drew1 | refine below_set ?_ GE160.out | refine below_set ?_ GE162.out) | exact HB.out)⟩⟩
      case rest =>
        clear HC5
        try clear c1
        try clear p1
        try clear q1
        try clear hx1
        try clear p2
        try clear c3
        try clear c3b0
        try clear c4
        try clear c4b0
        try clear c9
        try clear c11
        try clear c11b0
        try clear c12
        try clear c14
        try clear c14b0
        try clear c15
        try clear p16
        try clear q16
        try clear hx16
        try clear c17
        try clear hcz10_0
        try clear hcz10_1
        try clear hcz13_0
        try clear hcz13_1
        try clear hcz16_0
        try clear hcz16_1
        try clear hcz18_0
        try clear hcz18_1
        try clear hcz7_0
        try clear hcz7_1
        try clear hcz7_2
        try clear hfz10_0
        try clear hfz10_1
        try clear hfz13_0
        try clear hfz13_1
        try clear hfz16_0
        try clear hfz16_1
        try clear hfz18_0
        try clear hfz18_1
        try clear hfz7_0
        try clear hfz7_1
        try clear hfz7_2
        try clear hx161_0
        try clear hx161_1
        try clear p161
        try clear q161
        obtain ⟨kq, x28_4, rfl, HA, HJ4, BK160, BK162, HB⟩ := hcut
        cases kq with
        | zero => exact absurd HA.out (by simp [mezzanineref25_guest.j0])
        | succ kj4 =>
          have H := HA.out
          clear HA
          simp only [mezzanineref25_guest.j0] at H
          by_cases c19 : x28_4 = true
          · subst c19
            have H1 : (some 251) = some r := by rw [if_pos rfl] at H; exact H
            clear H
            have H := H1
            clear H1
            obtain rfl := Option.some.inj H
            go_wp2
            go_ret
            exact ⟨by first | rfl | (simp [errW_none, errW_some] <;> rfl) | (simp [*, errW_none, errW_some] <;> rfl), by repeat (first | (with_reducible first | exact HB.out | apply below_alloc | apply pw_below_drewN | apply below_drew1 | refine below_set ?_ GE160.out | refine below_set ?_ GE162.out) | exact HB.out)⟩
          · replace c19 := Bool.eq_false_iff.mpr c19
            subst c19
            have H1 : (if (Int.tmod ((rd_T53 l0_2 a1).f0) 4096) = 0 then (mezzanineref25_guest.l0 kj4 a1 0 a0_0 a0_1 l0_2 ((rd_T53 l0_2 a1).f0) ((rd_T53 l0_2 a1).f1)) else (some 252)) = some r := by rw [if_neg (show ¬ (false = true) by decide)] at H; exact H
            clear H
            have H := H1
            clear H1
            by_cases c20 : (Int.tmod ((rd_T53 l0_2 a1).f0) 4096) = 0
            · rw [if_pos c20] at H
              have c20b0 : ((Int.tmod ((rd_T53 l0_2 a1).f0) 4096) == 0) = true := beq_iff_eq.mpr c20
              have c20b1 : ((Int.tmod ((rd_T53 l0_2 a1).f0) 4096) != 0) = false := bne_eq_false_iff_eq.mpr c20
              clear c20
              have H' := Aside0.mk H
              clear H
              have hnb21 := NB162_160.out
              have hnc21 := NB160_162.out
              have hcz22_0 : wc.cell? ⟨gb162, 0, none⟩ = some (.int .u64 ((rd_T53 l0_2 a1).f0)) := (blk_cell BK162.out 0).trans rfl
              have hcz22_1 : wc.cell? ⟨gb162, 1, none⟩ = some (.int .u64 ((rd_T53 l0_2 a1).f1)) := (blk_cell BK162.out 1).trans rfl
              have hfz22_0 := blk_frozen BK162.out 0
              have hfz22_1 := blk_frozen BK162.out 1
              go_wp2
              go_loopg [6] kj4 (fun kq v6 w' => ∃ (x6_2 : Int), v6 = .int .u64 x6_2 ∧ Aside0 (mezzanineref25_guest.l0 kq a1 x6_2 a0_0 a0_1 l0_2 ((rd_T53 l0_2 a1).f0) ((rd_T53 l0_2 a1).f1) = some r) ∧ Aside0 (kq ≤ kj4) ∧ Aside0 (w'.heap[gb160]? = some (.cells #[.int .u64 a0_0, .int .u64 a0_1, (.slice (some ad161) l0_2.length c0_2)] 25 (0, 0))) ∧ Aside0 (w'.heap[gb162]? = some (.cells #[.int .u64 ((rd_T53 l0_2 a1).f0), .int .u64 ((rd_T53 l0_2 a1).f1)] 53 (0, 0))) ∧ Aside0 (Below w.heap.size w w'))
              case atStart => exact ⟨(0), (by first | rfl | (simp; done) | (simp [*]; done)), H', ⟨Nat.le_refl _⟩, ⟨by (with_reducible repeat (first | refine blk_drewN ?_ _ | refine blk_drew ?_ | refine blk_alloc ?_ _)); exact BK160.out⟩, ⟨by (with_reducible repeat (first | refine blk_drewN ?_ _ | refine blk_drew ?_ | refine blk_alloc ?_ _)); exact BK162.out⟩, ⟨by repeat (first | (with_reducible first | exact HB.out | apply below_alloc | apply pw_below_drewN | apply below_drew1 | refine below_set ?_ GE160.out | refine below_set ?_ GE162.out) | exact HB.out)⟩⟩
              case round =>
                clear H'
                try clear c1
                try clear p1
                try clear q1
                try clear hx1
                try clear c2
                try clear p2
                try clear c3
                try clear c3b0
                try clear c4
                try clear c4b0
                try clear c9
                try clear c11
                try clear c11b0
                try clear c12
                try clear c14
                try clear c14b0
                try clear c15
                try clear p16
                try clear q16
                try clear hx16
                try clear c17
                try clear c19
                try clear c20
                try clear c20b0
                try clear c20b1
                try clear c21
                try clear hcz10_0
                try clear hcz10_1
                try clear hcz13_0
                try clear hcz13_1
                try clear hcz16_0
                try clear hcz16_1
                try clear hcz18_0
                try clear hcz18_1
                try clear hcz22_0
                try clear hcz22_1
                try clear hcz7_0
                try clear hcz7_1
                try clear hcz7_2
                try clear hfz10_0
                try clear hfz10_1
                try clear hfz13_0
                try clear hfz13_1
                try clear hfz16_0
                try clear hfz16_1
                try clear hfz18_0
                try clear hfz18_1
                try clear hfz22_0
                try clear hfz22_1
                try clear hfz7_0
                try clear hfz7_1
                try clear hfz7_2
                try clear hx161_0
                try clear hx161_1
                try clear p1
                try clear p16
                try clear p161
                try clear p2
                try clear q1
                try clear q16
                try clear q161
                obtain ⟨x6_2, rfl, HA, HK2, BK160, BK162, HB⟩ := hrel
                cases gk with
                | zero => exact absurd HA.out (by simp [mezzanineref25_guest.l0])
                | succ k2 =>
                  have H := HA.out
                  clear HA
                  simp only [mezzanineref25_guest.l0] at H
                  by_cases c23 : x6_2 < ((rd_T53 l0_2 a1).f1)
                  · rw [if_pos c23] at H
                    have c23b0 : decide (x6_2 < ((rd_T53 l0_2 a1).f1)) = true := decide_eq_true c23
                    clear c23
                    by_cases c24 : (IntKind.u64.wrap (((rd_T53 l0_2 a1).f0) + x6_2)) < 2148532224
                    · rw [if_pos c24] at H
                      have c24b0 : decide ((IntKind.u64.wrap (((rd_T53 l0_2 a1).f0) + x6_2)) < 2148532224) = true := decide_eq_true c24
                      clear c24
                      obtain rfl := Option.some.inj H
                      have hnb25 := NB162_160.out
                      have hnc25 := NB160_162.out
                      have hcz26_0 : wr.cell? ⟨gb162, 0, none⟩ = some (.int .u64 ((rd_T53 l0_2 a1).f0)) := (blk_cell BK162.out 0).trans rfl
                      have hcz26_1 : wr.cell? ⟨gb162, 1, none⟩ = some (.int .u64 ((rd_T53 l0_2 a1).f1)) := (blk_cell BK162.out 1).trans rfl
                      have hfz26_0 := blk_frozen BK162.out 0
                      have hfz26_1 := blk_frozen BK162.out 1
                      go_wp2
                      go_ret
                      exact ⟨by first | rfl | (simp [errW_none, errW_some] <;> rfl) | (simp [*, errW_none, errW_some] <;> rfl), by repeat (first | (with_reducible first | exact HB.out | apply below_alloc | apply pw_below_drewN | apply below_drew1 | refine below_set ?_ GE160.out | refine below_set ?_ GE162.out) | exact HB.out)⟩
                    · rw [if_neg c24] at H
                      have c24b0 : decide ((IntKind.u64.wrap (((rd_T53 l0_2 a1).f0) + x6_2)) < 2148532224) = false := decide_eq_false c24
                      clear c24
                      by_cases c27 : (IntKind.u64.wrap (((rd_T53 l0_2 a1).f0) + x6_2)) ≥ (IntKind.u64.wrap (2147483648 + a0_0))
                      · rw [if_pos c27] at H
                        have c27b0 : decide ((IntKind.u64.wrap (2147483648 + a0_0)) ≤ (IntKind.u64.wrap (((rd_T53 l0_2 a1).f0) + x6_2))) = true := decide_eq_true c27
                        clear c27
                        obtain rfl := Option.some.inj H
                        have hnb28 := NB162_160.out
                        have hnc28 := NB160_162.out
                        have hcz29_0 : wr.cell? ⟨gb162, 0, none⟩ = some (.int .u64 ((rd_T53 l0_2 a1).f0)) := (blk_cell BK162.out 0).trans rfl
                        have hcz29_1 : wr.cell? ⟨gb162, 1, none⟩ = some (.int .u64 ((rd_T53 l0_2 a1).f1)) := (blk_cell BK162.out 1).trans rfl
                        have hfz29_0 := blk_frozen BK162.out 0
                        have hfz29_1 := blk_frozen BK162.out 1
                        have hcz30_0 : wr.cell? ⟨gb160, 0, none⟩ = some (.int .u64 a0_0) := (blk_cell BK160.out 0).trans rfl
                        have hcz30_1 : wr.cell? ⟨gb160, 1, none⟩ = some (.int .u64 a0_1) := (blk_cell BK160.out 1).trans rfl
                        have hcz30_2 : wr.cell? ⟨gb160, 2, none⟩ = some (.slice (some ad161) l0_2.length c0_2) := (blk_cell BK160.out 2).trans rfl
                        have hfz30_0 := blk_frozen BK160.out 0
                        have hfz30_1 := blk_frozen BK160.out 1
                        have hfz30_2 := blk_frozen BK160.out 2
                        go_wp2
                        go_ret
                        exact ⟨by first | rfl | (simp [errW_none, errW_some] <;> rfl) | (simp [*, errW_none, errW_some] <;> rfl), by repeat (first | (with_reducible first | exact HB.out | apply below_alloc | apply pw_below_drewN | apply below_drew1 | refine below_set ?_ GE160.out | refine below_set ?_ GE162.out) | exact HB.out)⟩
                      · rw [if_neg c27] at H
                        have c27b0 : decide ((IntKind.u64.wrap (2147483648 + a0_0)) ≤ (IntKind.u64.wrap (((rd_T53 l0_2 a1).f0) + x6_2))) = false := decide_eq_false c27
                        clear c27
                        have H' := Aside0.mk H
                        clear H
                        have hnb31 := NB162_160.out
                        have hnc31 := NB160_162.out
                        have hcz32_0 : wr.cell? ⟨gb162, 0, none⟩ = some (.int .u64 ((rd_T53 l0_2 a1).f0)) := (blk_cell BK162.out 0).trans rfl
                        have hcz32_1 : wr.cell? ⟨gb162, 1, none⟩ = some (.int .u64 ((rd_T53 l0_2 a1).f1)) := (blk_cell BK162.out 1).trans rfl
                        have hfz32_0 := blk_frozen BK162.out 0
                        have hfz32_1 := blk_frozen BK162.out 1
                        have hcz33_0 : wr.cell? ⟨gb160, 0, none⟩ = some (.int .u64 a0_0) := (blk_cell BK160.out 0).trans rfl
                        have hcz33_1 : wr.cell? ⟨gb160, 1, none⟩ = some (.int .u64 a0_1) := (blk_cell BK160.out 1).trans rfl
                        have hcz33_2 : wr.cell? ⟨gb160, 2, none⟩ = some (.slice (some ad161) l0_2.length c0_2) := (blk_cell BK160.out 2).trans rfl
                        have hfz33_0 := blk_frozen BK160.out 0
                        have hfz33_1 := blk_frozen BK160.out 1
                        have hfz33_2 := blk_frozen BK160.out 2
                        go_wp2
                        go_roundg k2
                        case measure => have := HJ4.out; have := HK2.out; omega
                        case rel => exact ⟨(IntKind.u64.wrap (x6_2 + 4096)), (by first | rfl | (simp; done) | (simp [*]; done)), H', ⟨by have := HJ4.out; have := HK2.out; omega⟩, ⟨by (with_reducible repeat (first | refine blk_drewN ?_ _ | refine blk_drew ?_ | refine blk_alloc ?_ _)); exact BK160.out⟩, ⟨by (with_reducible repeat (first | refine blk_drewN ?_ _ | refine blk_drew ?_ | refine blk_alloc ?_ _)); exact BK162.out⟩, ⟨by repeat (first | (with_reducible first | exact HB.out | apply below_alloc | apply pw_below_drewN | apply below_drew1 | refine below_set ?_ GE160.out | refine below_set ?_ GE162.out) | exact HB.out)⟩⟩
                  · rw [if_neg c23] at H
                    have c23b0 : decide (x6_2 < ((rd_T53 l0_2 a1).f1)) = false := decide_eq_false c23
                    clear c23
                    have H' := Aside0.mk H
                    clear H
                    have hnb34 := NB162_160.out
                    have hnc34 := NB160_162.out
                    have hcz35_0 : wr.cell? ⟨gb162, 0, none⟩ = some (.int .u64 ((rd_T53 l0_2 a1).f0)) := (blk_cell BK162.out 0).trans rfl
                    have hcz35_1 : wr.cell? ⟨gb162, 1, none⟩ = some (.int .u64 ((rd_T53 l0_2 a1).f1)) := (blk_cell BK162.out 1).trans rfl
                    have hfz35_0 := blk_frozen BK162.out 0
                    have hfz35_1 := blk_frozen BK162.out 1
                    go_wp2
                    go_loopg [8] k2 (fun kq v8 w' => ∃ (x8_3 : Int), v8 = .int .u64 x8_3 ∧ Aside0 (mezzanineref25_guest.l1 kq a1 x8_3 a0_0 a0_1 l0_2 ((rd_T53 l0_2 a1).f0) ((rd_T53 l0_2 a1).f1) = some r) ∧ Aside0 (kq ≤ k2) ∧ Aside0 (w'.heap[gb160]? = some (.cells #[.int .u64 a0_0, .int .u64 a0_1, (.slice (some ad161) l0_2.length c0_2)] 25 (0, 0))) ∧ Aside0 (w'.heap[gb162]? = some (.cells #[.int .u64 ((rd_T53 l0_2 a1).f0), .int .u64 ((rd_T53 l0_2 a1).f1)] 53 (0, 0))) ∧ Aside0 (Below w.heap.size w w'))
                    case atStart => exact ⟨(0), (by first | rfl | (simp; done) | (simp [*]; done)), H', ⟨Nat.le_refl _⟩, ⟨by (with_reducible repeat (first | refine blk_drewN ?_ _ | refine blk_drew ?_ | refine blk_alloc ?_ _)); exact BK160.out⟩, ⟨by (with_reducible repeat (first | refine blk_drewN ?_ _ | refine blk_drew ?_ | refine blk_alloc ?_ _)); exact BK162.out⟩, ⟨by repeat (first | (with_reducible first | exact HB.out | apply below_alloc | apply pw_below_drewN | apply below_drew1 | refine below_set ?_ GE160.out | refine below_set ?_ GE162.out) | exact HB.out)⟩⟩
                    case round =>
                      clear H'
                      try clear c1
                      try clear p1
                      try clear q1
                      try clear hx1
                      try clear c2
                      try clear p2
                      try clear c3
                      try clear c3b0
                      try clear c4
                      try clear c4b0
                      try clear c9
                      try clear c11
                      try clear c11b0
                      try clear c12
                      try clear c14
                      try clear c14b0
                      try clear c15
                      try clear p16
                      try clear q16
                      try clear hx16
                      try clear c17
                      try clear c19
                      try clear c20
                      try clear c20b0
                      try clear c20b1
                      try clear c21
                      try clear c23
                      try clear c23b0
                      try clear c24
                      try clear c24b0
                      try clear c25
                      try clear c27
                      try clear c27b0
                      try clear c28
                      try clear c31
                      try clear c34
                      try clear hcz10_0
                      try clear hcz10_1
                      try clear hcz13_0
                      try clear hcz13_1
                      try clear hcz16_0
                      try clear hcz16_1
                      try clear hcz18_0
                      try clear hcz18_1
                      try clear hcz22_0
                      try clear hcz22_1
                      try clear hcz26_0
                      try clear hcz26_1
                      try clear hcz29_0
                      try clear hcz29_1
                      try clear hcz30_0
                      try clear hcz30_1
                      try clear hcz30_2
                      try clear hcz32_0
                      try clear hcz32_1
                      try clear hcz33_0
                      try clear hcz33_1
                      try clear hcz33_2
                      try clear hcz35_0
                      try clear hcz35_1
                      try clear hcz7_0
                      try clear hcz7_1
                      try clear hcz7_2
                      try clear hfz10_0
                      try clear hfz10_1
                      try clear hfz13_0
                      try clear hfz13_1
                      try clear hfz16_0
                      try clear hfz16_1
                      try clear hfz18_0
                      try clear hfz18_1
                      try clear hfz22_0
                      try clear hfz22_1
                      try clear hfz26_0
                      try clear hfz26_1
                      try clear hfz29_0
                      try clear hfz29_1
                      try clear hfz30_0
                      try clear hfz30_1
                      try clear hfz30_2
                      try clear hfz32_0
                      try clear hfz32_1
                      try clear hfz33_0
                      try clear hfz33_1
                      try clear hfz33_2
                      try clear hfz35_0
                      try clear hfz35_1
                      try clear hfz7_0
                      try clear hfz7_1
                      try clear hfz7_2
                      try clear hx161_0
                      try clear hx161_1
                      try clear p1
                      try clear p16
                      try clear p161
                      try clear p2
                      try clear q1
                      try clear q16
                      try clear q161
                      obtain ⟨x8_3, rfl, HA, HK3, BK160, BK162, HB⟩ := hrel
                      cases gk with
                      | zero => exact absurd HA.out (by simp [mezzanineref25_guest.l1])
                      | succ k3 =>
                        have H := HA.out
                        clear HA
                        simp only [mezzanineref25_guest.l1] at H
                        by_cases c36 : x8_3 < ((rd_T53 l0_2 a1).f1)
                        · rw [if_pos c36] at H
                          have c36b0 : decide (x8_3 < ((rd_T53 l0_2 a1).f1)) = true := decide_eq_true c36
                          clear c36
                          have H' := Aside0.mk H
                          clear H
                          have hnb37 := NB162_160.out
                          have hnc37 := NB160_162.out
                          have hcz38_0 : wr.cell? ⟨gb162, 0, none⟩ = some (.int .u64 ((rd_T53 l0_2 a1).f0)) := (blk_cell BK162.out 0).trans rfl
                          have hcz38_1 : wr.cell? ⟨gb162, 1, none⟩ = some (.int .u64 ((rd_T53 l0_2 a1).f1)) := (blk_cell BK162.out 1).trans rfl
                          have hfz38_0 := blk_frozen BK162.out 0
                          have hfz38_1 := blk_frozen BK162.out 1
                          go_wp2
                          go_loopg [9] k3 (fun kq v9 w' => ∃ (x9_4 : Int), v9 = .int .i64 x9_4 ∧ Aside0 (mezzanineref25_guest.l2 kq a1 x8_3 x9_4 a0_0 a0_1 l0_2 ((rd_T53 l0_2 a1).f0) ((rd_T53 l0_2 a1).f1) = some r) ∧ Aside0 (kq ≤ k3) ∧ Aside0 (w'.heap[gb160]? = some (.cells #[.int .u64 a0_0, .int .u64 a0_1, (.slice (some ad161) l0_2.length c0_2)] 25 (0, 0))) ∧ Aside0 (w'.heap[gb162]? = some (.cells #[.int .u64 ((rd_T53 l0_2 a1).f0), .int .u64 ((rd_T53 l0_2 a1).f1)] 53 (0, 0))) ∧ Aside0 (Below w.heap.size w w'))
                          case atStart => exact ⟨(0), (by first | rfl | (simp; done) | (simp [*]; done)), H', ⟨Nat.le_refl _⟩, ⟨by (with_reducible repeat (first | refine blk_drewN ?_ _ | refine blk_drew ?_ | refine blk_alloc ?_ _)); exact BK160.out⟩, ⟨by (with_reducible repeat (first | refine blk_drewN ?_ _ | refine blk_drew ?_ | refine blk_alloc ?_ _)); exact BK162.out⟩, ⟨by repeat (first | (with_reducible first | exact HB.out | apply below_alloc | apply pw_below_drewN | apply below_drew1 | refine below_set ?_ GE160.out | refine below_set ?_ GE162.out) | exact HB.out)⟩⟩
                          case round =>
                            clear H'
                            try clear c1
                            try clear p1
                            try clear q1
                            try clear hx1
                            try clear c2
                            try clear p2
                            try clear c3
                            try clear c3b0
                            try clear c4
                            try clear c4b0
                            try clear c9
                            try clear c11
                            try clear c11b0
                            try clear c12
                            try clear c14
                            try clear c14b0
                            try clear c15
                            try clear p16
                            try clear q16
                            try clear hx16
                            try clear c17
                            try clear c19
                            try clear c20
                            try clear c20b0
                            try clear c20b1
                            try clear c21
                            try clear c23
                            try clear c23b0
                            try clear c24
                            try clear c24b0
                            try clear c25
                            try clear c27
                            try clear c27b0
                            try clear c28
                            try clear c31
                            try clear c34
                            try clear c36
                            try clear c36b0
                            try clear c37
                            try clear hcz10_0
                            try clear hcz10_1
                            try clear hcz13_0
                            try clear hcz13_1
                            try clear hcz16_0
                            try clear hcz16_1
                            try clear hcz18_0
                            try clear hcz18_1
                            try clear hcz22_0
                            try clear hcz22_1
                            try clear hcz26_0
                            try clear hcz26_1
                            try clear hcz29_0
                            try clear hcz29_1
                            try clear hcz30_0
                            try clear hcz30_1
                            try clear hcz30_2
                            try clear hcz32_0
                            try clear hcz32_1
                            try clear hcz33_0
                            try clear hcz33_1
                            try clear hcz33_2
                            try clear hcz35_0
                            try clear hcz35_1
                            try clear hcz38_0
                            try clear hcz38_1
                            try clear hcz7_0
                            try clear hcz7_1
                            try clear hcz7_2
                            try clear hfz10_0
                            try clear hfz10_1
                            try clear hfz13_0
                            try clear hfz13_1
                            try clear hfz16_0
                            try clear hfz16_1
                            try clear hfz18_0
                            try clear hfz18_1
                            try clear hfz22_0
                            try clear hfz22_1
                            try clear hfz26_0
                            try clear hfz26_1
                            try clear hfz29_0
                            try clear hfz29_1
                            try clear hfz30_0
                            try clear hfz30_1
                            try clear hfz30_2
                            try clear hfz32_0
                            try clear hfz32_1
                            try clear hfz33_0
                            try clear hfz33_1
                            try clear hfz33_2
                            try clear hfz35_0
                            try clear hfz35_1
                            try clear hfz38_0
                            try clear hfz38_1
                            try clear hfz7_0
                            try clear hfz7_1
                            try clear hfz7_2
                            try clear hx161_0
                            try clear hx161_1
                            try clear p1
                            try clear p16
                            try clear p161
                            try clear p2
                            try clear q1
                            try clear q16
                            try clear q161
                            obtain ⟨x9_4, rfl, HA, HK4, BK160, BK162, HB⟩ := hrel
                            cases gk with
                            | zero => exact absurd HA.out (by simp [mezzanineref25_guest.l2])
                            | succ k4 =>
                              have H := HA.out
                              clear HA
                              simp only [mezzanineref25_guest.l2] at H
                              by_cases c39 : x9_4 < a1
                              · rw [if_pos c39] at H
                                have c39b0 : decide (x9_4 < a1) = true := decide_eq_true c39
                                clear c39
                                by_cases c40 : 0 ≤ x9_4
                                · rw [if_pos c40] at H
                                  have c40b0 : decide (0 ≤ x9_4) = true := decide_eq_true c40
                                  clear c40
                                  by_cases c41 : x9_4 < (l0_2.length : Int)
                                  · rw [if_pos c41] at H
                                    have c41b0 : decide (x9_4 < (l0_2.length : Int)) = true := decide_eq_true c41
                                    clear c41
                                    replace H := Option.bind_eq_some_iff.mp H
                                    obtain ⟨t164, A420, H⟩ := H
                                    replace H : (if t164 = true then (some 254) else (mezzanineref25_guest.l2 k4 a1 x8_3 (wrap64 (x9_4 + 1)) a0_0 a0_1 l0_2 ((rd_T53 l0_2 a1).f0) ((rd_T53 l0_2 a1).f1))) = some r := H
                                    have A42 := Aside0.mk A420
                                    clear A420
                                    by_cases c43 : t164 = true
                                    · subst c43
                                      have H1 : (some 254) = some r := by rw [if_pos rfl] at H; exact H
                                      clear H
                                      have H := H1
                                      clear H1
                                      obtain rfl := Option.some.inj H
                                      try go_wp2
                                      have n0_ := Aside0.mk (blk_drew BK160.out)
                                      have n1_ := Aside0.mk (blk_drew BK162.out)
                                      have n2_ := Aside0.mk (below_drew1 HB.out)
                                      clear BK160
                                      clear BK162
                                      clear HB
                                      have BK160 := n0_
                                      have BK162 := n1_
                                      have HB := n2_
                                      clear n0_ n1_ n2_
                                      have p163 : 0 ≤ (x9_4 : Int) := of_decide_eq_true (by first | (with_reducible assumption) | assumption)
                                      have q163 : x9_4 < (l0_2.length : Int) := of_decide_eq_true (by first | (with_reducible assumption) | assumption)
                                      obtain ⟨ad163, e163, hx163_0, hx163_1⟩ := at_T53 HR0_2.out x9_4 p163 q163
                                      have hw163_1 := hx163_1
                                      have hw163_0 := hx163_0
                                      obtain rfl : ad161 = ad163 := (by injection e163)
                                      replace hx163_0 := (HB.out.cell (World.block_lt_of_cell? w _ hx163_0)).trans hx163_0
                                      replace hx163_1 := (HB.out.cell (World.block_lt_of_cell? w _ hx163_1)).trans hx163_1
                                      replace p163 := eq_true p163
                                      replace q163 := eq_true q163
                                      refine start_ (n := 10) (S := fun w' => w'.cell? ⟨gb160, 0, none⟩ = some (.int .u64 a0_0) ∧ w'.cell? ⟨gb160, 1, none⟩ = some (.int .u64 a0_1) ∧ w'.cell? ⟨gb160, 2, none⟩ = some (.slice (some ad161) l0_2.length c0_2) ∧ w'.cell? ⟨gb162, 0, none⟩ = some (.int .u64 ((rd_T53 l0_2 a1).f0)) ∧ w'.cell? ⟨gb162, 1, none⟩ = some (.int .u64 ((rd_T53 l0_2 a1).f1)) ∧ w'.cell? (ad161.add ((x9_4).toNat * 2)) = some (.int .u64 ((rd_T53 l0_2 x9_4).f0)) ∧ w'.cell? ⟨(ad161.add ((x9_4).toNat * 2)).block, (ad161.add ((x9_4).toNat * 2)).off + 1, none⟩ = some (.int .u64 ((rd_T53 l0_2 x9_4).f1))) (ds := []) #[false, false, false, false, false, false, false, false, false, false] (by kernel_rfl) rfl rfl ⟨(blk_cell BK160.out 0).trans rfl, (blk_cell BK160.out 1).trans rfl, (blk_cell BK160.out 2).trans rfl, (blk_cell BK162.out 0).trans rfl, (blk_cell BK162.out 1).trans rfl, ((HB.out.cell (World.block_lt_of_cell? w _ hw163_0)).trans hw163_0), ((HB.out.cell (World.block_lt_of_cell? w _ hw163_1)).trans hw163_1)⟩ (fun hHeld => ?_); refine with_tabW mezzanineref25_guest.tab18 mezzanineref25_guest.bits18 (fun HT_ HW_ => ?_)
                                      generalize wr.drew = w44 at BK160 BK162 HB hx163_0 hx163_1 hHeld ⊢
                                      refine pure_ (i := 0) (N := some 63) (v := ?_) (a' := ?_) #[true, false, false, false, false, false, false, false, false, false] rfl rfl (any_of HT_.out (by kernel_rfl)) (fun _ _ _ h => h) (Or.inl ⟨by rfl, ?_⟩) ?_ ?_
                                      rotate_left
                                      · intro w'
                                        go_simp
                                        with_reducible rfl
                                      rotate_left
                                      · simp only [Act.put, List.setIfInBounds_toArray, List.set_cons_zero, List.set_cons_succ, i64_w, i32_w]
                                        rfl
                                      refine pure_ (i := 2) (N := some 65) (v := ?_) (a' := ?_) #[true, false, true, false, false, false, false, false, false, false] rfl rfl (any_of HT_.out (by kernel_rfl)) (fun _ _ _ h => h) (Or.inl ⟨by rfl, ?_⟩) ?_ ?_
                                      rotate_left
                                      · intro w'
                                        go_simp
                                        with_reducible rfl
                                      rotate_left
                                      · simp only [Act.put, List.setIfInBounds_toArray, List.set_cons_zero, List.set_cons_succ, i64_w, i32_w]
                                        rfl
                                      refine pure_ (i := 5) (N := some 68) (v := ?_) (a' := ?_) #[true, false, true, false, false, true, false, false, false, false] rfl rfl (any_of HT_.out (by kernel_rfl)) (fun _ _ _ h => h) (Or.inl ⟨by rfl, ?_⟩) ?_ ?_
                                      rotate_left
                                      · intro w'
                                        go_simp
                                        with_reducible rfl
                                      rotate_left
                                      · simp only [Act.put, List.setIfInBounds_toArray, List.set_cons_zero, List.set_cons_succ, i64_w, i32_w]
                                        rfl
                                      refine pure_ (i := 7) (N := some 70) (v := ?_) (a' := ?_) #[true, false, true, false, false, true, false, true, false, false] rfl rfl (any_of HT_.out (by kernel_rfl)) (fun _ _ _ h => h) (Or.inl ⟨by rfl, ?_⟩) ?_ ?_
                                      rotate_left
                                      · intro w'
                                        go_simp
                                        with_reducible rfl
                                      rotate_left
                                      · simp only [Act.put, List.setIfInBounds_toArray, List.set_cons_zero, List.set_cons_succ, i64_w, i32_w]
                                        rfl
                                      refine take_ (i := 1) (N := some 64) (v := ?_) (a' := ?_) #[true, true, true, false, false, true, false, true, false, false] rfl rfl (take_ofW HT_.out HW_.out (by kernel_rfl)) (fun _ _ _ h => h) (Or.inl ⟨by rfl, ?_⟩) hHeld ?_ ?_
                                      rotate_left
                                      · rintro w' ⟨s0, s1, s2, s3, s4, s5, s6⟩
                                        go_simp
                                        with_reducible rfl
                                      rotate_left
                                      · simp only [Act.put, List.setIfInBounds_toArray, List.set_cons_zero, List.set_cons_succ, i64_w, i32_w]
                                        rfl
                                      refine pure_ (i := 3) (N := some 66) (v := ?_) (a' := ?_) #[true, true, true, true, false, true, false, true, false, false] rfl rfl (any_of HT_.out (by kernel_rfl)) (fun _ _ _ h => h) (Or.inl ⟨by rfl, ?_⟩) ?_ ?_
                                      rotate_left
                                      · intro w'
                                        go_simp
                                        with_reducible rfl
                                      rotate_left
                                      · simp only [Act.put, List.setIfInBounds_toArray, List.set_cons_zero, List.set_cons_succ, i64_w, i32_w]
                                        rfl
                                      refine take_ (i := 4) (N := some 67) (v := ?_) (a' := ?_) #[true, true, true, true, true, true, false, true, false, false] rfl rfl (take_ofW HT_.out HW_.out (by kernel_rfl)) (fun _ _ _ h => h) (Or.inl ⟨by rfl, ?_⟩) hHeld ?_ ?_
                                      rotate_left
                                      · rintro w' ⟨s0, s1, s2, s3, s4, s5, s6⟩
                                        go_simp
                                        with_reducible rfl
                                      rotate_left
                                      · simp only [Act.put, List.setIfInBounds_toArray, List.set_cons_zero, List.set_cons_succ, i64_w, i32_w]
                                        rfl
                                      refine take_ (i := 6) (N := some 69) (v := ?_) (a' := ?_) #[true, true, true, true, true, true, true, true, false, false] rfl rfl (take_ofW HT_.out HW_.out (by kernel_rfl)) (fun _ _ _ h => h) (Or.inl ⟨by rfl, ?_⟩) hHeld ?_ ?_
                                      rotate_left
                                      · rintro w' ⟨s0, s1, s2, s3, s4, s5, s6⟩
                                        go_simp
                                        with_reducible rfl
                                      rotate_left
                                      · simp only [Act.put, List.setIfInBounds_toArray, List.set_cons_zero, List.set_cons_succ, i64_w, i32_w]
                                        rfl
                                      refine pure_ (i := 8) (N := some 71) (v := ?_) (a' := ?_) #[true, true, true, true, true, true, true, true, true, false] rfl rfl (any_of HT_.out (by kernel_rfl)) (fun _ _ _ h => h) (Or.inl ⟨by rfl, ?_⟩) ?_ ?_
                                      rotate_left
                                      · intro w'
                                        go_simp
                                        with_reducible rfl
                                      rotate_left
                                      · simp only [Act.put, List.setIfInBounds_toArray, List.set_cons_zero, List.set_cons_succ, i64_w, i32_w]
                                        rfl
                                      refine one_ (i := 9) (N := some 72) #[true, true, true, true, true, true, true, true, true, true] rfl rfl (one_of HT_.out (by kernel_rfl)) (by decide) (fun K hK => ?_)
                                      refine goes_ Try.func44 (by kernel_rfl) rfl #[.agg #[.int .u64 ((rd_T53 l0_2 x9_4).f0), .int .u64 ((rd_T53 l0_2 x9_4).f1)], .int .u64 (IntKind.u64.wrap (((rd_T53 l0_2 a1).f0) + x8_3))] (by rfl) rfl rfl (by (try simp only [List.map_toArray, List.map_cons, List.map_nil]); first | done | rfl | (simp only [List.length_drop, List.length_take]; rfl)) ?_
                                      with_reducible refine (mezzanineref25_Has.calls ((rd_T53 l0_2 x9_4).f0) ((rd_T53 l0_2 x9_4).f1) (IntKind.u64.wrap (((rd_T53 l0_2 a1).f0) + x8_3)) true _ A42.out).mono ?_
                                      rintro e w45 ⟨rfl, hb⟩
                                      refine ⟨_, rfl, ?_⟩
                                      have n0_ := Aside0.mk (blk_below (g := gb160) (o := .cells #[.int .u64 a0_0, .int .u64 a0_1, .slice (some ad161) l0_2.length c0_2] 25 (0, 0)) (by (with_reducible repeat (first | refine blk_drewN ?_ _ | refine blk_drew ?_ | refine blk_alloc ?_ _)); exact BK160.out) hb)
                                      have n1_ := Aside0.mk (blk_below (g := gb162) (o := .cells #[.int .u64 ((rd_T53 l0_2 a1).f0), .int .u64 ((rd_T53 l0_2 a1).f1)] 53 (0, 0)) (by (with_reducible repeat (first | refine blk_drewN ?_ _ | refine blk_drew ?_ | refine blk_alloc ?_ _)); exact BK162.out) hb)
                                      have n2_ := Aside0.mk (below_step (by repeat (first | (with_reducible first | exact HB.out | apply below_alloc | apply pw_below_drewN | apply below_drew1 | refine below_set ?_ GE160.out | refine below_set ?_ GE162.out) | exact HB.out)) hb)
                                      clear BK160
                                      clear BK162
                                      clear HB
                                      have BK160 := n0_
                                      have BK162 := n1_
                                      have HB := n2_
                                      clear n0_ n1_ n2_
                                      (try clear hb)
                                      (try clear hb2)
                                      (try clear hk)
                                      (try clear hi)
                                      refine hK.out _ _ ⟨(blk_cell BK160.out 0).trans rfl, (blk_cell BK160.out 1).trans rfl, (blk_cell BK160.out 2).trans rfl, (blk_cell BK162.out 0).trans rfl, (blk_cell BK162.out 1).trans rfl, ((HB.out.cell (World.block_lt_of_cell? w _ hw163_0)).trans hw163_0), ((HB.out.cell (World.block_lt_of_cell? w _ hw163_1)).trans hw163_1)⟩ (fun hHeld => ?_)
                                      clear hK K
                                      refine norm_ (a' := ?_) ?_ ?_
                                      rotate_left
                                      · show Act.put _ (some 72) _ = _
                                        simp only [Act.put, List.setIfInBounds_toArray, List.set_cons_zero, List.set_cons_succ, i64_w, i32_w]
                                        rfl
                                      refine done_ (done_of HT_.out (by kernel_rfl)) ?_
                                      try go_wp2
                                      go_ret
                                      exact ⟨by first | rfl | (simp [errW_none, errW_some] <;> rfl) | (simp [*, errW_none, errW_some] <;> rfl), by repeat (first | (with_reducible first | exact HB.out | apply below_alloc | apply pw_below_drewN | apply below_drew1 | refine below_set ?_ GE160.out | refine below_set ?_ GE162.out) | exact HB.out)⟩
                                    · replace c43 := Bool.eq_false_iff.mpr c43
                                      subst c43
                                      have H1 : (mezzanineref25_guest.l2 k4 a1 x8_3 (wrap64 (x9_4 + 1)) a0_0 a0_1 l0_2 ((rd_T53 l0_2 a1).f0) ((rd_T53 l0_2 a1).f1)) = some r := by rw [if_neg (show ¬ (false = true) by decide)] at H; exact H
                                      clear H
                                      have H := H1
                                      clear H1
                                      have H' := Aside0.mk H
                                      clear H
                                      try go_wp2
                                      have n0_ := Aside0.mk (blk_drew BK160.out)
                                      have n1_ := Aside0.mk (blk_drew BK162.out)
                                      have n2_ := Aside0.mk (below_drew1 HB.out)
                                      clear BK160
                                      clear BK162
                                      clear HB
                                      have BK160 := n0_
                                      have BK162 := n1_
                                      have HB := n2_
                                      clear n0_ n1_ n2_
                                      have p163 : 0 ≤ (x9_4 : Int) := of_decide_eq_true (by first | (with_reducible assumption) | assumption)
                                      have q163 : x9_4 < (l0_2.length : Int) := of_decide_eq_true (by first | (with_reducible assumption) | assumption)
                                      obtain ⟨ad163, e163, hx163_0, hx163_1⟩ := at_T53 HR0_2.out x9_4 p163 q163
                                      have hw163_1 := hx163_1
                                      have hw163_0 := hx163_0
                                      obtain rfl : ad161 = ad163 := (by injection e163)
                                      replace hx163_0 := (HB.out.cell (World.block_lt_of_cell? w _ hx163_0)).trans hx163_0
                                      replace hx163_1 := (HB.out.cell (World.block_lt_of_cell? w _ hx163_1)).trans hx163_1
                                      replace p163 := eq_true p163
                                      replace q163 := eq_true q163
                                      refine start_ (n := 10) (S := fun w' => w'.cell? ⟨gb160, 0, none⟩ = some (.int .u64 a0_0) ∧ w'.cell? ⟨gb160, 1, none⟩ = some (.int .u64 a0_1) ∧ w'.cell? ⟨gb160, 2, none⟩ = some (.slice (some ad161) l0_2.length c0_2) ∧ w'.cell? ⟨gb162, 0, none⟩ = some (.int .u64 ((rd_T53 l0_2 a1).f0)) ∧ w'.cell? ⟨gb162, 1, none⟩ = some (.int .u64 ((rd_T53 l0_2 a1).f1)) ∧ w'.cell? (ad161.add ((x9_4).toNat * 2)) = some (.int .u64 ((rd_T53 l0_2 x9_4).f0)) ∧ w'.cell? ⟨(ad161.add ((x9_4).toNat * 2)).block, (ad161.add ((x9_4).toNat * 2)).off + 1, none⟩ = some (.int .u64 ((rd_T53 l0_2 x9_4).f1))) (ds := []) #[false, false, false, false, false, false, false, false, false, false] (by kernel_rfl) rfl rfl ⟨(blk_cell BK160.out 0).trans rfl, (blk_cell BK160.out 1).trans rfl, (blk_cell BK160.out 2).trans rfl, (blk_cell BK162.out 0).trans rfl, (blk_cell BK162.out 1).trans rfl, ((HB.out.cell (World.block_lt_of_cell? w _ hw163_0)).trans hw163_0), ((HB.out.cell (World.block_lt_of_cell? w _ hw163_1)).trans hw163_1)⟩ (fun hHeld => ?_); refine with_tabW mezzanineref25_guest.tab18 mezzanineref25_guest.bits18 (fun HT_ HW_ => ?_)
                                      generalize wr.drew = w46 at BK160 BK162 HB hx163_0 hx163_1 hHeld ⊢
                                      refine pure_ (i := 0) (N := some 63) (v := ?_) (a' := ?_) #[true, false, false, false, false, false, false, false, false, false] rfl rfl (any_of HT_.out (by kernel_rfl)) (fun _ _ _ h => h) (Or.inl ⟨by rfl, ?_⟩) ?_ ?_
                                      rotate_left
                                      · intro w'
                                        go_simp
                                        with_reducible rfl
                                      rotate_left
                                      · simp only [Act.put, List.setIfInBounds_toArray, List.set_cons_zero, List.set_cons_succ, i64_w, i32_w]
                                        rfl
                                      refine pure_ (i := 2) (N := some 65) (v := ?_) (a' := ?_) #[true, false, true, false, false, false, false, false, false, false] rfl rfl (any_of HT_.out (by kernel_rfl)) (fun _ _ _ h => h) (Or.inl ⟨by rfl, ?_⟩) ?_ ?_
                                      rotate_left
                                      · intro w'
                                        go_simp
                                        with_reducible rfl
                                      rotate_left
                                      · simp only [Act.put, List.setIfInBounds_toArray, List.set_cons_zero, List.set_cons_succ, i64_w, i32_w]
                                        rfl
                                      refine pure_ (i := 5) (N := some 68) (v := ?_) (a' := ?_) #[true, false, true, false, false, true, false, false, false, false] rfl rfl (any_of HT_.out (by kernel_rfl)) (fun _ _ _ h => h) (Or.inl ⟨by rfl, ?_⟩) ?_ ?_
                                      rotate_left
                                      · intro w'
                                        go_simp
                                        with_reducible rfl
                                      rotate_left
                                      · simp only [Act.put, List.setIfInBounds_toArray, List.set_cons_zero, List.set_cons_succ, i64_w, i32_w]
                                        rfl
                                      refine pure_ (i := 7) (N := some 70) (v := ?_) (a' := ?_) #[true, false, true, false, false, true, false, true, false, false] rfl rfl (any_of HT_.out (by kernel_rfl)) (fun _ _ _ h => h) (Or.inl ⟨by rfl, ?_⟩) ?_ ?_
                                      rotate_left
                                      · intro w'
                                        go_simp
                                        with_reducible rfl
                                      rotate_left
                                      · simp only [Act.put, List.setIfInBounds_toArray, List.set_cons_zero, List.set_cons_succ, i64_w, i32_w]
                                        rfl
                                      refine take_ (i := 1) (N := some 64) (v := ?_) (a' := ?_) #[true, true, true, false, false, true, false, true, false, false] rfl rfl (take_ofW HT_.out HW_.out (by kernel_rfl)) (fun _ _ _ h => h) (Or.inl ⟨by rfl, ?_⟩) hHeld ?_ ?_
                                      rotate_left
                                      · rintro w' ⟨s0, s1, s2, s3, s4, s5, s6⟩
                                        go_simp
                                        with_reducible rfl
                                      rotate_left
                                      · simp only [Act.put, List.setIfInBounds_toArray, List.set_cons_zero, List.set_cons_succ, i64_w, i32_w]
                                        rfl
                                      refine pure_ (i := 3) (N := some 66) (v := ?_) (a' := ?_) #[true, true, true, true, false, true, false, true, false, false] rfl rfl (any_of HT_.out (by kernel_rfl)) (fun _ _ _ h => h) (Or.inl ⟨by rfl, ?_⟩) ?_ ?_
                                      rotate_left
                                      · intro w'
                                        go_simp
                                        with_reducible rfl
                                      rotate_left
                                      · simp only [Act.put, List.setIfInBounds_toArray, List.set_cons_zero, List.set_cons_succ, i64_w, i32_w]
                                        rfl
                                      refine take_ (i := 4) (N := some 67) (v := ?_) (a' := ?_) #[true, true, true, true, true, true, false, true, false, false] rfl rfl (take_ofW HT_.out HW_.out (by kernel_rfl)) (fun _ _ _ h => h) (Or.inl ⟨by rfl, ?_⟩) hHeld ?_ ?_
                                      rotate_left
                                      · rintro w' ⟨s0, s1, s2, s3, s4, s5, s6⟩
                                        go_simp
                                        with_reducible rfl
                                      rotate_left
                                      · simp only [Act.put, List.setIfInBounds_toArray, List.set_cons_zero, List.set_cons_succ, i64_w, i32_w]
                                        rfl
                                      refine take_ (i := 6) (N := some 69) (v := ?_) (a' := ?_) #[true, true, true, true, true, true, true, true, false, false] rfl rfl (take_ofW HT_.out HW_.out (by kernel_rfl)) (fun _ _ _ h => h) (Or.inl ⟨by rfl, ?_⟩) hHeld ?_ ?_
                                      rotate_left
                                      · rintro w' ⟨s0, s1, s2, s3, s4, s5, s6⟩
                                        go_simp
                                        with_reducible rfl
                                      rotate_left
                                      · simp only [Act.put, List.setIfInBounds_toArray, List.set_cons_zero, List.set_cons_succ, i64_w, i32_w]
                                        rfl
                                      refine pure_ (i := 8) (N := some 71) (v := ?_) (a' := ?_) #[true, true, true, true, true, true, true, true, true, false] rfl rfl (any_of HT_.out (by kernel_rfl)) (fun _ _ _ h => h) (Or.inl ⟨by rfl, ?_⟩) ?_ ?_
                                      rotate_left
                                      · intro w'
                                        go_simp
                                        with_reducible rfl
                                      rotate_left
                                      · simp only [Act.put, List.setIfInBounds_toArray, List.set_cons_zero, List.set_cons_succ, i64_w, i32_w]
                                        rfl
                                      refine one_ (i := 9) (N := some 72) #[true, true, true, true, true, true, true, true, true, true] rfl rfl (one_of HT_.out (by kernel_rfl)) (by decide) (fun K hK => ?_)
                                      refine goes_ Try.func44 (by kernel_rfl) rfl #[.agg #[.int .u64 ((rd_T53 l0_2 x9_4).f0), .int .u64 ((rd_T53 l0_2 x9_4).f1)], .int .u64 (IntKind.u64.wrap (((rd_T53 l0_2 a1).f0) + x8_3))] (by rfl) rfl rfl (by (try simp only [List.map_toArray, List.map_cons, List.map_nil]); first | done | rfl | (simp only [List.length_drop, List.length_take]; rfl)) ?_
                                      with_reducible refine (mezzanineref25_Has.calls ((rd_T53 l0_2 x9_4).f0) ((rd_T53 l0_2 x9_4).f1) (IntKind.u64.wrap (((rd_T53 l0_2 a1).f0) + x8_3)) false _ A42.out).mono ?_
                                      rintro e w47 ⟨rfl, hb⟩
                                      refine ⟨_, rfl, ?_⟩
                                      have n0_ := Aside0.mk (blk_below (g := gb160) (o := .cells #[.int .u64 a0_0, .int .u64 a0_1, .slice (some ad161) l0_2.length c0_2] 25 (0, 0)) (by (with_reducible repeat (first | refine blk_drewN ?_ _ | refine blk_drew ?_ | refine blk_alloc ?_ _)); exact BK160.out) hb)
                                      have n1_ := Aside0.mk (blk_below (g := gb162) (o := .cells #[.int .u64 ((rd_T53 l0_2 a1).f0), .int .u64 ((rd_T53 l0_2 a1).f1)] 53 (0, 0)) (by (with_reducible repeat (first | refine blk_drewN ?_ _ | refine blk_drew ?_ | refine blk_alloc ?_ _)); exact BK162.out) hb)
                                      have n2_ := Aside0.mk (below_step (by repeat (first | (with_reducible first | exact HB.out | apply below_alloc | apply pw_below_drewN | apply below_drew1 | refine below_set ?_ GE160.out | refine below_set ?_ GE162.out) | exact HB.out)) hb)
                                      clear BK160
                                      clear BK162
                                      clear HB
                                      have BK160 := n0_
                                      have BK162 := n1_
                                      have HB := n2_
                                      clear n0_ n1_ n2_
                                      (try clear hb)
                                      (try clear hb2)
                                      (try clear hk)
                                      (try clear hi)
                                      refine hK.out _ _ ⟨(blk_cell BK160.out 0).trans rfl, (blk_cell BK160.out 1).trans rfl, (blk_cell BK160.out 2).trans rfl, (blk_cell BK162.out 0).trans rfl, (blk_cell BK162.out 1).trans rfl, ((HB.out.cell (World.block_lt_of_cell? w _ hw163_0)).trans hw163_0), ((HB.out.cell (World.block_lt_of_cell? w _ hw163_1)).trans hw163_1)⟩ (fun hHeld => ?_)
                                      clear hK K
                                      refine norm_ (a' := ?_) ?_ ?_
                                      rotate_left
                                      · show Act.put _ (some 72) _ = _
                                        simp only [Act.put, List.setIfInBounds_toArray, List.set_cons_zero, List.set_cons_succ, i64_w, i32_w]
                                        rfl
                                      refine done_ (done_of HT_.out (by kernel_rfl)) ?_
                                      try go_wp2
                                      go_roundg k4
                                      case measure => have := HJ4.out; have := HK2.out; have := HK3.out; have := HK4.out; omega
                                      case rel => exact ⟨(wrap64 (x9_4 + 1)), (by first | rfl | (simp; done) | (simp [*]; done)), H', ⟨by have := HJ4.out; have := HK2.out; have := HK3.out; have := HK4.out; omega⟩, ⟨by (with_reducible repeat (first | refine blk_drewN ?_ _ | refine blk_drew ?_ | refine blk_alloc ?_ _)); exact BK160.out⟩, ⟨by (with_reducible repeat (first | refine blk_drewN ?_ _ | refine blk_drew ?_ | refine blk_alloc ?_ _)); exact BK162.out⟩, ⟨by repeat (first | (with_reducible first | exact HB.out | apply below_alloc | apply pw_below_drewN | apply below_drew1 | refine below_set ?_ GE160.out | refine below_set ?_ GE162.out) | exact HB.out)⟩⟩
                                  · rw [if_neg c41] at H
                                    exact absurd H (by simp)
                                · rw [if_neg c40] at H
                                  exact absurd H (by simp)
                              · rw [if_neg c39] at H
                                have c39b0 : decide (x9_4 < a1) = false := decide_eq_false c39
                                clear c39
                                have H' := Aside0.mk H
                                clear H
                                go_wp2
                                go_roundg k4
                                case measure => have := HJ4.out; have := HK2.out; have := HK3.out; have := HK4.out; omega
                                case rel => exact ⟨(IntKind.u64.wrap (x8_3 + 4096)), (by first | rfl | (simp; done) | (simp [*]; done)), H', ⟨by have := HJ4.out; have := HK2.out; have := HK3.out; have := HK4.out; omega⟩, ⟨by (with_reducible repeat (first | refine blk_drewN ?_ _ | refine blk_drew ?_ | refine blk_alloc ?_ _)); exact BK160.out⟩, ⟨by (with_reducible repeat (first | refine blk_drewN ?_ _ | refine blk_drew ?_ | refine blk_alloc ?_ _)); exact BK162.out⟩, ⟨by repeat (first | (with_reducible first | exact HB.out | apply below_alloc | apply pw_below_drewN | apply below_drew1 | refine below_set ?_ GE160.out | refine below_set ?_ GE162.out) | exact HB.out)⟩⟩
                        · rw [if_neg c36] at H
                          have c36b0 : decide (x8_3 < ((rd_T53 l0_2 a1).f1)) = false := decide_eq_false c36
                          clear c36
                          obtain rfl := Option.some.inj H
                          have hnb48 := NB162_160.out
                          have hnc48 := NB160_162.out
                          have hcz49_0 : wr.cell? ⟨gb162, 0, none⟩ = some (.int .u64 ((rd_T53 l0_2 a1).f0)) := (blk_cell BK162.out 0).trans rfl
                          have hcz49_1 : wr.cell? ⟨gb162, 1, none⟩ = some (.int .u64 ((rd_T53 l0_2 a1).f1)) := (blk_cell BK162.out 1).trans rfl
                          have hfz49_0 := blk_frozen BK162.out 0
                          have hfz49_1 := blk_frozen BK162.out 1
                          go_wp2
                          go_ret
                          exact ⟨by first | rfl | (simp [errW_none, errW_some] <;> rfl) | (simp [*, errW_none, errW_some] <;> rfl), by repeat (first | (with_reducible first | exact HB.out | apply below_alloc | apply pw_below_drewN | apply below_drew1 | refine below_set ?_ GE160.out | refine below_set ?_ GE162.out) | exact HB.out)⟩
            · rw [if_neg c20] at H
              have c20b0 : ((Int.tmod ((rd_T53 l0_2 a1).f0) 4096) == 0) = false := beq_eq_false_iff_ne.mpr c20
              have c20b1 : ((Int.tmod ((rd_T53 l0_2 a1).f0) 4096) != 0) = true := bne_iff_ne.mpr c20
              obtain rfl := Option.some.inj H
              have hnb50 := NB162_160.out
              have hnc50 := NB160_162.out
              have hcz51_0 : wc.cell? ⟨gb162, 0, none⟩ = some (.int .u64 ((rd_T53 l0_2 a1).f0)) := (blk_cell BK162.out 0).trans rfl
              have hcz51_1 : wc.cell? ⟨gb162, 1, none⟩ = some (.int .u64 ((rd_T53 l0_2 a1).f1)) := (blk_cell BK162.out 1).trans rfl
              have hfz51_0 := blk_frozen BK162.out 0
              have hfz51_1 := blk_frozen BK162.out 1
              go_wp2
              go_ret
              exact ⟨by first | rfl | (simp [errW_none, errW_some] <;> rfl) | (simp [*, errW_none, errW_some] <;> rfl), by repeat (first | (with_reducible first | exact HB.out | apply below_alloc | apply pw_below_drewN | apply below_drew1 | refine below_set ?_ GE160.out | refine below_set ?_ GE162.out) | exact HB.out)⟩
    · rw [if_neg c4] at H
      exact absurd H (by simp)
  · rw [if_neg c3] at H
    exact absurd H (by simp)

end Go.Proofs.Ytacgjgmladbgeaa.PConfPlaces

/-
  The statement ConfApart, as lists and numbers: at every configuration and every address it answers true. Conditions: the numbers are of their kinds.
-/
import Derived.Test.YtacgjgmladbgeaaPConfApartx5
import Derived.Test.YtacgjgmladbgeaaConfM
import Derived.Test.YtacgjgmladbgeaaConfL
import Derived.Test.YtacgjgmladbgeaaOpen
import Derived.Lib.Hide
import Derived.Lib.SmallJoins
namespace Go.Proofs.Ytacgjgmladbgeaa.PConfApart
open Go Go.RowKit Go.Proofs.YtacgjgmladbgeaaW.PrintWords Go.Proofs.YtacgjgmladbgeaaW.PrintLast Go.Proofs.YtacgjgmladbgeaaW.PrintMore
set_option linter.unusedVariables false
set_option linter.unusedSimpArgs false

/-! ### ConfApart, plainly -/
theorem whose_f {gs : GL} (ok : okL gs) (ram slice a : Nat) (hr : ram < 18446744073709551616) (hs : slice < 18446744073709551616) (ha : a < 18446744073709551616) (hl : gs.length ≤ 100) :
    conf_Whose.f (ram : Int) (slice : Int) gs (a : Int) = some (whoseP ram slice gs (a : Int)) := by
  have f : ∀ n : Nat, n < 18446744073709551616 → fit64 (n : Int) = true := fun n h => by unfold fit64; simp only [Bool.and_eq_true, decide_eq_true_eq]; omega
  have h2 : gs.all (fun g => fit64 g.f0 && fit64 g.f1) = true := ok
  unfold conf_Whose.f
  rw [if_pos (by simp only [f ram hr, f slice hs, f a ha, h2, decide_eq_true hl, Bool.and_self]), Int.toNat_natCast, Int.toNat_natCast]
/-- What is known of a guest of an accepted configuration. -/
theorem acc_at {gs : GL} (ok : okL gs) {ram slice : Nat} (h : (csOf ram slice gs).check.2 = 0) {i : Nat} (hi : i < gs.length) : ∃ x y : Nat, gs[i] = ⟨(x : Int), (y : Int)⟩ ∧ rd_T53 gs (i : Int) = ⟨(x : Int), (y : Int)⟩ ∧ 0 < y ∧ y ≤ 2097152 ∧ 2148532224 ≤ x ∧ x + y ≤ 2147483648 + ram ∧ ram ≤ 67108864 := by
  obtain ⟨_, hr, _, _, _, hb⟩ := check_zero h
  have bi := hb i hi
  obtain ⟨u, v, f1, _, _, f2, f3⟩ := ok.get hi
  unfold CS.barAt csOf at bi
  simp only at bi
  rw [List.getD_eq_getElem?_getD, f2, Option.getD_some] at bi
  obtain ⟨b1, b2, _, _, b5, b6, _⟩ := CG.bars_zero bi
  exact ⟨u, v, f1, f3, b1, b2, b5, b6, hr⟩
theorem has_iff (x y a : Nat) (ha : a < 18446744073709551616) : hasI ⟨(x : Int), (y : Int)⟩ (a : Int) = true ↔ x ≤ a ∧ a < x + y := by
  rw [hasI_nat x y a ha]
  unfold CG.has
  simp only [Bool.and_eq_true, decide_eq_true_eq]
theorem whose_at {gs : GL} (ok : okL gs) {ram slice : Nat} (h : (csOf ram slice gs).check.2 = 0) (a : Nat) (ha : a < 18446744073709551616) {i : Nat} (hi : i < gs.length) (hh : hasI gs[i] (a : Int) = true) : whoseP ram slice gs (a : Int) = (i : Int) := by
  unfold whoseP
  rw [if_pos h]
  unfold firstIn
  cases hf : (List.finRange gs.length).find? fun j => hasI gs[j.val] (a : Int) with
  | none => exact absurd hh (List.find?_eq_none.1 hf ⟨i, hi⟩ (List.mem_finRange _))
  | some j =>
    have h1 := List.find?_some hf
    have h2 := one_has ok ram slice h a ha j ⟨i, hi⟩ h1 hh
    rw [h2]
    rfl
theorem whose_none {gs : GL} {ram slice : Nat} (h : (csOf ram slice gs).check.2 = 0) (a : Nat) (hh : ∀ i (hi : i < gs.length), hasI gs[i] (a : Int) = false) : whoseP ram slice gs (a : Int) = -1 := by
  unfold whoseP
  rw [if_pos h]
  unfold firstIn
  have : (List.finRange gs.length).find? (fun j => hasI gs[j.val] (a : Int)) = none := List.find?_eq_none.2 fun j _ => by rw [hh j.val j.isLt]; decide
  rw [this]
  rfl
theorem whose_has {gs : GL} {ram slice : Nat} (h : (csOf ram slice gs).check.2 = 0) (a : Nat) {i : Nat} (hi : i < gs.length) (hw : whoseP ram slice gs (a : Int) = (i : Int)) : hasI gs[i] (a : Int) = true := by
  unfold whoseP at hw
  rw [if_pos h] at hw
  unfold firstIn at hw
  cases hf : (List.finRange gs.length).find? fun j => hasI gs[j.val] (a : Int) with
  | none => rw [hf] at hw; have h2 : (-1 : Int) = (i : Int) := hw; omega
  | some j =>
    rw [hf] at hw
    have h1 := List.find?_some hf
    have h2 : j.val = i := by unfold idxOf at hw; simp only at hw; omega
    subst h2
    exact h1
def sumI : GL → Int
  | [] => 0
  | g :: l => g.f1 + sumI l
theorem sum_drop {gs : GL} {i : Nat} (hi : i < gs.length) : sumI (gs.drop i) = (gs[i]).f1 + sumI (gs.drop (i + 1)) := by
  rw [List.drop_eq_getElem_cons hi]
  rfl
theorem wrap_add (X y : Int) : IntKind.u64.wrap (IntKind.u64.wrap X + y) = IntKind.u64.wrap (X + y) := by rw [IntKind.wrap_u64, IntKind.wrap_u64, IntKind.wrap_u64]; omega
theorem wrap_sub (X y : Int) : IntKind.u64.wrap (IntKind.u64.wrap X - y) = IntKind.u64.wrap (X - y) := by rw [IntKind.wrap_u64, IntKind.wrap_u64, IntKind.wrap_u64]; omega
theorem free_loop {gs : GL} (h8 : gs.length ≤ 8) : ∀ (r i : Nat) (X : Int), i + r = gs.length → Ev (fun k => conf_Free.l0 k (IntKind.u64.wrap X) gs (gs.length : Int) (i : Int)) (IntKind.u64.wrap (X - sumI (gs.drop i)))
  | 0, i, X, e => by
    refine Ev.step (fun k => conf_Free.l0.eq_2 ..) ?_
    simp only [if_neg (show ¬ (i : Int) < (gs.length : Int) by omega)]
    have : gs.drop i = [] := List.drop_eq_nil_of_le (by omega)
    rw [this]
    have e0 : X - sumI [] = X := by unfold sumI; omega
    rw [e0]
    exact Ev.now _
  | r + 1, i, X, e => by
    refine Ev.step (fun k => conf_Free.l0.eq_2 ..) ?_
    have hi : i < gs.length := by omega
    have e1 : (rd_T53 gs (i : Int)).f1 = (gs[i]).f1 := by
      unfold rd_T53
      rw [Int.toNat_natCast, List.getD_eq_getElem?_getD, List.getElem?_eq_getElem hi]
      rfl
    simp only [if_pos (show (i : Int) < (gs.length : Int) by omega), if_pos (show (0 : Int) ≤ (i : Int) by omega), wrap_sub, wrap64_up i (by omega), e1]
    rw [sum_drop hi]
    have h := free_loop h8 r (i + 1) (X - (gs[i]).f1) (by omega)
    rw [show X - (gs[i]).f1 - sumI (gs.drop (i + 1)) = X - ((gs[i]).f1 + sumI (gs.drop (i + 1))) by omega] at h
    exact h
/-- What the law keeps of the address: the number of the one guest that held it, so far. -/
def InvA (gs : GL) (a : Nat) (i : Nat) (z : Int) : Prop := (z = -1 ∧ ∀ j (hj : j < gs.length), j < i → hasI gs[j] (a : Int) = false) ∨ ∃ j, ∃ hj : j < gs.length, j < i ∧ z = (j : Int) ∧ hasI gs[j] (a : Int) = true
theorem apart_loop {gs : GL} (ok : okL gs) (ram slice a : Nat) (hs : slice < 18446744073709551616) (ha : a < 18446744073709551616) (h : (csOf ram slice gs).check.2 = 0) : ∀ (r i : Nat) (z X : Int), i + r = gs.length → InvA gs a i z → X = (ram : Int) - sumI (gs.drop i) →
    Ev (fun k => mezzaninelaw25_ConfApart.l0 k (a : Int) (-1) (IntKind.u64.wrap X) z (i : Int) (ram : Int) (slice : Int) gs) true
  | 0, i, z, X, e, hv, hX => by
    obtain ⟨_, hr, _, h8, _⟩ := check_zero h
    refine Ev.step (fun k => mezzaninelaw25_ConfApart.l0.eq_2 ..) ?_
    have hd : gs.drop i = [] := List.drop_eq_nil_of_le (by omega)
    have hx : IntKind.u64.wrap X = (ram : Int) := by rw [hX, hd]; unfold sumI; rw [IntKind.wrap_u64]; omega
    have hw : whoseP ram slice gs (a : Int) = z := by
      rcases hv with ⟨rfl, hn⟩ | ⟨j, hj, _, rfl, hh⟩
      · exact whose_none h a fun j hj => hn j hj (by omega)
      · exact whose_at ok h a ha hj hh
    simp only [if_neg (show ¬ (i : Int) < (gs.length : Int) by omega), if_true, hx, whose_f ok ram slice a (by omega) hs ha (by omega), Option.bind_some, hw, beq_self_eq_true]
    exact Ev.now _
  | r + 1, i, z, X, e, hv, hX => by
    obtain ⟨_, hr, _, h8, _⟩ := check_zero h
    have hi : i < gs.length := by omega
    obtain ⟨x, y, e1, e2, y0, y1, x0, x1, _⟩ := acc_at ok h hi
    have wf := fun b hb => whose_f ok ram slice b (by omega) hs hb (show gs.length ≤ 100 by omega)
    have w1 : whoseP ram slice gs (x : Int) = (i : Int) := whose_at ok h x (by omega) hi (by rw [e1, has_iff _ _ _ (by omega)]; omega)
    have w2 : whoseP ram slice gs ((x + y - 1 : Nat) : Int) = (i : Int) := whose_at ok h _ (by omega) hi (by rw [e1, has_iff _ _ _ (by omega)]; omega)
    have w3 : ¬ whoseP ram slice gs ((x - 1 : Nat) : Int) = (i : Int) := fun q => by
      have := whose_has h _ hi q
      rw [e1, has_iff _ _ _ (by omega)] at this
      omega
    have w4 : ¬ whoseP ram slice gs ((x + y : Nat) : Int) = (i : Int) := fun q => by
      have := whose_has h _ hi q
      rw [e1, has_iff _ _ _ (by omega)] at this
      omega
    have q1 : IntKind.u64.wrap ((x : Int) + (y : Int)) = ((x + y : Nat) : Int) := by rw [IntKind.wrap_u64]; omega
    have q2 : IntKind.u64.wrap (((x + y : Nat) : Int) - 1) = ((x + y - 1 : Nat) : Int) := by rw [IntKind.wrap_u64]; omega
    have q3 : IntKind.u64.wrap ((x : Int) - 1) = ((x - 1 : Nat) : Int) := by rw [IntKind.wrap_u64]; omega
    have q4 : IntKind.u64.wrap (2147483648 + (ram : Int)) = ((2147483648 + ram : Nat) : Int) := by rw [IntKind.wrap_u64]; omega
    have q5 : decide (((x + y : Nat) : Int) > ((2147483648 + ram : Nat) : Int)) = false := decide_eq_false (by omega)
    refine Ev.step (fun k => mezzaninelaw25_ConfApart.l0.eq_2 ..) ?_
    simp only [if_pos (show (i : Int) < (gs.length : Int) by omega), if_pos (show (0 : Int) ≤ (i : Int) by omega), e2, q1, q2, q3, q4, q5, wf x (by omega), wf (x + y - 1) (by omega), wf (x - 1) (by omega), wf (x + y) (by omega), Option.bind_some, w1, w2, if_true, if_neg w3, if_neg w4, if_neg (show ¬ (x : Int) < 2148532224 by omega), wrap_add]
    refine Ev.step (fun k => mezzaninelaw25_ConfApart.j1.eq_2 ..) ?_
    have hX2 : X + (y : Int) = (ram : Int) - sumI (gs.drop (i + 1)) := by rw [hX, sum_drop hi, e1]; show (ram : Int) - ((y : Int) + _) + (y : Int) = _; omega
    have hone : hasI gs[i] (a : Int) = true ↔ IntKind.u64.wrap ((a : Int) - (x : Int)) < (y : Int) := by
      rw [e1, has_iff _ _ _ ha, IntKind.wrap_u64]
      omega
    simp only [Bool.false_eq_true, if_false]
    by_cases hh : hasI gs[i] (a : Int) = true
    · have hz : z = -1 := by
        rcases hv with ⟨hz, _⟩ | ⟨j, hj, hji, _, hh2⟩
        · exact hz
        · have := one_has ok ram slice h a ha ⟨j, hj⟩ ⟨i, hi⟩ hh2 hh
          have : j = i := congrArg Fin.val this
          omega
      simp only [if_pos (hone.1 hh), if_neg (show ¬ z ≥ 0 by omega), wrap64_up i (by omega)]
      exact apart_loop ok ram slice a hs ha h r (i + 1) (i : Int) (X + (y : Int)) (by omega) (.inr ⟨i, hi, by omega, rfl, hh⟩) hX2
    · simp only [if_neg (fun q => hh (hone.2 q)), wrap64_up i (by omega)]
      refine apart_loop ok ram slice a hs ha h r (i + 1) z (X + (y : Int)) (by omega) ?_ hX2
      rcases hv with ⟨hz, hn⟩ | ⟨j, hj, hji, hz, hh2⟩
      · refine .inl ⟨hz, fun j hj hji => ?_⟩
        by_cases q : j = i
        · subst q; exact Bool.eq_false_iff.2 hh
        · exact hn j hj (by omega)
      · exact .inr ⟨j, hj, by omega, hz, hh2⟩
theorem free_f {gs : GL} (ok : okL gs) (ram slice : Nat) (hr : ram < 18446744073709551616) : Ev (fun k => conf_Free.f k (ram : Int) (slice : Int) gs) (if (csOf ram slice gs).check.2 = 0 then IntKind.u64.wrap ((ram : Int) - 1048576 - sumI gs) else 0) := by
  unfold conf_Free.f
  refine Ev.bind (accepted_conf ok ram slice hr) ?_
  by_cases h : (csOf ram slice gs).check.2 = 0
  · obtain ⟨_, _, _, h8, _⟩ := check_zero h
    simp only [decide_eq_true h, if_true, if_pos h]
    have := free_loop h8 gs.length 0 ((ram : Int) - 1048576) (by omega)
    rw [List.drop_zero] at this
    exact this
  · simp only [decide_eq_false h, Bool.false_eq_true, if_false, if_neg h]
    exact Ev.now _
theorem check_bounds (ram slice : Nat) (gs : GL) : (csOf ram slice gs).check.1 ≥ -1 ∧ ((csOf ram slice gs).check.2 ≠ 0 → (csOf ram slice gs).check.1 < (gs.length : Int)) ∧ ((csOf ram slice gs).check.2 = 0 → (csOf ram slice gs).check.1 = -1) := by
  have hlen : (csOf ram slice gs).gs.length = gs.length := List.length_map ..
  unfold CS.check
  split
  · exact ⟨by simp, fun _ => by simp; omega, fun h => by simp at h⟩
  · split
    · exact ⟨by simp, fun _ => by simp; omega, fun h => by simp at h⟩
    · split
      · exact ⟨by simp, fun _ => by simp; omega, fun h => by simp at h⟩
      · cases hs : scanQ (csOf ram slice gs).barAt 0 (csOf ram slice gs).gs.length with
        | none => exact ⟨by simp, fun h => absurd rfl h, fun _ => rfl⟩
        | some p =>
          obtain ⟨m, e⟩ := p
          obtain ⟨_, q2, q3, q4⟩ := scanQ_some _ _ hs
          exact ⟨by simp only; omega, fun _ => by simp only; omega, fun h => absurd h q4⟩
theorem awake25_at : mezzaninelaw25_awake.f 12 = some true := by kernel_rfl
theorem awake25_true : Ev (fun k => mezzaninelaw25_awake.f k) true := Ev.of (fun k => mezzaninelaw25_awake.mono k) awake25_at
theorem ConfApart_pure (ram slice : Nat) (gs : GL) (a : Nat) (hr : ram < 18446744073709551616) (hs : slice < 18446744073709551616) (ha : a < 18446744073709551616) (ok : okL gs) : ∃ k, mezzaninelaw25_ConfApart.f k (ram : Int) (slice : Int) gs (a : Int) = some true := by
  refine Ev.rounds ?_
  unfold mezzaninelaw25_ConfApart.f
  refine Ev.bind awake25_true ?_
  simp only [if_true]
  by_cases hl : gs.length ≤ 100
  · simp only [if_neg (show ¬ (gs.length : Int) > 100 by omega)]
    have hc := check_conf ok ram slice hr
    have hf := free_f ok ram slice hr
    have hw : (csOf ram slice gs).check.2 ≠ 0 → whoseP ram slice gs (a : Int) = -1 := fun h => by unfold whoseP; rw [if_neg h]
    have hwf := whose_f ok ram slice a hr hs ha hl
    have hL := fun h hX => apart_loop ok ram slice a hs ha h gs.length 0 (-1) ((ram : Int) - 1048576 - sumI gs + 1048576) (by omega) (.inl ⟨rfl, fun j _ hj => by omega⟩) hX
    obtain ⟨b1, b2, b3⟩ := check_bounds ram slice gs
    obtain ⟨m, hm⟩ : ∃ m, m = (csOf ram slice gs).check.1 := ⟨_, rfl⟩
    obtain ⟨e, he⟩ : ∃ e, e = (csOf ram slice gs).check.2 := ⟨_, rfl⟩
    obtain ⟨z, hz⟩ : ∃ z, z = whoseP ram slice gs (a : Int) := ⟨_, rfl⟩
    rw [← hz] at hw hwf
    rw [← he] at hc hf hw hL b2 b3
    rw [← hm] at hc b1 b2 b3
    clear hm he hz
    refine Ev.bind hc ?_
    by_cases h : e = 0
    · subst h
      rw [b3 rfl]
      rw [if_pos rfl] at hf
      simp only [if_pos (show ((0 : Nat) : Int) = 0 from rfl)]
      refine Ev.bind hf ?_
      rw [wrap_add]
      exact hL rfl (by rw [List.drop_zero]; omega)
    · rw [if_neg h] at hf
      rw [hw h] at hwf
      simp only [if_neg (show ¬ (e : Int) = 0 by omega), if_pos (b2 h), if_pos b1]
      refine Ev.bind (show Ev (fun _ : Nat => conf_Whose.f (ram : Int) (slice : Int) gs (a : Int)) (-1) from ⟨0, fun _ _ => hwf⟩) ?_
      simp only [if_true]
      refine Ev.bind hf ?_
      simp only [beq_self_eq_true]
      exact Ev.now _
  · simp only [if_pos (show (gs.length : Int) > 100 by omega)]
    exact Ev.now _
/-! ### A configuration that came in -/
theorem guests_of_rows : ∀ rows : List (List Value), (∀ r ∈ rows, WFits r [some .u64, some .u64]) → ∃ gs : GL, gs.length = rows.length ∧ okL gs ∧ rows.flatten = gs.flatMap (fun g => [.int .u64 g.f0, .int .u64 g.f1])
  | [], _ => ⟨[], rfl, rfl, rfl⟩
  | r :: rows, h => by
    obtain ⟨gs, h1, h2, h3⟩ := guests_of_rows rows (fun r hr => h r (List.mem_cons_of_mem _ hr))
    have hr := h r (List.mem_cons_self ..)
    obtain ⟨a, _, rfl, ha, hr⟩ := hr.int
    obtain ⟨b, _, rfl, hb, hr⟩ := hr.int
    obtain rfl := hr.nil
    obtain ⟨x, rfl, hx⟩ := nat_u64 ha
    obtain ⟨y, rfl, hy⟩ := nat_u64 hb
    have f1 : fit64 (x : Int) = true := by unfold fit64; simp only [Bool.and_eq_true, decide_eq_true_eq]; omega
    have f2 : fit64 (y : Int) = true := by unfold fit64; simp only [Bool.and_eq_true, decide_eq_true_eq]; omega
    refine ⟨⟨(x : Int), (y : Int)⟩ :: gs, by simp [h1], ?_, ?_⟩
    · unfold okL at h2 ⊢
      rw [List.all_cons, f1, f2, h2]
      rfl
    · rw [List.flatten_cons, List.flatMap_cons, h3]
theorem flat_at : ∀ (gs : GL) (j : Nat) (g : S53), gs[j]? = some g → ∀ i u, ([.int .u64 g.f0, .int .u64 g.f1] : List Value)[i]? = some u → (gs.flatMap (fun g => ([.int .u64 g.f0, .int .u64 g.f1] : List Value)))[j * 2 + i]? = some u
  | [], j, g, h, _, _, _ => by simp at h
  | y :: gs, 0, g, h, i, u, hu => by
    simp at h
    subst h
    have hi : i < 2 := by have := (List.getElem?_eq_some_iff.1 hu).1; simpa using this
    simp only [List.flatMap_cons]
    rw [Nat.zero_mul, Nat.zero_add, List.getElem?_append_left (by simpa using hi)]
    exact hu
  | y :: gs, j + 1, g, h, i, u, hu => by
    simp only [List.flatMap_cons]
    rw [List.getElem?_append_right (by simp; omega)]
    have := flat_at gs j g (by simpa using h) i u hu
    rw [← this]
    congr 1
    simp
    omega
theorem guests_of_rd {W : World} {v : Value} {gs : GL} (h : Rd W v gs.length (gs.flatMap (fun g => [.int .u64 g.f0, .int .u64 g.f1]))) : ∃ A c, v = .slice A gs.length c ∧ Kd.C k53 W A gs.length gs ∧ gs.length ≤ c := by
  obtain ⟨A, c, rfl, h1, h2, h3, h4⟩ := h
  refine ⟨A, c, rfl, ⟨rfl, by unfold maxLen at h2; omega, fun hpos => ?_⟩, h1⟩
  cases A with
  | none => have := (h3 rfl).1; omega
  | some ad => exact ⟨ad, rfl, fun j p hp => ⟨[.int .u64 p.f0, .int .u64 p.f1], rfl, k53_mk W p, fun i u hu => h4 ad rfl _ u (flat_at gs j p hp i u hu)⟩⟩
theorem open_config {H : Type} {enc : TypeId × Value → H} {W : World} {r : Reach} {b0 : Nat} {v : Value} {d : DataW H} {ps : List MemPlace} (hv : Value.okWide Try.prog W r b0 25 v) (h : DataW.Trod enc Try.prog W 0 (fun _ => true) true 25 v d ps) :
    ∃ (ram slice : Nat) (A : Option Addr) (c : Nat) (gs : GL), v = .agg #[.int .u64 (ram : Int), .int .u64 (slice : Int), .slice A gs.length c] ∧ ram < 18446744073709551616 ∧ slice < 18446744073709551616 ∧ Kd.C k53 W A gs.length gs ∧ gs.length ≤ c ∧ okL gs := by
  obtain ⟨c0, c1, c2, y0, y1, y2, m, rfl, _, _, hy0, hy1, hy2⟩ := Joins.open_agg3 Try.underlying25 (by kernel_rfl) (by kernel_rfl) hv h
  obtain ⟨n0, e0, _, w0⟩ := DataW.trod_int Try.underlying22 hy0
  obtain ⟨n1, e1, _, w1⟩ := DataW.trod_int Try.underlying22 hy1
  obtain rfl := (List.cons.inj e0).1
  obtain rfl := (List.cons.inj e1).1
  obtain ⟨ram, rfl, hr⟩ := nat_u64 w0
  obtain ⟨slice, rfl, hs⟩ := nat_u64 w1
  have hsl : ∃ a l c, c2 = .slice a l c := by
    rcases Deep.open_slice Try.underlying23 hy2 with ⟨hcs, _⟩ | ⟨a, len, cap, _, _, _, _, hcs, _⟩
    · exact ⟨_, _, _, (List.cons.inj hcs).1⟩
    · exact ⟨_, _, _, (List.cons.inj hcs).1⟩
  obtain ⟨a, l, c, rfl⟩ := hsl
  obtain ⟨rows, hr0, hw0⟩ := open_rows 3 Try.underlying23 (e := 53) (by kernel_rfl) ⟨a, l, c, rfl⟩ ⟨m, hy2⟩
  rw [show kindsOf Try.prog 3 53 = [some .u64, some .u64] from by kernel_rfl] at hw0
  obtain ⟨gs, h1, h2, h3⟩ := guests_of_rows rows hw0
  rw [h3, ← h1] at hr0
  obtain ⟨A, c', e2, h4, h5⟩ := guests_of_rd hr0
  exact ⟨ram, slice, A, c', gs, by rw [e2], hr, hs, h4, h5, h2⟩
end Go.Proofs.Ytacgjgmladbgeaa.PConfApart

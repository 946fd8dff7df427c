/-
  The statement ConfTurned, walked: at every configuration and any two numbers it answers true. Conditions: the numbers are of their kinds.
-/
import Derived.Test.YtacgjgmladbgeaaPConfApartx4
import Derived.Test.YtacgjgmladbgeaaConfM
import Derived.Test.YtacgjgmladbgeaaConfL
import Derived.Test.YtacgjgmladbgeaaOpen
import Derived.Test.YtacgjgmladbgeaaEq
import Derived.Test.YtacgjgmladbgeaaTk
import Derived.Lib.Hide
import Derived.Lib.SmallJoins
namespace Go.Proofs.Ytacgjgmladbgeaa.PConfApart
open Go Go.RowKit Go.Proofs.YtacgjgmladbgeaaW.PrintWords Go.Proofs.YtacgjgmladbgeaaW.PrintLast Go.Proofs.YtacgjgmladbgeaaW.PrintMore
set_option linter.unusedVariables false
set_option linter.unusedSimpArgs false

/-! ### A configuration that came in -/
theorem guests_of_rows : ∀ rows : List (List Value), (∀ r ∈ rows, WFits r [some .u64, some .u64]) → ∃ gs : GL, gs.length = rows.length ∧ okL gs ∧ rows.flatten = gs.flatMap (fun g => [.int .u64 g.f0, .int .u64 g.f1])
  | [], _ => ⟨[], rfl, rfl, rfl⟩
  | r :: rows, h => by
    obtain ⟨gs, h1, h2, h3⟩ := guests_of_rows rows (fun r hr => h r (List.mem_cons_of_mem _ hr))
    have hr := h r (List.mem_cons_self ..)
    obtain ⟨a, _, rfl, ha, hr⟩ := hr.int
    obtain ⟨b, _, rfl, hb, hr⟩ := hr.int
    obtain rfl := hr.nil
    obtain ⟨x, rfl, hx⟩ := nat_u64 ha
    obtain ⟨y, rfl, hy⟩ := nat_u64 hb
    have f1 : fit64 (x : Int) = true := by unfold fit64; simp only [Bool.and_eq_true, decide_eq_true_eq]; omega
    have f2 : fit64 (y : Int) = true := by unfold fit64; simp only [Bool.and_eq_true, decide_eq_true_eq]; omega
    refine ⟨⟨(x : Int), (y : Int)⟩ :: gs, by simp [h1], ?_, ?_⟩
    · unfold okL at h2 ⊢
      rw [List.all_cons, f1, f2, h2]
      rfl
    · rw [List.flatten_cons, List.flatMap_cons, h3]
theorem flat_at : ∀ (gs : GL) (j : Nat) (g : S53), gs[j]? = some g → ∀ i u, ([.int .u64 g.f0, .int .u64 g.f1] : List Value)[i]? = some u → (gs.flatMap (fun g => ([.int .u64 g.f0, .int .u64 g.f1] : List Value)))[j * 2 + i]? = some u
  | [], j, g, h, _, _, _ => by simp at h
  | y :: gs, 0, g, h, i, u, hu => by
    simp at h
    subst h
    have hi : i < 2 := by have := (List.getElem?_eq_some_iff.1 hu).1; simpa using this
    simp only [List.flatMap_cons]
    rw [Nat.zero_mul, Nat.zero_add, List.getElem?_append_left (by simpa using hi)]
    exact hu
  | y :: gs, j + 1, g, h, i, u, hu => by
    simp only [List.flatMap_cons]
    rw [List.getElem?_append_right (by simp; omega)]
    have := flat_at gs j g (by simpa using h) i u hu
    rw [← this]
    congr 1
    simp
    omega
theorem guests_of_rd {W : World} {v : Value} {gs : GL} (h : Rd W v gs.length (gs.flatMap (fun g => [.int .u64 g.f0, .int .u64 g.f1]))) : ∃ A c, v = .slice A gs.length c ∧ Kd.C k53 W A gs.length gs ∧ gs.length ≤ c := by
  obtain ⟨A, c, rfl, h1, h2, h3, h4⟩ := h
  refine ⟨A, c, rfl, ⟨rfl, by unfold maxLen at h2; omega, fun hpos => ?_⟩, h1⟩
  cases A with
  | none => have := (h3 rfl).1; omega
  | some ad => exact ⟨ad, rfl, fun j p hp => ⟨[.int .u64 p.f0, .int .u64 p.f1], rfl, k53_mk W p, fun i u hu => h4 ad rfl _ u (flat_at gs j p hp i u hu)⟩⟩
theorem open_config {H : Type} {enc : TypeId × Value → H} {W : World} {r : Reach} {b0 : Nat} {v : Value} {d : DataW H} {ps : List MemPlace} (hv : Value.okWide Try.prog W r b0 25 v) (h : DataW.Trod enc Try.prog W 0 (fun _ => true) true 25 v d ps) :
    ∃ (ram slice : Nat) (A : Option Addr) (c : Nat) (gs : GL), v = .agg #[.int .u64 (ram : Int), .int .u64 (slice : Int), .slice A gs.length c] ∧ ram < 18446744073709551616 ∧ slice < 18446744073709551616 ∧ Kd.C k53 W A gs.length gs ∧ gs.length ≤ c ∧ okL gs := by
  obtain ⟨c0, c1, c2, y0, y1, y2, m, rfl, _, _, hy0, hy1, hy2⟩ := Joins.open_agg3 Try.underlying25 (by kernel_rfl) (by kernel_rfl) hv h
  obtain ⟨n0, e0, _, w0⟩ := DataW.trod_int Try.underlying22 hy0
  obtain ⟨n1, e1, _, w1⟩ := DataW.trod_int Try.underlying22 hy1
  obtain rfl := (List.cons.inj e0).1
  obtain rfl := (List.cons.inj e1).1
  obtain ⟨ram, rfl, hr⟩ := nat_u64 w0
  obtain ⟨slice, rfl, hs⟩ := nat_u64 w1
  have hsl : ∃ a l c, c2 = .slice a l c := by
    rcases Deep.open_slice Try.underlying23 hy2 with ⟨hcs, _⟩ | ⟨a, len, cap, _, _, _, _, hcs, _⟩
    · exact ⟨_, _, _, (List.cons.inj hcs).1⟩
    · exact ⟨_, _, _, (List.cons.inj hcs).1⟩
  obtain ⟨a, l, c, rfl⟩ := hsl
  obtain ⟨rows, hr0, hw0⟩ := open_rows 3 Try.underlying23 (e := 53) (by kernel_rfl) ⟨a, l, c, rfl⟩ ⟨m, hy2⟩
  rw [show kindsOf Try.prog 3 53 = [some .u64, some .u64] from by kernel_rfl] at hw0
  obtain ⟨gs, h1, h2, h3⟩ := guests_of_rows rows hw0
  rw [h3, ← h1] at hr0
  obtain ⟨A, c', e2, h4, h5⟩ := guests_of_rd hr0
  exact ⟨ram, slice, A, c', gs, by rw [e2], hr, hs, h4, h5, h2⟩
/-! ### Guests are compared; a copied row is a row of guests -/
theorem guest_eq_run (x y x' y' : Int) (w : World) : (binOp .eql 53 (.agg #[.int .u64 x, .int .u64 y]) (.agg #[.int .u64 x', .int .u64 y'])).run Try.prog w = .ok (.bool (x == x' && y == y')) w ∧
    (binOp .neq 53 (.agg #[.int .u64 x, .int .u64 y]) (.agg #[.int .u64 x', .int .u64 y'])).run Try.prog w = .ok (.bool (!(x == x' && y == y'))) w := by
  have h := run_eql_plain (P := Try.prog) w 5 53 [.int .u64 x, .int .u64 y] [.int .u64 x', .int .u64 y'] (by omega) (by kernel_rfl) (by rw [show kindsOf Try.prog 5 53 = [some .u64, some .u64] from by kernel_rfl]; simp [Fits]) (by rw [show kindsOf Try.prog 5 53 = [some .u64, some .u64] from by kernel_rfl]; simp [Fits]) ⟨_, .inl Try.underlying53⟩
  have e : cellsEq [.int .u64 x, .int .u64 y] [.int .u64 x', .int .u64 y'] = (x == x' && y == y') := by simp [cellsEq, cellEq]
  rw [e] at h
  exact h
theorem kd_of_own {W : World} {g o cap : Nat} {l : GL} {G : Nat → Prop} (h : Own W 53 2 (.slice (some ⟨g, o, none⟩) (l.length + 1) cap) (l.length + 1) (gcells l ++ [.int .u64 77, .int .u64 0]) G) : Kd.C k53 W (some ⟨g, o, none⟩) l.length l := by
  obtain ⟨g', o', c', hv, h1, h2, _, _, hcell, _⟩ := h.at_ (by omega)
  injection hv with e1 _ e3
  injection e1 with e1
  injection e1 with e1 e2 _
  subst e1 e2 e3
  have hrd : Rd W (.slice (some ⟨g, o, none⟩) l.length cap) l.length (gcells l) :=
    ⟨_, cap, rfl, by omega, by omega, fun h => (by cases h), fun ad had j u hu => by
      cases had
      rw [addr_add]
      exact hcell j u (by rw [List.getElem?_append_left (List.getElem?_eq_some_iff.1 hu).1]; exact hu)⟩
  obtain ⟨A, c, hA, hk, _⟩ := guests_of_rd hrd
  injection hA with q
  rw [q]
  exact hk
theorem func_not_nil (cb : Array Value) (W : World) : (binOp .eql 50 (.func (.func 42) #[] cb) .nilFunc).run Try.prog W = .ok (.bool false) W := by
  have hu := Try.underlying50
  have hm : Op.maxDepth = 9999 + 1 := rfl
  simp only [binOp, Op.equal]
  rw [hm]
  unfold Op.equalIn
  simp [hu]
/-! ### What the checks, what is free and whose an address is tell, plainly -/
theorem whose_f {gs : GL} (ok : okL gs) (ram slice a : Nat) (hr : ram < 18446744073709551616) (hs : slice < 18446744073709551616) (ha : a < 18446744073709551616) (hl : gs.length ≤ 100) :
    conf_Whose.f (ram : Int) (slice : Int) gs (a : Int) = some (whoseP ram slice gs (a : Int)) := by
  have f : ∀ n : Nat, n < 18446744073709551616 → fit64 (n : Int) = true := fun n h => by unfold fit64; simp only [Bool.and_eq_true, decide_eq_true_eq]; omega
  have h2 : gs.all (fun g => fit64 g.f0 && fit64 g.f1) = true := ok
  unfold conf_Whose.f
  rw [if_pos (by simp only [f ram hr, f slice hs, f a ha, h2, decide_eq_true hl, Bool.and_self]), Int.toNat_natCast, Int.toNat_natCast]
/-- What is known of a guest of an accepted configuration. -/
theorem acc_at {gs : GL} (ok : okL gs) {ram slice : Nat} (h : (csOf ram slice gs).check.2 = 0) {i : Nat} (hi : i < gs.length) : ∃ x y : Nat, gs[i] = ⟨(x : Int), (y : Int)⟩ ∧ rd_T53 gs (i : Int) = ⟨(x : Int), (y : Int)⟩ ∧ 0 < y ∧ y ≤ 2097152 ∧ 2148532224 ≤ x ∧ x + y ≤ 2147483648 + ram ∧ ram ≤ 67108864 := by
  obtain ⟨_, hr, _, _, _, hb⟩ := check_zero h
  have bi := hb i hi
  obtain ⟨u, v, f1, _, _, f2, f3⟩ := ok.get hi
  unfold CS.barAt csOf at bi
  simp only at bi
  rw [List.getD_eq_getElem?_getD, f2, Option.getD_some] at bi
  obtain ⟨b1, b2, _, _, b5, b6, _⟩ := CG.bars_zero bi
  exact ⟨u, v, f1, f3, b1, b2, b5, b6, hr⟩
theorem has_iff (x y a : Nat) (ha : a < 18446744073709551616) : hasI ⟨(x : Int), (y : Int)⟩ (a : Int) = true ↔ x ≤ a ∧ a < x + y := by
  rw [hasI_nat x y a ha]
  unfold CG.has
  simp only [Bool.and_eq_true, decide_eq_true_eq]
theorem whose_at {gs : GL} (ok : okL gs) {ram slice : Nat} (h : (csOf ram slice gs).check.2 = 0) (a : Nat) (ha : a < 18446744073709551616) {i : Nat} (hi : i < gs.length) (hh : hasI gs[i] (a : Int) = true) : whoseP ram slice gs (a : Int) = (i : Int) := by
  unfold whoseP
  rw [if_pos h]
  unfold firstIn
  cases hf : (List.finRange gs.length).find? fun j => hasI gs[j.val] (a : Int) with
  | none => exact absurd hh (List.find?_eq_none.1 hf ⟨i, hi⟩ (List.mem_finRange _))
  | some j =>
    have h1 := List.find?_some hf
    have h2 := one_has ok ram slice h a ha j ⟨i, hi⟩ h1 hh
    rw [h2]
    rfl
theorem whose_none {gs : GL} {ram slice : Nat} (h : (csOf ram slice gs).check.2 = 0) (a : Nat) (hh : ∀ i (hi : i < gs.length), hasI gs[i] (a : Int) = false) : whoseP ram slice gs (a : Int) = -1 := by
  unfold whoseP
  rw [if_pos h]
  unfold firstIn
  have : (List.finRange gs.length).find? (fun j => hasI gs[j.val] (a : Int)) = none := List.find?_eq_none.2 fun j _ => by rw [hh j.val j.isLt]; decide
  rw [this]
  rfl
theorem whose_has {gs : GL} {ram slice : Nat} (h : (csOf ram slice gs).check.2 = 0) (a : Nat) {i : Nat} (hi : i < gs.length) (hw : whoseP ram slice gs (a : Int) = (i : Int)) : hasI gs[i] (a : Int) = true := by
  unfold whoseP at hw
  rw [if_pos h] at hw
  unfold firstIn at hw
  cases hf : (List.finRange gs.length).find? fun j => hasI gs[j.val] (a : Int) with
  | none => rw [hf] at hw; have h2 : (-1 : Int) = (i : Int) := hw; omega
  | some j =>
    rw [hf] at hw
    have h1 := List.find?_some hf
    have h2 : j.val = i := by unfold idxOf at hw; simp only at hw; omega
    subst h2
    exact h1
def sumI : GL → Int
  | [] => 0
  | g :: l => g.f1 + sumI l
theorem sum_drop {gs : GL} {i : Nat} (hi : i < gs.length) : sumI (gs.drop i) = (gs[i]).f1 + sumI (gs.drop (i + 1)) := by
  rw [List.drop_eq_getElem_cons hi]
  rfl
theorem wrap_add (X y : Int) : IntKind.u64.wrap (IntKind.u64.wrap X + y) = IntKind.u64.wrap (X + y) := by rw [IntKind.wrap_u64, IntKind.wrap_u64, IntKind.wrap_u64]; omega
theorem wrap_sub (X y : Int) : IntKind.u64.wrap (IntKind.u64.wrap X - y) = IntKind.u64.wrap (X - y) := by rw [IntKind.wrap_u64, IntKind.wrap_u64, IntKind.wrap_u64]; omega
theorem free_loop {gs : GL} (h8 : gs.length ≤ 8) : ∀ (r i : Nat) (X : Int), i + r = gs.length → Ev (fun k => conf_Free.l0 k (IntKind.u64.wrap X) gs (gs.length : Int) (i : Int)) (IntKind.u64.wrap (X - sumI (gs.drop i)))
  | 0, i, X, e => by
    refine Ev.step (fun k => conf_Free.l0.eq_2 ..) ?_
    simp only [if_neg (show ¬ (i : Int) < (gs.length : Int) by omega)]
    have : gs.drop i = [] := List.drop_eq_nil_of_le (by omega)
    rw [this]
    have e0 : X - sumI [] = X := by unfold sumI; omega
    rw [e0]
    exact Ev.now _
  | r + 1, i, X, e => by
    refine Ev.step (fun k => conf_Free.l0.eq_2 ..) ?_
    have hi : i < gs.length := by omega
    have e1 : (rd_T53 gs (i : Int)).f1 = (gs[i]).f1 := by
      unfold rd_T53
      rw [Int.toNat_natCast, List.getD_eq_getElem?_getD, List.getElem?_eq_getElem hi]
      rfl
    simp only [if_pos (show (i : Int) < (gs.length : Int) by omega), if_pos (show (0 : Int) ≤ (i : Int) by omega), wrap_sub, wrap64_up i (by omega), e1]
    rw [sum_drop hi]
    have h := free_loop h8 r (i + 1) (X - (gs[i]).f1) (by omega)
    rw [show X - (gs[i]).f1 - sumI (gs.drop (i + 1)) = X - ((gs[i]).f1 + sumI (gs.drop (i + 1))) by omega] at h
    exact h
theorem free_f {gs : GL} (ok : okL gs) (ram slice : Nat) (hr : ram < 18446744073709551616) : Ev (fun k => conf_Free.f k (ram : Int) (slice : Int) gs) (if (csOf ram slice gs).check.2 = 0 then IntKind.u64.wrap ((ram : Int) - 1048576 - sumI gs) else 0) := by
  unfold conf_Free.f
  refine Ev.bind (accepted_conf ok ram slice hr) ?_
  by_cases h : (csOf ram slice gs).check.2 = 0
  · obtain ⟨_, _, _, h8, _⟩ := check_zero h
    simp only [decide_eq_true h, if_true, if_pos h]
    have := free_loop h8 gs.length 0 ((ram : Int) - 1048576) (by omega)
    rw [List.drop_zero] at this
    exact this
  · simp only [decide_eq_false h, Bool.false_eq_true, if_false, if_neg h]
    exact Ev.now _
theorem check_bounds (ram slice : Nat) (gs : GL) : (csOf ram slice gs).check.1 ≥ -1 ∧ ((csOf ram slice gs).check.2 ≠ 0 → (csOf ram slice gs).check.1 < (gs.length : Int)) ∧ ((csOf ram slice gs).check.2 = 0 → (csOf ram slice gs).check.1 = -1) := by
  have hlen : (csOf ram slice gs).gs.length = gs.length := List.length_map ..
  unfold CS.check
  split
  · exact ⟨by simp, fun _ => by simp; omega, fun h => by simp at h⟩
  · split
    · exact ⟨by simp, fun _ => by simp; omega, fun h => by simp at h⟩
    · split
      · exact ⟨by simp, fun _ => by simp; omega, fun h => by simp at h⟩
      · cases hs : scanQ (csOf ram slice gs).barAt 0 (csOf ram slice gs).gs.length with
        | none => exact ⟨by simp, fun h => absurd rfl h, fun _ => rfl⟩
        | some p =>
          obtain ⟨m, e⟩ := p
          obtain ⟨_, q2, q3, q4⟩ := scanQ_some _ _ hs
          exact ⟨by simp only; omega, fun _ => by simp only; omega, fun h => absurd h q4⟩
theorem awake25_at : mezzaninelaw25_awake.f 12 = some true := by kernel_rfl
theorem awake25_true : Ev (fun k => mezzaninelaw25_awake.f k) true := Ev.of (fun k => mezzaninelaw25_awake.mono k) awake25_at
/-! ### Configurations turned about, plainly -/
def ownOk (ram : Nat) (g : CG) : Prop := ¬ (g.size = 0 ∨ 2097152 < g.size ∨ g.size % 4096 ≠ 0) ∧ ¬ g.base % 4096 ≠ 0 ∧ g.lies ram = true
theorem bars_iff {ram : Nat} {others : List CG} {g : CG} : g.bars ram others = 0 ↔ ownOk ram g ∧ ∀ o ∈ others, g.meets o = false := by
  unfold CG.bars ownOk
  constructor
  · intro h
    split at h
    · omega
    · split at h
      · omega
      · split at h
        · omega
        · split at h
          · omega
          · rename_i h1 h2 h3 h4
            refine ⟨⟨h1, h2, by simpa using h3⟩, fun o ho => ?_⟩
            cases hm : g.meets o
            · rfl
            · exact absurd (List.any_eq_true.2 ⟨o, ho, hm⟩) h4
  · rintro ⟨⟨h1, h2, h3⟩, h4⟩
    rw [if_neg h1, if_neg h2, if_neg (by rw [h3]; decide), if_neg]
    intro h
    obtain ⟨o, ho, hm⟩ := List.any_eq_true.1 h
    rw [h4 o ho] at hm
    cases hm
theorem meets_symm (g o : CG) : g.meets o = o.meets g := by unfold CG.meets; rw [Bool.and_comm]
/-- Which configurations are accepted, without an order. -/
def CFit (ram slice : Nat) (gs : List CG) : Prop := (2097152 ≤ ram ∧ ram ≤ 67108864 ∧ ram % 4096 = 0 ∧ 0 < slice ∧ slice ≤ 4294967296 ∧ 0 < gs.length ∧ gs.length ≤ 8) ∧ (∀ g ∈ gs, ownOk ram g) ∧ gs.Pairwise fun o g => g.meets o = false
theorem check_fit (ram slice : Nat) (gs : GL) : (csOf ram slice gs).check.2 = 0 ↔ CFit ram slice (gs.map toCG) := by
  have h0 : (csOf ram slice gs).check.2 = 0 ↔ (csOf ram slice gs).accepted = true := by unfold CS.accepted; rw [decide_eq_true_eq]
  rw [h0, CS.accepted_iff]
  have e1 : (csOf ram slice gs).gs = gs.map toCG := rfl
  have e2 : (csOf ram slice gs).ram = ram := rfl
  have e3 : (csOf ram slice gs).slice = slice := rfl
  rw [e1, e2, e3]
  obtain ⟨cs, hcs⟩ : ∃ cs, cs = gs.map toCG := ⟨_, rfl⟩
  have hb : ∀ i (hi : i < cs.length), (csOf ram slice gs).barAt i = (cs[i]).bars ram (cs.take i) := fun i hi => by
    unfold CS.barAt
    rw [e1, e2, ← hcs, List.getD_eq_getElem?_getD, List.getElem?_eq_getElem hi, Option.getD_some]
  rw [← hcs]
  unfold CFit
  constructor
  · rintro ⟨a1, a2, a3, a4, a5, a6, a7, h⟩
    refine ⟨⟨a1, a2, a3, a4, a5, a6, a7⟩, fun g hg => ?_, ?_⟩
    · obtain ⟨i, hi, rfl⟩ := List.mem_iff_getElem.1 hg
      exact (bars_iff.1 ((hb i hi).symm.trans (h i hi))).1
    · rw [List.pairwise_iff_getElem]
      intro i j hi hj hij
      refine (bars_iff.1 ((hb j hj).symm.trans (h j hj))).2 _ ?_
      rw [List.mem_iff_getElem?]
      exact ⟨i, by rw [List.getElem?_take, if_pos hij, List.getElem?_eq_getElem hi]⟩
  · rintro ⟨⟨a1, a2, a3, a4, a5, a6, a7⟩, h1, h2⟩
    refine ⟨a1, a2, a3, a4, a5, a6, a7, fun j hj => ?_⟩
    rw [hb j hj, bars_iff]
    refine ⟨h1 _ (List.getElem_mem hj), fun o ho => ?_⟩
    obtain ⟨i, hi⟩ := List.mem_iff_getElem?.1 ho
    rw [List.getElem?_take] at hi
    split at hi
    · rename_i hij
      obtain ⟨hil, rfl⟩ := List.getElem?_eq_some_iff.1 hi
      exact List.pairwise_iff_getElem.1 h2 i j hil hj hij
    · cases hi
theorem Fit.perm {ram slice : Nat} {gs hs : List CG} (h : gs.Perm hs) : CFit ram slice gs → CFit ram slice hs := by
  rintro ⟨⟨a1, a2, a3, a4, a5, a6, a7⟩, h1, h2⟩
  refine ⟨⟨a1, a2, a3, a4, a5, by rw [← h.length_eq]; exact a6, by rw [← h.length_eq]; exact a7⟩, fun g hg => h1 g (h.symm.subset hg), ?_⟩
  exact (h.pairwise_iff (fun {x y} hxy => by rw [meets_symm]; exact hxy)).1 h2
/-- The two guests turned about. -/
def turnedL (l : GL) (i k : Nat) (hi : i < l.length) (hk : k < l.length) : GL := (l.set i l[k]).set k l[i]
theorem turned_perm (l : GL) (i k : Nat) (hi : i < l.length) (hk : k < l.length) : (turnedL l i k hi hk).Perm l := List.set_set_perm hi hk
theorem turned_len (l : GL) (i k : Nat) (hi : i < l.length) (hk : k < l.length) : (turnedL l i k hi hk).length = l.length := by unfold turnedL; simp
theorem turned_ok {l : GL} (ok : okL l) (i k : Nat) (hi : i < l.length) (hk : k < l.length) : okL (turnedL l i k hi hk) :=
  List.all_eq_true.2 fun g hg => List.all_eq_true.1 ok g ((turned_perm l i k hi hk).subset hg)
theorem turned_check (l : GL) (ram slice i k : Nat) (hi : i < l.length) (hk : k < l.length) : (csOf ram slice (turnedL l i k hi hk)).check.2 = 0 ↔ (csOf ram slice l).check.2 = 0 := by
  rw [check_fit, check_fit]
  have h := (turned_perm l i k hi hk).map toCG
  exact ⟨Fit.perm h, Fit.perm h.symm⟩
theorem sumI_perm {l m : GL} (h : l.Perm m) : sumI l = sumI m := by
  induction h with
  | nil => rfl
  | cons x _ ih => unfold sumI; rw [ih]
  | swap x y l => unfold sumI; unfold sumI; omega
  | trans _ _ h1 h2 => rw [h1, h2]
theorem sumI_app (l m : GL) : sumI (l ++ m) = sumI l + sumI m := by
  induction l with
  | nil => show sumI m = 0 + sumI m; omega
  | cons x l ih => show x.f1 + sumI (l ++ m) = x.f1 + sumI l + sumI m; omega
theorem sumI_less (l : GL) (i : Nat) (hi : i < l.length) : sumI (l.take i ++ l.drop (i + 1)) = sumI l - (l[i]).f1 := by
  have h1 : sumI l = sumI (l.take i) + sumI (l.drop i) := by rw [← sumI_app, List.take_append_drop]
  rw [sumI_app, h1, sum_drop hi]
  omega
theorem less_check {l : GL} {ram slice : Nat} (h : (csOf ram slice l).check.2 = 0) (i : Nat) (hi : i < l.length) (h1 : 1 < l.length) : (csOf ram slice (l.take i ++ l.drop (i + 1))).check.2 = 0 := by
  rw [check_fit] at h ⊢
  obtain ⟨⟨a1, a2, a3, a4, a5, a6, a7⟩, b1, b2⟩ := h
  have hs : (l.take i ++ l.drop (i + 1)).Sublist l := by
    rw [← List.eraseIdx_eq_take_drop_succ]
    exact List.eraseIdx_sublist l i
  have hm := hs.map toCG
  have hlen : (l.take i ++ l.drop (i + 1)).length = l.length - 1 := by simp; omega
  rw [List.length_map] at a6 a7
  refine ⟨⟨a1, a2, a3, a4, a5, by rw [List.length_map]; omega, by rw [List.length_map]; omega⟩, fun g hg => b1 g (hm.subset hg), b2.sublist hm⟩
/-- By their places the guests of an accepted configuration rise. -/
theorem rising_strict {gs : GL} (ok : okL gs) {ram slice : Nat} (h : (csOf ram slice gs).check.2 = 0) {ord : List (Fin gs.length)} (hp : ord.Perm (List.finRange gs.length)) (hr : Rising gs ord) : ord.Pairwise fun i k => (gs[i.val]).f0 < (gs[k.val]).f0 := by
  have hn : ord.Pairwise (· ≠ ·) := (hp.nodup_iff.2 (List.nodup_finRange _))
  unfold Rising at hr
  refine (hr.and hn).imp ?_
  rintro i k ⟨h1, h2⟩
  rcases Int.lt_or_le (gs[i.val]).f0 (gs[k.val]).f0 with q | q
  · exact q
  · exfalso
    have e : (gs[i.val]).f0 = (gs[k.val]).f0 := by omega
    obtain ⟨x, y, e1, _, p0, p1, p2, p3, p4⟩ := acc_at ok h i.isLt
    obtain ⟨x', y', e1', _, p0', _⟩ := acc_at ok h k.isLt
    rw [e1, e1'] at e
    simp only at e
    have ex : x = x' := by omega
    refine h2 (one_has ok ram slice h x (by omega) i k ?_ ?_)
    · rw [e1, has_iff _ _ _ (by omega)]; omega
    · rw [e1', has_iff _ _ _ (by omega)]; omega
/-! ### ConfTurned: what its walk needs -/
theorem gcells_set : ∀ (l : GL) (i : Nat) (y : S53), gcells (l.set i y) = ((gcells l).set (i * 2) (.int .u64 y.f0)).set (i * 2 + 1) (.int .u64 y.f1)
  | [], i, y => by simp [gcells]
  | x :: l, 0, y => rfl
  | x :: l, i + 1, y => by
    have e : ∀ z : S53, ∀ m : GL, gcells (z :: m) = .int .u64 z.f0 :: .int .u64 z.f1 :: gcells m := fun _ _ => rfl
    rw [List.set_cons_succ, e, e, gcells_set l i y, show (i + 1) * 2 = i * 2 + 1 + 1 by omega, show i * 2 + 1 + 1 + 1 = (i * 2 + 1) + 1 + 1 by omega]
    simp only [List.set_cons_succ]
theorem own_set {W : World} {g o cap n : Nat} {l : GL} {G : Nat → Prop} (h : Own W 53 2 (.slice (some ⟨g, o, none⟩) n cap) n (gcells l) G) (i : Nat) (hi : i < n) (y : S53) :
    Own ((W.setCell ⟨g, o + i * 2, none⟩ (.int .u64 y.f0)).setCell ⟨g, o + i * 2 + 1, none⟩ (.int .u64 y.f1)) 53 2 (.slice (some ⟨g, o, none⟩) n cap) n (gcells (l.set i y)) G := by
  have hl := h.1
  rw [gcells_set]
  refine ⟨by simpa using hl, ?_⟩
  obtain ⟨g', o', c', cur, hv, hG, hB, h1, h2, h3, h4, h5⟩ := h.2.resolve_left (fun q => by omega)
  injection hv with e1 _ e3
  injection e1 with e1
  injection e1 with e1 e2 _
  subst e1 e2 e3
  refine .inr ⟨g, o, cap, _, rfl, hG, (hB.put (o + i * 2) (.int .u64 y.f0)).put (o + i * 2 + 1) (.int .u64 y.f1), h1, h2, by simpa using h3, by simpa using h4, fun j hj => ?_⟩
  have hj2 : j < (gcells l).length := by simpa using hj
  have h6 := h5 j hj2
  simp only [Array.getElem?_setIfInBounds, List.getElem?_set, List.length_set, Array.size_setIfInBounds]
  have hs : o + j < cur.size := by omega
  by_cases q1 : i * 2 + 1 = j
  · subst q1
    rw [if_pos (by omega), if_pos (by omega), if_pos rfl, if_pos hj2]
  · rw [if_neg (by omega), if_neg q1]
    by_cases q2 : i * 2 = j
    · subst q2
      rw [if_pos rfl, if_pos hs, if_pos rfl, if_pos hj2]
    · rw [if_neg (by omega), if_neg q2]
      exact h6
theorem turned_res (tmps : Array Value) (B : Nat) (b : Bool) (W : World) (ht : tmps.getD 6 undef = .pointer (some ⟨B, 0, none⟩)) (hc : W.cell? ⟨B, 0, none⟩ = some (.bool b)) : (results Try.f8 tmps).run Try.prog W = .ok (.bool b) W := by
  have ht' : tmps[6]?.getD undef = .pointer (some ⟨B, 0, none⟩) := by simpa using ht
  simp [results, Try.f8, go_sem, ht', hc]
structure TuAt (w W : World) (bd : Nat) (cv : Array Value) (res : Bool) (R S : Int) (vd : Value) (n : Nat) (dl : GL) : Prop where
  c : Blk W w.heap.size 25 cv
  r : Blk W (w.heap.size + 1) 4 #[.bool res]
  d : Blk W bd 25 #[.int .u64 R, .int .u64 S, vd]
  f : Own W 53 2 vd n (gcells dl) (fun k => w.heap.size + 2 ≤ k ∧ k ≠ bd)
  b : Below w.heap.size w W
  h : w.heap.size + 2 ≤ bd
theorem TuAt.step {w W W' : World} {bd n : Nat} {cv : Array Value} {res : Bool} {R S : Int} {vd : Value} {dl : GL} (h : TuAt w W bd cv res R S vd n dl) (hb : Below W.heap.size W W') : TuAt w W' bd cv res R S vd n dl :=
  ⟨(hb.block _ h.c.lt).trans h.c, (hb.block _ h.r.lt).trans h.r, (hb.block _ h.d.lt).trans h.d, h.f.fr (Fr.of_below hb No) (fun _ _ h => h), h.b.trans (hb.mono h.b.size), h.h⟩
theorem kd_of_own0 {W : World} {v : Value} {l : GL} {G : Nat → Prop} (h : Own W 53 2 v l.length (gcells l) G) : ∃ A c, v = .slice A l.length c ∧ Kd.C k53 W A l.length l ∧ l.length ≤ c := guests_of_rd h.rd
theorem mod_idx (I : Int) (n : Nat) (h : 0 < n) (h2 : n ≤ 100) : ∃ i : Nat, (wrap64 (I.tmod (n : Int) + (n : Int))).tmod (n : Int) = (i : Int) ∧ i < n := by
  have h3 : (I.tmod (n : Int)).natAbs = I.natAbs % n := by rw [Int.natAbs_tmod, Int.natAbs_natCast]
  have h4 : I.natAbs % n < n := Nat.mod_lt _ h
  obtain ⟨t, ht⟩ : ∃ t, t = I.tmod (n : Int) := ⟨_, rfl⟩
  rw [← ht] at h3 ⊢
  obtain ⟨m, hm⟩ : ∃ m : Nat, t + (n : Int) = (m : Int) := ⟨(t + (n : Int)).toNat, by omega⟩
  have h5 : wrap64 (t + (n : Int)) = (m : Int) := by rw [hm]; unfold wrap64; omega
  rw [h5]
  refine ⟨m % n, ?_, Nat.mod_lt _ h⟩
  rw [Int.tmod_eq_emod_of_nonneg (by omega)]
  simp
theorem TuAt.set {w W : World} {bd n g o cap : Nat} {cv : Array Value} {res : Bool} {R S : Int} {dl : GL} (h : TuAt w W bd cv res R S (.slice (some ⟨g, o, none⟩) n cap) n dl) (i : Nat) (hi : i < n) (y : S53) :
    TuAt w (((W.setCell ⟨g, o + i * 2, none⟩ (.int .u64 y.f0)).setCell ⟨g, o + i * 2 + 1, none⟩ (.int .u64 y.f1)).drew) bd cv res R S (.slice (some ⟨g, o, none⟩) n cap) n (dl.set i y) := by
  obtain ⟨g', o', cap', hv, _, _, hG, _, _, _⟩ := h.f.at_ (by omega)
  injection hv with e1 _ e3
  injection e1 with e1
  injection e1 with e1 e2 _
  subst e1 e2 e3
  have hg1 : w.heap.size + 2 ≤ g := hG.1
  have hg2 : g ≠ bd := hG.2
  refine ⟨(((h.c.far (show w.heap.size ≠ g by omega) _).far (show w.heap.size ≠ g by omega) _).drew), (((h.r.far (show w.heap.size + 1 ≠ g by omega) _).far (show w.heap.size + 1 ≠ g by omega) _).drew), (((h.d.far (fun q => hg2 q.symm) _).far (fun q => hg2 q.symm) _).drew), ?_, ?_, h.h⟩
  · exact (own_set h.f i hi y).fr ((Fr.refl No _).drew) (fun _ _ q => q)
  · exact ((h.b.setCell (p := ⟨g, o + i * 2, none⟩) (by show w.heap.size ≤ g; omega) _).setCell (p := ⟨g, o + i * 2 + 1, none⟩) (by show w.heap.size ≤ g; omega) _).drew
/-! ### ConfTurned: its walk, by hand -/
set_option maxRecDepth 100000 in
set_option maxHeartbeats 8000000 in
theorem ConfTurned_early (k : Nat) (ram slice : Nat) (A : Option Addr) (c : Nat) (l : GL) (I K : Int) (hI : (Lit.int .i64 I).wf = true) (hK : (Lit.int .i64 K).wf = true) (w : World) (hr : Kd.C k53 w A l.length l) (hc : l.length ≤ c) (ok : okL l) (hram : ram < 18446744073709551616) (hslice : slice < 18446744073709551616)
    (hawake : mezzaninelaw25_awake.f k = some true) (hout : l.length = 0 ∨ 100 < l.length) :
    Calls Try.prog 8 #[.agg #[.int .u64 ram, .int .u64 slice, .slice A l.length c], .int .i64 I, .int .i64 K] w fun e w' => e = .returned (.bool true) ∧ Below w.heap.size w w' := by
  have HR := Lib.hid hr
  have HC := Lib.hid hc
  have HOUT := Lib.hid hout
  have HA := Lib.hid hawake
  have OK := Lib.hid ok
  have HI := Lib.hid hI
  have HK := Lib.hid hK
  obtain ⟨R, hR⟩ : ∃ R : Int, R = (ram : Int) := ⟨_, rfl⟩
  obtain ⟨S, hS⟩ : ∃ S : Int, S = (slice : Int) := ⟨_, rfl⟩
  rw [← hR, ← hS]
  obtain ⟨n, hn⟩ : ∃ n, n = l.length := ⟨_, rfl⟩
  rw [← hn]
  have HN := Lib.hid hn
  have HRR := Lib.hid hR
  have HSS := Lib.hid hS
  clear hout hr hc hawake hI hK hR hS ok hn
  have hro : Fence.wide.round = none := rfl
  obtain ⟨wA, hwA⟩ : ∃ wA, wA = (w.alloc (.cells #[.int .u64 R, .int .u64 S, .slice A n c] 25)).alloc (.cells #[.bool false] 4) := ⟨_, rfl⟩
  have hbA : Below w.heap.size w wA := by rw [hwA]; exact ((Below.refl _ w).alloc (Nat.le_refl _) _).alloc (by simp) _
  have e1 : Blk wA w.heap.size 25 #[.int .u64 R, .int .u64 S, .slice A n c] := by rw [hwA]; exact (Blk.new w _ _).alloc _
  have e2 : Blk wA (w.heap.size + 1) 4 #[.bool false] := by
    have := Blk.new (w.alloc (.cells #[.int .u64 R, .int .u64 S, .slice A n c] 25)) 4 #[.bool false]
    rw [World.size_alloc] at this
    rw [hwA]; exact this
  have hszA : wA.heap.size = w.heap.size + 2 := by rw [hwA]; simp
  have E1 := Lib.hid e1
  have E2 := Lib.hid e2
  have BA := Lib.hid hbA
  have ZA := Lib.hid hszA
  have WA := Lib.hid hwA
  clear hbA e1 e2 hszA hwA
  refine (callsIn_wide (n := 6)).1 ?_
  refine callsIn_of_wp_marks Try.func8 rfl trivial ?_ hro
  simp only [Try.ntmps8, List.size_toArray, List.length_cons, List.length_nil, Nat.reduceAdd, Nat.reduceSub, Array.replicate_succ, Array.replicate_zero, List.push_toArray, List.append_toArray, List.nil_append, List.cons_append]
  refine wpIn_wide.2 ?_
  go_wp2_with fail
  rw [← WA.out]
  refine (mezzaninelaw25_awake.calls k true _ HA.out).mono ?_
  rintro e1 w2 ⟨rfl, hb2⟩
  have hE3 : Blk w2 w.heap.size 25 #[.int .u64 R, .int .u64 S, .slice A n c] := (hb2.block _ E1.out.lt).trans E1.out
  have hE4 : Blk w2 (w.heap.size + 1) 4 #[.bool false] := (hb2.block _ E2.out.lt).trans E2.out
  have E3 := Lib.hid hE3
  have E4 := Lib.hid hE4
  have B2 := Lib.hid (BA.out.trans (hb2.mono BA.out.size))
  have c0 : w2.cell? ⟨w.heap.size, 0, none⟩ = some (.int .u64 R) := hE3.cell 0
  have c1 : w2.cell? ⟨w.heap.size, 1, none⟩ = some (.int .u64 S) := hE3.cell 1
  have c2 : w2.cell? ⟨w.heap.size, 2, none⟩ = some (.slice A n c) := hE3.cell 2
  have r0 : w2.cell? ⟨w.heap.size + 1, 0, none⟩ = some (.bool false) := hE4.cell 0
  have f0 := hE4.free
  have hs2 : w.heap.size + 2 ≤ w2.heap.size := by have := hb2.size; have := ZA.out; omega
  have S2 := Lib.hid hs2
  clear hb2 hE3 hE4 hs2 E1 E2 BA WA ZA
  by_cases hlen : n ≤ 100
  case neg =>
    go_wp2_with fail
    exact ⟨.bool true, turned_res _ (w.heap.size + 1) true _ rfl ((E4.out.put 0 (.bool true)).cell 0), rfl, B2.out.setCell (p := ⟨w.heap.size + 1, 0, none⟩) (by show w.heap.size ≤ w.heap.size + 1; omega) _⟩
  by_cases hpos : n = 0
  case pos =>
    go_wp2_with fail
    exact ⟨.bool true, turned_res _ (w.heap.size + 1) true _ rfl ((E4.out.put 0 (.bool true)).cell 0), rfl, B2.out.setCell (p := ⟨w.heap.size + 1, 0, none⟩) (by show w.heap.size ≤ w.heap.size + 1; omega) _⟩
  exact absurd HOUT.out (by have := HN.out; omega)
/-! ### The iterator over the guests, to bodies that write into what lay before it: by hand -/
section
attribute [local go_sem] Oper.semAt_some
/-- The blocks from lo to hi are as they were. -/
def KeepG (lo hi : Nat) (A B : World) : Prop := ∀ k, lo ≤ k → k < hi → B.heap[k]? = A.heap[k]?
theorem KeepG.refl (lo hi : Nat) (A : World) : KeepG lo hi A A := fun _ _ _ => rfl
theorem KeepG.trans {lo hi : Nat} {A B C : World} (h : KeepG lo hi A B) (k : KeepG lo hi B C) : KeepG lo hi A C := fun i h1 h2 => (k i h1 h2).trans (h i h1 h2)
theorem KeepG.cell {lo hi : Nat} {A B : World} (h : KeepG lo hi A B) {p : Addr} (hp : lo ≤ p.block ∧ p.block < hi) : B.cell? p = A.cell? p := World.cell?_of_block (h _ hp.1 hp.2)
theorem KeepG.of_fr {lo hi : Nat} {S : Nat → Prop} {A B : World} (h : Fr S A B) (hh : hi ≤ A.heap.size) (hS : ∀ k, lo ≤ k → ¬ S k) : KeepG lo hi A B := fun k h1 h2 => h.block k (by omega) (hS k h1)
theorem keepG_b {lo hi : Nat} {w : World} (hn : hi ≤ w.heap.size) (W : World) (l : Nat) (o o' : Obj) (hl : w.heap.size ≤ l) (h : W.heap[l]? = some o) (_ : o.isCells = false) (_ : o.isWalk = false) : KeepG lo hi W (W.putObj l o') :=
  fun k _ h2 => ((Below.refl hi W).grown (grownBy_putObj' W l o') (by have := (Array.getElem?_eq_some_iff.1 h).1; omega) (fun k e => by cases e; omega)).block k h2
set_option maxRecDepth 100000 in
set_option maxHeartbeats 1000000 in
theorem iter2_c (F : Fence) (n : Nat) (hf : F.fn 42) (hro : F.round = none) (hn : 1 ≤ n) (lp Bo Bw lo n₀ : Nat) (l : GL) (ord : List (Fin l.length)) (G : Nat → Prop) (hG : ∀ k, G k → lo ≤ k ∧ k < n₀) (hord : ord.length ≤ 100) (J Jx : List (Fin l.length) → World → Prop)
    (hY : ∀ pre x W, J pre W → pre.length < ord.length → YieldAt F (n - 1) Try.prog lp (encA l x) W fun e W' =>
      (e = .returned (.bool true) ∧ J (pre ++ [x]) W' ∧ KeepG lo n₀ W W') ∨ (e = .returned (.bool false) ∧ Jx (pre ++ [x]) W'))
    (W : World) (hA : AllAt W G Bo Bw l ord) (hn₀ : n₀ ≤ W.heap.size) (h0 : J [] W) :
    CallsIn F n Try.prog 42 #[.func (.yield lp) #[] #[], .pointer (some ⟨Bo, 0, none⟩), .pointer (some ⟨Bw, 0, none⟩)] W fun e W' => (∃ v, e = .returned v) ∧
      ((∃ ys, ys = ord ∧ J ys W') ∨ (∃ pre, pre <+: ord ∧ Jx pre W')) := by
  obtain ⟨hGo, hGw, vo, vw, hco, hcw, hOo, hOw⟩ := hA
  obtain ⟨ao, co, rfl, hoc, hom⟩ := hOo.slice
  obtain ⟨aw, cw, rfl, hwc, hwm⟩ := hOw.slice
  have HG := Lib.hid hG
  have H0 := Lib.hid hn₀
  have HO := Lib.hid hOo
  have HW := Lib.hid hOw
  have HN := Lib.hid hord
  have HGw := Lib.hid hGw
  have HY := Lib.hid hY
  obtain ⟨m, hm⟩ : ∃ m, m = ord.length := ⟨_, rfl⟩
  rw [← hm] at hco hoc
  have HM := Lib.hid hm
  clear hG hOo hOw hn₀ hord hY hGw hm hGo
  refine callsIn_of_wp Try.func42 rfl hf ?_ hro
  simp only [Try.ntmps42, List.size_toArray, List.length_cons, List.length_nil, Nat.reduceAdd, Nat.reduceSub, Array.replicate_succ, Array.replicate_zero, List.push_toArray, List.append_toArray, List.nil_append, List.cons_append]
  gi_wp2
  gi_loopw [8] (fun p wr => ∃ i : Nat, i ≤ m ∧ p = .int .i64 (i : Int) ∧ Hid (J (ord.take i) wr) ∧ Hid (KeepG lo n₀ W wr)) (fun p _ => m - (intOf p).toNat)
  case atStart => exact ⟨0, Nat.zero_le _, rfl, Lib.hid h0, Lib.hid (KeepG.refl _ _ _)⟩
  case round =>
    obtain ⟨i, him, rfl, HJ, HB⟩ := hrel
    by_cases hlt : i < m
    · have hio : i < ord.length := by have := HM.out; omega
      obtain ⟨x, hx⟩ : ∃ x, x = ord[i] := ⟨_, rfl⟩
      obtain ⟨g, o, c', hv, _, _, hGg, _, hcell, _⟩ := HO.out.at_ (by omega)
      obtain ⟨gw, ow, cw', hvw, _, _, hGgw, _, hcellw, _⟩ := HW.out.at_ (by have := x.isLt; omega)
      injection hv with e1 e2 e3
      injection hvw with e4 e5 e6
      subst e1 e4
      have c1 : wr.cell? ⟨g, o + i, none⟩ = some (.int .i64 ((x.val : Nat) : Int)) := by
        refine (HB.out.cell (p := ⟨g, o + i, none⟩) (HG.out _ hGg)).trans (hcell i _ ?_)
        rw [List.getElem?_map, List.getElem?_eq_getElem hio, hx]
        rfl
      have c2 : wr.cell? ⟨Bw, 0, none⟩ = some (.slice (some ⟨gw, ow, none⟩) l.length cw) := (HB.out.cell (p := ⟨Bw, 0, none⟩) (HG.out _ HGw.out)).trans hcw
      have c3 : wr.cell? ⟨gw, ow + x.val * 2, none⟩ = some (.int .u64 (l[x.val]).f0) := (HB.out.cell (p := ⟨gw, ow + x.val * 2, none⟩) (HG.out _ hGgw)).trans (hcellw _ _ (gcells_get x.isLt).1)
      have c4 : wr.cell? ⟨gw, ow + x.val * 2 + 1, none⟩ = some (.int .u64 (l[x.val]).f1) := (HB.out.cell (p := ⟨gw, ow + x.val * 2 + 1, none⟩) (HG.out _ hGgw)).trans (hcellw _ _ (gcells_get x.isLt).2)
      obtain ⟨fn, tmps, assign, body, hy, hR⟩ := HY.out (ord.take i) x wr HJ.out (by rw [List.length_take]; omega)
      unfold encA at hy
      have hxl : x.val < l.length := x.isLt
      have htk : ord.take i ++ [x] = ord.take (i + 1) := by rw [hx, List.take_append_getElem hio]
      have HT := Lib.hid htk
      have hi100 : i < 100 := by have := HN.out; omega
      have h100 : m ≤ 100 := by have := HN.out; have := HM.out; omega
      obtain ⟨y0, hy0⟩ : ∃ y0, y0 = (l[x.val]).f0 := ⟨_, rfl⟩
      obtain ⟨y1, hy1⟩ : ∃ y1, y1 = (l[x.val]).f1 := ⟨_, rfl⟩
      rw [← hy0] at c3 hy
      rw [← hy1] at c4 hy
      obtain ⟨xi, hxi⟩ : ∃ xi : Nat, xi = x.val := ⟨_, rfl⟩
      rw [← hxi] at c1 c3 c4 hy hxl
      clear hxi hy0 hy1 hx htk hcell hcellw hGg hGgw e2 e3 e5 e6 hio
      have hw : IntKind.i64.wrap ((i : Int) + 1) = ((i + 1 : Nat) : Int) := by rw [IntKind.wrap_i64]; omega
      gi_wp2
      refine hR.mono ?_
      rintro e W3 (⟨rfl, hJ3, hk3⟩ | ⟨rfl, hJx3⟩)
      · rw [HT.out] at hJ3
        have HJ3 := Lib.hid hJ3
        have HK3 := Lib.hid hk3
        clear hJ3 hk3
        gi_wp2
        go_roundw
        case rel => exact ⟨i + 1, hlt, by simp, HJ3, Lib.hid (HB.out.trans HK3.out)⟩
        case measure => simp [intOf]; omega
      · rw [HT.out] at hJx3
        gi_wp2
        refine bodyPost_ret (results_none rfl _ _ _) rfl ?_
        exact ⟨⟨_, rfl⟩, .inr ⟨_, List.take_prefix _ _, hJx3⟩⟩
    · obtain rfl : i = m := by omega
      gi_wp2
      go_end0
      exact ⟨⟨_, rfl⟩, .inl ⟨_, rfl, by have h := HJ.out; rw [HM.out, List.take_length] at h; exact h⟩⟩
/-- What the maker hands back gives the guests in their order, to whatever body keeps what lay. -/
theorem iter_stops2 (F : Fence) (n : Nat) (hf : F.fn 42) (hro : F.round = none) (hn : 1 ≤ n) (Bo Bw : Nat) (l : GL) (ord : List (Fin l.length)) (G : Nat → Prop) (w : World) (lo : Nat) (hG : ∀ k, G k → lo ≤ k ∧ k < w.heap.size) (hord : ord.length ≤ 100) (hA : AllAt w G Bo Bw l ord) :
    SeqStopsK F n Try.prog 42 #[.pointer (some ⟨Bo, 0, none⟩), .pointer (some ⟨Bw, 0, none⟩)] (encA l) (KeepG lo w.heap.size) (fun ys => ys = ord) (fun pre => pre <+: ord) ord.length w := fun lp J Jx W hW _ _ hY h0 =>
  iter2_c F n hf hro hn lp Bo Bw lo w.heap.size l ord G hG hord J Jx hY W (hA.below hW (Nat.le_refl _) (fun k hk => (hG k hk).2)) hW.size h0
end
/-- A range over a function whose body has its element in a box of its own. -/
theorem wpIn_range_boxed {α : Type} {P : Program} {F : Fence} {n : Nat} {g : Operand} {ps : Array Tmp} {assign body : Code} {Q : Exit → Act → World → Prop} {a : Act} {w : World}
    (hro : F.round = none) (h1 : 1 ≤ n) {gf : Nat} {lb : Array Value} (hg : a.eval g = .func (.func gf) #[] lb) (hFg : F.fn gf) (eg : ∀ args w, (callFunc gf args).run P w = .ok (.enter gf args) w)
    {encs : α → Array Value} {Kp : World → World → Prop} {S Sp : List α → Prop} {N : Nat} {w0 : World} (hseq : SeqStopsK F (n - 1) P gf lb encs Kp S Sp N w0)
    (hKt : ∀ {A B C : World}, Kp A B → Kp B C → Kp A C) (hKb : ∀ (W : World) (l : Nat) (o o' : Obj), w.heap.size ≤ l → W.heap[l]? = some o → o.isCells = false → o.isWalk = false → Kp W (W.putObj l o')) (hb0 : Below w0.heap.size w0 w) (hps : ∀ x, (encs x).size = ps.size)
    (I : List α → World → Prop) (Ix : Code → List α → World → Prop) (hI : OwnFrom w.heap.size I) (hIx : ∀ c, OwnFrom w.heap.size (Ix c)) (h0 : I [] w)
    (hsz : ∀ pre W, I pre W → w.heap.size ≤ W.heap.size) (hKa : ∀ W o, w.heap.size ≤ W.heap.size → Kp W (W.alloc o))
    (t : TypeId) (cs : α → Array Value) (tm : α → Nat → Array Value → Array Value)
    (hassign : ∀ (l : Nat) (x : α) (W : World) (K : Act → World → Prop), K { tmps := tm x W.heap.size ((ps.zip (encs x)).foldl (fun t (p, v) => t.setIfInBounds p v) a.tmps), defers := [] } (W.alloc (.cells (cs x) t)) →
      assign.wpIn (F.inRound l) (n - 1 - 1) P (Exit.then K (fun _ _ _ => False)) { tmps := (ps.zip (encs x)).foldl (fun t (p, v) => t.setIfInBounds p v) a.tmps, defers := [] } W)
    (hbody : ∀ (l : Nat) (pre : List α) (x : α) (Bx : Nat) (W : World), w.heap.size ≤ l → (∃ r, W.heap[l]? = some (.loop r)) → I pre W → w.heap.size ≤ Bx → Blk W Bx t (cs x) → pre.length < N →
      body.wpIn (F.inRound l) (n - 1 - 1) P (ownPostG w.heap.size Kp I Ix (pre ++ [x]) W) { tmps := tm x Bx ((ps.zip (encs x)).foldl (fun t (p, v) => t.setIfInBounds p v) a.tmps), defers := [] } W)
    (hdone : ∀ (D : Nat) (xs : List α) (W : World), w.heap.size ≤ D → S xs → I xs W → W.heap[D]? = some (.deferred (some [])) → Q .normal { a with defers := { target := .collected D, args := #[] } :: a.defers } W)
    (hstop : ∀ (D : Nat) (c : Code) (pre : List α) (W : World), w.heap.size ≤ D → Sp pre → Ix c pre W → W.heap[D]? = some (.deferred (some [])) → c.wpIn F n P Q { a with defers := { target := .collected D, args := #[] } :: a.defers } W) :
    (Code.rangeFunc g ps assign body).wpIn F n P Q a w := by
  refine wpIn_rangeFunc_ownH hro h1 hg hFg eg hseq hKt hKb hb0 hps I Ix hI hIx h0
    (fun x a' W => ∃ Bx, w.heap.size ≤ Bx ∧ Blk W Bx t (cs x) ∧ a' = { tmps := tm x Bx ((ps.zip (encs x)).foldl (fun t (p, v) => t.setIfInBounds p v) a.tmps), defers := [] })
    (fun x a' _ X Y row hs hgr hr => by obtain ⟨Bx, e1, e2, e3⟩ := hs; exact ⟨Bx, e1, blk_kept e2 hgr (fun r e => (hr r e).2), e3⟩)
    (fun l pre x W K hp hK => hassign l x W K (hK _ _ ((KeepsOthers.alloc W _).from _) (hKa _ _ (hsz _ _ hp)) (hI.alloc _ hp) ⟨W.heap.size, hsz _ _ hp, Blk.new W _ _, rfl⟩))
    (fun l pre x a' W hl hr hp hA hlt => by obtain ⟨Bx, e1, e2, rfl⟩ := hA; exact hbody l pre x Bx W hl hr hp e1 e2 hlt) hdone hstop
theorem TuAt.kd {w W : World} {bd n c : Nat} {cv : Array Value} {res : Bool} {R S : Int} {A : Option Addr} {dl : GL} (h : TuAt w W bd cv res R S (.slice A n c) n dl) (hl : dl.length = n) : Kd.C k53 W A dl.length dl ∧ dl.length ≤ c := by
  subst hl
  obtain ⟨A', c', e, h1, h2⟩ := kd_of_own0 h.f
  injection e with e1 _ e3
  subst e1 e3
  exact ⟨h1, h2⟩
theorem TuAt.drew {w W : World} {bd n : Nat} {cv : Array Value} {res : Bool} {R S : Int} {vd : Value} {dl : GL} (h : TuAt w W bd cv res R S vd n dl) : TuAt w W.drew bd cv res R S vd n dl := h.step (((Fr.refl No W).drew).below (B := W.heap.size) (Nat.le_refl _) (fun _ _ h => h))
theorem own_one {W : World} {e : TypeId} {size g o n c : Nat} {xs : List Value} {G : Nat → Prop} (h : Go.Proofs.Ytacgjgmladbgeaa.Own W e size (.slice (some ⟨g, o, none⟩) n c) n xs G) : Go.Proofs.Ytacgjgmladbgeaa.Own W e size (.slice (some ⟨g, o, none⟩) n c) n xs (One g) := by
  refine ⟨h.1, ?_⟩
  rcases h.2 with ⟨h1, _⟩ | ⟨g', o', c', cur, h1, h2, h3⟩
  · cases h1
  · injection h1 with e1 _ e3
    injection e1 with e1
    injection e1 with e1 e2 _
    subst e1 e2 e3
    exact .inr ⟨g, o, c, cur, rfl, rfl, h3⟩
theorem TuAt.fr {w W W' : World} {S' : Nat → Prop} {bd n g o c : Nat} {cv : Array Value} {res : Bool} {R S : Int} {dl : GL} (h : TuAt w W bd cv res R S (.slice (some ⟨g, o, none⟩) n c) n dl) (hn : 0 < n) (hf : Fr S' W W') (h1 : ∀ k, k < W.heap.size → S' k → w.heap.size ≤ k ∧ k ≠ w.heap.size ∧ k ≠ w.heap.size + 1 ∧ k ≠ bd ∧ k ≠ g) : TuAt w W' bd cv res R S (.slice (some ⟨g, o, none⟩) n c) n dl := by
  obtain ⟨g', o', cap', hv, _, _, hG, hg, _, _⟩ := h.f.at_ hn
  injection hv with e1 _ e3
  injection e1 with e1
  injection e1 with e1 e2 _
  subst e1 e2 e3
  refine ⟨h.c.fr hf (fun q => ?_), h.r.fr hf (fun q => ?_), h.d.fr hf (fun q => ?_), ((own_one h.f).fr hf (fun k hk q => ?_)).mono (fun k hk => ?_), h.b.trans (hf.below h.b.size (fun k hk q => ?_)), h.h⟩
  · exact (h1 _ h.c.lt q).2.1 rfl
  · exact (h1 _ h.r.lt q).2.2.1 rfl
  · exact (h1 _ h.d.lt q).2.2.2.1 rfl
  · obtain rfl : k = g := hk
    exact (h1 _ hg q).2.2.2.2 rfl
  · obtain rfl : k = g := hk
    exact hG
  · have := (h1 k (Nat.lt_of_lt_of_le hk h.b.size) q).1
    omega
theorem ownFrom_fr {β : Type} {S : Nat → Prop} {B : Nat} {w₀ : World} (hB : w₀.heap.size ≤ B) : OwnFrom B (fun (_ : β) W => Fr S w₀ W) := fun _ _ _ _ hs hg hr => hs.grown hg (fun k e => .inr (Nat.le_trans hB (hr k e).1))
theorem TuAt.gl {w W : World} {bd n g o c : Nat} {cv : Array Value} {res : Bool} {R S : Int} {dl : GL} (h : TuAt w W bd cv res R S (.slice (some ⟨g, o, none⟩) n c) n dl) (hn : 0 < n) : g < W.heap.size ∧ w.heap.size + 2 ≤ g ∧ g ≠ bd := by
  obtain ⟨g', o', cap', hv, _, _, hG, hg, _, _⟩ := h.f.at_ hn
  injection hv with e1 _ e3
  injection e1 with e1
  injection e1 with e1 e2 _
  subst e1 e2 e3
  exact ⟨hg, hG.1, hG.2⟩
/-- append, whatever its room, as one step of a region that draws. -/
theorem step_append_cells {P : Program} {ops : Array Oper} {w : World} {o : Oper} {a : Act} {K : Act → World → Prop} {Q : Exit → Act → World → Prop} {E : Prop} (hgd : o.guard = none) (s x : Operand) (t : TypeId)
    (ho : o.op = .call { callee := .builtin .append, args := #[s, x], argTypes := #[t, t] })
    (e : TypeId) (i : TypeInfo) (z : Value) (size bytes : Nat) (ht : P.underlying t = some (.slice e)) (hi : P.info? e = some i) (hz : i.zero = some z)
    (hsize : i.size = size) (hby : i.bytes = bytes) (hzs : z.cells.size = size)
    (v : Value) (n : Nat) (xs : List Value) (G : Nat → Prop) (hs : a.eval s = v) (hown : Go.Proofs.Ytacgjgmladbgeaa.Own w e size v n xs G)
    (ao : Option Addr) (m c : Nat) (news : List Value) (hx : a.eval x = .slice ao m c) (hr : 0 < m → ∃ ad, ao = some ad ∧ ∀ j u, news[j]? = some u → w.cell? (ad.add j) = some u) (hl : news.length = m * size) (h1 : ∀ u ∈ news, u.oneCell' = true)
    (h63 : n + m ≤ maxLen) (hbytes : (n + m) * bytes ≤ 140737488355328)
    (h : ∀ v' w', Go.Proofs.Ytacgjgmladbgeaa.Own w' e size v' (n + m) (xs ++ news) (fun k => G k ∨ k = w.heap.size) → Fr G w w' → K (a.put o.dst v') w') :
    if Region.wanted o (yielded ops a.tmps) = true then Oper.wp P o a w K Q else E := by
  have hw : Region.wanted o (yielded ops a.tmps) = true := by simp [Region.wanted, hgd]
  rw [if_pos hw]
  obtain ⟨v', w', hrun, h2, h3⟩ := run_append_cells (P := P) (w := w) t o.type e i z size bytes ht hi hz hsize hby hzs v n xs G hown ao m c news hr hl h1 h63 hbytes
  unfold Oper.wp execOp
  simp only [ho, resolve, invoke, builtin, Sem.run_bind, Sem.run_pure, Result.andThen_ok, List.map_toArray, List.map_cons, List.map_nil, hs, hx, hrun]
  exact h v' w' h2 h3
theorem gcells_app (l m : GL) : gcells (l ++ m) = gcells l ++ gcells m := by unfold gcells; rw [List.flatMap_append]
theorem gcells_drop : ∀ (l : GL) (i : Nat), gcells (l.drop i) = (gcells l).drop (i * 2)
  | l, 0 => by simp
  | [], i + 1 => by simp [gcells]
  | x :: l, i + 1 => by
    rw [List.drop_succ_cons, gcells_drop l i, show (i + 1) * 2 = i * 2 + 1 + 1 by omega]
    show _ = (.int .u64 x.f0 :: .int .u64 x.f1 :: gcells l).drop _
    rw [List.drop_succ_cons, List.drop_succ_cons]
theorem gcells_take : ∀ (l : GL) (i : Nat), gcells (l.take i) = (gcells l).take (i * 2)
  | l, 0 => by simp [gcells]
  | [], i + 1 => by simp [gcells]
  | x :: l, i + 1 => by
    rw [List.take_succ_cons, show (i + 1) * 2 = i * 2 + 1 + 1 by omega]
    show (.int .u64 x.f0 :: .int .u64 x.f1 :: gcells (l.take i)) = (.int .u64 x.f0 :: .int .u64 x.f1 :: gcells l).take _
    rw [List.take_succ_cons, List.take_succ_cons, gcells_take l i]
theorem own_kd {W : World} {A : Option Addr} {c : Nat} {l : GL} {G : Nat → Prop} (h : Go.Proofs.Ytacgjgmladbgeaa.Own W 53 2 (.slice A l.length c) l.length (gcells l) G) : Kd.C k53 W A l.length l := by
  obtain ⟨A', c', e, h1, h2⟩ := kd_of_own0 h
  injection e with e1 _ _
  subst e1
  exact h1
/-- What the last test reads. -/
def LsS (w : World) (ga oa c bs bl cn : Nat) (A2 : Option Addr) (ln cc2 i : Nat) (R S yv : Int) (W : World) : Prop :=
  W.cell? ⟨w.heap.size, 0, none⟩ = some (.int .u64 R) ∧ W.cell? ⟨w.heap.size, 1, none⟩ = some (.int .u64 S) ∧ W.cell? ⟨w.heap.size, 2, none⟩ = some (.slice (some ⟨ga, oa, none⟩) cn c) ∧
  W.cell? ⟨bs, 0, none⟩ = some (.int .u64 R) ∧ W.cell? ⟨bs, 1, none⟩ = some (.int .u64 S) ∧ W.cell? ⟨bs, 2, none⟩ = some (.slice A2 ln cc2) ∧ W.cell? ⟨bl + 1, 0, none⟩ = some (.int .i64 (cn : Int)) ∧ W.cell? ⟨ga, oa + i * 2 + 1, none⟩ = some (.int .u64 yv)
structure LsAt (w W : World) (bd g o cap ga oa c bs bl cn D0 i : Nat) (A2 : Option Addr) (cc2 : Nat) (R S yv : Int) (D LL : GL) : Prop where
  t : TuAt w W bd #[.int .u64 R, .int .u64 S, .slice (some ⟨ga, oa, none⟩) cn c] false R S (.slice (some ⟨g, o, none⟩) cn cap) cn D
  e : Blk W bs 25 #[.int .u64 R, .int .u64 S, .slice A2 LL.length cc2]
  o : Go.Proofs.Ytacgjgmladbgeaa.Own W 53 2 (.slice A2 LL.length cc2) LL.length (gcells LL) (fun k => bs < k)
  n : Boxed W (bl + 1) 3 (.int .i64 (cn : Int))
  d : W.heap[D0]? = some (.deferred (some []))
  y : W.cell? ⟨ga, oa + i * 2 + 1, none⟩ = some (.int .u64 yv)
theorem LsAt.step {w W W' : World} {bd g o cap ga oa c bs bl cn D0 i : Nat} {A2 : Option Addr} {cc2 : Nat} {R S yv : Int} {D LL : GL} (h : LsAt w W bd g o cap ga oa c bs bl cn D0 i A2 cc2 R S yv D LL) (hb : Below W.heap.size W W') : LsAt w W' bd g o cap ga oa c bs bl cn D0 i A2 cc2 R S yv D LL :=
  ⟨h.t.step hb, (hb.block _ h.e.lt).trans h.e, h.o.fr (Fr.of_below hb No) (fun _ _ h => h), (hb.block _ h.n.lt).trans h.n, (hb.block _ (Array.getElem?_eq_some_iff.1 h.d).1).trans h.d, (World.cell?_of_block (hb.block _ (World.block_lt_of_cell? W _ h.y))).trans h.y⟩
theorem LsAt.drew {w W : World} {bd g o cap ga oa c bs bl cn D0 i : Nat} {A2 : Option Addr} {cc2 : Nat} {R S yv : Int} {D LL : GL} (h : LsAt w W bd g o cap ga oa c bs bl cn D0 i A2 cc2 R S yv D LL) : LsAt w W.drew bd g o cap ga oa c bs bl cn D0 i A2 cc2 R S yv D LL :=
  h.step (((Fr.refl No W).drew).below (B := W.heap.size) (Nat.le_refl _) (fun _ _ h => h))
theorem LsAt.s {w W : World} {bd g o cap ga oa c bs bl cn D0 i : Nat} {A2 : Option Addr} {cc2 : Nat} {R S yv : Int} {D LL : GL} (h : LsAt w W bd g o cap ga oa c bs bl cn D0 i A2 cc2 R S yv D LL) : LsS w ga oa c bs bl cn A2 LL.length cc2 i R S yv W :=
  ⟨h.t.c.cell 0, h.t.c.cell 1, h.t.c.cell 2, h.e.cell 0, h.e.cell 1, h.e.cell 2, h.n.cell, h.y⟩
theorem LsAt.sret {w W : World} {bd g o cap ga oa c bs bl cn D0 i : Nat} {A2 : Option Addr} {cc2 : Nat} {R S yv : Int} {D LL : GL} (h : LsAt w W bd g o cap ga oa c bs bl cn D0 i A2 cc2 R S yv D LL) (h1 : w.heap.size + 2 ≤ bs) (h2 : w.heap.size + 2 ≤ bl) (h3 : ga < w.heap.size) (v : Value) : LsS w ga oa c bs bl cn A2 LL.length cc2 i R S yv (W.setCell ⟨w.heap.size + 1, 0, none⟩ v) := by
  have hs := h.s
  unfold LsS at hs ⊢
  obtain ⟨a0, a1, a2, a3, a4, a5, a6, a7⟩ := hs
  have f : ∀ p u, W.cell? p = some u → p.block ≠ w.heap.size + 1 → (W.setCell ⟨w.heap.size + 1, 0, none⟩ v).cell? p = some u := fun p u hp hn => ((World.cell?_setCell_far W _ p v (fun e => hn e.symm))).trans hp
  refine ⟨f _ _ a0 ?_, f _ _ a1 ?_, f _ _ a2 ?_, f _ _ a3 ?_, f _ _ a4 ?_, f _ _ a5 ?_, f _ _ a6 ?_, f _ _ a7 ?_⟩ <;> dsimp only <;> omega
/-- The base of the last one (0: none). -/
def lastOf (D : GL) (pre : List (Fin D.length)) : Int := match pre.getLast? with
  | none => 0
  | some x => (D[x.val]).f0
theorem lastOf_app (D : GL) (pre : List (Fin D.length)) (x : Fin D.length) : lastOf D (pre ++ [x]) = (D[x.val]).f0 := by unfold lastOf; simp
theorem last_rise {D : GL} {ord : List (Fin D.length)} (h1 : ord.Pairwise fun i k => (D[i.val]).f0 < (D[k.val]).f0) (h2 : ∀ i : Fin D.length, 0 < (D[i.val]).f0) (pre : List (Fin D.length)) (x : Fin D.length) (h : pre ++ [x] <+: ord) : lastOf D pre < (D[x.val]).f0 := by
  have h3 := h1.sublist h.sublist
  unfold lastOf
  cases hg : pre.getLast? with
  | none => exact h2 x
  | some y =>
    have hy : y ∈ pre := List.mem_of_getLast? hg
    exact (List.pairwise_append.1 h3).2.2 y hy x (List.mem_singleton.2 rfl)
section
attribute [local go_sem] Oper.semAt_some
set_option maxRecDepth 100000 in
set_option maxHeartbeats 8000000 in
theorem ConfTurned_main (k : Nat) (ram slice : Nat) (A : Option Addr) (c : Nat) (l : GL) (I K : Int) (hI : (Lit.int .i64 I).wf = true) (hK : (Lit.int .i64 K).wf = true) (w : World) (hr : Kd.C k53 w A l.length l) (hc : l.length ≤ c) (ok : okL l) (hram : ram < 18446744073709551616) (hslice : slice < 18446744073709551616)
    (hawake : mezzaninelaw25_awake.f k = some true)
    (h0 : 0 < l.length) (h100 : l.length ≤ 100) (i j : Nat) (hin : i < l.length) (hjn : j < l.length) (hii : (wrap64 (I.tmod (l.length : Int) + (l.length : Int))).tmod (l.length : Int) = (i : Int)) (hjj : (wrap64 (K.tmod (l.length : Int) + (l.length : Int))).tmod (l.length : Int) = (j : Int))
    (D : GL) (hD : D = (l.set i l[j]).set j l[i]) (m e m2 e2 m3 fr : Int) (acc : Bool) (hcheck : conf_Check.f k (ram : Int) (slice : Int) l = some (m, e)) (hcheckd : conf_Check.f k (ram : Int) (slice : Int) D = some (m2, e2)) (hee : e = 0 ↔ e2 = 0)
    (hfree : e = 0 → conf_Free.f k (ram : Int) (slice : Int) l = some fr) (hfreed : e = 0 → conf_Free.f k (ram : Int) (slice : Int) D = some fr) (hacc : conf_accepted.f k (ram : Int) (slice : Int) D = some acc) (hacc2 : acc = true ↔ e = 0) (h12 : acc = true → D.length ≤ 12 ∧ 0 < D.length)
    (hrise : e = 0 → ∀ ord : List (Fin D.length), OrdOk true D ord → (ord.Pairwise fun i k => (D[i.val]).f0 < (D[k.val]).f0) ∧ ∀ i : Fin D.length, 0 < (D[i.val]).f0)
    (hless : e = 0 → 1 < l.length → conf_Check.f k (ram : Int) (slice : Int) (l.take i ++ l.drop (i + 1)) = some (m3, 0) ∧ conf_Free.f k (ram : Int) (slice : Int) (l.take i ++ l.drop (i + 1)) = some (IntKind.u64.wrap (fr + (l[i]).f1))) :
    Calls Try.prog 8 #[.agg #[.int .u64 ram, .int .u64 slice, .slice A l.length c], .int .i64 I, .int .i64 K] w fun e w' => e = .returned (.bool true) ∧ Below w.heap.size w w' := by
  have HR := Lib.hid hr
  have HC := Lib.hid hc
  have HCK := Lib.hid hcheck
  have HCD := Lib.hid hcheckd
  have HEE := Lib.hid hee
  have HF := Lib.hid hfree
  have HFD := Lib.hid hfreed
  have HAC := Lib.hid hacc
  have HA2 := Lib.hid hacc2
  have H12 := Lib.hid h12
  have HRS := Lib.hid hrise
  have HLS := Lib.hid hless
  have HDD := Lib.hid hD
  have HA := Lib.hid hawake
  have OK := Lib.hid ok
  have HI := Lib.hid hI
  have HK := Lib.hid hK
  obtain ⟨R, hR⟩ : ∃ R : Int, R = (ram : Int) := ⟨_, rfl⟩
  obtain ⟨S, hS⟩ : ∃ S : Int, S = (slice : Int) := ⟨_, rfl⟩
  rw [← hR, ← hS] at HCK HCD HF HFD HAC HLS ⊢
  obtain ⟨n, hn⟩ : ∃ n, n = l.length := ⟨_, rfl⟩
  have H0 := Lib.hid h0
  have H100 := Lib.hid h100
  have HIN := Lib.hid hin
  have HJN := Lib.hid hjn
  have HII := Lib.hid hii
  have HJJ := Lib.hid hjj
  clear h0 h100 hii hjj
  rw [← hn] at H0 H100 HIN HJN HII HJJ ⊢
  have HN := Lib.hid hn
  have HRR := Lib.hid hR
  have HSS := Lib.hid hS
  clear hcheck hcheckd hee hfree hfreed hacc hacc2 h12 hrise hless hD hr hc hawake hI hK hR hS ok hn
  have hro : Fence.wide.round = none := rfl
  obtain ⟨wA, hwA⟩ : ∃ wA, wA = (w.alloc (.cells #[.int .u64 R, .int .u64 S, .slice A n c] 25)).alloc (.cells #[.bool false] 4) := ⟨_, rfl⟩
  have hbA : Below w.heap.size w wA := by rw [hwA]; exact ((Below.refl _ w).alloc (Nat.le_refl _) _).alloc (by simp) _
  have e1 : Blk wA w.heap.size 25 #[.int .u64 R, .int .u64 S, .slice A n c] := by rw [hwA]; exact (Blk.new w _ _).alloc _
  have e2 : Blk wA (w.heap.size + 1) 4 #[.bool false] := by
    have := Blk.new (w.alloc (.cells #[.int .u64 R, .int .u64 S, .slice A n c] 25)) 4 #[.bool false]
    rw [World.size_alloc] at this
    rw [hwA]; exact this
  have hszA : wA.heap.size = w.heap.size + 2 := by rw [hwA]; simp
  have E1 := Lib.hid e1
  have E2 := Lib.hid e2
  have BA := Lib.hid hbA
  have ZA := Lib.hid hszA
  have WA := Lib.hid hwA
  clear hbA e1 e2 hszA hwA
  refine (callsIn_wide (n := 6)).1 ?_
  refine callsIn_of_wp_marks Try.func8 rfl trivial ?_ hro
  simp only [Try.ntmps8, List.size_toArray, List.length_cons, List.length_nil, Nat.reduceAdd, Nat.reduceSub, Array.replicate_succ, Array.replicate_zero, List.push_toArray, List.append_toArray, List.nil_append, List.cons_append]
  refine wpIn_wide.2 ?_
  refine Code.wp_mono (Q := calmQ _) (fun e a w h => calm_le h) ?_
  go_wp2_with fail
  rw [← WA.out]
  refine (mezzaninelaw25_awake.calls k true _ HA.out).mono ?_
  rintro e1 w2 ⟨rfl, hb2⟩
  have hE3 : Blk w2 w.heap.size 25 #[.int .u64 R, .int .u64 S, .slice A n c] := (hb2.block _ E1.out.lt).trans E1.out
  have hE4 : Blk w2 (w.heap.size + 1) 4 #[.bool false] := (hb2.block _ E2.out.lt).trans E2.out
  have E3 := Lib.hid hE3
  have E4 := Lib.hid hE4
  have B2 := Lib.hid (BA.out.trans (hb2.mono BA.out.size))
  have c0 : w2.cell? ⟨w.heap.size, 0, none⟩ = some (.int .u64 R) := hE3.cell 0
  have c1 : w2.cell? ⟨w.heap.size, 1, none⟩ = some (.int .u64 S) := hE3.cell 1
  have c2 : w2.cell? ⟨w.heap.size, 2, none⟩ = some (.slice A n c) := hE3.cell 2
  have r0 : w2.cell? ⟨w.heap.size + 1, 0, none⟩ = some (.bool false) := hE4.cell 0
  have f0 := hE4.free
  have hs2 : w.heap.size + 2 ≤ w2.heap.size := by have := hb2.size; have := ZA.out; omega
  have S2 := Lib.hid hs2
  clear hb2 hE3 hE4 hs2 E1 E2 BA WA ZA
  have hlen := H100.out
  have hpos := H0.out
  have hin := HIN.out
  have hjn := HJN.out
  have g1 : decide (100 < (n : Int)) = false := decide_eq_false (by omega)
  have g2 : ((n : Int) == 0) = false := by simp; omega
  have hi := HII.out
  have hj := HJJ.out
  go_wp2_with fail
  rw [HN.out]
  refine (conf_Check.calls k R S A c l m e _ (Kd.C_below HR.out B2.out) HC.out HCK.out).mono ?_
  rintro e1 w3 ⟨rfl, hb3⟩
  rw [← HN.out]
  obtain ⟨bd, hbd⟩ : ∃ bd, bd = w3.heap.size := ⟨_, rfl⟩
  have hE3 : Blk w3 w.heap.size 25 #[.int .u64 R, .int .u64 S, .slice A n c] := (hb3.block _ E3.out.lt).trans E3.out
  have hE4 : Blk w3 (w.heap.size + 1) 4 #[.bool false] := (hb3.block _ E4.out.lt).trans E4.out
  obtain ⟨wB, hwB⟩ : ∃ wB, wB = (w3.alloc (.cells #[.int .u64 R, .int .u64 S, .slice A n c] 25)).alloc (.cells #[] 53) := ⟨_, rfl⟩
  have hE5 : Blk wB w.heap.size 25 #[.int .u64 R, .int .u64 S, .slice A n c] := by rw [hwB]; exact (hE3.alloc _).alloc _
  have hE6 : Blk wB (w.heap.size + 1) 4 #[.bool false] := by rw [hwB]; exact (hE4.alloc _).alloc _
  have hE7 : Blk wB bd 25 #[.int .u64 R, .int .u64 S, .slice A n c] := by rw [hwB, hbd]; exact (Blk.new w3 _ _).alloc _
  have hO7 : Own wB 53 2 (.slice (some ⟨bd + 1, 0, none⟩) 0 0) 0 [] (One (bd + 1)) := by
    refine ⟨by simp, .inr ⟨bd + 1, 0, 0, #[], rfl, rfl, ?_, Nat.le_refl _, by unfold maxLen; omega, by simp, .inl ⟨rfl, rfl⟩, fun j hj => by simp at hj⟩⟩
    have := Blk.new (w3.alloc (.cells #[.int .u64 R, .int .u64 S, .slice A n c] 25)) 53 #[]
    rw [World.size_alloc, ← hbd] at this
    rw [hwB]; exact this
  have hbB : Below w.heap.size w wB := by rw [hwB]; exact ((B2.out.trans (hb3.mono B2.out.size)).alloc (Nat.le_trans B2.out.size hb3.size) _).alloc (by simp; have := B2.out.size; have := hb3.size; omega) _
  have hsB : wB.heap.size = bd + 2 := by rw [hwB, hbd]; simp
  have hbdl : w.heap.size + 2 ≤ bd := by have := S2.out; have := hb3.size; omega
  have k0 : w3.cell? ⟨w.heap.size, 0, none⟩ = some (.int .u64 R) := hE3.cell 0
  have k1 : w3.cell? ⟨w.heap.size, 1, none⟩ = some (.int .u64 S) := hE3.cell 1
  have k2 : w3.cell? ⟨w.heap.size, 2, none⟩ = some (.slice A n c) := hE3.cell 2
  have kb : ((w3.alloc (.cells #[.int .u64 R, .int .u64 S, .slice A n c] 25)).alloc (.cells #[] 53)).cell? ⟨w.heap.size, 2, none⟩ = some (.slice A n c) := by rw [← hwB]; exact hE5.cell 2
  have kb' : (w3.alloc (.cells #[.int .u64 R, .int .u64 S, .slice A n c] 25)).cell? ⟨w.heap.size, 2, none⟩ = some (.slice A n c) := (hE3.alloc _).cell 2
  have hcC := fun (hp : 0 < n) => row_cells (Kd.C_below HR.out hbB) (by rw [← HN.out]; exact hp)
  have E5 := Lib.hid hE5
  have E6 := Lib.hid hE6
  have E7 := Lib.hid hE7
  have O7 := Lib.hid hO7
  have B5 := Lib.hid hbB
  have SB := Lib.hid hsB
  have BD := Lib.hid hbdl
  have CC := Lib.hid hcC
  have WB := Lib.hid hwB
  have HBD := Lib.hid hbd
  clear hb3 hE3 hE4 hE5 hE6 hE7 hO7 hbB hsB hbdl hcC hwB E3 E4 B2 S2 c0 c1 c2 r0 f0 hbd
  obtain ⟨i0, hi0, hz0, hz1, hz2⟩ := info_parts (show (Try.prog.info? 53).map (fun i => (i.zero, i.size, i.bytes)) = some (some (.agg #[(.int .u64 0), (.int .u64 0)]), 2, 16) from by kernel_rfl)
  have Q0 := Lib.hid hi0
  have Q1 := Lib.hid hz0
  have Q2 := Lib.hid hz1
  have Q3 := Lib.hid hz2
  clear hi0 hz0 hz1 hz2
  go_wp2_with
   (at_builtin
    rw [← HBD.out]
    rw [← WB.out]
    refine wpList_append_cells rfl (.tmp 55) (.tmp 57) _ rfl 53 i0 _ 2 16 Try.underlying23 Q0.out Q1.out Q2.out Q3.out rfl _ 0 [] (One (bd + 1)) rfl O7.out _ n c (gcells l) rfl CC.out (by rw [gcells_len, HN.out]) (gcells_one l) (by unfold maxLen; omega) (by omega) ?_
    intro v1 w4 hown4 hf4
    rw [Nat.zero_add, List.nil_append] at hown4
    obtain ⟨g, o, cap, rfl, hn4, hm4, _, _, _, _⟩ := hown4.at_ (by omega)
    have hE8 := E7.out.fr hf4 (fun h => by have h2 : bd = bd + 1 := h; omega)
    have d0 : w4.cell? ⟨bd, 0, none⟩ = some (.int .u64 R) := hE8.cell 0
    have d1 : w4.cell? ⟨bd, 1, none⟩ = some (.int .u64 S) := hE8.cell 1
    have d2 : w4.cell? ⟨bd, 2, none⟩ = some (.slice A n c) := hE8.cell 2
    have fd := hE8.free
    have E8 := Lib.hid hE8
    have O8 := Lib.hid hown4
    have F8 := Lib.hid hf4
    clear hE8 hown4 hf4)
  obtain ⟨w5, hw5⟩ : ∃ w5, w5 = w4.setCell ⟨bd, 2, none⟩ (.slice (some ⟨g, o, none⟩) n cap) := ⟨_, rfl⟩
  rw [← hw5]
  have hT5 : TuAt w w5 bd #[.int .u64 R, .int .u64 S, .slice A n c] false R S (.slice (some ⟨g, o, none⟩) n cap) n l := by
    have z1 := BD.out
    have z2 := SB.out
    rw [hw5]
    refine ⟨(E5.out.fr F8.out (fun h => by have h2 : w.heap.size = bd + 1 := h; omega)).far (show w.heap.size ≠ bd by omega) _, (E6.out.fr F8.out (fun h => by have h2 : w.heap.size + 1 = bd + 1 := h; omega)).far (show w.heap.size + 1 ≠ bd by omega) _, E8.out.put 2 _, ?_, ?_, z1⟩
    · refine (O8.out.fr (Fr.put w4 bd 2 _) (fun k hk h => ?_)).mono (fun k hk => ?_)
      · have h2 : k = bd := h
        rcases hk with hk | hk
        · have h3 : k = bd + 1 := hk
          omega
        · omega
      · rcases hk with hk | hk
        · have h3 : k = bd + 1 := hk
          omega
        · omega
    · exact (B5.out.trans (F8.out.below (B := w.heap.size) B5.out.size (fun k hk h => by have h2 : k = bd + 1 := h; omega))).setCell (p := ⟨bd, 2, none⟩) (by show w.heap.size ≤ bd; omega) _
  have T5 := Lib.hid hT5
  clear hT5 hw5 E5 E6 E7 E8 O7 O8 B5 SB CC WB HBD F8 d0 d1 d2 fd k0 k1 k2 kb kb' Q0 Q1 Q2 Q3
  -- the first guest is stored
  have hil : i < l.length := by have := HN.out; omega
  have hjl : j < l.length := by have := HN.out; omega
  obtain ⟨xi, yi, p1, _, _, p2, _⟩ := OK.out.get hil
  obtain ⟨xj, yj, p3, _, _, p4, _⟩ := OK.out.get hjl
  obtain ⟨ga, oa, rfl, _, u1, u2⟩ := bars_cells (Kd.C_below HR.out T5.out.b) OK.out j hjl
  have p5 : (l.map toCG).getD j ⟨0, 0⟩ = ⟨xj, yj⟩ := by rw [List.getD_eq_getElem?_getD, p4]; rfl
  rw [p5] at u1 u2
  simp only at u1 u2
  have c2 : w5.cell? ⟨w.heap.size, 2, none⟩ = some (.slice (some ⟨ga, oa, none⟩) n c) := T5.out.c.cell 2
  have t2 : w5.cell? ⟨bd, 2, none⟩ = some (.slice (some ⟨g, o, none⟩) n cap) := T5.out.d.cell 2
  obtain ⟨g', o', cap', hv, _, _, _, _, hcell, hfro⟩ := T5.out.f.at_ (by omega)
  injection hv with e1 _ e3
  injection e1 with e1
  injection e1 with e1 e2 _
  subst e1 e2 e3
  have v1 : w5.cell? ⟨g, o + i * 2, none⟩ = some (.int .u64 (l[i]).f0) := hcell _ _ (gcells_get hil).1
  have v2 : w5.cell? ⟨g, o + i * 2 + 1, none⟩ = some (.int .u64 (l[i]).f1) := hcell _ _ (gcells_get hil).2
  clear hcell
  go_region
  have hT6 := T5.out.set i (by omega) l[j]
  rw [p3] at hT6
  simp only at hT6
  obtain ⟨w6, hw6⟩ : ∃ w6, w6 = ((w5.setCell ⟨g, o + i * 2, none⟩ (.int .u64 (xj : Int))).setCell ⟨g, o + i * 2 + 1, none⟩ (.int .u64 (yj : Int))).drew := ⟨_, rfl⟩
  rw [← hw6] at hT6 ⊢
  rw [← p3] at hT6
  have T6 := Lib.hid hT6
  clear hT6 hw6 T5 u1 u2 v1 v2 c2 t2 hfro p5
  go_wp2_with fail
  -- the second guest is stored
  obtain ⟨ga', oa', hAe', _, u1, u2⟩ := bars_cells (Kd.C_below HR.out T6.out.b) OK.out i hil
  have hga : ga' = ga ∧ oa' = oa := by injection hAe' with q; injection q with q1 q2 _; exact ⟨q1.symm, q2.symm⟩
  obtain ⟨rfl, rfl⟩ := hga
  have p5 : (l.map toCG).getD i ⟨0, 0⟩ = ⟨xi, yi⟩ := by rw [List.getD_eq_getElem?_getD, p2]; rfl
  rw [p5] at u1 u2
  simp only at u1 u2
  have c2 : w6.cell? ⟨w.heap.size, 2, none⟩ = some (.slice (some ⟨ga', oa', none⟩) n c) := T6.out.c.cell 2
  have t2 : w6.cell? ⟨bd, 2, none⟩ = some (.slice (some ⟨g, o, none⟩) n cap) := T6.out.d.cell 2
  obtain ⟨g', o', cap', hv, _, _, _, _, hcell, hfro⟩ := T6.out.f.at_ (by omega)
  injection hv with e1 _ e3
  injection e1 with e1
  injection e1 with e1 e2 _
  subst e1 e2 e3
  have hjs : j < (l.set i l[j]).length := by rw [List.length_set]; exact hjl
  have v1 : w6.cell? ⟨g, o + j * 2, none⟩ = some (.int .u64 ((l.set i l[j])[j]).f0) := hcell _ _ (gcells_get hjs).1
  have v2 : w6.cell? ⟨g, o + j * 2 + 1, none⟩ = some (.int .u64 ((l.set i l[j])[j]).f1) := hcell _ _ (gcells_get hjs).2
  obtain ⟨s0, hs0⟩ : ∃ s0, s0 = ((l.set i l[j])[j]).f0 := ⟨_, rfl⟩
  obtain ⟨s1, hs1⟩ : ∃ s1, s1 = ((l.set i l[j])[j]).f1 := ⟨_, rfl⟩
  rw [← hs0] at v1
  rw [← hs1] at v2
  clear hcell hs0 hs1
  go_region
  have hT7 := T6.out.set j (by omega) l[i]
  rw [p1] at hT7
  simp only at hT7
  obtain ⟨w7, hw7⟩ : ∃ w7, w7 = ((w6.setCell ⟨g, o + j * 2, none⟩ (.int .u64 (xi : Int))).setCell ⟨g, o + j * 2 + 1, none⟩ (.int .u64 (yi : Int))).drew := ⟨_, rfl⟩
  rw [← hw7] at hT7 ⊢
  rw [← p1, ← HDD.out] at hT7
  have T7 := Lib.hid hT7
  have hlD : D.length = n := by rw [HDD.out, List.length_set, List.length_set]; exact HN.out.symm
  have HLD := Lib.hid hlD
  have d0 : w7.cell? ⟨bd, 0, none⟩ = some (.int .u64 R) := hT7.d.cell 0
  have d1 : w7.cell? ⟨bd, 1, none⟩ = some (.int .u64 S) := hT7.d.cell 1
  have d2 : w7.cell? ⟨bd, 2, none⟩ = some (.slice (some ⟨g, o, none⟩) n cap) := hT7.d.cell 2
  clear hT7 hw7 T6 u1 u2 v1 v2 c2 t2 hfro p5 hlD
  go_wp2_with fail
  rw [← HLD.out]
  refine (conf_Check.calls k R S (some ⟨g, o, none⟩) cap D m2 e2 _ (T7.out.kd HLD.out).1 (T7.out.kd HLD.out).2 HCD.out).mono ?_
  rintro e1 w8 ⟨rfl, hb8⟩
  rw [HLD.out]
  have T8 := Lib.hid (T7.out.step hb8)
  clear hb8 T7 d0 d1 d2 p1 p2 p3 p4 hjs hil hjl
  go_upto_region 14 with fail
  go_cut [98] from 83 to 99 (fun v W' => v = .bool false ∧ Hid (TuAt w W' bd #[.int .u64 R, .int .u64 S, .slice (some ⟨ga', oa', none⟩) n c] false R S (.slice (some ⟨g, o, none⟩) n cap) n D))
  case first =>
    have T9 := Lib.hid (T8.out.drew)
    refine wp_region_held_drew (S := fun W' => W'.cell? ⟨w.heap.size, 0, none⟩ = some (.int .u64 R) ∧ W'.cell? ⟨w.heap.size, 1, none⟩ = some (.int .u64 S) ∧ W'.cell? ⟨w.heap.size, 2, none⟩ = some (.slice (some ⟨ga', oa', none⟩) n c) ∧ W'.cell? ⟨bd, 0, none⟩ = some (.int .u64 R) ∧ W'.cell? ⟨bd, 1, none⟩ = some (.int .u64 S) ∧ W'.cell? ⟨bd, 2, none⟩ = some (.slice (some ⟨g, o, none⟩) n cap)) (by kernel_rfl) ⟨T9.out.c.cell 0, T9.out.c.cell 1, T9.out.c.cell 2, T9.out.d.cell 0, T9.out.d.cell 1, T9.out.d.cell 2⟩ (fun hHeld => ?_)
    by_cases he : e = 0
    · have he2 := HEE.out.1 he
      have HF2 := Lib.hid (HF.out he)
      have HFD2 := Lib.hid (HFD.out he)
      subst he he2
      refine' tkG (i := 0) (v := _) (by rfl) (by kernel_rfl) (by kernel_rfl) (by kernel_rfl) (fun _ _ _ h => h) (by rfl) ?hy1 (by assumption) ?rest1
      case hy1 => (intro wq hSq; (try dsimp only at hSq); go_simp; try with_reducible rfl)
      simp only [Act.put, List.setIfInBounds_toArray, List.set_cons_zero, List.set_cons_succ]
      refine' tkG (i := 1) (v := _) (by rfl) (by kernel_rfl) (by kernel_rfl) (by kernel_rfl) (fun _ _ _ h => h) (by rfl) ?hy2 (by assumption) ?rest2
      case hy2 => (intro wq hSq; (try dsimp only at hSq); go_simp; try with_reducible rfl)
      simp only [Act.put, List.setIfInBounds_toArray, List.set_cons_zero, List.set_cons_succ]
      refine' tkG (i := 2) (v := _) (by rfl) (by kernel_rfl) (by kernel_rfl) (by kernel_rfl) (fun _ _ _ h => h) (by rfl) ?hy3 (by assumption) ?rest3
      case hy3 => (intro wq hSq; (try dsimp only at hSq); go_simp; try with_reducible rfl)
      simp only [Act.put, List.setIfInBounds_toArray, List.set_cons_zero, List.set_cons_succ]
      refine' tkG (i := 3) (v := _) (by rfl) (by kernel_rfl) (by kernel_rfl) (by kernel_rfl) (fun _ _ _ h => h) (by rfl) ?hy4 (by assumption) ?rest4
      case hy4 => (intro wq hSq; (try dsimp only at hSq); go_simp; try with_reducible rfl)
      simp only [Act.put, List.setIfInBounds_toArray, List.set_cons_zero, List.set_cons_succ]
      refine' tkG (i := 4) (v := _) (by rfl) (by kernel_rfl) (by kernel_rfl) (by kernel_rfl) (fun _ _ _ h => h) (by rfl) ?hy5 (by assumption) ?rest5
      case hy5 => (intro wq hSq; (try dsimp only at hSq); go_simp; try with_reducible rfl)
      simp only [Act.put, List.setIfInBounds_toArray, List.set_cons_zero, List.set_cons_succ]
      refine' tkG (i := 5) (v := _) (by rfl) (by kernel_rfl) (by kernel_rfl) (by kernel_rfl) (fun _ _ _ h => h) (by rfl) ?hy6 (by assumption) ?rest6
      case hy6 => (intro wq hSq; (try dsimp only at hSq); go_simp; try with_reducible rfl)
      simp only [Act.put, List.setIfInBounds_toArray, List.set_cons_zero, List.set_cons_succ]
      refine' tkG (i := 6) (v := _) (by rfl) (by kernel_rfl) (by kernel_rfl) (by kernel_rfl) (fun _ _ _ h => h) (by rfl) ?hy7 (by assumption) ?rest7
      case hy7 => (intro wq hSq; (try dsimp only at hSq); go_simp; try with_reducible rfl)
      simp only [Act.put, List.setIfInBounds_toArray, List.set_cons_zero, List.set_cons_succ]
      refine' tkG (i := 7) (v := _) (by rfl) (by kernel_rfl) (by kernel_rfl) (by kernel_rfl) (fun _ _ _ h => h) (by rfl) ?hy8 (by assumption) ?rest8
      case hy8 => (intro wq hSq; (try dsimp only at hSq); go_simp; try with_reducible rfl)
      simp only [Act.put, List.setIfInBounds_toArray, List.set_cons_zero, List.set_cons_succ]
      refine' tkG (i := 8) (v := _) (by rfl) (by kernel_rfl) (by kernel_rfl) (by kernel_rfl) (fun _ _ _ h => h) (by rfl) ?hy9 (by assumption) ?rest9
      case hy9 => (intro wq hSq; (try dsimp only at hSq); go_simp; try with_reducible rfl)
      simp only [Act.put, List.setIfInBounds_toArray, List.set_cons_zero, List.set_cons_succ]
      refine' tkG (i := 9) (v := _) (by rfl) (by kernel_rfl) (by kernel_rfl) (by kernel_rfl) (fun _ _ _ h => h) (by rfl) ?hy10 (by assumption) ?rest10
      case hy10 => (intro wq hSq; (try dsimp only at hSq); go_simp; try with_reducible rfl)
      simp only [Act.put, List.setIfInBounds_toArray, List.set_cons_zero, List.set_cons_succ]
      refine' tkG (i := 11) (v := _) (by rfl) (by kernel_rfl) (by kernel_rfl) (by kernel_rfl) (fun _ _ _ h => h) (by rfl) ?hy11 (by assumption) ?rest11
      case hy11 => (intro wq hSq; (try dsimp only at hSq); go_simp; try with_reducible rfl)
      simp only [Act.put, List.setIfInBounds_toArray, List.set_cons_zero, List.set_cons_succ]
      refine wpAnyH_ready (rs := [10]) (by kernel_rfl) (by simp) ?_
      refine AllReadyH.cons rfl (fun K hK => ?_) AllReadyH.nil
      go_simp
      rw [HN.out]
      refine (conf_Free.calls k R S (some ⟨ga', oa', none⟩) c l fr _ (Kd.C_below HR.out T9.out.b) HC.out HF2.out).mono ?_
      rintro e1 w10 ⟨rfl, hb12⟩
      rw [← HN.out]
      have T10 := Lib.hid (T9.out.step hb12)
      clear hb12
      go_simp
      refine hK.out _ _ ⟨T10.out.c.cell 0, T10.out.c.cell 1, T10.out.c.cell 2, T10.out.d.cell 0, T10.out.d.cell 1, T10.out.d.cell 2⟩ (fun hHeld => ?_)
      clear hK K
      try simp only [List.setIfInBounds_toArray, List.set_cons_zero, List.set_cons_succ]
      refine wpAnyH_ready (rs := [12]) (by kernel_rfl) (by simp) ?_
      refine AllReadyH.cons rfl (fun K hK => ?_) AllReadyH.nil
      go_simp
      rw [← HLD.out]
      refine (conf_Free.calls k R S (some ⟨g, o, none⟩) cap D fr _ (T10.out.kd HLD.out).1 (T10.out.kd HLD.out).2 HFD2.out).mono ?_
      rintro e1 w11 ⟨rfl, hb13⟩
      rw [HLD.out]
      have T11 := Lib.hid (T10.out.step hb13)
      clear hb13
      go_simp
      refine hK.out _ _ ⟨T11.out.c.cell 0, T11.out.c.cell 1, T11.out.c.cell 2, T11.out.d.cell 0, T11.out.d.cell 1, T11.out.d.cell 2⟩ (fun hHeld => ?_)
      clear hK K
      try simp only [List.setIfInBounds_toArray, List.set_cons_zero, List.set_cons_succ]
      refine' tkG (i := 13) (v := _) (by rfl) (by kernel_rfl) (by kernel_rfl) (by kernel_rfl) (fun _ _ _ h => h) (by rfl) ?hy14 (by assumption) ?rest14
      case hy14 => (intro wq hSq; (try dsimp only at hSq); go_simp; try with_reducible rfl)
      simp only [Act.put, List.setIfInBounds_toArray, List.set_cons_zero, List.set_cons_succ]
      refine' tkG (i := 14) (v := _) (by rfl) (by kernel_rfl) (by kernel_rfl) (by kernel_rfl) (fun _ _ _ h => h) (by rfl) ?hy15 (by assumption) ?rest15
      case hy15 => (intro wq hSq; (try dsimp only at hSq); go_simp; try with_reducible rfl)
      simp only [Act.put, List.setIfInBounds_toArray, List.set_cons_zero, List.set_cons_succ]
      refine' tkG (i := 15) (v := _) (by rfl) (by kernel_rfl) (by kernel_rfl) (by kernel_rfl) (fun _ _ _ h => h) (by rfl) ?hy16 (by assumption) ?rest16
      case hy16 => (intro wq hSq; (try dsimp only at hSq); go_simp; try with_reducible rfl)
      simp only [Act.put, List.setIfInBounds_toArray, List.set_cons_zero, List.set_cons_succ]
      refine wpAnyH_done (by kernel_rfl) ?_ _
      go_wp2_with fail
      go_meet
      exact ⟨rfl, T11⟩
    · have e1 : (e == 0) = false := by simpa using he
      have e2 : (e2 == 0) = false := by have := HEE.out; simp; omega
      refine' tkG (i := 0) (v := _) (by rfl) (by kernel_rfl) (by kernel_rfl) (by kernel_rfl) (fun _ _ _ h => h) (by rfl) ?hy17 (by assumption) ?rest17
      case hy17 => (intro wq hSq; (try dsimp only at hSq); go_simp; try with_reducible rfl)
      simp only [Act.put, List.setIfInBounds_toArray, List.set_cons_zero, List.set_cons_succ]
      refine' tkG (i := 1) (v := _) (by rfl) (by kernel_rfl) (by kernel_rfl) (by kernel_rfl) (fun _ _ _ h => h) (by rfl) ?hy18 (by assumption) ?rest18
      case hy18 => (intro wq hSq; (try dsimp only at hSq); go_simp; try with_reducible rfl)
      simp only [Act.put, List.setIfInBounds_toArray, List.set_cons_zero, List.set_cons_succ]
      refine' tkG (i := 2) (v := _) (by rfl) (by kernel_rfl) (by kernel_rfl) (by kernel_rfl) (fun _ _ _ h => h) (by rfl) ?hy19 (by assumption) ?rest19
      case hy19 => (intro wq hSq; (try dsimp only at hSq); go_simp; try with_reducible rfl)
      simp only [Act.put, List.setIfInBounds_toArray, List.set_cons_zero, List.set_cons_succ]
      refine' tkG (i := 3) (v := _) (by rfl) (by kernel_rfl) (by kernel_rfl) (by kernel_rfl) (fun _ _ _ h => h) (by rfl) ?hy20 (by assumption) ?rest20
      case hy20 => (intro wq hSq; (try dsimp only at hSq); go_simp; try with_reducible rfl)
      simp only [Act.put, List.setIfInBounds_toArray, List.set_cons_zero, List.set_cons_succ]
      refine' tkG (i := 4) (v := _) (by rfl) (by kernel_rfl) (by kernel_rfl) (by kernel_rfl) (fun _ _ _ h => h) (by rfl) ?hy21 (by assumption) ?rest21
      case hy21 => (intro wq hSq; (try dsimp only at hSq); go_simp; try with_reducible rfl)
      simp only [Act.put, List.setIfInBounds_toArray, List.set_cons_zero, List.set_cons_succ]
      refine' tkG (i := 5) (v := _) (by rfl) (by kernel_rfl) (by kernel_rfl) (by kernel_rfl) (fun _ _ _ h => h) (by rfl) ?hy22 (by assumption) ?rest22
      case hy22 => (intro wq hSq; (try dsimp only at hSq); go_simp; try with_reducible rfl)
      simp only [Act.put, List.setIfInBounds_toArray, List.set_cons_zero, List.set_cons_succ]
      refine' tkG (i := 6) (v := _) (by rfl) (by kernel_rfl) (by kernel_rfl) (by kernel_rfl) (fun _ _ _ h => h) (by rfl) ?hy23 (by assumption) ?rest23
      case hy23 => (intro wq hSq; (try dsimp only at hSq); go_simp; try with_reducible rfl)
      simp only [Act.put, List.setIfInBounds_toArray, List.set_cons_zero, List.set_cons_succ]
      refine' tkG (i := 7) (v := _) (by rfl) (by kernel_rfl) (by kernel_rfl) (by kernel_rfl) (fun _ _ _ h => h) (by rfl) ?hy24 (by assumption) ?rest24
      case hy24 => (intro wq hSq; (try dsimp only at hSq); go_simp; try with_reducible rfl)
      simp only [Act.put, List.setIfInBounds_toArray, List.set_cons_zero, List.set_cons_succ]
      refine' tkG (i := 8) (v := _) (by rfl) (by kernel_rfl) (by kernel_rfl) (by kernel_rfl) (fun _ _ _ h => h) (by rfl) ?hy25 (by assumption) ?rest25
      case hy25 => (intro wq hSq; (try dsimp only at hSq); go_simp; try with_reducible rfl)
      simp only [Act.put, List.setIfInBounds_toArray, List.set_cons_zero, List.set_cons_succ]
      refine' tkU (i := 9) (by rfl) (by kernel_rfl) (by kernel_rfl) (by kernel_rfl) (fun _ _ _ h => h) (by rfl) (by assumption) ?rest26
      simp only [Act.put, List.setIfInBounds_toArray, List.set_cons_zero, List.set_cons_succ]
      refine' tkU (i := 10) (by rfl) (by kernel_rfl) (by kernel_rfl) (by kernel_rfl) (fun _ _ _ h => h) (by rfl) (by assumption) ?rest27
      simp only [Act.put, List.setIfInBounds_toArray, List.set_cons_zero, List.set_cons_succ]
      refine' tkU (i := 11) (by rfl) (by kernel_rfl) (by kernel_rfl) (by kernel_rfl) (fun _ _ _ h => h) (by rfl) (by assumption) ?rest28
      simp only [Act.put, List.setIfInBounds_toArray, List.set_cons_zero, List.set_cons_succ]
      refine' tkU (i := 12) (by rfl) (by kernel_rfl) (by kernel_rfl) (by kernel_rfl) (fun _ _ _ h => h) (by rfl) (by assumption) ?rest29
      simp only [Act.put, List.setIfInBounds_toArray, List.set_cons_zero, List.set_cons_succ]
      refine' tkU (i := 13) (by rfl) (by kernel_rfl) (by kernel_rfl) (by kernel_rfl) (fun _ _ _ h => h) (by rfl) (by assumption) ?rest30
      simp only [Act.put, List.setIfInBounds_toArray, List.set_cons_zero, List.set_cons_succ]
      refine' tkG (i := 14) (v := _) (by rfl) (by kernel_rfl) (by kernel_rfl) (by kernel_rfl) (fun _ _ _ h => h) (by rfl) ?hy31 (by assumption) ?rest31
      case hy31 => (intro wq hSq; (try dsimp only at hSq); go_simp; try with_reducible rfl)
      simp only [Act.put, List.setIfInBounds_toArray, List.set_cons_zero, List.set_cons_succ]
      refine' tkG (i := 15) (v := _) (by rfl) (by kernel_rfl) (by kernel_rfl) (by kernel_rfl) (fun _ _ _ h => h) (by rfl) ?hy32 (by assumption) ?rest32
      case hy32 => (intro wq hSq; (try dsimp only at hSq); go_simp; try with_reducible rfl)
      simp only [Act.put, List.setIfInBounds_toArray, List.set_cons_zero, List.set_cons_succ]
      refine wpAnyH_done (by kernel_rfl) ?_ _
      go_wp2_with fail
      go_meet
      exact ⟨rfl, T9⟩
  case rest =>
    obtain ⟨rfl, T12⟩ := hcut
    have hn0 := H0.out
    have hgl := T12.out.gl hn0
    obtain ⟨bl, hbl⟩ : ∃ bl, bl = wc.heap.size := ⟨_, rfl⟩
    have hzc : w.heap.size + 2 ≤ bl ∧ bd < bl ∧ g < bl ∧ w.heap.size + 2 ≤ g ∧ g ≠ bd ∧ w.heap.size + 2 ≤ bd := by rw [hbl]; exact ⟨by have := T12.out.d.lt; have := T12.out.h; omega, T12.out.d.lt, hgl.1, hgl.2.1, hgl.2.2, T12.out.h⟩
    have Z := Lib.hid hzc
    obtain ⟨wB2, hwB2⟩ : ∃ x, x = (wc.alloc (.cells #[.int .u64 0] 22)).alloc (.cells #[.int .i64 0] 3) := ⟨_, rfl⟩
    have T13 := Lib.hid (show TuAt w wB2 bd _ false R S _ n D from by rw [hwB2]; exact T12.out.step (((Below.refl _ wc).alloc (Nat.le_refl _) _).alloc (by simp) _))
    have L13 := Lib.hid (show Boxed wB2 bl 22 (.int .u64 0) from by rw [hwB2, hbl]; exact (Boxed.new wc _ _).alloc _)
    have N13 := Lib.hid (show Boxed wB2 (bl + 1) 3 (.int .i64 0) from by
      have := Boxed.new (wc.alloc (.cells #[.int .u64 0] 22)) 3 (.int .i64 0)
      rw [World.size_alloc] at this
      rw [hwB2, hbl]; exact this)
    have Z13 := Lib.hid (show wB2.heap.size = bl + 2 from by rw [hwB2, hbl]; simp)
    have WB2 := Lib.hid hwB2
    have HBL := Lib.hid hbl
    have k0 : ((wc.alloc (.cells #[.int .u64 0] 22)).alloc (.cells #[.int .i64 0] 3)).cell? ⟨bd, 0, none⟩ = some (.int .u64 R) := by rw [← hwB2]; exact T13.out.d.cell 0
    have k1 : ((wc.alloc (.cells #[.int .u64 0] 22)).alloc (.cells #[.int .i64 0] 3)).cell? ⟨bd, 1, none⟩ = some (.int .u64 S) := by rw [← hwB2]; exact T13.out.d.cell 1
    have k2 : ((wc.alloc (.cells #[.int .u64 0] 22)).alloc (.cells #[.int .i64 0] 3)).cell? ⟨bd, 2, none⟩ = some (.slice (some ⟨g, o, none⟩) n cap) := by rw [← hwB2]; exact T13.out.d.cell 2
    clear hgl hzc hwB2 hbl T12
    go_wp2_with fail
    rw [← WB2.out, ← HBL.out]
    rw [← HLD.out]
    refine (all_c k R S (some ⟨g, o, none⟩) cap D acc _ (T13.out.kd HLD.out).1 (T13.out.kd HLD.out).2 (by rw [HLD.out]; exact H100.out) HAC.out H12.out).mono ?_
    rintro e1 w14 ⟨Bo0, Bw0, ord0, rfl, _, _, hb14⟩
    rw [HLD.out]
    have T14 := Lib.hid (T13.out.step hb14)
    have L14 := Lib.hid (show Boxed w14 bl 22 (.int .u64 0) from (hb14.block _ L13.out.lt).trans L13.out)
    have N14 := Lib.hid (show Boxed w14 (bl + 1) 3 (.int .i64 0) from (hb14.block _ N13.out.lt).trans N13.out)
    have Z14 := Lib.hid (show bl + 2 ≤ w14.heap.size from by have := hb14.size; have := Z13.out; omega)
    have d0 : w14.cell? ⟨bd, 0, none⟩ = some (.int .u64 R) := T14.out.d.cell 0
    have d1 : w14.cell? ⟨bd, 1, none⟩ = some (.int .u64 S) := T14.out.d.cell 1
    have d2 : w14.cell? ⟨bd, 2, none⟩ = some (.slice (some ⟨g, o, none⟩) n cap) := T14.out.d.cell 2
    have hq := func_not_nil #[.pointer (some ⟨Bo0, 0, none⟩), .pointer (some ⟨Bw0, 0, none⟩)] w14
    clear k0 k1 k2 hb14 T13 L13 N13 Z13 WB2 HBL
    go_wp2_with fail
    rw [← HLD.out]
    refine (all_c k R S (some ⟨g, o, none⟩) cap D acc _ (T14.out.kd HLD.out).1 (T14.out.kd HLD.out).2 (by rw [HLD.out]; exact H100.out) HAC.out H12.out).mono ?_
    rintro e1 w15 ⟨Bo, Bw, ord, rfl, hall, hord, hb15⟩
    rw [HLD.out]
    have T15 := Lib.hid (T14.out.step hb15)
    have L15 := Lib.hid (show Boxed w15 bl 22 (.int .u64 0) from (hb15.block _ L14.out.lt).trans L14.out)
    have N15 := Lib.hid (show Boxed w15 (bl + 1) 3 (.int .i64 0) from (hb15.block _ N14.out.lt).trans N14.out)
    have Z15 := Lib.hid (show bl + 2 ≤ w14.heap.size ∧ w14.heap.size ≤ w15.heap.size from ⟨Z14.out, hb15.size⟩)
    have HALL := Lib.hid hall
    have HORD := Lib.hid hord
    clear d0 d1 d2 hq hb15 T14 L14 N14 Z14 hall hord
    go_wp2_with fail
    refine (wpIn_wide (n := 6)).1 ?_
    have hlen : ord.length ≤ 100 := by
      have h := HORD.out
      cases acc with
      | true => rw [h.1.length_eq, List.length_finRange, HLD.out]; exact H100.out
      | false => rw [show ord = [] from h]; simp
    have hrs : ∀ pre x, pre ++ [x] <+: ord → lastOf D pre < (D[x.val]).f0 := by
      have h := HORD.out
      have h2 := HA2.out
      have h3 := HRS.out
      cases acc with
      | true => exact last_rise (h3 (h2.1 rfl) ord h).1 (h3 (h2.1 rfl) ord h).2
      | false =>
        intro pre x hp
        rw [show ord = [] from h] at hp
        have := hp.length_le
        simp at this
    have HRISE := Lib.hid hrs
    have HLEN := Lib.hid hlen
    clear hrs hlen
    refine wpIn_range_boxed hro (by omega) (gf := 42) (lb := #[.pointer (some ⟨Bo, 0, none⟩), .pointer (some ⟨Bw, 0, none⟩)]) rfl trivial (enters_of Try.func42 (by kernel_rfl) rfl)
      (iter_stops2 Fence.wide 5 trivial hro (by omega) Bo Bw D ord _ w15 w14.heap.size (fun k hk => hk) HLEN.out HALL.out) (fun h k => KeepG.trans h k) (keepG_b (Nat.le_refl _)) (Below.refl _ _) (fun _ => rfl)
      (fun pre W => (∃ la cn : Int, Hid (pre <+: ord → la = lastOf D pre ∧ cn = (pre.length : Int)) ∧ Boxed W bl 22 (.int .u64 la) ∧ Boxed W (bl + 1) 3 (.int .i64 cn)) ∧ Fr (Or2 (One bl) (One (bl + 1))) w15 W)
      (fun c pre W => ¬ pre <+: ord)
      (OwnFrom.and (fun s X Y row hs hg hr => by
        obtain ⟨la, cn, h1, h2, h3⟩ := hs
        exact ⟨la, cn, h1, h2.kept hg (fun e => by obtain ⟨_, o, ho, hc⟩ := hr bl e.symm; rw [show X.heap[bl]? = _ from h2] at ho; cases ho; cases hc), h3.kept hg (fun e => by obtain ⟨_, o, ho, hc⟩ := hr (bl + 1) e.symm; rw [show X.heap[bl + 1]? = _ from h3] at ho; cases ho; cases hc)⟩) (ownFrom_fr (Nat.le_refl _)))
      (fun c => ownFrom_pure _ _)
      ⟨⟨0, 0, Lib.hid (fun _ => ⟨rfl, rfl⟩), L15.out, N15.out⟩, Fr.refl _ _⟩
      (fun pre W hp => hp.2.size) (fun W o h => fun k _ h2 => Below.heap_alloc W o k (by omega))
      53 (fun x => #[.int .u64 (D[x.val]).f0, .int .u64 (D[x.val]).f1]) (fun x Bx t => t.setIfInBounds 16 (.pointer (some ⟨Bx, 0, none⟩)))
      ?assign ?body ?done ?stop
    case assign =>
      intro lp x W K hK
      unfold encA at hK ⊢
      simp at hK
      gi_wp2
      exact hK
    case body =>
      rintro lp pre x Bx W hl ⟨rr, hrr⟩ ⟨⟨la, cn, hlc, bL, bN⟩, hF2⟩ hBx bX hlt
      have T16 := Lib.hid (T15.out.fr H0.out hF2 (fun k hk q => by have := Z.out; rcases q with q | q <;> (have q2 : k = _ := q; omega)))
      have cR : W.cell? ⟨w.heap.size + 1, 0, none⟩ = some (.bool false) := T16.out.r.cell 0
      have fR := T16.out.r.free
      have cL := bL.cell
      have fL := bL.frozen
      have cN := bN.cell
      have fN := bN.frozen
      have x0 : W.cell? ⟨Bx, 0, none⟩ = some (.int .u64 (D[x.val]).f0) := bX.cell 0
      have x1 : W.cell? ⟨Bx, 1, none⟩ = some (.int .u64 (D[x.val]).f1) := bX.cell 1
      have BL := Lib.hid bL
      have BN := Lib.hid bN
      have HF2 := Lib.hid hF2
      have HRX := Lib.hid (HRISE.out pre x)
      have HLA := Lib.hid (lastOf_app D pre x)
      have HLT := Lib.hid hlt
      obtain ⟨y0, hy0⟩ : ∃ y0, y0 = (D[x.val]).f0 := ⟨_, rfl⟩
      obtain ⟨y1, hy1⟩ : ∃ y1, y1 = (D[x.val]).f1 := ⟨_, rfl⟩
      rw [← hy0] at x0 HRX HLA
      rw [← hy1] at x1
      clear hy0 hy1 bL bN hF2 hlt bX hrr hBx
      unfold encA
      by_cases h1 : y0 ≤ la
      · gi_wp2
        refine ⟨(KeepsOthers.setCell _ _ _).from _, fun hp => ?_⟩
        have h2 := HRX.out hp
        have h3 := (hlc.out ((List.prefix_append pre [x]).trans hp)).1
        omega
      · gi_wp2
        refine ⟨((KeepsOthers.setCell _ _ _).trans (KeepsOthers.setCell _ _ _)).from _, KeepG.of_fr (S := Or2 (One bl) (One (bl + 1))) (((Fr.refl _ W).setCell (a := ⟨bl, 0, none⟩) (.inl (.inl rfl)) _).setCell (a := ⟨bl + 1, 0, none⟩) (.inl (.inr rfl)) _) HF2.out.size (fun k hk q => ?_), ⟨_, _, ?_, (BL.out.set _).other (by omega) _, (BN.out.other (by omega) _).set _⟩, (HF2.out.setCell (a := ⟨bl, 0, none⟩) (.inl (.inl rfl)) _).setCell (a := ⟨bl + 1, 0, none⟩) (.inl (.inr rfl)) _⟩
        · have := Z15.out
          rcases q with q | q <;> (have q2 : k = _ := q; omega)
        · refine Lib.hid (fun hp => ⟨HLA.out.symm, ?_⟩)
          have h3 := (hlc.out ((List.prefix_append pre [x]).trans hp)).2
          have h4 := HLT.out
          have h5 := HLEN.out
          rw [h3, List.length_append, List.length_singleton]
          unfold wrap64
          omega
    case done =>
      rintro D0 ys W hD rfl ⟨⟨la, cn, hlc, bL, bN⟩, hF2⟩ hK
      have T16 := Lib.hid (T15.out.fr H0.out hF2 (fun k hk q => by have := Z.out; rcases q with q | q <;> (have q2 : k = _ := q; omega)))
      obtain rfl : cn = (ys.length : Int) := (hlc.out (List.prefix_refl _)).2
      have BL := Lib.hid bL
      have BN := Lib.hid bN
      have HKD := Lib.hid hK
      have HDZ := Lib.hid hD
      have cN := bN.cell
      have cR : W.cell? ⟨w.heap.size + 1, 0, none⟩ = some (.bool false) := T16.out.r.cell 0
      have fR := T16.out.r.free
      have hyl : ys.length = if acc = true then n else 0 := by
        have h := HORD.out
        cases acc with
        | true => rw [if_pos rfl, h.1.length_eq, List.length_finRange]; exact HLD.out
        | false => rw [show ys = [] from h]; rfl
      obtain ⟨cn, hcn⟩ : ∃ cn, cn = ys.length := ⟨_, rfl⟩
      rw [← hcn] at cN hyl BN
      clear hlc bL bN hF2 hK hD T15 L15 N15 HALL HRISE hcn
      by_cases he : e = 0
      · have hac : acc = true := HA2.out.2 he
        rw [if_pos hac] at hyl
        subst he hyl
        by_cases h1 : cn = 1
        · subst h1
          go_wp2_with fail
          have hK33 := (KeepsOthers.setCell W ⟨w.heap.size + 1, 0, none⟩ (.bool true)).same D0 _ HKD.out rfl
          refine ⟨by simp, .inl ⟨_, _, rfl, run_takeDeferred hK33, ?_⟩⟩
          have hc33 := cell_kept (show Boxed _ (w.heap.size + 1) 4 (.bool true) from (T16.out.r.put 0 (.bool true))).cell (grownBy_putObj' _ D0 (.deferred none)) (fun r e => by cases e; exact ⟨_, hK33, rfl⟩)
          exact ⟨.bool true, turned_res _ (w.heap.size + 1) true _ rfl hc33, rfl, (T16.out.b.setCell (p := ⟨w.heap.size + 1, 0, none⟩) (by show w.heap.size ≤ w.heap.size + 1; omega) _).trans (belowK_b (w := w) (Nat.le_refl _) _ D0 _ _ (by have := HDZ.out; have := Z15.out; have := Z.out; omega) hK33 rfl rfl)⟩
        · have g3 : ((cn : Int) == 1) = false := by simp; omega
          have T17 := Lib.hid (show TuAt w (W.alloc (.cells #[.int .u64 R, .int .u64 S, .slice (some ⟨ga', oa', none⟩) cn c] 25)) bd _ false R S _ cn D from T16.out.step ((Below.refl _ W).alloc (Nat.le_refl _) _))
          have c0 : W.cell? ⟨w.heap.size, 0, none⟩ = some (.int .u64 R) := T16.out.c.cell 0
          have c1 : W.cell? ⟨w.heap.size, 1, none⟩ = some (.int .u64 S) := T16.out.c.cell 1
          have c2 : W.cell? ⟨w.heap.size, 2, none⟩ = some (.slice (some ⟨ga', oa', none⟩) cn c) := T16.out.c.cell 2
          go_upto_region 29 with fail
          have hcc : cn ≤ c := by have := HC.out; have := HN.out; omega
          have hi100 : i < 100 := by have := H100.out; omega
          have hic : i ≤ c := by omega
          have hic1 : i + 1 ≤ cn := by omega
          have hic2 : i + 1 ≤ c := by omega
          obtain ⟨i1, hi1⟩ : ∃ i1, i1 = i + 1 := ⟨_, rfl⟩
          have HI1 := Lib.hid hi1
          have e4 : IntKind.i64.wrap ((i : Int) + 1) = (i1 : Int) := by rw [IntKind.wrap_i64]; omega
          rw [← hi1] at hic1 hic2
          clear hi1
          have c2' : (W.alloc (.cells #[.int .u64 R, .int .u64 S, .slice (some ⟨ga', oa', none⟩) cn c] 25)).cell? ⟨w.heap.size, 2, none⟩ = some (.slice (some ⟨ga', oa', none⟩) cn c) := T17.out.c.cell 2
          refine wp_region_held_drew (S := fun W' => W'.cell? ⟨w.heap.size, 2, none⟩ = some (.slice (some ⟨ga', oa', none⟩) cn c)) (by kernel_rfl) c2' (fun hHeld => ?_)
          refine' tkG (i := 1) (v := _) (by rfl) (by kernel_rfl) (by kernel_rfl) (by kernel_rfl) (fun _ _ _ h => h) (by rfl) ?hy34 (by assumption) ?rest34
          case hy34 => (intro wq hSq; (try dsimp only at hSq); go_simp; try with_reducible rfl)
          simp only [Act.put, List.setIfInBounds_toArray, List.set_cons_zero, List.set_cons_succ]
          refine' tkG (i := 2) (v := _) (by rfl) (by kernel_rfl) (by kernel_rfl) (by kernel_rfl) (fun _ _ _ h => h) (by rfl) ?hy35 (by assumption) ?rest35
          case hy35 => (intro wq hSq; (try dsimp only at hSq); go_simp; try with_reducible rfl)
          simp only [Act.put, List.setIfInBounds_toArray, List.set_cons_zero, List.set_cons_succ]
          refine' tkG (i := 3) (v := _) (by rfl) (by kernel_rfl) (by kernel_rfl) (by kernel_rfl) (fun _ _ _ h => h) (by rfl) ?hy36 (by assumption) ?rest36
          case hy36 => (intro wq hSq; (try dsimp only at hSq); go_simp; try with_reducible rfl)
          simp only [Act.put, List.setIfInBounds_toArray, List.set_cons_zero, List.set_cons_succ]
          refine' tkG (i := 4) (v := _) (by rfl) (by kernel_rfl) (by kernel_rfl) (by kernel_rfl) (fun _ _ _ h => h) (by rfl) ?hy37 (by assumption) ?rest37
          case hy37 => (intro wq hSq; (try dsimp only at hSq); go_simp; try with_reducible rfl)
          simp only [Act.put, List.setIfInBounds_toArray, List.set_cons_zero, List.set_cons_succ]
          refine' tkG (i := 6) (v := _) (by rfl) (by kernel_rfl) (by kernel_rfl) (by kernel_rfl) (fun _ _ _ h => h) (by rfl) ?hy38 (by assumption) ?rest38
          case hy38 => (intro wq hSq; (try dsimp only at hSq); go_simp; try with_reducible rfl)
          simp only [Act.put, List.setIfInBounds_toArray, List.set_cons_zero, List.set_cons_succ]
          refine' tkG (i := 7) (v := _) (by rfl) (by kernel_rfl) (by kernel_rfl) (by kernel_rfl) (fun _ _ _ h => h) (by rfl) ?hy39 (by assumption) ?rest39
          case hy39 => (intro wq hSq; (try dsimp only at hSq); go_simp; try with_reducible rfl)
          simp only [Act.put, List.setIfInBounds_toArray, List.set_cons_zero, List.set_cons_succ]
          refine' tkG (i := 8) (v := _) (by rfl) (by kernel_rfl) (by kernel_rfl) (by kernel_rfl) (fun _ _ _ h => h) (by rfl) ?hy40 (by assumption) ?rest40
          case hy40 => (intro wq hSq; (try dsimp only at hSq); go_simp; try with_reducible rfl)
          simp only [Act.put, List.setIfInBounds_toArray, List.set_cons_zero, List.set_cons_succ]
          refine' tkG (i := 9) (v := _) (by rfl) (by kernel_rfl) (by kernel_rfl) (by kernel_rfl) (fun _ _ _ h => h) (by rfl) ?hy41 (by assumption) ?rest41
          case hy41 => (intro wq hSq; (try dsimp only at hSq); go_simp; try with_reducible rfl)
          simp only [Act.put, List.setIfInBounds_toArray, List.set_cons_zero, List.set_cons_succ]
          refine' tkG (i := 10) (v := _) (by rfl) (by kernel_rfl) (by kernel_rfl) (by kernel_rfl) (fun _ _ _ h => h) (by rfl) ?hy42 (by assumption) ?rest42
          case hy42 => (intro wq hSq; (try dsimp only at hSq); go_simp; try with_reducible rfl)
          simp only [Act.put, List.setIfInBounds_toArray, List.set_cons_zero, List.set_cons_succ]
          obtain ⟨AD, hAD⟩ : ∃ AD : Option Addr, AD = (if c = i1 then some ⟨ga', oa', none⟩ else some ⟨ga', oa' + i1 * 2, none⟩) := ⟨_, rfl⟩
          rw [← hAD]
          have HAD := Lib.hid hAD
          clear hAD
          refine wpAnyH_ready (rs := [0]) (by kernel_rfl) (by simp) ?_
          refine AllReadyH.cons rfl (fun K hK => ?_) AllReadyH.nil
          go_simp
          obtain ⟨bs, hbs⟩ : ∃ bs, bs = W.heap.size := ⟨_, rfl⟩
          obtain ⟨W1, hW1⟩ : ∃ W1, W1 = ((W.alloc (.cells #[.int .u64 R, .int .u64 S, .slice (some ⟨ga', oa', none⟩) cn c] 25)).alloc (.cells #[] 53)).drew := ⟨_, rfl⟩
          rw [← hW1]
          have hB1 : Below bs W W1 := by rw [hW1, hbs]; exact (((Below.refl _ W).alloc (Nat.le_refl _) _).alloc (by simp) _).drew
          have hE1 : Blk W1 bs 25 #[.int .u64 R, .int .u64 S, .slice (some ⟨ga', oa', none⟩) cn c] := by rw [hW1, hbs]; exact ((Blk.new W _ _).alloc _).drew
          have hO1 : Go.Proofs.Ytacgjgmladbgeaa.Own W1 53 2 (.slice (some ⟨bs + 1, 0, none⟩) 0 0) 0 [] (One (bs + 1)) := by
            refine ⟨by simp, .inr ⟨bs + 1, 0, 0, #[], rfl, rfl, ?_, Nat.le_refl _, by unfold maxLen; omega, by simp, .inl ⟨rfl, rfl⟩, fun j hj => by simp at hj⟩⟩
            have := Blk.new (W.alloc (.cells #[.int .u64 R, .int .u64 S, .slice (some ⟨ga', oa', none⟩) cn c] 25)) 53 #[]
            rw [World.size_alloc, ← hbs] at this
            rw [hW1]; exact this
          have hZ1 : W1.heap.size = bs + 2 := by rw [hW1, hbs]; simp [World.drew]
          have hS1 : W1.cell? ⟨w.heap.size, 2, none⟩ = some (.slice (some ⟨ga', oa', none⟩) cn c) := (T16.out.step (by rw [← hbs]; exact hB1)).c.cell 2
          have HBS := Lib.hid hbs
          have HB1 := Lib.hid hB1
          have HE1 := Lib.hid hE1
          have HO1 := Lib.hid hO1
          have HZ1 := Lib.hid hZ1
          have HBW := Lib.hid (show Below w.heap.size w W1 from T16.out.b.trans (hB1.mono (by rw [hbs]; exact T16.out.b.size)))
          have CCW : Hid (∀ W', Below w.heap.size w W' → ∀ j u, (gcells l)[j]? = some u → W'.cell? ⟨ga', oa' + j, none⟩ = some u) := Lib.hid (fun W' hb j u hu => by
            obtain ⟨ad, e1, h2⟩ := row_cells (Kd.C_below HR.out hb) (by have := H0.out; have := HN.out; omega)
            cases e1
            have := h2 j u hu
            rwa [addr_add] at this)
          refine hK.out _ _ hS1 (fun hHeld => ?_)
          clear hK K hbs hW1 hB1 hE1 hO1 hZ1 hS1 c0 c1 c2 c2' T17
          try simp only [List.setIfInBounds_toArray, List.set_cons_zero, List.set_cons_succ]
          rw [← HBS.out]
          obtain ⟨i9, hi9, hz90, hz91, hz92⟩ := info_parts (show (Try.prog.info? 53).map (fun i => (i.zero, i.size, i.bytes)) = some (some (.agg #[(.int .u64 0), (.int .u64 0)]), 2, 16) from by kernel_rfl)
          have Q0 := Lib.hid hi9
          have Q1 := Lib.hid hz90
          have Q2 := Lib.hid hz91
          have Q3 := Lib.hid hz92
          clear hi9 hz90 hz91 hz92
          refine wpAnyH_ready (rs := [5]) (by kernel_rfl) (by simp) ?_
          refine AllReadyH.cons rfl (fun K hK => ?_) AllReadyH.nil
          refine step_append_cells rfl (.tmp 131) (.tmp 135) _ rfl 53 i9 _ 2 16 Try.underlying23 Q0.out Q1.out Q2.out Q3.out rfl _ 0 [] (One (bs + 1)) rfl HO1.out _ i c (gcells (l.take i)) rfl ?cells1 (by rw [gcells_len, List.length_take]; have := HN.out; omega) (gcells_one _) (by unfold maxLen; omega) (by omega) ?_
          case cells1 =>
            refine fun _ => ⟨_, rfl, fun j u hu => ?_⟩
            rw [addr_add]
            refine CCW.out _ HBW.out j u ?_
            rw [gcells_take] at hu
            rw [List.getElem?_take] at hu
            split at hu
            · exact hu
            · cases hu
          intro v5 w5 hown5 hf5
          rw [List.nil_append] at hown5
          have hS5 : w5.cell? ⟨w.heap.size, 2, none⟩ = some (.slice (some ⟨ga', oa', none⟩) cn c) := hf5.cell hHeld (fun q => by have q2 : w.heap.size = bs + 1 := q; have := T16.out.c.lt; have := HBS.out; omega)
          have HO5 := Lib.hid hown5
          have HE5 := Lib.hid (HE1.out.fr hf5 (fun q => by have q2 : bs = bs + 1 := q; omega))
          have HB5 := Lib.hid (HB1.out.trans (hf5.below (B := bs) (by have := HZ1.out; omega) (fun k hk q => by have q2 : k = bs + 1 := q; omega)))
          have HZ5 := Lib.hid (show bs + 2 ≤ w5.heap.size from by have := hf5.size; have := HZ1.out; omega)
          have HBW5 := Lib.hid (show Below w.heap.size w w5 from T16.out.b.trans (HB5.out.mono (by rw [HBS.out]; exact T16.out.b.size)))
          clear hown5 hf5
          refine hK.out _ _ hS5 (fun hHeld => ?_)
          clear hK K hS5
          simp only [Act.put, List.setIfInBounds_toArray, List.set_cons_zero, List.set_cons_succ]
          refine wpAnyH_ready (rs := [11]) (by kernel_rfl) (by simp) ?_
          refine AllReadyH.cons rfl (fun K hK => ?_) AllReadyH.nil
          refine step_append_cells rfl (.tmp 136) (.tmp 141) _ rfl 53 i9 _ 2 16 Try.underlying23 Q0.out Q1.out Q2.out Q3.out rfl _ (0 + i) (gcells (l.take i)) (fun k => One (bs + 1) k ∨ k = W1.heap.size) rfl HO5.out _ (cn - i1) _ (gcells (l.drop i1)) rfl ?cells2 (by rw [gcells_len, List.length_drop]; have := HN.out; omega) (gcells_one _) (by unfold maxLen; omega) (by omega) ?_
          case cells2 =>
            intro hpos
            rw [HAD.out, if_neg (by omega)]
            refine ⟨_, rfl, fun j u hu => ?_⟩
            rw [addr_add, Nat.add_assoc]
            refine CCW.out _ HBW5.out _ u ?_
            rw [gcells_drop, List.getElem?_drop] at hu
            exact hu
          intro v6 w6x hown6 hf6
          rw [← gcells_app] at hown6
          have hll : 0 + i + (cn - i1) = (l.take i ++ l.drop i1).length := by rw [List.length_append, List.length_take, List.length_drop]; have := HN.out; have := HI1.out; omega
          rw [hll] at hown6
          obtain ⟨LL, hLL⟩ : ∃ LL, LL = l.take i ++ l.drop i1 := ⟨_, rfl⟩
          rw [← hLL] at hown6
          obtain ⟨A2, cc2, rfl, hkd2, hcc2⟩ := kd_of_own0 hown6
          have HKD2 := Lib.hid hkd2
          have HCC2 := Lib.hid hcc2
          clear hkd2 hcc2
          have hG6 : ∀ k, (One (bs + 1) k ∨ k = W1.heap.size) → bs < k ∧ k ≠ bs := fun k hk => by
            have := HZ1.out
            rcases hk with q | q
            · have q2 : k = bs + 1 := q
              omega
            · omega
          have hS6 : w6x.cell? ⟨w.heap.size, 2, none⟩ = some (.slice (some ⟨ga', oa', none⟩) cn c) := hf6.cell hHeld (fun q => by have q2 : bs < w.heap.size := (hG6 _ q).1; have := T16.out.c.lt; have := HBS.out; omega)
          have hE6 := HE5.out.fr hf6 (fun q => (hG6 _ q).2 rfl)
          have HB6 := Lib.hid (HB5.out.trans (hf6.below (B := bs) (by have := HZ5.out; omega) (fun k hk q => by have := (hG6 _ q).1; omega)))
          have HO6 := Lib.hid (hown6.mono (G' := fun k => bs < k) (fun k hk => by
            have := HZ5.out
            rcases hk with q | q
            · exact (hG6 _ q).1
            · omega))
          have HLL := Lib.hid hLL
          have m2c : w6x.cell? ⟨bs, 2, none⟩ = some (.slice (some ⟨ga', oa', none⟩) cn c) := hE6.cell 2
          have mfr := hE6.free
          have HE6 := Lib.hid hE6
          refine hK.out _ _ hS6 (fun hHeld => ?_)
          clear hK K hS6 hown6 hf6 hll hE6 hG6 hLL
          simp only [Act.put, List.setIfInBounds_toArray, List.set_cons_zero, List.set_cons_succ]
          refine' tkG (i := 12) (v := _) (by rfl) (by kernel_rfl) (by kernel_rfl) (by kernel_rfl) (fun _ _ _ h => h) (by rfl) ?hy43 (by assumption) ?rest43
          case hy43 => (intro wq hSq; (try dsimp only at hSq); go_simp; try with_reducible rfl)
          simp only [Act.put, List.setIfInBounds_toArray, List.set_cons_zero, List.set_cons_succ]
          refine wpAnyH_ready (rs := [13]) (by kernel_rfl) (by simp) ?_
          refine AllReadyH.cons rfl (fun K hK => ?_) AllReadyH.nil
          go_simp
          obtain ⟨X, hX⟩ : ∃ X, X = w6x.setCell ⟨bs, 2, none⟩ (.slice A2 LL.length cc2) := ⟨_, rfl⟩
          rw [← hX]
          have hEX : Blk X bs 25 #[.int .u64 R, .int .u64 S, .slice A2 LL.length cc2] := by rw [hX]; exact HE6.out.put 2 _
          have hOX : Go.Proofs.Ytacgjgmladbgeaa.Own X 53 2 (.slice A2 LL.length cc2) LL.length (gcells LL) (fun k => bs < k) := by
            rw [hX]
            exact HO6.out.fr (Fr.put w6x bs 2 _) (fun k hk q => by have q2 : k = bs := q; omega)
          have hBX : Below bs W X := by rw [hX]; exact HB6.out.setCell (p := ⟨bs, 2, none⟩) (Nat.le_refl _) _
          have hTX := T16.out.step (by rw [← HBS.out]; exact hBX)
          have hNX : Boxed X (bl + 1) 3 (.int .i64 (cn : Int)) := (hBX.block _ (by have := BN.out.lt; have := HBS.out; omega)).trans BN.out
          have hDX : X.heap[D0]? = some (.deferred (some [])) := (hBX.block _ (by have := (Array.getElem?_eq_some_iff.1 HKD.out).1; have := HBS.out; omega)).trans HKD.out
          have hZX : D0 < bs := by have := (Array.getElem?_eq_some_iff.1 HKD.out).1; have := HBS.out; omega
          have hyi : X.cell? ⟨ga', oa' + i * 2 + 1, none⟩ = some (.int .u64 (l[i]).f1) := by
            have h1 := CCW.out X hTX.b (i * 2 + 1) _ (gcells_get (show i < l.length by have := HN.out; omega)).2
            exact h1
          have hls : conf_Check.f k R S LL = some (m3, 0) ∧ conf_Free.f k R S LL = some (IntKind.u64.wrap (fr + (l[i]).f1)) := by
            rw [HLL.out, HI1.out]
            exact HLS.out rfl (by have := HN.out; omega)
          obtain ⟨yv, hyv⟩ : ∃ yv, yv = (l[i]).f1 := ⟨_, rfl⟩
          rw [← hyv] at hyi hls
          have LX := Lib.hid (LsAt.mk hTX hEX hOX hNX hDX hyi)
          have HL1 := Lib.hid hls.1
          have HL2 := Lib.hid hls.2
          have HF2 := Lib.hid (HF.out rfl)
          have HZX := Lib.hid hZX
          have hSX := hTX.c.cell 2
          refine hK.out _ _ hSX (fun hHeld => ?_)
          have l0 : X.cell? ⟨bs, 0, none⟩ = some (.int .u64 R) := hEX.cell 0
          have l1 : X.cell? ⟨bs, 1, none⟩ = some (.int .u64 S) := hEX.cell 1
          have l2 : X.cell? ⟨bs, 2, none⟩ = some (.slice A2 LL.length cc2) := hEX.cell 2
          clear hK K hX hEX hOX hBX hTX hNX hDX hZX hyi hls hyv hSX hHeld HO6 HE6 HB6 HB5 HBW5 HZ5 HE5 HO5 HE1 HO1 HZ1 HBW HB1 Q0 Q1 Q2 Q3 cN cR fR g3 m2c mfr
          refine wpAnyH_done (by kernel_rfl) ?_ _
          go_wp2_with fail
          refine (conf_Check.calls k R S A2 cc2 LL m3 0 _ (own_kd LX.out.o) HCC2.out HL1.out).mono ?_
          rintro e1 w20 ⟨rfl, hb20⟩
          have L20 := Lib.hid ((LX.out.step hb20).drew)
          clear hb20 l0 l1 l2
          go_upto_region 31 with fail
          refine wp_region_held_drew (S := LsS w ga' oa' c bs bl cn A2 LL.length cc2 i R S yv) (by kernel_rfl) L20.out.s (fun hHeld => ?_)
          unfold LsS at hHeld
          refine' tkG (i := 0) (v := _) (by rfl) (by kernel_rfl) (by kernel_rfl) (by kernel_rfl) (fun _ _ _ h => h) (by rfl) ?hy44 (by assumption) ?rest44
          case hy44 => (intro wq hSq; unfold LsS at hSq; go_simp; try with_reducible rfl)
          simp only [Act.put, List.setIfInBounds_toArray, List.set_cons_zero, List.set_cons_succ]
          refine' tkG (i := 1) (v := _) (by rfl) (by kernel_rfl) (by kernel_rfl) (by kernel_rfl) (fun _ _ _ h => h) (by rfl) ?hy45 (by assumption) ?rest45
          case hy45 => (intro wq hSq; unfold LsS at hSq; go_simp; try with_reducible rfl)
          simp only [Act.put, List.setIfInBounds_toArray, List.set_cons_zero, List.set_cons_succ]
          refine' tkG (i := 2) (v := _) (by rfl) (by kernel_rfl) (by kernel_rfl) (by kernel_rfl) (fun _ _ _ h => h) (by rfl) ?hy46 (by assumption) ?rest46
          case hy46 => (intro wq hSq; unfold LsS at hSq; go_simp; try with_reducible rfl)
          simp only [Act.put, List.setIfInBounds_toArray, List.set_cons_zero, List.set_cons_succ]
          refine' tkG (i := 3) (v := _) (by rfl) (by kernel_rfl) (by kernel_rfl) (by kernel_rfl) (fun _ _ _ h => h) (by rfl) ?hy47 (by assumption) ?rest47
          case hy47 => (intro wq hSq; unfold LsS at hSq; go_simp; try with_reducible rfl)
          simp only [Act.put, List.setIfInBounds_toArray, List.set_cons_zero, List.set_cons_succ]
          refine' tkG (i := 4) (v := _) (by rfl) (by kernel_rfl) (by kernel_rfl) (by kernel_rfl) (fun _ _ _ h => h) (by rfl) ?hy48 (by assumption) ?rest48
          case hy48 => (intro wq hSq; unfold LsS at hSq; go_simp; try with_reducible rfl)
          simp only [Act.put, List.setIfInBounds_toArray, List.set_cons_zero, List.set_cons_succ]
          refine' tkG (i := 5) (v := _) (by rfl) (by kernel_rfl) (by kernel_rfl) (by kernel_rfl) (fun _ _ _ h => h) (by rfl) ?hy49 (by assumption) ?rest49
          case hy49 => (intro wq hSq; unfold LsS at hSq; go_simp; try with_reducible rfl)
          simp only [Act.put, List.setIfInBounds_toArray, List.set_cons_zero, List.set_cons_succ]
          refine' tkG (i := 6) (v := _) (by rfl) (by kernel_rfl) (by kernel_rfl) (by kernel_rfl) (fun _ _ _ h => h) (by rfl) ?hy50 (by assumption) ?rest50
          case hy50 => (intro wq hSq; unfold LsS at hSq; go_simp; try with_reducible rfl)
          simp only [Act.put, List.setIfInBounds_toArray, List.set_cons_zero, List.set_cons_succ]
          refine' tkG (i := 7) (v := _) (by rfl) (by kernel_rfl) (by kernel_rfl) (by kernel_rfl) (fun _ _ _ h => h) (by rfl) ?hy51 (by assumption) ?rest51
          case hy51 => (intro wq hSq; unfold LsS at hSq; go_simp; try with_reducible rfl)
          simp only [Act.put, List.setIfInBounds_toArray, List.set_cons_zero, List.set_cons_succ]
          refine' tkG (i := 8) (v := _) (by rfl) (by kernel_rfl) (by kernel_rfl) (by kernel_rfl) (fun _ _ _ h => h) (by rfl) ?hy52 (by assumption) ?rest52
          case hy52 => (intro wq hSq; unfold LsS at hSq; go_simp; try with_reducible rfl)
          simp only [Act.put, List.setIfInBounds_toArray, List.set_cons_zero, List.set_cons_succ]
          refine' tkG (i := 10) (v := _) (by rfl) (by kernel_rfl) (by kernel_rfl) (by kernel_rfl) (fun _ _ _ h => h) (by rfl) ?hy53 (by assumption) ?rest53
          case hy53 => (intro wq hSq; unfold LsS at hSq; go_simp; try with_reducible rfl)
          simp only [Act.put, List.setIfInBounds_toArray, List.set_cons_zero, List.set_cons_succ]
          refine' tkG (i := 12) (v := _) (by rfl) (by kernel_rfl) (by kernel_rfl) (by kernel_rfl) (fun _ _ _ h => h) (by rfl) ?hy54 (by assumption) ?rest54
          case hy54 => (intro wq hSq; unfold LsS at hSq; go_simp; try with_reducible rfl)
          simp only [Act.put, List.setIfInBounds_toArray, List.set_cons_zero, List.set_cons_succ]
          refine' tkG (i := 13) (v := _) (by rfl) (by kernel_rfl) (by kernel_rfl) (by kernel_rfl) (fun _ _ _ h => h) (by rfl) ?hy55 (by assumption) ?rest55
          case hy55 => (intro wq hSq; unfold LsS at hSq; go_simp; try with_reducible rfl)
          simp only [Act.put, List.setIfInBounds_toArray, List.set_cons_zero, List.set_cons_succ]
          refine' tkG (i := 14) (v := _) (by rfl) (by kernel_rfl) (by kernel_rfl) (by kernel_rfl) (fun _ _ _ h => h) (by rfl) ?hy56 (by assumption) ?rest56
          case hy56 => (intro wq hSq; unfold LsS at hSq; go_simp; try with_reducible rfl)
          simp only [Act.put, List.setIfInBounds_toArray, List.set_cons_zero, List.set_cons_succ]
          refine' tkG (i := 15) (v := _) (by rfl) (by kernel_rfl) (by kernel_rfl) (by kernel_rfl) (fun _ _ _ h => h) (by rfl) ?hy57 (by assumption) ?rest57
          case hy57 => (intro wq hSq; unfold LsS at hSq; go_simp; try with_reducible rfl)
          simp only [Act.put, List.setIfInBounds_toArray, List.set_cons_zero, List.set_cons_succ]
          refine' tkG (i := 16) (v := _) (by rfl) (by kernel_rfl) (by kernel_rfl) (by kernel_rfl) (fun _ _ _ h => h) (by rfl) ?hy58 (by assumption) ?rest58
          case hy58 => (intro wq hSq; unfold LsS at hSq; go_simp; try with_reducible rfl)
          simp only [Act.put, List.setIfInBounds_toArray, List.set_cons_zero, List.set_cons_succ]
          refine' tkG (i := 17) (v := _) (by rfl) (by kernel_rfl) (by kernel_rfl) (by kernel_rfl) (fun _ _ _ h => h) (by rfl) ?hy59 (by assumption) ?rest59
          case hy59 => (intro wq hSq; unfold LsS at hSq; go_simp; try with_reducible rfl)
          simp only [Act.put, List.setIfInBounds_toArray, List.set_cons_zero, List.set_cons_succ]
          refine wpAnyH_ready (rs := [9]) (by kernel_rfl) (by simp) ?_
          refine AllReadyH.cons rfl (fun K hK => ?_) AllReadyH.nil
          go_simp
          skip
          refine (conf_Free.calls k R S A2 cc2 LL _ _ (own_kd L20.out.o) HCC2.out HL2.out).mono ?_
          rintro e1 w21 ⟨rfl, hb60⟩
          skip
          have L21 := Lib.hid (L20.out.step hb60)
          clear hb60
          go_simp
          refine hK.out _ _ L21.out.s (fun hHeld => ?_)
          clear hK K
          try simp only [List.setIfInBounds_toArray, List.set_cons_zero, List.set_cons_succ]
          refine wpAnyH_ready (rs := [11]) (by kernel_rfl) (by simp) ?_
          refine AllReadyH.cons rfl (fun K hK => ?_) AllReadyH.nil
          go_simp
          rw [HN.out]
          refine (conf_Free.calls k R S (some ⟨ga', oa', none⟩) c l fr _ (Kd.C_below HR.out L21.out.t.b) HC.out HF2.out).mono ?_
          rintro e1 w22 ⟨rfl, hb61⟩
          rw [← HN.out]
          have L22 := Lib.hid (L21.out.step hb61)
          clear hb61
          go_simp
          refine hK.out _ _ L22.out.s (fun hHeld => ?_)
          clear hK K
          try simp only [List.setIfInBounds_toArray, List.set_cons_zero, List.set_cons_succ]
          refine' tkG (i := 18) (v := _) (by rfl) (by kernel_rfl) (by kernel_rfl) (by kernel_rfl) (fun _ _ _ h => h) (by rfl) ?hy62 (by assumption) ?rest62
          case hy62 => (intro wq hSq; unfold LsS at hSq; go_simp; try with_reducible rfl)
          simp only [Act.put, List.setIfInBounds_toArray, List.set_cons_zero, List.set_cons_succ]
          refine' tkG (i := 19) (v := _) (by rfl) (by kernel_rfl) (by kernel_rfl) (by kernel_rfl) (fun _ _ _ h => h) (by rfl) ?hy63 (by assumption) ?rest63
          case hy63 => (intro wq hSq; unfold LsS at hSq; go_simp; try with_reducible rfl)
          simp only [Act.put, List.setIfInBounds_toArray, List.set_cons_zero, List.set_cons_succ]
          refine' tkG (i := 20) (v := _) (by rfl) (by kernel_rfl) (by kernel_rfl) (by kernel_rfl) (fun _ _ _ h => h) (by rfl) ?hy64 (by assumption) ?rest64
          case hy64 => (intro wq hSq; unfold LsS at hSq; go_simp; try with_reducible rfl)
          simp only [Act.put, List.setIfInBounds_toArray, List.set_cons_zero, List.set_cons_succ]
          refine wpAnyH_ready (rs := [21]) (by kernel_rfl) (by simp) ?_
          have cR : w22.cell? ⟨w.heap.size + 1, 0, none⟩ = some (.bool false) := L22.out.t.r.cell 0
          have fR := L22.out.t.r.free
          refine AllReadyH.cons rfl (fun K hK => ?_) AllReadyH.nil
          go_simp
          have hgaw : ga' < w.heap.size := by
            have h1 := CCW.out w (Below.refl _ w) (i * 2) _ (gcells_get (show i < l.length by have := HN.out; omega)).1
            exact World.block_lt_of_cell? w ⟨ga', oa' + i * 2, none⟩ h1
          refine hK.out _ _ (L22.out.sret (by have := HZX.out; have := HDZ.out; have := Z15.out; have := Z.out; omega) Z.out.1 hgaw _) (fun hHeld => ?_)
          clear hK K hHeld cR fR hgaw
          try simp only [Act.put, List.setIfInBounds_toArray, List.set_cons_zero, List.set_cons_succ]
          have L22T := Lib.hid L22.out.t
          refine wpAnyH_done (by kernel_rfl) ?_ _
          go_wp2_with fail
          have hK65 := (KeepsOthers.setCell w22 ⟨w.heap.size + 1, 0, none⟩ (.bool true)).same D0 _ L22.out.d rfl
          refine ⟨by simp, .inl ⟨_, _, rfl, run_takeDeferred hK65, ?_⟩⟩
          have hc65 := cell_kept (show Boxed _ (w.heap.size + 1) 4 (.bool true) from (L22T.out.r.put 0 (.bool true))).cell (grownBy_putObj' _ D0 (.deferred none)) (fun r e => by cases e; exact ⟨_, hK65, rfl⟩)
          exact ⟨.bool true, turned_res _ (w.heap.size + 1) true _ rfl hc65, rfl, (L22T.out.b.setCell (p := ⟨w.heap.size + 1, 0, none⟩) (by show w.heap.size ≤ w.heap.size + 1; omega) _).trans (belowK_b (w := w) (Nat.le_refl _) _ D0 _ _ (by have := HDZ.out; have := Z15.out; have := Z.out; omega) hK65 rfl rfl)⟩
      · have hac : ¬ acc = true := fun q => he (HA2.out.1 q)
        rw [if_neg hac] at hyl
        subst hyl
        have g3 : (e == 0) = false := by simpa using he
        have g4 : (e != 0) = true := by simpa using he
        go_wp2_with fail
        have hK66 := (KeepsOthers.setCell W ⟨w.heap.size + 1, 0, none⟩ (.bool true)).same D0 _ HKD.out rfl
        refine ⟨by simp, .inl ⟨_, _, rfl, run_takeDeferred hK66, ?_⟩⟩
        have hc66 := cell_kept (show Boxed _ (w.heap.size + 1) 4 (.bool true) from (T16.out.r.put 0 (.bool true))).cell (grownBy_putObj' _ D0 (.deferred none)) (fun r e => by cases e; exact ⟨_, hK66, rfl⟩)
        exact ⟨.bool true, turned_res _ (w.heap.size + 1) true _ rfl hc66, rfl, (T16.out.b.setCell (p := ⟨w.heap.size + 1, 0, none⟩) (by show w.heap.size ≤ w.heap.size + 1; omega) _).trans (belowK_b (w := w) (Nat.le_refl _) _ D0 _ _ (by have := HDZ.out; have := Z15.out; have := Z.out; omega) hK66 rfl rfl)⟩
    case stop =>
      rintro D cc pre W hD hpre hno hK
      exact absurd hpre hno
end
/-! ### ConfTurned: the walk and the plain law -/
theorem ConfTurned_c (ram slice : Nat) (A : Option Addr) (c : Nat) (l : GL) (I K : Int) (hI : (Lit.int .i64 I).wf = true) (hK : (Lit.int .i64 K).wf = true) (w : World) (hr : Kd.C k53 w A l.length l) (hc : l.length ≤ c) (ok : okL l) (hram : ram < 18446744073709551616) (hslice : slice < 18446744073709551616) :
    Calls Try.prog 8 #[.agg #[.int .u64 ram, .int .u64 slice, .slice A l.length c], .int .i64 I, .int .i64 K] w fun e w' => e = .returned (.bool true) ∧ Below w.heap.size w w' := by
  obtain ⟨k1, h1⟩ := awake25_true
  by_cases hout : l.length = 0 ∨ 100 < l.length
  · exact ConfTurned_early k1 ram slice A c l I K hI hK w hr hc ok hram hslice (h1 k1 (Nat.le_refl _)) hout
  · have h0 : 0 < l.length := by omega
    have h100 : l.length ≤ 100 := by omega
    obtain ⟨i, hii, hin⟩ := mod_idx I l.length h0 h100
    obtain ⟨j, hjj, hjn⟩ := mod_idx K l.length h0 h100
    have okD := turned_ok ok i j hin hjn
    have hp := turned_perm l i j hin hjn
    have hck := turned_check l ram slice i j hin hjn
    obtain ⟨D, hD⟩ : ∃ D, D = turnedL l i j hin hjn := ⟨_, rfl⟩
    rw [← hD] at okD hp hck
    have okE : okL (l.take i ++ l.drop (i + 1)) := List.all_eq_true.2 fun g hg => List.all_eq_true.1 ok g (by
      rcases List.mem_append.1 hg with q | q
      · exact List.mem_of_mem_take q
      · exact List.mem_of_mem_drop q)
    obtain ⟨k2, h2⟩ := check_conf ok ram slice hram
    obtain ⟨k3, h3⟩ := check_conf okD ram slice hram
    obtain ⟨k4, h4⟩ := free_f ok ram slice hram
    obtain ⟨k5, h5⟩ := free_f okD ram slice hram
    obtain ⟨k6, h6⟩ := accepted_conf okD ram slice hram
    obtain ⟨k7, h7⟩ := check_conf okE ram slice hram
    obtain ⟨k8, h8⟩ := free_f okE ram slice hram
    obtain ⟨k, e1, e2, e3, e4, e5, e6, e7, e8⟩ : ∃ k, k1 ≤ k ∧ k2 ≤ k ∧ k3 ≤ k ∧ k4 ≤ k ∧ k5 ≤ k ∧ k6 ≤ k ∧ k7 ≤ k ∧ k8 ≤ k := ⟨k1 + k2 + k3 + k4 + k5 + k6 + k7 + k8, by omega, by omega, by omega, by omega, by omega, by omega, by omega, by omega⟩
    refine ConfTurned_main k ram slice A c l I K hI hK w hr hc ok hram hslice (h1 k e1) h0 h100 i j hin hjn hii hjj D hD _ _ _ _ (csOf ram slice (l.take i ++ l.drop (i + 1))).check.1 (IntKind.u64.wrap ((ram : Int) - 1048576 - sumI l)) _ (h2 k e2) (h3 k e3) ?_ ?_ ?_ (h6 k e6) ?_ ?_ ?_ ?_
    · exact ⟨fun h => by have := hck.2 (by omega); omega, fun h => by have := hck.1 (by omega); omega⟩
    · intro h
      have h4' := h4 k e4
      rw [if_pos (by omega)] at h4'
      exact h4'
    · intro h
      have h5' := h5 k e5
      rw [if_pos (hck.2 (by omega)), sumI_perm hp] at h5'
      exact h5'
    · rw [decide_eq_true_eq]
      exact ⟨fun h => by have := hck.1 h; omega, fun h => hck.2 (by omega)⟩
    · intro h
      obtain ⟨_, _, _, q8, q0, _⟩ := check_zero (of_decide_eq_true h)
      omega
    · intro h ord ho
      have hz : (csOf ram slice D).check.2 = 0 := hck.2 (by omega)
      refine ⟨rising_strict okD hz ho.1 ho.2, fun x => ?_⟩
      obtain ⟨u, v, f1, _, _, _, f5, _⟩ := acc_at okD hz x.isLt
      rw [f1]
      show (0 : Int) < (u : Int)
      omega
    · intro h hl
      have hz := less_check (ram := ram) (slice := slice) (show (csOf ram slice l).check.2 = 0 by omega) i hin hl
      have h7' := h7 k e7
      have h8' := h8 k e8
      rw [if_pos hz, sumI_less l i hin] at h8'
      rw [hz] at h7'
      refine ⟨h7', ?_⟩
      refine h8'.trans ?_
      rw [wrap_add, show (ram : Int) - 1048576 - (sumI l - (l[i]).f1) = (ram : Int) - 1048576 - sumI l + (l[i]).f1 by omega]
end Go.Proofs.Ytacgjgmladbgeaa.PConfApart

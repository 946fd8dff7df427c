/-
  The statement GtabTables, as lists and numbers: at every configuration and every number it answers true. Conditions: the numbers are of their kinds.
-/
import Derived.Test.YtacgjgmladbgeaaPGtabTablesx7
import Derived.Test.YtacgjgmladbgeaaConfM
import Derived.Test.YtacgjgmladbgeaaOpen
import Derived.Lib.Hide
import Derived.Lib.SmallJoins
namespace Go.Proofs.Ytacgjgmladbgeaa.PGtabTables
open Go Go.RowKit Go.Proofs.YtacgjgmladbgeaaW.PrintWords Go.Proofs.YtacgjgmladbgeaaW.PrintLast Go.Proofs.YtacgjgmladbgeaaW.PrintMore
set_option linter.unusedVariables false
set_option linter.unusedSimpArgs false

/-! ### The checks of configurations, as lists and numbers: the program's and the document's are one -/
abbrev GL := List (S53)
def okL (gs : GL) : Prop := gs.all (fun g => fit64 g.f0 && fit64 g.f1) = true
theorem okL.take {gs : GL} (h : okL gs) (i : Nat) : okL (gs.take i) :=
  List.all_eq_true.2 fun g hg => List.all_eq_true.1 h g (List.mem_of_mem_take hg)
/-- The guest at a place. -/
theorem okL.at_ {gs : GL} (h : okL gs) {i : Nat} (hi : i < gs.length) : ∃ g : CG, g.Ok ∧ (gs.map toCG).getD i ⟨0, 0⟩ = g ∧ (gs.map toCG)[i]? = some g ∧ rd_T53 gs (i : Int) = ⟨(g.base : Int), (g.size : Int)⟩ := by
  have e : rd_T53 gs (i : Int) = gs[i] := by
    unfold rd_T53
    rw [Int.toNat_natCast, List.getD_eq_getElem?_getD, List.getElem?_eq_getElem hi]
    rfl
  have hok := List.all_eq_true.1 h _ (List.getElem_mem hi)
  simp only [Bool.and_eq_true] at hok
  obtain ⟨x, hx, hx2⟩ := fit64_nat hok.1
  obtain ⟨y, hy, hy2⟩ := fit64_nat hok.2
  have e2 : (gs.map toCG)[i]? = some ⟨x, y⟩ := by
    rw [List.getElem?_map, List.getElem?_eq_getElem hi, Option.map_some]
    simp only [toCG, hx, hy, Int.toNat_natCast]
  refine ⟨⟨x, y⟩, ⟨hx2, hy2⟩, ?_, e2, ?_⟩
  · rw [List.getD_eq_getElem?_getD, e2]; rfl
  · rw [e]
    cases hg : gs[i] with
    | mk a b =>
      rw [hg] at hx hy
      simp only at hx hy
      rw [hx, hy]
/-- A configuration's plain form. -/
def csOf (ram slice : Nat) (gs : GL) : CS := ⟨ram, slice, gs.map toCG⟩
theorem wrap64_up (i : Nat) (h : i < 1000000) : wrap64 ((i : Int) + 1) = ((i + 1 : Nat) : Int) := by unfold wrap64; omega
theorem bars_f {gs : GL} (h : okL gs) (ram : Nat) (hr : ram ≤ 67108864) {i : Nat} (hi : i < gs.length) (h8 : gs.length ≤ 8) (slice : Nat) :
    conf_bars.f (rd_T53 gs (i : Int)).f0 (rd_T53 gs (i : Int)).f1 (gs.take i) (ram : Int) = some (((csOf ram slice gs).barAt i : Nat) : Int) := by
  obtain ⟨g, hg, e1, e2, e3⟩ := h.at_ hi
  rw [e3]
  unfold conf_bars.f
  have ht : ((gs.take i).all (fun g => fit64 g.f0 && fit64 g.f1)) = true := h.take i
  have hb : fit64 (g.base : Int) = true := by have := hg.base; unfold fit64; simp only [Bool.and_eq_true, decide_eq_true_eq]; omega
  have hs : fit64 (g.size : Int) = true := by have := hg.size; unfold fit64; simp only [Bool.and_eq_true, decide_eq_true_eq]; omega
  have hl : (gs.take i).length ≤ 100 := by rw [List.length_take]; omega
  rw [if_pos (by simp only [ht, hb, hs, decide_eq_true hl, decide_eq_true (show (0 : Int) ≤ (ram : Int) by omega), decide_eq_true (show (ram : Int) ≤ 67108864 by omega), Bool.and_self])]
  unfold CS.barAt csOf
  rw [e1, List.map_take]
  simp only [Int.toNat_natCast]
/-- What a scan tells. -/
def scanR (c : CS) (i r : Nat) : Int × Int := match scanQ c.barAt i r with
  | some (m, e) => ((m : Int), (e : Int))
  | none => (-1, 0)
theorem check_loop {gs : GL} (h : okL gs) (ram slice : Nat) (hr : ram ≤ 67108864) (h8 : gs.length ≤ 8) (s : Int) : ∀ (r i : Nat), i + r = gs.length →
    Ev (fun k => conf_Check.l0 k gs (gs.length : Int) (i : Int) (ram : Int) s gs) (scanR (csOf ram slice gs) i r)
  | 0, i, e => by
    refine Ev.step (fun k => conf_Check.l0.eq_2 ..) ?_
    simp only [if_neg (show ¬ (i : Int) < (gs.length : Int) by omega)]
    exact Ev.now _
  | r + 1, i, e => by
    refine Ev.step (fun k => conf_Check.l0.eq_2 ..) ?_
    simp only [if_pos (show (i : Int) < (gs.length : Int) by omega), if_pos (show (0 : Int) ≤ (i : Int) by omega), if_pos (show (i : Int) ≤ (gs.length : Int) by omega), Int.toNat_natCast, bars_f h ram hr (show i < gs.length by omega) h8 slice, Option.bind_some]
    unfold scanR scanQ
    by_cases hb : (csOf ram slice gs).barAt i = 0
    · rw [if_pos hb]
      simp only [if_pos (show (((csOf ram slice gs).barAt i : Nat) : Int) = 0 by omega), wrap64_up i (by omega)]
      exact check_loop h ram slice hr h8 s r (i + 1) (by omega)
    · rw [if_neg hb]
      simp only [if_neg (show ¬ (((csOf ram slice gs).barAt i : Nat) : Int) = 0 by omega)]
      exact Ev.now _
/-- The program's check tells the plain one. -/
theorem check_conf {gs : GL} (h : okL gs) (ram slice : Nat) (hr : ram < 18446744073709551616) :
    Ev (fun k => conf_Check.f k (ram : Int) (slice : Int) gs) ((csOf ram slice gs).check.1, ((csOf ram slice gs).check.2 : Int)) := by
  have hlen : (gs.map toCG).length = gs.length := List.length_map ..
  unfold conf_Check.f CS.check
  have bad : ∀ r : Int × Nat, r = (-1, 251) → Ev (fun k => conf_Check.j0 k true (ram : Int) (slice : Int) gs) (r.1, (r.2 : Int)) := fun r hr => by
    subst hr
    refine Ev.step (fun k => conf_Check.j0.eq_2 ..) ?_
    simp only [if_true]
    exact Ev.now _
  by_cases c1 : ram < 2097152
  · simp only [if_pos (show (ram : Int) < 2097152 by omega)]
    exact bad _ (if_pos (.inl c1))
  · simp only [if_neg (show ¬ (ram : Int) < 2097152 by omega)]
    by_cases c2 : 67108864 < ram
    · simp only [if_pos (show (ram : Int) > 67108864 by omega)]
      exact bad _ (if_pos (.inr (.inl c2)))
    · simp only [if_neg (show ¬ (ram : Int) > 67108864 by omega), whole_f ram hr, Option.bind_some]
      by_cases c3 : ram % 4096 = 0
      · have hbad1 : ¬ ((csOf ram slice gs).ram < 2097152 ∨ 67108864 < (csOf ram slice gs).ram ∨ (csOf ram slice gs).ram % 4096 ≠ 0) := by unfold csOf; simp only; omega
        simp only [decide_eq_true c3, Bool.not_true]
        rw [if_neg hbad1]
        refine Ev.step (fun k => conf_Check.j0.eq_2 ..) ?_
        simp only [Bool.false_eq_true, if_false]
        have bad2 : ∀ r : Int × Nat, r = (-1, 255) → Ev (fun k => conf_Check.j1 k true (ram : Int) (slice : Int) gs) (r.1, (r.2 : Int)) := fun r hr => by
          subst hr
          refine Ev.step (fun k => conf_Check.j1.eq_2 ..) ?_
          simp only [if_true]
          exact Ev.now _
        by_cases d1 : slice = 0
        · simp only [if_pos (show (slice : Int) = 0 by omega)]
          exact bad2 _ (if_pos (.inl d1))
        · simp only [if_neg (show ¬ (slice : Int) = 0 by omega)]
          by_cases d2 : 4294967296 < slice
          · simp only [decide_eq_true (show (slice : Int) > 4294967296 by omega)]
            exact bad2 _ (if_pos (.inr d2))
          · have hbad2 : ¬ ((csOf ram slice gs).slice = 0 ∨ 4294967296 < (csOf ram slice gs).slice) := by unfold csOf; simp only; omega
            simp only [decide_eq_false (show ¬ (slice : Int) > 4294967296 by omega)]
            rw [if_neg hbad2]
            refine Ev.step (fun k => conf_Check.j1.eq_2 ..) ?_
            simp only [Bool.false_eq_true, if_false]
            by_cases e1 : gs.length = 0
            · rw [if_pos (show (csOf ram slice gs).gs.length = 0 ∨ 8 < (csOf ram slice gs).gs.length from .inl (hlen.trans e1))]
              simp only [if_pos (show (gs.length : Int) = 0 by omega)]
              exact Ev.now _
            · simp only [if_neg (show ¬ (gs.length : Int) = 0 by omega)]
              by_cases e2 : 8 < gs.length
              · rw [if_pos (show (csOf ram slice gs).gs.length = 0 ∨ 8 < (csOf ram slice gs).gs.length from .inr (by show 8 < (gs.map toCG).length; omega))]
                simp only [if_pos (show (gs.length : Int) > 8 by omega)]
                exact Ev.now _
              · rw [if_neg (show ¬ ((csOf ram slice gs).gs.length = 0 ∨ 8 < (csOf ram slice gs).gs.length) by show ¬ ((gs.map toCG).length = 0 ∨ 8 < (gs.map toCG).length); omega)]
                simp only [if_neg (show ¬ (gs.length : Int) > 8 by omega)]
                have hl := check_loop h ram slice (by omega) (by omega) (slice : Int) gs.length 0 (by omega)
                unfold scanR at hl
                rw [show (csOf ram slice gs).gs.length = gs.length from hlen]
                cases hs : scanQ (csOf ram slice gs).barAt 0 gs.length with
                | none => rw [hs] at hl; exact hl
                | some p => obtain ⟨m, e⟩ := p; rw [hs] at hl; exact hl
      · simp only [decide_eq_false c3, Bool.not_false]
        exact bad _ (if_pos (.inr (.inr c3)))

/-! The document's check. -/
theorem wrapu {x : Int} (h0 : 0 ≤ x) (h : x < 18446744073709551616) : IntKind.u64.wrap x = x := by rw [IntKind.wrap_u64]; omega
theorem has_f (g : CG) (hs : g.base + g.size < 18446744073709551616) (a : Nat) : mezzanineref25_Has.f (g.base : Int) (g.size : Int) (a : Int) = some (g.has a) := by
  unfold mezzanineref25_Has.f CG.has
  rw [wrapu (by omega) (by omega)]
  by_cases c1 : (a : Int) ≥ (g.base : Int)
  · rw [if_pos c1, decide_eq_true (p := g.base ≤ a) (by omega), Bool.true_and]
    congr 1
    rw [decide_eq_decide]
    omega
  · rw [if_neg c1, decide_eq_false (p := g.base ≤ a) (by omega), Bool.false_and]
/-- What bars a guest, behind others that are all right. -/
structure Fine (ram : Nat) (gs : GL) (i : Nat) : Prop where
  ok : okL gs
  hi : i < gs.length
  h8 : gs.length ≤ 8
  rle : ram ≤ 67108864
  pages : ram % 4096 = 0
  all : ∀ j, j < i → ∃ o : CG, (gs.map toCG)[j]? = some o ∧ rd_T53 gs (j : Int) = ⟨(o.base : Int), (o.size : Int)⟩ ∧ o.size % 4096 = 0 ∧ 0 < o.size ∧ o.base % 4096 = 0 ∧ o.base + o.size ≤ 2147483648 + ram
theorem Fine.mk_ {ram slice : Nat} {gs : GL} {i : Nat} (ok : okL gs) (hi : i < gs.length) (h8 : gs.length ≤ 8) (hr : ram ≤ 67108864) (hp : ram % 4096 = 0) (hz : ∀ j, j < i → (csOf ram slice gs).barAt j = 0) : Fine ram gs i := by
  refine ⟨ok, hi, h8, hr, hp, fun j hj => ?_⟩
  obtain ⟨o, ho, e1, e2, e3⟩ := ok.at_ (show j < gs.length by omega)
  have h := hz j hj
  unfold CS.barAt csOf at h
  rw [e1] at h
  obtain ⟨h1, h2, h3, h4, h5, h6, _⟩ := CG.bars_zero h
  exact ⟨o, e2, e3, h3, h1, h4, h6⟩
/-- The inner loop: does one of the first guests have a page? -/
theorem guest_l2 {ram : Nat} {gs : GL} {i : Nat} (F : Fine ram gs i) (g : CG) (p : Nat) (s : Int) (hp : g.base + p < 4294967296) (R : Int)
    (hnext : (∀ o ∈ (gs.map toCG).take i, o.has (g.base + p) = false) → Ev (fun k => mezzanineref25_guest.l1 k (i : Int) (IntKind.u64.wrap ((p : Int) + 4096)) (ram : Int) s gs (g.base : Int) (g.size : Int)) R)
    (hhit : (∃ o ∈ (gs.map toCG).take i, o.has (g.base + p) = true) → R = 254) :
    ∀ (r j : Nat), j + r = i → (∀ m o, m < j → (gs.map toCG)[m]? = some o → o.has (g.base + p) = false) →
    Ev (fun k => mezzanineref25_guest.l2 k (i : Int) (p : Int) (j : Int) (ram : Int) s gs (g.base : Int) (g.size : Int)) R
  | 0, j, e, hn => by
    refine Ev.step (fun k => mezzanineref25_guest.l2.eq_2 ..) ?_
    simp only [if_neg (show ¬ (j : Int) < (i : Int) by omega)]
    refine hnext fun o ho => ?_
    obtain ⟨m, hm⟩ := List.mem_iff_getElem?.1 ho
    rw [List.getElem?_take] at hm
    split at hm
    · exact hn m o (by omega) hm
    · cases hm
  | r + 1, j, e, hn => by
    obtain ⟨o, h1, h2, h3, h4, h5, h6⟩ := F.all j (by omega)
    have hi := F.hi
    have hr := F.rle
    refine Ev.step (fun k => mezzanineref25_guest.l2.eq_2 ..) ?_
    have e1 : IntKind.u64.wrap ((g.base : Int) + (p : Int)) = ((g.base + p : Nat) : Int) := by rw [wrapu (by omega) (by omega)]; omega
    simp only [if_pos (show (j : Int) < (i : Int) by omega), if_pos (show (0 : Int) ≤ (j : Int) by omega), if_pos (show (j : Int) < (gs.length : Int) by omega), h2, e1, has_f o (by omega), Option.bind_some]
    cases hh : o.has (g.base + p)
    · simp only [Bool.false_eq_true, if_false, wrap64_up j (by have := F.h8; omega)]
      refine guest_l2 F g p s hp R hnext hhit r (j + 1) (by omega) fun m o' hm ho' => ?_
      by_cases q : m = j
      · subst q
        rw [h1] at ho'
        obtain rfl := Option.some.inj ho'
        exact hh
      · exact hn m o' (by omega) ho'
    · simp only [if_true]
      rw [hhit ⟨o, List.mem_iff_getElem?.2 ⟨j, by rw [List.getElem?_take, if_pos (by omega)]; exact h1⟩, hh⟩]
      exact Ev.now _
/-- The loop over pages, for those that meet. -/
theorem guest_l1 {ram : Nat} {gs : GL} {i : Nat} (F : Fine ram gs i) (g : CG) (s : Int) (hz : g.size % 4096 = 0) (hb : g.base + g.size ≤ 2147483648 + ram) (R : Int)
    (hno : (∀ k, 4096 * k < g.size → ∀ o ∈ (gs.map toCG).take i, o.has (g.base + 4096 * k) = false) → R = 0)
    (hyes : (∃ k, 4096 * k < g.size ∧ ∃ o ∈ (gs.map toCG).take i, o.has (g.base + 4096 * k) = true) → R = 254) :
    ∀ (r m : Nat), 4096 * (m + r) = g.size → (∀ k, k < m → ∀ o ∈ (gs.map toCG).take i, o.has (g.base + 4096 * k) = false) →
    Ev (fun k => mezzanineref25_guest.l1 k (i : Int) ((4096 * m : Nat) : Int) (ram : Int) s gs (g.base : Int) (g.size : Int)) R
  | 0, m, e, hn => by
    refine Ev.step (fun k => mezzanineref25_guest.l1.eq_2 ..) ?_
    simp only [if_neg (show ¬ ((4096 * m : Nat) : Int) < (g.size : Int) by omega)]
    rw [hno fun k hk => hn k (by omega)]
    exact Ev.now _
  | r + 1, m, e, hn => by
    have hr := F.rle
    refine Ev.step (fun k => mezzanineref25_guest.l1.eq_2 ..) ?_
    simp only [if_pos (show ((4096 * m : Nat) : Int) < (g.size : Int) by omega)]
    refine guest_l2 F g (4096 * m) s (by omega) R (fun hall => ?_) (fun ⟨o, ho, h1⟩ => hyes ⟨m, by omega, o, ho, h1⟩) i 0 (by omega) (fun _ _ h => by omega)
    rw [show IntKind.u64.wrap (((4096 * m : Nat) : Int) + 4096) = ((4096 * (m + 1) : Nat) : Int) by rw [wrapu (by omega) (by omega)]; omega]
    refine guest_l1 F g s hz hb R hno hyes r (m + 1) (by omega) fun k hk => ?_
    by_cases q : k = m
    · rw [q]; exact hall
    · exact hn k (by omega)
/-- The loop over pages, for their places. -/
theorem guest_l0 {ram : Nat} {gs : GL} {i : Nat} (F : Fine ram gs i) (g : CG) (s : Int) (hz : g.size % 4096 = 0) (h2 : g.size ≤ 2097152) (h3 : 0 < g.size) (h4 : g.base % 4096 = 0) (h5 : g.base < 18446744073709551616) (R : Int)
    (hbad : g.lies ram = false → R = 253) (hgood : g.lies ram = true → Ev (fun k => mezzanineref25_guest.l1 k (i : Int) 0 (ram : Int) s gs (g.base : Int) (g.size : Int)) R) :
    ∀ (r m : Nat), 4096 * (m + r) = g.size → (∀ k, k < m → 2148532224 ≤ g.base + 4096 * k ∧ g.base + 4096 * k < 2147483648 + ram) →
    Ev (fun k => mezzanineref25_guest.l0 k (i : Int) ((4096 * m : Nat) : Int) (ram : Int) s gs (g.base : Int) (g.size : Int)) R
  | 0, m, e, hn => by
    refine Ev.step (fun k => mezzanineref25_guest.l0.eq_2 ..) ?_
    simp only [if_neg (show ¬ ((4096 * m : Nat) : Int) < (g.size : Int) by omega)]
    exact hgood ((CG.lies_pages h3 hz h4 F.pages).2 fun k hk => hn k (by omega))
  | r + 1, m, e, hn => by
    have hr := F.rle
    refine Ev.step (fun k => mezzanineref25_guest.l0.eq_2 ..) ?_
    have hlies := CG.lies_pages (g := g) h3 hz h4 F.pages
    have bad : ¬ (2148532224 ≤ g.base + 4096 * m ∧ g.base + 4096 * m < 2147483648 + ram) → R = 253 := fun hq => hbad (by
      cases hl : g.lies ram
      · rfl
      · exact absurd (hlies.1 hl m (by omega)) hq)
    have e1 : IntKind.u64.wrap (2147483648 + (ram : Int)) = 2147483648 + (ram : Int) := wrapu (by omega) (by omega)
    obtain ⟨x, hx, hx2⟩ : ∃ x : Nat, IntKind.u64.wrap ((g.base : Int) + ((4096 * m : Nat) : Int)) = (x : Int) ∧ (x = g.base + 4096 * m ∨ (2148532224 > x ∧ ¬ (g.base + 4096 * m < 2147483648 + ram))) := by
      refine ⟨(g.base + 4096 * m) % 18446744073709551616, by rw [IntKind.wrap_u64]; omega, ?_⟩
      omega
    simp only [if_pos (show ((4096 * m : Nat) : Int) < (g.size : Int) by omega), hx, e1]
    by_cases c1 : (x : Int) < 2148532224
    · simp only [if_pos c1]
      rw [bad (by omega)]
      exact Ev.now _
    · simp only [if_neg c1]
      by_cases c2 : (x : Int) ≥ 2147483648 + (ram : Int)
      · simp only [if_pos c2]
        rw [bad (by omega)]
        exact Ev.now _
      · simp only [if_neg c2]
        rw [show IntKind.u64.wrap (((4096 * m : Nat) : Int) + 4096) = ((4096 * (m + 1) : Nat) : Int) by rw [wrapu (by omega) (by omega)]; omega]
        refine guest_l0 F g s hz h2 h3 h4 h5 R hbad hgood r (m + 1) (by omega) fun k hk => ?_
        by_cases q : k = m
        · rw [q]; omega
        · exact hn k (by omega)
theorem guest_ref {ram slice : Nat} {gs : GL} {i : Nat} (F : Fine ram gs i) : Ev (fun k => mezzanineref25_guest.f k (ram : Int) (slice : Int) gs (i : Int)) (((csOf ram slice gs).barAt i : Nat) : Int) := by
  obtain ⟨g, hg, e1, e2, e3⟩ := F.ok.at_ F.hi
  have hi := F.hi
  have hbase := hg.base
  have hsize := hg.size
  have hR : (csOf ram slice gs).barAt i = g.bars ram ((gs.map toCG).take i) := by unfold CS.barAt csOf; rw [e1]
  rw [hR]
  unfold mezzanineref25_guest.f
  simp only [if_pos (show (0 : Int) ≤ (i : Int) by omega), if_pos (show (i : Int) < (gs.length : Int) by omega), e3]
  have bad : ∀ n : Nat, n = 251 → Ev (fun k => mezzanineref25_guest.j0 k (i : Int) true (ram : Int) (slice : Int) gs (g.base : Int) (g.size : Int)) (n : Int) := fun n hn => by
    subst hn
    refine Ev.step (fun k => mezzanineref25_guest.j0.eq_2 ..) ?_
    simp only [if_true]
    exact Ev.now _
  by_cases c1 : g.size < 4096
  · simp only [if_pos (show (g.size : Int) < 4096 by omega)]
    exact bad _ (if_pos (by omega))
  · simp only [if_neg (show ¬ (g.size : Int) < 4096 by omega)]
    by_cases c2 : 2097152 < g.size
    · simp only [if_pos (show (g.size : Int) > 2097152 by omega)]
      exact bad _ (if_pos (by omega))
    · simp only [if_neg (show ¬ (g.size : Int) > 2097152 by omega)]
      have tm : ∀ x : Nat, Int.tmod (x : Int) 4096 = ((x % 4096 : Nat) : Int) := fun x => by rw [Int.tmod_eq_emod_of_nonneg (by omega)]; omega
      simp only [tm]
      by_cases c3 : g.size % 4096 = 0
      · simp only [show (((g.size % 4096 : Nat) : Int) != 0) = false by rw [bne_eq_false_iff_eq]; omega]
        refine Ev.step (fun k => mezzanineref25_guest.j0.eq_2 ..) ?_
        simp only [Bool.false_eq_true, if_false, tm]
        unfold CG.bars
        rw [if_neg (by omega)]
        by_cases c4 : g.base % 4096 = 0
        · simp only [if_pos (show ((g.base % 4096 : Nat) : Int) = 0 by omega)]
          rw [if_neg (by omega)]
          refine guest_l0 F g (slice : Int) c3 (by omega) (by omega) c4 hbase _ (fun hl => by rw [if_pos hl]; rfl) (fun hl => ?_) (g.size / 4096) 0 (by omega) (fun _ h => by omega)
          rw [if_neg (by rw [hl]; exact fun h => by cases h)]
          have hl2 := hl
          unfold CG.lies at hl2
          simp only [Bool.and_eq_true, decide_eq_true_eq] at hl2
          have meet : ∀ o ∈ (gs.map toCG).take i, (g.meets o = true ↔ ∃ k, 4096 * k < g.size ∧ o.has (g.base + 4096 * k) = true) := fun o ho => by
            obtain ⟨m, hm⟩ := List.mem_iff_getElem?.1 ho
            rw [List.getElem?_take] at hm
            split at hm
            case isFalse => cases hm
            rename_i hmi
            obtain ⟨o', q1, q2, q3, q4, q5, q6⟩ := F.all m hmi
            rw [q1] at hm
            obtain rfl := Option.some.inj hm
            exact CG.meets_pages F.rle F.pages (by omega) c3 c4 hl2.2 q3 q4 q5 q6
          refine guest_l1 F g (slice : Int) c3 hl2.2 _ (fun hno => ?_) (fun ⟨k, hk, o, ho, h1⟩ => ?_) (g.size / 4096) 0 (by omega) (fun _ h => by omega)
          · rw [if_neg]
            · rfl
            · intro hany
              obtain ⟨o, ho, h1⟩ := List.any_eq_true.1 hany
              obtain ⟨k, hk, h2⟩ := (meet o ho).1 h1
              rw [hno k hk o ho] at h2
              cases h2
          · rw [if_pos (List.any_eq_true.2 ⟨o, ho, (meet o ho).2 ⟨k, hk, h1⟩⟩)]
            rfl
        · simp only [if_neg (show ¬ ((g.base % 4096 : Nat) : Int) = 0 by omega)]
          rw [if_pos c4]
          exact Ev.now _
      · simp only [show (((g.size % 4096 : Nat) : Int) != 0) = true by rw [bne_iff_ne]; omega]
        exact bad _ (if_pos (by omega))
theorem check_loop_ref {gs : GL} (h : okL gs) (ram slice : Nat) (hr : ram ≤ 67108864) (hp : ram % 4096 = 0) (h8 : gs.length ≤ 8) : ∀ (r i : Nat), i + r = gs.length → (∀ j, j < i → (csOf ram slice gs).barAt j = 0) →
    Ev (fun k => mezzanineref25_Check.l0 k (i : Int) (ram : Int) (slice : Int) gs) (scanR (csOf ram slice gs) i r)
  | 0, i, e, hz => by
    refine Ev.step (fun k => mezzanineref25_Check.l0.eq_2 ..) ?_
    simp only [if_neg (show ¬ (i : Int) < (gs.length : Int) by omega)]
    exact Ev.now _
  | r + 1, i, e, hz => by
    have hg := guest_ref (slice := slice) (Fine.mk_ (slice := slice) h (show i < gs.length by omega) h8 hr hp hz)
    refine Ev.step (fun k => mezzanineref25_Check.l0.eq_2 ..) ?_
    simp only [if_pos (show (i : Int) < (gs.length : Int) by omega)]
    refine Ev.bind hg ?_
    unfold scanR scanQ
    by_cases hb : (csOf ram slice gs).barAt i = 0
    · rw [if_pos hb]
      simp only [if_pos (show (((csOf ram slice gs).barAt i : Nat) : Int) = 0 by omega), wrap64_up i (by omega)]
      refine check_loop_ref h ram slice hr hp h8 r (i + 1) (by omega) fun j hj => ?_
      by_cases q : j = i
      · rw [q]; exact hb
      · exact hz j (by omega)
    · rw [if_neg hb]
      simp only [if_neg (show ¬ (((csOf ram slice gs).barAt i : Nat) : Int) = 0 by omega)]
      exact Ev.now _
theorem tmodN (x y : Nat) : Int.tmod (x : Int) (y : Int) = ((x % y : Nat) : Int) := by rw [Int.tmod_eq_emod_of_nonneg (by omega)]; simp
/-- The document's check tells the plain one. -/
theorem check_ref {gs : GL} (h : okL gs) (ram slice : Nat) :
    Ev (fun k => mezzanineref25_Check.f k (ram : Int) (slice : Int) gs) ((csOf ram slice gs).check.1, ((csOf ram slice gs).check.2 : Int)) := by
  have hlen : (gs.map toCG).length = gs.length := List.length_map ..
  have tm : Int.tmod (ram : Int) 4096 = ((ram % 4096 : Nat) : Int) := tmodN ram 4096
  unfold mezzanineref25_Check.f CS.check
  simp only [tm]
  have bad : ∀ r : Int × Nat, r = (-1, 251) → Ev (fun k => mezzanineref25_Check.j0 k true (ram : Int) (slice : Int) gs) (r.1, (r.2 : Int)) := fun r hr => by
    subst hr
    refine Ev.step (fun k => mezzanineref25_Check.j0.eq_2 ..) ?_
    simp only [if_true]
    exact Ev.now _
  by_cases c1 : ram < 2097152
  · simp only [if_pos (show (ram : Int) < 2097152 by omega)]
    exact bad _ (if_pos (.inl c1))
  · simp only [if_neg (show ¬ (ram : Int) < 2097152 by omega)]
    by_cases c2 : 67108864 < ram
    · simp only [if_pos (show (ram : Int) > 67108864 by omega)]
      exact bad _ (if_pos (.inr (.inl c2)))
    · simp only [if_neg (show ¬ (ram : Int) > 67108864 by omega)]
      by_cases c3 : ram % 4096 = 0
      · have hbad1 : ¬ ((csOf ram slice gs).ram < 2097152 ∨ 67108864 < (csOf ram slice gs).ram ∨ (csOf ram slice gs).ram % 4096 ≠ 0) := by unfold csOf; simp only; omega
        simp only [show (((ram % 4096 : Nat) : Int) != 0) = false by rw [bne_eq_false_iff_eq]; omega]
        rw [if_neg hbad1]
        refine Ev.step (fun k => mezzanineref25_Check.j0.eq_2 ..) ?_
        simp only [Bool.false_eq_true, if_false]
        have bad2 : ∀ r : Int × Nat, r = (-1, 255) → Ev (fun k => mezzanineref25_Check.j1 k true (ram : Int) (slice : Int) gs) (r.1, (r.2 : Int)) := fun r hr => by
          subst hr
          refine Ev.step (fun k => mezzanineref25_Check.j1.eq_2 ..) ?_
          simp only [if_true]
          exact Ev.now _
        by_cases d1 : slice = 0
        · simp only [if_pos (show (slice : Int) < 1 by omega)]
          exact bad2 _ (if_pos (.inl d1))
        · simp only [if_neg (show ¬ (slice : Int) < 1 by omega)]
          by_cases d2 : 4294967296 < slice
          · simp only [decide_eq_true (show (slice : Int) > 4294967296 by omega)]
            exact bad2 _ (if_pos (.inr d2))
          · have hbad2 : ¬ ((csOf ram slice gs).slice = 0 ∨ 4294967296 < (csOf ram slice gs).slice) := by unfold csOf; simp only; omega
            simp only [decide_eq_false (show ¬ (slice : Int) > 4294967296 by omega)]
            rw [if_neg hbad2]
            refine Ev.step (fun k => mezzanineref25_Check.j1.eq_2 ..) ?_
            simp only [Bool.false_eq_true, if_false]
            have bad3 : ∀ r : Int × Nat, r = (-1, 250) → Ev (fun k => mezzanineref25_Check.j2 k true (ram : Int) (slice : Int) gs) (r.1, (r.2 : Int)) := fun r hr => by
              subst hr
              refine Ev.step (fun k => mezzanineref25_Check.j2.eq_2 ..) ?_
              simp only [if_true]
              exact Ev.now _
            by_cases e1 : gs.length = 0
            · simp only [if_pos (show (gs.length : Int) < 1 by omega)]
              exact bad3 _ (if_pos (.inl (hlen.trans e1)))
            · simp only [if_neg (show ¬ (gs.length : Int) < 1 by omega)]
              by_cases e2 : 8 < gs.length
              · simp only [decide_eq_true (show (gs.length : Int) > 8 by omega)]
                exact bad3 _ (if_pos (.inr (by show 8 < (gs.map toCG).length; omega)))
              · rw [if_neg (show ¬ ((csOf ram slice gs).gs.length = 0 ∨ 8 < (csOf ram slice gs).gs.length) by show ¬ ((gs.map toCG).length = 0 ∨ 8 < (gs.map toCG).length); omega)]
                simp only [decide_eq_false (show ¬ (gs.length : Int) > 8 by omega)]
                refine Ev.step (fun k => mezzanineref25_Check.j2.eq_2 ..) ?_
                simp only [Bool.false_eq_true, if_false]
                have hl := check_loop_ref h ram slice (by omega) c3 (by omega) gs.length 0 (by omega) (fun _ h => by omega)
                unfold scanR at hl
                rw [show (csOf ram slice gs).gs.length = gs.length from hlen]
                cases hs : scanQ (csOf ram slice gs).barAt 0 gs.length with
                | none => rw [hs] at hl; exact hl
                | some p => obtain ⟨m, e⟩ := p; rw [hs] at hl; exact hl
      · simp only [show (((ram % 4096 : Nat) : Int) != 0) = true by rw [bne_iff_ne]; omega]
        exact bad _ (if_pos (.inr (.inr c3)))
/-- The check's answer is one of the known ones. -/
theorem check_zero {ram slice : Nat} {gs : GL} (h : (csOf ram slice gs).check.2 = 0) : 2097152 ≤ ram ∧ ram ≤ 67108864 ∧ ram % 4096 = 0 ∧ gs.length ≤ 8 ∧ 0 < gs.length ∧ ∀ i, i < gs.length → (csOf ram slice gs).barAt i = 0 := by
  have h1 : (csOf ram slice gs).accepted = true := decide_eq_true h
  obtain ⟨a, b, c, d, e, f, g, i⟩ := (CS.accepted_iff _).1 h1
  have hlen : (csOf ram slice gs).gs.length = gs.length := List.length_map ..
  rw [hlen] at f g i
  exact ⟨a, b, c, g, f, i⟩
/-! ### The tables of a guest, as lists: the program's and the document's are one -/
theorem or_add (x y : Nat) (hx : x * 1024 < 18446744073709551616) (hy : y < 1024) : Go.bits .or .u64 (((x * 1024 : Nat) : Int)) (y : Int) = ((x * 1024 + y : Nat) : Int) := by
  have e : Go.bits .or .u64 (((x * 1024 : Nat) : Int)) (y : Int) = ((x * 1024 ||| y : Nat) : Int) := u64_or_nat _ _ hx (by omega)
  rw [e]
  have := Nat.two_pow_add_eq_or_of_lt (i := 10) (b := y) (by omega) x
  rw [show 2 ^ 10 * x = x * 1024 by omega] at this
  rw [this]
/-- A word of a table. -/
def eOf (a fl : Nat) : Nat := a / 4096 * 1024 + fl
theorem field44 (v : Nat) (h : v < 17592186044416) : bits_Field.f (v : Int) 0 44 = some (v : Int) := by
  have e1 : bits_width.f 0 44 = some 44 := by kernel_rfl
  have e2 : bits_Mask.f 44 = some 17592186044415 := by kernel_rfl
  have e3 : shr .u64 (v : Int) 0 = (v : Int) := by unfold shr; simp
  have e4 : Go.bits .and .u64 (v : Int) 17592186044415 = (v : Int) := by
    have e : Go.bits .and .u64 (v : Int) ((17592186044415 : Nat) : Int) = ((v &&& 17592186044415 : Nat) : Int) := u64_and_nat v _ (by omega) (by omega)
    have e2 : v &&& 17592186044415 = v % 17592186044416 := Nat.and_two_pow_sub_one_eq_mod v 44
    rw [e2, Nat.mod_eq_of_lt h] at e
    exact e
  unfold bits_Field.f
  rw [e1]
  simp only [Option.bind_some, e2, e3, e4]
  rfl
theorem tdivN (x y : Nat) : Int.tdiv (x : Int) (y : Int) = ((x / y : Nat) : Int) := by rw [Int.tdiv_eq_ediv_of_nonneg (by omega)]; simp
theorem entry_f (a fl : Nat) (ha : a < 4294967296) (hf : fl < 256) : gtab_entry.f (a : Int) (fl : Int) = some ((eOf a fl : Nat) : Int) := by
  have td : Int.tdiv (a : Int) 4096 = ((a / 4096 : Nat) : Int) := tdivN a 4096
  have e1 : IntKind.u64.wrap (((a / 4096 : Nat) : Int) * 1024) = ((a / 4096 * 1024 : Nat) : Int) := by rw [wrapu (by omega) (by omega)]; omega
  have e2 : Go.bits .and .u64 (fl : Int) 255 = (fl : Int) := by
    have e : Go.bits .and .u64 (fl : Int) ((255 : Nat) : Int) = ((fl &&& 255 : Nat) : Int) := u64_and_nat fl _ (by omega) (by omega)
    have e2 : fl &&& 255 = fl % 256 := Nat.and_two_pow_sub_one_eq_mod fl 8
    rw [e2, Nat.mod_eq_of_lt hf] at e
    exact e
  unfold gtab_entry.f pte_Make.f
  rw [td, wrapu (by omega) (by omega), field44 _ (by omega)]
  simp only [Option.bind_some, e1, e2, or_add (a / 4096) fl (by omega) (by omega)]
  rfl
theorem entry_ref (a fl : Nat) (ha : a < 4294967296) (hf : fl < 256) : mezzanineref26_entry.f (a : Int) (fl : Int) = some ((eOf a fl : Nat) : Int) := by
  have td : Int.tdiv (a : Int) 4096 = ((a / 4096 : Nat) : Int) := tdivN a 4096
  unfold mezzanineref26_entry.f eOf
  rw [td, wrapu (x := ((a / 4096 : Nat) : Int)) (by omega) (by omega), wrapu (x := ((a / 4096 : Nat) : Int) * 1024) (by omega) (by omega), wrapu (by omega) (by omega)]
  congr 1
/-- Where a guest's tables begin. -/
def rootOf (i : Nat) : Nat := 2147745792 + 32768 * i
theorem root_f (i : Nat) (h : i < 8) : gtab_Root.f (i : Int) = some ((rootOf i : Nat) : Int) := by
  unfold gtab_Root.f gtab_is.f rootOf
  simp only [if_pos (show (i : Int) ≥ 0 by omega), Option.bind_some, decide_eq_true (show (i : Int) < 8 by omega), if_true]
  rw [wrapu (x := (i : Int)) (by omega) (by omega), wrapu (x := 32768 * (i : Int)) (by omega) (by omega), wrapu (by omega) (by omega)]
  congr 1
theorem root_ref (i : Nat) (h : i < 8) : mezzanineref26_Root.f (i : Int) = some ((rootOf i : Nat) : Int) := by
  unfold mezzanineref26_Root.f rootOf
  rw [if_neg (by omega), if_neg (by omega), wrapu (x := (i : Int)) (by omega) (by omega), wrapu (x := 32768 * (i : Int)) (by omega) (by omega), wrapu (by omega) (by omega)]
  congr 1
abbrev WL := List (S35)
/-- The words for a guest's pages. -/
def pageW (t b m : Nat) : S35 := ⟨((t + 20480 + 8 * m : Nat) : Int), ((eOf (b + 4096 * m) 223 : Nat) : Int)⟩
def headW (t : Nat) : WL := [⟨((t + 16 : Nat) : Int), ((eOf (t + 16384) 1 : Nat) : Int)⟩, ⟨((t + 16384 : Nat) : Int), ((eOf (t + 20480) 1 : Nat) : Int)⟩]
def wordsTo (t b m : Nat) : WL := headW t ++ (List.range m).map (pageW t b)
theorem wordsTo_succ (t b m : Nat) : wordsTo t b (m + 1) = wordsTo t b m ++ [pageW t b m] := by
  unfold wordsTo
  rw [List.range_succ, List.map_append, List.map_singleton, List.append_assoc]
theorem wordsTo_len (t b m : Nat) : (wordsTo t b m).length = m + 2 := by unfold wordsTo headW; simp
theorem tables_loop (t b n : Nat) (z : Int) (ht : t < 4294967296 - 1048576) (hn : n ≤ 512) (hb : b + 4096 * n < 4294967296) : ∀ (r m : Nat), m + r = n →
    Ev (fun k => gtab_Tables.l0 k (t : Int) (wordsTo t b m) (n : Int) (m : Int) (b : Int) z) (wordsTo t b n, 0)
  | 0, m, e => by
    refine Ev.step (fun k => gtab_Tables.l0.eq_2 ..) ?_
    simp only [if_neg (show ¬ (m : Int) < (n : Int) by omega)]
    rw [show n = m by omega]
    exact Ev.now _
  | r + 1, m, e => by
    refine Ev.step (fun k => gtab_Tables.l0.eq_2 ..) ?_
    have e1 : IntKind.u64.wrap ((b : Int) + IntKind.u64.wrap (4096 * (m : Int))) = ((b + 4096 * m : Nat) : Int) := by
      rw [wrapu (x := 4096 * (m : Int)) (by omega) (by omega), wrapu (by omega) (by omega)]; omega
    have e2 : IntKind.u64.wrap (IntKind.u64.wrap ((t : Int) + 20480) + IntKind.u64.wrap (8 * (m : Int))) = ((t + 20480 + 8 * m : Nat) : Int) := by
      rw [wrapu (x := (t : Int) + 20480) (by omega) (by omega), wrapu (x := 8 * (m : Int)) (by omega) (by omega), wrapu (by omega) (by omega)]; omega
    have e3 : IntKind.u64.wrap ((m : Int) + 1) = ((m + 1 : Nat) : Int) := by rw [wrapu (by omega) (by omega)]; omega
    have e4 := entry_f (b + 4096 * m) 223 (by omega) (by omega)
    have e5 : ((223 : Nat) : Int) = 223 := rfl
    rw [e5] at e4
    simp only [if_pos (show (m : Int) < (n : Int) by omega), e1, e2, e3, e4, Option.bind_some, if_pos (show (wordsTo t b m).length < 8796093022208 by rw [wordsTo_len]; omega)]
    have := tables_loop t b n z ht hn hb r (m + 1) (by omega)
    rw [wordsTo_succ] at this
    exact this
theorem tables_loop_ref {gs : GL} {i : Nat} (hi : i < gs.length) (t b n z : Nat) (ram s : Int) (hg : rd_T53 gs (i : Int) = ⟨(b : Int), (z : Int)⟩) (hz : z / 4096 = n) (hz2 : z < 4294967296) (ht : t < 4294967296 - 1048576) (hn : n ≤ 512) (hb : b + 4096 * n < 4294967296) : ∀ (r m : Nat), m + r = n →
    Ev (fun k => mezzanineref26_Tables.l0 k (i : Int) (t : Int) (wordsTo t b m) (m : Int) ram s gs) (wordsTo t b n, 0)
  | 0, m, e => by
    refine Ev.step (fun k => mezzanineref26_Tables.l0.eq_2 ..) ?_
    have td : Int.tdiv (z : Int) 4096 = ((z / 4096 : Nat) : Int) := tdivN z 4096
    simp only [if_pos (show (0 : Int) ≤ (i : Int) by omega), if_pos (show (i : Int) < (gs.length : Int) by omega), hg, td, hz, wrapu (x := (n : Int)) (by omega) (by omega), if_neg (show ¬ (m : Int) < (n : Int) by omega)]
    rw [show n = m by omega]
    exact Ev.now _
  | r + 1, m, e => by
    refine Ev.step (fun k => mezzanineref26_Tables.l0.eq_2 ..) ?_
    have td : Int.tdiv (z : Int) 4096 = ((z / 4096 : Nat) : Int) := tdivN z 4096
    have e1 : IntKind.u64.wrap ((b : Int) + IntKind.u64.wrap (4096 * (m : Int))) = ((b + 4096 * m : Nat) : Int) := by
      rw [wrapu (x := 4096 * (m : Int)) (by omega) (by omega), wrapu (by omega) (by omega)]; omega
    have e2 : IntKind.u64.wrap (IntKind.u64.wrap ((t : Int) + 20480) + IntKind.u64.wrap (8 * (m : Int))) = ((t + 20480 + 8 * m : Nat) : Int) := by
      rw [wrapu (x := (t : Int) + 20480) (by omega) (by omega), wrapu (x := 8 * (m : Int)) (by omega) (by omega), wrapu (by omega) (by omega)]; omega
    have e3 : IntKind.u64.wrap ((m : Int) + 1) = ((m + 1 : Nat) : Int) := by rw [wrapu (by omega) (by omega)]; omega
    have e4 := entry_ref (b + 4096 * m) 223 (by omega) (by omega)
    have e5 : ((223 : Nat) : Int) = 223 := rfl
    rw [e5] at e4
    simp only [if_pos (show (0 : Int) ≤ (i : Int) by omega), if_pos (show (i : Int) < (gs.length : Int) by omega), hg, td, hz, wrapu (x := (n : Int)) (by omega) (by omega), if_pos (show (m : Int) < (n : Int) by omega), e1, e2, e3, e4, Option.bind_some, if_pos (show (wordsTo t b m).length < 8796093022208 by rw [wordsTo_len]; omega)]
    have := tables_loop_ref hi t b n z ram s hg hz hz2 ht hn hb r (m + 1) (by omega)
    rw [wordsTo_succ] at this
    exact this
/-- What both tell of a guest's tables. -/
def tablesOf (ram slice : Nat) (gs : GL) (i : Int) : WL × Int :=
  if (csOf ram slice gs).check.2 = 0 then
    (if i < 0 ∨ (gs.length : Int) ≤ i then ([], 1) else (wordsTo (rootOf i.toNat) ((gs.map toCG).getD i.toNat ⟨0, 0⟩).base (((gs.map toCG).getD i.toNat ⟨0, 0⟩).size / 4096), 0))
  else ([], ((csOf ram slice gs).check.2 : Int))
theorem tables_both {gs : GL} (h : okL gs) (ram slice : Nat) (hr : ram < 18446744073709551616) (i : Int) :
    Ev (fun k => gtab_Tables.f k (ram : Int) (slice : Int) gs i) (tablesOf ram slice gs i) ∧ Ev (fun k => mezzanineref26_Tables.f k (ram : Int) (slice : Int) gs i) (tablesOf ram slice gs i) := by
  have hc := check_conf h ram slice hr
  have hd := check_ref h ram slice
  unfold gtab_Tables.f mezzanineref26_Tables.f tablesOf
  by_cases h0 : (csOf ram slice gs).check.2 = 0
  · rw [if_pos h0]
    have hc0 : (((csOf ram slice gs).check.2 : Nat) : Int) = 0 := by omega
    obtain ⟨r1, r2, r3, h8, hpos, hz⟩ := check_zero h0
    by_cases c1 : i < 0
    · rw [if_pos (.inl c1)]
      constructor
      · refine Ev.bind hc ?_
        simp only [if_pos hc0, if_pos c1]
        refine Ev.step (fun k => gtab_Tables.j0.eq_2 ..) ?_
        simp only [if_true]
        exact Ev.now _
      · refine Ev.bind hd ?_
        simp only [if_pos hc0, if_pos c1]
        refine Ev.step (fun k => mezzanineref26_Tables.j0.eq_2 ..) ?_
        simp only [if_true]
        exact Ev.now _
    · by_cases c2 : (gs.length : Int) ≤ i
      · rw [if_pos (.inr c2)]
        constructor
        · refine Ev.bind hc ?_
          simp only [if_pos hc0, if_neg c1, decide_eq_true (show i ≥ (gs.length : Int) from c2)]
          refine Ev.step (fun k => gtab_Tables.j0.eq_2 ..) ?_
          simp only [if_true]
          exact Ev.now _
        · refine Ev.bind hd ?_
          simp only [if_pos hc0, if_neg c1, decide_eq_true (show i ≥ (gs.length : Int) from c2)]
          refine Ev.step (fun k => mezzanineref26_Tables.j0.eq_2 ..) ?_
          simp only [if_true]
          exact Ev.now _
      · rw [if_neg (by omega)]
        obtain ⟨m, rfl⟩ : ∃ m : Nat, i = (m : Int) := ⟨i.toNat, by omega⟩
        have hm : m < gs.length := by omega
        obtain ⟨g, hg, e1, e2, e3⟩ := h.at_ hm
        have hb := hz m hm
        unfold CS.barAt csOf at hb
        rw [e1] at hb
        obtain ⟨g1, g2, g3, g4, g5, g6, _⟩ := CG.bars_zero hb
        simp only at g6
        rw [Int.toNat_natCast, e1]
        have hroot : rootOf m < 4294967296 - 1048576 := by unfold rootOf; omega
        have td : Int.tdiv (g.size : Int) 4096 = ((g.size / 4096 : Nat) : Int) := tdivN g.size 4096
        have w16 : IntKind.u64.wrap (((rootOf m : Nat) : Int) + 16) = ((rootOf m + 16 : Nat) : Int) := by rw [wrapu (by omega) (by omega)]; omega
        have w1 : IntKind.u64.wrap (((rootOf m : Nat) : Int) + 16384) = ((rootOf m + 16384 : Nat) : Int) := by rw [wrapu (by omega) (by omega)]; omega
        have w2 : IntKind.u64.wrap (((rootOf m : Nat) : Int) + 20480) = ((rootOf m + 20480 : Nat) : Int) := by rw [wrapu (by omega) (by omega)]; omega
        have n1 : ((1 : Nat) : Int) = 1 := rfl
        have f1 := entry_f (rootOf m + 16384) 1 (by omega) (by omega)
        have f2 := entry_f (rootOf m + 20480) 1 (by omega) (by omega)
        have f3 := entry_ref (rootOf m + 16384) 1 (by omega) (by omega)
        have f4 := entry_ref (rootOf m + 20480) 1 (by omega) (by omega)
        rw [n1] at f1 f2 f3 f4
        constructor
        · refine Ev.bind hc ?_
          simp only [if_pos hc0, if_neg c1, decide_eq_false (show ¬ (m : Int) ≥ (gs.length : Int) from c2)]
          refine Ev.step (fun k => gtab_Tables.j0.eq_2 ..) ?_
          simp only [Bool.false_eq_true, if_false, if_pos (show (0 : Int) ≤ (m : Int) by omega), if_pos (show (m : Int) < (gs.length : Int) by omega), root_f m (by omega), Option.bind_some, w16, w1, w2, f1, f2, e3, td, wrapu (x := ((g.size / 4096 : Nat) : Int)) (by omega) (by omega)]
          exact tables_loop (rootOf m) g.base (g.size / 4096) (g.size : Int) hroot (by omega) (by omega) (g.size / 4096) 0 (by omega)
        · refine Ev.bind hd ?_
          simp only [if_pos hc0, if_neg c1, decide_eq_false (show ¬ (m : Int) ≥ (gs.length : Int) from c2)]
          refine Ev.step (fun k => mezzanineref26_Tables.j0.eq_2 ..) ?_
          simp only [Bool.false_eq_true, if_false, root_ref m (by omega), Option.bind_some, w16, w1, w2, f3, f4, if_pos (show ([] : WL).length < 8796093022208 by decide), List.nil_append, if_pos (show ([⟨((rootOf m + 16 : Nat) : Int), ((eOf (rootOf m + 16384) 1 : Nat) : Int)⟩] : WL).length < 8796093022208 by simp)]
          exact tables_loop_ref hm (rootOf m) g.base (g.size / 4096) g.size (ram : Int) (slice : Int) e3 rfl (by omega) hroot (by omega) (by omega) (g.size / 4096) 0 (by omega)
  · rw [if_neg h0]
    have hc0 : ¬ (((csOf ram slice gs).check.2 : Nat) : Int) = 0 := by omega
    constructor
    · refine Ev.bind hc ?_
      simp only [if_neg hc0]
      exact Ev.now _
    · refine Ev.bind hd ?_
      simp only [if_neg hc0]
      exact Ev.now _
theorem same_self (l : WL) (hl : l.length < 4611686018427387904) : Ev (fun k => mezzaninelaw26_same.f k l l) true := by
  unfold mezzaninelaw26_same.f
  simp only [if_true]
  suffices h : ∀ (r i : Nat), i + r = l.length → Ev (fun k => mezzaninelaw26_same.l0 k l l (i : Int)) true from h l.length 0 (by omega)
  intro r
  induction r with
  | zero =>
    intro i e
    refine Ev.step (fun k => mezzaninelaw26_same.l0.eq_2 ..) ?_
    simp only [if_neg (show ¬ (i : Int) < (l.length : Int) by omega)]
    exact Ev.now _
  | succ r ih =>
    intro i e
    refine Ev.step (fun k => mezzaninelaw26_same.l0.eq_2 ..) ?_
    have w : wrap64 ((i : Int) + 1) = ((i + 1 : Nat) : Int) := by unfold wrap64; omega
    simp only [if_pos (show (i : Int) < (l.length : Int) by omega), if_pos (show (0 : Int) ≤ (i : Int) by omega), BEq.rfl, Bool.not_true, Bool.or_self, Bool.false_eq_true, if_false, w]
    exact ih (i + 1) (by omega)
theorem roots_same (i : Int) : ∃ r : Int, gtab_Root.f i = some r ∧ mezzanineref26_Root.f i = some r := by
  by_cases h : 0 ≤ i ∧ i < 8
  · obtain ⟨m, rfl⟩ : ∃ m : Nat, i = (m : Int) := ⟨i.toNat, by omega⟩
    exact ⟨_, root_f m (by omega), root_ref m (by omega)⟩
  · refine ⟨0, ?_, ?_⟩
    · unfold gtab_Root.f gtab_is.f
      by_cases c : i ≥ 0
      · simp only [if_pos c, Option.bind_some, decide_eq_false (show ¬ i < 8 by omega), Bool.false_eq_true, if_false]
      · simp only [if_neg c, Option.bind_some, Bool.false_eq_true, if_false]
    · unfold mezzanineref26_Root.f
      by_cases c : i < 0
      · rw [if_pos c]
      · rw [if_neg c, if_pos (by omega)]
theorem hgatps_same (i : Int) : ∃ r : Int, gtab_Hgatp.f i = some r ∧ mezzanineref26_Hgatp.f i = some r := by
  by_cases h : 0 ≤ i ∧ i < 8
  · obtain ⟨m, rfl⟩ : ∃ m : Nat, i = (m : Int) := ⟨i.toNat, by omega⟩
    rcases (by omega : m = 0 ∨ m = 1 ∨ m = 2 ∨ m = 3 ∨ m = 4 ∨ m = 5 ∨ m = 6 ∨ m = 7) with rfl | rfl | rfl | rfl | rfl | rfl | rfl | rfl
    all_goals exact ⟨_, rfl, by kernel_rfl⟩
  · refine ⟨0, ?_, ?_⟩
    · unfold gtab_Hgatp.f gtab_is.f
      by_cases c : i ≥ 0
      · simp only [if_pos c, Option.bind_some, decide_eq_false (show ¬ i < 8 by omega), Bool.false_eq_true, if_false]
      · simp only [if_neg c, Option.bind_some, Bool.false_eq_true, if_false]
    · unfold mezzanineref26_Hgatp.f
      by_cases c : i < 0
      · rw [if_pos c]
      · rw [if_neg c, if_pos (by omega)]
theorem awake_true : Ev (fun k => mezzaninelaw26_awake.f k) true := Ev.of (fun k => mezzaninelaw26_awake.mono k) (k := 20) (by kernel_rfl)

theorem law_zeroes (i : Int) (x5 : WL) (e : Int) (x7 : Nat) (ram s : Int) (gs : GL) (R : Bool) (hx : x7 < 10) (hnext : Ev (fun k => mezzaninelaw26_GtabTables.l0 k i x5 e ((x7 + 1 : Nat) : Int) ram s gs) R) :
    ∀ (r j : Nat) (l : WL), l.length < 4611686018427387904 → j + r = l.length → Ev (fun k => mezzaninelaw26_GtabTables.l1 k i x5 e (x7 : Int) l (j : Int) ram s gs) R
  | 0, j, l, hl, h => by
    refine Ev.step (fun k => mezzaninelaw26_GtabTables.l1.eq_2 ..) ?_
    have w : wrap64 ((x7 : Int) + 1) = ((x7 + 1 : Nat) : Int) := by unfold wrap64; omega
    simp only [if_neg (show ¬ (j : Int) < (l.length : Int) by omega), w]
    exact hnext
  | r + 1, j, l, hl, h => by
    refine Ev.step (fun k => mezzaninelaw26_GtabTables.l1.eq_2 ..) ?_
    have w : wrap64 ((j : Int) + 1) = ((j + 1 : Nat) : Int) := by unfold wrap64; omega
    simp only [if_pos (show (j : Int) < (l.length : Int) by omega), if_pos (show (0 : Int) ≤ (j : Int) by omega), w]
    exact law_zeroes i x5 e x7 ram s gs R hx hnext r (j + 1) _ (by rw [List.length_set]; exact hl) (by rw [List.length_set]; omega)
theorem law_round {gs : GL} (h : okL gs) (ram slice : Nat) (hr : ram < 18446744073709551616) (i : Int) (x7 : Nat) (hx : x7 < 2)
    (hnext : Ev (fun k => mezzaninelaw26_GtabTables.l0 k i (tablesOf ram slice gs i).1 (tablesOf ram slice gs i).2 ((x7 + 1 : Nat) : Int) (ram : Int) (slice : Int) gs) true) :
    Ev (fun k => mezzaninelaw26_GtabTables.l0 k i (tablesOf ram slice gs i).1 (tablesOf ram slice gs i).2 (x7 : Int) (ram : Int) (slice : Int) gs) true := by
  have hlen : (tablesOf ram slice gs i).1.length < 4611686018427387904 := by
    unfold tablesOf
    split
    · rename_i h0
      split
      · simp
      · obtain ⟨r1, r2, r3, h8, hpos, hz⟩ := check_zero h0
        rename_i hc
        obtain ⟨m, rfl⟩ : ∃ m : Nat, i = (m : Int) := ⟨i.toNat, by omega⟩
        obtain ⟨g, hg, e1, e2, e3⟩ := h.at_ (show m < gs.length by omega)
        have hb := hz m (by omega)
        unfold CS.barAt csOf at hb
        rw [e1] at hb
        obtain ⟨g1, g2, _⟩ := CG.bars_zero hb
        rw [Int.toNat_natCast, e1]
        simp only [wordsTo_len]
        omega
    · simp
  refine Ev.step (fun k => mezzaninelaw26_GtabTables.l0.eq_2 ..) ?_
  simp only [if_pos (show (x7 : Int) < 2 by omega)]
  refine Ev.bind (tables_both h ram slice hr i).1 ?_
  simp only [if_true]
  refine Ev.bind (same_self _ hlen) ?_
  refine Ev.step (fun k => mezzaninelaw26_GtabTables.j1.eq_2 ..) ?_
  simp only [Bool.not_true, Bool.false_eq_true, if_false]
  exact law_zeroes i _ _ x7 _ _ gs true (by omega) hnext (tablesOf ram slice gs i).1.length 0 _ hlen (by omega)
theorem GtabTables_pure (ram slice : Nat) (gs : GL) (i : Int) (hr : ram < 18446744073709551616) (h : okL gs) : ∃ k, mezzaninelaw26_GtabTables.f k (ram : Int) (slice : Int) gs i = some true := by
  apply Ev.rounds
  unfold mezzaninelaw26_GtabTables.f
  refine Ev.bind awake_true ?_
  simp only [if_true]
  by_cases c : (gs.length : Int) > 100
  · simp only [if_pos c]
    exact Ev.now _
  · simp only [if_neg c]
    refine Ev.bind (tables_both h ram slice hr i).2 ?_
    refine law_round h ram slice hr i 0 (by omega) (law_round h ram slice hr i 1 (by omega) ?_)
    obtain ⟨a, a1, a2⟩ := roots_same i
    obtain ⟨b, b1, b2⟩ := hgatps_same i
    refine Ev.step (fun k => mezzaninelaw26_GtabTables.l0.eq_2 ..) ?_
    simp only [if_neg (show ¬ ((1 + 1 : Nat) : Int) < 2 by omega), a1, a2, b1, b2, Option.bind_some, if_true, BEq.rfl]
    exact Ev.now _
/-! ### A configuration that came in -/
theorem guests_of_rows : ∀ rows : List (List Value), (∀ r ∈ rows, WFits r [some .u64, some .u64]) → ∃ gs : GL, gs.length = rows.length ∧ okL gs ∧ rows.flatten = gs.flatMap (fun g => [.int .u64 g.f0, .int .u64 g.f1])
  | [], _ => ⟨[], rfl, rfl, rfl⟩
  | r :: rows, h => by
    obtain ⟨gs, h1, h2, h3⟩ := guests_of_rows rows (fun r hr => h r (List.mem_cons_of_mem _ hr))
    have hr := h r (List.mem_cons_self ..)
    obtain ⟨a, _, rfl, ha, hr⟩ := hr.int
    obtain ⟨b, _, rfl, hb, hr⟩ := hr.int
    obtain rfl := hr.nil
    obtain ⟨x, rfl, hx⟩ := nat_u64 ha
    obtain ⟨y, rfl, hy⟩ := nat_u64 hb
    have f1 : fit64 (x : Int) = true := by unfold fit64; simp only [Bool.and_eq_true, decide_eq_true_eq]; omega
    have f2 : fit64 (y : Int) = true := by unfold fit64; simp only [Bool.and_eq_true, decide_eq_true_eq]; omega
    refine ⟨⟨(x : Int), (y : Int)⟩ :: gs, by simp [h1], ?_, ?_⟩
    · unfold okL at h2 ⊢
      rw [List.all_cons, f1, f2, h2]
      rfl
    · rw [List.flatten_cons, List.flatMap_cons, h3]
theorem flat_at : ∀ (gs : GL) (j : Nat) (g : S53), gs[j]? = some g → ∀ i u, ([.int .u64 g.f0, .int .u64 g.f1] : List Value)[i]? = some u → (gs.flatMap (fun g => ([.int .u64 g.f0, .int .u64 g.f1] : List Value)))[j * 2 + i]? = some u
  | [], j, g, h, _, _, _ => by simp at h
  | y :: gs, 0, g, h, i, u, hu => by
    simp at h
    subst h
    have hi : i < 2 := by have := (List.getElem?_eq_some_iff.1 hu).1; simpa using this
    simp only [List.flatMap_cons]
    rw [Nat.zero_mul, Nat.zero_add, List.getElem?_append_left (by simpa using hi)]
    exact hu
  | y :: gs, j + 1, g, h, i, u, hu => by
    simp only [List.flatMap_cons]
    rw [List.getElem?_append_right (by simp; omega)]
    have := flat_at gs j g (by simpa using h) i u hu
    rw [← this]
    congr 1
    simp
    omega
theorem guests_of_rd {W : World} {v : Value} {gs : GL} (h : Rd W v gs.length (gs.flatMap (fun g => [.int .u64 g.f0, .int .u64 g.f1]))) : ∃ A c, v = .slice A gs.length c ∧ Kd.C k53 W A gs.length gs ∧ gs.length ≤ c := by
  obtain ⟨A, c, rfl, h1, h2, h3, h4⟩ := h
  refine ⟨A, c, rfl, ⟨rfl, by unfold maxLen at h2; omega, fun hpos => ?_⟩, h1⟩
  cases A with
  | none => have := (h3 rfl).1; omega
  | some ad => exact ⟨ad, rfl, fun j p hp => ⟨[.int .u64 p.f0, .int .u64 p.f1], rfl, k53_mk W p, fun i u hu => h4 ad rfl _ u (flat_at gs j p hp i u hu)⟩⟩
theorem open_config {H : Type} {enc : TypeId × Value → H} {W : World} {r : Reach} {b0 : Nat} {v : Value} {d : DataW H} {ps : List MemPlace} (hv : Value.okWide Try.prog W r b0 25 v) (h : DataW.Trod enc Try.prog W 0 (fun _ => true) true 25 v d ps) :
    ∃ (ram slice : Nat) (A : Option Addr) (c : Nat) (gs : GL), v = .agg #[.int .u64 (ram : Int), .int .u64 (slice : Int), .slice A gs.length c] ∧ ram < 18446744073709551616 ∧ slice < 18446744073709551616 ∧ Kd.C k53 W A gs.length gs ∧ gs.length ≤ c ∧ okL gs := by
  obtain ⟨c0, c1, c2, y0, y1, y2, m, rfl, _, _, hy0, hy1, hy2⟩ := Joins.open_agg3 Try.underlying25 (by kernel_rfl) (by kernel_rfl) hv h
  obtain ⟨n0, e0, _, w0⟩ := DataW.trod_int Try.underlying22 hy0
  obtain ⟨n1, e1, _, w1⟩ := DataW.trod_int Try.underlying22 hy1
  obtain rfl := (List.cons.inj e0).1
  obtain rfl := (List.cons.inj e1).1
  obtain ⟨ram, rfl, hr⟩ := nat_u64 w0
  obtain ⟨slice, rfl, hs⟩ := nat_u64 w1
  have hsl : ∃ a l c, c2 = .slice a l c := by
    rcases Deep.open_slice Try.underlying23 hy2 with ⟨hcs, _⟩ | ⟨a, len, cap, _, _, _, _, hcs, _⟩
    · exact ⟨_, _, _, (List.cons.inj hcs).1⟩
    · exact ⟨_, _, _, (List.cons.inj hcs).1⟩
  obtain ⟨a, l, c, rfl⟩ := hsl
  obtain ⟨rows, hr0, hw0⟩ := open_rows 3 Try.underlying23 (e := 53) (by kernel_rfl) ⟨a, l, c, rfl⟩ ⟨m, hy2⟩
  rw [show kindsOf Try.prog 3 53 = [some .u64, some .u64] from by kernel_rfl] at hw0
  obtain ⟨gs, h1, h2, h3⟩ := guests_of_rows rows hw0
  rw [h3, ← h1] at hr0
  obtain ⟨A, c', e2, h4, h5⟩ := guests_of_rd hr0
  exact ⟨ram, slice, A, c', gs, by rw [e2], hr, hs, h4, h5, h2⟩
end Go.Proofs.Ytacgjgmladbgeaa.PGtabTables

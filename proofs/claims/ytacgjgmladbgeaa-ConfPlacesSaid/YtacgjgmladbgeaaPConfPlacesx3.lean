-- Laid by a program: a print of this law's functions, with contracts of this session's own put in.
import Derived.Test.YtacgjgmladbgeaaPConfPlacesx0
import Derived.Test.YtacgjgmladbgeaaPConfPlacesx1
import Derived.Test.YtacgjgmladbgeaaPConfPlacesx2
namespace Go.Proofs.Ytacgjgmladbgeaa.PConfPlaces
open Go.RowKit Go.Proofs.YtacgjgmladbgeaaW.PrintWords Go.Proofs.YtacgjgmladbgeaaW.PrintLast Go.Proofs.YtacgjgmladbgeaaW.PrintMore
attribute [local go_sem] max2_int min2_int max_two min_two max_three min_three max_four min_four   -- for this text's walks alone
set_option linter.unusedVariables false
set_option linter.unusedSimpArgs false

/-! ### The checks of configurations, as lists and numbers: the program's and the document's are one -/
abbrev GL := List (S53)
def okL (gs : GL) : Prop := gs.all (fun g => fit64 g.f0 && fit64 g.f1) = true
theorem okL.take {gs : GL} (h : okL gs) (i : Nat) : okL (gs.take i) :=
  List.all_eq_true.2 fun g hg => List.all_eq_true.1 h g (List.mem_of_mem_take hg)
/-- The guest at a place. -/
theorem okL.at_ {gs : GL} (h : okL gs) {i : Nat} (hi : i < gs.length) : ∃ g : CG, g.Ok ∧ (gs.map toCG).getD i ⟨0, 0⟩ = g ∧ (gs.map toCG)[i]? = some g ∧ rd_T53 gs (i : Int) = ⟨(g.base : Int), (g.size : Int)⟩ := by
  have e : rd_T53 gs (i : Int) = gs[i] := by
    unfold rd_T53
    rw [Int.toNat_natCast, List.getD_eq_getElem?_getD, List.getElem?_eq_getElem hi]
    rfl
  have hok := List.all_eq_true.1 h _ (List.getElem_mem hi)
  simp only [Bool.and_eq_true] at hok
  obtain ⟨x, hx, hx2⟩ := fit64_nat hok.1
  obtain ⟨y, hy, hy2⟩ := fit64_nat hok.2
  have e2 : (gs.map toCG)[i]? = some ⟨x, y⟩ := by
    rw [List.getElem?_map, List.getElem?_eq_getElem hi, Option.map_some]
    simp only [toCG, hx, hy, Int.toNat_natCast]
  refine ⟨⟨x, y⟩, ⟨hx2, hy2⟩, ?_, e2, ?_⟩
  · rw [List.getD_eq_getElem?_getD, e2]; rfl
  · rw [e]
    cases hg : gs[i] with
    | mk a b =>
      rw [hg] at hx hy
      simp only at hx hy
      rw [hx, hy]
/-- A configuration's plain form. -/
def csOf (ram slice : Nat) (gs : GL) : CS := ⟨ram, slice, gs.map toCG⟩
theorem wrap64_up (i : Nat) (h : i < 1000000) : wrap64 ((i : Int) + 1) = ((i + 1 : Nat) : Int) := by unfold wrap64; omega
theorem bars_f {gs : GL} (h : okL gs) (ram : Nat) (hr : ram ≤ 67108864) {i : Nat} (hi : i < gs.length) (h8 : gs.length ≤ 8) (slice : Nat) :
    conf_bars.f (rd_T53 gs (i : Int)).f0 (rd_T53 gs (i : Int)).f1 (gs.take i) (ram : Int) = some (((csOf ram slice gs).barAt i : Nat) : Int) := by
  obtain ⟨g, hg, e1, e2, e3⟩ := h.at_ hi
  rw [e3]
  unfold conf_bars.f
  have ht : ((gs.take i).all (fun g => fit64 g.f0 && fit64 g.f1)) = true := h.take i
  have hb : fit64 (g.base : Int) = true := by have := hg.base; unfold fit64; simp only [Bool.and_eq_true, decide_eq_true_eq]; omega
  have hs : fit64 (g.size : Int) = true := by have := hg.size; unfold fit64; simp only [Bool.and_eq_true, decide_eq_true_eq]; omega
  have hl : (gs.take i).length ≤ 100 := by rw [List.length_take]; omega
  rw [if_pos (by simp only [ht, hb, hs, decide_eq_true hl, decide_eq_true (show (0 : Int) ≤ (ram : Int) by omega), decide_eq_true (show (ram : Int) ≤ 67108864 by omega), Bool.and_self])]
  unfold CS.barAt csOf
  rw [e1, List.map_take]
  simp only [Int.toNat_natCast]
/-- What a scan tells. -/
def scanR (c : CS) (i r : Nat) : Int × Int := match scanQ c.barAt i r with
  | some (m, e) => ((m : Int), (e : Int))
  | none => (-1, 0)
theorem check_loop {gs : GL} (h : okL gs) (ram slice : Nat) (hr : ram ≤ 67108864) (h8 : gs.length ≤ 8) (s : Int) : ∀ (r i : Nat), i + r = gs.length →
    Ev (fun k => conf_Check.l0 k gs (gs.length : Int) (i : Int) (ram : Int) s gs) (scanR (csOf ram slice gs) i r)
  | 0, i, e => by
    refine Ev.step (fun k => conf_Check.l0.eq_2 ..) ?_
    simp only [if_neg (show ¬ (i : Int) < (gs.length : Int) by omega)]
    exact Ev.now _
  | r + 1, i, e => by
    refine Ev.step (fun k => conf_Check.l0.eq_2 ..) ?_
    simp only [if_pos (show (i : Int) < (gs.length : Int) by omega), if_pos (show (0 : Int) ≤ (i : Int) by omega), if_pos (show (i : Int) ≤ (gs.length : Int) by omega), Int.toNat_natCast, bars_f h ram hr (show i < gs.length by omega) h8 slice, Option.bind_some]
    unfold scanR scanQ
    by_cases hb : (csOf ram slice gs).barAt i = 0
    · rw [if_pos hb]
      simp only [if_pos (show (((csOf ram slice gs).barAt i : Nat) : Int) = 0 by omega), wrap64_up i (by omega)]
      exact check_loop h ram slice hr h8 s r (i + 1) (by omega)
    · rw [if_neg hb]
      simp only [if_neg (show ¬ (((csOf ram slice gs).barAt i : Nat) : Int) = 0 by omega)]
      exact Ev.now _
/-- The program's check tells the plain one. -/
theorem check_conf {gs : GL} (h : okL gs) (ram slice : Nat) (hr : ram < 18446744073709551616) :
    Ev (fun k => conf_Check.f k (ram : Int) (slice : Int) gs) ((csOf ram slice gs).check.1, ((csOf ram slice gs).check.2 : Int)) := by
  have hlen : (gs.map toCG).length = gs.length := List.length_map ..
  unfold conf_Check.f CS.check
  have bad : ∀ r : Int × Nat, r = (-1, 251) → Ev (fun k => conf_Check.j0 k true (ram : Int) (slice : Int) gs) (r.1, (r.2 : Int)) := fun r hr => by
    subst hr
    refine Ev.step (fun k => conf_Check.j0.eq_2 ..) ?_
    simp only [if_true]
    exact Ev.now _
  by_cases c1 : ram < 2097152
  · simp only [if_pos (show (ram : Int) < 2097152 by omega)]
    exact bad _ (if_pos (.inl c1))
  · simp only [if_neg (show ¬ (ram : Int) < 2097152 by omega)]
    by_cases c2 : 67108864 < ram
    · simp only [if_pos (show (ram : Int) > 67108864 by omega)]
      exact bad _ (if_pos (.inr (.inl c2)))
    · simp only [if_neg (show ¬ (ram : Int) > 67108864 by omega), whole_f ram hr, Option.bind_some]
      by_cases c3 : ram % 4096 = 0
      · have hbad1 : ¬ ((csOf ram slice gs).ram < 2097152 ∨ 67108864 < (csOf ram slice gs).ram ∨ (csOf ram slice gs).ram % 4096 ≠ 0) := by unfold csOf; simp only; omega
        simp only [decide_eq_true c3, Bool.not_true]
        rw [if_neg hbad1]
        refine Ev.step (fun k => conf_Check.j0.eq_2 ..) ?_
        simp only [Bool.false_eq_true, if_false]
        have bad2 : ∀ r : Int × Nat, r = (-1, 255) → Ev (fun k => conf_Check.j1 k true (ram : Int) (slice : Int) gs) (r.1, (r.2 : Int)) := fun r hr => by
          subst hr
          refine Ev.step (fun k => conf_Check.j1.eq_2 ..) ?_
          simp only [if_true]
          exact Ev.now _
        by_cases d1 : slice = 0
        · simp only [if_pos (show (slice : Int) = 0 by omega)]
          exact bad2 _ (if_pos (.inl d1))
        · simp only [if_neg (show ¬ (slice : Int) = 0 by omega)]
          by_cases d2 : 4294967296 < slice
          · simp only [decide_eq_true (show (slice : Int) > 4294967296 by omega)]
            exact bad2 _ (if_pos (.inr d2))
          · have hbad2 : ¬ ((csOf ram slice gs).slice = 0 ∨ 4294967296 < (csOf ram slice gs).slice) := by unfold csOf; simp only; omega
            simp only [decide_eq_false (show ¬ (slice : Int) > 4294967296 by omega)]
            rw [if_neg hbad2]
            refine Ev.step (fun k => conf_Check.j1.eq_2 ..) ?_
            simp only [Bool.false_eq_true, if_false]
            by_cases e1 : gs.length = 0
            · rw [if_pos (show (csOf ram slice gs).gs.length = 0 ∨ 8 < (csOf ram slice gs).gs.length from .inl (hlen.trans e1))]
              simp only [if_pos (show (gs.length : Int) = 0 by omega)]
              exact Ev.now _
            · simp only [if_neg (show ¬ (gs.length : Int) = 0 by omega)]
              by_cases e2 : 8 < gs.length
              · rw [if_pos (show (csOf ram slice gs).gs.length = 0 ∨ 8 < (csOf ram slice gs).gs.length from .inr (by show 8 < (gs.map toCG).length; omega))]
                simp only [if_pos (show (gs.length : Int) > 8 by omega)]
                exact Ev.now _
              · rw [if_neg (show ¬ ((csOf ram slice gs).gs.length = 0 ∨ 8 < (csOf ram slice gs).gs.length) by show ¬ ((gs.map toCG).length = 0 ∨ 8 < (gs.map toCG).length); omega)]
                simp only [if_neg (show ¬ (gs.length : Int) > 8 by omega)]
                have hl := check_loop h ram slice (by omega) (by omega) (slice : Int) gs.length 0 (by omega)
                unfold scanR at hl
                rw [show (csOf ram slice gs).gs.length = gs.length from hlen]
                cases hs : scanQ (csOf ram slice gs).barAt 0 gs.length with
                | none => rw [hs] at hl; exact hl
                | some p => obtain ⟨m, e⟩ := p; rw [hs] at hl; exact hl
      · simp only [decide_eq_false c3, Bool.not_false]
        exact bad _ (if_pos (.inr (.inr c3)))

/-! The document's check. -/

theorem check_zero {ram slice : Nat} {gs : GL} (h : (csOf ram slice gs).check.2 = 0) : 2097152 ≤ ram ∧ ram ≤ 67108864 ∧ ram % 4096 = 0 ∧ gs.length ≤ 8 ∧ 0 < gs.length ∧ ∀ i, i < gs.length → (csOf ram slice gs).barAt i = 0 := by
  have h1 : (csOf ram slice gs).accepted = true := decide_eq_true h
  obtain ⟨a, b, c, d, e, f, g, i⟩ := (CS.accepted_iff _).1 h1
  have hlen : (csOf ram slice gs).gs.length = gs.length := List.length_map ..
  rw [hlen] at f g i
  exact ⟨a, b, c, g, f, i⟩
/-! ### A row of guests is copied: by hand -/
def gcells (l : GL) : List Value := l.flatMap (fun g => [.int .u64 g.f0, .int .u64 g.f1])
theorem gcells_len : ∀ l : GL, (gcells l).length = l.length * 2
  | [] => rfl
  | _ :: l => by
    have := gcells_len l
    unfold gcells at this ⊢
    simp only [List.flatMap_cons, List.length_append, List.length_cons, List.length_nil, this]
    omega
theorem gcells_one (l : GL) : ∀ u ∈ gcells l, u.oneCell' = true := by
  intro u hu
  obtain ⟨g, _, h⟩ := List.mem_flatMap.1 hu
  simp only [List.mem_cons, List.not_mem_nil, or_false] at h
  rcases h with rfl | rfl <;> rfl
theorem gcells_at : ∀ (l : GL) (j : Nat) (u : Value), (gcells l)[j]? = some u → ∃ g, l[j / 2]? = some g ∧ ([.int .u64 g.f0, .int .u64 g.f1] : List Value)[j % 2]? = some u
  | [], j, u, h => by simp [gcells] at h
  | y :: l, j, u, h => by
    unfold gcells at h
    simp only [List.flatMap_cons] at h
    by_cases hj : j < 2
    · rw [List.getElem?_append_left (by simpa using hj)] at h
      refine ⟨y, by rw [show j / 2 = 0 by omega]; rfl, ?_⟩
      rw [Nat.mod_eq_of_lt hj]
      exact h
    · rw [List.getElem?_append_right (by simp; omega)] at h
      obtain ⟨g, h1, h2⟩ := gcells_at l (j - 2) u h
      refine ⟨g, ?_, ?_⟩
      · rw [show j / 2 = (j - 2) / 2 + 1 by omega]; exact h1
      · rw [show j % 2 = (j - 2) % 2 by omega]; exact h2
theorem row_cells {w : World} {A : Option Addr} {l : GL} (hr : Kd.C k53 w A l.length l) (hp : 0 < l.length) : ∃ ad, A = some ad ∧ ∀ j u, (gcells l)[j]? = some u → w.cell? (ad.add j) = some u := by
  obtain ⟨_, _, h⟩ := hr
  obtain ⟨ad, e, hc⟩ := h hp
  refine ⟨ad, e, fun j u hu => ?_⟩
  obtain ⟨g, h1, h2⟩ := gcells_at l j u hu
  obtain ⟨c, _, hk, hcell⟩ := hc _ _ h1
  obtain rfl := k53_open hk
  have := hcell _ _ h2
  rw [← this]
  congr 2
  have : k53.sz = 2 := rfl
  rw [this]
  omega
set_option maxRecDepth 100000 in
set_option maxHeartbeats 1000000 in
theorem clone_c (A : Option Addr) (c : Nat) (l : GL) (w : World) (hr : Kd.C k53 w A l.length l) (hm : l.length ≤ 100) :
    Calls Try.prog 38 #[.slice A l.length c] w fun e w' => ∃ v, e = .returned v ∧ Own w' 53 2 v l.length (gcells l) (fun k => w.heap.size ≤ k) ∧ Below w.heap.size w w' := by
  obtain ⟨i0, hi0, hz0, hz1, hz2⟩ := info_parts (show (Try.prog.info? 53).map (fun i => (i.zero, i.size, i.bytes)) = some (some (.agg #[(.int .u64 0), (.int .u64 0)]), 2, 16) from by kernel_rfl)
  have HI := Lib.hid hi0
  have H0 := Lib.hid hz0
  have H1 := Lib.hid hz1
  have H2 := Lib.hid hz2
  have HR := Lib.hid hr
  obtain ⟨n, hn⟩ : ∃ n, n = l.length := ⟨_, rfl⟩
  rw [← hn] at hm ⊢
  have HN := Lib.hid hn
  clear hi0 hz0 hz1 hz2 hr hn
  have hq : ∀ W : World, (binOp .eql 23 (.slice A n c) (.slice none 0 0)).run Try.prog W = .ok (.bool A.isNone) W := fun W => Lib.run_eql_slice_nil W _ _ A n c 0 0 Try.underlying23
  cases A with
  | none =>
    have h0 : n = 0 := by
      rcases Nat.eq_zero_or_pos n with h | h
      · exact h
      · obtain ⟨ad, he, _⟩ := row_cells HR.out (by rw [← HN.out]; exact h)
        cases he
    have HZ := Lib.hid h0
    clear h0
    go_enter Try.func38, Try.ntmps38
    go_wp2_with fail
    go_ret
    have hl : l = [] := List.eq_nil_of_length_eq_zero (by rw [← HN.out]; exact HZ.out)
    refine ⟨_, rfl, ?_, Below.refl _ _⟩
    rw [HZ.out, hl]
    exact Own.nil_ _ _ _ _
  | some ad =>
    have hO : Own (w.alloc (.cells #[] 53)) 53 2 (.slice (some ⟨w.heap.size, 0, none⟩) 0 0) 0 [] (One w.heap.size) :=
      ⟨by simp, .inr ⟨w.heap.size, 0, 0, #[], rfl, rfl, Blk.new w _ _, Nat.le_refl _, by unfold maxLen; omega, by simp, .inl ⟨rfl, rfl⟩, fun j hj => by simp at hj⟩⟩
    have HO := Lib.hid hO
    have hb := (Below.refl w.heap.size w).alloc (Nat.le_refl _) (.cells #[] 53)
    have HB := Lib.hid hb
    have HC := Lib.hid (fun (hp : 0 < n) => row_cells (Kd.C_below HR.out hb) (by rw [← HN.out]; exact hp))
    clear hO hb
    go_enter Try.func38, Try.ntmps38
    go_wp2_with
     (at_builtin
      refine wpList_append_cells rfl (.tmp 5) (.tmp 6) _ rfl 53 i0 _ 2 16 Try.underlying23 HI.out H0.out H1.out H2.out rfl _ 0 [] (One w.heap.size) rfl HO.out _ n c (gcells l) rfl HC.out (by rw [gcells_len, HN.out]) (gcells_one l) (by unfold maxLen; omega) (by omega) ?_
      intro v1 w1 hown1 hf1)
    go_ret
    refine ⟨v1, rfl, ?_, HB.out.trans (hf1.below (B := w.heap.size) (by simp) (fun k hk h => by have : k = w.heap.size := h; omega))⟩
    rw [Nat.zero_add, List.nil_append] at hown1
    refine hown1.mono fun k hk => ?_
    rcases hk with hk | hk
    · exact Nat.le_of_eq (Eq.symm hk)
    · rw [hk]; simp
/-! ### The guests by their places: by hand -/
theorem isNaN_c (x : Int) (w : World) : Calls Try.prog 53 #[.int .u64 x] w fun e w' => e = .returned (.bool false) ∧ w' = w := by
  go_enter Try.func53, Try.ntmps53
  go_wp2_with fail
  go_ret
  exact ⟨by simp, rfl⟩
theorem compare_c (x y : Int) (w : World) : Calls Try.prog 41 #[.int .u64 x, .int .u64 y] w fun e w' => e = .returned (.int .i64 (Lib.compareInt x y)) ∧ w' = w := by
  go_enter Try.func41, Try.ntmps41
  go_wp2_with (go_at_call 53; refine (isNaN_c _ _).mono ?_; rintro e w' ⟨rfl, hw⟩; rw [hw])
  all_goals (go_ret; refine ⟨?_, rfl⟩; unfold Lib.compareInt; (repeat' split) <;> first | rfl | (exfalso; omega))
/-- The comparison that the sort is handed. -/
theorem all1_c (Bw g o n c : Nat) (i k : Nat) (x y : Int) (w : World) (hb : w.cell? ⟨Bw, 0, none⟩ = some (.slice (some ⟨g, o, none⟩) n c)) (hi : i < n) (hk : k < n) (hn : n ≤ 100)
    (hx : w.cell? ⟨g, o + i * 2, none⟩ = some (.int .u64 x)) (hy : w.cell? ⟨g, o + k * 2, none⟩ = some (.int .u64 y)) :
    Calls Try.prog 40 #[.int .i64 i, .int .i64 k, .pointer (some ⟨Bw, 0, none⟩)] w fun e w' => e = .returned (.int .i64 (Lib.compareInt x y)) ∧ ∃ q, w' = w.drewN q := by
  have hcon := fun q => quiet_eq ((compare_c x y (w.drewN q)).mono fun e w' h => ⟨h.1, h.2.symm⟩)
  have HE := Lib.hid hcon
  obtain ⟨r, hr⟩ : ∃ r, r = Lib.compareInt x y := ⟨_, rfl⟩
  rw [← hr] at HE ⊢
  clear hr hcon
  go_enter Try.func40, Try.ntmps40
  go_wp2_with fail
  go_quiet ((go_at_call 41; exact HE.out _))
  go_wp2_with fail
  go_ret
  exact ⟨rfl, nq, rfl⟩
/-! ### The guests' numbers are sorted by their places: the library's sort, with the program's comparison -/
def encN (n : Nat) (i : Fin n) : Value := .int .i64 ((i.val : Nat) : Int)
def baseCmp (l : GL) (i k : Fin l.length) : Int := Lib.compareInt (l[i.val]).f0 (l[k.val]).f0
theorem baseCmp_lt (l : GL) (i k : Fin l.length) : ltOf (baseCmp l) i k = decide ((l[i.val]).f0 < (l[k.val]).f0) := by
  unfold ltOf baseCmp Lib.compareInt
  by_cases h : (l[i.val]).f0 < (l[k.val]).f0
  · rw [if_pos h, decide_eq_true h]; rfl
  · rw [if_neg h, decide_eq_false h]
    by_cases h2 : (l[i.val]).f0 > (l[k.val]).f0
    · rw [if_pos h2]; rfl
    · rw [if_neg h2]; rfl
theorem baseCmp_swo (l : GL) : Sort.SWO (ltOf (baseCmp l)) where
  irrefl x := by rw [baseCmp_lt]; simp
  trans x y z h1 h2 := by rw [baseCmp_lt] at h1 h2 ⊢; simp only [decide_eq_true_eq] at h1 h2 ⊢; omega
  ntrans x y z h1 h2 := by rw [baseCmp_lt] at h1 h2 ⊢; simp only [decide_eq_false_iff_not] at h1 h2 ⊢; omega
def Rising (l : GL) (ord : List (Fin l.length)) : Prop := ord.Pairwise fun i k => ¬ (l[k.val]).f0 < (l[i.val]).f0
theorem bitsLen_c (n : Nat) (W : World) (h : n ≤ 12) : Calls Try.prog (sortInt_ren.f 15) #[.int .u64 n] W fun e w' => (∃ l : Int, e = .returned (.int .i64 l)) ∧ w' = W :=
  (Any.bits_Len bitsLen_lay n W (by omega) (by omega)).mono fun _ _ ⟨he, hw⟩ => ⟨⟨_, he⟩, hw⟩
theorem gcells_get {l : GL} {i : Nat} (hi : i < l.length) : (gcells l)[i * 2]? = some (.int .u64 (l[i]).f0) ∧ (gcells l)[i * 2 + 1]? = some (.int .u64 (l[i]).f1) := by
  induction l generalizing i with
  | nil => simp at hi
  | cons y l ih =>
    have e : gcells (y :: l) = .int .u64 y.f0 :: .int .u64 y.f1 :: gcells l := rfl
    rw [e]
    cases i with
    | zero => exact ⟨rfl, rfl⟩
    | succ i =>
      obtain ⟨h1, h2⟩ := ih (i := i) (by simpa using hi)
      rw [show (i + 1) * 2 = i * 2 + 1 + 1 by omega, show i * 2 + 1 + 1 + 1 = (i * 2 + 1) + 1 + 1 by omega]
      simp only [List.getElem?_cons_succ, List.getElem_cons_succ]
      exact ⟨h1, h2⟩
theorem extract_all {α : Type} (d : Array α) (n : Nat) (h : d.size = n) : d.extract 0 n = d := by rw [← h]; simp
theorem sort_c (l : GL) (hpos : 0 < l.length) (h12 : l.length ≤ 12) (Bw : Nat) (v vw : Value) (G Gw : Nat → Prop) (ord : List (Fin l.length)) (hlen : ord.length = l.length) (w : World)
    (ho : Own w 3 1 v l.length (ord.map (encN l.length)) G) (hw : w.cell? ⟨Bw, 0, none⟩ = some vw) (how : Own w 53 2 vw l.length (gcells l) Gw) (hd1 : ¬ G Bw) (hd2 : ∀ k, Gw k → ¬ G k) :
    Calls Try.prog 39 #[v, .func (.func 40) #[] #[.pointer (some ⟨Bw, 0, none⟩)]] w fun e w' => e = .returned (.tuple #[]) ∧
      ∃ ord', ord'.Perm ord ∧ Rising l ord' ∧ Own w' 3 1 v l.length (ord'.map (encN l.length)) G ∧ Fr G w w' := by
  haveI : Inhabited (Fin l.length) := ⟨⟨0, hpos⟩⟩
  obtain ⟨g, o, c, cur, rfl, hG, hB, hnc, hcm, hsz, hfull, hcur⟩ := ho.2.resolve_left (fun h => by omega)
  obtain ⟨gw, ow, cw, rfl, _, _, hGw, hgw, hcw, _⟩ := how.at_ hpos
  have hsize : ord.toArray.size = l.length := by simpa using hlen
  have hH : Sort.Holds (encN l.length) w g o ord.toArray := fun j hj => by
    refine ⟨?_, hB.free _⟩
    rw [hB.cell, hcur j (by simpa [hlen] using (show j < l.length by omega))]
    rw [List.getElem?_map, List.getElem?_eq_getElem (by simpa using hj), Option.map_some]
    congr 2
    simp only [List.getElem!_toArray]
    rw [getElem!_pos ord j (by simpa using hj)]
  have hcmp : CmpReads Try.prog 40 #[.pointer (some ⟨Bw, 0, none⟩)] (encN l.length) (baseCmp l) g o ord.toArray.size w := fun m os dk hdk x y => by
    have far : ∀ (b i : Nat) (u : Value), b ≠ g → w.cell? ⟨b, i, none⟩ = some u → (sortWorld (encN l.length) w g o m dk os).cell? ⟨b, i, none⟩ = some u := fun b i u hb hu => by
      have hlt : b < w.heap.size := World.block_lt_of_cell? w _ hu
      unfold sortWorld
      rw [Sort.cell?_grow _ _ _ (by rw [Sort.size_putRow]; exact hlt), ← hu]
      unfold Sort.putRow Sort.mapBlock World.cell?
      simp only [Array.getElem?_modify, if_neg (Ne.symm hb)]
      rfl
    refine (all1_c Bw gw ow l.length cw x.val y.val (l[x.val]).f0 (l[y.val]).f0 _ (far _ _ _ (fun e => hd1 (by rw [e]; exact hG)) hw) x.isLt y.isLt (by omega) (far _ _ _ (fun e => hd2 _ hGw (by rw [e]; exact hG)) (hcw _ _ (gcells_get x.isLt).1)) (far _ _ _ (fun e => hd2 _ hGw (by rw [e]; exact hG)) (hcw _ _ (gcells_get y.isLt).1)))
  have hcon := Any.slices_SortFunc_small_sorted sortInt_lay (encN l.length) (fun _ => rfl) (baseCmp l) (baseCmp_swo l) 40 #[.pointer (some ⟨Bw, 0, none⟩)] g o c ord.toArray w
    (enters_of Try.func40 (by kernel_rfl) rfl) hcmp hH (by omega) bitsLen_c
  rw [hsize] at hcon
  change Calls Try.prog 39 _ _ _ at hcon
  refine hcon.mono ?_
  rintro e w' ⟨rfl, d', q, hp, hs, rfl⟩
  obtain ⟨hp1, _, hp3⟩ := hp
  have hd : d'.size = l.length := by rw [hp1, hsize]
  have hperm : d'.toList.Perm ord := by
    rw [extract_all _ _ hd, extract_all _ _ hsize] at hp3
    simpa using hp3
  refine ⟨rfl, d'.toList, hperm, ?_, ⟨by simp [hd], .inr ⟨g, o, c, Sort.putCells (encN l.length) o d' cur, rfl, hG, ?_, hnc, hcm, ?_, ?_, ?_⟩⟩, ?_⟩
  · unfold Rising
    rw [List.pairwise_iff_getElem]
    intro i j hi hj hij
    have := hs i j (Nat.zero_le _) hij (by simpa [hd] using hj)
    rw [baseCmp_lt, getElem!_pos d' i (by simpa using hi), getElem!_pos d' j (by simpa using hj), decide_eq_false_iff_not] at this
    simpa using this
  · unfold Blk at hB ⊢
    show (Sort.putRow (encN l.length) w g o d').heap[g]? = _
    unfold Sort.putRow Sort.mapBlock
    simp [Array.getElem?_modify, hB, Sort.onCells]
  · unfold Sort.putCells; simpa using hsz
  · unfold Sort.putCells; simpa using hfull
  · intro j hj
    have hj2 : j < d'.size := by simpa using hj
    have := Sort.cell?_putRow (encN l.length) w g o ord.toArray d' hH (by omega) j hj2
    rw [Sort.putRow, Sort.cell?_mapBlock w g _ _ hB] at this
    rw [this, List.getElem?_map, List.getElem?_eq_getElem (by simpa using hj2), Option.map_some]
    congr 2
    rw [getElem!_pos d' j hj2]
    simp
  · refine Fr.drewN (w := w) (S := G) (w1 := Sort.putRow (encN l.length) w g o d') ⟨rfl, rfl, rfl, by simp, fun k hk hn => ?_⟩ q
    have hne : g ≠ k := fun e => hn (by rw [← e]; exact hG)
    unfold Sort.putRow Sort.mapBlock
    simp only [Array.getElem?_modify, if_neg hne]
/-! ### The library's sort at no element, and the maker of the iterator: by hand -/
theorem ins_none (fv : Value) (w : World) : Calls Try.prog 57 #[.slice none 0 0, .int .i64 0, .int .i64 0, fv] w fun e w' => e = .returned (.tuple #[]) ∧ w' = w := by
  go_enter Try.func57, Try.ntmps57
  go_wp2_with fail
  refine wp_loop_rounds 1 ?_
  rw [rounds_succ]
  go_wp2_with fail
  go_end0
  exact ⟨rfl, rfl⟩
theorem pdq_none (fv : Value) (z : Int) (w : World) : Calls Try.prog 51 #[.slice none 0 0, .int .i64 0, .int .i64 0, .int .i64 z, fv] w fun e w' => e = .returned (.tuple #[]) ∧ w' = w := by
  go_enter Try.func51, Try.ntmps51
  go_wp2_with fail
  refine wp_loop_rounds 1 ?_
  rw [rounds_succ]
  go_wp2_with (go_at_call 57; refine (ins_none _ _).mono ?_; rintro e w' ⟨rfl, hw⟩; rw [hw])
  (try simp only [Exit.inBlock, Exit.then]); refine bodyPost_ret (results_none rfl _ _ _) rfl ?_
  exact ⟨rfl, rfl⟩
theorem sort_none (fv : Value) (w : World) : Calls Try.prog 39 #[.slice none 0 0, fv] w fun e w' => e = .returned (.tuple #[]) ∧ w' = w := by
  have hl := bitsLen_c 0 w (by omega)
  change Calls Try.prog 52 _ _ _ at hl
  go_enter Try.func39, Try.ntmps39
  go_wp2_with (first | (go_at_call 52; refine hl.mono ?_; rintro e w' ⟨⟨z, rfl⟩, hw⟩; rw [hw]) | (go_at_call 51; refine (pdq_none _ _ _).mono ?_; rintro e w' ⟨rfl, hw⟩; rw [hw]))
  go_end0
  exact ⟨rfl, rfl⟩
/-- What the iterator holds: the order's box and the box of the guests' copy. -/
def AllAt (W : World) (G : Nat → Prop) (Bo Bw : Nat) (l : GL) (ord : List (Fin l.length)) : Prop :=
  G Bo ∧ G Bw ∧ ∃ vo vw, W.cell? ⟨Bo, 0, none⟩ = some vo ∧ W.cell? ⟨Bw, 0, none⟩ = some vw ∧ Own W 3 1 vo ord.length (ord.map (encN l.length)) G ∧ Own W 53 2 vw l.length (gcells l) G
theorem AllAt.fr {W W' : World} {G S : Nat → Prop} {Bo Bw : Nat} {l : GL} {ord : List (Fin l.length)} (h : AllAt W G Bo Bw l ord) (hf : Fr S W W') (hd : ∀ k, G k → ¬ S k) : AllAt W' G Bo Bw l ord := by
  obtain ⟨h1, h2, vo, vw, h3, h4, h5, h6⟩ := h
  exact ⟨h1, h2, vo, vw, hf.cell h3 (hd _ h1), hf.cell h4 (hd _ h2), h5.fr hf hd, h6.fr hf hd⟩
theorem AllAt.below {W W' : World} {G : Nat → Prop} {n : Nat} {Bo Bw : Nat} {l : GL} {ord : List (Fin l.length)} (h : AllAt W G Bo Bw l ord) (hf : Below n W W') (hn : n ≤ W.heap.size) (hd : ∀ k, G k → k < n) : AllAt W' G Bo Bw l ord :=
  h.fr (S := fun k => n ≤ k) ⟨hf.os, hf.tape, hf.output, hf.size, fun k _ hn => hf.block k (by omega)⟩ fun k hk hs => by have := hd k hk; omega
/-- The order: all guests by their places, where the configuration is accepted; else none. -/
def OrdOk (r : Bool) (l : GL) (ord : List (Fin l.length)) : Prop := match r with
  | true => ord.Perm (List.finRange l.length) ∧ Rising l ord
  | false => ord = []
def intsTo (i : Nat) : List Value := (List.range i).map fun (j : Nat) => .int .i64 (j : Int)
theorem intsTo_succ (i : Nat) : intsTo (i + 1) = intsTo i ++ [.int .i64 (i : Int)] := by unfold intsTo; rw [List.range_succ, List.map_append]; rfl
theorem intsTo_fin (n : Nat) : intsTo n = (List.finRange n).map (encN n) := by
  unfold intsTo encN
  apply List.ext_getElem (by simp)
  intro i h1 h2
  simp
theorem info_int : (Try.prog.info? 3).map (fun i => (i.zero, i.size, i.bytes)) = some (some (.int .i64 0), 1, 8) := by kernel_rfl
set_option maxRecDepth 100000 in
set_option maxHeartbeats 1000000 in
theorem all_c (k : Nat) (ram slice : Int) (A : Option Addr) (c : Nat) (l : GL) (r : Bool) (w : World) (hr : Kd.C k53 w A l.length l) (hc : l.length ≤ c) (hm : l.length ≤ 100) (h : conf_accepted.f k ram slice l = some r)
    (h12 : r = true → l.length ≤ 12 ∧ 0 < l.length) :
    Calls Try.prog 26 #[.agg #[.int .u64 ram, .int .u64 slice, .slice A l.length c]] w fun e w' => ∃ Bo Bw ord, e = .returned (.func (.func 42) #[] #[.pointer (some ⟨Bo, 0, none⟩), .pointer (some ⟨Bw, 0, none⟩)]) ∧
      AllAt w' (fun k => w.heap.size ≤ k ∧ k < w'.heap.size) Bo Bw l ord ∧ OrdOk r l ord ∧ Below w.heap.size w w' := by
  obtain ⟨i0, hi0, hz0, hz1, hz2⟩ := info_parts info_int
  have HI := Lib.hid hi0
  have H0 := Lib.hid hz0
  have H1 := Lib.hid hz1
  have H2 := Lib.hid hz2
  have HR := Lib.hid hr
  have HC := Lib.hid hc
  have HM := Lib.hid hm
  have HA := Lib.hid h
  have H12 := Lib.hid h12
  obtain ⟨n, hn⟩ : ∃ n, n = l.length := ⟨_, rfl⟩
  have HN := Lib.hid hn
  clear hi0 hz0 hz1 hz2 hr hc hm h h12 hn
  go_enter Try.func26, Try.ntmps26
  obtain ⟨wA, hwA⟩ : ∃ wA, wA = (w.alloc (.cells #[.int .u64 ram, .int .u64 slice, .slice A l.length c] 25)).alloc (.cells #[.slice none 0 0] 55) := ⟨_, rfl⟩
  have hb1 : Below w.heap.size w wA := by rw [hwA]; exact ((Below.refl _ w).alloc (Nat.le_refl _) _).alloc (by simp) _
  have hP : ∀ w1, Below wA.heap.size wA w1 → Blk w1 w.heap.size 25 #[.int .u64 ram, .int .u64 slice, .slice A l.length c] ∧ Blk w1 (w.heap.size + 1) 55 #[.slice none 0 0] ∧ w.heap.size + 2 ≤ w1.heap.size ∧ Below w.heap.size w w1 ∧ wA.heap.size = w.heap.size + 2 := fun w1 h => by
    have e1 : Blk wA w.heap.size 25 #[.int .u64 ram, .int .u64 slice, .slice A l.length c] := by rw [hwA]; exact (Blk.new w _ _).alloc _
    have e2 : Blk wA (w.heap.size + 1) 55 #[.slice none 0 0] := by
      have := Blk.new (w.alloc (.cells #[.int .u64 ram, .int .u64 slice, .slice A l.length c] 25)) 55 #[.slice none 0 0]
      rw [World.size_alloc] at this
      rw [hwA]; exact this
    have e3 : wA.heap.size = w.heap.size + 2 := by rw [hwA]; simp
    exact ⟨(h.block _ e1.lt).trans e1, (h.block _ e2.lt).trans e2, by have := h.size; omega, hb1.trans (h.mono hb1.size), e3⟩
  have B1 := Lib.hid hb1
  have P1 := Lib.hid hP
  clear hb1 hP
  go_wp2_with (go_at_call 38; rw [← hwA]; refine (clone_c A c l _ (Kd.C_below HR.out B1.out) HM.out).mono ?_; rintro e w1 ⟨v1, rfl, ho1, hb1⟩; obtain ⟨a1, c1, rfl, hnc1, hcm1⟩ := ho1.slice;  obtain ⟨hBc, hBo, hz1, hbw, he3⟩ := P1.out _ hb1; rw [he3] at ho1; have O1 := Lib.hid ho1; have BO := Lib.hid hBo; have Z1 := Lib.hid hz1; have B2 := Lib.hid hbw; have C0 : (w1.alloc (.cells #[.slice a1 l.length c1] 23)).cell? ⟨w.heap.size, 0, none⟩ = some (.int .u64 ram) := (hBc.alloc _).cell 0; have C1 : (w1.alloc (.cells #[.slice a1 l.length c1] 23)).cell? ⟨w.heap.size, 1, none⟩ = some (.int .u64 slice) := (hBc.alloc _).cell 1; have C2 : (w1.alloc (.cells #[.slice a1 l.length c1] 23)).cell? ⟨w.heap.size, 2, none⟩ = some (.slice A l.length c) := (hBc.alloc _).cell 2; clear ho1 hb1 hBc hBo hz1 hbw he3)
  refine (conf_accepted.calls k ram slice A c l r _ (Kd.C_below HR.out (B2.out.alloc (by have := Z1.out; omega) _)) HC.out HA.out).mono ?_
  rintro e w3 ⟨rfl, hb3⟩
  obtain ⟨bW, hbW⟩ : ∃ bW, bW = w1.heap.size := ⟨_, rfl⟩
  obtain ⟨b0, hb0⟩ : ∃ b0, b0 = w.heap.size := ⟨_, rfl⟩
  have hz : b0 + 2 ≤ bW ∧ bW < w3.heap.size := by have h2 := hb3.size; rw [World.size_alloc] at h2; have := Z1.out; omega
  have hBO : Blk w3 (b0 + 1) 55 #[.slice none 0 0] := by rw [hb0]; exact (hb3.block _ (BO.out.alloc _).lt).trans (BO.out.alloc _)
  have hBW : Blk w3 bW 23 #[.slice a1 l.length c1] := by rw [hbW]; exact (hb3.block _ (Blk.new w1 _ _).lt).trans (Blk.new w1 _ _)
  have hOW : Own w3 53 2 (.slice a1 l.length c1) l.length (gcells l) (fun k => b0 + 2 ≤ k ∧ k < w3.heap.size) := by
    have h1 := (O1.out.cut.fr ((Fr.refl No w1).alloc _) (fun _ _ h => h)).fr (Fr.of_below hb3 No) (fun _ _ h => h)
    refine h1.mono fun k hk => ⟨by rw [hb0]; exact hk.1, by have := hk.2; omega⟩
  have hB3 : Below b0 w w3 := by rw [hb0]; exact (B2.out.alloc (by have := Z1.out; omega) _).trans (hb3.mono (by simp; have := Z1.out; omega))
  have Z := Lib.hid hz
  have BO3 := Lib.hid hBO
  have BW3 := Lib.hid hBW
  have OW3 := Lib.hid hOW
  have B3 := Lib.hid hB3
  rw [← hb0, ← hbW]
  have HB0 := Lib.hid hb0
  have c0 : w3.cell? ⟨b0 + 1, 0, none⟩ = some (.slice none 0 0) := hBO.cell 0
  have f0 := hBO.free
  have cW : w3.cell? ⟨bW, 0, none⟩ = some (.slice a1 l.length c1) := hBW.cell 0
  clear hz hBO hBW hOW hB3 hb3 O1 BO Z1 B2 C0 C1 C2 P1 B1 hb0 hbW
  cases r with
  | false =>
    go_wp2_with (go_at_call 39; refine (sort_none _ _).mono ?_; rintro e w' ⟨rfl, hw⟩; rw [hw])
    go_ret
    refine ⟨b0 + 1, bW, [], rfl, ⟨by have := Z.out; have := HB0.out; omega, by have := Z.out; have := HB0.out; omega, _, _, c0, cW, Own.nil_ _ _ _ _, OW3.out.mono fun k hk => ⟨by have := hk.1; have := HB0.out; omega, hk.2⟩⟩, rfl, by rw [← HB0.out]; exact B3.out⟩
  | true =>
    go_wp2_with fail
    go_loopw [13] (fun p wr => ∃ (i : Nat) (v : Value), i ≤ l.length ∧ p = .int .i64 (i : Int) ∧ Hid (Fr (One (b0 + 1)) w3 wr) ∧ Hid (Blk wr (b0 + 1) 55 #[v]) ∧ Hid (Own wr 3 1 v i (intsTo i) (fun k => w3.heap.size ≤ k ∧ k < wr.heap.size))) (fun p _ => l.length - (intOf p).toNat)
    case atStart => exact ⟨0, _, Nat.zero_le _, rfl, Lib.hid (Fr.refl _ _), BO3, Lib.hid (Own.nil_ _ _ _ _)⟩
    case round =>
      obtain ⟨i, v, hil, rfl, HF, HB, HO⟩ := hrel
      have cO : wr.cell? ⟨b0 + 1, 0, none⟩ = some v := HB.out.cell 0
      have hbl : b0 + 1 < w3.heap.size := by have := Z.out; omega
      have HL := Lib.hid hbl
      clear hbl
      by_cases hlt : i < l.length
      · have e4 : IntKind.i64.wrap ((i : Int) + 1) = ((i + 1 : Nat) : Int) := by have := HM.out; rw [IntKind.wrap_i64]; omega
        have hi100 : i < 100 := by have := HM.out; omega
        have cO2 : (wr.alloc (.cells #[.int .i64 (i : Int)] 3)).cell? ⟨b0 + 1, 0, none⟩ = some v := (HB.out.alloc _).cell 0
        have O2 := Lib.hid (HO.out.fr ((Fr.refl No wr).alloc (.cells #[.int .i64 (i : Int)] 3)) (fun _ _ h => h))
        have R2 := Lib.hid (Rd.new wr 3 [.int .i64 (i : Int)] 1 (by unfold maxLen; omega))
        go_wp2_with
         (at_builtin
          refine wpList_append _ rfl (.tmp 16) (.tmp 18) _ rfl 3 i0 _ 1 8 Try.underlying55 HI.out H0.out H1.out H2.out rfl _ i (intsTo i) _ rfl O2.out _ 1 [.int .i64 (i : Int)] rfl R2.out rfl (by intro u hu; rw [List.mem_singleton.1 hu]; rfl) (by unfold maxLen; omega) (by omega) ?_
          intro v4 w4 hown4 hf4
          obtain ⟨a4, k4, rfl, hn4, hm4⟩ := hown4.slice
          have hB4 := (HB.out.alloc (.cells #[.int .i64 (i : Int)] 3)).fr hf4 (fun h => by have := HL.out; omega)
          have c4 : w4.cell? ⟨b0 + 1, 0, none⟩ = some v := hB4.cell 0
          have f4 := hB4.free
          have O4 := Lib.hid hown4
          have F4 := Lib.hid hf4
          have B4 := Lib.hid hB4
          clear hown4 hf4 hB4)
        refine ⟨⟨i + 1, _, hlt, by simp, Lib.hid ?_, Lib.hid (B4.out.put 0 _), Lib.hid ?_⟩, by simp [intOf]; omega⟩
        · exact ((HF.out.alloc _).andThen F4.out (fun k hk h => by omega)).setCell (a := ⟨b0 + 1, 0, none⟩) (.inl (show b0 + 1 = b0 + 1 from rfl)) _
        · have h1 := O4.out.cut.fr (Fr.put w4 (b0 + 1) 0 (.slice a4 (i + 1) k4)) (fun k hk h => by
            have h2 : k = b0 + 1 := h
            have := HL.out
            have := HF.out.size
            rcases hk.1 with h3 | h3
            · omega
            · rw [World.size_alloc] at h3; omega)
          rw [intsTo_succ]
          refine h1.mono fun k hk => ⟨?_, by rw [World.size_setCell]; exact hk.2⟩
          have := HF.out.size
          rcases hk.1 with h3 | h3
          · exact h3.1
          · rw [World.size_alloc] at h3; omega
      · obtain rfl : i = l.length := by omega
        go_wp2_with fail
        have hOr := HO.out
        rw [intsTo_fin] at hOr
        refine (sort_c l (H12.out trivial).2 (H12.out trivial).1 bW v (.slice a1 l.length c1) (fun k => w3.heap.size ≤ k ∧ k < wr.heap.size) (fun k => b0 + 2 ≤ k ∧ k < w3.heap.size) (List.finRange l.length) (by simp) wr hOr (HF.out.cell cW (fun h => by
          have h2 : bW = b0 + 1 := h
          have := Z.out
          omega)) (OW3.out.fr HF.out (fun k hk h => by
          have h2 : k = b0 + 1 := h
          omega)) (fun h => by have := Z.out; omega) (fun k hk h => by omega)).mono ?_
        rintro e w5 ⟨rfl, ord, hp, hri, ho, hf⟩
        go_wp2_with fail
        go_ret
        have hz := Z.out
        have hB0 := HB0.out
        have hs5 := hf.size
        have hs4 := HF.out.size
        have hlen : ord.length = l.length := by rw [hp.length_eq, List.length_finRange]
        refine ⟨b0 + 1, bW, ord, rfl, ⟨by omega, by omega, v, .slice a1 l.length c1, (HB.out.fr hf (fun h => by omega)).cell 0, ?_, ?_, ?_⟩, ⟨hp, hri⟩, ?_⟩
        · refine hf.cell (HF.out.cell cW (fun h => ?_)) (fun h => ?_)
          · have h2 : bW = b0 + 1 := h
            omega
          · have h2 : w3.heap.size ≤ bW := h.1
            omega
        · rw [hlen]; exact ho.mono fun k hk => by omega
        · refine ((OW3.out.fr HF.out (fun k hk h => ?_)).fr hf (fun k hk h => by omega)).mono fun k hk => by omega
          have h2 : k = b0 + 1 := h
          omega
        · rw [← hB0]
          exact (B3.out.trans (HF.out.below (B := b0) (by omega) (fun k hk h => by
            have h2 : k = b0 + 1 := h
            omega))).trans (hf.below (B := b0) (by omega) (fun k hk h => by omega))
section
attribute [local go_sem] Oper.semAt_some
/-! ### The iterator over the guests by their places: by hand -/
def encA (l : GL) (i : Fin l.length) : Array Value := #[.int .i64 ((i.val : Nat) : Int), .agg #[.int .u64 (l[i.val]).f0, .int .u64 (l[i.val]).f1]]
set_option maxRecDepth 100000 in
set_option maxHeartbeats 1000000 in
theorem iter1_c (F : Fence) (n : Nat) (hf : F.fn 42) (hro : F.round = none) (hn : 1 ≤ n) (lp Bo Bw n₀ : Nat) (l : GL) (ord : List (Fin l.length)) (G : Nat → Prop) (hG : ∀ k, G k → k < n₀) (hord : ord.length ≤ 100) (J Jx : List (Fin l.length) → World → Prop)
    (hY : ∀ pre x W, J pre W → pre.length < ord.length → YieldAt F (n - 1) Try.prog lp (encA l x) W fun e W' =>
      (e = .returned (.bool true) ∧ J (pre ++ [x]) W' ∧ Below n₀ W W') ∨ (e = .returned (.bool false) ∧ Jx (pre ++ [x]) W'))
    (W : World) (hA : AllAt W G Bo Bw l ord) (hn₀ : n₀ ≤ W.heap.size) (h0 : J [] W) :
    CallsIn F n Try.prog 42 #[.func (.yield lp) #[] #[], .pointer (some ⟨Bo, 0, none⟩), .pointer (some ⟨Bw, 0, none⟩)] W fun e W' => (∃ v, e = .returned v) ∧
      ((∃ ys, ys = ord ∧ J ys W') ∨ (∃ pre, pre <+: ord ∧ Jx pre W')) := by
  obtain ⟨hGo, hGw, vo, vw, hco, hcw, hOo, hOw⟩ := hA
  obtain ⟨ao, co, rfl, hoc, hom⟩ := hOo.slice
  obtain ⟨aw, cw, rfl, hwc, hwm⟩ := hOw.slice
  have HG := Lib.hid hG
  have H0 := Lib.hid hn₀
  have HO := Lib.hid hOo
  have HW := Lib.hid hOw
  have HN := Lib.hid hord
  have HGw := Lib.hid hGw
  have HY := Lib.hid hY
  obtain ⟨m, hm⟩ : ∃ m, m = ord.length := ⟨_, rfl⟩
  rw [← hm] at hco hoc
  have HM := Lib.hid hm
  clear hG hOo hOw hn₀ hord hY hGw hm hGo
  refine callsIn_of_wp Try.func42 rfl hf ?_ hro
  simp only [Try.ntmps42, List.size_toArray, List.length_cons, List.length_nil, Nat.reduceAdd, Nat.reduceSub, Array.replicate_succ, Array.replicate_zero, List.push_toArray, List.append_toArray, List.nil_append, List.cons_append]
  gi_wp2
  gi_loopw [8] (fun p wr => ∃ i : Nat, i ≤ m ∧ p = .int .i64 (i : Int) ∧ Hid (J (ord.take i) wr) ∧ Hid (Below n₀ W wr)) (fun p _ => m - (intOf p).toNat)
  case atStart => exact ⟨0, Nat.zero_le _, rfl, Lib.hid h0, Lib.hid (Below.refl _ _)⟩
  case round =>
    obtain ⟨i, him, rfl, HJ, HB⟩ := hrel
    by_cases hlt : i < m
    · have hio : i < ord.length := by have := HM.out; omega
      obtain ⟨x, hx⟩ : ∃ x, x = ord[i] := ⟨_, rfl⟩
      obtain ⟨g, o, c', hv, _, _, hGg, _, hcell, _⟩ := HO.out.at_ (by omega)
      obtain ⟨gw, ow, cw', hvw, _, _, hGgw, _, hcellw, _⟩ := HW.out.at_ (by have := x.isLt; omega)
      injection hv with e1 e2 e3
      injection hvw with e4 e5 e6
      subst e1 e4
      have c1 : wr.cell? ⟨g, o + i, none⟩ = some (.int .i64 ((x.val : Nat) : Int)) := by
        refine (HB.out.cell (p := ⟨g, o + i, none⟩) (HG.out _ hGg)).trans (hcell i _ ?_)
        rw [List.getElem?_map, List.getElem?_eq_getElem hio, hx]
        rfl
      have c2 : wr.cell? ⟨Bw, 0, none⟩ = some (.slice (some ⟨gw, ow, none⟩) l.length cw) := (HB.out.cell (p := ⟨Bw, 0, none⟩) (HG.out _ HGw.out)).trans hcw
      have c3 : wr.cell? ⟨gw, ow + x.val * 2, none⟩ = some (.int .u64 (l[x.val]).f0) := (HB.out.cell (p := ⟨gw, ow + x.val * 2, none⟩) (HG.out _ hGgw)).trans (hcellw _ _ (gcells_get x.isLt).1)
      have c4 : wr.cell? ⟨gw, ow + x.val * 2 + 1, none⟩ = some (.int .u64 (l[x.val]).f1) := (HB.out.cell (p := ⟨gw, ow + x.val * 2 + 1, none⟩) (HG.out _ hGgw)).trans (hcellw _ _ (gcells_get x.isLt).2)
      obtain ⟨fn, tmps, assign, body, hy, hR⟩ := HY.out (ord.take i) x wr HJ.out (by rw [List.length_take]; omega)
      unfold encA at hy
      have hxl : x.val < l.length := x.isLt
      have htk : ord.take i ++ [x] = ord.take (i + 1) := by rw [hx, List.take_append_getElem hio]
      have HT := Lib.hid htk
      have hi100 : i < 100 := by have := HN.out; omega
      have h100 : m ≤ 100 := by have := HN.out; have := HM.out; omega
      obtain ⟨y0, hy0⟩ : ∃ y0, y0 = (l[x.val]).f0 := ⟨_, rfl⟩
      obtain ⟨y1, hy1⟩ : ∃ y1, y1 = (l[x.val]).f1 := ⟨_, rfl⟩
      rw [← hy0] at c3 hy
      rw [← hy1] at c4 hy
      obtain ⟨xi, hxi⟩ : ∃ xi : Nat, xi = x.val := ⟨_, rfl⟩
      rw [← hxi] at c1 c3 c4 hy hxl
      clear hxi hy0 hy1 hx htk hcell hcellw hGg hGgw e2 e3 e5 e6 hio
      have hw : IntKind.i64.wrap ((i : Int) + 1) = ((i + 1 : Nat) : Int) := by rw [IntKind.wrap_i64]; omega
      gi_wp2
      refine hR.mono ?_
      rintro e W3 (⟨rfl, hJ3, hk3⟩ | ⟨rfl, hJx3⟩)
      · rw [HT.out] at hJ3
        have HJ3 := Lib.hid hJ3
        have HK3 := Lib.hid hk3
        clear hJ3 hk3
        gi_wp2
        go_roundw
        case rel => exact ⟨i + 1, hlt, by simp, HJ3, Lib.hid (HB.out.trans HK3.out)⟩
        case measure => simp [intOf]; omega
      · rw [HT.out] at hJx3
        gi_wp2
        refine bodyPost_ret (results_none rfl _ _ _) rfl ?_
        exact ⟨⟨_, rfl⟩, .inr ⟨_, List.take_prefix _ _, hJx3⟩⟩
    · obtain rfl : i = m := by omega
      gi_wp2
      go_end0
      exact ⟨⟨_, rfl⟩, .inl ⟨_, rfl, by have h := HJ.out; rw [HM.out, List.take_length] at h; exact h⟩⟩
/-- What the maker hands back gives the guests in their order, to whatever body keeps what lay. -/
theorem iter_stops (F : Fence) (n : Nat) (hf : F.fn 42) (hro : F.round = none) (hn : 1 ≤ n) (Bo Bw : Nat) (l : GL) (ord : List (Fin l.length)) (G : Nat → Prop) (w : World) (hG : ∀ k, G k → k < w.heap.size) (hord : ord.length ≤ 100) (hA : AllAt w G Bo Bw l ord) :
    SeqStopsK F n Try.prog 42 #[.pointer (some ⟨Bo, 0, none⟩), .pointer (some ⟨Bw, 0, none⟩)] (encA l) (Below w.heap.size) (fun ys => ys = ord) (fun pre => pre <+: ord) ord.length w := fun lp J Jx W hW _ _ hY h0 =>
  iter1_c F n hf hro hn lp Bo Bw w.heap.size l ord G hG hord J Jx hY W (hA.below hW (Nat.le_refl _) hG) hW.size h0
/-! ### Whose an address is: by hand -/
def hasI (g : S53) (a : Int) : Bool := decide (g.f0 ≤ a) && decide (IntKind.u64.wrap (a - g.f0) < g.f1)
def firstIn (l : GL) (a : Int) (ord : List (Fin l.length)) : Option (Fin l.length) := ord.find? fun i => hasI l[i.val] a
def idxOf {n : Nat} : Option (Fin n) → Int
  | some i => ((i.val : Nat) : Int)
  | none => -1
theorem blk_kept {X Y : World} {row : Option Nat} {B : Nat} {t : TypeId} {cs : Array Value} (h : Blk X B t cs) (hg : X.grownBy Y row) (hr : ∀ r, row = some r → ∃ o, X.heap[r]? = some o ∧ o.isCells = false) : Blk Y B t cs :=
  (hg.block B h.lt (fun e => by obtain ⟨o, ho, hc⟩ := hr B e.symm; rw [show X.heap[B]? = _ from h] at ho; cases ho; cases hc)).trans h
set_option maxRecDepth 100000 in
set_option maxHeartbeats 1000000 in
theorem whose_c (k : Nat) (ram slice a : Int) (A : Option Addr) (c : Nat) (l : GL) (r : Bool) (w : World) (hr : Kd.C k53 w A l.length l) (hc : l.length ≤ c) (hm : l.length ≤ 100) (h : conf_accepted.f k ram slice l = some r)
    (h12 : r = true → l.length ≤ 12 ∧ 0 < l.length) :
    Calls Try.prog 18 #[.agg #[.int .u64 ram, .int .u64 slice, .slice A l.length c], .int .u64 a] w fun e w' => (∃ ord, OrdOk r l ord ∧ e = .returned (.int .i64 (idxOf (firstIn l a ord)))) ∧ Below w.heap.size w w' := by
  have HR := Lib.hid hr
  have HC := Lib.hid hc
  have HM := Lib.hid hm
  have HA := Lib.hid h
  have H12 := Lib.hid h12
  clear hr hc hm h h12
  have hro : Fence.wide.round = none := rfl
  refine (callsIn_wide (n := 6)).1 ?_
  refine callsIn_of_wp_marks Try.func18 rfl trivial ?_ hro
  simp only [Try.ntmps18, List.size_toArray, List.length_cons, List.length_nil, Nat.reduceAdd, Nat.reduceSub, Array.replicate_succ, Array.replicate_zero, List.push_toArray, List.append_toArray, List.nil_append, List.cons_append]
  obtain ⟨wA, hwA⟩ : ∃ wA, wA = ((w.alloc (.cells #[.int .u64 ram, .int .u64 slice, .slice A l.length c] 25)).alloc (.cells #[.int .u64 a] 22)).alloc (.cells #[.int .i64 0] 3) := ⟨_, rfl⟩
  have hbA : Below w.heap.size w wA := by rw [hwA]; exact (((Below.refl _ w).alloc (Nat.le_refl _) _).alloc (by simp) _).alloc (by simp; omega) _
  have bA : Boxed wA (w.heap.size + 1) 22 (.int .u64 a) := by
    have := (Boxed.new (w.alloc (.cells #[.int .u64 ram, .int .u64 slice, .slice A l.length c] 25)) 22 (.int .u64 a)).alloc (.cells #[.int .i64 0] 3)
    rw [World.size_alloc] at this
    rw [hwA]; exact this
  have bR : Boxed wA (w.heap.size + 2) 3 (.int .i64 0) := by
    have := Boxed.new ((w.alloc (.cells #[.int .u64 ram, .int .u64 slice, .slice A l.length c] 25)).alloc (.cells #[.int .u64 a] 22)) 3 (.int .i64 0)
    rw [World.size_alloc, World.size_alloc] at this
    rw [hwA]; exact this
  have hsz : wA.heap.size = w.heap.size + 3 := by rw [hwA]; simp
  gi_wp2
  refine ⟨trivial, ?_⟩
  rw [← hwA]
  refine (callsIn_wide.2 (all_c k ram slice A c l r _ (Kd.C_below HR.out hbA) HC.out HM.out HA.out H12.out)).mono ?_
  rintro e w1 ⟨Bo, Bw, ord, rfl, hall, hord, hb1⟩
  have bA1 : Boxed w1 (w.heap.size + 1) 22 (.int .u64 a) := (hb1.block _ bA.lt).trans bA
  have bR1 : Boxed w1 (w.heap.size + 1 + 1) 3 (.int .i64 0) := (hb1.block _ bR.lt).trans bR
  have hB1 : Below w.heap.size w w1 := hbA.trans (hb1.mono (by omega))
  have hlen : ord.length ≤ 100 := by
    cases r with
    | true => rw [hord.1.length_eq, List.length_finRange]; exact HM.out
    | false => have e : ord = [] := hord; rw [e]; simp
  have hs1 := hb1.size
  have hords := Lib.hid hord
  have hallW := Lib.hid hall
  have HL := Lib.hid hlen
  clear hwA hbA bA bR hb1 hord hall hlen
  gi_wp2
  refine wpIn_rangeFunc_ownH hro (by omega) (gf := 42) (lb := #[.pointer (some ⟨Bo, 0, none⟩), .pointer (some ⟨Bw, 0, none⟩)]) rfl trivial (enters_of Try.func42 (by kernel_rfl) rfl)
    (iter_stops Fence.wide 5 trivial hro (by omega) Bo Bw l ord _ w1 (fun k hk => hk.2) HL.out hallW.out) belowK_t (belowK_b (Nat.le_refl _)) (Below.refl _ _) (fun _ => rfl)
    (fun pre W => firstIn l a pre = none ∧ Below w1.heap.size w1 W)
    (fun c pre W => ((c = .ret ∧ firstIn l a pre ≠ none) ∧ Boxed W (w.heap.size + 1 + 1) 3 (.int .i64 (idxOf (firstIn l a pre)))) ∧ Below w.heap.size w W)
    (OwnFrom.and (ownFrom_pure _ _) (ownFrom_below (Nat.le_refl _) (Nat.le_refl _)))
    (fun c => OwnFrom.and (OwnFrom.and (ownFrom_pure _ _) (_root_.Go.Own.from (boxed_own _ _ (fun pre => Value.int .i64 (idxOf (firstIn l a pre)))) _)) (ownFrom_below (Nat.le_refl _) (by omega)))
    ⟨rfl, Below.refl _ _⟩
    (fun x a' W => ∃ Bx, w1.heap.size ≤ Bx ∧ Blk W Bx 53 #[.int .u64 (l[x.val]).f0, .int .u64 (l[x.val]).f1] ∧ a' = { tmps := #[.agg #[.int .u64 ram, .int .u64 slice, .slice A l.length c], .int .u64 a, .pointer (some ⟨w.heap.size, 0, none⟩), .pointer (some ⟨w.heap.size + 1, 0, none⟩), .pointer (some ⟨w.heap.size + 1 + 1, 0, none⟩), .int .i64 ((x.val : Nat) : Int), .pointer (some ⟨Bx, 0, none⟩), .agg #[.int .u64 ram, .int .u64 slice, .slice A l.length c], .func (.func 42) #[] #[.pointer (some ⟨Bo, 0, none⟩), .pointer (some ⟨Bw, 0, none⟩)], .int .i64 ((x.val : Nat) : Int), .agg #[.int .u64 (l[x.val]).f0, .int .u64 (l[x.val]).f1], undef, undef, undef, undef, undef, undef, undef, undef, undef, undef, undef, undef, undef, undef], defers := [] })
    (fun x a' _ X Y row hs hg hr => by obtain ⟨Bx, e1, e2, e3⟩ := hs; exact ⟨Bx, e1, blk_kept e2 hg (fun r e => (hr r e).2), e3⟩)
    ?assign ?body ?done ?stop
  case assign =>
    rintro lp pre x W K ⟨hp, hB2⟩ hK
    have hs2 := hB2.size
    unfold encA
    gi_wp2
    exact hK _ _ ((KeepsOthers.alloc _ _).from _) ((Below.refl _ W).alloc hs2 _) ⟨hp, hB2.alloc hB2.size _⟩ ⟨W.heap.size, hs2, Blk.new W _ _, rfl⟩
  case body =>
    rintro lp pre x a' W hl ⟨rr, hrr⟩ ⟨hp, hB2⟩ ⟨Bx, hBx, bX, rfl⟩ hlt
    have bA2 : Boxed W (w.heap.size + 1) 22 (.int .u64 a) := (hB2.block _ bA1.lt).trans bA1
    have bR2 : Boxed W (w.heap.size + 1 + 1) 3 (.int .i64 0) := (hB2.block _ bR1.lt).trans bR1
    have cA := bA2.cell
    have cR := bR2.cell
    have fR := bR2.frozen
    have x0 : W.cell? ⟨Bx, 0, none⟩ = some (.int .u64 (l[x.val]).f0) := bX.cell 0
    have x1 : W.cell? ⟨Bx, 1, none⟩ = some (.int .u64 (l[x.val]).f1) := bX.cell 1
    obtain ⟨y0, hy0⟩ : ∃ y0, y0 = (l[x.val]).f0 := ⟨_, rfl⟩
    obtain ⟨y1, hy1⟩ : ∃ y1, y1 = (l[x.val]).f1 := ⟨_, rfl⟩
    rw [← hy0] at x0 ⊢
    rw [← hy1] at x1 ⊢
    have hfi : firstIn l a (pre ++ [x]) = if hasI (l[x.val]) a = true then some x else none := by
      unfold firstIn at hp ⊢
      rw [List.find?_append, hp, Option.none_or, List.find?_singleton]
    have HF := Lib.hid hfi
    have hhas : hasI (l[x.val]) a = (decide (y0 ≤ a) && decide (IntKind.u64.wrap (a - y0) < y1)) := by unfold hasI; rw [hy0, hy1]
    have HH := Lib.hid hhas
    clear hfi hhas hy0 hy1
    by_cases h1 : y0 ≤ a
    · by_cases h2 : IntKind.u64.wrap (a - y0) < y1
      · gi_wp2
        have hf : firstIn l a (pre ++ [x]) = some x := by rw [HF.out, HH.out, decide_eq_true h1, decide_eq_true h2]; rfl
        refine ⟨(KeepsOthers.setCell _ _ _).from _, ⟨⟨rfl, by rw [hf]; simp⟩, ?_⟩, (hB1.trans (hB2.mono hB1.size)).setCell (p := ⟨w.heap.size + 1 + 1, 0, none⟩) (by show w.heap.size ≤ w.heap.size + 1 + 1; omega) _⟩
        rw [hf]
        exact bR2.set _
      · gi_wp2
        exact ⟨KeepsFrom.refl _ _, Below.refl _ _, by rw [HF.out, HH.out, decide_eq_false (p := IntKind.u64.wrap (a - y0) < y1) (by omega), Bool.and_false]; rfl, hB2⟩
    · gi_wp2
      exact ⟨KeepsFrom.refl _ _, Below.refl _ _, by rw [HF.out, HH.out, decide_eq_false (p := y0 ≤ a) (by omega)]; rfl, hB2⟩
  case done =>
    rintro D ys W hD rfl ⟨hp, hB2⟩ hK
    have bR2 : Boxed W (w.heap.size + 1 + 1) 3 (.int .i64 0) := (hB2.block _ bR1.lt).trans bR1
    have cR := bR2.cell
    have fR := bR2.frozen
    gi_wp2
    have hK' := (KeepsOthers.setCell W ⟨w.heap.size + 1 + 1, 0, none⟩ (.int .i64 (-1))).same D _ hK rfl
    refine ⟨by simp, .inl ⟨_, _, rfl, run_takeDeferred hK', ?_⟩⟩
    have hc5 := cell_kept (bR2.set (.int .i64 (-1))).cell (grownBy_putObj' _ D (.deferred none)) (fun r e => by cases e; exact ⟨_, hK', rfl⟩)
    refine ⟨.int .i64 (-1), ?_, ⟨_, hords.out, by rw [hp]; rfl⟩, ((hB1.trans (hB2.mono hB1.size)).setCell (p := ⟨w.heap.size + 1 + 1, 0, none⟩) (by show w.heap.size ≤ w.heap.size + 1 + 1; omega) _).trans (belowK_b (w := w) (Nat.le_refl _) _ D _ _ (by omega) hK' rfl rfl)⟩
    simp [results, Try.f18, go_sem, hc5]
  case stop =>
    rintro D cc pre W hD hpre ⟨⟨⟨rfl, hx⟩, bR2⟩, hB2⟩ hK
    gi_wp2
    refine ⟨by simp, .inl ⟨_, _, rfl, run_takeDeferred hK, ?_⟩⟩
    have hc5 := cell_kept bR2.cell (grownBy_putObj' _ D (.deferred none)) (fun r e => by cases e; exact ⟨_, hK, rfl⟩)
    have hff : firstIn l a ord = firstIn l a pre := by
      obtain ⟨s, hs⟩ := hpre
      rw [← hs]
      unfold firstIn at hx ⊢
      rw [List.find?_append]
      cases hq : pre.find? (fun i => hasI l[i.val] a) with
      | none => exact absurd hq hx
      | some q => rfl
    refine ⟨.int .i64 (idxOf (firstIn l a pre)), ?_, ⟨_, hords.out, by rw [hff]⟩, hB2.trans (belowK_b (w := w) (Nat.le_refl _) W D _ _ (by omega) hK rfl rfl)⟩
    simp [results, Try.f18, go_sem, hc5]
end
/-! ### Whose an address is, as a function -/
theorem find_perm {α : Type} {p : α → Bool} (hu : ∀ x y, p x = true → p y = true → x = y) {l m : List α} (h : l.Perm m) : l.find? p = m.find? p := by
  cases hl : l.find? p with
  | none =>
    cases hm : m.find? p with
    | none => rfl
    | some y =>
      have h1 := List.find?_some hm
      have h2 := List.mem_of_find?_eq_some hm
      exact absurd h1 (List.find?_eq_none.1 hl y (h.symm.subset h2))
  | some x =>
    have h1 := List.find?_some hl
    have h2 := List.mem_of_find?_eq_some hl
    cases hm : m.find? p with
    | none => exact absurd h1 (List.find?_eq_none.1 hm x (h.subset h2))
    | some y => rw [hu x y h1 (List.find?_some hm)]
theorem hasI_nat (x y a : Nat) (ha : a < 18446744073709551616) : hasI ⟨(x : Int), (y : Int)⟩ (a : Int) = (CG.mk x y).has a := by
  unfold hasI CG.has
  rw [Bool.eq_iff_iff]
  simp only [Bool.and_eq_true, decide_eq_true_eq]
  constructor
  · rintro ⟨h1, h2⟩
    rw [IntKind.wrap_u64] at h2
    omega
  · rintro ⟨h1, h2⟩
    rw [IntKind.wrap_u64]
    omega
/-- The guest at a place, plainly. -/
theorem okL.get {gs : GL} (h : okL gs) {i : Nat} (hi : i < gs.length) : ∃ x y : Nat, gs[i] = ⟨(x : Int), (y : Int)⟩ ∧ x < 18446744073709551616 ∧ y < 18446744073709551616 ∧ (gs.map toCG)[i]? = some ⟨x, y⟩ ∧ rd_T53 gs (i : Int) = ⟨(x : Int), (y : Int)⟩ := by
  obtain ⟨g, hg, _, e3, e4⟩ := h.at_ hi
  refine ⟨g.base, g.size, ?_, hg.base, hg.size, e3, e4⟩
  rw [← e4]
  unfold rd_T53
  rw [Int.toNat_natCast, List.getD_eq_getElem?_getD, List.getElem?_eq_getElem hi]
  rfl
/-- In a configuration that is accepted no two guests hold one address. -/
theorem apart {gs : GL} (ok : okL gs) (ram slice : Nat) (h : (csOf ram slice gs).check.2 = 0) (a : Nat) (i j : Nat) (hij : i < j) (hj : j < gs.length) (x y x' y' : Nat) (e1 : gs[i] = ⟨(x : Int), (y : Int)⟩) (e2 : gs[j] = ⟨(x' : Int), (y' : Int)⟩)
    (h1 : (CG.mk x y).has a = true) (h2 : (CG.mk x' y').has a = true) : False := by
  obtain ⟨_, hr, _, _, _, hb⟩ := check_zero h
  have bi := hb i (by omega)
  have bj := hb j hj
  obtain ⟨u, v, f1, _, _, f2, _⟩ := ok.get (show i < gs.length by omega)
  obtain ⟨u', v', f1', _, _, f2', _⟩ := ok.get hj
  have q1 : u = x ∧ v = y := by rw [e1] at f1; simp only [S53.mk.injEq] at f1; omega
  have q2 : u' = x' ∧ v' = y' := by rw [e2] at f1'; simp only [S53.mk.injEq] at f1'; omega
  obtain ⟨rfl, rfl⟩ := q1
  obtain ⟨rfl, rfl⟩ := q2
  unfold CS.barAt csOf at bi bj
  simp only at bi bj
  rw [List.getD_eq_getElem?_getD, f2, Option.getD_some] at bi
  rw [List.getD_eq_getElem?_getD, f2', Option.getD_some] at bj
  obtain ⟨_, _, _, _, _, b6, _⟩ := CG.bars_zero bi
  obtain ⟨_, _, _, _, _, c6, c7⟩ := CG.bars_zero bj
  have hm : CG.mk u v ∈ (gs.map toCG).take j := by
    rw [List.mem_iff_getElem?]
    exact ⟨i, by rw [List.getElem?_take, if_pos hij, f2]⟩
  have := c7 _ hm
  unfold CG.meets at this
  unfold CG.has at h1 h2
  simp only [Bool.and_eq_true, decide_eq_true_eq, Bool.and_eq_false_iff, decide_eq_false_iff_not] at h1 h2 this
  simp only at b6 c6
  omega
theorem one_has {gs : GL} (ok : okL gs) (ram slice : Nat) (h : (csOf ram slice gs).check.2 = 0) (a : Nat) (ha : a < 18446744073709551616) (i j : Fin gs.length) (h1 : hasI gs[i.val] (a : Int) = true) (h2 : hasI gs[j.val] (a : Int) = true) : i = j := by
  obtain ⟨x, y, e1, _⟩ := ok.get i.isLt
  obtain ⟨x', y', e2, _⟩ := ok.get j.isLt
  rw [e1, hasI_nat _ _ _ ha] at h1
  rw [e2, hasI_nat _ _ _ ha] at h2
  rcases Nat.lt_trichotomy i.val j.val with q | q | q
  · exact (apart ok ram slice h a _ _ q j.isLt _ _ _ _ e1 e2 h1 h2).elim
  · exact Fin.ext q
  · exact (apart ok ram slice h a _ _ q i.isLt _ _ _ _ e2 e1 h2 h1).elim
/-- Whose an address is. -/
def whoseP (ram slice : Nat) (gs : GL) (a : Int) : Int := if (csOf ram slice gs).check.2 = 0 then idxOf (firstIn gs a (List.finRange gs.length)) else -1
def conf_Whose.f (a0_0 : Int) (a0_1 : Int) (l0_2 : List (S53)) (a1 : Int) : Option (Int) :=
  if (fit64 a0_0 && fit64 a0_1 && l0_2.all (fun g => fit64 g.f0 && fit64 g.f1) && decide (l0_2.length ≤ 100) && fit64 a1) = true then some (whoseP a0_0.toNat a0_1.toNat l0_2 a1) else none
theorem accepted_conf {gs : GL} (h : okL gs) (ram slice : Nat) (hr : ram < 18446744073709551616) : Ev (fun k => conf_accepted.f k (ram : Int) (slice : Int) gs) (decide ((csOf ram slice gs).check.2 = 0)) := by
  unfold conf_accepted.f
  refine Ev.bind (check_conf h ram slice hr) ?_
  have e : (((csOf ram slice gs).check.2 : Int) == 0) = decide ((csOf ram slice gs).check.2 = 0) := by
    rw [Bool.eq_iff_iff]
    simp
  rw [← e]
  exact Ev.now _
theorem conf_Whose.calls (a0_0 : Int) (a0_1 : Int) (A0_2 : Option Addr) (c0_2 : Nat) (l0_2 : List (S53)) (a1 : Int) (r : Int) (w : World) (hr0_2 : Kd.C k53 w A0_2 l0_2.length l0_2) (hc0_2 : l0_2.length ≤ c0_2) (h : conf_Whose.f a0_0 a0_1 l0_2 a1 = some r) :
    Calls Try.prog 18 #[.agg #[.int .u64 a0_0, .int .u64 a0_1, .slice A0_2 l0_2.length c0_2], .int .u64 a1] w fun e w' => e = .returned (.int .i64 r) ∧ Below w.heap.size w w' := by
  unfold conf_Whose.f at h
  split at h
  case isFalse => cases h
  case isTrue hg =>
    simp only [Bool.and_eq_true, decide_eq_true_eq] at hg
    obtain ⟨⟨⟨⟨g1, g2⟩, g3⟩, g4⟩, g5⟩ := hg
    obtain ⟨ram, rfl, hram⟩ := fit64_nat g1
    obtain ⟨slice, rfl, hslice⟩ := fit64_nat g2
    obtain ⟨a, rfl, ha⟩ := fit64_nat g5
    have ok : okL l0_2 := g3
    obtain rfl := Option.some.inj h
    rw [Int.toNat_natCast, Int.toNat_natCast]
    obtain ⟨k, hk⟩ := (accepted_conf ok ram slice hram).rounds
    refine (whose_c k (ram : Int) (slice : Int) (a : Int) A0_2 c0_2 l0_2 _ w hr0_2 hc0_2 g4 hk (fun hz => ?_)).mono ?_
    · have := check_zero (of_decide_eq_true hz)
      omega
    · rintro e w' ⟨⟨ord, ho, rfl⟩, hb⟩
      refine ⟨?_, hb⟩
      unfold whoseP
      by_cases hz : (csOf ram slice l0_2).check.2 = 0
      · rw [decide_eq_true hz] at ho
        rw [if_pos hz]
        unfold firstIn
        rw [find_perm (fun i j h1 h2 => one_has ok ram slice hz a ha i j h1 h2) ho.1]
      · rw [decide_eq_false hz] at ho
        have e0 : ord = [] := ho
        rw [if_neg hz, e0]
        rfl

end Go.Proofs.Ytacgjgmladbgeaa.PConfPlaces

/-
  slices.Sort of at most twelve numbers: by insertion.
-/
import Derived.Test.YtpnabfekidpnoaaRamS1
import Derived.Deep.CutRange
namespace Go.Proofs.Ytpnabfekidpnoaa
open Go Go.RowKit

def SortedTo (l : List Nat) (i : Nat) : Prop := ∀ p q, p < q → q < i → l.getD p 0 ≤ l.getD q 0
def InsMid (l : List Nat) (i j : Nat) : Prop := ∀ p q, p < q → q ≤ i → q ≠ j → l.getD p 0 ≤ l.getD q 0
theorem InsMid.start {l : List Nat} {i : Nat} (h : SortedTo l i) : InsMid l i i := fun p q h1 h2 h3 => h p q h1 (by omega)
theorem swp_getD (l : List Nat) (j p : Nat) (hj : j < l.length) (hp : p < l.length) (q : Nat) : (swp l j p hj hp).getD q 0 = if q = p then l.getD j 0 else if q = j then l.getD p 0 else l.getD q 0 := by
  unfold swp
  simp only [List.getD_eq_getElem?_getD, List.getElem?_set, List.length_set]
  by_cases h1 : q = p
  · subst h1
    rw [if_pos rfl, if_pos rfl, if_pos hp]
    simp [hj]
  · rw [if_neg (fun e => h1 e.symm), if_neg h1]
    by_cases h2 : q = j
    · subst h2
      rw [if_pos rfl, if_pos rfl, if_pos hj]
      simp [hp]
    · rw [if_neg (fun e => h2 e.symm), if_neg h2]
theorem InsMid.swap {l : List Nat} {i j : Nat} (h : InsMid l i j) (hji : j ≤ i) (h0 : 0 < j) (hj : j < l.length) (hlt : l.getD j 0 < l.getD (j - 1) 0) : InsMid (swp l j (j - 1) hj (by omega)) i (j - 1) := fun p q h1 h2 h3 => by
  rw [swp_getD, swp_getD, if_neg h3]
  by_cases hq : q = j
  · rw [if_pos hq]
    by_cases hp : p = j - 1
    · rw [if_pos hp]; omega
    · rw [if_neg hp, if_neg (by omega)]
      exact h p (j - 1) (by omega) (by omega) (by omega)
  · rw [if_neg hq]
    by_cases hp : p = j - 1
    · rw [if_pos hp]
      exact h j q (by omega) h2 hq
    · rw [if_neg hp]
      by_cases hp2 : p = j
      · rw [if_pos hp2]
        exact h (j - 1) q (by omega) h2 hq
      · rw [if_neg hp2]
        exact h p q h1 h2 hq
theorem InsMid.done {l : List Nat} {i j : Nat} (h : InsMid l i j) (hji : j ≤ i) (he : j = 0 ∨ l.getD (j - 1) 0 ≤ l.getD j 0) : SortedTo l (i + 1) := fun p q h1 h2 => by
  by_cases hq : q = j
  · subst hq
    rcases he with he | he
    · omega
    · by_cases hp : p = q - 1
      · rw [hp]; exact he
      · exact Nat.le_trans (h p (q - 1) (by omega) (by omega) (by omega)) he
  · exact h p q h1 (by omega) hq
theorem SortedTo.pairwise {l : List Nat} (h : SortedTo l l.length) : l.Pairwise (· ≤ ·) := by
  rw [List.pairwise_iff_getElem]
  intro p q hp hq hpq
  have := h p q hpq hq
  simpa [List.getD_eq_getElem?_getD, hp, hq] using this
set_option maxRecDepth 100000 in
set_option maxHeartbeats 2000000 in
theorem insertion_c (w : World) (g o c sz : Nat) (l : List Nat) (h : URow w g o l sz) (hn : l.length ≤ 12) (hc : l.length ≤ c) :
    Calls Try.prog 47 #[.slice (some ⟨g, o, none⟩) l.length c, .int .i64 0, .int .i64 (l.length : Int)] w fun r w' => r = .returned (.tuple #[]) ∧ ∃ l', URow w' g o l' sz ∧ l'.Perm l ∧ l'.Pairwise (· ≤ ·) ∧ Fr (One g) w w' := by
  obtain ⟨n, hnl⟩ : ∃ n, n = l.length := ⟨_, rfl⟩
  rw [← hnl] at hn hc ⊢
  have HN := Lib.hid hnl
  have H0 := Lib.hid h
  have HL := Lib.hid less_c
  clear h hnl
  go_enter Try.func47, Try.ntmps47
  go_wp2_with fail
  go_loopw [6] (fun pi wr => ∃ (i : Nat) (cur : List Nat), 1 ≤ i ∧ (i ≤ n ∨ i = 1) ∧ pi = .int .i64 (i : Int) ∧ Hid (URow wr g o cur sz ∧ cur.Perm l ∧ SortedTo cur i ∧ Fr (One g) w wr)) (fun pi _ => n - (intOf pi).toNat)
  case atStart => exact ⟨1, l, Nat.le_refl _, .inr rfl, rfl, Lib.hid ⟨H0.out, List.Perm.refl _, fun p q h1 h2 => by omega, Fr.refl _ _⟩⟩
  case round =>
    obtain ⟨i, cur, hi1, hi2, rfl, HI⟩ := hrel
    by_cases hlt : i < n
    · have e1 : IntKind.i64.wrap ((i : Int) + 1) = ((i + 1 : Nat) : Int) := by rw [IntKind.wrap_i64]; omega
      have HM := Lib.hid (show URow wr g o cur sz ∧ cur.Perm l ∧ InsMid cur i i ∧ Fr (One g) w wr from ⟨HI.out.1, HI.out.2.1, InsMid.start HI.out.2.2.1, HI.out.2.2.2⟩)
      clear HI hi2
      go_wp2_with fail
      go_loopw [7] (fun pj wx => ∃ (j : Nat) (cx : List Nat), j ≤ i ∧ pj = .int .i64 (j : Int) ∧ Hid (URow wx g o cx sz ∧ cx.Perm l ∧ InsMid cx i j ∧ Fr (One g) w wx)) (fun pj _ => (intOf pj).toNat)
      case atStart => exact ⟨i, cur, Nat.le_refl _, rfl, HM⟩
      case round =>
        obtain ⟨j, cx, hji, rfl, HX⟩ := hrel
        have hlen : cx.length = n := by rw [HX.out.2.1.length_eq, HN.out]
        by_cases h0 : 0 < j
        · have hj : j < cx.length := by omega
          obtain ⟨p, hp⟩ : ∃ p, p = j - 1 := ⟨_, rfl⟩
          have hpl : p < cx.length := by omega
          have c1 := HX.out.1.cell j hj
          have c2 := HX.out.1.cell p hpl
          have hfree := HX.out.1.free
          obtain ⟨x, hx⟩ : ∃ x, x = cx[j] := ⟨_, rfl⟩
          obtain ⟨y, hy⟩ : ∃ y, y = cx[p] := ⟨_, rfl⟩
          rw [← hx] at c1
          rw [← hy] at c2
          have hgx : cx.getD j 0 = x := by rw [hx, List.getD_eq_getElem?_getD, List.getElem?_eq_getElem hj]; rfl
          have hgy : cx.getD (j - 1) 0 = y := by rw [hy, ← hp, List.getD_eq_getElem?_getD, List.getElem?_eq_getElem hpl]; rfl
          have e2 : wrap64 ((j : Int) - 1) = (p : Int) := by unfold wrap64; omega
          have e3 : IntKind.i64.wrap ((j : Int) - 1) = (p : Int) := by rw [IntKind.wrap_i64]; omega
          have e4 : (j : Int) - 1 = (p : Int) := by omega
          have d1 : decide ((0 : Int) < (j : Int)) = true := by rw [decide_eq_true_iff]; omega
          have d2 : decide (0 < j) = true := decide_eq_true h0
          have hjn : j < n := by omega
          have hpn : p < n := by omega
          have HLE := Lib.hid (fun (W : World) q => quiet_eq (n := q) (HL.out (W.drewN q) x y))
          by_cases hxy : x < y
          · have d3 : decide (x < y) = true := decide_eq_true hxy
            have HP := Lib.hid (show InsMid (swp cx j (j - 1) hj (by omega)) i (j - 1) ∧ (swp cx j (j - 1) hj (by omega)).Perm l from ⟨HX.out.2.2.1.swap hji h0 hj (by rw [hgx, hgy]; exact hxy), (swp_perm _ _ _ _ _).trans HX.out.2.1⟩)
            have hput := fun q => (((HX.out.1.fr ((Fr.refl No wr).drewN q) (fun q => q)).put j y hj).put p x (by rw [List.length_set]; exact hpl))
            have hsw : (cx.set j y).set p x = swp cx j (j - 1) hj (by omega) := by unfold swp; rw [hx, hy]; subst hp; rfl
            simp only [hsw] at hput
            have hP := HP.out
            obtain ⟨cy, hcy⟩ : ∃ cy, cy = swp cx j (j - 1) hj (by omega) := ⟨_, rfl⟩
            simp only [← hcy] at hput hP
            have HP2 := Lib.hid hP
            have HPUT := Lib.hid hput
            have HFX := Lib.hid (fun q => show Fr (One g) w (((wr.drewN q).setCell ⟨g, o + j, none⟩ (.int .u64 (y : Int))).setCell ⟨g, o + p, none⟩ (.int .u64 (x : Int))) from ((HX.out.2.2.2.drewN q).setCell (a := ⟨g, o + j, none⟩) (.inl rfl) _).setCell (a := ⟨g, o + p, none⟩) (.inl rfl) _)
            have HPP := Lib.hid hp
            clear hP HP hcy hput hsw
            clear hx hy hgx hgy hp hxy hpl hj
            go_upto_region 4 with fail
            go_quiet ((go_at_call 53; exact quiet_eq (HL.out _ _ _)))
            go_upto_region 6 with fail
            go_region
            go_wp2_with fail
            refine ⟨⟨j - 1, cy, by omega, ?_, Lib.hid ⟨HPUT.out _, HP2.out.2, HP2.out.1, HFX.out _⟩⟩, by simp [intOf]; omega⟩
            rw [← HPP.out]
          · have d3 : decide (x < y) = false := decide_eq_false hxy
            have HD := Lib.hid (show SortedTo cx (i + 1) from HX.out.2.2.1.done hji (.inr (by rw [hgx, hgy]; omega)))
            clear hx hy hgx hgy hp hxy hpl hj
            go_upto_region 4 with fail
            go_quiet ((go_at_call 53; exact quiet_eq (HL.out _ _ _)))
            go_wp2_with fail
            exact ⟨⟨i + 1, cx, by omega, .inl (by omega), by simp, Lib.hid ⟨HX.out.1.fr ((Fr.refl No wr).drewN nq) (fun q => q), HX.out.2.1, HD.out, HX.out.2.2.2.drewN nq⟩⟩, by simp [intOf]; omega⟩
        · obtain rfl : j = 0 := by omega
          have HD := Lib.hid (show SortedTo cx (i + 1) from HX.out.2.2.1.done hji (.inl rfl))
          have d1 : decide ((0 : Int) < ((0 : Nat) : Int)) = false := rfl
          go_upto_region 4 with fail
          go_quiet (fail)
          go_wp2_with fail
          exact ⟨⟨i + 1, cx, by omega, .inl (by omega), by simp, Lib.hid ⟨HX.out.1.fr ((Fr.refl No wr).drewN nq) (fun q => q), HX.out.2.1, HD.out, HX.out.2.2.2.drewN nq⟩⟩, by simp [intOf]; omega⟩
    · go_wp2_with fail
      go_end0
      have hlen : cur.length = n := by rw [HI.out.2.1.length_eq, HN.out]
      refine ⟨rfl, cur, HI.out.1, HI.out.2.1, SortedTo.pairwise ?_, HI.out.2.2.2⟩
      rw [hlen]
      intro p q h1 h2
      exact HI.out.2.2.1 p q h1 (by omega)
end Go.Proofs.Ytpnabfekidpnoaa

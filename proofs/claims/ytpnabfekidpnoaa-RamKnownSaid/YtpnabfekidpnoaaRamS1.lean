/-
  slices.Sort of at most twelve numbers: what it calls.
-/
import Derived.Test.YtpnabfekidpnoaaRam6
namespace Go.Proofs.Ytpnabfekidpnoaa
open Go Go.RowKit

set_option maxRecDepth 100000 in
theorem len64_c (w : World) (n : Nat) (hn : n ≤ 12) : Calls Try.prog 57 #[.int .u64 (n : Int)] w fun r w' => (∃ k : Int, r = .returned (.int .i64 k)) ∧ w' = w := by
  match n, hn with
  | 0, _ =>
    show Calls Try.prog 57 #[.int .u64 0] w _
    go_enter Try.func57, Try.ntmps57
    go_wp2_with fail
    go_ret
    exact ⟨⟨_, rfl⟩, rfl⟩
  | 1, _ =>
    show Calls Try.prog 57 #[.int .u64 1] w _
    go_enter Try.func57, Try.ntmps57
    go_wp2_with fail
    go_ret
    exact ⟨⟨_, rfl⟩, rfl⟩
  | 2, _ =>
    show Calls Try.prog 57 #[.int .u64 2] w _
    go_enter Try.func57, Try.ntmps57
    go_wp2_with fail
    go_ret
    exact ⟨⟨_, rfl⟩, rfl⟩
  | 3, _ =>
    show Calls Try.prog 57 #[.int .u64 3] w _
    go_enter Try.func57, Try.ntmps57
    go_wp2_with fail
    go_ret
    exact ⟨⟨_, rfl⟩, rfl⟩
  | 4, _ =>
    show Calls Try.prog 57 #[.int .u64 4] w _
    go_enter Try.func57, Try.ntmps57
    go_wp2_with fail
    go_ret
    exact ⟨⟨_, rfl⟩, rfl⟩
  | 5, _ =>
    show Calls Try.prog 57 #[.int .u64 5] w _
    go_enter Try.func57, Try.ntmps57
    go_wp2_with fail
    go_ret
    exact ⟨⟨_, rfl⟩, rfl⟩
  | 6, _ =>
    show Calls Try.prog 57 #[.int .u64 6] w _
    go_enter Try.func57, Try.ntmps57
    go_wp2_with fail
    go_ret
    exact ⟨⟨_, rfl⟩, rfl⟩
  | 7, _ =>
    show Calls Try.prog 57 #[.int .u64 7] w _
    go_enter Try.func57, Try.ntmps57
    go_wp2_with fail
    go_ret
    exact ⟨⟨_, rfl⟩, rfl⟩
  | 8, _ =>
    show Calls Try.prog 57 #[.int .u64 8] w _
    go_enter Try.func57, Try.ntmps57
    go_wp2_with fail
    go_ret
    exact ⟨⟨_, rfl⟩, rfl⟩
  | 9, _ =>
    show Calls Try.prog 57 #[.int .u64 9] w _
    go_enter Try.func57, Try.ntmps57
    go_wp2_with fail
    go_ret
    exact ⟨⟨_, rfl⟩, rfl⟩
  | 10, _ =>
    show Calls Try.prog 57 #[.int .u64 10] w _
    go_enter Try.func57, Try.ntmps57
    go_wp2_with fail
    go_ret
    exact ⟨⟨_, rfl⟩, rfl⟩
  | 11, _ =>
    show Calls Try.prog 57 #[.int .u64 11] w _
    go_enter Try.func57, Try.ntmps57
    go_wp2_with fail
    go_ret
    exact ⟨⟨_, rfl⟩, rfl⟩
  | 12, _ =>
    show Calls Try.prog 57 #[.int .u64 12] w _
    go_enter Try.func57, Try.ntmps57
    go_wp2_with fail
    go_ret
    exact ⟨⟨_, rfl⟩, rfl⟩
  | n + 13, h => omega
set_option maxRecDepth 100000 in
theorem len_c (w : World) (n : Nat) (hn : n ≤ 12) : Calls Try.prog 44 #[.int .u64 (n : Int)] w fun r w' => (∃ k : Int, r = .returned (.int .i64 k)) ∧ w' = w := by
  have HL := Lib.hid (len64_c w n hn)
  clear hn
  go_enter Try.func44, Try.ntmps44
  go_wp2_with (go_at_call 57; refine HL.out.mono ?_; rintro r w1 ⟨⟨k, rfl⟩, rfl⟩)
  go_ret
  exact ⟨⟨_, rfl⟩, rfl⟩
set_option maxRecDepth 100000 in
theorem less_c (w : World) (x y : Nat) : Calls Try.prog 53 #[.int .u64 (x : Int), .int .u64 (y : Int)] w fun r w' => r = .returned (.bool (decide (x < y))) ∧ w = w' := by
  have hnan : ∀ (z : Nat) (W : World), Calls Try.prog 63 #[.int .u64 (z : Int)] W fun r w' => r = .returned (.bool false) ∧ w' = W := fun z W => by
    go_enter Try.func63, Try.ntmps63
    go_wp2_with fail
    go_ret
    exact ⟨by simp, rfl⟩
  have HN := Lib.hid hnan
  clear hnan
  go_enter Try.func53, Try.ntmps53
  go_wp2_with (go_at_call 63; refine (HN.out _ _).mono ?_; rintro r w1 ⟨rfl, rfl⟩)
  go_ret
  exact ⟨by simp, rfl⟩
/-- A row of numbers. -/
def URow (w : World) (g o : Nat) (l : List Nat) (sz : Nat) : Prop := ∃ cur, Blk w g 22 cur ∧ cur.size = sz ∧ ∀ j (h : j < l.length), cur[o + j]? = some (.int .u64 ((l[j] : Nat) : Int))
theorem URow.fr {w w' : World} {g o sz : Nat} {l : List Nat} {S : Nat → Prop} (h : URow w g o l sz) (hf : Fr S w w') (hg : ¬ S g) : URow w' g o l sz := by
  obtain ⟨cur, h1, h2⟩ := h
  exact ⟨cur, h1.fr hf hg, h2⟩
theorem URow.cell {w : World} {g o sz : Nat} {l : List Nat} (h : URow w g o l sz) (j : Nat) (hj : j < l.length) : w.cell? ⟨g, o + j, none⟩ = some (.int .u64 ((l[j] : Nat) : Int)) := by
  obtain ⟨cur, h1, _, h3⟩ := h
  rw [h1.cell, h3 j hj]
theorem URow.free {w : World} {g o sz : Nat} {l : List Nat} (h : URow w g o l sz) (j : Nat) : w.frozen? ⟨g, j, none⟩ = false := by
  obtain ⟨cur, h1, _⟩ := h
  exact h1.free j
theorem URow.put {w : World} {g o sz : Nat} {l : List Nat} (h : URow w g o l sz) (j x : Nat) (hj : j < l.length) : URow (w.setCell ⟨g, o + j, none⟩ (.int .u64 (x : Int))) g o (l.set j x) sz := by
  obtain ⟨cur, h1, h2, h3⟩ := h
  refine ⟨_, h1.put _ _, by rw [Array.size_setIfInBounds]; exact h2, fun i hi => ?_⟩
  rw [List.length_set] at hi
  have hlt := (Array.getElem?_eq_some_iff.1 (h3 j hj)).1
  rw [Array.getElem?_setIfInBounds]
  by_cases e : j = i
  · subst e
    rw [if_pos rfl, if_pos hlt]
    simp
  · rw [if_neg (by omega), h3 i hi, List.getElem_set_ne e]
/-- Two neighbours change places. -/
def swp (l : List Nat) (j p : Nat) (hj : j < l.length) (hp : p < l.length) : List Nat := (l.set j l[p]).set p l[j]
theorem swp_perm (l : List Nat) (j p : Nat) (hj : j < l.length) (hp : p < l.length) : (swp l j p hj hp).Perm l := by
  unfold swp
  exact List.set_set_perm hj hp
end Go.Proofs.Ytpnabfekidpnoaa

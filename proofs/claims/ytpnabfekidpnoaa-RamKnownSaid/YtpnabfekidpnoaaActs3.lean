/-
  Acts of a memory, as a statement's argument holds them: each bears a slice.
-/
import Derived.Test.YtpnabfekidpnoaaOpen
import Derived.Test.YtpnabfekidpnoaaRamA
namespace Go.Proofs.Ytpnabfekidpnoaa
open Go Go.RowKit

structure AC where
  d : Int
  a : Nat
  n : Int
  v : Nat
  b : Option Addr
  bl : Nat
  bc : Nat
  deriving Inhabited
namespace AC
def cells (x : AC) : List Value := [.int .i64 x.d, .int .u64 (x.a : Int), .int .i64 x.n, .int .u64 (x.v : Int), .slice x.b x.bl x.bc]
def ok (x : AC) : Prop := x.a < 18446744073709551616 ∧ x.v < 18446744073709551616 ∧ -9223372036854775808 ≤ x.n ∧ x.n ≤ 9223372036854775807 ∧ x.bl ≤ x.bc ∧ x.bc ≤ maxLen
theorem cells_len (x : AC) : x.cells.length = 5 := rfl
end AC
def acells (l : List AC) : List Value := l.flatMap AC.cells
theorem len5 {cs : List Value} (h : cs.length = 5) : ∃ a b c d e, cs = [a, b, c, d, e] := by
  match cs, h with
  | [a, b, c, d, e], _ => exact ⟨a, b, c, d, e, rfl⟩
section
variable {H : Type} {enc : TypeId × Value → H} {w : World} {base : Nat} {sp : Nat → Bool} {held : Bool}
theorem act_of {fuel : Nat} {cs : List Value} {x : DataW H × List MemPlace} (h : DataW.trod enc Try.prog w base sp held fuel 33 cs = some x) : ∃ y : AC, cs = y.cells ∧ y.ok := by
  obtain ⟨xs, n, _, _, hl, hxl, hxs⟩ := DataW.trod_struct Try.underlying33 h
  rw [show (Try.prog).cellsOf 33 = 5 from by kernel_rfl] at hl
  obtain ⟨c0, c1, c2, c3, c4, rfl⟩ := len5 hl
  have hx5 : xs.length = 5 := hxl
  have g0 := hxs 0 _ rfl
  have g1 := hxs 1 _ rfl
  have g2 := hxs 2 _ rfl
  have g3 := hxs 3 _ rfl
  have g4 := hxs 4 _ rfl
  have k3 : (Try.prog).cellsOf 3 = 1 := by kernel_rfl
  have ku : (Try.prog).cellsOf 22 = 1 := by kernel_rfl
  have ks : (Try.prog).cellsOf 31 = 1 := by kernel_rfl
  rw [List.getElem?_eq_getElem (by omega)] at g0 g1 g2 g3 g4
  have g0 : DataW.trod enc Try.prog w base sp held n 3 [c0] = some _ := g0
  have g1 : DataW.trod enc Try.prog w base sp held n 22 [c1] = some _ := g1
  have g2 : DataW.trod enc Try.prog w base sp held n 3 [c2] = some _ := g2
  have g3 : DataW.trod enc Try.prog w base sp held n 22 [c3] = some _ := g3
  have g4 : DataW.trod enc Try.prog w base sp held n 31 [c4] = some _ := g4
  obtain ⟨n0, e0, _, r0⟩ := DataW.trod_int Try.underlying3 g0
  obtain ⟨n1, e1, _, r1⟩ := DataW.trod_int Try.underlying22 g1
  obtain ⟨n2, e2, _, r2⟩ := DataW.trod_int Try.underlying3 g2
  obtain ⟨n3, e3, _, r3⟩ := DataW.trod_int Try.underlying22 g3
  obtain ⟨x1, e1', q1⟩ := nat_u64 r1
  obtain ⟨x3, e3', q3⟩ := nat_u64 r3
  have r2' : (decide (IntKind.i64.min ≤ n2) && decide (n2 ≤ IntKind.i64.max)) = true := r2
  rw [Bool.and_eq_true, decide_eq_true_iff, decide_eq_true_iff, show IntKind.i64.min = -9223372036854775808 by decide, show IntKind.i64.max = 9223372036854775807 by decide] at r2'
  injection e0 with e0 _
  injection e1 with e1 _
  injection e2 with e2 _
  injection e3 with e3 _
  rcases Deep.open_slice Try.underlying31 g4 with ⟨e4, _⟩ | ⟨ad, len, cap, m, n', D, Pl, e4, _, hlc, hcm, _⟩
  · injection e4 with e4 _
    exact ⟨⟨n0, x1, n2, x3, none, 0, 0⟩, by rw [e0, e1, e2, e3, e4, e1', e3']; rfl, q1, q3, r2'.1, r2'.2, Nat.le_refl _, Nat.zero_le _⟩
  · injection e4 with e4 _
    exact ⟨⟨n0, x1, n2, x3, some ad, len, cap⟩, by rw [e0, e1, e2, e3, e4, e1', e3']; rfl, q1, q3, r2'.1, r2'.2, hlc, hcm⟩
/-- A row of acts that came in. -/
theorem open_acts {t : TypeId} (ht : (Try.prog).underlying t = some (.slice 33)) {v : Value} (hv : ∃ a l c, v = .slice a l c) {dd : DataW H} {ps : List MemPlace}
    (h : DataW.Trod enc Try.prog w 0 (fun _ => true) true t v dd ps) : ∃ l : List AC, Rd w v l.length (acells l) ∧ ∀ y ∈ l, y.ok := by
  obtain ⟨a0, l0, c0, rfl⟩ := hv
  obtain ⟨fuel, hf⟩ := h
  rcases Deep.open_slice ht hf with ⟨hcs, _⟩ | ⟨a, len, cap, m, n, D, Pl, hcs, _, hl, hm, hmm, _, hx⟩
  · simp [Value.cells] at hcs
    obtain ⟨rfl, rfl, rfl⟩ := hcs
    exact ⟨[], ⟨none, 0, rfl, Nat.le_refl _, by unfold maxLen; omega, fun _ => ⟨rfl, rfl, rfl⟩, fun ad h => by cases h⟩, fun r hr => by cases hr⟩
  · simp [Value.cells] at hcs
    obtain ⟨rfl, rfl, rfl⟩ := hcs
    simp at hmm
    subst hmm
    have hce : (Try.prog).cellsOf 33 = 5 := by kernel_rfl
    obtain ⟨R, hR⟩ := Deep.choose_lt (α := AC) (n := l0) (p := fun i y => w.cells? 0 (a.add (i * 5)) 5 = some y.cells ∧ y.ok) (fun i hi => by
      obtain ⟨cs, h1, h2⟩ := hx i (by omega)
      obtain ⟨y, rfl, hy⟩ := act_of h2
      rw [hce] at h1
      exact ⟨y, h1, hy⟩)
    refine ⟨(List.range l0).map R, ?_, ?_⟩
    · refine ⟨some a, m, by simp, by simpa using hl, hm, fun h => (by cases h), fun ad had j u hu => ?_⟩
      cases had
      unfold acells at hu
      rw [List.flatMap_def] at hu
      obtain ⟨hn, r, h1, h2⟩ := flatten_at 5 _ (fun r hr => by
        obtain ⟨y, _, rfl⟩ := List.mem_map.1 hr
        rfl) j u hu
      rw [List.map_map] at h1
      have hj : j / 5 < l0 := by
        have := (List.getElem?_eq_some_iff.1 h1).1
        simpa using this
      simp [hj] at h1
      subst h1
      obtain ⟨k1, k2⟩ := hR _ hj
      obtain ⟨_, k3, k4⟩ := World.cells?_some k1
      have := k4 (j % 5) (Nat.mod_lt _ hn)
      rw [Deep.add_add, h2] at this
      rw [← this]
      congr 2
      rw [Nat.mul_comm]
      exact (Nat.div_add_mod j _).symm
    · intro r hr
      obtain ⟨i, hi, rfl⟩ := List.mem_map.1 hr
      exact (hR i (by simpa using hi)).2
end
end Go.Proofs.Ytpnabfekidpnoaa

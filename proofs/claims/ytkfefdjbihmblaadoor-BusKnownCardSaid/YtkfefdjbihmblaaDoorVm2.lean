/-
  An evaluator for closed calls, part 2: how the evaluator's memory and the model's stand to each other, and the rules by which two runs go side by side.
-/
import Derived.Test.YtkfefdjbihmblaaDoorVm1
namespace Go.Proofs.YtkfefdjbihmblaaDoor
open Go Go.RowKit

namespace Vm

/-- Where a block of the evaluator's lies: the model's block, how many cells behind its head, how many cells the model's block has, and what an element takes. -/
structure RE where
  r : Nat
  d : Nat
  sz : Nat
  es : Nat
abbrev Ren := List RE
def Le (R R' : Ren) : Prop := ∀ (k : Nat) (x : RE), R[k]? = some x → R'[k]? = some x
theorem Le.refl (R : Ren) : Le R R := fun _ _ h => h
theorem Le.trans {R S U : Ren} (h : Le R S) (h' : Le S U) : Le R U := fun k x hx => h' k x (h k x hx)
theorem Le.push (R : Ren) (x : RE) : Le R (R ++ [x]) := fun k y h => by
  rw [List.getElem?_append_left (by exact (List.getElem?_eq_some_iff.1 h).1)]; exact h

/-- An address. -/
structure AR (R : Ren) (a a' : Addr) : Prop where
  ex : ∃ x, R[a.block]? = some x ∧ a.spot = none ∧ a' = ⟨x.r, a.off + x.d, none⟩
theorem AR.mono {R R' : Ren} {a a' : Addr} (h : AR R a a') (hl : Le R R') : AR R' a a' := by
  obtain ⟨x, h1, h2⟩ := h.ex
  exact ⟨x, hl _ _ h1, h2⟩
theorem AR.add {R : Ren} {a a' : Addr} (h : AR R a a') (n : Nat) : AR R (a.add n) (a'.add n) := by
  obtain ⟨x, h1, h2, rfl⟩ := h.ex
  unfold Addr.add
  by_cases hn : n = 0
  · rw [if_pos hn, if_pos hn]; exact ⟨x, h1, h2, rfl⟩
  · rw [if_neg hn, if_neg hn]
    refine ⟨x, h1, rfl, ?_⟩
    show Addr.mk x.r (a.off + x.d + n) none = ⟨x.r, a.off + n + x.d, none⟩
    rw [Nat.add_right_comm]

inductive VR (R : Ren) : Value → Value → Prop
  | bool (b : Bool) : VR R (.bool b) (.bool b)
  | int (k : IntKind) (n : Int) : VR R (.int k n) (.int k n)
  | float (k : FloatKind) (n : Nat) : VR R (.float k n) (.float k n)
  | complex (k : FloatKind) (n m : Nat) : VR R (.complex k n m) (.complex k n m)
  | string (s : ByteArray) : VR R (.string s) (.string s)
  | ptrN : VR R (.pointer none) (.pointer none)
  | ptr {a a' : Addr} (h : AR R a a') : VR R (.pointer (some a)) (.pointer (some a'))
  | sliceN (l c : Nat) : VR R (.slice none l c) (.slice none l c)
  | slice {a a' : Addr} {l c : Nat} (h : AR R a a') (hc : c ≠ OPEN) : VR R (.slice (some a) l c) (.slice (some a') l c)
  | sliceO {a a' : Addr} {l c' : Nat} {x : RE} (h : R[a.block]? = some x) (hs : a.spot = none) (h1 : a'.block = x.r) (h2 : a'.spot = none) (h3 : l = 0 ∨ a'.off = a.off + x.d) (h4 : l ≤ c') (h5 : a'.off + c' * x.es ≤ x.sz) : VR R (.slice (some a) l OPEN) (.slice (some a') l c')
  | mapN : VR R (.map none) (.map none)
  | map {r : Nat} {x : RE} (h : R[r]? = some x) : VR R (.map (some r)) (.map (some x.r))
  | func (fn : Fn) {a a' b b' : Array Value} (ha : a.size = a'.size) (h : ∀ (i : Nat) v v', a[i]? = some v → a'[i]? = some v' → VR R v v') (hb : b.size = b'.size) (h' : ∀ (i : Nat) v v', b[i]? = some v → b'[i]? = some v' → VR R v v') : VR R (.func fn a b) (.func fn a' b')
  | nilFunc : VR R .nilFunc .nilFunc
  | iface (t : TypeId) {v v' : Value} (h : VR R v v') : VR R (.iface t v) (.iface t v')
  | nilIface : VR R .nilIface .nilIface
  | agg {a a' : Array Value} (ha : a.size = a'.size) (h : ∀ (i : Nat) v v', a[i]? = some v → a'[i]? = some v' → VR R v v') : VR R (.agg a) (.agg a')
  | tuple {a a' : Array Value} (ha : a.size = a'.size) (h : ∀ (i : Nat) v v', a[i]? = some v → a'[i]? = some v' → VR R v v') : VR R (.tuple a) (.tuple a')

/-- Two rows of values. -/
structure AsR (R : Ren) (a a' : Array Value) : Prop where
  size : a.size = a'.size
  at_ : ∀ (i : Nat) v v', a[i]? = some v → a'[i]? = some v' → VR R v v'

theorem VR.mono {R R' : Ren} (hl : Le R R') {v v' : Value} (h : VR R v v') : VR R' v v' := by
  induction h with
  | bool b => exact .bool b
  | int k n => exact .int k n
  | float k n => exact .float k n
  | complex k n m => exact .complex k n m
  | string s => exact .string s
  | ptrN => exact .ptrN
  | ptr h => exact .ptr (h.mono hl)
  | sliceN l c => exact .sliceN l c
  | slice h hc => exact .slice (h.mono hl) hc
  | sliceO h hs h1 h2 h3 h4 h5 => exact .sliceO (hl _ _ h) hs h1 h2 h3 h4 h5
  | mapN => exact .mapN
  | map h => exact .map (hl _ _ h)
  | func fn ha _ hb _ ih ih' => exact .func fn ha ih hb ih'
  | nilFunc => exact .nilFunc
  | iface t _ ih => exact .iface t ih
  | nilIface => exact .nilIface
  | agg ha _ ih => exact .agg ha ih
  | tuple ha _ ih => exact .tuple ha ih
theorem AsR.mono {R R' : Ren} (hl : Le R R') {a a' : Array Value} (h : AsR R a a') : AsR R' a a' := ⟨h.size, fun i v v' h1 h2 => (h.at_ i v v' h1 h2).mono hl⟩
theorem AsR.get {R : Ren} {a a' : Array Value} (h : AsR R a a') {i : Nat} {v : Value} (hv : a[i]? = some v) : ∃ v', a'[i]? = some v' ∧ VR R v v' := by
  have hi : i < a'.size := by rw [← h.size]; exact (Array.getElem?_eq_some_iff.1 hv).1
  exact ⟨a'[i], Array.getElem?_eq_getElem hi, h.at_ i v _ hv (Array.getElem?_eq_getElem hi)⟩
theorem AsR.get' {R : Ren} {a a' : Array Value} (h : AsR R a a') {i : Nat} (hv : a[i]? = none) : a'[i]? = none := by
  rw [Array.getElem?_eq_none_iff] at hv ⊢
  rw [← h.size]; exact hv
theorem AsR.opt {R : Ren} {a a' : Array Value} (h : AsR R a a') (i : Nat) : (a[i]? = none ∧ a'[i]? = none) ∨ ∃ v v', a[i]? = some v ∧ a'[i]? = some v' ∧ VR R v v' := by
  cases e : a[i]? with
  | none => exact .inl ⟨rfl, h.get' e⟩
  | some v => obtain ⟨v', h1, h2⟩ := h.get e; exact .inr ⟨v, v', rfl, h1, h2⟩
theorem VR.agg_ {R : Ren} {a a' : Array Value} (h : AsR R a a') : VR R (.agg a) (.agg a') := .agg h.size h.at_
theorem VR.tuple_ {R : Ren} {a a' : Array Value} (h : AsR R a a') : VR R (.tuple a) (.tuple a') := .tuple h.size h.at_
theorem AsR.of_list {R : Ren} {a a' : Array Value} (h : ∀ i : Nat, (a[i]? = none ∧ a'[i]? = none) ∨ ∃ v v', a[i]? = some v ∧ a'[i]? = some v' ∧ VR R v v') : AsR R a a' := by
  have hs : a.size = a'.size := by
    apply Nat.le_antisymm
    · apply Nat.le_of_not_lt
      intro hlt
      rcases h a'.size with ⟨h1, _⟩ | ⟨v, v', h1, h2, _⟩
      · rw [Array.getElem?_eq_none_iff] at h1; omega
      · have := (Array.getElem?_eq_some_iff.1 h2).1; omega
    · apply Nat.le_of_not_lt
      intro hlt
      rcases h a.size with ⟨_, h1⟩ | ⟨v, v', h1, h2, _⟩
      · rw [Array.getElem?_eq_none_iff] at h1; omega
      · have := (Array.getElem?_eq_some_iff.1 h1).1; omega
  refine ⟨hs, fun i v v' h1 h2 => ?_⟩
  rcases h i with ⟨h3, _⟩ | ⟨u, u', h3, h4, h5⟩
  · rw [h1] at h3; cases h3
  · rw [h1] at h3; rw [h2] at h4; cases h3; cases h4; exact h5
theorem AsR.nil (R : Ren) : AsR R #[] #[] := ⟨rfl, fun i v v' h => by simp at h⟩
theorem AsR.one {R : Ren} {v v' : Value} (h : VR R v v') : AsR R #[v] #[v'] := ⟨rfl, fun i u u' h1 h2 => by
  cases i with
  | zero => simp at h1 h2; rw [← h1, ← h2]; exact h
  | succ i => simp at h1⟩
theorem AsR.push {R : Ren} {a a' : Array Value} (h : AsR R a a') {v v' : Value} (hv : VR R v v') : AsR R (a.push v) (a'.push v') := by
  refine AsR.of_list fun i => ?_
  rw [Array.getElem?_push, Array.getElem?_push, h.size]
  split
  · exact .inr ⟨v, v', rfl, rfl, hv⟩
  · exact h.opt i
theorem AsR.append {R : Ren} {a a' b b' : Array Value} (h : AsR R a a') (h' : AsR R b b') : AsR R (a ++ b) (a' ++ b') := by
  refine AsR.of_list fun i => ?_
  rw [Array.getElem?_append, Array.getElem?_append, h.size]
  split
  · exact h.opt i
  · exact h'.opt _
theorem AsR.set {R : Ren} {a a' : Array Value} (h : AsR R a a') (i : Nat) {v v' : Value} (hv : VR R v v') : AsR R (a.setIfInBounds i v) (a'.setIfInBounds i v') := by
  refine AsR.of_list fun j => ?_
  rw [Array.getElem?_setIfInBounds, Array.getElem?_setIfInBounds, h.size]
  split
  · split
    · exact .inr ⟨v, v', rfl, rfl, hv⟩
    · exact .inl ⟨rfl, rfl⟩
  · exact h.opt j
theorem AsR.extract {R : Ren} {a a' : Array Value} (h : AsR R a a') (i j : Nat) : AsR R (a.extract i j) (a'.extract i j) := by
  refine AsR.of_list fun k => ?_
  rw [Array.getElem?_extract, Array.getElem?_extract, h.size]
  split
  · exact h.opt _
  · exact .inl ⟨rfl, rfl⟩
theorem AsR.cells {R : Ren} {v v' : Value} (h : VR R v v') : AsR R v.cells v'.cells := by
  cases h <;> first | exact ⟨‹_›, ‹_›⟩ | (refine AsR.one ?_; constructor <;> assumption) | skip
theorem AsR.getD {R : Ren} {a a' : Array Value} (h : AsR R a a') (i : Nat) {d d' : Value} (hd : VR R d d') : VR R (a.getD i d) (a'.getD i d') := by
  rw [Array.getD_eq_getD_getElem?, Array.getD_eq_getD_getElem?]
  rcases h.opt i with ⟨h1, h2⟩ | ⟨v, v', h1, h2, h3⟩
  · rw [h1, h2]; exact hd
  · rw [h1, h2]; exact h3

end Vm
end Go.Proofs.YtkfefdjbihmblaaDoor

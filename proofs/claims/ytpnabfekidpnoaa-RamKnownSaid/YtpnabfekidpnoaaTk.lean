/-
  A region that draws its order: its operation number i is taken first, whether it is wanted or not; no panic comes up.
-/
import Derived.Test.YtpnabfekidpnoaaBase
import Derived.OrdersHeld
import Derived.Deep.RegionHeld
import Derived.Deep.Cut
import Derived.Deep.CutRange
namespace Go.Proofs.Ytpnabfekidpnoaa
open Go Go.RowKit

/-- Operation number i of a region that is written out. -/
def opG : List Oper → Nat → Option Oper
  | [], _ => none
  | o :: _, 0 => some o
  | _ :: l, n + 1 => opG l n
theorem opG_at : ∀ (l : List Oper) (i : Nat), l.toArray[i]? = opG l i
  | [], _ => by simp [opG]
  | o :: l, 0 => by simp [opG]
  | o :: l, n + 1 => by
    have := opG_at l n
    simp only [List.getElem?_toArray] at this ⊢
    rw [List.getElem?_cons_succ, this]
    rfl
section
variable {P : Program} {l : List Oper} {Q : Exit → Act → World → Prop} {md : Region.Mode} {S T : World → Prop}
theorem tkG {i : Nat} {o : Oper} {v : Value} {fuel : Nat} {listed : Array Bool} {a : Act} {w : World} (ho : opG l i = some o)
    (hs : Region.noSelect l.toArray = true) (hf : Region.free md l.toArray listed i = true) (hr : (Region.ready md l.toArray listed).contains i = true)
    (hQ : ∀ c a w, Q (.panic c) (a.put o.dst v) w → Q (.panic c) a w) (hw : Region.wanted o (yielded l.toArray a.tmps) = true) (hy : ∀ w, S w → (execOp a.eval o).run P w = .ok (.value v) w) (hS : S w)
    (h : wpAnyH P md l.toArray Q S fuel (listed.setIfInBounds i true) (a.put o.dst v) w) : wpAnyH P md l.toArray Q S (fuel + 1) listed a w :=
  wpAnyH_take (i := i) (oi := o) ((opG_at l i).trans ho) hs hf hr hQ (.inl ⟨hw, hy⟩) hS h
theorem tkU {i : Nat} {o : Oper} {fuel : Nat} {listed : Array Bool} {a : Act} {w : World} (ho : opG l i = some o)
    (hs : Region.noSelect l.toArray = true) (hf : Region.free md l.toArray listed i = true) (hr : (Region.ready md l.toArray listed).contains i = true)
    (hQ : ∀ c a w, Q (.panic c) (a.put o.dst undef) w → Q (.panic c) a w) (hw : Region.wanted o (yielded l.toArray a.tmps) = false) (hS : S w)
    (h : wpAnyH P md l.toArray Q S fuel (listed.setIfInBounds i true) (a.put o.dst undef) w) : wpAnyH P md l.toArray Q S (fuel + 1) listed a w :=
  wpAnyH_take (i := i) (oi := o) ((opG_at l i).trans ho) hs hf hr hQ (.inr ⟨hw, rfl⟩) hS h
end
/-- No panic comes up. -/
def calmQ (Q : Exit → Act → World → Prop) : Exit → Act → World → Prop
  | .panic _, _, _ => False
  | e, a, w => Q e a w
theorem calm_le {Q : Exit → Act → World → Prop} : ∀ {e : Exit} {a : Act} {w : World}, calmQ Q e a w → Q e a w := by
  intro e a w h
  cases e <;> first | exact h | exact h.elim
end Go.Proofs.Ytpnabfekidpnoaa

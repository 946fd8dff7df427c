/-
  An evaluator for closed calls, part 1: a memory of numbered blocks, what a term of the model's free monad makes of it, how such a memory and the model's own stand to each other, and the rules by which the two runs go side by side.
-/
import Derived.Test.YtkfefdjbihmblaaDoorBase
namespace Go.Proofs.YtkfefdjbihmblaaDoor
open Go Go.RowKit

namespace Vm

/-! ### A store of numbered things. -/
inductive T (α : Type) where
  | leaf
  | node (l : T α) (v : Option α) (r : T α)

def T.get {α : Type} : T α → Nat → Option α
  | .leaf, _ => none
  | .node l v r, n => match n with
    | 0 => v
    | k + 1 => if k % 2 = 0 then l.get (k / 2) else r.get (k / 2)
def T.set {α : Type} (x : α) : Nat → T α → Nat → T α
  | 0, t, _ => t
  | f + 1, t, n => match t, n with
    | .leaf, 0 => .node .leaf (some x) .leaf
    | .node l _ r, 0 => .node l (some x) r
    | .leaf, k + 1 => if k % 2 = 0 then .node (T.set x f .leaf (k / 2)) none .leaf else .node .leaf none (T.set x f .leaf (k / 2))
    | .node l v r, k + 1 => if k % 2 = 0 then .node (T.set x f l (k / 2)) v r else .node l v (T.set x f r (k / 2))
theorem T.get_leaf {α : Type} (n : Nat) : (T.leaf : T α).get n = none := by cases n <;> rfl
theorem T.get_set {α : Type} (x : α) : ∀ (f : Nat) (t : T α) (n m : Nat), n < 2 ^ f - 1 → (T.set x f t n).get m = if m = n then some x else t.get m
  | 0, t, n, m, h => by simp at h
  | f + 1, t, n, m, h => by
    have h2 : 2 ^ (f + 1) = 2 * 2 ^ f := by rw [Nat.pow_succ]; omega
    have key : ∀ (t : T α) (k : Nat), k < 2 * 2 ^ f - 2 → ∀ j, (T.set x f t (k / 2)).get j = if j = k / 2 then some x else t.get j := fun t k hk j => T.get_set x f t (k / 2) j (by omega)
    cases t with
    | leaf =>
      cases n with
      | zero => cases m with
        | zero => simp [T.set, T.get]
        | succ m => simp [T.set, T.get, T.get_leaf]
      | succ k =>
        have hk : k < 2 * 2 ^ f - 2 := by omega
        simp only [T.set]
        cases m with
        | zero => split <;> simp [T.get]
        | succ j =>
          rw [T.get_leaf]
          split <;> simp only [T.get] <;> split <;> (try rw [key _ _ hk]) <;> (try rw [T.get_leaf]) <;> (try rw [T.get_leaf]) <;> (repeat' split) <;> first | rfl | omega
    | node l v r =>
      cases n with
      | zero => cases m with
        | zero => simp [T.set, T.get]
        | succ m => simp [T.set, T.get]
      | succ k =>
        have hk : k < 2 * 2 ^ f - 2 := by omega
        simp only [T.set]
        cases m with
        | zero => split <;> simp [T.get]
        | succ j =>
          split <;> simp only [T.get] <;> split <;> (try rw [key _ _ hk]) <;> (repeat' split) <;> first | rfl | omega

/-! ### The evaluator's memory. -/
/-- What stands for 'as much as there may be' in the place of a slice's capacity. -/
def OPEN : Nat := 2 ^ 80
/-- A block: its content; of a row that append has made: how many cells an element takes (else 0); may it still be read; may it be read alone (a package's variable)? -/
structure VB where
  obj : Obj
  es : Nat
  live : Bool
  rd : Bool := false
  ov : T Value := .leaf
/-- One of its cells: what was written there last, or what it held at first. -/
def VB.at_ (b : VB) (c : Array Value) (i : Nat) : Option Value :=
  match b.ov.get i with
  | some v => some v
  | none => c[i]?
structure VW where
  n : Nat
  t : T VB
/-- The numbers below this one are those of the package's variables. -/
def B0 : Nat := 4096
def VW.empty : VW := ⟨B0, .leaf⟩
def VW.bound : Nat := 2 ^ 40
def VW.put (V : VW) (k : Nat) (b : VB) : VW := ⟨V.n, T.set b 41 V.t k⟩
def VW.add (V : VW) (b : VB) : VW := ⟨V.n + 1, T.set b 41 V.t V.n⟩
/-- A block's cells. -/
def VW.row (V : VW) (k : Nat) : Option (Array Value × TypeId × VB) :=
  match V.t.get k with
  | some b => match b.obj, b.live with
    | .cells c e _, true => some (c, e, b)
    | _, _ => .none
  | _ => .none
def VW.obj (V : VW) (k : Nat) : Option VB :=
  match V.t.get k with
  | some b => match b.obj, b.live with
    | .map .., true => if b.rd then .none else some b
    | _, _ => .none
  | _ => .none
def VW.cell (V : VW) (a : Addr) : Option Value :=
  match a.spot with
  | some _ => .none
  | .none => match V.row a.block with
    | some (c, _, b) => b.at_ c a.off
    | .none => .none
def VW.setCell (V : VW) (a : Addr) (v : Value) : Option VW :=
  match a.spot with
  | some _ => .none
  | .none => match V.row a.block with
    | some (c, _, b) => match b.at_ c a.off with
      | some _ => if a.off < VW.bound ∧ b.rd = false then some (V.put a.block { b with ov := T.set v 41 b.ov a.off }) else .none
      | .none => .none
    | .none => .none
def newOk : Obj → Bool
  | .cells .. | .map .. => true
  | _ => false
/-- What a term makes of a memory; with `ro` it writes nothing. -/
def vrun {α : Type} (P : Program) (ro : Bool) : Sem α → VW → Option (α × VW)
  | .pure a, V => some (a, V)
  | .load _ a k, V => match V.cell a with
    | some v => vrun P ro (k v) V
    | none => none
  | .store _ a v k, V => if ro then none else match v with
    | .agg _ | .tuple _ => none
    | v => match V.setCell a v with
      | some V => vrun P ro k V
      | none => none
  | .new o k, V => if ro then none else if newOk o && decide (V.n < VW.bound) then vrun P ro (k V.n) (V.add ⟨o, 0, true, false, .leaf⟩) else none
  | .getObj r k, V => match V.obj r with
    | some b => vrun P ro (k b.obj) V
    | none => none
  | .setObj r o k, V => if ro then none else match V.obj r, o with
    | some b, .map es c => vrun P ro k (V.put r { b with obj := .map es c })
    | _, _ => none
  | .choose q k, V => if q.forced then vrun P ro (k 0) V else none
  | .program k, V => vrun P ro (k P) V
  | .mark _ k, V => vrun P ro k V
  | _, _ => none

theorem vrun_bind {α β : Type} (P : Program) (ro : Bool) (m : Sem α) (k : α → Sem β) : ∀ V, vrun P ro (m.bind k) V = (vrun P ro m V).bind fun x => vrun P ro (k x.1) x.2 := by
  induction m with
  | pure a => intro V; rfl
  | load md a kk ih =>
    intro V
    simp only [Sem.bind, vrun]
    split
    · exact ih _ V
    · rfl
  | store md a v kk ih =>
    intro V
    cases v <;> simp only [Sem.bind, vrun] <;> (repeat' split) <;> first | rfl | exact ih _ | (simp_all; done)
  | new o kk ih =>
    intro V
    simp only [Sem.bind, vrun]
    (repeat' split) <;> first | rfl | exact ih _ _
  | shape r kk ih => intro V; rfl
  | freeze a n kk ih => intro V; rfl
  | frozen a kk ih => intro V; rfl
  | getObj r kk ih =>
    intro V
    simp only [Sem.bind, vrun]
    split
    · exact ih _ V
    · rfl
  | setObj r o kk ih =>
    intro V
    simp only [Sem.bind, vrun]
    (repeat' split) <;> first | rfl | exact ih _
  | choose q kk ih =>
    intro V
    simp only [Sem.bind, vrun]
    split
    · exact ih _ V
    · rfl
  | sys c kk ih => intro V; rfl
  | program kk ih => intro V; exact ih _ V
  | mark mk kk ih => intro V; exact ih V
  | halt h => intro V; rfl
theorem run_bind {α β : Type} (P : Program) (m : Sem α) (k : α → Sem β) {w w1 : World} {a : α} (h : m.run P w = .ok a w1) : (m.bind k).run P w = (k a).run P w1 := by
  have e := Sem.run_bind' P m k w
  rw [h] at e
  exact e

end Vm
end Go.Proofs.YtkfefdjbihmblaaDoor

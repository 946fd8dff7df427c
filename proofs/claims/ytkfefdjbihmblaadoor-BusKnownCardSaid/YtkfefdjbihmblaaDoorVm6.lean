/-
  An evaluator for closed calls, part 6: slices, strings, maps.
-/
import Derived.Test.YtkfefdjbihmblaaDoorVm5
namespace Go.Proofs.YtkfefdjbihmblaaDoor
open Go Go.RowKit

namespace Vm

section
variable {P : Program} {w0 : World} {R : Ren} {V : VW} {w' : World}

theorem boundsPanic_halts {α : Type} (k : IntKind) (x y : Int) (c : BoundsCode) (ro : Bool) (V : VW) : vrun P ro (boundsPanic k x y c : Sem α) V = none := by
  unfold boundsPanic
  dsimp only
  split <;> rfl
theorem sim_boundsPanic {α β : Type} {k : IntKind} {x y : Int} {c : BoundsCode} {m' : Sem β} {Rel : Ren → α → β → Prop} : Sim P w0 R V w' (boundsPanic k x y c : Sem α) m' Rel := by
  intro hW ro a V1 h
  rw [boundsPanic_halts] at h
  cases h
theorem sim_indexAt {v v' x x' : Value} (h : VR R v v') (hx : VR R x x') (t : TypeId) : Sim P w0 R V w' (Instr.indexAt t v x) (Instr.indexAt t v' x') VR := by
  unfold Instr.indexAt
  refine (sim_asIntOf hx).bind fun R1 V1 w1 ki ki' hl e => ?_
  subst e
  obtain ⟨k, i⟩ := ki
  have h := h.mono hl
  refine (Sim.stat (stat_underlying t)).bind fun R2 V2 w2 d d' hl2 e => ?_
  subst e
  have h := h.mono hl2
  -- the base
  have tail : ∀ (R3 : Ren) (V3 : VW) (w3 : World) (a a' : Addr) (len : Nat) (el : TypeId) (tiny : Bool), AR R3 a a' →
      Sim P w0 R3 V3 w3 (if 0 ≤ i ∧ i < len then (do Pure.pure (.pointer (some (a.add (i.toNat * (← sizeOf el)))))) else if tiny then unsupported (.noEntry "op/indexAddr.an index out of range at an array of length 0 or 1 (ledger 616)") else boundsPanic k i len .index : Sem Value)
        (if 0 ≤ i ∧ i < len then (do Pure.pure (.pointer (some (a'.add (i.toNat * (← sizeOf el)))))) else if tiny then unsupported (.noEntry "op/indexAddr.an index out of range at an array of length 0 or 1 (ledger 616)") else boundsPanic k i len .index : Sem Value) VR := by
    intro R3 V3 w3 a a' len el tiny ha
    split
    · refine (Sim.stat (stat_sizeOf el)).bind fun R4 V4 w4 n n' hl4 e => ?_
      subst e
      exact Sim.pure (.ptr ((ha.mono hl4).add _))
    · split
      · exact Sim.halt
      · exact sim_boundsPanic
  cases d with
  | array len el =>
    refine (sim_sureAddr h).bind fun R3 V3 w3 a a' hl3 ha => ?_
    refine (Sim.stat (stat_underlying t)).bind fun R4 V4 w4 d d' hl4 e => ?_
    subst e
    exact tail _ _ _ _ _ _ _ _ (ha.mono hl4)
  | slice el =>
    cases h with
    | sliceN l c =>
      refine (Sim.stat (stat_underlying t)).bind fun R4 V4 w4 d d' hl4 e => ?_
      exact sim_boundsPanic
    | slice ha hc =>
      refine (Sim.stat (stat_underlying t)).bind fun R4 V4 w4 d d' hl4 e => ?_
      subst e
      exact tail _ _ _ _ _ _ _ _ (ha.mono hl4)
    | @sliceO a a' l c' y hx hs h1 h2 h3 h4 h5 =>
      refine (Sim.stat (stat_underlying t)).bind fun R4 V4 w4 d d' hl4 e => ?_
      subst e
      rcases h3 with h3 | h3
      · subst h3
        simp only []
        split
        · omega
        · split
          · exact Sim.halt
          · exact sim_boundsPanic
      · refine tail _ _ _ _ _ _ _ _ ((AR.mk ⟨y, hx, hs, ?_⟩).mono hl4)
        obtain ⟨b, o, s⟩ := a'
        simp only at h1 h2 h3
        subst h1; subst h2; subst h3
        rfl
    | _ => exact Sim.haltB
  | _ => cases h <;> exact Sim.haltB

theorem sim_index {v v' x x' : Value} (h : VR R v v') (hx : VR R x x') (t : TypeId) : Sim P w0 R V w' (Instr.index t v x) (Instr.index t v' x') VR := by
  unfold Instr.index
  refine (sim_asIntOf hx).bind fun R1 V1 w1 ki ki' hl e => ?_
  subst e
  obtain ⟨k, i⟩ := ki
  have h := h.mono hl
  refine (Sim.stat (stat_underlying t)).bind fun R2 V2 w2 d d' hl2 e => ?_
  subst e
  have h := h.mono hl2
  cases d with
  | array len el =>
    cases h with
    | agg ha hh =>
      have hs : AsR R2 _ _ := ⟨ha, hh⟩
      simp only []
      split
      · refine (Sim.stat (stat_sizeOf el)).bind fun R4 V4 w4 n n' hl4 e => ?_
        subst e
        exact sim_part _ (hs.mono hl4) _
      · exact sim_boundsPanic
    | _ => exact Sim.halt
  | string =>
    cases h with
    | string s =>
      simp only []
      split
      · exact Sim.pure (.int _ _)
      · exact sim_boundsPanic
    | _ => exact Sim.halt
  | _ => cases h <;> exact Sim.halt

theorem sim_sliceBound {x x' : Value} (hx : VR R x x') (y : Nat) (c : BoundsCode) : Sim P w0 R V w' (Instr.sliceBound x y c) (Instr.sliceBound x' y c) (fun _ a b => a = b ∧ a ≤ y) := by
  unfold Instr.sliceBound
  refine (sim_asIntOf hx).bind fun R1 V1 w1 ki ki' hl e => ?_
  subst e
  obtain ⟨k, i⟩ := ki
  simp only []
  split
  · rename_i hb
    exact Sim.pure ⟨rfl, by omega⟩
  · exact sim_boundsPanic
/-- Two values that may be missing. -/
def OR (R : Ren) : Option Value → Option Value → Prop
  | none, none => True
  | some a, some b => VR R a b
  | _, _ => False
theorem OR.mono {R R' : Ren} (hl : Le R R') {x x' : Option Value} (h : OR R x x') : OR R' x x' := by
  cases x <;> cases x' <;> first | exact h.elim | exact trivial | exact VR.mono hl h
/-- The lower end of a reslicing. -/
def low (lo : Option Value) (c : BoundsCode) (h m : Nat) : Sem (Nat × Nat × Nat) :=
  match lo with
  | some v => do let l ← Instr.sliceBound v h c; Pure.pure (l, h, m)
  | none => do let l ← Pure.pure 0; Pure.pure (l, h, m)
theorem sim_low {lo lo' : Option Value} (hlo : OR R lo lo') (c : BoundsCode) (h m : Nat) : Sim P w0 R V w' (low lo c h m) (low lo' c h m) (fun _ a b => a = b) := by
  cases lo <;> cases lo' <;> first | exact hlo.elim | skip
  · exact Sim.pure rfl
  · refine (sim_sliceBound hlo _ _).bind fun R1 V1 w1 a b hl e => ?_
    obtain ⟨rfl, _⟩ := e
    exact Sim.pure rfl
theorem sim_sliceBounds {lo lo' hi hi' mx mx' : Option Value} (hlo : OR R lo lo') (hhi : OR R hi hi') (hmx : OR R mx mx') (s : Bool) (len cap : Nat) :
    Sim P w0 R V w' (Instr.sliceBounds s len cap lo hi mx) (Instr.sliceBounds s len cap lo' hi' mx') (fun _ a b => a = b) := by
  unfold Instr.sliceBounds
  cases mx <;> cases mx' <;> first | exact hmx.elim | skip
  · cases hi <;> cases hi' <;> first | exact hhi.elim | skip
    · exact sim_low hlo _ _ _
    · refine (sim_sliceBound hhi _ _).bind fun R1 V1 w1 a b hl e => ?_
      obtain ⟨rfl, _⟩ := e
      exact sim_low (hlo.mono hl) _ _ _
  · refine (sim_sliceBound hmx _ _).bind fun R1 V1 w1 m b hl e => ?_
    obtain ⟨rfl, _⟩ := e
    have hhi := hhi.mono hl
    have hlo := hlo.mono hl
    cases hi <;> cases hi' <;> first | exact hhi.elim | skip
    · exact Sim.haltB
    · refine (sim_sliceBound hhi _ _).bind fun R1 V1 w1 a b hl e => ?_
      obtain ⟨rfl, _⟩ := e
      exact sim_low (hlo.mono hl) _ _ _

/-- Is it a slice with as much room as there may be? -/
def opn : Value → Bool
  | .slice (some _) _ c => c == OPEN
  | _ => false
def capOk : Value → Bool
  | .slice (some _) _ c => c != OPEN
  | _ => true

theorem sim_sliceAt {v v' : Value} (h : VR R v v') (ho : opn v = false) {lo lo' hi hi' mx mx' : Option Value} (hlo : OR R lo lo') (hhi : OR R hi hi') (hmx : OR R mx mx') (t : TypeId) :
    Sim P w0 R V w' (Instr.sliceAt t v lo hi mx) (Instr.sliceAt t v' lo' hi' mx') (fun R1 a b => capOk a = true → VR R1 a b) := by
  unfold Instr.sliceAt
  refine (Sim.stat (stat_underlying t)).bind fun R1 V1 w1 d d' hl e => ?_
  subst e
  have h := h.mono hl
  have hlo := hlo.mono hl
  have hhi := hhi.mono hl
  have hmx := hmx.mono hl
  have key : ∀ (R2 : Ren) (V2 : VW) (w2 : World) (a a' : Addr) (s : Bool) (len cap : Nat) (el : TypeId), Le R1 R2 → AR R2 a a' →
      Sim P w0 R2 V2 w2 (do let (l, h, m) ← Instr.sliceBounds s len cap lo hi mx; let size ← sizeOf el; Pure.pure (.slice (some (if m = l then a else a.add (l * size))) (h - l) (m - l)) : Sem Value)
        (do let (l, h, m) ← Instr.sliceBounds s len cap lo' hi' mx'; let size ← sizeOf el; Pure.pure (.slice (some (if m = l then a' else a'.add (l * size))) (h - l) (m - l)) : Sem Value) (fun R1 a b => capOk a = true → VR R1 a b) := by
    intro R2 V2 w2 a a' s len cap el hl2 ha
    refine (sim_sliceBounds (hlo.mono hl2) (hhi.mono hl2) (hmx.mono hl2) s len cap).bind fun R3 V3 w3 b b' hl3 e => ?_
    subst e
    obtain ⟨l, h, m⟩ := b
    refine (Sim.stat (stat_sizeOf el)).bind fun R4 V4 w4 n n' hl4 e => ?_
    subst e
    refine Sim.pure fun hc => ?_
    have ha := (ha.mono hl3).mono hl4
    refine .slice ?_ (by simpa [capOk] using hc)
    split
    · exact ha
    · exact ha.add _
  have general : ∀ (d : TypeDesc), (∀ n e, d ≠ .array n e) → Sim P w0 R1 V1 w1 (Instr.slice t v lo hi mx) (Instr.slice t v' lo' hi' mx') (fun R1 a b => capOk a = true → VR R1 a b) := by
    intro _ _
    unfold Instr.slice
    refine (Sim.stat (stat_underlying t)).bind fun R2 V2 w2 d d' hl2 e => ?_
    subst e
    have h := h.mono hl2
    cases d with
    | string =>
      cases h with
      | string s =>
        simp only []
        have hb : ∀ (R3 : Ren) (V3 : VW) (w3 : World), Le R1 R3 → Sim P w0 R3 V3 w3 (do let (l, h, _) ← Instr.sliceBounds false s.size s.size lo hi none; Pure.pure (.string (s.extract l h)) : Sem Value) (do let (l, h, _) ← Instr.sliceBounds false s.size s.size lo' hi' none; Pure.pure (.string (s.extract l h)) : Sem Value) (fun R1 a b => capOk a = true → VR R1 a b) := by
          intro R3 V3 w3 hl3
          refine (sim_sliceBounds (mx := none) (mx' := none) (hlo.mono hl3) (hhi.mono hl3) trivial false s.size s.size).bind fun R4 V4 w4 b b' hl4 e => ?_
          subst e
          exact Sim.pure fun _ => .string _
        cases mx <;> cases mx' <;> first
          | exact hmx.elim
          | exact hb _ _ _ hl2
          | exact Sim.haltB
      | _ => exact Sim.halt
    | slice el =>
      cases h with
      | sliceN l c =>
        simp only []
        refine (sim_sliceBounds (hlo.mono hl2) (hhi.mono hl2) (hmx.mono hl2) true l c).bind fun R3 V3 w3 b b' hl3 e => ?_
        subst e
        obtain ⟨l, h, m⟩ := b
        refine (Sim.stat (stat_sizeOf el)).bind fun R4 V4 w4 n n' hl4 e => ?_
        subst e
        refine Sim.pure fun _ => ?_
        have : (if m = l then (none : Option Addr) else Option.map (fun x : Addr => x.add (l * n)) none) = none := by split <;> rfl
        simp only [this]
        exact .sliceN _ _
      | @slice a a' l c ha hc =>
        simp only []
        have e : ∀ (x : Addr) (m l n : Nat), (if m = l then some x else Option.map (fun y : Addr => y.add (l * n)) (some x)) = some (if m = l then x else x.add (l * n)) := fun x m l n => by split <;> rfl
        simp only [e]
        exact key _ _ _ _ _ true l c el hl2 ha
      | sliceO hx hs h1 h2 h3 h4 h5 => simp [opn] at ho
      | _ => exact Sim.halt
    | pointer arr =>
      simp only []
      have hp : Sim P w0 R2 V2 w2 (asAddr v) (asAddr v') AR := by
        cases h with
        | ptr ha => exact Sim.pure ha
        | ptrN =>
          intro hW ro x V3 hx
          have e : vrun P ro (runtimePanic .nilDeref : Sem Addr) V2 = none := rfl
          rw [show asAddr (.pointer none) = runtimePanic .nilDeref from rfl, e] at hx
          cases hx
        | _ => exact Sim.halt
      cases h <;> (
        refine hp.bind fun R3 V3 w3 a a' hl3 ha => ?_
        refine (Sim.stat (stat_underlying arr)).bind fun R4 V4 w4 d d' hl4 e => ?_
        subst e
        split
        · exact key _ _ _ _ _ false _ _ _ ((hl2.trans hl3).trans hl4) (ha.mono hl4)
        · exact Sim.halt)
    | _ => cases h <;> exact Sim.halt
  cases d with
  | array n el =>
    simp only []
    refine (sim_sureAddr h).bind fun R2 V2 w2 a a' hl2 ha => ?_
    exact key _ _ _ _ _ false n n el hl2 ha
  | _ => exact general .bool (fun n e h => by cases h)
end
end Vm
end Go.Proofs.YtkfefdjbihmblaaDoor

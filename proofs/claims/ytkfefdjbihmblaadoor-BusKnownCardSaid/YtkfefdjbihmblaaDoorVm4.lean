/-
  An evaluator for closed calls, part 4: the rules by which the evaluator's run and the model's go side by side; the model's small functions.
-/
import Derived.Test.YtkfefdjbihmblaaDoorVm3
namespace Go.Proofs.YtkfefdjbihmblaaDoor
open Go Go.RowKit

namespace Vm

/-- The model's run goes where the evaluator's goes. -/
def Sim {α β : Type} (P : Program) (w0 : World) (R : Ren) (V : VW) (w' : World) (m : Sem α) (m' : Sem β) (Rel : Ren → α → β → Prop) : Prop :=
  WR w0 R V w' → ∀ ro a V1, vrun P ro m V = some (a, V1) →
    ∃ R1 b w1, Le R R1 ∧ m'.run P w' = .ok b w1 ∧ WR w0 R1 V1 w1 ∧ Rel R1 a b ∧ (ro = true → R1 = R ∧ V1 = V ∧ w1 = w')

section
variable {P : Program} {w0 : World} {R : Ren} {V : VW} {w' : World} {α β γ δ : Type}

theorem Sim.pure {a : α} {b : β} {Rel : Ren → α → β → Prop} (h : Rel R a b) : Sim P w0 R V w' (Pure.pure a) (Pure.pure b) Rel := by
  intro hW ro x V1 hx
  have hx : some (a, V) = some (x, V1) := hx
  cases hx
  exact ⟨R, b, w', Le.refl R, rfl, hW, h, fun _ => ⟨rfl, rfl, rfl⟩⟩
theorem Sim.bind {m : Sem α} {m' : Sem β} {k : α → Sem γ} {k' : β → Sem δ} {Rel : Ren → α → β → Prop} {Rel2 : Ren → γ → δ → Prop}
    (h : Sim P w0 R V w' m m' Rel) (hk : ∀ R1 V1 w1 a b, Le R R1 → Rel R1 a b → Sim P w0 R1 V1 w1 (k a) (k' b) Rel2) : Sim P w0 R V w' (m >>= k) (m' >>= k') Rel2 := by
  intro hW ro c V2 hc
  have hc : vrun P ro (m.bind k) V = some (c, V2) := hc
  rw [vrun_bind] at hc
  cases e : vrun P ro m V with
  | none => rw [e] at hc; cases hc
  | some x =>
    obtain ⟨a, V1⟩ := x
    rw [e] at hc
    obtain ⟨R1, b, w1, hl1, hr1, hW1, hRel, hro1⟩ := h hW ro a V1 e
    obtain ⟨R2, d, w2, hl2, hr2, hW2, hRel2, hro2⟩ := hk R1 V1 w1 a b hl1 hRel hW1 ro c V2 hc
    refine ⟨R2, d, w2, hl1.trans hl2, ?_, hW2, hRel2, fun hr => ?_⟩
    · exact (run_bind P m' k' hr1).trans hr2
    · obtain ⟨e1, e2, e3⟩ := hro1 hr
      obtain ⟨e4, e5, e6⟩ := hro2 hr
      exact ⟨e4.trans e1, e5.trans e2, e6.trans e3⟩
theorem Sim.mono {m : Sem α} {m' : Sem β} {Rel Rel2 : Ren → α → β → Prop} (h : Sim P w0 R V w' m m' Rel) (hk : ∀ R1 a b, Le R R1 → Rel R1 a b → Rel2 R1 a b) : Sim P w0 R V w' m m' Rel2 := by
  intro hW ro c V2 hc
  obtain ⟨R1, b, w1, hl1, hr1, hW1, hRel, hro1⟩ := h hW ro c V2 hc
  exact ⟨R1, b, w1, hl1, hr1, hW1, hk _ _ _ hl1 hRel, hro1⟩
theorem Sim.halt {h : Halt} {m' : Sem β} {Rel : Ren → α → β → Prop} : Sim P w0 R V w' (.halt h) m' Rel := by
  intro hW ro c V2 hc
  have hc : (none : Option (α × VW)) = some (c, V2) := hc
  cases hc
theorem Sim.haltB {h : Halt} {k : α → Sem γ} {m' : Sem β} {Rel : Ren → γ → β → Prop} : Sim P w0 R V w' ((Sem.halt h : Sem α) >>= k) m' Rel := by
  intro hW ro c V2 hc
  have hc : (none : Option (γ × VW)) = some (c, V2) := hc
  cases hc
theorem Sim.choose {q : Question} (hq : q.forced = false) {k : Nat → Sem α} {m' : Sem β} {Rel : Ren → α → β → Prop} : Sim P w0 R V w' (Go.choose q >>= k) m' Rel := by
  intro hW ro c V2 hc
  have hc : (if q.forced then vrun P ro (k 0) V else none) = some (c, V2) := hc
  rw [hq] at hc
  cases hc
theorem Sim.program : Sim P w0 R V w' Go.program Go.program (fun _ a b => a = P ∧ b = P) := by
  intro hW ro c V2 hc
  have hc : some (P, V) = some (c, V2) := hc
  cases hc
  exact ⟨R, P, w', Le.refl R, rfl, hW, ⟨rfl, rfl⟩, fun _ => ⟨rfl, rfl, rfl⟩⟩
theorem Sim.mark (mk mk' : Mark) : Sim P w0 R V w' (Go.mark mk) (Go.mark mk') (fun _ _ _ => True) := by
  intro hW ro c V2 hc
  have hc : some ((), V) = some (c, V2) := hc
  cases hc
  exact ⟨R, (), w', Le.refl R, rfl, hW, trivial, fun _ => ⟨rfl, rfl, rfl⟩⟩
theorem Sim.load {a a' : Addr} (h : AR R a a') : Sim P w0 R V w' (Go.load a) (Go.load a') VR := by
  intro hW ro v V2 hc
  unfold Go.load at hc ⊢
  simp only [vrun] at hc
  split at hc
  · rename_i u hu
    cases hc
    obtain ⟨v', h1, h2⟩ := hW.cell hu h
    exact ⟨R, v', w', Le.refl R, by simp only [Sem.run, h1], hW, h2, fun _ => ⟨rfl, rfl, rfl⟩⟩
  · cases hc
theorem Sim.store {a a' : Addr} {v v' : Value} (h : AR R a a') (hv : VR R v v') : Sim P w0 R V w' (Go.store a v) (Go.store a' v') (fun _ _ _ => True) := by
  intro hW ro u V2 hc
  unfold Go.store at hc ⊢
  cases ro with
  | true => simp [vrun] at hc
  | false =>
    have key : ∀ V1, V.setCell a v = some V1 → some ((), V1) = some (u, V2) → (∀ c, v' ≠ .agg c) → (∀ c, v' ≠ .tuple c) → ∃ R1 b w1, Le R R1 ∧ (Sem.store Mode.plain a' v' (Sem.pure ())).run P w' = .ok b w1 ∧ WR w0 R1 V2 w1 ∧ True ∧ (false = true → R1 = R ∧ V2 = V ∧ w1 = w') := by
      intro V1 h1 h2 n1 n2
      cases h2
      obtain ⟨⟨x, hx⟩, hf, hW1⟩ := hW.setCell h1 h hv
      refine ⟨R, (), w'.setCell a' v', Le.refl R, ?_, hW1, trivial, fun e => by cases e⟩
      cases v' <;> first | exact absurd rfl (n1 _) | exact absurd rfl (n2 _) | (simp only [Sem.run, hx, hf, Bool.false_eq_true, if_false]; done) | (simp only [Sem.run, hx, hf]; rfl)
    cases hv <;> first
      | (simp only [vrun, Bool.false_eq_true, if_false] at hc; cases hc; done)
      | (simp only [vrun, Bool.false_eq_true, if_false] at hc
         split at hc
         · rename_i V1 h1
           exact key V1 h1 hc (fun c e => by cases e) (fun c e => by cases e)
         · cases hc)
theorem Sim.new {o o' : Obj} (hn : newOk o = true) (sz : Nat) (hO : ∀ R', Le R R' → ObjR R' ⟨w'.heap.size, 0, sz, 0⟩ ⟨o, 0, true, false, .leaf⟩ o') :
    Sim P w0 R V w' (Go.newObj o) (Go.newObj o') (fun R1 a b => ∃ x, R1[a]? = some x ∧ x.r = b ∧ x.d = 0) := by
  intro hW ro k V2 hc
  cases ro with
  | true => simp [Go.newObj, vrun] at hc
  | false =>
    simp only [Go.newObj, vrun, hn, Bool.true_and, Bool.false_eq_true, if_false] at hc
    split at hc
    · rename_i hb
      cases hc
      have hb := of_decide_eq_true hb
      refine ⟨R ++ [⟨w'.heap.size, 0, sz, 0⟩], w'.heap.size, w'.alloc o', Le.push R _, rfl, hW.add hb _ _ o' rfl (hO _ (Le.push R _)), ⟨⟨w'.heap.size, 0, sz, 0⟩, by rw [← hW.len]; simp, rfl, rfl⟩, fun e => by cases e⟩
    · cases hc
theorem Sim.row {e e' : TypeId} {c c' : Array Value} (h : AsR R c c') : Sim P w0 R V w' (newRow e c) (newRow e' c') AR := by
  unfold newRow
  have hn : Sim P w0 R V w' (Go.newObj (.cells c e)) (Go.newObj (.cells c' e')) (fun R1 a b => ∃ x, R1[a]? = some x ∧ x.r = b ∧ x.d = 0) := by
    refine Sim.new rfl c'.size fun R' hl => ?_
    refine ⟨c', e', 0, 0, rfl, fun h => absurd rfl h, fun _ i _ h => by omega, fun i v hv => ?_⟩
    have hv : c[i]? = some v := by
      unfold VB.at_ at hv
      rw [T.get_leaf] at hv
      exact hv
    obtain ⟨v', h1, h2⟩ := h.get hv
    exact ⟨v', h1, h2.mono hl⟩
  refine hn.bind fun R1 V1 w1 a b hl hx => Sim.pure ?_
  obtain ⟨x, h1, rfl, h3⟩ := hx
  exact ⟨x, h1, rfl, by rw [h3]⟩

/-! ### Terms that look at nothing but the program. -/
inductive Stat {α : Type} : Sem α → Prop
  | pure (a : α) : Stat (.pure a)
  | program {k : Program → Sem α} (h : ∀ p, Stat (k p)) : Stat (.program k)
  | mark (mk : Mark) {k : Sem α} (h : Stat k) : Stat (.mark mk k)
  | halt (h : Halt) : Stat (.halt h)
theorem Stat.bind {m : Sem α} {k : α → Sem β} (h : Stat m) (hk : ∀ a, Stat (k a)) : Stat (m >>= k) := by
  show Stat (m.bind k)
  induction h with
  | pure a => exact hk a
  | program _ ih => exact .program fun p => ih p
  | mark mk _ ih => exact .mark mk ih
  | halt h => exact .halt h
theorem Stat.pure_ (a : α) : Stat (Pure.pure a : Sem α) := .pure a
theorem Sim.stat {m : Sem α} (h : Stat m) : Sim P w0 R V w' m m (fun _ a b => a = b) := by
  induction h with
  | pure a => exact Sim.pure rfl
  | program _ ih =>
    intro hW ro c V2 hc
    exact ih P hW ro c V2 hc
  | mark mk _ ih =>
    intro hW ro c V2 hc
    exact ih hW ro c V2 hc
  | halt h => exact Sim.halt
theorem stat_typeInfo (t : TypeId) : Stat (typeInfo t) := .program fun p => by
  show Stat (match p.info? t with | some i => pure i | none => stuck "no such type")
  split
  · exact .pure _
  · exact .halt _
theorem stat_underlying (t : TypeId) : Stat (underlying t) := .program fun p => by
  show Stat (match p.underlying t with | some i => pure i | none => stuck "no such type")
  split
  · exact .pure _
  · exact .halt _
theorem stat_sizeOf (t : TypeId) : Stat (sizeOf t) := (stat_typeInfo t).bind fun _ => .pure _
theorem stat_isAgg (t : TypeId) : Stat (isAgg t) := (stat_underlying t).bind fun _ => by
  split <;> exact .pure _
theorem stat_zeroValue (t : TypeId) : Stat (zeroValue t) := (stat_typeInfo t).bind fun _ => by
  split
  · exact .pure _
  · exact .halt _
theorem stat_askRoom (n : Nat) : Stat (askRoom n) := by
  unfold askRoom
  split
  · exact .mark _ (.pure _)
  · exact .pure _

/-- The program's zero values hold no addresses and have their types' sizes. -/
structure Zeros (P : Program) : Prop where
  plain : ∀ t i v, t < P.types.size → P.info? t = some i → i.zero = some v → ∀ R, VR R v v
  size : ∀ t i v, t < P.types.size → P.info? t = some i → i.zero = some v → v.cells.size = i.size

theorem sim_underlying (t : TypeId) : Sim P w0 R V w' (underlying t) (underlying t) (fun _ a b => a = b ∧ P.underlying t = some a) := by
  intro hW ro a V1 h
  unfold underlying at h ⊢
  have h : vrun P ro (match P.underlying t with | some d => (pure d : Sem TypeDesc) | none => stuck "no such type") V = some (a, V1) := h
  show ∃ R1 b w1, Le R R1 ∧ Sem.run P (match P.underlying t with | some d => (pure d : Sem TypeDesc) | none => stuck "no such type") w' = .ok b w1 ∧ _
  cases e : P.underlying t with
  | none =>
    rw [e] at h
    have h : (none : Option (TypeDesc × VW)) = some (a, V1) := h
    cases h
  | some d =>
    rw [e] at h
    have h : some (d, V) = some (a, V1) := h
    cases h
    exact ⟨R, _, w', Le.refl R, rfl, hW, ⟨rfl, rfl⟩, fun _ => ⟨rfl, rfl, rfl⟩⟩
/-- The element type of a slice type stands in the program's own table. -/
def elOk (P : Program) (t : TypeId) : Bool :=
  match P.underlying t with
  | some (.slice el) => decide (el < P.types.size)
  | _ => false
theorem elOk_spec {t el : TypeId} (h : elOk P t = true) (hu : P.underlying t = some (.slice el)) : el < P.types.size := by
  unfold elOk at h
  rw [hu] at h
  exact of_decide_eq_true h
theorem sim_zero (hz : Zeros P) (t : TypeId) (ht : t < P.types.size) : Sim P w0 R V w' (zeroValue t) (zeroValue t) (fun R1 a b => a = b ∧ VR R1 a b) := by
  intro hW ro a V1 h
  unfold zeroValue typeInfo at h ⊢
  have h : vrun P ro ((match P.info? t with | some i => (pure i : Sem TypeInfo) | none => stuck "no such type") >>= fun i => match i.zero with | some v => pure v | none => unsupported (.resourceLimit "a value of more than 2^22 cells")) V = some (a, V1) := h
  show ∃ R1 b w1, Le R R1 ∧ Sem.run P ((match P.info? t with | some i => (pure i : Sem TypeInfo) | none => stuck "no such type") >>= fun i => match i.zero with | some v => pure v | none => unsupported (.resourceLimit "a value of more than 2^22 cells")) w' = .ok b w1 ∧ _
  cases e : P.info? t with
  | none =>
    rw [e] at h
    have h : (none : Option (Value × VW)) = some (a, V1) := h
    cases h
  | some i =>
    rw [e] at h
    have h : vrun P ro (match i.zero with | some v => (pure v : Sem Value) | none => unsupported (.resourceLimit "a value of more than 2^22 cells")) V = some (a, V1) := h
    show ∃ R1 b w1, Le R R1 ∧ Sem.run P (match i.zero with | some v => (pure v : Sem Value) | none => unsupported (.resourceLimit "a value of more than 2^22 cells")) w' = .ok b w1 ∧ _
    cases e2 : i.zero with
    | none =>
      rw [e2] at h
      have h : (none : Option (Value × VW)) = some (a, V1) := h
      cases h
    | some v =>
      rw [e2] at h
      have h : some (v, V) = some (a, V1) := h
      cases h
      exact ⟨R, a, w', Le.refl R, rfl, hW, ⟨rfl, hz.plain t i a ht e e2 R⟩, fun _ => ⟨rfl, rfl, rfl⟩⟩

theorem sim_loadCellsFrom {a a' : Addr} : ∀ (n i : Nat) (acc acc' : Array Value) (R : Ren) (V : VW) (w' : World), AR R a a' → AsR R acc acc' → Sim P w0 R V w' (loadCellsFrom a i n acc) (loadCellsFrom a' i n acc') AsR
  | 0, i, acc, acc', R, V, w', h, hs => Sim.pure hs
  | n + 1, i, acc, acc', R, V, w', h, hs => (Sim.load (h.add i)).bind fun R1 V1 w1 v v' hl hv => sim_loadCellsFrom n (i + 1) _ _ R1 V1 w1 (h.mono hl) ((hs.mono hl).push hv)
theorem sim_loadCells {a a' : Addr} (h : AR R a a') (n : Nat) : Sim P w0 R V w' (loadCells a n) (loadCells a' n) AsR := sim_loadCellsFrom n 0 #[] #[] R V w' h (AsR.nil R)
/-- Two lists of values. -/
def LsR (R : Ren) : List Value → List Value → Prop
  | [], [] => True
  | v :: l, v' :: l' => VR R v v' ∧ LsR R l l'
  | _, _ => False
theorem LsR.mono {R R' : Ren} (hl : Le R R') : ∀ {l l' : List Value}, LsR R l l' → LsR R' l l'
  | [], [], _ => trivial
  | _ :: _, _ :: _, h => ⟨h.1.mono hl, LsR.mono hl h.2⟩
  | [], _ :: _, h => h.elim
  | _ :: _, [], h => h.elim
theorem LsR.of_at : ∀ (l l' : List Value), l.length = l'.length → (∀ (i : Nat) v v', l[i]? = some v → l'[i]? = some v' → VR R v v') → LsR R l l'
  | [], [], _, _ => trivial
  | v :: l, v' :: l', hs, h => ⟨h 0 v v' rfl rfl, LsR.of_at l l' (by simpa using hs) fun i u u' h1 h2 => h (i + 1) u u' (by simpa using h1) (by simpa using h2)⟩
  | [], _ :: _, hs, _ => by simp at hs
  | _ :: _, [], hs, _ => by simp at hs
theorem AsR.list {a a' : Array Value} (h : AsR R a a') : LsR R a.toList a'.toList :=
  LsR.of_at _ _ (by simpa using h.size) fun i v v' h1 h2 => h.at_ i v v' (by simpa using h1) (by simpa using h2)
theorem sim_storeCells {a a' : Addr} : ∀ (l l' : List Value) (i : Nat) (R : Ren) (V : VW) (w' : World), AR R a a' → LsR R l l' → Sim P w0 R V w' (storeCells a l i) (storeCells a' l' i) (fun _ _ _ => True)
  | [], [], i, R, V, w', h, hs => Sim.pure trivial
  | v :: l, v' :: l', i, R, V, w', h, hs => (Sim.store (h.add i) hs.1).bind fun R1 V1 w1 _ _ hl _ => sim_storeCells l l' (i + 1) R1 V1 w1 (h.mono hl) (hs.2.mono hl)
  | [], _ :: _, _, _, _, _, _, hs => hs.elim
  | _ :: _, [], _, _, _, _, _, hs => hs.elim
theorem sim_loadVar {a a' : Addr} (h : AR R a a') (t : TypeId) : Sim P w0 R V w' (loadVar t a) (loadVar t a') VR := by
  unfold loadVar
  refine (Sim.stat (stat_isAgg t)).bind fun R1 V1 w1 b b' hl e => ?_
  subst e
  cases b
  · exact Sim.load (h.mono hl)
  · refine (Sim.stat (stat_sizeOf t)).bind fun R2 V2 w2 n n' hl2 e => ?_
    subst e
    refine (sim_loadCells ((h.mono hl).mono hl2) n).bind fun R3 V3 w3 c c' hl3 hc => Sim.pure (VR.agg_ hc)
theorem sim_storeVar {a a' : Addr} (h : AR R a a') (t : TypeId) {v v' : Value} (hv : VR R v v') : Sim P w0 R V w' (storeVar t a v) (storeVar t a' v') (fun _ _ _ => True) := by
  unfold storeVar
  refine (Sim.stat (stat_sizeOf t)).bind fun R1 V1 w1 n n' hl e => ?_
  subst e
  have hc := (AsR.cells hv).mono hl
  rw [hc.size]
  split
  · exact Sim.haltB
  · exact sim_storeCells _ _ 0 _ _ _ (h.mono hl) hc.list
theorem sim_newVar (t : TypeId) {v v' : Value} (hv : VR R v v') : Sim P w0 R V w' (newVar t v) (newVar t v') AR := Sim.row (AsR.cells hv)
theorem sim_part (t : TypeId) {c c' : Array Value} (h : AsR R c c') (off : Nat) : Sim P w0 R V w' (part t c off) (part t c' off) VR := by
  unfold part
  refine (Sim.stat (stat_isAgg t)).bind fun R1 V1 w1 b b' hl e => ?_
  subst e
  cases b
  · have h := h.mono hl
    rcases h.opt off with ⟨h1, h2⟩ | ⟨v, v', h1, h2, h3⟩
    · rw [h1, h2]; exact Sim.halt
    · rw [h1, h2]; exact Sim.pure h3
  · refine (Sim.stat (stat_sizeOf t)).bind fun R2 V2 w2 n n' hl2 e => ?_
    subst e
    exact Sim.pure (VR.agg_ (((h.mono hl).mono hl2).extract _ _))
end
end Vm
end Go.Proofs.YtkfefdjbihmblaaDoor

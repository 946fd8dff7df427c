/-
  An evaluator for closed calls, part 10: statements and calls; regions that do not draw their order.
-/
import Derived.Test.YtkfefdjbihmblaaDoorVm9
namespace Go.Proofs.YtkfefdjbihmblaaDoor
open Go Go.RowKit

namespace Vm

/-- How a piece of code ends. -/
inductive VE where
  | normal
  | exit (id : Nat)
  | ret
def VE.real : VE → Exit
  | .normal => .normal
  | .exit id => .exit id
  | .ret => .ret

/-- A frame's temporaries. -/
structure VA where
  t : T Value
  n : Nat
def VA.get (a : VA) (i : Nat) : Value :=
  match a.t.get i with
  | some v => v
  | none => undef
def VA.at? (a : VA) (i : Nat) : Option Value := if i < a.n then some (a.get i) else none
def VA.put (a : VA) (d : Option Tmp) (v : Value) : VA :=
  match d with
  | none => a
  | some d => if d < a.n then ⟨T.set v 41 a.t d, a.n⟩ else a
def VA.eval (a : VA) : Operand → Value
  | .tmp t => a.get t
  | .const v => v
  | .global g => .pointer (some ⟨g, 0, none⟩)
  | .func f => .func (.func f) #[] #[]
def VA.yielded (ops : Array Oper) (a : VA) (j : Nat) : Option Bool :=
  match (ops[j]?).bind (·.dst) with
  | some t => match a.t.get t with
    | some (.bool b) => some b
    | _ => none
  | none => none
def VA.arr (a : VA) : Array Value := ((List.range a.n).map a.get).toArray
def setL : List Value → Nat → T Value → T Value
  | [], _, t => t
  | v :: l, i, t => setL l (i + 1) (T.set v 41 t i)
def VA.init (args : Array Value) (m : Nat) : VA := ⟨setL args.toList 0 .leaf, args.size + (m - args.size)⟩
theorem VA.n_put (a : VA) (d : Option Tmp) (v : Value) : (a.put d v).n = a.n := by
  cases d with
  | none => rfl
  | some d => unfold VA.put; dsimp only; split <;> rfl
theorem VA.t_put (a : VA) (d : Tmp) (v : Value) (hn : a.n ≤ VW.bound) (i : Nat) : (a.put (some d) v).t.get i = if i = d ∧ d < a.n then some v else a.t.get i := by
  unfold VA.put
  dsimp only
  split
  · rename_i h
    show (T.set v 41 a.t d).get i = _
    rw [T.get_set v 41 a.t d i (Nat.lt_of_lt_of_le (show (d : Nat) < a.n from h) (by unfold VW.bound at hn; omega))]
    by_cases e : i = d
    · rw [if_pos e, if_pos ⟨e, h⟩]
    · rw [if_neg e, if_neg (fun q => e q.1)]
  · rename_i h
    rw [if_neg (fun q => h q.2)]
theorem VA.at_put (a : VA) (d : Option Tmp) (v : Value) (hn : a.n ≤ VW.bound) (i : Nat) : (a.put d v).at? i = if d = some i ∧ i < a.n then some v else a.at? i := by
  cases d with
  | none =>
    rw [if_neg (fun q => by cases q.1)]
    rfl
  | some d =>
    unfold VA.at?
    rw [VA.n_put]
    by_cases h : i < a.n
    · rw [if_pos h, if_pos h]
      unfold VA.get
      rw [VA.t_put a d v hn]
      by_cases e : i = d
      · subst e
        rw [if_pos ⟨rfl, h⟩, if_pos ⟨rfl, h⟩]
      · rw [if_neg (fun q => e q.1), if_neg (fun q => e (Option.some.inj q.1).symm)]
    · rw [if_neg h, if_neg h, if_neg (fun q => h q.2)]
theorem VA.t_ne (a : VA) (d : Option Tmp) (v : Value) (hn : a.n ≤ VW.bound) (i : Nat) (h : d ≠ some i) : (a.put d v).t.get i = a.t.get i := by
  cases d with
  | none => rfl
  | some d => rw [VA.t_put a d v hn, if_neg (fun q => h (congrArg some q.1.symm))]
theorem VA.at_of {a b : VA} {t : Nat} (h : b.n = a.n) (h2 : b.t.get t = a.t.get t) : b.at? t = a.at? t := by
  unfold VA.at? VA.get
  rw [h, h2]
theorem setL_get : ∀ (l : List Value) (i : Nat) (t : T Value) (k : Nat), i + l.length ≤ VW.bound → (setL l i t).get k = if i ≤ k then (match l[k - i]? with | some v => some v | none => t.get k) else t.get k
  | [], i, t, k, _ => by simp [setL]
  | v :: l, i, t, k, h => by
    simp only [List.length_cons] at h
    show (setL l (i + 1) (T.set v 41 t i)).get k = _
    rw [setL_get l (i + 1) _ k (by omega), T.get_set v 41 t i k (by unfold VW.bound at h; omega)]
    by_cases h1 : k = i
    · subst h1
      rw [if_neg (by omega), if_pos rfl, if_pos (Nat.le_refl _), Nat.sub_self]
      rfl
    · by_cases h2 : i ≤ k
      · rw [if_pos (by omega), if_pos h2, show k - i = (k - (i + 1)) + 1 by omega, List.getElem?_cons_succ]
        cases l[k - (i + 1)]? with
        | none => simp only [if_neg h1]
        | some u => rfl
      · rw [if_neg (by omega), if_neg h2, if_neg h1]

/-- A function as the evaluator calls it. -/
abbrev VCall := FuncId → Array Value → VW → Option (Value × VW)

def vOps (P : Program) (call : VCall) (ops : Array Oper) : List Oper → VA → VW → Option (VA × VW)
  | [], a, V => some (a, V)
  | o :: rest, a, V =>
    if Region.wanted o (VA.yielded ops a) then
      if o.op.operands.all okX then
        match vop P false o a.eval V with
        | some (.value v, V1) => vOps P call ops rest (a.put o.dst v) V1
        | some (.skip, V1) => vOps P call ops rest (a.put o.dst undef) V1
        | some (.enter f args, V1) => match call f args V1 with
          | some (v, V2) => vOps P call ops rest (a.put o.dst v) V2
          | none => none
        | none => none
      else none
    else vOps P call ops rest (a.put o.dst undef) V

/-- Two frames. -/
structure ActR (R : Ren) (a : VA) (a' : Act) : Prop where
  size : a.n = a'.tmps.size
  top : a.n ≤ VW.bound
  out : ∀ i, a.n ≤ i → a.t.get i = none
  at_ : ∀ (i : Nat) v', a'.tmps[i]? = some v' → VR R (a.get i) v'
  def2 : a'.defers = []

section
variable {P : Program} {w0 : World} {R : Ren} {V : VW} {w' : World}

theorem vr_undef : VR R undef undef := .tuple rfl fun i v v' h => by simp at h
theorem ActR.mono {R' : Ren} (hl : Le R R') {a : VA} {a' : Act} (h : ActR R a a') : ActR R' a a' := ⟨h.size, h.top, h.out, fun i v' hv => (h.at_ i v' hv).mono hl, h.def2⟩
theorem ActR.put {a : VA} {a' : Act} (h : ActR R a a') (d : Option Tmp) {v v' : Value} (hv : VR R v v') : ActR R (a.put d v) (a'.put d v') := by
  cases d with
  | none => exact h
  | some d =>
    refine ⟨by rw [VA.n_put, h.size]; simp [Act.put], by rw [VA.n_put]; exact h.top, fun i hi => ?_, fun i u hu => ?_, h.def2⟩
    · rw [VA.n_put] at hi
      rw [VA.t_put a d v h.top, if_neg (fun q => absurd q.2 (Nat.not_lt.2 (q.1 ▸ hi)))]
      exact h.out i hi
    · have hu : (a'.tmps.setIfInBounds d v')[i]? = some u := hu
      rw [Array.getElem?_setIfInBounds] at hu
      unfold VA.get
      rw [VA.t_put a d v h.top]
      by_cases e : d = i
      · subst e
        rw [if_pos rfl] at hu
        split at hu
        · rename_i hlt
          cases hu
          rw [if_pos ⟨rfl, by rw [h.size]; exact hlt⟩]
          exact hv
        · cases hu
      · rw [if_neg e] at hu
        rw [if_neg (fun q => e q.1.symm)]
        exact h.at_ i u hu
theorem ActR.getD {a : VA} {a' : Act} (h : ActR R a a') (i : Nat) : VR R (a.get i) (a'.tmps.getD i undef) := by
  rw [Array.getD_eq_getD_getElem?]
  cases e : a'.tmps[i]? with
  | some v => exact h.at_ i v e
  | none =>
    rw [Array.getElem?_eq_none_iff, ← h.size] at e
    unfold VA.get
    rw [h.out i e]
    exact vr_undef
theorem glob_vr (hg : ∀ g, g < B0 → R[g]? = some ⟨g, 0, 0, 0⟩) (g : Nat) (h : g < B0) : VR R (.pointer (some ⟨g, 0, none⟩)) (.pointer (some ⟨g, 0, none⟩)) := .ptr ⟨⟨g, 0, 0, 0⟩, hg g h, rfl, rfl⟩
theorem ActR.eval {a : VA} {a' : Act} (h : ActR R a a') (hg : ∀ g, g < B0 → R[g]? = some ⟨g, 0, 0, 0⟩) (x : Operand) (hx : okX x = true) : VR R (a.eval x) (a'.eval x) := by
  cases x with
  | tmp t => exact h.getD t
  | const v => exact plain_vr 6 v hx R
  | global g => exact glob_vr hg g (of_decide_eq_true hx)
  | func f => exact .func _ rfl (fun i v v' h => by simp at h) rfl (fun i v v' h => by simp at h)
theorem ActR.yielded {a : VA} {a' : Act} (h : ActR R a a') (ops : Array Oper) (j : Nat) : Go.yielded ops a'.tmps j = VA.yielded ops a j := by
  unfold Go.yielded VA.yielded
  cases (ops[j]?).bind (·.dst) with
  | none => rfl
  | some t =>
    show (match a'.tmps[t]? with | some (.bool b) => some b | _ => none) = (match a.t.get t with | some (.bool b) => some b | _ => none)
    cases e : a'.tmps[t]? with
    | none =>
      rw [Array.getElem?_eq_none_iff, ← h.size] at e
      rw [h.out t e]
    | some v =>
      have := h.at_ t v e
      unfold VA.get at this
      cases e2 : a.t.get t with
      | none =>
        rw [e2] at this
        have this : VR R undef v := this
        cases this
        rfl
      | some u =>
        rw [e2] at this
        have this : VR R u v := this
        cases this <;> rfl
theorem ActR.wanted {a : VA} {a' : Act} (h : ActR R a a') (ops : Array Oper) (o : Oper) : Region.wanted o (Go.yielded ops a'.tmps) = Region.wanted o (VA.yielded ops a) := by
  unfold Region.wanted
  cases o.guard with
  | none => rfl
  | some g => obtain ⟨g, want⟩ := g; simp only [h.yielded ops g]
theorem ActR.arr {a : VA} {a' : Act} (h : ActR R a a') : AsR R a.arr a'.tmps := by
  refine AsR.of_list fun i => ?_
  unfold VA.arr
  rw [List.getElem?_toArray, List.getElem?_map]
  cases e : a'.tmps[i]? with
  | none =>
    rw [Array.getElem?_eq_none_iff, ← h.size] at e
    left
    rw [List.getElem?_eq_none (by simpa using e)]
    exact ⟨rfl, rfl⟩
  | some v =>
    have hlt : i < a.n := by rw [h.size]; exact (Array.getElem?_eq_some_iff.1 e).1
    right
    rw [List.getElem?_range hlt]
    exact ⟨_, v, rfl, rfl, h.at_ i v e⟩

/-- The evaluator's calls are the model's. -/
def CallOk (P : Program) (w0 : World) (call : VCall) : Prop :=
  ∀ f args V v V1, call f args V = some (v, V1) → ∀ R args' w', AsR R args args' → WR w0 R V w' →
    Calls P f args' w' fun e w1 => ∃ R1 v', Le R R1 ∧ e = .returned v' ∧ WR w0 R1 V1 w1 ∧ VR R1 v v'

theorem oper_wp {call : VCall} (hc : CallOk P w0 call) {o : Oper} {a' : Act} {n : VN} {V1 : VW} {K : Act → World → Prop} {Q : Exit → Act → World → Prop}
    (h : Fits P w0 R w' o a'.eval false n V V1)
    (hv : ∀ v, n = .value v → ∀ R1 v' w1, Le R R1 → WR w0 R1 V1 w1 → VR R1 v v' → K (a'.put o.dst v') w1)
    (hs : n = .skip → ∀ R1 w1, Le R R1 → WR w0 R1 V1 w1 → K (a'.put o.dst undef) w1)
    (he : ∀ f args, n = .enter f args → ∃ v V2, call f args V1 = some (v, V2) ∧ ∀ R1 v' w1, Le R R1 → WR w0 R1 V2 w1 → VR R1 v v' → K (a'.put o.dst v') w1) : o.wp P a' w' K Q := by
  obtain ⟨R1, nx, w1, h1, h2, h3, h4, _⟩ := h
  unfold Oper.wp
  rw [h2]
  cases n <;> cases nx <;> first | exact h4.elim | skip
  · exact hv _ rfl R1 _ w1 h1 h3 h4
  · exact hs rfl R1 w1 h1 h3
  · rename_i f args g args'
    obtain ⟨rfl, h4⟩ := h4
    obtain ⟨v, V2, hcall, hK⟩ := he _ _ rfl
    show Calls P f args' w1 _
    refine (hc f args V1 v V2 hcall R1 args' w1 h4 h3).mono fun e w2 hh => ?_
    obtain ⟨R2, v', q1, rfl, q3, q4⟩ := hh
    exact hK R2 v' w2 (h1.trans q1) q3 q4

theorem vOps_ok (hz : Zeros P) {call : VCall} (hc : CallOk P w0 call) {ops : Array Oper} {Q : Exit → Act → World → Prop} {a1 : VA} {V1 : VW} : ∀ (l : List Oper) (a : VA) (V : VW) (R : Ren) (a' : Act) (w' : World),
    vOps P call ops l a V = some (a1, V1) → ActR R a a' → WR w0 R V w' → (∀ R1 a1' w1, Le R R1 → ActR R1 a1 a1' → WR w0 R1 V1 w1 → Q .normal a1' w1) → wpList P ops Q l a' w'
  | [], a, V, R, a', w', h, ha, hW, hQ => by
    cases h
    exact hQ R a' w' (Le.refl R) ha hW
  | o :: rest, a, V, R, a', w', h, ha, hW, hQ => by
    have go : ∀ R1 (v v' : Value) (V2 : VW) (w1 : World), vOps P call ops rest (a.put o.dst v) V2 = some (a1, V1) → Le R R1 → WR w0 R1 V2 w1 → VR R1 v v' → wpList P ops Q rest (a'.put o.dst v') w1 := fun R1 v v' V2 w1 hr hl hW1 hv =>
      vOps_ok hz hc rest _ V2 R1 _ w1 hr ((ha.mono hl).put o.dst hv) hW1 fun R2 a1' w2 hl2 => hQ R2 a1' w2 (hl.trans hl2)
    unfold vOps at h
    unfold wpList
    rw [ha.wanted ops o]
    split at h
    · rename_i hw
      rw [if_pos hw]
      left
      split at h
      · rename_i hok
        have hρ : ∀ x ∈ o.op.operands, VR R (a.eval x) (a'.eval x) := fun x hx => ha.eval hW.glob x (Array.all_eq_true_iff_forall_mem.1 hok x hx)
        split at h
        · rename_i v V2 hv
          refine oper_wp hc (vop_ok hz hv hρ hW) (fun u e R1 v' w1 hl hW1 hvr => ?_) (fun e => by cases e) (fun f args e => by cases e)
          cases e
          exact go R1 _ v' V2 w1 h hl hW1 hvr
        · rename_i V2 hv
          exact oper_wp hc (vop_ok hz hv hρ hW) (fun u e => by cases e) (fun _ R1 w1 hl hW1 => go R1 _ _ V2 w1 h hl hW1 vr_undef) (fun f args e => by cases e)
        · rename_i f args V2 hv
          split at h
          · rename_i v V3 hcall
            refine oper_wp hc (vop_ok hz hv hρ hW) (fun u e => by cases e) (fun e => by cases e) (fun g as e => ?_)
            cases e
            exact ⟨v, V3, hcall, fun R1 v' w1 hl hW1 hvr => go R1 _ v' V3 w1 h hl hW1 hvr⟩
          · cases h
        · cases h
      · cases h
    · rename_i hw
      rw [if_neg hw]
      exact go R _ _ V w' h (Le.refl R) hW vr_undef

/-! ### Results. -/
theorem sim_listMapM {α : Type} {R0 : Ren} {g g' : α → Sem Value} (hg : ∀ (R : Ren) (V : VW) (w' : World) a, Le R0 R → Sim P w0 R V w' (g a) (g' a) VR) :
    ∀ (l : List α) (R : Ren) (V : VW) (w' : World), Le R0 R → Sim P w0 R V w' (l.mapM g) (l.mapM g') (fun R1 x y => LsR R1 x y)
  | [], R, V, w', _ => by rw [List.mapM_nil, List.mapM_nil]; exact Sim.pure trivial
  | a :: l, R, V, w', h0 => by
    rw [List.mapM_cons, List.mapM_cons]
    refine (hg R V w' a h0).bind fun R1 V1 w1 v v' hl hv => ?_
    refine (sim_listMapM hg l R1 V1 w1 (h0.trans hl)).bind fun R2 V2 w2 vs vs' hl2 hvs => Sim.pure ⟨hv.mono hl2, hvs⟩
theorem LsR.at_ : ∀ {l l' : List Value}, LsR R l l' → ∀ i : Nat, (l[i]? = none ∧ l'[i]? = none) ∨ ∃ v v', l[i]? = some v ∧ l'[i]? = some v' ∧ VR R v v'
  | [], [], _, i => .inl ⟨by simp, by simp⟩
  | v :: l, v' :: l', h, 0 => .inr ⟨v, v', rfl, rfl, h.1⟩
  | v :: l, v' :: l', h, i + 1 => by simpa using LsR.at_ h.2 i
  | [], _ :: _, h, _ => h.elim
  | _ :: _, [], h, _ => h.elim
theorem LsR.arr {l l' : List Value} (h : LsR R l l') : AsR R l.toArray l'.toArray := AsR.of_list fun i => by simpa using h.at_ i
theorem sim_results (fn : Func) {t t' : Array Value} (h : AsR R t t') : Sim P w0 R V w' (results fn t) (results fn t') VR := by
  unfold results
  rw [Array.mapM_eq_mapM_toList, Array.mapM_eq_mapM_toList]
  have hm := sim_listMapM (P := P) (w0 := w0) (R0 := R) (α := ResultVar)
    (g := fun x => match x with | .tmp t2 => Pure.pure (t.getD t2 undef) | .cell a ty => do loadVar ty (← asAddr (t.getD a undef)))
    (g' := fun x => match x with | .tmp t2 => Pure.pure (t'.getD t2 undef) | .cell a ty => do loadVar ty (← asAddr (t'.getD a undef))) (fun R1 V1 w1 x hl => by
      have h := h.mono hl
      cases x with
      | tmp k => exact Sim.pure (h.getD k vr_undef)
      | cell a ty =>
        have hv := h.getD a (vr_undef (R := R1))
        have ha : Sim P w0 R1 V1 w1 (asAddr (t.getD a undef)) (asAddr (t'.getD a undef)) AR := by
          revert hv
          generalize t.getD a undef = u
          generalize t'.getD a undef = u'
          intro hv
          cases hv with
          | ptr ha => exact Sim.pure ha
          | ptrN =>
            intro hW ro x V3 hx
            have e : vrun P ro (runtimePanic .nilDeref : Sem Addr) V1 = none := rfl
            rw [show asAddr (.pointer none) = runtimePanic .nilDeref from rfl, e] at hx
            cases hx
          | _ => exact Sim.halt
        exact ha.bind fun R2 V2 w2 b b' hl2 hb => sim_loadVar hb ty)
  have hm2 : Sim P w0 R V w' (List.toArray <$> fn.results.toList.mapM (fun x => match x with | .tmp t2 => Pure.pure (t.getD t2 undef) | .cell a ty => do loadVar ty (← asAddr (t.getD a undef))))
      (List.toArray <$> fn.results.toList.mapM (fun x => match x with | .tmp t2 => Pure.pure (t'.getD t2 undef) | .cell a ty => do loadVar ty (← asAddr (t'.getD a undef)))) AsR :=
    (hm fn.results.toList R V w' (Le.refl R)).bind fun R1 V1 w1 x y hl hxy => Sim.pure hxy.arr
  refine hm2.bind fun R1 V1 w1 vs vs' hl hvs => Sim.pure ?_
  have hs := hvs.size
  by_cases h1 : vs.size = 1
  · rw [dif_pos h1, dif_pos (by rw [← hs]; exact h1)]
    exact hvs.at_ 0 _ _ (Array.getElem?_eq_getElem (by omega)) (Array.getElem?_eq_getElem (by omega))
  · rw [dif_neg h1, dif_neg (by rw [← hs]; exact h1)]
    exact VR.tuple_ hvs
end
end Vm
end Go.Proofs.YtkfefdjbihmblaaDoor

/-
  An evaluator for closed calls, part 10: statements and calls; regions that do not draw their order.
-/
import Derived.Test.YtapbcpgcbpknhaaVm9
namespace Go.Proofs.Ytapbcpgcbpknhaa
open Go Go.RowKit

namespace Vm

/-- How a piece of code ends. -/
inductive VE where
  | normal
  | exit (id : Nat)
  | ret
def VE.real : VE → Exit
  | .normal => .normal
  | .exit id => .exit id
  | .ret => .ret

/-- A function as the evaluator calls it. -/
abbrev VCall := FuncId → Array Value → VW → Option (Value × VW)

def vOps (P : Program) (call : VCall) (ops : Array Oper) : List Oper → Act → VW → Option (Act × VW)
  | [], a, V => some (a, V)
  | o :: rest, a, V =>
    if Region.wanted o (yielded ops a.tmps) then
      if o.op.operands.all okX then
        match vop P false o a.eval V with
        | some (.value v, V1) => vOps P call ops rest (a.put o.dst v) V1
        | some (.skip, V1) => vOps P call ops rest (a.put o.dst undef) V1
        | some (.enter f args, V1) => match call f args V1 with
          | some (v, V2) => vOps P call ops rest (a.put o.dst v) V2
          | none => none
        | none => none
      else none
    else vOps P call ops rest (a.put o.dst undef) V

/-- Two frames. -/
structure ActR (R : Ren) (a a' : Act) : Prop where
  tmps : AsR R a.tmps a'.tmps
  def1 : a.defers = []
  def2 : a'.defers = []

section
variable {P : Program} {w0 : World} {R : Ren} {V : VW} {w' : World}

theorem vr_undef : VR R undef undef := .tuple rfl fun i v v' h => by simp at h
theorem ActR.mono {R' : Ren} (hl : Le R R') {a a' : Act} (h : ActR R a a') : ActR R' a a' := ⟨h.tmps.mono hl, h.def1, h.def2⟩
theorem ActR.put {a a' : Act} (h : ActR R a a') (d : Option Tmp) {v v' : Value} (hv : VR R v v') : ActR R (a.put d v) (a'.put d v') := by
  cases d with
  | none => exact h
  | some d => exact ⟨h.tmps.set d hv, h.def1, h.def2⟩
theorem glob_vr (hg : ∀ g, g < B0 → R[g]? = some ⟨g, 0, 0, 0⟩) (g : Nat) (h : g < B0) : VR R (.pointer (some ⟨g, 0, none⟩)) (.pointer (some ⟨g, 0, none⟩)) := .ptr ⟨⟨g, 0, 0, 0⟩, hg g h, rfl, rfl⟩
theorem ActR.eval {a a' : Act} (h : ActR R a a') (hg : ∀ g, g < B0 → R[g]? = some ⟨g, 0, 0, 0⟩) (x : Operand) (hx : okX x = true) : VR R (a.eval x) (a'.eval x) := by
  cases x with
  | tmp t => exact h.tmps.getD t vr_undef
  | const v => exact plain_vr 6 v hx R
  | global g => exact glob_vr hg g (of_decide_eq_true hx)
  | func f => exact .func _ rfl (fun i v v' h => by simp at h) rfl (fun i v v' h => by simp at h)
theorem ActR.yielded {a a' : Act} (h : ActR R a a') (ops : Array Oper) (j : Nat) : Go.yielded ops a'.tmps j = Go.yielded ops a.tmps j := by
  unfold Go.yielded
  cases (ops[j]?).bind (·.dst) with
  | none => rfl
  | some t =>
    show (match a'.tmps[t]? with | some (.bool b) => some b | _ => none) = (match a.tmps[t]? with | some (.bool b) => some b | _ => none)
    rcases h.tmps.opt t with ⟨h1, h2⟩ | ⟨v, v', h1, h2, h3⟩
    · rw [h1, h2]
    · rw [h1, h2]
      cases h3 <;> rfl
theorem ActR.wanted {a a' : Act} (h : ActR R a a') (ops : Array Oper) (o : Oper) : Region.wanted o (Go.yielded ops a'.tmps) = Region.wanted o (Go.yielded ops a.tmps) := by
  unfold Region.wanted
  cases o.guard with
  | none => rfl
  | some g => obtain ⟨g, want⟩ := g; simp only [h.yielded ops g]

/-- The evaluator's calls are the model's. -/
def CallOk (P : Program) (w0 : World) (call : VCall) : Prop :=
  ∀ f args V v V1, call f args V = some (v, V1) → ∀ R args' w', AsR R args args' → WR w0 R V w' →
    Calls P f args' w' fun e w1 => ∃ R1 v', Le R R1 ∧ e = .returned v' ∧ WR w0 R1 V1 w1 ∧ VR R1 v v'

theorem oper_wp {call : VCall} (hc : CallOk P w0 call) {o : Oper} {a' : Act} {n : VN} {V1 : VW} {K : Act → World → Prop} {Q : Exit → Act → World → Prop}
    (h : Fits P w0 R w' o a'.eval false n V V1)
    (hv : ∀ v, n = .value v → ∀ R1 v' w1, Le R R1 → WR w0 R1 V1 w1 → VR R1 v v' → K (a'.put o.dst v') w1)
    (hs : n = .skip → ∀ R1 w1, Le R R1 → WR w0 R1 V1 w1 → K (a'.put o.dst undef) w1)
    (he : ∀ f args, n = .enter f args → ∃ v V2, call f args V1 = some (v, V2) ∧ ∀ R1 v' w1, Le R R1 → WR w0 R1 V2 w1 → VR R1 v v' → K (a'.put o.dst v') w1) : o.wp P a' w' K Q := by
  obtain ⟨R1, nx, w1, h1, h2, h3, h4, _⟩ := h
  unfold Oper.wp
  rw [h2]
  cases n <;> cases nx <;> first | exact h4.elim | skip
  · exact hv _ rfl R1 _ w1 h1 h3 h4
  · exact hs rfl R1 w1 h1 h3
  · rename_i f args g args'
    obtain ⟨rfl, h4⟩ := h4
    obtain ⟨v, V2, hcall, hK⟩ := he _ _ rfl
    show Calls P f args' w1 _
    refine (hc f args V1 v V2 hcall R1 args' w1 h4 h3).mono fun e w2 hh => ?_
    obtain ⟨R2, v', q1, rfl, q3, q4⟩ := hh
    exact hK R2 v' w2 (h1.trans q1) q3 q4

theorem vOps_ok (hz : Zeros P) {call : VCall} (hc : CallOk P w0 call) {ops : Array Oper} {Q : Exit → Act → World → Prop} {a1 : Act} {V1 : VW} : ∀ (l : List Oper) (a : Act) (V : VW) (R : Ren) (a' : Act) (w' : World),
    vOps P call ops l a V = some (a1, V1) → ActR R a a' → WR w0 R V w' → (∀ R1 a1' w1, Le R R1 → ActR R1 a1 a1' → WR w0 R1 V1 w1 → Q .normal a1' w1) → wpList P ops Q l a' w'
  | [], a, V, R, a', w', h, ha, hW, hQ => by
    cases h
    exact hQ R a' w' (Le.refl R) ha hW
  | o :: rest, a, V, R, a', w', h, ha, hW, hQ => by
    have go : ∀ R1 (v v' : Value) (V2 : VW) (w1 : World), vOps P call ops rest (a.put o.dst v) V2 = some (a1, V1) → Le R R1 → WR w0 R1 V2 w1 → VR R1 v v' → wpList P ops Q rest (a'.put o.dst v') w1 := fun R1 v v' V2 w1 hr hl hW1 hv =>
      vOps_ok hz hc rest _ V2 R1 _ w1 hr ((ha.mono hl).put o.dst hv) hW1 fun R2 a1' w2 hl2 => hQ R2 a1' w2 (hl.trans hl2)
    unfold vOps at h
    unfold wpList
    rw [ha.wanted ops o]
    split at h
    · rename_i hw
      rw [if_pos hw]
      left
      split at h
      · rename_i hok
        have hρ : ∀ x ∈ o.op.operands, VR R (a.eval x) (a'.eval x) := fun x hx => ha.eval hW.glob x (Array.all_eq_true_iff_forall_mem.1 hok x hx)
        split at h
        · rename_i v V2 hv
          refine oper_wp hc (vop_ok hz hv hρ hW) (fun u e R1 v' w1 hl hW1 hvr => ?_) (fun e => by cases e) (fun f args e => by cases e)
          cases e
          exact go R1 _ v' V2 w1 h hl hW1 hvr
        · rename_i V2 hv
          exact oper_wp hc (vop_ok hz hv hρ hW) (fun u e => by cases e) (fun _ R1 w1 hl hW1 => go R1 _ _ V2 w1 h hl hW1 vr_undef) (fun f args e => by cases e)
        · rename_i f args V2 hv
          split at h
          · rename_i v V3 hcall
            refine oper_wp hc (vop_ok hz hv hρ hW) (fun u e => by cases e) (fun e => by cases e) (fun g as e => ?_)
            cases e
            exact ⟨v, V3, hcall, fun R1 v' w1 hl hW1 hvr => go R1 _ v' V3 w1 h hl hW1 hvr⟩
          · cases h
        · cases h
      · cases h
    · rename_i hw
      rw [if_neg hw]
      exact go R _ _ V w' h (Le.refl R) hW vr_undef

/-! ### Results. -/
theorem sim_listMapM {α : Type} {R0 : Ren} {g g' : α → Sem Value} (hg : ∀ (R : Ren) (V : VW) (w' : World) a, Le R0 R → Sim P w0 R V w' (g a) (g' a) VR) :
    ∀ (l : List α) (R : Ren) (V : VW) (w' : World), Le R0 R → Sim P w0 R V w' (l.mapM g) (l.mapM g') (fun R1 x y => LsR R1 x y)
  | [], R, V, w', _ => by rw [List.mapM_nil, List.mapM_nil]; exact Sim.pure trivial
  | a :: l, R, V, w', h0 => by
    rw [List.mapM_cons, List.mapM_cons]
    refine (hg R V w' a h0).bind fun R1 V1 w1 v v' hl hv => ?_
    refine (sim_listMapM hg l R1 V1 w1 (h0.trans hl)).bind fun R2 V2 w2 vs vs' hl2 hvs => Sim.pure ⟨hv.mono hl2, hvs⟩
theorem LsR.at_ : ∀ {l l' : List Value}, LsR R l l' → ∀ i : Nat, (l[i]? = none ∧ l'[i]? = none) ∨ ∃ v v', l[i]? = some v ∧ l'[i]? = some v' ∧ VR R v v'
  | [], [], _, i => .inl ⟨by simp, by simp⟩
  | v :: l, v' :: l', h, 0 => .inr ⟨v, v', rfl, rfl, h.1⟩
  | v :: l, v' :: l', h, i + 1 => by simpa using LsR.at_ h.2 i
  | [], _ :: _, h, _ => h.elim
  | _ :: _, [], h, _ => h.elim
theorem LsR.arr {l l' : List Value} (h : LsR R l l') : AsR R l.toArray l'.toArray := AsR.of_list fun i => by simpa using h.at_ i
theorem sim_results (fn : Func) {t t' : Array Value} (h : AsR R t t') : Sim P w0 R V w' (results fn t) (results fn t') VR := by
  unfold results
  rw [Array.mapM_eq_mapM_toList, Array.mapM_eq_mapM_toList]
  have hm := sim_listMapM (P := P) (w0 := w0) (R0 := R) (α := ResultVar)
    (g := fun x => match x with | .tmp t2 => Pure.pure (t.getD t2 undef) | .cell a ty => do loadVar ty (← asAddr (t.getD a undef)))
    (g' := fun x => match x with | .tmp t2 => Pure.pure (t'.getD t2 undef) | .cell a ty => do loadVar ty (← asAddr (t'.getD a undef))) (fun R1 V1 w1 x hl => by
      have h := h.mono hl
      cases x with
      | tmp k => exact Sim.pure (h.getD k vr_undef)
      | cell a ty =>
        have hv := h.getD a (vr_undef (R := R1))
        have ha : Sim P w0 R1 V1 w1 (asAddr (t.getD a undef)) (asAddr (t'.getD a undef)) AR := by
          revert hv
          generalize t.getD a undef = u
          generalize t'.getD a undef = u'
          intro hv
          cases hv with
          | ptr ha => exact Sim.pure ha
          | ptrN =>
            intro hW ro x V3 hx
            have e : vrun P ro (runtimePanic .nilDeref : Sem Addr) V1 = none := rfl
            rw [show asAddr (.pointer none) = runtimePanic .nilDeref from rfl, e] at hx
            cases hx
          | _ => exact Sim.halt
        exact ha.bind fun R2 V2 w2 b b' hl2 hb => sim_loadVar hb ty)
  have hm2 : Sim P w0 R V w' (List.toArray <$> fn.results.toList.mapM (fun x => match x with | .tmp t2 => Pure.pure (t.getD t2 undef) | .cell a ty => do loadVar ty (← asAddr (t.getD a undef))))
      (List.toArray <$> fn.results.toList.mapM (fun x => match x with | .tmp t2 => Pure.pure (t'.getD t2 undef) | .cell a ty => do loadVar ty (← asAddr (t'.getD a undef)))) AsR :=
    (hm fn.results.toList R V w' (Le.refl R)).bind fun R1 V1 w1 x y hl hxy => Sim.pure hxy.arr
  refine hm2.bind fun R1 V1 w1 vs vs' hl hvs => Sim.pure ?_
  have hs := hvs.size
  by_cases h1 : vs.size = 1
  · rw [dif_pos h1, dif_pos (by rw [← hs]; exact h1)]
    exact hvs.at_ 0 _ _ (Array.getElem?_eq_getElem (by omega)) (Array.getElem?_eq_getElem (by omega))
  · rw [dif_neg h1, dif_neg (by rw [← hs]; exact h1)]
    exact VR.tuple_ hvs
end
end Vm
end Go.Proofs.Ytapbcpgcbpknhaa

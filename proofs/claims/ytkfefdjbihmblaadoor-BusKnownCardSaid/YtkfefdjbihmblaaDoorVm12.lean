/-
  An evaluator for closed calls, part 12: statements, calls, and what a closed call gives.
-/
import Derived.Test.YtkfefdjbihmblaaDoorVm11
import Derived.Scope
namespace Go.Proofs.YtkfefdjbihmblaaDoor
open Go Go.RowKit

namespace Vm

section
variable {P : Program}
/-- The memory at first: some of the package's variables, as rows of plain values. -/
def VW.init (gs : List (Nat × Array Value)) : VW := ⟨B0, gs.foldl (fun t p => T.set (⟨.cells p.2 0, 0, true, true, .leaf⟩ : VB) 41 t p.1) .leaf⟩
/-- What the package's variables hold. -/
def Laid (w : World) (gs : List (Nat × Array Value)) : Prop :=
  ∀ p ∈ gs, p.1 < B0 ∧ p.1 < w.heap.size ∧ (∃ c e f, w.heap[p.1]? = some (.cells c e f)) ∧ p.2.toList.all (plainV 6) = true ∧ ∀ (i : Nat) v, p.2[i]? = some v → w.cell? ⟨p.1, i, none⟩ = some v
theorem Laid.nil (w : World) : Laid w [] := fun p hp => by cases hp
theorem Laid.cons {w : World} {gs : List (Nat × Array Value)} {g : Nat} {k : IntKind} {zs : List Int} (hg : g < B0) (hz : 0 < zs.length) (h : Laid w gs) (hc : ∀ i, i < zs.length → w.cell? ⟨g, i, none⟩ = some (.int k (zs.getD i 0))) :
    Laid w ((g, (zs.map fun z => Value.int k z).toArray) :: gs) := by
  intro p hp
  rcases List.mem_cons.1 hp with rfl | hp
  · have h0 := hc 0 hz
    have hb : ∃ c e f, w.heap[g]? = some (.cells c e f) := by
      unfold World.cell? at h0
      split at h0
      · rename_i c e f hh; exact ⟨c, e, f, hh⟩
      · cases h0
    refine ⟨hg, ?_, hb, ?_, fun i v hv => ?_⟩
    · obtain ⟨c, e, f, hh⟩ := hb
      exact (Array.getElem?_eq_some_iff.1 hh).1
    · apply List.all_eq_true.2
      intro x hx
      obtain ⟨z, _, rfl⟩ := List.mem_map.1 (by simpa using hx)
      rfl
    · have hv : (zs.map fun z => Value.int k z)[i]? = some v := by simpa using hv
      have hi : i < zs.length := by simpa using (List.getElem?_eq_some_iff.1 hv).1
      rw [List.getElem?_map, List.getElem?_eq_getElem hi] at hv
      have hv : Value.int k zs[i] = v := by simpa using hv
      rw [hc i hi, ← hv, List.getD_eq_getElem?_getD, List.getElem?_eq_getElem hi]
      rfl
  · exact h p hp
theorem init_get (gs : List (Nat × Array Value)) (hgs : ∀ p ∈ gs, p.1 < B0) : ∀ (t : T VB) (k : Nat) (b : VB), (gs.foldl (fun t p => T.set (⟨.cells p.2 0, 0, true, true, .leaf⟩ : VB) 41 t p.1) t).get k = some b →
    t.get k = some b ∨ ∃ p ∈ gs, p.1 = k ∧ b = ⟨.cells p.2 0, 0, true, true, .leaf⟩ := by
  induction gs with
  | nil => exact fun t k b h => .inl h
  | cons p gs ih =>
    intro t k b h
    rcases ih (fun q hq => hgs q (List.mem_cons_of_mem _ hq)) _ k b h with h1 | ⟨q, h1, h2, h3⟩
    · have hp := hgs p (List.mem_cons_self ..)
      have hlt : p.1 < 2 ^ 41 - 1 := by unfold B0 at hp; omega
      rw [T.get_set _ 41 t p.1 k hlt] at h1
      split at h1
      · rename_i e
        cases h1
        exact .inr ⟨p, List.mem_cons_self .., e.symm, rfl⟩
      · exact .inl h1
    · exact .inr ⟨q, List.mem_cons_of_mem _ h1, h2, h3⟩
theorem WR.init {w : World} {gs : List (Nat × Array Value)} (h : Laid w gs) : WR w R0 (VW.init gs) w := by
  have hget : ∀ k b, (VW.init gs).t.get k = some b → ∃ p ∈ gs, p.1 = k ∧ b = ⟨.cells p.2 0, 0, true, true, .leaf⟩ := fun k b hk => by
    rcases init_get gs (fun p hp => (h p hp).1) .leaf k b hk with h1 | h1
    · rw [T.get_leaf] at h1; cases h1
    · exact h1
  refine ⟨R0_len, by show B0 ≤ _; unfold VW.bound B0; omega, fun k b hk => ?_, fun k b hk _ => ?_, fun j k bj bk x y hj _ hk _ hx hy hxy => ?_, fun k b x hk _ hx => ?_, R0_at, Fr.refl _ _⟩
  · obtain ⟨p, hp, rfl, _⟩ := hget k b hk
    exact (h p hp).1
  · obtain ⟨p, hp, rfl, rfl⟩ := hget k b hk
    obtain ⟨h1, h2, ⟨c, e, ⟨lo, hi⟩, h3⟩, h4, h5⟩ := h p hp
    refine ⟨_, _, R0_at p.1 h1, h3, c, e, lo, hi, rfl, fun q => absurd rfl q, fun q => (by cases q), fun i v hv => ?_⟩
    have hv : p.2[i]? = some v := by
      unfold VB.at_ at hv
      rw [T.get_leaf] at hv
      exact hv
    have hc := h5 i v hv
    simp only [World.cell?, h3] at hc
    exact ⟨v, hc, plain_vr 6 v (List.all_eq_true.1 h4 v (Array.mem_toList_iff.2 (Array.mem_of_getElem? hv))) R0⟩
  · obtain ⟨p, hp, rfl, _⟩ := hget j bj hj
    obtain ⟨q, hq, rfl, _⟩ := hget k bk hk
    rw [R0_at p.1 (h p hp).1] at hx
    rw [R0_at q.1 (h q hq).1] at hy
    cases hx; cases hy
    exact hxy
  · obtain ⟨p, hp, rfl, rfl⟩ := hget k b hk
    rw [R0_at p.1 (h p hp).1] at hx
    cases hx
    exact ⟨(h p hp).2.1, fun q => (by cases q)⟩

theorem Laid.kept {w w' : World} {gs : List (Nat × Array Value)} (h : Laid w gs) (hf : Fr No w w') : Laid w' gs := by
  intro p hp
  obtain ⟨h1, h2, ⟨c, e, f, h3⟩, h4, h5⟩ := h p hp
  exact ⟨h1, Nat.lt_of_lt_of_le h2 hf.size, ⟨c, e, f, (hf.block p.1 h2 (fun q => q)).trans h3⟩, h4, fun i v hv => hf.cell (h5 i v hv) (fun q => q)⟩
end
/-- What is given to the evaluator: contracts of functions that are known; which functions are called as if they were arithmetic (in a memory of their own, of the package's variables alone); those variables. -/
structure Env where
  K : FuncId → Array Value → Option Value
  is : FuncId → Bool
  gs : List (Nat × Array Value)
/-- A function body, from a run of code. -/
def vRun (P : Program) (rec : Code → VA → VW → Option (VE × VA × VW)) : VCall := fun f args V =>
  match P.funcs[f]? with
  | some fn => match fn.body with
    | some c => if args.size + fn.ntmps ≤ VW.bound then match rec c (VA.init args fn.ntmps) V with
      | some (.normal, a, V1) | some (.ret, a, V1) => match vrun P true (results fn a.arr) V1 with
        | some (v, _) => some (v, V1)
        | none => none
      | _ => none
      else none
    | none => none
  | none => none
def vPureRun (P : Program) (E : Env) (rec : Code → VA → VW → Option (VE × VA × VW)) (f : FuncId) (args : Array Value) : Option Value :=
  match E.K f args with
  | some v => some v
  | none => if E.is f && args.toList.all (plainV 6) then (match vRun P rec f args (VW.init E.gs) with | some (v, _) => if plainV 6 v then some v else none | none => none) else none
def vC (P : Program) (E : Env) (rec : Code → VA → VW → Option (VE × VA × VW)) : Pure := ⟨E.is, vPureRun P E rec⟩
def vBody (P : Program) (E : Env) (rec : Code → VA → VW → Option (VE × VA × VW)) : VCall := fun f args V =>
  match vPureRun P E rec f args with
  | some v => some (v, V)
  | none => vRun P rec f args V

/-- One layer of statements. -/
def evF (P : Program) (E : Env) (rec : Code → VA → VW → Option (VE × VA × VW)) : Code → VA → VW → Option (VE × VA × VW)
  | .skip, a, V => some (.normal, a, V)
  | .label _, a, V => some (.normal, a, V)
  | .exit id, a, V => some (.exit id, a, V)
  | .ret, a, V => some (.ret, a, V)
  | .region _ ops draw, a, V =>
    if draw then (match vDraw P (vC P E rec) (vBody P E rec) ops a V with | some (a, V) => some (.normal, a, V) | none => none)
    else (match vOps P (vBody P E rec) ops ops.toList a V with | some (a, V) => some (.normal, a, V) | none => none)
  | .seq x y, a, V => match rec x a V with
    | some (.normal, a, V) => rec y a V
    | r => r
  | .cond c x y, a, V => match a.eval c with
    | .bool true => rec x a V
    | .bool false => rec y a V
    | _ => none
  | .scope c, a, V => rec c a V
  | .block id c, a, V => match rec c a V with
    | some (.exit i, a, V) => if i = id then some (.normal, a, V) else some (.exit i, a, V)
    | r => r
  | .loop c, a, V => match rec c a V with
    | some (.normal, a, V) => rec (.loop c) a V
    | r => r
  | _, _, _ => none
def ev (P : Program) (E : Env) : Nat → Code → VA → VW → Option (VE × VA × VW)
  | 0, _, _, _ => none
  | n + 1, c, a, V => evF P E (ev P E n) c a V
/-- A call, evaluated. -/
def evCall (P : Program) (E : Env) (n : Nat) : VCall := vBody P E (ev P E n)

/-- A loop whose next round is about to begin. -/
def LoopWp (P : Program) (c : Code) (Q : Exit → Act → World → Prop) (a : Act) (w : World) : Prop :=
  ∀ (b : Frame) (k : List Item) (cs : List Frame), ∃ e a' w', Q e a' w' ∧ Arrives P (lone (b.at a (.code c :: .inLoop c :: k)) cs w) b k cs e a' w'
def CodeWp (P : Program) (Q : Exit → Act → World → Prop) (a : Act) (w : World) : Code → Prop
  | .loop c => LoopWp P c Q a w
  | c => c.wp P Q a w
theorem CodeWp.wp {P : Program} {Q : Exit → Act → World → Prop} {a : Act} {w : World} {c : Code} (h : CodeWp P Q a w c) : c.wp P Q a w := by
  cases c with
  | loop c => exact fun b k cs => let ⟨e, a', w', q, r⟩ := h b k cs; ⟨e, a', w', q, .of_steps (.one step_loop) r⟩
  | _ => exact h
theorem LoopWp.round {P : Program} {Q : Exit → Act → World → Prop} {a : Act} {w : World} {c : Code} (h : c.wp P (Exit.then (fun a' w' => LoopWp P c Q a' w') Q) a w) : LoopWp P c Q a w := by
  intro b k cs
  obtain ⟨e, a₁, w₁, hq, harr⟩ := h b (.inLoop c :: k) cs
  cases e with
  | normal =>
    obtain ⟨e₂, a₂, w₂, hq₂, harr₂⟩ := hq b k cs
    exact ⟨e₂, a₂, w₂, hq₂, .of_steps (Steps.trans harr (.one step_inLoop)) harr₂⟩
  | exit id => exact ⟨_, a₁, w₁, hq, .pass (x := .inLoop c) rfl (fun _ _ => .inl (by simp)) harr⟩
  | goto l => exact ⟨_, a₁, w₁, hq, .pass (x := .inLoop c) rfl (fun _ _ => .inl (by simp)) harr⟩
  | ret => exact ⟨_, a₁, w₁, hq, .pass (x := .inLoop c) rfl (fun _ _ => .inl (by simp)) harr⟩
  | panic ch => exact ⟨_, a₁, w₁, hq, .pass (x := .inLoop c) rfl (fun _ _ => .inl (by simp)) harr⟩
  | outgrown => exact ⟨_, a₁, w₁, hq, .pass (x := .inLoop c) rfl (fun _ _ => .inl (by simp)) harr⟩

section
variable {P : Program} {w0 : World} {E : Env}

/-- What is known of some functions already. -/
def KOk (P : Program) (E : Env) : Prop :=
  ∀ w0, Laid w0 E.gs → ∀ f args v, E.K f args = some v → ∀ R args' w', AsR R args args' → Fr No w0 w' → Calls P f args' w' fun e w1 => ∃ v', e = .returned v' ∧ VR R v v' ∧ Fr No w' w1
def RecOk (P : Program) (w0 : World) (rec : Code → VA → VW → Option (VE × VA × VW)) : Prop :=
  ∀ c a V e a1 V1, rec c a V = some (e, a1, V1) → ∀ R a' w', ActR R a a' → WR w0 R V w' → ∀ Q : Exit → Act → World → Prop,
    (∀ R1 a1' w1, Le R R1 → ActR R1 a1 a1' → WR w0 R1 V1 w1 → Q e.real a1' w1) → CodeWp P Q a' w' c

theorem actR_init {R : Ren} {args args' : Array Value} (h : AsR R args args') {m : Nat} (hb : args.size + m ≤ VW.bound) : ActR R (VA.init args m) ⟨args' ++ Array.replicate (m - args'.size) undef, []⟩ := by
  have key : ∀ k, (VA.init args m).t.get k = args[k]? := fun k => by
    unfold VA.init
    rw [setL_get _ _ _ k (by rw [Array.length_toList]; omega), if_pos (Nat.zero_le k), Nat.sub_zero, Array.getElem?_toList, T.get_leaf]
    cases args[k]? <;> rfl
  have hs := h.size
  refine ⟨?_, ?_, fun i hi => ?_, fun i v' hv => ?_, rfl⟩
  · show args.size + (m - args.size) = (args' ++ Array.replicate (m - args'.size) undef).size
    rw [Array.size_append, Array.size_replicate, hs]
  · show args.size + (m - args.size) ≤ VW.bound
    omega
  · have hi : args.size + (m - args.size) ≤ i := hi
    rw [key, Array.getElem?_eq_none (by omega)]
  · have hv : (args' ++ Array.replicate (m - args'.size) undef)[i]? = some v' := hv
    unfold VA.get
    rw [key]
    rw [Array.getElem?_append] at hv
    split at hv
    · rename_i hlt
      have hlt : i < args'.size := hlt
      have hlt2 : i < args.size := by omega
      rw [Array.getElem?_eq_getElem hlt2]
      exact h.at_ i _ v' (Array.getElem?_eq_getElem hlt2) hv
    · rename_i hge
      rw [Array.getElem?_eq_none (by omega)]
      rw [Array.getElem?_replicate] at hv
      split at hv
      · cases hv; exact vr_undef
      · cases hv
theorem run_ok {rec : Code → VA → VW → Option (VE × VA × VW)} (hr : RecOk P w0 rec) : CallOk P w0 (vRun P rec) := by
  intro f args V v V1 h R args' w' ha hW
  unfold vRun at h
  split at h
  · rename_i fn hfn
    split at h
    · rename_i c hb
      split at h
      case isFalse => cases h
      rename_i hbound
      have hact : ActR R (VA.init args fn.ntmps) ⟨args' ++ Array.replicate (fn.ntmps - args'.size) undef, []⟩ := actR_init ha hbound
      have fin : ∀ (e : VE) (a : VA) (V2 : VW), e.real = .normal ∨ e.real = .ret → rec c (VA.init args fn.ntmps) V = some (e, a, V2) → (match vrun P true (results fn a.arr) V2 with | some (v, _) => some (v, V2) | none => none) = some (v, V1) →
          Calls P f args' w' fun e w1 => ∃ R1 v', Le R R1 ∧ e = .returned v' ∧ WR w0 R1 V1 w1 ∧ VR R1 v v' := by
        intro e a V2 he hrec hres
        split at hres
        · rename_i u V3 hu
          cases hres
          refine calls_of_wp hfn hb (CodeWp.wp (hr c _ V e a V1 hrec R _ w' hact hW _ fun R1 a1' w1 hl ha1 hW1 => ?_))
          obtain ⟨v', h1, h2⟩ := ro_run (sim_results (P := P) (w0 := w0) (V := V1) (w' := w1) fn ha1.arr) hW1 hu
          rcases he with he | he <;> rw [he] <;> exact ⟨ha1.def2, v', h1, R1, v', hl, rfl, hW1, h2⟩
        · cases hres
      split at h
      · rename_i a V2 hrec
        exact fin .normal a V2 (.inl rfl) hrec h
      · rename_i a V2 hrec
        exact fin .ret a V2 (.inr rfl) hrec h
      · cases h
    · cases h
  · cases h
theorem pureRun_ok (hK : KOk P E) {rec : Code → VA → VW → Option (VE × VA × VW)} (hr : ∀ w0, Laid w0 E.gs → RecOk P w0 rec) (hL : Laid w0 E.gs) : PureOk P w0 (vC P E rec) := by
  intro f args v h R args' w' ha hf
  have h : vPureRun P E rec f args = some v := h
  unfold vPureRun at h
  split at h
  · rename_i u hu
    cases h
    exact hK w0 hL f args v hu R args' w' ha hf
  · split at h
    · rename_i hp
      simp only [Bool.and_eq_true] at hp
      split at h
      · rename_i u V1 hu
        split at h
        · rename_i hpl
          cases h
          have hL' := hL.kept hf
          have he : args' = args := arr_eq ha.size fun i x x' h1 h2 => plain_eq 6 x x' (List.all_eq_true.1 hp.2 x (Array.mem_toList_iff.2 (Array.mem_of_getElem? h1))) (ha.at_ i x x' h1 h2)
          subst he
          have hargs : AsR R0 args' args' := ⟨rfl, fun i x x' h1 h2 => by
            rw [h1] at h2
            cases h2
            exact plain_vr 6 x (List.all_eq_true.1 hp.2 x (Array.mem_toList_iff.2 (Array.mem_of_getElem? h1))) R0⟩
          refine (run_ok (hr w' hL') f args' _ v V1 hu R0 args' w' hargs (WR.init hL')).mono fun e w1 ⟨R1, v', _, he, hW, hv⟩ => ?_
          exact ⟨v', he, by rw [plain_eq 6 v v' hpl hv]; exact plain_vr 6 v hpl R, hW.fr⟩
        · cases h
      · cases h
    · cases h
theorem body_ok (hK : KOk P E) {rec : Code → VA → VW → Option (VE × VA × VW)} (hr : ∀ w0, Laid w0 E.gs → RecOk P w0 rec) (hL : Laid w0 E.gs) : CallOk P w0 (vBody P E rec) := by
  intro f args V v V1 h R args' w' ha hW
  unfold vBody at h
  split at h
  · rename_i u hu
    cases h
    exact (pureRun_ok hK hr hL f args v hu R args' w' ha hW.fr).mono fun e w1 ⟨v', h1, h2, h3⟩ => ⟨R, v', Le.refl R, h1, hW.kept h3, h2⟩
  · exact run_ok (hr w0 hL) f args V v V1 h R args' w' ha hW

theorem evF_ok (hz : Zeros P) (hK : KOk P E) {rec : Code → VA → VW → Option (VE × VA × VW)} (hrs : ∀ w0, Laid w0 E.gs → RecOk P w0 rec) (hL : Laid w0 E.gs) : RecOk P w0 (evF P E rec) := by
  intro c a V e a1 V1 h R a' w' ha hW Q hQ
  have hc := body_ok hK hrs hL
  have hp := pureRun_ok hK hrs hL
  have hr := hrs w0 hL
  cases c with
  | skip => cases h; exact wp_skip (hQ R a' w' (Le.refl R) ha hW)
  | label l => cases h; exact wp_label (hQ R a' w' (Le.refl R) ha hW)
  | exit id => cases h; exact wp_exit (hQ R a' w' (Le.refl R) ha hW)
  | ret => cases h; exact wp_ret (hQ R a' w' (Le.refl R) ha hW)
  | goto l => cases h
  | scope b =>
    simp only [evF] at h
    show Code.wp _ _ _ _ _
    refine wp_scope_straight (CodeWp.wp (hr b a V e a1 V1 h R a' w' ha hW _ fun R1 a1' w1 hl ha1 hW1 => ?_))
    cases e <;> exact hQ R1 a1' w1 hl ha1 hW1
  | rangeFunc f ps as b => cases h
  | refuse s => cases h
  | region id ops draw =>
    cases draw with
    | true =>
      simp only [evF, if_true] at h
      split at h
      · rename_i a2 V2 hd
        cases h
        exact vDraw_ok hz hc hp hd ha hW (fun R1 a1' w1 => hQ R1 a1' w1) id
      · cases h
    | false =>
      simp only [evF, Bool.false_eq_true, if_false] at h
      split at h
      · rename_i a2 V2 hd
        cases h
        exact wp_region_list (vOps_ok hz hc _ _ _ _ _ _ hd ha hW (fun R1 a1' w1 => hQ R1 a1' w1))
      · cases h
  | seq x y =>
    simp only [evF] at h
    show Code.wp _ _ _ _ _
    refine wp_seq (CodeWp.wp ?_)
    split at h
    · rename_i a2 V2 hx
      exact hr x a V .normal a2 V2 hx R a' w' ha hW _ fun R1 a1' w1 hl ha1 hW1 => CodeWp.wp (hr y a2 V2 e a1 V1 h R1 a1' w1 ha1 hW1 Q fun R2 a2' w2 hl2 => hQ R2 a2' w2 (hl.trans hl2))
    · rename_i hne
      refine hr x a V e a1 V1 h R a' w' ha hW _ fun R1 a1' w1 hl ha1 hW1 => ?_
      cases e with
      | normal => exact absurd h (hne _ _)
      | exit id => exact hQ R1 a1' w1 hl ha1 hW1
      | ret => exact hQ R1 a1' w1 hl ha1 hW1
  | cond c x y =>
    simp only [evF] at h
    show Code.wp _ _ _ _ _
    have hev : ∀ b, a.eval c = .bool b → a'.eval c = .bool b := fun b hb => by
      cases c with
      | tmp t =>
        have hv : VR R (a.eval (.tmp t)) (a'.eval (.tmp t)) := ha.eval hW.glob (.tmp t) rfl
        rw [hb] at hv
        revert hv
        generalize a'.eval (.tmp t) = z
        intro hv
        cases hv
        rfl
      | _ => exact hb
    split at h
    · rename_i hb
      exact wp_cond_true (hev _ hb) (CodeWp.wp (hr x a V e a1 V1 h R a' w' ha hW Q hQ))
    · rename_i hb
      exact wp_cond_false (hev _ hb) (CodeWp.wp (hr y a V e a1 V1 h R a' w' ha hW Q hQ))
    · cases h
  | block id b =>
    simp only [evF] at h
    show Code.wp _ _ _ _ _
    refine wp_block (CodeWp.wp ?_)
    split at h
    · rename_i i a2 V2 hx
      refine hr b a V (.exit i) a2 V2 hx R a' w' ha hW _ fun R1 a1' w1 hl ha1 hW1 => ?_
      show if i = id then Q .normal a1' w1 else Q (.exit i) a1' w1
      split at h
      · rename_i e1
        cases h
        rw [if_pos e1]; exact hQ R1 a1' w1 hl ha1 hW1
      · rename_i e1
        cases h
        rw [if_neg e1]; exact hQ R1 a1' w1 hl ha1 hW1
    · rename_i hne
      refine hr b a V e a1 V1 h R a' w' ha hW _ fun R1 a1' w1 hl ha1 hW1 => ?_
      cases e with
      | normal => exact hQ R1 a1' w1 hl ha1 hW1
      | exit i => exact absurd h (hne _ _ _)
      | ret => exact hQ R1 a1' w1 hl ha1 hW1
  | loop b =>
    simp only [evF] at h
    show LoopWp P b Q a' w'
    refine LoopWp.round (CodeWp.wp ?_)
    split at h
    · rename_i a2 V2 hx
      exact hr b a V .normal a2 V2 hx R a' w' ha hW _ fun R1 a1' w1 hl ha1 hW1 => hr (.loop b) a2 V2 e a1 V1 h R1 a1' w1 ha1 hW1 Q fun R2 a2' w2 hl2 => hQ R2 a2' w2 (hl.trans hl2)
    · rename_i hne
      refine hr b a V e a1 V1 h R a' w' ha hW _ fun R1 a1' w1 hl ha1 hW1 => ?_
      cases e with
      | normal => exact absurd h (hne _ _)
      | exit id => exact hQ R1 a1' w1 hl ha1 hW1
      | ret => exact hQ R1 a1' w1 hl ha1 hW1
theorem ev_ok (hz : Zeros P) (hK : KOk P E) : ∀ n w0, Laid w0 E.gs → RecOk P w0 (ev P E n)
  | 0, _, _ => fun c a V e a1 V1 h => by cases h
  | n + 1, w0, hL => fun c a V e a1 V1 h => evF_ok hz hK (ev_ok hz hK n) hL c a V e a1 V1 h
theorem evCall_ok (hz : Zeros P) (hK : KOk P E) (hL : Laid w0 E.gs) (n : Nat) : CallOk P w0 (evCall P E n) := body_ok hK (ev_ok hz hK n) hL

/-- Do the zero values of a program's types hold no addresses, and have they their types' sizes? -/
def zerosOk (P : Program) : Bool := P.types.toList.all fun i => match i.zero with | some v => plainV 6 v && decide (v.cells.size = i.size) | none => true
theorem zeros_of (h : zerosOk P = true) : Zeros P := by
  have key : ∀ t i v, t < P.types.size → P.info? t = some i → i.zero = some v → plainV 6 v = true ∧ v.cells.size = i.size := fun t i v ht hi hv => by
    have hm : i ∈ P.types.toList := by
      rw [Array.mem_toList_iff]
      unfold Tables.info? at hi
      rw [if_pos ht] at hi
      exact Array.mem_of_getElem? hi
    have := List.all_eq_true.1 h i hm
    rw [hv] at this
    simpa using this
  exact ⟨fun t i v ht hi hv R => plain_vr 6 v (key t i v ht hi hv).1 R, fun t i v ht hi hv => (key t i v ht hi hv).2⟩
/-- Nothing known beforehand. -/
def env (fs : List FuncId) (gs : List (Nat × Array Value)) : Env := ⟨fun _ _ => none, fs.contains, gs⟩
theorem env_ok (fs : List FuncId) (gs : List (Nat × Array Value)) : KOk P (env fs gs) := fun _ _ f args v h => by cases h

/-- A closed call that the evaluator has brought to an end with a bool. -/
theorem closed_call (hz : zerosOk P = true) (fs : List FuncId) (gs : List (Nat × Array Value)) (hL : Laid w0 gs) (n : Nat) (f : FuncId) (b : Bool) (h : (match evCall P (env fs gs) n f #[] (VW.init gs) with | some (.bool c, _) => c == b | _ => false) = true) :
    Calls P f #[] w0 fun e w1 => e = .returned (.bool b) ∧ Fr No w0 w1 := by
  split at h
  · rename_i c V1 hc
    have hcb : c = b := by simpa using h
    subst hcb
    refine (evCall_ok (E := env fs gs) (zeros_of hz) (env_ok fs gs) hL n f #[] _ _ V1 hc R0 #[] w0 (AsR.nil R0) (WR.init hL)).mono fun e w1 ⟨R1, v', _, he, hW, hv⟩ => ?_
    cases hv
    exact ⟨he, hW.fr⟩
  · cases h
end
end Vm
end Go.Proofs.YtkfefdjbihmblaaDoor

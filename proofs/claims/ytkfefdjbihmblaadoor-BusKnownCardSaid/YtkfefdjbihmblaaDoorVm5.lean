/-
  An evaluator for closed calls, part 5: the model's instructions, one by one.
-/
import Derived.Test.YtkfefdjbihmblaaDoorVm4
namespace Go.Proofs.YtkfefdjbihmblaaDoor
open Go Go.RowKit

namespace Vm

section
variable {P : Program} {w0 : World} {R : Ren} {V : VW} {w' : World}

/-- Is there no address in it? -/
def plainV : Nat → Value → Bool
  | 0, _ => false
  | n + 1, v => match v with
    | .bool _ | .int _ _ | .float _ _ | .complex _ _ _ | .string _ | .pointer none | .slice none _ _ | .map none | .nilFunc | .nilIface => true
    | .func _ a b => a.isEmpty && b.isEmpty
    | .iface _ v => plainV n v
    | .agg a | .tuple a => a.toList.all (plainV n)
    | _ => false
theorem plain_all {n : Nat} (ih : ∀ v, plainV n v = true → ∀ R, VR R v v) {a : Array Value} (h : a.toList.all (plainV n) = true) (R : Ren) : ∀ (i : Nat) v v', a[i]? = some v → a[i]? = some v' → VR R v v' := fun i v v' h1 h2 => by
  rw [h1] at h2
  cases h2
  exact ih v (List.all_eq_true.1 h v (Array.mem_toList_iff.2 (Array.mem_of_getElem? h1))) R
theorem plain_vr : ∀ (n : Nat) (v : Value), plainV n v = true → ∀ R, VR R v v
  | 0, v, h, _ => by simp [plainV] at h
  | n + 1, v, h, R => by
    cases v with
    | bool b => exact .bool b
    | int k n => exact .int k n
    | float k n => exact .float k n
    | complex k n m => exact .complex k n m
    | string s => exact .string s
    | pointer a => cases a with
      | none => exact .ptrN
      | some a => simp [plainV] at h
    | slice a l c => cases a with
      | none => exact .sliceN l c
      | some a => simp [plainV] at h
    | map a => cases a with
      | none => exact .mapN
      | some a => simp [plainV] at h
    | chan a => simp [plainV] at h
    | func fn a b =>
      simp only [plainV, Bool.and_eq_true, Array.isEmpty_iff] at h
      obtain ⟨rfl, rfl⟩ := h
      exact .func fn rfl (fun i v v' h => by simp at h) rfl (fun i v v' h => by simp at h)
    | nilFunc => exact .nilFunc
    | iface t v => exact .iface t (plain_vr n v h R)
    | nilIface => exact .nilIface
    | agg a => exact .agg rfl (plain_all (plain_vr n) h R)
    | tuple a => exact .tuple rfl (plain_all (plain_vr n) h R)
theorem arr_eq {a a' : Array Value} (hs : a.size = a'.size) (h : ∀ (i : Nat) v v', a[i]? = some v → a'[i]? = some v' → v' = v) : a' = a := by
  apply Array.ext hs.symm
  intro i h1 h2
  exact h i _ _ (Array.getElem?_eq_getElem h2) (Array.getElem?_eq_getElem h1)
theorem plain_eq : ∀ (n : Nat) (v v' : Value), plainV n v = true → VR R v v' → v' = v
  | 0, v, _, h, _ => by simp [plainV] at h
  | n + 1, v, v', h, hv => by
    have all : ∀ (a : Array Value), a.toList.all (plainV n) = true → ∀ (i : Nat) u, a[i]? = some u → plainV n u = true := fun a ha i u hu =>
      List.all_eq_true.1 ha u (Array.mem_toList_iff.2 (Array.mem_of_getElem? hu))
    cases hv with
    | bool b => rfl
    | int k n => rfl
    | float k n => rfl
    | complex k n m => rfl
    | string s => rfl
    | ptrN => rfl
    | ptr h' => simp [plainV] at h
    | sliceN l c => rfl
    | slice h' hc => simp [plainV] at h
    | sliceO => simp [plainV] at h
    | mapN => rfl
    | map h' => simp [plainV] at h
    | func fn ha h1 hb h2 =>
      simp only [plainV, Bool.and_eq_true, Array.isEmpty_iff] at h
      obtain ⟨rfl, rfl⟩ := h
      rw [arr_eq ha (fun i v v' h => by simp at h), arr_eq hb (fun i v v' h => by simp at h)]
    | nilFunc => rfl
    | iface t h' => rw [plain_eq n _ _ h h']
    | nilIface => rfl
    | agg ha h' => rw [arr_eq ha fun i u u' h1 h2 => plain_eq n u u' (all _ h i u h1) (h' i u u' h1 h2)]
    | tuple ha h' => rw [arr_eq ha fun i u u' h1 h2 => plain_eq n u u' (all _ h i u h1) (h' i u u' h1 h2)]

/-- A run that looks at no memory. -/
def pureRun {α : Type} (P : Program) (m : Sem α) : Option α := (vrun P true m VW.empty).map (·.1)
theorem vrun_empty {α : Type} (m : Sem α) : ∀ {x : α × VW}, vrun P true m VW.empty = some x → ∀ w, m.run P w = .ok x.1 w := by
  induction m with
  | pure a => intro x h w; cases h; rfl
  | load md a k ih =>
    intro x h w
    have : VW.empty.cell a = none := by
      unfold VW.cell VW.row
      rw [VW.get_empty]
      cases a.spot <;> rfl
    simp only [vrun, this] at h
    cases h
  | store md a v k ih => intro x h w; cases v <;> (simp [vrun] at h)
  | new o k ih => intro x h w; simp [vrun] at h
  | shape r k ih => intro x h w; simp [vrun] at h
  | freeze a n k ih => intro x h w; simp [vrun] at h
  | frozen a k ih => intro x h w; simp [vrun] at h
  | getObj r k ih =>
    intro x h w
    have : VW.empty.obj r = none := by
      unfold VW.obj
      rw [VW.get_empty]
    simp only [vrun, this] at h
    cases h
  | setObj r o k ih => intro x h w; simp [vrun] at h
  | choose q k ih =>
    intro x h w
    simp only [vrun] at h
    split at h
    · rename_i hq
      simp only [Sem.run, hq, if_true]
      exact ih _ h w
    · cases h
  | sys c k ih => intro x h w; simp [vrun] at h
  | program k ih => intro x h w; exact ih _ h w
  | mark mk k ih => intro x h w; exact ih h w
  | halt hh => intro x h w; simp [vrun] at h
theorem pureRun_run {α : Type} {m : Sem α} {a : α} (h : pureRun P m = some a) (w : World) : m.run P w = .ok a w := by
  unfold pureRun at h
  cases e : vrun P true m VW.empty with
  | none => rw [e] at h; cases h
  | some x =>
    rw [e] at h
    cases h
    exact vrun_empty m e w

/-! ### Small readers of values. -/
theorem sim_asIntOf {v v' : Value} (h : VR R v v') : Sim P w0 R V w' (asIntOf v) (asIntOf v') (fun _ a b => a = b) := by
  cases h <;> first | exact Sim.pure rfl | exact Sim.halt
theorem sim_asInt {v v' : Value} (h : VR R v v') : Sim P w0 R V w' (asInt v) (asInt v') (fun _ a b => a = b) := by
  cases h <;> first | exact Sim.pure rfl | exact Sim.haltB | exact Sim.halt
theorem sim_asAgg {v v' : Value} (h : VR R v v') : Sim P w0 R V w' (asAgg v) (asAgg v') AsR := by
  cases h <;> first | exact Sim.pure ⟨‹_›, ‹_›⟩ | exact Sim.halt
theorem sim_sureAddr {v v' : Value} (h : VR R v v') : Sim P w0 R V w' (Instr.sureAddr v) (Instr.sureAddr v') AR := by
  cases h <;> first | exact Sim.pure ‹_› | exact Sim.halt
theorem sim_loadAt {v v' : Value} (h : VR R v v') (t : TypeId) : Sim P w0 R V w' (Instr.loadAt t v) (Instr.loadAt t v') VR :=
  (sim_sureAddr h).bind fun _ _ _ _ _ _ ha => sim_loadVar ha t
theorem sim_storeAt {v v' x x' : Value} (h : VR R v v') (hx : VR R x x') (t : TypeId) : Sim P w0 R V w' (Instr.storeAt t v x) (Instr.storeAt t v' x') (fun _ _ _ => True) :=
  (sim_sureAddr h).bind fun _ _ _ _ _ hl ha => sim_storeVar ha t (hx.mono hl)
theorem sim_alloc (hz : Zeros P) (e : TypeId) (he : e < P.types.size) : Sim P w0 R V w' (Instr.alloc e true (.tuple #[])) (Instr.alloc e true (.tuple #[])) VR := by
  unfold Instr.alloc
  refine (sim_zero hz e he).bind fun R1 V1 w1 a b hl h => ?_
  refine (sim_newVar e h.2).bind fun R2 V2 w2 x y hl2 hx => Sim.pure (.ptr hx)
theorem sim_box (e : TypeId) {v v' : Value} (h : VR R v v') : Sim P w0 R V w' (Instr.box e v) (Instr.box e v') VR :=
  (sim_newVar e h).bind fun _ _ _ _ _ _ hx => Sim.pure (.ptr hx)
theorem sim_extract {v v' : Value} (h : VR R v v') (i : Nat) : Sim P w0 R V w' (Instr.extract v i) (Instr.extract v' i) VR := by
  cases h with
  | tuple ha hh =>
    have hs : AsR R _ _ := ⟨ha, hh⟩
    unfold Instr.extract
    rcases hs.opt i with ⟨h1, h2⟩ | ⟨v, v', h1, h2, h3⟩
    · simp only [h1, h2]; exact Sim.halt
    · simp only [h1, h2]; exact Sim.pure h3
  | _ => exact Sim.halt
theorem sim_makeInterface {v v' : Value} (h : VR R v v') (t : TypeId) : Sim P w0 R V w' (Instr.makeInterface t v) (Instr.makeInterface t v') VR := by
  unfold Instr.makeInterface
  refine (Sim.stat (stat_underlying t)).bind fun R1 V1 w1 d d' hl e => ?_
  subst e
  split
  · exact Sim.halt
  · exact Sim.pure (.iface t (h.mono hl))
theorem sim_field {v v' : Value} (h : VR R v v') (t : TypeId) (f : Nat) : Sim P w0 R V w' (Instr.field t v f) (Instr.field t v' f) VR := by
  unfold Instr.field
  refine (Sim.stat (stat_underlying t)).bind fun R1 V1 w1 d d' hl e => ?_
  subst e
  split
  · rename_i fields
    split
    · exact (sim_asAgg (h.mono hl)).bind fun _ _ _ _ _ _ hc => sim_part _ hc _
    · exact Sim.halt
  · exact Sim.halt
theorem sim_fieldPlace {a a' : Addr} (h : AR R a a') (f : Field) : Sim P w0 R V w' (fieldPlace a f) (fieldPlace a' f) AR := by
  unfold fieldPlace
  refine (Sim.stat (stat_sizeOf _)).bind fun R1 V1 w1 d d' hl e => ?_
  subst e
  split
  · intro hW ro x V2 hx
    unfold partAt byteOf noView viewAt at hx
    obtain ⟨y, hy, hs, rfl⟩ := h.ex
    have e : ∀ (k : Option (TypeId × Nat) → Sem Addr), vrun P ro (Sem.shape a.block k) V1 = none := fun k => rfl
    exfalso
    simp only [hs] at hx
    revert hx
    exact fun hx => by cases hx
  · exact Sim.pure ((h.mono hl).add _)
theorem sim_fieldAt {v v' : Value} (h : VR R v v') (t : TypeId) (f : Nat) : Sim P w0 R V w' (Instr.fieldAt t v f) (Instr.fieldAt t v' f) VR := by
  unfold Instr.fieldAt
  refine (Sim.stat (stat_underlying t)).bind fun R1 V1 w1 d d' hl e => ?_
  subst e
  split
  · split
    · refine (sim_sureAddr (h.mono hl)).bind fun R2 V2 w2 a a' hl2 ha => ?_
      exact (sim_fieldPlace ha _).bind fun _ _ _ _ _ _ hc => Sim.pure (.ptr hc)
    · exact Sim.halt
  · exact Sim.halt
end
end Vm
end Go.Proofs.YtkfefdjbihmblaaDoor

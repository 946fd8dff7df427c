/-
  An evaluator for closed calls, part 8m: maps whose keys are integers.
-/
import Derived.Test.YtkfefdjbihmblaaDoorVm8
namespace Go.Proofs.YtkfefdjbihmblaaDoor
open Go Go.RowKit

namespace Vm

/-- A map's key type and element type, where the key is an integer. -/
def mapT (P : Program) (t : TypeId) : Option (TypeId × IntKind × TypeId) :=
  match P.underlying t with
  | some (.map kt el) => match P.underlying kt with
    | some (.int q) => some (kt, q, el)
    | _ => none
  | _ => none
def zeroOf (P : Program) (t : TypeId) : Option Value := if t < P.types.size then (P.info? t).bind (·.zero) else none
def withOk (ok : Bool) (v : Value) (b : Bool) : Value := if ok then .tuple #[v, .bool b] else v
def vLookup (P : Program) (t : TypeId) (m k : Value) (ok : Bool) (V : VW) : Option Value :=
  match mapT P t, k with
  | some (_, q, el), .int kk kn =>
    match m with
    | .map none => match zeroOf P el with
      | some z => some (withOk ok z false)
      | none => none
    | .map (some r) => match V.obj r with
      | some b => match b.obj with
        | .map es _ => match Instr.findNow (.int q) (.int kk kn) es.toList 0 with
          | some (some (_, v)) => some (withOk ok v true)
          | some none => match zeroOf P el with
            | some z => some (withOk ok z false)
            | none => none
          | none => none
        | _ => none
      | none => none
    | _ => none
  | _, _ => none
def vUpdate (P : Program) (t : TypeId) (m k x : Value) (V : VW) : Option VW :=
  match mapT P t, k with
  | some (_, q, _), .int kk kn =>
    match m with
    | .map (some r) => match V.obj r with
      | some b => match b.obj with
        | .map es ck => match Instr.findNow (.int q) (.int kk kn) es.toList 0 with
          | some (some (i, _)) => some (V.put r { b with obj := .map (es.modify i fun e => { e with key := .int kk kn, val := x }) ck })
          | some none => some (V.put r { b with obj := .map (es.push { key := .int kk kn, val := x, born := ck }) (ck + 1) })
          | none => none
        | _ => none
      | none => none
    | _ => none
  | _, _ => none

section
variable {P : Program} {w0 : World} {R : Ren} {V : VW} {w' : World}

/-- Two lists of entries. -/
def LeR (R : Ren) : List MapEntry → List MapEntry → Prop
  | [], [] => True
  | e :: l, f :: m => VR R e.key f.key ∧ VR R e.val f.val ∧ e.born = f.born ∧ LeR R l m
  | _, _ => False
theorem LeR.of_at : ∀ (l m : List MapEntry), l.length = m.length → (∀ (i : Nat) e f, l[i]? = some e → m[i]? = some f → VR R e.key f.key ∧ VR R e.val f.val ∧ e.born = f.born) → LeR R l m
  | [], [], _, _ => trivial
  | e :: l, f :: m, hs, h => by
    obtain ⟨h1, h2, h3⟩ := h 0 e f rfl rfl
    exact ⟨h1, h2, h3, LeR.of_at l m (by simpa using hs) fun i u u' h1 h2 => h (i + 1) u u' (by simpa using h1) (by simpa using h2)⟩
  | [], _ :: _, hs, _ => by simp at hs
  | _ :: _, [], hs, _ => by simp at hs
theorem EsR.list {es es' : Array MapEntry} (h : EsR R es es') : LeR R es.toList es'.toList :=
  LeR.of_at _ _ (by simpa using h.size) fun i e f h1 h2 => h.at_ i e f (by simpa using h1) (by simpa using h2)
theorem sameNow_rel {d : TypeDesc} {kk : IntKind} {kn : Int} {v v' : Value} (h : VR R v v') : Instr.sameNow d (.int kk kn) v' = Instr.sameNow d (.int kk kn) v := by
  cases d <;> cases h <;> rfl
theorem findNow_rel {d : TypeDesc} {kk : IntKind} {kn : Int} : ∀ (l m : List MapEntry) (i : Nat), LeR R l m →
    (Instr.findNow d (.int kk kn) l i = none ∧ Instr.findNow d (.int kk kn) m i = none) ∨ (Instr.findNow d (.int kk kn) l i = some none ∧ Instr.findNow d (.int kk kn) m i = some none) ∨
      ∃ j v v', Instr.findNow d (.int kk kn) l i = some (some (j, v)) ∧ Instr.findNow d (.int kk kn) m i = some (some (j, v')) ∧ VR R v v'
  | [], [], i, _ => .inr (.inl ⟨rfl, rfl⟩)
  | e :: l, f :: m, i, h => by
    obtain ⟨h1, h2, _, h4⟩ := h
    unfold Instr.findNow
    rw [sameNow_rel h1]
    split
    · exact .inr (.inr ⟨i, _, _, rfl, rfl, h2⟩)
    · exact findNow_rel l m (i + 1) h4
    · exact .inl ⟨rfl, rfl⟩
  | [], _ :: _, _, h => h.elim
  | _ :: _, [], _, h => h.elim
theorem findNow_at {q kk : IntKind} {kn : Int} : ∀ (l : List MapEntry) (i0 i : Nat) (v : Value), Instr.findNow (.int q) (.int kk kn) l i0 = some (some (i, v)) →
    ∃ (j : Nat) (e : MapEntry), i = i0 + j ∧ l[j]? = some e ∧ e.val = v ∧ e.key = .int kk kn
  | [], i0, i, v, h => by simp [Instr.findNow] at h
  | e :: l, i0, i, v, h => by
    unfold Instr.findNow at h
    split at h
    · rename_i hs
      cases h
      refine ⟨0, e, rfl, rfl, rfl, ?_⟩
      cases hk : e.key <;> rw [hk] at hs <;> simp [Instr.sameNow] at hs
      obtain ⟨rfl, h2⟩ := hs
      rw [h2]
    · obtain ⟨j, f, h1, h2, h3⟩ := findNow_at l (i0 + 1) i v h
      exact ⟨j + 1, f, by omega, by simpa using h2, h3⟩
    · cases h
theorem mapT_spec {t kt el : TypeId} {q : IntKind} (h : mapT P t = some (kt, q, el)) : P.underlying t = some (.map kt el) ∧ P.underlying kt = some (.int q) := by
  unfold mapT at h
  split at h
  · rename_i kt' el' h1
    split at h
    · rename_i q' h2
      cases h
      exact ⟨h1, h2⟩
    · cases h
  · cases h
theorem checkKey_run {kt : TypeId} {q kk : IntKind} {kn : Int} (h : P.underlying kt = some (.int q)) (e : Bool) (w : World) : (Instr.checkKey e 10000 kt (.int kk kn)).run P w = .ok () w := by
  show Sem.run P ((underlying kt) >>= _) w = _
  rw [Sem.run_bind, run_underlying h]
  rfl
theorem findKey_run {kt : TypeId} {q : IntKind} {k : Value} (h : P.underlying kt = some (.int q)) {l : List MapEntry} {r : Option (Nat × Value)} (hf : Instr.findNow (.int q) k l 0 = some r) (w : World) : (Instr.findKey kt k l).run P w = .ok r w := by
  unfold Instr.findKey
  rw [Sem.run_bind, run_underlying h]
  show Sem.run P (match Instr.findNow (.int q) k l 0 with | some r => Pure.pure r | none => Instr.findAsking kt k l) w = _
  rw [hf]
  rfl
theorem zeroOf_run (hz : Zeros P) {t : TypeId} {z : Value} (h : zeroOf P t = some z) (w : World) : (zeroValue t).run P w = .ok z w ∧ VR R z z := by
  unfold zeroOf at h
  split at h
  case isFalse => cases h
  rename_i ht
  cases hi : P.info? t with
  | none => rw [hi] at h; cases h
  | some i =>
    rw [hi] at h
    have h : i.zero = some z := h
    exact ⟨by simp [zeroValue, typeInfo, hi, h], hz.plain t i z ht hi h R⟩
theorem withOk_rel {v v' : Value} (h : VR R v v') (ok b : Bool) : VR R (withOk ok v b) (withOk ok v' b) := by
  cases ok
  · exact h
  · exact VR.tuple_ ((AsR.one h).push (.bool b))
/-- The model's map behind one of the evaluator's. -/
theorem WR.map {r : Nat} {b : VB} {es : Array MapEntry} {ck : Nat} (hW : WR w0 R V w') (hb : V.obj r = some b) (he : b.obj = .map es ck) :
    ∃ x es', R[r]? = some x ∧ w'.heap[x.r]? = some (.map es' ck) ∧ EsR R es es' := by
  obtain ⟨h1, h2, _⟩ := VW.obj_some hb
  obtain ⟨x, o', hx, ho, hO⟩ := hW.live r b h1 h2
  unfold ObjR at hO
  rw [he] at hO
  obtain ⟨es', rfl, hR⟩ := hO
  exact ⟨x, es', hx, ho, hR⟩
theorem getObj_run {r : Nat} {es : Array MapEntry} {ck : Nat} {w : World} (h : w.heap[r]? = some (.map es ck)) : (getObj r).run P w = .ok (.map es ck) w := by
  simp [getObj, Sem.run, h]
theorem setObj_run {r : Nat} {es : Array MapEntry} {ck : Nat} {w : World} (h : w.heap[r]? = some (.map es ck)) (o : Obj) : (setObj r o).run P w = .ok () { w with heap := w.heap.setIfInBounds r o } := by
  simp [setObj, Sem.run, h]
theorem vLookup_run (hz : Zeros P) {t : TypeId} {m m' k k' u : Value} {ok : Bool} (h : vLookup P t m k ok V = some u) (hm : VR R m m') (hk : VR R k k') (hW : WR w0 R V w') :
    ∃ u', VR R u u' ∧ (Instr.lookup t m' k' ok).run P w' = .ok u' w' := by
  unfold vLookup at h
  split at h
  · rename_i kt q el kk kn hT
    cases hk
    obtain ⟨hT1, hT2⟩ := mapT_spec hT
    split at h
    · -- a nil map
      split at h
      · rename_i z hz0
        cases h
        cases hm
        obtain ⟨h1, h2⟩ := zeroOf_run (R := R) hz hz0 w'
        refine ⟨withOk ok z false, withOk_rel h2 ok false, ?_⟩
        unfold Instr.lookup
        rw [Sem.run_bind, run_underlying hT1]
        show Sem.run P (Instr.checkKey true 10000 kt (.int kk kn) >>= _) w' = _
        rw [Sem.run_bind, checkKey_run hT2]
        show Sem.run P (Instr.findKey kt (.int kk kn) [] >>= _) w' = _
        rw [Sem.run_bind, findKey_run (r := none) hT2 rfl]
        show Sem.run P (zeroValue el >>= _) w' = _
        rw [Sem.run_bind, h1]
        rfl
      · cases h
    · rename_i r
      split at h
      · rename_i b hb
        split at h
        · rename_i es ck hes
          cases hm with
          | @map _ x hx =>
          obtain ⟨y, es', hy, hheap, hE⟩ := hW.map hb hes
          rw [hx] at hy
          cases hy
          have hfr := findNow_rel (R := R) (d := .int q) (kk := kk) (kn := kn) _ _ 0 hE.list
          split at h
          · rename_i i v hf
            cases h
            rcases hfr with ⟨e1, _⟩ | ⟨e1, _⟩ | ⟨j, v1, v', e1, e2, e3⟩
            · rw [e1] at hf; cases hf
            · rw [e1] at hf; cases hf
            · rw [e1] at hf
              obtain ⟨e4, e5⟩ : j = i ∧ v1 = v := by simpa using hf
              subst e4; subst e5
              refine ⟨withOk ok v' true, withOk_rel e3 ok true, ?_⟩
              unfold Instr.lookup
              rw [Sem.run_bind, run_underlying hT1]
              show Sem.run P (getObj x.r >>= _) w' = _
              rw [Sem.run_bind, getObj_run hheap]
              show Sem.run P (Instr.checkKey es'.isEmpty 10000 kt (.int kk kn) >>= _) w' = _
              rw [Sem.run_bind, checkKey_run hT2]
              show Sem.run P (Instr.findKey kt (.int kk kn) es'.toList >>= _) w' = _
              rw [Sem.run_bind, findKey_run hT2 e2]
              rfl
          · rename_i hf
            split at h
            · rename_i z hz0
              cases h
              obtain ⟨h1, h2⟩ := zeroOf_run (R := R) hz hz0 w'
              rcases hfr with ⟨e1, _⟩ | ⟨_, e2⟩ | ⟨j, v1, v', e1, _, _⟩
              · rw [e1] at hf; cases hf
              · refine ⟨withOk ok z false, withOk_rel h2 ok false, ?_⟩
                unfold Instr.lookup
                rw [Sem.run_bind, run_underlying hT1]
                show Sem.run P (getObj x.r >>= _) w' = _
                rw [Sem.run_bind, getObj_run hheap]
                show Sem.run P (Instr.checkKey es'.isEmpty 10000 kt (.int kk kn) >>= _) w' = _
                rw [Sem.run_bind, checkKey_run hT2]
                show Sem.run P (Instr.findKey kt (.int kk kn) es'.toList >>= _) w' = _
                rw [Sem.run_bind, findKey_run hT2 e2]
                show Sem.run P (zeroValue el >>= _) w' = _
                rw [Sem.run_bind, h1]
                rfl
              · rw [e1] at hf; cases hf
            · cases h
          · cases h
        · cases h
      · cases h
    · cases h
  · cases h

/-- A map of both turns. -/
theorem WR.setMap {r : Nat} {b : VB} {es es2 : Array MapEntry} {ck ck2 : Nat} (hW : WR w0 R V w') (hb : V.obj r = some b) (he : b.obj = .map es ck) {x : RE} (hx : R[r]? = some x) {es' es2' : Array MapEntry} (hheap : w'.heap[x.r]? = some (.map es' ck)) (h2 : EsR R es2 es2') :
    WR w0 R (V.put r { b with obj := .map es2 ck2 }) { w' with heap := w'.heap.setIfInBounds x.r (.map es2' ck2) } := by
  obtain ⟨h1, hl, hrd, _⟩ := VW.obj_some hb
  have hlt : x.r < w'.heap.size := (Array.getElem?_eq_some_iff.1 hheap).1
  refine hW.turn h1 hl hx (o1 := .map es2' ck2) ?_ (fun _ => ⟨es2', rfl, h2⟩) rfl (fun k hk => ?_) (by simp) ?_
  · simp [hlt]
  · show (w'.heap.setIfInBounds x.r _)[k]? = _
    rw [Array.getElem?_setIfInBounds_ne (fun e => hk e.symm)]
  · refine ⟨hW.fr.os, hW.fr.tape, hW.fr.output, by simpa using hW.fr.size, fun k hk hn => ?_⟩
    show (w'.heap.setIfInBounds x.r _)[k]? = _
    rw [Array.getElem?_setIfInBounds_ne (fun e => by have := (hW.new r b x h1 hl hx).2 hrd; omega)]
    exact hW.fr.block k hk hn
theorem vUpdate_run {t : TypeId} {m m' k k' x x' : Value} {V1 : VW} (h : vUpdate P t m k x V = some V1) (hm : VR R m m') (hk : VR R k k') (hx : VR R x x') (hW : WR w0 R V w') :
    ∃ w1, (Instr.mapUpdate t m' k' x').run P w' = .ok () w1 ∧ WR w0 R V1 w1 := by
  unfold vUpdate at h
  split at h
  · rename_i kt q el kk kn hT
    cases hk
    obtain ⟨hT1, hT2⟩ := mapT_spec hT
    split at h
    · rename_i r
      split at h
      · rename_i b hb
        split at h
        · rename_i es ck hes
          cases hm with
          | @map _ y hy =>
          obtain ⟨y2, es', hy2, hheap, hE⟩ := hW.map hb hes
          rw [hy] at hy2
          cases hy2
          have hfr := findNow_rel (R := R) (d := .int q) (kk := kk) (kn := kn) _ _ 0 hE.list
          have start : ∀ (f : Option (Nat × Value)), Instr.findNow (.int q) (.int kk kn) es'.toList 0 = some f → (Instr.mapUpdate t (.map (some y.r)) (.int kk kn) x').run P w' =
              Sem.run P (match f with
                | some (i, _) => do
                  let key ← Instr.keyThatStays (((es'[i]?).map (·.key)).getD (.int kk kn)) (.int kk kn)
                  setObj y.r (.map (es'.modify i fun e => { e with key, val := x' }) ck)
                | none => setObj y.r (.map (es'.push { key := .int kk kn, val := x', born := ck }) (ck + 1))) w' := by
            intro f hf
            unfold Instr.mapUpdate
            rw [Sem.run_bind, run_underlying hT1]
            show Sem.run P (getObj y.r >>= _) w' = _
            rw [Sem.run_bind, getObj_run hheap]
            show Sem.run P (Instr.checkKey false 10000 kt (.int kk kn) >>= _) w' = _
            rw [Sem.run_bind, checkKey_run hT2]
            show Sem.run P (Instr.findKey kt (.int kk kn) es'.toList >>= _) w' = _
            rw [Sem.run_bind, findKey_run hT2 hf]
            cases f <;> rfl
          split at h
          · rename_i i v hf
            cases h
            rcases hfr with ⟨e1, _⟩ | ⟨e1, _⟩ | ⟨j, v1, v', e1, e2, e3⟩
            · rw [e1] at hf; cases hf
            · rw [e1] at hf; cases hf
            · rw [e1] at hf
              obtain ⟨e4, e5⟩ : j = i ∧ v1 = v := by simpa using hf
              subst e4; subst e5
              obtain ⟨j2, e, hj, hej, _, hkey⟩ := findNow_at _ _ _ _ e2
              rw [Nat.zero_add] at hj
              subst hj
              have hej : es'[j]? = some e := by simpa using hej
              refine ⟨_, ?_, hW.setMap hb hes hy hheap (es2' := es'.modify j fun e => { e with key := .int kk kn, val := x' }) ⟨by simpa using hE.size, fun i a b ha hb => ?_⟩⟩
              · rw [start _ e2]
                have hk2 : ((es'[j]?).map (·.key)).getD (.int kk kn) = .int kk kn := by rw [hej]; exact hkey
                show Sem.run P (Instr.keyThatStays (((es'[j]?).map (·.key)).getD (.int kk kn)) (.int kk kn) >>= _) w' = _
                rw [hk2]
                have : (Instr.keyThatStays (.int kk kn) (.int kk kn)).run P w' = .ok (.int kk kn) w' := by
                  unfold Instr.keyThatStays
                  have hsb : Instr.sameBits 10000 (.int kk kn) (.int kk kn) = true := by simp [Instr.sameBits]
                  rw [if_pos hsb]
                  rfl
                rw [Sem.run_bind, this]
                exact setObj_run hheap _
              · rw [Array.getElem?_modify] at ha hb
                split at ha
                · rename_i hij
                  rw [if_pos hij] at hb
                  obtain ⟨a0, ha0, rfl⟩ := Option.map_eq_some_iff.1 ha
                  obtain ⟨b0, hb0, rfl⟩ := Option.map_eq_some_iff.1 hb
                  exact ⟨.int kk kn, hx, (hE.at_ i a0 b0 ha0 hb0).2.2⟩
                · rename_i hij
                  rw [if_neg hij] at hb
                  exact hE.at_ i a b ha hb
          · rename_i hf
            cases h
            rcases hfr with ⟨e1, _⟩ | ⟨_, e2⟩ | ⟨j, v1, v', e1, _, _⟩
            · rw [e1] at hf; cases hf
            · refine ⟨_, ?_, hW.setMap hb hes hy hheap (es2' := es'.push { key := .int kk kn, val := x', born := ck }) ⟨by simp [hE.size], fun i a b ha hb => ?_⟩⟩
              · rw [start _ e2]
                exact setObj_run hheap _
              · rw [Array.getElem?_push] at ha hb
                rw [hE.size] at ha
                split at ha
                · rename_i hij
                  rw [if_pos hij] at hb
                  cases ha; cases hb
                  exact ⟨.int kk kn, hx, rfl⟩
                · rename_i hij
                  rw [if_neg hij] at hb
                  exact hE.at_ i a b ha hb
            · rw [e1] at hf; cases hf
          · cases h
        · cases h
      · cases h
    · cases h
  · cases h
theorem sim_makeMap (t : TypeId) {r r' : Option Value} (hr : OR R r r') : Sim P w0 R V w' (Instr.makeMap t r) (Instr.makeMap t r') VR := by
  have tail : ∀ (R1 : Ren) (V1 : VW) (w1 : World), Sim P w0 R1 V1 w1 (do Pure.pure (.map (some (← newObj (.map #[] 0)))) : Sem Value) (do Pure.pure (.map (some (← newObj (.map #[] 0)))) : Sem Value) VR := fun R1 V1 w1 => by
    have hn : Sim P w0 R1 V1 w1 (Go.newObj (.map #[] 0)) (Go.newObj (.map #[] 0)) (fun R1 a b => ∃ x, R1[a]? = some x ∧ x.r = b ∧ x.d = 0) := by
      refine Sim.new rfl 0 fun R' hl => ?_
      exact ⟨#[], rfl, rfl, fun i e e' h => by simp at h⟩
    refine hn.bind fun R2 V2 w2 a b hl hx => Sim.pure ?_
    obtain ⟨x, h1, rfl, _⟩ := hx
    exact .map h1
  unfold Instr.makeMap
  cases r <;> cases r' <;> first | exact hr.elim | skip
  · exact tail _ _ _
  · refine (Sim.stat (stat_underlying t)).bind fun R1 V1 w1 d d' hl e => ?_
    subst e
    split
    · exact (sim_asInt (VR.mono hl hr)).bind fun R2 V2 w2 _ _ _ _ => tail _ _ _
    · exact Sim.haltB
end
end Vm
end Go.Proofs.YtkfefdjbihmblaaDoor

/-
  An evaluator for closed calls, part 9: one operation.
-/
import Derived.Test.YtkfefdjbihmblaaDoorVm8m
namespace Go.Proofs.YtkfefdjbihmblaaDoor
open Go Go.RowKit

namespace Vm

/-- What an operation comes to. -/
inductive VN where
  | value (v : Value)
  | skip
  | enter (f : FuncId) (args : Array Value)

def okX : Operand → Bool
  | .tmp _ => true
  | .const v => plainV 6 v
  | .global g => decide (g < B0)
  | .func _ => true

/-- A comparison with nil: are they the same? -/
def nilEq (P : Program) (t : TypeId) (x y : Value) : Option Bool :=
  match P.underlying t, x, y with
  | some (.pointer _), .pointer (some _), .pointer none => some false
  | some (.pointer _), .pointer none, .pointer (some _) => some false
  | some (.slice _), .slice (some _) _ _, .slice none _ _ => some false
  | some (.slice _), .slice none _ _, .slice (some _) _ _ => some false
  | some (.map _ _), .map (some _), .map none => some false
  | some (.map _ _), .map none, .map (some _) => some false
  | some (.func _ _ _), .func _ _ _, .nilFunc => some false
  | some (.func _ _ _), .nilFunc, .func _ _ _ => some false
  | some (.interface _), .iface _ _, .nilIface => some false
  | some (.interface _), .nilIface, .iface _ _ => some false
  | _, _, _ => none

/-- A bound of a reslicing. -/
def natOf (d : Nat) : Option Value → Option Nat
  | none => some d
  | some (.int _ n) => if 0 ≤ n then some n.toNat else none
  | _ => none
/-- A reslicing of a slice with as much room as there may be. -/
def vSlice (P : Program) (t : TypeId) (v : Value) (lo hi mx : Option Value) (V : VW) : Option Value :=
  match P.underlying t, v, mx with
  | some (.slice el), .slice (some a) n _, none =>
    match P.info? el, natOf 0 lo, natOf n hi, V.row a.block with
    | some i, some l, some h, some (_, _, b) => if l ≤ h ∧ h ≤ n ∧ b.es = i.size ∧ i.size ≠ 0 then some (.slice (some (a.add (l * i.size))) (h - l) OPEN) else none
    | _, _, _, _ => none
  | some (.slice el), .slice (some a) n _, some mv =>
    match P.info? el, natOf 0 lo, hi, natOf 0 (some mv) with
    | some i, some l, some hv, some m => match natOf 0 (some hv) with
      | some h => if l ≤ h ∧ h ≤ m ∧ m ≤ n ∧ n ≠ 0 ∧ m - l ≠ OPEN then some (.slice (some (if m = l then a else a.add (l * i.size))) (h - l) (m - l)) else none
      | none => none
    | _, _, _, _ => none
  | _, _, _ => none

def vVal (r : Option (Value × VW)) : Option (VN × VW) :=
  match r with
  | some (v, V) => some (.value v, V)
  | none => none
def vCap (r : Option (Value × VW)) : Option (VN × VW) :=
  match r with
  | some (v, V) => if capOk v then some (.value v, V) else none
  | none => none
def vSkip (r : Option (Unit × VW)) : Option (VN × VW) :=
  match r with
  | some (_, V) => some (.skip, V)
  | none => none
def vPure (P : Program) (o : Oper) (ρ : Operand → Value) (V : VW) : Option (VN × VW) :=
  if o.op.operands.all fun x => plainV 6 (ρ x) then
    match pureRun P (execOp ρ o) with
    | some (.value v) => if plainV 6 v then some (.value v, V) else none
    | _ => none
  else none
/-- The text of some bytes: the model's loop. -/
def bts (cs : Array Value) : Sem Value := do
  let mut s := ByteArray.empty
  for c in cs do
    let .int .u8 n := c | stuck "bytesToString: byte expected"
    s := s.push (UInt8.ofNat n.toNat)
  pure (.string s)
def vText (P : Program) (s d : TypeId) (v : Value) (V : VW) : Option Value :=
  match P.underlying s, P.underlying d, v with
  | some (.slice e), some .string, .slice (some a) n c =>
    match P.underlying e with
    | some (.int .u8) =>
      match vrun P true (Builtin.firstCells 1 n (.slice (some a) n c)) V with
      | some (cs, _) => if cs.toList.all (plainV 1) then (match pureRun P (bts cs) with | some v => if plainV 6 v then some v else none | none => none) else none
      | none => none
    | _ => none
  | _, _, _ => none

/-- Cells as they were at first, and what was written since. -/
def mergeL (t : T Value) : List Value → Nat → List Value
  | [], _ => []
  | v :: l, i => (match t.get i with | some u => u | none => v) :: mergeL t l (i + 1)
/-- A large array, loaded whole. -/
def vLoadAll (P : Program) (ty : TypeId) (a : Value) (V : VW) : Option Value :=
  match P.underlying ty, P.info? ty, a with
  | some (.array _ _), some i, .pointer (some ad) =>
    if i.size < 64 ∨ ad.spot ≠ none then none else
    match V.row ad.block with
    | some (c, _, b) => if ((c.toList.drop ad.off).take i.size).length = i.size then some (.agg (mergeL b.ov ((c.toList.drop ad.off).take i.size) ad.off).toArray) else none
    | none => none
  | _, _, _ => none
/-- How many entries a map has. -/
def vMapLen (P : Program) (ts : Array TypeId) (r : Nat) (V : VW) : Option Value :=
  match ts[0]? with
  | some t => match mapT P t, V.obj r with
    | some _, some b => match b.obj with
      | .map es _ => some (goInt es.size)
      | _ => none
    | _, _ => none
  | none => none
/-- One operation. -/
def vop (P : Program) (ro : Bool) (o : Oper) (ρ : Operand → Value) (V : VW) : Option (VN × VW) :=
  match o.op with
  | .move x | .assign x => some (.value (ρ x), V)
  | .pick c a b => match ρ c with
    | .bool t => some (.value (if t then ρ a else ρ b), V)
    | _ => none
  | .alloc e => if e < P.types.size then vVal (vrun P ro (Instr.alloc e true (.tuple #[])) V) else none
  | .box e x => vVal (vrun P ro (Instr.box e (ρ x)) V)
  | .build t ps => if t < P.types.size then vVal (vrun P ro (Instr.build t (ps.map fun (i, x) => (i, ρ x))) V) else none
  | .buildSlice t n ps => if elOk P t then vCap (vrun P ro (Instr.buildSlice t n (ps.map fun (i, x) => (i, ρ x))) V) else none
  | .load t a => match vLoadAll P t (ρ a) V with
    | some v => some (.value v, V)
    | none => vVal (vrun P ro (Instr.loadAt t (ρ a)) V)
  | .store t a x => vSkip (vrun P ro (Instr.storeAt t (ρ a) (ρ x)) V)
  | .nilCheck x => match ρ x with
    | .pointer none | .nilIface | .nilFunc | .func (.method _) _ _ => none
    | v => some (.value v, V)
  | .binOp op t x y _ => match op, nilEq P t (ρ x) (ρ y) with
    | .eql, some b => some (.value (.bool b), V)
    | .neq, some b => some (.value (.bool !b), V)
    | _, _ => vPure P o ρ V
  | .unOp .. => vPure P o ρ V
  | .convert s d x => match vText P s d (ρ x) V with
    | some v => some (.value v, V)
    | none => vPure P o ρ V
  | .makeInterface t x => vVal (vrun P ro (Instr.makeInterface t (ρ x)) V)
  | .makeFunc fn f c => some (.value (.func fn (f.map ρ) (c.map ρ)), V)
  | .makeSlice t l c => if elOk P t then vCap (vrun P ro (Instr.makeSlice t (ρ l) (ρ c)) V) else none
  | .slice t x lo hi mx => if opn (ρ x) then (match vSlice P t (ρ x) (lo.map ρ) (hi.map ρ) (mx.map ρ) V with | some v => some (.value v, V) | none => none) else vCap (vrun P ro (Instr.sliceAt t (ρ x) (lo.map ρ) (hi.map ρ) (mx.map ρ)) V)
  | .fieldAddr s x f => vVal (vrun P ro (Instr.fieldAt s (ρ x) f) V)
  | .field t x f => vVal (vrun P ro (Instr.field t (ρ x) f) V)
  | .indexAddr t x i => vVal (vrun P ro (Instr.indexAt t (ρ x) (ρ i)) V)
  | .index t x i => vVal (vrun P ro (Instr.index t (ρ x) (ρ i)) V)
  | .extract t i => vVal (vrun P ro (Instr.extract (ρ t) i) V)
  | .makeMap t r => vVal (vrun P ro (Instr.makeMap t (r.map ρ)) V)
  | .lookup t m k ok => match vLookup P t (ρ m) (ρ k) ok V with
    | some v => some (.value v, V)
    | none => none
  | .mapUpdate t m k x | .insert t m k x => if ro then none else match vUpdate P t (ρ m) (ρ k) (ρ x) V with
    | some V1 => some (.skip, V1)
    | none => none
  | .call c => match c.callee with
    | .value f => match ρ f with
      | .func (.func g) first cap => match P.funcs[g]? with
        | some fn => if fn.body.isSome && fn.name != "runtime.NumGoroutine" then some (.enter g (first ++ c.args.map ρ ++ cap), V) else none
        | none => none
      | _ => none
    | .builtin .append => if ro then none else match c.args[0]?, c.args[1]? with
      | some s, some x => if c.args.size = 2 then vVal (vAppend P c.argTypes (ρ s) (ρ x) V) else none
      | _, _ => none
    | .builtin .copy => vVal (vrun P ro (Builtin.copy_ c.argTypes o.type (c.args.map ρ)) V)
    | .builtin .len => match c.args[0]? with
      | some x => match ρ x with
        | .map (some r) => match vMapLen P c.argTypes r V with
          | some v => some (.value v, V)
          | none => none
        | _ => vVal (vrun P ro (Builtin.len_ c.argTypes o.type (c.args.map ρ)) V)
      | none => none
    | .builtin _ => vPure P o ρ V
    | _ => none
  | _ => none

/-- How what comes of it and the model's answer stand to each other. -/
def NR (R : Ren) : VN → Next → Prop
  | .value v, .value v' => VR R v v'
  | .skip, .skip => True
  | .enter f a, .enter g b => f = g ∧ AsR R a b
  | _, _ => False

section
variable {P : Program} {w0 : World} {R : Ren} {V : VW} {w' : World}

theorem nilEq_run {t : TypeId} {x y x' y' : Value} {b : Bool} (h : nilEq P t x y = some b) (hx : VR R x x') (hy : VR R y y') (w : World) : (Op.equal t x' y').run P w = .ok b w := by
  unfold nilEq at h
  have key : ∀ d, P.underlying t = some d → ∀ (k : TypeDesc → Sem Bool), ((underlying t) >>= k).run P w = (k d).run P w := fun d hd k => by
    rw [Sem.run_bind, run_underlying hd]; rfl
  split at h <;> first
    | (rename_i hu
       cases h
       cases hx <;> cases hy <;> (show Sem.run P ((underlying t) >>= _) w = _; rw [key _ hu]; rfl))
    | cases h

theorem ρ_all {ρ ρ' : Operand → Value} {xs : Array Operand} (h : ∀ x ∈ xs, VR R (ρ x) (ρ' x)) : AsR R (xs.map ρ) (xs.map ρ') := by
  refine AsR.of_list fun i => ?_
  rw [Array.getElem?_map, Array.getElem?_map]
  cases e : xs[i]? with
  | none => exact .inl ⟨rfl, rfl⟩
  | some x => exact .inr ⟨_, _, rfl, rfl, h x (Array.mem_of_getElem? e)⟩
theorem ps_all {ρ ρ' : Operand → Value} : ∀ (l : List (Nat × Operand)), (∀ p ∈ l, VR R (ρ p.2) (ρ' p.2)) → PsR R (l.map fun (i, x) => (i, ρ x)) (l.map fun (i, x) => (i, ρ' x))
  | [], _ => trivial
  | (i, x) :: l, h => ⟨rfl, h (i, x) (List.mem_cons_self ..), ps_all l fun p hp => h p (List.mem_cons_of_mem _ hp)⟩

/-- The model's answer to one operation. -/
def Fits (P : Program) (w0 : World) (R : Ren) (w' : World) (o : Oper) (ρ' : Operand → Value) (ro : Bool) (n : VN) (V : VW) (V1 : VW) : Prop :=
  ∃ R1 nx w1, Le R R1 ∧ (execOp ρ' o).run P w' = .ok nx w1 ∧ WR w0 R1 V1 w1 ∧ NR R1 n nx ∧ (ro = true → R1 = R ∧ V1 = V ∧ w1 = w')

theorem fits_val {o : Oper} {ρ' : Operand → Value} {ro : Bool} {m m' : Sem Value} {n : VN} {V1 : VW} {Rel : Ren → Value → Value → Prop} (h : vVal (vrun P ro m V) = some (n, V1)) (hs : Sim P w0 R V w' m m' VR) (hW : WR w0 R V w')
    (he : execOp ρ' o = do Pure.pure (.value (← m'))) : Fits P w0 R w' o ρ' ro n V V1 := by
  unfold vVal at h
  split at h
  · rename_i v V2 e
    cases h
    obtain ⟨R1, b, w1, h1, h2, h3, h4, h5⟩ := hs hW ro v V1 e
    refine ⟨R1, .value b, w1, h1, ?_, h3, h4, h5⟩
    rw [he]
    exact run_bind P m' _ h2
  · cases h
theorem fits_cap {o : Oper} {ρ' : Operand → Value} {ro : Bool} {m m' : Sem Value} {n : VN} {V1 : VW} (h : vCap (vrun P ro m V) = some (n, V1)) (hs : Sim P w0 R V w' m m' (fun R1 a b => capOk a = true → VR R1 a b)) (hW : WR w0 R V w')
    (he : execOp ρ' o = do Pure.pure (.value (← m'))) : Fits P w0 R w' o ρ' ro n V V1 := by
  unfold vCap at h
  split at h
  · rename_i v V2 e
    split at h
    · rename_i hc
      cases h
      obtain ⟨R1, b, w1, h1, h2, h3, h4, h5⟩ := hs hW ro v V1 e
      refine ⟨R1, .value b, w1, h1, ?_, h3, h4 hc, h5⟩
      rw [he]
      exact run_bind P m' _ h2
    · cases h
  · cases h
theorem fits_skip {o : Oper} {ρ' : Operand → Value} {ro : Bool} {m m' : Sem Unit} {n : VN} {V1 : VW} (h : vSkip (vrun P ro m V) = some (n, V1)) (hs : Sim P w0 R V w' m m' (fun _ _ _ => True)) (hW : WR w0 R V w')
    (he : execOp ρ' o = do m'; Pure.pure .skip) : Fits P w0 R w' o ρ' ro n V V1 := by
  unfold vSkip at h
  split at h
  · rename_i u V2 e
    cases h
    obtain ⟨R1, b, w1, h1, h2, h3, h4, h5⟩ := hs hW ro u V1 e
    refine ⟨R1, .skip, w1, h1, ?_, h3, trivial, h5⟩
    rw [he]
    exact run_bind P m' _ h2
  · cases h
theorem fits_now {o : Oper} {ρ' : Operand → Value} {ro : Bool} {v v' : Value} (hv : VR R v v') (hW : WR w0 R V w') (he : (execOp ρ' o).run P w' = .ok (.value v') w') : Fits P w0 R w' o ρ' ro (.value v) V V :=
  ⟨R, .value v', w', Le.refl R, he, hW, hv, fun _ => ⟨rfl, rfl, rfl⟩⟩
theorem fits_pure {o : Oper} {ρ ρ' : Operand → Value} {ro : Bool} {n : VN} {V1 : VW} (h : vPure P o ρ V = some (n, V1)) (hρ : ∀ x ∈ o.op.operands, VR R (ρ x) (ρ' x)) (hs : ∀ cs b, o.op ≠ .select cs b) (hW : WR w0 R V w') : Fits P w0 R w' o ρ' ro n V V1 := by
  unfold vPure at h
  split at h
  · rename_i hall
    split at h
    · rename_i v hv
      split at h
      · rename_i hp
        cases h
        have hc : execOp ρ o = execOp ρ' o := execOp_congr o hs fun x hx => by
          have := Array.all_eq_true_iff_forall_mem.1 hall x hx
          exact (plain_eq 6 _ _ this (hρ x hx)).symm
        refine fits_now (plain_vr 6 v hp R) hW ?_
        rw [← hc]
        exact pureRun_run hv w'
      · cases h
    · cases h
  · cases h

theorem sim_len {ts : Array TypeId} {ty : TypeId} {as as' : Array Value} (h : AsR R as as') (hm : ∀ r, as[0]? ≠ some (.map (some r))) : Sim P w0 R V w' (Builtin.len_ ts ty as) (Builtin.len_ ts ty as') VR := by
  unfold Builtin.len_
  cases ts[0]? with
  | none => exact Sim.halt
  | some t =>
    rcases h.opt 0 with ⟨h1, h2⟩ | ⟨d, d', h1, h2, hd⟩
    · rw [h1, h2]; exact Sim.halt
    rw [h1, h2]
    rw [h1] at hm
    refine (Sim.stat (stat_underlying t)).bind fun R1 V1 w1 d d' hl e => ?_
    subst e
    have hd := hd.mono hl
    cases d with
    | array n e => cases hd <;> exact Sim.pure (.int _ _)
    | pointer arr =>
      cases hd <;> (
        refine (Sim.stat (stat_underlying arr)).bind fun R2 V2 w2 d d' hl e => ?_
        subst e
        split
        · exact Sim.pure (.int _ _)
        · exact Sim.halt)
    | map k e => cases hd <;> first | exact Sim.pure (.int _ _) | exact Sim.halt | exact absurd rfl (hm _)
    | _ => cases hd <;> first | exact Sim.pure (.int _ _) | exact Sim.halt
theorem mergeL_at (t : T Value) : ∀ (l : List Value) (i k : Nat), (mergeL t l i)[k]? = (l[k]?).map fun v => match t.get (i + k) with | some u => u | none => v
  | [], i, k => by simp [mergeL]
  | v :: l, i, 0 => rfl
  | v :: l, i, k + 1 => by
    show (mergeL t l (i + 1))[k]? = _
    rw [mergeL_at t l (i + 1) k]
    simp only [List.getElem?_cons_succ]
    rw [show i + 1 + k = i + (k + 1) by omega]
theorem mergeL_len (t : T Value) : ∀ (l : List Value) (i : Nat), (mergeL t l i).length = l.length
  | [], _ => rfl
  | v :: l, i => by simp [mergeL, mergeL_len t l]
theorem vload_all {ro : Bool} {a : Addr} : ∀ (cs : List Value) (i : Nat) (acc : Array Value), (∀ (k : Nat) v, cs[k]? = some v → V.cell (a.add (i + k)) = some v) →
    vrun P ro (loadCellsFrom a i cs.length acc) V = some (acc ++ cs.toArray, V)
  | [], i, acc, _ => by
    show some (acc, V) = _
    simp
  | v :: cs, i, acc, h => by
    show vrun P ro ((Go.load (a.add i)).bind fun u => loadCellsFrom a (i + 1) cs.length (acc.push u)) V = _
    rw [vrun_bind]
    have h0 : V.cell (a.add i) = some v := h 0 v rfl
    have e : vrun P ro (Go.load (a.add i)) V = some (v, V) := by
      unfold Go.load
      simp only [vrun, h0]
    rw [e]
    show vrun P ro (loadCellsFrom a (i + 1) cs.length (acc.push v)) V = _
    rw [vload_all cs (i + 1) (acc.push v) fun k u hk => by
      rw [show i + 1 + k = i + (k + 1) by omega]
      exact h (k + 1) u (by simpa using hk)]
    simp
theorem vLoadAll_run {ty : TypeId} {a u : Value} (ro : Bool) (h : vLoadAll P ty a V = some u) : vrun P ro (Instr.loadAt ty a) V = some (u, V) := by
  unfold vLoadAll at h
  split at h
  · rename_i n el i ad hu hi
    split at h
    · cases h
    rename_i hok
    have hsp : ad.spot = none := Classical.byContradiction fun e => hok (.inr e)
    split at h
    · rename_i c e b hrow
      split at h
      · rename_i hlen
        cases h
        have hcell : ∀ (k : Nat) v, (mergeL b.ov ((c.toList.drop ad.off).take i.size) ad.off)[k]? = some v → V.cell (ad.add (0 + k)) = some v := by
          intro k v hk
          rw [mergeL_at] at hk
          obtain ⟨v0, hv0, hv⟩ := Option.map_eq_some_iff.1 hk
          have hk2 : k < i.size := by
            have := (List.getElem?_eq_some_iff.1 hv0).1
            omega
          rw [List.getElem?_take_of_lt hk2, List.getElem?_drop, Array.getElem?_toList] at hv0
          have hao : (ad.add (0 + k)).off = ad.off + k ∧ (ad.add (0 + k)).block = ad.block ∧ (ad.add (0 + k)).spot = none := by
            unfold Addr.add
            split
            · rename_i h0; exact ⟨by omega, rfl, hsp⟩
            · exact ⟨by show ad.off + (0 + k) = _; omega, rfl, rfl⟩
          unfold VW.cell
          rw [hao.2.2, hao.2.1, hao.1]
          simp only [hrow]
          unfold VB.at_
          cases e2 : b.ov.get (ad.off + k) with
          | some u => rw [e2] at hv; exact congrArg some hv
          | none => rw [e2] at hv; rw [← hv]; exact hv0
        have hl := vload_all (P := P) (ro := ro) (V := V) (a := ad) (mergeL b.ov ((c.toList.drop ad.off).take i.size) ad.off) 0 #[] hcell
        rw [mergeL_len, hlen] at hl
        have e1 : vrun P ro (underlying ty) V = some (.array n el, V) := by
          unfold underlying
          show vrun P ro (match P.underlying ty with | some d => (Pure.pure d : Sem TypeDesc) | none => stuck "no such type") V = _
          rw [hu]
          rfl
        have e2 : vrun P ro (isAgg ty) V = some (true, V) := by
          unfold isAgg
          show vrun P ro ((underlying ty).bind _) V = _
          rw [vrun_bind, e1]
          rfl
        have e3 : vrun P ro (sizeOf ty) V = some (i.size, V) := by
          have e4 : vrun P ro (typeInfo ty) V = some (i, V) := by
            unfold typeInfo
            show vrun P ro (match P.info? ty with | some i => (Pure.pure i : Sem TypeInfo) | none => stuck "no such type") V = _
            rw [hi]
            rfl
          unfold sizeOf
          show vrun P ro ((typeInfo ty).bind _) V = _
          rw [vrun_bind, e4]
          rfl
        show vrun P ro (loadVar ty ad) V = _
        unfold loadVar
        show vrun P ro ((isAgg ty).bind _) V = _
        rw [vrun_bind, e2]
        show vrun P ro ((sizeOf ty).bind _) V = _
        rw [vrun_bind, e3]
        show vrun P ro ((loadCellsFrom ad 0 i.size #[]).bind _) V = _
        rw [vrun_bind, hl]
        show some (Value.agg (#[] ++ (mergeL b.ov ((c.toList.drop ad.off).take i.size) ad.off).toArray), V) = _
        simp
      · cases h
    · cases h
  · cases h
theorem vMapLen_run {ts : Array TypeId} {ty : TypeId} {as' : Array Value} {r : Nat} {v : Value} (h : vMapLen P ts r V = some v) {m' : Value} (h0 : as'[0]? = some m') (hm : VR R (.map (some r)) m') (hW : WR w0 R V w') :
    VR R v v ∧ (Builtin.len_ ts ty as').run P w' = .ok v w' := by
  unfold vMapLen at h
  split at h
  · rename_i t ht
    split at h
    · rename_i mt b hT hb
      obtain ⟨kt, q, el⟩ := mt
      obtain ⟨hT1, _⟩ := mapT_spec hT
      split at h
      · rename_i es ck hes
        cases h
        cases hm with
        | @map _ x hx =>
        obtain ⟨y, es', hy, hheap, hE⟩ := hW.map hb hes
        rw [hx] at hy
        cases hy
        refine ⟨.int _ _, ?_⟩
        unfold Builtin.len_
        rw [ht, h0]
        show Sem.run P ((underlying t) >>= _) w' = _
        rw [Sem.run_bind, run_underlying hT1]
        show Sem.run P (getObj x.r >>= _) w' = _
        rw [Sem.run_bind, getObj_run hheap, hE.size]
        rfl
      · cases h
    · cases h
  · cases h
theorem vText_run {s d : TypeId} {v v' u : Value} (h : vText P s d v V = some u) (hv : VR R v v') (hW : WR w0 R V w') : VR R u u ∧ (convert s d v').run P w' = .ok u w' := by
  unfold vText at h
  split at h
  · rename_i e a n c hs hd
    split at h
    · rename_i he
      split at h
      · rename_i cs V2 hc
        split at h
        · rename_i hall
          split at h
          · rename_i r hr
            split at h
            · rename_i hp
              cases h
              refine ⟨plain_vr 6 _ hp R, ?_⟩
              obtain ⟨cs', hc', hR⟩ := ro_run (sim_firstCells (P := P) (w0 := w0) (V := V) (w' := w') hv 1 n (by
                by_cases h0 : n = 0
                · exact .inl h0
                · exact .inr (.inr (by rintro a l c e; cases e; exact h0)))) hW hc
              have hcs : cs' = cs := arr_eq hR.size fun i x x' h1 h2 => plain_eq 1 x x' (List.all_eq_true.1 hall x (Array.mem_toList_iff.2 (Array.mem_of_getElem? h1))) (hR.at_ i x x' h1 h2)
              subst hcs
              have hb := pureRun_run hr w'
              have hv' : ∃ a' c', v' = .slice (some a') n c' := by cases hv <;> exact ⟨_, _, rfl⟩
              obtain ⟨a', c', rfl⟩ := hv'
              have hc' : (loadCells a' (n * 1)).run P w' = .ok cs' w' := hc'
              rw [Nat.mul_one] at hc'
              have e1 : Conv.bytesToString (.slice (some a') n c') = loadCells a' n >>= bts := rfl
              have e2 : (Conv.bytesToString (.slice (some a') n c')).run P w' = .ok u w' := by
                rw [e1, Sem.run_bind, hc']
                exact hb
              unfold convert
              rw [Sem.run_bind, run_underlying hs]
              show Sem.run P ((underlying d) >>= _) w' = _
              rw [Sem.run_bind, run_underlying hd]
              show Sem.run P ((underlying e) >>= _) w' = _
              rw [Sem.run_bind, run_underlying he]
              exact e2
            · cases h
          · cases h
        · cases h
      · cases h
    · cases h
  · cases h
theorem natOf_bound {d : Nat} {x x' : Option Value} {n : Nat} (h : natOf d x = some n) (hx : OR R x x') : x' = x ∧ (x = none ∧ n = d ∨ ∃ (k : IntKind) (m : Int), x = some (.int k m) ∧ 0 ≤ m ∧ n = m.toNat) := by
  cases x with
  | none =>
    cases x' with
    | none => cases h; exact ⟨rfl, .inl ⟨rfl, rfl⟩⟩
    | some x' => exact hx.elim
  | some x =>
    cases x' with
    | none => exact hx.elim
    | some x' =>
      have hx : VR R x x' := hx
      cases hx <;> simp only [natOf] at h <;> first
        | cases h
        | (split at h
           · rename_i h0
             cases h
             exact ⟨rfl, .inr ⟨_, _, rfl, h0, rfl⟩⟩
           · cases h)
theorem sliceBound_run {k : IntKind} {m : Int} {y : Nat} (c : BoundsCode) (h0 : 0 ≤ m) (hy : m.toNat ≤ y) (w : World) : (Instr.sliceBound (.int k m) y c).run P w = .ok m.toNat w := by
  have : 0 ≤ m ∧ m ≤ (y : Int) := ⟨h0, by omega⟩
  unfold Instr.sliceBound
  show Sem.run P (if 0 ≤ m ∧ m ≤ (y : Int) then _ else _) w = _
  rw [if_pos this]
  rfl
theorem sliceBounds_run {lo hi : Option Value} {n cap l h : Nat} (hlo : lo = none ∧ l = 0 ∨ ∃ (k : IntKind) (m : Int), lo = some (.int k m) ∧ 0 ≤ m ∧ l = m.toNat) (hhi : hi = none ∧ h = n ∨ ∃ (k : IntKind) (m : Int), hi = some (.int k m) ∧ 0 ≤ m ∧ h = m.toNat)
    (h1 : l ≤ h) (h2 : h ≤ cap) (w : World) : (Instr.sliceBounds true n cap lo hi none).run P w = .ok (l, h, cap) w := by
  have hl : ∀ c, (low lo c h cap).run P w = .ok (l, h, cap) w := fun c => by
    unfold low
    rcases hlo with ⟨rfl, rfl⟩ | ⟨k, m, rfl, h0, rfl⟩
    · rfl
    · show Sem.run P (Instr.sliceBound (.int k m) h c >>= _) w = _
      rw [Sem.run_bind, sliceBound_run c h0 h1]
      rfl
  unfold Instr.sliceBounds
  rcases hhi with ⟨rfl, rfl⟩ | ⟨k, m, rfl, h0, rfl⟩
  · exact hl _
  · show Sem.run P (Instr.sliceBound (.int k m) cap .sliceAcap >>= _) w = _
    rw [Sem.run_bind, sliceBound_run _ h0 h2]
    exact hl _
theorem sliceBounds_run3 {lo : Option Value} {hv mv : Value} {n cap l h m : Nat} (hlo : lo = none ∧ l = 0 ∨ ∃ (k : IntKind) (m : Int), lo = some (.int k m) ∧ 0 ≤ m ∧ l = m.toNat) (hhi : ∃ (k : IntKind) (q : Int), some hv = some (.int k q) ∧ 0 ≤ q ∧ h = q.toNat)
    (hmx : ∃ (k : IntKind) (q : Int), some mv = some (.int k q) ∧ 0 ≤ q ∧ m = q.toNat) (h1 : l ≤ h) (h2 : h ≤ m) (h3 : m ≤ cap) (w : World) : (Instr.sliceBounds true n cap lo (some hv) (some mv)).run P w = .ok (l, h, m) w := by
  have hl : ∀ c, (low lo c h m).run P w = .ok (l, h, m) w := fun c => by
    unfold low
    rcases hlo with ⟨rfl, rfl⟩ | ⟨k, m, rfl, h0, rfl⟩
    · rfl
    · show Sem.run P (Instr.sliceBound (.int k m) h c >>= _) w = _
      rw [Sem.run_bind, sliceBound_run c h0 h1]
      rfl
  obtain ⟨k1, q1, e1, p1, rfl⟩ := hhi
  obtain ⟨k2, q2, e2, p2, rfl⟩ := hmx
  cases e1; cases e2
  unfold Instr.sliceBounds
  show Sem.run P (Instr.sliceBound (.int k2 q2) cap .slice3Acap >>= _) w = _
  rw [Sem.run_bind, sliceBound_run _ p2 h3]
  show Sem.run P (Instr.sliceBound (.int k1 q1) q2.toNat .slice3B >>= _) w = _
  rw [Sem.run_bind, sliceBound_run _ p1 h2]
  exact hl _
theorem vSlice_run {t : TypeId} {v v' u : Value} {lo lo' hi hi' mx mx' : Option Value} (h : vSlice P t v lo hi mx V = some u) (ho : opn v = true) (hvr : VR R v v') (hlo : OR R lo lo') (hhi : OR R hi hi') (hmx : OR R mx mx') (hW : WR w0 R V w') :
    ∃ u', VR R u u' ∧ (Instr.sliceAt t v' lo' hi' mx').run P w' = .ok u' w' := by
  unfold vSlice at h
  split at h
  · rename_i el a n c hu
    split at h
    · rename_i i l hh _ _ b hi1 hl1 hh1 hrow
      split at h
      · rename_i hok
        obtain ⟨hlh, hhn, hes, hnz⟩ := hok
        cases h
        have hmx' : mx' = none := by cases mx' with | none => rfl | some x => exact hmx.elim
        subst hmx'
        obtain ⟨e1, hlo1⟩ := natOf_bound hl1 hlo
        obtain ⟨e2, hhi1⟩ := natOf_bound hh1 hhi
        subst e1; subst e2
        cases hvr with
        | slice ha hc => simp [opn, hc] at ho
        | @sliceO _ a' _ cap' y hy hsp h1 h2 h3 h4 h5 =>
          obtain ⟨y2, c', e', lo2, hi2, hy2, hheap, hes', _, _⟩ := hW.row hrow
          rw [hy] at hy2
          cases hy2
          have hes0 : b.es ≠ 0 := by rw [hes]; exact hnz
          have hyes : y.es = i.size := by rw [← hes]; exact (hes' hes0).1
          have hb := sliceBounds_run (P := P) hlo1 hhi1 hlh (by omega : hh ≤ cap') w'
          have hrun : (Instr.sliceAt t (.slice (some a') n cap') lo' hi' none).run P w' = .ok (.slice (if cap' = l then some a' else (some a').map (·.add (l * i.size))) (hh - l) (cap' - l)) w' := by
            unfold Instr.sliceAt
            rw [Sem.run_bind, run_underlying hu]
            show Sem.run P (Instr.slice t (.slice (some a') n cap') lo' hi' none) w' = _
            unfold Instr.slice
            rw [Sem.run_bind, run_underlying hu]
            show Sem.run P (Instr.sliceBounds true n cap' lo' hi' none >>= _) w' = _
            rw [Sem.run_bind, hb]
            show Sem.run P (sizeOf el >>= _) w' = _
            have hsize : (sizeOf el).run P w' = .ok i.size w' := by simp [sizeOf, typeInfo, hi1]
            rw [Sem.run_bind, hsize]
            rfl
          have hav : (a.add (l * i.size)).block = a.block ∧ (a.add (l * i.size)).spot = none ∧ (a.add (l * i.size)).off = a.off + l * i.size := by
            unfold Addr.add
            split
            · rename_i h0; rw [h0]; exact ⟨rfl, hsp, rfl⟩
            · exact ⟨rfl, rfl, rfl⟩
          have hav' : (a'.add (l * i.size)).block = a'.block ∧ (a'.add (l * i.size)).spot = none ∧ (a'.add (l * i.size)).off = a'.off + l * i.size := by
            unfold Addr.add
            split
            · rename_i h0; rw [h0]; exact ⟨rfl, h2, rfl⟩
            · exact ⟨rfl, rfl, rfl⟩
          refine ⟨_, ?_, hrun⟩
          split
          · rename_i hcl
            refine .sliceO (by rw [hav.1]; exact hy) hav.2.1 h1 h2 (.inl (by omega)) (by omega) ?_
            have : (cap' - l) * y.es = 0 := by rw [hcl, Nat.sub_self, Nat.zero_mul]
            rw [this]
            omega
          · rename_i hcl
            refine .sliceO (a' := a'.add (l * i.size)) (by rw [hav.1]; exact hy) hav.2.1 (by rw [hav'.1]; exact h1) hav'.2.1 ?_ (by omega) ?_
            · rw [hav.2.2, hav'.2.2]
              rcases h3 with h3 | h3
              · left; omega
              · right; omega
            · rw [hav'.2.2, Nat.sub_mul, hyes]
              rw [hyes] at h5
              have : l * i.size ≤ cap' * i.size := Nat.mul_le_mul_right _ (by omega)
              omega
      · cases h
    · cases h
  · rename_i el a n c mv hu
    split at h
    · rename_i i l hv m hi1 hl1 hm1
      split at h
      · rename_i hh hh1
        split at h
        · rename_i hok
          obtain ⟨hlh, hhm, hmn, hn0, hcap⟩ := hok
          cases h
          obtain ⟨e1, hlo1⟩ := natOf_bound hl1 hlo
          obtain ⟨e2, hhi1⟩ := natOf_bound hh1 hhi
          obtain ⟨e3, hmx1⟩ := natOf_bound hm1 hmx
          subst e1; subst e2; subst e3
          have hhi1 := hhi1.resolve_left (fun e => by cases e.1)
          have hmx1 := hmx1.resolve_left (fun e => by cases e.1)
          cases hvr with
            | slice ha hc => simp [opn, hc] at ho
            | @sliceO _ a' _ cap' y hy hsp h1 h2 h3 h4 h5 =>
              have ha : AR R a a' := ⟨y, hy, hsp, by
                obtain ⟨b, o, s⟩ := a'
                simp only at h1 h2 h3
                subst h1; subst h2
                rcases h3 with h3 | h3
                · exact absurd h3 hn0
                · subst h3; rfl⟩
              have hb := sliceBounds_run3 (P := P) (n := n) (cap := cap') hlo1 hhi1 hmx1 hlh hhm (by omega) w'
              have hrun : (Instr.sliceAt t (.slice (some a') n cap') lo' (some hv) (some mv)).run P w' = .ok (.slice (if m = l then some a' else (some a').map (·.add (l * i.size))) (hh - l) (m - l)) w' := by
                unfold Instr.sliceAt
                rw [Sem.run_bind, run_underlying hu]
                show Sem.run P (Instr.slice t (.slice (some a') n cap') lo' (some hv) (some mv)) w' = _
                unfold Instr.slice
                rw [Sem.run_bind, run_underlying hu]
                show Sem.run P (Instr.sliceBounds true n cap' lo' (some hv) (some mv) >>= _) w' = _
                rw [Sem.run_bind, hb]
                show Sem.run P (sizeOf el >>= _) w' = _
                have hsize : (sizeOf el).run P w' = .ok i.size w' := by simp [sizeOf, typeInfo, hi1]
                rw [Sem.run_bind, hsize]
                rfl
              refine ⟨_, ?_, hrun⟩
              split
              · exact .slice ha hcap
              · exact .slice (ha.add _) hcap
        · cases h
      · cases h
    · cases h
  · cases h

theorem vop_ok (hz : Zeros P) {ro : Bool} {o : Oper} {ρ ρ' : Operand → Value} {n : VN} {V1 : VW} (h : vop P ro o ρ V = some (n, V1)) (hρ : ∀ x ∈ o.op.operands, VR R (ρ x) (ρ' x)) (hW : WR w0 R V w') : Fits P w0 R w' o ρ' ro n V V1 := by
  obtain ⟨dst, op, type, pos, after, guard⟩ := o
  unfold vop at h
  have hopt : ∀ (x : Option Operand), (∀ y, x = some y → y ∈ op.operands) → OR R (x.map ρ) (x.map ρ') := fun x hx => by
    cases x with
    | none => exact trivial
    | some y => exact hρ y (hx y rfl)
  cases op <;> (try (cases h; done))
  case move x => cases h; exact fits_now (hρ x (by simp [Op.operands])) hW rfl
  case assign x => cases h; exact fits_now (hρ x (by simp [Op.operands])) hW rfl
  case pick c a b =>
    simp only [] at h
    have hc := hρ c (by simp [Op.operands])
    split at h
    · rename_i t ht
      cases h
      rw [ht] at hc
      have hc' : ρ' c = .bool t := by
        revert hc
        generalize ρ' c = z
        intro hc
        cases hc
        rfl
      refine fits_now (v' := if t then ρ' a else ρ' b) ?_ hW ?_
      · cases t
        · exact hρ b (by simp [Op.operands])
        · exact hρ a (by simp [Op.operands])
      · show Sem.run P (asBool (ρ' c) >>= _) w' = _
        rw [hc']
        rfl
    · cases h
  case alloc e =>
    simp only [] at h
    split at h
    · rename_i ht; exact fits_val (Rel := VR) h (sim_alloc hz e ht) hW rfl
    · cases h
  case box e x => exact fits_val (Rel := VR) h (sim_box e (hρ x (by simp [Op.operands]))) hW rfl
  case build t ps =>
    simp only [] at h
    split at h
    case isFalse => cases h
    rename_i ht
    refine fits_val (Rel := VR) h (sim_build hz t ht ?_) hW rfl
    rw [Array.toList_map, Array.toList_map]
    exact ps_all _ fun p hp => hρ p.2 (by simp [Op.operands]; exact ⟨p.1, by simpa using hp⟩)
  case buildSlice t n ps =>
    simp only [] at h
    split at h
    case isFalse => cases h
    rename_i ht
    refine fits_cap h (sim_buildSlice hz t ht n ?_) hW rfl
    rw [Array.toList_map, Array.toList_map]
    exact ps_all _ fun p hp => hρ p.2 (by simp [Op.operands]; exact ⟨p.1, by simpa using hp⟩)
  case load t a =>
    simp only [] at h
    split at h
    · rename_i v hv
      cases h
      have := vLoadAll_run ro hv
      exact fits_val (Rel := VR) (m := Instr.loadAt t (ρ a)) (by unfold vVal; rw [this]) (sim_loadAt (hρ a (by simp [Op.operands])) t) hW rfl
    · exact fits_val (Rel := VR) h (sim_loadAt (hρ a (by simp [Op.operands])) t) hW rfl
  case store t a x => exact fits_skip h (sim_storeAt (hρ a (by simp [Op.operands])) (hρ x (by simp [Op.operands])) t) hW rfl
  case nilCheck x =>
    have hx := hρ x (by simp [Op.operands])
    simp only [] at h
    split at h
    · cases h
    · cases h
    · cases h
    · cases h
    · rename_i n1 n2 n3 n4
      cases h
      refine fits_now hx hW ?_
      have e : execOp ρ' { dst := dst, op := .nilCheck x, type := type, pos := pos, after := after, guard := guard } = Pure.pure (.value (ρ' x)) := by
        revert hx n1 n2 n3 n4
        simp only [execOp]
        generalize ρ x = u
        generalize ρ' x = u'
        intro hx n1 n2 n3 n4
        cases hx <;> first
          | rfl
          | exact absurd rfl n1
          | exact absurd rfl n2
          | exact absurd rfl n3
          | (rename_i fn a a' b b' _ _ _ _
             cases fn <;> first | rfl | exact absurd rfl (n4 _ _ _))
      rw [e]; rfl
  case binOp op t x y u =>
    have hx := hρ x (by simp [Op.operands])
    have hy := hρ y (by simp [Op.operands])
    have hpure := fun hh => fits_pure (P := P) (w0 := w0) (V := V) (w' := w') (ro := ro) (n := n) (V1 := V1) (o := ⟨dst, .binOp op t x y u, type, pos, after, guard⟩) hh hρ (fun cs b e => by cases e) hW
    simp only [] at h
    have guardOk : ∀ b, nilEq P t (ρ x) (ρ y) = some b → eqGuard op t x y (ρ' x) (ρ' y) = Pure.pure () ∧ (op = .eql → binOp op t (ρ' x) (ρ' y) = do Pure.pure (.bool (← Op.equal t (ρ' x) (ρ' y)))) ∧ (op = .neq → binOp op t (ρ' x) (ρ' y) = do Pure.pure (.bool (!(← Op.equal t (ρ' x) (ρ' y))))) := by
      intro b hb
      revert hx hy hb
      generalize ρ x = p
      generalize ρ y = q
      generalize ρ' x = p'
      generalize ρ' y = q'
      intro hx hy hb
      unfold nilEq at hb
      split at hb <;> first
        | (cases hx <;> cases hy <;> refine ⟨?_, ?_, ?_⟩ <;> first
            | (rintro rfl; rfl)
            | (cases op <;> rfl))
        | cases hb
    split at h
    · rename_i b hb
      cases h
      obtain ⟨g1, g2, _⟩ := guardOk b hb
      refine fits_now (.bool b) hW ?_
      show Sem.run P ((do eqGuard .eql t x y (ρ' x) (ρ' y); binOp .eql t (ρ' x) (ρ' y)) >>= _) w' = _
      rw [g1, g2 rfl, Sem.run_bind]
      have := nilEq_run hb hx hy w'
      show Result.andThen (Sem.run P (Op.equal t (ρ' x) (ρ' y) >>= _) w') _ = _
      rw [Sem.run_bind, this]
      rfl
    · rename_i b hb
      cases h
      obtain ⟨g1, _, g2⟩ := guardOk b hb
      refine fits_now (.bool !b) hW ?_
      show Sem.run P ((do eqGuard .neq t x y (ρ' x) (ρ' y); binOp .neq t (ρ' x) (ρ' y)) >>= _) w' = _
      rw [g1, g2 rfl, Sem.run_bind]
      have := nilEq_run hb hx hy w'
      show Result.andThen (Sem.run P (Op.equal t (ρ' x) (ρ' y) >>= _) w') _ = _
      rw [Sem.run_bind, this]
      rfl
    · exact hpure h
  case unOp op t x => exact fits_pure h hρ (fun cs b e => by cases e) hW
  case convert s d x =>
    simp only [] at h
    split at h
    · rename_i v hv
      cases h
      obtain ⟨h1, h2⟩ := vText_run hv (hρ x (by simp [Op.operands])) hW
      refine fits_now h1 hW ?_
      show Sem.run P (convert s d (ρ' x) >>= _) w' = _
      rw [Sem.run_bind, h2]
      rfl
    · exact fits_pure h hρ (fun cs b e => by cases e) hW
  case makeInterface t x => exact fits_val (Rel := VR) h (sim_makeInterface (hρ x (by simp [Op.operands])) t) hW rfl
  case makeFunc fn f c =>
    cases h
    have h1 := ρ_all (xs := f) (ρ := ρ) (ρ' := ρ') (R := R) fun x hx => hρ x (by simp [Op.operands, hx])
    have h2 := ρ_all (xs := c) (ρ := ρ) (ρ' := ρ') (R := R) fun x hx => hρ x (by simp [Op.operands, hx])
    exact fits_now (.func fn h1.size h1.at_ h2.size h2.at_) hW rfl
  case makeSlice t l c =>
    simp only [] at h
    split at h
    · rename_i ht; exact fits_cap h (sim_makeSlice hz t ht (hρ l (by simp [Op.operands])) (hρ c (by simp [Op.operands]))) hW rfl
    · cases h
  case slice t x lo hi mx =>
    have hx := hρ x (by simp [Op.operands])
    have h1 := hopt lo (fun y e => by subst e; simp [Op.operands])
    have h2 := hopt hi (fun y e => by subst e; simp [Op.operands])
    have h3 := hopt mx (fun y e => by subst e; simp [Op.operands])
    simp only [] at h
    split at h
    · rename_i ho
      split at h
      · rename_i v hv
        cases h
        obtain ⟨u', hu, hr⟩ := vSlice_run hv ho hx h1 h2 h3 hW
        refine fits_now hu hW ?_
        show Sem.run P (Instr.sliceAt t (ρ' x) (lo.map ρ') (hi.map ρ') (mx.map ρ') >>= _) w' = _
        rw [Sem.run_bind, hr]
        rfl
      · cases h
    · rename_i ho
      exact fits_cap h (sim_sliceAt hx (by simpa using ho) h1 h2 h3 t) hW rfl
  case fieldAddr s x f => exact fits_val (Rel := VR) h (sim_fieldAt (hρ x (by simp [Op.operands])) s f) hW rfl
  case field t x f => exact fits_val (Rel := VR) h (sim_field (hρ x (by simp [Op.operands])) t f) hW rfl
  case indexAddr t x i => exact fits_val (Rel := VR) h (sim_indexAt (hρ x (by simp [Op.operands])) (hρ i (by simp [Op.operands])) t) hW rfl
  case index t x i => exact fits_val (Rel := VR) h (sim_index (hρ x (by simp [Op.operands])) (hρ i (by simp [Op.operands])) t) hW rfl
  case extract t i => exact fits_val (Rel := VR) h (sim_extract (hρ t (by simp [Op.operands])) i) hW rfl
  case makeMap t r => exact fits_val (Rel := VR) h (sim_makeMap t (hopt r (fun y e => by subst e; simp [Op.operands]))) hW rfl
  case lookup t m k ok =>
    simp only [] at h
    split at h
    · rename_i v hv
      cases h
      obtain ⟨u', hu, hr⟩ := vLookup_run hz hv (hρ m (by simp [Op.operands])) (hρ k (by simp [Op.operands])) hW
      refine fits_now hu hW ?_
      show Sem.run P (Instr.lookup t (ρ' m) (ρ' k) ok >>= _) w' = _
      rw [Sem.run_bind, hr]
      rfl
    · cases h
  case mapUpdate t m k x =>
    simp only [] at h
    split at h
    · cases h
    rename_i hro
    split at h
    · rename_i V2 hv
      cases h
      obtain ⟨w1, h1, h2⟩ := vUpdate_run hv (hρ m (by simp [Op.operands])) (hρ k (by simp [Op.operands])) (hρ x (by simp [Op.operands])) hW
      refine ⟨R, .skip, w1, Le.refl R, ?_, h2, trivial, fun e => absurd e hro⟩
      show Sem.run P (Instr.mapUpdate t (ρ' m) (ρ' k) (ρ' x) >>= _) w' = _
      rw [Sem.run_bind, h1]
      rfl
    · cases h
  case insert t m k x =>
    simp only [] at h
    split at h
    · cases h
    rename_i hro
    split at h
    · rename_i V2 hv
      cases h
      obtain ⟨w1, h1, h2⟩ := vUpdate_run hv (hρ m (by simp [Op.operands])) (hρ k (by simp [Op.operands])) (hρ x (by simp [Op.operands])) hW
      refine ⟨R, .skip, w1, Le.refl R, ?_, h2, trivial, fun e => absurd e hro⟩
      show Sem.run P (Instr.mapUpdate t (ρ' m) (ρ' k) (ρ' x) >>= _) w' = _
      rw [Sem.run_bind, h1]
      rfl
    · cases h
  case call c =>
    obtain ⟨callee, args, ats⟩ := c
    have hargs : AsR R (args.map ρ) (args.map ρ') := ρ_all fun x hx => hρ x (by simp [Op.operands, Call.operands, hx])
    simp only [] at h
    cases callee with
    | invoke r m => cases h
    | value f =>
      have hf := hρ f (by simp [Op.operands, Call.operands])
      simp only [] at h
      split at h
      · rename_i g first cap hfe
        split at h
        · rename_i fn hfn
          split at h
          · rename_i hb
            cases h
            rw [hfe] at hf
            simp only [Bool.and_eq_true, bne_iff_ne, ne_eq] at hb
            obtain ⟨hb1, hb2⟩ := hb
            generalize hfe' : ρ' f = z at hf
            cases hf with
            | @func _ a a' b b' ha hh hb hh' =>
              refine ⟨R, .enter g (a' ++ args.map ρ' ++ b'), w', Le.refl R, ?_, hW, ⟨rfl, (AsR.append (AsR.append ⟨ha, hh⟩ hargs) ⟨hb, hh'⟩)⟩, fun _ => ⟨rfl, rfl, rfl⟩⟩
              have e2 : ¬ fn.body = none := by
                intro e
                rw [e] at hb1; cases hb1
              simp [execOp, resolve, hfe', Deferred.ofValue, invoke, callFunc, hfn, hb2, e2]
          · cases h
        · cases h
      · cases h
    | builtin b =>
      have hpure := fun hh => fits_pure (P := P) (w0 := w0) (V := V) (w' := w') (ro := ro) (n := n) (V1 := V1) (o := ⟨dst, .call ⟨.builtin b, args, ats⟩, type, pos, after, guard⟩) hh hρ (fun cs b e => by cases e) hW
      have hexec : ∀ m', (∀ cs, builtin b ats type cs (args.map ρ') = (do Pure.pure (.value (← m')) : Sem Next)) → execOp ρ' ⟨dst, .call ⟨.builtin b, args, ats⟩, type, pos, after, guard⟩ = (do Pure.pure (.value (← m')) : Sem Next) := fun m' e => by
        rw [BigFrame.execOp_builtin]
        exact e _
      cases b <;> (try (exact hpure h))
      case append =>
        simp only [] at h
        split at h
        · cases h
        rename_i hro
        have hro : ro = false := by simpa using hro
        subst hro
        split at h
        · rename_i s x hs hx
          split at h
          · rename_i hsz
            have hargs2 : args = #[s, x] := by
              apply Array.ext (by simp [hsz])
              intro i h1 h2
              have : i = 0 ∨ i = 1 := by simp at h2; omega
              rcases this with rfl | rfl
              · have := Array.getElem?_eq_getElem h1
                rw [hs] at this
                simpa using this.symm
              · have := Array.getElem?_eq_getElem h1
                rw [hx] at this
                simpa using this.symm
            subst hargs2
            unfold vVal at h
            split at h
            · rename_i v V2 hv
              cases h
              obtain ⟨R1, v', w1, q1, q2, q3, q4⟩ := vAppend_ok hz hW hv (hρ s (by simp [Op.operands, Call.operands])) (hρ x (by simp [Op.operands, Call.operands])) type
              refine ⟨R1, .value v', w1, q1, ?_, q3, q4, fun e => by cases e⟩
              rw [hexec _ (fun cs => BigFrame.builtin_append ats type cs _)]
              exact run_bind P _ _ (by simpa using q2)
            · cases h
          · cases h
        · cases h
      case copy => exact fits_val (Rel := VR) h (sim_copy hargs) hW (hexec _ (fun cs => BigFrame.builtin_copy ats type cs _))
      case len =>
        simp only [] at h
        split at h
        · rename_i x hx
          split at h
          · rename_i r hm
            split at h
            · rename_i v hv
              cases h
              have hx' : (args.map ρ')[0]? = some (ρ' x) := by rw [Array.getElem?_map, hx]; rfl
              have hr := hρ x (by simp [Op.operands, Call.operands]; exact Array.mem_of_getElem? hx)
              rw [hm] at hr
              obtain ⟨h1, h2⟩ := vMapLen_run (ty := type) hv hx' hr hW
              refine fits_now h1 hW ?_
              rw [hexec _ (fun cs => BigFrame.builtin_len ats type cs _), Sem.run_bind, h2]
              rfl
            · cases h
          · rename_i hm
            refine fits_val (Rel := VR) h (sim_len hargs fun r e => ?_) hW (hexec _ (fun cs => BigFrame.builtin_len ats type cs _))
            rw [Array.getElem?_map, hx] at e
            exact hm r (by simpa using e)
        · cases h
end
end Vm
end Go.Proofs.YtkfefdjbihmblaaDoor

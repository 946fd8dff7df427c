/-
  An evaluator for closed calls, part 11: regions that draw their order. One walk of the lexical order; what only reads gives the same in each of the worlds that come up; what writes waits for what wrote before.
-/
import Derived.Test.YtkfefdjbihmblaaDoorVm10
import Derived.Orders
namespace Go.Proofs.YtkfefdjbihmblaaDoor
open Go Go.RowKit

namespace Vm

def all2 (f : Value → Value → Bool) : List Value → List Value → Bool
  | [], [] => true
  | a :: l, b :: m => f a b && all2 f l m
  | _, _ => false
/-- Are two values one and the same? -/
def sameV : Nat → Value → Value → Bool
  | 0, _, _ => false
  | n + 1, u, v => match u, v with
    | .bool a, .bool b => a == b
    | .int j a, .int k b => decide (j = k) && decide (a = b)
    | .string a, .string b => decide (a = b)
    | .pointer a, .pointer b => decide (a = b)
    | .slice a l c, .slice b l' c' => decide (a = b) && decide (l = l') && decide (c = c')
    | .map a, .map b => decide (a = b)
    | .func f a b, .func g c d => decide (f = g) && all2 (sameV n) a.toList c.toList && all2 (sameV n) b.toList d.toList
    | .nilFunc, .nilFunc => true
    | .iface t a, .iface u b => decide (t = u) && sameV n a b
    | .nilIface, .nilIface => true
    | .agg a, .agg b => all2 (sameV n) a.toList b.toList
    | .tuple a, .tuple b => all2 (sameV n) a.toList b.toList
    | _, _ => false
theorem all2_eq {f : Value → Value → Bool} (hf : ∀ u v, f u v = true → u = v) : ∀ (l m : List Value), all2 f l m = true → l = m
  | [], [], _ => rfl
  | a :: l, b :: m, h => by
    simp only [all2, Bool.and_eq_true] at h
    rw [hf a b h.1, all2_eq hf l m h.2]
  | [], _ :: _, h => by simp [all2] at h
  | _ :: _, [], h => by simp [all2] at h
theorem all2_arr {f : Value → Value → Bool} (hf : ∀ u v, f u v = true → u = v) {a b : Array Value} (h : all2 f a.toList b.toList = true) : a = b := Array.toList_inj.1 (all2_eq hf _ _ h)
theorem sameV_eq : ∀ (n : Nat) (u v : Value), sameV n u v = true → u = v
  | 0, _, _, h => by simp [sameV] at h
  | n + 1, u, v, h => by
    have ih := sameV_eq n
    cases u <;> cases v <;> simp only [sameV, Bool.false_eq_true, Bool.and_eq_true, decide_eq_true_eq, beq_iff_eq] at h <;> first
      | rfl
      | (cases h; done)
      | (rw [h]; done)
      | (rw [h.1, h.2]; done)
      | (rw [h.1.1, h.1.2, h.2]; done)
      | (rw [all2_arr ih h]; done)
      | (rw [h.1.1, all2_arr ih h.1.2, all2_arr ih h.2]; done)
      | (rw [h.1, ih _ _ h.2]; done)

/-- Does it write? -/
def effK : Op → Bool
  | .alloc _ | .box _ _ | .buildSlice _ _ _ | .store _ _ _ | .makeSlice _ _ _ | .makeMap _ _ | .mapUpdate _ _ _ _ | .insert _ _ _ _ => true
  | .call c => match c.callee with
    | .builtin b => match b with
      | .len | .cap | .min | .max => false
      | _ => true
    | _ => true
  | _ => false
/-- Which functions are called as if they were arithmetic. -/
structure Pure where
  is : FuncId → Bool
  run : FuncId → Array Value → Option Value
/-- Does an operation write? -/
def effO (C : Pure) (o : Oper) : Bool :=
  match o.op with
  | .call c => match c.callee with
    | .value (.func g) => !C.is g
    | _ => effK o.op
  | _ => effK o.op
/-- Is the answer what stands in the frame at the end? -/
def isFin (aF : VA) (o : Oper) (v : Value) : Bool :=
  match o.dst with
  | none => true
  | some t => match aF.at? t with
    | some u => sameV 8 v u
    | none => true

/-- The walk in lexical order: the frame at the end, and the memory ahead of the first thing that writes, and behind each. -/
def vSeq (P : Program) (C : Pure) (call : VCall) (ops : Array Oper) : List Oper → VA → VW → Option (VA × List VW)
  | [], a, V => some (a, [V])
  | o :: l, a, V =>
    if effO C o then
      if Region.wanted o (VA.yielded ops a) then
        if o.op.operands.all okX then
          match vop P false o a.eval V with
          | some (.value v, V1) => (vSeq P C call ops l (a.put o.dst v) V1).map fun x => (x.1, V :: x.2)
          | some (.skip, V1) => (vSeq P C call ops l (a.put o.dst undef) V1).map fun x => (x.1, V :: x.2)
          | some (.enter f args, V1) => match call f args V1 with
            | some (v, V2) => (vSeq P C call ops l (a.put o.dst v) V2).map fun x => (x.1, V :: x.2)
            | none => none
          | none => none
        else none
      else (vSeq P C call ops l (a.put o.dst undef) V).map fun x => (x.1, V :: x.2)
    else
      if Region.wanted o (VA.yielded ops a) then
        match vop P true o a.eval V with
        | some (.value v, _) => vSeq P C call ops l (a.put o.dst v) V
        | some (.enter f args, _) => match C.run f args with
          | some v => vSeq P C call ops l (a.put o.dst v) V
          | none => none
        | _ => none
      else vSeq P C call ops l (a.put o.dst undef) V
/-- For each operation: those that come before it, one bit each. -/
def maskAt (acc : List Nat) (o : Oper) : Nat := o.after.toList.foldl (fun m e => if Region.binds .any e then (m ||| 2 ^ e.on) ||| acc.getD e.on 0 else m) 0
def masks : List Oper → List Nat → List Nat
  | [], acc => acc
  | o :: l, acc => masks l (acc ++ [maskAt acc o])
/-- Those that write. -/
def effsFrom (C : Pure) : List Oper → Nat → List Nat
  | [], _ => []
  | o :: l, k => if effO C o then k :: effsFrom C l (k + 1) else effsFrom C l (k + 1)
/-- May number 'i' come up when so many have written? -/
def possible (ms effs : List Nat) (i k : Nat) : Bool :=
  effs.zipIdx.all fun p => (!(ms.getD p.1 0).testBit i || decide (k ≤ p.2)) && (!(ms.getD i 0).testBit p.1 || decide (p.2 < k))
/-- What only reads gives the same in each of them in which it may come up. -/
def readOk (P : Program) (C : Pure) (ops : Array Oper) (aF : VA) (Ws : List VW) (ms effs : List Nat) (p : Oper × Nat) : Bool :=
  effO C p.1 ||
    if Region.wanted p.1 (VA.yielded ops aF) then
      p.1.op.operands.all okX && Ws.zipIdx.all fun q => !possible ms effs p.2 q.2 || match vop P true p.1 aF.eval q.1 with
        | some (.value v, _) => isFin aF p.1 v
        | some (.enter f args, _) => match C.run f args with
          | some v => isFin aF p.1 v
          | none => false
        | _ => false
    else isFin aF p.1 undef
/-- Is 'i' one that 'o' waits for? -/
def waits (o : Oper) (i : Nat) : Bool := o.after.any fun e => e.on == i && Region.binds .any e
/-- The temporaries that it looks at: each is made by what it waits for, or by none; and it waits for what stands ahead. -/
def looksOk (ops : Array Oper) (o : Oper) (i : Nat) : Bool :=
  (o.looksAt ops).all (fun t => ops.toList.zipIdx.all fun p => p.1.dst != some t || waits o p.2) && o.after.all (fun e => !Region.binds .any e || decide (e.on < i))
/-- What writes waits for what wrote before it. -/
def chainOk (C : Pure) (ms : List Nat) : List Oper → Nat → Option Nat → Bool
  | [], _, _ => true
  | o :: l, k, last =>
    if effO C o then (match last with | none => true | some p => (ms.getD k 0).testBit p) && chainOk C ms l (k + 1) (some k)
    else chainOk C ms l (k + 1) last
/-- No two have one temporary. -/
def dstsOk : List Oper → Bool
  | [] => true
  | o :: l => (match o.dst with | none => true | some t => l.all fun p => p.dst != some t) && dstsOk l
def vDraw (P : Program) (C : Pure) (call : VCall) (ops : Array Oper) (a : VA) (V : VW) : Option (VA × VW) :=
  if P.follows .mixedOrders && ops.toList.zipIdx.all (fun p => looksOk ops p.1 p.2) && chainOk C (masks ops.toList []) ops.toList 0 none && dstsOk ops.toList then
    match vSeq P C call ops ops.toList a V with
    | some (aF, Ws) => if ops.toList.zipIdx.all (readOk P C ops aF Ws (masks ops.toList []) (effsFrom C ops.toList 0)) then (match Ws.getLast? with | some VF => some (aF, VF) | none => none) else none
    | none => none
  else none

section
variable {P : Program} {w0 : World} {R : Ren} {V : VW} {w' : World} {call : VCall} {ops : Array Oper} {C : Pure}

/-- How many of the first 'i' write. -/
def rank (C : Pure) (l : List Oper) (i : Nat) : Nat := ((l.take i).filter fun o => effO C o).length
theorem rank_succ {l : List Oper} {i : Nat} {o : Oper} (h : l[i]? = some o) : rank C l (i + 1) = rank C l i + (if effO C o then 1 else 0) := by
  unfold rank
  rw [List.take_add_one, h, List.filter_append]
  simp only [Option.toList_some, List.length_append]
  congr 1
  by_cases e : effO C o <;> simp [e]
theorem rank_cons (o : Oper) (l : List Oper) (i : Nat) : rank C (o :: l) (i + 1) = (if effO C o then 1 else 0) + rank C l i := by
  unfold rank
  rw [List.take_succ_cons, List.filter_cons]
  split
  · simp; omega
  · simp

/-- One step of what writes, as the walk saw it. -/
def EffStep (P : Program) (call : VCall) (ops : Array Oper) (o : Oper) (a : VA) (V : VW) (v : Value) (V' : VW) : Prop :=
  if Region.wanted o (VA.yielded ops a) then
    o.op.operands.all okX = true ∧
      (vop P false o a.eval V = some (.value v, V') ∨ (vop P false o a.eval V = some (.skip, V') ∧ v = undef) ∨ ∃ f args V1, vop P false o a.eval V = some (.enter f args, V1) ∧ call f args V1 = some (v, V'))
  else v = undef ∧ V' = V

theorem vSeq_keeps {aF : VA} {Ws : List VW} : ∀ (l : List Oper) (a : VA) (V : VW), a.n ≤ VW.bound → vSeq P C call ops l a V = some (aF, Ws) →
    aF.n = a.n ∧ (∀ t : Nat, (∀ o ∈ l, o.dst ≠ some t) → aF.t.get t = a.t.get t) ∧ ((∀ i, a.n ≤ i → a.t.get i = none) → ∀ i, aF.n ≤ i → aF.t.get i = none)
  | [], a, V, _, h => by cases h; exact ⟨rfl, fun _ _ => rfl, fun h => h⟩
  | o :: l, a, V, hb, h => by
    have put : ∀ (v : Value) (Ws2 : List VW) (V2 : VW), vSeq P C call ops l (a.put o.dst v) V2 = some (aF, Ws2) → aF.n = a.n ∧ (∀ t : Nat, (∀ x ∈ o :: l, x.dst ≠ some t) → aF.t.get t = a.t.get t) ∧ ((∀ i, a.n ≤ i → a.t.get i = none) → ∀ i, aF.n ≤ i → aF.t.get i = none) := by
      intro v Ws2 V2 h2
      obtain ⟨h3, h5, h6⟩ := vSeq_keeps l _ V2 (by rw [VA.n_put]; exact hb) h2
      rw [VA.n_put] at h3
      refine ⟨h3, fun t ht => ?_, fun hout => h6 fun i hi => ?_⟩
      · rw [h5 t fun x hx => ht x (List.mem_cons_of_mem _ hx), VA.t_ne a o.dst v hb t (ht o (List.mem_cons_self ..))]
      · rw [VA.n_put] at hi
        cases hd : o.dst with
        | none => exact hout i hi
        | some d =>
          rw [VA.t_put a d v hb, if_neg (fun q => absurd q.2 (Nat.not_lt.2 (q.1 ▸ hi)))]
          exact hout i hi
    have some_ : ∀ (v : Value) (V2 : VW), (vSeq P C call ops l (a.put o.dst v) V2).map (fun x => (x.1, V :: x.2)) = some (aF, Ws) → aF.n = a.n ∧ (∀ t : Nat, (∀ x ∈ o :: l, x.dst ≠ some t) → aF.t.get t = a.t.get t) ∧ ((∀ i, a.n ≤ i → a.t.get i = none) → ∀ i, aF.n ≤ i → aF.t.get i = none) := by
      intro v V2 h2
      obtain ⟨x, hx, e⟩ := Option.map_eq_some_iff.1 h2
      cases e
      exact put v _ V2 hx
    unfold vSeq at h
    split at h
    · split at h
      · split at h
        · split at h
          · exact some_ _ _ h
          · exact some_ _ _ h
          · split at h
            · exact some_ _ _ h
            · cases h
          · cases h
        · cases h
      · exact some_ _ _ h
    · split at h
      · split at h
        · exact put _ _ _ h
        · split at h
          · exact put _ _ _ h
          · cases h
        · cases h
      · exact put _ _ _ h

/-- What the walk saw. -/
def Facts (P : Program) (C : Pure) (call : VCall) (ops : Array Oper) (aF : VA) (Ws : List VW) (l : List Oper) (V : VW) : Prop :=
  Ws[0]? = some V ∧ Ws.length = rank C l l.length + 1 ∧
    ∀ (i : Nat) (o : Oper), l[i]? = some o → effO C o = true → ∃ ai Vi v Vn, Ws[rank C l i]? = some Vi ∧ Ws[rank C l i + 1]? = some Vn ∧ EffStep P call ops o ai Vi v Vn ∧
      (∀ t : Nat, (∀ (j : Nat) (x : Oper), i ≤ j → l[j]? = some x → x.dst ≠ some t) → aF.t.get t = ai.t.get t) ∧
      (∀ t, o.dst = some t → (∀ (j : Nat) (x : Oper), i < j → l[j]? = some x → x.dst ≠ some t) → ∀ u, aF.at? t = some u → u = v)
theorem vSeq_facts {aF : VA} : ∀ (l : List Oper) (a : VA) (V : VW) (Ws : List VW), a.n ≤ VW.bound → vSeq P C call ops l a V = some (aF, Ws) → Facts P C call ops aF Ws l V
  | [], a, V, Ws, _, h => by
    cases h
    exact ⟨rfl, rfl, fun i o ho => by simp at ho⟩
  | o :: l, a, V, Ws, hbd, h => by
    have hbp : ∀ v, (a.put o.dst v).n ≤ VW.bound := fun v => by rw [VA.n_put]; exact hbd
    -- a step that writes
    have eff : ∀ (v : Value) (V2 : VW), effO C o = true → EffStep P call ops o a V v V2 → (vSeq P C call ops l (a.put o.dst v) V2).map (fun x => (x.1, V :: x.2)) = some (aF, Ws) → Facts P C call ops aF Ws (o :: l) V := by
      intro v V2 he hstep h2
      obtain ⟨x, hx, e⟩ := Option.map_eq_some_iff.1 h2
      obtain ⟨x1, x2⟩ := x
      cases e
      obtain ⟨q1, q2, q3⟩ := vSeq_facts l _ V2 x2 (hbp v) hx
      obtain ⟨k1, k3, k2⟩ := vSeq_keeps l _ V2 (hbp v) hx
      refine ⟨rfl, ?_, fun i p hp hep => ?_⟩
      · rw [List.length_cons, List.length_cons, rank_cons, if_pos he, q2]; omega
      · cases i with
        | zero =>
          simp only [List.getElem?_cons_zero, Option.some.injEq] at hp
          subst hp
          refine ⟨a, V, v, V2, rfl, by simpa [rank] using q1, hstep, fun t ht => ?_, fun t hd ht u hu => ?_⟩
          · rw [k3 t fun y hy => by
              obtain ⟨j, hj⟩ := List.getElem?_of_mem hy
              exact ht (j + 1) y (Nat.zero_le _) (by simpa using hj)]
            exact VA.t_ne a o.dst v hbd t (ht 0 o (Nat.le_refl 0) rfl)
          · rw [VA.at_of k1 (k3 t fun y hy => by
              obtain ⟨j, hj⟩ := List.getElem?_of_mem hy
              exact ht (j + 1) y (Nat.succ_pos j) (by simpa using hj)), VA.at_put a o.dst v hbd] at hu
            split at hu
            · cases hu; rfl
            · rename_i hno
              unfold VA.at? at hu
              split at hu
              · rename_i hlt
                exact absurd ⟨hd, hlt⟩ hno
              · cases hu
        | succ i =>
          simp only [List.getElem?_cons_succ] at hp
          obtain ⟨ai, Vi, v', Vn, f1, f2, f3, f4, f5⟩ := q3 i p hp hep
          rw [rank_cons, if_pos he]
          refine ⟨ai, Vi, v', Vn, ?_, ?_, f3, fun t ht => f4 t fun j x hj hx => ht (j + 1) x (by omega) (by simpa using hx), fun t hd ht => f5 t hd fun j x hj hx => ht (j + 1) x (by omega) (by simpa using hx)⟩
          · rw [Nat.add_comm 1]; simpa using f1
          · rw [show 1 + rank C l i + 1 = (rank C l i + 1) + 1 by omega]; simpa using f2
    have read : ∀ (v : Value), effO C o = false → vSeq P C call ops l (a.put o.dst v) V = some (aF, Ws) → Facts P C call ops aF Ws (o :: l) V := by
      intro v he h2
      obtain ⟨q1, q2, q3⟩ := vSeq_facts l _ V Ws (hbp v) h2
      refine ⟨q1, ?_, fun i p hp hep => ?_⟩
      · rw [List.length_cons, rank_cons, he, q2]; simp
      · cases i with
        | zero =>
          simp only [List.getElem?_cons_zero, Option.some.injEq] at hp
          subst hp
          rw [he] at hep; cases hep
        | succ i =>
          simp only [List.getElem?_cons_succ] at hp
          obtain ⟨ai, Vi, v', Vn, f1, f2, f3, f4, f5⟩ := q3 i p hp hep
          rw [rank_cons, he]
          refine ⟨ai, Vi, v', Vn, ?_, ?_, f3, fun t ht => f4 t fun j x hj hx => ht (j + 1) x (by omega) (by simpa using hx), fun t hd ht => f5 t hd fun j x hj hx => ht (j + 1) x (by omega) (by simpa using hx)⟩
          · simpa using f1
          · simpa using f2
    unfold vSeq at h
    split at h
    · rename_i he
      split at h
      · rename_i hw
        split at h
        · rename_i hok
          split at h
          · rename_i v V1 hv
            exact eff v V1 he (by unfold EffStep; rw [if_pos hw]; exact ⟨hok, .inl hv⟩) h
          · rename_i V1 hv
            exact eff undef V1 he (by unfold EffStep; rw [if_pos hw]; exact ⟨hok, .inr (.inl ⟨hv, rfl⟩)⟩) h
          · rename_i f args V1 hv
            split at h
            · rename_i v V2 hcall
              exact eff v V2 he (by unfold EffStep; rw [if_pos hw]; exact ⟨hok, .inr (.inr ⟨f, args, V1, hv, hcall⟩)⟩) h
            · cases h
          · cases h
        · cases h
      · rename_i hw
        exact eff undef V he (by unfold EffStep; rw [if_neg hw]; exact ⟨rfl, rfl⟩) h
    · rename_i he
      have he : effO C o = false := by simpa using he
      split at h
      · split at h
        · exact read _ he h
        · split at h
          · exact read _ he h
          · cases h
        · cases h
      · exact read _ he h

theorem rank_same (l : List Oper) : ∀ (n c : Nat), (∀ (q : Nat) (o : Oper), c ≤ q → q < c + n → l[q]? = some o → effO C o = false) → rank C l (c + n) = rank C l c
  | 0, _, _ => rfl
  | n + 1, c, h => by
    have ih := rank_same l n c fun q o h1 h2 => h q o h1 (by omega)
    rw [← ih]
    cases e : l[c + n]? with
    | none =>
      unfold rank
      rw [← Nat.add_assoc, List.take_of_length_le (by rw [List.getElem?_eq_none_iff] at e; omega), List.take_of_length_le (by rw [List.getElem?_eq_none_iff] at e; omega)]
    | some o =>
      rw [← Nat.add_assoc, rank_succ e, h (c + n) o (by omega) (by omega) e]
      simp
/-- One comes before the other. -/
inductive Dep (ops : Array Oper) : Nat → Nat → Prop
  | one {k : Nat} {o : Oper} {e : Edge} (ho : ops[k]? = some o) (he : e ∈ o.after) (hb : Region.binds .any e = true) : Dep ops k e.on
  | more {k j : Nat} {o : Oper} {e : Edge} (ho : ops[k]? = some o) (he : e ∈ o.after) (hb : Region.binds .any e = true) (h : Dep ops e.on j) : Dep ops k j
theorem mask_fold {k j : Nat} {o : Oper} (ho : ops[k]? = some o) {acc : List Nat} (hacc : ∀ i j, (acc.getD i 0).testBit j = true → Dep ops i j) : ∀ (l : List Edge) (m : Nat), (∀ e ∈ l, e ∈ o.after) → (m.testBit j = true → Dep ops k j) →
    (l.foldl (fun m e => if Region.binds .any e then (m ||| 2 ^ e.on) ||| acc.getD e.on 0 else m) m).testBit j = true → Dep ops k j
  | [], m, _, hm, h => hm h
  | e :: l, m, hl, hm, h => by
    refine mask_fold ho hacc l _ (fun x hx => hl x (List.mem_cons_of_mem _ hx)) (fun h2 => ?_) h
    dsimp only at h2
    split at h2
    · rename_i hb
      have he := hl e (List.mem_cons_self ..)
      rw [Nat.testBit_or, Nat.testBit_or, Bool.or_eq_true, Bool.or_eq_true] at h2
      rcases h2 with (h2 | h2) | h2
      · exact hm h2
      · rw [Nat.testBit_two_pow] at h2
        have h2 : e.on = j := by simpa using h2
        subst h2
        exact .one ho he hb
      · exact .more ho he hb (hacc _ _ h2)
    · exact hm h2
theorem masks_spec : ∀ (l : List Oper) (acc : List Nat), (∀ j : Nat, l[j]? = ops[acc.length + j]?) → (∀ i j, (acc.getD i 0).testBit j = true → Dep ops i j) → ∀ i j, ((masks l acc).getD i 0).testBit j = true → Dep ops i j
  | [], acc, _, h, i, j, hb => h i j hb
  | o :: l, acc, hl, h, i, j, hb => by
    have ho : ops[acc.length]? = some o := by simpa using (hl 0).symm
    refine masks_spec l (acc ++ [maskAt acc o]) (fun j => ?_) (fun i j hb => ?_) i j hb
    · have := hl (j + 1)
      rw [List.length_append, List.length_singleton, show acc.length + 1 + j = acc.length + (j + 1) by omega]
      simpa using this
    · rw [List.getD_eq_getElem?_getD] at hb
      by_cases h1 : i < acc.length
      · rw [List.getElem?_append_left h1, ← List.getD_eq_getElem?_getD] at hb
        exact h i j hb
      · by_cases h2 : i = acc.length
        · subst h2
          rw [List.getElem?_append_right (Nat.le_refl _), Nat.sub_self] at hb
          have hb : (maskAt acc o).testBit j = true := hb
          unfold maskAt at hb
          exact mask_fold ho h _ 0 (fun e he => Array.mem_toList_iff.1 he) (fun e => by simp at e) hb
        · rw [List.getElem?_eq_none (by simp; omega)] at hb
          simp at hb
theorem effs_spec : ∀ (l : List Oper) (k r s : Nat), (effsFrom C l k)[r]? = some s → k ≤ s ∧ ∃ o, l[s - k]? = some o ∧ effO C o = true ∧ rank C l (s - k) = r
  | [], k, r, s, h => by simp [effsFrom] at h
  | o :: l, k, r, s, h => by
    unfold effsFrom at h
    split at h
    · rename_i he
      cases r with
      | zero =>
        simp only [List.getElem?_cons_zero, Option.some.injEq] at h
        subst h
        exact ⟨Nat.le_refl _, o, by simp, he, by simp [rank]⟩
      | succ r =>
        simp only [List.getElem?_cons_succ] at h
        obtain ⟨h1, x, h2, h3, h4⟩ := effs_spec l (k + 1) r s h
        refine ⟨by omega, x, ?_, h3, ?_⟩
        · rw [show s - k = (s - (k + 1)) + 1 by omega]; simpa using h2
        · rw [show s - k = (s - (k + 1)) + 1 by omega, rank_cons, if_pos he, h4]; omega
    · rename_i he
      obtain ⟨h1, x, h2, h3, h4⟩ := effs_spec l (k + 1) r s h
      refine ⟨by omega, x, ?_, h3, ?_⟩
      · rw [show s - k = (s - (k + 1)) + 1 by omega]; simpa using h2
      · rw [show s - k = (s - (k + 1)) + 1 by omega, rank_cons, if_neg he, h4]; omega
theorem chain_spec {ms : List Nat} : ∀ (l : List Oper) (k : Nat) (last : Option Nat), chainOk C ms l k last = true → (∀ j : Nat, l[j]? = ops[k + j]?) → (∀ p, last = some p → p < k ∧ ∃ x, ops[p]? = some x ∧ effO C x = true) → (∀ (q : Nat) (x : Oper), q < k → ops[q]? = some x → effO C x = true → ∃ p, last = some p ∧ q ≤ p) →
    ∀ (i : Nat) (o : Oper), k ≤ i → ops[i]? = some o → effO C o = true →
      (∀ (q : Nat) (x : Oper), q < i → ops[q]? = some x → effO C x = false) ∨ ∃ p x, p < i ∧ ops[p]? = some x ∧ effO C x = true ∧ (ms.getD i 0).testBit p = true ∧ ∀ (q : Nat) (y : Oper), q < i → ops[q]? = some y → effO C y = true → q ≤ p
  | [], k, last, _, hl, _, _, i, o, hi, ho, _ => by
    have := hl (i - k)
    rw [show k + (i - k) = i by omega, ho] at this
    simp at this
  | y :: l, k, last, h, hl, hp, hq, i, o, hi, ho, he => by
    have hy : ops[k]? = some y := by simpa using (hl 0).symm
    have hl' : ∀ j : Nat, l[j]? = ops[k + 1 + j]? := fun j => by
      have := hl (j + 1)
      rw [show k + (j + 1) = k + 1 + j by omega] at this
      simpa using this
    unfold chainOk at h
    split at h
    · rename_i hey
      simp only [Bool.and_eq_true] at h
      by_cases hik : i = k
      · subst hik
        rw [ho] at hy
        cases hy
        cases last with
        | none =>
          left
          intro q x hqi hx
          cases e : effO C x with
          | false => rfl
          | true => obtain ⟨p, hp1, _⟩ := hq q x hqi hx e; cases hp1
        | some p =>
          right
          obtain ⟨h1, x, h2, h3⟩ := hp p rfl
          exact ⟨p, x, h1, h2, h3, h.1, fun q z hqi hz hez => by obtain ⟨p2, e2, hle⟩ := hq q z hqi hz hez; cases e2; exact hle⟩
      · exact chain_spec l (k + 1) (some k) h.2 hl' (fun p e => by cases e; exact ⟨by omega, y, hy, hey⟩) (fun q x hqk hx hex => ⟨k, rfl, by omega⟩) i o (by omega) ho he
    · rename_i hey
      have hey : effO C y = false := by simpa using hey
      have hik : i ≠ k := by
        rintro rfl
        rw [ho] at hy; cases hy
        rw [hey] at he; cases he
      refine chain_spec l (k + 1) last h hl' (fun p e => ⟨by have := (hp p e).1; omega, (hp p e).2⟩) (fun q x hqk hx hex => ?_) i o (by omega) ho he
      by_cases e : q = k
      · subst e
        rw [hy] at hx; cases hx
        rw [hey] at hex; cases hex
      · exact hq q x (by omega) hx hex
theorem dsts_spec : ∀ (l : List Oper), dstsOk l = true → ∀ (i j : Nat) (x y : Oper), i < j → l[i]? = some x → l[j]? = some y → ∀ t, x.dst = some t → y.dst ≠ some t
  | [], _, i, j, x, y, _, hx, _, _, _ => by simp at hx
  | o :: l, h, i, j, x, y, hij, hx, hy, t, ht => by
    simp only [dstsOk, Bool.and_eq_true] at h
    cases j with
    | zero => omega
    | succ j =>
      simp only [List.getElem?_cons_succ] at hy
      cases i with
      | zero =>
        simp only [List.getElem?_cons_zero, Option.some.injEq] at hx
        subst hx
        have h1 := h.1
        rw [ht] at h1
        have := List.all_eq_true.1 h1 y (List.mem_of_getElem? hy)
        simpa using this
      | succ i => exact dsts_spec l h.2 i j x y (by omega) (by simpa using hx) hy t ht

/-- How many have not come up. -/
def unl (listed : Array Bool) : Nat → Nat
  | 0 => 0
  | n + 1 => (if listed.getD n true = true then 0 else 1) + unl listed n
theorem unl_zero (listed : Array Bool) : ∀ n, unl listed n = 0 → ∀ i, i < n → listed.getD i true = true
  | 0, _, i, hi => by omega
  | n + 1, h, i, hi => by
    unfold unl at h
    by_cases e : listed.getD n true = true
    · by_cases h2 : i = n
      · rw [h2]; exact e
      · exact unl_zero listed n (by omega) i (by omega)
    · rw [if_neg e] at h; omega
theorem unl_far {listed : Array Bool} {i : Nat} : ∀ n, n ≤ i → unl (listed.setIfInBounds i true) n = unl listed n
  | 0, _ => rfl
  | n + 1, h => by
    unfold unl
    rw [getD_set_ne true (by omega), unl_far n (by omega)]
theorem unl_set {listed : Array Bool} {i : Nat} (hi : listed.getD i true = false) (hs : i < listed.size) : ∀ n, i < n → unl (listed.setIfInBounds i true) n + 1 = unl listed n
  | 0, h => by omega
  | n + 1, h => by
    unfold unl
    by_cases e : i = n
    · subst e
      rw [unl_far i (Nat.le_refl i), hi]
      have : (listed.setIfInBounds i true).getD i true = true := by simp [hs]
      rw [this]
      simp
      omega
    · rw [getD_set_ne true e, ← unl_set hi hs n (by omega)]
      omega

/-- Where a region stands. -/
structure St (P : Program) (C : Pure) (w0 : World) (ops : Array Oper) (aF : VA) (Ws : List VW) (R : Ren) (listed : Array Bool) (a' : Act) (w1 : World) (c : Nat) (R1 : Ren) : Prop where
  le : Le R R1
  size : listed.size = ops.size
  cle : c ≤ ops.size
  world : ∃ Vc, Ws[rank C ops.toList c]? = some Vc ∧ WR w0 R1 Vc w1
  eff : ∀ (i : Nat) (o : Oper), ops[i]? = some o → effO C o = true → (listed.getD i true = true ↔ i < c)
  cl : ∀ (i : Nat) (o : Oper), ops[i]? = some o → listed.getD i true = true → ∀ e ∈ o.after, Region.binds .any e = true → listed.getD e.on false = true
  defs : a'.defers = []
  sz : a'.tmps.size = aF.n
  tm : ∀ (t : Nat) (u v' : Value), aF.at? t = some u → a'.tmps[t]? = some v' → ((∃ (i : Nat) (o : Oper), ops[i]? = some o ∧ o.dst = some t ∧ listed.getD i true = true) ∨ (∀ (i : Nat) (o : Oper), ops[i]? = some o → o.dst ≠ some t)) → VR R1 u v'

theorem listed_of {listed : Array Bool} {i : Nat} (h : listed.getD i false = true) : listed.getD i true = true := by
  rw [Array.getD_eq_getD_getElem?] at h ⊢
  cases e : listed[i]? with
  | none => rfl
  | some b => rw [e] at h; exact h

theorem St.put {aF : VA} {Ws : List VW} {listed : Array Bool} {a' : Act} {w1 w2 : World} {c c2 : Nat} {R1 R2 : Ren} {i : Nat} {o : Oper} {v' : Value} (h : St P C w0 ops aF Ws R listed a' w1 c R1) (hl : Le R1 R2) (ho : ops[i]? = some o)
    (hw : ∃ Vc, Ws[rank C ops.toList c2]? = some Vc ∧ WR w0 R2 Vc w2) (hc2 : c2 ≤ ops.size) (heff : ∀ (k : Nat) (x : Oper), ops[k]? = some x → effO C x = true → ((listed.setIfInBounds i true).getD k true = true ↔ k < c2))
    (hcl : ∀ e ∈ o.after, Region.binds .any e = true → listed.getD e.on false = true)
    (hfin : ∀ t, o.dst = some t → ∀ u, aF.at? t = some u → VR R2 u v') : St P C w0 ops aF Ws R (listed.setIfInBounds i true) (a'.put o.dst v') w2 c2 R2 := by
  refine ⟨h.le.trans hl, by rw [Array.size_setIfInBounds]; exact h.size, hc2, hw, heff, fun k x hx hlk e he hb => ?_, ?_, ?_, fun t u x hu hx hor => ?_⟩
  · by_cases e1 : k = i
    · subst e1
      rw [ho] at hx; cases hx
      exact getD_set_true (hcl e he hb)
    · rw [getD_set_ne true (fun q => e1 q.symm)] at hlk
      exact getD_set_true (h.cl k x hx hlk e he hb)
  · cases o.dst <;> exact h.defs
  · cases o.dst with
    | none => exact h.sz
    | some d => simpa [Act.put] using h.sz
  · cases hd : o.dst with
    | none =>
      rw [hd] at hx
      refine (h.tm t u x hu hx ?_).mono hl
      rcases hor with ⟨k, p, hk, hp, hlk⟩ | hn
      · by_cases e : k = i
        · subst e
          rw [ho] at hk; cases hk
          rw [hd] at hp; cases hp
        · rw [getD_set_ne true (fun q => e q.symm)] at hlk
          exact .inl ⟨k, p, hk, hp, hlk⟩
      · exact .inr hn
    | some d =>
      rw [hd] at hx
      by_cases e : d = t
      · subst e
        have hx : (a'.tmps.setIfInBounds d v')[d]? = some x := hx
        rw [Array.getElem?_setIfInBounds_self] at hx
        split at hx
        · cases hx; exact hfin d hd u hu
        · cases hx
      · have hx : (a'.tmps.setIfInBounds d v')[t]? = some x := hx
        rw [Array.getElem?_setIfInBounds_ne e] at hx
        refine (h.tm t u x hu hx ?_).mono hl
        rcases hor with ⟨k, p, hk, hp, hlk⟩ | hn
        · by_cases e2 : k = i
          · subst e2
            rw [ho] at hk; cases hk
            rw [hd] at hp; cases hp
            exact absurd rfl e
          · rw [getD_set_ne true (fun q => e2 q.symm)] at hlk
            exact .inl ⟨k, p, hk, hp, hlk⟩
        · exact .inr hn

theorem isFin_spec {aF : VA} {o : Oper} {v : Value} (h : isFin aF o v = true) : ∀ t, o.dst = some t → ∀ u, aF.at? t = some u → v = u := by
  intro t ht u hu
  unfold isFin at h
  rw [ht] at h
  simp only [hu] at h
  exact sameV_eq 8 v u h

/-- They are as they are said to be, in every world behind this one. -/
def PureOk (P : Program) (w0 : World) (C : Pure) : Prop :=
  ∀ f args v, C.run f args = some v → ∀ R args' w', AsR R args args' → Fr No w0 w' → Calls P f args' w' fun e w1 => ∃ v', e = .returned v' ∧ VR R v v' ∧ Fr No w' w1
theorem vDraw_ok (hz : Zeros P) (hc : CallOk P w0 call) (hp : PureOk P w0 C) {a : VA} {a' : Act} {aF : VA} {VF : VW} (h : vDraw P C call ops a V = some (aF, VF)) (ha : ActR R a a') (hW : WR w0 R V w') {Q : Exit → Act → World → Prop}
    (hQ : ∀ R1 a1' w1, Le R R1 → ActR R1 aF a1' → WR w0 R1 VF w1 → Q .normal a1' w1) (id : Nat) : (Code.region id ops true).wp P Q a' w' := by
  unfold vDraw at h
  split at h
  · rename_i hst
    simp only [Bool.and_eq_true] at hst
    obtain ⟨⟨⟨hm, hlooks⟩, hchain⟩, hdsts⟩ := hst
    split at h
    · rename_i aF' Ws hseq
      split at h
      · rename_i hreads
        split at h
        · rename_i VF' hlast
          cases h
          obtain ⟨hkeep1, hkeep3, hkeep2⟩ := vSeq_keeps _ _ _ ha.top hseq
          have hkout := hkeep2 ha.out
          obtain ⟨hW0, hWlen, hfacts⟩ := vSeq_facts _ _ _ _ ha.top hseq
          have hlist : ∀ i : Nat, ops.toList[i]? = ops[i]? := fun i => Array.getElem?_toList
          have hdepm := masks_spec (ops := ops) ops.toList [] (fun j => by rw [List.length_nil, Nat.zero_add, hlist]) (fun i j h => by simp at h)
          have hch := chain_spec (ops := ops) ops.toList 0 none hchain (fun j => by rw [Nat.zero_add, hlist]) (fun p e => by cases e) (fun q x hq => by omega)
          have hds := dsts_spec _ hdsts
          have hlook : ∀ (i : Nat) (o : Oper), ops[i]? = some o → looksOk ops o i = true := fun i o ho =>
            List.all_eq_true.1 hlooks (o, i) (by rw [List.mem_zipIdx_iff_getElem?, hlist]; exact ho)
          have hafter : ∀ (i : Nat) (o : Oper), ops[i]? = some o → ∀ e ∈ o.after, Region.binds .any e = true → e.on < i := fun i o ho e he hb => by
            have := hlook i o ho
            unfold looksOk at this
            simp only [Bool.and_eq_true] at this
            have := Array.all_eq_true_iff_forall_mem.1 this.2 e he
            rw [hb] at this
            simpa using this
          have hwaits : ∀ (i : Nat) (o : Oper) (k : Nat), ops[i]? = some o → waits o k = true → ∃ e ∈ o.after, Region.binds .any e = true ∧ e.on = k := fun i o k ho hk => by
            unfold waits at hk
            obtain ⟨n, hn, h2⟩ := Array.any_eq_true.1 hk
            simp only [Bool.and_eq_true, beq_iff_eq] at h2
            exact ⟨o.after[n], Array.getElem_mem hn, h2.2, h2.1⟩
          have hprod : ∀ (i : Nat) (o : Oper), ops[i]? = some o → ∀ t ∈ o.looksAt ops, ∀ (k : Nat) (x : Oper), ops[k]? = some x → x.dst = some t → waits o k = true := fun i o ho t ht k x hx hd => by
            have := hlook i o ho
            unfold looksOk at this
            simp only [Bool.and_eq_true] at this
            have := List.all_eq_true.1 (List.all_eq_true.1 this.1 t ht) (x, k) (by rw [List.mem_zipIdx_iff_getElem?, hlist]; exact hx)
            simp only [hd, bne_self_eq_false, Bool.false_or] at this
            exact this
          -- the end
          have finish : ∀ listed a1 w1 c R1, St P C w0 ops aF Ws R listed a1 w1 c R1 → (∀ i, i < ops.size → listed.getD i true = true) → Q .normal a1 w1 := by
            intro listed a1 w1 c R1 hS hall
            obtain ⟨Vc, hVc, hWR⟩ := hS.world
            have hrank : rank C ops.toList ops.size = rank C ops.toList c := by
              have := rank_same ops.toList (ops.size - c) c fun q o h1 h2 ho => by
                rw [hlist] at ho
                cases e : effO C o with
                | false => rfl
                | true =>
                  have := (hS.eff q o ho e).1 (hall q (by omega))
                  omega
              rw [← this, Nat.add_sub_cancel' hS.cle]
            have hVF : VF = Vc := by
              rw [List.getLast?_eq_getElem?, hWlen, Array.length_toList, hrank, Nat.add_sub_cancel, hVc] at hlast
              cases hlast; rfl
            subst hVF
            refine hQ R1 a1 w1 hS.le ⟨hS.sz.symm, by rw [hkeep1]; exact ha.top, hkout, fun t v' hv' => ?_, hS.defs⟩ hWR
            have hlt : t < aF.n := by rw [← hS.sz]; exact (Array.getElem?_eq_some_iff.1 hv').1
            refine hS.tm t _ v' (by unfold VA.at?; rw [if_pos hlt]) hv' ?_
            by_cases hex : ∃ (i : Nat) (o : Oper), ops[i]? = some o ∧ o.dst = some t
            · obtain ⟨i, o, h1, h2⟩ := hex
              exact .inl ⟨i, o, h1, h2, hall i (Array.getElem?_eq_some_iff.1 h1).1⟩
            · exact .inr fun i o h1 h2 => hex ⟨i, o, h1, h2⟩
          have main : ∀ (fuel : Nat) (listed : Array Bool) (a1 : Act) (w1 : World) (c : Nat) (R1 : Ren), St P C w0 ops aF Ws R listed a1 w1 c R1 → unl listed ops.size ≤ fuel → wpAny P .any ops Q fuel listed a1 w1 := by
            intro fuel
            induction fuel with
            | zero =>
              intro listed a1 w1 c R1 hS hu
              have hall := unl_zero listed ops.size (by omega)
              refine ⟨?_, finish _ _ _ _ _ hS hall⟩
              apply List.eq_nil_iff_forall_not_mem.2
              intro j hj
              obtain ⟨h1, o, h2, _⟩ := mem_ready.1 hj
              rw [hall j (Array.getElem?_eq_some_iff.1 h2).1] at h1
              cases h1
            | succ fuel ih =>
              intro listed a1 w1 c R1 hS hu
              refine ⟨fun hnil => finish _ _ _ _ _ hS fun i hi => ?_, fun i hi => ?_⟩
              · -- the least that has not come up may come up
                induction i using Nat.strongRecOn with
                | _ i ihi =>
                  cases e : listed.getD i true with
                  | true => rfl
                  | false =>
                    have ho := Array.getElem?_eq_getElem hi
                    have : i ∈ Region.ready .any ops listed := mem_ready.2 ⟨e, _, ho, fun ed hed hb => by
                      have hlt := hafter i _ ho ed hed hb
                      have := ihi ed.on hlt (by omega)
                      rw [Array.getD_eq_getD_getElem?] at this ⊢
                      rw [Array.getElem?_eq_getElem (by rw [hS.size]; omega)] at this ⊢
                      exact this⟩
                    rw [hnil] at this
                    cases this
              · obtain ⟨hun, o, ho, hdeps⟩ := mem_ready.1 hi
                have hisz : i < ops.size := (Array.getElem?_eq_some_iff.1 ho).1
                have hwl : ∀ k, waits o k = true → listed.getD k true = true := fun k hk => by
                  obtain ⟨e, he, hb, rfl⟩ := hwaits i o k ho hk
                  exact listed_of (hdeps e he hb)
                -- whoever comes before one that has come up has come up
                have hback : ∀ s j, Dep ops s j → (∀ x, ops[s]? = some x → ∀ e ∈ x.after, Region.binds .any e = true → listed.getD e.on false = true) → listed.getD j true = true := by
                  intro s j hd
                  induction hd with
                  | one ho2 he2 hb2 => exact fun hx => listed_of (hx _ ho2 _ he2 hb2)
                  | @more k j o2 e2 ho2 he2 hb2 h2 ih2 =>
                    exact fun hx => ih2 fun x hx2 e he hb => hS.cl e2.on x hx2 (listed_of (hx _ ho2 _ he2 hb2)) e he hb
                have hdepL : ∀ j, ((masks ops.toList []).getD i 0).testBit j = true → listed.getD j true = true := fun j hj =>
                  hback i j (hdepm i j hj) fun x hx e he hb => by rw [ho] at hx; cases hx; exact hdeps e he hb
                have hdepU : ∀ (s : Nat) (x : Oper), ops[s]? = some x → listed.getD s true = true → ((masks ops.toList []).getD s 0).testBit i = true → False := fun s x hx hls hb => by
                  have := hback s i (hdepm s i hb) fun y hy e he hb2 => hS.cl s y hy hls e he hb2
                  rw [this] at hun
                  cases hun
                have hwlt : ∀ k, waits o k = true → k < i := fun k hk => by
                  obtain ⟨e, he, hb, rfl⟩ := hwaits i o k ho hk
                  exact hafter i o ho e he hb
                have htm : ∀ t ∈ o.looksAt ops, ∀ u v', aF.at? t = some u → a1.tmps[t]? = some v' → VR R1 u v' := fun t ht u v' h1 h2 => by
                  refine hS.tm t u v' h1 h2 ?_
                  by_cases hex : ∃ (k : Nat) (x : Oper), ops[k]? = some x ∧ x.dst = some t
                  · obtain ⟨k, x, hk, hx⟩ := hex
                    exact .inl ⟨k, x, hk, hx, hwl k (hprod i o ho t ht k x hk hx)⟩
                  · exact .inr fun k x hk hx => hex ⟨k, x, hk, hx⟩
                obtain ⟨Vc, hVc, hWR⟩ := hS.world
                have hev : ∀ x ∈ o.op.operands, okX x = true → VR R1 (aF.eval x) (a1.eval x) := fun x hx hok => by
                  cases x with
                  | tmp t =>
                    have ht : t ∈ o.looksAt ops := List.mem_append_left _ (List.mem_filterMap.2 ⟨.tmp t, by simpa using hx, rfl⟩)
                    show VR R1 (aF.get t) (a1.tmps.getD t undef)
                    rw [Array.getD_eq_getD_getElem?]
                    cases e1 : a1.tmps[t]? with
                    | none =>
                      rw [Array.getElem?_eq_none_iff, hS.sz] at e1
                      unfold VA.get
                      rw [hkout t e1]
                      exact vr_undef
                    | some v1 =>
                      have hlt : t < aF.n := by rw [← hS.sz]; exact (Array.getElem?_eq_some_iff.1 e1).1
                      exact htm t ht _ v1 (by unfold VA.at?; rw [if_pos hlt]) e1
                  | const v => exact plain_vr 6 v hok R1
                  | global g => exact glob_vr hWR.glob g (of_decide_eq_true hok)
                  | func f => exact .func _ rfl (fun i v v' h => by simp at h) rfl (fun i v v' h => by simp at h)
                have hwant : Region.wanted o (yielded ops a1.tmps) = Region.wanted o (VA.yielded ops aF) := by
                  unfold Region.wanted
                  cases hg : o.guard with
                  | none => rfl
                  | some gw =>
                    obtain ⟨g, want⟩ := gw
                    have : yielded ops a1.tmps g = VA.yielded ops aF g := by
                      unfold yielded VA.yielded
                      cases hd : (ops[g]?).bind (·.dst) with
                      | none => rfl
                      | some t =>
                        have ht : t ∈ o.looksAt ops := List.mem_append_right _ (by rw [hg]; simp [hd])
                        show (match a1.tmps[t]? with | some (.bool b) => some b | _ => none) = (match aF.t.get t with | some (.bool b) => some b | _ => none)
                        cases e1 : a1.tmps[t]? with
                        | none =>
                          rw [Array.getElem?_eq_none_iff, hS.sz] at e1
                          rw [hkout t e1]
                        | some v1 =>
                          have hlt : t < aF.n := by rw [← hS.sz]; exact (Array.getElem?_eq_some_iff.1 e1).1
                          have := htm t ht (aF.get t) v1 (by unfold VA.at?; rw [if_pos hlt]) e1
                          unfold VA.get at this
                          cases e2 : aF.t.get t with
                          | none =>
                            rw [e2] at this
                            have this : VR R1 undef v1 := this
                            cases this
                            rfl
                          | some u =>
                            rw [e2] at this
                            have this : VR R1 u v1 := this
                            cases this <;> rfl
                    simp only [this]
                have hu' : unl (listed.setIfInBounds i true) ops.size ≤ fuel := by
                  have := unl_set hun (by rw [hS.size]; exact hisz) ops.size hisz
                  omega
                unfold wpOp
                rw [ho]
                show if Region.wanted o (yielded ops a1.tmps) then _ else _
                rw [hwant]
                cases he : effO C o with
                | true =>
                  obtain ⟨ai, Vi, v, Vn, f1, f2, f3, f4, f5⟩ := hfacts i o (by rw [hlist]; exact ho) he
                  have hci : c ≤ i := by
                    apply Nat.le_of_not_lt
                    intro hlt
                    rw [(hS.eff i o ho he).2 hlt] at hun
                    cases hun
                  have hbelow : ∀ (q : Nat) (x : Oper), q < i → ops[q]? = some x → effO C x = true → q < c := by
                    intro q x hq hx hex
                    rcases hch i o (Nat.zero_le i) ho he with h1 | ⟨p, y, h1, h2, h3, h4, h5⟩
                    · rw [h1 q x hq hx] at hex; cases hex
                    · have := (hS.eff p y h2 h3).1 (hdepL p h4)
                      have := h5 q x hq hx hex
                      omega
                  have hrk : rank C ops.toList i = rank C ops.toList c := by
                    have := rank_same ops.toList (i - c) c fun q x h1 h2 hx => by
                      rw [hlist] at hx
                      cases e : effO C x with
                      | false => rfl
                      | true => have := hbelow q x (by omega) hx e; omega
                    rw [← this, Nat.add_sub_cancel' hci]
                  rw [hrk, hVc] at f1
                  cases f1
                  have hrk1 : rank C ops.toList (i + 1) = rank C ops.toList c + 1 := by
                    rw [rank_succ (by rw [hlist]; exact ho), he, hrk]; rfl
                  rw [hrk] at f2
                  have hnolater : ∀ t ∈ o.looksAt ops, aF.t.get t = ai.t.get t := fun t ht => f4 t fun j x hj hx hd => by
                    have := hwlt j (hprod i o ho t ht j x (by rw [← hlist]; exact hx) hd)
                    omega
                  have hai : ∀ x ∈ o.op.operands, ai.eval x = aF.eval x := fun x hx => by
                    cases x with
                    | tmp t =>
                      have ht : t ∈ o.looksAt ops := List.mem_append_left _ (List.mem_filterMap.2 ⟨.tmp t, by simpa using hx, rfl⟩)
                      show ai.get t = aF.get t
                      unfold VA.get
                      rw [hnolater t ht]
                    | _ => rfl
                  have hwai : Region.wanted o (VA.yielded ops ai) = Region.wanted o (VA.yielded ops aF) := by
                    unfold Region.wanted
                    cases hg : o.guard with
                    | none => rfl
                    | some gw =>
                      obtain ⟨g, want⟩ := gw
                      have : VA.yielded ops ai g = VA.yielded ops aF g := by
                        unfold VA.yielded
                        cases hd : (ops[g]?).bind (·.dst) with
                        | none => rfl
                        | some t =>
                          have ht : t ∈ o.looksAt ops := List.mem_append_right _ (by rw [hg]; simp [hd])
                          show (match ai.t.get t with | some (.bool b) => some b | _ => none) = (match aF.t.get t with | some (.bool b) => some b | _ => none)
                          rw [hnolater t ht]
                      simp only [this]
                  have hfin : ∀ t, o.dst = some t → ∀ u, aF.at? t = some u → u = v := fun t ht u hu => f5 t ht (fun j x hj hx => hds i j o x hj (by rw [hlist]; exact ho) hx t ht) u hu
                  have heff' : ∀ (k : Nat) (x : Oper), ops[k]? = some x → effO C x = true → ((listed.setIfInBounds i true).getD k true = true ↔ k < i + 1) := fun k x hx hex => by
                    by_cases e : k = i
                    · subst e
                      have : (listed.setIfInBounds k true).getD k true = true := by rw [Array.getD_eq_getD_getElem?, Array.getElem?_setIfInBounds_self]; split <;> rfl
                      exact ⟨fun _ => by omega, fun _ => this⟩
                    · rw [getD_set_ne true (fun q => e q.symm), hS.eff k x hx hex]
                      exact ⟨fun h => by omega, fun h => hbelow k x (by omega) hx hex⟩
                  have next : ∀ R2 v' w2, Le R1 R2 → WR w0 R2 Vn w2 → VR R2 v v' → wpAny P .any ops Q fuel (listed.setIfInBounds i true) (a1.put o.dst v') w2 := fun R2 v' w2 hl2 hW2 hv =>
                    ih _ _ _ (i + 1) R2 (hS.put hl2 ho ⟨Vn, by rw [hrk1]; exact f2, hW2⟩ (by omega) heff' hdeps fun t ht u hu => by rw [hfin t ht u hu]; exact hv) hu'
                  unfold EffStep at f3
                  rw [hwai] at f3
                  split
                  · rename_i hw
                    rw [if_pos hw] at f3
                    obtain ⟨hok, f3⟩ := f3
                    left
                    have hρ : ∀ x ∈ o.op.operands, VR R1 (ai.eval x) (a1.eval x) := fun x hx => by
                      rw [hai x hx]
                      exact hev x hx (Array.all_eq_true_iff_forall_mem.1 hok x hx)
                    rcases f3 with f3 | ⟨f3, rfl⟩ | ⟨f, args, V1, f3, hcall⟩
                    · refine oper_wp hc (vop_ok hz f3 hρ hWR) (fun u e R2 v' w2 hl2 hW2 hv => ?_) (fun e => by cases e) (fun f args e => by cases e)
                      cases e
                      exact next R2 v' w2 hl2 hW2 hv
                    · exact oper_wp hc (vop_ok hz f3 hρ hWR) (fun u e => by cases e) (fun _ R2 w2 hl2 hW2 => next R2 undef w2 hl2 hW2 vr_undef) (fun f args e => by cases e)
                    · refine oper_wp hc (vop_ok hz f3 hρ hWR) (fun u e => by cases e) (fun e => by cases e) (fun g as e => ?_)
                      cases e
                      exact ⟨v, Vn, hcall, fun R2 v' w2 hl2 hW2 hv => next R2 v' w2 hl2 hW2 hv⟩
                  · rename_i hw
                    rw [if_neg hw] at f3
                    obtain ⟨rfl, rfl⟩ := f3
                    exact next R1 undef w1 (Le.refl R1) hWR vr_undef
                | false =>
                  have hr := List.all_eq_true.1 hreads (o, i) (by rw [List.mem_zipIdx_iff_getElem?, hlist]; exact ho)
                  unfold readOk at hr
                  simp only [he, Bool.false_or] at hr
                  have hposs : possible (masks ops.toList []) (effsFrom C ops.toList 0) i (rank C ops.toList c) = true := by
                    unfold possible
                    apply List.all_eq_true.2
                    rintro ⟨s, r⟩ hsr
                    rw [List.mem_zipIdx_iff_getElem?] at hsr
                    obtain ⟨_, x, hx, hex, hrk⟩ := effs_spec _ 0 r s hsr
                    rw [Nat.sub_zero] at hx hrk
                    rw [hlist] at hx
                    have hmono : ∀ a b, a ≤ b → rank C ops.toList a ≤ rank C ops.toList b := fun a b hab => by
                      unfold rank
                      exact ((List.take_sublist_take_left hab).filter _).length_le
                    simp only [Bool.and_eq_true, Bool.or_eq_true, Bool.not_eq_true', decide_eq_true_eq]
                    constructor
                    · cases hb : ((masks ops.toList []).getD s 0).testBit i with
                      | false => exact .inl rfl
                      | true =>
                        right
                        rw [← hrk]
                        apply hmono
                        apply Nat.le_of_not_lt
                        intro hlt
                        exact hdepU s x hx ((hS.eff s x hx hex).2 hlt) hb
                    · cases hb : ((masks ops.toList []).getD i 0).testBit s with
                      | false => exact .inl rfl
                      | true =>
                        right
                        have hlt := (hS.eff s x hx hex).1 (hdepL s hb)
                        have h1 := hmono (s + 1) c hlt
                        rw [rank_succ (by rw [hlist]; exact hx), hex, hrk] at h1
                        simp at h1
                        omega
                  have heff' : ∀ (k : Nat) (x : Oper), ops[k]? = some x → effO C x = true → ((listed.setIfInBounds i true).getD k true = true ↔ k < c) := fun k x hx hex => by
                    have e : k ≠ i := by
                      rintro rfl
                      rw [ho] at hx; cases hx
                      rw [he] at hex; cases hex
                    rw [getD_set_ne true (fun q => e q.symm)]
                    exact hS.eff k x hx hex
                  split
                  · rename_i hw
                    rw [if_pos hw] at hr
                    simp only [Bool.and_eq_true] at hr
                    obtain ⟨hok, hr⟩ := hr
                    have hr := List.all_eq_true.1 hr (Vc, rank C ops.toList c) (by rw [List.mem_zipIdx_iff_getElem?]; exact hVc)
                    simp only [hposs, Bool.not_true, Bool.false_or] at hr
                    split at hr
                    · rename_i v V9 hv
                      left
                      have hρ : ∀ x ∈ o.op.operands, VR R1 (aF.eval x) (a1.eval x) := fun x hx => hev x hx (Array.all_eq_true_iff_forall_mem.1 hok x hx)
                      obtain ⟨R2, nx, w2, q1, q2, q3, q4, q5⟩ := vop_ok hz hv hρ hWR
                      obtain ⟨rfl, rfl, rfl⟩ := q5 rfl
                      unfold Oper.wp
                      rw [q2]
                      cases nx <;> first | exact q4.elim | skip
                      exact ih _ _ _ c R2 (hS.put (Le.refl _) ho ⟨_, hVc, q3⟩ hS.cle heff' hdeps fun t ht u hu => by rw [← isFin_spec hr t ht u hu]; exact q4) hu'
                    · rename_i f args V9 hv
                      split at hr
                      · rename_i v hv2
                        left
                        have hρ : ∀ x ∈ o.op.operands, VR R1 (aF.eval x) (a1.eval x) := fun x hx => hev x hx (Array.all_eq_true_iff_forall_mem.1 hok x hx)
                        obtain ⟨R2, nx, w2, q1, q2, q3, q4, q5⟩ := vop_ok hz hv hρ hWR
                        obtain ⟨rfl, rfl, rfl⟩ := q5 rfl
                        unfold Oper.wp
                        rw [q2]
                        cases nx <;> first | exact q4.elim | skip
                        obtain ⟨rfl, hargs⟩ := q4
                        refine Calls.mono (hp f args v hv2 R2 _ w2 hargs q3.fr) fun e w3 hh => ?_
                        obtain ⟨v', rfl, hvr, hf3⟩ := hh
                        exact ih _ _ _ c R2 (hS.put (Le.refl _) ho ⟨_, hVc, q3.kept hf3⟩ hS.cle heff' hdeps fun t ht u hu => by rw [← isFin_spec hr t ht u hu]; exact hvr) hu'
                      · cases hr
                    · cases hr
                  · rename_i hw
                    rw [if_neg hw] at hr
                    exact ih _ _ _ c R1 (hS.put (Le.refl _) ho ⟨_, hVc, hWR⟩ hS.cle heff' hdeps fun t ht u hu => by rw [← isFin_spec hr t ht u hu]; exact vr_undef) hu'
          refine wp_region_any hm ?_
          show wpAny P .any ops Q ops.size (Array.replicate ops.size false) a' w'.drew
          have hun0 : ∀ n, unl (Array.replicate ops.size false) n ≤ n := fun n => by
            induction n with
            | zero => exact Nat.le_refl 0
            | succ n ihn => unfold unl; split <;> omega
          refine main ops.size _ a' w'.drew 0 R ⟨Le.refl R, by simp, Nat.zero_le _, ⟨V, hW0, hW.drew⟩, fun i o ho _ => ?_, fun i o ho hli => ?_, ha.def2, ?_, fun t u v' hu hv' hor => ?_⟩ (hun0 ops.size)
          · have : i < ops.size := (Array.getElem?_eq_some_iff.1 ho).1
            simp [this]
          · have : i < ops.size := (Array.getElem?_eq_some_iff.1 ho).1
            simp [this] at hli
          · rw [hkeep1]; exact ha.size.symm
          · rcases hor with ⟨i, o, ho, _, hli⟩ | hn
            · have : i < ops.size := (Array.getElem?_eq_some_iff.1 ho).1
              simp [this] at hli
            · rw [VA.at_of hkeep1 (hkeep3 t fun o ho hd => by
                obtain ⟨i, hi⟩ := List.getElem?_of_mem ho
                exact hn i o (by rw [← hlist]; exact hi) hd)] at hu
              unfold VA.at? at hu
              split at hu
              · cases hu
                exact ha.at_ t v' hv'
              · cases hu
        · cases h
      · cases h
    · cases h
  · cases h
end
end Vm
end Go.Proofs.YtkfefdjbihmblaaDoor

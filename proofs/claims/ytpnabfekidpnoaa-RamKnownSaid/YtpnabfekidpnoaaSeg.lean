/-
  A stretch of cells inside a block: what lies there, what a write makes of it, and a frame for what happens inside such a stretch alone.
-/
import Derived.Test.YtpnabfekidpnoaaBase
namespace Go.Proofs.Ytpnabfekidpnoaa
open Go Go.RowKit

/-- From cell `o` of block `b` on lie the cells `cs`. -/
def Seg (w : World) (b o : Nat) (cs : List Value) : Prop := ∃ t cur, Blk w b t cur ∧ ∀ j u, cs[j]? = some u → cur[o + j]? = some u
/-- Of what was there only the cells `o` to `o + n` of block `b` may have changed. -/
structure FrIn (b o n : Nat) (w w' : World) : Prop where
  fr : Fr (One b) w w'
  rest : ∀ t cur, Blk w b t cur → ∃ cur', Blk w' b t cur' ∧ cur'.size = cur.size ∧ ∀ j, (j < o ∨ o + n ≤ j) → cur'[j]? = cur[j]?
namespace FrIn
variable {b o n : Nat} {w w1 w2 : World}
theorem refl (b o n : Nat) (w : World) : FrIn b o n w w := ⟨Fr.refl _ _, fun _ cur h => ⟨cur, h, rfl, fun _ _ => rfl⟩⟩
theorem trans (h : FrIn b o n w w1) (h' : FrIn b o n w1 w2) : FrIn b o n w w2 :=
  ⟨h.fr.trans h'.fr, fun t cur hb => by
    obtain ⟨c1, h1, h2, h3⟩ := h.rest t cur hb
    obtain ⟨c2, h4, h5, h6⟩ := h'.rest t c1 h1
    exact ⟨c2, h4, h5.trans h2, fun j hj => (h6 j hj).trans (h3 j hj)⟩⟩
theorem of_no (h : Fr No w w1) (hb : b < w.heap.size) : FrIn b o n w w1 :=
  ⟨h.mono fun _ _ h => h.elim, fun _ cur hc => ⟨cur, hc.fr h (fun h => h), rfl, fun _ _ => rfl⟩⟩
theorem drew (h : FrIn b o n w w1) : FrIn b o n w w1.drew := ⟨h.fr.drew, h.rest⟩
theorem drewN (h : FrIn b o n w w1) (k : Nat) : FrIn b o n w (w1.drewN k) := ⟨h.fr.drewN k, h.rest⟩
theorem of_drewN {k : Nat} (h : FrIn b o n (w.drewN k) w1) : FrIn b o n w w1 := ⟨⟨h.fr.os, h.fr.tape, h.fr.output, h.fr.size, h.fr.block⟩, h.rest⟩
theorem of_drew (h : FrIn b o n w.drew w1) : FrIn b o n w w1 := ⟨⟨h.fr.os, h.fr.tape, h.fr.output, h.fr.size, h.fr.block⟩, h.rest⟩
theorem mono {o' n' : Nat} (h : FrIn b o n w w1) (h1 : o' ≤ o) (h2 : o + n ≤ o' + n') : FrIn b o' n' w w1 :=
  ⟨h.fr, fun t cur hb => let ⟨c1, h3, h4, h5⟩ := h.rest t cur hb; ⟨c1, h3, h4, fun j hj => h5 j (by omega)⟩⟩
/-- A stretch beside it. -/
theorem seg {o' : Nat} {cs : List Value} (h : FrIn b o n w w1) (hs : Seg w b o' cs) (hd : o' + cs.length ≤ o ∨ o + n ≤ o') : Seg w1 b o' cs := by
  obtain ⟨t, cur, h1, h2⟩ := hs
  obtain ⟨c1, h3, h4, h5⟩ := h.rest t cur h1
  refine ⟨t, c1, h3, fun j u hj => ?_⟩
  have hl : j < cs.length := (List.getElem?_eq_some_iff.1 hj).1
  rw [h5 (o' + j) (by omega)]
  exact h2 j u hj
end FrIn
namespace Seg
variable {b o : Nat} {w w' : World} {cs : List Value}
theorem lt (h : Seg w b o cs) : b < w.heap.size := let ⟨_, _, h1, _⟩ := h; h1.lt
theorem cell (h : Seg w b o cs) {j : Nat} {u : Value} (hj : cs[j]? = some u) : w.cell? ⟨b, o + j, none⟩ = some u := by
  obtain ⟨t, cur, h1, h2⟩ := h
  rw [h1.cell]
  exact h2 j u hj
theorem free (h : Seg w b o cs) (i : Nat) : w.frozen? ⟨b, i, none⟩ = false := let ⟨_, _, h1, _⟩ := h; h1.free i
theorem fr {S : Nat → Prop} (h : Seg w b o cs) (hf : Fr S w w') (hb : ¬ S b) : Seg w' b o cs := let ⟨t, cur, h1, h2⟩ := h; ⟨t, cur, h1.fr hf hb, h2⟩
theorem drew (h : Seg w b o cs) : Seg w.drew b o cs := h
theorem put (h : Seg w b o cs) {i : Nat} (hi : i < cs.length) (v : Value) : Seg (w.setCell ⟨b, o + i, none⟩ v) b o (cs.set i v) ∧ FrIn b o cs.length w (w.setCell ⟨b, o + i, none⟩ v) := by
  obtain ⟨t, cur, h1, h2⟩ := h
  have hb := h1.put (o + i) v
  have hlt : o + i < cur.size := by
    have := h2 i _ (List.getElem?_eq_getElem hi)
    exact (Array.getElem?_eq_some_iff.1 this).1
  refine ⟨⟨t, _, hb, fun j u hj => ?_⟩, (Fr.put w b (o + i) v), fun t' cur' hc => ?_⟩
  · rw [Array.getElem?_setIfInBounds]
    rw [List.getElem?_set] at hj
    by_cases e : i = j
    · subst e
      rw [if_pos rfl, if_pos hi] at hj
      rw [if_pos rfl, if_pos hlt]
      exact hj
    · rw [if_neg e] at hj
      rw [if_neg (by omega)]
      exact h2 j u hj
  · have h3 := hc.put (o + i) v
    refine ⟨_, h3, by simp, fun j hj => ?_⟩
    rw [Array.getElem?_setIfInBounds_ne (by omega)]
theorem new (w : World) (t : TypeId) (cs : Array Value) : Seg (w.alloc (.cells cs t)) w.heap.size 0 cs.toList :=
  ⟨t, cs, Blk.new w t cs, fun j u hj => by rw [Nat.zero_add]; simpa using hj⟩
theorem of_blk {t : TypeId} {cs : Array Value} (h : Blk w b t cs) : Seg w b 0 cs.toList :=
  ⟨t, cs, h, fun j u hj => by rw [Nat.zero_add]; simpa using hj⟩
/-- A part of it. -/
theorem part {a c d : List Value} (h : Seg w b o (a ++ c ++ d)) : Seg w b (o + a.length) c := by
  obtain ⟨t, cur, h1, h2⟩ := h
  refine ⟨t, cur, h1, fun j u hj => ?_⟩
  have := h2 (a.length + j) u (by
    have hl : j < c.length := (List.getElem?_eq_some_iff.1 hj).1
    rw [List.append_assoc, List.getElem?_append_right (by omega), Nat.add_sub_cancel_left, List.getElem?_append_left hl]
    exact hj)
  rw [← this]
  congr 1
  omega
/-- The whole of it, read at once. -/
theorem load (h : Seg w b o cs) (P : Program) : (loadCells ⟨b, o, none⟩ cs.length).run P w = .ok cs.toArray w := by
  have := run_loadCells_list (P := P) w ⟨b, o, none⟩ cs (fun j v hj => by rw [addr_add]; exact h.cell hj)
  exact this
end Seg
section
variable {P : Program} {w : World}
theorem run_loadVar_seg {b o : Nat} {cs : List Value} (h : Seg w b o cs) (ty : TypeId) (d : TypeDesc) (hu : P.underlying ty = some d) (hd : (match d with | .struct _ | .array _ _ => true | _ => false) = true)
    (hi : (P.info? ty).map (·.size) = some cs.length) : (loadVar ty ⟨b, o, none⟩).run P w = .ok (.agg cs.toArray) w := by
  obtain ⟨i, h1, h2⟩ := Option.map_eq_some_iff.1 hi
  have hagg : (isAgg ty).run P w = .ok true w := by
    unfold isAgg
    rw [Sem.run_bind, run_underlying hu]
    cases d <;> first | rfl | cases hd
  have hsz : (sizeOf ty).run P w = .ok cs.length w := by simp [sizeOf, typeInfo, h1, h2]
  unfold loadVar
  rw [Sem.run_bind, hagg]
  show Sem.run P (sizeOf ty >>= _) w = _
  rw [Sem.run_bind, hsz]
  show Sem.run P (loadCells ⟨b, o, none⟩ cs.length >>= _) w = _
  rw [Sem.run_bind, h.load P]
  rfl
theorem wp_load_seg {o : Oper} {a : Act} {K : Act → World → Prop} {Q : Exit → Act → World → Prop} (ty : TypeId) (x : Operand) (ho : o.op = .load ty x)
    (b of : Nat) (hx : a.eval x = .pointer (some ⟨b, of, none⟩)) (cs : List Value) (hs : Seg w b of cs) (d : TypeDesc)
    (hu : P.underlying ty = some d) (hd : (match d with | .struct _ | .array _ _ => true | _ => false) = true) (hi : (P.info? ty).map (·.size) = some cs.length)
    (h : K (a.put o.dst (.agg cs.toArray)) w) : o.wp P a w K Q := by
  unfold Oper.wp execOp
  simp only [ho, hx, Instr.loadAt, Instr.sureAddr, Sem.run_bind, Sem.run_pure, Result.andThen_ok, run_loadVar_seg hs ty d hu hd hi]
  exact h
/-- A whole stretch, loaded at once. -/
theorem wpList_load_seg {ops : Array Oper} {rest : List Oper} {o : Oper} {a : Act} {Q : Exit → Act → World → Prop} (hgd : o.guard = none) (ty : TypeId) (x : Operand) (ho : o.op = .load ty x)
    (b of : Nat) (hx : a.eval x = .pointer (some ⟨b, of, none⟩)) (cs : List Value) (hs : Seg w b of cs) (d : TypeDesc)
    (hu : P.underlying ty = some d) (hd : (match d with | .struct _ | .array _ _ => true | _ => false) = true) (hi : (P.info? ty).map (·.size) = some cs.length)
    (h : wpList P ops Q rest (a.put o.dst (.agg cs.toArray)) w) : wpList P ops Q (o :: rest) a w :=
  wpList_plain hgd fun K hK => by
    unfold Oper.wp execOp
    simp only [ho, hx, Instr.loadAt, Instr.sureAddr, Sem.run_bind, Sem.run_pure, Result.andThen_ok, run_loadVar_seg hs ty d hu hd hi]
    exact hK _ _ h
/-- The same where the operation is guarded. -/
theorem wpList_load_seg_g {ops : Array Oper} {rest : List Oper} {o : Oper} {a : Act} {Q : Exit → Act → World → Prop} (hw : Region.wanted o (yielded ops a.tmps) = true) (ty : TypeId) (x : Operand) (ho : o.op = .load ty x)
    (b of : Nat) (hx : a.eval x = .pointer (some ⟨b, of, none⟩)) (cs : List Value) (hs : Seg w b of cs) (d : TypeDesc)
    (hu : P.underlying ty = some d) (hd : (match d with | .struct _ | .array _ _ => true | _ => false) = true) (hi : (P.info? ty).map (·.size) = some cs.length)
    (h : wpList P ops Q rest (a.put o.dst (.agg cs.toArray)) w) : wpList P ops Q (o :: rest) a w :=
  wpList_step fun K hK => by
    rw [if_pos hw]
    exact wp_load_seg ty x ho b of hx cs hs d hu hd hi (hK _ _ h)
end
end Go.Proofs.Ytpnabfekidpnoaa

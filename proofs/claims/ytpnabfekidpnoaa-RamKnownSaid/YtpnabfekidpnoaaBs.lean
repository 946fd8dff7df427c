/-
  A slice of one struct, built at once; a struct's box.
-/
import Derived.Test.YtpnabfekidpnoaaSeg
namespace Go.Proofs.Ytpnabfekidpnoaa
open Go Go.RowKit

theorem foldl_fill : ∀ (l : List Value) (n : Nat) (z : Array Value), z.size = n + l.length → ((l.zipIdx n).foldl (fun (cs : Array Value) (p : Value × Nat) => cs.setIfInBounds (0 + p.2) p.1) z) = (z.toList.take n ++ l).toArray
  | [], n, z, h => by
    simp only [List.zipIdx_nil, List.foldl_nil, List.append_nil]
    rw [List.take_of_length_le (by simpa using Nat.le_of_eq h)]
  | x :: l, n, z, h => by
    simp only [List.length_cons] at h
    rw [List.zipIdx_cons, List.foldl_cons, foldl_fill l (n + 1) _ (by simp only [Array.size_setIfInBounds]; omega)]
    congr 1
    simp only [Nat.zero_add, Array.toList_setIfInBounds]
    rw [List.take_add_one, List.take_set_of_le (Nat.le_refl _)]
    rw [List.getElem?_set_self (by simp; omega)]
    simp
section
variable {P : Program} {w : World}
theorem run_buildSlice_one (t e : TypeId) (i : TypeInfo) (z : Value) (cs : List Value) (ht : P.underlying t = some (.slice e)) (hi : P.info? e = some i) (hz : i.zero = some z) (hs : i.size = cs.length) (hzs : z.cells.size = cs.length) (h0 : 0 < cs.length) (h64 : cs.length ≤ 4096) :
    (Instr.buildSlice t 1 #[(0, .agg cs.toArray)]).run P w = .ok (.slice (some ⟨w.heap.size, 0, none⟩) 1 1) (w.alloc (.cells cs.toArray e)) := by
  have hzero : ∀ W, (zeroValue e).run P W = .ok z W := fun W => by simp [zeroValue, typeInfo, hi, hz]
  have hsz : ∀ W, (sizeOf e).run P W = .ok cs.length W := fun W => by simp [sizeOf, typeInfo, hi, hs]
  have hfill : Instr.fill (fun i => some (i * cs.length, cs.length)) ((Array.range (1 * cs.length)).map (z.cells[· % z.cells.size]!)) [(0, Value.agg cs.toArray)] = some cs.toArray := by
    have hZ : ((Array.range (1 * cs.length)).map (z.cells[· % z.cells.size]!)).size = cs.length := by simp
    generalize ((Array.range (1 * cs.length)).map (z.cells[· % z.cells.size]!)) = Z at hZ
    have h := foldl_fill cs 0 Z (by omega)
    rw [List.take_zero, List.nil_append] at h
    have hc : (Value.agg cs.toArray).cells = cs.toArray := rfl
    have h2 : ((Value.agg cs.toArray).cells.zipIdx.foldl (fun (a : Array Value) (p : Value × Nat) => a.setIfInBounds (0 * cs.length + p.2) p.1) Z) = cs.toArray := by
      rw [hc, Nat.zero_mul, ← Array.foldl_toList, Array.toList_zipIdx]
      exact h
    have hsz2 : (Value.agg cs.toArray).cells.size = cs.length := rfl
    unfold Instr.fill
    dsimp only
    rw [hsz2, hZ, if_neg (by simp)]
    unfold Instr.fill
    exact congrArg some h2
  unfold Instr.buildSlice
  rw [Sem.run_bind, run_underlying ht]
  show Sem.run P (sizeOf e >>= _) w = _
  rw [Sem.run_bind, hsz]
  show Sem.run P (if 1 * cs.length > 2 ^ 24 then _ else _) w = _
  rw [if_neg (by omega)]
  dsimp only
  rw [if_neg (by omega), Sem.run_bind, hzero]
  show Sem.run P (match Instr.fill (fun i => some (i * cs.length, cs.length)) ((Array.range (1 * cs.length)).map (z.cells[· % z.cells.size]!)) [(0, Value.agg cs.toArray)] with | some cells => _ | x => _) w = _
  rw [hfill]
  rfl
theorem wp_buildSlice_one {o : Oper} {a : Act} {K : Act → World → Prop} {Q : Exit → Act → World → Prop} (t : TypeId) (x : Operand) (ho : o.op = .buildSlice t 1 #[(0, x)])
    (e : TypeId) (i : TypeInfo) (z : Value) (cs : List Value) (hx : a.eval x = .agg cs.toArray) (ht : P.underlying t = some (.slice e)) (hi : P.info? e = some i) (hz : i.zero = some z) (hs : i.size = cs.length) (hzs : z.cells.size = cs.length) (h0 : 0 < cs.length) (h64 : cs.length ≤ 4096)
    (h : K (a.put o.dst (.slice (some ⟨w.heap.size, 0, none⟩) 1 1)) (w.alloc (.cells cs.toArray e))) : o.wp P a w K Q := by
  unfold Oper.wp execOp
  simp only [ho, List.map_toArray, List.map_cons, List.map_nil, hx, Sem.run_bind, run_buildSlice_one t e i z cs ht hi hz hs hzs h0 h64]
  exact h
theorem wpList_buildSlice_one {ops : Array Oper} {rest : List Oper} {o : Oper} {a : Act} {Q : Exit → Act → World → Prop} (hgd : o.guard = none) (t : TypeId) (x : Operand) (ho : o.op = .buildSlice t 1 #[(0, x)])
    (e : TypeId) (i : TypeInfo) (z : Value) (cs : List Value) (hx : a.eval x = .agg cs.toArray) (ht : P.underlying t = some (.slice e)) (hi : P.info? e = some i) (hz : i.zero = some z) (hs : i.size = cs.length) (hzs : z.cells.size = cs.length) (h0 : 0 < cs.length) (h64 : cs.length ≤ 4096)
    (h : wpList P ops Q rest (a.put o.dst (.slice (some ⟨w.heap.size, 0, none⟩) 1 1)) (w.alloc (.cells cs.toArray e))) : wpList P ops Q (o :: rest) a w :=
  wpList_plain hgd fun _ hK => wp_buildSlice_one t x ho e i z cs hx ht hi hz hs hzs h0 h64 (hK _ _ h)
end
theorem wpList_load_seg_h {P : Program} {w : World} {ops : Array Oper} {rest : List Oper} {o : Oper} {a : Act} {Q : Exit → Act → World → Prop} (ty : TypeId) (x : Operand) (ho : o.op = .load ty x) (hw : Region.wanted o (yielded ops a.tmps) = true)
    (b of : Nat) (hx : a.eval x = .pointer (some ⟨b, of, none⟩)) (cs : List Value) (hs : Seg w b of cs) (d : TypeDesc)
    (hu : P.underlying ty = some d) (hd : (match d with | .struct _ | .array _ _ => true | _ => false) = true) (hi : (P.info? ty).map (·.size) = some cs.length)
    (h : wpList P ops Q rest (a.put o.dst (.agg cs.toArray)) w) : wpList P ops Q (o :: rest) a w :=
  wpList_load_seg_g hw ty x ho b of hx cs hs d hu hd hi h
/-- A stretch whose cells are known one by one, loaded at once. -/
theorem wpList_load_at {P : Program} {w : World} {ops : Array Oper} {rest : List Oper} {o : Oper} {a : Act} {Q : Exit → Act → World → Prop} (hgd : o.guard = none) (ty : TypeId) (x : Operand) (ho : o.op = .load ty x)
    (b of : Nat) (hx : a.eval x = .pointer (some ⟨b, of, none⟩)) (cs : List Value) (hs : ∀ j u, cs[j]? = some u → w.cell? ⟨b, of + j, none⟩ = some u) (d : TypeDesc)
    (hu : P.underlying ty = some d) (hd : (match d with | .struct _ | .array _ _ => true | _ => false) = true) (hi : (P.info? ty).map (·.size) = some cs.length)
    (h : wpList P ops Q rest (a.put o.dst (.agg cs.toArray)) w) : wpList P ops Q (o :: rest) a w :=
  wpList_plain hgd fun _ hK => by
    obtain ⟨i, h1, h2⟩ := Option.map_eq_some_iff.1 hi
    have hagg : (isAgg ty).run P w = .ok true w := by
      unfold isAgg
      rw [Sem.run_bind, run_underlying hu]
      cases d <;> first | rfl | cases hd
    have hsz : (sizeOf ty).run P w = .ok cs.length w := by simp [sizeOf, typeInfo, h1, h2]
    have hl := run_loadCells_list (P := P) w ⟨b, of, none⟩ cs (fun j v hj => by rw [addr_add]; exact hs j v hj)
    have hrun : (loadVar ty ⟨b, of, none⟩).run P w = .ok (.agg cs.toArray) w := by
      unfold loadVar
      rw [Sem.run_bind, hagg]
      show Sem.run P (sizeOf ty >>= _) w = _
      rw [Sem.run_bind, hsz]
      show Sem.run P (loadCells ⟨b, of, none⟩ cs.length >>= _) w = _
      rw [Sem.run_bind, hl]
      rfl
    unfold Oper.wp execOp
    simp only [ho, hx, Instr.loadAt, Instr.sureAddr, Sem.run_bind, Sem.run_pure, Result.andThen_ok, hrun]
    exact hK _ _ h
theorem setRow_fr2 (w : World) (o : Obj) (cs : Array Value) : Fr No w ((w.alloc o).setRow w.heap.size cs) :=
  ⟨rfl, rfl, rfl, by simp, fun k hk _ => by
    have hne : k ≠ w.heap.size := by omega
    rw [setRow_other _ _ _ _ hne]
    exact Below.heap_alloc w o k hk⟩
end Go.Proofs.Ytpnabfekidpnoaa

/-
  What the walks over the translations stand on: elements of many cells are stored into an owned row, the row's end is cleared, elements are loaded whole.
-/
import Derived.Test.YtpnabfekidpnoaaDoorTlbM
import Derived.Test.YtpnabfekidpnoaaDoorSeg
import Derived.Test.YtpnabfekidpnoaaDoorAppC
import Derived.Test.YtpnabfekidpnoaaDoorTk
import Derived.Laws.CopyRow
import Derived.Lib.SliceRun
namespace Go.Proofs.YtpnabfekidpnoaaDoor
open Go Go.RowKit

theorem Blk.row {w : World} {g : Nat} {t : TypeId} {cs : Array Value} (h : Blk w g t cs) (cs' : Array Value) : Blk (w.setRow g cs') g t cs' := setRow_heap w g cs cs' t (0, 0) h
theorem Fr.row {w : World} {g : Nat} (cs' : Array Value) : Fr (One g) w (w.setRow g cs') := ⟨rfl, rfl, rfl, by simp, fun k _ hk => setRow_other w g k _ (fun e => hk e)⟩
theorem splice_get (l cs : List Value) (p k q : Nat) (hk : cs.length = k) (hp : p + k ≤ l.length) : (l.take p ++ cs ++ l.drop (p + k))[q]? = if q < p then l[q]? else if q < p + k then cs[q - p]? else l[q]? := by
  have h1 : (l.take p).length = p := by rw [List.length_take]; omega
  by_cases q1 : q < p
  · rw [if_pos q1, List.append_assoc, List.getElem?_append_left (by omega), List.getElem?_take, if_pos q1]
  · rw [if_neg q1]
    by_cases q2 : q < p + k
    · rw [if_pos q2, List.append_assoc, List.getElem?_append_right (by omega), h1, List.getElem?_append_left (by omega)]
    · rw [if_neg q2, List.getElem?_append_right (by rw [List.length_append]; omega), List.getElem?_drop, List.length_append, h1, hk]
      congr 1
      omega
section
variable {P : Program} {w : World}
theorem run_storeVar_at (g o : Nat) (t ty : TypeId) (cur : Array Value) (cs : List Value) (hg : Blk w g t cur) (hi : (P.info? ty).map (·.size) = some cs.length) (hlen : o + cs.length ≤ cur.size) (h1 : ∀ v ∈ cs, v.oneCell' = true) :
    (storeVar ty ⟨g, o, none⟩ (.agg cs.toArray)).run P w = .ok () (w.setRow g (cur.toList.take o ++ cs ++ cur.toList.drop (o + cs.length)).toArray) := by
  have := run_storeCells_at (P := P) g o t cs 0 cur w hg (by omega) h1
  simp only [Nat.add_zero] at this
  obtain ⟨i, hi1, hi2⟩ := Option.map_eq_some_iff.1 hi
  unfold storeVar
  simp [sizeOf, typeInfo, hi1, hi2, Value.cells, this]
/-- An owned row, one element of it stored anew. -/
theorem Own.setAt {e : TypeId} {k g o n c i : Nat} {xs cs : List Value} {G : Nat → Prop} (h : Own w e k (.slice (some ⟨g, o, none⟩) n c) n xs G) (hi : i < n) (hk : cs.length = k) :
    ∃ cur, Blk w g e cur ∧ o + i * k + k ≤ cur.size ∧ Own (w.setRow g (cur.toList.take (o + i * k) ++ cs ++ cur.toList.drop (o + i * k + k)).toArray) e k (.slice (some ⟨g, o, none⟩) n c) n (xs.take (i * k) ++ cs ++ xs.drop (i * k + k)) G ∧ Fr G w (w.setRow g (cur.toList.take (o + i * k) ++ cs ++ cur.toList.drop (o + i * k + k)).toArray) := by
  have hl := h.1
  obtain ⟨g', o', c', cur, hv, hG, hB, h1, h2, h3, h4, h5⟩ := h.2.resolve_left (fun q => by omega)
  injection hv with e1 _ e3
  injection e1 with e1
  injection e1 with e1 e2 _
  subst e1 e2 e3
  have hik : i * k + k ≤ n * k := by
    have : (i + 1) * k ≤ n * k := Nat.mul_le_mul_right k hi
    rw [Nat.add_mul, Nat.one_mul] at this
    exact this
  have hnc : n * k ≤ c * k := Nat.mul_le_mul_right k h1
  have hsz : (cur.toList.take (o + i * k) ++ cs ++ cur.toList.drop (o + i * k + k)).length = cur.size := by
    simp only [List.length_append, List.length_take, List.length_drop, Array.length_toList, hk]
    omega
  refine ⟨cur, hB, by omega, ⟨?_, .inr ⟨g, o, c, _, rfl, hG, hB.row _, h1, h2, by rw [List.size_toArray, hsz]; exact h3, by rw [List.size_toArray, hsz]; exact h4, fun j hj => ?_⟩⟩, (Fr.row _).mono (fun k _ hk => by have q2 : k = g := hk; rw [q2]; exact hG)⟩
  · simp only [List.length_append, List.length_take, List.length_drop, hk]
    omega
  · simp only [List.length_append, List.length_take, List.length_drop, hk] at hj
    have hj2 : j < xs.length := by omega
    have h6 := h5 j hj2
    rw [List.getElem?_toArray, splice_get _ _ _ _ _ hk (by rw [Array.length_toList]; omega), splice_get _ _ _ _ _ hk (by omega), Array.getElem?_toList, h6]
    by_cases q1 : j < i * k
    · rw [if_pos (by omega), if_pos q1]
    · rw [if_neg (by omega), if_neg q1]
      by_cases q2 : j < i * k + k
      · rw [if_pos (by omega), if_pos q2]
        congr 1
        omega
      · rw [if_neg (by omega), if_neg q2]
/-- Storing one element of an owned row. -/
theorem wpList_store_own {ops : Array Oper} {rest : List Oper} {op : Oper} {a : Act} {Q : Exit → Act → World → Prop} (hgd : op.guard = none) (ty : TypeId) (x y : Operand) (ho : op.op = .store ty x y) (hd : op.dst = none)
    {e : TypeId} {k g o n c i : Nat} {xs cs : List Value} {G : Nat → Prop} (hx : a.eval x = .pointer (some ⟨g, o + i * k, none⟩)) (hy : a.eval y = .agg cs.toArray) (hown : Own w e k (.slice (some ⟨g, o, none⟩) n c) n xs G) (hin : i < n) (hk : cs.length = k)
    (hi : (P.info? ty).map (·.size) = some k) (h1 : ∀ v ∈ cs, v.oneCell' = true)
    (h : ∀ w', Own w' e k (.slice (some ⟨g, o, none⟩) n c) n (xs.take (i * k) ++ cs ++ xs.drop (i * k + k)) G → Fr G w w' → wpList P ops Q rest a w') : wpList P ops Q (op :: rest) a w :=
  wpList_plain hgd fun K hK => by
    obtain ⟨cur, hB, hs, hown', hf⟩ := hown.setAt hin hk
    have hst := run_storeVar_at (P := P) g (o + i * k) e ty cur cs hB (by rw [hk]; exact hi) (by omega) h1
    rw [hk] at hst
    unfold Oper.wp execOp
    simp only [ho, hx, hy, Instr.storeAt, Instr.sureAddr, Sem.run_bind, Sem.run_pure, Result.andThen_ok, hst]
    have := hK _ _ (h _ hown' hf)
    unfold Oper.upon
    rw [hd]
    exact this
/-- The whole of an owned row as a stretch. -/
theorem Own.seg {e : TypeId} {k g o n c : Nat} {xs : List Value} {G : Nat → Prop} (h : Own w e k (.slice (some ⟨g, o, none⟩) n c) n xs G) : Seg w g o xs := by
  rcases h.2 with ⟨h1, _⟩ | ⟨g', o', c', cur, hv, hG, hB, h1, h2, h3, h4, h5⟩
  · cases h1
  · injection hv with e1 _ e3
    injection e1 with e1
    injection e1 with e1 e2 _
    subst e1 e2 e3
    exact ⟨e, cur, hB, fun j u hu => by rw [h5 j (List.getElem?_eq_some_iff.1 hu).1]; exact hu⟩
theorem Own.elem {e : TypeId} {g o n c i : Nat} {l : List TE} {G : Nat → Prop} (h : Own w e 11 (.slice (some ⟨g, o, none⟩) n c) n (tcells l) G) (hi : i < l.length) : Seg w g (o + i * 11) (l[i]).cells := by
  have h1 := h.seg
  rw [tcells_split hi] at h1
  have h2 := h1.part
  rw [tcells_len, List.length_take, show min i l.length = i by omega] at h2
  exact h2
/-- Clearing the end of a row whose block is known: what stood ahead of it stays. -/
theorem run_clear_at (t e ty : TypeId) (z : Value) (k g o n c : Nat) (cur : Array Value) (ht : P.underlying t = some (.slice e)) (hv : ∀ w, (zeroValue e).run P w = .ok z w) (hz : z.cells.size = k) (hz1 : ∀ v ∈ z.cells, v.oneCell' = true) (hB : Blk w g e cur) (hlen : o + n * k ≤ cur.size) :
    ∃ cur', (Builtin.clear_ #[t] ty #[.slice (some ⟨g, o, none⟩) n c]).run P w = .ok (.tuple #[]) (w.setRow g cur') ∧ cur'.size = cur.size ∧ ∀ j, j < o → cur'[j]? = cur[j]? := by
  have hl : (Builtin.zeroCells z.cells n).toList.length = n * k := by rw [Array.length_toList, size_zeroCells, hz]
  have h1 : ∀ v ∈ (Builtin.zeroCells z.cells n).toList, v.oneCell' = true := by
    intro v hv
    simp only [Builtin.zeroCells, Array.toList_map, List.mem_map] at hv
    obtain ⟨i, hi, rfl⟩ := hv
    have hi2 : i < n * z.cells.size := by simpa using hi
    have hpos : 0 < z.cells.size := Nat.pos_of_ne_zero (fun q => by rw [q] at hi2; omega)
    have hm : i % z.cells.size < z.cells.size := Nat.mod_lt _ hpos
    rw [getElem!_pos z.cells _ hm]
    exact hz1 _ (Array.getElem_mem hm)
  have hst := run_storeCells_at (P := P) g o e (Builtin.zeroCells z.cells n).toList 0 cur w hB (by rw [hl]; omega) h1
  simp only [Nat.add_zero] at hst
  cases n with
  | zero =>
    refine ⟨cur, ?_, rfl, fun _ _ => rfl⟩
    rw [setRow_self w g cur e (0, 0) hB]
    simp [Builtin.clear_, run_underlying ht]
  | succ m =>
    obtain ⟨zl, hzl⟩ : ∃ zl, zl = (Builtin.zeroCells z.cells (m + 1)).toList := ⟨_, rfl⟩
    rw [← hzl] at hl hst h1
    refine ⟨(cur.toList.take o ++ zl ++ cur.toList.drop (o + zl.length)).toArray, ?_, ?_, fun j hj => ?_⟩
    · have hc : (Builtin.clear_ #[t] ty #[.slice (some ⟨g, o, none⟩) (m + 1) c]).run P w = (do storeCells ⟨g, o, none⟩ zl; pure (Value.tuple #[]) : Sem Value).run P w := by
        rw [hzl]
        simp [Builtin.clear_, run_underlying ht, hv]
      rw [hc, Sem.run_bind, hst]
      rfl
    · rw [List.size_toArray]
      simp only [List.length_append, List.length_take, List.length_drop, hl, Array.length_toList]
      omega
    · rw [List.getElem?_toArray, List.append_assoc, List.getElem?_append_left (by rw [List.length_take, Array.length_toList]; omega), List.getElem?_take, if_pos hj]
      simp
end
end Go.Proofs.YtpnabfekidpnoaaDoor

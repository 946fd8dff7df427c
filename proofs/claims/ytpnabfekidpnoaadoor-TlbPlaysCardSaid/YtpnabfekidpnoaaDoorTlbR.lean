/-
  A row of entries that lies at the head of a block of its own.
-/
import Derived.Test.YtpnabfekidpnoaaDoorTlb2
namespace Go.Proofs.YtpnabfekidpnoaaDoor
open Go Go.RowKit

def Row (w : World) (v : Value) (l : List TE) (G : Nat → Prop) : Prop :=
  (v = .slice none 0 0 ∧ l = []) ∨ ∃ g c cur, v = .slice (some ⟨g, 0, none⟩) l.length c ∧ G g ∧ Blk w g 25 cur ∧ l.length ≤ c ∧ c ≤ maxLen ∧ cur.size = c * 11 ∧ ∀ j, j < l.length * 11 → cur[j]? = (tcells l)[j]?
namespace Row
variable {w w' : World} {v : Value} {l : List TE} {G S : Nat → Prop}
theorem own (h : Row w v l G) : Own w 25 11 v l.length (tcells l) G := by
  refine ⟨tcells_len l, ?_⟩
  rcases h with ⟨h1, h2⟩ | ⟨g, c, cur, h1, h2, h3, h4, h5, h6, h7⟩
  · exact .inl ⟨h1, by rw [h2]; rfl⟩
  · exact .inr ⟨g, 0, c, cur, h1, h2, h3, h4, h5, by omega, .inl ⟨rfl, h6⟩, fun j hj => by rw [Nat.zero_add]; exact h7 j (by rw [← tcells_len]; exact hj)⟩
theorem nil_ (w : World) (G : Nat → Prop) : Row w (.slice none 0 0) [] G := .inl ⟨rfl, rfl⟩
theorem mono {G' : Nat → Prop} (h : Row w v l G) (hG : ∀ k, G k → G' k) : Row w v l G' := by
  rcases h with h | ⟨g, c, cur, h1, h2, h3⟩
  · exact .inl h
  · exact .inr ⟨g, c, cur, h1, hG _ h2, h3⟩
theorem fr (h : Row w v l G) (hf : Fr S w w') (hd : ∀ k, G k → ¬ S k) : Row w' v l G := by
  rcases h with h | ⟨g, c, cur, h1, h2, h3, h4⟩
  · exact .inl h
  · exact .inr ⟨g, c, cur, h1, h2, h3.fr hf (hd _ h2), h4⟩
theorem cut (h : Row w v l G) : Row w v l (fun k => G k ∧ k < w.heap.size) := by
  rcases h with h | ⟨g, c, cur, h1, h2, h3, h4⟩
  · exact .inl h
  · exact .inr ⟨g, c, cur, h1, ⟨h2, h3.lt⟩, h3, h4⟩
theorem at_ (h : Row w v l G) (hn : 0 < l.length) : ∃ g c cur, v = .slice (some ⟨g, 0, none⟩) l.length c ∧ G g ∧ Blk w g 25 cur ∧ l.length ≤ c ∧ c ≤ maxLen ∧ cur.size = c * 11 ∧ ∀ j, j < l.length * 11 → cur[j]? = (tcells l)[j]? := by
  rcases h with ⟨_, h⟩ | h
  · rw [h] at hn; simp at hn
  · exact h
/-- A row that is laid by a store of all its cells' block. -/
theorem setRow_set {g c : Nat} {cur : Array Value} (hB : Blk w g 25 cur) (hG : G g) (h1 : l.length ≤ c) (h2 : c ≤ maxLen) (h3 : cur.size = c * 11) (h4 : ∀ j, j < l.length * 11 → cur[j]? = (tcells l)[j]?) (i : Nat) (hi : i < l.length) (x : TE) :
    Row (w.setRow g (cur.toList.take (i * 11) ++ x.cells ++ cur.toList.drop (i * 11 + 11)).toArray) (.slice (some ⟨g, 0, none⟩) l.length c) (l.set i x) G := by
  have hsz : (cur.toList.take (i * 11) ++ x.cells ++ cur.toList.drop (i * 11 + 11)).length = cur.size := by
    simp only [List.length_append, List.length_take, List.length_drop, Array.length_toList, TE.cells_len]
    omega
  refine .inr ⟨g, c, _, by rw [List.length_set], hG, hB.row _, by rw [List.length_set]; exact h1, h2, by rw [List.size_toArray, hsz]; exact h3, fun j hj => ?_⟩
  rw [List.length_set] at hj
  rw [tcells_set hi, List.getElem?_toArray, splice_get _ _ _ _ _ x.cells_len (by rw [Array.length_toList]; omega), splice_get _ _ _ _ _ x.cells_len (by rw [tcells_len]; omega), Array.getElem?_toList, h4 j hj]
end Row
section
variable {w : World}
/-- An entry is stored into a row. -/
theorem wpList_store_row_te {ops : Array Oper} {rest : List Oper} {op : Oper} {a : Act} {Q : Exit → Act → World → Prop} (hgd : op.guard = none) (x y : Operand) (ho : op.op = .store 25 x y) (hd : op.dst = none)
    {g c i : Nat} {l : List TE} {G : Nat → Prop} (e : TE) (hx : a.eval x = .pointer (some ⟨g, i * 11, none⟩)) (hy : a.eval y = .agg e.cells.toArray) (hrow : Row w (.slice (some ⟨g, 0, none⟩) l.length c) l G) (hin : i < l.length)
    (h : ∀ w', Row w' (.slice (some ⟨g, 0, none⟩) l.length c) (l.set i e) G → Fr G w w' → wpList Tryd.prog ops Q rest a w') : wpList Tryd.prog ops Q (op :: rest) a w :=
  wpList_plain hgd fun K hK => by
    obtain ⟨g', c', cur, hv, hG, hB, h1, h2, h3, h4⟩ := hrow.at_ (by omega)
    injection hv with e1 _ e3
    injection e1 with e1
    injection e1 with e1 _ _
    subst e1 e3
    have hst := run_storeVar_at (P := Tryd.prog) g (i * 11) 25 25 cur e.cells hB (by rw [TE.cells_len]; exact infoE) (by rw [TE.cells_len]; omega) e.cells_one
    rw [TE.cells_len] at hst
    unfold Oper.wp execOp
    simp only [ho, hx, hy, Instr.storeAt, Instr.sureAddr, Sem.run_bind, Sem.run_pure, Result.andThen_ok, hst]
    have := hK _ _ (h _ (Row.setRow_set hB hG h1 h2 h3 h4 i hin e) ((Fr.row _).mono (fun k _ hk => by have q2 : k = g := hk; rw [q2]; exact hG)))
    unfold Oper.upon
    rw [hd]
    exact this
theorem zeroE : ∀ w, (zeroValue 25).run Tryd.prog w = .ok (.agg TE.none_.cells.toArray) w := by
  intro w
  have h : (Tryd.prog.info? 25).map (·.zero) = some (some (.agg TE.none_.cells.toArray)) := by kernel_rfl
  obtain ⟨i, hi, hz⟩ := Option.map_eq_some_iff.1 h
  simp [zeroValue, typeInfo, hi, hz]
/-- The end of a row is cleared. -/
theorem wpList_clear_te {ops : Array Oper} {rest : List Oper} {op : Oper} {a : Act} {Q : Exit → Act → World → Prop} (hgd : op.guard = none) (x : Operand) (ho : op.op = .call { callee := .builtin .clear, args := #[x], argTypes := #[22] }) (hd : op.dst = none)
    {g c i m c2 : Nat} {l : List TE} {G : Nat → Prop} (hx : a.eval x = .slice (some ⟨g, i * 11, none⟩) m c2) (hrow : Row w (.slice (some ⟨g, 0, none⟩) l.length c) l G) (hi : i ≤ l.length) (hm : i + m ≤ c) (hn : 0 < l.length)
    (h : ∀ w', Row w' (.slice (some ⟨g, 0, none⟩) i c) (l.take i) G → Fr G w w' → wpList Tryd.prog ops Q rest a w') : wpList Tryd.prog ops Q (op :: rest) a w :=
  wpList_plain hgd fun K hK => by
    obtain ⟨g', c', cur, hv, hG, hB, h1, h2, h3, h4⟩ := hrow.at_ hn
    injection hv with e1 _ e3
    injection e1 with e1
    injection e1 with e1 _ _
    subst e1 e3
    have him : (i + m) * 11 ≤ c * 11 := Nat.mul_le_mul_right 11 hm
    obtain ⟨cur', hr, hs, hc⟩ := run_clear_at (P := Tryd.prog) 22 25 op.type _ 11 g (i * 11) m c2 cur Tryd.underlying22 zeroE rfl (fun v hv => TE.none_.cells_one v (by simpa [Value.cells] using hv)) hB (by omega)
    unfold Oper.wp execOp
    simp only [ho, resolve, invoke, Sem.run_bind, Sem.run_pure, Result.andThen_ok, List.map_toArray, List.map_cons, List.map_nil, hx, builtin, hr]
    have hlt : (l.take i).length = i := by rw [List.length_take]; omega
    have := hK _ _ (h _ (.inr ⟨g, c, cur', by rw [hlt], hG, hB.row _, by rw [hlt]; omega, h2, by rw [hs]; exact h3, fun j hj => by
      rw [hlt] at hj
      rw [hc j hj, h4 j (by omega), ← tcells_take, List.getElem?_take, if_pos hj]⟩) ((Fr.row _).mono (fun k _ hk => by have q2 : k = g := hk; rw [q2]; exact hG)))
    unfold Oper.upon
    rw [hd]
    exact this
end
end Go.Proofs.YtpnabfekidpnoaaDoor

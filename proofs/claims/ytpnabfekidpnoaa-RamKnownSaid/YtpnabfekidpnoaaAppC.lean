/-
  append onto an owned row, of a slice whose cells are known, whatever its room.
-/
import Derived.Test.YtpnabfekidpnoaaBase
namespace Go.Proofs.Ytpnabfekidpnoaa
open Go Go.RowKit

section
variable {P : Program} {w : World}
theorem run_append_cells (t ty e : TypeId) (i : TypeInfo) (z : Value) (size bytes : Nat) (ht : P.underlying t = some (.slice e)) (hi : P.info? e = some i) (hz : i.zero = some z)
    (hsize : i.size = size) (hby : i.bytes = bytes) (hzs : z.cells.size = size)
    (v : Value) (n : Nat) (xs : List Value) (G : Nat → Prop) (hown : Own w e size v n xs G)
    (ao : Option Addr) (m c : Nat) (news : List Value) (hr : 0 < m → ∃ ad, ao = some ad ∧ ∀ j u, news[j]? = some u → w.cell? (ad.add j) = some u) (hl : news.length = m * size) (h1 : ∀ u ∈ news, u.oneCell' = true)
    (h63 : n + m ≤ maxLen) (hbytes : (n + m) * bytes ≤ 140737488355328) :
    ∃ v' w', (Builtin.append_ #[t, t] ty #[v, .slice ao m c]).run P w = .ok v' w' ∧ Own w' e size v' (n + m) (xs ++ news) (fun k => G k ∨ k = w.heap.size) ∧ Fr G w w' := by
  by_cases hm : m = 0
  · subst hm
    have hn : news = [] := List.eq_nil_of_length_eq_zero (by simpa using hl)
    subst hn
    exact ⟨v, w, run_append_zero w t ty e i size ht hi v n xs G hown ao c, by simpa using hown.mono (fun k hk => .inl hk), Fr.refl _ _⟩
  · obtain ⟨ad, rfl, hcell⟩ := hr (by omega)
    exact run_append w t ty e i z size bytes ht hi hz hsize hby hzs v n xs G hown ad m c news (by omega) hl hcell h1 h63 hbytes
theorem wpList_append_cells {ops : Array Oper} {rest : List Oper} {o : Oper} {a : Act} {Q : Exit → Act → World → Prop} (hgd : o.guard = none) (s x : Operand) (t : TypeId)
    (ho : o.op = .call { callee := .builtin .append, args := #[s, x], argTypes := #[t, t] })
    (e : TypeId) (i : TypeInfo) (z : Value) (size bytes : Nat) (ht : P.underlying t = some (.slice e)) (hi : P.info? e = some i) (hz : i.zero = some z)
    (hsize : i.size = size) (hby : i.bytes = bytes) (hzs : z.cells.size = size)
    (v : Value) (n : Nat) (xs : List Value) (G : Nat → Prop) (hs : a.eval s = v) (hown : Own w e size v n xs G)
    (ao : Option Addr) (m c : Nat) (news : List Value) (hx : a.eval x = .slice ao m c) (hr : 0 < m → ∃ ad, ao = some ad ∧ ∀ j u, news[j]? = some u → w.cell? (ad.add j) = some u) (hl : news.length = m * size) (h1 : ∀ u ∈ news, u.oneCell' = true)
    (h63 : n + m ≤ maxLen) (hbytes : (n + m) * bytes ≤ 140737488355328)
    (h : ∀ v' w', Own w' e size v' (n + m) (xs ++ news) (fun k => G k ∨ k = w.heap.size) → Fr G w w' → wpList P ops Q rest (a.put o.dst v') w') : wpList P ops Q (o :: rest) a w :=
  wpList_plain hgd fun K hK => by
    obtain ⟨v', w', hrun, h2, h3⟩ := run_append_cells (P := P) (w := w) t o.type e i z size bytes ht hi hz hsize hby hzs v n xs G hown ao m c news hr hl h1 h63 hbytes
    unfold Oper.wp execOp
    simp only [ho, resolve, invoke, builtin, Sem.run_bind, Sem.run_pure, Result.andThen_ok, List.map_toArray, List.map_cons, List.map_nil, hs, hx, hrun]
    exact hK _ _ (h v' w' h2 h3)
end
end Go.Proofs.Ytpnabfekidpnoaa

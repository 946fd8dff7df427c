/-
  A row of one-cell elements that an object owns, wherever in its block it begins: append of one element onto it, and the row without its first element.
-/
import Derived.Test.YtcnglhneknbllaaDoorBase
import Derived.ArgAppend
namespace Go.Proofs.YtcnglhneknbllaaDoor
open Go Go.RowKit

/-- The slice `v` is `n` elements of one cell each, which read `xs`; its block is one of `G`'s, and nobody else's. -/
def Owo (w : World) (e : TypeId) (v : Value) (n : Nat) (xs : List Value) (G : Nat → Prop) : Prop :=
  xs.length = n ∧ ((v = .slice none 0 0 ∧ n = 0) ∨
   ∃ g o c cur, v = .slice (some ⟨g, o, none⟩) n c ∧ G g ∧ Blk w g e cur ∧ n ≤ c ∧ c ≤ maxLen ∧ o + c ≤ cur.size ∧ ∀ j, j < xs.length → cur[o + j]? = xs[j]?)
namespace Owo
variable {w w' : World} {e : TypeId} {v : Value} {n : Nat} {xs : List Value} {G S : Nat → Prop}
theorem nil_ (w : World) (e : TypeId) (G : Nat → Prop) : Owo w e (.slice none 0 0) 0 [] G := ⟨rfl, .inl ⟨rfl, rfl⟩⟩
theorem mono {G' : Nat → Prop} (h : Owo w e v n xs G) (hG : ∀ k, G k → G' k) : Owo w e v n xs G' := by
  refine ⟨h.1, ?_⟩
  rcases h.2 with h1 | ⟨g, o, c, cur, h1, h2, h3⟩
  · exact .inl h1
  · exact .inr ⟨g, o, c, cur, h1, hG _ h2, h3⟩
theorem fr (h : Owo w e v n xs G) (hf : Fr S w w') (hd : ∀ k, G k → ¬ S k) : Owo w' e v n xs G := by
  refine ⟨h.1, ?_⟩
  rcases h.2 with h1 | ⟨g, o, c, cur, h1, h2, h3, h4⟩
  · exact .inl h1
  · exact .inr ⟨g, o, c, cur, h1, h2, h3.fr hf (hd _ h2), h4⟩
theorem cut (h : Owo w e v n xs G) : Owo w e v n xs (fun k => G k ∧ k < w.heap.size) := by
  refine ⟨h.1, ?_⟩
  rcases h.2 with h1 | ⟨g, o, c, cur, h1, h2, h3, h4⟩
  · exact .inl h1
  · exact .inr ⟨g, o, c, cur, h1, ⟨h2, h3.lt⟩, h3, h4⟩
theorem of_own (h : Own w e 1 v n xs G) : Owo w e v n xs G := by
  refine ⟨by rw [h.1, Nat.mul_one], ?_⟩
  rcases h.2 with h1 | ⟨g, o, c, cur, h1, h2, h3, h4, h5, h6, h7, h8⟩
  · exact .inl h1
  · exact .inr ⟨g, o, c, cur, h1, h2, h3, h4, h5, by omega, h8⟩
theorem rd (h : Owo w e v n xs G) : Rd w v n xs := by
  rcases h.2 with ⟨h1, h2⟩ | ⟨g, o, c, cur, h1, h2, h3, h4, h5, h6, h7⟩
  · have hx : xs = [] := List.eq_nil_of_length_eq_zero (by rw [h.1, h2])
    exact ⟨none, 0, by rw [h1, h2], by omega, by unfold maxLen; omega, fun _ => ⟨h2, rfl, hx⟩, fun ad h => by cases h⟩
  · refine ⟨_, c, h1, h4, h5, fun h => (by cases h), fun ad had j u hu => ?_⟩
    cases had
    rw [addr_add, h3.cell, h7 j (List.getElem?_eq_some_iff.1 hu).1, hu]
/-- Where a row that is not empty lies. -/
theorem at_ (h : Owo w e v n xs G) (hn : 0 < n) : ∃ g o c, v = .slice (some ⟨g, o, none⟩) n c ∧ n ≤ c ∧ c ≤ maxLen ∧ G g ∧ g < w.heap.size ∧ ∀ j u, xs[j]? = some u → w.cell? ⟨g, o + j, none⟩ = some u := by
  rcases h.2 with ⟨h1, h2⟩ | ⟨g, o, c, cur, h1, h2, h3, h4, h5, h6, h7⟩
  · omega
  · exact ⟨g, o, c, h1, h4, h5, h2, h3.lt, fun j u hu => by rw [h3.cell, h7 j (List.getElem?_eq_some_iff.1 hu).1, hu]⟩
/-- Without its first element. -/
theorem tail {g o c : Nat} {x : Value} (h : Owo w e (.slice (some ⟨g, o, none⟩) (n + 1) c) (n + 1) (x :: xs) G) :
    Owo w e (.slice (some ⟨g, o + 1, none⟩) n (c - 1)) n xs G ∧ (c = 1 → Owo w e (.slice (some ⟨g, o, none⟩) 0 0) 0 xs G ∧ n = 0) := by
  obtain ⟨hl, h | ⟨g', o', c', cur, hv, h2, h3, h4, h5, h6, h7⟩⟩ := h
  · cases h.1
  · cases hv
    simp only [List.length_cons] at hl
    have hxl : xs.length = n := by omega
    refine ⟨⟨hxl, .inr ⟨g, o + 1, c - 1, cur, rfl, h2, h3, by omega, by omega, by omega, fun j hj => ?_⟩⟩, fun h0 => ⟨⟨by omega, .inr ⟨g, o, 0, cur, rfl, h2, h3, Nat.le_refl _, by omega, by omega, fun j hj => by omega⟩⟩, by omega⟩⟩
    have := h7 (j + 1) (by simp only [List.length_cons]; omega)
    rw [List.getElem?_cons_succ] at this
    rw [← this]
    congr 1
    omega
end Owo
section
variable {P : Program} (w : World)
/-- append of one element. -/
theorem run_append_owo (t ty e : TypeId) (i : TypeInfo) (z : Value) (bytes : Nat) (ht : P.underlying t = some (.slice e)) (hi : P.info? e = some i) (hz : i.zero = some z)
    (hsize : i.size = 1) (hby : i.bytes = bytes) (hzs : z.cells.size = 1)
    (v : Value) (n : Nat) (xs : List Value) (G : Nat → Prop) (hown : Owo w e v n xs G)
    (vx : Value) (u : Value) (hr : Rd w vx 1 [u]) (h1 : u.oneCell' = true)
    (h63 : n + 1 ≤ maxLen) (hbytes : (n + 1) * bytes ≤ 140737488355328) :
    ∃ v' w', (Builtin.append_ #[t, t] ty #[v, vx]).run P w = .ok v' w' ∧ Owo w' e v' (n + 1) (xs ++ [u]) (fun k => G k ∨ k = w.heap.size) ∧ Fr G w w' := by
  have hfull : Own w e 1 v n xs G → ∃ v' w', (Builtin.append_ #[t, t] ty #[v, vx]).run P w = .ok v' w' ∧ Owo w' e v' (n + 1) (xs ++ [u]) (fun k => G k ∨ k = w.heap.size) ∧ Fr G w w' := fun ho => by
    obtain ⟨v', w', h2, h3, h4⟩ := run_append_rd (P := P) w t ty e i z 1 bytes ht hi hz hsize hby hzs v n xs G ho vx 1 [u] hr rfl (by simpa using h1) h63 hbytes
    exact ⟨v', w', h2, Owo.of_own h3, h4⟩
  rcases hown.2 with ⟨h1', h2'⟩ | ⟨g, o, c, cur, rfl, hG, hb, hnc, hcm, hcs, hat⟩
  · exact hfull ⟨by rw [hown.1, Nat.mul_one], .inl ⟨h1', h2'⟩⟩
  · by_cases hc : n = c
    · exact hfull ⟨by rw [hown.1, Nat.mul_one], .inr ⟨g, o, c, cur, rfl, hG, hb, hnc, hcm, by omega, .inr hc, hat⟩⟩
    · obtain ⟨a, m, rfl, _, _, hnone, hcell⟩ := hr
      cases a with
      | none => have := (hnone rfl).1; omega
      | some ad =>
        have hxl := hown.1
        have hsz : o + n * i.size + 0 < cur.size := by rw [hsize]; omega
        have hrun := run_append_room_cells (P := P) w t ty e i ht hi g o n c ad 1 m [u] (by rw [hsize]; rfl) (hcell ad rfl) (by simpa using h1) (by omega)
          (fun j hj => by
            have hj0 : j = 0 := by simpa using hj
            rw [hb.cell, hj0, Array.getElem?_eq_getElem hsz]
            rfl) (fun j hj => hb.free _)
        rw [hsize, Nat.mul_one] at hrun
        refine ⟨_, _, hrun, ⟨by simp [hxl], .inr ⟨g, o, c, cur.setIfInBounds (o + n) u, rfl, .inl hG, hb.put (o + n) u, by omega, hcm, by simpa using hcs, fun j hj => ?_⟩⟩, ((Fr.put w g (o + n) u).mono (fun k _ hk => by rw [show k = g from hk]; exact hG))⟩
        simp only [List.length_append, List.length_singleton] at hj
        by_cases hjn : j < n
        · rw [Array.getElem?_setIfInBounds_ne (by omega), hat j (by omega), List.getElem?_append_left (by omega)]
        · have : j = n := by omega
          subst this
          rw [Array.getElem?_setIfInBounds_self_of_lt (by omega), List.getElem?_append_right (by omega), hxl, Nat.sub_self]
          rfl
theorem wpList_append_owo {ops : Array Oper} {rest : List Oper} {o : Oper} {a : Act} {Q : Exit → Act → World → Prop} (hgd : o.guard = none) (s x : Operand) (t : TypeId)
    (ho : o.op = .call { callee := .builtin .append, args := #[s, x], argTypes := #[t, t] })
    (e : TypeId) (i : TypeInfo) (z : Value) (bytes : Nat) (ht : P.underlying t = some (.slice e)) (hi : P.info? e = some i) (hz : i.zero = some z)
    (hsize : i.size = 1) (hby : i.bytes = bytes) (hzs : z.cells.size = 1)
    (v : Value) (n : Nat) (xs : List Value) (G : Nat → Prop) (hs : a.eval s = v) (hown : Owo w e v n xs G)
    (vx : Value) (u : Value) (hx : a.eval x = vx) (hr : Rd w vx 1 [u]) (h1 : u.oneCell' = true)
    (h63 : n + 1 ≤ maxLen) (hbytes : (n + 1) * bytes ≤ 140737488355328)
    (h : ∀ v' w', Owo w' e v' (n + 1) (xs ++ [u]) (fun k => G k ∨ k = w.heap.size) → Fr G w w' → wpList P ops Q rest (a.put o.dst v') w') : wpList P ops Q (o :: rest) a w :=
  wpList_plain hgd fun K hK => by
    obtain ⟨v', w', hrun, h2, h3⟩ := run_append_owo (P := P) w t o.type e i z bytes ht hi hz hsize hby hzs v n xs G hown vx u hr h1 h63 hbytes
    unfold Oper.wp execOp
    simp only [ho, resolve, invoke, builtin, Sem.run_bind, Sem.run_pure, Result.andThen_ok, List.map_toArray, List.map_cons, List.map_nil, hs, hx, hrun]
    exact hK _ _ (h v' w' h2 h3)
end
end Go.Proofs.YtcnglhneknbllaaDoor

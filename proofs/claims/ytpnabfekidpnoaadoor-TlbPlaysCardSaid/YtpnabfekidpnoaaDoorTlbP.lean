/-
  The plain law of TlbKeeps: what is put is told; put once more it changes nothing; put one behind the other all make the same.
-/
import Derived.Test.YtpnabfekidpnoaaDoorTlbM
namespace Go.Proofs.YtpnabfekidpnoaaDoor
open Go Go.RowKit

def putAll (ways : Nat) (L : TS) (l : List TE) : TS := l.foldl (TS.put ways) L
theorem own_self (e : TE) : e.own e = true := by simp [TE.own, TE.ans]
/-- A row of set q: its entries are of that set; no elder one answers a younger one's question. -/
structure RowOk (ways q : Nat) (l : List TE) : Prop where
  s : ∀ x ∈ l, setOf 4 x.va = q
  n : l.length ≤ ways
  p : l.Pairwise fun x y => y.own x = false
theorem RowOk.nil (ways q : Nat) : RowOk ways q [] := ⟨by simp, by simp, List.Pairwise.nil⟩
/-- What a row's end looks like behind a Put. -/
theorem putRow_form (ways : Nat) (e : TE) (l : List TE) (h1 : 1 ≤ ways) (hn : l.length ≤ ways) : ∃ m, putRow ways e l = m ++ [e] ∧ m.length + 1 ≤ ways ∧ (∀ x ∈ m, e.own x = false) ∧ m.Sublist l := by
  have h2 : (l.filter fun x => !e.own x).length ≤ l.length := List.length_filter_le _ _
  unfold putRow
  simp only
  split
  · refine ⟨_, rfl, by rw [List.length_drop]; omega, fun x hx => ?_, (List.drop_sublist _ _).trans List.filter_sublist⟩
    have := List.mem_filter.1 (List.mem_of_mem_drop hx)
    simpa using this.2
  · refine ⟨_, rfl, by omega, fun x hx => ?_, List.filter_sublist⟩
    have := List.mem_filter.1 hx
    simpa using this.2
theorem putRow_app (ways : Nat) (e : TE) (m : List TE) (hn : m.length + 1 ≤ ways) (h : ∀ x ∈ m, e.own x = false) : putRow ways e m = m ++ [e] := by
  have h2 : (m.filter fun x => !e.own x) = m := List.filter_eq_self.2 fun x hx => by rw [h x hx]; rfl
  unfold putRow
  simp only [h2]
  rw [if_neg (by omega)]
theorem putRow_again (ways : Nat) (e : TE) (m : List TE) (hn : m.length + 1 ≤ ways) (h : ∀ x ∈ m, e.own x = false) : putRow ways e (m ++ [e]) = m ++ [e] := by
  have h2 : ((m ++ [e]).filter fun x => !e.own x) = m := by
    rw [List.filter_append, List.filter_eq_self.2 fun x hx => by rw [h x hx]; rfl]
    simp [own_self]
  unfold putRow
  simp only [h2]
  rw [if_neg (by omega)]
theorem RowOk.put {ways : Nat} {l : List TE} {e : TE} (h : RowOk ways (setOf 4 e.va) l) (h1 : 1 ≤ ways) : RowOk ways (setOf 4 e.va) (putRow ways e l) := by
  obtain ⟨m, hm, hl, ho, hs⟩ := putRow_form ways e l h1 h.n
  rw [hm]
  refine ⟨fun x hx => ?_, by simp; omega, ?_⟩
  · rcases List.mem_append.1 hx with q | q
    · exact h.s x (hs.subset q)
    · rw [List.mem_singleton.1 q]
  · rw [List.pairwise_append]
    refine ⟨h.p.sublist hs, List.pairwise_singleton _ _, fun x hx y hy => ?_⟩
    rw [List.mem_singleton.1 hy]
    exact ho x hx
/-- Four sets. -/
structure Four (L : TS) : Prop where
  n : L.length = 4
  r : ∀ q (h : q < L.length), RowOk 3 q L[q]
theorem Four.start : Four (List.replicate 4 []) := ⟨rfl, fun q h => by rw [List.getElem_replicate]; exact RowOk.nil _ _⟩
theorem set_lt (va : Nat) : setOf 4 va < 4 := Nat.mod_lt _ (by omega)
theorem put_four {L : TS} (h : L.length = 4) (e : TE) : L.put 3 e = L.set (setOf 4 e.va) (putRow 3 e (L[setOf 4 e.va]'(by rw [h]; exact set_lt _))) := by
  have hq : setOf 4 e.va < L.length := by rw [h]; exact set_lt _
  have hg : L[setOf 4 e.va]? = some L[setOf 4 e.va] := List.getElem?_eq_getElem hq
  have e1 : setOf (List.length L) e.va = setOf 4 e.va := by rw [h]
  unfold TS.put TS.row
  rw [e1, List.getD_eq_getElem?_getD, hg]
  rfl
theorem Four.put {L : TS} (h : Four L) (e : TE) : Four (L.put 3 e) := by
  rw [put_four h.n]
  refine ⟨by rw [List.length_set]; exact h.n, fun q hq => ?_⟩
  rw [List.length_set] at hq
  by_cases hqe : setOf 4 e.va = q
  · subst hqe
    rw [List.getElem_set_self]
    exact (h.r _ _).put (by omega)
  · rw [List.getElem_set_ne hqe]
    exact h.r q hq
theorem Four.all : ∀ (l : List TE) {L : TS}, Four L → Four (putAll 3 L l)
  | [], _, h => h
  | x :: l, _, h => Four.all l (h.put x)
/-- Behind a Put its row ends with what was put. -/
theorem Four.put_end {L : TS} (h : Four L) (e : TE) : ∃ m, ∃ hq : setOf 4 e.va < (L.put 3 e).length, (L.put 3 e)[setOf 4 e.va] = m ++ [e] ∧ m.length + 1 ≤ 3 ∧ ∀ x ∈ m, e.own x = false := by
  have hq : setOf 4 e.va < L.length := by rw [h.n]; exact set_lt _
  obtain ⟨m, hm, hl, ho, _⟩ := putRow_form 3 e L[setOf 4 e.va] (by omega) (h.r _ hq).n
  have hq2 : setOf 4 e.va < (L.put 3 e).length := by rw [put_four h.n, List.length_set]; exact hq
  refine ⟨m, hq2, ?_, hl, ho⟩
  have : (L.put 3 e)[setOf 4 e.va]? = some (m ++ [e]) := by rw [put_four h.n, List.getElem?_set_self hq, hm]
  rw [List.getElem?_eq_getElem hq2] at this
  exact Option.some.inj this
theorem Four.told {L : TS} (h : Four L) (e : TE) : (L.put 3 e).get e.v e.vmid e.asid e.va = some e := by
  obtain ⟨m, hq, hm, _, _⟩ := h.put_end e
  have hn := (h.put e).n
  unfold TS.get TS.row
  rw [hn, List.getD_eq_getElem?_getD, List.getElem?_eq_getElem hq, hm]
  simp [own_self e, show e.ans e.v e.vmid e.asid e.va = true from own_self e]
theorem Four.again {L : TS} (h : Four L) (e : TE) : (L.put 3 e).put 3 e = L.put 3 e := by
  obtain ⟨m, hq, hm, hl, ho⟩ := h.put_end e
  rw [put_four (h.put e).n, hm, putRow_again 3 e m hl ho, ← hm]
  exact List.set_getElem_self hq
/-- A row's entries are put one behind the other. -/
theorem put_row (q : Nat) : ∀ (r p : List TE) (M : TS) (_ : M.length = 4) (hq : q < M.length) (_ : M[q] = p) (_ : RowOk 3 q (p ++ r)), putAll 3 M r = M.set q (p ++ r)
  | [], p, M, hn, hq, hp, _ => by rw [List.append_nil, ← hp]; exact (List.set_getElem_self hq).symm
  | x :: r, p, M, hn, hq, hp, hr => by
    have hx : setOf 4 x.va = q := hr.s x (by simp)
    have h1 : putRow 3 x p = p ++ [x] := by
      refine putRow_app 3 x p (by have := hr.n; simp at this; omega) fun y hy => ?_
      have := (List.pairwise_append.1 hr.p).2.2 y hy x (by simp)
      exact this
    have h2 : M.put 3 x = M.set q (p ++ [x]) := by
      subst hx
      rw [put_four hn, hp, h1]
    show putAll 3 (M.put 3 x) r = _
    rw [h2, put_row q r (p ++ [x]) (M.set q (p ++ [x])) (by rw [List.length_set]; exact hn) (by rw [List.length_set]; exact hq) (by rw [List.getElem_set_self]) (by rw [List.append_assoc]; exact hr), List.set_set, List.append_assoc]
    rfl
theorem putAll_app (ways : Nat) (L : TS) (l m : List TE) : putAll ways L (l ++ m) = putAll ways (putAll ways L l) m := by unfold putAll; rw [List.foldl_append]
/-- Put one behind the other all make the same. -/
theorem Four.same {L : TS} (h : Four L) : putAll 3 (List.replicate 4 []) L.flatten = L := by
  obtain ⟨hn, hr⟩ := h
  match L, hn, hr with
  | [r0, r1, r2, r3], hn, hr =>
    have h0 := hr 0 (by simp)
    have h1 := hr 1 (by simp)
    have h2 := hr 2 (by simp)
    have h3 := hr 3 (by simp)
    simp only [List.getElem_cons_zero, List.getElem_cons_succ] at h0 h1 h2 h3
    simp only [List.flatten_cons, List.flatten_nil, List.append_nil]
    rw [putAll_app, putAll_app, putAll_app]
    rw [put_row 0 r0 [] (List.replicate 4 []) rfl (by simp) rfl h0]
    rw [put_row 1 r1 [] _ rfl (by simp) rfl h1]
    rw [put_row 2 r2 [] _ rfl (by simp) rfl h2]
    rw [put_row 3 r3 [] _ rfl (by simp) rfl h3]
    rfl
theorem Four.len {L : TS} (h : Four L) : L.flatten.length ≤ 12 := by
  obtain ⟨hn, hr⟩ := h
  match L, hn, hr with
  | [r0, r1, r2, r3], hn, hr =>
    have h0 := (hr 0 (by simp)).n
    have h1 := (hr 1 (by simp)).n
    have h2 := (hr 2 (by simp)).n
    have h3 := (hr 3 (by simp)).n
    simp only [List.getElem_cons_zero, List.getElem_cons_succ] at h0 h1 h2 h3
    simp
    omega
/-- No more of a set are there than ways. -/
theorem Four.count {L : TS} (h : Four L) (s : Nat) : L.flatten.countP (fun x => setOf 4 x.va == s) ≤ 3 := by
  obtain ⟨hn, hr⟩ := h
  have hz : ∀ (q : Nat) (l : List TE), RowOk 3 q l → l.countP (fun x => setOf 4 x.va == s) ≤ if q = s then 3 else 0 := fun q l hl => by
    split
    · exact Nat.le_trans List.countP_le_length hl.n
    · rename_i hne
      rw [Nat.le_zero, List.countP_eq_zero]
      intro x hx
      rw [hl.s x hx]
      simpa using hne
  match L, hn, hr with
  | [r0, r1, r2, r3], hn, hr =>
    have h0 := hz _ _ (hr 0 (by simp))
    have h1 := hz _ _ (hr 1 (by simp))
    have h2 := hz _ _ (hr 2 (by simp))
    have h3 := hz _ _ (hr 3 (by simp))
    simp only [List.getElem_cons_zero, List.getElem_cons_succ] at h0 h1 h2 h3
    simp only [List.flatten_cons, List.flatten_nil, List.append_nil, List.countP_append]
    split at h0 <;> split at h1 <;> split at h2 <;> split at h3 <;> omega
/-- The sets come in their order; what was put stands at its set's end. -/
theorem Four.order {L : TS} (h : Four L) (e : TE) : ((L.put 3 e).flatten).Pairwise fun x y => setOf 4 x.va ≤ setOf 4 y.va ∧ (setOf 4 x.va = setOf 4 y.va → x ≠ e) := by
  have hf := h.put e
  obtain ⟨m, hq, hm, hl, ho⟩ := h.put_end e
  have hin : ∀ q (hq : q < (L.put 3 e).length), ((L.put 3 e)[q]).Pairwise fun x y => setOf 4 x.va ≤ setOf 4 y.va ∧ (setOf 4 x.va = setOf 4 y.va → x ≠ e) := fun q hq2 => by
    have hr := hf.r q hq2
    by_cases hqe : setOf 4 e.va = q
    · subst hqe
      rw [hm] at hr ⊢
      have hne : ∀ x ∈ m, x ≠ e := fun x hx hxe => by
        have := ho x hx
        rw [hxe, own_self] at this
        cases this
      rw [List.pairwise_append]
      refine ⟨List.Pairwise.imp_of_mem (R := fun _ _ => True) (fun {x y} hx hy _ => ⟨?_, fun _ => hne x hx⟩) (List.pairwise_of_forall (fun _ _ => trivial)), List.pairwise_singleton _ _, fun x hx y hy => ⟨?_, fun _ => hne x hx⟩⟩
      · rw [hr.s x (by simp [hx]), hr.s y (by simp [hy])]
        exact Nat.le_refl _
      · rw [hr.s x (by simp [hx]), hr.s y (by simp at hy; simp [hy])]
        exact Nat.le_refl _
    · refine List.Pairwise.imp_of_mem (R := fun _ _ => True) (fun {x y} hx hy _ => ⟨?_, fun _ hxe => hqe ?_⟩) (List.pairwise_of_forall (fun _ _ => trivial))
      · rw [hr.s x hx, hr.s y hy]
        exact Nat.le_refl _
      · rw [← hxe]
        exact hr.s x hx
  rw [List.pairwise_flatten]
  refine ⟨fun l hl => ?_, ?_⟩
  · obtain ⟨q, hq2, rfl⟩ := List.getElem_of_mem hl
    exact hin q hq2
  · rw [List.pairwise_iff_getElem]
    intro i j hi hj hij x hx y hy
    have h1 := (hf.r i hi).s x hx
    have h2 := (hf.r j hj).s y hy
    exact ⟨by omega, fun h => by omega⟩
end Go.Proofs.YtpnabfekidpnoaaDoor

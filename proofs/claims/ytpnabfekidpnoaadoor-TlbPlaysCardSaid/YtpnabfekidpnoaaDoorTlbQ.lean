/-
  One list of entries, the oldest one first, beside sets of entries: plain laws. No program in sight.
-/
import Derived.Test.YtpnabfekidpnoaaDoorTlbM
namespace Go.Proofs.YtpnabfekidpnoaaDoor
open Go Go.RowKit

/-- Each set is what of the list lies in it. -/
def Rel (L : TS) (R : List TE) : Prop := ∀ q (h : q < L.length), L[q] = R.filter (fun x => setOf L.length x.va == q)
def inSet (n va : Nat) (x : TE) : Bool := setOf n x.va == setOf n va
/-- A round of the second loop of the document's Put. -/
def cutS (n ways va : Nat) (s : List TE × Nat) (x : TE) : List TE × Nat := if ways ≤ s.2 ∧ inSet n va x = true then (s.1, s.2 - 1) else (s.1 ++ [x], s.2)
def refKeep (R : List TE) (e : TE) : List TE := R.filter fun x => !e.own x
def refPut (ways n : Nat) (R : List TE) (e : TE) : List TE := ((refKeep R e).foldl (cutS n ways e.va) ([], (refKeep R e).countP (inSet n e.va))).1 ++ [e]
theorem cutS_in (n ways va : Nat) (hw : 1 ≤ ways) : ∀ (l : List TE) (s : List TE × Nat), ((l.foldl (cutS n ways va) s).1).filter (inSet n va) = s.1.filter (inSet n va) ++ (l.filter (inSet n va)).drop (s.2 + 1 - ways)
  | [], s => by simp
  | x :: l, s => by
    rw [List.foldl_cons, cutS_in n ways va hw l]
    unfold cutS
    by_cases hx : inSet n va x = true
    · by_cases h : ways ≤ s.2
      · rw [if_pos ⟨h, hx⟩, List.filter_cons_of_pos hx, show s.2 + 1 - ways = (s.2 - 1 + 1 - ways) + 1 by omega, List.drop_succ_cons]
      · rw [if_neg (fun q => h q.1), List.filter_cons_of_pos hx, show s.2 + 1 - ways = 0 by omega, List.filter_append, List.filter_cons_of_pos hx]
        simp
    · rw [if_neg (fun q => hx q.2), List.filter_cons_of_neg hx, List.filter_append, List.filter_cons_of_neg hx]
      simp
theorem cutS_out (n ways va : Nat) (f : TE → Bool) (hf : ∀ x, inSet n va x = true → f x = false) : ∀ (l : List TE) (s : List TE × Nat), ((l.foldl (cutS n ways va) s).1).filter f = s.1.filter f ++ l.filter f
  | [], s => by simp
  | x :: l, s => by
    rw [List.foldl_cons, cutS_out n ways va f hf l]
    unfold cutS
    by_cases h : ways ≤ s.2 ∧ inSet n va x = true
    · rw [if_pos h, List.filter_cons_of_neg (by rw [hf x h.2]; simp)]
    · rw [if_neg h, List.filter_append]
      by_cases hx : f x = true
      · rw [List.filter_cons_of_pos hx, List.filter_cons_of_pos hx]; simp
      · rw [List.filter_cons_of_neg hx, List.filter_cons_of_neg hx]; simp
theorem setOf_lt {n : Nat} (h : 0 < n) (va : Nat) : setOf n va < n := Nat.mod_lt _ h
theorem own_set {e x : TE} {n : Nat} (h : e.own x = true) : setOf n x.va = setOf n e.va := by
  unfold TE.own TE.ans at h
  simp only [Bool.and_eq_true, beq_iff_eq] at h
  unfold setOf
  rw [h.2]
theorem Rel.put {L : TS} {R : List TE} {ways : Nat} (h : Rel L R) (hok : TS.Ok ways L) (e : TE) : Rel (L.put ways e) (refPut ways L.length R e) := by
  have hlen : (L.put ways e).length = L.length := by unfold TS.put; rw [List.length_set]
  intro q hq
  rw [hlen] at hq
  have hq0 : setOf L.length e.va < L.length := setOf_lt hok.n _
  have hrow : L.row e.va = L[setOf L.length e.va] := by unfold TS.row; rw [List.getD_eq_getElem?_getD, List.getElem?_eq_getElem hq0]; rfl
  simp only [hlen]
  unfold refPut
  by_cases e1 : setOf L.length e.va = q
  · have hset : (L.put ways e)[q]'(by rw [hlen]; exact hq) = putRow ways e L[q] := by
      subst e1
      unfold TS.put
      simp only [List.getElem_set_self]
      rw [hrow]
    have hfun : (fun x : TE => setOf L.length x.va == q) = inSet L.length e.va := by funext x; unfold inSet; rw [e1]
    rw [hset, h q hq, hfun, List.filter_append, cutS_in _ _ _ hok.w.1, List.filter_cons_of_pos (by unfold inSet; simp)]
    unfold putRow
    have hm : (List.filter (inSet L.length e.va) R).filter (fun x => !e.own x) = (refKeep R e).filter (inSet L.length e.va) := by
      unfold refKeep
      rw [List.filter_filter, List.filter_filter]
      congr 1
      funext x
      rw [Bool.and_comm]
    simp only [hm, List.filter_nil, List.nil_append]
    rw [← List.countP_eq_length_filter]
    congr 1
    by_cases hc : ways ≤ (refKeep R e).countP (inSet L.length e.va)
    · rw [if_pos hc]
      congr 1
      omega
    · rw [if_neg hc, show (refKeep R e).countP (inSet L.length e.va) + 1 - ways = 0 by omega, List.drop_zero]
  · have hset : (L.put ways e)[q]'(by rw [hlen]; exact hq) = L[q] := by
      unfold TS.put
      rw [List.getElem_set_ne e1]
    rw [hset, h q hq, List.filter_append, cutS_out _ _ _ _ (fun x hx => by
      unfold inSet at hx
      rw [beq_iff_eq] at hx
      rw [hx]
      simp only [beq_eq_false_iff_ne, ne_eq]
      exact e1), List.filter_cons_of_neg (by simp only [beq_iff_eq]; exact e1)]
    simp only [List.filter_nil, List.nil_append, List.append_nil]
    unfold refKeep
    rw [List.filter_filter]
    refine List.filter_congr fun x _ => ?_
    by_cases ho : e.own x = true
    · rw [own_set ho, ho]
      simp only [Bool.not_true, Bool.and_false, beq_eq_false_iff_ne, ne_eq]
      exact e1
    · rw [Bool.not_eq_true] at ho
      rw [ho]
      simp
theorem Rel.row {L : TS} {R : List TE} (h : Rel L R) (h0 : 0 < L.length) (va : Nat) : L.row va = R.filter (inSet L.length va) := by
  have hq0 : setOf L.length va < L.length := setOf_lt h0 _
  unfold TS.row
  rw [List.getD_eq_getElem?_getD, List.getElem?_eq_getElem hq0, Option.getD_some, h _ hq0]
  rfl
def refGet (R : List TE) (v : Bool) (vmid asid va : Nat) : Option TE := R.reverse.find? fun x => x.ans v vmid asid va
theorem find_filter {p f : TE → Bool} (hpf : ∀ x, p x = true → f x = true) : ∀ l : List TE, (l.filter f).find? p = l.find? p
  | [] => rfl
  | x :: l => by
    by_cases hp : p x = true
    · rw [List.filter_cons_of_pos (hpf x hp), List.find?_cons_of_pos hp, List.find?_cons_of_pos hp]
    · rw [List.find?_cons_of_neg hp]
      by_cases hf : f x = true
      · rw [List.filter_cons_of_pos hf, List.find?_cons_of_neg hp, find_filter hpf l]
      · rw [List.filter_cons_of_neg hf, find_filter hpf l]
theorem Rel.get {L : TS} {R : List TE} (h : Rel L R) (h0 : 0 < L.length) (v : Bool) (vmid asid va : Nat) : L.get v vmid asid va = refGet R v vmid asid va := by
  unfold TS.get refGet
  rw [h.row h0, ← List.filter_reverse]
  refine find_filter (fun x hx => ?_) _
  unfold TE.ans at hx
  simp only [Bool.and_eq_true, beq_iff_eq] at hx
  unfold inSet setOf
  rw [hx.2, beq_self_eq_true]
theorem Rel.drop {L : TS} {R : List TE} (h : Rel L R) (p : TE → Bool) : Rel (L.drop p) (R.filter fun x => !p x) := by
  intro q hq
  have hlen : (L.drop p).length = L.length := by unfold TS.drop; rw [List.length_map]
  rw [hlen] at hq
  simp only [hlen]
  have e : (L.drop p)[q]'(by rw [hlen]; exact hq) = (L[q]).filter fun x => !p x := by unfold TS.drop; rw [List.getElem_map]
  rw [e, h q hq, List.filter_filter, List.filter_filter]
  refine List.filter_congr fun x _ => Bool.and_comm _ _
theorem Rel.eq {L : TS} {R : List TE} (h : Rel L R) : L = (List.range L.length).map fun q => R.filter (fun x => setOf L.length x.va == q) := by
  apply List.ext_getElem
  · simp
  · intro q h1 h2
    rw [h q h1, List.getElem_map, List.getElem_range]
def refEntries (n : Nat) (R : List TE) : List TE := ((List.range n).map fun q => R.filter (fun x => setOf n x.va == q)).flatten
theorem Rel.flat {L : TS} {R : List TE} (h : Rel L R) : L.flatten = refEntries L.length R := by unfold refEntries; exact congrArg List.flatten h.eq
theorem sum_sets (s : TE → Nat) (R : List TE) : ∀ n, ((List.range n).map fun q => (R.filter (fun x => s x == q)).length).sum = R.countP (fun x => decide (s x < n))
  | 0 => by simp
  | n + 1 => by
    rw [List.range_succ, List.map_append, List.sum_append, sum_sets s R n]
    simp only [List.map_cons, List.map_nil, List.sum_cons, List.sum_nil, Nat.add_zero]
    induction R with
    | nil => rfl
    | cons x R ih =>
      rw [List.countP_cons, List.countP_cons]
      by_cases h : s x = n
      · rw [List.filter_cons_of_pos (by simp [h])]
        simp only [List.length_cons]
        have h1 : decide (s x < n) = false := by simp; omega
        have h2 : decide (s x < n + 1) = true := by simp; omega
        rw [h1, h2]
        simp only [if_true, Bool.false_eq_true, if_false]
        omega
      · rw [List.filter_cons_of_neg (by simp [h])]
        have h1 : decide (s x < n) = decide (s x < n + 1) := by
          by_cases q : s x < n
          · rw [decide_eq_true q, decide_eq_true (by omega)]
          · rw [decide_eq_false q, decide_eq_false (by omega)]
        rw [h1]
        omega
theorem Rel.count {L : TS} {R : List TE} (h : Rel L R) (h0 : 0 < L.length) : L.count = R.length := by
  unfold TS.count
  conv => lhs; rw [h.eq]
  rw [List.map_map]
  have := sum_sets (fun x => setOf L.length x.va) R L.length
  have e : R.countP (fun x => decide (setOf L.length x.va < L.length)) = R.length := by
    rw [List.countP_eq_length]
    intro x _
    exact decide_eq_true (setOf_lt h0 _)
  rw [e] at this
  exact this
theorem Rel.went {L : TS} {R : List TE} (h : Rel L R) (h0 : 0 < L.length) (p : TE → Bool) : L.went p = R.length - (R.filter fun x => !p x).length := by
  unfold TS.went
  rw [h.count h0, (h.drop p).count (by unfold TS.drop; rw [List.length_map]; exact h0)]
theorem Rel.start (n : Nat) : Rel (List.replicate n []) [] := fun q h => by simp
/-- No more than sets times ways. -/
theorem Rel.len {L : TS} {R : List TE} {ways : Nat} (h : Rel L R) (hok : TS.Ok ways L) : R.length ≤ 512 := by
  rw [← h.count hok.n]
  unfold TS.count
  have : ∀ (L : TS), (∀ l ∈ L, l.length ≤ 8) → (L.map (·.length)).sum ≤ L.length * 8 := by
    intro L
    induction L with
    | nil => simp
    | cons x L ih =>
      intro hl
      have h1 := hl x (List.mem_cons_self ..)
      have h2 := ih (fun l q => hl l (List.mem_cons_of_mem _ q))
      simp only [List.map_cons, List.sum_cons, List.length_cons]
      omega
  have := this L (fun l q => Nat.le_trans (hok.r l q) hok.w.2)
  have := hok.n64
  omega
end Go.Proofs.YtpnabfekidpnoaaDoor

/-
  The plain law of TlbFenced: what goes at a fence, and what is told behind it.
-/
import Derived.Test.YtpnabfekidpnoaaDoorTlbM
namespace Go.Proofs.YtpnabfekidpnoaaDoor
open Go Go.RowKit

namespace TS
theorem drop_len (L : TS) (p : TE → Bool) : (L.drop p).length = L.length := by unfold TS.drop; rw [List.length_map]
theorem drop_row (L : TS) (p : TE → Bool) (va : Nat) : (L.drop p).row va = (L.row va).filter fun x => !p x := by
  have h : ∀ i, (L.drop p).getD i [] = (L.getD i []).filter fun x => !p x := fun i => by
    unfold TS.drop
    rw [List.getD_eq_getElem?_getD, List.getD_eq_getElem?_getD, List.getElem?_map]
    cases L[i]? with
    | none => rfl
    | some l => rfl
  unfold TS.row
  rw [drop_len]
  exact h _
theorem get_ans {L : TS} {v : Bool} {vmid asid va : Nat} {x : TE} (h : L.get v vmid asid va = some x) : x.ans v vmid asid va = true := by
  unfold TS.get at h
  have := List.find?_some h
  exact this
/-- What stays is told as it was. -/
theorem get_stays {L : TS} {p : TE → Bool} {v : Bool} {vmid asid va : Nat} {x : TE} (h : L.get v vmid asid va = some x) (hp : p x = false) : (L.drop p).get v vmid asid va = some x := by
  unfold TS.get at h ⊢
  rw [drop_row, ← List.filter_reverse, List.find?_filter]
  rw [List.find?_eq_some_iff_append] at h ⊢
  obtain ⟨h1, as, bs, h2, h3⟩ := h
  exact ⟨by simp [hp, h1], as, bs, h2, fun a ha => by have := h3 a ha; simp at this; simp [this]⟩
theorem flat_count (L : TS) : L.flatten.length = L.count := by unfold TS.count; rw [List.length_flatten]
theorem drop_count (p : TE → Bool) : ∀ L : TS, TS.count (TS.drop L p) ≤ TS.count L
  | [] => by simp [TS.count, TS.drop]
  | l :: L => by
    have h := drop_count p L
    have h1 : (List.filter (fun x => !p x) l).length ≤ l.length := List.length_filter_le _ _
    simp only [TS.count, TS.drop, List.map_cons, List.sum_cons, List.map_map] at h ⊢
    omega
theorem mem_drop {L : TS} {p : TE → Bool} {x : TE} (h : x ∈ (L.drop p).flatten) : p x = false := by
  obtain ⟨l, hl, hx⟩ := List.mem_flatten.1 h
  obtain ⟨m, _, rfl⟩ := List.mem_map.1 hl
  have := (List.mem_filter.1 hx).2
  simpa using this
theorem drop_all (L : TS) : (L.drop fun _ => true).flatten = [] := by
  apply List.eq_nil_iff_forall_not_mem.2
  intro x hx
  have := mem_drop hx
  simp at this
theorem drop_all_count (L : TS) : (L.drop fun _ => true).count = 0 := by rw [← flat_count, drop_all]; rfl
end TS
theorem hold_page (e : TE) (va : Nat) (h : e.va / 4096 = va / 4096) : e.hold va = true := by
  unfold TE.hold
  rw [Nat.pow_add, ← Nat.div_div_eq_div_mul, ← Nat.div_div_eq_div_mul, show (2 : Nat) ^ 12 = 4096 from rfl, h]
  simp
/-- What is not fenced by its region is not fenced by its page. -/
theorem fence_page {v : Bool} {vmid asid va : Nat} {byVa byAsid : Bool} {e : TE} (h : TS.fence v vmid asid va byVa byAsid e = false) :
    (e.v == v && (!v || e.vmid == vmid) && (!byVa || e.va / 4096 == va / 4096) && (!byAsid || !e.gl && e.asid == asid)) = false := by
  cases hq : (e.va / 4096 == va / 4096) with
  | false =>
    unfold TS.fence at h
    revert h
    cases (e.v == v) <;> cases (!v || e.vmid == vmid) <;> cases byVa <;> cases (e.hold va) <;> simp
  | true =>
    have h1 := hold_page e va (by simpa using hq)
    unfold TS.fence at h
    rw [h1] at h
    exact h
end Go.Proofs.YtpnabfekidpnoaaDoor

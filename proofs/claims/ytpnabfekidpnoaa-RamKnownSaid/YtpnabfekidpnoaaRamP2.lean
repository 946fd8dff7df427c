/-
  Pages: the addresses of those pages that are not all noughts, in their order.
-/
import Derived.Test.YtpnabfekidpnoaaRamP1
import Derived.Test.YtpnabfekidpnoaaAppC
namespace Go.Proofs.Ytpnabfekidpnoaa
open Go Go.RowKit

def uV (l : List Nat) : List Value := l.map fun x => .int .u64 ((x : Nat) : Int)
theorem uV_one (l : List Nat) : ∀ u ∈ uV l, u.oneCell' = true := by
  intro u hu
  obtain ⟨x, _, rfl⟩ := List.mem_map.1 hu
  rfl
/-- Is there a byte in the page that is not 0? -/
def NZ (m : Nat → Nat) (p : Nat) : Prop := ∃ i, i < 4096 ∧ m (p * 4096 + i) ≠ 0
def PagesOf (m : Nat → Nat) (l : List Nat) : Prop := l.Pairwise (· < ·) ∧ ∀ x, x ∈ l ↔ ∃ p, x = p * 4096 ∧ NZ m p
theorem samePg_nz {m : Nat → Nat} {p : Nat} : samePg (fun i => m (p * 4096 + i)) (fun _ => 0) = true ↔ ¬ NZ m p := by
  rw [samePg_iff]
  constructor
  · rintro h ⟨i, hi, hn⟩
    exact hn (h i hi)
  · intro h i hi
    exact Classical.byContradiction fun hn => h ⟨i, hi, hn⟩
theorem ranges_fr {w w' : World} {S : Nat → Prop} {b r n : Nat} {D : DataW Unit} {left : Lit → Bool} {cnt : Nat} (h : w.ranges Try.prog 22 pgElem b r n D left cnt) (hf : Fr S w w') (hb : ¬ S b) (hr : ¬ S r) : w'.ranges Try.prog 22 pgElem b r n D left cnt := by
  have h1 := h.owns.lt
  have h2 := h.lt
  obtain ⟨es, clock, since, seen, c0, a1, a2, a3, a4, a5, a6⟩ := h
  exact ⟨es, clock, since, seen, c0, (hf.block b h1 hb).trans a1, a2, a3, a4, (hf.block r h2 hr).trans a5, a6⟩
/-- What was collected so far. -/
structure Coll (m : Nat → Nat) (D : DataW Unit) (left : Lit → Bool) (acc : List Nat) : Prop where
  nodup : acc.Nodup
  mem : ∀ x, x ∈ acc ↔ ∃ p : Nat, x = p * 4096 ∧ NZ m p ∧ Maps.has D (.int .u64 (p : Int)) = true ∧ left (.int .u64 (p : Int)) = false
  left_has : ∀ kl, left kl = true → Maps.has D kl = true
theorem sameKey_u (x p : Nat) : (Lit.int .u64 (p : Int)).sameKey (.int .u64 (x : Int)) = decide (p = x) := by
  by_cases h : p = x
  · subst h
    rw [decide_eq_true rfl]
    simp [Lit.sameKey]
  · rw [decide_eq_false h]
    exact Maps.sameKey_ne (fun e => h (by simp only [Lit.int.injEq, true_and] at e; omega))
theorem Coll.skip {m : Nat → Nat} {D : DataW Unit} {left : Lit → Bool} {acc : List Nat} (h : Coll m D left acc) (x : Nat) (hx : ¬ NZ m x) : Coll m D (fun z => left z && !z.sameKey (.int .u64 (x : Int))) acc := by
  refine ⟨h.nodup, fun y => ?_, fun kl hk => h.left_has kl (by simp at hk; exact hk.1)⟩
  rw [h.mem]
  constructor
  · rintro ⟨p, h1, h2, h3, h4⟩
    exact ⟨p, h1, h2, h3, by simp [h4]⟩
  · rintro ⟨p, h1, h2, h3, h4⟩
    refine ⟨p, h1, h2, h3, ?_⟩
    rw [sameKey_u] at h4
    by_cases hp : p = x
    · subst hp; exact absurd h2 hx
    · simpa [hp] using h4
theorem Coll.add {m : Nat → Nat} {D : DataW Unit} {left : Lit → Bool} {acc : List Nat} (h : Coll m D left acc) (x : Nat) (hx : NZ m x) (hl : left (.int .u64 (x : Int)) = true) : Coll m D (fun z => left z && !z.sameKey (.int .u64 (x : Int))) (acc ++ [x * 4096]) := by
  refine ⟨?_, fun y => ?_, fun kl hk => h.left_has kl (by simp at hk; exact hk.1)⟩
  · rw [List.nodup_append]
    refine ⟨h.nodup, List.nodup_cons.2 ⟨by simp, List.nodup_nil⟩, fun a ha b hb => ?_⟩
    rw [List.mem_singleton.1 hb]
    intro e
    subst e
    obtain ⟨p, h1, _, _, h4⟩ := (h.mem _).1 ha
    have : p = x := by omega
    subst this
    rw [hl] at h4
    cases h4
  · rw [List.mem_append, List.mem_singleton, h.mem]
    constructor
    · rintro (⟨p, h1, h2, h3, h4⟩ | h1)
      · exact ⟨p, h1, h2, h3, by simp [h4]⟩
      · exact ⟨x, h1, hx, h.left_has _ hl, by rw [sameKey_u]; simp⟩
    · rintro ⟨p, h1, h2, h3, h4⟩
      rw [sameKey_u] at h4
      by_cases hp : p = x
      · subst hp; exact .inr h1
      · exact .inl ⟨p, h1, h2, h3, by simpa [hp] using h4⟩
theorem nodup_bound (a : Nat) : ∀ (k : Nat) (l : List Nat), l.Nodup → (∀ x ∈ l, a ≤ x ∧ x < a + k) → l.length ≤ k
  | 0, l, _, h => by
    cases l with
    | nil => simp
    | cons x l => have := h x (by simp); omega
  | k + 1, l, hn, h => by
    by_cases hm : (a + k) ∈ l
    · have h1 := nodup_bound a k (l.erase (a + k)) (hn.erase _) (fun x hx => by
        have h2 := (hn.mem_erase_iff).1 hx
        have h3 := h x h2.2
        have h4 := h2.1
        omega)
      rw [List.length_erase_of_mem hm] at h1
      omega
    · have h1 := nodup_bound a k l hn (fun x hx => by
        have h3 := h x hx
        have h4 : x ≠ a + k := fun e => hm (e ▸ hx)
        omega)
      omega
end Go.Proofs.Ytpnabfekidpnoaa

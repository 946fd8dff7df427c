/-
  Acts of an interrupt controller, as a slice of a statement's argument.
-/
import Derived.Test.YtcnglhneknbllaaDoorPlicO2
import Derived.Test.YtcnglhneknbllaaDoorOpen
namespace Go.Proofs.YtcnglhneknbllaaDoor
open Go Go.RowKit

def pactCells (xs : List PAct) : List Value := xs.flatMap PAct.cells
theorem pactCells_at (xs : List PAct) : ∀ (k : Nat) (x : PAct), xs[k]? = some x → ∀ j u, x.cells[j]? = some u → (pactCells xs)[k * 6 + j]? = some u := by
  induction xs with
  | nil => intro k x h; simp at h
  | cons y xs ih =>
    intro k x h j u hu
    have h4 : ∀ z : PAct, z.cells.length = 6 := fun z => rfl
    cases k with
    | zero =>
      simp at h
      subst h
      have hj : j < 6 := by rw [← h4 y]; exact (List.getElem?_eq_some_iff.1 hu).1
      simp only [pactCells, List.flatMap_cons]
      rw [Nat.zero_mul, Nat.zero_add, List.getElem?_append_left (by rw [h4]; exact hj)]
      exact hu
    | succ k =>
      simp only [pactCells, List.flatMap_cons]
      rw [List.getElem?_append_right (by rw [h4, Nat.add_mul]; omega), h4]
      have := ih k x (by simpa using h) j u hu
      rw [← this]
      unfold pactCells
      congr 1
      rw [Nat.add_mul]
      omega
/-- Where an act lies, at every world that keeps what was there. -/
theorem Rd.pactsAt {w : World} {v : Value} {xs : List PAct} (h : Rd w v xs.length (pactCells xs)) {k : Nat} (hk : k < xs.length) :
    ∃ g o c, v = .slice (some ⟨g, o, none⟩) xs.length c ∧ ∀ wz, Fr No w wz → ∀ j u, xs[k].cells[j]? = some u → wz.cell? ⟨g, o + (k * 6 + j), none⟩ = some u := by
  obtain ⟨a, c, rfl, h2, h3, h4, h5⟩ := h
  cases a with
  | none => have := (h4 rfl).1; omega
  | some ad =>
    obtain ⟨g, o, sp⟩ := ad
    have hx := fun (j : Nat) (u : Value) (hu : xs[k].cells[j]? = some u) => h5 _ rfl _ u (pactCells_at xs k xs[k] (List.getElem?_eq_getElem hk) j u hu)
    cases sp with
    | none => exact ⟨g, o, c, rfl, fun wz hz j u hu => hz.cell (by have := hx j u hu; rwa [addr_add] at this) (fun h => h)⟩
    | some sp =>
      exfalso
      have h0 := h5 _ rfl _ _ (pactCells_at xs 0 xs[0] (List.getElem?_eq_getElem (by omega)) 0 _ rfl)
      have hsp : (⟨g, o, some sp⟩ : Addr).add (0 * 6 + 0) = ⟨g, o, some sp⟩ := rfl
      rw [hsp] at h0
      unfold World.cell? at h0
      split at h0 <;> simp at h0
/-- Rows of an act's cells are acts. -/
theorem pacts_of_rows : ∀ rows : List (List Value), (∀ r ∈ rows, WFits r [some .i64, some .u64, some .i64, some .u64, some .i64, none]) → ∃ xs : List PAct, xs.length = rows.length ∧ pactCells xs = rows.flatten ∧ ∀ x ∈ xs, x.Ok
  | [], _ => ⟨[], rfl, rfl, fun x h => by cases h⟩
  | r :: rows, h => by
    obtain ⟨xs, h1, h2, h3⟩ := pacts_of_rows rows (fun r hr => h r (List.mem_cons_of_mem _ hr))
    have hr := h r (List.mem_cons_self ..)
    obtain ⟨a, _, rfl, _, hr⟩ := hr.int
    obtain ⟨b, _, rfl, hb, hr⟩ := hr.int
    obtain ⟨c, _, rfl, _, hr⟩ := hr.int
    obtain ⟨d, _, rfl, hd, hr⟩ := hr.int
    obtain ⟨e, _, rfl, _, hr⟩ := hr.int
    obtain ⟨f, r2, hr1, hr2⟩ := hr.bool
    obtain rfl := hr2.nil
    subst hr1

    obtain ⟨b, rfl, hb'⟩ := nat_u64 hb
    obtain ⟨d, rfl, hd'⟩ := nat_u64 hd
    refine ⟨⟨a, b, c, d, e, f⟩ :: xs, by rw [List.length_cons, List.length_cons, h1], ?_, fun x hx => ?_⟩
    · rw [List.flatten_cons, ← h2]
      rfl
    · rcases List.mem_cons.1 hx with rfl | hx
      · exact ⟨hb', hd'⟩
      · exact h3 x hx
end Go.Proofs.YtcnglhneknbllaaDoor

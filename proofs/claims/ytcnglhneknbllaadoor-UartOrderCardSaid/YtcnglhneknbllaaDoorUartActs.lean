/-
  Acts of a serial line out of rows of cells.
-/
import Derived.Test.YtcnglhneknbllaaDoorUartL1
import Derived.Test.YtcnglhneknbllaaDoorOpen
namespace Go.Proofs.YtcnglhneknbllaaDoor
open Go Go.RowKit

/-- The acts' cells, at every world that keeps what was there. -/
theorem Rd.actsAt {w : World} {v : Value} {xs : List UAct} (h : Rd w v xs.length (actCells xs)) {k : Nat} (hk : k < xs.length) :
    ∃ g o c, v = .slice (some ⟨g, o, none⟩) xs.length c ∧ ∀ wz, Fr No w wz → wz.cell? ⟨g, o + k * 4, none⟩ = some (.int .i64 xs[k].act) ∧ wz.cell? ⟨g, o + k * 4 + 1, none⟩ = some (.int .u64 (xs[k].off : Int)) ∧
      wz.cell? ⟨g, o + k * 4 + 2, none⟩ = some (.int .i64 xs[k].n) ∧ wz.cell? ⟨g, o + k * 4 + 3, none⟩ = some (.int .u64 (xs[k].v : Int)) := by
  obtain ⟨g, o, c, hv, _, hcell⟩ := h.act hk
  exact ⟨g, o, c, hv, fun wz hz => ⟨hz.cell (hcell 0 _ rfl) (fun h => h), hz.cell (hcell 1 _ rfl) (fun h => h), hz.cell (hcell 2 _ rfl) (fun h => h), hz.cell (hcell 3 _ rfl) (fun h => h)⟩⟩

/-- Rows of an act's cells are acts. -/
theorem uacts_of_rows : ∀ rows : List (List Value), (∀ r ∈ rows, WFits r [some .i64, some .u64, some .i64, some .u64]) → ∃ xs : List UAct, xs.length = rows.length ∧ actCells xs = rows.flatten ∧ ∀ x ∈ xs, x.Ok
  | [], _ => ⟨[], rfl, rfl, fun x h => by cases h⟩
  | r :: rows, h => by
    obtain ⟨xs, h1, h2, h3⟩ := uacts_of_rows rows (fun r hr => h r (List.mem_cons_of_mem _ hr))
    have hr := h r (List.mem_cons_self ..)
    obtain ⟨a, _, rfl, _, hr⟩ := hr.int
    obtain ⟨b, _, rfl, hb, hr⟩ := hr.int
    obtain ⟨c, _, rfl, _, hr⟩ := hr.int
    obtain ⟨d, _, rfl, hd, hr⟩ := hr.int
    obtain rfl := hr.nil
    obtain ⟨b, rfl, hb'⟩ := nat_u64 hb
    obtain ⟨d, rfl, hd'⟩ := nat_u64 hd
    refine ⟨⟨a, b, c, d⟩ :: xs, by rw [List.length_cons, List.length_cons, h1], ?_, fun x hx => ?_⟩
    · rw [List.flatten_cons, ← h2]
      rfl
    · rcases List.mem_cons.1 hx with rfl | hx
      · exact ⟨hb', hd'⟩
      · exact h3 x hx
end Go.Proofs.YtcnglhneknbllaaDoor

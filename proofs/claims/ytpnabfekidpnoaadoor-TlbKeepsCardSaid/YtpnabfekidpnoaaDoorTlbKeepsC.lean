/-
  TlbKeeps at every argument.
-/
import Derived.Test.YtpnabfekidpnoaaDoorTlbKeepsW
namespace Go.Proofs.YtpnabfekidpnoaaDoor
open Go Go.RowKit

theorem te_of_cells2 (r : List Value) (h : WFits r [none, some .u64, some .u64, none, some .u64, some .u64, some .u64, some .i64, some .i64, some .u64, some .u64]) : ∃ x : TE, r = x.cells ∧ True := by
  obtain ⟨x, hx⟩ := te_of_cells h
  exact ⟨x, hx, trivial⟩
theorem tes_of_rows2 (rows : List (List Value)) (h : ∀ r ∈ rows, WFits r [none, some .u64, some .u64, none, some .u64, some .u64, some .u64, some .i64, some .i64, some .u64, some .u64]) : ∃ xs : List TE, xs.length = rows.length ∧ tcells xs = rows.flatten ∧ True := by
  obtain ⟨xs, h1, h2⟩ := tes_of_rows rows h
  exact ⟨xs, h1, h2, trivial⟩
theorem TlbKeeps_c (w : World) (hT : TzAt w) (v : Value) (l : List TE) (hr : Rd w v l.length (tcells l)) (e : TE) :
    Calls Tryd.prog 3 #[v, .agg e.cells.toArray] w fun r w' => r = .returned (.bool true) ∧ Fr No w w' := by
  by_cases h : l.length ≤ 100
  · exact TlbKeeps_main w v l e hr h hT
  · obtain ⟨a, c, rfl, _⟩ := hr
    exact TlbKeeps_long w a l.length c e (by omega) hT
end Go.Proofs.YtpnabfekidpnoaaDoor

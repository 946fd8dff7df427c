/-
  TlbFenced at every argument.
-/
import Derived.Test.YtpnabfekidpnoaaDoorTlbFencedW
namespace Go.Proofs.YtpnabfekidpnoaaDoor
open Go Go.RowKit

theorem te_of_cells2 (r : List Value) (h : WFits r [none, some .u64, some .u64, none, some .u64, some .u64, some .u64, some .i64, some .i64, some .u64, some .u64]) : ∃ x : TE, r = x.cells ∧ True := by
  obtain ⟨x, hx⟩ := te_of_cells h
  exact ⟨x, hx, trivial⟩
theorem tes_of_rows2 (rows : List (List Value)) (h : ∀ r ∈ rows, WFits r [none, some .u64, some .u64, none, some .u64, some .u64, some .u64, some .i64, some .i64, some .u64, some .u64]) : ∃ xs : List TE, xs.length = rows.length ∧ tcells xs = rows.flatten ∧ True := by
  obtain ⟨xs, h1, h2⟩ := tes_of_rows rows h
  exact ⟨xs, h1, h2, trivial⟩
set_option maxRecDepth 100000 in
set_option maxHeartbeats 1000000 in
theorem TlbFenced_long (w : World) (a : Option Addr) (n c : Nat) (f : TE) (byVa byAsid : Bool) (q : TE) (h100 : 100 < n) (hT : TzAt w) :
    Calls Tryd.prog 6 #[.slice a n c, .agg f.cells.toArray, .bool byVa, .bool byAsid, .agg q.cells.toArray] w fun r w' => r = .returned (.bool true) ∧ Fr No w w' := by
  obtain ⟨W0, hW0⟩ : ∃ W0, W0 = (w.alloc (.cells f.cells.toArray 25)).alloc (.cells q.cells.toArray 25) := ⟨_, rfl⟩
  have hf0 : Fr No w W0 := by rw [hW0]; exact ((Fr.refl No w).alloc _).alloc _
  have hT0 := hT.fr hf0 (fun q => q)
  have HT := Lib.hid hT0
  have HA := Lib.hid (awake_c W0 hT0)
  have HF0 := Lib.hid hf0
  have HW := Lib.hid (show (w.alloc (.cells (acells f) 25)).alloc (.cells (acells q) 25) = W0 from hW0.symm)
  have d1 : decide ((100 : Int) < (n : Int)) = true := by rw [decide_eq_true_iff]; omega
  clear hT hT0 hf0 hW0
  show Calls Tryd.prog 6 #[.slice a n c, .agg (acells f), .bool byVa, .bool byAsid, .agg (acells q)] w _
  unfold acells at HW ⊢
  go_enter Tryd.func6, Tryd.ntmps6
  go_wp2_with fail
  rw [HW.out]
  refine HA.out.mono ?_
  rintro r w1 ⟨rfl, hf1⟩
  have HM := Lib.hid (made_long w1 a n c h100 (HT.out.fr hf1 (fun q => q)))
  have HF1 := Lib.hid (HF0.out.trans hf1)
  clear hf1
  go_wp2_with fail
  refine HM.out.mono ?_
  rintro r w2 ⟨rfl, hf2⟩
  go_wp2_with fail
  go_ret
  exact ⟨rfl, HF1.out.trans hf2⟩
theorem TlbFenced_c (w : World) (hT : TzAt w) (v : Value) (l : List TE) (hr : Rd w v l.length (tcells l)) (f : TE) (byVa byAsid : Bool) (q : TE) :
    Calls Tryd.prog 6 #[v, .agg f.cells.toArray, .bool byVa, .bool byAsid, .agg q.cells.toArray] w fun r w' => r = .returned (.bool true) ∧ Fr No w w' := by
  by_cases h : l.length ≤ 100
  · exact TlbFenced_main w v l f byVa byAsid q hr h hT
  · obtain ⟨a, c, rfl, _⟩ := hr
    exact TlbFenced_long w a l.length c f byVa byAsid q (by omega) hT
end Go.Proofs.YtpnabfekidpnoaaDoor

/-
  What a nil one does; what New refuses.
-/
import Derived.Test.YtpnabfekidpnoaaDoorTlbE
namespace Go.Proofs.YtpnabfekidpnoaaDoor
open Go Go.RowKit

section
variable (w : World)
set_option maxRecDepth 100000 in
theorem put_nil (e : TE) : Calls Tryd.prog 9 #[.pointer none, .agg e.cells.toArray] w fun r w' => r = .returned (.tuple #[]) ∧ Fr No w w' := by
  show Calls Tryd.prog 9 #[.pointer none, .agg #[.bool e.v, .int .u64 (e.vmid : Int), .int .u64 (e.asid : Int), .bool e.gl, .int .u64 (e.va : Int), .int .u64 (e.gpa : Int), .int .u64 (e.pa : Int), .int .i64 e.vl, .int .i64 e.gll, .int .u64 (e.vs : Int), .int .u64 (e.g : Int)]] w _
  go_enter Tryd.func9, Tryd.ntmps9
  go_wp2_with fail
  refine bodyPost_ret (results_none rfl _ _ _) rfl ?_
  exact ⟨rfl, (Fr.refl No w).alloc _⟩
set_option maxRecDepth 100000 in
theorem entries_nil : Calls Tryd.prog 11 #[.pointer none] w fun r w' => r = .returned (.slice none 0 0) ∧ Fr No w w' := by
  go_enter Tryd.func11, Tryd.ntmps11
  go_wp2_with fail
  go_ret
  exact ⟨rfl, Fr.refl _ _⟩
set_option maxRecDepth 100000 in
theorem twin_nil : Calls Tryd.prog 16 #[.pointer none] w fun r w' => r = .returned (.pointer none) ∧ Fr No w w' := by
  go_enter Tryd.func16, Tryd.ntmps16
  go_wp2_with fail
  go_ret
  exact ⟨rfl, Fr.refl _ _⟩
set_option maxRecDepth 100000 in
theorem drop_nil (f : Value) : Calls Tryd.prog 31 #[.pointer none, f] w fun r w' => r = .returned (.int .i64 0) ∧ Fr No w w' := by
  go_enter Tryd.func31, Tryd.ntmps31
  go_wp2_with fail
  go_ret
  exact ⟨rfl, Fr.refl _ _⟩
end
section
variable (w : World)
set_option maxRecDepth 100000 in
theorem clear_nil : Calls Tryd.prog 17 #[.pointer none] w fun r w' => r = .returned (.int .i64 0) ∧ Fr No w w' := by
  go_enter Tryd.func17, Tryd.ntmps17
  go_wp2_with (go_at_call 31; refine (drop_nil _ _).mono ?_; rintro r w2 ⟨rfl, h2⟩)
  go_ret
  exact ⟨rfl, h2⟩
set_option maxRecDepth 100000 in
theorem fenceG_nil (vmid : Nat) (by_ : Bool) : Calls Tryd.prog 15 #[.pointer none, .int .u64 (vmid : Int), .bool by_] w fun r w' => r = .returned (.int .i64 0) ∧ Fr No w w' := by
  have HF := Lib.hid (show Fr No w ((w.alloc (.cells #[.int .u64 (vmid : Int)] 23)).alloc (.cells #[.bool by_] 4)) from ((Fr.refl No w).alloc _).alloc _)
  go_enter Tryd.func15, Tryd.ntmps15
  go_wp2_with (go_at_call 31; refine (drop_nil _ _).mono ?_; rintro r w2 ⟨rfl, h2⟩)
  go_ret
  exact ⟨rfl, HF.out.trans h2⟩
set_option maxRecDepth 100000 in
theorem fence_nil (v : Bool) (vmid asid va : Nat) (byVa byAsid : Bool) : Calls Tryd.prog 14 #[.pointer none, .bool v, .int .u64 (vmid : Int), .int .u64 (asid : Int), .int .u64 (va : Int), .bool byVa, .bool byAsid] w fun r w' => r = .returned (.int .i64 0) ∧ Fr No w w' := by
  have HF := Lib.hid (show Fr No w ((((((w.alloc (.cells #[.bool v] 4)).alloc (.cells #[.int .u64 (vmid : Int)] 23)).alloc (.cells #[.int .u64 (asid : Int)] 23)).alloc (.cells #[.int .u64 (va : Int)] 23)).alloc (.cells #[.bool byVa] 4)).alloc (.cells #[.bool byAsid] 4)) from ((((((Fr.refl No w).alloc _).alloc _).alloc _).alloc _).alloc _).alloc _)
  go_enter Tryd.func14, Tryd.ntmps14
  go_wp2_with (go_at_call 31; refine (drop_nil _ _).mono ?_; rintro r w2 ⟨rfl, h2⟩)
  go_ret
  exact ⟨rfl, HF.out.trans h2⟩
end
set_option maxRecDepth 100000 in
theorem get_nil (w : World) (v : Bool) (vmid asid va : Nat) : Calls Tryd.prog 10 #[.pointer none, .bool v, .int .u64 (vmid : Int), .int .u64 (asid : Int), .int .u64 (va : Int)] w fun r w' => r = .returned (getRes none) ∧ Fr No w w' := by
  go_enter Tryd.func10, Tryd.ntmps10
  go_wp2_with fail
  obtain ⟨X, hX⟩ : ∃ X, X = (((((w.alloc (.cells #[.bool v] 4)).alloc (.cells #[.int .u64 (vmid : Int)] 23)).alloc (.cells #[.int .u64 (asid : Int)] 23)).alloc (.cells #[.int .u64 (va : Int)] 23)).alloc (.cells #[.bool false, .int .u64 0, .int .u64 0, .bool false, .int .u64 0, .int .u64 0, .int .u64 0, .int .i64 0, .int .i64 0, .int .u64 0, .int .u64 0] 25)).alloc (.cells #[.bool false] 4) := ⟨_, rfl⟩
  obtain ⟨_, _, _, _, k4, k5, _, kf⟩ := six_at w _ _ _ _ _ _ hX
  have r4 : Blk X (w.heap.size + 4) 25 #[.bool false, .int .u64 0, .int .u64 0, .bool false, .int .u64 0, .int .u64 0, .int .u64 0, .int .i64 0, .int .i64 0, .int .u64 0, .int .u64 0] := k4
  have r5 : Blk X (w.heap.size + 5) 4 #[.bool false] := k5
  rw [← hX]
  clear hX k4 k5
  have y0 : X.cell? ⟨(w.heap.size + 4), 0, none⟩ = some (.bool false) := r4.cell 0
  have y1 : X.cell? ⟨(w.heap.size + 4), 1, none⟩ = some (.int .u64 0) := r4.cell 1
  have y2 : X.cell? ⟨(w.heap.size + 4), 2, none⟩ = some (.int .u64 0) := r4.cell 2
  have y3 : X.cell? ⟨(w.heap.size + 4), 3, none⟩ = some (.bool false) := r4.cell 3
  have y4 : X.cell? ⟨(w.heap.size + 4), 4, none⟩ = some (.int .u64 0) := r4.cell 4
  have y5 : X.cell? ⟨(w.heap.size + 4), 5, none⟩ = some (.int .u64 0) := r4.cell 5
  have y6 : X.cell? ⟨(w.heap.size + 4), 6, none⟩ = some (.int .u64 0) := r4.cell 6
  have y7 : X.cell? ⟨(w.heap.size + 4), 7, none⟩ = some (.int .i64 0) := r4.cell 7
  have y8 : X.cell? ⟨(w.heap.size + 4), 8, none⟩ = some (.int .i64 0) := r4.cell 8
  have y9 : X.cell? ⟨(w.heap.size + 4), 9, none⟩ = some (.int .u64 0) := r4.cell 9
  have y10 : X.cell? ⟨(w.heap.size + 4), 10, none⟩ = some (.int .u64 0) := r4.cell 10
  have y11 : X.cell? ⟨w.heap.size + 5, 0, none⟩ = some (.bool false) := r5.cell 0
  refine bodyPost_ret (v := getRes none) ?_ rfl ⟨rfl, kf⟩
  simp [results, Tryd.f10, go_sem, y0, y1, y2, y3, y4, y5, y6, y7, y8, y9, y10, y11, getRes]
  rfl
/-- What New takes. -/
def goodNew (n ways : Int) : Prop := 1 ≤ n ∧ n ≤ 64 ∧ (ones n.toNat).length = 1 ∧ 1 ≤ ways ∧ ways ≤ 8
set_option maxRecDepth 100000 in
set_option maxHeartbeats 1000000 in
theorem new_bad (w : World) (n ways : Int) (hb : ¬ goodNew n ways) (hT : TzAt w) :
    Calls Tryd.prog 12 #[.int .i64 n, .int .i64 ways] w fun e w' => e = .returned (.tuple #[.pointer none, .int .i64 1]) ∧ Fr No w w' := by
  by_cases h1 : n < 1
  · have d1 : decide (n < 1) = true := by rw [decide_eq_true_iff]; exact h1
    clear hb hT
    go_enter Tryd.func12, Tryd.ntmps12
    go_wp2_with fail
    go_ret2
    exact ⟨rfl, Fr.refl _ _⟩
  have d1 : decide (n < 1) = false := by rw [decide_eq_false_iff_not]; exact h1
  by_cases h2 : 64 < n
  · have d2 : decide (64 < n) = true := by rw [decide_eq_true_iff]; exact h2
    clear hb hT
    go_enter Tryd.func12, Tryd.ntmps12
    go_wp2_with fail
    go_ret2
    exact ⟨rfl, Fr.refl _ _⟩
  have d2 : decide (64 < n) = false := by rw [decide_eq_false_iff_not]; exact h2
  obtain ⟨m, rfl⟩ : ∃ m : Nat, n = (m : Int) := ⟨n.toNat, by omega⟩
  have HO := Lib.hid (Ones_c w m (by omega) hT)
  have e5 : IntKind.u64.wrap (m : Int) = (m : Int) := by rw [IntKind.wrap_u64]; omega
  obtain ⟨k, hk⟩ : ∃ k, k = (ones m).length := ⟨_, rfl⟩
  rw [← hk] at HO
  by_cases h3 : k = 1
  · have h4 : ways < 1 ∨ 8 < ways := by
      rcases Int.lt_or_le ways 1 with q | q
      · exact .inl q
      · rcases Int.lt_or_le 8 ways with q2 | q2
        · exact .inr q2
        · exact absurd ⟨by omega, by omega, by rw [Int.toNat_natCast, ← hk]; exact h3, q, q2⟩ hb
    subst h3
    clear hb hT hk
    rcases h4 with h4 | h4
    · have d3 : decide (ways < 1) = true := by rw [decide_eq_true_iff]; exact h4
      go_enter Tryd.func12, Tryd.ntmps12
      go_wp2_with (go_at_call 30
                   refine HO.out.mono ?_
                   rintro r wO ⟨v', rfl, hown, hfO⟩
                   obtain ⟨a, c, rfl, _, _⟩ := hown.slice
                   have HFO := Lib.hid hfO
                   clear hown hfO)
      go_ret2
      exact ⟨rfl, HFO.out⟩
    · have d3 : decide (ways < 1) = false := by rw [decide_eq_false_iff_not]; omega
      have d4 : decide (8 < ways) = true := by rw [decide_eq_true_iff]; exact h4
      go_enter Tryd.func12, Tryd.ntmps12
      go_wp2_with (go_at_call 30
                   refine HO.out.mono ?_
                   rintro r wO ⟨v', rfl, hown, hfO⟩
                   obtain ⟨a, c, rfl, _, _⟩ := hown.slice
                   have HFO := Lib.hid hfO
                   clear hown hfO)
      go_ret2
      exact ⟨rfl, HFO.out⟩
  · have h4 : ((k : Int) != 1) = true := by simp; omega
    clear hb hT hk
    go_enter Tryd.func12, Tryd.ntmps12
    go_wp2_with (go_at_call 30
                 refine HO.out.mono ?_
                 rintro r wO ⟨v', rfl, hown, hfO⟩
                 obtain ⟨a, c, rfl, _, _⟩ := hown.slice
                 have HFO := Lib.hid hfO
                 clear hown hfO)
    go_ret2
    exact ⟨rfl, HFO.out⟩
end Go.Proofs.YtpnabfekidpnoaaDoor

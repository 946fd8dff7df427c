/-
  New.
-/
import Derived.Test.YtpnabfekidpnoaaDoorTlb8
import Derived.Deep.OwnRows
namespace Go.Proofs.YtpnabfekidpnoaaDoor
open Go Go.RowKit

theorem infoS : (Tryd.prog.info? 22).map (fun i => (i.zero, i.size, decide (i.bytes ≤ 100))) = some (some (.slice none 0 0), 1, true) := by kernel_rfl
theorem infoS2 : ∃ i, Tryd.prog.info? 22 = some i ∧ i.zero = some (.slice none 0 0) ∧ i.size = 1 ∧ i.bytes ≤ 100 := by
  obtain ⟨i, hi, hz⟩ := Option.map_eq_some_iff.1 infoS
  injection hz with h1 h2
  injection h2 with h2 h3
  exact ⟨i, hi, h1, h2, of_decide_eq_true h3⟩
set_option maxRecDepth 100000 in
set_option maxHeartbeats 1000000 in
theorem new_c (w : World) (n ways : Nat) (hn : 1 ≤ n ∧ n ≤ 64) (ho : (ones n).length = 1) (hw : 1 ≤ ways ∧ ways ≤ 8) (hT : TzAt w) :
    Calls Tryd.prog 12 #[.int .i64 (n : Int), .int .i64 (ways : Int)] w fun e w' => ∃ b, e = .returned (.tuple #[.pointer (some ⟨b, 0, none⟩), .int .i64 0]) ∧ TAt w' b ways (List.replicate n []) (Plus No w w') ∧ Fr No w w' := by
  have HO := Ones_c w n (by omega) hT
  have HO := Lib.hid HO
  have HL := Lib.hid ho
  obtain ⟨i0, hi0, hz, hs, hb⟩ := infoS2
  have H0 := Lib.hid hi0
  have H1 := Lib.hid hz
  have H2 := Lib.hid hs
  have H3 := Lib.hid hb
  have e1 : ¬ (n < 1) := by omega
  have e2 : ¬ (64 < n) := by omega
  have e3 : ¬ (ways < 1) := by omega
  have e4 : ¬ (8 < ways) := by omega
  have d1 : decide ((n : Int) < 1) = false := by rw [decide_eq_false_iff_not]; omega
  have d2 : decide ((64 : Int) < (n : Int)) = false := by rw [decide_eq_false_iff_not]; omega
  have d3 : decide ((ways : Int) < 1) = false := by rw [decide_eq_false_iff_not]; omega
  have d4 : decide ((8 : Int) < (ways : Int)) = false := by rw [decide_eq_false_iff_not]; omega
  have hby : i0.bytes * n ≤ 100 * 64 := Nat.mul_le_mul hb hn.2
  have HBY := Lib.hid hby
  have e5 : IntKind.u64.wrap (n : Int) = (n : Int) := by rw [IntKind.wrap_u64]; omega
  clear hT ho hi0 hz hs hb hby
  go_enter Tryd.func12, Tryd.ntmps12
  go_wp2_with (first
    | (go_at_call 30
       refine HO.out.mono ?_
       rintro r wO ⟨v', rfl, hown, hfO⟩
       obtain ⟨a, c, rfl, _, _⟩ := hown.slice
       rw [HL.out]
       have HFO := Lib.hid hfO
       clear hown hfO)
    | (refine wpList_make_row _ rfl _ _ 62 rfl 22 i0 _ Tryd.underlying62 H0.out H1.out H2.out rfl .i64 .i64 n rfl rfl (by have := HBY.out; omega) (by omega) ?_))
  go_ret2
  obtain ⟨cells, hcells⟩ : ∃ cells, cells = madeCells #[Value.slice none 0 0] n := ⟨_, rfl⟩
  have hsz : cells.size = n := by rw [hcells]; exact size_madeCells _ _
  have hat : ∀ i, i < n → cells[i]? = some (.slice none 0 0) := fun i hi => by rw [hcells]; simp [madeCells, hi, Nat.mod_one]
  rw [← hcells]
  have hb0 : Blk (wO.alloc (.cells cells 22)) wO.heap.size 22 cells := Blk.new _ _ _
  have hb2 := hb0.alloc (.cells #[.int .i64 (ways : Int), .slice (some ⟨wO.heap.size, 0, none⟩) n n] 64)
  have hb1 := Blk.new (wO.alloc (.cells cells 22)) 64 #[.int .i64 (ways : Int), .slice (some ⟨wO.heap.size, 0, none⟩) n n]
  rw [World.size_alloc] at hb1
  refine ⟨wO.heap.size + 1, by simp, ⟨wO.heap.size, n, cells, fun _ _ => False, by rw [List.length_replicate]; exact hb1, hb2, hsz, Nat.le_of_eq List.length_replicate, by unfold maxLen; omega, fun i hi => ⟨_, hat i (by rw [List.length_replicate] at hi; exact hi), ?_⟩, by omega, ?_, ?_, fun _ _ h => h.elim, fun _ _ _ h => h.elim⟩, (HFO.out.alloc _).alloc _⟩
  · rw [List.getElem_replicate]
    exact Row.nil_ _ _
  · have := HFO.out.size
    exact .inr ⟨by omega, by simp⟩
  · have := HFO.out.size
    exact .inr ⟨by omega, by simp; omega⟩
theorem Ok.new (n ways : Nat) (hn : 1 ≤ n ∧ n ≤ 64) (hw : 1 ≤ ways ∧ ways ≤ 8) : TS.Ok ways (List.replicate n []) :=
  ⟨by rw [List.length_replicate]; omega, by rw [List.length_replicate]; exact hn.2, hw, fun l hl => by rw [List.eq_of_mem_replicate hl]; simp⟩
end Go.Proofs.YtpnabfekidpnoaaDoor

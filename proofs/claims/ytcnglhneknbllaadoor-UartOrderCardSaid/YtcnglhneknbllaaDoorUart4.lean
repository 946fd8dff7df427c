/-
  Contracts of package uart, the fourth part: New, Twin, Same, and what a nil one tells.
-/
import Derived.Test.YtcnglhneknbllaaDoorUart3
import Derived.Test.YtcnglhneknbllaaDoorEq
namespace Go.Proofs.YtcnglhneknbllaaDoor
open Go Go.RowKit

set_option maxRecDepth 100000 in
theorem New_c (w : World) :
    Calls Tryd.prog 15 #[] w fun e w' => e = .returned (.pointer (some ⟨w.heap.size, 0, none⟩)) ∧ UartAt w' w.heap.size US.new (Plus No w w') ∧ Fr No w w' := by
  go_enter Tryd.func15, Tryd.ntmps15
  go_wp2
  go_ret
  refine ⟨rfl, ⟨US.ok_new, .inr ⟨Nat.le_refl _, by simp⟩, fun k hk => ?_, .slice none 0 0, .slice none 0 0, No, No, Blk.new w _ _, Own.nil_ _ _ _ _, Own.nil_ _ _ _ _, fun k hk => hk.elim, fun k hk => hk.elim⟩, (Fr.refl _ _).alloc _⟩
  rcases hk with hk | hk
  · exact hk.elim
  · exact hk.2

set_option maxRecDepth 100000 in
set_option maxHeartbeats 1000000 in
theorem Twin_c (w : World) (b : Nat) (s : US) (F : Nat → Prop) (h : UartAt w b s F) :
    Calls Tryd.prog 23 #[.pointer (some ⟨b, 0, none⟩)] w fun e w' => ∃ b', e = .returned (.pointer (some ⟨b', 0, none⟩)) ∧ UartAt w' b' s (fun k => w.heap.size ≤ k ∧ k < w'.heap.size) ∧ Fr No w w' := by
  have HU := Lib.hid h
  have hlt := h.lt
  have hil := h.ok.ilen
  have hol := h.ok.olen
  obtain ⟨h1, h2, hBd, vi, vo, Fi, Fo, hb, hi, ho, hFi, hFo⟩ := h
  obtain ⟨ai, ci, rfl, hic, him⟩ := hi.slice
  obtain ⟨ao, co, rfl, hoc, hom⟩ := ho.slice
  have hN : Blk (w.alloc (.cells (ucells (.slice ai s.inn.length ci) (.slice ao s.out.length co) s) 82)) w.heap.size 82 (ucells (.slice ai s.inn.length ci) (.slice ao s.out.length co) s) := Blk.new w _ _
  have hA := (Fr.refl No w).alloc (.cells (ucells (.slice ai s.inn.length ci) (.slice ao s.out.length co) s) 82)
  have HI := Lib.hid (hi.fr hA (fun _ _ h => h)).rd
  have HO := Lib.hid (ho.fr hA (fun _ _ h => h))
  have HFO := Lib.hid (fun k (hk : Fo k) => hBd k (hFo k hk).1)
  have HB := Lib.hid (hb.fr hA (fun h => h))
  have HL := Lib.hid (And.intro hil hol)
  have HN := Lib.hid hN
  have HA := Lib.hid hA
  have hc := fun o => hb.cell o
  simp only [ucells] at hc
  clear him hom hil hol hFi hFo hi ho hb hBd hN hA
  go_enter Tryd.func23, Tryd.ntmps23
  go_wp2_with fail
  refine (Clone_c _ _ s.inn.length s.inn HI.out rfl (by have := HL.out; omega)).mono ?_
  rintro e w1 ⟨v1, rfl, ho1, hf1⟩
  obtain ⟨a1, c1, hv1, _, _⟩ := ho1.slice
  subst hv1
  have hsz1 := hf1.size
  rw [World.size_alloc] at hsz1
  have hN1 := HN.out.fr hf1 (fun h => h)
  have hcN := fun o => hN1.cell o
  have hfN := fun o => hN1.free o
  have hB1 := HB.out.fr hf1 (fun h => h)
  have hcB := fun o => hB1.cell o
  simp only [ucells] at hcN hcB
  have hne : b ≠ w.heap.size := by omega
  have hne' : w.heap.size ≠ b := by omega
  have HN1 := Lib.hid hN1
  have HB1 := Lib.hid hB1
  have HF1 := Lib.hid hf1
  have HO1 := Lib.hid ho1
  have HRD := Lib.hid ((HO.out.fr hf1 (fun _ _ h => h)).fr (Fr.put w1 w.heap.size 0 (.slice a1 s.inn.length c1)) (fun k hk hk' => by
    have := HFO.out k hk
    rw [show k = w.heap.size from hk'] at this
    omega)).rd
  clear hc hN1 hB1 hf1 ho1
  go_wp2_with fail
  refine (Clone_c _ _ s.out.length s.out HRD.out rfl (by have := HL.out; omega)).mono ?_
  rintro e w2 ⟨v2, rfl, ho2, hf2⟩
  obtain ⟨a2, c2, hv2, _, _⟩ := ho2.slice
  subst hv2
  have hsz2 := hf2.size
  rw [World.size_setCell] at hsz2
  have hN2 := (HN1.out.put 0 (.slice a1 s.inn.length c1)).fr hf2 (fun h => h)
  have hcN2 := fun o => hN2.cell o
  have hfN2 := fun o => hN2.free o
  simp only [ucells] at hcN2
  have HN2 := Lib.hid hN2
  have HF2 := Lib.hid hf2
  have HO2 := Lib.hid ho2
  clear hcN hfN hN2 hf2 ho2 hcB
  go_wp2_with fail
  go_ret
  have hbnd1 := HO1.out.cut
  have hbnd2 := HO2.out.cut
  rw [World.size_alloc] at hbnd1
  rw [World.size_setCell] at hbnd2
  refine ⟨w.heap.size, rfl, ⟨HU.out.ok, ⟨Nat.le_refl _, by rw [World.size_setCell]; omega⟩, fun k hk => hk.2, _, _, fun k => w.heap.size + 1 ≤ k ∧ k < w1.heap.size, fun k => w1.heap.size ≤ k ∧ k < w2.heap.size, HN2.out.put 1 _, ?_, ?_, ?_, ?_⟩, ?_⟩
  · refine ((((hbnd1.mono (G' := fun k => w.heap.size + 1 ≤ k ∧ k < w1.heap.size) (fun k hk => hk.1)).fr (Fr.put w1 w.heap.size 0 (.slice a1 s.inn.length c1)) ?_).fr HF2.out (fun _ _ h => h)).fr (Fr.put w2 w.heap.size 1 (.slice a2 s.out.length c2)) ?_)
    all_goals
      intro k hk hk'
      rw [show k = w.heap.size from hk'] at hk
      omega
  · refine ((hbnd2.mono (G' := fun k => w1.heap.size ≤ k ∧ k < w2.heap.size) (fun k hk => hk.1)).fr (Fr.put w2 w.heap.size 1 (.slice a2 s.out.length c2)) ?_)
    intro k hk hk'
    rw [show k = w.heap.size from hk'] at hk
    omega
  · intro k hk
    exact ⟨⟨by omega, by rw [World.size_setCell]; omega⟩, by omega, by omega⟩
  · intro k hk
    exact ⟨⟨by omega, by rw [World.size_setCell]; omega⟩, by omega⟩
  · have q1 := HA.out.trans HF1.out
    have q2 := q1.andThen (Fr.put w1 w.heap.size 0 (.slice a1 s.inn.length c1)) (fun k hk hk' => by rw [show k = w.heap.size from hk'] at hk; omega)
    have q3 := q2.trans HF2.out
    exact q3.andThen (Fr.put w2 w.heap.size 1 (.slice a2 s.out.length c2)) (fun k hk hk' => by rw [show k = w.heap.size from hk'] at hk; omega)

/-! A line that is none. -/
theorem Read_nil (w : World) (off n : Int) :
    Calls Tryd.prog 18 #[.pointer none, .int .u64 off, .int .i64 n] w fun e w' => e = .returned (.tuple #[.int .u64 0, .bool false]) ∧ w = w' := by
  go_enter Tryd.func18, Tryd.ntmps18
  go_wp2_with fail
  go_ret2
  exact ⟨rfl, rfl⟩
theorem Write_nil (w : World) (off n v : Int) :
    Calls Tryd.prog 16 #[.pointer none, .int .u64 off, .int .i64 n, .int .u64 v] w fun e w' => e = .returned (.bool false) ∧ w = w' := by
  go_enter Tryd.func16, Tryd.ntmps16
  go_wp2_with fail
  go_ret
  exact ⟨rfl, rfl⟩
theorem Feed_nil (w : World) (x : Int) :
    Calls Tryd.prog 19 #[.pointer none, .int .u8 x] w fun e w' => e = .returned (.bool false) ∧ w = w' := by
  go_enter Tryd.func19, Tryd.ntmps19
  go_wp2_with fail
  go_ret
  exact ⟨rfl, rfl⟩
theorem Waiting_nil (w : World) :
    Calls Tryd.prog 20 #[.pointer none] w fun e w' => e = .returned (.int .i64 0) ∧ w = w' := by
  go_enter Tryd.func20, Tryd.ntmps20
  go_wp2_with fail
  go_ret
  exact ⟨rfl, rfl⟩
theorem Out_nil (w : World) :
    Calls Tryd.prog 17 #[.pointer none] w fun e w' => e = .returned (.slice none 0 0) ∧ w = w' := by
  go_enter Tryd.func17, Tryd.ntmps17
  go_wp2_with fail
  go_ret
  exact ⟨rfl, rfl⟩
theorem Twin_nil (w : World) :
    Calls Tryd.prog 23 #[.pointer none] w fun e w' => e = .returned (.pointer none) ∧ w = w' := by
  go_enter Tryd.func23, Tryd.ntmps23
  go_wp2_with fail
  go_ret
  exact ⟨rfl, rfl⟩
theorem run_eql_nil_ptr {P : Program} (w : World) {tp te : TypeId} (hp : P.underlying tp = some (.pointer te)) (a : Addr) : (binOp .eql tp (.pointer none) (.pointer (some a))).run P w = .ok (.bool false) w := by
  have h : ∀ d : Nat, (Op.equalIn (d + 1) tp (.pointer none) (.pointer (some a))).run P w = .ok false w := fun d => by
    simp [Op.equalIn, run_underlying hp]
  simp only [binOp]
  simp [Op.equal, Op.maxDepth, h 9999]
set_option maxRecDepth 100000 in
theorem Same_nil_left (w : World) (b : Option Addr) :
    Calls Tryd.prog 34 #[.pointer none, .pointer b] w fun e w' => e = .returned (.bool b.isNone) ∧ w = w' := by
  have hq := fun (a : Addr) (w : World) => run_eql_nil_ptr (P := Tryd.prog) w Tryd.underlying23 a
  cases b
  all_goals
    go_enter Tryd.func34, Tryd.ntmps34
    go_wp2_with fail
    go_ret
    exact ⟨rfl, rfl⟩
set_option maxRecDepth 100000 in
theorem Same_nil_right (w : World) (a : Addr) :
    Calls Tryd.prog 34 #[.pointer (some a), .pointer none] w fun e w' => e = .returned (.bool false) ∧ w = w' := by
  go_enter Tryd.func34, Tryd.ntmps34
  go_wp2_with fail
  go_ret
  exact ⟨rfl, rfl⟩
end Go.Proofs.YtcnglhneknbllaaDoor

/-
  Contracts of package uart, the fourth part: New, Twin, Same, and what a nil one tells.
-/
import Derived.Test.YtcnglhneknbllaaDoorUart3
import Derived.Test.YtcnglhneknbllaaDoorEq
namespace Go.Proofs.YtcnglhneknbllaaDoor
open Go Go.RowKit

set_option maxRecDepth 100000 in
theorem New_c (w : World) :
    Calls Tryd.prog 15 #[] w fun e w' => e = .returned (.pointer (some ⟨w.heap.size, 0, none⟩)) ∧ UartAt w' w.heap.size US.new (Plus No w w') ∧ Fr No w w' := by
  go_enter Tryd.func15, Tryd.ntmps15
  go_wp2
  go_ret
  refine ⟨rfl, ⟨US.ok_new, .inr ⟨Nat.le_refl _, by simp⟩, fun k hk => ?_, .slice none 0 0, .slice none 0 0, No, No, Blk.new w _ _, Own.nil_ _ _ _ _, Own.nil_ _ _ _ _, fun k hk => hk.elim, fun k hk => hk.elim⟩, (Fr.refl _ _).alloc _⟩
  rcases hk with hk | hk
  · exact hk.elim
  · exact hk.2

set_option maxRecDepth 100000 in
set_option maxHeartbeats 1000000 in
theorem Twin_c (w : World) (b : Nat) (s : US) (F : Nat → Prop) (h : UartAt w b s F) :
    Calls Tryd.prog 23 #[.pointer (some ⟨b, 0, none⟩)] w fun e w' => ∃ b', e = .returned (.pointer (some ⟨b', 0, none⟩)) ∧ UartAt w' b' s (fun k => w.heap.size ≤ k ∧ k < w'.heap.size) ∧ Fr No w w' := by
  have HU := Lib.hid h
  have hlt := h.lt
  have hil := h.ok.ilen
  have hol := h.ok.olen
  obtain ⟨h1, h2, hBd, vi, vo, Fi, Fo, hb, hi, ho, hFi, hFo⟩ := h
  obtain ⟨ai, ci, rfl, hic, him⟩ := hi.slice
  obtain ⟨ao, co, rfl, hoc, hom⟩ := ho.slice
  have hN : Blk (w.alloc (.cells (ucells (.slice ai s.inn.length ci) (.slice ao s.out.length co) s) 82)) w.heap.size 82 (ucells (.slice ai s.inn.length ci) (.slice ao s.out.length co) s) := Blk.new w _ _
  have hA := (Fr.refl No w).alloc (.cells (ucells (.slice ai s.inn.length ci) (.slice ao s.out.length co) s) 82)
  have HI := Lib.hid (hi.fr hA (fun _ _ h => h)).rd
  have HO := Lib.hid (ho.fr hA (fun _ _ h => h))
  have HFO := Lib.hid (fun k (hk : Fo k) => hBd k (hFo k hk).1)
  have HB := Lib.hid (hb.fr hA (fun h => h))
  have HL := Lib.hid (And.intro hil hol)
  have HN := Lib.hid hN
  have HA := Lib.hid hA
  have hc := fun o => hb.cell o
  simp only [ucells] at hc
  clear him hom hil hol hFi hFo hi ho hb hBd hN hA
  go_enter Tryd.func23, Tryd.ntmps23
  go_wp2_with fail
  refine (Clone_c _ _ s.inn.length s.inn HI.out rfl (by have := HL.out; omega)).mono ?_
  rintro e w1 ⟨v1, rfl, ho1, hf1⟩
  obtain ⟨a1, c1, hv1, _, _⟩ := ho1.slice
  subst hv1
  have hsz1 := hf1.size
  rw [World.size_alloc] at hsz1
  have hN1 := HN.out.fr hf1 (fun h => h)
  have hcN := fun o => hN1.cell o
  have hfN := fun o => hN1.free o
  have hB1 := HB.out.fr hf1 (fun h => h)
  have hcB := fun o => hB1.cell o
  simp only [ucells] at hcN hcB
  have hne : b ≠ w.heap.size := by omega
  have hne' : w.heap.size ≠ b := by omega
  have HN1 := Lib.hid hN1
  have HB1 := Lib.hid hB1
  have HF1 := Lib.hid hf1
  have HO1 := Lib.hid ho1
  have HRD := Lib.hid ((HO.out.fr hf1 (fun _ _ h => h)).fr (Fr.put w1 w.heap.size 0 (.slice a1 s.inn.length c1)) (fun k hk hk' => by
    have := HFO.out k hk
    rw [show k = w.heap.size from hk'] at this
    omega)).rd
  clear hc hN1 hB1 hf1 ho1
  go_wp2_with fail
  refine (Clone_c _ _ s.out.length s.out HRD.out rfl (by have := HL.out; omega)).mono ?_
  rintro e w2 ⟨v2, rfl, ho2, hf2⟩
  obtain ⟨a2, c2, hv2, _, _⟩ := ho2.slice
  subst hv2
  have hsz2 := hf2.size
  rw [World.size_setCell] at hsz2
  have hN2 := (HN1.out.put 0 (.slice a1 s.inn.length c1)).fr hf2 (fun h => h)
  have hcN2 := fun o => hN2.cell o
  have hfN2 := fun o => hN2.free o
  simp only [ucells] at hcN2
  have HN2 := Lib.hid hN2
  have HF2 := Lib.hid hf2
  have HO2 := Lib.hid ho2
  clear hcN hfN hN2 hf2 ho2 hcB
  go_wp2_with fail
  go_ret
  have hbnd1 := HO1.out.cut
  have hbnd2 := HO2.out.cut
  rw [World.size_alloc] at hbnd1
  rw [World.size_setCell] at hbnd2
  refine ⟨w.heap.size, rfl, ⟨HU.out.ok, ⟨Nat.le_refl _, by rw [World.size_setCell]; omega⟩, fun k hk => hk.2, _, _, fun k => w.heap.size + 1 ≤ k ∧ k < w1.heap.size, fun k => w1.heap.size ≤ k ∧ k < w2.heap.size, HN2.out.put 1 _, ?_, ?_, ?_, ?_⟩, ?_⟩
  · refine ((((hbnd1.mono (G' := fun k => w.heap.size + 1 ≤ k ∧ k < w1.heap.size) (fun k hk => hk.1)).fr (Fr.put w1 w.heap.size 0 (.slice a1 s.inn.length c1)) ?_).fr HF2.out (fun _ _ h => h)).fr (Fr.put w2 w.heap.size 1 (.slice a2 s.out.length c2)) ?_)
    all_goals
      intro k hk hk'
      rw [show k = w.heap.size from hk'] at hk
      omega
  · refine ((hbnd2.mono (G' := fun k => w1.heap.size ≤ k ∧ k < w2.heap.size) (fun k hk => hk.1)).fr (Fr.put w2 w.heap.size 1 (.slice a2 s.out.length c2)) ?_)
    intro k hk hk'
    rw [show k = w.heap.size from hk'] at hk
    omega
  · intro k hk
    exact ⟨⟨by omega, by rw [World.size_setCell]; omega⟩, by omega, by omega⟩
  · intro k hk
    exact ⟨⟨by omega, by rw [World.size_setCell]; omega⟩, by omega⟩
  · have q1 := HA.out.trans HF1.out
    have q2 := q1.andThen (Fr.put w1 w.heap.size 0 (.slice a1 s.inn.length c1)) (fun k hk hk' => by rw [show k = w.heap.size from hk'] at hk; omega)
    have q3 := q2.trans HF2.out
    exact q3.andThen (Fr.put w2 w.heap.size 1 (.slice a2 s.out.length c2)) (fun k hk hk' => by rw [show k = w.heap.size from hk'] at hk; omega)

/-! A line that is none. -/
theorem Read_nil (w : World) (off n : Int) :
    Calls Tryd.prog 18 #[.pointer none, .int .u64 off, .int .i64 n] w fun e w' => e = .returned (.tuple #[.int .u64 0, .bool false]) ∧ w = w' := by
  go_enter Tryd.func18, Tryd.ntmps18
  go_wp2_with fail
  go_ret2
  exact ⟨rfl, rfl⟩
theorem Write_nil (w : World) (off n v : Int) :
    Calls Tryd.prog 16 #[.pointer none, .int .u64 off, .int .i64 n, .int .u64 v] w fun e w' => e = .returned (.bool false) ∧ w = w' := by
  go_enter Tryd.func16, Tryd.ntmps16
  go_wp2_with fail
  go_ret
  exact ⟨rfl, rfl⟩
theorem Feed_nil (w : World) (x : Int) :
    Calls Tryd.prog 19 #[.pointer none, .int .u8 x] w fun e w' => e = .returned (.bool false) ∧ w = w' := by
  go_enter Tryd.func19, Tryd.ntmps19
  go_wp2_with fail
  go_ret
  exact ⟨rfl, rfl⟩
theorem Waiting_nil (w : World) :
    Calls Tryd.prog 20 #[.pointer none] w fun e w' => e = .returned (.int .i64 0) ∧ w = w' := by
  go_enter Tryd.func20, Tryd.ntmps20
  go_wp2_with fail
  go_ret
  exact ⟨rfl, rfl⟩
theorem Out_nil (w : World) :
    Calls Tryd.prog 17 #[.pointer none] w fun e w' => e = .returned (.slice none 0 0) ∧ w = w' := by
  go_enter Tryd.func17, Tryd.ntmps17
  go_wp2_with fail
  go_ret
  exact ⟨rfl, rfl⟩
theorem Twin_nil (w : World) :
    Calls Tryd.prog 23 #[.pointer none] w fun e w' => e = .returned (.pointer none) ∧ w = w' := by
  go_enter Tryd.func23, Tryd.ntmps23
  go_wp2_with fail
  go_ret
  exact ⟨rfl, rfl⟩
theorem run_eql_nil_ptr {P : Program} (w : World) {tp te : TypeId} (hp : P.underlying tp = some (.pointer te)) (a : Addr) : (binOp .eql tp (.pointer none) (.pointer (some a))).run P w = .ok (.bool false) w := by
  have h : ∀ d : Nat, (Op.equalIn (d + 1) tp (.pointer none) (.pointer (some a))).run P w = .ok false w := fun d => by
    simp [Op.equalIn, run_underlying hp]
  simp only [binOp]
  simp [Op.equal, Op.maxDepth, h 9999]
set_option maxRecDepth 100000 in
theorem Same_nil_left (w : World) (b : Option Addr) :
    Calls Tryd.prog 34 #[.pointer none, .pointer b] w fun e w' => e = .returned (.bool b.isNone) ∧ w = w' := by
  have hq := fun (a : Addr) (w : World) => run_eql_nil_ptr (P := Tryd.prog) w Tryd.underlying23 a
  cases b
  all_goals
    go_enter Tryd.func34, Tryd.ntmps34
    go_wp2_with fail
    go_ret
    exact ⟨rfl, rfl⟩
set_option maxRecDepth 100000 in
theorem Same_nil_right (w : World) (a : Addr) :
    Calls Tryd.prog 34 #[.pointer (some a), .pointer none] w fun e w' => e = .returned (.bool false) ∧ w = w' := by
  go_enter Tryd.func34, Tryd.ntmps34
  go_wp2_with fail
  go_ret
  exact ⟨rfl, rfl⟩


/-- The registers as they lie. -/
def US.regs (s : US) : List Value := [u8v 0, u8v s.ier, u8v s.fcr, u8v s.lcr, u8v s.mcr, u8v 0, u8v 0, u8v s.scr, u8v s.dl, u8v s.dm]
theorem US.same_iff (s r : US) : decide (s = r) = (decide (s.inn = r.inn) && (decide (s.out = r.out) && (cellsEq s.regs r.regs && ((s.lost == r.lost) && (s.sent == r.sent))))) := by
  rw [Bool.eq_iff_iff]
  obtain ⟨a1, a2, a3, a4, a5, a6, a7, a8, a9, a10, a11⟩ := s
  obtain ⟨b1, b2, b3, b4, b5, b6, b7, b8, b9, b10, b11⟩ := r
  have h : ∀ a b : Nat, ((a : Int) == b) = decide (a = b) := fun a b => by rw [Bool.eq_iff_iff]; simp; omega
  simp only [US.regs, cellsEq, cellEq, h, US.mk.injEq, decide_eq_true_eq, Bool.and_eq_true, beq_iff_eq, and_true, beq_self_eq_true, true_and]
  constructor
  · rintro ⟨h1, h2, h3, h4, h5, h6, h7, h8, h9, h10, h11⟩
    exact ⟨h1, h2, ⟨h3, h4, h5, h6, h7, h8, h9⟩, h10, h11⟩
  · rintro ⟨h1, h2, ⟨h3, h4, h5, h6, h7, h8, h9⟩, h10, h11⟩
    exact ⟨h1, h2, h3, h4, h5, h6, h7, h8, h9, h10, h11⟩
theorem regs_eql (w : World) (s r : US) : (binOp .eql 80 (.agg s.regs.toArray) (.agg r.regs.toArray)).run Tryd.prog w = .ok (.bool (cellsEq s.regs r.regs)) w :=
  (run_eql_plain (P := Tryd.prog) w 2 80 s.regs r.regs (by omega) (by kernel_rfl) (by rw [show kindsOf Tryd.prog 2 80 = List.replicate 10 (some .u8) from by kernel_rfl]; simp [US.regs, Fits, List.replicate]) (by rw [show kindsOf Tryd.prog 2 80 = List.replicate 10 (some .u8) from by kernel_rfl]; simp [US.regs, Fits, List.replicate]) ⟨#[], .inr ⟨10, 5, Tryd.underlying80⟩⟩).1

set_option maxRecDepth 100000 in
set_option maxHeartbeats 8000000 in
theorem Same_c (w : World) (a b : Nat) (s r : US) (F G : Nat → Prop) (h : UartAt w a s F) (h' : UartAt w b r G) :
    Calls Tryd.prog 34 #[.pointer (some ⟨a, 0, none⟩), .pointer (some ⟨b, 0, none⟩)] w fun e w' => e = .returned (.bool (decide (s = r))) ∧ ∃ n, w' = w.drewN n := by
  obtain ⟨g1, g2, hBd, vi, vo, Fi, Fo, hb, hi, ho, hFi, hFo⟩ := h
  obtain ⟨g1', g2', hBd', vi', vo', Fi', Fo', hb', hi', ho', hFi', hFo'⟩ := h'
  have e1 := fun n => Equal_c (w.drewN n) vi vi' _ _ _ _ (hi.rd.drewN n) (hi'.rd.drewN n) rfl rfl g1.inn g1'.inn
  have e2 := fun n => Equal_c (w.drewN n) vo vo' _ _ _ _ (ho.rd.drewN n) (ho'.rd.drewN n) rfl rfl g1.out g1'.out
  have hc := fun o => hb.cell o
  have hc' := fun o => hb'.cell o
  have hq := fun w => regs_eql w s r
  simp only [ucells] at hc hc'
  simp only [US.regs] at hq
  have hs := s.same_iff r
  simp only [US.regs] at hs
  clear hi ho hi' ho' hBd hBd' hFi hFo hFi' hFo' hb hb' g1 g1' g2 g2'
  have h1 : ∀ x : Bool, x = true ∨ x = false := fun x => by cases x <;> simp
  rcases h1 (decide (s.inn = r.inn)) with c1 | c1
  · rcases h1 (decide (s.out = r.out)) with c2 | c2
    · generalize cellsEq _ _ = c3 at hq hs
      cases c3
      · rw [c1, c2] at hs
        rw [c1] at e1
        rw [c2] at e2
        have HS := Lib.hid hs
        have HE1 := Lib.hid (fun n => quiet_eq (n := n) (e1 n))
        have HE2 := Lib.hid (fun n => quiet_eq (n := n) (e2 n))
        clear e1 e2 h1 hs c1 c2
        go_enter Tryd.func34, Tryd.ntmps34
        go_wp2_with fail
        go_quiet ((go_at_call 60; first | exact HE1.out _ | exact HE2.out _))
        go_wp2_with fail
        go_ret
        exact ⟨by rw [HS.out]; simp, _, rfl⟩
      · rcases h1 (s.lost == r.lost) with c4 | c4
        · rw [c1, c2, c4] at hs
          rw [c1] at e1
          rw [c2] at e2
          have HS := Lib.hid hs
          have HE1 := Lib.hid (fun n => quiet_eq (n := n) (e1 n))
          have HE2 := Lib.hid (fun n => quiet_eq (n := n) (e2 n))
          clear e1 e2 h1 hs c1 c2
          go_enter Tryd.func34, Tryd.ntmps34
          go_wp2_with fail
          go_quiet ((go_at_call 60; first | exact HE1.out _ | exact HE2.out _))
          go_wp2_with fail
          go_ret
          exact ⟨by rw [HS.out]; simp, _, rfl⟩
        · rw [c1, c2, c4] at hs
          rw [c1] at e1
          rw [c2] at e2
          have HS := Lib.hid hs
          have HE1 := Lib.hid (fun n => quiet_eq (n := n) (e1 n))
          have HE2 := Lib.hid (fun n => quiet_eq (n := n) (e2 n))
          clear e1 e2 h1 hs c1 c2
          go_enter Tryd.func34, Tryd.ntmps34
          go_wp2_with fail
          go_quiet ((go_at_call 60; first | exact HE1.out _ | exact HE2.out _))
          go_wp2_with fail
          go_ret
          exact ⟨by rw [HS.out]; simp, _, rfl⟩
    · rw [c1, c2] at hs
      rw [c1] at e1
      rw [c2] at e2
      have HS := Lib.hid hs
      have HE1 := Lib.hid (fun n => quiet_eq (n := n) (e1 n))
      have HE2 := Lib.hid (fun n => quiet_eq (n := n) (e2 n))
      clear e1 e2 h1 hs c1 c2 hq
      go_enter Tryd.func34, Tryd.ntmps34
      go_wp2_with fail
      go_quiet ((go_at_call 60; first | exact HE1.out _ | exact HE2.out _))
      go_wp2_with fail
      go_ret
      exact ⟨by rw [HS.out]; simp, _, rfl⟩
  · rw [c1] at hs
    rw [c1] at e1
    have HS := Lib.hid hs
    have HE1 := Lib.hid (fun n => quiet_eq (n := n) (e1 n))
    clear e1 e2 h1 hs c1 hq
    go_enter Tryd.func34, Tryd.ntmps34
    go_wp2_with fail
    go_quiet ((go_at_call 60; exact HE1.out _))
    go_wp2_with fail
    go_ret
    exact ⟨by rw [HS.out]; simp, _, rfl⟩
end Go.Proofs.YtcnglhneknbllaaDoor

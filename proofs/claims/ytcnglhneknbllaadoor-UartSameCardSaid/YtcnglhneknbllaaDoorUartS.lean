/-
  The contract of Same (package uart).
-/
import Derived.Test.YtcnglhneknbllaaDoorUart4
namespace Go.Proofs.YtcnglhneknbllaaDoor
open Go Go.RowKit

/-- The registers as they lie. -/
def US.regs (s : US) : List Value := [u8v 0, u8v s.ier, u8v s.fcr, u8v s.lcr, u8v s.mcr, u8v 0, u8v 0, u8v s.scr, u8v s.dl, u8v s.dm]
theorem US.same_iff (s r : US) : decide (s = r) = (decide (s.inn = r.inn) && (decide (s.out = r.out) && (cellsEq s.regs r.regs && ((s.lost == r.lost) && (s.sent == r.sent))))) := by
  rw [Bool.eq_iff_iff]
  obtain ⟨a1, a2, a3, a4, a5, a6, a7, a8, a9, a10, a11⟩ := s
  obtain ⟨b1, b2, b3, b4, b5, b6, b7, b8, b9, b10, b11⟩ := r
  have h : ∀ a b : Nat, ((a : Int) == b) = decide (a = b) := fun a b => by rw [Bool.eq_iff_iff]; simp; omega
  simp only [US.regs, cellsEq, cellEq, h, US.mk.injEq, decide_eq_true_eq, Bool.and_eq_true, beq_iff_eq, and_true, true_and]
  constructor
  · rintro ⟨h1, h2, h3, h4, h5, h6, h7, h8, h9, h10, h11⟩
    exact ⟨h1, h2, ⟨h3, h4, h5, h6, h7, h8, h9⟩, h10, h11⟩
  · rintro ⟨h1, h2, ⟨h3, h4, h5, h6, h7, h8, h9⟩, h10, h11⟩
    exact ⟨h1, h2, h3, h4, h5, h6, h7, h8, h9, h10, h11⟩
theorem regs_eql (w : World) (s r : US) : (binOp .eql 80 (.agg s.regs.toArray) (.agg r.regs.toArray)).run Tryd.prog w = .ok (.bool (cellsEq s.regs r.regs)) w :=
  (run_eql_plain (P := Tryd.prog) w 2 80 s.regs r.regs (by omega) (by kernel_rfl) (by rw [show kindsOf Tryd.prog 2 80 = List.replicate 10 (some .u8) from by kernel_rfl]; simp [US.regs, Fits, List.replicate]) (by rw [show kindsOf Tryd.prog 2 80 = List.replicate 10 (some .u8) from by kernel_rfl]; simp [US.regs, Fits, List.replicate]) ⟨#[], .inr ⟨10, 5, Tryd.underlying80⟩⟩).1

set_option maxRecDepth 100000 in
set_option maxHeartbeats 8000000 in
theorem Same_c (w : World) (a b : Nat) (s r : US) (F G : Nat → Prop) (h : UartAt w a s F) (h' : UartAt w b r G) :
    Calls Tryd.prog 34 #[.pointer (some ⟨a, 0, none⟩), .pointer (some ⟨b, 0, none⟩)] w fun e w' => e = .returned (.bool (decide (s = r))) ∧ ∃ n, w' = w.drewN n := by
  obtain ⟨g1, g2, hBd, vi, vo, Fi, Fo, hb, hi, ho, hFi, hFo⟩ := h
  obtain ⟨g1', g2', hBd', vi', vo', Fi', Fo', hb', hi', ho', hFi', hFo'⟩ := h'
  have e1 := fun n => Equal_c (w.drewN n) vi vi' _ _ _ _ (hi.rd.drewN n) (hi'.rd.drewN n) rfl rfl g1.inn g1'.inn
  have e2 := fun n => Equal_c (w.drewN n) vo vo' _ _ _ _ (ho.rd.drewN n) (ho'.rd.drewN n) rfl rfl g1.out g1'.out
  have hc := fun o => hb.cell o
  have hc' := fun o => hb'.cell o
  have hq := fun w => regs_eql w s r
  simp only [ucells] at hc hc'
  simp only [US.regs] at hq
  have hs := s.same_iff r
  simp only [US.regs] at hs
  clear hi ho hi' ho' hBd hBd' hFi hFo hFi' hFo' hb hb' g1 g1' g2 g2'
  have h1 : ∀ x : Bool, x = true ∨ x = false := fun x => by cases x <;> simp
  rcases h1 (decide (s.inn = r.inn)) with c1 | c1
  · rcases h1 (decide (s.out = r.out)) with c2 | c2
    · generalize cellsEq _ _ = c3 at hq hs
      cases c3
      · rw [c1, c2] at hs
        rw [c1] at e1
        rw [c2] at e2
        have HS := Lib.hid hs
        have HE1 := Lib.hid (fun n => quiet_eq (n := n) (e1 n))
        have HE2 := Lib.hid (fun n => quiet_eq (n := n) (e2 n))
        clear e1 e2 h1 hs c1 c2
        go_enter Tryd.func34, Tryd.ntmps34
        go_wp2_with fail
        go_quiet ((go_at_call 60; first | exact HE1.out _ | exact HE2.out _))
        go_wp2_with fail
        go_ret
        exact ⟨by rw [HS.out]; simp, _, rfl⟩
      · rcases h1 (s.lost == r.lost) with c4 | c4
        · rw [c1, c2, c4] at hs
          rw [c1] at e1
          rw [c2] at e2
          have HS := Lib.hid hs
          have HE1 := Lib.hid (fun n => quiet_eq (n := n) (e1 n))
          have HE2 := Lib.hid (fun n => quiet_eq (n := n) (e2 n))
          clear e1 e2 h1 hs c1 c2
          go_enter Tryd.func34, Tryd.ntmps34
          go_wp2_with fail
          go_quiet ((go_at_call 60; first | exact HE1.out _ | exact HE2.out _))
          go_wp2_with fail
          go_ret
          exact ⟨by rw [HS.out]; simp, _, rfl⟩
        · rw [c1, c2, c4] at hs
          rw [c1] at e1
          rw [c2] at e2
          have HS := Lib.hid hs
          have HE1 := Lib.hid (fun n => quiet_eq (n := n) (e1 n))
          have HE2 := Lib.hid (fun n => quiet_eq (n := n) (e2 n))
          clear e1 e2 h1 hs c1 c2
          go_enter Tryd.func34, Tryd.ntmps34
          go_wp2_with fail
          go_quiet ((go_at_call 60; first | exact HE1.out _ | exact HE2.out _))
          go_wp2_with fail
          go_ret
          exact ⟨by rw [HS.out]; simp, _, rfl⟩
    · rw [c1, c2] at hs
      rw [c1] at e1
      rw [c2] at e2
      have HS := Lib.hid hs
      have HE1 := Lib.hid (fun n => quiet_eq (n := n) (e1 n))
      have HE2 := Lib.hid (fun n => quiet_eq (n := n) (e2 n))
      clear e1 e2 h1 hs c1 c2 hq
      go_enter Tryd.func34, Tryd.ntmps34
      go_wp2_with fail
      go_quiet ((go_at_call 60; first | exact HE1.out _ | exact HE2.out _))
      go_wp2_with fail
      go_ret
      exact ⟨by rw [HS.out]; simp, _, rfl⟩
  · rw [c1] at hs
    rw [c1] at e1
    have HS := Lib.hid hs
    have HE1 := Lib.hid (fun n => quiet_eq (n := n) (e1 n))
    clear e1 e2 h1 hs c1 hq
    go_enter Tryd.func34, Tryd.ntmps34
    go_wp2_with fail
    go_quiet ((go_at_call 60; exact HE1.out _))
    go_wp2_with fail
    go_ret
    exact ⟨by rw [HS.out]; simp, _, rfl⟩
end Go.Proofs.YtcnglhneknbllaaDoor

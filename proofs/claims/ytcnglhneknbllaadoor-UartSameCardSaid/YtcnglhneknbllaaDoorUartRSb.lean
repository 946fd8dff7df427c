/-
  The document's Same (package mezzanineref06): the way through its registers.
-/
import Derived.Test.YtcnglhneknbllaaDoorUartP
namespace Go.Proofs.YtcnglhneknbllaaDoor
open Go Go.RowKit


set_option maxRecDepth 100000 in
set_option maxHeartbeats 16000000 in
theorem RSame_regs (w : World) (a b : Nat) (s r : US) (F G : Nat → Prop) (h : RefAt w a s F) (h' : RefAt w b r G) (c1 : ((txt s.inn).toList == (txt r.inn).toList) = true) (c2 : ((txt s.out).toList == (txt r.out).toList) = true) (c3 : (s.lost == r.lost) = true) (c4 : (s.sent == r.sent) = true) (b5 b6 b7 b8 b9 b10 b11 : Bool) (e5 : ((s.ier : Int) == (r.ier : Int)) = b5) (e6 : ((s.fcr : Int) == (r.fcr : Int)) = b6) (e7 : ((s.lcr : Int) == (r.lcr : Int)) = b7) (e8 : ((s.mcr : Int) == (r.mcr : Int)) = b8) (e9 : ((s.scr : Int) == (r.scr : Int)) = b9) (e10 : ((s.dl : Int) == (r.dl : Int)) = b10) (e11 : ((s.dm : Int) == (r.dm : Int)) = b11) :
    Calls Tryd.prog 35 #[.pointer (some ⟨a, 0, none⟩), .pointer (some ⟨b, 0, none⟩)] w fun e w' => e = .returned (.bool (b5 && (b6 && (b7 && (b8 && (b9 && (b10 && b11))))))) ∧ ∃ n, w' = w.drewN n := by
  obtain ⟨g1, g2, hBd, vi, vo, Fi, Fo, hb, hi, ho, hFi, hFo⟩ := h
  obtain ⟨g1', g2', hBd', vi', vo', Fi', Fo', hb', hi', ho', hFi', hFo'⟩ := h'
  obtain ⟨ai, ci, rfl, _, _⟩ := hi.slice
  obtain ⟨ao, co, rfl, _, _⟩ := ho.slice
  obtain ⟨ai', ci', rfl, _, _⟩ := hi'.slice
  obtain ⟨ao', co', rfl, _, _⟩ := ho'.slice
  have t1 := fun n => (hi.rd.drewN n).text (P := Tryd.prog) rfl 27 5 9 Tryd.underlying27 Tryd.underlying5 Tryd.underlying9
  have t3 := fun n => (hi'.rd.drewN n).text (P := Tryd.prog) rfl 27 5 9 Tryd.underlying27 Tryd.underlying5 Tryd.underlying9
  have t2 := fun n => (ho.rd.drewN n).text (P := Tryd.prog) rfl 27 5 9 Tryd.underlying27 Tryd.underlying5 Tryd.underlying9
  have t4 := fun n => (ho'.rd.drewN n).text (P := Tryd.prog) rfl 27 5 9 Tryd.underlying27 Tryd.underlying5 Tryd.underlying9
  have nc3 : (s.lost != r.lost) = false := by rw [bne, c3]; rfl
  have nc4 : (s.sent != r.sent) = false := by rw [bne, c4]; rfl
  have hc := fun o => hb.cell o
  have hc' := fun o => hb'.cell o
  simp only [rcells] at hc hc'
  clear hi ho hi' ho' hBd hBd' hFi hFo hFi' hFo' hb hb' g1 g1' g2 g2'
  go_enter Tryd.func35, Tryd.ntmps35
  go_wp2_with fail
  go_quiet (fail)
  clear t1 t2 t3 t4 c1 c2 c3 c4 nc3 nc4
  go_wp2_with fail
  simp only [List.append]
  refine wp_region_quiet_lit (by kernel_rfl) (by kernel_rfl) ?_
  repeat (go_big_quiet_step (fail))
  cases b5
  case false =>
    repeat (go_big_quiet_step (fail))
    refine wpQuiet_nil ?_
    intro _ hw'
    obtain ⟨nq, hw''⟩ := hw'
    subst hw''
    go_wp2_with fail
    go_ret
    exact ⟨rfl, _, World.drewN_drewN _ _ _⟩
  repeat (go_big_quiet_step (fail))
  cases b6
  case false =>
    repeat (go_big_quiet_step (fail))
    refine wpQuiet_nil ?_
    intro _ hw'
    obtain ⟨nq, hw''⟩ := hw'
    subst hw''
    go_wp2_with fail
    go_ret
    exact ⟨rfl, _, World.drewN_drewN _ _ _⟩
  repeat (go_big_quiet_step (fail))
  cases b7
  case false =>
    repeat (go_big_quiet_step (fail))
    refine wpQuiet_nil ?_
    intro _ hw'
    obtain ⟨nq, hw''⟩ := hw'
    subst hw''
    go_wp2_with fail
    go_ret
    exact ⟨rfl, _, World.drewN_drewN _ _ _⟩
  repeat (go_big_quiet_step (fail))
  cases b8
  case false =>
    repeat (go_big_quiet_step (fail))
    refine wpQuiet_nil ?_
    intro _ hw'
    obtain ⟨nq, hw''⟩ := hw'
    subst hw''
    go_wp2_with fail
    go_ret
    exact ⟨rfl, _, World.drewN_drewN _ _ _⟩
  repeat (go_big_quiet_step (fail))
  cases b9
  case false =>
    repeat (go_big_quiet_step (fail))
    refine wpQuiet_nil ?_
    intro _ hw'
    obtain ⟨nq, hw''⟩ := hw'
    subst hw''
    go_wp2_with fail
    go_ret
    exact ⟨rfl, _, World.drewN_drewN _ _ _⟩
  repeat (go_big_quiet_step (fail))
  cases b10
  case false =>
    repeat (go_big_quiet_step (fail))
    refine wpQuiet_nil ?_
    intro _ hw'
    obtain ⟨nq, hw''⟩ := hw'
    subst hw''
    go_wp2_with fail
    go_ret
    exact ⟨rfl, _, World.drewN_drewN _ _ _⟩
  repeat (go_big_quiet_step (fail))
  refine wpQuiet_nil ?_
  intro _ hw'
  obtain ⟨nq, hw''⟩ := hw'
  subst hw''
  go_wp2_with fail
  go_ret
  exact ⟨by simp, _, World.drewN_drewN _ _ _⟩
end Go.Proofs.YtcnglhneknbllaaDoor

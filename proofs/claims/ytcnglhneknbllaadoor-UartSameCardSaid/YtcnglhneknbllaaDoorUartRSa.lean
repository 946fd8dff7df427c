/-
  The document's Same (package mezzanineref06): some of the ways through it.
-/
import Derived.Test.YtcnglhneknbllaaDoorUartP
namespace Go.Proofs.YtcnglhneknbllaaDoor
open Go Go.RowKit

set_option maxRecDepth 100000 in
set_option maxHeartbeats 8000000 in
theorem RSame_1 (w : World) (a b : Nat) (s r : US) (F G : Nat → Prop) (h : RefAt w a s F) (h' : RefAt w b r G) (c1 : ((txt s.inn).toList == (txt r.inn).toList) = false) :
    Calls Tryd.prog 35 #[.pointer (some ⟨a, 0, none⟩), .pointer (some ⟨b, 0, none⟩)] w fun e w' => e = .returned (.bool false) ∧ ∃ n, w' = w.drewN n := by
  obtain ⟨g1, g2, hBd, vi, vo, Fi, Fo, hb, hi, ho, hFi, hFo⟩ := h
  obtain ⟨g1', g2', hBd', vi', vo', Fi', Fo', hb', hi', ho', hFi', hFo'⟩ := h'
  obtain ⟨ai, ci, rfl, _, _⟩ := hi.slice
  obtain ⟨ao, co, rfl, _, _⟩ := ho.slice
  obtain ⟨ai', ci', rfl, _, _⟩ := hi'.slice
  obtain ⟨ao', co', rfl, _, _⟩ := ho'.slice
  have t1 := fun n => (hi.rd.drewN n).text (P := Tryd.prog) rfl 27 5 9 Tryd.underlying27 Tryd.underlying5 Tryd.underlying9
  have t3 := fun n => (hi'.rd.drewN n).text (P := Tryd.prog) rfl 27 5 9 Tryd.underlying27 Tryd.underlying5 Tryd.underlying9
  have hc := fun o => hb.cell o
  have hc' := fun o => hb'.cell o
  simp only [rcells] at hc hc'
  clear hi ho hi' ho' hBd hBd' hFi hFo hFi' hFo' hb hb' g1 g1' g2 g2'
  go_enter Tryd.func35, Tryd.ntmps35
  go_wp2_with fail
  go_quiet (fail)
  go_wp2_with fail
  go_ret
  exact ⟨rfl, _, rfl⟩
set_option maxRecDepth 100000 in
set_option maxHeartbeats 8000000 in
theorem RSame_2 (w : World) (a b : Nat) (s r : US) (F G : Nat → Prop) (h : RefAt w a s F) (h' : RefAt w b r G) (c1 : ((txt s.inn).toList == (txt r.inn).toList) = true) (c2 : ((txt s.out).toList == (txt r.out).toList) = false) :
    Calls Tryd.prog 35 #[.pointer (some ⟨a, 0, none⟩), .pointer (some ⟨b, 0, none⟩)] w fun e w' => e = .returned (.bool false) ∧ ∃ n, w' = w.drewN n := by
  obtain ⟨g1, g2, hBd, vi, vo, Fi, Fo, hb, hi, ho, hFi, hFo⟩ := h
  obtain ⟨g1', g2', hBd', vi', vo', Fi', Fo', hb', hi', ho', hFi', hFo'⟩ := h'
  obtain ⟨ai, ci, rfl, _, _⟩ := hi.slice
  obtain ⟨ao, co, rfl, _, _⟩ := ho.slice
  obtain ⟨ai', ci', rfl, _, _⟩ := hi'.slice
  obtain ⟨ao', co', rfl, _, _⟩ := ho'.slice
  have t1 := fun n => (hi.rd.drewN n).text (P := Tryd.prog) rfl 27 5 9 Tryd.underlying27 Tryd.underlying5 Tryd.underlying9
  have t3 := fun n => (hi'.rd.drewN n).text (P := Tryd.prog) rfl 27 5 9 Tryd.underlying27 Tryd.underlying5 Tryd.underlying9
  have t2 := fun n => (ho.rd.drewN n).text (P := Tryd.prog) rfl 27 5 9 Tryd.underlying27 Tryd.underlying5 Tryd.underlying9
  have t4 := fun n => (ho'.rd.drewN n).text (P := Tryd.prog) rfl 27 5 9 Tryd.underlying27 Tryd.underlying5 Tryd.underlying9
  have hc := fun o => hb.cell o
  have hc' := fun o => hb'.cell o
  simp only [rcells] at hc hc'
  clear hi ho hi' ho' hBd hBd' hFi hFo hFi' hFo' hb hb' g1 g1' g2 g2'
  go_enter Tryd.func35, Tryd.ntmps35
  go_wp2_with fail
  go_quiet (fail)
  go_wp2_with fail
  go_ret
  exact ⟨rfl, _, rfl⟩
set_option maxRecDepth 100000 in
set_option maxHeartbeats 8000000 in
theorem RSame_3 (w : World) (a b : Nat) (s r : US) (F G : Nat → Prop) (h : RefAt w a s F) (h' : RefAt w b r G) (c1 : ((txt s.inn).toList == (txt r.inn).toList) = true) (c2 : ((txt s.out).toList == (txt r.out).toList) = true) (c3 : (s.lost == r.lost) = false) :
    Calls Tryd.prog 35 #[.pointer (some ⟨a, 0, none⟩), .pointer (some ⟨b, 0, none⟩)] w fun e w' => e = .returned (.bool false) ∧ ∃ n, w' = w.drewN n := by
  obtain ⟨g1, g2, hBd, vi, vo, Fi, Fo, hb, hi, ho, hFi, hFo⟩ := h
  obtain ⟨g1', g2', hBd', vi', vo', Fi', Fo', hb', hi', ho', hFi', hFo'⟩ := h'
  obtain ⟨ai, ci, rfl, _, _⟩ := hi.slice
  obtain ⟨ao, co, rfl, _, _⟩ := ho.slice
  obtain ⟨ai', ci', rfl, _, _⟩ := hi'.slice
  obtain ⟨ao', co', rfl, _, _⟩ := ho'.slice
  have t1 := fun n => (hi.rd.drewN n).text (P := Tryd.prog) rfl 27 5 9 Tryd.underlying27 Tryd.underlying5 Tryd.underlying9
  have t3 := fun n => (hi'.rd.drewN n).text (P := Tryd.prog) rfl 27 5 9 Tryd.underlying27 Tryd.underlying5 Tryd.underlying9
  have t2 := fun n => (ho.rd.drewN n).text (P := Tryd.prog) rfl 27 5 9 Tryd.underlying27 Tryd.underlying5 Tryd.underlying9
  have t4 := fun n => (ho'.rd.drewN n).text (P := Tryd.prog) rfl 27 5 9 Tryd.underlying27 Tryd.underlying5 Tryd.underlying9
  have nc3 : (s.lost != r.lost) = true := by rw [bne, c3]; rfl
  have hc := fun o => hb.cell o
  have hc' := fun o => hb'.cell o
  simp only [rcells] at hc hc'
  clear hi ho hi' ho' hBd hBd' hFi hFo hFi' hFo' hb hb' g1 g1' g2 g2'
  go_enter Tryd.func35, Tryd.ntmps35
  go_wp2_with fail
  go_quiet (fail)
  go_wp2_with fail
  go_ret
  exact ⟨rfl, _, rfl⟩
set_option maxRecDepth 100000 in
set_option maxHeartbeats 8000000 in
theorem RSame_4 (w : World) (a b : Nat) (s r : US) (F G : Nat → Prop) (h : RefAt w a s F) (h' : RefAt w b r G) (c1 : ((txt s.inn).toList == (txt r.inn).toList) = true) (c2 : ((txt s.out).toList == (txt r.out).toList) = true) (c3 : (s.lost == r.lost) = true) (c4 : (s.sent == r.sent) = false) :
    Calls Tryd.prog 35 #[.pointer (some ⟨a, 0, none⟩), .pointer (some ⟨b, 0, none⟩)] w fun e w' => e = .returned (.bool false) ∧ ∃ n, w' = w.drewN n := by
  obtain ⟨g1, g2, hBd, vi, vo, Fi, Fo, hb, hi, ho, hFi, hFo⟩ := h
  obtain ⟨g1', g2', hBd', vi', vo', Fi', Fo', hb', hi', ho', hFi', hFo'⟩ := h'
  obtain ⟨ai, ci, rfl, _, _⟩ := hi.slice
  obtain ⟨ao, co, rfl, _, _⟩ := ho.slice
  obtain ⟨ai', ci', rfl, _, _⟩ := hi'.slice
  obtain ⟨ao', co', rfl, _, _⟩ := ho'.slice
  have t1 := fun n => (hi.rd.drewN n).text (P := Tryd.prog) rfl 27 5 9 Tryd.underlying27 Tryd.underlying5 Tryd.underlying9
  have t3 := fun n => (hi'.rd.drewN n).text (P := Tryd.prog) rfl 27 5 9 Tryd.underlying27 Tryd.underlying5 Tryd.underlying9
  have t2 := fun n => (ho.rd.drewN n).text (P := Tryd.prog) rfl 27 5 9 Tryd.underlying27 Tryd.underlying5 Tryd.underlying9
  have t4 := fun n => (ho'.rd.drewN n).text (P := Tryd.prog) rfl 27 5 9 Tryd.underlying27 Tryd.underlying5 Tryd.underlying9
  have nc3 : (s.lost != r.lost) = false := by rw [bne, c3]; rfl
  have nc4 : (s.sent != r.sent) = true := by rw [bne, c4]; rfl
  have hc := fun o => hb.cell o
  have hc' := fun o => hb'.cell o
  simp only [rcells] at hc hc'
  clear hi ho hi' ho' hBd hBd' hFi hFo hFi' hFo' hb hb' g1 g1' g2 g2'
  go_enter Tryd.func35, Tryd.ntmps35
  go_wp2_with fail
  go_quiet (fail)
  go_wp2_with fail
  go_ret
  exact ⟨rfl, _, rfl⟩
end Go.Proofs.YtcnglhneknbllaaDoor

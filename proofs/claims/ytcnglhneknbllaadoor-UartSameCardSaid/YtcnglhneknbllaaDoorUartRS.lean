/-
  The contract of the document's Same (package mezzanineref06).
-/
import Derived.Test.YtcnglhneknbllaaDoorUartRSa
import Derived.Test.YtcnglhneknbllaaDoorUartRSb
namespace Go.Proofs.YtcnglhneknbllaaDoor
open Go Go.RowKit

theorem US.same_ref (s r : US) (h : s.Ok) (h' : r.Ok) : decide (s = r) = (((txt s.inn).toList == (txt r.inn).toList) && (((txt s.out).toList == (txt r.out).toList) && ((s.lost == r.lost) && ((s.sent == r.sent) && (((s.ier : Int) == (r.ier : Int)) && (((s.fcr : Int) == (r.fcr : Int)) && (((s.lcr : Int) == (r.lcr : Int)) && (((s.mcr : Int) == (r.mcr : Int)) && (((s.scr : Int) == (r.scr : Int)) && (((s.dl : Int) == (r.dl : Int)) && ((s.dm : Int) == (r.dm : Int)))))))))))) := by
  rw [txt_eq _ _ h.inn h'.inn, txt_eq _ _ h.out h'.out, Bool.eq_iff_iff]
  clear h h'
  obtain ⟨a1, a2, a3, a4, a5, a6, a7, a8, a9, a10, a11⟩ := s
  obtain ⟨b1, b2, b3, b4, b5, b6, b7, b8, b9, b10, b11⟩ := r
  have h : ∀ a b : Nat, ((a : Int) == b) = decide (a = b) := fun a b => by rw [Bool.eq_iff_iff]; simp; omega
  simp only [h, US.mk.injEq, decide_eq_true_eq, Bool.and_eq_true, beq_iff_eq]
  constructor
  · rintro ⟨h1, h2, h3, h4, h5, h6, h7, h8, h9, h10, h11⟩
    exact ⟨h1, h2, h10, h11, h3, h4, h5, h6, h7, h8, h9⟩
  · rintro ⟨h1, h2, h10, h11, h3, h4, h5, h6, h7, h8, h9⟩
    exact ⟨h1, h2, h3, h4, h5, h6, h7, h8, h9, h10, h11⟩

theorem RSame_c (w : World) (a b : Nat) (s r : US) (F G : Nat → Prop) (h : RefAt w a s F) (h' : RefAt w b r G) :
    Calls Tryd.prog 35 #[.pointer (some ⟨a, 0, none⟩), .pointer (some ⟨b, 0, none⟩)] w fun e w' => e = .returned (.bool (decide (s = r))) ∧ ∃ n, w' = w.drewN n := by
  have hs := s.same_ref r h.ok h'.ok
  have h1 : ∀ x : Bool, x = true ∨ x = false := fun x => by cases x <;> simp
  rcases h1 ((txt s.inn).toList == (txt r.inn).toList) with c1 | c1
  case inr => rw [c1] at hs; rw [hs]; exact RSame_1 w a b s r F G h h' c1
  rcases h1 ((txt s.out).toList == (txt r.out).toList) with c2 | c2
  case inr => rw [c1, c2] at hs; rw [hs]; exact RSame_2 w a b s r F G h h' c1 c2
  rcases h1 (s.lost == r.lost) with c3 | c3
  case inr => rw [c1, c2, c3] at hs; rw [hs]; exact RSame_3 w a b s r F G h h' c1 c2 c3
  rcases h1 (s.sent == r.sent) with c4 | c4
  case inr => rw [c1, c2, c3, c4] at hs; rw [hs]; exact RSame_4 w a b s r F G h h' c1 c2 c3 c4
  rw [c1, c2, c3, c4] at hs
  rw [hs]
  exact RSame_regs w a b s r F G h h' c1 c2 c3 c4 ((s.ier : Int) == (r.ier : Int)) ((s.fcr : Int) == (r.fcr : Int)) ((s.lcr : Int) == (r.lcr : Int)) ((s.mcr : Int) == (r.mcr : Int)) ((s.scr : Int) == (r.scr : Int)) ((s.dl : Int) == (r.dl : Int)) ((s.dm : Int) == (r.dm : Int)) rfl rfl rfl rfl rfl rfl rfl
end Go.Proofs.YtcnglhneknbllaaDoor

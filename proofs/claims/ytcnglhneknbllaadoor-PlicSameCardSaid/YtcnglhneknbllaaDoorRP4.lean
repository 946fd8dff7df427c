/-
  The document's interrupt controller, the fourth part: Read, at every place.
-/
import Derived.Test.YtcnglhneknbllaaDoorRP3
namespace Go.Proofs.YtcnglhneknbllaaDoor
open Go Go.RowKit PS

set_option maxRecDepth 100000 in
set_option maxHeartbeats 4000000 in
theorem rRead_c (w : World) (b o : Nat) (s : PS) (off : Nat) (n : Int) (h : RAt w b o s) :
    Calls Tryd.prog 62 #[.pointer (some ⟨b, o, none⟩), .int .u64 (off : Int), .int .i64 n] w fun e w' => e = .returned (readV (s.read off n)) ∧ RAt w' b o (s.read off n).1 ∧ FrIn b o 194 w w' := by
  by_cases hn : n = 4
  · subst hn
    by_cases h1 : off < 128 ∧ off % 4 = 0
    · obtain ⟨k, rfl⟩ : ∃ k, off = 4 * k := ⟨off / 4, by omega⟩
      exact rRead_prio w b o s k (by omega) h
    by_cases hA : off = 4096
    · subst hA; exact rRead_pend w b o s h
    by_cases hB : off = 8192
    · subst hB; exact rRead_8192 w b o s h
    by_cases hC : off = 8320
    · subst hC; exact rRead_8320 w b o s h
    by_cases hD : off = 2097152
    · subst hD; exact rRead_2097152 w b o s h
    by_cases hE : off = 2101248
    · subst hE; exact rRead_2101248 w b o s h
    by_cases hF : off = 2097156
    · subst hF; exact rRead_2097156 w b o s h
    by_cases hG : off = 2101252
    · subst hG; exact rRead_2101252 w b o s h
    have hr : s.read off 4 = (s, 0, false) := by
      unfold PS.read
      rw [if_neg (by decide), if_neg h1, if_neg hA, if_neg hB, if_neg hC, if_neg hD, if_neg hE, if_neg hF, if_neg hG]
    have n1 : ((off : Int) == 4096) = false := by rw [beq_eq_false_iff_ne]; omega
    have n2 : ((off : Int) == 8192) = false := by rw [beq_eq_false_iff_ne]; omega
    have n3 : ((off : Int) == 8320) = false := by rw [beq_eq_false_iff_ne]; omega
    have n4 : ((off : Int) == 2097152) = false := by rw [beq_eq_false_iff_ne]; omega
    have n5 : ((off : Int) == 2101248) = false := by rw [beq_eq_false_iff_ne]; omega
    have n6 : ((off : Int) == 2097156) = false := by rw [beq_eq_false_iff_ne]; omega
    have n7 : ((off : Int) == 2101252) = false := by rw [beq_eq_false_iff_ne]; omega
    have HR := Lib.hid hr
    have HA := Lib.hid h
    by_cases h2 : off < 128
    · have hm : (((off : Int).tmod 4) == 0) = false := by rw [beq_eq_false_iff_ne, Int.tmod_eq_emod_of_nonneg (by omega)]; omega
      have hm' : (((off : Int) % 4) == 0) = false := by rw [beq_eq_false_iff_ne]; omega
      clear hr hA hB hC hD hE hF hG h1 h
      go_enter Tryd.func62, Tryd.ntmps62
      go_wp2_with fail
      go_loopw [10] (fun i wr => ∃ k : Nat, k ≤ 2 ∧ w = wr ∧ i = .int .i64 (k : Int)) (fun i _ => 2 - (intOf i).toNat)
      case atStart => exact ⟨0, by omega, rfl, rfl⟩
      case round =>
        obtain ⟨k, hk, rfl, rfl⟩ := hrel
        rcases (show k = 0 ∨ k = 1 ∨ k = 2 by omega) with rfl | rfl | rfl
        · go_wp2_with fail
          exact ⟨⟨1, by omega, trivial, rfl⟩, by simp [intOf]⟩
        · go_wp2_with fail
          exact ⟨⟨2, by omega, trivial, rfl⟩, by simp [intOf]⟩
        · go_wp2_with fail
          go_ret2
          rw [HR.out]
          exact ⟨rfl, HA.out, FrIn.refl _ _ _ _⟩
    · have hm : decide ((off : Int) < 128) = false := decide_eq_false (by omega)
      clear hr hA hB hC hD hE hF hG h1 h
      go_enter Tryd.func62, Tryd.ntmps62
      go_wp2_with fail
      go_loopw [10] (fun i wr => ∃ k : Nat, k ≤ 2 ∧ w = wr ∧ i = .int .i64 (k : Int)) (fun i _ => 2 - (intOf i).toNat)
      case atStart => exact ⟨0, by omega, rfl, rfl⟩
      case round =>
        obtain ⟨k, hk, rfl, rfl⟩ := hrel
        rcases (show k = 0 ∨ k = 1 ∨ k = 2 by omega) with rfl | rfl | rfl
        · go_wp2_with fail
          exact ⟨⟨1, by omega, trivial, rfl⟩, by simp [intOf]⟩
        · go_wp2_with fail
          exact ⟨⟨2, by omega, trivial, rfl⟩, by simp [intOf]⟩
        · go_wp2_with fail
          go_ret2
          rw [HR.out]
          exact ⟨rfl, HA.out, FrIn.refl _ _ _ _⟩
  · have hr : s.read off n = (s, 0, false) := by unfold PS.read; rw [if_pos hn]
    have hne : (n != 4) = true := by rw [bne_iff_ne]; exact hn
    go_enter Tryd.func62, Tryd.ntmps62
    go_wp2_with fail
    go_ret2
    rw [hr]
    exact ⟨rfl, h, FrIn.refl _ _ _ _⟩
end Go.Proofs.YtcnglhneknbllaaDoor

/-
  Contracts of package plic, the fourth part: Read and Write.
-/
import Derived.Test.YtcnglhneknbllaaDoorPlic3
namespace Go.Proofs.YtcnglhneknbllaaDoor
open Go Go.RowKit

set_option maxRecDepth 100000 in
set_option maxHeartbeats 4000000 in
theorem PRead_c (w : World) (b o : Nat) (s : PS) (off : Nat) (n : Int) (ho : off < 18446744073709551616) (h : PicAt w b o s) (hT : TzAt w) :
    Calls Tryd.prog 31 #[.pointer (some ⟨b, o, none⟩), .int .u64 (off : Int), .int .i64 n] w fun e w' => e = .returned (readV (s.read off n)) ∧ PicAt w' b o (s.read off n).1 ∧ FrIn b o 39 w w' := by
  have HO := Lib.hid ho
  by_cases hn : n = 4
  · subst hn
    obtain ⟨p0, p1, p2, p3, p4, p5, p6, pr, hfz⟩ := h.facts
    by_cases h1 : off < 128 ∧ off % 4 = 0
    · have hr : s.read off 4 = (s, s.pr (off / 4), true) := by unfold PS.read; rw [if_neg (by decide), if_pos h1]
      obtain ⟨k, rfl⟩ : ∃ k, off = 4 * k := ⟨off / 4, by omega⟩
      have hk : k < 32 := by omega
      have hq : ((4 * k : Nat) : Int) / 4 = (k : Int) := by omega
      have hq2 : ((4 * k : Nat) : Int).tdiv 4 = (k : Int) := by rw [Int.tdiv_eq_ediv_of_nonneg (by omega)]; exact hq
      have hm2 : ((4 * k : Nat) : Int).tmod 4 = 0 := by rw [Int.tmod_eq_emod_of_nonneg (by omega)]; omega
      have hm : ((4 * k : Nat) : Int) % 4 = 0 := by omega
      have q := pr k hk
      have hd : 4 * k / 4 = k := by omega
      rw [hd] at hr
      have h8 := h.ok.pr_lt k
      have HR := Lib.hid hr
      obtain ⟨x, hx⟩ : ∃ x : Int, x = ((4 * k : Nat) : Int) := ⟨_, rfl⟩
      have hx1 : x < 128 := by omega
      have hx2 : 0 ≤ x := by omega
      rw [← hx] at hq hq2 hm hm2 ⊢
      clear hr hd hx
      go_enter Tryd.func31, Tryd.ntmps31
      go_wp2_with fail
      go_ret2
      rw [HR.out]
      exact ⟨by simp [readV], h, FrIn.refl _ _ _ _⟩
    · clear pr
      have b1 := h.ok.pend
      have b2 := h.ok.on0
      have b3 := h.ok.on1
      have b4 := h.ok.fl0
      have b5 := h.ok.fl1
      have w1 : IntKind.u64.wrap (s.pend : Int) = s.pend := by rw [IntKind.wrap_u64]; omega
      have w2 : IntKind.u64.wrap (s.on0 : Int) = s.on0 := by rw [IntKind.wrap_u64]; omega
      have w3 : IntKind.u64.wrap (s.on1 : Int) = s.on1 := by rw [IntKind.wrap_u64]; omega
      have w4 : IntKind.u64.wrap (s.fl0 : Int) = s.fl0 := by rw [IntKind.wrap_u64]; omega
      have w5 : IntKind.u64.wrap (s.fl1 : Int) = s.fl1 := by rw [IntKind.wrap_u64]; omega
      clear b1 b2 b3 b4 b5
      by_cases hA : off = 4096
      · subst hA
        go_enter Tryd.func31, Tryd.ntmps31
        go_wp2_with fail
        go_ret2
        exact ⟨rfl, h, FrIn.refl _ _ _ _⟩
      by_cases hB : off = 8192
      · subst hB
        go_enter Tryd.func31, Tryd.ntmps31
        go_wp2_with fail
        refine (context_c _ 8192 8192 128 (by omega) (by omega) (by omega)).mono ?_
        rw [show ctxOf 8192 8192 128 = some 0 from rfl]
        simp only [ctxV]
        rintro e w' ⟨rfl, rfl⟩
        go_wp2_with fail
        go_ret2
        exact ⟨rfl, h, FrIn.refl _ _ _ _⟩
      by_cases hC : off = 8320
      · subst hC
        go_enter Tryd.func31, Tryd.ntmps31
        go_wp2_with fail
        refine (context_c _ 8320 8192 128 (by omega) (by omega) (by omega)).mono ?_
        rw [show ctxOf 8320 8192 128 = some 1 from rfl]
        simp only [ctxV]
        rintro e w' ⟨rfl, rfl⟩
        go_wp2_with fail
        go_ret2
        exact ⟨rfl, h, FrIn.refl _ _ _ _⟩
      by_cases hD : off = 2097152
      · subst hD
        go_enter Tryd.func31, Tryd.ntmps31
        go_wp2_with fail
        refine (context_c _ 2097152 8192 128 (by omega) (by omega) (by omega)).mono ?_
        rw [show ctxOf 2097152 8192 128 = none from rfl]
        simp only [ctxV]
        rintro e w' ⟨rfl, rfl⟩
        go_wp2_with fail
        refine (context_c _ 2097152 2097152 4096 (by omega) (by omega) (by omega)).mono ?_
        rw [show ctxOf 2097152 2097152 4096 = some 0 from rfl]
        simp only [ctxV]
        rintro e w' ⟨rfl, rfl⟩
        go_wp2_with fail
        go_ret2
        exact ⟨rfl, h, FrIn.refl _ _ _ _⟩
      by_cases hE : off = 2101248
      · subst hE
        go_enter Tryd.func31, Tryd.ntmps31
        go_wp2_with fail
        refine (context_c _ 2101248 8192 128 (by omega) (by omega) (by omega)).mono ?_
        rw [show ctxOf 2101248 8192 128 = none from rfl]
        simp only [ctxV]
        rintro e w' ⟨rfl, rfl⟩
        go_wp2_with fail
        refine (context_c _ 2101248 2097152 4096 (by omega) (by omega) (by omega)).mono ?_
        rw [show ctxOf 2101248 2097152 4096 = some 1 from rfl]
        simp only [ctxV]
        rintro e w' ⟨rfl, rfl⟩
        go_wp2_with fail
        go_ret2
        exact ⟨rfl, h, FrIn.refl _ _ _ _⟩
      by_cases hF : off = 2097156
      · subst hF
        have HC := Lib.hid (claim_c w b o s 0 h hT)
        go_enter Tryd.func31, Tryd.ntmps31
        go_wp2_with fail
        refine (context_c _ 2097156 8192 128 (by omega) (by omega) (by omega)).mono ?_
        rw [show ctxOf 2097156 8192 128 = none from rfl]
        simp only [ctxV]
        rintro e w' ⟨rfl, rfl⟩
        go_wp2_with fail
        refine (context_c _ 2097156 2097152 4096 (by omega) (by omega) (by omega)).mono ?_
        rw [show ctxOf 2097156 2097152 4096 = none from rfl]
        simp only [ctxV]
        rintro e w' ⟨rfl, rfl⟩
        go_wp2_with fail
        refine (context_c _ 2097156 2097156 4096 (by omega) (by omega) (by omega)).mono ?_
        rw [show ctxOf 2097156 2097156 4096 = some 0 from rfl]
        simp only [ctxV]
        rintro e w' ⟨rfl, rfl⟩
        go_wp2_with fail
        refine HC.out.mono ?_
        rintro e w' ⟨rfl, hp, hf⟩
        go_wp2_with fail
        go_ret2
        exact ⟨rfl, hp, hf⟩
      by_cases hG : off = 2101252
      · subst hG
        have HC := Lib.hid (claim_c w b o s 1 h hT)
        go_enter Tryd.func31, Tryd.ntmps31
        go_wp2_with fail
        refine (context_c _ 2101252 8192 128 (by omega) (by omega) (by omega)).mono ?_
        rw [show ctxOf 2101252 8192 128 = none from rfl]
        simp only [ctxV]
        rintro e w' ⟨rfl, rfl⟩
        go_wp2_with fail
        refine (context_c _ 2101252 2097152 4096 (by omega) (by omega) (by omega)).mono ?_
        rw [show ctxOf 2101252 2097152 4096 = none from rfl]
        simp only [ctxV]
        rintro e w' ⟨rfl, rfl⟩
        go_wp2_with fail
        refine (context_c _ 2101252 2097156 4096 (by omega) (by omega) (by omega)).mono ?_
        rw [show ctxOf 2101252 2097156 4096 = some 1 from rfl]
        simp only [ctxV]
        rintro e w' ⟨rfl, rfl⟩
        go_wp2_with fail
        refine HC.out.mono ?_
        rintro e w' ⟨rfl, hp, hf⟩
        go_wp2_with fail
        go_ret2
        exact ⟨rfl, hp, hf⟩
      have hr : s.read off 4 = (s, 0, false) := by
        unfold PS.read
        rw [if_neg (by decide), if_neg h1, if_neg hA, if_neg hB, if_neg hC, if_neg hD, if_neg hE, if_neg hF, if_neg hG]
      have k1 : ctxOf off 8192 128 = none := by unfold ctxOf; rw [if_neg hB, if_neg hC]
      have k2 : ctxOf off 2097152 4096 = none := by unfold ctxOf; rw [if_neg hD, if_neg hE]
      have k3 : ctxOf off 2097156 4096 = none := by unfold ctxOf; rw [if_neg hF, if_neg hG]
      have n1 : ((off : Int) == 4096) = false := by rw [beq_eq_false_iff_ne]; omega
      have HR := Lib.hid hr
      by_cases h2 : off < 128
      · have hm : (((off : Int).tmod 4) == 0) = false := by rw [beq_eq_false_iff_ne, Int.tmod_eq_emod_of_nonneg (by omega)]; omega
        have hm' : (((off : Int) % 4) == 0) = false := by rw [beq_eq_false_iff_ne]; omega
        clear hr hA hB hC hD hE hF hG h1 ho
        go_enter Tryd.func31, Tryd.ntmps31
        go_wp2_with fail
        refine (context_c _ off 8192 128 (by omega) (by omega) (by omega)).mono ?_
        rw [k1]
        simp only [ctxV]
        rintro e w' ⟨rfl, rfl⟩
        go_wp2_with fail
        refine (context_c _ off 2097152 4096 (by omega) (by omega) (by omega)).mono ?_
        rw [k2]
        simp only [ctxV]
        rintro e w' ⟨rfl, rfl⟩
        go_wp2_with fail
        refine (context_c _ off 2097156 4096 (by omega) (by omega) (by omega)).mono ?_
        rw [k3]
        simp only [ctxV]
        rintro e w' ⟨rfl, rfl⟩
        go_wp2_with fail
        go_ret2
        rw [HR.out]
        exact ⟨rfl, h, FrIn.refl _ _ _ _⟩
      · have hm : decide ((off : Int) < 128) = false := decide_eq_false (by omega)
        clear hr hA hB hC hD hE hF hG h1 ho
        go_enter Tryd.func31, Tryd.ntmps31
        go_wp2_with fail
        refine (context_c _ off 8192 128 (by omega) (by omega) (by omega)).mono ?_
        rw [k1]
        simp only [ctxV]
        rintro e w' ⟨rfl, rfl⟩
        go_wp2_with fail
        refine (context_c _ off 2097152 4096 (by omega) (by omega) (by omega)).mono ?_
        rw [k2]
        simp only [ctxV]
        rintro e w' ⟨rfl, rfl⟩
        go_wp2_with fail
        refine (context_c _ off 2097156 4096 (by omega) (by omega) (by omega)).mono ?_
        rw [k3]
        simp only [ctxV]
        rintro e w' ⟨rfl, rfl⟩
        go_wp2_with fail
        go_ret2
        rw [HR.out]
        exact ⟨rfl, h, FrIn.refl _ _ _ _⟩
  · have hr : s.read off n = (s, 0, false) := by unfold PS.read; rw [if_pos hn]
    have hne : (n != 4) = true := by rw [bne_iff_ne]; exact hn
    go_enter Tryd.func31, Tryd.ntmps31
    go_wp2_with fail
    go_ret2
    rw [hr]
    exact ⟨rfl, h, FrIn.refl _ _ _ _⟩
end Go.Proofs.YtcnglhneknbllaaDoor

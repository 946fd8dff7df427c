/-
  Contracts of package plic, the fifth part: Write.
-/
import Derived.Test.YtcnglhneknbllaaDoorPlic4
namespace Go.Proofs.YtcnglhneknbllaaDoor
open Go Go.RowKit

theorem and7 (v : Nat) (h : v < 18446744073709551616) : bits .and .u64 (v : Int) 7 = ((v % 8 : Nat) : Int) := by
  have e : bits .and .u64 (v : Int) ((7 : Nat) : Int) = ((v &&& 7 : Nat) : Int) := u64_and_nat v 7 h (by omega)
  have e2 : v &&& 7 = v % 8 := Nat.and_two_pow_sub_one_eq_mod v 3
  rw [e2] at e
  exact e
set_option maxRecDepth 100000 in
set_option maxHeartbeats 4000000 in
theorem PWrite_c (w : World) (b o : Nat) (s : PS) (off : Nat) (n : Int) (v : Nat) (ho : off < 18446744073709551616) (hv : v < 18446744073709551616) (h : PicAt w b o s) :
    Calls Tryd.prog 28 #[.pointer (some ⟨b, o, none⟩), .int .u64 (off : Int), .int .i64 n, .int .u64 (v : Int)] w fun e w' => e = .returned (.bool (s.write off n v).2) ∧ PicAt w' b o (s.write off n v).1 ∧ FrIn b o 39 w w' := by
  have HO := Lib.hid ho
  by_cases hn : n = 4
  · subst hn
    obtain ⟨p0, p1, p2, p3, p4, p5, p6, pr, hfz⟩ := h.facts
    have hok := h.ok.write off 4 v
    have hand := and7 v hv
    have ha8 : (v : Int) % 8 = ((v % 8 : Nat) : Int) := by omega
    obtain ⟨x, hx⟩ : ∃ x, x = v % 8 := ⟨_, rfl⟩
    have hx8 : x < 8 := by omega
    have hxw : IntKind.u8.wrap (x : Int) = (x : Int) := by rw [IntKind.wrap_u8']; omega
    rw [← hx] at hand ha8
    have h32 : IntKind.u32.wrap (v : Int) = ((v % 4294967296 : Nat) : Int) := by rw [IntKind.wrap_u32']; omega
    obtain ⟨y, hy⟩ : ∃ y, y = v % 4294967296 := ⟨_, rfl⟩
    have hy32 : y < 4294967296 := by omega
    rw [← hy] at h32
    have hno := andNot32 y 0 hy32 (by omega)
    rw [show (((2 ^ 0 : Nat)) : Int) = 1 from rfl] at hno
    by_cases h1 : off < 128 ∧ off % 4 = 0
    · by_cases h0 : 0 < off
      · have hr : s.write off 4 v = ({ s with prio := s.prio.set (off / 4) x }, true) := by unfold PS.write; rw [if_neg (by decide), if_pos h1, if_pos h0, ← hx]
        rw [hr] at hok
        have HR := Lib.hid hr
        obtain ⟨k, rfl⟩ : ∃ k, off = 4 * k := ⟨off / 4, by omega⟩
        have hk : k < 32 := by omega
        have hd : 4 * k / 4 = k := by omega
        rw [hd] at hr hok
        have hput := h.put (i := 3 + k) (v := u8v x) hok (by omega) (plist_setPrio h.ok hk x)
        rw [← Nat.add_assoc] at hput
        have HP := Lib.hid hput
        have hq : ((4 * k : Nat) : Int) / 4 = (k : Int) := by omega
        have hq2 : ((4 * k : Nat) : Int).tdiv 4 = (k : Int) := by rw [Int.tdiv_eq_ediv_of_nonneg (by omega)]; exact hq
        have hm2 : ((4 * k : Nat) : Int).tmod 4 = 0 := by rw [Int.tmod_eq_emod_of_nonneg (by omega)]; omega
        have hm : ((4 * k : Nat) : Int) % 4 = 0 := by omega
        have q := pr k hk
        obtain ⟨z, hz⟩ : ∃ z : Int, z = ((4 * k : Nat) : Int) := ⟨_, rfl⟩
        have hz1 : z < 128 := by omega
        have hz2 : 0 < z := by omega
        rw [← hz] at hq hq2 hm hm2 ⊢
        clear hr hz hok pr h1 h0 hx hy hput ho hv
        go_enter Tryd.func28, Tryd.ntmps28
        go_wp2_with fail
        go_ret
        rw [HR.out, hd]
        exact ⟨rfl, HP.out.1, HP.out.2⟩
      · have hr : s.write off 4 v = (s, true) := by unfold PS.write; rw [if_neg (by decide), if_pos h1, if_neg h0]
        have HR := Lib.hid hr
        have h00 : off = 0 := by omega
        subst h00
        clear hr hok pr h1 h0 hx hy ho hv
        go_enter Tryd.func28, Tryd.ntmps28
        go_wp2_with fail
        go_ret
        rw [HR.out]
        exact ⟨rfl, h, FrIn.refl _ _ _ _⟩
    · by_cases hA : off = 4096
      · subst hA
        have hr : s.write 4096 4 v = (s, true) := rfl
        have HR := Lib.hid hr
        clear hr hok pr h1 hx hy ho hv
        go_enter Tryd.func28, Tryd.ntmps28
        go_wp2_with fail
        go_ret
        rw [HR.out]
        exact ⟨rfl, h, FrIn.refl _ _ _ _⟩
      by_cases hB : off = 8192
      · subst hB
        have hr : s.write 8192 4 v = ({ s with on0 := setB y 0 false }, true) := by first | (rw [hx]; rfl) | (rw [hy]; rfl)
        rw [hr] at hok
        have HR := Lib.hid hr
        have HP := Lib.hid (h.put (i := 35) (v := u32v (setB y 0 false)) hok (by omega) (plist_setBack h.ok 0 _))
        clear hr hok pr h1 hx hy ho hv
        go_enter Tryd.func28, Tryd.ntmps28
        go_wp2_with fail
        refine (context_c _ 8192 8192 128 (by omega) (by omega) (by omega)).mono ?_
        rw [show ctxOf 8192 8192 128 = some 0 from rfl]
        simp only [ctxV]
        rintro e w' ⟨rfl, rfl⟩
        go_wp2_with fail
        go_ret
        rw [HR.out]
        exact ⟨rfl, HP.out.1, HP.out.2⟩
      by_cases hC : off = 8320
      · subst hC
        have hr : s.write 8320 4 v = ({ s with on1 := setB y 0 false }, true) := by first | (rw [hx]; rfl) | (rw [hy]; rfl)
        rw [hr] at hok
        have HR := Lib.hid hr
        have HP := Lib.hid (h.put (i := 36) (v := u32v (setB y 0 false)) hok (by omega) (plist_setBack h.ok 1 _))
        clear hr hok pr h1 hx hy ho hv
        go_enter Tryd.func28, Tryd.ntmps28
        go_wp2_with fail
        refine (context_c _ 8320 8192 128 (by omega) (by omega) (by omega)).mono ?_
        rw [show ctxOf 8320 8192 128 = some 1 from rfl]
        simp only [ctxV]
        rintro e w' ⟨rfl, rfl⟩
        go_wp2_with fail
        go_ret
        rw [HR.out]
        exact ⟨rfl, HP.out.1, HP.out.2⟩
      by_cases hD : off = 2097152
      · subst hD
        have hr : s.write 2097152 4 v = ({ s with fl0 := x }, true) := by first | (rw [hx]; rfl) | (rw [hy]; rfl)
        rw [hr] at hok
        have HR := Lib.hid hr
        have HP := Lib.hid (h.put (i := 37) (v := u8v x) hok (by omega) (plist_setBack h.ok 2 _))
        clear hr hok pr h1 hx hy ho hv
        go_enter Tryd.func28, Tryd.ntmps28
        go_wp2_with fail
        refine (context_c _ 2097152 8192 128 (by omega) (by omega) (by omega)).mono ?_
        rw [show ctxOf 2097152 8192 128 = none from rfl]
        simp only [ctxV]
        rintro e w' ⟨rfl, rfl⟩
        go_wp2_with fail
        refine (context_c _ 2097152 2097152 4096 (by omega) (by omega) (by omega)).mono ?_
        rw [show ctxOf 2097152 2097152 4096 = some 0 from rfl]
        simp only [ctxV]
        rintro e w' ⟨rfl, rfl⟩
        go_wp2_with fail
        go_ret
        rw [HR.out]
        exact ⟨rfl, HP.out.1, HP.out.2⟩
      by_cases hE : off = 2101248
      · subst hE
        have hr : s.write 2101248 4 v = ({ s with fl1 := x }, true) := by first | (rw [hx]; rfl) | (rw [hy]; rfl)
        rw [hr] at hok
        have HR := Lib.hid hr
        have HP := Lib.hid (h.put (i := 38) (v := u8v x) hok (by omega) (plist_setBack h.ok 3 _))
        clear hr hok pr h1 hx hy ho hv
        go_enter Tryd.func28, Tryd.ntmps28
        go_wp2_with fail
        refine (context_c _ 2101248 8192 128 (by omega) (by omega) (by omega)).mono ?_
        rw [show ctxOf 2101248 8192 128 = none from rfl]
        simp only [ctxV]
        rintro e w' ⟨rfl, rfl⟩
        go_wp2_with fail
        refine (context_c _ 2101248 2097152 4096 (by omega) (by omega) (by omega)).mono ?_
        rw [show ctxOf 2101248 2097152 4096 = some 1 from rfl]
        simp only [ctxV]
        rintro e w' ⟨rfl, rfl⟩
        go_wp2_with fail
        go_ret
        rw [HR.out]
        exact ⟨rfl, HP.out.1, HP.out.2⟩
      by_cases hF : off = 2097156
      · subst hF
        have hr : s.write 2097156 4 v = (s.complete 0 y, true) := by rw [hy]; rfl
        have HR := Lib.hid hr
        have HC := Lib.hid (complete_c w b o s 0 y (by omega) hy32 h)
        clear hr hok pr h1 hx hy ho hv
        go_enter Tryd.func28, Tryd.ntmps28
        go_wp2_with fail
        refine (context_c _ 2097156 8192 128 (by omega) (by omega) (by omega)).mono ?_
        rw [show ctxOf 2097156 8192 128 = none from rfl]
        simp only [ctxV]
        rintro e w' ⟨rfl, rfl⟩
        go_wp2_with fail
        refine (context_c _ 2097156 2097152 4096 (by omega) (by omega) (by omega)).mono ?_
        rw [show ctxOf 2097156 2097152 4096 = none from rfl]
        simp only [ctxV]
        rintro e w' ⟨rfl, rfl⟩
        go_wp2_with fail
        refine (context_c _ 2097156 2097156 4096 (by omega) (by omega) (by omega)).mono ?_
        rw [show ctxOf 2097156 2097156 4096 = some 0 from rfl]
        simp only [ctxV]
        rintro e w' ⟨rfl, rfl⟩
        go_wp2_with fail
        refine HC.out.mono ?_
        rintro e w' ⟨rfl, hp, hf⟩
        go_wp2_with fail
        go_ret
        rw [HR.out]
        exact ⟨rfl, hp, hf⟩
      by_cases hG : off = 2101252
      · subst hG
        have hr : s.write 2101252 4 v = (s.complete 1 y, true) := by rw [hy]; rfl
        have HR := Lib.hid hr
        have HC := Lib.hid (complete_c w b o s 1 y (by omega) hy32 h)
        clear hr hok pr h1 hx hy ho hv
        go_enter Tryd.func28, Tryd.ntmps28
        go_wp2_with fail
        refine (context_c _ 2101252 8192 128 (by omega) (by omega) (by omega)).mono ?_
        rw [show ctxOf 2101252 8192 128 = none from rfl]
        simp only [ctxV]
        rintro e w' ⟨rfl, rfl⟩
        go_wp2_with fail
        refine (context_c _ 2101252 2097152 4096 (by omega) (by omega) (by omega)).mono ?_
        rw [show ctxOf 2101252 2097152 4096 = none from rfl]
        simp only [ctxV]
        rintro e w' ⟨rfl, rfl⟩
        go_wp2_with fail
        refine (context_c _ 2101252 2097156 4096 (by omega) (by omega) (by omega)).mono ?_
        rw [show ctxOf 2101252 2097156 4096 = some 1 from rfl]
        simp only [ctxV]
        rintro e w' ⟨rfl, rfl⟩
        go_wp2_with fail
        refine HC.out.mono ?_
        rintro e w' ⟨rfl, hp, hf⟩
        go_wp2_with fail
        go_ret
        rw [HR.out]
        exact ⟨rfl, hp, hf⟩
      have hr : s.write off 4 v = (s, false) := by
        unfold PS.write
        rw [if_neg (by decide), if_neg h1, if_neg hA, if_neg hB, if_neg hC, if_neg hD, if_neg hE, if_neg hF, if_neg hG]
      have k1 : ctxOf off 8192 128 = none := by unfold ctxOf; rw [if_neg hB, if_neg hC]
      have k2 : ctxOf off 2097152 4096 = none := by unfold ctxOf; rw [if_neg hD, if_neg hE]
      have k3 : ctxOf off 2097156 4096 = none := by unfold ctxOf; rw [if_neg hF, if_neg hG]
      have n1 : ((off : Int) == 4096) = false := by rw [beq_eq_false_iff_ne]; omega
      have HR := Lib.hid hr
      by_cases h2 : off < 128
      · have hm : (((off : Int).tmod 4) == 0) = false := by rw [beq_eq_false_iff_ne, Int.tmod_eq_emod_of_nonneg (by omega)]; omega
        have hm' : (((off : Int) % 4) == 0) = false := by rw [beq_eq_false_iff_ne]; omega
        clear hr hok hA hB hC hD hE hF hG h1 ho hv hx hy pr
        go_enter Tryd.func28, Tryd.ntmps28
        go_wp2_with fail
        refine (context_c _ off 8192 128 (by omega) (by omega) (by omega)).mono ?_
        rw [k1]
        simp only [ctxV]
        rintro e w' ⟨rfl, rfl⟩
        go_wp2_with fail
        refine (context_c _ off 2097152 4096 (by omega) (by omega) (by omega)).mono ?_
        rw [k2]
        simp only [ctxV]
        rintro e w' ⟨rfl, rfl⟩
        go_wp2_with fail
        refine (context_c _ off 2097156 4096 (by omega) (by omega) (by omega)).mono ?_
        rw [k3]
        simp only [ctxV]
        rintro e w' ⟨rfl, rfl⟩
        go_wp2_with fail
        go_ret
        rw [HR.out]
        exact ⟨rfl, h, FrIn.refl _ _ _ _⟩
      · have hm : decide ((off : Int) < 128) = false := decide_eq_false (by omega)
        clear hr hok hA hB hC hD hE hF hG h1 ho hv hx hy pr
        go_enter Tryd.func28, Tryd.ntmps28
        go_wp2_with fail
        refine (context_c _ off 8192 128 (by omega) (by omega) (by omega)).mono ?_
        rw [k1]
        simp only [ctxV]
        rintro e w' ⟨rfl, rfl⟩
        go_wp2_with fail
        refine (context_c _ off 2097152 4096 (by omega) (by omega) (by omega)).mono ?_
        rw [k2]
        simp only [ctxV]
        rintro e w' ⟨rfl, rfl⟩
        go_wp2_with fail
        refine (context_c _ off 2097156 4096 (by omega) (by omega) (by omega)).mono ?_
        rw [k3]
        simp only [ctxV]
        rintro e w' ⟨rfl, rfl⟩
        go_wp2_with fail
        go_ret
        rw [HR.out]
        exact ⟨rfl, h, FrIn.refl _ _ _ _⟩
  · have hr : s.write off n v = (s, false) := by unfold PS.write; rw [if_pos hn]
    have hne : (n != 4) = true := by rw [bne_iff_ne]; exact hn
    go_enter Tryd.func28, Tryd.ntmps28
    go_wp2_with fail
    go_ret
    rw [hr]
    exact ⟨rfl, h, FrIn.refl _ _ _ _⟩
end Go.Proofs.YtcnglhneknbllaaDoor

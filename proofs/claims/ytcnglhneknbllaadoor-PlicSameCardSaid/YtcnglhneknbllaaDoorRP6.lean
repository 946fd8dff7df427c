/-
  The document's interrupt controller, the sixth part: Write, what ends a claim.
-/
import Derived.Test.YtcnglhneknbllaaDoorRP5
namespace Go.Proofs.YtcnglhneknbllaaDoor
open Go Go.RowKit PS

theorem rem32r (v K : Nat) (h : K = v % 4294967296) : (v : Int).tmod 4294967296 = (K : Int) ∧ (v : Int) % 4294967296 = (K : Int) ∧ IntKind.u64.wrap (K : Int) = (K : Int) ∧ IntKind.i64.wrap (K : Int) = (K : Int) := by
  refine ⟨by rw [Int.tmod_eq_emod_of_nonneg (by omega)]; omega, by omega, by rw [IntKind.wrap_u64]; omega, by rw [IntKind.wrap_i64]; omega⟩
set_option maxRecDepth 100000 in
set_option maxHeartbeats 4000000 in
theorem rWrite_2097156 (w : World) (b o : Nat) (s : PS) (v : Nat) (h : RAt w b o s) :
    Calls Tryd.prog 61 #[.pointer (some ⟨b, o, none⟩), .int .u64 2097156, .int .i64 4, .int .u64 (v : Int)] w fun e w' => e = .returned (.bool (s.write 2097156 4 v).2) ∧ RAt w' b o (s.write 2097156 4 v).1 ∧ FrIn b o 194 w w' := by
  have HA := Lib.hid h
  obtain ⟨K, hK⟩ : ∃ K, K = v % 4294967296 := ⟨_, rfl⟩
  have HR := Lib.hid (show s.write 2097156 4 v = (s.complete 0 K, true) by rw [hK]; rfl)
  obtain ⟨r1, r2, r3, r4⟩ := rem32r v K hK
  clear h hK
  go_enter Tryd.func61, Tryd.ntmps61
  go_wp2_with fail
  go_loopw [9] (fun i wr => w = wr ∧ i = .int .i64 0) (fun i _ => 2 - (intOf i).toNat)
  case atStart => exact ⟨rfl, rfl⟩
  case round =>
    obtain ⟨rfl, rfl⟩ := hrel
    rcases Nat.eq_zero_or_pos K with rfl | hK0
    · have HC := Lib.hid (show s.complete 0 0 = s from by unfold PS.complete; rw [if_neg (by rintro ⟨q1, q2, q3⟩; rw [HA.out.ok.b0] at q3; cases q3)])
      go_wp2_with fail
      go_ret
      rw [HR.out, HC.out]
      exact ⟨rfl, HA.out, FrIn.refl _ _ _ _⟩
    · have g1 : decide (1 ≤ K) = true := decide_eq_true (by omega)
      have g1' : decide ((1 : Int) ≤ (K : Int)) = true := decide_eq_true (by omega)
      by_cases hK : K ≤ 31
      · have g2 : decide (K ≤ 31) = true := decide_eq_true (by omega)
        have g2' : decide ((K : Int) ≤ 31) = true := decide_eq_true (by omega)
        have hK32 : K < 32 := by omega
        have c1 := HA.out.on0_ hK32
        have c2 := HA.out.busy_ hK32
        have hfz := HA.out.seg.free
        cases ho : s.on0.testBit K
        · have HC := Lib.hid (show s.complete 0 K = s from by unfold PS.complete; rw [if_neg (by rintro ⟨q1, q2, q3⟩; rw [show s.on 0 = s.on0 from rfl, ho] at q2; cases q2)])
          rw [ho] at c1
          clear ho
          go_wp2_with fail
          go_ret
          rw [HR.out, HC.out]
          exact ⟨rfl, HA.out, FrIn.refl _ _ _ _⟩
        · rw [ho] at c1
          cases hb : s.busy.testBit K
          · have HC := Lib.hid (show s.complete 0 K = s from by unfold PS.complete; rw [if_neg (by rintro ⟨q1, q2, q3⟩; rw [hb] at q3; cases q3)])
            rw [hb] at c2
            clear hb ho
            go_wp2_with fail
            go_ret
            rw [HR.out, HC.out]
            exact ⟨rfl, HA.out, FrIn.refl _ _ _ _⟩
          · rw [hb] at c2
            have HC := Lib.hid (show s.complete 0 K = ({ s with busy := setB s.busy K false } : PS).look K from by unfold PS.complete; rw [if_pos ⟨hK, ho, hb⟩])
            have HP := Lib.hid (HA.out.putSrc (k := 3) (HA.out.ok.busy1 hK0 hK32 false) hK32 (by omega) (rset_busy s hK32 false))
            clear hb ho
            go_wp2_with fail
            refine (rlook_c _ b o _ K HP.out.1 hK0 hK32).mono ?_
            rintro e w2 ⟨rfl, hp, hf⟩
            have H2 := Lib.hid hp
            have F2 := Lib.hid (HP.out.2.trans hf)
            clear hp hf
            go_wp2_with fail
            go_ret
            rw [HR.out, HC.out]
            exact ⟨rfl, H2.out, F2.out⟩
      · have g2 : decide (K ≤ 31) = false := decide_eq_false (by omega)
        have g2' : decide ((K : Int) ≤ 31) = false := decide_eq_false (by omega)
        have HC := Lib.hid (show s.complete 0 K = s from by unfold PS.complete; rw [if_neg (by rintro ⟨q1, q2, q3⟩; exact hK q1)])
        go_wp2_with fail
        go_ret
        rw [HR.out, HC.out]
        exact ⟨rfl, HA.out, FrIn.refl _ _ _ _⟩
set_option maxRecDepth 100000 in
set_option maxHeartbeats 4000000 in
theorem rWrite_2101252 (w : World) (b o : Nat) (s : PS) (v : Nat) (h : RAt w b o s) :
    Calls Tryd.prog 61 #[.pointer (some ⟨b, o, none⟩), .int .u64 2101252, .int .i64 4, .int .u64 (v : Int)] w fun e w' => e = .returned (.bool (s.write 2101252 4 v).2) ∧ RAt w' b o (s.write 2101252 4 v).1 ∧ FrIn b o 194 w w' := by
  have HA := Lib.hid h
  obtain ⟨K, hK⟩ : ∃ K, K = v % 4294967296 := ⟨_, rfl⟩
  have HR := Lib.hid (show s.write 2101252 4 v = (s.complete 1 K, true) by rw [hK]; rfl)
  obtain ⟨r1, r2, r3, r4⟩ := rem32r v K hK
  clear h hK
  go_enter Tryd.func61, Tryd.ntmps61
  go_wp2_with fail
  go_loopw [9] (fun i wr => ∃ k : Nat, k ≤ 1 ∧ w = wr ∧ i = .int .i64 (k : Int)) (fun i _ => 2 - (intOf i).toNat)
  case atStart => exact ⟨0, by omega, rfl, rfl⟩
  case round =>
    obtain ⟨k, hk, rfl, rfl⟩ := hrel
    rcases (show k = 0 ∨ k = 1 by omega) with rfl | rfl
    · go_wp2_with fail
      exact ⟨⟨1, by omega, trivial, rfl⟩, by simp [intOf]⟩
    · skip
      rcases Nat.eq_zero_or_pos K with rfl | hK0
      · have HC := Lib.hid (show s.complete 1 0 = s from by unfold PS.complete; rw [if_neg (by rintro ⟨q1, q2, q3⟩; rw [HA.out.ok.b0] at q3; cases q3)])
        go_wp2_with fail
        go_ret
        rw [HR.out, HC.out]
        exact ⟨rfl, HA.out, FrIn.refl _ _ _ _⟩
      · have g1 : decide (1 ≤ K) = true := decide_eq_true (by omega)
        have g1' : decide ((1 : Int) ≤ (K : Int)) = true := decide_eq_true (by omega)
        by_cases hK : K ≤ 31
        · have g2 : decide (K ≤ 31) = true := decide_eq_true (by omega)
          have g2' : decide ((K : Int) ≤ 31) = true := decide_eq_true (by omega)
          have hK32 : K < 32 := by omega
          have c1 := HA.out.on1_ hK32
          have c2 := HA.out.busy_ hK32
          have hfz := HA.out.seg.free
          cases ho : s.on1.testBit K
          · have HC := Lib.hid (show s.complete 1 K = s from by unfold PS.complete; rw [if_neg (by rintro ⟨q1, q2, q3⟩; rw [show s.on 1 = s.on1 from rfl, ho] at q2; cases q2)])
            rw [ho] at c1
            clear ho
            go_wp2_with fail
            go_ret
            rw [HR.out, HC.out]
            exact ⟨rfl, HA.out, FrIn.refl _ _ _ _⟩
          · rw [ho] at c1
            cases hb : s.busy.testBit K
            · have HC := Lib.hid (show s.complete 1 K = s from by unfold PS.complete; rw [if_neg (by rintro ⟨q1, q2, q3⟩; rw [hb] at q3; cases q3)])
              rw [hb] at c2
              clear hb ho
              go_wp2_with fail
              go_ret
              rw [HR.out, HC.out]
              exact ⟨rfl, HA.out, FrIn.refl _ _ _ _⟩
            · rw [hb] at c2
              have HC := Lib.hid (show s.complete 1 K = ({ s with busy := setB s.busy K false } : PS).look K from by unfold PS.complete; rw [if_pos ⟨hK, ho, hb⟩])
              have HP := Lib.hid (HA.out.putSrc (k := 3) (HA.out.ok.busy1 hK0 hK32 false) hK32 (by omega) (rset_busy s hK32 false))
              clear hb ho
              go_wp2_with fail
              refine (rlook_c _ b o _ K HP.out.1 hK0 hK32).mono ?_
              rintro e w2 ⟨rfl, hp, hf⟩
              have H2 := Lib.hid hp
              have F2 := Lib.hid (HP.out.2.trans hf)
              clear hp hf
              go_wp2_with fail
              go_ret
              rw [HR.out, HC.out]
              exact ⟨rfl, H2.out, F2.out⟩
        · have g2 : decide (K ≤ 31) = false := decide_eq_false (by omega)
          have g2' : decide ((K : Int) ≤ 31) = false := decide_eq_false (by omega)
          have HC := Lib.hid (show s.complete 1 K = s from by unfold PS.complete; rw [if_neg (by rintro ⟨q1, q2, q3⟩; exact hK q1)])
          go_wp2_with fail
          go_ret
          rw [HR.out, HC.out]
          exact ⟨rfl, HA.out, FrIn.refl _ _ _ _⟩
set_option maxRecDepth 100000 in
set_option maxHeartbeats 4000000 in
theorem rWrite_c (w : World) (b o : Nat) (s : PS) (off : Nat) (n : Int) (v : Nat) (hv : v < 18446744073709551616) (h : RAt w b o s) :
    Calls Tryd.prog 61 #[.pointer (some ⟨b, o, none⟩), .int .u64 (off : Int), .int .i64 n, .int .u64 (v : Int)] w fun e w' => e = .returned (.bool (s.write off n v).2) ∧ RAt w' b o (s.write off n v).1 ∧ FrIn b o 194 w w' := by
  by_cases hn : n = 4
  · subst hn
    by_cases h1 : off < 128 ∧ off % 4 = 0
    · obtain ⟨k, rfl⟩ : ∃ k, off = 4 * k := ⟨off / 4, by omega⟩
      exact rWrite_prio w b o s k v (by omega) h
    by_cases hA : off = 4096
    · subst hA
      have HA := Lib.hid h
      have HR := Lib.hid (show s.write 4096 4 v = (s, true) from rfl)
      clear h hv
      go_enter Tryd.func61, Tryd.ntmps61
      go_wp2_with fail
      go_ret
      rw [HR.out]
      exact ⟨rfl, HA.out, FrIn.refl _ _ _ _⟩
    by_cases hB : off = 8192
    · subst hB; exact rWrite_8192 w b o s v hv h
    by_cases hC : off = 8320
    · subst hC; exact rWrite_8320 w b o s v hv h
    by_cases hD : off = 2097152
    · subst hD; exact rWrite_2097152 w b o s v hv h
    by_cases hE : off = 2101248
    · subst hE; exact rWrite_2101248 w b o s v hv h
    by_cases hF : off = 2097156
    · subst hF; exact rWrite_2097156 w b o s v h
    by_cases hG : off = 2101252
    · subst hG; exact rWrite_2101252 w b o s v h
    have hr : s.write off 4 v = (s, false) := by
      unfold PS.write
      rw [if_neg (by decide), if_neg h1, if_neg hA, if_neg hB, if_neg hC, if_neg hD, if_neg hE, if_neg hF, if_neg hG]
    have n1 : ((off : Int) == 4096) = false := by rw [beq_eq_false_iff_ne]; omega
    have n2 : ((off : Int) == 8192) = false := by rw [beq_eq_false_iff_ne]; omega
    have n3 : ((off : Int) == 8320) = false := by rw [beq_eq_false_iff_ne]; omega
    have n4 : ((off : Int) == 2097152) = false := by rw [beq_eq_false_iff_ne]; omega
    have n5 : ((off : Int) == 2101248) = false := by rw [beq_eq_false_iff_ne]; omega
    have n6 : ((off : Int) == 2097156) = false := by rw [beq_eq_false_iff_ne]; omega
    have n7 : ((off : Int) == 2101252) = false := by rw [beq_eq_false_iff_ne]; omega
    have HR := Lib.hid hr
    have HA := Lib.hid h
    by_cases h2 : off < 128
    · have hm : (((off : Int).tmod 4) == 0) = false := by rw [beq_eq_false_iff_ne, Int.tmod_eq_emod_of_nonneg (by omega)]; omega
      have hm' : (((off : Int) % 4) == 0) = false := by rw [beq_eq_false_iff_ne]; omega
      clear hr hA hB hC hD hE hF hG h1 h hv
      go_enter Tryd.func61, Tryd.ntmps61
      go_wp2_with fail
      go_loopw [9] (fun i wr => ∃ k : Nat, k ≤ 2 ∧ w = wr ∧ i = .int .i64 (k : Int)) (fun i _ => 2 - (intOf i).toNat)
      case atStart => exact ⟨0, by omega, rfl, rfl⟩
      case round =>
        obtain ⟨k, hk, rfl, rfl⟩ := hrel
        rcases (show k = 0 ∨ k = 1 ∨ k = 2 by omega) with rfl | rfl | rfl
        · go_wp2_with fail
          exact ⟨⟨1, by omega, trivial, rfl⟩, by simp [intOf]⟩
        · go_wp2_with fail
          exact ⟨⟨2, by omega, trivial, rfl⟩, by simp [intOf]⟩
        · go_wp2_with fail
          go_ret
          rw [HR.out]
          exact ⟨rfl, HA.out, FrIn.refl _ _ _ _⟩
    · have hm : decide ((off : Int) < 128) = false := decide_eq_false (by omega)
      clear hr hA hB hC hD hE hF hG h1 h hv
      go_enter Tryd.func61, Tryd.ntmps61
      go_wp2_with fail
      go_loopw [9] (fun i wr => ∃ k : Nat, k ≤ 2 ∧ w = wr ∧ i = .int .i64 (k : Int)) (fun i _ => 2 - (intOf i).toNat)
      case atStart => exact ⟨0, by omega, rfl, rfl⟩
      case round =>
        obtain ⟨k, hk, rfl, rfl⟩ := hrel
        rcases (show k = 0 ∨ k = 1 ∨ k = 2 by omega) with rfl | rfl | rfl
        · go_wp2_with fail
          exact ⟨⟨1, by omega, trivial, rfl⟩, by simp [intOf]⟩
        · go_wp2_with fail
          exact ⟨⟨2, by omega, trivial, rfl⟩, by simp [intOf]⟩
        · go_wp2_with fail
          go_ret
          rw [HR.out]
          exact ⟨rfl, HA.out, FrIn.refl _ _ _ _⟩
  · have hr : s.write off n v = (s, false) := by unfold PS.write; rw [if_pos hn]
    have hne : (n != 4) = true := by rw [bne_iff_ne]; exact hn
    clear hv
    go_enter Tryd.func61, Tryd.ntmps61
    go_wp2_with fail
    go_ret
    rw [hr]
    exact ⟨rfl, h, FrIn.refl _ _ _ _⟩
end Go.Proofs.YtcnglhneknbllaaDoor

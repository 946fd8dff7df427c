/-
  The statement PlicThrough: its walk.
-/
import Derived.Test.YtcnglhneknbllaaDoorPlicA
import Derived.Test.YtcnglhneknbllaaDoorPlicT
namespace Go.Proofs.YtcnglhneknbllaaDoor
open Go Go.RowKit

theorem i64_and_nat' (x : Int) (k m : Nat) (hk : k ≤ 16) (hm : m = 2 ^ k - 1) : ∃ r : Nat, r ≤ m ∧ bits .and .i64 x (m : Int) = (r : Int) := by
  have hlt : (2 : Nat) ^ k ≤ 2 ^ 16 := Nat.pow_le_pow_right (by omega) hk
  have hml : m < 65536 := by
    have : 0 < 2 ^ k := Nat.two_pow_pos k
    omega
  refine ⟨(BitVec.ofInt 64 x &&& BitVec.ofInt 64 (m : Int)).toNat, ?_, ?_⟩
  · rw [BitVec.toNat_and]
    have h2 : (BitVec.ofInt 64 (m : Int)).toNat = m := by
      rw [BitVec.ofInt_natCast, BitVec.toNat_ofNat]; exact Nat.mod_eq_of_lt (by omega)
    rw [h2]
    exact Nat.and_le_right
  · show IntKind.i64.wrap ((BitVec.ofInt 64 x &&& BitVec.ofInt 64 (m : Int)).toNat : Int) = _
    have h2 : (BitVec.ofInt 64 (m : Int)).toNat = m := by
      rw [BitVec.ofInt_natCast, BitVec.toNat_ofNat]; exact Nat.mod_eq_of_lt (by omega)
    have h3 : (BitVec.ofInt 64 x &&& BitVec.ofInt 64 (m : Int)).toNat ≤ m := by
      rw [BitVec.toNat_and, h2]; exact Nat.and_le_right
    generalize (BitVec.ofInt 64 x &&& BitVec.ofInt 64 (m : Int)).toNat = r at h3 ⊢
    rw [IntKind.wrap_i64]
    omega
theorem wrap64_one (r s : Nat) (h : s = 1 + r) (hr : r < 31) : wrap64 (1 + (r : Int)) = (s : Int) := by unfold wrap64; omega
theorem rem31 (m : Nat) : (m : Int).tmod 31 = ((m % 31 : Nat) : Int) ∧ (m : Int) % 31 = ((m % 31 : Nat) : Int) := ⟨by rw [Int.tmod_eq_emod_of_nonneg (by omega)]; omega, by omega⟩
theorem rem8 (m : Nat) : (m : Int).tmod 8 = ((m % 8 : Nat) : Int) ∧ (m : Int) % 8 = ((m % 8 : Nat) : Int) := ⟨by rw [Int.tmod_eq_emod_of_nonneg (by omega)]; omega, by omega⟩
theorem times4 (s : Nat) (h : s ≤ 31) : IntKind.u64.wrap (4 * (s : Int)) = ((4 * s : Nat) : Int) := by rw [IntKind.wrap_u64]; omega
theorem pos_ne (s : Nat) (h : 1 ≤ s) : ((s : Int) != 0) = true := by rw [bne_iff_ne]; omega
theorem pos_ne2 (s : Nat) (h : 1 ≤ s) : ((0 : Int) == (s : Int)) = false := by rw [beq_eq_false_iff_ne]; omega
theorem shl64 (i : Nat) (h : i < 64) : ∃ m : Nat, m = 2 ^ i ∧ m < 18446744073709551616 ∧ IntKind.u64.wrap ((2 : Int) ^ i) = (m : Int) := by
  have h2 : (2 : Nat) ^ i < 2 ^ 64 := Nat.pow_lt_pow_right (by omega) h
  have e : ((2 : Int) ^ i) = ((2 ^ i : Nat) : Int) := by simp
  refine ⟨2 ^ i, rfl, h2, ?_⟩
  rw [e, IntKind.wrap_u64]
  generalize (2 : Nat) ^ i = m at h2 ⊢
  omega
set_option maxRecDepth 100000 in
set_option maxHeartbeats 8000000 in
theorem PlicThrough_c (w : World) (hT : TzAt w) (source ctx : Int) (prio floor : Nat) (hp : prio < 18446744073709551616) (hf : floor < 18446744073709551616) (still : Bool) :
    Calls Tryd.prog 12 #[.int .i64 source, .int .i64 ctx, .int .u64 (prio : Int), .int .u64 (floor : Int), .bool still] w fun e w' => e = .returned (.bool true) ∧ Fr No w w' := by
  have HT := Lib.hid hT
  have HP := Lib.hid hp
  have HF := Lib.hid hf
  obtain ⟨m, hm, hms⟩ := i64_and_nat' source 10 1023 (by omega) rfl
  obtain ⟨c, hc, hcs⟩ := i64_and_nat' ctx 1 1 (by omega) rfl
  have hms : bits BinOp.and IntKind.i64 source 1023 = (m : Int) := hms
  have hcs : bits BinOp.and IntKind.i64 ctx 1 = (c : Int) := hcs
  obtain ⟨r, hr⟩ : ∃ r, r = m % 31 := ⟨_, rfl⟩
  have hrl : r < 31 := by rw [hr]; exact Nat.mod_lt _ (by omega)
  obtain ⟨hm1, hm2⟩ := rem31 m
  rw [← hr] at hm1 hm2
  obtain ⟨s, hs⟩ : ∃ s, s = 1 + r := ⟨_, rfl⟩
  have hs1 := wrap64_one r s hs hrl
  have hs2 : 1 + (r : Int) = (s : Int) := by rw [hs]; rfl
  have h1 : 1 ≤ s := by rw [hs]; exact Nat.le_add_right 1 r
  have h2 : s ≤ 31 := by rw [hs, Nat.add_comm]; exact hrl
  have hcl : c < 2 := Nat.lt_succ_of_le hc
  obtain ⟨p, hpp⟩ : ∃ p, p = prio % 8 := ⟨_, rfl⟩
  obtain ⟨f, hff⟩ : ∃ f, f = floor % 8 := ⟨_, rfl⟩
  obtain ⟨hp1, hp2⟩ := rem8 prio
  rw [← hpp] at hp1 hp2
  obtain ⟨hf1, hf2⟩ := rem8 floor
  rw [← hff] at hf1 hf2
  have hx41 := times4 s h2
  have hx4l : 4 * s < 18446744073709551616 := Nat.lt_of_le_of_lt (Nat.mul_le_mul_left 4 h2) (by decide)
  obtain ⟨x4, hx4⟩ : ∃ x4, x4 = 4 * s := ⟨_, rfl⟩
  rw [← hx4] at hx41 hx4l
  have HX4 := Lib.hid hx4l
  obtain ⟨q, hq, hql, hqs⟩ := shl64 s (Nat.lt_of_le_of_lt h2 (by decide))
  have HQ := Lib.hid hql
  obtain ⟨t1, t2, t3, t4, t5, t6, t7, t8, v, e1, e2, e3, e4, e5, l5, m5, u5, e6, hv, l6, e7, l7, e8, l8⟩ := PS.solo_all s c prio floor still h1 h2 hcl
  rw [← hpp, ← hff] at l5 l8
  rw [← hpp] at hv
  rw [← hx4] at e1
  rw [← hq] at e2
  have hsne : ((s : Int) != 0) = true := pos_ne s h1
  have hsne2 : ((0 : Int) == (s : Int)) = false := pos_ne2 s h1
  have E1 := Lib.hid e1
  have E4 := Lib.hid e4
  have E5 := Lib.hid e5
  have U5 := Lib.hid u5
  clear hT hp hf hpp hff hr hs hm hcl hx4 hx4l hq hql e1 e4 e5 u5 hrl
  rcases (show c = 0 ∨ c = 1 by omega) with rfl | rfl
  · have E2 : Hid (t1.write 8192 4 q = (t2, true)) := Lib.hid e2
    have E3 : Hid (t2.write 2097152 4 floor = (t3, true)) := Lib.hid e3
    have m5' : t5.line 1 = false := m5
    have M5 := Lib.hid m5'
    have E6 : Hid (t5.read 2097156 4 = (t6, v, true)) := Lib.hid e6
    have l6' : t6.line 0 = false := l6
    have L6 := Lib.hid l6'
    have E7 : Hid (t6.write 2101252 4 v = (t7, true)) := Lib.hid e7
    have e8' : t7.write 2097156 4 (v + 4294967296) = (t8, true) := e8
    have E8 := Lib.hid e8'
    have l5 : t5.line 0 = decide (f < p) := l5
    have l8 : t8.line 0 = (decide (f < p) && still) := l8
    have l7 : t7.line 0 = true → v = 0 := l7
    clear e2 e3 m5 m5' e6 l6 l6' e7 e8 e8'
    by_cases hfp : f < p
    · have hg : decide ((f : Int) < (p : Int)) = true := decide_eq_true (by omega)
      have hg0 : decide ((0 : Int) < (p : Int)) = true := decide_eq_true (by omega)
      rw [decide_eq_true hfp] at l5 l8
      rw [if_pos (by omega)] at hv
      rw [hv] at E6 E7 E8
      cases hb7 : t7.line 0
      · have L5 := Lib.hid l5
        have L7 := Lib.hid hb7
        clear l5 l7 hb7 hv
        cases still
        · have L8 : Hid (t8.line 0 = false) := Lib.hid l8
          clear l8
          go_enter Tryd.func12, Tryd.ntmps12
          go_wp2_with fail
          refine (pawake_c w HT.out).mono ?_
          rintro e w0 ⟨rfl, hf0⟩
          have F0 := Lib.hid hf0
          clear hf0
          go_wp2_with fail
          refine (PNew_c w0).mono ?_
          rintro e w1 ⟨rfl, hf1⟩
          have F1 := Lib.hid (F0.out.trans hf1)
          clear hf1
          go_wp2_with (refine wpList_store_row rfl 48 _ _ rfl _ _ rfl rfl _ _ (heap_alloc_new _ _) infoPic rfl (one_plist _) ?_)
          have h2_ := fun t old => Pic1.laid HT.out F1.out t old PS.new PS.ok_new
          generalize hW : (World.setRow _ _ _) = w2
          have Q2 := Lib.hid (by rw [← hW]; exact h2_ _ _ : Pic1 w w2 w1.heap.size PS.new)
          clear h2_ hW
          refine (bWrite x4 4 prio HX4.out HP.out Q2.out).mono ?_
          rw [E1.out]
          rintro e w3 ⟨rfl, h_⟩
          have Qw3 := Lib.hid h_
          clear h_
          go_wp2_with (first | refine wpList_load_seg rfl 48 _ rfl _ _ rfl _ Qw3.out.at_.seg _ Tryd.underlying48 rfl (infoPl Qw3.out.at_.ok) ?_ | refine wpList_load_seg_g rfl 48 _ rfl _ _ rfl _ Qw3.out.at_.seg _ Tryd.underlying48 rfl (infoPl Qw3.out.at_.ok) ?_)
          refine (bWrite 8192 4 q (by omega) HQ.out Qw3.out).mono ?_
          rw [E2.out]
          rintro e w4 ⟨rfl, h_⟩
          have Qw4 := Lib.hid h_
          clear h_
          go_wp2_with (first | refine wpList_load_seg rfl 48 _ rfl _ _ rfl _ Qw4.out.at_.seg _ Tryd.underlying48 rfl (infoPl Qw4.out.at_.ok) ?_ | refine wpList_load_seg_g rfl 48 _ rfl _ _ rfl _ Qw4.out.at_.seg _ Tryd.underlying48 rfl (infoPl Qw4.out.at_.ok) ?_)
          refine (bWrite 2097152 4 floor (by omega) HF.out Qw4.out).mono ?_
          rw [E3.out]
          rintro e w5 ⟨rfl, h_⟩
          have Qw5 := Lib.hid h_
          clear h_
          go_wp2_with (first | refine wpList_load_seg rfl 48 _ rfl _ _ rfl _ Qw5.out.at_.seg _ Tryd.underlying48 rfl (infoPl Qw5.out.at_.ok) ?_ | refine wpList_load_seg_g rfl 48 _ rfl _ _ rfl _ Qw5.out.at_.seg _ Tryd.underlying48 rfl (infoPl Qw5.out.at_.ok) ?_)
          refine (bLevel s true Qw5.out).mono ?_
          rw [E4.out]
          rintro e w6 ⟨rfl, h_⟩
          have Qw6 := Lib.hid h_
          clear h_
          go_wp2_with (first | refine wpList_load_seg rfl 48 _ rfl _ _ rfl _ Qw6.out.at_.seg _ Tryd.underlying48 rfl (infoPl Qw6.out.at_.ok) ?_ | refine wpList_load_seg_g rfl 48 _ rfl _ _ rfl _ Qw6.out.at_.seg _ Tryd.underlying48 rfl (infoPl Qw6.out.at_.ok) ?_)
          refine (bLevel s _ Qw6.out).mono ?_
          rw [E5.out]
          rintro e w7 ⟨rfl, h_⟩
          have Qw7 := Lib.hid h_
          clear h_
          go_wp2_with (first | refine wpList_load_seg rfl 48 _ rfl _ _ rfl _ Qw7.out.at_.seg _ Tryd.underlying48 rfl (infoPl Qw7.out.at_.ok) ?_ | refine wpList_load_seg_g rfl 48 _ rfl _ _ rfl _ Qw7.out.at_.seg _ Tryd.underlying48 rfl (infoPl Qw7.out.at_.ok) ?_)
          refine (bLine 0 Qw7.out).mono ?_
          rw [L5.out]
          rintro e w8 ⟨rfl, h_⟩
          have Qw8 := Lib.hid h_
          clear h_
          go_wp2_with (first | refine wpList_load_seg rfl 48 _ rfl _ _ rfl _ Qw8.out.at_.seg _ Tryd.underlying48 rfl (infoPl Qw8.out.at_.ok) ?_ | refine wpList_load_seg_g rfl 48 _ rfl _ _ rfl _ Qw8.out.at_.seg _ Tryd.underlying48 rfl (infoPl Qw8.out.at_.ok) ?_)
          refine (bLine 1 Qw8.out).mono ?_
          rw [M5.out]
          rintro e w9 ⟨rfl, h_⟩
          have Qw9 := Lib.hid h_
          clear h_
          go_wp2_with (first | refine wpList_load_seg rfl 48 _ rfl _ _ rfl _ Qw9.out.at_.seg _ Tryd.underlying48 rfl (infoPl Qw9.out.at_.ok) ?_ | refine wpList_load_seg_g rfl 48 _ rfl _ _ rfl _ Qw9.out.at_.seg _ Tryd.underlying48 rfl (infoPl Qw9.out.at_.ok) ?_)
          refine (bUp s Qw9.out).mono ?_
          rw [U5.out]
          rintro e wa ⟨rfl, h_⟩
          have Qwa := Lib.hid h_
          clear h_
          go_wp2_with (first | refine wpList_load_seg rfl 48 _ rfl _ _ rfl _ Qwa.out.at_.seg _ Tryd.underlying48 rfl (infoPl Qwa.out.at_.ok) ?_ | refine wpList_load_seg_g rfl 48 _ rfl _ _ rfl _ Qwa.out.at_.seg _ Tryd.underlying48 rfl (infoPl Qwa.out.at_.ok) ?_)
          refine (bRead 2097156 4 (by omega) Qwa.out).mono ?_
          rw [E6.out]
          rintro e wb ⟨rfl, h_⟩
          have Qwb := Lib.hid h_
          clear h_
          go_wp2_with (first | refine wpList_load_seg rfl 48 _ rfl _ _ rfl _ Qwb.out.at_.seg _ Tryd.underlying48 rfl (infoPl Qwb.out.at_.ok) ?_ | refine wpList_load_seg_g rfl 48 _ rfl _ _ rfl _ Qwb.out.at_.seg _ Tryd.underlying48 rfl (infoPl Qwb.out.at_.ok) ?_)
          refine (bLine 0 Qwb.out).mono ?_
          rw [L6.out]
          rintro e wc ⟨rfl, h_⟩
          have Qwc := Lib.hid h_
          clear h_
          go_wp2_with (first | refine wpList_load_seg rfl 48 _ rfl _ _ rfl _ Qwc.out.at_.seg _ Tryd.underlying48 rfl (infoPl Qwc.out.at_.ok) ?_ | refine wpList_load_seg_g rfl 48 _ rfl _ _ rfl _ Qwc.out.at_.seg _ Tryd.underlying48 rfl (infoPl Qwc.out.at_.ok) ?_)
          refine (bWrite 2101252 4 s (by omega) (by omega) Qwc.out).mono ?_
          rw [E7.out]
          rintro e wd ⟨rfl, h_⟩
          have Qwd := Lib.hid h_
          clear h_
          go_wp2_with (first | refine wpList_load_seg rfl 48 _ rfl _ _ rfl _ Qwd.out.at_.seg _ Tryd.underlying48 rfl (infoPl Qwd.out.at_.ok) ?_ | refine wpList_load_seg_g rfl 48 _ rfl _ _ rfl _ Qwd.out.at_.seg _ Tryd.underlying48 rfl (infoPl Qwd.out.at_.ok) ?_)
          refine (bLine 0 Qwd.out).mono ?_
          rw [L7.out]
          rintro e we ⟨rfl, h_⟩
          have Qwe := Lib.hid h_
          clear h_
          go_wp2_with (first | refine wpList_load_seg rfl 48 _ rfl _ _ rfl _ Qwe.out.at_.seg _ Tryd.underlying48 rfl (infoPl Qwe.out.at_.ok) ?_ | refine wpList_load_seg_g rfl 48 _ rfl _ _ rfl _ Qwe.out.at_.seg _ Tryd.underlying48 rfl (infoPl Qwe.out.at_.ok) ?_)
          refine (bWrite 2097156 4 (s + 4294967296) (by omega) (by omega) Qwe.out).mono ?_
          rw [E8.out]
          rintro e wf ⟨rfl, h_⟩
          have Qwf := Lib.hid h_
          clear h_
          go_wp2_with (first | refine wpList_load_seg rfl 48 _ rfl _ _ rfl _ Qwf.out.at_.seg _ Tryd.underlying48 rfl (infoPl Qwf.out.at_.ok) ?_ | refine wpList_load_seg_g rfl 48 _ rfl _ _ rfl _ Qwf.out.at_.seg _ Tryd.underlying48 rfl (infoPl Qwf.out.at_.ok) ?_)
          refine (bLine 0 Qwf.out).mono ?_
          rw [L8.out]
          rintro e wg ⟨rfl, h_⟩
          have Qwg := Lib.hid h_
          clear h_
          go_wp2_with (first | refine wpList_load_seg rfl 48 _ rfl _ _ rfl _ Qwg.out.at_.seg _ Tryd.underlying48 rfl (infoPl Qwg.out.at_.ok) ?_ | refine wpList_load_seg_g rfl 48 _ rfl _ _ rfl _ Qwg.out.at_.seg _ Tryd.underlying48 rfl (infoPl Qwg.out.at_.ok) ?_)
          go_ret
          exact ⟨rfl, Qwg.out.fr⟩
        · have L8 : Hid (t8.line 0 = true) := Lib.hid l8
          clear l8
          go_enter Tryd.func12, Tryd.ntmps12
          go_wp2_with fail
          refine (pawake_c w HT.out).mono ?_
          rintro e w0 ⟨rfl, hf0⟩
          have F0 := Lib.hid hf0
          clear hf0
          go_wp2_with fail
          refine (PNew_c w0).mono ?_
          rintro e w1 ⟨rfl, hf1⟩
          have F1 := Lib.hid (F0.out.trans hf1)
          clear hf1
          go_wp2_with (refine wpList_store_row rfl 48 _ _ rfl _ _ rfl rfl _ _ (heap_alloc_new _ _) infoPic rfl (one_plist _) ?_)
          have h2_ := fun t old => Pic1.laid HT.out F1.out t old PS.new PS.ok_new
          generalize hW : (World.setRow _ _ _) = w2
          have Q2 := Lib.hid (by rw [← hW]; exact h2_ _ _ : Pic1 w w2 w1.heap.size PS.new)
          clear h2_ hW
          refine (bWrite x4 4 prio HX4.out HP.out Q2.out).mono ?_
          rw [E1.out]
          rintro e w3 ⟨rfl, h_⟩
          have Qw3 := Lib.hid h_
          clear h_
          go_wp2_with (first | refine wpList_load_seg rfl 48 _ rfl _ _ rfl _ Qw3.out.at_.seg _ Tryd.underlying48 rfl (infoPl Qw3.out.at_.ok) ?_ | refine wpList_load_seg_g rfl 48 _ rfl _ _ rfl _ Qw3.out.at_.seg _ Tryd.underlying48 rfl (infoPl Qw3.out.at_.ok) ?_)
          refine (bWrite 8192 4 q (by omega) HQ.out Qw3.out).mono ?_
          rw [E2.out]
          rintro e w4 ⟨rfl, h_⟩
          have Qw4 := Lib.hid h_
          clear h_
          go_wp2_with (first | refine wpList_load_seg rfl 48 _ rfl _ _ rfl _ Qw4.out.at_.seg _ Tryd.underlying48 rfl (infoPl Qw4.out.at_.ok) ?_ | refine wpList_load_seg_g rfl 48 _ rfl _ _ rfl _ Qw4.out.at_.seg _ Tryd.underlying48 rfl (infoPl Qw4.out.at_.ok) ?_)
          refine (bWrite 2097152 4 floor (by omega) HF.out Qw4.out).mono ?_
          rw [E3.out]
          rintro e w5 ⟨rfl, h_⟩
          have Qw5 := Lib.hid h_
          clear h_
          go_wp2_with (first | refine wpList_load_seg rfl 48 _ rfl _ _ rfl _ Qw5.out.at_.seg _ Tryd.underlying48 rfl (infoPl Qw5.out.at_.ok) ?_ | refine wpList_load_seg_g rfl 48 _ rfl _ _ rfl _ Qw5.out.at_.seg _ Tryd.underlying48 rfl (infoPl Qw5.out.at_.ok) ?_)
          refine (bLevel s true Qw5.out).mono ?_
          rw [E4.out]
          rintro e w6 ⟨rfl, h_⟩
          have Qw6 := Lib.hid h_
          clear h_
          go_wp2_with (first | refine wpList_load_seg rfl 48 _ rfl _ _ rfl _ Qw6.out.at_.seg _ Tryd.underlying48 rfl (infoPl Qw6.out.at_.ok) ?_ | refine wpList_load_seg_g rfl 48 _ rfl _ _ rfl _ Qw6.out.at_.seg _ Tryd.underlying48 rfl (infoPl Qw6.out.at_.ok) ?_)
          refine (bLevel s _ Qw6.out).mono ?_
          rw [E5.out]
          rintro e w7 ⟨rfl, h_⟩
          have Qw7 := Lib.hid h_
          clear h_
          go_wp2_with (first | refine wpList_load_seg rfl 48 _ rfl _ _ rfl _ Qw7.out.at_.seg _ Tryd.underlying48 rfl (infoPl Qw7.out.at_.ok) ?_ | refine wpList_load_seg_g rfl 48 _ rfl _ _ rfl _ Qw7.out.at_.seg _ Tryd.underlying48 rfl (infoPl Qw7.out.at_.ok) ?_)
          refine (bLine 0 Qw7.out).mono ?_
          rw [L5.out]
          rintro e w8 ⟨rfl, h_⟩
          have Qw8 := Lib.hid h_
          clear h_
          go_wp2_with (first | refine wpList_load_seg rfl 48 _ rfl _ _ rfl _ Qw8.out.at_.seg _ Tryd.underlying48 rfl (infoPl Qw8.out.at_.ok) ?_ | refine wpList_load_seg_g rfl 48 _ rfl _ _ rfl _ Qw8.out.at_.seg _ Tryd.underlying48 rfl (infoPl Qw8.out.at_.ok) ?_)
          refine (bLine 1 Qw8.out).mono ?_
          rw [M5.out]
          rintro e w9 ⟨rfl, h_⟩
          have Qw9 := Lib.hid h_
          clear h_
          go_wp2_with (first | refine wpList_load_seg rfl 48 _ rfl _ _ rfl _ Qw9.out.at_.seg _ Tryd.underlying48 rfl (infoPl Qw9.out.at_.ok) ?_ | refine wpList_load_seg_g rfl 48 _ rfl _ _ rfl _ Qw9.out.at_.seg _ Tryd.underlying48 rfl (infoPl Qw9.out.at_.ok) ?_)
          refine (bUp s Qw9.out).mono ?_
          rw [U5.out]
          rintro e wa ⟨rfl, h_⟩
          have Qwa := Lib.hid h_
          clear h_
          go_wp2_with (first | refine wpList_load_seg rfl 48 _ rfl _ _ rfl _ Qwa.out.at_.seg _ Tryd.underlying48 rfl (infoPl Qwa.out.at_.ok) ?_ | refine wpList_load_seg_g rfl 48 _ rfl _ _ rfl _ Qwa.out.at_.seg _ Tryd.underlying48 rfl (infoPl Qwa.out.at_.ok) ?_)
          refine (bRead 2097156 4 (by omega) Qwa.out).mono ?_
          rw [E6.out]
          rintro e wb ⟨rfl, h_⟩
          have Qwb := Lib.hid h_
          clear h_
          go_wp2_with (first | refine wpList_load_seg rfl 48 _ rfl _ _ rfl _ Qwb.out.at_.seg _ Tryd.underlying48 rfl (infoPl Qwb.out.at_.ok) ?_ | refine wpList_load_seg_g rfl 48 _ rfl _ _ rfl _ Qwb.out.at_.seg _ Tryd.underlying48 rfl (infoPl Qwb.out.at_.ok) ?_)
          refine (bLine 0 Qwb.out).mono ?_
          rw [L6.out]
          rintro e wc ⟨rfl, h_⟩
          have Qwc := Lib.hid h_
          clear h_
          go_wp2_with (first | refine wpList_load_seg rfl 48 _ rfl _ _ rfl _ Qwc.out.at_.seg _ Tryd.underlying48 rfl (infoPl Qwc.out.at_.ok) ?_ | refine wpList_load_seg_g rfl 48 _ rfl _ _ rfl _ Qwc.out.at_.seg _ Tryd.underlying48 rfl (infoPl Qwc.out.at_.ok) ?_)
          refine (bWrite 2101252 4 s (by omega) (by omega) Qwc.out).mono ?_
          rw [E7.out]
          rintro e wd ⟨rfl, h_⟩
          have Qwd := Lib.hid h_
          clear h_
          go_wp2_with (first | refine wpList_load_seg rfl 48 _ rfl _ _ rfl _ Qwd.out.at_.seg _ Tryd.underlying48 rfl (infoPl Qwd.out.at_.ok) ?_ | refine wpList_load_seg_g rfl 48 _ rfl _ _ rfl _ Qwd.out.at_.seg _ Tryd.underlying48 rfl (infoPl Qwd.out.at_.ok) ?_)
          refine (bLine 0 Qwd.out).mono ?_
          rw [L7.out]
          rintro e we ⟨rfl, h_⟩
          have Qwe := Lib.hid h_
          clear h_
          go_wp2_with (first | refine wpList_load_seg rfl 48 _ rfl _ _ rfl _ Qwe.out.at_.seg _ Tryd.underlying48 rfl (infoPl Qwe.out.at_.ok) ?_ | refine wpList_load_seg_g rfl 48 _ rfl _ _ rfl _ Qwe.out.at_.seg _ Tryd.underlying48 rfl (infoPl Qwe.out.at_.ok) ?_)
          refine (bWrite 2097156 4 (s + 4294967296) (by omega) (by omega) Qwe.out).mono ?_
          rw [E8.out]
          rintro e wf ⟨rfl, h_⟩
          have Qwf := Lib.hid h_
          clear h_
          go_wp2_with (first | refine wpList_load_seg rfl 48 _ rfl _ _ rfl _ Qwf.out.at_.seg _ Tryd.underlying48 rfl (infoPl Qwf.out.at_.ok) ?_ | refine wpList_load_seg_g rfl 48 _ rfl _ _ rfl _ Qwf.out.at_.seg _ Tryd.underlying48 rfl (infoPl Qwf.out.at_.ok) ?_)
          refine (bLine 0 Qwf.out).mono ?_
          rw [L8.out]
          rintro e wg ⟨rfl, h_⟩
          have Qwg := Lib.hid h_
          clear h_
          go_wp2_with (first | refine wpList_load_seg rfl 48 _ rfl _ _ rfl _ Qwg.out.at_.seg _ Tryd.underlying48 rfl (infoPl Qwg.out.at_.ok) ?_ | refine wpList_load_seg_g rfl 48 _ rfl _ _ rfl _ Qwg.out.at_.seg _ Tryd.underlying48 rfl (infoPl Qwg.out.at_.ok) ?_)
          go_ret
          exact ⟨rfl, Qwg.out.fr⟩
      · exact absurd ((hv ▸ l7 hb7 : s = 0)) (by omega)
    · have hg : decide ((f : Int) < (p : Int)) = false := decide_eq_false (by omega)
      rw [decide_eq_false hfp] at l5 l8
      have L5 := Lib.hid l5
      have L8 : Hid (t8.line 0 = false) := Lib.hid l8
      clear l5 l8
      by_cases h0 : 0 < p
      · have hg0 : decide ((0 : Int) < (p : Int)) = true := decide_eq_true (by omega)
        rw [if_pos h0] at hv
        rw [hv] at E6 E7 E8
        cases hb7 : t7.line 0
        · have L7 := Lib.hid hb7
          clear l7 hb7 hv
          cases still
          · go_enter Tryd.func12, Tryd.ntmps12
            go_wp2_with fail
            refine (pawake_c w HT.out).mono ?_
            rintro e w0 ⟨rfl, hf0⟩
            have F0 := Lib.hid hf0
            clear hf0
            go_wp2_with fail
            refine (PNew_c w0).mono ?_
            rintro e w1 ⟨rfl, hf1⟩
            have F1 := Lib.hid (F0.out.trans hf1)
            clear hf1
            go_wp2_with (refine wpList_store_row rfl 48 _ _ rfl _ _ rfl rfl _ _ (heap_alloc_new _ _) infoPic rfl (one_plist _) ?_)
            have h2_ := fun t old => Pic1.laid HT.out F1.out t old PS.new PS.ok_new
            generalize hW : (World.setRow _ _ _) = w2
            have Q2 := Lib.hid (by rw [← hW]; exact h2_ _ _ : Pic1 w w2 w1.heap.size PS.new)
            clear h2_ hW
            refine (bWrite x4 4 prio HX4.out HP.out Q2.out).mono ?_
            rw [E1.out]
            rintro e w3 ⟨rfl, h_⟩
            have Qw3 := Lib.hid h_
            clear h_
            go_wp2_with (first | refine wpList_load_seg rfl 48 _ rfl _ _ rfl _ Qw3.out.at_.seg _ Tryd.underlying48 rfl (infoPl Qw3.out.at_.ok) ?_ | refine wpList_load_seg_g rfl 48 _ rfl _ _ rfl _ Qw3.out.at_.seg _ Tryd.underlying48 rfl (infoPl Qw3.out.at_.ok) ?_)
            refine (bWrite 8192 4 q (by omega) HQ.out Qw3.out).mono ?_
            rw [E2.out]
            rintro e w4 ⟨rfl, h_⟩
            have Qw4 := Lib.hid h_
            clear h_
            go_wp2_with (first | refine wpList_load_seg rfl 48 _ rfl _ _ rfl _ Qw4.out.at_.seg _ Tryd.underlying48 rfl (infoPl Qw4.out.at_.ok) ?_ | refine wpList_load_seg_g rfl 48 _ rfl _ _ rfl _ Qw4.out.at_.seg _ Tryd.underlying48 rfl (infoPl Qw4.out.at_.ok) ?_)
            refine (bWrite 2097152 4 floor (by omega) HF.out Qw4.out).mono ?_
            rw [E3.out]
            rintro e w5 ⟨rfl, h_⟩
            have Qw5 := Lib.hid h_
            clear h_
            go_wp2_with (first | refine wpList_load_seg rfl 48 _ rfl _ _ rfl _ Qw5.out.at_.seg _ Tryd.underlying48 rfl (infoPl Qw5.out.at_.ok) ?_ | refine wpList_load_seg_g rfl 48 _ rfl _ _ rfl _ Qw5.out.at_.seg _ Tryd.underlying48 rfl (infoPl Qw5.out.at_.ok) ?_)
            refine (bLevel s true Qw5.out).mono ?_
            rw [E4.out]
            rintro e w6 ⟨rfl, h_⟩
            have Qw6 := Lib.hid h_
            clear h_
            go_wp2_with (first | refine wpList_load_seg rfl 48 _ rfl _ _ rfl _ Qw6.out.at_.seg _ Tryd.underlying48 rfl (infoPl Qw6.out.at_.ok) ?_ | refine wpList_load_seg_g rfl 48 _ rfl _ _ rfl _ Qw6.out.at_.seg _ Tryd.underlying48 rfl (infoPl Qw6.out.at_.ok) ?_)
            refine (bLevel s _ Qw6.out).mono ?_
            rw [E5.out]
            rintro e w7 ⟨rfl, h_⟩
            have Qw7 := Lib.hid h_
            clear h_
            go_wp2_with (first | refine wpList_load_seg rfl 48 _ rfl _ _ rfl _ Qw7.out.at_.seg _ Tryd.underlying48 rfl (infoPl Qw7.out.at_.ok) ?_ | refine wpList_load_seg_g rfl 48 _ rfl _ _ rfl _ Qw7.out.at_.seg _ Tryd.underlying48 rfl (infoPl Qw7.out.at_.ok) ?_)
            refine (bLine 0 Qw7.out).mono ?_
            rw [L5.out]
            rintro e w8 ⟨rfl, h_⟩
            have Qw8 := Lib.hid h_
            clear h_
            go_wp2_with (first | refine wpList_load_seg rfl 48 _ rfl _ _ rfl _ Qw8.out.at_.seg _ Tryd.underlying48 rfl (infoPl Qw8.out.at_.ok) ?_ | refine wpList_load_seg_g rfl 48 _ rfl _ _ rfl _ Qw8.out.at_.seg _ Tryd.underlying48 rfl (infoPl Qw8.out.at_.ok) ?_)
            refine (bLine 1 Qw8.out).mono ?_
            rw [M5.out]
            rintro e w9 ⟨rfl, h_⟩
            have Qw9 := Lib.hid h_
            clear h_
            go_wp2_with (first | refine wpList_load_seg rfl 48 _ rfl _ _ rfl _ Qw9.out.at_.seg _ Tryd.underlying48 rfl (infoPl Qw9.out.at_.ok) ?_ | refine wpList_load_seg_g rfl 48 _ rfl _ _ rfl _ Qw9.out.at_.seg _ Tryd.underlying48 rfl (infoPl Qw9.out.at_.ok) ?_)
            refine (bUp s Qw9.out).mono ?_
            rw [U5.out]
            rintro e wa ⟨rfl, h_⟩
            have Qwa := Lib.hid h_
            clear h_
            go_wp2_with (first | refine wpList_load_seg rfl 48 _ rfl _ _ rfl _ Qwa.out.at_.seg _ Tryd.underlying48 rfl (infoPl Qwa.out.at_.ok) ?_ | refine wpList_load_seg_g rfl 48 _ rfl _ _ rfl _ Qwa.out.at_.seg _ Tryd.underlying48 rfl (infoPl Qwa.out.at_.ok) ?_)
            refine (bRead 2097156 4 (by omega) Qwa.out).mono ?_
            rw [E6.out]
            rintro e wb ⟨rfl, h_⟩
            have Qwb := Lib.hid h_
            clear h_
            go_wp2_with (first | refine wpList_load_seg rfl 48 _ rfl _ _ rfl _ Qwb.out.at_.seg _ Tryd.underlying48 rfl (infoPl Qwb.out.at_.ok) ?_ | refine wpList_load_seg_g rfl 48 _ rfl _ _ rfl _ Qwb.out.at_.seg _ Tryd.underlying48 rfl (infoPl Qwb.out.at_.ok) ?_)
            refine (bLine 0 Qwb.out).mono ?_
            rw [L6.out]
            rintro e wc ⟨rfl, h_⟩
            have Qwc := Lib.hid h_
            clear h_
            go_wp2_with (first | refine wpList_load_seg rfl 48 _ rfl _ _ rfl _ Qwc.out.at_.seg _ Tryd.underlying48 rfl (infoPl Qwc.out.at_.ok) ?_ | refine wpList_load_seg_g rfl 48 _ rfl _ _ rfl _ Qwc.out.at_.seg _ Tryd.underlying48 rfl (infoPl Qwc.out.at_.ok) ?_)
            refine (bWrite 2101252 4 s (by omega) (by omega) Qwc.out).mono ?_
            rw [E7.out]
            rintro e wd ⟨rfl, h_⟩
            have Qwd := Lib.hid h_
            clear h_
            go_wp2_with (first | refine wpList_load_seg rfl 48 _ rfl _ _ rfl _ Qwd.out.at_.seg _ Tryd.underlying48 rfl (infoPl Qwd.out.at_.ok) ?_ | refine wpList_load_seg_g rfl 48 _ rfl _ _ rfl _ Qwd.out.at_.seg _ Tryd.underlying48 rfl (infoPl Qwd.out.at_.ok) ?_)
            refine (bLine 0 Qwd.out).mono ?_
            rw [L7.out]
            rintro e we ⟨rfl, h_⟩
            have Qwe := Lib.hid h_
            clear h_
            go_wp2_with (first | refine wpList_load_seg rfl 48 _ rfl _ _ rfl _ Qwe.out.at_.seg _ Tryd.underlying48 rfl (infoPl Qwe.out.at_.ok) ?_ | refine wpList_load_seg_g rfl 48 _ rfl _ _ rfl _ Qwe.out.at_.seg _ Tryd.underlying48 rfl (infoPl Qwe.out.at_.ok) ?_)
            refine (bWrite 2097156 4 (s + 4294967296) (by omega) (by omega) Qwe.out).mono ?_
            rw [E8.out]
            rintro e wf ⟨rfl, h_⟩
            have Qwf := Lib.hid h_
            clear h_
            go_wp2_with (first | refine wpList_load_seg rfl 48 _ rfl _ _ rfl _ Qwf.out.at_.seg _ Tryd.underlying48 rfl (infoPl Qwf.out.at_.ok) ?_ | refine wpList_load_seg_g rfl 48 _ rfl _ _ rfl _ Qwf.out.at_.seg _ Tryd.underlying48 rfl (infoPl Qwf.out.at_.ok) ?_)
            refine (bLine 0 Qwf.out).mono ?_
            rw [L8.out]
            rintro e wg ⟨rfl, h_⟩
            have Qwg := Lib.hid h_
            clear h_
            go_wp2_with (first | refine wpList_load_seg rfl 48 _ rfl _ _ rfl _ Qwg.out.at_.seg _ Tryd.underlying48 rfl (infoPl Qwg.out.at_.ok) ?_ | refine wpList_load_seg_g rfl 48 _ rfl _ _ rfl _ Qwg.out.at_.seg _ Tryd.underlying48 rfl (infoPl Qwg.out.at_.ok) ?_)
            go_ret
            exact ⟨rfl, Qwg.out.fr⟩
          · go_enter Tryd.func12, Tryd.ntmps12
            go_wp2_with fail
            refine (pawake_c w HT.out).mono ?_
            rintro e w0 ⟨rfl, hf0⟩
            have F0 := Lib.hid hf0
            clear hf0
            go_wp2_with fail
            refine (PNew_c w0).mono ?_
            rintro e w1 ⟨rfl, hf1⟩
            have F1 := Lib.hid (F0.out.trans hf1)
            clear hf1
            go_wp2_with (refine wpList_store_row rfl 48 _ _ rfl _ _ rfl rfl _ _ (heap_alloc_new _ _) infoPic rfl (one_plist _) ?_)
            have h2_ := fun t old => Pic1.laid HT.out F1.out t old PS.new PS.ok_new
            generalize hW : (World.setRow _ _ _) = w2
            have Q2 := Lib.hid (by rw [← hW]; exact h2_ _ _ : Pic1 w w2 w1.heap.size PS.new)
            clear h2_ hW
            refine (bWrite x4 4 prio HX4.out HP.out Q2.out).mono ?_
            rw [E1.out]
            rintro e w3 ⟨rfl, h_⟩
            have Qw3 := Lib.hid h_
            clear h_
            go_wp2_with (first | refine wpList_load_seg rfl 48 _ rfl _ _ rfl _ Qw3.out.at_.seg _ Tryd.underlying48 rfl (infoPl Qw3.out.at_.ok) ?_ | refine wpList_load_seg_g rfl 48 _ rfl _ _ rfl _ Qw3.out.at_.seg _ Tryd.underlying48 rfl (infoPl Qw3.out.at_.ok) ?_)
            refine (bWrite 8192 4 q (by omega) HQ.out Qw3.out).mono ?_
            rw [E2.out]
            rintro e w4 ⟨rfl, h_⟩
            have Qw4 := Lib.hid h_
            clear h_
            go_wp2_with (first | refine wpList_load_seg rfl 48 _ rfl _ _ rfl _ Qw4.out.at_.seg _ Tryd.underlying48 rfl (infoPl Qw4.out.at_.ok) ?_ | refine wpList_load_seg_g rfl 48 _ rfl _ _ rfl _ Qw4.out.at_.seg _ Tryd.underlying48 rfl (infoPl Qw4.out.at_.ok) ?_)
            refine (bWrite 2097152 4 floor (by omega) HF.out Qw4.out).mono ?_
            rw [E3.out]
            rintro e w5 ⟨rfl, h_⟩
            have Qw5 := Lib.hid h_
            clear h_
            go_wp2_with (first | refine wpList_load_seg rfl 48 _ rfl _ _ rfl _ Qw5.out.at_.seg _ Tryd.underlying48 rfl (infoPl Qw5.out.at_.ok) ?_ | refine wpList_load_seg_g rfl 48 _ rfl _ _ rfl _ Qw5.out.at_.seg _ Tryd.underlying48 rfl (infoPl Qw5.out.at_.ok) ?_)
            refine (bLevel s true Qw5.out).mono ?_
            rw [E4.out]
            rintro e w6 ⟨rfl, h_⟩
            have Qw6 := Lib.hid h_
            clear h_
            go_wp2_with (first | refine wpList_load_seg rfl 48 _ rfl _ _ rfl _ Qw6.out.at_.seg _ Tryd.underlying48 rfl (infoPl Qw6.out.at_.ok) ?_ | refine wpList_load_seg_g rfl 48 _ rfl _ _ rfl _ Qw6.out.at_.seg _ Tryd.underlying48 rfl (infoPl Qw6.out.at_.ok) ?_)
            refine (bLevel s _ Qw6.out).mono ?_
            rw [E5.out]
            rintro e w7 ⟨rfl, h_⟩
            have Qw7 := Lib.hid h_
            clear h_
            go_wp2_with (first | refine wpList_load_seg rfl 48 _ rfl _ _ rfl _ Qw7.out.at_.seg _ Tryd.underlying48 rfl (infoPl Qw7.out.at_.ok) ?_ | refine wpList_load_seg_g rfl 48 _ rfl _ _ rfl _ Qw7.out.at_.seg _ Tryd.underlying48 rfl (infoPl Qw7.out.at_.ok) ?_)
            refine (bLine 0 Qw7.out).mono ?_
            rw [L5.out]
            rintro e w8 ⟨rfl, h_⟩
            have Qw8 := Lib.hid h_
            clear h_
            go_wp2_with (first | refine wpList_load_seg rfl 48 _ rfl _ _ rfl _ Qw8.out.at_.seg _ Tryd.underlying48 rfl (infoPl Qw8.out.at_.ok) ?_ | refine wpList_load_seg_g rfl 48 _ rfl _ _ rfl _ Qw8.out.at_.seg _ Tryd.underlying48 rfl (infoPl Qw8.out.at_.ok) ?_)
            refine (bLine 1 Qw8.out).mono ?_
            rw [M5.out]
            rintro e w9 ⟨rfl, h_⟩
            have Qw9 := Lib.hid h_
            clear h_
            go_wp2_with (first | refine wpList_load_seg rfl 48 _ rfl _ _ rfl _ Qw9.out.at_.seg _ Tryd.underlying48 rfl (infoPl Qw9.out.at_.ok) ?_ | refine wpList_load_seg_g rfl 48 _ rfl _ _ rfl _ Qw9.out.at_.seg _ Tryd.underlying48 rfl (infoPl Qw9.out.at_.ok) ?_)
            refine (bUp s Qw9.out).mono ?_
            rw [U5.out]
            rintro e wa ⟨rfl, h_⟩
            have Qwa := Lib.hid h_
            clear h_
            go_wp2_with (first | refine wpList_load_seg rfl 48 _ rfl _ _ rfl _ Qwa.out.at_.seg _ Tryd.underlying48 rfl (infoPl Qwa.out.at_.ok) ?_ | refine wpList_load_seg_g rfl 48 _ rfl _ _ rfl _ Qwa.out.at_.seg _ Tryd.underlying48 rfl (infoPl Qwa.out.at_.ok) ?_)
            refine (bRead 2097156 4 (by omega) Qwa.out).mono ?_
            rw [E6.out]
            rintro e wb ⟨rfl, h_⟩
            have Qwb := Lib.hid h_
            clear h_
            go_wp2_with (first | refine wpList_load_seg rfl 48 _ rfl _ _ rfl _ Qwb.out.at_.seg _ Tryd.underlying48 rfl (infoPl Qwb.out.at_.ok) ?_ | refine wpList_load_seg_g rfl 48 _ rfl _ _ rfl _ Qwb.out.at_.seg _ Tryd.underlying48 rfl (infoPl Qwb.out.at_.ok) ?_)
            refine (bLine 0 Qwb.out).mono ?_
            rw [L6.out]
            rintro e wc ⟨rfl, h_⟩
            have Qwc := Lib.hid h_
            clear h_
            go_wp2_with (first | refine wpList_load_seg rfl 48 _ rfl _ _ rfl _ Qwc.out.at_.seg _ Tryd.underlying48 rfl (infoPl Qwc.out.at_.ok) ?_ | refine wpList_load_seg_g rfl 48 _ rfl _ _ rfl _ Qwc.out.at_.seg _ Tryd.underlying48 rfl (infoPl Qwc.out.at_.ok) ?_)
            refine (bWrite 2101252 4 s (by omega) (by omega) Qwc.out).mono ?_
            rw [E7.out]
            rintro e wd ⟨rfl, h_⟩
            have Qwd := Lib.hid h_
            clear h_
            go_wp2_with (first | refine wpList_load_seg rfl 48 _ rfl _ _ rfl _ Qwd.out.at_.seg _ Tryd.underlying48 rfl (infoPl Qwd.out.at_.ok) ?_ | refine wpList_load_seg_g rfl 48 _ rfl _ _ rfl _ Qwd.out.at_.seg _ Tryd.underlying48 rfl (infoPl Qwd.out.at_.ok) ?_)
            refine (bLine 0 Qwd.out).mono ?_
            rw [L7.out]
            rintro e we ⟨rfl, h_⟩
            have Qwe := Lib.hid h_
            clear h_
            go_wp2_with (first | refine wpList_load_seg rfl 48 _ rfl _ _ rfl _ Qwe.out.at_.seg _ Tryd.underlying48 rfl (infoPl Qwe.out.at_.ok) ?_ | refine wpList_load_seg_g rfl 48 _ rfl _ _ rfl _ Qwe.out.at_.seg _ Tryd.underlying48 rfl (infoPl Qwe.out.at_.ok) ?_)
            refine (bWrite 2097156 4 (s + 4294967296) (by omega) (by omega) Qwe.out).mono ?_
            rw [E8.out]
            rintro e wf ⟨rfl, h_⟩
            have Qwf := Lib.hid h_
            clear h_
            go_wp2_with (first | refine wpList_load_seg rfl 48 _ rfl _ _ rfl _ Qwf.out.at_.seg _ Tryd.underlying48 rfl (infoPl Qwf.out.at_.ok) ?_ | refine wpList_load_seg_g rfl 48 _ rfl _ _ rfl _ Qwf.out.at_.seg _ Tryd.underlying48 rfl (infoPl Qwf.out.at_.ok) ?_)
            refine (bLine 0 Qwf.out).mono ?_
            rw [L8.out]
            rintro e wg ⟨rfl, h_⟩
            have Qwg := Lib.hid h_
            clear h_
            go_wp2_with (first | refine wpList_load_seg rfl 48 _ rfl _ _ rfl _ Qwg.out.at_.seg _ Tryd.underlying48 rfl (infoPl Qwg.out.at_.ok) ?_ | refine wpList_load_seg_g rfl 48 _ rfl _ _ rfl _ Qwg.out.at_.seg _ Tryd.underlying48 rfl (infoPl Qwg.out.at_.ok) ?_)
            go_ret
            exact ⟨rfl, Qwg.out.fr⟩
        · exact absurd ((hv ▸ l7 hb7 : s = 0)) (by omega)
      · have hg0 : decide ((0 : Int) < (p : Int)) = false := decide_eq_false (by omega)
        rw [if_neg h0] at hv
        rw [hv] at E6 E7 E8
        cases hb7 : t7.line 0
        · have L7 := Lib.hid hb7
          clear l7 hb7 hv
          cases still
          · go_enter Tryd.func12, Tryd.ntmps12
            go_wp2_with fail
            refine (pawake_c w HT.out).mono ?_
            rintro e w0 ⟨rfl, hf0⟩
            have F0 := Lib.hid hf0
            clear hf0
            go_wp2_with fail
            refine (PNew_c w0).mono ?_
            rintro e w1 ⟨rfl, hf1⟩
            have F1 := Lib.hid (F0.out.trans hf1)
            clear hf1
            go_wp2_with (refine wpList_store_row rfl 48 _ _ rfl _ _ rfl rfl _ _ (heap_alloc_new _ _) infoPic rfl (one_plist _) ?_)
            have h2_ := fun t old => Pic1.laid HT.out F1.out t old PS.new PS.ok_new
            generalize hW : (World.setRow _ _ _) = w2
            have Q2 := Lib.hid (by rw [← hW]; exact h2_ _ _ : Pic1 w w2 w1.heap.size PS.new)
            clear h2_ hW
            refine (bWrite x4 4 prio HX4.out HP.out Q2.out).mono ?_
            rw [E1.out]
            rintro e w3 ⟨rfl, h_⟩
            have Qw3 := Lib.hid h_
            clear h_
            go_wp2_with (first | refine wpList_load_seg rfl 48 _ rfl _ _ rfl _ Qw3.out.at_.seg _ Tryd.underlying48 rfl (infoPl Qw3.out.at_.ok) ?_ | refine wpList_load_seg_g rfl 48 _ rfl _ _ rfl _ Qw3.out.at_.seg _ Tryd.underlying48 rfl (infoPl Qw3.out.at_.ok) ?_)
            refine (bWrite 8192 4 q (by omega) HQ.out Qw3.out).mono ?_
            rw [E2.out]
            rintro e w4 ⟨rfl, h_⟩
            have Qw4 := Lib.hid h_
            clear h_
            go_wp2_with (first | refine wpList_load_seg rfl 48 _ rfl _ _ rfl _ Qw4.out.at_.seg _ Tryd.underlying48 rfl (infoPl Qw4.out.at_.ok) ?_ | refine wpList_load_seg_g rfl 48 _ rfl _ _ rfl _ Qw4.out.at_.seg _ Tryd.underlying48 rfl (infoPl Qw4.out.at_.ok) ?_)
            refine (bWrite 2097152 4 floor (by omega) HF.out Qw4.out).mono ?_
            rw [E3.out]
            rintro e w5 ⟨rfl, h_⟩
            have Qw5 := Lib.hid h_
            clear h_
            go_wp2_with (first | refine wpList_load_seg rfl 48 _ rfl _ _ rfl _ Qw5.out.at_.seg _ Tryd.underlying48 rfl (infoPl Qw5.out.at_.ok) ?_ | refine wpList_load_seg_g rfl 48 _ rfl _ _ rfl _ Qw5.out.at_.seg _ Tryd.underlying48 rfl (infoPl Qw5.out.at_.ok) ?_)
            refine (bLevel s true Qw5.out).mono ?_
            rw [E4.out]
            rintro e w6 ⟨rfl, h_⟩
            have Qw6 := Lib.hid h_
            clear h_
            go_wp2_with (first | refine wpList_load_seg rfl 48 _ rfl _ _ rfl _ Qw6.out.at_.seg _ Tryd.underlying48 rfl (infoPl Qw6.out.at_.ok) ?_ | refine wpList_load_seg_g rfl 48 _ rfl _ _ rfl _ Qw6.out.at_.seg _ Tryd.underlying48 rfl (infoPl Qw6.out.at_.ok) ?_)
            refine (bLevel s _ Qw6.out).mono ?_
            rw [E5.out]
            rintro e w7 ⟨rfl, h_⟩
            have Qw7 := Lib.hid h_
            clear h_
            go_wp2_with (first | refine wpList_load_seg rfl 48 _ rfl _ _ rfl _ Qw7.out.at_.seg _ Tryd.underlying48 rfl (infoPl Qw7.out.at_.ok) ?_ | refine wpList_load_seg_g rfl 48 _ rfl _ _ rfl _ Qw7.out.at_.seg _ Tryd.underlying48 rfl (infoPl Qw7.out.at_.ok) ?_)
            refine (bLine 0 Qw7.out).mono ?_
            rw [L5.out]
            rintro e w8 ⟨rfl, h_⟩
            have Qw8 := Lib.hid h_
            clear h_
            go_wp2_with (first | refine wpList_load_seg rfl 48 _ rfl _ _ rfl _ Qw8.out.at_.seg _ Tryd.underlying48 rfl (infoPl Qw8.out.at_.ok) ?_ | refine wpList_load_seg_g rfl 48 _ rfl _ _ rfl _ Qw8.out.at_.seg _ Tryd.underlying48 rfl (infoPl Qw8.out.at_.ok) ?_)
            refine (bLine 1 Qw8.out).mono ?_
            rw [M5.out]
            rintro e w9 ⟨rfl, h_⟩
            have Qw9 := Lib.hid h_
            clear h_
            go_wp2_with (first | refine wpList_load_seg rfl 48 _ rfl _ _ rfl _ Qw9.out.at_.seg _ Tryd.underlying48 rfl (infoPl Qw9.out.at_.ok) ?_ | refine wpList_load_seg_g rfl 48 _ rfl _ _ rfl _ Qw9.out.at_.seg _ Tryd.underlying48 rfl (infoPl Qw9.out.at_.ok) ?_)
            refine (bUp s Qw9.out).mono ?_
            rw [U5.out]
            rintro e wa ⟨rfl, h_⟩
            have Qwa := Lib.hid h_
            clear h_
            go_wp2_with (first | refine wpList_load_seg rfl 48 _ rfl _ _ rfl _ Qwa.out.at_.seg _ Tryd.underlying48 rfl (infoPl Qwa.out.at_.ok) ?_ | refine wpList_load_seg_g rfl 48 _ rfl _ _ rfl _ Qwa.out.at_.seg _ Tryd.underlying48 rfl (infoPl Qwa.out.at_.ok) ?_)
            refine (bRead 2097156 4 (by omega) Qwa.out).mono ?_
            rw [E6.out]
            rintro e wb ⟨rfl, h_⟩
            have Qwb := Lib.hid h_
            clear h_
            go_wp2_with (first | refine wpList_load_seg rfl 48 _ rfl _ _ rfl _ Qwb.out.at_.seg _ Tryd.underlying48 rfl (infoPl Qwb.out.at_.ok) ?_ | refine wpList_load_seg_g rfl 48 _ rfl _ _ rfl _ Qwb.out.at_.seg _ Tryd.underlying48 rfl (infoPl Qwb.out.at_.ok) ?_)
            refine (bLine 0 Qwb.out).mono ?_
            rw [L6.out]
            rintro e wc ⟨rfl, h_⟩
            have Qwc := Lib.hid h_
            clear h_
            go_wp2_with (first | refine wpList_load_seg rfl 48 _ rfl _ _ rfl _ Qwc.out.at_.seg _ Tryd.underlying48 rfl (infoPl Qwc.out.at_.ok) ?_ | refine wpList_load_seg_g rfl 48 _ rfl _ _ rfl _ Qwc.out.at_.seg _ Tryd.underlying48 rfl (infoPl Qwc.out.at_.ok) ?_)
            refine (bWrite 2101252 4 0 (by omega) (by omega) Qwc.out).mono ?_
            rw [E7.out]
            rintro e wd ⟨rfl, h_⟩
            have Qwd := Lib.hid h_
            clear h_
            go_wp2_with (first | refine wpList_load_seg rfl 48 _ rfl _ _ rfl _ Qwd.out.at_.seg _ Tryd.underlying48 rfl (infoPl Qwd.out.at_.ok) ?_ | refine wpList_load_seg_g rfl 48 _ rfl _ _ rfl _ Qwd.out.at_.seg _ Tryd.underlying48 rfl (infoPl Qwd.out.at_.ok) ?_)
            refine (bLine 0 Qwd.out).mono ?_
            rw [L7.out]
            rintro e we ⟨rfl, h_⟩
            have Qwe := Lib.hid h_
            clear h_
            go_wp2_with (first | refine wpList_load_seg rfl 48 _ rfl _ _ rfl _ Qwe.out.at_.seg _ Tryd.underlying48 rfl (infoPl Qwe.out.at_.ok) ?_ | refine wpList_load_seg_g rfl 48 _ rfl _ _ rfl _ Qwe.out.at_.seg _ Tryd.underlying48 rfl (infoPl Qwe.out.at_.ok) ?_)
            refine (bWrite 2097156 4 (0 + 4294967296) (by omega) (by omega) Qwe.out).mono ?_
            rw [E8.out]
            rintro e wf ⟨rfl, h_⟩
            have Qwf := Lib.hid h_
            clear h_
            go_wp2_with (first | refine wpList_load_seg rfl 48 _ rfl _ _ rfl _ Qwf.out.at_.seg _ Tryd.underlying48 rfl (infoPl Qwf.out.at_.ok) ?_ | refine wpList_load_seg_g rfl 48 _ rfl _ _ rfl _ Qwf.out.at_.seg _ Tryd.underlying48 rfl (infoPl Qwf.out.at_.ok) ?_)
            refine (bLine 0 Qwf.out).mono ?_
            rw [L8.out]
            rintro e wg ⟨rfl, h_⟩
            have Qwg := Lib.hid h_
            clear h_
            go_wp2_with (first | refine wpList_load_seg rfl 48 _ rfl _ _ rfl _ Qwg.out.at_.seg _ Tryd.underlying48 rfl (infoPl Qwg.out.at_.ok) ?_ | refine wpList_load_seg_g rfl 48 _ rfl _ _ rfl _ Qwg.out.at_.seg _ Tryd.underlying48 rfl (infoPl Qwg.out.at_.ok) ?_)
            go_ret
            exact ⟨rfl, Qwg.out.fr⟩
          · go_enter Tryd.func12, Tryd.ntmps12
            go_wp2_with fail
            refine (pawake_c w HT.out).mono ?_
            rintro e w0 ⟨rfl, hf0⟩
            have F0 := Lib.hid hf0
            clear hf0
            go_wp2_with fail
            refine (PNew_c w0).mono ?_
            rintro e w1 ⟨rfl, hf1⟩
            have F1 := Lib.hid (F0.out.trans hf1)
            clear hf1
            go_wp2_with (refine wpList_store_row rfl 48 _ _ rfl _ _ rfl rfl _ _ (heap_alloc_new _ _) infoPic rfl (one_plist _) ?_)
            have h2_ := fun t old => Pic1.laid HT.out F1.out t old PS.new PS.ok_new
            generalize hW : (World.setRow _ _ _) = w2
            have Q2 := Lib.hid (by rw [← hW]; exact h2_ _ _ : Pic1 w w2 w1.heap.size PS.new)
            clear h2_ hW
            refine (bWrite x4 4 prio HX4.out HP.out Q2.out).mono ?_
            rw [E1.out]
            rintro e w3 ⟨rfl, h_⟩
            have Qw3 := Lib.hid h_
            clear h_
            go_wp2_with (first | refine wpList_load_seg rfl 48 _ rfl _ _ rfl _ Qw3.out.at_.seg _ Tryd.underlying48 rfl (infoPl Qw3.out.at_.ok) ?_ | refine wpList_load_seg_g rfl 48 _ rfl _ _ rfl _ Qw3.out.at_.seg _ Tryd.underlying48 rfl (infoPl Qw3.out.at_.ok) ?_)
            refine (bWrite 8192 4 q (by omega) HQ.out Qw3.out).mono ?_
            rw [E2.out]
            rintro e w4 ⟨rfl, h_⟩
            have Qw4 := Lib.hid h_
            clear h_
            go_wp2_with (first | refine wpList_load_seg rfl 48 _ rfl _ _ rfl _ Qw4.out.at_.seg _ Tryd.underlying48 rfl (infoPl Qw4.out.at_.ok) ?_ | refine wpList_load_seg_g rfl 48 _ rfl _ _ rfl _ Qw4.out.at_.seg _ Tryd.underlying48 rfl (infoPl Qw4.out.at_.ok) ?_)
            refine (bWrite 2097152 4 floor (by omega) HF.out Qw4.out).mono ?_
            rw [E3.out]
            rintro e w5 ⟨rfl, h_⟩
            have Qw5 := Lib.hid h_
            clear h_
            go_wp2_with (first | refine wpList_load_seg rfl 48 _ rfl _ _ rfl _ Qw5.out.at_.seg _ Tryd.underlying48 rfl (infoPl Qw5.out.at_.ok) ?_ | refine wpList_load_seg_g rfl 48 _ rfl _ _ rfl _ Qw5.out.at_.seg _ Tryd.underlying48 rfl (infoPl Qw5.out.at_.ok) ?_)
            refine (bLevel s true Qw5.out).mono ?_
            rw [E4.out]
            rintro e w6 ⟨rfl, h_⟩
            have Qw6 := Lib.hid h_
            clear h_
            go_wp2_with (first | refine wpList_load_seg rfl 48 _ rfl _ _ rfl _ Qw6.out.at_.seg _ Tryd.underlying48 rfl (infoPl Qw6.out.at_.ok) ?_ | refine wpList_load_seg_g rfl 48 _ rfl _ _ rfl _ Qw6.out.at_.seg _ Tryd.underlying48 rfl (infoPl Qw6.out.at_.ok) ?_)
            refine (bLevel s _ Qw6.out).mono ?_
            rw [E5.out]
            rintro e w7 ⟨rfl, h_⟩
            have Qw7 := Lib.hid h_
            clear h_
            go_wp2_with (first | refine wpList_load_seg rfl 48 _ rfl _ _ rfl _ Qw7.out.at_.seg _ Tryd.underlying48 rfl (infoPl Qw7.out.at_.ok) ?_ | refine wpList_load_seg_g rfl 48 _ rfl _ _ rfl _ Qw7.out.at_.seg _ Tryd.underlying48 rfl (infoPl Qw7.out.at_.ok) ?_)
            refine (bLine 0 Qw7.out).mono ?_
            rw [L5.out]
            rintro e w8 ⟨rfl, h_⟩
            have Qw8 := Lib.hid h_
            clear h_
            go_wp2_with (first | refine wpList_load_seg rfl 48 _ rfl _ _ rfl _ Qw8.out.at_.seg _ Tryd.underlying48 rfl (infoPl Qw8.out.at_.ok) ?_ | refine wpList_load_seg_g rfl 48 _ rfl _ _ rfl _ Qw8.out.at_.seg _ Tryd.underlying48 rfl (infoPl Qw8.out.at_.ok) ?_)
            refine (bLine 1 Qw8.out).mono ?_
            rw [M5.out]
            rintro e w9 ⟨rfl, h_⟩
            have Qw9 := Lib.hid h_
            clear h_
            go_wp2_with (first | refine wpList_load_seg rfl 48 _ rfl _ _ rfl _ Qw9.out.at_.seg _ Tryd.underlying48 rfl (infoPl Qw9.out.at_.ok) ?_ | refine wpList_load_seg_g rfl 48 _ rfl _ _ rfl _ Qw9.out.at_.seg _ Tryd.underlying48 rfl (infoPl Qw9.out.at_.ok) ?_)
            refine (bUp s Qw9.out).mono ?_
            rw [U5.out]
            rintro e wa ⟨rfl, h_⟩
            have Qwa := Lib.hid h_
            clear h_
            go_wp2_with (first | refine wpList_load_seg rfl 48 _ rfl _ _ rfl _ Qwa.out.at_.seg _ Tryd.underlying48 rfl (infoPl Qwa.out.at_.ok) ?_ | refine wpList_load_seg_g rfl 48 _ rfl _ _ rfl _ Qwa.out.at_.seg _ Tryd.underlying48 rfl (infoPl Qwa.out.at_.ok) ?_)
            refine (bRead 2097156 4 (by omega) Qwa.out).mono ?_
            rw [E6.out]
            rintro e wb ⟨rfl, h_⟩
            have Qwb := Lib.hid h_
            clear h_
            go_wp2_with (first | refine wpList_load_seg rfl 48 _ rfl _ _ rfl _ Qwb.out.at_.seg _ Tryd.underlying48 rfl (infoPl Qwb.out.at_.ok) ?_ | refine wpList_load_seg_g rfl 48 _ rfl _ _ rfl _ Qwb.out.at_.seg _ Tryd.underlying48 rfl (infoPl Qwb.out.at_.ok) ?_)
            refine (bLine 0 Qwb.out).mono ?_
            rw [L6.out]
            rintro e wc ⟨rfl, h_⟩
            have Qwc := Lib.hid h_
            clear h_
            go_wp2_with (first | refine wpList_load_seg rfl 48 _ rfl _ _ rfl _ Qwc.out.at_.seg _ Tryd.underlying48 rfl (infoPl Qwc.out.at_.ok) ?_ | refine wpList_load_seg_g rfl 48 _ rfl _ _ rfl _ Qwc.out.at_.seg _ Tryd.underlying48 rfl (infoPl Qwc.out.at_.ok) ?_)
            refine (bWrite 2101252 4 0 (by omega) (by omega) Qwc.out).mono ?_
            rw [E7.out]
            rintro e wd ⟨rfl, h_⟩
            have Qwd := Lib.hid h_
            clear h_
            go_wp2_with (first | refine wpList_load_seg rfl 48 _ rfl _ _ rfl _ Qwd.out.at_.seg _ Tryd.underlying48 rfl (infoPl Qwd.out.at_.ok) ?_ | refine wpList_load_seg_g rfl 48 _ rfl _ _ rfl _ Qwd.out.at_.seg _ Tryd.underlying48 rfl (infoPl Qwd.out.at_.ok) ?_)
            refine (bLine 0 Qwd.out).mono ?_
            rw [L7.out]
            rintro e we ⟨rfl, h_⟩
            have Qwe := Lib.hid h_
            clear h_
            go_wp2_with (first | refine wpList_load_seg rfl 48 _ rfl _ _ rfl _ Qwe.out.at_.seg _ Tryd.underlying48 rfl (infoPl Qwe.out.at_.ok) ?_ | refine wpList_load_seg_g rfl 48 _ rfl _ _ rfl _ Qwe.out.at_.seg _ Tryd.underlying48 rfl (infoPl Qwe.out.at_.ok) ?_)
            refine (bWrite 2097156 4 (0 + 4294967296) (by omega) (by omega) Qwe.out).mono ?_
            rw [E8.out]
            rintro e wf ⟨rfl, h_⟩
            have Qwf := Lib.hid h_
            clear h_
            go_wp2_with (first | refine wpList_load_seg rfl 48 _ rfl _ _ rfl _ Qwf.out.at_.seg _ Tryd.underlying48 rfl (infoPl Qwf.out.at_.ok) ?_ | refine wpList_load_seg_g rfl 48 _ rfl _ _ rfl _ Qwf.out.at_.seg _ Tryd.underlying48 rfl (infoPl Qwf.out.at_.ok) ?_)
            refine (bLine 0 Qwf.out).mono ?_
            rw [L8.out]
            rintro e wg ⟨rfl, h_⟩
            have Qwg := Lib.hid h_
            clear h_
            go_wp2_with (first | refine wpList_load_seg rfl 48 _ rfl _ _ rfl _ Qwg.out.at_.seg _ Tryd.underlying48 rfl (infoPl Qwg.out.at_.ok) ?_ | refine wpList_load_seg_g rfl 48 _ rfl _ _ rfl _ Qwg.out.at_.seg _ Tryd.underlying48 rfl (infoPl Qwg.out.at_.ok) ?_)
            go_ret
            exact ⟨rfl, Qwg.out.fr⟩
        · have L7 := Lib.hid hb7
          clear l7 hb7 hv
          cases still
          · go_enter Tryd.func12, Tryd.ntmps12
            go_wp2_with fail
            refine (pawake_c w HT.out).mono ?_
            rintro e w0 ⟨rfl, hf0⟩
            have F0 := Lib.hid hf0
            clear hf0
            go_wp2_with fail
            refine (PNew_c w0).mono ?_
            rintro e w1 ⟨rfl, hf1⟩
            have F1 := Lib.hid (F0.out.trans hf1)
            clear hf1
            go_wp2_with (refine wpList_store_row rfl 48 _ _ rfl _ _ rfl rfl _ _ (heap_alloc_new _ _) infoPic rfl (one_plist _) ?_)
            have h2_ := fun t old => Pic1.laid HT.out F1.out t old PS.new PS.ok_new
            generalize hW : (World.setRow _ _ _) = w2
            have Q2 := Lib.hid (by rw [← hW]; exact h2_ _ _ : Pic1 w w2 w1.heap.size PS.new)
            clear h2_ hW
            refine (bWrite x4 4 prio HX4.out HP.out Q2.out).mono ?_
            rw [E1.out]
            rintro e w3 ⟨rfl, h_⟩
            have Qw3 := Lib.hid h_
            clear h_
            go_wp2_with (first | refine wpList_load_seg rfl 48 _ rfl _ _ rfl _ Qw3.out.at_.seg _ Tryd.underlying48 rfl (infoPl Qw3.out.at_.ok) ?_ | refine wpList_load_seg_g rfl 48 _ rfl _ _ rfl _ Qw3.out.at_.seg _ Tryd.underlying48 rfl (infoPl Qw3.out.at_.ok) ?_)
            refine (bWrite 8192 4 q (by omega) HQ.out Qw3.out).mono ?_
            rw [E2.out]
            rintro e w4 ⟨rfl, h_⟩
            have Qw4 := Lib.hid h_
            clear h_
            go_wp2_with (first | refine wpList_load_seg rfl 48 _ rfl _ _ rfl _ Qw4.out.at_.seg _ Tryd.underlying48 rfl (infoPl Qw4.out.at_.ok) ?_ | refine wpList_load_seg_g rfl 48 _ rfl _ _ rfl _ Qw4.out.at_.seg _ Tryd.underlying48 rfl (infoPl Qw4.out.at_.ok) ?_)
            refine (bWrite 2097152 4 floor (by omega) HF.out Qw4.out).mono ?_
            rw [E3.out]
            rintro e w5 ⟨rfl, h_⟩
            have Qw5 := Lib.hid h_
            clear h_
            go_wp2_with (first | refine wpList_load_seg rfl 48 _ rfl _ _ rfl _ Qw5.out.at_.seg _ Tryd.underlying48 rfl (infoPl Qw5.out.at_.ok) ?_ | refine wpList_load_seg_g rfl 48 _ rfl _ _ rfl _ Qw5.out.at_.seg _ Tryd.underlying48 rfl (infoPl Qw5.out.at_.ok) ?_)
            refine (bLevel s true Qw5.out).mono ?_
            rw [E4.out]
            rintro e w6 ⟨rfl, h_⟩
            have Qw6 := Lib.hid h_
            clear h_
            go_wp2_with (first | refine wpList_load_seg rfl 48 _ rfl _ _ rfl _ Qw6.out.at_.seg _ Tryd.underlying48 rfl (infoPl Qw6.out.at_.ok) ?_ | refine wpList_load_seg_g rfl 48 _ rfl _ _ rfl _ Qw6.out.at_.seg _ Tryd.underlying48 rfl (infoPl Qw6.out.at_.ok) ?_)
            refine (bLevel s _ Qw6.out).mono ?_
            rw [E5.out]
            rintro e w7 ⟨rfl, h_⟩
            have Qw7 := Lib.hid h_
            clear h_
            go_wp2_with (first | refine wpList_load_seg rfl 48 _ rfl _ _ rfl _ Qw7.out.at_.seg _ Tryd.underlying48 rfl (infoPl Qw7.out.at_.ok) ?_ | refine wpList_load_seg_g rfl 48 _ rfl _ _ rfl _ Qw7.out.at_.seg _ Tryd.underlying48 rfl (infoPl Qw7.out.at_.ok) ?_)
            refine (bLine 0 Qw7.out).mono ?_
            rw [L5.out]
            rintro e w8 ⟨rfl, h_⟩
            have Qw8 := Lib.hid h_
            clear h_
            go_wp2_with (first | refine wpList_load_seg rfl 48 _ rfl _ _ rfl _ Qw8.out.at_.seg _ Tryd.underlying48 rfl (infoPl Qw8.out.at_.ok) ?_ | refine wpList_load_seg_g rfl 48 _ rfl _ _ rfl _ Qw8.out.at_.seg _ Tryd.underlying48 rfl (infoPl Qw8.out.at_.ok) ?_)
            refine (bLine 1 Qw8.out).mono ?_
            rw [M5.out]
            rintro e w9 ⟨rfl, h_⟩
            have Qw9 := Lib.hid h_
            clear h_
            go_wp2_with (first | refine wpList_load_seg rfl 48 _ rfl _ _ rfl _ Qw9.out.at_.seg _ Tryd.underlying48 rfl (infoPl Qw9.out.at_.ok) ?_ | refine wpList_load_seg_g rfl 48 _ rfl _ _ rfl _ Qw9.out.at_.seg _ Tryd.underlying48 rfl (infoPl Qw9.out.at_.ok) ?_)
            refine (bUp s Qw9.out).mono ?_
            rw [U5.out]
            rintro e wa ⟨rfl, h_⟩
            have Qwa := Lib.hid h_
            clear h_
            go_wp2_with (first | refine wpList_load_seg rfl 48 _ rfl _ _ rfl _ Qwa.out.at_.seg _ Tryd.underlying48 rfl (infoPl Qwa.out.at_.ok) ?_ | refine wpList_load_seg_g rfl 48 _ rfl _ _ rfl _ Qwa.out.at_.seg _ Tryd.underlying48 rfl (infoPl Qwa.out.at_.ok) ?_)
            refine (bRead 2097156 4 (by omega) Qwa.out).mono ?_
            rw [E6.out]
            rintro e wb ⟨rfl, h_⟩
            have Qwb := Lib.hid h_
            clear h_
            go_wp2_with (first | refine wpList_load_seg rfl 48 _ rfl _ _ rfl _ Qwb.out.at_.seg _ Tryd.underlying48 rfl (infoPl Qwb.out.at_.ok) ?_ | refine wpList_load_seg_g rfl 48 _ rfl _ _ rfl _ Qwb.out.at_.seg _ Tryd.underlying48 rfl (infoPl Qwb.out.at_.ok) ?_)
            refine (bLine 0 Qwb.out).mono ?_
            rw [L6.out]
            rintro e wc ⟨rfl, h_⟩
            have Qwc := Lib.hid h_
            clear h_
            go_wp2_with (first | refine wpList_load_seg rfl 48 _ rfl _ _ rfl _ Qwc.out.at_.seg _ Tryd.underlying48 rfl (infoPl Qwc.out.at_.ok) ?_ | refine wpList_load_seg_g rfl 48 _ rfl _ _ rfl _ Qwc.out.at_.seg _ Tryd.underlying48 rfl (infoPl Qwc.out.at_.ok) ?_)
            refine (bWrite 2101252 4 0 (by omega) (by omega) Qwc.out).mono ?_
            rw [E7.out]
            rintro e wd ⟨rfl, h_⟩
            have Qwd := Lib.hid h_
            clear h_
            go_wp2_with (first | refine wpList_load_seg rfl 48 _ rfl _ _ rfl _ Qwd.out.at_.seg _ Tryd.underlying48 rfl (infoPl Qwd.out.at_.ok) ?_ | refine wpList_load_seg_g rfl 48 _ rfl _ _ rfl _ Qwd.out.at_.seg _ Tryd.underlying48 rfl (infoPl Qwd.out.at_.ok) ?_)
            refine (bLine 0 Qwd.out).mono ?_
            rw [L7.out]
            rintro e we ⟨rfl, h_⟩
            have Qwe := Lib.hid h_
            clear h_
            go_wp2_with (first | refine wpList_load_seg rfl 48 _ rfl _ _ rfl _ Qwe.out.at_.seg _ Tryd.underlying48 rfl (infoPl Qwe.out.at_.ok) ?_ | refine wpList_load_seg_g rfl 48 _ rfl _ _ rfl _ Qwe.out.at_.seg _ Tryd.underlying48 rfl (infoPl Qwe.out.at_.ok) ?_)
            refine (bWrite 2097156 4 (0 + 4294967296) (by omega) (by omega) Qwe.out).mono ?_
            rw [E8.out]
            rintro e wf ⟨rfl, h_⟩
            have Qwf := Lib.hid h_
            clear h_
            go_wp2_with (first | refine wpList_load_seg rfl 48 _ rfl _ _ rfl _ Qwf.out.at_.seg _ Tryd.underlying48 rfl (infoPl Qwf.out.at_.ok) ?_ | refine wpList_load_seg_g rfl 48 _ rfl _ _ rfl _ Qwf.out.at_.seg _ Tryd.underlying48 rfl (infoPl Qwf.out.at_.ok) ?_)
            refine (bLine 0 Qwf.out).mono ?_
            rw [L8.out]
            rintro e wg ⟨rfl, h_⟩
            have Qwg := Lib.hid h_
            clear h_
            go_wp2_with (first | refine wpList_load_seg rfl 48 _ rfl _ _ rfl _ Qwg.out.at_.seg _ Tryd.underlying48 rfl (infoPl Qwg.out.at_.ok) ?_ | refine wpList_load_seg_g rfl 48 _ rfl _ _ rfl _ Qwg.out.at_.seg _ Tryd.underlying48 rfl (infoPl Qwg.out.at_.ok) ?_)
            go_ret
            exact ⟨rfl, Qwg.out.fr⟩
          · go_enter Tryd.func12, Tryd.ntmps12
            go_wp2_with fail
            refine (pawake_c w HT.out).mono ?_
            rintro e w0 ⟨rfl, hf0⟩
            have F0 := Lib.hid hf0
            clear hf0
            go_wp2_with fail
            refine (PNew_c w0).mono ?_
            rintro e w1 ⟨rfl, hf1⟩
            have F1 := Lib.hid (F0.out.trans hf1)
            clear hf1
            go_wp2_with (refine wpList_store_row rfl 48 _ _ rfl _ _ rfl rfl _ _ (heap_alloc_new _ _) infoPic rfl (one_plist _) ?_)
            have h2_ := fun t old => Pic1.laid HT.out F1.out t old PS.new PS.ok_new
            generalize hW : (World.setRow _ _ _) = w2
            have Q2 := Lib.hid (by rw [← hW]; exact h2_ _ _ : Pic1 w w2 w1.heap.size PS.new)
            clear h2_ hW
            refine (bWrite x4 4 prio HX4.out HP.out Q2.out).mono ?_
            rw [E1.out]
            rintro e w3 ⟨rfl, h_⟩
            have Qw3 := Lib.hid h_
            clear h_
            go_wp2_with (first | refine wpList_load_seg rfl 48 _ rfl _ _ rfl _ Qw3.out.at_.seg _ Tryd.underlying48 rfl (infoPl Qw3.out.at_.ok) ?_ | refine wpList_load_seg_g rfl 48 _ rfl _ _ rfl _ Qw3.out.at_.seg _ Tryd.underlying48 rfl (infoPl Qw3.out.at_.ok) ?_)
            refine (bWrite 8192 4 q (by omega) HQ.out Qw3.out).mono ?_
            rw [E2.out]
            rintro e w4 ⟨rfl, h_⟩
            have Qw4 := Lib.hid h_
            clear h_
            go_wp2_with (first | refine wpList_load_seg rfl 48 _ rfl _ _ rfl _ Qw4.out.at_.seg _ Tryd.underlying48 rfl (infoPl Qw4.out.at_.ok) ?_ | refine wpList_load_seg_g rfl 48 _ rfl _ _ rfl _ Qw4.out.at_.seg _ Tryd.underlying48 rfl (infoPl Qw4.out.at_.ok) ?_)
            refine (bWrite 2097152 4 floor (by omega) HF.out Qw4.out).mono ?_
            rw [E3.out]
            rintro e w5 ⟨rfl, h_⟩
            have Qw5 := Lib.hid h_
            clear h_
            go_wp2_with (first | refine wpList_load_seg rfl 48 _ rfl _ _ rfl _ Qw5.out.at_.seg _ Tryd.underlying48 rfl (infoPl Qw5.out.at_.ok) ?_ | refine wpList_load_seg_g rfl 48 _ rfl _ _ rfl _ Qw5.out.at_.seg _ Tryd.underlying48 rfl (infoPl Qw5.out.at_.ok) ?_)
            refine (bLevel s true Qw5.out).mono ?_
            rw [E4.out]
            rintro e w6 ⟨rfl, h_⟩
            have Qw6 := Lib.hid h_
            clear h_
            go_wp2_with (first | refine wpList_load_seg rfl 48 _ rfl _ _ rfl _ Qw6.out.at_.seg _ Tryd.underlying48 rfl (infoPl Qw6.out.at_.ok) ?_ | refine wpList_load_seg_g rfl 48 _ rfl _ _ rfl _ Qw6.out.at_.seg _ Tryd.underlying48 rfl (infoPl Qw6.out.at_.ok) ?_)
            refine (bLevel s _ Qw6.out).mono ?_
            rw [E5.out]
            rintro e w7 ⟨rfl, h_⟩
            have Qw7 := Lib.hid h_
            clear h_
            go_wp2_with (first | refine wpList_load_seg rfl 48 _ rfl _ _ rfl _ Qw7.out.at_.seg _ Tryd.underlying48 rfl (infoPl Qw7.out.at_.ok) ?_ | refine wpList_load_seg_g rfl 48 _ rfl _ _ rfl _ Qw7.out.at_.seg _ Tryd.underlying48 rfl (infoPl Qw7.out.at_.ok) ?_)
            refine (bLine 0 Qw7.out).mono ?_
            rw [L5.out]
            rintro e w8 ⟨rfl, h_⟩
            have Qw8 := Lib.hid h_
            clear h_
            go_wp2_with (first | refine wpList_load_seg rfl 48 _ rfl _ _ rfl _ Qw8.out.at_.seg _ Tryd.underlying48 rfl (infoPl Qw8.out.at_.ok) ?_ | refine wpList_load_seg_g rfl 48 _ rfl _ _ rfl _ Qw8.out.at_.seg _ Tryd.underlying48 rfl (infoPl Qw8.out.at_.ok) ?_)
            refine (bLine 1 Qw8.out).mono ?_
            rw [M5.out]
            rintro e w9 ⟨rfl, h_⟩
            have Qw9 := Lib.hid h_
            clear h_
            go_wp2_with (first | refine wpList_load_seg rfl 48 _ rfl _ _ rfl _ Qw9.out.at_.seg _ Tryd.underlying48 rfl (infoPl Qw9.out.at_.ok) ?_ | refine wpList_load_seg_g rfl 48 _ rfl _ _ rfl _ Qw9.out.at_.seg _ Tryd.underlying48 rfl (infoPl Qw9.out.at_.ok) ?_)
            refine (bUp s Qw9.out).mono ?_
            rw [U5.out]
            rintro e wa ⟨rfl, h_⟩
            have Qwa := Lib.hid h_
            clear h_
            go_wp2_with (first | refine wpList_load_seg rfl 48 _ rfl _ _ rfl _ Qwa.out.at_.seg _ Tryd.underlying48 rfl (infoPl Qwa.out.at_.ok) ?_ | refine wpList_load_seg_g rfl 48 _ rfl _ _ rfl _ Qwa.out.at_.seg _ Tryd.underlying48 rfl (infoPl Qwa.out.at_.ok) ?_)
            refine (bRead 2097156 4 (by omega) Qwa.out).mono ?_
            rw [E6.out]
            rintro e wb ⟨rfl, h_⟩
            have Qwb := Lib.hid h_
            clear h_
            go_wp2_with (first | refine wpList_load_seg rfl 48 _ rfl _ _ rfl _ Qwb.out.at_.seg _ Tryd.underlying48 rfl (infoPl Qwb.out.at_.ok) ?_ | refine wpList_load_seg_g rfl 48 _ rfl _ _ rfl _ Qwb.out.at_.seg _ Tryd.underlying48 rfl (infoPl Qwb.out.at_.ok) ?_)
            refine (bLine 0 Qwb.out).mono ?_
            rw [L6.out]
            rintro e wc ⟨rfl, h_⟩
            have Qwc := Lib.hid h_
            clear h_
            go_wp2_with (first | refine wpList_load_seg rfl 48 _ rfl _ _ rfl _ Qwc.out.at_.seg _ Tryd.underlying48 rfl (infoPl Qwc.out.at_.ok) ?_ | refine wpList_load_seg_g rfl 48 _ rfl _ _ rfl _ Qwc.out.at_.seg _ Tryd.underlying48 rfl (infoPl Qwc.out.at_.ok) ?_)
            refine (bWrite 2101252 4 0 (by omega) (by omega) Qwc.out).mono ?_
            rw [E7.out]
            rintro e wd ⟨rfl, h_⟩
            have Qwd := Lib.hid h_
            clear h_
            go_wp2_with (first | refine wpList_load_seg rfl 48 _ rfl _ _ rfl _ Qwd.out.at_.seg _ Tryd.underlying48 rfl (infoPl Qwd.out.at_.ok) ?_ | refine wpList_load_seg_g rfl 48 _ rfl _ _ rfl _ Qwd.out.at_.seg _ Tryd.underlying48 rfl (infoPl Qwd.out.at_.ok) ?_)
            refine (bLine 0 Qwd.out).mono ?_
            rw [L7.out]
            rintro e we ⟨rfl, h_⟩
            have Qwe := Lib.hid h_
            clear h_
            go_wp2_with (first | refine wpList_load_seg rfl 48 _ rfl _ _ rfl _ Qwe.out.at_.seg _ Tryd.underlying48 rfl (infoPl Qwe.out.at_.ok) ?_ | refine wpList_load_seg_g rfl 48 _ rfl _ _ rfl _ Qwe.out.at_.seg _ Tryd.underlying48 rfl (infoPl Qwe.out.at_.ok) ?_)
            refine (bWrite 2097156 4 (0 + 4294967296) (by omega) (by omega) Qwe.out).mono ?_
            rw [E8.out]
            rintro e wf ⟨rfl, h_⟩
            have Qwf := Lib.hid h_
            clear h_
            go_wp2_with (first | refine wpList_load_seg rfl 48 _ rfl _ _ rfl _ Qwf.out.at_.seg _ Tryd.underlying48 rfl (infoPl Qwf.out.at_.ok) ?_ | refine wpList_load_seg_g rfl 48 _ rfl _ _ rfl _ Qwf.out.at_.seg _ Tryd.underlying48 rfl (infoPl Qwf.out.at_.ok) ?_)
            refine (bLine 0 Qwf.out).mono ?_
            rw [L8.out]
            rintro e wg ⟨rfl, h_⟩
            have Qwg := Lib.hid h_
            clear h_
            go_wp2_with (first | refine wpList_load_seg rfl 48 _ rfl _ _ rfl _ Qwg.out.at_.seg _ Tryd.underlying48 rfl (infoPl Qwg.out.at_.ok) ?_ | refine wpList_load_seg_g rfl 48 _ rfl _ _ rfl _ Qwg.out.at_.seg _ Tryd.underlying48 rfl (infoPl Qwg.out.at_.ok) ?_)
            go_ret
            exact ⟨rfl, Qwg.out.fr⟩
  · have E2 : Hid (t1.write 8320 4 q = (t2, true)) := Lib.hid e2
    have E3 : Hid (t2.write 2101248 4 floor = (t3, true)) := Lib.hid e3
    have m5' : t5.line 0 = false := m5
    have M5 := Lib.hid m5'
    have E6 : Hid (t5.read 2101252 4 = (t6, v, true)) := Lib.hid e6
    have l6' : t6.line 1 = false := l6
    have L6 := Lib.hid l6'
    have E7 : Hid (t6.write 2097156 4 v = (t7, true)) := Lib.hid e7
    have e8' : t7.write 2101252 4 (v + 4294967296) = (t8, true) := e8
    have E8 := Lib.hid e8'
    have l5 : t5.line 1 = decide (f < p) := l5
    have l8 : t8.line 1 = (decide (f < p) && still) := l8
    have l7 : t7.line 1 = true → v = 0 := l7
    clear e2 e3 m5 m5' e6 l6 l6' e7 e8 e8'
    by_cases hfp : f < p
    · have hg : decide ((f : Int) < (p : Int)) = true := decide_eq_true (by omega)
      have hg0 : decide ((0 : Int) < (p : Int)) = true := decide_eq_true (by omega)
      rw [decide_eq_true hfp] at l5 l8
      rw [if_pos (by omega)] at hv
      rw [hv] at E6 E7 E8
      cases hb7 : t7.line 1
      · have L5 := Lib.hid l5
        have L7 := Lib.hid hb7
        clear l5 l7 hb7 hv
        cases still
        · have L8 : Hid (t8.line 1 = false) := Lib.hid l8
          clear l8
          go_enter Tryd.func12, Tryd.ntmps12
          go_wp2_with fail
          refine (pawake_c w HT.out).mono ?_
          rintro e w0 ⟨rfl, hf0⟩
          have F0 := Lib.hid hf0
          clear hf0
          go_wp2_with fail
          refine (PNew_c w0).mono ?_
          rintro e w1 ⟨rfl, hf1⟩
          have F1 := Lib.hid (F0.out.trans hf1)
          clear hf1
          go_wp2_with (refine wpList_store_row rfl 48 _ _ rfl _ _ rfl rfl _ _ (heap_alloc_new _ _) infoPic rfl (one_plist _) ?_)
          have h2_ := fun t old => Pic1.laid HT.out F1.out t old PS.new PS.ok_new
          generalize hW : (World.setRow _ _ _) = w2
          have Q2 := Lib.hid (by rw [← hW]; exact h2_ _ _ : Pic1 w w2 w1.heap.size PS.new)
          clear h2_ hW
          refine (bWrite x4 4 prio HX4.out HP.out Q2.out).mono ?_
          rw [E1.out]
          rintro e w3 ⟨rfl, h_⟩
          have Qw3 := Lib.hid h_
          clear h_
          go_wp2_with (first | refine wpList_load_seg rfl 48 _ rfl _ _ rfl _ Qw3.out.at_.seg _ Tryd.underlying48 rfl (infoPl Qw3.out.at_.ok) ?_ | refine wpList_load_seg_g rfl 48 _ rfl _ _ rfl _ Qw3.out.at_.seg _ Tryd.underlying48 rfl (infoPl Qw3.out.at_.ok) ?_)
          refine (bWrite 8320 4 q (by omega) HQ.out Qw3.out).mono ?_
          rw [E2.out]
          rintro e w4 ⟨rfl, h_⟩
          have Qw4 := Lib.hid h_
          clear h_
          go_wp2_with (first | refine wpList_load_seg rfl 48 _ rfl _ _ rfl _ Qw4.out.at_.seg _ Tryd.underlying48 rfl (infoPl Qw4.out.at_.ok) ?_ | refine wpList_load_seg_g rfl 48 _ rfl _ _ rfl _ Qw4.out.at_.seg _ Tryd.underlying48 rfl (infoPl Qw4.out.at_.ok) ?_)
          refine (bWrite 2101248 4 floor (by omega) HF.out Qw4.out).mono ?_
          rw [E3.out]
          rintro e w5 ⟨rfl, h_⟩
          have Qw5 := Lib.hid h_
          clear h_
          go_wp2_with (first | refine wpList_load_seg rfl 48 _ rfl _ _ rfl _ Qw5.out.at_.seg _ Tryd.underlying48 rfl (infoPl Qw5.out.at_.ok) ?_ | refine wpList_load_seg_g rfl 48 _ rfl _ _ rfl _ Qw5.out.at_.seg _ Tryd.underlying48 rfl (infoPl Qw5.out.at_.ok) ?_)
          refine (bLevel s true Qw5.out).mono ?_
          rw [E4.out]
          rintro e w6 ⟨rfl, h_⟩
          have Qw6 := Lib.hid h_
          clear h_
          go_wp2_with (first | refine wpList_load_seg rfl 48 _ rfl _ _ rfl _ Qw6.out.at_.seg _ Tryd.underlying48 rfl (infoPl Qw6.out.at_.ok) ?_ | refine wpList_load_seg_g rfl 48 _ rfl _ _ rfl _ Qw6.out.at_.seg _ Tryd.underlying48 rfl (infoPl Qw6.out.at_.ok) ?_)
          refine (bLevel s _ Qw6.out).mono ?_
          rw [E5.out]
          rintro e w7 ⟨rfl, h_⟩
          have Qw7 := Lib.hid h_
          clear h_
          go_wp2_with (first | refine wpList_load_seg rfl 48 _ rfl _ _ rfl _ Qw7.out.at_.seg _ Tryd.underlying48 rfl (infoPl Qw7.out.at_.ok) ?_ | refine wpList_load_seg_g rfl 48 _ rfl _ _ rfl _ Qw7.out.at_.seg _ Tryd.underlying48 rfl (infoPl Qw7.out.at_.ok) ?_)
          refine (bLine 1 Qw7.out).mono ?_
          rw [L5.out]
          rintro e w8 ⟨rfl, h_⟩
          have Qw8 := Lib.hid h_
          clear h_
          go_wp2_with (first | refine wpList_load_seg rfl 48 _ rfl _ _ rfl _ Qw8.out.at_.seg _ Tryd.underlying48 rfl (infoPl Qw8.out.at_.ok) ?_ | refine wpList_load_seg_g rfl 48 _ rfl _ _ rfl _ Qw8.out.at_.seg _ Tryd.underlying48 rfl (infoPl Qw8.out.at_.ok) ?_)
          refine (bLine 0 Qw8.out).mono ?_
          rw [M5.out]
          rintro e w9 ⟨rfl, h_⟩
          have Qw9 := Lib.hid h_
          clear h_
          go_wp2_with (first | refine wpList_load_seg rfl 48 _ rfl _ _ rfl _ Qw9.out.at_.seg _ Tryd.underlying48 rfl (infoPl Qw9.out.at_.ok) ?_ | refine wpList_load_seg_g rfl 48 _ rfl _ _ rfl _ Qw9.out.at_.seg _ Tryd.underlying48 rfl (infoPl Qw9.out.at_.ok) ?_)
          refine (bUp s Qw9.out).mono ?_
          rw [U5.out]
          rintro e wa ⟨rfl, h_⟩
          have Qwa := Lib.hid h_
          clear h_
          go_wp2_with (first | refine wpList_load_seg rfl 48 _ rfl _ _ rfl _ Qwa.out.at_.seg _ Tryd.underlying48 rfl (infoPl Qwa.out.at_.ok) ?_ | refine wpList_load_seg_g rfl 48 _ rfl _ _ rfl _ Qwa.out.at_.seg _ Tryd.underlying48 rfl (infoPl Qwa.out.at_.ok) ?_)
          refine (bRead 2101252 4 (by omega) Qwa.out).mono ?_
          rw [E6.out]
          rintro e wb ⟨rfl, h_⟩
          have Qwb := Lib.hid h_
          clear h_
          go_wp2_with (first | refine wpList_load_seg rfl 48 _ rfl _ _ rfl _ Qwb.out.at_.seg _ Tryd.underlying48 rfl (infoPl Qwb.out.at_.ok) ?_ | refine wpList_load_seg_g rfl 48 _ rfl _ _ rfl _ Qwb.out.at_.seg _ Tryd.underlying48 rfl (infoPl Qwb.out.at_.ok) ?_)
          refine (bLine 1 Qwb.out).mono ?_
          rw [L6.out]
          rintro e wc ⟨rfl, h_⟩
          have Qwc := Lib.hid h_
          clear h_
          go_wp2_with (first | refine wpList_load_seg rfl 48 _ rfl _ _ rfl _ Qwc.out.at_.seg _ Tryd.underlying48 rfl (infoPl Qwc.out.at_.ok) ?_ | refine wpList_load_seg_g rfl 48 _ rfl _ _ rfl _ Qwc.out.at_.seg _ Tryd.underlying48 rfl (infoPl Qwc.out.at_.ok) ?_)
          refine (bWrite 2097156 4 s (by omega) (by omega) Qwc.out).mono ?_
          rw [E7.out]
          rintro e wd ⟨rfl, h_⟩
          have Qwd := Lib.hid h_
          clear h_
          go_wp2_with (first | refine wpList_load_seg rfl 48 _ rfl _ _ rfl _ Qwd.out.at_.seg _ Tryd.underlying48 rfl (infoPl Qwd.out.at_.ok) ?_ | refine wpList_load_seg_g rfl 48 _ rfl _ _ rfl _ Qwd.out.at_.seg _ Tryd.underlying48 rfl (infoPl Qwd.out.at_.ok) ?_)
          refine (bLine 1 Qwd.out).mono ?_
          rw [L7.out]
          rintro e we ⟨rfl, h_⟩
          have Qwe := Lib.hid h_
          clear h_
          go_wp2_with (first | refine wpList_load_seg rfl 48 _ rfl _ _ rfl _ Qwe.out.at_.seg _ Tryd.underlying48 rfl (infoPl Qwe.out.at_.ok) ?_ | refine wpList_load_seg_g rfl 48 _ rfl _ _ rfl _ Qwe.out.at_.seg _ Tryd.underlying48 rfl (infoPl Qwe.out.at_.ok) ?_)
          refine (bWrite 2101252 4 (s + 4294967296) (by omega) (by omega) Qwe.out).mono ?_
          rw [E8.out]
          rintro e wf ⟨rfl, h_⟩
          have Qwf := Lib.hid h_
          clear h_
          go_wp2_with (first | refine wpList_load_seg rfl 48 _ rfl _ _ rfl _ Qwf.out.at_.seg _ Tryd.underlying48 rfl (infoPl Qwf.out.at_.ok) ?_ | refine wpList_load_seg_g rfl 48 _ rfl _ _ rfl _ Qwf.out.at_.seg _ Tryd.underlying48 rfl (infoPl Qwf.out.at_.ok) ?_)
          refine (bLine 1 Qwf.out).mono ?_
          rw [L8.out]
          rintro e wg ⟨rfl, h_⟩
          have Qwg := Lib.hid h_
          clear h_
          go_wp2_with (first | refine wpList_load_seg rfl 48 _ rfl _ _ rfl _ Qwg.out.at_.seg _ Tryd.underlying48 rfl (infoPl Qwg.out.at_.ok) ?_ | refine wpList_load_seg_g rfl 48 _ rfl _ _ rfl _ Qwg.out.at_.seg _ Tryd.underlying48 rfl (infoPl Qwg.out.at_.ok) ?_)
          go_ret
          exact ⟨rfl, Qwg.out.fr⟩
        · have L8 : Hid (t8.line 1 = true) := Lib.hid l8
          clear l8
          go_enter Tryd.func12, Tryd.ntmps12
          go_wp2_with fail
          refine (pawake_c w HT.out).mono ?_
          rintro e w0 ⟨rfl, hf0⟩
          have F0 := Lib.hid hf0
          clear hf0
          go_wp2_with fail
          refine (PNew_c w0).mono ?_
          rintro e w1 ⟨rfl, hf1⟩
          have F1 := Lib.hid (F0.out.trans hf1)
          clear hf1
          go_wp2_with (refine wpList_store_row rfl 48 _ _ rfl _ _ rfl rfl _ _ (heap_alloc_new _ _) infoPic rfl (one_plist _) ?_)
          have h2_ := fun t old => Pic1.laid HT.out F1.out t old PS.new PS.ok_new
          generalize hW : (World.setRow _ _ _) = w2
          have Q2 := Lib.hid (by rw [← hW]; exact h2_ _ _ : Pic1 w w2 w1.heap.size PS.new)
          clear h2_ hW
          refine (bWrite x4 4 prio HX4.out HP.out Q2.out).mono ?_
          rw [E1.out]
          rintro e w3 ⟨rfl, h_⟩
          have Qw3 := Lib.hid h_
          clear h_
          go_wp2_with (first | refine wpList_load_seg rfl 48 _ rfl _ _ rfl _ Qw3.out.at_.seg _ Tryd.underlying48 rfl (infoPl Qw3.out.at_.ok) ?_ | refine wpList_load_seg_g rfl 48 _ rfl _ _ rfl _ Qw3.out.at_.seg _ Tryd.underlying48 rfl (infoPl Qw3.out.at_.ok) ?_)
          refine (bWrite 8320 4 q (by omega) HQ.out Qw3.out).mono ?_
          rw [E2.out]
          rintro e w4 ⟨rfl, h_⟩
          have Qw4 := Lib.hid h_
          clear h_
          go_wp2_with (first | refine wpList_load_seg rfl 48 _ rfl _ _ rfl _ Qw4.out.at_.seg _ Tryd.underlying48 rfl (infoPl Qw4.out.at_.ok) ?_ | refine wpList_load_seg_g rfl 48 _ rfl _ _ rfl _ Qw4.out.at_.seg _ Tryd.underlying48 rfl (infoPl Qw4.out.at_.ok) ?_)
          refine (bWrite 2101248 4 floor (by omega) HF.out Qw4.out).mono ?_
          rw [E3.out]
          rintro e w5 ⟨rfl, h_⟩
          have Qw5 := Lib.hid h_
          clear h_
          go_wp2_with (first | refine wpList_load_seg rfl 48 _ rfl _ _ rfl _ Qw5.out.at_.seg _ Tryd.underlying48 rfl (infoPl Qw5.out.at_.ok) ?_ | refine wpList_load_seg_g rfl 48 _ rfl _ _ rfl _ Qw5.out.at_.seg _ Tryd.underlying48 rfl (infoPl Qw5.out.at_.ok) ?_)
          refine (bLevel s true Qw5.out).mono ?_
          rw [E4.out]
          rintro e w6 ⟨rfl, h_⟩
          have Qw6 := Lib.hid h_
          clear h_
          go_wp2_with (first | refine wpList_load_seg rfl 48 _ rfl _ _ rfl _ Qw6.out.at_.seg _ Tryd.underlying48 rfl (infoPl Qw6.out.at_.ok) ?_ | refine wpList_load_seg_g rfl 48 _ rfl _ _ rfl _ Qw6.out.at_.seg _ Tryd.underlying48 rfl (infoPl Qw6.out.at_.ok) ?_)
          refine (bLevel s _ Qw6.out).mono ?_
          rw [E5.out]
          rintro e w7 ⟨rfl, h_⟩
          have Qw7 := Lib.hid h_
          clear h_
          go_wp2_with (first | refine wpList_load_seg rfl 48 _ rfl _ _ rfl _ Qw7.out.at_.seg _ Tryd.underlying48 rfl (infoPl Qw7.out.at_.ok) ?_ | refine wpList_load_seg_g rfl 48 _ rfl _ _ rfl _ Qw7.out.at_.seg _ Tryd.underlying48 rfl (infoPl Qw7.out.at_.ok) ?_)
          refine (bLine 1 Qw7.out).mono ?_
          rw [L5.out]
          rintro e w8 ⟨rfl, h_⟩
          have Qw8 := Lib.hid h_
          clear h_
          go_wp2_with (first | refine wpList_load_seg rfl 48 _ rfl _ _ rfl _ Qw8.out.at_.seg _ Tryd.underlying48 rfl (infoPl Qw8.out.at_.ok) ?_ | refine wpList_load_seg_g rfl 48 _ rfl _ _ rfl _ Qw8.out.at_.seg _ Tryd.underlying48 rfl (infoPl Qw8.out.at_.ok) ?_)
          refine (bLine 0 Qw8.out).mono ?_
          rw [M5.out]
          rintro e w9 ⟨rfl, h_⟩
          have Qw9 := Lib.hid h_
          clear h_
          go_wp2_with (first | refine wpList_load_seg rfl 48 _ rfl _ _ rfl _ Qw9.out.at_.seg _ Tryd.underlying48 rfl (infoPl Qw9.out.at_.ok) ?_ | refine wpList_load_seg_g rfl 48 _ rfl _ _ rfl _ Qw9.out.at_.seg _ Tryd.underlying48 rfl (infoPl Qw9.out.at_.ok) ?_)
          refine (bUp s Qw9.out).mono ?_
          rw [U5.out]
          rintro e wa ⟨rfl, h_⟩
          have Qwa := Lib.hid h_
          clear h_
          go_wp2_with (first | refine wpList_load_seg rfl 48 _ rfl _ _ rfl _ Qwa.out.at_.seg _ Tryd.underlying48 rfl (infoPl Qwa.out.at_.ok) ?_ | refine wpList_load_seg_g rfl 48 _ rfl _ _ rfl _ Qwa.out.at_.seg _ Tryd.underlying48 rfl (infoPl Qwa.out.at_.ok) ?_)
          refine (bRead 2101252 4 (by omega) Qwa.out).mono ?_
          rw [E6.out]
          rintro e wb ⟨rfl, h_⟩
          have Qwb := Lib.hid h_
          clear h_
          go_wp2_with (first | refine wpList_load_seg rfl 48 _ rfl _ _ rfl _ Qwb.out.at_.seg _ Tryd.underlying48 rfl (infoPl Qwb.out.at_.ok) ?_ | refine wpList_load_seg_g rfl 48 _ rfl _ _ rfl _ Qwb.out.at_.seg _ Tryd.underlying48 rfl (infoPl Qwb.out.at_.ok) ?_)
          refine (bLine 1 Qwb.out).mono ?_
          rw [L6.out]
          rintro e wc ⟨rfl, h_⟩
          have Qwc := Lib.hid h_
          clear h_
          go_wp2_with (first | refine wpList_load_seg rfl 48 _ rfl _ _ rfl _ Qwc.out.at_.seg _ Tryd.underlying48 rfl (infoPl Qwc.out.at_.ok) ?_ | refine wpList_load_seg_g rfl 48 _ rfl _ _ rfl _ Qwc.out.at_.seg _ Tryd.underlying48 rfl (infoPl Qwc.out.at_.ok) ?_)
          refine (bWrite 2097156 4 s (by omega) (by omega) Qwc.out).mono ?_
          rw [E7.out]
          rintro e wd ⟨rfl, h_⟩
          have Qwd := Lib.hid h_
          clear h_
          go_wp2_with (first | refine wpList_load_seg rfl 48 _ rfl _ _ rfl _ Qwd.out.at_.seg _ Tryd.underlying48 rfl (infoPl Qwd.out.at_.ok) ?_ | refine wpList_load_seg_g rfl 48 _ rfl _ _ rfl _ Qwd.out.at_.seg _ Tryd.underlying48 rfl (infoPl Qwd.out.at_.ok) ?_)
          refine (bLine 1 Qwd.out).mono ?_
          rw [L7.out]
          rintro e we ⟨rfl, h_⟩
          have Qwe := Lib.hid h_
          clear h_
          go_wp2_with (first | refine wpList_load_seg rfl 48 _ rfl _ _ rfl _ Qwe.out.at_.seg _ Tryd.underlying48 rfl (infoPl Qwe.out.at_.ok) ?_ | refine wpList_load_seg_g rfl 48 _ rfl _ _ rfl _ Qwe.out.at_.seg _ Tryd.underlying48 rfl (infoPl Qwe.out.at_.ok) ?_)
          refine (bWrite 2101252 4 (s + 4294967296) (by omega) (by omega) Qwe.out).mono ?_
          rw [E8.out]
          rintro e wf ⟨rfl, h_⟩
          have Qwf := Lib.hid h_
          clear h_
          go_wp2_with (first | refine wpList_load_seg rfl 48 _ rfl _ _ rfl _ Qwf.out.at_.seg _ Tryd.underlying48 rfl (infoPl Qwf.out.at_.ok) ?_ | refine wpList_load_seg_g rfl 48 _ rfl _ _ rfl _ Qwf.out.at_.seg _ Tryd.underlying48 rfl (infoPl Qwf.out.at_.ok) ?_)
          refine (bLine 1 Qwf.out).mono ?_
          rw [L8.out]
          rintro e wg ⟨rfl, h_⟩
          have Qwg := Lib.hid h_
          clear h_
          go_wp2_with (first | refine wpList_load_seg rfl 48 _ rfl _ _ rfl _ Qwg.out.at_.seg _ Tryd.underlying48 rfl (infoPl Qwg.out.at_.ok) ?_ | refine wpList_load_seg_g rfl 48 _ rfl _ _ rfl _ Qwg.out.at_.seg _ Tryd.underlying48 rfl (infoPl Qwg.out.at_.ok) ?_)
          go_ret
          exact ⟨rfl, Qwg.out.fr⟩
      · exact absurd ((hv ▸ l7 hb7 : s = 0)) (by omega)
    · have hg : decide ((f : Int) < (p : Int)) = false := decide_eq_false (by omega)
      rw [decide_eq_false hfp] at l5 l8
      have L5 := Lib.hid l5
      have L8 : Hid (t8.line 1 = false) := Lib.hid l8
      clear l5 l8
      by_cases h0 : 0 < p
      · have hg0 : decide ((0 : Int) < (p : Int)) = true := decide_eq_true (by omega)
        rw [if_pos h0] at hv
        rw [hv] at E6 E7 E8
        cases hb7 : t7.line 1
        · have L7 := Lib.hid hb7
          clear l7 hb7 hv
          cases still
          · go_enter Tryd.func12, Tryd.ntmps12
            go_wp2_with fail
            refine (pawake_c w HT.out).mono ?_
            rintro e w0 ⟨rfl, hf0⟩
            have F0 := Lib.hid hf0
            clear hf0
            go_wp2_with fail
            refine (PNew_c w0).mono ?_
            rintro e w1 ⟨rfl, hf1⟩
            have F1 := Lib.hid (F0.out.trans hf1)
            clear hf1
            go_wp2_with (refine wpList_store_row rfl 48 _ _ rfl _ _ rfl rfl _ _ (heap_alloc_new _ _) infoPic rfl (one_plist _) ?_)
            have h2_ := fun t old => Pic1.laid HT.out F1.out t old PS.new PS.ok_new
            generalize hW : (World.setRow _ _ _) = w2
            have Q2 := Lib.hid (by rw [← hW]; exact h2_ _ _ : Pic1 w w2 w1.heap.size PS.new)
            clear h2_ hW
            refine (bWrite x4 4 prio HX4.out HP.out Q2.out).mono ?_
            rw [E1.out]
            rintro e w3 ⟨rfl, h_⟩
            have Qw3 := Lib.hid h_
            clear h_
            go_wp2_with (first | refine wpList_load_seg rfl 48 _ rfl _ _ rfl _ Qw3.out.at_.seg _ Tryd.underlying48 rfl (infoPl Qw3.out.at_.ok) ?_ | refine wpList_load_seg_g rfl 48 _ rfl _ _ rfl _ Qw3.out.at_.seg _ Tryd.underlying48 rfl (infoPl Qw3.out.at_.ok) ?_)
            refine (bWrite 8320 4 q (by omega) HQ.out Qw3.out).mono ?_
            rw [E2.out]
            rintro e w4 ⟨rfl, h_⟩
            have Qw4 := Lib.hid h_
            clear h_
            go_wp2_with (first | refine wpList_load_seg rfl 48 _ rfl _ _ rfl _ Qw4.out.at_.seg _ Tryd.underlying48 rfl (infoPl Qw4.out.at_.ok) ?_ | refine wpList_load_seg_g rfl 48 _ rfl _ _ rfl _ Qw4.out.at_.seg _ Tryd.underlying48 rfl (infoPl Qw4.out.at_.ok) ?_)
            refine (bWrite 2101248 4 floor (by omega) HF.out Qw4.out).mono ?_
            rw [E3.out]
            rintro e w5 ⟨rfl, h_⟩
            have Qw5 := Lib.hid h_
            clear h_
            go_wp2_with (first | refine wpList_load_seg rfl 48 _ rfl _ _ rfl _ Qw5.out.at_.seg _ Tryd.underlying48 rfl (infoPl Qw5.out.at_.ok) ?_ | refine wpList_load_seg_g rfl 48 _ rfl _ _ rfl _ Qw5.out.at_.seg _ Tryd.underlying48 rfl (infoPl Qw5.out.at_.ok) ?_)
            refine (bLevel s true Qw5.out).mono ?_
            rw [E4.out]
            rintro e w6 ⟨rfl, h_⟩
            have Qw6 := Lib.hid h_
            clear h_
            go_wp2_with (first | refine wpList_load_seg rfl 48 _ rfl _ _ rfl _ Qw6.out.at_.seg _ Tryd.underlying48 rfl (infoPl Qw6.out.at_.ok) ?_ | refine wpList_load_seg_g rfl 48 _ rfl _ _ rfl _ Qw6.out.at_.seg _ Tryd.underlying48 rfl (infoPl Qw6.out.at_.ok) ?_)
            refine (bLevel s _ Qw6.out).mono ?_
            rw [E5.out]
            rintro e w7 ⟨rfl, h_⟩
            have Qw7 := Lib.hid h_
            clear h_
            go_wp2_with (first | refine wpList_load_seg rfl 48 _ rfl _ _ rfl _ Qw7.out.at_.seg _ Tryd.underlying48 rfl (infoPl Qw7.out.at_.ok) ?_ | refine wpList_load_seg_g rfl 48 _ rfl _ _ rfl _ Qw7.out.at_.seg _ Tryd.underlying48 rfl (infoPl Qw7.out.at_.ok) ?_)
            refine (bLine 1 Qw7.out).mono ?_
            rw [L5.out]
            rintro e w8 ⟨rfl, h_⟩
            have Qw8 := Lib.hid h_
            clear h_
            go_wp2_with (first | refine wpList_load_seg rfl 48 _ rfl _ _ rfl _ Qw8.out.at_.seg _ Tryd.underlying48 rfl (infoPl Qw8.out.at_.ok) ?_ | refine wpList_load_seg_g rfl 48 _ rfl _ _ rfl _ Qw8.out.at_.seg _ Tryd.underlying48 rfl (infoPl Qw8.out.at_.ok) ?_)
            refine (bLine 0 Qw8.out).mono ?_
            rw [M5.out]
            rintro e w9 ⟨rfl, h_⟩
            have Qw9 := Lib.hid h_
            clear h_
            go_wp2_with (first | refine wpList_load_seg rfl 48 _ rfl _ _ rfl _ Qw9.out.at_.seg _ Tryd.underlying48 rfl (infoPl Qw9.out.at_.ok) ?_ | refine wpList_load_seg_g rfl 48 _ rfl _ _ rfl _ Qw9.out.at_.seg _ Tryd.underlying48 rfl (infoPl Qw9.out.at_.ok) ?_)
            refine (bUp s Qw9.out).mono ?_
            rw [U5.out]
            rintro e wa ⟨rfl, h_⟩
            have Qwa := Lib.hid h_
            clear h_
            go_wp2_with (first | refine wpList_load_seg rfl 48 _ rfl _ _ rfl _ Qwa.out.at_.seg _ Tryd.underlying48 rfl (infoPl Qwa.out.at_.ok) ?_ | refine wpList_load_seg_g rfl 48 _ rfl _ _ rfl _ Qwa.out.at_.seg _ Tryd.underlying48 rfl (infoPl Qwa.out.at_.ok) ?_)
            refine (bRead 2101252 4 (by omega) Qwa.out).mono ?_
            rw [E6.out]
            rintro e wb ⟨rfl, h_⟩
            have Qwb := Lib.hid h_
            clear h_
            go_wp2_with (first | refine wpList_load_seg rfl 48 _ rfl _ _ rfl _ Qwb.out.at_.seg _ Tryd.underlying48 rfl (infoPl Qwb.out.at_.ok) ?_ | refine wpList_load_seg_g rfl 48 _ rfl _ _ rfl _ Qwb.out.at_.seg _ Tryd.underlying48 rfl (infoPl Qwb.out.at_.ok) ?_)
            refine (bLine 1 Qwb.out).mono ?_
            rw [L6.out]
            rintro e wc ⟨rfl, h_⟩
            have Qwc := Lib.hid h_
            clear h_
            go_wp2_with (first | refine wpList_load_seg rfl 48 _ rfl _ _ rfl _ Qwc.out.at_.seg _ Tryd.underlying48 rfl (infoPl Qwc.out.at_.ok) ?_ | refine wpList_load_seg_g rfl 48 _ rfl _ _ rfl _ Qwc.out.at_.seg _ Tryd.underlying48 rfl (infoPl Qwc.out.at_.ok) ?_)
            refine (bWrite 2097156 4 s (by omega) (by omega) Qwc.out).mono ?_
            rw [E7.out]
            rintro e wd ⟨rfl, h_⟩
            have Qwd := Lib.hid h_
            clear h_
            go_wp2_with (first | refine wpList_load_seg rfl 48 _ rfl _ _ rfl _ Qwd.out.at_.seg _ Tryd.underlying48 rfl (infoPl Qwd.out.at_.ok) ?_ | refine wpList_load_seg_g rfl 48 _ rfl _ _ rfl _ Qwd.out.at_.seg _ Tryd.underlying48 rfl (infoPl Qwd.out.at_.ok) ?_)
            refine (bLine 1 Qwd.out).mono ?_
            rw [L7.out]
            rintro e we ⟨rfl, h_⟩
            have Qwe := Lib.hid h_
            clear h_
            go_wp2_with (first | refine wpList_load_seg rfl 48 _ rfl _ _ rfl _ Qwe.out.at_.seg _ Tryd.underlying48 rfl (infoPl Qwe.out.at_.ok) ?_ | refine wpList_load_seg_g rfl 48 _ rfl _ _ rfl _ Qwe.out.at_.seg _ Tryd.underlying48 rfl (infoPl Qwe.out.at_.ok) ?_)
            refine (bWrite 2101252 4 (s + 4294967296) (by omega) (by omega) Qwe.out).mono ?_
            rw [E8.out]
            rintro e wf ⟨rfl, h_⟩
            have Qwf := Lib.hid h_
            clear h_
            go_wp2_with (first | refine wpList_load_seg rfl 48 _ rfl _ _ rfl _ Qwf.out.at_.seg _ Tryd.underlying48 rfl (infoPl Qwf.out.at_.ok) ?_ | refine wpList_load_seg_g rfl 48 _ rfl _ _ rfl _ Qwf.out.at_.seg _ Tryd.underlying48 rfl (infoPl Qwf.out.at_.ok) ?_)
            refine (bLine 1 Qwf.out).mono ?_
            rw [L8.out]
            rintro e wg ⟨rfl, h_⟩
            have Qwg := Lib.hid h_
            clear h_
            go_wp2_with (first | refine wpList_load_seg rfl 48 _ rfl _ _ rfl _ Qwg.out.at_.seg _ Tryd.underlying48 rfl (infoPl Qwg.out.at_.ok) ?_ | refine wpList_load_seg_g rfl 48 _ rfl _ _ rfl _ Qwg.out.at_.seg _ Tryd.underlying48 rfl (infoPl Qwg.out.at_.ok) ?_)
            go_ret
            exact ⟨rfl, Qwg.out.fr⟩
          · go_enter Tryd.func12, Tryd.ntmps12
            go_wp2_with fail
            refine (pawake_c w HT.out).mono ?_
            rintro e w0 ⟨rfl, hf0⟩
            have F0 := Lib.hid hf0
            clear hf0
            go_wp2_with fail
            refine (PNew_c w0).mono ?_
            rintro e w1 ⟨rfl, hf1⟩
            have F1 := Lib.hid (F0.out.trans hf1)
            clear hf1
            go_wp2_with (refine wpList_store_row rfl 48 _ _ rfl _ _ rfl rfl _ _ (heap_alloc_new _ _) infoPic rfl (one_plist _) ?_)
            have h2_ := fun t old => Pic1.laid HT.out F1.out t old PS.new PS.ok_new
            generalize hW : (World.setRow _ _ _) = w2
            have Q2 := Lib.hid (by rw [← hW]; exact h2_ _ _ : Pic1 w w2 w1.heap.size PS.new)
            clear h2_ hW
            refine (bWrite x4 4 prio HX4.out HP.out Q2.out).mono ?_
            rw [E1.out]
            rintro e w3 ⟨rfl, h_⟩
            have Qw3 := Lib.hid h_
            clear h_
            go_wp2_with (first | refine wpList_load_seg rfl 48 _ rfl _ _ rfl _ Qw3.out.at_.seg _ Tryd.underlying48 rfl (infoPl Qw3.out.at_.ok) ?_ | refine wpList_load_seg_g rfl 48 _ rfl _ _ rfl _ Qw3.out.at_.seg _ Tryd.underlying48 rfl (infoPl Qw3.out.at_.ok) ?_)
            refine (bWrite 8320 4 q (by omega) HQ.out Qw3.out).mono ?_
            rw [E2.out]
            rintro e w4 ⟨rfl, h_⟩
            have Qw4 := Lib.hid h_
            clear h_
            go_wp2_with (first | refine wpList_load_seg rfl 48 _ rfl _ _ rfl _ Qw4.out.at_.seg _ Tryd.underlying48 rfl (infoPl Qw4.out.at_.ok) ?_ | refine wpList_load_seg_g rfl 48 _ rfl _ _ rfl _ Qw4.out.at_.seg _ Tryd.underlying48 rfl (infoPl Qw4.out.at_.ok) ?_)
            refine (bWrite 2101248 4 floor (by omega) HF.out Qw4.out).mono ?_
            rw [E3.out]
            rintro e w5 ⟨rfl, h_⟩
            have Qw5 := Lib.hid h_
            clear h_
            go_wp2_with (first | refine wpList_load_seg rfl 48 _ rfl _ _ rfl _ Qw5.out.at_.seg _ Tryd.underlying48 rfl (infoPl Qw5.out.at_.ok) ?_ | refine wpList_load_seg_g rfl 48 _ rfl _ _ rfl _ Qw5.out.at_.seg _ Tryd.underlying48 rfl (infoPl Qw5.out.at_.ok) ?_)
            refine (bLevel s true Qw5.out).mono ?_
            rw [E4.out]
            rintro e w6 ⟨rfl, h_⟩
            have Qw6 := Lib.hid h_
            clear h_
            go_wp2_with (first | refine wpList_load_seg rfl 48 _ rfl _ _ rfl _ Qw6.out.at_.seg _ Tryd.underlying48 rfl (infoPl Qw6.out.at_.ok) ?_ | refine wpList_load_seg_g rfl 48 _ rfl _ _ rfl _ Qw6.out.at_.seg _ Tryd.underlying48 rfl (infoPl Qw6.out.at_.ok) ?_)
            refine (bLevel s _ Qw6.out).mono ?_
            rw [E5.out]
            rintro e w7 ⟨rfl, h_⟩
            have Qw7 := Lib.hid h_
            clear h_
            go_wp2_with (first | refine wpList_load_seg rfl 48 _ rfl _ _ rfl _ Qw7.out.at_.seg _ Tryd.underlying48 rfl (infoPl Qw7.out.at_.ok) ?_ | refine wpList_load_seg_g rfl 48 _ rfl _ _ rfl _ Qw7.out.at_.seg _ Tryd.underlying48 rfl (infoPl Qw7.out.at_.ok) ?_)
            refine (bLine 1 Qw7.out).mono ?_
            rw [L5.out]
            rintro e w8 ⟨rfl, h_⟩
            have Qw8 := Lib.hid h_
            clear h_
            go_wp2_with (first | refine wpList_load_seg rfl 48 _ rfl _ _ rfl _ Qw8.out.at_.seg _ Tryd.underlying48 rfl (infoPl Qw8.out.at_.ok) ?_ | refine wpList_load_seg_g rfl 48 _ rfl _ _ rfl _ Qw8.out.at_.seg _ Tryd.underlying48 rfl (infoPl Qw8.out.at_.ok) ?_)
            refine (bLine 0 Qw8.out).mono ?_
            rw [M5.out]
            rintro e w9 ⟨rfl, h_⟩
            have Qw9 := Lib.hid h_
            clear h_
            go_wp2_with (first | refine wpList_load_seg rfl 48 _ rfl _ _ rfl _ Qw9.out.at_.seg _ Tryd.underlying48 rfl (infoPl Qw9.out.at_.ok) ?_ | refine wpList_load_seg_g rfl 48 _ rfl _ _ rfl _ Qw9.out.at_.seg _ Tryd.underlying48 rfl (infoPl Qw9.out.at_.ok) ?_)
            refine (bUp s Qw9.out).mono ?_
            rw [U5.out]
            rintro e wa ⟨rfl, h_⟩
            have Qwa := Lib.hid h_
            clear h_
            go_wp2_with (first | refine wpList_load_seg rfl 48 _ rfl _ _ rfl _ Qwa.out.at_.seg _ Tryd.underlying48 rfl (infoPl Qwa.out.at_.ok) ?_ | refine wpList_load_seg_g rfl 48 _ rfl _ _ rfl _ Qwa.out.at_.seg _ Tryd.underlying48 rfl (infoPl Qwa.out.at_.ok) ?_)
            refine (bRead 2101252 4 (by omega) Qwa.out).mono ?_
            rw [E6.out]
            rintro e wb ⟨rfl, h_⟩
            have Qwb := Lib.hid h_
            clear h_
            go_wp2_with (first | refine wpList_load_seg rfl 48 _ rfl _ _ rfl _ Qwb.out.at_.seg _ Tryd.underlying48 rfl (infoPl Qwb.out.at_.ok) ?_ | refine wpList_load_seg_g rfl 48 _ rfl _ _ rfl _ Qwb.out.at_.seg _ Tryd.underlying48 rfl (infoPl Qwb.out.at_.ok) ?_)
            refine (bLine 1 Qwb.out).mono ?_
            rw [L6.out]
            rintro e wc ⟨rfl, h_⟩
            have Qwc := Lib.hid h_
            clear h_
            go_wp2_with (first | refine wpList_load_seg rfl 48 _ rfl _ _ rfl _ Qwc.out.at_.seg _ Tryd.underlying48 rfl (infoPl Qwc.out.at_.ok) ?_ | refine wpList_load_seg_g rfl 48 _ rfl _ _ rfl _ Qwc.out.at_.seg _ Tryd.underlying48 rfl (infoPl Qwc.out.at_.ok) ?_)
            refine (bWrite 2097156 4 s (by omega) (by omega) Qwc.out).mono ?_
            rw [E7.out]
            rintro e wd ⟨rfl, h_⟩
            have Qwd := Lib.hid h_
            clear h_
            go_wp2_with (first | refine wpList_load_seg rfl 48 _ rfl _ _ rfl _ Qwd.out.at_.seg _ Tryd.underlying48 rfl (infoPl Qwd.out.at_.ok) ?_ | refine wpList_load_seg_g rfl 48 _ rfl _ _ rfl _ Qwd.out.at_.seg _ Tryd.underlying48 rfl (infoPl Qwd.out.at_.ok) ?_)
            refine (bLine 1 Qwd.out).mono ?_
            rw [L7.out]
            rintro e we ⟨rfl, h_⟩
            have Qwe := Lib.hid h_
            clear h_
            go_wp2_with (first | refine wpList_load_seg rfl 48 _ rfl _ _ rfl _ Qwe.out.at_.seg _ Tryd.underlying48 rfl (infoPl Qwe.out.at_.ok) ?_ | refine wpList_load_seg_g rfl 48 _ rfl _ _ rfl _ Qwe.out.at_.seg _ Tryd.underlying48 rfl (infoPl Qwe.out.at_.ok) ?_)
            refine (bWrite 2101252 4 (s + 4294967296) (by omega) (by omega) Qwe.out).mono ?_
            rw [E8.out]
            rintro e wf ⟨rfl, h_⟩
            have Qwf := Lib.hid h_
            clear h_
            go_wp2_with (first | refine wpList_load_seg rfl 48 _ rfl _ _ rfl _ Qwf.out.at_.seg _ Tryd.underlying48 rfl (infoPl Qwf.out.at_.ok) ?_ | refine wpList_load_seg_g rfl 48 _ rfl _ _ rfl _ Qwf.out.at_.seg _ Tryd.underlying48 rfl (infoPl Qwf.out.at_.ok) ?_)
            refine (bLine 1 Qwf.out).mono ?_
            rw [L8.out]
            rintro e wg ⟨rfl, h_⟩
            have Qwg := Lib.hid h_
            clear h_
            go_wp2_with (first | refine wpList_load_seg rfl 48 _ rfl _ _ rfl _ Qwg.out.at_.seg _ Tryd.underlying48 rfl (infoPl Qwg.out.at_.ok) ?_ | refine wpList_load_seg_g rfl 48 _ rfl _ _ rfl _ Qwg.out.at_.seg _ Tryd.underlying48 rfl (infoPl Qwg.out.at_.ok) ?_)
            go_ret
            exact ⟨rfl, Qwg.out.fr⟩
        · exact absurd ((hv ▸ l7 hb7 : s = 0)) (by omega)
      · have hg0 : decide ((0 : Int) < (p : Int)) = false := decide_eq_false (by omega)
        rw [if_neg h0] at hv
        rw [hv] at E6 E7 E8
        cases hb7 : t7.line 1
        · have L7 := Lib.hid hb7
          clear l7 hb7 hv
          cases still
          · go_enter Tryd.func12, Tryd.ntmps12
            go_wp2_with fail
            refine (pawake_c w HT.out).mono ?_
            rintro e w0 ⟨rfl, hf0⟩
            have F0 := Lib.hid hf0
            clear hf0
            go_wp2_with fail
            refine (PNew_c w0).mono ?_
            rintro e w1 ⟨rfl, hf1⟩
            have F1 := Lib.hid (F0.out.trans hf1)
            clear hf1
            go_wp2_with (refine wpList_store_row rfl 48 _ _ rfl _ _ rfl rfl _ _ (heap_alloc_new _ _) infoPic rfl (one_plist _) ?_)
            have h2_ := fun t old => Pic1.laid HT.out F1.out t old PS.new PS.ok_new
            generalize hW : (World.setRow _ _ _) = w2
            have Q2 := Lib.hid (by rw [← hW]; exact h2_ _ _ : Pic1 w w2 w1.heap.size PS.new)
            clear h2_ hW
            refine (bWrite x4 4 prio HX4.out HP.out Q2.out).mono ?_
            rw [E1.out]
            rintro e w3 ⟨rfl, h_⟩
            have Qw3 := Lib.hid h_
            clear h_
            go_wp2_with (first | refine wpList_load_seg rfl 48 _ rfl _ _ rfl _ Qw3.out.at_.seg _ Tryd.underlying48 rfl (infoPl Qw3.out.at_.ok) ?_ | refine wpList_load_seg_g rfl 48 _ rfl _ _ rfl _ Qw3.out.at_.seg _ Tryd.underlying48 rfl (infoPl Qw3.out.at_.ok) ?_)
            refine (bWrite 8320 4 q (by omega) HQ.out Qw3.out).mono ?_
            rw [E2.out]
            rintro e w4 ⟨rfl, h_⟩
            have Qw4 := Lib.hid h_
            clear h_
            go_wp2_with (first | refine wpList_load_seg rfl 48 _ rfl _ _ rfl _ Qw4.out.at_.seg _ Tryd.underlying48 rfl (infoPl Qw4.out.at_.ok) ?_ | refine wpList_load_seg_g rfl 48 _ rfl _ _ rfl _ Qw4.out.at_.seg _ Tryd.underlying48 rfl (infoPl Qw4.out.at_.ok) ?_)
            refine (bWrite 2101248 4 floor (by omega) HF.out Qw4.out).mono ?_
            rw [E3.out]
            rintro e w5 ⟨rfl, h_⟩
            have Qw5 := Lib.hid h_
            clear h_
            go_wp2_with (first | refine wpList_load_seg rfl 48 _ rfl _ _ rfl _ Qw5.out.at_.seg _ Tryd.underlying48 rfl (infoPl Qw5.out.at_.ok) ?_ | refine wpList_load_seg_g rfl 48 _ rfl _ _ rfl _ Qw5.out.at_.seg _ Tryd.underlying48 rfl (infoPl Qw5.out.at_.ok) ?_)
            refine (bLevel s true Qw5.out).mono ?_
            rw [E4.out]
            rintro e w6 ⟨rfl, h_⟩
            have Qw6 := Lib.hid h_
            clear h_
            go_wp2_with (first | refine wpList_load_seg rfl 48 _ rfl _ _ rfl _ Qw6.out.at_.seg _ Tryd.underlying48 rfl (infoPl Qw6.out.at_.ok) ?_ | refine wpList_load_seg_g rfl 48 _ rfl _ _ rfl _ Qw6.out.at_.seg _ Tryd.underlying48 rfl (infoPl Qw6.out.at_.ok) ?_)
            refine (bLevel s _ Qw6.out).mono ?_
            rw [E5.out]
            rintro e w7 ⟨rfl, h_⟩
            have Qw7 := Lib.hid h_
            clear h_
            go_wp2_with (first | refine wpList_load_seg rfl 48 _ rfl _ _ rfl _ Qw7.out.at_.seg _ Tryd.underlying48 rfl (infoPl Qw7.out.at_.ok) ?_ | refine wpList_load_seg_g rfl 48 _ rfl _ _ rfl _ Qw7.out.at_.seg _ Tryd.underlying48 rfl (infoPl Qw7.out.at_.ok) ?_)
            refine (bLine 1 Qw7.out).mono ?_
            rw [L5.out]
            rintro e w8 ⟨rfl, h_⟩
            have Qw8 := Lib.hid h_
            clear h_
            go_wp2_with (first | refine wpList_load_seg rfl 48 _ rfl _ _ rfl _ Qw8.out.at_.seg _ Tryd.underlying48 rfl (infoPl Qw8.out.at_.ok) ?_ | refine wpList_load_seg_g rfl 48 _ rfl _ _ rfl _ Qw8.out.at_.seg _ Tryd.underlying48 rfl (infoPl Qw8.out.at_.ok) ?_)
            refine (bLine 0 Qw8.out).mono ?_
            rw [M5.out]
            rintro e w9 ⟨rfl, h_⟩
            have Qw9 := Lib.hid h_
            clear h_
            go_wp2_with (first | refine wpList_load_seg rfl 48 _ rfl _ _ rfl _ Qw9.out.at_.seg _ Tryd.underlying48 rfl (infoPl Qw9.out.at_.ok) ?_ | refine wpList_load_seg_g rfl 48 _ rfl _ _ rfl _ Qw9.out.at_.seg _ Tryd.underlying48 rfl (infoPl Qw9.out.at_.ok) ?_)
            refine (bUp s Qw9.out).mono ?_
            rw [U5.out]
            rintro e wa ⟨rfl, h_⟩
            have Qwa := Lib.hid h_
            clear h_
            go_wp2_with (first | refine wpList_load_seg rfl 48 _ rfl _ _ rfl _ Qwa.out.at_.seg _ Tryd.underlying48 rfl (infoPl Qwa.out.at_.ok) ?_ | refine wpList_load_seg_g rfl 48 _ rfl _ _ rfl _ Qwa.out.at_.seg _ Tryd.underlying48 rfl (infoPl Qwa.out.at_.ok) ?_)
            refine (bRead 2101252 4 (by omega) Qwa.out).mono ?_
            rw [E6.out]
            rintro e wb ⟨rfl, h_⟩
            have Qwb := Lib.hid h_
            clear h_
            go_wp2_with (first | refine wpList_load_seg rfl 48 _ rfl _ _ rfl _ Qwb.out.at_.seg _ Tryd.underlying48 rfl (infoPl Qwb.out.at_.ok) ?_ | refine wpList_load_seg_g rfl 48 _ rfl _ _ rfl _ Qwb.out.at_.seg _ Tryd.underlying48 rfl (infoPl Qwb.out.at_.ok) ?_)
            refine (bLine 1 Qwb.out).mono ?_
            rw [L6.out]
            rintro e wc ⟨rfl, h_⟩
            have Qwc := Lib.hid h_
            clear h_
            go_wp2_with (first | refine wpList_load_seg rfl 48 _ rfl _ _ rfl _ Qwc.out.at_.seg _ Tryd.underlying48 rfl (infoPl Qwc.out.at_.ok) ?_ | refine wpList_load_seg_g rfl 48 _ rfl _ _ rfl _ Qwc.out.at_.seg _ Tryd.underlying48 rfl (infoPl Qwc.out.at_.ok) ?_)
            refine (bWrite 2097156 4 0 (by omega) (by omega) Qwc.out).mono ?_
            rw [E7.out]
            rintro e wd ⟨rfl, h_⟩
            have Qwd := Lib.hid h_
            clear h_
            go_wp2_with (first | refine wpList_load_seg rfl 48 _ rfl _ _ rfl _ Qwd.out.at_.seg _ Tryd.underlying48 rfl (infoPl Qwd.out.at_.ok) ?_ | refine wpList_load_seg_g rfl 48 _ rfl _ _ rfl _ Qwd.out.at_.seg _ Tryd.underlying48 rfl (infoPl Qwd.out.at_.ok) ?_)
            refine (bLine 1 Qwd.out).mono ?_
            rw [L7.out]
            rintro e we ⟨rfl, h_⟩
            have Qwe := Lib.hid h_
            clear h_
            go_wp2_with (first | refine wpList_load_seg rfl 48 _ rfl _ _ rfl _ Qwe.out.at_.seg _ Tryd.underlying48 rfl (infoPl Qwe.out.at_.ok) ?_ | refine wpList_load_seg_g rfl 48 _ rfl _ _ rfl _ Qwe.out.at_.seg _ Tryd.underlying48 rfl (infoPl Qwe.out.at_.ok) ?_)
            refine (bWrite 2101252 4 (0 + 4294967296) (by omega) (by omega) Qwe.out).mono ?_
            rw [E8.out]
            rintro e wf ⟨rfl, h_⟩
            have Qwf := Lib.hid h_
            clear h_
            go_wp2_with (first | refine wpList_load_seg rfl 48 _ rfl _ _ rfl _ Qwf.out.at_.seg _ Tryd.underlying48 rfl (infoPl Qwf.out.at_.ok) ?_ | refine wpList_load_seg_g rfl 48 _ rfl _ _ rfl _ Qwf.out.at_.seg _ Tryd.underlying48 rfl (infoPl Qwf.out.at_.ok) ?_)
            refine (bLine 1 Qwf.out).mono ?_
            rw [L8.out]
            rintro e wg ⟨rfl, h_⟩
            have Qwg := Lib.hid h_
            clear h_
            go_wp2_with (first | refine wpList_load_seg rfl 48 _ rfl _ _ rfl _ Qwg.out.at_.seg _ Tryd.underlying48 rfl (infoPl Qwg.out.at_.ok) ?_ | refine wpList_load_seg_g rfl 48 _ rfl _ _ rfl _ Qwg.out.at_.seg _ Tryd.underlying48 rfl (infoPl Qwg.out.at_.ok) ?_)
            go_ret
            exact ⟨rfl, Qwg.out.fr⟩
          · go_enter Tryd.func12, Tryd.ntmps12
            go_wp2_with fail
            refine (pawake_c w HT.out).mono ?_
            rintro e w0 ⟨rfl, hf0⟩
            have F0 := Lib.hid hf0
            clear hf0
            go_wp2_with fail
            refine (PNew_c w0).mono ?_
            rintro e w1 ⟨rfl, hf1⟩
            have F1 := Lib.hid (F0.out.trans hf1)
            clear hf1
            go_wp2_with (refine wpList_store_row rfl 48 _ _ rfl _ _ rfl rfl _ _ (heap_alloc_new _ _) infoPic rfl (one_plist _) ?_)
            have h2_ := fun t old => Pic1.laid HT.out F1.out t old PS.new PS.ok_new
            generalize hW : (World.setRow _ _ _) = w2
            have Q2 := Lib.hid (by rw [← hW]; exact h2_ _ _ : Pic1 w w2 w1.heap.size PS.new)
            clear h2_ hW
            refine (bWrite x4 4 prio HX4.out HP.out Q2.out).mono ?_
            rw [E1.out]
            rintro e w3 ⟨rfl, h_⟩
            have Qw3 := Lib.hid h_
            clear h_
            go_wp2_with (first | refine wpList_load_seg rfl 48 _ rfl _ _ rfl _ Qw3.out.at_.seg _ Tryd.underlying48 rfl (infoPl Qw3.out.at_.ok) ?_ | refine wpList_load_seg_g rfl 48 _ rfl _ _ rfl _ Qw3.out.at_.seg _ Tryd.underlying48 rfl (infoPl Qw3.out.at_.ok) ?_)
            refine (bWrite 8320 4 q (by omega) HQ.out Qw3.out).mono ?_
            rw [E2.out]
            rintro e w4 ⟨rfl, h_⟩
            have Qw4 := Lib.hid h_
            clear h_
            go_wp2_with (first | refine wpList_load_seg rfl 48 _ rfl _ _ rfl _ Qw4.out.at_.seg _ Tryd.underlying48 rfl (infoPl Qw4.out.at_.ok) ?_ | refine wpList_load_seg_g rfl 48 _ rfl _ _ rfl _ Qw4.out.at_.seg _ Tryd.underlying48 rfl (infoPl Qw4.out.at_.ok) ?_)
            refine (bWrite 2101248 4 floor (by omega) HF.out Qw4.out).mono ?_
            rw [E3.out]
            rintro e w5 ⟨rfl, h_⟩
            have Qw5 := Lib.hid h_
            clear h_
            go_wp2_with (first | refine wpList_load_seg rfl 48 _ rfl _ _ rfl _ Qw5.out.at_.seg _ Tryd.underlying48 rfl (infoPl Qw5.out.at_.ok) ?_ | refine wpList_load_seg_g rfl 48 _ rfl _ _ rfl _ Qw5.out.at_.seg _ Tryd.underlying48 rfl (infoPl Qw5.out.at_.ok) ?_)
            refine (bLevel s true Qw5.out).mono ?_
            rw [E4.out]
            rintro e w6 ⟨rfl, h_⟩
            have Qw6 := Lib.hid h_
            clear h_
            go_wp2_with (first | refine wpList_load_seg rfl 48 _ rfl _ _ rfl _ Qw6.out.at_.seg _ Tryd.underlying48 rfl (infoPl Qw6.out.at_.ok) ?_ | refine wpList_load_seg_g rfl 48 _ rfl _ _ rfl _ Qw6.out.at_.seg _ Tryd.underlying48 rfl (infoPl Qw6.out.at_.ok) ?_)
            refine (bLevel s _ Qw6.out).mono ?_
            rw [E5.out]
            rintro e w7 ⟨rfl, h_⟩
            have Qw7 := Lib.hid h_
            clear h_
            go_wp2_with (first | refine wpList_load_seg rfl 48 _ rfl _ _ rfl _ Qw7.out.at_.seg _ Tryd.underlying48 rfl (infoPl Qw7.out.at_.ok) ?_ | refine wpList_load_seg_g rfl 48 _ rfl _ _ rfl _ Qw7.out.at_.seg _ Tryd.underlying48 rfl (infoPl Qw7.out.at_.ok) ?_)
            refine (bLine 1 Qw7.out).mono ?_
            rw [L5.out]
            rintro e w8 ⟨rfl, h_⟩
            have Qw8 := Lib.hid h_
            clear h_
            go_wp2_with (first | refine wpList_load_seg rfl 48 _ rfl _ _ rfl _ Qw8.out.at_.seg _ Tryd.underlying48 rfl (infoPl Qw8.out.at_.ok) ?_ | refine wpList_load_seg_g rfl 48 _ rfl _ _ rfl _ Qw8.out.at_.seg _ Tryd.underlying48 rfl (infoPl Qw8.out.at_.ok) ?_)
            refine (bLine 0 Qw8.out).mono ?_
            rw [M5.out]
            rintro e w9 ⟨rfl, h_⟩
            have Qw9 := Lib.hid h_
            clear h_
            go_wp2_with (first | refine wpList_load_seg rfl 48 _ rfl _ _ rfl _ Qw9.out.at_.seg _ Tryd.underlying48 rfl (infoPl Qw9.out.at_.ok) ?_ | refine wpList_load_seg_g rfl 48 _ rfl _ _ rfl _ Qw9.out.at_.seg _ Tryd.underlying48 rfl (infoPl Qw9.out.at_.ok) ?_)
            refine (bUp s Qw9.out).mono ?_
            rw [U5.out]
            rintro e wa ⟨rfl, h_⟩
            have Qwa := Lib.hid h_
            clear h_
            go_wp2_with (first | refine wpList_load_seg rfl 48 _ rfl _ _ rfl _ Qwa.out.at_.seg _ Tryd.underlying48 rfl (infoPl Qwa.out.at_.ok) ?_ | refine wpList_load_seg_g rfl 48 _ rfl _ _ rfl _ Qwa.out.at_.seg _ Tryd.underlying48 rfl (infoPl Qwa.out.at_.ok) ?_)
            refine (bRead 2101252 4 (by omega) Qwa.out).mono ?_
            rw [E6.out]
            rintro e wb ⟨rfl, h_⟩
            have Qwb := Lib.hid h_
            clear h_
            go_wp2_with (first | refine wpList_load_seg rfl 48 _ rfl _ _ rfl _ Qwb.out.at_.seg _ Tryd.underlying48 rfl (infoPl Qwb.out.at_.ok) ?_ | refine wpList_load_seg_g rfl 48 _ rfl _ _ rfl _ Qwb.out.at_.seg _ Tryd.underlying48 rfl (infoPl Qwb.out.at_.ok) ?_)
            refine (bLine 1 Qwb.out).mono ?_
            rw [L6.out]
            rintro e wc ⟨rfl, h_⟩
            have Qwc := Lib.hid h_
            clear h_
            go_wp2_with (first | refine wpList_load_seg rfl 48 _ rfl _ _ rfl _ Qwc.out.at_.seg _ Tryd.underlying48 rfl (infoPl Qwc.out.at_.ok) ?_ | refine wpList_load_seg_g rfl 48 _ rfl _ _ rfl _ Qwc.out.at_.seg _ Tryd.underlying48 rfl (infoPl Qwc.out.at_.ok) ?_)
            refine (bWrite 2097156 4 0 (by omega) (by omega) Qwc.out).mono ?_
            rw [E7.out]
            rintro e wd ⟨rfl, h_⟩
            have Qwd := Lib.hid h_
            clear h_
            go_wp2_with (first | refine wpList_load_seg rfl 48 _ rfl _ _ rfl _ Qwd.out.at_.seg _ Tryd.underlying48 rfl (infoPl Qwd.out.at_.ok) ?_ | refine wpList_load_seg_g rfl 48 _ rfl _ _ rfl _ Qwd.out.at_.seg _ Tryd.underlying48 rfl (infoPl Qwd.out.at_.ok) ?_)
            refine (bLine 1 Qwd.out).mono ?_
            rw [L7.out]
            rintro e we ⟨rfl, h_⟩
            have Qwe := Lib.hid h_
            clear h_
            go_wp2_with (first | refine wpList_load_seg rfl 48 _ rfl _ _ rfl _ Qwe.out.at_.seg _ Tryd.underlying48 rfl (infoPl Qwe.out.at_.ok) ?_ | refine wpList_load_seg_g rfl 48 _ rfl _ _ rfl _ Qwe.out.at_.seg _ Tryd.underlying48 rfl (infoPl Qwe.out.at_.ok) ?_)
            refine (bWrite 2101252 4 (0 + 4294967296) (by omega) (by omega) Qwe.out).mono ?_
            rw [E8.out]
            rintro e wf ⟨rfl, h_⟩
            have Qwf := Lib.hid h_
            clear h_
            go_wp2_with (first | refine wpList_load_seg rfl 48 _ rfl _ _ rfl _ Qwf.out.at_.seg _ Tryd.underlying48 rfl (infoPl Qwf.out.at_.ok) ?_ | refine wpList_load_seg_g rfl 48 _ rfl _ _ rfl _ Qwf.out.at_.seg _ Tryd.underlying48 rfl (infoPl Qwf.out.at_.ok) ?_)
            refine (bLine 1 Qwf.out).mono ?_
            rw [L8.out]
            rintro e wg ⟨rfl, h_⟩
            have Qwg := Lib.hid h_
            clear h_
            go_wp2_with (first | refine wpList_load_seg rfl 48 _ rfl _ _ rfl _ Qwg.out.at_.seg _ Tryd.underlying48 rfl (infoPl Qwg.out.at_.ok) ?_ | refine wpList_load_seg_g rfl 48 _ rfl _ _ rfl _ Qwg.out.at_.seg _ Tryd.underlying48 rfl (infoPl Qwg.out.at_.ok) ?_)
            go_ret
            exact ⟨rfl, Qwg.out.fr⟩
        · have L7 := Lib.hid hb7
          clear l7 hb7 hv
          cases still
          · go_enter Tryd.func12, Tryd.ntmps12
            go_wp2_with fail
            refine (pawake_c w HT.out).mono ?_
            rintro e w0 ⟨rfl, hf0⟩
            have F0 := Lib.hid hf0
            clear hf0
            go_wp2_with fail
            refine (PNew_c w0).mono ?_
            rintro e w1 ⟨rfl, hf1⟩
            have F1 := Lib.hid (F0.out.trans hf1)
            clear hf1
            go_wp2_with (refine wpList_store_row rfl 48 _ _ rfl _ _ rfl rfl _ _ (heap_alloc_new _ _) infoPic rfl (one_plist _) ?_)
            have h2_ := fun t old => Pic1.laid HT.out F1.out t old PS.new PS.ok_new
            generalize hW : (World.setRow _ _ _) = w2
            have Q2 := Lib.hid (by rw [← hW]; exact h2_ _ _ : Pic1 w w2 w1.heap.size PS.new)
            clear h2_ hW
            refine (bWrite x4 4 prio HX4.out HP.out Q2.out).mono ?_
            rw [E1.out]
            rintro e w3 ⟨rfl, h_⟩
            have Qw3 := Lib.hid h_
            clear h_
            go_wp2_with (first | refine wpList_load_seg rfl 48 _ rfl _ _ rfl _ Qw3.out.at_.seg _ Tryd.underlying48 rfl (infoPl Qw3.out.at_.ok) ?_ | refine wpList_load_seg_g rfl 48 _ rfl _ _ rfl _ Qw3.out.at_.seg _ Tryd.underlying48 rfl (infoPl Qw3.out.at_.ok) ?_)
            refine (bWrite 8320 4 q (by omega) HQ.out Qw3.out).mono ?_
            rw [E2.out]
            rintro e w4 ⟨rfl, h_⟩
            have Qw4 := Lib.hid h_
            clear h_
            go_wp2_with (first | refine wpList_load_seg rfl 48 _ rfl _ _ rfl _ Qw4.out.at_.seg _ Tryd.underlying48 rfl (infoPl Qw4.out.at_.ok) ?_ | refine wpList_load_seg_g rfl 48 _ rfl _ _ rfl _ Qw4.out.at_.seg _ Tryd.underlying48 rfl (infoPl Qw4.out.at_.ok) ?_)
            refine (bWrite 2101248 4 floor (by omega) HF.out Qw4.out).mono ?_
            rw [E3.out]
            rintro e w5 ⟨rfl, h_⟩
            have Qw5 := Lib.hid h_
            clear h_
            go_wp2_with (first | refine wpList_load_seg rfl 48 _ rfl _ _ rfl _ Qw5.out.at_.seg _ Tryd.underlying48 rfl (infoPl Qw5.out.at_.ok) ?_ | refine wpList_load_seg_g rfl 48 _ rfl _ _ rfl _ Qw5.out.at_.seg _ Tryd.underlying48 rfl (infoPl Qw5.out.at_.ok) ?_)
            refine (bLevel s true Qw5.out).mono ?_
            rw [E4.out]
            rintro e w6 ⟨rfl, h_⟩
            have Qw6 := Lib.hid h_
            clear h_
            go_wp2_with (first | refine wpList_load_seg rfl 48 _ rfl _ _ rfl _ Qw6.out.at_.seg _ Tryd.underlying48 rfl (infoPl Qw6.out.at_.ok) ?_ | refine wpList_load_seg_g rfl 48 _ rfl _ _ rfl _ Qw6.out.at_.seg _ Tryd.underlying48 rfl (infoPl Qw6.out.at_.ok) ?_)
            refine (bLevel s _ Qw6.out).mono ?_
            rw [E5.out]
            rintro e w7 ⟨rfl, h_⟩
            have Qw7 := Lib.hid h_
            clear h_
            go_wp2_with (first | refine wpList_load_seg rfl 48 _ rfl _ _ rfl _ Qw7.out.at_.seg _ Tryd.underlying48 rfl (infoPl Qw7.out.at_.ok) ?_ | refine wpList_load_seg_g rfl 48 _ rfl _ _ rfl _ Qw7.out.at_.seg _ Tryd.underlying48 rfl (infoPl Qw7.out.at_.ok) ?_)
            refine (bLine 1 Qw7.out).mono ?_
            rw [L5.out]
            rintro e w8 ⟨rfl, h_⟩
            have Qw8 := Lib.hid h_
            clear h_
            go_wp2_with (first | refine wpList_load_seg rfl 48 _ rfl _ _ rfl _ Qw8.out.at_.seg _ Tryd.underlying48 rfl (infoPl Qw8.out.at_.ok) ?_ | refine wpList_load_seg_g rfl 48 _ rfl _ _ rfl _ Qw8.out.at_.seg _ Tryd.underlying48 rfl (infoPl Qw8.out.at_.ok) ?_)
            refine (bLine 0 Qw8.out).mono ?_
            rw [M5.out]
            rintro e w9 ⟨rfl, h_⟩
            have Qw9 := Lib.hid h_
            clear h_
            go_wp2_with (first | refine wpList_load_seg rfl 48 _ rfl _ _ rfl _ Qw9.out.at_.seg _ Tryd.underlying48 rfl (infoPl Qw9.out.at_.ok) ?_ | refine wpList_load_seg_g rfl 48 _ rfl _ _ rfl _ Qw9.out.at_.seg _ Tryd.underlying48 rfl (infoPl Qw9.out.at_.ok) ?_)
            refine (bUp s Qw9.out).mono ?_
            rw [U5.out]
            rintro e wa ⟨rfl, h_⟩
            have Qwa := Lib.hid h_
            clear h_
            go_wp2_with (first | refine wpList_load_seg rfl 48 _ rfl _ _ rfl _ Qwa.out.at_.seg _ Tryd.underlying48 rfl (infoPl Qwa.out.at_.ok) ?_ | refine wpList_load_seg_g rfl 48 _ rfl _ _ rfl _ Qwa.out.at_.seg _ Tryd.underlying48 rfl (infoPl Qwa.out.at_.ok) ?_)
            refine (bRead 2101252 4 (by omega) Qwa.out).mono ?_
            rw [E6.out]
            rintro e wb ⟨rfl, h_⟩
            have Qwb := Lib.hid h_
            clear h_
            go_wp2_with (first | refine wpList_load_seg rfl 48 _ rfl _ _ rfl _ Qwb.out.at_.seg _ Tryd.underlying48 rfl (infoPl Qwb.out.at_.ok) ?_ | refine wpList_load_seg_g rfl 48 _ rfl _ _ rfl _ Qwb.out.at_.seg _ Tryd.underlying48 rfl (infoPl Qwb.out.at_.ok) ?_)
            refine (bLine 1 Qwb.out).mono ?_
            rw [L6.out]
            rintro e wc ⟨rfl, h_⟩
            have Qwc := Lib.hid h_
            clear h_
            go_wp2_with (first | refine wpList_load_seg rfl 48 _ rfl _ _ rfl _ Qwc.out.at_.seg _ Tryd.underlying48 rfl (infoPl Qwc.out.at_.ok) ?_ | refine wpList_load_seg_g rfl 48 _ rfl _ _ rfl _ Qwc.out.at_.seg _ Tryd.underlying48 rfl (infoPl Qwc.out.at_.ok) ?_)
            refine (bWrite 2097156 4 0 (by omega) (by omega) Qwc.out).mono ?_
            rw [E7.out]
            rintro e wd ⟨rfl, h_⟩
            have Qwd := Lib.hid h_
            clear h_
            go_wp2_with (first | refine wpList_load_seg rfl 48 _ rfl _ _ rfl _ Qwd.out.at_.seg _ Tryd.underlying48 rfl (infoPl Qwd.out.at_.ok) ?_ | refine wpList_load_seg_g rfl 48 _ rfl _ _ rfl _ Qwd.out.at_.seg _ Tryd.underlying48 rfl (infoPl Qwd.out.at_.ok) ?_)
            refine (bLine 1 Qwd.out).mono ?_
            rw [L7.out]
            rintro e we ⟨rfl, h_⟩
            have Qwe := Lib.hid h_
            clear h_
            go_wp2_with (first | refine wpList_load_seg rfl 48 _ rfl _ _ rfl _ Qwe.out.at_.seg _ Tryd.underlying48 rfl (infoPl Qwe.out.at_.ok) ?_ | refine wpList_load_seg_g rfl 48 _ rfl _ _ rfl _ Qwe.out.at_.seg _ Tryd.underlying48 rfl (infoPl Qwe.out.at_.ok) ?_)
            refine (bWrite 2101252 4 (0 + 4294967296) (by omega) (by omega) Qwe.out).mono ?_
            rw [E8.out]
            rintro e wf ⟨rfl, h_⟩
            have Qwf := Lib.hid h_
            clear h_
            go_wp2_with (first | refine wpList_load_seg rfl 48 _ rfl _ _ rfl _ Qwf.out.at_.seg _ Tryd.underlying48 rfl (infoPl Qwf.out.at_.ok) ?_ | refine wpList_load_seg_g rfl 48 _ rfl _ _ rfl _ Qwf.out.at_.seg _ Tryd.underlying48 rfl (infoPl Qwf.out.at_.ok) ?_)
            refine (bLine 1 Qwf.out).mono ?_
            rw [L8.out]
            rintro e wg ⟨rfl, h_⟩
            have Qwg := Lib.hid h_
            clear h_
            go_wp2_with (first | refine wpList_load_seg rfl 48 _ rfl _ _ rfl _ Qwg.out.at_.seg _ Tryd.underlying48 rfl (infoPl Qwg.out.at_.ok) ?_ | refine wpList_load_seg_g rfl 48 _ rfl _ _ rfl _ Qwg.out.at_.seg _ Tryd.underlying48 rfl (infoPl Qwg.out.at_.ok) ?_)
            go_ret
            exact ⟨rfl, Qwg.out.fr⟩
          · go_enter Tryd.func12, Tryd.ntmps12
            go_wp2_with fail
            refine (pawake_c w HT.out).mono ?_
            rintro e w0 ⟨rfl, hf0⟩
            have F0 := Lib.hid hf0
            clear hf0
            go_wp2_with fail
            refine (PNew_c w0).mono ?_
            rintro e w1 ⟨rfl, hf1⟩
            have F1 := Lib.hid (F0.out.trans hf1)
            clear hf1
            go_wp2_with (refine wpList_store_row rfl 48 _ _ rfl _ _ rfl rfl _ _ (heap_alloc_new _ _) infoPic rfl (one_plist _) ?_)
            have h2_ := fun t old => Pic1.laid HT.out F1.out t old PS.new PS.ok_new
            generalize hW : (World.setRow _ _ _) = w2
            have Q2 := Lib.hid (by rw [← hW]; exact h2_ _ _ : Pic1 w w2 w1.heap.size PS.new)
            clear h2_ hW
            refine (bWrite x4 4 prio HX4.out HP.out Q2.out).mono ?_
            rw [E1.out]
            rintro e w3 ⟨rfl, h_⟩
            have Qw3 := Lib.hid h_
            clear h_
            go_wp2_with (first | refine wpList_load_seg rfl 48 _ rfl _ _ rfl _ Qw3.out.at_.seg _ Tryd.underlying48 rfl (infoPl Qw3.out.at_.ok) ?_ | refine wpList_load_seg_g rfl 48 _ rfl _ _ rfl _ Qw3.out.at_.seg _ Tryd.underlying48 rfl (infoPl Qw3.out.at_.ok) ?_)
            refine (bWrite 8320 4 q (by omega) HQ.out Qw3.out).mono ?_
            rw [E2.out]
            rintro e w4 ⟨rfl, h_⟩
            have Qw4 := Lib.hid h_
            clear h_
            go_wp2_with (first | refine wpList_load_seg rfl 48 _ rfl _ _ rfl _ Qw4.out.at_.seg _ Tryd.underlying48 rfl (infoPl Qw4.out.at_.ok) ?_ | refine wpList_load_seg_g rfl 48 _ rfl _ _ rfl _ Qw4.out.at_.seg _ Tryd.underlying48 rfl (infoPl Qw4.out.at_.ok) ?_)
            refine (bWrite 2101248 4 floor (by omega) HF.out Qw4.out).mono ?_
            rw [E3.out]
            rintro e w5 ⟨rfl, h_⟩
            have Qw5 := Lib.hid h_
            clear h_
            go_wp2_with (first | refine wpList_load_seg rfl 48 _ rfl _ _ rfl _ Qw5.out.at_.seg _ Tryd.underlying48 rfl (infoPl Qw5.out.at_.ok) ?_ | refine wpList_load_seg_g rfl 48 _ rfl _ _ rfl _ Qw5.out.at_.seg _ Tryd.underlying48 rfl (infoPl Qw5.out.at_.ok) ?_)
            refine (bLevel s true Qw5.out).mono ?_
            rw [E4.out]
            rintro e w6 ⟨rfl, h_⟩
            have Qw6 := Lib.hid h_
            clear h_
            go_wp2_with (first | refine wpList_load_seg rfl 48 _ rfl _ _ rfl _ Qw6.out.at_.seg _ Tryd.underlying48 rfl (infoPl Qw6.out.at_.ok) ?_ | refine wpList_load_seg_g rfl 48 _ rfl _ _ rfl _ Qw6.out.at_.seg _ Tryd.underlying48 rfl (infoPl Qw6.out.at_.ok) ?_)
            refine (bLevel s _ Qw6.out).mono ?_
            rw [E5.out]
            rintro e w7 ⟨rfl, h_⟩
            have Qw7 := Lib.hid h_
            clear h_
            go_wp2_with (first | refine wpList_load_seg rfl 48 _ rfl _ _ rfl _ Qw7.out.at_.seg _ Tryd.underlying48 rfl (infoPl Qw7.out.at_.ok) ?_ | refine wpList_load_seg_g rfl 48 _ rfl _ _ rfl _ Qw7.out.at_.seg _ Tryd.underlying48 rfl (infoPl Qw7.out.at_.ok) ?_)
            refine (bLine 1 Qw7.out).mono ?_
            rw [L5.out]
            rintro e w8 ⟨rfl, h_⟩
            have Qw8 := Lib.hid h_
            clear h_
            go_wp2_with (first | refine wpList_load_seg rfl 48 _ rfl _ _ rfl _ Qw8.out.at_.seg _ Tryd.underlying48 rfl (infoPl Qw8.out.at_.ok) ?_ | refine wpList_load_seg_g rfl 48 _ rfl _ _ rfl _ Qw8.out.at_.seg _ Tryd.underlying48 rfl (infoPl Qw8.out.at_.ok) ?_)
            refine (bLine 0 Qw8.out).mono ?_
            rw [M5.out]
            rintro e w9 ⟨rfl, h_⟩
            have Qw9 := Lib.hid h_
            clear h_
            go_wp2_with (first | refine wpList_load_seg rfl 48 _ rfl _ _ rfl _ Qw9.out.at_.seg _ Tryd.underlying48 rfl (infoPl Qw9.out.at_.ok) ?_ | refine wpList_load_seg_g rfl 48 _ rfl _ _ rfl _ Qw9.out.at_.seg _ Tryd.underlying48 rfl (infoPl Qw9.out.at_.ok) ?_)
            refine (bUp s Qw9.out).mono ?_
            rw [U5.out]
            rintro e wa ⟨rfl, h_⟩
            have Qwa := Lib.hid h_
            clear h_
            go_wp2_with (first | refine wpList_load_seg rfl 48 _ rfl _ _ rfl _ Qwa.out.at_.seg _ Tryd.underlying48 rfl (infoPl Qwa.out.at_.ok) ?_ | refine wpList_load_seg_g rfl 48 _ rfl _ _ rfl _ Qwa.out.at_.seg _ Tryd.underlying48 rfl (infoPl Qwa.out.at_.ok) ?_)
            refine (bRead 2101252 4 (by omega) Qwa.out).mono ?_
            rw [E6.out]
            rintro e wb ⟨rfl, h_⟩
            have Qwb := Lib.hid h_
            clear h_
            go_wp2_with (first | refine wpList_load_seg rfl 48 _ rfl _ _ rfl _ Qwb.out.at_.seg _ Tryd.underlying48 rfl (infoPl Qwb.out.at_.ok) ?_ | refine wpList_load_seg_g rfl 48 _ rfl _ _ rfl _ Qwb.out.at_.seg _ Tryd.underlying48 rfl (infoPl Qwb.out.at_.ok) ?_)
            refine (bLine 1 Qwb.out).mono ?_
            rw [L6.out]
            rintro e wc ⟨rfl, h_⟩
            have Qwc := Lib.hid h_
            clear h_
            go_wp2_with (first | refine wpList_load_seg rfl 48 _ rfl _ _ rfl _ Qwc.out.at_.seg _ Tryd.underlying48 rfl (infoPl Qwc.out.at_.ok) ?_ | refine wpList_load_seg_g rfl 48 _ rfl _ _ rfl _ Qwc.out.at_.seg _ Tryd.underlying48 rfl (infoPl Qwc.out.at_.ok) ?_)
            refine (bWrite 2097156 4 0 (by omega) (by omega) Qwc.out).mono ?_
            rw [E7.out]
            rintro e wd ⟨rfl, h_⟩
            have Qwd := Lib.hid h_
            clear h_
            go_wp2_with (first | refine wpList_load_seg rfl 48 _ rfl _ _ rfl _ Qwd.out.at_.seg _ Tryd.underlying48 rfl (infoPl Qwd.out.at_.ok) ?_ | refine wpList_load_seg_g rfl 48 _ rfl _ _ rfl _ Qwd.out.at_.seg _ Tryd.underlying48 rfl (infoPl Qwd.out.at_.ok) ?_)
            refine (bLine 1 Qwd.out).mono ?_
            rw [L7.out]
            rintro e we ⟨rfl, h_⟩
            have Qwe := Lib.hid h_
            clear h_
            go_wp2_with (first | refine wpList_load_seg rfl 48 _ rfl _ _ rfl _ Qwe.out.at_.seg _ Tryd.underlying48 rfl (infoPl Qwe.out.at_.ok) ?_ | refine wpList_load_seg_g rfl 48 _ rfl _ _ rfl _ Qwe.out.at_.seg _ Tryd.underlying48 rfl (infoPl Qwe.out.at_.ok) ?_)
            refine (bWrite 2101252 4 (0 + 4294967296) (by omega) (by omega) Qwe.out).mono ?_
            rw [E8.out]
            rintro e wf ⟨rfl, h_⟩
            have Qwf := Lib.hid h_
            clear h_
            go_wp2_with (first | refine wpList_load_seg rfl 48 _ rfl _ _ rfl _ Qwf.out.at_.seg _ Tryd.underlying48 rfl (infoPl Qwf.out.at_.ok) ?_ | refine wpList_load_seg_g rfl 48 _ rfl _ _ rfl _ Qwf.out.at_.seg _ Tryd.underlying48 rfl (infoPl Qwf.out.at_.ok) ?_)
            refine (bLine 1 Qwf.out).mono ?_
            rw [L8.out]
            rintro e wg ⟨rfl, h_⟩
            have Qwg := Lib.hid h_
            clear h_
            go_wp2_with (first | refine wpList_load_seg rfl 48 _ rfl _ _ rfl _ Qwg.out.at_.seg _ Tryd.underlying48 rfl (infoPl Qwg.out.at_.ok) ?_ | refine wpList_load_seg_g rfl 48 _ rfl _ _ rfl _ Qwg.out.at_.seg _ Tryd.underlying48 rfl (infoPl Qwg.out.at_.ok) ?_)
            go_ret
            exact ⟨rfl, Qwg.out.fr⟩
end Go.Proofs.YtcnglhneknbllaaDoor

/-
  The document's interrupt controller, the fifth part: Write.
-/
import Derived.Test.YtcnglhneknbllaaDoorRP4
namespace Go.Proofs.YtcnglhneknbllaaDoor
open Go Go.RowKit PS

/-- The word of who is enabled, while it is written bit by bit. -/
def part (y v : Nat) : Nat → Nat
  | 0 => y
  | k + 1 => setB (part y v k) k (decide (0 < k) && v.testBit k)
theorem part_at (y v : Nat) : ∀ k j, (part y v k).testBit j = if j < k then (decide (0 < j) && v.testBit j) else y.testBit j
  | 0, j => by simp [part]
  | k + 1, j => by
    rw [part, setB_at, part_at y v k j]
    by_cases e : j = k
    · subst e; rw [if_pos rfl, if_pos (by omega)]
    · rw [if_neg e]
      by_cases e2 : j < k
      · rw [if_pos e2, if_pos (by omega)]
      · rw [if_neg e2, if_neg (by omega)]
theorem part_lt {y v : Nat} (hy : y < 4294967296) : ∀ k, k ≤ 32 → part y v k < 4294967296
  | 0, _ => hy
  | k + 1, h => setB_lt _ _ 32 _ (part_lt hy k (by omega)) (by omega)
theorem part_0 {y v : Nat} (hy : y.testBit 0 = false) (k : Nat) : (part y v k).testBit 0 = false := by
  rw [part_at]
  split
  · rfl
  · exact hy
theorem part_32 {y v : Nat} (hy : y < 4294967296) : part y v 32 = setB (v % 4294967296) 0 false := by
  apply Nat.eq_of_testBit_eq
  intro j
  rw [part_at, setB_at, show 4294967296 = 2 ^ 32 from rfl, Nat.testBit_mod_two_pow]
  by_cases e : j = 0
  · subst e; rw [if_pos (by omega), if_pos rfl]; rfl
  · rw [if_neg e]
    by_cases e2 : j < 32
    · rw [if_pos e2, decide_eq_true e2, decide_eq_true (by omega)]
    · rw [if_neg e2, decide_eq_false e2, Bool.false_and]
      exact Nat.testBit_lt_two_pow (Nat.lt_of_lt_of_le (show y < 2 ^ 32 from hy) (Nat.pow_le_pow_right (by omega) (by omega)))
theorem half_step {v k W : Nat} (hW : W = v >>> k) : ∃ W2 : Nat, (W : Int).tdiv 2 = (W2 : Int) ∧ (W : Int) / 2 = (W2 : Int) ∧ W2 = v >>> (k + 1) ∧ ((W : Int).tmod 2 == 1) = v.testBit k ∧ ((W : Int) % 2 == 1) = v.testBit k := by
  have hb : v.testBit k = decide (W % 2 = 1) := by rw [Nat.testBit_eq_decide_div_mod_eq, hW, Nat.shiftRight_eq_div_pow]
  have h1 : ((W : Int) % 2 == 1) = v.testBit k := by
    rw [hb]
    by_cases e : W % 2 = 1
    · rw [decide_eq_true e, beq_iff_eq]; omega
    · rw [decide_eq_false e, beq_eq_false_iff_ne]; omega
  refine ⟨W / 2, ?_, by omega, by rw [Nat.shiftRight_succ, hW], ?_, h1⟩
  · rw [Int.tdiv_eq_ediv_of_nonneg (by omega)]; omega
  · rw [Int.tmod_eq_emod_of_nonneg (by omega)]; exact h1
theorem half_wrap {v k W : Nat} (hv : v < 18446744073709551616) (h : W = v >>> k) : IntKind.u64.wrap (W : Int) = (W : Int) := by
  have := shr_le v k
  rw [← h] at this
  rw [IntKind.wrap_u64]; omega
theorem up_one (k : Nat) (h : k < 32) : IntKind.i64.wrap ((k : Int) + 1) = ((k + 1 : Nat) : Int) := by rw [IntKind.wrap_i64]; omega
theorem rem8 (v : Nat) : (v : Int).tmod 8 = ((v % 8 : Nat) : Int) ∧ (v : Int) % 8 = ((v % 8 : Nat) : Int) := ⟨by rw [Int.tmod_eq_emod_of_nonneg (by omega)]; omega, by omega⟩
set_option maxRecDepth 100000 in
set_option maxHeartbeats 4000000 in
theorem rWrite_prio (w : World) (b o : Nat) (s : PS) (k v : Nat) (hk : k < 32) (h : RAt w b o s) :
    Calls Tryd.prog 61 #[.pointer (some ⟨b, o, none⟩), .int .u64 ((4 * k : Nat) : Int), .int .i64 4, .int .u64 (v : Int)] w fun e w' => e = .returned (.bool (s.write (4 * k) 4 v).2) ∧ RAt w' b o (s.write (4 * k) 4 v).1 ∧ FrIn b o 194 w w' := by
  have hr : s.write (4 * k) 4 v = ((if 0 < 4 * k then { s with prio := s.prio.set k (v % 8) } else s), true) := by unfold PS.write; rw [if_neg (by decide), if_pos ⟨by omega, by omega⟩, show 4 * k / 4 = k by omega]
  have hok := h.ok.write (4 * k) 4 v
  rw [hr] at hok
  have hq : ((4 * k : Nat) : Int) / 4 = (k : Int) := by omega
  have hq2 : ((4 * k : Nat) : Int).tdiv 4 = (k : Int) := by rw [Int.tdiv_eq_ediv_of_nonneg (by omega)]; exact hq
  have hm2 : ((4 * k : Nat) : Int).tmod 4 = 0 := by rw [Int.tmod_eq_emod_of_nonneg (by omega)]; omega
  have hm : ((4 * k : Nat) : Int) % 4 = 0 := by omega
  have HA := Lib.hid h
  rcases Nat.eq_zero_or_pos k with rfl | hk0
  · rw [if_neg (by omega)] at hr
    have HR := Lib.hid hr
    clear hr hok hq hq2 hm2 hm h
    go_enter Tryd.func61, Tryd.ntmps61
    go_wp2_with fail
    go_ret
    rw [HR.out]
    exact ⟨rfl, HA.out, FrIn.refl _ _ _ _⟩
  · rw [if_pos (by omega)] at hr hok
    have HR := Lib.hid hr
    have hp := h.put (j := k * 6) hok (by omega) (rset_prio h.ok hk (v % 8))
    have q := h.prio_ hk
    have hfz := h.seg.free
    obtain ⟨x8, hx8⟩ : ∃ x8, x8 = v % 8 := ⟨_, rfl⟩
    obtain ⟨r1, r2⟩ := rem8 v
    rw [← hx8] at r1 r2
    rw [← hx8] at hp
    have HE := Lib.hid hx8
    have HP := Lib.hid hp
    obtain ⟨x, hx⟩ : ∃ x : Int, x = ((4 * k : Nat) : Int) := ⟨_, rfl⟩
    have hx1 : x < 128 := by omega
    have hx2 : 0 ≤ x := by omega
    have hx3 : decide (0 < x) = true := decide_eq_true (by omega)
    rw [← hx] at hq hq2 hm hm2 ⊢
    clear hr hok hx h hp hx8
    go_enter Tryd.func61, Tryd.ntmps61
    go_wp2_with fail
    go_ret
    rw [HR.out, ← HE.out]
    exact ⟨rfl, HP.out.1, HP.out.2⟩
theorem PS.Ok.onw {s : PS} (h : s.Ok) (y : Nat) (h1 : y < 4294967296) (h2 : y.testBit 0 = false) : ({ s with on0 := y } : PS).Ok ∧ ({ s with on1 := y } : PS).Ok :=
  ⟨⟨h.up, h.pend, h.busy, h.plen, h.prio, h.p0, h1, h.on1, h.fl0, h.fl1, h.u0, h.z0, h.b0, h2, h.n1⟩, ⟨h.up, h.pend, h.busy, h.plen, h.prio, h.p0, h.on0, h1, h.fl0, h.fl1, h.u0, h.z0, h.b0, h.n0, h2⟩⟩
set_option maxRecDepth 100000 in
set_option maxHeartbeats 4000000 in
theorem rWrite_8192 (w : World) (b o : Nat) (s : PS) (v : Nat) (hv : v < 18446744073709551616) (h : RAt w b o s) :
    Calls Tryd.prog 61 #[.pointer (some ⟨b, o, none⟩), .int .u64 8192, .int .i64 4, .int .u64 (v : Int)] w fun e w' => e = .returned (.bool (s.write 8192 4 v).2) ∧ RAt w' b o (s.write 8192 4 v).1 ∧ FrIn b o 194 w w' := by
  have HA := Lib.hid h
  have HV := Lib.hid hv
  have HR := Lib.hid (show s.write 8192 4 v = ({ s with on0 := setB (v % 4294967296) 0 false }, true) from rfl)
  clear h hv
  go_enter Tryd.func61, Tryd.ntmps61
  go_wp2_with fail
  go_loopw [9] (fun i wr => w = wr ∧ i = .int .i64 0) (fun i _ => 2 - (intOf i).toNat)
  case atStart => exact ⟨rfl, rfl⟩
  case round =>
    obtain ⟨rfl, rfl⟩ := hrel
    go_wp2_with fail
    go_loopw [11, 12] (fun a i wr => ∃ k W : Nat, k ≤ 32 ∧ a = .int .u64 (W : Int) ∧ i = .int .i64 (k : Int) ∧ Hid (W = v >>> k) ∧ Hid (FrIn b o 194 w wr) ∧ Hid (RAt wr b o { s with on0 := part s.on0 v k })) (fun _ i _ => 32 - (intOf i).toNat)
    case atStart => exact ⟨0, v, by omega, rfl, rfl, Lib.hid rfl, Lib.hid (FrIn.refl _ _ _ _), Lib.hid HA.out⟩
    case round =>
      obtain ⟨k, W, hk, rfl, rfl, HW, HF, HS⟩ := hrel
      by_cases hlt : k < 32
      · obtain ⟨W2, g1, g2, g3, g4, g5⟩ := half_step HW.out
        have G3 := Lib.hid g3
        have w2 := half_wrap HV.out g3
        have hu := up_one k hlt
        have hok := ((fun y a b => (HA.out.ok.onw y a b).1) (part s.on0 v (k + 1)) (part_lt HA.out.ok.on0 _ (by omega)) (part_0 HA.out.ok.n0 _))
        have hp := HS.out.putSrc (k := 4) hok hlt (by omega) (by rw [rset_on0 _ hlt (decide (0 < k) && v.testBit k)]; rfl)
        have q := HS.out.on0_ hlt
        have hfz := HS.out.seg.free
        have HP := Lib.hid hp
        clear hp hok g3 HW
        rcases Nat.eq_zero_or_pos k with rfl | hk0
        · have HP' := HP
          go_wp2_with fail
          exact ⟨⟨1, W2, by omega, rfl, rfl, G3, Lib.hid (HF.out.trans HP.out.2), Lib.hid HP.out.1⟩, by simp [intOf]⟩
        · have hg : decide (0 < k) = true := decide_eq_true hk0
          have hg' : decide ((0 : Int) < (k : Int)) = true := decide_eq_true (by omega)
          have HT := Lib.hid (show (decide (0 < k) && v.testBit k) = v.testBit k by rw [hg]; rfl)
          rw [HT.out] at HP
          go_wp2_with fail
          exact ⟨⟨k + 1, W2, by omega, rfl, rfl, G3, Lib.hid (HF.out.trans HP.out.2), Lib.hid HP.out.1⟩, by simp [intOf]; omega⟩
      · obtain rfl : k = 32 := by omega
        have hs := HS.out
        rw [part_32 HA.out.ok.on0] at hs
        have HS' := Lib.hid hs
        clear hs HS
        go_wp2_with fail
        go_ret
        rw [HR.out]
        exact ⟨rfl, HS'.out, HF.out⟩
set_option maxRecDepth 100000 in
set_option maxHeartbeats 4000000 in
theorem rWrite_8320 (w : World) (b o : Nat) (s : PS) (v : Nat) (hv : v < 18446744073709551616) (h : RAt w b o s) :
    Calls Tryd.prog 61 #[.pointer (some ⟨b, o, none⟩), .int .u64 8320, .int .i64 4, .int .u64 (v : Int)] w fun e w' => e = .returned (.bool (s.write 8320 4 v).2) ∧ RAt w' b o (s.write 8320 4 v).1 ∧ FrIn b o 194 w w' := by
  have HA := Lib.hid h
  have HV := Lib.hid hv
  have HR := Lib.hid (show s.write 8320 4 v = ({ s with on1 := setB (v % 4294967296) 0 false }, true) from rfl)
  clear h hv
  go_enter Tryd.func61, Tryd.ntmps61
  go_wp2_with fail
  go_loopw [9] (fun i wr => ∃ k : Nat, k ≤ 1 ∧ w = wr ∧ i = .int .i64 (k : Int)) (fun i _ => 2 - (intOf i).toNat)
  case atStart => exact ⟨0, by omega, rfl, rfl⟩
  case round =>
    obtain ⟨k, hk, rfl, rfl⟩ := hrel
    rcases (show k = 0 ∨ k = 1 by omega) with rfl | rfl
    · go_wp2_with fail
      exact ⟨⟨1, by omega, trivial, rfl⟩, by simp [intOf]⟩
    · skip
      go_wp2_with fail
      go_loopw [11, 12] (fun a i wr => ∃ k W : Nat, k ≤ 32 ∧ a = .int .u64 (W : Int) ∧ i = .int .i64 (k : Int) ∧ Hid (W = v >>> k) ∧ Hid (FrIn b o 194 w wr) ∧ Hid (RAt wr b o { s with on1 := part s.on1 v k })) (fun _ i _ => 32 - (intOf i).toNat)
      case atStart => exact ⟨0, v, by omega, rfl, rfl, Lib.hid rfl, Lib.hid (FrIn.refl _ _ _ _), Lib.hid HA.out⟩
      case round =>
        obtain ⟨k, W, hk, rfl, rfl, HW, HF, HS⟩ := hrel
        by_cases hlt : k < 32
        · obtain ⟨W2, g1, g2, g3, g4, g5⟩ := half_step HW.out
          have G3 := Lib.hid g3
          have w2 := half_wrap HV.out g3
          have hu := up_one k hlt
          have hok := ((fun y a b => (HA.out.ok.onw y a b).2) (part s.on1 v (k + 1)) (part_lt HA.out.ok.on1 _ (by omega)) (part_0 HA.out.ok.n1 _))
          have hp := HS.out.putSrc (k := 5) hok hlt (by omega) (by rw [rset_on1 _ hlt (decide (0 < k) && v.testBit k)]; rfl)
          have q := HS.out.on1_ hlt
          have hfz := HS.out.seg.free
          have HP := Lib.hid hp
          clear hp hok g3 HW
          rcases Nat.eq_zero_or_pos k with rfl | hk0
          · have HP' := HP
            go_wp2_with fail
            exact ⟨⟨1, W2, by omega, rfl, rfl, G3, Lib.hid (HF.out.trans HP.out.2), Lib.hid HP.out.1⟩, by simp [intOf]⟩
          · have hg : decide (0 < k) = true := decide_eq_true hk0
            have hg' : decide ((0 : Int) < (k : Int)) = true := decide_eq_true (by omega)
            have HT := Lib.hid (show (decide (0 < k) && v.testBit k) = v.testBit k by rw [hg]; rfl)
            rw [HT.out] at HP
            go_wp2_with fail
            exact ⟨⟨k + 1, W2, by omega, rfl, rfl, G3, Lib.hid (HF.out.trans HP.out.2), Lib.hid HP.out.1⟩, by simp [intOf]; omega⟩
        · obtain rfl : k = 32 := by omega
          have hs := HS.out
          rw [part_32 HA.out.ok.on1] at hs
          have HS' := Lib.hid hs
          clear hs HS
          go_wp2_with fail
          go_ret
          rw [HR.out]
          exact ⟨rfl, HS'.out, HF.out⟩
set_option maxRecDepth 100000 in
set_option maxHeartbeats 4000000 in
theorem rWrite_2097152 (w : World) (b o : Nat) (s : PS) (v : Nat) (hv : v < 18446744073709551616) (h : RAt w b o s) :
    Calls Tryd.prog 61 #[.pointer (some ⟨b, o, none⟩), .int .u64 2097152, .int .i64 4, .int .u64 (v : Int)] w fun e w' => e = .returned (.bool (s.write 2097152 4 v).2) ∧ RAt w' b o (s.write 2097152 4 v).1 ∧ FrIn b o 194 w w' := by
  have HA := Lib.hid h
  have HV := Lib.hid hv
  have HR := Lib.hid (show s.write 2097152 4 v = ({ s with fl0 := v % 8 }, true) from rfl)
  have hok := h.ok.write 2097152 4 v
  rw [HR.out] at hok
  have hp := h.put (j := 192) hok (by omega) (rset_fl0 s (v % 8))
  have q := h.fl0_
  have hfz := h.seg.free
  obtain ⟨x8, hx8⟩ : ∃ x8, x8 = v % 8 := ⟨_, rfl⟩
  obtain ⟨r1, r2⟩ := rem8 v
  rw [← hx8] at r1 r2
  rw [← hx8] at hp
  have HE := Lib.hid hx8
  have HP := Lib.hid hp
  clear hok hp hx8
  clear h hv
  go_enter Tryd.func61, Tryd.ntmps61
  go_wp2_with fail
  go_loopw [9] (fun i wr => w = wr ∧ i = .int .i64 0) (fun i _ => 2 - (intOf i).toNat)
  case atStart => exact ⟨rfl, rfl⟩
  case round =>
    obtain ⟨rfl, rfl⟩ := hrel
    go_wp2_with fail
    go_ret
    rw [HR.out, ← HE.out]
    exact ⟨rfl, HP.out.1, HP.out.2⟩
set_option maxRecDepth 100000 in
set_option maxHeartbeats 4000000 in
theorem rWrite_2101248 (w : World) (b o : Nat) (s : PS) (v : Nat) (hv : v < 18446744073709551616) (h : RAt w b o s) :
    Calls Tryd.prog 61 #[.pointer (some ⟨b, o, none⟩), .int .u64 2101248, .int .i64 4, .int .u64 (v : Int)] w fun e w' => e = .returned (.bool (s.write 2101248 4 v).2) ∧ RAt w' b o (s.write 2101248 4 v).1 ∧ FrIn b o 194 w w' := by
  have HA := Lib.hid h
  have HV := Lib.hid hv
  have HR := Lib.hid (show s.write 2101248 4 v = ({ s with fl1 := v % 8 }, true) from rfl)
  have hok := h.ok.write 2101248 4 v
  rw [HR.out] at hok
  have hp := h.put (j := 193) hok (by omega) (rset_fl1 s (v % 8))
  have q := h.fl1_
  have hfz := h.seg.free
  obtain ⟨x8, hx8⟩ : ∃ x8, x8 = v % 8 := ⟨_, rfl⟩
  obtain ⟨r1, r2⟩ := rem8 v
  rw [← hx8] at r1 r2
  rw [← hx8] at hp
  have HE := Lib.hid hx8
  have HP := Lib.hid hp
  clear hok hp hx8
  clear h hv
  go_enter Tryd.func61, Tryd.ntmps61
  go_wp2_with fail
  go_loopw [9] (fun i wr => ∃ k : Nat, k ≤ 1 ∧ w = wr ∧ i = .int .i64 (k : Int)) (fun i _ => 2 - (intOf i).toNat)
  case atStart => exact ⟨0, by omega, rfl, rfl⟩
  case round =>
    obtain ⟨k, hk, rfl, rfl⟩ := hrel
    rcases (show k = 0 ∨ k = 1 by omega) with rfl | rfl
    · go_wp2_with fail
      exact ⟨⟨1, by omega, trivial, rfl⟩, by simp [intOf]⟩
    · skip
      go_wp2_with fail
      go_ret
      rw [HR.out, ← HE.out]
      exact ⟨rfl, HP.out.1, HP.out.2⟩
end Go.Proofs.YtcnglhneknbllaaDoor

/-
  Contracts of package plic, the first part: its small methods.
-/
import Derived.Test.YtcnglhneknbllaaDoorBits
import Derived.Test.YtcnglhneknbllaaDoorSeg
import Derived.Test.YtcnglhneknbllaaDoorPlicM
import Derived.Test.YtcnglhneknbllaaDoorOnes
namespace Go.Proofs.YtcnglhneknbllaaDoor
open Go Go.RowKit

abbrev u32v (n : Nat) : Value := .int .u32 (n : Int)
/-- An interrupt controller's cells. -/
def plist (s : PS) : List Value := u32v s.up :: u32v s.pend :: u32v s.busy :: (s.prio.map u8v ++ [u32v s.on0, u32v s.on1, u8v s.fl0, u8v s.fl1])
/-- From cell `o` of block `b` on lies an interrupt controller in the state `s`. -/
structure PicAt (w : World) (b o : Nat) (s : PS) : Prop where
  ok : s.Ok
  seg : Seg w b o (plist s)
theorem plist_len {s : PS} (h : s.Ok) : (plist s).length = 39 := by simp [plist, h.plen]
theorem plist_prio {s : PS} (h : s.Ok) {i : Nat} (hi : i < 32) : (plist s)[3 + i]? = some (u8v (s.pr i)) := by
  have e : 3 + i = i + 1 + 1 + 1 := by omega
  rw [e]
  simp only [plist, List.getElem?_cons_succ]
  rw [List.getElem?_append_left (by simp [h.plen]; omega), List.getElem?_map]
  unfold PS.pr
  rw [List.getD_eq_getElem?_getD, List.getElem?_eq_getElem (by rw [h.plen]; omega)]
  rfl
theorem plist_back {s : PS} (h : s.Ok) (j : Nat) : (plist s)[35 + j]? = [u32v s.on0, u32v s.on1, u8v s.fl0, u8v s.fl1][j]? := by
  have e : 35 + j = (32 + j) + 1 + 1 + 1 := by omega
  rw [e]
  simp only [plist, List.getElem?_cons_succ]
  rw [List.getElem?_append_right (by simp [h.plen])]
  simp [h.plen]
theorem plist_setPrio {s : PS} (h : s.Ok) {i : Nat} (hi : i < 32) (x : Nat) : (plist s).set (3 + i) (u8v x) = plist { s with prio := s.prio.set i x } := by
  have e : 3 + i = i + 1 + 1 + 1 := by omega
  rw [e]
  simp only [plist, List.set_cons_succ]
  rw [List.set_append_left _ _ (by simp [h.plen]; omega), List.map_set]
theorem plist_setBack {s : PS} (h : s.Ok) (j : Nat) (v : Value) : (plist s).set (35 + j) v = u32v s.up :: u32v s.pend :: u32v s.busy :: (s.prio.map u8v ++ [u32v s.on0, u32v s.on1, u8v s.fl0, u8v s.fl1].set j v) := by
  have e : 35 + j = (32 + j) + 1 + 1 + 1 := by omega
  rw [e]
  simp only [plist, List.set_cons_succ]
  rw [List.set_append_right _ _ (by simp [h.plen])]
  simp [h.plen]
namespace PicAt
variable {w w' : World} {b o : Nat} {s : PS}
theorem facts (h : PicAt w b o s) : w.cell? ⟨b, o, none⟩ = some (u32v s.up) ∧ w.cell? ⟨b, o + 1, none⟩ = some (u32v s.pend) ∧ w.cell? ⟨b, o + 2, none⟩ = some (u32v s.busy) ∧
    w.cell? ⟨b, o + 35, none⟩ = some (u32v s.on0) ∧ w.cell? ⟨b, o + 36, none⟩ = some (u32v s.on1) ∧ w.cell? ⟨b, o + 37, none⟩ = some (u8v s.fl0) ∧ w.cell? ⟨b, o + 38, none⟩ = some (u8v s.fl1) ∧
    (∀ i, i < 32 → w.cell? ⟨b, o + 3 + i, none⟩ = some (u8v (s.pr i))) ∧ (∀ i, w.frozen? ⟨b, i, none⟩ = false) :=
  ⟨h.seg.cell (j := 0) rfl, h.seg.cell (j := 1) rfl, h.seg.cell (j := 2) rfl, h.seg.cell (j := 35) (plist_back h.ok 0), h.seg.cell (j := 36) (plist_back h.ok 1), h.seg.cell (j := 37) (plist_back h.ok 2), h.seg.cell (j := 38) (plist_back h.ok 3),
    fun i hi => by have := h.seg.cell (plist_prio h.ok hi); rwa [← Nat.add_assoc] at this, h.seg.free⟩
theorem fr {S : Nat → Prop} (h : PicAt w b o s) (hf : Fr S w w') (hb : ¬ S b) : PicAt w' b o s := ⟨h.ok, h.seg.fr hf hb⟩
theorem drewN (h : PicAt w b o s) (k : Nat) : PicAt (w.drewN k) b o s := ⟨h.ok, h.seg⟩
theorem drew (h : PicAt w b o s) : PicAt w.drew b o s := ⟨h.ok, h.seg⟩
theorem put {i : Nat} {v : Value} {s' : PS} (h : PicAt w b o s) (ok : s'.Ok) (hi : i < 39) (e : (plist s).set i v = plist s') :
    PicAt (w.setCell ⟨b, o + i, none⟩ v) b o s' ∧ FrIn b o 39 w (w.setCell ⟨b, o + i, none⟩ v) := by
  have h1 := h.seg.put (i := i) (by rw [plist_len h.ok]; exact hi) v
  rw [e, plist_len h.ok] at h1
  exact ⟨⟨ok, h1.1⟩, h1.2⟩
end PicAt

theorem is_c (i : Int) (w : World) : Calls Tryd.prog 56 #[.int .i64 i] w fun e w' => e = .returned (.bool (decide (1 ≤ i ∧ i ≤ 31))) ∧ w = w' := by
  by_cases h1 : 1 ≤ i <;> by_cases h2 : i ≤ 31
  all_goals
    go_enter Tryd.func56, Tryd.ntmps56
    go_wp2_with fail
    go_ret
    exact ⟨by simp [h1, h2], rfl⟩
theorem Bit32 (x i : Nat) (w : World) (hx : x < 4294967296) (hi : i < 64) :
    Calls Tryd.prog 64 #[.int .u32 (x : Int), .int .i64 (i : Int)] w fun e w' => e = .returned (.bool (x.testBit i)) ∧ w = w' := by
  have := Bit_u32 x (i : Int) w hx (by omega) (by omega)
  rwa [Int.toNat_natCast] at this


theorem shl32 (i : Nat) (h : i < 32) : ∃ m : Nat, m = 2 ^ i ∧ m < 4294967296 ∧ ((2 : Int) ^ i % 4294967296) = (m : Int) := by
  have h2 : (2 : Nat) ^ i < 2 ^ 32 := Nat.pow_lt_pow_right (by omega) h
  have e : ((2 : Int) ^ i) = ((2 ^ i : Nat) : Int) := by simp
  refine ⟨2 ^ i, rfl, h2, ?_⟩
  rw [e]
  generalize (2 : Nat) ^ i = m at h2 ⊢
  omega
theorem setB_not (m i : Nat) (hm : m < 4294967296) (hi : i < 32) : m &&& (4294967295 - 2 ^ i) = setB m i false := by
  apply Nat.eq_of_testBit_eq
  intro j
  rw [setB_at, Nat.testBit_and]
  have h2 : (2 : Nat) ^ i < 2 ^ 32 := Nat.pow_lt_pow_right (by omega) hi
  have e : 4294967295 - 2 ^ i = 2 ^ 32 - (2 ^ i + 1) := by omega
  rw [e, Nat.testBit_two_pow_sub_succ h2, Nat.testBit_two_pow]
  by_cases e1 : j = i
  · subst e1; simp
  · have e2 : i ≠ j := fun q => e1 q.symm
    by_cases e3 : j < 32
    · simp [e1, e2, e3]
    · have : m.testBit j = false := Nat.testBit_lt_two_pow (Nat.lt_of_lt_of_le (show m < 2 ^ 32 by omega) (Nat.pow_le_pow_right (by omega) (by omega)))
      simp [this, e1]
theorem or32 (m i : Nat) (hm : m < 4294967296) (hi : i < 32) : bits .or .u32 (m : Int) ((2 ^ i : Nat) : Int) = ((setB m i true : Nat) : Int) := by
  have h2 : (2 : Nat) ^ i < 2 ^ 32 := Nat.pow_lt_pow_right (by omega) hi
  rw [u32_or_nat m (2 ^ i) hm (by omega)]
  rfl
theorem andNot32 (m i : Nat) (hm : m < 4294967296) (hi : i < 32) : bits .andNot .u32 (m : Int) ((2 ^ i : Nat) : Int) = ((setB m i false : Nat) : Int) := by
  have h2 : (2 : Nat) ^ i < 2 ^ 32 := Nat.pow_lt_pow_right (by omega) hi
  rw [u32_andNot_nat m (2 ^ i) hm (by omega), setB_not m i hm hi]

set_option maxHeartbeats 1000000 in
theorem look_c (w : World) (b o : Nat) (s : PS) (i : Nat) (h : PicAt w b o s) (h1 : 1 ≤ i) (h2 : i ≤ 31) :
    Calls Tryd.prog 57 #[.pointer (some ⟨b, o, none⟩), .int .i64 (i : Int)] w fun e w' => e = .returned (.tuple #[]) ∧ PicAt w' b o (s.look i) ∧ FrIn b o 39 w w' := by
  obtain ⟨p0, p1, p2, p3, p4, p5, p6, pr, hfz⟩ := h.facts
  have HU := h.ok.up
  have HB := h.ok.busy
  have HP := h.ok.pend
  cases hu : s.up.testBit i
  · have hl : s.look i = s := by unfold PS.look; rw [if_neg (by simp [hu])]
    go_enter Tryd.func57, Tryd.ntmps57
    go_wp2_with fail
    refine (Bit32 s.up i _ HU (by omega)).mono ?_
    rw [hu]
    rintro e w' ⟨rfl, rfl⟩
    go_wp2_with fail
    go_end0
    rw [hl]
    exact ⟨rfl, h, FrIn.refl _ _ _ _⟩
  · cases hb : s.busy.testBit i
    · have hl : s.look i = { s with pend := setB s.pend i true } := by unfold PS.look; rw [if_pos ⟨hu, hb⟩]
      have hok := h.ok.look i h1 h2
      rw [hl] at hok
      have hput := h.put (i := 1) hok (by omega) (v := u32v (setB s.pend i true)) rfl
      obtain ⟨m, hm, hml, hsh⟩ := shl32 i (by omega)
      have hor := or32 s.pend i HP (by omega)
      rw [← hm] at hor
      clear hm
      go_enter Tryd.func57, Tryd.ntmps57
      go_wp2_with fail
      refine (Bit32 s.up i _ HU (by omega)).mono ?_
      rw [hu]
      rintro e w' ⟨rfl, rfl⟩
      go_wp2_with fail
      refine (Bit32 s.busy i _ HB (by omega)).mono ?_
      rw [hb]
      rintro e w' ⟨rfl, rfl⟩
      go_wp2_with fail
      go_region
      go_wp2_with fail
      go_end0
      rw [hl]
      exact ⟨rfl, hput.1.drew, hput.2.drew⟩
    · have hl : s.look i = s := by unfold PS.look; rw [if_neg (by simp [hb])]
      go_enter Tryd.func57, Tryd.ntmps57
      go_wp2_with fail
      refine (Bit32 s.up i _ HU (by omega)).mono ?_
      rw [hu]
      rintro e w' ⟨rfl, rfl⟩
      go_wp2_with fail
      refine (Bit32 s.busy i _ HB (by omega)).mono ?_
      rw [hb]
      rintro e w' ⟨rfl, rfl⟩
      go_wp2_with fail
      go_end0
      rw [hl]
      exact ⟨rfl, h, FrIn.refl _ _ _ _⟩

set_option maxHeartbeats 1000000 in
theorem Level_c (w : World) (b o : Nat) (s : PS) (i : Int) (up : Bool) (h : PicAt w b o s) :
    Calls Tryd.prog 29 #[.pointer (some ⟨b, o, none⟩), .int .i64 i, .bool up] w fun e w' => e = .returned (.bool (s.level i up).2) ∧ PicAt w' b o (s.level i up).1 ∧ FrIn b o 39 w w' := by
  by_cases hi : 1 ≤ i ∧ i ≤ 31
  · obtain ⟨k, rfl⟩ : ∃ k : Nat, i = (k : Int) := ⟨i.toNat, by omega⟩
    have h1 : 1 ≤ k := by omega
    have h2 : k ≤ 31 := by omega
    have hl : ∀ u, s.level (k : Int) u = (({ s with up := setB s.up k u } : PS).look k, true) := fun u => by unfold PS.level; rw [if_pos hi, Int.toNat_natCast]
    have hok : ∀ u : Bool, ({ s with up := setB s.up k u } : PS).Ok := fun u => by
      refine ⟨setB_lt s.up k 32 u h.ok.up (by omega), h.ok.pend, h.ok.busy, h.ok.plen, h.ok.prio, h.ok.p0, h.ok.on0, h.ok.on1, h.ok.fl0, h.ok.fl1, ?_, h.ok.z0, h.ok.b0, h.ok.n0, h.ok.n1⟩
      show (setB s.up k u).testBit 0 = false
      rw [setB_at, if_neg (by omega)]; exact h.ok.u0
    obtain ⟨m, hm, hml, hsh⟩ := shl32 k (by omega)
    have hno := andNot32 s.up k h.ok.up (by omega)
    have hlt := (hok false).up
    have hor := or32 (setB s.up k false) k hlt (by omega)
    have hsets : setB (setB s.up k false) k true = setB s.up k true := by
      apply Nat.eq_of_testBit_eq
      intro j
      rw [setB_at, setB_at, setB_at]
      split <;> rfl
    rw [hsets] at hor
    rw [← hm] at hor hno
    have hp1 := h.put (i := 0) (hok false) (by omega) (v := u32v (setB s.up k false)) rfl
    obtain ⟨p0, _, _, _, _, _, _, _, hfz⟩ := h.facts
    rw [Nat.add_zero] at hp1
    obtain ⟨q0, _, _, _, _, _, _, _, qfz⟩ := hp1.1.facts
    have HL := Lib.hid hl
    have HP1 := Lib.hid hp1
    have HO := Lib.hid (hok true)
    clear hl hok hp1 h hsets hm
    cases up
    · go_enter Tryd.func29, Tryd.ntmps29
      go_wp2_with fail
      refine (is_c _ _).mono ?_
      rw [decide_eq_true hi]
      rintro e w' ⟨rfl, rfl⟩
      go_wp2_with fail
      go_region
      go_wp2_with fail
      refine (look_c _ b o _ k HP1.out.1.drew h1 h2).mono ?_
      rintro e w' ⟨rfl, hp, hf⟩
      have HR := Lib.hid hp
      have HF := Lib.hid (HP1.out.2.drew.trans hf)
      clear hp hf
      go_wp2_with fail
      go_ret
      rw [HL.out]
      exact ⟨rfl, HR.out, HF.out⟩
    · go_enter Tryd.func29, Tryd.ntmps29
      go_wp2_with fail
      refine (is_c _ _).mono ?_
      rw [decide_eq_true hi]
      rintro e w' ⟨rfl, rfl⟩
      go_wp2_with fail
      go_region
      go_wp2_with fail
      go_region
      go_wp2_with fail
      have hp2 := HP1.out.1.drew.put (i := 0) (v := u32v (setB s.up k true)) HO.out (by omega) rfl
      rw [Nat.add_zero] at hp2
      refine (look_c _ b o _ k hp2.1.drew h1 h2).mono ?_
      rintro e w' ⟨rfl, hp, hf⟩
      have HR := Lib.hid hp
      have HF := Lib.hid ((HP1.out.2.drew.trans hp2.2.drew).trans hf)
      clear hp hf hp2
      go_wp2_with fail
      go_ret
      rw [HL.out]
      exact ⟨rfl, HR.out, HF.out⟩
  · have hl : s.level i up = (s, false) := by unfold PS.level; rw [if_neg hi]
    go_enter Tryd.func29, Tryd.ntmps29
    go_wp2_with fail
    refine (is_c _ _).mono ?_
    rw [decide_eq_false hi]
    rintro e w' ⟨rfl, rfl⟩
    go_wp2_with fail
    go_ret
    rw [hl]
    exact ⟨rfl, h, FrIn.refl _ _ _ _⟩

theorem Level_nil (w : World) (i : Int) (up : Bool) :
    Calls Tryd.prog 29 #[.pointer none, .int .i64 i, .bool up] w fun e w' => e = .returned (.bool false) ∧ w = w' := by
  go_enter Tryd.func29, Tryd.ntmps29
  go_wp2_with fail
  go_ret
  exact ⟨rfl, rfl⟩
set_option maxHeartbeats 1000000 in
theorem Up_c (w : World) (s : PS) (hs : s.Ok) (i : Int) :
    Calls Tryd.prog 40 #[.agg (plist s).toArray, .int .i64 i] w fun e w' => e = .returned (.bool (s.upQ i)) ∧ Fr No w w' := by
  have hF := (Fr.refl No w).alloc (.cells (plist s).toArray 48)
  have hP : PicAt (w.alloc (.cells (plist s).toArray 48)) w.heap.size 0 s := ⟨hs, Seg.new w _ _⟩
  obtain ⟨p0, _, _, _, _, _, _, _, hfz⟩ := hP.facts
  have HU := hs.up
  by_cases hi : 1 ≤ i ∧ i ≤ 31
  · obtain ⟨k, rfl⟩ : ∃ k : Nat, i = (k : Int) := ⟨i.toNat, by omega⟩
    have hq : s.upQ (k : Int) = s.up.testBit k := by unfold PS.upQ; rw [decide_eq_true hi, Int.toNat_natCast]; rfl
    go_enter Tryd.func40, Tryd.ntmps40
    go_wp2_with fail
    refine (is_c _ _).mono ?_
    rw [decide_eq_true hi]
    rintro e w' ⟨rfl, rfl⟩
    go_wp2_with fail
    refine (Bit32 s.up k _ HU (by omega)).mono ?_
    rintro e w' ⟨rfl, rfl⟩
    go_wp2_with fail
    go_ret
    rw [hq]
    exact ⟨by simp, hF⟩
  · have hq : s.upQ i = false := by unfold PS.upQ; rw [decide_eq_false hi]; rfl
    go_enter Tryd.func40, Tryd.ntmps40
    go_wp2_with fail
    refine (is_c _ _).mono ?_
    rw [decide_eq_false hi]
    rintro e w' ⟨rfl, rfl⟩
    go_wp2_with fail
    go_ret
    rw [hq]
    exact ⟨rfl, hF⟩
/-- Which of the two contexts' places an offset is. -/
def ctxOf (off first apart : Nat) : Option Nat := if off = first then some 0 else if off = first + apart then some 1 else none
def ctxV : Option Nat → Value
  | some c => .tuple #[.int .i64 (c : Int), .bool true]
  | none => .tuple #[.int .i64 0, .bool false]
set_option maxHeartbeats 1000000 in
theorem context_c (w : World) (off first apart : Nat) (h2 : first < 16777216) (h3 : apart < 16777216) (h4 : 0 < apart) :
    Calls Tryd.prog 54 #[.int .u64 (off : Int), .int .u64 (first : Int), .int .u64 (apart : Int)] w fun e w' => e = .returned (ctxV (ctxOf off first apart)) ∧ w = w' := by
  have hw1 : IntKind.u64.wrap ((first : Int) + (apart : Int)) = ((first + apart : Nat) : Int) := by rw [IntKind.wrap_u64]; omega
  have c0 : off = first → ctxOf off first apart = some 0 := fun e => by unfold ctxOf; rw [if_pos e]
  have c1 : off ≠ first → off = first + apart → ctxOf off first apart = some 1 := fun e e' => by unfold ctxOf; rw [if_neg e, if_pos e']
  have c2 : off ≠ first → off ≠ first + apart → ctxOf off first apart = none := fun e e' => by unfold ctxOf; rw [if_neg e, if_neg e']
  have C0 := Lib.hid c0
  have C1 := Lib.hid c1
  have C2 := Lib.hid c2
  clear c0 c1 c2
  go_enter Tryd.func54, Tryd.ntmps54
  go_wp2_with fail
  go_loopw [9] (fun i wr => ∃ k : Nat, k ≤ 2 ∧ i = .int .i64 (k : Int) ∧ wr = w ∧ (0 < k → off ≠ first) ∧ (1 < k → off ≠ first + apart)) (fun i _ => 2 - (intOf i).toNat)
  case atStart => exact ⟨0, by omega, rfl, rfl, fun h => by omega, fun h => by omega⟩
  case round =>
    obtain ⟨k, hk, rfl, rfl, g1, g2⟩ := hrel
    have h3 : k = 0 ∨ k = 1 ∨ k = 2 := by omega
    rcases h3 with rfl | rfl | rfl
    · clear g1 g2
      by_cases e1 : off = first
      · have hb : ((off : Int) == (first : Int)) = true := by simp [e1]
        go_wp2_with fail
        go_ret2
        rw [C0.out e1]
        exact ⟨rfl, rfl⟩
      · have hb : ((off : Int) == (first : Int)) = false := by rw [beq_eq_false_iff_ne]; omega
        go_wp2_with fail
        exact ⟨⟨1, by omega, rfl, trivial, fun _ => e1, fun h => by omega⟩, by simp [intOf]⟩
    · have g1 := g1 (by omega)
      clear g2
      by_cases e1 : off = first + apart
      · have hb : ((off : Int) == ((first + apart : Nat) : Int)) = true := by simp [e1]
        go_wp2_with fail
        go_ret2
        rw [C1.out g1 e1]
        exact ⟨rfl, rfl⟩
      · have hb : ((off : Int) == ((first + apart : Nat) : Int)) = false := by rw [beq_eq_false_iff_ne]; omega
        go_wp2_with fail
        exact ⟨⟨2, by omega, rfl, trivial, fun _ => g1, fun _ => e1⟩, by simp [intOf]⟩
    · go_wp2_with fail
      go_ret2
      rw [C2.out (g1 (by omega)) (g2 (by omega))]
      exact ⟨rfl, rfl⟩

set_option maxHeartbeats 2000000 in
theorem complete_c (w : World) (b o : Nat) (s : PS) (c v : Nat) (hc : c < 2) (hv : v < 4294967296) (h : PicAt w b o s) :
    Calls Tryd.prog 55 #[.pointer (some ⟨b, o, none⟩), .int .i64 (c : Int), .int .u32 (v : Int)] w fun e w' => e = .returned (.tuple #[]) ∧ PicAt w' b o (s.complete c v) ∧ FrIn b o 39 w w' := by
  by_cases h31 : v ≤ 31
  · have hg : decide ((31 : Int) < (v : Int)) = false := decide_eq_false (by omega)
    obtain ⟨p0, p1, p2, p3, p4, p5, p6, pr, hfz⟩ := h.facts
    have hon : s.on c < 4294967296 := by unfold PS.on; split; exact h.ok.on0; exact h.ok.on1
    have hx := u32_and_nat (s.on c) s.busy hon h.ok.busy
    obtain ⟨x, hxe⟩ : ∃ x, x = s.on c &&& s.busy := ⟨_, rfl⟩
    have hxl : x < 4294967296 := by rw [hxe]; exact Nat.lt_of_le_of_lt Nat.and_le_left hon
    have hpc : w.cell? ⟨b, o + 35 + c, none⟩ = some (u32v (s.on c)) := by
      rcases (show c = 0 ∨ c = 1 by omega) with rfl | rfl
      · exact p3
      · exact p4
    obtain ⟨y, hy⟩ : ∃ y, y = s.on c := ⟨_, rfl⟩
    rw [← hxe, ← hy] at hx
    rw [← hy] at hpc hon
    have hE := fun n => quiet_eq (n := n) (Bit32 x v (w.drewN n) hxl (by omega))
    have hl : s.complete c v = if x.testBit v = true then ({ s with busy := setB s.busy v false } : PS).look v else s := by
      unfold PS.complete
      rw [hxe, Nat.testBit_and]
      by_cases q : (s.on c).testBit v = true ∧ s.busy.testBit v = true
      · rw [if_pos ⟨h31, q.1, q.2⟩, if_pos (by simp [q.1, q.2])]
      · rw [if_neg (fun r => q r.2), if_neg (by rw [Bool.and_eq_true]; exact q)]
    have HX := Lib.hid (show x.testBit v = true → s.busy.testBit v = true ∧ 1 ≤ v from fun q => by
      rw [hxe, Nat.testBit_and, Bool.and_eq_true] at q
      refine ⟨q.2, ?_⟩
      rcases Nat.eq_zero_or_pos v with rfl | hv
      · rw [h.ok.b0] at q; cases q.2
      · exact hv)
    clear hxe hy p3 p4
    cases hb : x.testBit v
    · simp only [hb] at hE hl
      have HE := Lib.hid hE
      have HL := Lib.hid hl
      clear hE hl
      go_enter Tryd.func55, Tryd.ntmps55
      go_wp2_with fail
      go_quiet ((go_at_call 64; exact HE.out _))
      go_wp2_with fail
      refine bodyPost_ret (results_none rfl _ _ _) rfl ?_
      rw [HL.out]
      exact ⟨rfl, h.drewN _, (FrIn.refl _ _ _ _).drewN _⟩
    · obtain ⟨hbv, hv1⟩ := HX.out hb
      have hok : ({ s with busy := setB s.busy v false } : PS).Ok := by
        refine ⟨h.ok.up, h.ok.pend, setB_lt s.busy v 32 false h.ok.busy (by omega), h.ok.plen, h.ok.prio, h.ok.p0, h.ok.on0, h.ok.on1, h.ok.fl0, h.ok.fl1, h.ok.u0, h.ok.z0, ?_, h.ok.n0, h.ok.n1⟩
        show (setB s.busy v false).testBit 0 = false
        rw [setB_at, if_neg (by omega)]; exact h.ok.b0
      obtain ⟨m, hm, hml, hsh⟩ := shl32 v (by omega)
      have hno := andNot32 s.busy v h.ok.busy (by omega)
      rw [← hm] at hno
      simp only [hb] at hE hl
      have HE := Lib.hid hE
      have HL := Lib.hid hl
      have HK := Lib.hid hok
      clear hE hl hm hok hbv
      go_enter Tryd.func55, Tryd.ntmps55
      go_wp2_with fail
      go_quiet ((go_at_call 64; exact HE.out _))
      go_wp2_with fail
      have hp2 := (h.drewN nq).put (i := 2) (v := u32v (setB s.busy v false)) HK.out (by omega) rfl
      refine (look_c _ b o _ v hp2.1 hv1 h31).mono ?_
      rintro e w' ⟨rfl, hp, hf⟩
      have HR := Lib.hid hp
      have HF := Lib.hid (hp2.2.of_drewN.trans hf)
      clear hp hf hp2
      go_wp2_with fail
      go_end0
      rw [HL.out]
      exact ⟨rfl, HR.out, HF.out⟩
  · have hg : decide ((31 : Int) < (v : Int)) = true := decide_eq_true (by omega)
    have hl : s.complete c v = s := by unfold PS.complete; rw [if_neg (fun q => h31 q.1)]
    go_enter Tryd.func55, Tryd.ntmps55
    go_wp2_with fail
    go_quiet (fail)
    go_wp2_with fail
    refine bodyPost_ret (results_none rfl _ _ _) rfl ?_
    rw [hl]
    exact ⟨rfl, h.drewN _, (FrIn.refl _ _ _ _).drewN _⟩
end Go.Proofs.YtcnglhneknbllaaDoor

/-
  The interrupt controller as plain data: a source that alone is enabled. No program in sight.
-/
import Derived.Test.YtcnglhneknbllaaDoorPlicL
namespace Go.Proofs.YtcnglhneknbllaaDoor
open Go Go.RowKit

namespace PS
/-- A source alone: what is up, pending, busy. -/
def solo (s c p f up pend busy : Nat) : PS := ⟨up, pend, busy, (List.replicate 32 0).set s p, if c = 0 then 2 ^ s else 0, if c = 0 then 0 else 2 ^ s, if c = 0 then f else 0, if c = 0 then 0 else f⟩
theorem bestOf_one (p : Nat → Nat) (h0 : p 0 = 0) (s : Nat) : PS.bestOf p [s] = if 0 < p s then s else 0 := by
  unfold PS.bestOf
  simp only [List.foldl_cons, List.foldl_nil, h0, Nat.le_zero_eq]
  by_cases h : p s = 0
  · rw [if_pos h, if_neg (by omega)]
  · rw [if_neg h, if_pos (by omega)]
theorem ones_pow (s : Nat) (h : s < 64) : ones (2 ^ s) = [s] := by
  have hm : ∀ j, j ∈ ones (2 ^ s) ↔ j = s := fun j => by
    rw [ones_mem, Nat.testBit_two_pow]
    constructor
    · rintro ⟨_, h2⟩; simpa using (of_decide_eq_true h2).symm
    · rintro rfl; exact ⟨h, by simp⟩
  have hs := ones_sorted (2 ^ s)
  generalize ones (2 ^ s) = l at hm hs
  match l, hm, hs with
  | [], hm, _ => exact absurd ((hm s).2 rfl) (by simp)
  | [a], hm, _ => rw [(hm a).1 (by simp)]
  | a :: b :: r, hm, hs =>
    have h1 := (hm a).1 (by simp)
    have h2 := (hm b).1 (by simp)
    have := (List.pairwise_cons.1 hs).1 b (by simp)
    omega
theorem solo_pr (s c p f u d y j : Nat) (h : s < 32) : (solo s c p f u d y).pr j = if j = s then p else 0 := by
  unfold PS.pr
  show ((List.replicate 32 0).set s p).getD j 0 = _
  rw [List.getD_eq_getElem?_getD, List.getElem?_set]
  by_cases e : s = j
  · subst e; simp [h]
  · rw [if_neg e, if_neg (fun q => e q.symm), List.getElem?_replicate]
    split <;> rfl
theorem solo_best (s c p f u y : Nat) (h1 : 1 ≤ s) (h2 : s ≤ 31) (hc : c < 2) : (solo s c p f u (2 ^ s) y).best (c : Int) = if 0 < p then s else 0 := by
  unfold PS.best
  rw [if_pos (by omega), Int.toNat_natCast]
  have ho : (solo s c p f u (2 ^ s) y).pend &&& (solo s c p f u (2 ^ s) y).on c = 2 ^ s := by
    unfold PS.on
    rcases (show c = 0 ∨ c = 1 by omega) with rfl | rfl
    · exact Nat.and_self _
    · exact Nat.and_self _
  rw [ho, ones_pow s (by omega), bestOf_one _ (by rw [solo_pr _ _ _ _ _ _ _ _ (by omega), if_neg (by omega)]), solo_pr _ _ _ _ _ _ _ _ (by omega), if_pos rfl]
theorem best_zero (s : PS) (c : Int) (h : s.pend &&& s.on c.toNat = 0) : s.best c = 0 := by
  unfold PS.best
  rw [h]
  split <;> rfl
theorem solo_line (s c p f u y : Nat) (h1 : 1 ≤ s) (h2 : s ≤ 31) (hc : c < 2) : (solo s c p f u (2 ^ s) y).line (c : Int) = decide (f < p) := by
  unfold PS.line
  rw [solo_best s c p f u y h1 h2 hc, Int.toNat_natCast]
  have hf : (solo s c p f u (2 ^ s) y).fl c = f := by
    unfold PS.fl
    rcases (show c = 0 ∨ c = 1 by omega) with rfl | rfl <;> rfl
  rw [hf]
  by_cases hp : 0 < p
  · rw [if_pos hp, solo_pr _ _ _ _ _ _ _ _ (by omega), if_pos rfl, decide_eq_true (by omega : 0 < s), Bool.true_and]
  · rw [if_neg hp, decide_eq_false (by omega : ¬ f < p)]; rfl
theorem solo_none (s c p f u y : Nat) : (solo s c p f u 0 y).best (c : Int) = 0 ∧ (solo s c p f u 0 y).line (c : Int) = false := by
  have hb : (solo s c p f u 0 y).best (c : Int) = 0 := best_zero _ _ (Nat.zero_and _)
  refine ⟨hb, ?_⟩
  unfold PS.line
  rw [hb]
  rfl
theorem solo_other (s c p f u d y : Nat) (hc : c < 2) : (solo s c p f u d y).line ((1 : Int) - (c : Int)) = false := by
  have hb : (solo s c p f u d y).best ((1 : Int) - (c : Int)) = 0 := by
    refine best_zero _ _ ?_
    unfold PS.on
    rcases (show c = 0 ∨ c = 1 by omega) with rfl | rfl
    · exact Nat.and_zero _
    · exact Nat.and_zero _
  unfold PS.line
  rw [hb]
  rfl
theorem setB_pow (s : Nat) : setB 0 s true = 2 ^ s := by unfold setB; rw [if_pos rfl, Nat.zero_or]
theorem setB_pow2 (s : Nat) : setB (2 ^ s) s true = 2 ^ s := by unfold setB; rw [if_pos rfl, Nat.or_self]
theorem setB_pow0 (s : Nat) : setB (2 ^ s) s false = 0 := by unfold setB; rw [if_neg (by decide), Nat.and_self, Nat.xor_self]
theorem pow_lt32 (s : Nat) (h : s ≤ 31) : 2 ^ s < 4294967296 := Nat.pow_lt_pow_right (show 1 < 2 by omega) (show s < 32 by omega)
theorem pow_on (s : Nat) (h1 : 1 ≤ s) (h2 : s ≤ 31) : setB (2 ^ s % 4294967296) 0 false = 2 ^ s := by
  rw [Nat.mod_eq_of_lt (pow_lt32 s h2)]
  apply Nat.eq_of_testBit_eq
  intro j
  rw [setB_at, Nat.testBit_two_pow]
  split
  · rename_i e; subst e; simp; omega
  · rfl
theorem pow_bit (s : Nat) : (2 ^ s).testBit s = true := by rw [Nat.testBit_two_pow]; simp
/-- What is done, one step behind the other. -/
structure Solo (s c prio floor : Nat) (still : Bool) (t1 t2 t3 t4 t5 t6 t7 t8 : PS) (v : Nat) : Prop where
  e1 : new.write (4 * s) 4 prio = (t1, true)
  e2 : t1.write (8192 + 128 * c) 4 (2 ^ s) = (t2, true)
  e3 : t2.write (2097152 + 4096 * c) 4 floor = (t3, true)
  e4 : t3.level s true = (t4, true)
  e5 : t4.level s still = (t5, true)
  l5 : t5.line c = decide (floor % 8 < prio % 8)
  m5 : t5.line ((1 : Int) - c) = false
  u5 : t5.upQ s = still
  e6 : t5.read (2097156 + 4096 * c) 4 = (t6, v, true)
  hv : v = if 0 < prio % 8 then s else 0
  l6 : t6.line c = false
  e7 : t6.write (2097156 + 4096 * (1 - c)) 4 v = (t7, true)
  l7 : t7.line c = true → v = 0
  e8 : t7.write (2097156 + 4096 * c) 4 (v + 4294967296) = (t8, true)
  l8 : t8.line c = (decide (floor % 8 < prio % 8) && still)
theorem solo_look (s c p f u d : Nat) : (solo s c p f u d 0).look s = if u.testBit s = true then solo s c p f u (setB d s true) 0 else solo s c p f u d 0 := by
  unfold PS.look
  have e : (solo s c p f u d 0).busy.testBit s = false := Nat.zero_testBit s
  rw [e]
  by_cases h : u.testBit s = true
  · rw [if_pos ⟨h, rfl⟩, if_pos h]; rfl
  · rw [if_neg (fun q => h q.1), if_neg h]
theorem solo_all (s c prio floor : Nat) (still : Bool) (h1 : 1 ≤ s) (h2 : s ≤ 31) (hc : c < 2) : ∃ t1 t2 t3 t4 t5 t6 t7 t8 v, Solo s c prio floor still t1 t2 t3 t4 t5 t6 t7 t8 v := by
  obtain ⟨p, hp⟩ : ∃ p, p = prio % 8 := ⟨_, rfl⟩
  obtain ⟨f, hf⟩ : ∃ f, f = floor % 8 := ⟨_, rfl⟩
  obtain ⟨u, hu⟩ : ∃ u, u = if still = true then 2 ^ s else 0 := ⟨_, rfl⟩
  have hub : u.testBit s = still := by
    rw [hu]
    cases still
    · exact Nat.zero_testBit s
    · exact pow_bit s
  have e1 : new.write (4 * s) 4 prio = (⟨0, 0, 0, (List.replicate 32 0).set s p, 0, 0, 0, 0⟩, true) := by
    unfold PS.write
    rw [if_neg (by decide), if_pos (by omega), if_pos (by omega), show 4 * s / 4 = s by omega, hp]
    rfl
  have e2 : (⟨0, 0, 0, (List.replicate 32 0).set s p, 0, 0, 0, 0⟩ : PS).write (8192 + 128 * c) 4 (2 ^ s) = (solo s c p 0 0 0 0, true) := by
    have := pow_on s h1 h2
    unfold solo
    rcases (show c = 0 ∨ c = 1 by omega) with rfl | rfl
    · show (({ up := 0, pend := 0, busy := 0, prio := (List.replicate 32 0).set s p, on0 := setB (2 ^ s % 4294967296) 0 false, on1 := 0, fl0 := 0, fl1 := 0 } : PS), true) = _
      rw [this]; rfl
    · show (({ up := 0, pend := 0, busy := 0, prio := (List.replicate 32 0).set s p, on0 := 0, on1 := setB (2 ^ s % 4294967296) 0 false, fl0 := 0, fl1 := 0 } : PS), true) = _
      rw [this]; rfl
  have e3 : (solo s c p 0 0 0 0).write (2097152 + 4096 * c) 4 floor = (solo s c p f 0 0 0, true) := by
    rw [hf]
    rcases (show c = 0 ∨ c = 1 by omega) with rfl | rfl <;> rfl
  have lev : ∀ (u0 d : Nat) (b : Bool), (solo s c p f u0 d 0).level s b = ((solo s c p f (setB u0 s b) d 0).look s, true) := fun u0 d b => by
    unfold PS.level
    rw [if_pos (by omega), Int.toNat_natCast]
    rfl
  have e4 : (solo s c p f 0 0 0).level s true = (solo s c p f (2 ^ s) (2 ^ s) 0, true) := by
    rw [lev, setB_pow, solo_look, if_pos (pow_bit s), setB_pow]
  have e5 : (solo s c p f (2 ^ s) (2 ^ s) 0).level s still = (solo s c p f u (2 ^ s) 0, true) := by
    rw [lev, solo_look, hu]
    cases still
    · rw [setB_pow0, if_neg (by rw [Nat.zero_testBit]; decide)]; rfl
    · rw [setB_pow2, if_pos (pow_bit s)]; rfl
  have hup : (solo s c p f u (2 ^ s) 0).upQ s = still := by
    unfold PS.upQ
    rw [decide_eq_true (by omega), Bool.true_and, Int.toNat_natCast]
    exact hub
  have hread : ∀ t : PS, t.read (2097156 + 4096 * c) 4 = ((t.claim c).1, (t.claim c).2, true) := fun t => by
    rcases (show c = 0 ∨ c = 1 by omega) with rfl | rfl <;> rfl
  have hw : ∀ (t : PS) (x : Nat), t.write (2097156 + 4096 * c) 4 x = (t.complete c (x % 4294967296), true) := fun t x => by
    rcases (show c = 0 ∨ c = 1 by omega) with rfl | rfl <;> rfl
  have hw' : ∀ (t : PS) (x : Nat), t.write (2097156 + 4096 * (1 - c)) 4 x = (t.complete (1 - c) (x % 4294967296), true) := fun t x => by
    rcases (show c = 0 ∨ c = 1 by omega) with rfl | rfl <;> rfl
  have hoff : ∀ (u0 d y x : Nat), (solo s c p f u0 d y).complete (1 - c) x = solo s c p f u0 d y := fun u0 d y x => by
    unfold PS.complete
    rw [if_neg]
    rintro ⟨_, h, _⟩
    unfold PS.on at h
    rcases (show c = 0 ∨ c = 1 by omega) with rfl | rfl
    · have h : (0 : Nat).testBit x = true := h
      rw [Nat.zero_testBit] at h; cases h
    · have h : (0 : Nat).testBit x = true := h
      rw [Nat.zero_testBit] at h; cases h
  have hon : ∀ (u0 d y : Nat), ((solo s c p f u0 d y).on c).testBit s = true := fun u0 d y => by
    unfold PS.on
    rcases (show c = 0 ∨ c = 1 by omega) with rfl | rfl <;> exact pow_bit s
  by_cases h0 : 0 < p
  · have hcl : (solo s c p f u (2 ^ s) 0).claim c = (solo s c p f u 0 (2 ^ s), s) := by
      unfold PS.claim
      rw [solo_best s c p f u 0 h1 h2 hc, if_pos h0, if_pos (by omega)]
      show (({ (solo s c p f u (2 ^ s) 0) with pend := setB (2 ^ s) s false, busy := setB 0 s true } : PS), s) = _
      rw [setB_pow0, setB_pow]
      rfl
    have hcm : (solo s c p f u 0 (2 ^ s)).complete c s = if still = true then solo s c p f u (2 ^ s) 0 else solo s c p f u 0 0 := by
      unfold PS.complete
      rw [if_pos ⟨h2, hon _ _ _, pow_bit s⟩]
      show ({ (solo s c p f u 0 (2 ^ s)) with busy := setB (2 ^ s) s false } : PS).look s = _
      rw [setB_pow0]
      show (solo s c p f u 0 0).look s = _
      rw [solo_look, hub, setB_pow]
    refine ⟨_, _, _, _, _, solo s c p f u 0 (2 ^ s), solo s c p f u 0 (2 ^ s), if still = true then solo s c p f u (2 ^ s) 0 else solo s c p f u 0 0, s, e1, e2, e3, e4, e5, ?_, solo_other _ _ _ _ _ _ _ hc, hup, ?_, ?_, (solo_none s c p f u _).2, ?_, ?_, ?_, ?_⟩
    · rw [solo_line s c p f u 0 h1 h2 hc, hp, hf]
    · rw [hread, hcl]
    · rw [← hp, if_pos h0]
    · rw [hw', hoff]
    · rw [(solo_none s c p f u _).2]; intro h; cases h
    · rw [hw, show (s + 4294967296) % 4294967296 = s by omega, hcm]
    · rw [← hp, ← hf]
      cases still
      · simp only [Bool.false_eq_true, if_false, Bool.and_false]
        exact (solo_none s c p f u _).2
      · simp only [if_true, Bool.and_true]
        exact solo_line s c p f u 0 h1 h2 hc
  · have hcl : (solo s c p f u (2 ^ s) 0).claim c = (solo s c p f u (2 ^ s) 0, 0) := by
      unfold PS.claim
      rw [solo_best s c p f u 0 h1 h2 hc, if_neg h0, if_neg (by omega)]
    have hl : (solo s c p f u (2 ^ s) 0).line c = false := by rw [solo_line s c p f u 0 h1 h2 hc]; exact decide_eq_false (by omega)
    have hcm : (solo s c p f u (2 ^ s) 0).complete c 0 = solo s c p f u (2 ^ s) 0 := by
      unfold PS.complete
      rw [if_neg]
      rintro ⟨_, _, h⟩
      have h : (0 : Nat).testBit 0 = true := h
      rw [Nat.zero_testBit] at h; cases h
    refine ⟨_, _, _, _, _, solo s c p f u (2 ^ s) 0, solo s c p f u (2 ^ s) 0, solo s c p f u (2 ^ s) 0, 0, e1, e2, e3, e4, e5, ?_, solo_other _ _ _ _ _ _ _ hc, hup, ?_, ?_, hl, ?_, ?_, ?_, ?_⟩
    · rw [solo_line s c p f u 0 h1 h2 hc, hp, hf]
    · rw [hread, hcl]
    · rw [← hp, if_neg h0]
    · rw [hw', hoff]
    · intro _; rfl
    · rw [hw, show (0 + 4294967296) % 4294967296 = 0 by omega, hcm]
    · rw [hl, ← hp, ← hf, decide_eq_false (by omega : ¬ f < p)]
      rfl
end PS
end Go.Proofs.YtcnglhneknbllaaDoor

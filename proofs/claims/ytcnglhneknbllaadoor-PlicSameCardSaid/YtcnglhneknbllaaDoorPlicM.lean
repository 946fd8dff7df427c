/-
  The interrupt controller as plain data: its state, and what each act makes of it. No program in sight.
-/
import Derived.Test.YtcnglhneknbllaaDoorOnesM
namespace Go.Proofs.YtcnglhneknbllaaDoor
open Go Go.RowKit

/-- A word with one bit made `b`. -/
def setB (m i : Nat) (b : Bool) : Nat := if b = true then m ||| 2 ^ i else m ^^^ (m &&& 2 ^ i)
theorem setB_at (m i j : Nat) (b : Bool) : (setB m i b).testBit j = if j = i then b else m.testBit j := by
  unfold setB
  cases b
  · simp only [Bool.false_eq_true, if_false, Nat.testBit_xor, Nat.testBit_and, Nat.testBit_two_pow]
    by_cases h : j = i
    · subst h; simp
    · have : i ≠ j := fun e => h e.symm
      simp [h, this]
  · simp only [if_true, Nat.testBit_or, Nat.testBit_two_pow]
    by_cases h : j = i
    · subst h; simp
    · have : i ≠ j := fun e => h e.symm
      simp [h, this]
theorem setB_lt (m i n : Nat) (b : Bool) (hm : m < 2 ^ n) (hi : i < n) : setB m i b < 2 ^ n := by
  unfold setB
  have h2 : 2 ^ i < 2 ^ n := Nat.pow_lt_pow_right (by omega) hi
  split
  · exact Nat.or_lt_two_pow hm h2
  · exact Nat.xor_lt_two_pow hm (Nat.and_lt_two_pow _ h2)

/-- The state of an interrupt controller. -/
structure PS where
  up : Nat
  pend : Nat
  busy : Nat
  prio : List Nat
  on0 : Nat
  on1 : Nat
  fl0 : Nat
  fl1 : Nat
deriving DecidableEq

namespace PS
/-- At first. -/
def new : PS := ⟨0, 0, 0, List.replicate 32 0, 0, 0, 0, 0⟩
structure Ok (s : PS) : Prop where
  up : s.up < 4294967296
  pend : s.pend < 4294967296
  busy : s.busy < 4294967296
  plen : s.prio.length = 32
  prio : ∀ x ∈ s.prio, x < 8
  p0 : s.prio[0]? = some 0
  on0 : s.on0 < 4294967296
  on1 : s.on1 < 4294967296
  fl0 : s.fl0 < 8
  fl1 : s.fl1 < 8
  u0 : s.up.testBit 0 = false
  z0 : s.pend.testBit 0 = false
  b0 : s.busy.testBit 0 = false
  n0 : s.on0.testBit 0 = false
  n1 : s.on1.testBit 0 = false
def pr (s : PS) (i : Nat) : Nat := s.prio.getD i 0
def on (s : PS) (c : Nat) : Nat := if c = 0 then s.on0 else s.on1
def fl (s : PS) (c : Nat) : Nat := if c = 0 then s.fl0 else s.fl1
def look (s : PS) (i : Nat) : PS := if s.up.testBit i = true ∧ s.busy.testBit i = false then { s with pend := setB s.pend i true } else s
def level (s : PS) (i : Int) (b : Bool) : PS × Bool := if 1 ≤ i ∧ i ≤ 31 then (({ s with up := setB s.up i.toNat b } : PS).look i.toNat, true) else (s, false)
def upQ (s : PS) (i : Int) : Bool := decide (1 ≤ i ∧ i ≤ 31) && s.up.testBit i.toNat
/-- Of the sources of `l`, one behind the other: which has the greatest priority. -/
def bestOf (p : Nat → Nat) (l : List Nat) : Nat := l.foldl (fun b i => if p i ≤ p b then b else i) 0
def best (s : PS) (c : Int) : Nat := if c = 0 ∨ c = 1 then bestOf s.pr (ones (s.pend &&& s.on c.toNat)) else 0
def line (s : PS) (c : Int) : Bool := decide (0 < s.best c) && decide (s.fl c.toNat < s.pr (s.best c))
def claim (s : PS) (c : Nat) : PS × Nat := if 0 < s.best c then ({ s with pend := setB s.pend (s.best c) false, busy := setB s.busy (s.best c) true }, s.best c) else (s, 0)
def read (s : PS) (off : Nat) (n : Int) : PS × Nat × Bool :=
  if n ≠ 4 then (s, 0, false)
  else if off < 128 ∧ off % 4 = 0 then (s, s.pr (off / 4), true)
  else if off = 4096 then (s, s.pend, true)
  else if off = 8192 then (s, s.on0, true) else if off = 8320 then (s, s.on1, true)
  else if off = 2097152 then (s, s.fl0, true) else if off = 2101248 then (s, s.fl1, true)
  else if off = 2097156 then ((s.claim 0).1, (s.claim 0).2, true) else if off = 2101252 then ((s.claim 1).1, (s.claim 1).2, true)
  else (s, 0, false)
/-- What ends a claim. -/
def complete (s : PS) (c : Nat) (v : Nat) : PS := if v ≤ 31 ∧ (s.on c).testBit v = true ∧ s.busy.testBit v = true then ({ s with busy := setB s.busy v false } : PS).look v else s
def write (s : PS) (off : Nat) (n : Int) (v : Nat) : PS × Bool :=
  if n ≠ 4 then (s, false)
  else if off < 128 ∧ off % 4 = 0 then ((if 0 < off then { s with prio := s.prio.set (off / 4) (v % 8) } else s), true)
  else if off = 4096 then (s, true)
  else if off = 8192 then ({ s with on0 := setB (v % 4294967296) 0 false }, true) else if off = 8320 then ({ s with on1 := setB (v % 4294967296) 0 false }, true)
  else if off = 2097152 then ({ s with fl0 := v % 8 }, true) else if off = 2101248 then ({ s with fl1 := v % 8 }, true)
  else if off = 2097156 then (s.complete 0 (v % 4294967296), true) else if off = 2101252 then (s.complete 1 (v % 4294967296), true)
  else (s, false)

theorem ok_new : new.Ok := by
  refine ⟨by decide, by decide, by decide, by decide, fun x hx => ?_, by decide, by decide, by decide, by decide, by decide, ?_, ?_, ?_, ?_, ?_⟩
  · simp [new] at hx; omega
  all_goals exact Nat.zero_testBit 0
theorem Ok.pr_lt {s : PS} (h : s.Ok) (i : Nat) : s.pr i < 8 := by
  unfold pr
  rw [List.getD_eq_getElem?_getD]
  cases e : s.prio[i]? with
  | none => simp
  | some x => exact h.prio x (List.mem_of_getElem? e)
theorem Ok.pr0 {s : PS} (h : s.Ok) : s.pr 0 = 0 := by unfold pr; rw [List.getD_eq_getElem?_getD, h.p0]; rfl
theorem Ok.look {s : PS} (h : s.Ok) (i : Nat) (h1 : 1 ≤ i) (h2 : i ≤ 31) : (s.look i).Ok := by
  unfold PS.look
  split
  · refine ⟨h.up, setB_lt s.pend i 32 true h.pend (by omega), h.busy, h.plen, h.prio, h.p0, h.on0, h.on1, h.fl0, h.fl1, h.u0, ?_, h.b0, h.n0, h.n1⟩
    show (setB s.pend i true).testBit 0 = false
    rw [setB_at, if_neg (by omega)]; exact h.z0
  · exact h
theorem Ok.level {s : PS} (h : s.Ok) (i : Int) (b : Bool) : (s.level i b).1.Ok := by
  unfold PS.level
  split
  · refine Ok.look (s := { s with up := setB s.up i.toNat b }) ⟨setB_lt s.up i.toNat 32 b h.up (by omega), h.pend, h.busy, h.plen, h.prio, h.p0, h.on0, h.on1, h.fl0, h.fl1, ?_, h.z0, h.b0, h.n0, h.n1⟩ _ (by omega) (by omega)
    show (setB s.up i.toNat b).testBit 0 = false
    rw [setB_at, if_neg (by omega)]; exact h.u0
  · exact h

/-- What the greatest of them is. -/
structure IsBest (p : Nat → Nat) (q : Nat → Prop) (b : Nat) : Prop where
  pos : 0 < b → q b ∧ 0 < p b
  top : ∀ i, q i → p i ≤ p b
  low : ∀ i, q i → p i = p b → 0 < p i → b ≤ i
theorem IsBest.unique {p : Nat → Nat} {q : Nat → Prop} {a b : Nat} (h0 : p 0 = 0) (ha : IsBest p q a) (hb : IsBest p q b) : a = b := by
  have key : ∀ {x y : Nat}, IsBest p q x → IsBest p q y → x ≤ y := by
    intro x y hx hy
    rcases Nat.eq_zero_or_pos x with h | h
    · omega
    · rcases Nat.eq_zero_or_pos y with h' | h'
      · have := hy.top x (hx.pos h).1
        have := (hx.pos h).2
        rw [h', h0] at *
        omega
      · have h1 := hx.top y (hy.pos h').1
        have h2 := hy.top x (hx.pos h).1
        exact hx.low y (hy.pos h').1 (by omega) (hy.pos h').2
  exact Nat.le_antisymm (key ha hb) (key hb ha)
theorem ones_sorted_from : ∀ (f i x : Nat), (onesFrom f i x).Pairwise (· < ·)
  | 0, _, _ => List.Pairwise.nil
  | f + 1, i, x => by
    rw [onesFrom_succ]
    split
    · refine List.Pairwise.cons (fun j hj => ?_) (ones_sorted_from f (i + 1) (x / 2))
      have := ((onesFrom_mem f (i + 1) (x / 2) j).1 hj).1
      omega
    · exact ones_sorted_from f (i + 1) (x / 2)
theorem ones_sorted (x : Nat) : (ones x).Pairwise (· < ·) := ones_sorted_from 64 0 x
theorem bestOf_go (p : Nat → Nat) (h0 : p 0 = 0) : ∀ (l d : List Nat) (b : Nat), (d ++ l).Pairwise (· < ·) → IsBest p (· ∈ d) b → IsBest p (· ∈ d ++ l) (l.foldl (fun b i => if p i ≤ p b then b else i) b)
  | [], d, b, _, h => by simpa using h
  | i :: l, d, b, hs, h => by
    have e : d ++ i :: l = (d ++ [i]) ++ l := by simp
    rw [e] at hs ⊢
    refine bestOf_go p h0 l (d ++ [i]) _ hs ?_
    have hd : ∀ j ∈ d, j < i := fun j hj => by
      rw [← e] at hs
      exact (List.pairwise_append.1 hs).2.2 j hj i (List.mem_cons_self ..)
    show IsBest p _ (if p i ≤ p b then b else i)
    split
    · rename_i hle
      refine ⟨fun hb => ⟨List.mem_append_left _ (h.pos hb).1, (h.pos hb).2⟩, fun j hj => ?_, fun j hj hp hp0 => ?_⟩
      · rcases List.mem_append.1 hj with hj | hj
        · exact h.top j hj
        · simp at hj; subst hj; exact hle
      · rcases List.mem_append.1 hj with hj | hj
        · exact h.low j hj hp hp0
        · simp at hj; subst hj
          rcases Nat.eq_zero_or_pos b with hb | hb
          · omega
          · exact Nat.le_of_lt (hd b (h.pos hb).1)
    · rename_i hlt
      refine ⟨fun hb => ⟨List.mem_append_right _ (by simp), by omega⟩, fun j hj => ?_, fun j hj hp hp0 => ?_⟩
      · rcases List.mem_append.1 hj with hj | hj
        · have := h.top j hj; omega
        · simp at hj; subst hj; exact Nat.le_refl _
      · rcases List.mem_append.1 hj with hj | hj
        · have := h.top j hj; omega
        · simp at hj; subst hj; exact Nat.le_refl _
theorem bestOf_is (p : Nat → Nat) (h0 : p 0 = 0) (l : List Nat) (hs : l.Pairwise (· < ·)) : IsBest p (· ∈ l) (bestOf p l) := by
  have := bestOf_go p h0 l [] 0 (by simpa using hs) ⟨fun h => absurd h (Nat.lt_irrefl 0), fun i hi => by simp at hi, fun i hi => by simp at hi⟩
  simpa [bestOf] using this
/-- What a context would claim: of those that are pending and enabled, one of the greatest priority, the lowest number of them. -/
theorem Ok.best_is {s : PS} (h : s.Ok) (c : Nat) (hc : c ≤ 1) : IsBest s.pr (fun i => s.pend.testBit i = true ∧ (s.on c).testBit i = true) (s.best c) := by
  have hb := bestOf_is s.pr h.pr0 _ (ones_sorted (s.pend &&& s.on c))
  have hm : ∀ i, i ∈ ones (s.pend &&& s.on c) ↔ (s.pend.testBit i = true ∧ (s.on c).testBit i = true) := fun i => by
    rw [ones_mem, Nat.testBit_and, Bool.and_eq_true]
    refine ⟨fun h => h.2, fun h' => ⟨?_, h'⟩⟩
    apply Nat.lt_of_not_le
    intro hi
    have := Nat.testBit_lt_two_pow (Nat.lt_of_lt_of_le h.pend (Nat.pow_le_pow_right (show 0 < 2 by omega) (show 32 ≤ i by omega)))
    rw [this] at h'
    exact absurd h'.1 (by decide)
  have e : s.best c = bestOf s.pr (ones (s.pend &&& s.on c)) := by
    unfold best
    rw [if_pos (by omega)]
    rfl
  rw [e]
  exact ⟨fun h => ⟨(hm _).1 (hb.pos h).1, (hb.pos h).2⟩, fun i hi => hb.top i ((hm i).2 hi), fun i hi => hb.low i ((hm i).2 hi)⟩
theorem Ok.best_le {s : PS} (h : s.Ok) (c : Int) : s.best c ≤ 31 := by
  unfold best
  split
  · rename_i hc
    have hb := bestOf_is s.pr h.pr0 _ (ones_sorted (s.pend &&& s.on c.toNat))
    rcases Nat.eq_zero_or_pos (bestOf s.pr (ones (s.pend &&& s.on c.toNat))) with h' | h'
    · omega
    · have := ((ones_mem _ _).1 (hb.pos h').1).2
      rw [Nat.testBit_and, Bool.and_eq_true] at this
      apply Nat.le_of_not_lt
      intro hi
      have e := Nat.testBit_lt_two_pow (Nat.lt_of_lt_of_le h.pend (Nat.pow_le_pow_right (show 0 < 2 by omega) (show 32 ≤ bestOf s.pr (ones (s.pend &&& s.on c.toNat)) by omega)))
      rw [e] at this
      exact absurd this.1 (by decide)
  · omega
theorem Ok.claim {s : PS} (h : s.Ok) (c : Nat) : (s.claim c).1.Ok ∧ (s.claim c).2 ≤ 31 := by
  unfold PS.claim
  have hb := h.best_le c
  split
  · refine ⟨⟨h.up, setB_lt s.pend (s.best c) 32 false h.pend (by omega), setB_lt s.busy (s.best c) 32 true h.busy (by omega), h.plen, h.prio, h.p0, h.on0, h.on1, h.fl0, h.fl1, h.u0, ?_, ?_, h.n0, h.n1⟩, hb⟩
    · show (setB s.pend (s.best c) false).testBit 0 = false
      rw [setB_at, if_neg (by omega)]; exact h.z0
    · show (setB s.busy (s.best c) true).testBit 0 = false
      rw [setB_at, if_neg (by omega)]; exact h.b0
  · exact ⟨h, by omega⟩
theorem Ok.read {s : PS} (h : s.Ok) (off : Nat) (n : Int) : (s.read off n).1.Ok := by
  unfold PS.read
  repeat' split
  all_goals first | exact h | exact (h.claim _).1
theorem Ok.complete {s : PS} (h : s.Ok) (c v : Nat) (hv : 1 ≤ v) : (s.complete c v).Ok := by
  unfold PS.complete
  split
  · refine Ok.look (s := { s with busy := setB s.busy v false }) ⟨h.up, h.pend, setB_lt s.busy v 32 false h.busy (by omega), h.plen, h.prio, h.p0, h.on0, h.on1, h.fl0, h.fl1, h.u0, h.z0, ?_, h.n0, h.n1⟩ _ hv (by omega)
    show (setB s.busy v false).testBit 0 = false
    rw [setB_at, if_neg (by omega)]; exact h.b0
  · exact h
theorem Ok.complete' {s : PS} (h : s.Ok) (c v : Nat) : (s.complete c v).Ok := by
  rcases Nat.eq_zero_or_pos v with rfl | hv
  · unfold PS.complete
    rw [if_neg (by rw [h.b0]; simp)]
    exact h
  · exact h.complete c v hv
theorem Ok.write {s : PS} (h : s.Ok) (off : Nat) (n : Int) (v : Nat) : (s.write off n v).1.Ok := by
  have hon : setB (v % 4294967296) 0 false < 4294967296 := setB_lt _ _ 32 _ (Nat.mod_lt _ (by omega)) (by omega)
  have hon0 : (setB (v % 4294967296) 0 false).testBit 0 = false := by rw [setB_at, if_pos rfl]
  have h8 : v % 8 < 8 := Nat.mod_lt _ (by omega)
  have hk1 := h.complete' 0 (v % 4294967296)
  have hk2 := h.complete' 1 (v % 4294967296)
  have hp : 0 < off → off % 4 = 0 → ({ s with prio := s.prio.set (off / 4) (v % 8) } : PS).Ok := fun ho h4 => by
    refine ⟨h.up, h.pend, h.busy, by simp [h.plen], fun x hx => ?_, ?_, h.on0, h.on1, h.fl0, h.fl1, h.u0, h.z0, h.b0, h.n0, h.n1⟩
    · rcases List.mem_or_eq_of_mem_set hx with hx | rfl
      · exact h.prio x hx
      · exact h8
    · show (s.prio.set (off / 4) (v % 8))[0]? = some 0
      rw [List.getElem?_set_ne (by omega)]
      exact h.p0
  have h1 : ({ s with on0 := setB (v % 4294967296) 0 false } : PS).Ok := ⟨h.up, h.pend, h.busy, h.plen, h.prio, h.p0, hon, h.on1, h.fl0, h.fl1, h.u0, h.z0, h.b0, hon0, h.n1⟩
  have h2 : ({ s with on1 := setB (v % 4294967296) 0 false } : PS).Ok := ⟨h.up, h.pend, h.busy, h.plen, h.prio, h.p0, h.on0, hon, h.fl0, h.fl1, h.u0, h.z0, h.b0, h.n0, hon0⟩
  have h3 : ({ s with fl0 := v % 8 } : PS).Ok := ⟨h.up, h.pend, h.busy, h.plen, h.prio, h.p0, h.on0, h.on1, h8, h.fl1, h.u0, h.z0, h.b0, h.n0, h.n1⟩
  have h4 : ({ s with fl1 := v % 8 } : PS).Ok := ⟨h.up, h.pend, h.busy, h.plen, h.prio, h.p0, h.on0, h.on1, h.fl0, h8, h.u0, h.z0, h.b0, h.n0, h.n1⟩
  unfold PS.write
  split
  · exact h
  split
  · rename_i hc
    show (if 0 < off then _ else s).Ok
    split
    · rename_i ho
      exact hp ho hc.2
    · exact h
  repeat' split
  all_goals first | exact h | exact h1 | exact h2 | exact h3 | exact h4 | exact hk1 | exact hk2
end PS
end Go.Proofs.YtcnglhneknbllaaDoor

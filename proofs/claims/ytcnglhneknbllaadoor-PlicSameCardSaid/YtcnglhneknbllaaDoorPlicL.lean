/-
  The interrupt controller as plain data: what stays true whatever is done. No program in sight.
-/
import Derived.Test.YtcnglhneknbllaaDoorPlicM
namespace Go.Proofs.YtcnglhneknbllaaDoor
open Go Go.RowKit

namespace PS
/-- What is busy is not pending; what is up is pending or busy. -/
structure Inv (s : PS) : Prop where
  ok : s.Ok
  apart : ∀ i, s.pend.testBit i = true → s.busy.testBit i = false
  held : ∀ i, s.up.testBit i = true → s.pend.testBit i = true ∨ s.busy.testBit i = true
theorem Inv.new : new.Inv := by
  refine ⟨ok_new, fun i h => ?_, fun i h => ?_⟩
  · exact absurd h (by simp [PS.new])
  · exact absurd h (by simp [PS.new])
theorem look_pend (s : PS) (i j : Nat) : (s.look i).pend.testBit j = if j = i ∧ s.up.testBit i = true ∧ s.busy.testBit i = false then true else s.pend.testBit j := by
  unfold PS.look
  split
  · rename_i h
    show (setB s.pend i true).testBit j = _
    rw [setB_at]
    by_cases e : j = i
    · rw [if_pos e, if_pos ⟨e, h⟩]
    · rw [if_neg e, if_neg (fun q => e q.1)]
  · rename_i h
    rw [if_neg (fun q => h q.2)]
theorem look_up (s : PS) (i : Nat) : (s.look i).up = s.up := by unfold PS.look; split <;> rfl
theorem look_busy (s : PS) (i : Nat) : (s.look i).busy = s.busy := by unfold PS.look; split <;> rfl
theorem look_rest (s : PS) (i : Nat) : (s.look i).prio = s.prio ∧ (s.look i).on0 = s.on0 ∧ (s.look i).on1 = s.on1 ∧ (s.look i).fl0 = s.fl0 ∧ (s.look i).fl1 = s.fl1 := by unfold PS.look; split <;> exact ⟨rfl, rfl, rfl, rfl, rfl⟩
theorem Inv.look_ {s : PS} (hok : s.Ok) (ap : ∀ i, s.pend.testBit i = true → s.busy.testBit i = false) (i : Nat) (h1 : 1 ≤ i) (h2 : i ≤ 31)
    (hd : ∀ j, j ≠ i → s.up.testBit j = true → s.pend.testBit j = true ∨ s.busy.testBit j = true) : (s.look i).Inv := by
  refine ⟨hok.look i h1 h2, fun j hj => ?_, fun j hj => ?_⟩
  · rw [look_busy]
    rw [look_pend] at hj
    split at hj
    · rename_i h; rw [h.1]; exact h.2.2
    · exact ap j hj
  · rw [look_up] at hj
    rw [look_busy, look_pend]
    by_cases e : j = i
    · subst e
      cases hb : s.busy.testBit j
      · left; rw [if_pos ⟨rfl, hj, rfl⟩]
      · right; rfl
    · rw [if_neg (fun q => e q.1)]
      exact hd j e hj
theorem Inv.level {s : PS} (h : s.Inv) (i : Int) (b : Bool) : (s.level i b).1.Inv := by
  unfold PS.level
  split
  · rename_i hi
    have hok : ({ s with up := setB s.up i.toNat b } : PS).Ok := by
      refine ⟨setB_lt s.up i.toNat 32 b h.ok.up (by omega), h.ok.pend, h.ok.busy, h.ok.plen, h.ok.prio, h.ok.p0, h.ok.on0, h.ok.on1, h.ok.fl0, h.ok.fl1, ?_, h.ok.z0, h.ok.b0, h.ok.n0, h.ok.n1⟩
      show (setB s.up i.toNat b).testBit 0 = false
      rw [setB_at, if_neg (by omega)]; exact h.ok.u0
    refine Inv.look_ hok h.apart i.toNat (by omega) (by omega) (fun j hj hu => ?_)
    have hu : (setB s.up i.toNat b).testBit j = true := hu
    rw [setB_at, if_neg hj] at hu
    exact h.held j hu
  · exact h
theorem level_busy (s : PS) (i : Int) (b : Bool) : (s.level i b).1.busy = s.busy := by
  unfold PS.level
  split
  · exact look_busy _ _
  · rfl
theorem Inv.claim {s : PS} (h : s.Inv) (c : Nat) : (s.claim c).1.Inv := by
  refine ⟨(h.ok.claim c).1, ?_, ?_⟩
  · unfold PS.claim
    split
    · intro j hj
      have hj : (setB s.pend (s.best c) false).testBit j = true := hj
      show (setB s.busy (s.best c) true).testBit j = false
      rw [setB_at] at hj ⊢
      split at hj
      · cases hj
      · rename_i e; rw [if_neg e]; exact h.apart j hj
    · exact h.apart
  · unfold PS.claim
    split
    · intro j hj
      have hj : s.up.testBit j = true := hj
      show (setB s.pend (s.best c) false).testBit j = true ∨ (setB s.busy (s.best c) true).testBit j = true
      rw [setB_at, setB_at]
      by_cases e : j = s.best c
      · right; rw [if_pos e]
      · rw [if_neg e, if_neg e]; exact h.held j hj
    · exact h.held
theorem Inv.read {s : PS} (h : s.Inv) (off : Nat) (n : Int) : (s.read off n).1.Inv := by
  unfold PS.read
  repeat' split
  all_goals first | exact h | exact h.claim _
theorem Inv.complete {s : PS} (h : s.Inv) (c v : Nat) : (s.complete c v).Inv := by
  rcases Nat.eq_zero_or_pos v with rfl | hv
  · unfold PS.complete
    rw [if_neg (by rw [h.ok.b0]; simp)]
    exact h
  unfold PS.complete
  split
  · rename_i hc
    have hok : ({ s with busy := setB s.busy v false } : PS).Ok := by
      refine ⟨h.ok.up, h.ok.pend, setB_lt s.busy v 32 false h.ok.busy (by omega), h.ok.plen, h.ok.prio, h.ok.p0, h.ok.on0, h.ok.on1, h.ok.fl0, h.ok.fl1, h.ok.u0, h.ok.z0, ?_, h.ok.n0, h.ok.n1⟩
      show (setB s.busy v false).testBit 0 = false
      rw [setB_at, if_neg (by omega)]; exact h.ok.b0
    refine Inv.look_ hok (fun j hj => ?_) v hv (by omega) (fun j hj hu => ?_)
    · show (setB s.busy v false).testBit j = false
      rw [setB_at]
      split
      · rfl
      · exact h.apart j hj
    · show s.pend.testBit j = true ∨ (setB s.busy v false).testBit j = true
      rw [setB_at, if_neg hj]
      exact h.held j hu
  · exact h
theorem complete_busy (s : PS) (c v j : Nat) : (s.complete c v).busy.testBit j = if j = v ∧ v ≤ 31 ∧ (s.on c).testBit v = true then false else s.busy.testBit j := by
  unfold PS.complete
  split
  · rename_i hc
    rw [look_busy]
    show (setB s.busy v false).testBit j = _
    rw [setB_at]
    by_cases e : j = v
    · rw [if_pos e, if_pos ⟨e, hc.1, hc.2.1⟩]
    · rw [if_neg e, if_neg (fun q => e q.1)]
  · rename_i hc
    by_cases e : j = v ∧ v ≤ 31 ∧ (s.on c).testBit v = true
    · rw [if_pos e, e.1]
      cases hb : s.busy.testBit v
      · rfl
      · exact absurd ⟨e.2.1, e.2.2, hb⟩ hc
    · rw [if_neg e]
theorem Inv.write {s : PS} (h : s.Inv) (off : Nat) (n : Int) (v : Nat) : (s.write off n v).1.Inv := by
  have hok := h.ok.write off n v
  have hc := fun c => h.complete c (v % 4294967296)
  have key : ∀ t : PS, t.Ok → t.up = s.up → t.pend = s.pend → t.busy = s.busy → t.Inv := fun t ho e1 e2 e3 => ⟨ho, by rw [e2, e3]; exact h.apart, by rw [e1, e2, e3]; exact h.held⟩
  unfold PS.write at hok ⊢
  split
  · exact h
  rename_i hn
  rw [if_neg hn] at hok
  split
  · rename_i ho
    rw [if_pos ho] at hok
    dsimp only at hok ⊢
    split
    · rename_i h0
      rw [if_pos h0] at hok
      exact key _ hok rfl rfl rfl
    · exact h
  rename_i ho
  rw [if_neg ho] at hok
  split
  · exact h
  rename_i h2
  rw [if_neg h2] at hok
  split
  · rename_i h3
    rw [if_pos h3] at hok
    exact key _ hok rfl rfl rfl
  rename_i h3
  rw [if_neg h3] at hok
  split
  · rename_i h4
    rw [if_pos h4] at hok
    exact key _ hok rfl rfl rfl
  rename_i h4
  rw [if_neg h4] at hok
  split
  · rename_i h5
    rw [if_pos h5] at hok
    exact key _ hok rfl rfl rfl
  rename_i h5
  rw [if_neg h5] at hok
  split
  · rename_i h6
    rw [if_pos h6] at hok
    exact key _ hok rfl rfl rfl
  rename_i h6
  rw [if_neg h6] at hok
  split
  · exact hc 0
  split
  · exact hc 1
  · exact h
theorem write_busy (s : PS) (off : Nat) (n : Int) (v : Nat) (h : off ≠ 2097156) (h' : off ≠ 2101252) : (s.write off n v).1.busy = s.busy := by
  unfold PS.write
  repeat' split
  all_goals first | rfl | (exfalso; omega) | skip
theorem read_busy (s : PS) (off : Nat) (n : Int) (h : n ≠ 4 ∨ (off ≠ 2097156 ∧ off ≠ 2101252)) : (s.read off n).1.busy = s.busy := by
  unfold PS.read
  repeat' split
  all_goals first | rfl | (exfalso; omega)
theorem claim_busy (s : PS) (c j : Nat) : (s.claim c).1.busy.testBit j = if 0 < s.best c ∧ j = s.best c then true else s.busy.testBit j := by
  unfold PS.claim
  split
  · rename_i h
    show (setB s.busy (s.best c) true).testBit j = _
    rw [setB_at]
    by_cases e : j = s.best c
    · rw [if_pos e, if_pos ⟨h, e⟩]
    · rw [if_neg e, if_neg (fun q => e q.2)]
  · rename_i h
    rw [if_neg (fun q => h q.1)]

end PS
end Go.Proofs.YtcnglhneknbllaaDoor

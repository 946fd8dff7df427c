/-
  The document's interrupt controller: its cells, and contracts of its methods, the first part.
-/
import Derived.Test.YtcnglhneknbllaaDoorPlic2
namespace Go.Proofs.YtcnglhneknbllaaDoor
open Go Go.RowKit

/-- The cell `k` of the source `i`. -/
def rvf (s : PS) (i k : Nat) : Value :=
  match k with
  | 0 => .int .u64 (s.pr i : Int)
  | 1 => .bool (s.up.testBit i)
  | 2 => .bool (s.pend.testBit i)
  | 3 => .bool (s.busy.testBit i)
  | 4 => .bool (s.on0.testBit i)
  | _ => .bool (s.on1.testBit i)
def rv (s : PS) (j : Nat) : Value := if j < 192 then rvf s (j / 6) (j % 6) else if j = 192 then .int .u64 (s.fl0 : Int) else .int .u64 (s.fl1 : Int)
/-- Its cells. -/
def rlist (s : PS) : List Value := (List.range 194).map (rv s)
theorem rlist_len (s : PS) : (rlist s).length = 194 := by simp [rlist]
theorem rlist_at (s : PS) {j : Nat} (h : j < 194) : (rlist s)[j]? = some (rv s j) := by simp [rlist, h]
theorem rv_src (s : PS) {i k : Nat} (hi : i < 32) (hk : k < 6) : rv s (i * 6 + k) = rvf s i k := by
  unfold rv
  rw [if_pos (by omega), show (i * 6 + k) / 6 = i by omega, show (i * 6 + k) % 6 = k by omega]
theorem rlist_src (s : PS) {i k : Nat} (hi : i < 32) (hk : k < 6) : (rlist s)[i * 6 + k]? = some (rvf s i k) := by rw [rlist_at s (by omega), rv_src s hi hk]
theorem rlist_set {s s' : PS} {j : Nat} {v : Value} (hj : j < 194) (h1 : rv s' j = v) (h2 : ∀ m, m < 194 → m ≠ j → rv s' m = rv s m) : (rlist s).set j v = rlist s' := by
  apply List.ext_getElem?
  intro m
  rw [List.getElem?_set, rlist_len]
  by_cases e : j = m
  · subst e
    rw [if_pos rfl, if_pos hj, rlist_at _ hj, h1]
  · rw [if_neg e]
    by_cases e2 : m < 194
    · rw [rlist_at _ e2, rlist_at _ e2, h2 m e2 (fun q => e q.symm)]
    · rw [List.getElem?_eq_none (by rw [rlist_len]; omega), List.getElem?_eq_none (by rw [rlist_len]; omega)]
theorem rlist_setSrc {s s' : PS} {i k : Nat} {v : Value} (hi : i < 32) (hk : k < 6) (h1 : rvf s' i k = v) (h2 : ∀ i' k', k' < 6 → (i' ≠ i ∨ k' ≠ k) → rvf s' i' k' = rvf s i' k') (h3 : s'.fl0 = s.fl0) (h4 : s'.fl1 = s.fl1) :
    (rlist s).set (i * 6 + k) v = rlist s' := by
  refine rlist_set (by omega) (by rw [rv_src _ hi hk, h1]) (fun m hm hne => ?_)
  unfold rv
  by_cases e : m < 192
  · rw [if_pos e, if_pos e]
    exact h2 _ _ (Nat.mod_lt _ (by omega)) (by omega)
  · rw [if_neg e, if_neg e, h3, h4]
theorem six {k : Nat} (h : k < 6) : k = 0 ∨ k = 1 ∨ k = 2 ∨ k = 3 ∨ k = 4 ∨ k = 5 := by omega
theorem rset_up (s : PS) {i : Nat} (hi : i < 32) (v : Bool) : (rlist s).set (i * 6 + 1) (.bool v) = rlist { s with up := setB s.up i v } := by
  refine rlist_setSrc hi (by omega) ?_ (fun i' k' hk hne => ?_) rfl rfl
  · show Value.bool ((setB s.up i v).testBit i) = _
    rw [setB_at, if_pos rfl]
  · rcases six hk with rfl | rfl | rfl | rfl | rfl | rfl
    all_goals first
      | rfl
      | (show Value.bool ((setB s.up i v).testBit i') = Value.bool (s.up.testBit i'); rw [setB_at, if_neg (by omega)])
theorem rset_pend (s : PS) {i : Nat} (hi : i < 32) (v : Bool) : (rlist s).set (i * 6 + 2) (.bool v) = rlist { s with pend := setB s.pend i v } := by
  refine rlist_setSrc hi (by omega) ?_ (fun i' k' hk hne => ?_) rfl rfl
  · show Value.bool ((setB s.pend i v).testBit i) = _
    rw [setB_at, if_pos rfl]
  · rcases six hk with rfl | rfl | rfl | rfl | rfl | rfl
    all_goals first
      | rfl
      | (show Value.bool ((setB s.pend i v).testBit i') = Value.bool (s.pend.testBit i'); rw [setB_at, if_neg (by omega)])
theorem rset_busy (s : PS) {i : Nat} (hi : i < 32) (v : Bool) : (rlist s).set (i * 6 + 3) (.bool v) = rlist { s with busy := setB s.busy i v } := by
  refine rlist_setSrc hi (by omega) ?_ (fun i' k' hk hne => ?_) rfl rfl
  · show Value.bool ((setB s.busy i v).testBit i) = _
    rw [setB_at, if_pos rfl]
  · rcases six hk with rfl | rfl | rfl | rfl | rfl | rfl
    all_goals first
      | rfl
      | (show Value.bool ((setB s.busy i v).testBit i') = Value.bool (s.busy.testBit i'); rw [setB_at, if_neg (by omega)])
theorem rset_on0 (s : PS) {i : Nat} (hi : i < 32) (v : Bool) : (rlist s).set (i * 6 + 4) (.bool v) = rlist { s with on0 := setB s.on0 i v } := by
  refine rlist_setSrc hi (by omega) ?_ (fun i' k' hk hne => ?_) rfl rfl
  · show Value.bool ((setB s.on0 i v).testBit i) = _
    rw [setB_at, if_pos rfl]
  · rcases six hk with rfl | rfl | rfl | rfl | rfl | rfl
    all_goals first
      | rfl
      | (show Value.bool ((setB s.on0 i v).testBit i') = Value.bool (s.on0.testBit i'); rw [setB_at, if_neg (by omega)])
theorem rset_on1 (s : PS) {i : Nat} (hi : i < 32) (v : Bool) : (rlist s).set (i * 6 + 5) (.bool v) = rlist { s with on1 := setB s.on1 i v } := by
  refine rlist_setSrc hi (by omega) ?_ (fun i' k' hk hne => ?_) rfl rfl
  · show Value.bool ((setB s.on1 i v).testBit i) = _
    rw [setB_at, if_pos rfl]
  · rcases six hk with rfl | rfl | rfl | rfl | rfl | rfl
    all_goals first
      | rfl
      | (show Value.bool ((setB s.on1 i v).testBit i') = Value.bool (s.on1.testBit i'); rw [setB_at, if_neg (by omega)])
theorem rset_prio {s : PS} (h : s.Ok) {i : Nat} (hi : i < 32) (x : Nat) : (rlist s).set (i * 6) (.int .u64 (x : Int)) = rlist { s with prio := s.prio.set i x } := by
  have hp : ∀ j, ({ s with prio := s.prio.set i x } : PS).pr j = if j = i then x else s.pr j := fun j => by
    unfold PS.pr
    rw [List.getD_eq_getElem?_getD, List.getD_eq_getElem?_getD, List.getElem?_set, h.plen, if_pos hi]
    by_cases e : i = j
    · subst e; simp
    · have e' : ¬ j = i := fun q => e q.symm
      rw [if_neg e, if_neg e']
  refine rlist_setSrc (k := 0) hi (by omega) ?_ (fun i' k' hk hne => ?_) rfl rfl
  · show Value.int .u64 ((({ s with prio := s.prio.set i x } : PS).pr i : Nat) : Int) = _
    rw [hp, if_pos rfl]
  · rcases six hk with rfl | rfl | rfl | rfl | rfl | rfl
    · show Value.int .u64 ((({ s with prio := s.prio.set i x } : PS).pr i' : Nat) : Int) = Value.int .u64 ((s.pr i' : Nat) : Int)
      rw [hp, if_neg (by omega)]
    all_goals rfl
theorem rset_fl0 (s : PS) (x : Nat) : (rlist s).set 192 (.int .u64 (x : Int)) = rlist { s with fl0 := x } :=
  rlist_set (by omega) rfl (fun m hm hne => by
    unfold rv
    by_cases e : m < 192
    · rw [if_pos e, if_pos e]; rfl
    · rw [if_neg e, if_neg e, if_neg hne, if_neg hne])
theorem rset_fl1 (s : PS) (x : Nat) : (rlist s).set 193 (.int .u64 (x : Int)) = rlist { s with fl1 := x } :=
  rlist_set (by omega) rfl (fun m hm hne => by
    unfold rv
    by_cases e : m < 192
    · rw [if_pos e, if_pos e]; rfl
    · rw [if_neg e, if_neg e, if_pos (by omega), if_pos (by omega)])

/-- From cell `o` of block `b` on lies the document's interrupt controller, in the state `s`. -/
structure RAt (w : World) (b o : Nat) (s : PS) : Prop where
  ok : s.Ok
  seg : Seg w b o (rlist s)
namespace RAt
variable {w w' : World} {b o : Nat} {s : PS}
theorem src (h : RAt w b o s) {i k : Nat} (hi : i < 32) (hk : k < 6) : w.cell? ⟨b, o + i * 6 + k, none⟩ = some (rvf s i k) := by
  have := h.seg.cell (rlist_src s hi hk)
  rwa [← Nat.add_assoc] at this
theorem up_ (h : RAt w b o s) {i : Nat} (hi : i < 32) : w.cell? ⟨b, o + i * 6 + 1, none⟩ = some (.bool (s.up.testBit i)) := h.src (k := 1) hi (by omega)
theorem pend_ (h : RAt w b o s) {i : Nat} (hi : i < 32) : w.cell? ⟨b, o + i * 6 + 2, none⟩ = some (.bool (s.pend.testBit i)) := h.src (k := 2) hi (by omega)
theorem busy_ (h : RAt w b o s) {i : Nat} (hi : i < 32) : w.cell? ⟨b, o + i * 6 + 3, none⟩ = some (.bool (s.busy.testBit i)) := h.src (k := 3) hi (by omega)
theorem on0_ (h : RAt w b o s) {i : Nat} (hi : i < 32) : w.cell? ⟨b, o + i * 6 + 4, none⟩ = some (.bool (s.on0.testBit i)) := h.src (k := 4) hi (by omega)
theorem on1_ (h : RAt w b o s) {i : Nat} (hi : i < 32) : w.cell? ⟨b, o + i * 6 + 5, none⟩ = some (.bool (s.on1.testBit i)) := h.src (k := 5) hi (by omega)
theorem prio_ (h : RAt w b o s) {i : Nat} (hi : i < 32) : w.cell? ⟨b, o + i * 6, none⟩ = some (.int .u64 (s.pr i : Int)) := h.src (k := 0) hi (by omega)
theorem fl0_ (h : RAt w b o s) : w.cell? ⟨b, o + 192, none⟩ = some (.int .u64 (s.fl0 : Int)) := h.seg.cell (rlist_at s (by omega))
theorem fl1_ (h : RAt w b o s) : w.cell? ⟨b, o + 193, none⟩ = some (.int .u64 (s.fl1 : Int)) := h.seg.cell (rlist_at s (by omega))
theorem fr {S : Nat → Prop} (h : RAt w b o s) (hf : Fr S w w') (hb : ¬ S b) : RAt w' b o s := ⟨h.ok, h.seg.fr hf hb⟩
theorem drewN (h : RAt w b o s) (k : Nat) : RAt (w.drewN k) b o s := ⟨h.ok, h.seg⟩
theorem drew (h : RAt w b o s) : RAt w.drew b o s := ⟨h.ok, h.seg⟩
theorem put {j : Nat} {v : Value} {s' : PS} (h : RAt w b o s) (ok : s'.Ok) (hj : j < 194) (e : (rlist s).set j v = rlist s') :
    RAt (w.setCell ⟨b, o + j, none⟩ v) b o s' ∧ FrIn b o 194 w (w.setCell ⟨b, o + j, none⟩ v) := by
  have h1 := h.seg.put (i := j) (by rw [rlist_len]; exact hj) v
  rw [e, rlist_len] at h1
  exact ⟨⟨ok, h1.1⟩, h1.2⟩
theorem putSrc {i k : Nat} {v : Value} {s' : PS} (h : RAt w b o s) (ok : s'.Ok) (hi : i < 32) (hk : k < 6) (e : (rlist s).set (i * 6 + k) v = rlist s') :
    RAt (w.setCell ⟨b, o + i * 6 + k, none⟩ v) b o s' ∧ FrIn b o 194 w (w.setCell ⟨b, o + i * 6 + k, none⟩ v) := by
  have := h.put ok (by omega) e
  rwa [← Nat.add_assoc] at this
end RAt
theorem RAt.boxed (w : World) (s : PS) (hs : s.Ok) (t : TypeId) : RAt (w.alloc (.cells (rlist s).toArray t)) w.heap.size 0 s := ⟨hs, Seg.new w _ _⟩

theorem ris_c (i : Int) (w : World) : Calls Tryd.prog 65 #[.int .i64 i] w fun e w' => e = .returned (.bool (decide (1 ≤ i ∧ i ≤ 31))) ∧ w = w' := by
  by_cases h1 : 1 ≤ i <;> by_cases h2 : i ≤ 31
  all_goals
    go_enter Tryd.func65, Tryd.ntmps65
    go_wp2_with fail
    go_ret
    exact ⟨by simp [h1, h2], rfl⟩

set_option maxHeartbeats 1000000 in
theorem rlook_c (w : World) (b o : Nat) (s : PS) (i : Nat) (h : RAt w b o s) (h1 : 1 ≤ i) (h2 : i < 32) :
    Calls Tryd.prog 67 #[.pointer (some ⟨b, o, none⟩), .int .i64 (i : Int)] w fun e w' => e = .returned (.tuple #[]) ∧ RAt w' b o (s.look i) ∧ FrIn b o 194 w w' := by
  have c1 := h.up_ h2
  have c2 := h.pend_ h2
  have c3 := h.busy_ h2
  have hfz := h.seg.free
  cases hu : s.up.testBit i
  · have hl : s.look i = s := by unfold PS.look; rw [if_neg (by simp [hu])]
    rw [hu] at c1
    go_enter Tryd.func67, Tryd.ntmps67
    go_wp2_with fail
    go_end0
    rw [hl]
    exact ⟨rfl, h, FrIn.refl _ _ _ _⟩
  · rw [hu] at c1
    cases hb : s.busy.testBit i
    · have hl : s.look i = { s with pend := setB s.pend i true } := by unfold PS.look; rw [if_pos ⟨hu, hb⟩]
      have hok := h.ok.look i h1 (by omega)
      rw [hl] at hok
      have hput := Lib.hid (h.putSrc hok h2 (by omega) (rset_pend s h2 true))
      rw [hb] at c3
      clear hok
      go_enter Tryd.func67, Tryd.ntmps67
      go_wp2_with fail
      go_end0
      rw [hl]
      exact ⟨rfl, hput.out.1, hput.out.2⟩
    · have hl : s.look i = s := by unfold PS.look; rw [if_neg (by simp [hb])]
      rw [hb] at c3
      go_enter Tryd.func67, Tryd.ntmps67
      go_wp2_with fail
      go_end0
      rw [hl]
      exact ⟨rfl, h, FrIn.refl _ _ _ _⟩

theorem PS.Ok.up1 {s : PS} (h : s.Ok) {k : Nat} (h1 : 1 ≤ k) (h2 : k < 32) (u : Bool) : ({ s with up := setB s.up k u } : PS).Ok := by
  refine ⟨setB_lt s.up k 32 u h.up h2, h.pend, h.busy, h.plen, h.prio, h.p0, h.on0, h.on1, h.fl0, h.fl1, ?_, h.z0, h.b0, h.n0, h.n1⟩
  show (setB s.up k u).testBit 0 = false
  rw [setB_at, if_neg (by omega)]; exact h.u0
set_option maxHeartbeats 1000000 in
theorem rLevel_c (w : World) (b o : Nat) (s : PS) (i : Int) (up : Bool) (h : RAt w b o s) :
    Calls Tryd.prog 63 #[.pointer (some ⟨b, o, none⟩), .int .i64 i, .bool up] w fun e w' => e = .returned (.bool (s.level i up).2) ∧ RAt w' b o (s.level i up).1 ∧ FrIn b o 194 w w' := by
  by_cases hi : 1 ≤ i ∧ i ≤ 31
  · obtain ⟨k, rfl⟩ : ∃ k : Nat, i = (k : Int) := ⟨i.toNat, by omega⟩
    have h1 : 1 ≤ k := by omega
    have h2 : k < 32 := by omega
    have hl : s.level (k : Int) up = (({ s with up := setB s.up k up } : PS).look k, true) := by unfold PS.level; rw [if_pos hi, Int.toNat_natCast]
    have HL := Lib.hid hl
    have c1 := h.up_ h2
    have hfz := h.seg.free
    have HP := Lib.hid (h.putSrc (h.ok.up1 h1 h2 up) h2 (by omega) (rset_up s h2 up))
    clear hl
    go_enter Tryd.func63, Tryd.ntmps63
    go_wp2_with fail
    refine (ris_c _ _).mono ?_
    rw [decide_eq_true hi]
    rintro e w' ⟨rfl, rfl⟩
    go_wp2_with fail
    refine (rlook_c _ b o _ k HP.out.1 h1 h2).mono ?_
    rintro e w' ⟨rfl, hp, hf⟩
    have HR := Lib.hid hp
    have HF := Lib.hid (HP.out.2.trans hf)
    clear hp hf
    go_wp2_with fail
    go_ret
    rw [HL.out]
    exact ⟨rfl, HR.out, HF.out⟩
  · have hl : s.level i up = (s, false) := by unfold PS.level; rw [if_neg hi]
    go_enter Tryd.func63, Tryd.ntmps63
    go_wp2_with fail
    refine (ris_c _ _).mono ?_
    rw [decide_eq_false hi]
    rintro e w' ⟨rfl, rfl⟩
    go_wp2_with fail
    go_ret
    rw [hl]
    exact ⟨rfl, h, FrIn.refl _ _ _ _⟩

set_option maxHeartbeats 1000000 in
theorem rUp_c (w : World) (s : PS) (hs : s.Ok) (i : Int) :
    Calls Tryd.prog 41 #[.agg (rlist s).toArray, .int .i64 i] w fun e w' => e = .returned (.bool (s.upQ i)) ∧ Fr No w w' := by
  have hF := (Fr.refl No w).alloc (.cells (rlist s).toArray 66)
  have hP := RAt.boxed w s hs 66
  have HP := Lib.hid hP
  have HF := Lib.hid hF
  have hfz := hP.seg.free
  by_cases hi : 1 ≤ i ∧ i ≤ 31
  · obtain ⟨k, rfl⟩ : ∃ k : Nat, i = (k : Int) := ⟨i.toNat, by omega⟩
    have h2 : k < 32 := by omega
    have hq : s.upQ (k : Int) = s.up.testBit k := by unfold PS.upQ; rw [decide_eq_true hi, Int.toNat_natCast]; rfl
    have c1 := hP.up_ h2
    rw [Nat.zero_add] at c1
    have HQ := Lib.hid hq
    clear hP hF hq
    go_enter Tryd.func41, Tryd.ntmps41
    go_wp2_with fail
    refine (ris_c _ _).mono ?_
    rw [decide_eq_true hi]
    rintro e w' ⟨rfl, rfl⟩
    go_wp2_with fail
    go_ret
    rw [HQ.out]
    exact ⟨by simp, HF.out⟩
  · have hq : s.upQ i = false := by unfold PS.upQ; rw [decide_eq_false hi]; rfl
    clear hP hF
    go_enter Tryd.func41, Tryd.ntmps41
    go_wp2_with fail
    refine (ris_c _ _).mono ?_
    rw [decide_eq_false hi]
    rintro e w' ⟨rfl, rfl⟩
    go_wp2_with fail
    go_ret
    rw [hq]
    exact ⟨rfl, HF.out⟩
end Go.Proofs.YtcnglhneknbllaaDoor

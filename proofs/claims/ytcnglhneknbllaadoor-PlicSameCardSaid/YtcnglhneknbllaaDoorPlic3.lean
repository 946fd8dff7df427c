/-
  Contracts of package plic, the third part: Line, claim, New, Read, Write.
-/
import Derived.Test.YtcnglhneknbllaaDoorPlic2
namespace Go.Proofs.YtcnglhneknbllaaDoor
open Go Go.RowKit

theorem infoPic : (Tryd.prog.info? 48).map (·.size) = some 39 := by kernel_rfl
theorem infoPl {s : PS} (h : s.Ok) : (Tryd.prog.info? 48).map (·.size) = some (plist s).length := by rw [plist_len h]; exact infoPic
set_option maxHeartbeats 1000000 in
theorem Line_c5 (w : World) (s : PS) (hs : s.Ok) (c : Int) (hT : TzAt w) :
    Calls Tryd.prog 30 #[.agg (plist s).toArray, .int .i64 c] w fun e w' => e = .returned (.bool (s.line c)) ∧ Fr No w w' := by
  have hF := (Fr.refl No w).alloc (.cells (plist s).toArray 48)
  have hP : PicAt (w.alloc (.cells (plist s).toArray 48)) w.heap.size 0 s := ⟨hs, Seg.new w _ _⟩
  have hi := infoPl hs
  have HT := Lib.hid (hT.fr hF (fun h => h))
  have HF := Lib.hid hF
  have HP := Lib.hid hP
  clear hP hF hT
  go_enter Tryd.func30, Tryd.ntmps30
  go_wp2_with (refine wpList_load_seg rfl 48 _ rfl _ _ rfl _ HP.out.seg _ Tryd.underlying48 rfl hi ?_)
  refine (Best_c _ s hs c HT.out).mono ?_
  rintro e w2 ⟨rfl, hf2⟩
  have HP2 := Lib.hid (HP.out.fr hf2 (fun h => h))
  have HF2 := Lib.hid (HF.out.trans hf2)
  clear hf2 hi
  have h31 := hs.best_le c
  obtain ⟨B, hB⟩ : ∃ B, B = s.best c := ⟨_, rfl⟩
  by_cases hb : 0 < s.best c
  · have hc : 0 ≤ c ∧ c < 2 := Classical.byContradiction fun q => by rw [best_other s c q] at hb; omega
    obtain ⟨k, rfl⟩ : ∃ k : Nat, c = (k : Int) := ⟨c.toNat, by omega⟩
    have hk : k < 2 := by omega
    obtain ⟨_, _, _, _, _, p5, p6, pr, _⟩ := HP2.out.facts
    simp only [Nat.zero_add] at p5 p6 pr
    have q1 := pr _ (by omega : s.best (k : Int) < 32)
    obtain ⟨f, hf⟩ : ∃ f, f = s.fl k := ⟨_, rfl⟩
    have q2 : w2.cell? ⟨w.heap.size, 37 + k, none⟩ = some (u8v f) := by
      rw [hf]
      rcases (show k = 0 ∨ k = 1 by omega) with rfl | rfl
      · exact p5
      · exact p6
    have hl : s.line (k : Int) = decide (f < s.pr (s.best (k : Int))) := by
      unfold PS.line
      rw [decide_eq_true hb, Bool.true_and, Int.toNat_natCast, hf]
    obtain ⟨r, hr⟩ : ∃ r, r = s.pr (s.best (k : Int)) := ⟨_, rfl⟩
    rw [← hr] at hl q1
    rw [← hB] at q1 hb h31 ⊢
    have HLN := Lib.hid hl
    clear hr hB hl hf pr p5 p6 hc
    have hg : decide ((0 : Int) < (B : Int)) = true := decide_eq_true (by omega)
    go_wp2_with fail
    go_quiet (fail)
    go_wp2_with fail
    go_ret
    exact ⟨by rw [HLN.out]; simp, HF2.out.drewN _⟩
  · have hl : s.line c = false := by unfold PS.line; rw [decide_eq_false hb]; rfl
    have HLN := Lib.hid hl
    rw [← hB] at hb ⊢
    have hg : decide ((0 : Int) < (B : Int)) = false := decide_eq_false (by omega)
    clear hB hl h31
    go_wp2_with fail
    go_quiet (fail)
    go_wp2_with fail
    go_ret
    exact ⟨by rw [HLN.out]; rfl, HF2.out.drewN _⟩

set_option maxHeartbeats 1000000 in
theorem claim_c (w : World) (b o : Nat) (s : PS) (c : Nat) (h : PicAt w b o s) (hT : TzAt w) :
    Calls Tryd.prog 58 #[.pointer (some ⟨b, o, none⟩), .int .i64 (c : Int)] w fun e w' => e = .returned (.int .u64 ((s.claim c).2 : Nat)) ∧ PicAt w' b o (s.claim c).1 ∧ FrIn b o 39 w w' := by
  have hi := infoPl h.ok
  have h31 := h.ok.best_le (c : Int)
  have hcl := h.ok.claim c
  obtain ⟨B, hB⟩ : ∃ B, B = s.best (c : Int) := ⟨_, rfl⟩
  have hbest := Best_c w s h.ok (c : Int) hT
  rw [← hB] at h31 hbest
  go_enter Tryd.func58, Tryd.ntmps58
  go_wp2_with (refine wpList_load_seg rfl 48 _ rfl _ _ rfl _ h.seg _ Tryd.underlying48 rfl hi ?_)
  refine hbest.mono ?_
  rintro e w2 ⟨rfl, hf2⟩
  have H2 := Lib.hid (h.fr hf2 (fun h => h))
  have F2 := Lib.hid (FrIn.of_no (o := o) (n := 39) hf2 h.seg.lt)
  clear hf2 hbest hi
  by_cases h0 : 0 < B
  · have hg : decide ((0 : Int) < (B : Int)) = true := decide_eq_true (by omega)
    have hc : s.claim c = ({ s with pend := setB s.pend B false, busy := setB s.busy B true }, B) := by unfold PS.claim; rw [← hB, if_pos h0]
    rw [hc] at hcl
    obtain ⟨m, hm, hml, hsh⟩ := shl32 B (by omega)
    have hno := andNot32 s.pend B h.ok.pend (by omega)
    have hor := or32 s.busy B h.ok.busy (by omega)
    rw [← hm] at hno hor
    have HC := Lib.hid hc
    have HO := Lib.hid hcl.1
    clear hc hcl hm hB
    obtain ⟨_, p1, p2, _, _, _, _, _, hfz⟩ := H2.out.facts
    go_wp2_with fail
    go_region
    go_wp2_with fail
    go_region
    go_wp2_with fail
    go_ret
    rw [HC.out]
    have h39 := plist_len H2.out.ok
    have a1 := H2.out.seg.put (i := 1) (by omega) (u32v (setB s.pend B false))
    have a2 := a1.1.drew.put (i := 2) (by rw [List.length_set]; omega) (u32v (setB s.busy B true))
    rw [h39] at a1
    rw [List.length_set, h39] at a2
    exact ⟨by simp, ⟨HO.out, a2.1.drew⟩, (F2.out.trans a1.2.drew).trans a2.2.drew⟩
  · have hg : decide ((0 : Int) < (B : Int)) = false := decide_eq_false (by omega)
    have hc : s.claim c = (s, 0) := by unfold PS.claim; rw [← hB, if_neg h0]
    have hB0 : B = 0 := by omega
    subst hB0
    have HC := Lib.hid hc
    clear hc hcl hB
    go_wp2_with fail
    go_ret
    rw [HC.out]
    exact ⟨rfl, H2.out, F2.out⟩

set_option maxHeartbeats 1000000 in
theorem setRow_fr (w : World) (o : Obj) (cs : Array Value) : Fr No w ((w.alloc o).setRow w.heap.size cs) :=
  ⟨rfl, rfl, rfl, by simp [World.setRow], fun k hk _ => (setRow_other (w.alloc o) w.heap.size k cs (by omega)).trans (Below.heap_alloc w o k hk)⟩
theorem PNew_c (w : World) : Calls Tryd.prog 27 #[] w fun e w' => e = .returned (.agg (plist PS.new).toArray) ∧ Fr No w w' := by
  go_enter Tryd.func27, Tryd.ntmps27
  go_wp2_with (refine wpList_store_row rfl 48 _ _ rfl _ _ rfl rfl _ _ (heap_alloc_new _ _) infoPic rfl (by kernel_rfl) ?_)
  refine bodyPost_ret (results_cell_row rfl _ _ w.heap.size 48 _ _ _ rfl (setRow_heap _ _ _ _ _ _ (heap_alloc_new _ _)) Tryd.underlying48 rfl infoPic) rfl ?_
  exact ⟨rfl, setRow_fr _ _ _⟩
/-- What Read tells. -/
def readV (r : PS × Nat × Bool) : Value := .tuple #[.int .u64 (r.2.1 : Nat), .bool r.2.2]
theorem ctxOf_cases (off first apart : Nat) : (off = first ∧ ctxOf off first apart = some 0) ∨ (off = first + apart ∧ off ≠ first ∧ ctxOf off first apart = some 1) ∨ (off ≠ first ∧ off ≠ first + apart ∧ ctxOf off first apart = none) := by
  unfold ctxOf
  by_cases h1 : off = first
  · left; exact ⟨h1, if_pos h1⟩
  · by_cases h2 : off = first + apart
    · right; left; refine ⟨h2, h1, ?_⟩; rw [if_neg h1, if_pos h2]
    · right; right; refine ⟨h1, h2, ?_⟩; rw [if_neg h1, if_neg h2]
end Go.Proofs.YtcnglhneknbllaaDoor

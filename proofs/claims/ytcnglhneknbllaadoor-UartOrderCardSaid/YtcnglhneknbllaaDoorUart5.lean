/-
  Contracts of the document's serial line (package mezzanineref06): it keeps the same state.
-/
import Derived.Test.YtcnglhneknbllaaDoorUart3
namespace Go.Proofs.YtcnglhneknbllaaDoor
open Go Go.RowKit

def rcells (vi vo : Value) (s : US) : Array Value :=
  #[vi, vo, u8v s.ier, u8v s.fcr, u8v s.lcr, u8v s.mcr, u8v s.scr, u8v s.dl, u8v s.dm, .bool s.lost, .bool s.sent]
/-- The document's serial line. -/
abbrev RefAt := UAt rcells 42

theorem tb0 (x : Nat) : x.testBit 0 = decide (x % 2 = 1) := Nat.testBit_zero x
theorem tb1 (x : Nat) : x.testBit 1 = decide (x / 2 % 2 = 1) := by rw [Nat.testBit_succ, Nat.testBit_zero]
theorem tb7 (x : Nat) (h : x < 256) : x.testBit 7 = decide (128 ≤ x) := by
  rw [Nat.testBit, Nat.shiftRight_eq_div_pow, Nat.and_comm, Nat.and_one_is_mod, Bool.eq_iff_iff]
  simp
  omega

set_option maxRecDepth 100000 in
set_option maxHeartbeats 400000 in
theorem Rreason_c (w : World) (b : Nat) (s : US) (F : Nat → Prop) (h : RefAt w b s F) :
    Calls Tryd.prog 53 #[.pointer (some ⟨b, 0, none⟩)] w fun e w' => e = .returned (u8v s.reason) ∧ w = w' := by
  obtain ⟨ai, ci, ao, co, hc, hfz, hic, him, hoc, hom⟩ := h.facts
  simp only [rcells] at hc
  have hier := h.ok.ier
  have hfin : ∀ p q : Bool, decide (s.ier % 2 = 1) = p → decide (s.ier / 2 % 2 = 1) = q → s.reason = if p = true ∧ 0 < s.inn.length then 4 else if q = true ∧ s.sent = true then 2 else 1 := fun p q hp hq => by
    rw [← hp, ← hq, ← tb0, ← tb1]; rfl
  by_cases h0 : s.ier % 2 = 1 <;> by_cases h1 : s.ier / 2 % 2 = 1
  all_goals
    have hf := hfin _ _ rfl rfl
    simp only [h0, h1, decide_true, decide_false, true_and, Bool.false_eq_true, false_and, if_false] at hf
    have HF := Lib.hid hf
    clear hf hfin
    go_enter Tryd.func53, Tryd.ntmps53
    go_wp2_with fail
    all_goals
      go_ret
      refine ⟨?_, rfl⟩
      rw [HF.out]
      first | (simp_all [u8v]; done) | (exfalso; simp_all; omega)

set_option maxHeartbeats 400000 in
theorem RLine_c (w : World) (b : Nat) (s : US) (F : Nat → Prop) (h : RefAt w b s F) :
    Calls Tryd.prog 26 #[.pointer (some ⟨b, 0, none⟩)] w fun e w' => e = .returned (.bool s.line) ∧ w = w' := by
  have hr := s.reason_lt
  have hrv : s.reason = 4 ∨ s.reason = 2 ∨ s.reason = 1 := by unfold US.reason; split <;> (try split) <;> simp
  go_enter Tryd.func26, Tryd.ntmps26
  go_wp2_with (go_at_call 53; refine (Rreason_c _ b s F h).mono ?_; rintro e w' ⟨rfl, rfl⟩)
  go_ret
  refine ⟨?_, rfl⟩
  have e : decide (1 < (s.reason : Int)) = s.line := by
    unfold US.line
    rw [Bool.eq_iff_iff]
    simp only [bne_iff_ne, ne_eq, decide_eq_true_eq]
    omega
  rw [← e]
  simp

set_option maxRecDepth 100000 in
theorem RNew_c (w : World) :
    Calls Tryd.prog 21 #[] w fun e w' => e = .returned (.pointer (some ⟨w.heap.size, 0, none⟩)) ∧ RefAt w' w.heap.size US.new (Plus No w w') ∧ Fr No w w' := by
  go_enter Tryd.func21, Tryd.ntmps21
  go_wp2
  go_ret
  refine ⟨rfl, ⟨US.ok_new, .inr ⟨Nat.le_refl _, by simp⟩, fun k hk => ?_, .slice none 0 0, .slice none 0 0, No, No, Blk.new w _ _, Own.nil_ _ _ _ _, Own.nil_ _ _ _ _, fun k hk => hk.elim, fun k hk => hk.elim⟩, (Fr.refl _ _).alloc _⟩
  rcases hk with hk | hk
  · exact hk.elim
  · exact hk.2

/-- What came in is another row, in blocks of its own. -/
theorem UAt.setInn {C : Value → Value → US → Array Value} {T : TypeId} {w w1 : World} {b : Nat} {s s' : US} {F Fi Fo G : Nat → Prop} {vi vo v : Value} (hok : s'.Ok) (h2 : F b) (hBd : ∀ k, F k → k < w.heap.size)
    (hb : Blk w1 b T (C vi vo s)) (ho : Own w1 5 1 vo s.out.length (bytesV s.out) Fo) (hFo : ∀ k, Fo k → F k ∧ k ≠ b)
    (hv : Own w1 5 1 v s'.inn.length (bytesV s'.inn) G) (hG : ∀ k, G k → (Fi k ∨ w.heap.size ≤ k)) (hFi : ∀ k, Fi k → F k ∧ k ≠ b ∧ ¬ Fo k) (hsz : w.heap.size ≤ w1.heap.size) (hs : s'.out = s.out)
    (i : Nat) (hC : (C vi vo s).setIfInBounds i v = C v vo s') : UAt C T (w1.setCell ⟨b, i, none⟩ v) b s' (Plus F w (w1.setCell ⟨b, i, none⟩ v)) := by
  have hp := Fr.put w1 b i v
  have hbl := hBd b h2
  refine ⟨hok, .inl h2, fun k hk => ?_, v, vo, fun k => G k ∧ k < w1.heap.size, Fo, by have := hb.put i v; rwa [hC] at this, ?_, ?_, ?_, fun k hk => ⟨.inl (hFo k hk).1, (hFo k hk).2⟩⟩
  · rcases hk with h | h
    · rw [World.size_setCell]; exact Nat.lt_of_lt_of_le (hBd k h) hsz
    · exact h.2
  · refine hv.cut.fr hp (fun k hk hk' => ?_)
    rw [show k = b from hk'] at hk
    rcases hG b hk.1 with h | h
    · exact (hFi b h).2.1 rfl
    · omega
  · rw [hs]
    exact ho.fr hp (fun k hk hk' => (hFo k hk).2 hk')
  · intro k hk
    rcases hG k hk.1 with h | h
    · exact ⟨.inl (hFi k h).1, (hFi k h).2⟩
    · exact ⟨.inr ⟨h, by rw [World.size_setCell]; exact hk.2⟩, by omega, fun h' => by have := hBd k (hFo k h').1; omega⟩

set_option maxRecDepth 100000 in
set_option maxHeartbeats 1000000 in
theorem RFeed_c (w : World) (b : Nat) (s : US) (F : Nat → Prop) (x : Nat) (hx : x < 256) (h : RefAt w b s F) :
    Calls Tryd.prog 51 #[.pointer (some ⟨b, 0, none⟩), .int .u8 (x : Int)] w fun e w' =>
      e = .returned (.bool (s.feed x).2) ∧ RefAt w' b (s.feed x).1 (Plus F w w') ∧ Fr F w w' := by
  have hok := h.ok.feed x hx
  have hil := h.ok.ilen
  obtain ⟨ai, ci, ao, co, hc, hfz, hic, him, hoc, hom⟩ := h.facts
  simp only [rcells] at hc
  by_cases hfull : 16 ≤ s.inn.length
  · have hfd : s.feed x = ({ s with lost := true }, false) := by unfold US.feed; rw [if_pos hfull]
    rw [hfd] at hok ⊢
    have hset := h.set (s' := { s with lost := true }) hok 9 (.bool true) rfl rfl (fun _ _ => rfl)
    have hfr := (Fr.put w b 9 (.bool true)).mono (T := F) (fun k _ hk => by rw [show k = b from hk]; exact h.self)
    have HS := Lib.hid hset
    have HF := Lib.hid hfr
    have heq : ((s.inn.length : Int) == 16) = true := by rw [beq_iff_eq]; omega
    clear hset hfr hok hfd hfull hil
    go_enter Tryd.func51, Tryd.ntmps51
    go_wp2_with fail
    go_ret
    exact ⟨rfl, HS.out.plus, HF.out⟩
  · have hfd : s.feed x = ({ s with inn := s.inn ++ [x] }, true) := by unfold US.feed; rw [if_neg hfull]
    rw [hfd] at hok ⊢
    clear hc hfz him hom hic hoc
    obtain ⟨h1, h2, hBd, vi, vo, Fi, Fo, hb, hi, ho, hFi, hFo⟩ := h
    obtain ⟨ai, ci, rfl, hic, him⟩ := hi.slice
    unfold maxLen at him
    obtain ⟨i0, hi0, hz0, hz1, hz2⟩ := info_parts info_u8
    have heq : ((s.inn.length : Int) == 16) = false := by rw [beq_eq_false_iff_ne]; omega
    have hA := (Fr.refl No w).alloc (.cells #[u8v x] 5)
    have hbA := hb.fr hA (fun h => h)
    have HI1 := Lib.hid (hi.fr hA (fun k _ h => h))
    have HO1 := Lib.hid (ho.fr hA (fun k _ h => h))
    have HR := Lib.hid (Rd.new w 5 [u8v x] 1 (by unfold maxLen; omega))
    have HI := Lib.hid hi0
    have H0 := Lib.hid hz0
    have H1 := Lib.hid hz1
    have H2 := Lib.hid hz2
    have HB := Lib.hid hbA
    have HK := Lib.hid hok
    have HA := Lib.hid hA
    have HFO := Lib.hid hFo
    have HFI := Lib.hid hFi
    have HIL := Lib.hid hil
    clear hi0 hz0 hz1 hz2 hi ho hok hfd hFi hFo hA hbA hil hfull
    have hc := fun o => hb.cell o
    have hfz := fun o => hb.free o
    simp only [rcells] at hc
    go_enter Tryd.func51, Tryd.ntmps51
    go_wp2_with
     (at_builtin
      refine wpList_append _ rfl (.tmp 20) (.tmp 22) _ rfl 5 i0 _ 1 1 Tryd.underlying27 HI.out H0.out H1.out H2.out rfl _ s.inn.length (bytesV s.inn) Fi rfl HI1.out _ 1 [u8v x] rfl HR.out rfl (bytesV_one [x]) (by have := HIL.out; unfold maxLen; omega) (by have := HIL.out; omega) ?_
      intro v1 w1 hown1 hf1
      obtain ⟨a1, c1, hv1, _, _⟩ := hown1.slice
      subst hv1
      have hb1 := HB.out.fr hf1 (fun h => (HFI.out b h).2.1 rfl)
      have hc1 := fun o => hb1.cell o
      have hfz1 := fun o => hb1.free o
      simp only [rcells] at hc1)
    go_ret
    have hfw1 : Fr F w w1 := (HA.out.mono (fun _ _ h => h.elim)).andThen hf1 (fun k _ hk => (HFI.out k hk).1)
    have hp := Fr.put w1 b 0 (.slice a1 (s.inn.length + 1) c1)
    have e1 : (s.inn ++ [x]).length = s.inn.length + 1 := by simp
    have e2 : bytesV (s.inn ++ [x]) = bytesV s.inn ++ [u8v x] := bytesV_app _ _
    refine ⟨rfl, UAt.setInn (s' := { s with inn := s.inn ++ [x] }) HK.out h2 hBd hb1 (HO1.out.fr hf1 (fun k hk hk' => (HFI.out k hk').2.2 hk)) HFO.out (by show Own _ _ _ _ (s.inn ++ [x]).length (bytesV (s.inn ++ [x])) _; rw [e1, e2]; exact hown1) (fun k hk => ?_) HFI.out hfw1.size rfl 0 rfl, hfw1.trans (hp.mono (fun k _ hk => by rw [show k = b from hk]; exact h2))⟩
    rcases hk with h | h
    · exact .inl h
    · rw [h, World.size_alloc]; exact .inr (by omega)
end Go.Proofs.YtcnglhneknbllaaDoor

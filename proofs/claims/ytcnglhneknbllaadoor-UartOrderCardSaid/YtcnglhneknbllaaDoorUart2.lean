/-
  Contracts of package uart, the second part: what makes new memory; and of bytes.Clone and bytes.Equal.
-/
import Derived.Test.YtcnglhneknbllaaDoorUart1
import Derived.WalkSpells
namespace Go.Proofs.YtcnglhneknbllaaDoor
open Go Go.RowKit

theorem info_u8 : (Tryd.prog.info? 5).map (fun i => (i.zero, i.size, i.bytes)) = some (some (.int .u8 0), 1, 1) := by kernel_rfl
theorem bytesV_one (l : List Nat) : ∀ u ∈ bytesV l, u.oneCell' = true := by
  intro u hu
  simp only [bytesV, List.mem_map] at hu
  obtain ⟨x, _, rfl⟩ := hu
  rfl

set_option maxRecDepth 100000 in
theorem Clone_c (w : World) (v : Value) (n : Nat) (l : List Nat) (h : Rd w v n (bytesV l)) (hl : l.length = n) (hn : n ≤ 140737488355328) :
    Calls Tryd.prog 46 #[v] w fun e w' => ∃ v', e = .returned v' ∧ Own w' 5 1 v' n (bytesV l) (fun k => w.heap.size ≤ k ∧ k < w'.heap.size) ∧ Fr No w w' := by
  have hl1 : (bytesV l).length = n * 1 := by rw [bytesV_len]; omega
  have HL := Lib.hid hl1
  have HL2 := Lib.hid hl
  clear hl1 hl
  obtain ⟨i0, hi0, hz0, hz1, hz2⟩ := info_parts info_u8
  have H := h
  obtain ⟨a, c, rfl, hnc, hcm, hnone, hcell⟩ := h
  have HI := Lib.hid hi0
  have H0 := Lib.hid hz0
  have H1 := Lib.hid hz1
  have H2 := Lib.hid hz2
  clear hi0 hz0 hz1 hz2 hcell
  have hq : ∀ W : World, (binOp .eql 27 (.slice a n c) (.slice none 0 0)).run Tryd.prog W = .ok (.bool a.isNone) W := fun W => Lib.run_eql_slice_nil W _ _ a n c 0 0 Tryd.underlying27
  cases a with
  | none =>
    obtain ⟨rfl, rfl, hx⟩ := hnone rfl
    clear hnone
    have HX := Lib.hid hx
    clear hx
    go_enter Tryd.func46, Tryd.ntmps46
    go_wp2
    go_ret
    refine ⟨_, rfl, ?_, Fr.refl _ _⟩
    rw [HX.out]
    exact Own.nil_ _ _ _ _
  | some ad =>
    clear hnone
    have H3 := Lib.hid (H.fr ((Fr.refl No w).alloc (.cells #[] 5)) (fun _ _ _ h => h))
    have hO : Own (w.alloc (.cells #[] 5)) 5 1 (.slice (some ⟨w.heap.size, 0, none⟩) 0 0) 0 [] (One w.heap.size) :=
      ⟨by simp, .inr ⟨w.heap.size, 0, 0, #[], rfl, rfl, Blk.new w _ _, Nat.le_refl _, by unfold maxLen; omega, by simp, .inl ⟨rfl, rfl⟩, fun j hj => by simp at hj⟩⟩
    have HO := Lib.hid hO
    clear hO H
    unfold maxLen at hcm
    go_enter Tryd.func46, Tryd.ntmps46
    go_wp2_with
     (at_builtin
      refine wpList_append _ rfl (.tmp 5) (.tmp 6) _ rfl 5 i0 _ 1 1 Tryd.underlying27 HI.out H0.out H1.out H2.out rfl _ 0 [] (One w.heap.size) rfl HO.out _ n (bytesV l) rfl H3.out HL.out (bytesV_one l) (by unfold maxLen; omega) (by omega) ?_
      intro v1 w1 hown1 hf1)
    go_ret
    refine ⟨v1, rfl, ?_, ?_⟩
    · have := hown1.cut
      rw [Nat.zero_add, List.nil_append] at this
      refine this.mono (fun k hk => ⟨?_, hk.2⟩)
      rcases hk.1 with hk | hk
      · rw [show k = w.heap.size from hk]; exact Nat.le_refl _
      · rw [hk]; simp
    · exact (((Fr.refl No w).alloc _).andThen hf1 (fun k hk hk' => by rw [show k = w.heap.size from hk'] at hk; omega))

set_option maxRecDepth 100000 in
theorem Equal_c (w : World) (v v' : Value) (n m : Nat) (l k : List Nat) (h : Rd w v n (bytesV l)) (h' : Rd w v' m (bytesV k)) (hl : l.length = n) (hk : k.length = m) (hb : ∀ x ∈ l, x < 256) (hb' : ∀ x ∈ k, x < 256) :
    Calls Tryd.prog 60 #[v, v'] w fun e w' => e = .returned (.bool (decide (l = k))) ∧ w = w' := by
  have hq := h.text (P := Tryd.prog) hl 27 5 9 Tryd.underlying27 Tryd.underlying5 Tryd.underlying9
  have hq' := h'.text (P := Tryd.prog) hk 27 5 9 Tryd.underlying27 Tryd.underlying5 Tryd.underlying9
  have he := txt_eq l k hb hb'
  have HE := Lib.hid he
  clear he h h' hl hk
  go_enter Tryd.func60, Tryd.ntmps60
  go_wp2
  go_ret
  refine ⟨?_, rfl⟩
  rw [← HE.out]
  simp

theorem Waiting_c (w : World) (b : Nat) (s : US) (F : Nat → Prop) (h : UartAt w b s F) :
    Calls Tryd.prog 20 #[.pointer (some ⟨b, 0, none⟩)] w fun e w' => e = .returned (.int .i64 (s.inn.length : Nat)) ∧ w = w' := by
  obtain ⟨ai, ci, ao, co, hc, hfz, hic, him, hoc, hom⟩ := h.facts
  simp only [ucells] at hc
  go_enter Tryd.func20, Tryd.ntmps20
  go_wp2
  go_ret
  exact ⟨by simp, rfl⟩

theorem Out_c (w : World) (b : Nat) (s : US) (F : Nat → Prop) (h : UartAt w b s F) :
    Calls Tryd.prog 17 #[.pointer (some ⟨b, 0, none⟩)] w fun e w' => ∃ v', e = .returned v' ∧ Own w' 5 1 v' s.out.length (bytesV s.out) (fun k => w.heap.size ≤ k ∧ k < w'.heap.size) ∧ Fr No w w' := by
  have hl := h.ok.olen
  obtain ⟨h1, h2, hBd, vi, vo, Fi, Fo, hb, hi, ho, hFi, hFo⟩ := h
  have hc := fun o => hb.cell o
  simp only [ucells] at hc
  have HO := Lib.hid ho.rd
  clear hi ho
  go_enter Tryd.func17, Tryd.ntmps17
  go_wp2_with (go_at_call 46; refine (Clone_c w vo s.out.length s.out HO.out rfl (by omega)).mono ?_; rintro e w1 ⟨v1, rfl, ho1, hf1⟩)
  go_ret
  exact ⟨v1, rfl, ho1, hf1⟩

set_option maxRecDepth 100000 in
set_option maxHeartbeats 1000000 in
theorem Feed_c (w : World) (b : Nat) (s : US) (F : Nat → Prop) (x : Nat) (hx : x < 256) (h : UartAt w b s F) :
    Calls Tryd.prog 19 #[.pointer (some ⟨b, 0, none⟩), .int .u8 (x : Int)] w fun e w' =>
      e = .returned (.bool (s.feed x).2) ∧ UartAt w' b (s.feed x).1 (Plus F w w') ∧ Fr F w w' := by
  have hok := h.ok.feed x hx
  have hil := h.ok.ilen
  obtain ⟨ai, ci, ao, co, hc, hfz, hic, him, hoc, hom⟩ := h.facts
  simp only [ucells] at hc
  by_cases hfull : 16 ≤ s.inn.length
  · have hfd : s.feed x = ({ s with lost := true }, false) := by unfold US.feed; rw [if_pos hfull]
    rw [hfd] at hok ⊢
    have hset := h.set (s' := { s with lost := true }) hok 12 (.bool true) rfl rfl (fun _ _ => rfl)
    have hfr := (Fr.put w b 12 (.bool true)).mono (T := F) (fun k _ hk => by rw [show k = b from hk]; exact h.self)
    have HS := Lib.hid hset
    have HF := Lib.hid hfr
    clear hset hfr hok hfd
    go_enter Tryd.func19, Tryd.ntmps19
    go_wp2
    go_ret
    exact ⟨rfl, HS.out.plus, HF.out⟩
  · have hfd : s.feed x = ({ s with inn := s.inn ++ [x] }, true) := by unfold US.feed; rw [if_neg hfull]
    rw [hfd] at hok ⊢
    clear hc hfz him hom hic hoc
    have hlt := h.lt
    obtain ⟨h1, h2, hBd, vi, vo, Fi, Fo, hb, hi, ho, hFi, hFo⟩ := h
    obtain ⟨ai, ci, rfl, hic, him⟩ := hi.slice
    unfold maxLen at him
    obtain ⟨i0, hi0, hz0, hz1, hz2⟩ := info_parts info_u8
    have hA := (Fr.refl No w).alloc (.cells #[u8v x] 5)
    have hbA := hb.fr hA (fun h => h)
    have HI1 := Lib.hid (hi.fr hA (fun k _ h => h))
    have HO1 := Lib.hid (ho.fr hA (fun k _ h => h))
    have HR := Lib.hid (Rd.new w 5 [u8v x] 1 (by unfold maxLen; omega))
    have HI := Lib.hid hi0
    have H0 := Lib.hid hz0
    have H1 := Lib.hid hz1
    have H2 := Lib.hid hz2
    have HB := Lib.hid hbA
    have HK := Lib.hid hok
    have HA := Lib.hid hA
    have HFO := Lib.hid hFo
    have HFI := Lib.hid hFi
    clear hi0 hz0 hz1 hz2 hi ho hok hfd hFi hFo hA hbA
    have hc := fun o => hb.cell o
    have hfz := fun o => hb.free o
    simp only [ucells] at hc
    go_enter Tryd.func19, Tryd.ntmps19
    go_wp2_with
     (at_builtin
      refine wpList_append _ rfl (.tmp 20) (.tmp 22) _ rfl 5 i0 _ 1 1 Tryd.underlying27 HI.out H0.out H1.out H2.out rfl _ s.inn.length (bytesV s.inn) Fi rfl HI1.out _ 1 [u8v x] rfl HR.out rfl (bytesV_one [x]) (by unfold maxLen; omega) (by omega) ?_
      intro v1 w1 hown1 hf1
      obtain ⟨a1, c1, hv1, _, _⟩ := hown1.slice
      subst hv1
      have hb1 := HB.out.fr hf1 (fun h => (HFI.out b h).2.1 rfl)
      have hc1 := fun o => hb1.cell o
      have hfz1 := fun o => hb1.free o
      simp only [ucells] at hc1)
    go_ret
    have hfw1 : Fr F w w1 := (HA.out.mono (fun _ _ h => h.elim)).andThen hf1 (fun k _ hk => (HFI.out k hk).1)
    have hp := Fr.put w1 b 0 (.slice a1 (s.inn.length + 1) c1)
    have hsz := hfw1.size
    have hs1 := hf1.size
    simp only [World.size_alloc] at hs1
    have hFoB : ∀ k, Fo k → k < w.heap.size := fun k hk => hBd k (HFO.out k hk).1
    refine ⟨rfl, ⟨HK.out, .inl h2, fun k hk => ?_, _, vo, fun k => (Fi k ∨ k = w.heap.size + 1) ∧ k < w1.heap.size, Fo, hb1.put 0 _, ?_, ?_, ?_, ?_⟩, hfw1.trans (hp.mono (fun k _ hk => by rw [show k = b from hk]; exact h2))⟩
    · rcases hk with h | h
      · rw [World.size_setCell]; exact Nat.lt_of_lt_of_le (hBd k h) hsz
      · exact h.2
    · have e1 : (s.inn ++ [x]).length = s.inn.length + 1 := by simp
      have e2 : bytesV (s.inn ++ [x]) = bytesV s.inn ++ [u8v x] := bytesV_app _ _
      show Own _ _ _ _ (s.inn ++ [x]).length (bytesV (s.inn ++ [x])) _
      rw [e1, e2]
      refine (hown1.cut.mono (G' := fun k => (Fi k ∨ k = w.heap.size + 1) ∧ k < w1.heap.size) (fun k hk => ⟨?_, hk.2⟩)).fr hp (fun k hk hk' => ?_)
      · rcases hk.1 with h | h
        · exact .inl h
        · rw [World.size_alloc] at h; exact .inr h
      · rw [show k = b from hk'] at hk
        rcases hk.1 with h | h
        · exact (HFI.out b h).2.1 rfl
        · omega
    · exact ((HO1.out.fr hf1 (fun k hk hk' => (HFI.out k hk').2.2 hk))).fr hp (fun k hk hk' => (HFO.out k hk).2 hk')
    · intro k hk
      have hk2 := hk.2
      rcases hk.1 with h | h
      · exact ⟨.inl (HFI.out k h).1, (HFI.out k h).2⟩
      · exact ⟨.inr ⟨by omega, by simpa using hk2⟩, by omega, fun h' => by have := hFoB k h'; omega⟩
    · intro k hk
      exact ⟨.inl (HFO.out k hk).1, (HFO.out k hk).2⟩
end Go.Proofs.YtcnglhneknbllaaDoor

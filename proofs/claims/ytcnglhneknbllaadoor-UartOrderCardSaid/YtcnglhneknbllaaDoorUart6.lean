/-
  Contracts of the document's serial line, the second part: Read and Write.
-/
import Derived.Test.YtcnglhneknbllaaDoorUart5
namespace Go.Proofs.YtcnglhneknbllaaDoor
open Go Go.RowKit

/-- What was sent is another row, in blocks of its own. -/
theorem UAt.setOut {C : Value → Value → US → Array Value} {T : TypeId} {w w1 : World} {b : Nat} {s s' : US} {F Fi Fo G : Nat → Prop} {vi vo v : Value} (hok : s'.Ok) (h2 : F b) (hBd : ∀ k, F k → k < w.heap.size)
    (hb : Blk w1 b T (C vi vo s)) (hi : Own w1 5 1 vi s.inn.length (bytesV s.inn) Fi) (hFo : ∀ k, Fo k → F k ∧ k ≠ b)
    (hv : Own w1 5 1 v s'.out.length (bytesV s'.out) G) (hG : ∀ k, G k → (Fo k ∨ w.heap.size ≤ k)) (hFi : ∀ k, Fi k → F k ∧ k ≠ b ∧ ¬ Fo k) (hsz : w.heap.size ≤ w1.heap.size) (hs : s'.inn = s.inn)
    (i : Nat) (hC : (C vi vo s).setIfInBounds i v = C vi v s') : UAt C T (w1.setCell ⟨b, i, none⟩ v) b s' (Plus F w (w1.setCell ⟨b, i, none⟩ v)) := by
  have hp := Fr.put w1 b i v
  have hbl := hBd b h2
  refine ⟨hok, .inl h2, fun k hk => ?_, vi, v, Fi, fun k => G k ∧ k < w1.heap.size, by have := hb.put i v; rwa [hC] at this, ?_, ?_, fun k hk => ⟨.inl (hFi k hk).1, (hFi k hk).2.1, ?_⟩, ?_⟩
  · rcases hk with h | h
    · rw [World.size_setCell]; exact Nat.lt_of_lt_of_le (hBd k h) hsz
    · exact h.2
  · rw [hs]
    exact hi.fr hp (fun k hk hk' => (hFi k hk).2.1 hk')
  · refine hv.cut.fr hp (fun k hk hk' => ?_)
    rw [show k = b from hk'] at hk
    rcases hG b hk.1 with h | h
    · exact (hFo b h).2 rfl
    · omega
  · intro h'
    rcases hG k h'.1 with h | h
    · exact (hFi k hk).2.2 h
    · have := hBd k (hFi k hk).1; omega
  · intro k hk
    rcases hG k hk.1 with h | h
    · exact ⟨.inl (hFo k h).1, (hFo k h).2⟩
    · exact ⟨.inr ⟨h, by rw [World.size_setCell]; exact hk.2⟩, by omega⟩

section
variable (w : World) (b : Nat) (s : US) (F : Nat → Prop) (h : RefAt w b s F)
/-- What a reading ends in. -/
def Told (w : World) (b : Nat) (r : US × Nat) (F : Nat → Prop) (e : Ending) (w' : World) : Prop := e = .returned (.tuple #[.int .u64 (r.2 : Nat), .bool true]) ∧ RefAt w' b r.1 (Plus F w w') ∧ Fr F w w'
include h
set_option maxRecDepth 100000 in
set_option maxHeartbeats 4000000 in
/-- Reading at 1, 3, 4, 6, 7. -/
theorem RRead_plain (off : Nat) (h8 : off = 1 ∨ off = 3 ∨ off = 4 ∨ off = 6 ∨ off = 7) :
    Calls Tryd.prog 50 #[.pointer (some ⟨b, 0, none⟩), .int .u64 (off : Int), .int .i64 1] w (Told w b (s.get off) F) := by
  have hl := h.ok.lcr
  have hlt : ∀ d : Bool, decide (128 ≤ s.lcr) = d → s.latch = d := fun d hd => by rw [← hd]; exact tb7 _ hl
  have HU := Lib.hid h
  obtain ⟨ai, ci, ao, co, hc, hfz, hic, him, hoc, hom⟩ := h.facts
  simp only [rcells] at hc
  obtain ⟨k1, k2, k3, k4, k5, k6, k7, k8, k9, k10, k11⟩ := h.ok
  clear h
  by_cases h128 : 128 ≤ s.lcr
  all_goals
    have hla := hlt _ rfl
    simp only [h128, decide_true, decide_false] at hla
    rcases h8 with rfl | rfl | rfl | rfl | rfl
    all_goals
      simp only [US.get, hla, if_true, if_false, Nat.reduceEqDiff, Nat.one_ne_zero, Bool.false_eq_true, reduceCtorEq]
      clear hlt hla
      go_enter Tryd.func50, Tryd.ntmps50
      go_wp2_with fail
      go_ret2
      exact ⟨by simp [u8v], HU.out.plus, Fr.refl _ _⟩

set_option maxRecDepth 100000 in
set_option maxHeartbeats 4000000 in
theorem RRead_state : Calls Tryd.prog 50 #[.pointer (some ⟨b, 0, none⟩), .int .u64 5, .int .i64 1] w (Told w b s.state F) := by
  have hl := h.ok.lcr
  have hfr : Fr F w (w.setCell ⟨b, 9, none⟩ (.bool false)) := (Fr.put w b 9 (.bool false)).mono (fun k _ hk => by rw [show k = b from hk]; exact h.self)
  have hset : RefAt (w.setCell ⟨b, 9, none⟩ (.bool false)) b s.state.1 F :=
    h.set (s' := { s with lost := false }) ⟨h.ok.inn, h.ok.out, h.ok.ier, h.ok.fcr, h.ok.lcr, h.ok.mcr, h.ok.scr, h.ok.dl, h.ok.dm, h.ok.ilen, h.ok.olen⟩ 9 _ rfl rfl (fun _ _ => rfl)
  have h3 : s.state.2 = 96 + (if 0 < s.inn.length then 1 else 0) + (if s.lost = true then 2 else 0) := rfl
  obtain ⟨ai, ci, ao, co, hc, hfz, hic, him, hoc, hom⟩ := h.facts
  simp only [rcells] at hc
  have H3 := Lib.hid h3
  have HS := Lib.hid hset
  have HF := Lib.hid hfr
  clear h3 hset hfr h
  have hlo : s.lost = true ∨ s.lost = false := by cases s.lost <;> simp
  by_cases h128 : 128 ≤ s.lcr <;> by_cases h0 : 0 < s.inn.length <;> rcases hlo with hlo | hlo
  all_goals
    go_enter Tryd.func50, Tryd.ntmps50
    go_wp2_with fail
    go_ret2
    refine ⟨?_, HS.out.plus, HF.out⟩
    rw [H3.out]
    simp [h0, hlo]

set_option maxRecDepth 100000 in
set_option maxHeartbeats 4000000 in
theorem RRead_identity : Calls Tryd.prog 50 #[.pointer (some ⟨b, 0, none⟩), .int .u64 2, .int .i64 1] w (Told w b s.identity F) := by
  have hl := h.ok.lcr
  have hfcr := h.ok.fcr
  have hrv : s.reason = 4 ∨ s.reason = 2 ∨ s.reason = 1 := by unfold US.reason; split <;> (try split) <;> simp
  have hfr : Fr F w (w.setCell ⟨b, 10, none⟩ (.bool false)) := (Fr.put w b 10 (.bool false)).mono (fun k _ hk => by rw [show k = b from hk]; exact h.self)
  have hset : RefAt (w.setCell ⟨b, 10, none⟩ (.bool false)) b { s with sent := false } F :=
    h.set (s' := { s with sent := false }) ⟨h.ok.inn, h.ok.out, h.ok.ier, h.ok.fcr, h.ok.lcr, h.ok.mcr, h.ok.scr, h.ok.dl, h.ok.dm, h.ok.ilen, h.ok.olen⟩ 10 _ rfl rfl (fun _ _ => rfl)
  have hid : ∀ r : Nat, s.reason = r → s.identity = (if r = 2 then { s with sent := false } else s, r + 192 * s.fcr) := fun r hr => by rw [← hr]; rfl
  obtain ⟨ai, ci, ao, co, hc, hfz, hic, him, hoc, hom⟩ := h.facts
  simp only [rcells] at hc
  have HS := Lib.hid hset
  have HF := Lib.hid hfr
  have HU := Lib.hid h
  clear hset hfr h
  have h2 : s.fcr = 0 ∨ s.fcr = 1 := by omega
  clear hfcr
  by_cases h128 : 128 ≤ s.lcr <;> rcases hrv with hr | hr | hr <;> rcases h2 with hf | hf
  all_goals
    have hi := hid _ hr
    simp only [Nat.reduceEqDiff, if_true, if_false] at hi
    have hi1 := congrArg Prod.fst hi
    have hi2 := congrArg Prod.snd hi
    dsimp only at hi1 hi2
    rw [hf] at hi2
    have HI1 := Lib.hid hi1
    have HI2 := Lib.hid hi2
    clear hid hi hi1 hi2
    go_enter Tryd.func50, Tryd.ntmps50
    go_wp2_with (go_at_call 53; refine (Rreason_c _ b s F HU.out).mono ?_; rintro e w' ⟨rfl, rfl⟩)
    go_ret2
    refine ⟨by rw [HI2.out]; simp, ?_, ?_⟩
    · rw [HI1.out]
      first | exact HS.out.plus | exact HU.out.plus
    · first | exact HF.out | exact Fr.refl _ _
end

set_option maxRecDepth 100000 in
set_option maxHeartbeats 4000000 in
theorem RRead_data (w : World) (b : Nat) (s : US) (F : Nat → Prop) (h : RefAt w b s F) :
    Calls Tryd.prog 50 #[.pointer (some ⟨b, 0, none⟩), .int .u64 0, .int .i64 1] w (Told w b (s.get 0) F) := by
  have hl := h.ok.lcr
  have hlt : ∀ d : Bool, decide (128 ≤ s.lcr) = d → s.latch = d := fun d hd => by rw [← hd]; exact tb7 _ hl
  have HU := Lib.hid h
  by_cases h128 : 128 ≤ s.lcr
  · have hla := hlt true (by simpa using h128)
    simp only [US.get, hla, if_true]
    have hdl := h.ok.dl
    obtain ⟨ai, ci, ao, co, hc, hfz, hic, him, hoc, hom⟩ := h.facts
    simp only [rcells] at hc
    clear hla hlt h
    go_enter Tryd.func50, Tryd.ntmps50
    go_wp2_with fail
    go_ret2
    exact ⟨by simp [u8v], HU.out.plus, Fr.refl _ _⟩
  · have hla := hlt false (by simpa using h128)
    simp only [US.get, hla, Bool.false_eq_true, if_true, if_false]
    clear hla hlt
    have hfirst := h.ok.first
    have hil := h.ok.ilen
    obtain ⟨h1, h2, hBd, vi, vo, Fi, Fo, hb, hi, ho, hFi, hFo⟩ := h
    obtain ⟨inn, out, ier, fcr, lcr, mcr, scr, dl, dm, lost, sent⟩ := s
    dsimp only at h128 hl
    cases inn with
    | nil =>
      obtain ⟨ai, ci, rfl, hic, him⟩ := hi.slice
      have hc := fun o => hb.cell o
      simp only [rcells] at hc
      clear hb hi ho hFi hFo hBd hfirst h1
      go_enter Tryd.func50, Tryd.ntmps50
      go_wp2_with fail
      go_ret2
      exact ⟨rfl, HU.out.plus, Fr.refl _ _⟩
    | cons x r =>
      obtain ⟨g, o, c, rfl, hic, him, hG, hgl, hcell, hfrz⟩ := hi.at_ (by simp)
      have hx := hcell 0 (u8v x) (by simp [bytesV])
      rw [Nat.add_zero] at hx
      have hxl : x < 256 := hfirst.2
      dsimp only [List.length_cons] at *
      have hrd := hi.tail
      have HT : Hid (∀ (a : Option Addr), (a = some ⟨g, o + 1, none⟩ ∨ (c = 1 ∧ a = some ⟨g, o, none⟩)) → Rd w (.slice a r.length (c - 1)) r.length (bytesV r)) := by
        refine Lib.hid (fun a ha => ?_)
        obtain ⟨a', c', hv, q1, q2, q3, q4⟩ := hi.rd
        cases hv
        refine ⟨a, c - 1, rfl, by omega, by omega, fun ha' => ?_, fun ad had j u hu => ?_⟩
        · rcases ha with ha | ha
          · rw [ha'] at ha; cases ha
          · rw [ha'] at ha; cases ha.2
        · rcases ha with ha | ha
          · rw [had] at ha
            cases ha
            have := q4 _ rfl (j + 1) u (by simpa [bytesV] using hu)
            rw [addr_add] at this ⊢
            rw [show o + 1 + j = o + (j + 1) from by omega]
            exact this
          · have hr : r = [] := List.eq_nil_of_length_eq_zero (by omega)
            subst hr
            simp [bytesV] at hu
      obtain ⟨i0, hi0, hz0, hz1, hz2⟩ := info_parts info_u8
      have HI := Lib.hid hi0
      have H0 := Lib.hid hz0
      have H1 := Lib.hid hz1
      have H2 := Lib.hid hz2
      have HB := Lib.hid hb
      have HFO := Lib.hid hFo
      have HFI := Lib.hid hFi
      have HOO := Lib.hid ho
      have HK := Lib.hid hfirst.1
      have HM := Lib.hid (show r.length ≤ 16 from by omega)
      have hlen : (bytesV r).length = r.length * 1 := by rw [bytesV_len]; omega
      have HL := Lib.hid hlen
      have hc := fun o => hb.cell o
      have hfz := fun o => hb.free o
      simp only [rcells] at hc
      unfold maxLen at him
      clear hfrz hcell hi hi0 hz0 hz1 hz2 hFi hFo ho hb hlen hfirst hrd hil h1
      have hfin : ∀ (a1 : Option Addr) (c1 : Nat) (w1 : World), Own w1 5 1 (.slice a1 r.length c1) r.length (bytesV r) (fun k => No k ∨ k = w.heap.size) → Fr No w w1 →
          RefAt (w1.setCell ⟨b, 0, none⟩ (.slice a1 r.length c1)) b ⟨r, out, ier, fcr, lcr, mcr, scr, dl, dm, lost, sent⟩ (Plus F w (w1.setCell ⟨b, 0, none⟩ (.slice a1 r.length c1))) ∧ Fr F w (w1.setCell ⟨b, 0, none⟩ (.slice a1 r.length c1)) := fun a1 c1 w1 ho1 hf1 =>
        ⟨UAt.setInn (s' := ⟨r, out, ier, fcr, lcr, mcr, scr, dl, dm, lost, sent⟩) HK.out h2 hBd (HB.out.fr hf1 (fun h => h)) (HOO.out.fr hf1 (fun _ _ h => h)) HFO.out ho1 (fun k hk => by
          rcases hk with h | h
          · exact h.elim
          · exact .inr (by omega)) HFI.out hf1.size rfl 0 rfl,
         (hf1.mono (fun _ _ h => h.elim)).trans ((Fr.put w1 b 0 _).mono (fun k _ hk => by rw [show k = b from hk]; exact h2))⟩
      have HX := Lib.hid hfin
      clear hfin hBd
      by_cases hc1 : c = 1
      · have hr : r = [] := List.eq_nil_of_length_eq_zero (by omega)
        subst hr
        subst hc1
        simp only [List.length_nil, Nat.zero_add] at hc
        simp only [List.length_nil] at HX
        clear hic him
        go_enter Tryd.func50, Tryd.ntmps50
        go_wp2_with
         (at_builtin
          refine wpList_append _ rfl (.tmp 50) (.tmp 55) _ rfl 5 i0 _ 1 1 Tryd.underlying27 HI.out H0.out H1.out H2.out rfl (.slice none 0 0) 0 [] No rfl (Own.nil_ _ _ _ _) (.slice (some ⟨g, o, none⟩) 0 0) 0 [] rfl (Rd.empty _ _) rfl (fun _ h => by cases h) (by unfold maxLen; omega) (by omega) ?_
          intro v1 w1 hown1 hf1
          obtain ⟨a1, c1, hv1, _, _⟩ := hown1.slice
          subst hv1
          have hb1 := HB.out.fr hf1 (fun h => h)
          have hc1 := fun o => hb1.cell o
          have hfz1 := fun o => hb1.free o
          simp only [rcells] at hc1)
        go_ret2
        exact ⟨by simp [US.first], (HX.out a1 c1 w1 hown1 hf1).1, (HX.out a1 c1 w1 hown1 hf1).2⟩
      · go_enter Tryd.func50, Tryd.ntmps50
        go_wp2_with
         (at_builtin
          refine wpList_append _ rfl (.tmp 50) (.tmp 55) _ rfl 5 i0 _ 1 1 Tryd.underlying27 HI.out H0.out H1.out H2.out rfl (.slice none 0 0) 0 [] No rfl (Own.nil_ _ _ _ _) _ r.length (bytesV r) rfl (HT.out _ (.inl rfl)) HL.out (bytesV_one r) (by have := HM.out; unfold maxLen; omega) (by have := HM.out; omega) ?_
          intro v1 w1 hown1 hf1
          rw [Nat.zero_add] at hown1
          obtain ⟨a1, c1, hv1, _, _⟩ := hown1.slice
          subst hv1
          have hb1 := HB.out.fr hf1 (fun h => h)
          have hc1 := fun o => hb1.cell o
          have hfz1 := fun o => hb1.free o
          simp only [rcells] at hc1)
        go_ret2
        exact ⟨by simp [US.first], (HX.out a1 c1 w1 hown1 hf1).1, (HX.out a1 c1 w1 hown1 hf1).2⟩

/-- (*Uart).Read of the document's. -/
theorem RRead_c (w : World) (b : Nat) (s : US) (F : Nat → Prop) (off : Nat) (n : Int) (hoff : off < 18446744073709551616) (h : RefAt w b s F) :
    Calls Tryd.prog 50 #[.pointer (some ⟨b, 0, none⟩), .int .u64 (off : Int), .int .i64 n] w fun e w' =>
      e = .returned (.tuple #[.int .u64 ((s.read off n).2.1 : Nat), .bool (s.read off n).2.2]) ∧ RefAt w' b (s.read off n).1 (Plus F w w') ∧ Fr F w w' := by
  by_cases hn : n = 1
  · by_cases h7 : off ≤ 7
    · subst hn
      have hrd : s.read off 1 = ((s.get off).1, (s.get off).2, true) := by unfold US.read; rw [if_neg (by omega)]
      rw [hrd]
      have h8 : off = 0 ∨ off = 2 ∨ off = 5 ∨ (off = 1 ∨ off = 3 ∨ off = 4 ∨ off = 6 ∨ off = 7) := by omega
      rcases h8 with rfl | rfl | rfl | h8
      · exact RRead_data w b s F h
      · exact RRead_identity w b s F h
      · exact RRead_state w b s F h
      · exact RRead_plain w b s F h off h8
    · have hrd : s.read off n = (s, 0, false) := by unfold US.read; rw [if_pos (by omega)]
      rw [hrd]
      have h7' : 7 < off := by omega
      subst hn
      clear hoff
      go_enter Tryd.func50, Tryd.ntmps50
      go_wp2_with (fail)
      go_ret2
      exact ⟨by simp, h.plus, Fr.refl _ _⟩
  · have hrd : s.read off n = (s, 0, false) := by unfold US.read; rw [if_pos (by omega)]
    rw [hrd]
    have hn' : (n != 1) = true := by rw [bne_iff_ne]; exact hn
    clear hoff
    go_enter Tryd.func50, Tryd.ntmps50
    go_wp2_with (fail)
    go_ret2
    exact ⟨by simp, h.plus, Fr.refl _ _⟩
end Go.Proofs.YtcnglhneknbllaaDoor

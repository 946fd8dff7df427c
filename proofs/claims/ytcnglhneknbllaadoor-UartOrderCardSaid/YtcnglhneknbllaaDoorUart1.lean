/-
  Contracts of package uart: what each method of a serial line does to the block that it lies in.
-/
import Derived.Test.YtcnglhneknbllaaDoorBits
import Derived.Test.YtcnglhneknbllaaDoorUartM
namespace Go.Proofs.YtcnglhneknbllaaDoor
open Go Go.RowKit

def ucells (vi vo : Value) (s : US) : Array Value :=
  #[vi, vo, u8v 0, u8v s.ier, u8v s.fcr, u8v s.lcr, u8v s.mcr, u8v 0, u8v 0, u8v s.scr, u8v s.dl, u8v s.dm, .bool s.lost, .bool s.sent]

/-- In block `b` lies a serial line in the state `s`, whose cells are `C`'s; its bytes lie in blocks `Fi` and `Fo`. -/
structure UAt (C : Value → Value → US → Array Value) (T : TypeId) (w : World) (b : Nat) (s : US) (F : Nat → Prop) : Prop where
  ok : s.Ok
  self : F b
  bound : ∀ k, F k → k < w.heap.size
  cells : ∃ vi vo Fi Fo, Blk w b T (C vi vo s) ∧ Own w 5 1 vi s.inn.length (bytesV s.inn) Fi ∧ Own w 5 1 vo s.out.length (bytesV s.out) Fo ∧
    (∀ k, Fi k → F k ∧ k ≠ b ∧ ¬ Fo k) ∧ (∀ k, Fo k → F k ∧ k ≠ b)

/-- The program's serial line. -/
abbrev UartAt := UAt ucells 82
theorem UAt.fr {C : Value → Value → US → Array Value} {T : TypeId} {w w' : World} {b : Nat} {s : US} {F S : Nat → Prop} (h : UAt C T w b s F) (hf : Fr S w w') (hd : ∀ k, F k → ¬ S k) : UAt C T w' b s F := by
  obtain ⟨h1, h2, hF, vi, vo, Fi, Fo, hb, hi, ho, hFi, hFo⟩ := h
  exact ⟨h1, h2, fun k hk => Nat.lt_of_lt_of_le (hF k hk) hf.size, vi, vo, Fi, Fo, hb.fr hf (hd _ h2), hi.fr hf (fun k hk => hd k (hFi k hk).1), ho.fr hf (fun k hk => hd k (hFo k hk).1), hFi, hFo⟩
theorem UAt.mono {C : Value → Value → US → Array Value} {T : TypeId} {w : World} {b : Nat} {s : US} {F F' : Nat → Prop} (h : UAt C T w b s F) (hF : ∀ k, F k → F' k) (hB : ∀ k, F' k → k < w.heap.size) : UAt C T w b s F' := by
  obtain ⟨h1, h2, _, vi, vo, Fi, Fo, hb, hi, ho, hFi, hFo⟩ := h
  exact ⟨h1, hF _ h2, hB, vi, vo, Fi, Fo, hb, hi, ho, fun k hk => ⟨hF _ (hFi k hk).1, (hFi k hk).2⟩, fun k hk => ⟨hF _ (hFo k hk).1, (hFo k hk).2⟩⟩
theorem UAt.plus {C : Value → Value → US → Array Value} {T : TypeId} {w w0 : World} {b : Nat} {s : US} {F : Nat → Prop} (h : UAt C T w b s F) : UAt C T w b s (Plus F w0 w) :=
  h.mono (fun k hk => .inl hk) (fun k hk => by
    rcases hk with hk | hk
    · exact h.bound k hk
    · exact hk.2)
theorem UAt.lt {C : Value → Value → US → Array Value} {T : TypeId} {w : World} {b : Nat} {s : US} {F : Nat → Prop} (h : UAt C T w b s F) : b < w.heap.size := by
  obtain ⟨h1, h2, hBd, vi, vo, Fi, Fo, hb, hi, ho, hFi, hFo⟩ := h
  exact hb.lt
/-- One of its plain cells is written. -/
theorem UAt.set {C : Value → Value → US → Array Value} {T : TypeId} {w : World} {b : Nat} {s s' : US} {F : Nat → Prop} (h : UAt C T w b s F) (hok : s'.Ok) (i : Nat) (v : Value) (hi : s'.inn = s.inn) (ho : s'.out = s.out)
    (hc : ∀ vi vo, (C vi vo s).setIfInBounds i v = C vi vo s') : UAt C T (w.setCell ⟨b, i, none⟩ v) b s' F := by
  obtain ⟨h1, h2, hBd, vi, vo, Fi, Fo, hb, hvi, hvo, hFi, hFo⟩ := h
  have hf := Fr.put w b i v
  refine ⟨hok, h2, fun k hk => by simpa using hBd k hk, vi, vo, Fi, Fo, by have := hb.put i v; rwa [hc] at this, ?_, ?_, hFi, hFo⟩
  · rw [hi]; exact hvi.fr hf (fun k hk => (hFi k hk).2.1)
  · rw [ho]; exact hvo.fr hf (fun k hk => (hFo k hk).2)
/-- The slice of what came in is another one, of the same blocks. -/
theorem UAt.facts {C : Value → Value → US → Array Value} {T : TypeId} {w : World} {b : Nat} {s : US} {F : Nat → Prop} (h : UAt C T w b s F) : ∃ ai ci ao co, (∀ o, w.cell? ⟨b, o, none⟩ = (C (.slice ai s.inn.length ci) (.slice ao s.out.length co) s)[o]?) ∧
    (∀ o, w.frozen? ⟨b, o, none⟩ = false) ∧ s.inn.length ≤ ci ∧ ci ≤ 9223372036854775807 ∧ s.out.length ≤ co ∧ co ≤ 9223372036854775807 := by
  obtain ⟨h1, h2, hBd, vi, vo, Fi, Fo, hb, hi, ho, hFi, hFo⟩ := h
  obtain ⟨ai, ci, rfl, hic, him⟩ := hi.slice
  obtain ⟨ao, co, rfl, hoc, hom⟩ := ho.slice
  unfold maxLen at him hom
  exact ⟨ai, ci, ao, co, hb.cell, hb.free, hic, by omega, hoc, by omega⟩

set_option maxHeartbeats 400000 in
theorem reason_c (w : World) (b : Nat) (s : US) (F : Nat → Prop) (h : UartAt w b s F) :
    Calls Tryd.prog 52 #[.pointer (some ⟨b, 0, none⟩)] w fun e w' => e = .returned (u8v s.reason) ∧ w = w' := by
  obtain ⟨ai, ci, ao, co, hc, hfz, hic, him, hoc, hom⟩ := h.facts
  simp only [ucells] at hc
  have hier := h.ok.ier
  have hfin : s.reason = if s.ier.testBit 0 = true ∧ 0 < s.inn.length then 4 else if s.ier.testBit 1 = true ∧ s.sent = true then 2 else 1 := rfl
  have HF := Lib.hid hfin
  clear hfin
  go_enter Tryd.func52, Tryd.ntmps52
  go_wp2_with (go_at_call 45; refine (Bit_u8 _ _ _ (by omega) (by omega) (by omega)).mono ?_; rintro e w' ⟨rfl, rfl⟩)
  all_goals
    go_ret
    refine ⟨?_, rfl⟩
    rw [HF.out]
    simp_all [u8v]

set_option maxHeartbeats 400000 in
theorem Line_c (w : World) (b : Nat) (s : US) (F : Nat → Prop) (h : UartAt w b s F) :
    Calls Tryd.prog 25 #[.pointer (some ⟨b, 0, none⟩)] w fun e w' => e = .returned (.bool s.line) ∧ w = w' := by
  have hr := s.reason_lt
  go_enter Tryd.func25, Tryd.ntmps25
  go_wp2_with (go_at_call 52; refine (reason_c _ b s F h).mono ?_; rintro e w' ⟨rfl, rfl⟩)
  go_ret
  refine ⟨?_, rfl⟩
  have e : ((s.reason : Int) != 1) = s.line := by
    unfold US.line
    rw [Bool.eq_iff_iff]
    simp only [bne_iff_ne, ne_eq]
    omega
  simp [e]
theorem Line_nil (w : World) :
    Calls Tryd.prog 25 #[.pointer none] w fun e w' => e = .returned (.bool false) ∧ w = w' := by
  go_enter Tryd.func25, Tryd.ntmps25
  go_wp2
  go_ret
  exact ⟨rfl, rfl⟩
set_option maxHeartbeats 400000 in
theorem register_c (w : World) (b : Nat) (s : US) (F : Nat → Prop) (off : Nat) (ho : off ≤ 7) (h : UartAt w b s F) :
    Calls Tryd.prog 44 #[.pointer (some ⟨b, 0, none⟩), .int .u64 (off : Int)] w fun e w' => e = .returned (.int .i64 (s.reg off : Nat)) ∧ w = w' := by
  obtain ⟨ai, ci, ao, co, hc, hfz, hic, him, hoc, hom⟩ := h.facts
  simp only [ucells] at hc
  have hlcr := h.ok.lcr
  have hfin : ∀ d : Bool, s.lcr.testBit 7 = d → s.reg off = if off ≤ 1 ∧ d = true then 8 + off else off := fun d hd => by rw [← hd]; rfl
  rcases Bool.eq_false_or_eq_true (s.lcr.testBit 7) with hb | hb
  all_goals
    have hf := hfin _ hb
    clear hfin
    by_cases h1 : off ≤ 1
    all_goals
      simp only [h1, true_and, false_and, if_true, if_false, Bool.false_eq_true] at hf
      have HF := Lib.hid hf
      clear hf
      go_enter Tryd.func44, Tryd.ntmps44
      go_wp2_with (go_at_call 45; refine (Bit_u8 _ _ _ (by omega) (by omega) (by omega)).mono ?_; rintro e w' ⟨rfl, rfl⟩)
      go_ret
      refine ⟨?_, rfl⟩
      rw [HF.out]
      simp

set_option maxHeartbeats 400000 in
theorem identity_c (w : World) (b : Nat) (s : US) (F : Nat → Prop) (h : UartAt w b s F) :
    Calls Tryd.prog 48 #[.pointer (some ⟨b, 0, none⟩)] w fun e w' => e = .returned (u8v s.identity.2) ∧ UartAt w' b s.identity.1 F ∧ Fr F w w' := by
  obtain ⟨ai, ci, ao, co, hc, hfz, hic, him, hoc, hom⟩ := h.facts
  simp only [ucells] at hc
  have hk := h.ok.get 2
  have hfcr := h.ok.fcr
  have hrv : s.reason = 4 ∨ s.reason = 2 ∨ s.reason = 1 := by unfold US.reason; split <;> (try split) <;> simp
  have hfr := Fr.put w b 13 (.bool false)
  have hor : ∀ r : Nat, r ≤ 4 → bits .or .u8 (r : Int) (IntKind.u8.wrap (192 * (s.fcr : Int))) = ((r + 192 * s.fcr : Nat) : Int) := by
    intro r hr
    have hw : IntKind.u8.wrap (192 * (s.fcr : Int)) = ((192 * s.fcr : Nat) : Int) := by rw [IntKind.wrap_u8']; omega
    rw [hw, u8_or_nat _ _ (by omega) (by omega)]
    congr 1
    have h2 : s.fcr = 0 ∨ s.fcr = 1 := by omega
    have h3 : r = 0 ∨ r = 1 ∨ r = 2 ∨ r = 3 ∨ r = 4 := by omega
    rcases h2 with h2 | h2 <;> rw [h2] <;> rcases h3 with h3 | h3 | h3 | h3 | h3 <;> rw [h3] <;> rfl
  have h1 : s.reason = 2 → s.identity.1 = { s with sent := false } := fun h => by unfold US.identity; simp [h]
  have h2 : s.reason ≠ 2 → s.identity.1 = s := fun h => by unfold US.identity; simp [h]
  have h3 : s.identity.2 = s.reason + 192 * s.fcr := rfl
  have H1 := Lib.hid h1
  have H2 := Lib.hid h2
  have H3 := Lib.hid h3
  have HO := Lib.hid hor
  have HF := Lib.hid hfr
  clear h1 h2 h3 hor hfr
  go_enter Tryd.func48, Tryd.ntmps48
  go_wp2_with (go_at_call 52; refine (reason_c _ b s F h).mono ?_; rintro e w' ⟨rfl, rfl⟩)
  · go_ret
    have hr2 : s.reason = 2 := by
      have hx : ((s.reason : Int) == 2) = true := by assumption
      simp only [beq_iff_eq] at hx
      omega
    refine ⟨?_, ?_, ?_⟩
    · rw [H3.out]
      have := HO.out s.reason (by omega)
      rw [IntKind.wrap_u8', show (192 * (s.fcr : Int)) % 256 = 192 * s.fcr from by omega] at this
      simp [this]
    · rw [H1.out hr2]
      exact h.set (s' := { s with sent := false }) ⟨h.ok.inn, h.ok.out, h.ok.ier, h.ok.fcr, h.ok.lcr, h.ok.mcr, h.ok.scr, h.ok.dl, h.ok.dm, h.ok.ilen, h.ok.olen⟩ 13 _ rfl rfl (fun _ _ => rfl)
    · exact HF.out.mono (fun k _ hk => by rw [show k = b from hk]; exact h.self)
  · go_ret
    have hr2 : s.reason ≠ 2 := by
      have hx : ((s.reason : Int) == 2) = false := by assumption
      simp only [beq_eq_false_iff_ne, ne_eq] at hx
      omega
    refine ⟨?_, ?_, ?_⟩
    · rw [H3.out]
      have := HO.out s.reason (by omega)
      rw [IntKind.wrap_u8', show (192 * (s.fcr : Int)) % 256 = 192 * s.fcr from by omega] at this
      simp [this]
    · rw [H2.out hr2]
      exact h
    · exact Fr.refl _ _

set_option maxHeartbeats 400000 in
theorem state_c (w : World) (b : Nat) (s : US) (F : Nat → Prop) (h : UartAt w b s F) :
    Calls Tryd.prog 49 #[.pointer (some ⟨b, 0, none⟩)] w fun e w' => e = .returned (u8v s.state.2) ∧ UartAt w' b s.state.1 F ∧ Fr F w w' := by
  obtain ⟨ai, ci, ao, co, hc, hfz, hic, him, hoc, hom⟩ := h.facts
  simp only [ucells] at hc
  have hfr : Fr F w (w.setCell ⟨b, 12, none⟩ (.bool false)) := (Fr.put w b 12 (.bool false)).mono (fun k _ hk => by rw [show k = b from hk]; exact h.self)
  have hset : UartAt (w.setCell ⟨b, 12, none⟩ (.bool false)) b s.state.1 F :=
    h.set (s' := { s with lost := false }) ⟨h.ok.inn, h.ok.out, h.ok.ier, h.ok.fcr, h.ok.lcr, h.ok.mcr, h.ok.scr, h.ok.dl, h.ok.dm, h.ok.ilen, h.ok.olen⟩ 12 _ rfl rfl (fun _ _ => rfl)
  have h3 : s.state.2 = 96 + (if 0 < s.inn.length then 1 else 0) + (if s.lost = true then 2 else 0) := rfl
  have H3 := Lib.hid h3
  have HS := Lib.hid hset
  have HF := Lib.hid hfr
  clear h3 hset hfr
  have o1 : bits .or .u8 96 1 = 97 := by decide
  have o2 : bits .or .u8 97 2 = 99 := by decide
  have o3 : bits .or .u8 96 2 = 98 := by decide
  have hl : s.lost = true ∨ s.lost = false := by cases s.lost <;> simp
  by_cases h0 : 0 < s.inn.length <;> rcases hl with hl | hl
  all_goals
    go_enter Tryd.func49, Tryd.ntmps49
    go_wp2
    go_ret
    refine ⟨?_, HS.out, HF.out⟩
    rw [H3.out]
    simp [h0, hl, u8v]


/-- A frame over one block that is the line's own, behind draws. -/
theorem frOne {w : World} {b i : Nat} {F : Nat → Prop} (hF : F b) (v : Value) : Fr F w (w.setCell ⟨b, i, none⟩ v).drew := ((Fr.put w b i v).mono (fun k _ hk => by rw [show k = b from hk]; exact hF)).drew
set_option maxHeartbeats 1000000 in
theorem first_c (w : World) (b : Nat) (s : US) (F : Nat → Prop) (h : UartAt w b s F) :
    Calls Tryd.prog 47 #[.pointer (some ⟨b, 0, none⟩)] w fun e w' => e = .returned (u8v s.first.2) ∧ UartAt w' b s.first.1 F ∧ Fr F w w' := by
  obtain ⟨h1, h2, hBd, vi, vo, Fi, Fo, hb, hi, ho, hFi, hFo⟩ := h
  obtain ⟨inn, out, ier, fcr, lcr, mcr, scr, dl, dm, lost, sent⟩ := s
  have hfirst := h1.first.1
  cases inn with
  | nil =>
    obtain ⟨ai, ci, rfl, hic, him⟩ := hi.slice
    have hc := fun o => hb.cell o
    simp only [ucells] at hc
    go_enter Tryd.func47, Tryd.ntmps47
    go_wp2
    go_ret
    exact ⟨rfl, ⟨h1, h2, hBd, _, vo, Fi, Fo, hb, hi, ho, hFi, hFo⟩, Fr.refl _ _⟩
  | cons x r =>
    obtain ⟨g, o, c, rfl, hic, him, hG, hgl, hcell, hfrz⟩ := hi.at_ (by simp)
    have hx := hcell 0 (u8v x) (by simp [bytesV])
    rw [Nat.add_zero] at hx
    have hc := fun o => hb.cell o
    have hfz := fun o => hb.free o
    simp only [ucells] at hc
    unfold maxLen at him
    dsimp only [List.length_cons] at *
    have htail := hi.tail
    have hnew : ∀ v, Own w 5 1 v r.length (bytesV r) Fi → UartAt (w.setCell ⟨b, 0, none⟩ v).drew b ⟨r, out, ier, fcr, lcr, mcr, scr, dl, dm, lost, sent⟩ F := fun v hv =>
      ⟨hfirst, h2, fun k hk => by simpa using hBd k hk, v, vo, Fi, Fo, hb.put 0 v, hv.fr (Fr.put w b 0 v).drew (fun k hk => (hFi k hk).2.1), ho.fr (Fr.put w b 0 v).drew (fun k hk => (hFo k hk).2), hFi, hFo⟩
    clear hBd
    have HN := Lib.hid hnew
    have HT := Lib.hid htail
    clear hfrz hcell hi hnew htail hb ho
    go_enter Tryd.func47, Tryd.ntmps47
    go_wp2
    go_region
    all_goals go_wp2
    · go_ret
      have hr : r = [] := by assumption
      subst hr
      exact ⟨rfl, HN.out _ (HT.out.2 rfl), frOne h2 _⟩
    · go_ret
      exact ⟨rfl, HN.out _ HT.out.1, frOne h2 _⟩

set_option maxRecDepth 100000 in
set_option maxHeartbeats 4000000 in
theorem Read_c (w : World) (b : Nat) (s : US) (F : Nat → Prop) (off : Nat) (n : Int) (hoff : off < 18446744073709551616) (h : UartAt w b s F) :
    Calls Tryd.prog 18 #[.pointer (some ⟨b, 0, none⟩), .int .u64 (off : Int), .int .i64 n] w fun e w' =>
      e = .returned (.tuple #[.int .u64 ((s.read off n).2.1 : Nat), .bool (s.read off n).2.2]) ∧ UartAt w' b (s.read off n).1 F ∧ Fr F w w' := by
  by_cases hn : n = 1
  · by_cases h7 : off ≤ 7
    · subst hn
      have hrd : s.read off 1 = ((s.getR (s.reg off)).1, (s.getR (s.reg off)).2, true) := by unfold US.read; rw [if_neg (by omega), ← s.get_reg off h7]
      have hg := h.ok.get off
      rw [s.get_reg off h7] at hg
      have hk9 := s.reg_le off h7
      obtain ⟨ai, ci, ao, co, hc, hfz, hic, him, hoc, hom⟩ := h.facts
      simp only [ucells] at hc
      have hwr : ∀ x : Nat, x < 256 → IntKind.u64.wrap (x : Int) = x := fun x hx => by rw [IntKind.wrap_u64]; omega
      obtain ⟨k1, k2, k3, k4, k5, k6, k7, k8, k9, k10, k11⟩ := h.ok
      obtain ⟨k, hk⟩ : ∃ k, s.reg off = k := ⟨_, rfl⟩
      rw [hk] at hrd hg hk9
      have hk10 : k = 0 ∨ k = 1 ∨ k = 2 ∨ k = 3 ∨ k = 4 ∨ k = 5 ∨ k = 6 ∨ k = 7 ∨ k = 8 ∨ k = 9 := by omega
      clear hk9 hoff
      rcases hk10 with rfl | rfl | rfl | rfl | rfl | rfl | rfl | rfl | rfl | rfl
      all_goals
        simp only [US.getR, if_true, if_false, Nat.reduceEqDiff, Nat.one_ne_zero] at hg hrd
        have HR := Lib.hid hrd
        have hgl := hg.2
        have HG := Lib.hid hg
        clear hrd hg
        go_enter Tryd.func18, Tryd.ntmps18
        go_wp2_with (first
          | (go_at_call 44; refine (register_c _ b s F off (by omega) h).mono ?_; rintro e w' ⟨rfl, rfl⟩)
          | (go_at_call 47; refine (first_c _ b s F h).mono ?_; rintro e w1 ⟨rfl, hu1, hf1⟩)
          | (go_at_call 48; refine (identity_c _ b s F h).mono ?_; rintro e w1 ⟨rfl, hu1, hf1⟩)
          | (go_at_call 49; refine (state_c _ b s F h).mono ?_; rintro e w1 ⟨rfl, hu1, hf1⟩))
        go_ret2
        rw [HR.out]
        first | exact ⟨by simp [u8v], h, Fr.refl _ _⟩ | exact ⟨by simp [u8v], hu1, hf1⟩
    · have hrd : s.read off n = (s, 0, false) := by unfold US.read; rw [if_pos (by omega)]
      rw [hrd]
      have h7' : 7 < off := by omega
      subst hn
      go_enter Tryd.func18, Tryd.ntmps18
      go_wp2_with (fail)
      go_ret2
      exact ⟨by simp, h, Fr.refl _ _⟩
  · have hrd : s.read off n = (s, 0, false) := by unfold US.read; rw [if_pos (by omega)]
    rw [hrd]
    have hn' : (n != 1) = true := by rw [bne_iff_ne]; exact hn
    go_enter Tryd.func18, Tryd.ntmps18
    go_wp2_with (fail)
    go_ret2
    exact ⟨by simp, h, Fr.refl _ _⟩
end Go.Proofs.YtcnglhneknbllaaDoor

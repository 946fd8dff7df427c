/-
  Contracts of the document's serial line, the third part: Write.
-/
import Derived.Test.YtcnglhneknbllaaDoorUart6
namespace Go.Proofs.YtcnglhneknbllaaDoor
open Go Go.RowKit

section
variable (w : World) (b : Nat) (s : US) (F : Nat → Prop) (v x : Nat) (hv2 : (v : Int) % 256 = (x : Int)) (hv3 : (v : Int).tmod 256 = (x : Int)) (hx : x < 256) (h : RefAt w b s F)
/-- What a writing ends in. -/
def RWrote (w : World) (b : Nat) (s' : US) (F : Nat → Prop) (e : Ending) (w' : World) : Prop := e = .returned (.bool true) ∧ RefAt w' b s' (Plus F w w') ∧ Fr F w w'
include hv2 hv3 hx h
set_option maxRecDepth 100000 in
set_option maxHeartbeats 4000000 in
theorem RWrite_plain (off : Nat) (h8 : off = 3 ∨ off = 4 ∨ off = 5 ∨ off = 6 ∨ off = 7) :
    Calls Tryd.prog 24 #[.pointer (some ⟨b, 0, none⟩), .int .u64 (off : Int), .int .i64 1, .int .u64 (v : Int)] w (RWrote w b (s.put off x) F) := by
  have hok : (s.put off x).Ok := h.ok.put off x hx
  have hl := h.ok.lcr
  have hset := fun (i : Nat) (y : Value) (s' : US) (hs' : s'.Ok) => h.set hs' i y
  have hfr := fun (i : Nat) (y : Value) => (Fr.put w b i y).mono (T := F) (fun k _ hk => by rw [show k = b from hk]; exact h.self)
  obtain ⟨ai, ci, ao, co, hc, hfz, hic, him, hoc, hom⟩ := h.facts
  simp only [rcells] at hc
  have HS := Lib.hid hset
  have HF := Lib.hid hfr
  have HU := Lib.hid h
  clear hset hfr h
  rcases h8 with rfl | rfl | rfl | rfl | rfl
  all_goals
    simp only [US.put, if_true, if_false, Nat.reduceEqDiff] at hok ⊢
    have HK := Lib.hid hok
    clear hok
    go_enter Tryd.func24, Tryd.ntmps24
    go_wp2_with fail
    go_ret
    first | exact ⟨rfl, (HS.out _ _ _ HK.out rfl rfl (fun _ _ => rfl)).plus, HF.out _ _⟩ | exact ⟨rfl, HU.out.plus, Fr.refl _ _⟩

set_option maxRecDepth 100000 in
set_option maxHeartbeats 4000000 in
theorem RWrite_enable :
    Calls Tryd.prog 24 #[.pointer (some ⟨b, 0, none⟩), .int .u64 1, .int .i64 1, .int .u64 (v : Int)] w (RWrote w b (s.put 1 x) F) := by
  have hok : (s.put 1 x).Ok := h.ok.put 1 x hx
  have hl := h.ok.lcr
  have hier := h.ok.ier
  have hmid : ({ s with sent := true } : US).Ok := ⟨h.ok.inn, h.ok.out, h.ok.ier, h.ok.fcr, h.ok.lcr, h.ok.mcr, h.ok.scr, h.ok.dl, h.ok.dm, h.ok.ilen, h.ok.olen⟩
  have hset1 := h.set hmid 10 (.bool true) rfl rfl (fun _ _ => rfl)
  have hset := fun (i : Nat) (y : Value) (s' : US) (hs' : s'.Ok) => h.set hs' i y
  have hset2 := fun (y : Value) (s' : US) (hs' : s'.Ok) => hset1.set hs' 2 y
  have hfr := fun (i : Nat) (y : Value) => (Fr.put w b i y).mono (T := F) (fun k _ hk => by rw [show k = b from hk]; exact h.self)
  have hfr2 := fun (y : Value) => (((Fr.put w b 10 (.bool true)).trans (Fr.put _ b 2 y)).mono (T := F) (fun k _ hk => by rw [show k = b from hk]; exact h.self))
  have hput : ∀ d t1 t2 : Bool, decide (128 ≤ s.lcr) = d → decide (s.ier / 2 % 2 = 1) = t1 → decide (x / 2 % 2 = 1) = t2 → s.put 1 x = if d = true then { s with dm := x } else { s with ier := x % 16, sent := if t1 = false ∧ t2 = true then true else s.sent } := fun d t1 t2 h0 h1 h2 => by
    rw [← h0, ← h1, ← h2, ← tb1, ← tb1, ← tb7 _ hl]; rfl
  obtain ⟨ai, ci, ao, co, hc, hfz, hic, him, hoc, hom⟩ := h.facts
  simp only [rcells] at hc
  have HS := Lib.hid hset
  have HF := Lib.hid hfr
  have HS2 := Lib.hid hset2
  have HF2 := Lib.hid hfr2
  have hm : IntKind.u8.wrap ((x : Int) % 16) = ((x % 16 : Nat) : Int) := by rw [IntKind.wrap_u8']; omega
  clear hset hfr hset1 hset2 hfr2 hmid h
  by_cases h0 : 128 ≤ s.lcr
  · have hp := hput _ _ _ rfl rfl rfl
    simp only [h0, decide_true, if_true] at hp
    rw [hp] at hok ⊢
    have HK := Lib.hid hok
    clear hok hp hput
    go_enter Tryd.func24, Tryd.ntmps24
    go_wp2_with fail
    go_ret
    exact ⟨rfl, (HS.out _ _ _ HK.out rfl rfl (fun _ _ => rfl)).plus, HF.out _ _⟩
  · by_cases t1 : s.ier / 2 % 2 = 1 <;> by_cases t2 : x / 2 % 2 = 1
    all_goals
      have hp := hput _ _ _ rfl rfl rfl
      simp only [h0, t1, t2, decide_true, decide_false, if_true, if_false, and_true, reduceCtorEq, and_false, Bool.false_eq_true] at hp
      rw [hp] at hok ⊢
      have HK := Lib.hid hok
      clear hok hp hput
      go_enter Tryd.func24, Tryd.ntmps24
      go_wp2_with fail
      go_ret
      first
        | exact ⟨rfl, (HS.out _ _ _ HK.out rfl rfl (fun _ _ => rfl)).plus, HF.out _ _⟩
        | exact ⟨rfl, (HS2.out _ _ HK.out rfl rfl (fun _ _ => rfl)).plus, HF2.out _⟩

set_option maxRecDepth 100000 in
set_option maxHeartbeats 4000000 in
theorem RWrite_identify :
    Calls Tryd.prog 24 #[.pointer (some ⟨b, 0, none⟩), .int .u64 2, .int .i64 1, .int .u64 (v : Int)] w (RWrote w b (s.put 2 x) F) := by
  have hok : (s.put 2 x).Ok := h.ok.put 2 x hx
  have hl := h.ok.lcr
  have hmid : ({ s with fcr := x % 2 } : US).Ok := ⟨h.ok.inn, h.ok.out, h.ok.ier, by show x % 2 < 2; omega, h.ok.lcr, h.ok.mcr, h.ok.scr, h.ok.dl, h.ok.dm, h.ok.ilen, h.ok.olen⟩
  have hset1 := h.set (s' := { s with fcr := x % 2 }) hmid 3 (.int .u8 ((x % 2 : Nat) : Int)) rfl rfl (fun _ _ => rfl)
  have hset2 : ∀ s', s'.Ok → s' = { s with fcr := x % 2, inn := [] } → RefAt ((w.setCell ⟨b, 3, none⟩ (.int .u8 ((x % 2 : Nat) : Int))).setCell ⟨b, 0, none⟩ (.slice none 0 0)) b s' F := by
    rintro _ hs' rfl
    obtain ⟨g1, g2, hBd, vi, vo, Fi, Fo, hb, hi, ho, hFi, hFo⟩ := hset1
    exact ⟨hs', g2, fun k hk => by simpa using hBd k hk, _, vo, No, Fo, hb.put 0 _, Own.nil_ _ _ _ _, ho.fr (Fr.put _ b 0 _) (fun k hk => (hFo k hk).2), fun k hk => hk.elim, hFo⟩
  have hfr := (Fr.put w b 3 (.int .u8 ((x % 2 : Nat) : Int))).mono (T := F) (fun k _ hk => by rw [show k = b from hk]; exact h.self)
  have hfr2 := hfr.trans ((Fr.put (w.setCell ⟨b, 3, none⟩ (.int .u8 ((x % 2 : Nat) : Int))) b 0 (.slice none 0 0)).mono (T := F) (fun k _ hk => by rw [show k = b from hk]; exact h.self))
  have hput : ∀ t2 : Bool, decide (x / 2 % 2 = 1) = t2 → s.put 2 x = { s with fcr := x % 2, inn := if t2 = true then [] else s.inn } := fun t2 h2 => by rw [← h2, ← tb1]; rfl
  obtain ⟨ai, ci, ao, co, hc, hfz, hic, him, hoc, hom⟩ := h.facts
  simp only [rcells] at hc
  have HS1 := Lib.hid hset1
  have HS2 := Lib.hid hset2
  have HF := Lib.hid hfr
  have HF2 := Lib.hid hfr2
  clear hset1 hset2 hfr hfr2 hmid h
  by_cases t2 : x / 2 % 2 = 1
  all_goals
    have hp := hput _ rfl
    simp only [t2, decide_true, decide_false, if_true, if_false, Bool.false_eq_true] at hp
    rw [hp] at hok ⊢
    have HK := Lib.hid hok
    clear hok hp hput
    go_enter Tryd.func24, Tryd.ntmps24
    go_wp2_with fail
    go_ret
    first
      | exact ⟨rfl, HS1.out.plus, HF.out⟩
      | exact ⟨rfl, (HS2.out _ HK.out rfl).plus, HF2.out⟩

set_option maxRecDepth 100000 in
set_option maxHeartbeats 4000000 in
theorem RWrite_data :
    Calls Tryd.prog 24 #[.pointer (some ⟨b, 0, none⟩), .int .u64 0, .int .i64 1, .int .u64 (v : Int)] w (RWrote w b (s.put 0 x) F) := by
  have hok : (s.put 0 x).Ok := h.ok.put 0 x hx
  have hl := h.ok.lcr
  have hol := h.ok.olen
  by_cases h128 : 128 ≤ s.lcr
  · have hla : s.latch = true := by rw [← decide_eq_true h128]; exact tb7 _ hl
    have hput : s.put 0 x = { s with dl := x } := by simp [US.put, hla]
    rw [hput] at hok ⊢
    have hset := fun (i : Nat) (y : Value) (s' : US) (hs' : s'.Ok) => h.set hs' i y
    have hfr := fun (i : Nat) (y : Value) => (Fr.put w b i y).mono (T := F) (fun k _ hk => by rw [show k = b from hk]; exact h.self)
    obtain ⟨ai, ci, ao, co, hc, hfz, hic, him, hoc, hom⟩ := h.facts
    simp only [rcells] at hc
    have HS := Lib.hid hset
    have HF := Lib.hid hfr
    have HK := Lib.hid hok
    clear hset hfr h hok hput hla hol
    go_enter Tryd.func24, Tryd.ntmps24
    go_wp2_with fail
    go_ret
    exact ⟨rfl, (HS.out _ _ _ HK.out rfl rfl (fun _ _ => rfl)).plus, HF.out _ _⟩
  · have hla : s.latch = false := by rw [← decide_eq_false h128]; exact tb7 _ hl
    by_cases hroom : s.out.length < 65536
    · have hput : s.put 0 x = { s with out := s.out ++ [x], sent := true } := by simp [US.put, hla, hroom]
      rw [hput] at hok ⊢
      have hmid : ({ s with out := s.out ++ [x] } : US).Ok := ⟨hok.inn, hok.out, h.ok.ier, h.ok.fcr, h.ok.lcr, h.ok.mcr, h.ok.scr, h.ok.dl, h.ok.dm, h.ok.ilen, hok.olen⟩
      have HU := Lib.hid h
      obtain ⟨h1, h2, hBd, vi, vo, Fi, Fo, hb, hi, ho, hFi, hFo⟩ := h
      obtain ⟨ao, co, rfl, hoc, hom⟩ := ho.slice
      have hltt : ∀ y : Nat, y = s.out.length → ((y : Int) < 65536) = True := fun y hy => eq_true (by omega)
      have HRM := Lib.hid hroom
      obtain ⟨i0, hi0, hz0, hz1, hz2⟩ := info_parts info_u8
      have hA := (Fr.refl No w).alloc (.cells #[u8v x] 5)
      have hbA := hb.fr hA (fun h => h)
      have HI1 := Lib.hid (hi.fr hA (fun k _ h => h))
      have HO1 := Lib.hid (ho.fr hA (fun k _ h => h))
      have HR := Lib.hid (Rd.new w 5 [u8v x] 1 (by unfold maxLen; omega))
      have HI := Lib.hid hi0
      have H0 := Lib.hid hz0
      have H1 := Lib.hid hz1
      have H2 := Lib.hid hz2
      have HB := Lib.hid hbA
      have HK := Lib.hid hok
      have HM := Lib.hid hmid
      have HA := Lib.hid hA
      have HFO := Lib.hid hFo
      have HFI := Lib.hid hFi
      clear hi0 hz0 hz1 hz2 hi ho hok hFi hFo hA hbA hput hroom hol hom hla hmid
      have hc := fun o => hb.cell o
      have hfz := fun o => hb.free o
      simp only [rcells] at hc
      go_enter Tryd.func24, Tryd.ntmps24
      go_wp2_with
       (at_builtin
        refine wpList_append _ rfl (.tmp 47) (.tmp 49) _ rfl 5 i0 _ 1 1 Tryd.underlying27 HI.out H0.out H1.out H2.out rfl _ s.out.length (bytesV s.out) Fo rfl HO1.out _ 1 [u8v x] rfl HR.out rfl (bytesV_one [x]) (by have := HRM.out; unfold maxLen; omega) (by have := HRM.out; omega) ?_
        intro v1 w1 hown1 hf1
        obtain ⟨a1, c1, hv1', _, _⟩ := hown1.slice
        subst hv1'
        have hfw1 : Fr F w w1 := (HA.out.mono (fun _ _ h => h.elim)).andThen hf1 (fun k _ hk => (HFO.out k hk).1)
        have hb1 := HB.out.fr hf1 (fun h => (HFO.out b h).2 rfl)
        have hc1 := fun o => hb1.cell o
        have hfz1 := fun o => hb1.free o
        simp only [rcells] at hc1)
      go_ret
      have e1 : (s.out ++ [x]).length = s.out.length + 1 := by simp
      have e2 : bytesV (s.out ++ [x]) = bytesV s.out ++ [u8v x] := bytesV_app _ _
      have hp := (Fr.put w1 b 1 (.slice a1 (s.out.length + 1) c1)).trans (Fr.put _ b 10 (.bool true))
      have hm : RefAt (w1.setCell ⟨b, 1, none⟩ (.slice a1 (s.out.length + 1) c1)) b { s with out := s.out ++ [x] } (Plus F w (w1.setCell ⟨b, 1, none⟩ (.slice a1 (s.out.length + 1) c1))) :=
        UAt.setOut (s' := { s with out := s.out ++ [x] }) HM.out h2 hBd hb1 (HI1.out.fr hf1 (fun k hk hk' => (HFI.out k hk).2.2 hk')) HFO.out (by show Own _ _ _ _ (s.out ++ [x]).length (bytesV (s.out ++ [x])) _; rw [e1, e2]; exact hown1) (fun k hk => by
          rcases hk with h | h
          · exact .inl h
          · rw [h, World.size_alloc]; exact .inr (by omega)) HFI.out hfw1.size rfl 1 rfl
      refine ⟨rfl, (hm.set (s' := { s with out := s.out ++ [x], sent := true }) HK.out 10 (.bool true) rfl rfl (fun _ _ => rfl)).mono (fun k hk => ?_) (fun k hk => ?_), hfw1.trans (hp.mono (fun k _ hk => by rw [show k = b from hk]; exact h2))⟩
      · rcases hk with h | h
        · exact .inl h
        · exact .inr ⟨h.1, by simpa using h.2⟩
      · rcases hk with h | h
        · have := hBd k h; have := hfw1.size; simp only [World.size_setCell]; omega
        · exact h.2
    · have hput : s.put 0 x = { s with sent := true } := by simp [US.put, hla, hroom]
      rw [hput] at hok ⊢
      have hset := fun (i : Nat) (y : Value) (s' : US) (hs' : s'.Ok) => h.set hs' i y
      have hfr := fun (i : Nat) (y : Value) => (Fr.put w b i y).mono (T := F) (fun k _ hk => by rw [show k = b from hk]; exact h.self)
      obtain ⟨ai, ci, ao, co, hc, hfz, hic, him, hoc, hom⟩ := h.facts
      simp only [rcells] at hc
      have hltt : ∀ y : Nat, y = s.out.length → ((y : Int) < 65536) = False := fun y hy => eq_false (by omega)
      have HS := Lib.hid hset
      have HF := Lib.hid hfr
      have HK := Lib.hid hok
      clear hset hfr h hok hput hla hol hroom
      go_enter Tryd.func24, Tryd.ntmps24
      go_wp2_with fail
      go_ret
      exact ⟨rfl, (HS.out _ _ _ HK.out rfl rfl (fun _ _ => rfl)).plus, HF.out _ _⟩
end

/-- (*Uart).Write of the document's. -/
theorem RWrite_c (w : World) (b : Nat) (s : US) (F : Nat → Prop) (off : Nat) (n : Int) (v : Nat) (hv : v < 18446744073709551616) (h : RefAt w b s F) :
    Calls Tryd.prog 24 #[.pointer (some ⟨b, 0, none⟩), .int .u64 (off : Int), .int .i64 n, .int .u64 (v : Int)] w fun e w' =>
      e = .returned (.bool (s.write off n v).2) ∧ RefAt w' b (s.write off n v).1 (Plus F w w') ∧ Fr F w w' := by
  by_cases hn : n = 1
  · by_cases h7 : off ≤ 7
    · subst hn
      have hx : v % 256 < 256 := Nat.mod_lt _ (by omega)
      have hw : s.write off 1 v = (s.put off (v % 256), true) := by unfold US.write; rw [if_neg (by omega)]
      have h3 : (v : Int).tmod 256 = ((v % 256 : Nat) : Int) := by rw [Int.tmod_eq_emod_of_nonneg (by omega)]; omega
      have h2 : (v : Int) % 256 = ((v % 256 : Nat) : Int) := by omega
      rw [hw]
      have h8 : off = 0 ∨ off = 1 ∨ off = 2 ∨ (off = 3 ∨ off = 4 ∨ off = 5 ∨ off = 6 ∨ off = 7) := by omega
      rcases h8 with rfl | rfl | rfl | h8
      · exact RWrite_data w b s F v _ h2 h3 hx h
      · exact RWrite_enable w b s F v _ h2 h3 hx h
      · exact RWrite_identify w b s F v _ h2 h3 hx h
      · exact RWrite_plain w b s F v _ h2 h3 hx h off h8
    · have hrd : s.write off n v = (s, false) := by unfold US.write; rw [if_pos (by omega)]
      rw [hrd]
      have h7' : 7 < off := by omega
      subst hn
      clear hv
      go_enter Tryd.func24, Tryd.ntmps24
      go_wp2_with (fail)
      go_ret
      exact ⟨rfl, h.plus, Fr.refl _ _⟩
  · have hrd : s.write off n v = (s, false) := by unfold US.write; rw [if_pos (by omega)]
    rw [hrd]
    have hn' : (n != 1) = true := by rw [bne_iff_ne]; exact hn
    clear hv
    go_enter Tryd.func24, Tryd.ntmps24
    go_wp2_with (fail)
    go_ret
    exact ⟨rfl, h.plus, Fr.refl _ _⟩
end Go.Proofs.YtcnglhneknbllaaDoor

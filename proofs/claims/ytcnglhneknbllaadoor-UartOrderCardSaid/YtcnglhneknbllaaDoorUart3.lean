/-
  Contracts of package uart, the third part: (*Uart).Write.
-/
import Derived.Test.YtcnglhneknbllaaDoorUart2
namespace Go.Proofs.YtcnglhneknbllaaDoor
open Go Go.RowKit

/-- Which bits of a register are kept. -/
def keptN : List Nat := [0, 15, 1, 255, 31, 0, 0, 255, 255, 255]
/-- The package's table of them stands in memory. -/
def KeptAt (w : World) : Prop := ∀ i x, keptN[i]? = some x → w.cell? ⟨0, i, none⟩ = some (u8v x)
theorem KeptAt.all {w : World} (h : KeptAt w) : w.cell? ⟨0, 0, none⟩ = some (.int .u8 0) ∧ w.cell? ⟨0, 1, none⟩ = some (.int .u8 15) ∧ w.cell? ⟨0, 2, none⟩ = some (.int .u8 1) ∧
    w.cell? ⟨0, 3, none⟩ = some (.int .u8 255) ∧ w.cell? ⟨0, 4, none⟩ = some (.int .u8 31) ∧ w.cell? ⟨0, 5, none⟩ = some (.int .u8 0) ∧ w.cell? ⟨0, 6, none⟩ = some (.int .u8 0) ∧
    w.cell? ⟨0, 7, none⟩ = some (.int .u8 255) ∧ w.cell? ⟨0, 8, none⟩ = some (.int .u8 255) ∧ w.cell? ⟨0, 9, none⟩ = some (.int .u8 255) :=
  ⟨h 0 0 rfl, h 1 15 rfl, h 2 1 rfl, h 3 255 rfl, h 4 31 rfl, h 5 0 rfl, h 6 0 rfl, h 7 255 rfl, h 8 255 rfl, h 9 255 rfl⟩
theorem KeptAt.fr {w w' : World} {S : Nat → Prop} (h : KeptAt w) (hf : Fr S w w') (hs : ¬ S 0) : KeptAt w' := fun i x hx => hf.cell (h i x hx) hs

theorem u8_and_mask (b n : Nat) (hb : b < 256) (hn : n ≤ 8) : bits .and .u8 (b : Int) (((2 ^ n - 1 : Nat)) : Int) = ((b % 2 ^ n : Nat) : Int) := by
  have h2 : 2 ^ n ≤ 2 ^ 8 := Nat.pow_le_pow_right (by omega) hn
  rw [u8_and_nat _ _ hb (by omega), Nat.and_two_pow_sub_one_eq_mod]
theorem and0 (b : Nat) (hb : b < 256) : bits .and .u8 (b : Int) 0 = 0 := by simpa [Nat.mod_one] using u8_and_mask b 0 hb (by omega)
theorem and1 (b : Nat) (hb : b < 256) : bits .and .u8 (b : Int) 1 = ((b % 2 : Nat) : Int) := u8_and_mask b 1 hb (by omega)
theorem and15 (b : Nat) (hb : b < 256) : bits .and .u8 (b : Int) 15 = ((b % 16 : Nat) : Int) := u8_and_mask b 4 hb (by omega)
theorem and31 (b : Nat) (hb : b < 256) : bits .and .u8 (b : Int) 31 = ((b % 32 : Nat) : Int) := u8_and_mask b 5 hb (by omega)
theorem and255 (b : Nat) (hb : b < 256) : bits .and .u8 (b : Int) 255 = ((b : Nat) : Int) := by
  have h := u8_and_mask b 8 hb (by omega)
  rw [Nat.mod_eq_of_lt (by omega)] at h
  exact h

/-- A line of which one or two plain cells were written, behind draws. -/
theorem UAt.drew {C : Value → Value → US → Array Value} {T : TypeId} {w : World} {b : Nat} {s : US} {F : Nat → Prop} (h : UAt C T w b s F) : UAt C T w.drew b s F := h.fr (S := No) ((Fr.refl _ w).drew) (fun _ _ h => h)

section
variable (w : World) (b : Nat) (s : US) (F : Nat → Prop) (off v x : Nat) (h7 : off ≤ 7) (hv : IntKind.u8.wrap (v : Int) = (x : Int)) (hx : x < 256) (h : UartAt w b s F) (hk : KeptAt w) (hF0 : ¬ F 0)
/-- What a writing ends in. -/
def Wrote (w : World) (b : Nat) (s' : US) (F : Nat → Prop) (e : Ending) (w' : World) : Prop := e = .returned (.bool true) ∧ UartAt w' b s' (Plus F w w') ∧ Fr F w w'
include h7 hv hx h hk
set_option maxRecDepth 100000 in
set_option maxHeartbeats 4000000 in
/-- The registers that are only kept. -/
theorem Write_plain (k : Nat) (hr : s.reg off = k) (hk10 : k = 3 ∨ k = 4 ∨ k = 5 ∨ k = 6 ∨ k = 7 ∨ k = 8 ∨ k = 9) :
    Calls Tryd.prog 16 #[.pointer (some ⟨b, 0, none⟩), .int .u64 (off : Int), .int .i64 1, .int .u64 (v : Int)] w (Wrote w b (s.putR k x) F) := by
  have hok : (s.putR k x).Ok := by rw [← hr, ← s.put_reg off x h7]; exact h.ok.put off x hx
  obtain ⟨ai, ci, ao, co, hc, hfz, hic, him, hoc, hom⟩ := h.facts
  simp only [ucells] at hc
  have ha0 := and0 x hx
  have ha1 := and31 x hx
  have ha2 := and255 x hx
  have hset := fun (i : Nat) (y : Value) (s' : US) (hs' : s'.Ok) => h.set hs' i y
  have hfr := fun (i : Nat) (y : Value) => frOne (w := w) (b := b) (i := i) h.self y
  have HS := Lib.hid hset
  have HF := Lib.hid hfr
  have HU := Lib.hid h
  obtain ⟨_, _, _, q3, q4, q5, q6, q7, q8, q9⟩ := hk.all
  clear hset hfr hk
  rcases hk10 with rfl | rfl | rfl | rfl | rfl | rfl | rfl
  all_goals
    simp only [US.putR, if_true, if_false, Nat.reduceEqDiff] at hok ⊢
    have HK := Lib.hid hok
    clear hok
    go_enter Tryd.func16, Tryd.ntmps16
    go_wp2_with (go_at_call 44; refine (register_c _ b s F off h7 HU.out).mono ?_; rintro e w' ⟨rfl, rfl⟩)
    go_region
    all_goals go_wp2_with (fail)
    go_ret
    exact ⟨rfl, (HS.out _ _ _ HK.out rfl rfl (fun _ _ => rfl)).drew.plus, HF.out _ _⟩

set_option maxRecDepth 100000 in
set_option maxHeartbeats 4000000 in
theorem Write_enable (hr : s.reg off = 1) :
    Calls Tryd.prog 16 #[.pointer (some ⟨b, 0, none⟩), .int .u64 (off : Int), .int .i64 1, .int .u64 (v : Int)] w (Wrote w b (s.putR 1 x) F) := by
  have hok : (s.putR 1 x).Ok := by rw [← hr, ← s.put_reg off x h7]; exact h.ok.put off x hx
  obtain ⟨ai, ci, ao, co, hc, hfz, hic, him, hoc, hom⟩ := h.facts
  simp only [ucells] at hc
  have ha0 := and15 x hx
  have hier := h.ok.ier
  have hmid : ({ s with sent := true } : US).Ok := ⟨h.ok.inn, h.ok.out, h.ok.ier, h.ok.fcr, h.ok.lcr, h.ok.mcr, h.ok.scr, h.ok.dl, h.ok.dm, h.ok.ilen, h.ok.olen⟩
  have hset1 := h.set hmid 13 (.bool true) rfl rfl (fun _ _ => rfl)
  have hset := fun (y : Value) (s' : US) (hs' : s'.Ok) => h.set hs' 3 y
  have hset2 := fun (y : Value) (s' : US) (hs' : s'.Ok) => hset1.set hs' 3 y
  have hfr := fun (y : Value) => frOne (w := w) (b := b) (i := 3) h.self y
  have hfr2 := fun (y : Value) => (((Fr.put w b 13 (.bool true)).trans (Fr.put _ b 3 y)).mono (T := F) (fun k _ hk => by rw [show k = b from hk]; exact h.self)).drew
  have HS := Lib.hid hset
  have HF := Lib.hid hfr
  have HS2 := Lib.hid hset2
  have HF2 := Lib.hid hfr2
  have HU := Lib.hid h
  have hput : ∀ t1 t2 : Bool, s.ier.testBit 1 = t1 → x.testBit 1 = t2 → s.putR 1 x = { s with ier := x % 16, sent := if t1 = false ∧ t2 = true then true else s.sent } := fun t1 t2 h1 h2 => by rw [← h1, ← h2]; rfl
  obtain ⟨_, q1, _, _, _, _, _, _, _, _⟩ := hk.all
  clear hset hfr hset1 hset2 hfr2 hk hmid
  rcases Bool.eq_false_or_eq_true (s.ier.testBit 1) with t1 | t1 <;> rcases Bool.eq_false_or_eq_true (x.testBit 1) with t2 | t2
  all_goals
    rw [hput _ _ t1 t2] at hok ⊢
    clear hput
    simp only [and_true, reduceCtorEq, and_false, if_false, if_true, Bool.false_eq_true] at hok ⊢
    have HK := Lib.hid hok
    clear hok
    go_enter Tryd.func16, Tryd.ntmps16
    go_wp2_with (first
      | (go_at_call 44; refine (register_c _ b s F off h7 HU.out).mono ?_; rintro e w' ⟨rfl, rfl⟩)
      | (go_at_call 45; refine (Bit_u8 _ _ _ (by omega) (by omega) (by omega)).mono ?_; rintro e w' ⟨rfl, rfl⟩))
    go_region
    all_goals go_wp2_with (fail)
    go_ret
    first
      | exact ⟨rfl, (HS.out _ _ HK.out rfl rfl (fun _ _ => rfl)).drew.plus, HF.out _⟩
      | exact ⟨rfl, (HS2.out _ _ HK.out rfl rfl (fun _ _ => rfl)).drew.plus, HF2.out _⟩

set_option maxRecDepth 100000 in
set_option maxHeartbeats 4000000 in
theorem Write_identify (hr : s.reg off = 2) :
    Calls Tryd.prog 16 #[.pointer (some ⟨b, 0, none⟩), .int .u64 (off : Int), .int .i64 1, .int .u64 (v : Int)] w (Wrote w b (s.putR 2 x) F) := by
  have hok : (s.putR 2 x).Ok := by rw [← hr, ← s.put_reg off x h7]; exact h.ok.put off x hx
  obtain ⟨ai, ci, ao, co, hc, hfz, hic, him, hoc, hom⟩ := h.facts
  simp only [ucells] at hc
  have ha0 := and1 x hx
  have hmid : ({ s with inn := [] } : US).Ok := ⟨fun _ hx => by (cases hx), h.ok.out, h.ok.ier, h.ok.fcr, h.ok.lcr, h.ok.mcr, h.ok.scr, h.ok.dl, h.ok.dm, by simp, h.ok.olen⟩
  have hset1 : UartAt (w.setCell ⟨b, 0, none⟩ (.slice none 0 0)) b { s with inn := [] } F := by
    obtain ⟨g1, g2, hBd, vi, vo, Fi, Fo, hb, hi, ho, hFi, hFo⟩ := h
    exact ⟨hmid, g2, fun k hk => by simpa using hBd k hk, _, vo, No, Fo, hb.put 0 _, Own.nil_ _ _ _ _, ho.fr (Fr.put w b 0 _) (fun k hk => (hFo k hk).2), fun k hk => hk.elim, hFo⟩
  have hset := fun (y : Value) (s' : US) (hs' : s'.Ok) => h.set hs' 4 y
  have hset2 := fun (y : Value) (s' : US) (hs' : s'.Ok) => hset1.set hs' 4 y
  have hfr := fun (y : Value) => frOne (w := w) (b := b) (i := 4) h.self y
  have hfr2 := fun (y : Value) => (((Fr.put w b 0 (.slice none 0 0)).trans (Fr.put _ b 4 y)).mono (T := F) (fun k _ hk => by rw [show k = b from hk]; exact h.self)).drew
  have HS := Lib.hid hset
  have HF := Lib.hid hfr
  have HS2 := Lib.hid hset2
  have HF2 := Lib.hid hfr2
  have HU := Lib.hid h
  have hput : ∀ t2 : Bool, x.testBit 1 = t2 → s.putR 2 x = { s with fcr := x % 2, inn := if t2 = true then [] else s.inn } := fun t2 h2 => by rw [← h2]; rfl
  obtain ⟨_, _, q1, _, _, _, _, _, _, _⟩ := hk.all
  clear hset hfr hset1 hset2 hfr2 hk hmid
  rcases Bool.eq_false_or_eq_true (x.testBit 1) with t2 | t2
  all_goals
    rw [hput _ t2] at hok ⊢
    clear hput
    simp only [if_false, if_true, Bool.false_eq_true] at hok ⊢
    have HK := Lib.hid hok
    clear hok
    go_enter Tryd.func16, Tryd.ntmps16
    go_wp2_with (first
      | (go_at_call 44; refine (register_c _ b s F off h7 HU.out).mono ?_; rintro e w' ⟨rfl, rfl⟩)
      | (go_at_call 45; refine (Bit_u8 _ _ _ (by omega) (by omega) (by omega)).mono ?_; rintro e w' ⟨rfl, rfl⟩))
    go_region
    all_goals go_wp2_with (fail)
    go_ret
    first
      | exact ⟨rfl, (HS.out _ _ HK.out rfl rfl (fun _ _ => rfl)).drew.plus, HF.out _⟩
      | exact ⟨rfl, (HS2.out _ _ HK.out rfl rfl (fun _ _ => rfl)).drew.plus, HF2.out _⟩

include hF0
set_option maxRecDepth 100000 in
set_option maxHeartbeats 4000000 in
theorem Write_data (hr : s.reg off = 0) :
    Calls Tryd.prog 16 #[.pointer (some ⟨b, 0, none⟩), .int .u64 (off : Int), .int .i64 1, .int .u64 (v : Int)] w (Wrote w b (s.putR 0 x) F) := by
  have hok : (s.putR 0 x).Ok := by rw [← hr, ← s.put_reg off x h7]; exact h.ok.put off x hx
  have ha0 := and0 x hx
  have hol := h.ok.olen
  by_cases hroom : s.out.length < 65536
  · have hput : s.putR 0 x = { s with out := s.out ++ [x], sent := true } := by simp [US.putR, hroom]
    rw [hput] at hok ⊢
    have HU := Lib.hid h
    obtain ⟨h1, h2, hBd, vi, vo, Fi, Fo, hb, hi, ho, hFi, hFo⟩ := h
    obtain ⟨ai, ci, rfl, hic, him⟩ := hi.slice
    obtain ⟨ao, co, rfl, hoc, hom⟩ := ho.slice
    have hlt : ∀ y : Nat, y = s.out.length → ((y : Int) < 65536) = True := fun y hy => eq_true (by omega)
    have HRM := Lib.hid hroom
    clear him hom hroom hol
    obtain ⟨i0, hi0, hz0, hz1, hz2⟩ := info_parts info_u8
    have hA := (Fr.refl No w).alloc (.cells #[u8v x] 5)
    have hbA := hb.fr hA (fun h => h)
    have HI1 := Lib.hid (hi.fr hA (fun k _ h => h))
    have HO1 := Lib.hid (ho.fr hA (fun k _ h => h))
    have HR := Lib.hid (Rd.new w 5 [u8v x] 1 (by unfold maxLen; omega))
    have HI := Lib.hid hi0
    have H0 := Lib.hid hz0
    have H1 := Lib.hid hz1
    have H2 := Lib.hid hz2
    have HB := Lib.hid hbA
    have HK := Lib.hid hok
    have HA := Lib.hid hA
    have HFO := Lib.hid hFo
    have HFI := Lib.hid hFi
    have HKP := Lib.hid hk
    obtain ⟨q0, _⟩ := hk.all
    clear hi0 hz0 hz1 hz2 hi ho hok hFi hFo hA hbA hput hk
    have hc := fun o => hb.cell o
    have hfz := fun o => hb.free o
    simp only [ucells] at hc
    go_enter Tryd.func16, Tryd.ntmps16
    go_wp2_with
     (first
      | (go_at_call 44; refine (register_c _ b s F off h7 HU.out).mono ?_; rintro e w' ⟨rfl, rfl⟩)
      | (at_builtin
         refine wpList_append _ rfl (.tmp 39) (.tmp 41) _ rfl 5 i0 _ 1 1 Tryd.underlying27 HI.out H0.out H1.out H2.out rfl _ s.out.length (bytesV s.out) Fo rfl HO1.out _ 1 [u8v x] rfl HR.out rfl (bytesV_one [x]) (by have := HRM.out; unfold maxLen; omega) (by have := HRM.out; omega) ?_
         intro v1 w1 hown1 hf1
         obtain ⟨a1, c1, hv1, _, _⟩ := hown1.slice
         subst hv1
         have hfw1 : Fr F w w1 := (HA.out.mono (fun _ _ h => h.elim)).andThen hf1 (fun k _ hk => (HFO.out k hk).1)
         have hb1 := HB.out.fr hf1 (fun h => (HFO.out b h).2 rfl)
         have q01 := (HKP.out.fr hfw1 hF0).all.1
         have hc1 := fun o => hb1.cell o
         have hfz1 := fun o => hb1.free o
         simp only [ucells] at hc1))
    go_region
    all_goals go_wp2_with (fail)
    go_ret
    have hp := ((Fr.put w1 b 1 (.slice a1 (s.out.length + 1) c1)).trans (Fr.put _ b 13 (.bool true))).trans (Fr.put _ b 2 (.int .u8 0))
    have hsz := hfw1.size
    have hs1 := hf1.size
    simp only [World.size_alloc] at hs1
    have hFiB : ∀ k, Fi k → k < w.heap.size := fun k hk => hBd k (HFI.out k hk).1
    refine ⟨rfl, ⟨HK.out, .inl h2, fun k hk => ?_, _, _, Fi, fun k => (Fo k ∨ k = w.heap.size + 1) ∧ k < w1.heap.size, ((hb1.put 1 _).put 13 _).put 2 _, ?_, ?_, ?_, ?_⟩, (hfw1.trans (hp.mono (fun k _ hk => by rw [show k = b from hk]; exact h2))).drew⟩
    · rcases hk with h | h
      · simp only [World.size_drew, World.size_setCell]; exact Nat.lt_of_lt_of_le (hBd k h) hsz
      · exact h.2
    · exact (((HI1.out.fr hf1 (fun k hk hk' => (HFI.out k hk).2.2 hk'))).fr hp (fun k hk hk' => (HFI.out k hk).2.1 hk')).fr (S := No) ((Fr.refl _ _).drew) (fun _ _ h => h)
    · have e1 : (s.out ++ [x]).length = s.out.length + 1 := by simp
      have e2 : bytesV (s.out ++ [x]) = bytesV s.out ++ [u8v x] := bytesV_app _ _
      show Own _ _ _ _ (s.out ++ [x]).length (bytesV (s.out ++ [x])) _
      rw [e1, e2]
      refine ((hown1.cut.mono (G' := fun k => (Fo k ∨ k = w.heap.size + 1) ∧ k < w1.heap.size) (fun k hk => ⟨?_, hk.2⟩)).fr hp (fun k hk hk' => ?_)).fr (S := No) ((Fr.refl _ _).drew) (fun _ _ h => h)
      · rcases hk.1 with h | h
        · exact .inl h
        · rw [World.size_alloc] at h; exact .inr h
      · rw [show k = b from hk'] at hk
        have := HU.out.lt
        rcases hk.1 with h | h
        · exact (HFO.out b h).2 rfl
        · omega
    · intro k hk
      have := hFiB k hk
      exact ⟨.inl (HFI.out k hk).1, (HFI.out k hk).2.1, fun h' => by
        rcases h'.1 with h | h
        · exact (HFI.out k hk).2.2 h
        · omega⟩
    · intro k hk
      have := HU.out.lt
      have hk2 := hk.2
      rcases hk.1 with h | h
      · exact ⟨.inl (HFO.out k h).1, (HFO.out k h).2⟩
      · exact ⟨.inr ⟨by omega, by simpa using hk2⟩, by omega⟩
  · have hput : s.putR 0 x = { s with sent := true } := by simp [US.putR, hroom]
    rw [hput] at hok ⊢
    obtain ⟨ai, ci, ao, co, hc, hfz, hic, him, hoc, hom⟩ := h.facts
    simp only [ucells] at hc
    have hset1 := h.set hok 13 (.bool true) rfl rfl (fun _ _ => rfl)
    have hset2 := hset1.set hok 2 (.int .u8 0) rfl rfl (fun _ _ => rfl)
    have hfr2 := (((Fr.put w b 13 (.bool true)).trans (Fr.put _ b 2 (.int .u8 0))).mono (T := F) (fun k _ hk => by rw [show k = b from hk]; exact h.self)).drew
    have HS2 := Lib.hid hset2
    have HF2 := Lib.hid hfr2
    have HU := Lib.hid h
    obtain ⟨q0, _⟩ := hk.all
    have hlt : ∀ y : Nat, y = s.out.length → ((y : Int) < 65536) = False := fun y hy => eq_false (by omega)
    have HRM := Lib.hid hroom
    clear hset1 hset2 hfr2 hk hput hroom hol
    go_enter Tryd.func16, Tryd.ntmps16
    go_wp2_with (go_at_call 44; refine (register_c _ b s F off h7 HU.out).mono ?_; rintro e w' ⟨rfl, rfl⟩)
    go_region
    all_goals go_wp2_with (fail)
    go_ret
    exact ⟨rfl, HS2.out.drew.plus, HF2.out⟩
end

/-- (*Uart).Write, of a line that is one. -/
theorem Write_c (w : World) (b : Nat) (s : US) (F : Nat → Prop) (off : Nat) (n : Int) (v : Nat) (hoff : off < 18446744073709551616) (h : UartAt w b s F) (hk : KeptAt w) (hF0 : ¬ F 0) :
    Calls Tryd.prog 16 #[.pointer (some ⟨b, 0, none⟩), .int .u64 (off : Int), .int .i64 n, .int .u64 (v : Int)] w fun e w' =>
      e = .returned (.bool (s.write off n v).2) ∧ UartAt w' b (s.write off n v).1 (Plus F w w') ∧ Fr F w w' := by
  by_cases hn : n = 1
  · by_cases h7 : off ≤ 7
    · subst hn
      have hx : v % 256 < 256 := Nat.mod_lt _ (by omega)
      have hw : s.write off 1 v = (s.putR (s.reg off) (v % 256), true) := by unfold US.write; rw [if_neg (by omega), s.put_reg off _ h7]
      have hv : IntKind.u8.wrap (v : Int) = ((v % 256 : Nat) : Int) := by rw [IntKind.wrap_u8']; omega
      have hk9 := s.reg_le off h7
      rw [hw]
      have hk10 : s.reg off = 0 ∨ s.reg off = 1 ∨ s.reg off = 2 ∨ (s.reg off = 3 ∨ s.reg off = 4 ∨ s.reg off = 5 ∨ s.reg off = 6 ∨ s.reg off = 7 ∨ s.reg off = 8 ∨ s.reg off = 9) := by omega
      rcases hk10 with hr | hr | hr | hr
      · rw [hr]; exact Write_data w b s F off v _ h7 hv hx h hk hF0 hr
      · rw [hr]; exact Write_enable w b s F off v _ h7 hv hx h hk hr
      · rw [hr]; exact Write_identify w b s F off v _ h7 hv hx h hk hr
      · exact Write_plain w b s F off v _ h7 hv hx h hk _ rfl hr
    · have hrd : s.write off n v = (s, false) := by unfold US.write; rw [if_pos (by omega)]
      rw [hrd]
      have h7' : 7 < off := by omega
      subst hn
      clear hk hoff
      go_enter Tryd.func16, Tryd.ntmps16
      go_wp2_with (fail)
      go_ret
      exact ⟨rfl, h.plus, Fr.refl _ _⟩
  · have hrd : s.write off n v = (s, false) := by unfold US.write; rw [if_pos (by omega)]
    rw [hrd]
    have hn' : (n != 1) = true := by rw [bne_iff_ne]; exact hn
    clear hk hoff
    go_enter Tryd.func16, Tryd.ntmps16
    go_wp2_with (fail)
    go_ret
    exact ⟨rfl, h.plus, Fr.refl _ _⟩
end Go.Proofs.YtcnglhneknbllaaDoor

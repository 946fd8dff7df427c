/-
  The statement RamKnown: its walk.
-/
import Derived.Test.YtpnabfekidpnoaaRamK1
namespace Go.Proofs.Ytpnabfekidpnoaa
open Go Go.RowKit

def kM1 : Nat → Nat := writeR 4096 8192 zeroM 4096 2 4660
def kM2 : Nat → Nat := writeR 4096 8192 kM1 8190 4 16909060
def kM3 : Nat → Nat := writeR 4096 8192 kM2 8192 2 0
theorem kM1_supp : Supp kM1 4096 8192 := (Supp.zero _ _).write _ _ _
theorem kM2_supp : Supp kM2 4096 8192 := kM1_supp.write _ _ _
theorem kM3_supp : Supp kM3 4096 8192 := kM2_supp.write _ _ _
theorem kM_nz {m : Nat → Nat} (h : Supp m 4096 8192) (p : Nat) (hp : NZ m p) : p = 1 ∨ p = 2 := by
  have := Supp.nz (k0 := 1) (kn := 2) h p hp
  omega
theorem kM2_pages : PagesOf kM2 [4096, 8192] := by
  refine ⟨by simp, fun x => ⟨fun hx => ?_, fun ⟨p, hp, hn⟩ => ?_⟩⟩
  · simp only [List.mem_cons, List.not_mem_nil, or_false] at hx
    rcases hx with rfl | rfl
    · exact ⟨1, rfl, 0, by omega, by decide⟩
    · exact ⟨2, rfl, 0, by omega, by decide⟩
  · rcases kM_nz kM2_supp p hn with rfl | rfl
    · rw [hp]; simp
    · rw [hp]; simp
theorem kM3_pages : PagesOf kM3 [4096] := by
  refine ⟨by simp, fun x => ⟨fun hx => ?_, fun ⟨p, hp, hn⟩ => ?_⟩⟩
  · rw [List.mem_singleton.1 hx]
    exact ⟨1, rfl, 0, by omega, by decide⟩
  · rcases kM_nz kM3_supp p hn with rfl | rfl
    · rw [hp]; simp
    · exfalso
      obtain ⟨i, hi, hn⟩ := hn
      apply hn
      have e3 : kM3 = wrR kM2 8192 0 2 := rfl
      have e2 : kM2 = wrR kM1 8190 16909060 4 := rfl
      have e1 : kM1 = wrR zeroM 4096 4660 2 := rfl
      rw [e3, wrR_at]
      by_cases h2 : i < 2
      · rw [if_pos (by omega)]; simp
      · rw [if_neg (by omega), e2, wrR_at, if_neg (by omega), e1, wrR_at, if_neg (by omega)]
        rfl
theorem Rd.of_blk {w : World} {g : Nat} {t : TypeId} {cs : List Value} (h : Blk w g t cs.toArray) (n : Nat) (hn : n ≤ 67108864) : Rd w (.slice (some ⟨g, 0, none⟩) n n) n cs :=
  ⟨_, n, rfl, Nat.le_refl _, by unfold maxLen; omega, fun h => (by cases h), fun ad had j u hu => by
    cases had
    rw [addr_add, Nat.zero_add, h.cell, List.getElem?_toArray]
    exact hu⟩
theorem kM2_bytes : bytesR kM2 8190 4 = [4, 3, 2, 1] := by decide
set_option maxRecDepth 100000 in
set_option maxHeartbeats 4000000 in
theorem RamKnown_c (w : World) :
    Calls Try.prog 4 #[] w fun e w' => e = .returned (.bool true) ∧ Fr No w w' := by
  have G1 := Lib.hid (show ∀ W, Calls Try.prog 9 #[.int .u64 0, .int .u64 67108864] W fun r w' => ∃ b, r = .returned (.tuple #[.pointer (some ⟨b, 0, none⟩), .int .i64 0]) ∧ Fr No W w' from fun W => (new_c W 0 67108864 (by decide)).mono (fun r w' ⟨b, h1, _, h2⟩ => ⟨b, h1, h2⟩))
  have G2 := Lib.hid (show ∀ W, Calls Try.prog 9 #[.int .u64 9223372036854771712, .int .u64 4096] W fun r w' => ∃ b, r = .returned (.tuple #[.pointer (some ⟨b, 0, none⟩), .int .i64 0]) ∧ Fr No W w' from fun W => (new_c W 9223372036854771712 4096 (by decide)).mono (fun r w' ⟨b, h1, _, h2⟩ => ⟨b, h1, h2⟩))
  have G3 := Lib.hid (show ∀ W, Calls Try.prog 9 #[.int .u64 4096, .int .u64 8192] W fun r w' => ∃ b, r = .returned (.tuple #[.pointer (some ⟨b, 0, none⟩), .int .i64 0]) ∧ RAt w' b 4096 8192 zeroM 0 (Plus No W w') ∧ Fr No W w' from fun W => new_c W 4096 8192 (by decide))
  have B1 := Lib.hid (show ∀ W, Calls Try.prog 9 #[.int .u64 0, .int .u64 0] W fun r w' => r = .returned (.tuple #[.pointer none, .int .i64 1]) ∧ w' = W from fun W => new_bad W 0 0 (by decide) (by omega) (by omega))
  have B2 := Lib.hid (show ∀ W, Calls Try.prog 9 #[.int .u64 1, .int .u64 4096] W fun r w' => r = .returned (.tuple #[.pointer none, .int .i64 1]) ∧ w' = W from fun W => new_bad W 1 4096 (by decide) (by omega) (by omega))
  have B3 := Lib.hid (show ∀ W, Calls Try.prog 9 #[.int .u64 4096, .int .u64 67112960] W fun r w' => r = .returned (.tuple #[.pointer none, .int .i64 1]) ∧ w' = W from fun W => new_bad W 4096 67112960 (by decide) (by omega) (by omega))
  have B4 := Lib.hid (show ∀ W, Calls Try.prog 9 #[.int .u64 9223372036854771712, .int .u64 8192] W fun r w' => r = .returned (.tuple #[.pointer none, .int .i64 1]) ∧ w' = W from fun W => new_bad W 9223372036854771712 8192 (by decide) (by omega) (by omega))
  go_enter Try.func4, Try.ntmps4
  go_wp2_with fail
  refine (G1.out _).mono ?_
  rintro e w1 ⟨b1, rfl, hf1⟩
  have F1 := Lib.hid hf1
  clear hf1
  go_wp2_with fail
  refine (B1.out _).mono ?_
  rintro e w2 ⟨rfl, rfl⟩
  go_wp2_with fail
  refine (B2.out _).mono ?_
  rintro e w3 ⟨rfl, rfl⟩
  go_wp2_with fail
  refine (B3.out _).mono ?_
  rintro e w4 ⟨rfl, rfl⟩
  go_wp2_with fail
  refine (B4.out _).mono ?_
  rintro e w5 ⟨rfl, rfl⟩
  go_wp2_with fail
  refine (G2.out _).mono ?_
  rintro e w6 ⟨b6, rfl, hf6⟩
  have F6 := Lib.hid (F1.out.trans hf6)
  clear hf6
  go_wp2_with fail
  refine (G3.out _).mono ?_
  rintro e w7 ⟨b, rfl, hA7, hf7⟩
  have HA7 := Lib.hid (hA7.mono (F' := fun k => w.heap.size ≤ k) (fun k h => h.elim (fun h => h.elim) (fun h => Nat.le_trans F6.out.size h.1)))
  have F7 := Lib.hid (F6.out.trans hf7)
  clear hA7 hf7
  go_wp2_with fail
  have hq : Calls Try.prog 11 #[.pointer (some ⟨b, 0, none⟩), .int .u64 4096, .int .i64 2, .int .u64 4660] w7 fun r w' => r = .returned (.bool true) ∧ RAt w' b 4096 8192 kM1 (0 + 8) (Plus (fun k => w.heap.size ≤ k) w7 w') ∧ Fr (fun k => w.heap.size ≤ k) w7 w' := write_c w7 b 4096 8192 zeroM 0 _ 4096 4660 2 HA7.out (by omega) (by omega) (by omega) (by omega) (by omega)
  have HQ := Lib.hid hq
  clear hq
  refine HQ.out.mono ?_
  rintro e w8 ⟨rfl, hA8, hf8⟩
  have HA8 := Lib.hid (hA8.mono (F' := fun k => w.heap.size ≤ k) (fun k h => h.elim (fun h => h) (fun h => Nat.le_trans F7.out.size h.1)))
  have F8 := Lib.hid (show Fr No w w8 from F7.out.andThen hf8 (fun k hk h => by have h2 : w.heap.size ≤ k := h; omega))
  clear hA8 hf8 HA7 HQ
  go_wp2_with fail
  have hq5 : Calls Try.prog 13 #[.pointer (some ⟨b, 0, none⟩), .int .u64 4096, .int .i64 1] w8 fun r w' => r = .returned (.tuple #[.int .u64 52, .bool true]) ∧ ∃ k, w' = (w8).drewN k := read_c w8 b 4096 8192 kM1 _ _ 4096 1 HA8.out (by omega) (by omega) (by omega)
  have HQ5 := Lib.hid hq5
  clear hq5
  refine HQ5.out.mono ?_
  rintro e w9 ⟨rfl, kk5, hk5⟩
  have hf5 : Fr No w8 w9 := by rw [hk5]; exact (Fr.refl No w8).drewN _
  have HA9 := Lib.hid (HA8.out.fr hf5 (fun _ _ q => q))
  have F9 := Lib.hid (F8.out.trans hf5)
  clear hf5 hk5 HQ5
  go_wp2_with fail
  have hq6 : Calls Try.prog 13 #[.pointer (some ⟨b, 0, none⟩), .int .u64 4097, .int .i64 1] w9 fun r w' => r = .returned (.tuple #[.int .u64 18, .bool true]) ∧ ∃ k, w' = (w9).drewN k := read_c w9 b 4096 8192 kM1 _ _ 4097 1 HA9.out (by omega) (by omega) (by omega)
  have HQ6 := Lib.hid hq6
  clear hq6
  refine HQ6.out.mono ?_
  rintro e w10 ⟨rfl, kk6, hk6⟩
  have hf6 : Fr No w9 w10 := by rw [hk6]; exact (Fr.refl No w9).drewN _
  have HA10 := Lib.hid (HA9.out.fr hf6 (fun _ _ q => q))
  have F10 := Lib.hid (F9.out.trans hf6)
  clear hf6 hk6 HQ6
  go_wp2_with fail
  have hq7 : Calls Try.prog 13 #[.pointer (some ⟨b, 0, none⟩), .int .u64 4095, .int .i64 2] w10 fun r w' => r = .returned (.tuple #[.int .u64 0, .bool false]) ∧ ∃ k, w' = (w10).drewN k := read_c w10 b 4096 8192 kM1 _ _ 4095 2 HA10.out (by omega) (by omega) (by omega)
  have HQ7 := Lib.hid hq7
  clear hq7
  refine HQ7.out.mono ?_
  rintro e w11 ⟨rfl, kk7, hk7⟩
  have hf7 : Fr No w10 w11 := by rw [hk7]; exact (Fr.refl No w10).drewN _
  have HA11 := Lib.hid (HA10.out.fr hf7 (fun _ _ q => q))
  have F11 := Lib.hid (F10.out.trans hf7)
  clear hf7 hk7 HQ7
  go_wp2_with fail
  have hq8 : Calls Try.prog 13 #[.pointer (some ⟨b, 0, none⟩), .int .u64 12284, .int .i64 8] w11 fun r w' => r = .returned (.tuple #[.int .u64 0, .bool false]) ∧ ∃ k, w' = (w11).drewN k := read_c w11 b 4096 8192 kM1 _ _ 12284 8 HA11.out (by omega) (by omega) (by omega)
  have HQ8 := Lib.hid hq8
  clear hq8
  refine HQ8.out.mono ?_
  rintro e w12 ⟨rfl, kk8, hk8⟩
  have hf8 : Fr No w11 w12 := by rw [hk8]; exact (Fr.refl No w11).drewN _
  have HA12 := Lib.hid (HA11.out.fr hf8 (fun _ _ q => q))
  have F12 := Lib.hid (F11.out.trans hf8)
  clear hf8 hk8 HQ8
  go_wp2_with fail
  have hq9 : Calls Try.prog 13 #[.pointer (some ⟨b, 0, none⟩), .int .u64 4096, .int .i64 3] w12 fun r w' => r = .returned (.tuple #[.int .u64 0, .bool false]) ∧ ∃ k, w' = (w12).drewN k := read_c w12 b 4096 8192 kM1 _ _ 4096 3 HA12.out (by omega) (by omega) (by omega)
  have HQ9 := Lib.hid hq9
  clear hq9
  refine HQ9.out.mono ?_
  rintro e w13 ⟨rfl, kk9, hk9⟩
  have hf9 : Fr No w12 w13 := by rw [hk9]; exact (Fr.refl No w12).drewN _
  have HA13 := Lib.hid (HA12.out.fr hf9 (fun _ _ q => q))
  have F13 := Lib.hid (F12.out.trans hf9)
  clear hf9 hk9 HQ9
  go_wp2_with fail
  have hq : Calls Try.prog 11 #[.pointer (some ⟨b, 0, none⟩), .int .u64 8190, .int .i64 4, .int .u64 16909060] w13 fun r w' => r = .returned (.bool true) ∧ RAt w' b 4096 8192 kM2 (0 + 8 + 8) (Plus (fun k => w.heap.size ≤ k) w13 w') ∧ Fr (fun k => w.heap.size ≤ k) w13 w' := write_c w13 b 4096 8192 kM1 _ _ 8190 16909060 4 HA13.out (by omega) (by omega) (by omega) (by omega) (by omega)
  have HQ := Lib.hid hq
  clear hq
  refine HQ.out.mono ?_
  rintro e w14 ⟨rfl, hA14, hf14⟩
  have HA14 := Lib.hid (hA14.mono (F' := fun k => w.heap.size ≤ k) (fun k h => h.elim (fun h => h) (fun h => Nat.le_trans F13.out.size h.1)))
  have F14 := Lib.hid (show Fr No w w14 from F13.out.andThen hf14 (fun k hk h => by have h2 : w.heap.size ≤ k := h; omega))
  clear hA14 hf14 HQ
  go_wp2_with fail
  have hq : Calls Try.prog 12 #[.pointer (some ⟨b, 0, none⟩), .int .u64 8190, .int .i64 4] w14 fun r w' => ∃ g, r = .returned (.tuple #[.slice (some ⟨g, 0, none⟩) 4 4, .bool true]) ∧ Blk w' g 5 (bV (bytesR kM2 8190 4)).toArray ∧ w14.heap.size ≤ g ∧ Fr No w14 w' := bytes_c w14 b 4096 8192 kM2 _ _ 8190 4 HA14.out (by omega) (by omega) (by omega) (by decide)
  have HQ := Lib.hid hq
  clear hq
  refine HQ.out.mono ?_
  rintro e w15 ⟨g, rfl, hB15, _, hf15⟩
  rw [kM2_bytes] at hB15
  have HB15 := Lib.hid hB15
  have HA15 := Lib.hid (HA14.out.fr hf15 (fun _ _ q => q))
  have F15 := Lib.hid (F14.out.trans hf15)
  clear hB15 hf15 HQ
  go_wp2_with fail
  obtain ⟨X, hX⟩ : ∃ X, X = w15.alloc (.cells #[.int .u8 4, .int .u8 3, .int .u8 2, .int .u8 1] 5) := ⟨_, rfl⟩
  have hBX : Blk X w15.heap.size 5 (bV [4, 3, 2, 1]).toArray := by rw [hX]; exact Blk.new w15 _ _
  have hfX : Fr No w15 X := by rw [hX]; exact (Fr.refl No w15).alloc _
  rw [← hX]
  have hR1 : Rd X (.slice (some ⟨g, 0, none⟩) 4 4) 4 (bytesV [4, 3, 2, 1]) := Rd.of_blk (HB15.out.fr hfX (fun q => q)) 4 (by omega)
  have hR2 : Rd X (.slice (some ⟨w15.heap.size, 0, none⟩) 4 4) 4 (bytesV [4, 3, 2, 1]) := Rd.of_blk hBX 4 (by omega)
  have HSM := Lib.hid (lawsame_c X _ _ [4, 3, 2, 1] [4, 3, 2, 1] hR1 hR2 (by decide) (by decide))
  have HAX := Lib.hid (HA15.out.fr hfX (fun _ _ q => q))
  have FX := Lib.hid (F15.out.trans hfX)
  clear hX hBX hfX hR1 hR2
  refine HSM.out.mono ?_
  rintro e w16 ⟨rfl, hf16⟩
  rw [decide_eq_true (show [4, 3, 2, 1] = [4, 3, 2, 1] from rfl)]
  have HA16 := Lib.hid (HAX.out.fr hf16 (fun _ _ q => q))
  have F16 := Lib.hid (FX.out.trans hf16)
  clear hf16 HSM
  go_wp2_with fail
  have HPG := Lib.hid (pages_c w16 b 4096 8192 kM2 _ _ HA16.out (fun x hx => by have := kM2_supp x hx; omega) 1 2 (fun p hp => Supp.nz kM2_supp p hp) (by omega))
  refine HPG.out.mono ?_
  rintro e w17 ⟨vw17, lw17, rfl, hown, hpo, hf⟩
  obtain rfl : lw17 = [4096, 8192] := PagesOf.unique hpo kM2_pages
  obtain ⟨aw17, cw17, rfl, _, _⟩ := hown.slice
  have HOw17 := Lib.hid hown.rd
  have HAw17 := Lib.hid (HA16.out.fr hf (fun _ _ q => q))
  have Fw17 := Lib.hid (F16.out.trans hf)
  clear hown hpo hf HPG
  go_wp2_with fail
  obtain ⟨Xw17, hX⟩ : ∃ X, X = w17.alloc (.cells #[.int .u64 4096, .int .u64 8192] 22) := ⟨_, rfl⟩
  have hBX : Blk Xw17 w17.heap.size 22 #[.int .u64 4096, .int .u64 8192] := by rw [hX]; exact Blk.new w17 _ _
  have hfX : Fr No w17 Xw17 := by rw [hX]; exact (Fr.refl No w17).alloc _
  rw [← hX]
  have HRX := Lib.hid (show Rd Xw17 (.slice (some ⟨w17.heap.size, 0, none⟩) ([4096, 8192] : List Nat).length ([4096, 8192] : List Nat).length) ([4096, 8192] : List Nat).length (uV [4096, 8192]) from Rd.of_blk hBX _ (by decide))
  have HRY := Lib.hid (HOw17.out.fr hfX (fun _ _ _ q => q))
  have HAXw17 := Lib.hid (HAw17.out.fr hfX (fun _ _ q => q))
  have FXw17 := Lib.hid (Fw17.out.trans hfX)
  clear hX hBX hfX
  refine (numbers_c Xw17 _ _ [4096, 8192] HRY.out HRX.out).mono ?_
  rintro e Yw17 ⟨rfl, hf⟩
  have HAYw17 := Lib.hid (HAXw17.out.fr hf (fun _ _ q => q))
  have FYw17 := Lib.hid (FXw17.out.trans hf)
  clear hf HRX HRY
  go_wp2_with fail
  have hq : Calls Try.prog 11 #[.pointer (some ⟨b, 0, none⟩), .int .u64 8192, .int .i64 2, .int .u64 0] Yw17 fun r w' => r = .returned (.bool true) ∧ RAt w' b 4096 8192 kM3 (0 + 8 + 8 + 8) (Plus (fun k => w.heap.size ≤ k) Yw17 w') ∧ Fr (fun k => w.heap.size ≤ k) Yw17 w' := write_c Yw17 b 4096 8192 kM2 _ _ 8192 0 2 HAYw17.out (by omega) (by omega) (by omega) (by omega) (by omega)
  have HQ := Lib.hid hq
  clear hq
  refine HQ.out.mono ?_
  rintro e w18 ⟨rfl, hA18, hf18⟩
  have HA18 := Lib.hid (hA18.mono (F' := fun k => w.heap.size ≤ k) (fun k h => h.elim (fun h => h) (fun h => Nat.le_trans FYw17.out.size h.1)))
  have F18 := Lib.hid (show Fr No w w18 from FYw17.out.andThen hf18 (fun k hk h => by have h2 : w.heap.size ≤ k := h; omega))
  clear hA18 hf18 HQ
  go_wp2_with fail
  have HPG := Lib.hid (pages_c w18 b 4096 8192 kM3 _ _ HA18.out (fun x hx => by have := kM3_supp x hx; omega) 1 2 (fun p hp => Supp.nz kM3_supp p hp) (by omega))
  refine HPG.out.mono ?_
  rintro e w19 ⟨vw19, lw19, rfl, hown, hpo, hf⟩
  obtain rfl : lw19 = [4096] := PagesOf.unique hpo kM3_pages
  obtain ⟨aw19, cw19, rfl, _, _⟩ := hown.slice
  have HOw19 := Lib.hid hown.rd
  have HAw19 := Lib.hid (HA18.out.fr hf (fun _ _ q => q))
  have Fw19 := Lib.hid (F18.out.trans hf)
  clear hown hpo hf HPG
  go_wp2_with fail
  obtain ⟨Xw19, hX⟩ : ∃ X, X = w19.alloc (.cells #[.int .u64 4096] 22) := ⟨_, rfl⟩
  have hBX : Blk Xw19 w19.heap.size 22 #[.int .u64 4096] := by rw [hX]; exact Blk.new w19 _ _
  have hfX : Fr No w19 Xw19 := by rw [hX]; exact (Fr.refl No w19).alloc _
  rw [← hX]
  have HRX := Lib.hid (show Rd Xw19 (.slice (some ⟨w19.heap.size, 0, none⟩) ([4096] : List Nat).length ([4096] : List Nat).length) ([4096] : List Nat).length (uV [4096]) from Rd.of_blk hBX _ (by decide))
  have HRY := Lib.hid (HOw19.out.fr hfX (fun _ _ _ q => q))
  have HAXw19 := Lib.hid (HAw19.out.fr hfX (fun _ _ q => q))
  have FXw19 := Lib.hid (Fw19.out.trans hfX)
  clear hX hBX hfX
  refine (numbers_c Xw19 _ _ [4096] HRY.out HRX.out).mono ?_
  rintro e Yw19 ⟨rfl, hf⟩
  have HAYw19 := Lib.hid (HAXw19.out.fr hf (fun _ _ q => q))
  have FYw19 := Lib.hid (FXw19.out.trans hf)
  clear hf HRX HRY
  go_wp2_with fail
  refine (awake_c Yw19).mono ?_
  rintro e w20 ⟨rfl, hf20⟩
  have HA20 := Lib.hid (HAYw19.out.fr hf20 (fun _ _ q => q))
  have F20 := Lib.hid (FYw19.out.trans hf20)
  clear hf20
  go_wp2_with fail
  have hq10 : Calls Try.prog 17 #[.pointer (some ⟨b, 0, none⟩), .int .u64 12288, .int .i64 0] w20 fun r w' => r = .returned (.bool true) ∧ Fr No w20 w' := hasC w20 b 4096 8192 kM3 _ _ 12288 0 HA20.out (by omega) (by omega) (by omega) _ (by decide)
  have HQ10 := Lib.hid hq10
  clear hq10
  refine HQ10.out.mono ?_
  rintro e w21 ⟨rfl, hf10⟩
  have HA21 := Lib.hid (HA20.out.fr hf10 (fun _ _ q => q))
  have F21 := Lib.hid (F20.out.trans hf10)
  clear hf10 HQ10
  go_wp2_with fail
  have hq11 : Calls Try.prog 17 #[.pointer (some ⟨b, 0, none⟩), .int .u64 12289, .int .i64 0] w21 fun r w' => r = .returned (.bool true) ∧ Fr No w21 w' := hasC w21 b 4096 8192 kM3 _ _ 12289 0 HA21.out (by omega) (by omega) (by omega) _ (by decide)
  have HQ11 := Lib.hid hq11
  clear hq11
  refine HQ11.out.mono ?_
  rintro e w22 ⟨rfl, hf11⟩
  have HA22 := Lib.hid (HA21.out.fr hf11 (fun _ _ q => q))
  have F22 := Lib.hid (F21.out.trans hf11)
  clear hf11 HQ11
  go_wp2_with fail
  have hq12 : Calls Try.prog 17 #[.pointer (some ⟨b, 0, none⟩), .int .u64 4096, .int .i64 8192] w22 fun r w' => r = .returned (.bool true) ∧ Fr No w22 w' := hasC w22 b 4096 8192 kM3 _ _ 4096 8192 HA22.out (by omega) (by omega) (by omega) _ (by decide)
  have HQ12 := Lib.hid hq12
  clear hq12
  refine HQ12.out.mono ?_
  rintro e w23 ⟨rfl, hf12⟩
  have HA23 := Lib.hid (HA22.out.fr hf12 (fun _ _ q => q))
  have F23 := Lib.hid (F22.out.trans hf12)
  clear hf12 HQ12
  go_wp2_with fail
  have hq13 : Calls Try.prog 17 #[.pointer (some ⟨b, 0, none⟩), .int .u64 4096, .int .i64 8193] w23 fun r w' => r = .returned (.bool false) ∧ Fr No w23 w' := hasC w23 b 4096 8192 kM3 _ _ 4096 8193 HA23.out (by omega) (by omega) (by omega) _ (by decide)
  have HQ13 := Lib.hid hq13
  clear hq13
  refine HQ13.out.mono ?_
  rintro e w24 ⟨rfl, hf13⟩
  have HA24 := Lib.hid (HA23.out.fr hf13 (fun _ _ q => q))
  have F24 := Lib.hid (F23.out.trans hf13)
  clear hf13 HQ13
  go_wp2_with fail
  refine (has_nil w24 0 0).mono ?_
  rintro e w25 ⟨rfl, rfl⟩
  go_wp2_with fail
  refine (put_nil _ 0 0 0 none).mono ?_
  rintro e w26 ⟨rfl, hf26⟩
  have F26 := Lib.hid (F24.out.trans hf26)
  clear hf26
  go_wp2_with fail
  refine (ramtwin_nil w26).mono ?_
  rintro e w27 ⟨rfl, hf27⟩
  have F27 := Lib.hid (F26.out.trans hf27)
  clear hf27
  go_wp2_with fail
  refine (pages_nil w27).mono ?_
  rintro e w28 ⟨rfl, hf28⟩
  have F28 := Lib.hid (F27.out.trans hf28)
  clear hf28
  go_wp2_with fail
  go_ret
  exact ⟨rfl, F28.out⟩
end Go.Proofs.Ytpnabfekidpnoaa

/-
  The statement UartStill: its walk.
-/
import Derived.Test.YtcnglhneknbllaaDoorUartL1
import Derived.Test.YtcnglhneknbllaaDoorUartD
import Derived.Test.YtcnglhneknbllaaDoorUartActs
import Derived.Deep.RegionHeld
namespace Go.Proofs.YtcnglhneknbllaaDoor
open Go Go.RowKit

set_option maxRecDepth 100000 in
set_option maxHeartbeats 4000000 in
theorem UartStill_c (w : World) (hk : KeptAt w) (v : Value) (xs : List UAct) (n0 : Nat) (hn0 : n0 < 18446744073709551616) (hr : Rd w v xs.length (actCells xs)) (hok : ∀ x ∈ xs, x.Ok) :
    Calls Tryd.prog 8 #[v, .int .u64 (n0 : Int)] w fun e w' => e = .returned (.bool true) ∧ Fr No w w' := by
  have HK := Lib.hid hk
  have HX := Lib.hid (fun k (h : k < w.heap.size) => h)
  have HR := Lib.hid hr
  have HO := Lib.hid hok
  have HN0 := Lib.hid hn0
  obtain ⟨a, c, rfl, hnc, hcm, _, _⟩ := hr
  obtain ⟨n, hn⟩ : ∃ n, n = xs.length := ⟨_, rfl⟩
  rw [← hn] at HR hnc ⊢
  have HN := Lib.hid hn
  unfold maxLen at hcm
  clear hk hok hn hn0
  go_enter Tryd.func8, Tryd.ntmps8
  go_wp2_with fail
  refine (awake_c w HK.out).mono ?_
  rintro e w1 ⟨rfl, hf1⟩
  have F1 := Lib.hid hf1
  have G1 := Lib.hid ((Ground.start HK.out).keep (hf1.keep (fun _ h => h.elim)))
  clear hf1
  by_cases h1 : n ≤ 100
  case neg =>
    go_wp2_with fail
    go_ret
    exact ⟨rfl, F1.out⟩
  go_wp2_with fail
  refine (aNew G1.out).mono ?_
  rintro e w2 ⟨rfl, hu2, hk2⟩
  have F2 := Lib.hid (F1.out.after hk2 HX.out)
  have A2 := Lib.hid hu2
  clear hu2 hk2
  go_wp2_with fail
  go_loopw [6] (fun i wr => ∃ (k : Nat) (s : US), k ≤ n ∧ i = .int .i64 (k : Int) ∧ Hid (Alone (fun k => k < w.heap.size) wr w1.heap.size s) ∧ Hid (Fr No w wr)) (fun i _ => n - (intOf i).toNat)
  case atStart => exact ⟨0, _, Nat.zero_le _, rfl, A2, F2⟩
  case round =>
    obtain ⟨k, s, hkn, rfl, HA, HF⟩ := hrel
    by_cases hlt : k < n
    · have hlt' : k < xs.length := by rw [← HN.out]; exact hlt
      have hR := HR.out
      rw [HN.out] at hR
      obtain ⟨g, o, c', hv, hcs⟩ := hR.actsAt hlt'
      cases hv
      obtain ⟨x, hx⟩ : ∃ x, x = xs[k] := ⟨_, rfl⟩
      have hxo := HO.out _ (List.getElem_mem hlt')
      rw [← hx] at hcs hxo
      obtain ⟨q0, q1, q2, q3⟩ := hcs _ HF.out
      have HC := Lib.hid hcs
      have HXO := Lib.hid hxo
      clear hcs hxo hx hR
      by_cases h0 : x.act = 0
      · rw [h0] at q0
        go_wp2_with fail
        go_region_held (fun w' => w'.cell? ⟨g, o + k * 4 + 1, none⟩ = some (.int .u64 (x.off : Int)) ∧ w'.cell? ⟨g, o + k * 4 + 2, none⟩ = some (.int .i64 x.n) ∧ w'.cell? ⟨g, o + k * 4 + 3, none⟩ = some (.int .u64 (x.v : Int)))
          (first | exact ⟨q1, q2, q3⟩ | exact ⟨k1, k2, k3⟩)
          (first
            | (go_at_call 16; refine (aWrite x.off x.n x.v HXO.out.1 (HA.out.fr (Fr.refl No wr).drew)).mono ?_; rintro e w3 ⟨rfl, hu3, hk3⟩; have A3 := Lib.hid hu3; have F3 := Lib.hid (HF.out.drew.after hk3 HX.out); obtain ⟨k0, k1, k2, k3⟩ := HC.out w3 F3.out; clear hu3 hk3 k0))
        go_wp2_with fail
        exact ⟨⟨k + 1, _, hlt, rfl, A3, F3⟩, by simp [intOf]; omega⟩
      · have n0' : (x.act == 0) = false := by rw [beq_eq_false_iff_ne]; exact h0
        by_cases h2 : x.act = 2
        · rw [h2] at q0 n0'
          have hv8 : IntKind.u8.wrap ((x.v : Nat) : Int) = ((x.v % 256 : Nat) : Int) := by rw [IntKind.wrap_u8']; omega
          have hv9 : x.v % 256 < 256 := Nat.mod_lt _ (by omega)
          obtain ⟨y, hy⟩ : ∃ y, y = x.v % 256 := ⟨_, rfl⟩
          rw [← hy] at hv8 hv9
          clear hy
          go_wp2_with fail
          refine (aFeed y hv9 HA.out).mono ?_
          rintro e w3 ⟨rfl, hu3, hk3⟩
          have A3 := Lib.hid hu3
          have F3 := Lib.hid (HF.out.after hk3 HX.out)
          clear hu3 hk3
          go_wp2_with fail
          exact ⟨⟨k + 1, _, hlt, rfl, A3, F3⟩, by simp [intOf]; omega⟩
        · have n2' : (x.act == 2) = false := by rw [beq_eq_false_iff_ne]; exact h2
          go_wp2_with fail
          exact ⟨⟨k + 1, s, hlt, rfl, HA, HF⟩, by simp [intOf]; omega⟩
    · clear HR HO
      go_wp2_with fail
      refine (show Calls _ _ _ _ (fun e w' => ∃ b', e = .returned (.pointer (some ⟨b', 0, none⟩)) ∧ Duo (fun k => k < w.heap.size) w' w1.heap.size s b' s ∧ Fr No wr w') from by
        obtain ⟨F, h1, _⟩ := HA.out.line
        exact (Twin_c _ _ _ _ h1).mono fun e w' ⟨b', he, ht, hf⟩ => ⟨b', he, Duo.of_twin HA.out ht hf, hf⟩).mono ?_
      rintro e w4 ⟨bt, rfl, ht4, hf4⟩
      have D4 := Lib.hid ht4
      have F4 := Lib.hid (HF.out.trans hf4)
      clear ht4 hf4 HA HF
      go_wp2_with fail
      refine (dSame D4.out).mono ?_
      rw [decide_eq_true rfl]
      rintro e w5 ⟨rfl, n5, rfl⟩
      have hrd1 : s.reads [3, 4, 6, 7] = (s, [s.lcr, s.mcr, 176, s.scr]) := by simp [US.reads, US.get]
      have hm1 : (s.mcr : Int) ≤ 31 := by obtain ⟨F, h1, _⟩ := D4.out.left; have := h1.ok.mcr; omega
      have HR1 := Lib.hid hrd1
      clear hrd1
      go_wp2_with fail
      have D6 := Lib.hid ((D4.out.fr ((Fr.refl No w4).drewN n5)).alloc (.cells #[.int .u64 3, .int .u64 4, .int .u64 6, .int .u64 7] 26))
      have R6 := Lib.hid (Rd.new (w4.drewN n5) 26 [u64v 3, u64v 4, u64v 6, u64v 7] 4 (by unfold maxLen; omega))
      have F6 := Lib.hid ((F4.out.drewN n5).alloc (.cells #[.int .u64 3, .int .u64 4, .int .u64 6, .int .u64 7] 26))
      refine (dReads [3, 4, 6, 7] _ R6.out D6.out (fun a c h => by cases h; exact .inr rfl) (by simp) (by simp)).mono ?_
      rw [HR1.out]
      rintro e w7 ⟨v7, rfl, ho7, hd7, hk7⟩
      obtain ⟨g7, o7, c7, rfl, hn7, hm7, _, _, hcl7, _⟩ := ho7.at_ (by decide)
      have p1 := hcl7 1 _ rfl
      have p2 := hcl7 2 _ rfl
      have D7 := Lib.hid hd7
      have F7 := Lib.hid (F6.out.after hk7 (fun k h => .inl h))
      clear ho7 hcl7 hd7 hk7 R6 D6 hm7 hn7
      have hw5 : s.write 5 1 n0 = (s, true) := by simp [US.write, US.put]
      have hw6 : s.write 6 1 n0 = (s, true) := by simp [US.write, US.put]
      have HW5 := Lib.hid hw5
      have HW6 := Lib.hid hw6
      clear hw5 hw6
      go_wp2_with fail
      refine (dWrite 5 1 n0 (by omega) D7.out).mono ?_
      rw [HW5.out]
      rintro e w8 ⟨rfl, hd8, hk8⟩
      have D8 := Lib.hid hd8
      have F8 := Lib.hid (F7.out.after hk8 (fun k h => .inl h))
      clear hd8 hk8
      go_wp2_with fail
      refine (dWrite 6 1 n0 (by omega) D8.out).mono ?_
      rw [HW6.out]
      rintro e w9 ⟨rfl, hd9, hk9⟩
      have D9 := Lib.hid hd9
      have F9 := Lib.hid (F8.out.after hk9 (fun k h => .inl h))
      clear hd9 hk9
      go_wp2_with fail
      refine (dSame D9.out).mono ?_
      rw [decide_eq_true rfl]
      rintro e w10 ⟨rfl, n10, rfl⟩
      have D10 := Lib.hid (D9.out.fr ((Fr.refl No w9).drewN n10))
      have F10 := Lib.hid (F9.out.drewN n10)
      have hv128 : (n0 : Int) % 128 = ((n0 % 128 : Nat) : Int) := by omega
      have hv129 : (n0 : Int).tmod 128 = ((n0 % 128 : Nat) : Int) := by rw [Int.tmod_eq_emod_of_nonneg (by omega)]; omega
      have hy : n0 % 128 < 128 := Nat.mod_lt _ (by omega)
      obtain ⟨y, hyy⟩ : ∃ y, y = n0 % 128 := ⟨_, rfl⟩
      have HY := Lib.hid hyy
      rw [← hyy] at hv128 hv129 hy
      clear hyy
      clear D4 F4 F6 D7 F7 D8 F8 D9 F9 HW5 HW6 HR1
      go_wp2_with fail
      have hs1 : s.write 7 1 n0 = ((s.write 7 1 n0).1, true) := by simp [US.write]
      obtain ⟨s1, hs1'⟩ : ∃ s1, s1 = (s.write 7 1 n0).1 := ⟨_, rfl⟩
      rw [← hs1'] at hs1
      have HS1 := Lib.hid hs1
      have hs2 : s1.write 4 1 n0 = ((s1.write 4 1 n0).1, true) := by simp [US.write]
      obtain ⟨s2, hs2'⟩ : ∃ s2, s2 = (s1.write 4 1 n0).1 := ⟨_, rfl⟩
      rw [← hs2'] at hs2
      have HS2 := Lib.hid hs2
      have hs3 : s2.write 3 1 y = ((s2.write 3 1 y).1, true) := by simp [US.write]
      obtain ⟨s3, hs3'⟩ : ∃ s3, s3 = (s2.write 3 1 y).1 := ⟨_, rfl⟩
      rw [← hs3'] at hs3
      have HS3 := Lib.hid hs3
      have hs4 : s3.write 1 1 n0 = ((s3.write 1 1 n0).1, true) := by simp [US.write]
      obtain ⟨s4, hs4'⟩ : ∃ s4, s4 = (s3.write 1 1 n0).1 := ⟨_, rfl⟩
      rw [← hs4'] at hs4
      have HS4 := Lib.hid hs4
      have hwr : s4 = s.wrote n0 := by rw [hs4', hs3', hs2', hs1', HY.out]; rfl
      have hrd := s.wrote_reads n0
      rw [← hwr] at hrd
      have HRD := Lib.hid hrd
      clear hs1 hs2 hs3 hs4 hs1' hs2' hs3' hs4' hwr hrd
      refine (dWrite 7 1 n0 (by omega) D10.out).mono ?_
      rw [HS1.out]
      rintro e w11 ⟨rfl, hd11, hk11⟩
      have D11 := Lib.hid hd11
      have F11 := Lib.hid (F10.out.after hk11 (fun k h => .inl h))
      clear hd11 hk11
      go_wp2_with fail
      refine (dWrite 4 1 n0 (by omega) D11.out).mono ?_
      rw [HS2.out]
      rintro e w12 ⟨rfl, hd12, hk12⟩
      have D12 := Lib.hid hd12
      have F12 := Lib.hid (F11.out.after hk12 (fun k h => .inl h))
      clear hd12 hk12
      go_wp2_with fail
      refine (dWrite 3 1 y (by omega) D12.out).mono ?_
      rw [HS3.out]
      rintro e w13 ⟨rfl, hd13, hk13⟩
      have D13 := Lib.hid hd13
      have F13 := Lib.hid (F12.out.after hk13 (fun k h => .inl h))
      clear hd13 hk13
      go_wp2_with fail
      refine (dWrite 1 1 n0 (by omega) D13.out).mono ?_
      rw [HS4.out]
      rintro e w14 ⟨rfl, hd14, hk14⟩
      have D14 := Lib.hid hd14
      have F14 := Lib.hid (F13.out.after hk14 (fun k h => .inl h))
      clear hd14 hk14
      clear D10 D11 D12 D13 F10 F11 F12 F13
      go_wp2_with fail
      have D15 := Lib.hid (D14.out.alloc (.cells #[.int .u64 7, .int .u64 4, .int .u64 3, .int .u64 1] 26))
      have R15 := Lib.hid (Rd.new w14 26 [u64v 7, u64v 4, u64v 3, u64v 1] 4 (by unfold maxLen; omega))
      have F15 := Lib.hid (F14.out.alloc (.cells #[.int .u64 7, .int .u64 4, .int .u64 3, .int .u64 1] 26))
      refine (dReads [7, 4, 3, 1] _ R15.out D15.out (fun a c h => by cases h; exact .inr rfl) (by simp) (by simp)).mono ?_
      rw [HRD.out.1]
      rintro e w16 ⟨v16, rfl, ho16, hd16, hk16⟩
      obtain ⟨g8, o8, c8, rfl, hn8, hm8, _, _, hcl8, _⟩ := ho16.at_ (by decide)
      obtain ⟨x, hx⟩ : ∃ x, x = n0 % 256 := ⟨_, rfl⟩
      have D16 := Lib.hid hd16
      have F16 := Lib.hid (F15.out.after hk16 (fun k h => .inl (.inl h)))
      rw [← hx] at hcl8
      rw [← HY.out] at hcl8
      have p0 := hcl8 0 _ rfl
      have p1 := hcl8 1 _ rfl
      have p2 := hcl8 2 _ rfl
      have p3 := hcl8 3 _ rfl
      have x8 : x < 256 := by rw [hx]; exact Nat.mod_lt _ (by omega)
      have w8 : IntKind.u8.wrap (n0 : Int) = (x : Int) := by rw [IntKind.wrap_u8']; omega
      clear ho16 hcl8 hd16 hk16 R15 D15 hm8 hn8
      rw [Nat.add_zero] at p0
      obtain ⟨z1, hz1⟩ : ∃ z1, z1 = x % 32 := ⟨_, rfl⟩
      obtain ⟨z2, hz2⟩ : ∃ z2, z2 = x % 16 := ⟨_, rfl⟩
      rw [← hz1] at p1
      rw [← hz2] at p3
      have m1 : (x : Int) % 32 = (z1 : Int) := by omega
      have m2 : (x : Int) % 16 = (z2 : Int) := by omega
      have m3 : (x : Int) % 128 = (y : Int) := by have := HY.out; omega
      have m4 : (x : Int).tmod 32 = (z1 : Int) := by rw [Int.tmod_eq_emod_of_nonneg (by omega)]; exact m1
      have m5 : (x : Int).tmod 16 = (z2 : Int) := by rw [Int.tmod_eq_emod_of_nonneg (by omega)]; exact m2
      have m6 : (x : Int).tmod 128 = (y : Int) := by rw [Int.tmod_eq_emod_of_nonneg (by omega)]; exact m3
      have hz1' : z1 < 256 := by omega
      have hz2' : z2 < 256 := by omega
      clear hx hz1 hz2
      have HS := Lib.hid (fun w' (hf : Fr No w16 w') => (⟨hf.cell p0 (fun h => h), hf.cell p1 (fun h => h), hf.cell p2 (fun h => h), hf.cell p3 (fun h => h)⟩ : w'.cell? ⟨g8, o8, none⟩ = some (u8v x) ∧ w'.cell? ⟨g8, o8 + 1, none⟩ = some (u8v z1) ∧ w'.cell? ⟨g8, o8 + 2, none⟩ = some (u8v y) ∧ w'.cell? ⟨g8, o8 + 3, none⟩ = some (u8v z2)))
      go_wp2_with fail
      go_region_held (fun w' => w'.cell? ⟨g8, o8, none⟩ = some (u8v x) ∧ w'.cell? ⟨g8, o8 + 1, none⟩ = some (u8v z1) ∧ w'.cell? ⟨g8, o8 + 2, none⟩ = some (u8v y) ∧ w'.cell? ⟨g8, o8 + 3, none⟩ = some (u8v z2))
        (first | exact HS.out _ G18.out | exact HS.out _ G17.out | exact HS.out _ (Fr.refl No w16).drew)
        (first
          | (go_at_call 20; have hw := G19.out; clear hw; refine (dWaiting2 (D16.out.fr G18.out)).mono ?_; rintro e w' ⟨rfl, rfl⟩)
          | (go_at_call 20; refine (dWaiting (D16.out.fr G18.out)).mono ?_; rw [HRD.out.2.2]; have G19 := Lib.hid True.intro; rintro e w' ⟨rfl, rfl⟩)
          | (go_at_call 17; have hw := G17.out; clear hw; refine (dOut2 (D16.out.fr G17.out)).mono ?_; rintro e w18 ⟨v18, rfl, ho18, hf18⟩; have k7 := ho18.rd.text (P := Tryd.prog) rfl 27 5 9 Tryd.underlying27 Tryd.underlying5 Tryd.underlying9; have k8 := (R17.out.fr hf18 (fun _ _ _ h => h)).text (P := Tryd.prog) rfl 27 5 9 Tryd.underlying27 Tryd.underlying5 Tryd.underlying9; have G18 := Lib.hid (G17.out.trans hf18); clear ho18 hf18)
          | (go_at_call 17; refine (dOut (D16.out.fr (Fr.refl No w16).drew)).mono ?_; rw [HRD.out.2.1]; rintro e w17 ⟨v17, rfl, ho17, hf17⟩; have k6 := ho17.rd.text (P := Tryd.prog) rfl 27 5 9 Tryd.underlying27 Tryd.underlying5 Tryd.underlying9; have R17 := Lib.hid ho17.rd; have G17 := Lib.hid ((Fr.refl No w16).drew.trans hf17); clear ho17 hf17))
      all_goals
        go_wp2_with fail
        go_ret
        exact ⟨rfl, F16.out.trans G18.out⟩
end Go.Proofs.YtcnglhneknbllaaDoor

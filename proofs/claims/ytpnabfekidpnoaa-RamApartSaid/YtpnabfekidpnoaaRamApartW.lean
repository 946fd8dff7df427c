/-
  The statement RamApart: its walk.
-/
import Derived.Test.YtpnabfekidpnoaaRamT4
namespace Go.Proofs.Ytpnabfekidpnoaa
open Go Go.RowKit

set_option maxRecDepth 100000 in
set_option maxHeartbeats 4000000 in
theorem RamApart_c (w : World) (v : Value) (l : List AC) (hr : Rd w v l.length (acells l)) (hok : ∀ y ∈ l, y.ok) (a : Nat) (x : Nat) (hx : x < 256) :
    Calls Try.prog 6 #[v, .int .u64 (a : Int), .int .u8 (x : Int)] w fun e w' => e = .returned (.bool true) ∧ Fr No w w' := by
  have HNEW := Lib.hid (show ∀ W, Calls Try.prog 9 #[.int .u64 8192, .int .u64 8192] W fun r w' => ∃ b, r = .returned (.tuple #[.pointer (some ⟨b, 0, none⟩), .int .i64 0]) ∧ RAt w' b 8192 8192 zeroM 0 (Plus No W w') ∧ Fr No W w' from fun W => new_c W 8192 8192 (by decide))
  have HR := Lib.hid hr
  have HOK := Lib.hid hok
  have HX := Lib.hid hx
  obtain ⟨aa, c, rfl, hlc, hcm, _, _⟩ := hr
  obtain ⟨n, hn⟩ : ∃ n, n = l.length := ⟨_, rfl⟩
  unfold maxLen at hcm
  rw [← hn] at HR hlc ⊢
  have HN := Lib.hid hn
  have HNM := Lib.hid (show n ≤ 9223372036854775807 by omega)
  obtain ⟨A, hA⟩ : ∃ A, A = 8192 + a % 8192 := ⟨_, rfl⟩
  have hAA : 8192 ≤ A ∧ A < 16384 := by omega
  have e0 : IntKind.u64.wrap (8192 + (a : Int) % 8192) = (A : Int) := by rw [IntKind.wrap_u64]; omega
  have ev : IntKind.u64.wrap (x : Int) = (x : Int) := by rw [IntKind.wrap_u64]; omega
  have HAA := Lib.hid hAA
  have E0 := Lib.hid e0
  have EV := Lib.hid ev
  clear hok hn hcm hlc hx hA hAA e0 ev
  go_enter Try.func6, Try.ntmps6
  go_wp2_with fail
  refine (awake_c w).mono ?_
  rintro e w0 ⟨rfl, hf0⟩
  have HF0 := Lib.hid hf0
  clear hf0
  go_wp2_with fail
  have hG := great_c w0 (.slice aa n c) l (by have h := HR.out; rw [HN.out] at h ⊢; exact h.fr HF0.out (fun _ _ _ q => q))
  refine hG.mono ?_
  rintro e w1 ⟨⟨q, rfl, hq⟩, rfl⟩
  have HG := Lib.hid hq
  clear hG hq
  cases q with
  | true =>
    go_wp2_with fail
    go_ret
    exact ⟨rfl, HF0.out⟩
  | false =>
    have HG60 := Lib.hid (show n ≤ 60 from by rw [HN.out]; exact HG.out rfl)
    clear HG
    go_wp2_with fail
    refine (HNEW.out w1).mono ?_
    rintro e w2 ⟨b, rfl, hA1, hf1⟩
    have HA1 := Lib.hid (hA1.mono (F' := fun k => w.heap.size ≤ k) (fun k h => h.elim (fun h => h.elim) (fun h => Nat.le_trans HF0.out.size h.1)))
    have HF1 := Lib.hid (HF0.out.trans hf1)
    clear hA1 hf1 HF0
    go_wp2_with fail
    go_loopw [9] (fun pi wr => ∃ i : Nat, i ≤ n ∧ pi = .int .i64 (i : Int) ∧ Hid (RAt wr b 8192 8192 (memAp (l.take i)) (8 * i) (fun k => w.heap.size ≤ k)) ∧ Hid (Fr No w wr)) (fun pi _ => n - (intOf pi).toNat)
    case atStart => exact ⟨0, Nat.zero_le _, rfl, HA1, HF1⟩
    case round =>
      obtain ⟨i, hi, rfl, HA2, HF2⟩ := hrel
      by_cases hlt : i < n
      · have hiL : i < l.length := by have := HN.out; omega
        have hR := HR.out
        rw [HN.out] at hR
        obtain ⟨g, o, c', hv, hcell⟩ := hR.acAt hiL
        injection hv with e1 _ e3
        subst e1 e3
        have hc := hcell wr HF2.out
        have hp := memAp_snoc l i hiL
        have hko := HOK.out _ (List.getElem_mem hiL)
        obtain ⟨y, hy⟩ : ∃ y, y = l[i] := ⟨_, rfl⟩
        rw [← hy] at hc hp hko
        have q1 := hc 1 _ rfl
        have q2 := hc 2 _ rfl
        have q3 := hc 3 _ rfl
        simp only [← Nat.add_assoc] at q1 q2 q3
        have HP := Lib.hid hp
        have HKO := Lib.hid hko
        obtain ⟨z, hz⟩ : ∃ z, z = 8192 + y.a % 8192 := ⟨_, rfl⟩
        have HZ := Lib.hid hz
        have e2 : IntKind.u64.wrap (8192 + (y.a : Int).tmod 8192) = (z : Int) := by
          rw [Int.tmod_eq_emod_of_nonneg (Int.natCast_nonneg _), IntKind.wrap_u64]
          omega
        have e1 : IntKind.i64.wrap ((i : Int) + 1) = ((i + 1 : Nat) : Int) := by have := HNM.out; rw [IntKind.wrap_i64]; omega
        have HGW := Lib.hid (show g < w.heap.size from World.block_lt_of_cell? w _ (hcell w (Fr.refl No w) 1 _ rfl))
        clear hc hp hcell hy hR hz hko
        go_upto_region 11 with fail
        refine wp_region_held_drew (S := fun W => W.cell? ⟨g, o + i * 5 + 1, none⟩ = some (.int .u64 (y.a : Int)) ∧ W.cell? ⟨g, o + i * 5 + 2, none⟩ = some (.int .i64 y.n) ∧ W.cell? ⟨g, o + i * 5 + 3, none⟩ = some (.int .u64 (y.v : Int))) (by kernel_rfl) ⟨q1, q2, q3⟩ (fun hHeld => ?_)
        clear q1 q2 q3
        refine' tkG (i := 0) (v := _) rfl (by kernel_rfl) (by kernel_rfl) (by kernel_rfl) (fun _ _ _ h => h) (by rfl) ?hy1 (by assumption) ?rest1
        case hy1 => (intro wq hSq; obtain ⟨q1, q2, q3⟩ := hSq; go_simp; try with_reducible rfl)
        simp only [Act.put, List.setIfInBounds_toArray, List.set_cons_zero, List.set_cons_succ]
        refine' tkG (i := 1) (v := _) rfl (by kernel_rfl) (by kernel_rfl) (by kernel_rfl) (fun _ _ _ h => h) (by rfl) ?hy2 (by assumption) ?rest2
        case hy2 => (intro wq hSq; obtain ⟨q1, q2, q3⟩ := hSq; go_simp; try with_reducible rfl)
        simp only [Act.put, List.setIfInBounds_toArray, List.set_cons_zero, List.set_cons_succ]
        refine' tkG (i := 2) (v := _) rfl (by kernel_rfl) (by kernel_rfl) (by kernel_rfl) (fun _ _ _ h => h) (by rfl) ?hy3 (by assumption) ?rest3
        case hy3 => (intro wq hSq; obtain ⟨q1, q2, q3⟩ := hSq; go_simp; try with_reducible rfl)
        simp only [Act.put, List.setIfInBounds_toArray, List.set_cons_zero, List.set_cons_succ]
        refine' tkG (i := 3) (v := _) rfl (by kernel_rfl) (by kernel_rfl) (by kernel_rfl) (fun _ _ _ h => h) (by rfl) ?hy4 (by assumption) ?rest4
        case hy4 => (intro wq hSq; obtain ⟨q1, q2, q3⟩ := hSq; go_simp; try with_reducible rfl)
        simp only [Act.put, List.setIfInBounds_toArray, List.set_cons_zero, List.set_cons_succ]
        refine' tkG (i := 4) (v := _) rfl (by kernel_rfl) (by kernel_rfl) (by kernel_rfl) (fun _ _ _ h => h) (by rfl) ?hy5 (by assumption) ?rest5
        case hy5 => (intro wq hSq; obtain ⟨q1, q2, q3⟩ := hSq; go_simp; try with_reducible rfl)
        simp only [Act.put, List.setIfInBounds_toArray, List.set_cons_zero, List.set_cons_succ]
        refine' tkG (i := 5) (v := _) rfl (by kernel_rfl) (by kernel_rfl) (by kernel_rfl) (fun _ _ _ h => h) (by rfl) ?hy6 (by assumption) ?rest6
        case hy6 => (intro wq hSq; obtain ⟨q1, q2, q3⟩ := hSq; go_simp; try with_reducible rfl)
        simp only [Act.put, List.setIfInBounds_toArray, List.set_cons_zero, List.set_cons_succ]
        refine' tkG (i := 6) (v := _) rfl (by kernel_rfl) (by kernel_rfl) (by kernel_rfl) (fun _ _ _ h => h) (by rfl) ?hy7 (by assumption) ?rest7
        case hy7 => (intro wq hSq; obtain ⟨q1, q2, q3⟩ := hSq; go_simp; try with_reducible rfl)
        simp only [Act.put, List.setIfInBounds_toArray, List.set_cons_zero, List.set_cons_succ]
        refine' tkG (i := 7) (v := _) rfl (by kernel_rfl) (by kernel_rfl) (by kernel_rfl) (fun _ _ _ h => h) (by rfl) ?hy8 (by assumption) ?rest8
        case hy8 => (intro wq hSq; obtain ⟨q1, q2, q3⟩ := hSq; go_simp; try with_reducible rfl)
        simp only [Act.put, List.setIfInBounds_toArray, List.set_cons_zero, List.set_cons_succ]
        refine' tkG (i := 8) (v := _) rfl (by kernel_rfl) (by kernel_rfl) (by kernel_rfl) (fun _ _ _ h => h) (by rfl) ?hy9 (by assumption) ?rest9
        case hy9 => (intro wq hSq; obtain ⟨q1, q2, q3⟩ := hSq; go_simp; try with_reducible rfl)
        simp only [Act.put, List.setIfInBounds_toArray, List.set_cons_zero, List.set_cons_succ]
        refine' tkG (i := 9) (v := _) rfl (by kernel_rfl) (by kernel_rfl) (by kernel_rfl) (fun _ _ _ h => h) (by rfl) ?hy10 (by assumption) ?rest10
        case hy10 => (intro wq hSq; obtain ⟨q1, q2, q3⟩ := hSq; go_simp; try with_reducible rfl)
        simp only [Act.put, List.setIfInBounds_toArray, List.set_cons_zero, List.set_cons_succ]
        refine' tkG (i := 10) (v := _) rfl (by kernel_rfl) (by kernel_rfl) (by kernel_rfl) (fun _ _ _ h => h) (by rfl) ?hy11 (by assumption) ?rest11
        case hy11 => (intro wq hSq; obtain ⟨q1, q2, q3⟩ := hSq; go_simp; try with_reducible rfl)
        simp only [Act.put, List.setIfInBounds_toArray, List.set_cons_zero, List.set_cons_succ]
        refine' tkG (i := 11) (v := _) rfl (by kernel_rfl) (by kernel_rfl) (by kernel_rfl) (fun _ _ _ h => h) (by rfl) ?hy12 (by assumption) ?rest12
        case hy12 => (intro wq hSq; obtain ⟨q1, q2, q3⟩ := hSq; go_simp; try with_reducible rfl)
        simp only [Act.put, List.setIfInBounds_toArray, List.set_cons_zero, List.set_cons_succ]
        refine' tkG (i := 12) (v := _) rfl (by kernel_rfl) (by kernel_rfl) (by kernel_rfl) (fun _ _ _ h => h) (by rfl) ?hy13 (by assumption) ?rest13
        case hy13 => (intro wq hSq; obtain ⟨q1, q2, q3⟩ := hSq; go_simp; try with_reducible rfl)
        simp only [Act.put, List.setIfInBounds_toArray, List.set_cons_zero, List.set_cons_succ]
        refine' tkG (i := 13) (v := _) rfl (by kernel_rfl) (by kernel_rfl) (by kernel_rfl) (fun _ _ _ h => h) (by rfl) ?hy14 (by assumption) ?rest14
        case hy14 => (intro wq hSq; obtain ⟨q1, q2, q3⟩ := hSq; go_simp; try with_reducible rfl)
        simp only [Act.put, List.setIfInBounds_toArray, List.set_cons_zero, List.set_cons_succ]
        refine' tkG (i := 14) (v := _) rfl (by kernel_rfl) (by kernel_rfl) (by kernel_rfl) (fun _ _ _ h => h) (by rfl) ?hy15 (by assumption) ?rest15
        case hy15 => (intro wq hSq; obtain ⟨q1, q2, q3⟩ := hSq; go_simp; try with_reducible rfl)
        simp only [Act.put, List.setIfInBounds_toArray, List.set_cons_zero, List.set_cons_succ]
        refine' tkG (i := 15) (v := _) rfl (by kernel_rfl) (by kernel_rfl) (by kernel_rfl) (fun _ _ _ h => h) (by rfl) ?hy16 (by assumption) ?rest16
        case hy16 => (intro wq hSq; obtain ⟨q1, q2, q3⟩ := hSq; go_simp; try with_reducible rfl)
        simp only [Act.put, List.setIfInBounds_toArray, List.set_cons_zero, List.set_cons_succ]
        refine' tkG (i := 16) (v := _) rfl (by kernel_rfl) (by kernel_rfl) (by kernel_rfl) (fun _ _ _ h => h) (by rfl) ?hy17 (by assumption) ?rest17
        case hy17 => (intro wq hSq; obtain ⟨q1, q2, q3⟩ := hSq; go_simp; try with_reducible rfl)
        simp only [Act.put, List.setIfInBounds_toArray, List.set_cons_zero, List.set_cons_succ]
        refine' tkG (i := 17) (v := _) rfl (by kernel_rfl) (by kernel_rfl) (by kernel_rfl) (fun _ _ _ h => h) (by rfl) ?hy18 (by assumption) ?rest18
        case hy18 => (intro wq hSq; obtain ⟨q1, q2, q3⟩ := hSq; go_simp; try with_reducible rfl)
        simp only [Act.put, List.setIfInBounds_toArray, List.set_cons_zero, List.set_cons_succ]
        refine wpAnyH_ready (rs := [18]) (by kernel_rfl) (by simp) ?_
        refine AllReadyH.cons rfl (fun K hK => ?_) AllReadyH.nil
        go_simp
        have hq : Calls Try.prog 11 #[.pointer (some ⟨b, 0, none⟩), .int .u64 (z : Int), .int .i64 y.n, .int .u64 (y.v : Int)] wr.drew fun r w' => r = .returned (.bool (okR 8192 8192 z y.n)) ∧ RAt w' b 8192 8192 (writeR 8192 8192 (memAp (l.take i)) z y.n y.v) (8 * i + 8) (Plus (fun k => w.heap.size ≤ k) wr.drew w') ∧ Fr (fun k => w.heap.size ≤ k) wr.drew w' := write_c wr.drew b 8192 8192 _ _ _ z y.v y.n (HA2.out.fr ((Fr.refl No wr).drew) (fun _ _ q => q)) (by omega) (by have := HZ.out; omega) HKO.out.2.1 (by have := HKO.out.2.2.2.1; omega) (by have := HG60.out; omega)
        refine hq.mono ?_
        rintro e w4 ⟨rfl, hA4, hf4⟩
        rw [HZ.out, ← HP.out] at hA4
        have HA4 := Lib.hid (hA4.mono (F' := fun k => w.heap.size ≤ k) (fun k h => h.elim (fun h => h) (fun h => Nat.le_trans HF2.out.size h.1)))
        have HF4 := Lib.hid (show Fr No w w4 from (HF2.out.drew).andThen hf4 (fun k hk h => by have h2 : w.heap.size ≤ k := h; omega))
        clear hq hA4
        go_simp
        have hgw : ¬ (w.heap.size ≤ g) := by have h := HGW.out; omega
        refine hK.out _ _ ⟨hf4.cell hHeld.1 hgw, hf4.cell hHeld.2.1 hgw, hf4.cell hHeld.2.2 hgw⟩ (fun hHeld2 => ?_)
        clear hf4 hK K hgw hHeld hHeld2
        try simp only [List.setIfInBounds_toArray, List.set_cons_zero, List.set_cons_succ]
        refine wpAnyH_done (by kernel_rfl) ?_ _
        go_wp2_with fail
        exact ⟨⟨i + 1, by omega, rfl, HA4, HF4⟩, by simp [intOf]; omega⟩
      · obtain rfl : i = n := by omega
        obtain ⟨m, hm⟩ : ∃ m, m = memAp l := ⟨_, rfl⟩
        have HSP := Lib.hid (show Supp m 8192 8192 from by rw [hm]; exact memAp_supp l)
        have h := HA2.out
        rw [HN.out, List.take_length, ← hm, ← HN.out] at h
        have HA5 := Lib.hid (h.cut)
        clear h hm HA2 HA1 HF1 HNEW HOK HR
        go_wp2_with fail
        refine (twin_c wr b 8192 8192 m _ _ HA5.out HSP.out.sup64 (by have := HG60.out; omega)).mono ?_
        rintro e w3 ⟨t, rfl, hT3, hf3⟩
        have HT3 := Lib.hid hT3
        have HA6 := Lib.hid (HA5.out.fr hf3 (fun _ _ q => q))
        have HF3 := Lib.hid (HF2.out.trans hf3)
        have HZ3 := Lib.hid hf3.size
        clear hT3 hf3 HA5
        go_wp2_with fail
        refine (same8_c w3 b t m m _ _ _ _ HA6.out HT3.out HSP.out HSP.out true (by simp)).mono ?_
        rintro e w4 ⟨rfl, hf4⟩
        have HA4 := Lib.hid (HA6.out.fr hf4 (fun _ _ q => q))
        have HT4 := Lib.hid (HT3.out.fr hf4 (fun _ _ q => q))
        have HF4 := Lib.hid (HF3.out.trans hf4)
        have HZ4 := Lib.hid (Nat.le_trans HZ3.out hf4.size)
        clear hf4 HA6 HT3 HF3
        have e0 := E0.out
        go_wp2_with fail
        clear e0
        refine (read1_c w4 b m _ _ A HA4.out HAA.out).mono ?_
        rintro e w5 ⟨rfl, hf5⟩
        have HA5 := Lib.hid (HA4.out.fr hf5 (fun _ _ q => q))
        have HT5 := Lib.hid (HT4.out.fr hf5 (fun _ _ q => q))
        have HF5 := Lib.hid (HF4.out.trans hf5)
        have HZ5 := Lib.hid (Nat.le_trans HZ4.out hf5.size)
        clear hf5 HA4 HT4 HF4
        obtain ⟨was, hwas⟩ : ∃ was, was = m A := ⟨_, rfl⟩
        rw [← hwas]
        have HWAS := Lib.hid hwas
        have HW256 := Lib.hid (show was < 256 from by rw [hwas]; obtain ⟨_, _, _, hin⟩ := HA5.out; exact hin.2.2.2.2.2.2.1 A)
        clear hwas
        have ev := EV.out
        go_wp2_with fail
        clear ev
        refine (write1_c w5 t m _ _ A x HT5.out HAA.out HX.out (by have := HG60.out; omega)).mono ?_
        rintro e w6 ⟨rfl, hT6, hf6⟩
        have HT6 := Lib.hid (hT6.mono (F' := fun k => wr.heap.size ≤ k) (fun k q => q.elim id (fun q => Nat.le_trans HZ5.out q.1)))
        have HA6 := Lib.hid (HA5.out.fr hf6 (fun k q q2 => by have h1 := q.2; have h2 : wr.heap.size ≤ k := q2; omega))
        have HF6 := Lib.hid (show Fr No w w6 from HF5.out.andThen hf6 (fun k hk q => by have h1 : wr.heap.size ≤ k := q; have h2 := HF2.out.size; omega))
        have HZ6 := Lib.hid (Nat.le_trans HZ5.out hf6.size)
        clear hT6 hf6 HA5 HT5
        go_wp2_with fail
        refine (read1_c w6 b m _ _ A HA6.out HAA.out).mono ?_
        rintro e w7 ⟨rfl, hf7⟩
        rw [← HWAS.out]
        have HA7 := Lib.hid (HA6.out.fr hf7 (fun _ _ q => q))
        have HT7 := Lib.hid (HT6.out.fr hf7 (fun _ _ q => q))
        have HF7 := Lib.hid (HF6.out.trans hf7)
        clear hf7 HA6 HT6 HF6
        have HS1 := Lib.hid (show Supp (upd m A x) 8192 8192 from HSP.out.upd A x (by have := HAA.out; omega))
        obtain ⟨q, hq⟩ : ∃ q, q = decide (was = x) := ⟨_, rfl⟩
        have eq : ((was : Int) == (x : Int)) = q := by
          rw [hq, Bool.eq_iff_iff, beq_iff_eq, decide_eq_true_iff]
          exact Int.natCast_inj
        have HQ1 := Lib.hid (show q = true ↔ m = upd m A x from by rw [hq, decide_eq_true_iff, upd_same_iff, HWAS.out])
        clear hq
        have ev := EV.out
        go_wp2_with fail
        refine (same8_c w7 b t m (upd m A x) _ _ _ _ HA7.out HT7.out HSP.out HS1.out q HQ1.out).mono ?_
        rintro e w8 ⟨rfl, hf8⟩
        have HA8 := Lib.hid (HA7.out.fr hf8 (fun _ _ q => q))
        have HT8 := Lib.hid (HT7.out.fr hf8 (fun _ _ q => q))
        have HF8 := Lib.hid (HF7.out.trans hf8)
        clear hf8 HA7 HT7 HF7
        go_wp2_with fail
        refine (same8_c w8 t b (upd m A x) m _ _ _ _ HT8.out HA8.out HS1.out HSP.out q (HQ1.out.trans eq_comm)).mono ?_
        rintro e w9 ⟨rfl, hf9⟩
        have HA9 := Lib.hid (HA8.out.fr hf9 (fun _ _ q => q))
        have HT9 := Lib.hid (HT8.out.fr hf9 (fun _ _ q => q))
        have HF9 := Lib.hid (HF8.out.trans hf9)
        clear hf9 HA8 HT8 HF8
        go_wp2_with fail
        clear ev eq
        refine (write1_c w9 t (upd m A x) _ _ A was HT9.out HAA.out HW256.out (by have := HG60.out; omega)).mono ?_
        rintro e w10 ⟨rfl, hT10, hf10⟩
        have hback : upd (upd m A x) A was = m := by
          rw [HWAS.out]
          exact upd_back m A x
        rw [hback] at hT10
        have HT10 := Lib.hid hT10
        have HA10 := Lib.hid (HA9.out.fr hf10 (fun k q q2 => by have h1 := q.2; have h2 : wr.heap.size ≤ k := q2; omega))
        have HF10 := Lib.hid (show Fr No w w10 from HF9.out.andThen hf10 (fun k hk q => by have h1 : wr.heap.size ≤ k := q; have h2 := HF2.out.size; omega))
        clear hT10 hf10 HA9 HT9 HF9 hback
        go_wp2_with fail
        refine (same8_c w10 b t m m _ _ _ _ HA10.out HT10.out HSP.out HSP.out true (by simp)).mono ?_
        rintro e w11 ⟨rfl, hf11⟩
        have HA11 := Lib.hid (HA10.out.fr hf11 (fun _ _ q => q))
        have HF11 := Lib.hid (HF10.out.trans hf11)
        clear hf11 HA10 HT10 HF10
        go_wp2_with fail
        refine (pages_c w11 b 8192 8192 m _ _ HA11.out HSP.out.sup64 2 2 HSP.out.pages (by omega)).mono ?_
        rintro e w12 ⟨vp, lp, rfl, hown, hpo, hf12⟩
        obtain ⟨ap, cp, rfl, hpc, hpm⟩ := hown.slice
        have HRP := Lib.hid hown.rd
        have HPO := Lib.hid hpo
        have HA12 := Lib.hid (HA11.out.fr hf12 (fun _ _ q => q))
        have HF12 := Lib.hid (HF11.out.trans hf12)
        obtain ⟨np, hnp⟩ : ∃ np, np = lp.length := ⟨_, rfl⟩
        rw [← hnp] at HRP hpc ⊢
        have HNP := Lib.hid hnp
        have HNPM := Lib.hid (show np ≤ 9223372036854775807 by unfold maxLen at hpm; omega)
        clear hown hpo hf12 HA11 HF11 hnp hpc hpm
        go_wp2_with fail
        go_loopw [16] (fun pi wr => ∃ i : Nat, i ≤ np ∧ pi = .int .i64 (i : Int) ∧ Hid (Fr No w12 wr)) (fun pi _ => np - (intOf pi).toNat)
        case atStart => exact ⟨0, Nat.zero_le _, rfl, Lib.hid (Fr.refl _ _)⟩
        case round =>
          obtain ⟨j, hj, rfl, HFR⟩ := hrel
          by_cases hlt2 : j < np
          · have hjL : j < lp.length := by have := HNP.out; omega
            have hR := HRP.out
            rw [HNP.out] at hR
            obtain ⟨g, o, c', hv, hcell⟩ := hR.uAt hjL
            injection hv with e1 _ e3
            subst e1 e3
            obtain ⟨y, hy⟩ : ∃ y, y = lp[j] := ⟨_, rfl⟩
            obtain ⟨p, hp, hnz⟩ := (HPO.out.2 y).1 (by rw [hy]; exact List.getElem_mem hjL)
            have hpb := HSP.out.pages p hnz
            have hcy : ∀ W, Fr No w12 W → W.cell? ⟨g, o + j, none⟩ = some (.int .u64 (y : Int)) := fun W hW => by rw [hy]; exact hcell W hW
            have hbn := bytes_nz hnz
            rw [← hp] at hbn
            have hpos : j = 0 ∨ ∃ z, (0 < j ∧ z < y) ∧ ∀ W, Fr No w12 W → W.cell? ⟨g, o + (j - 1), none⟩ = some (.int .u64 (z : Int)) := by
              by_cases h0 : j = 0
              · exact .inl h0
              · have hj1 : j - 1 < lp.length := by omega
                obtain ⟨g2, o2, c2, hv2, hcell2⟩ := hR.uAt hj1
                injection hv2 with e1 _ e3
                injection e1 with e1
                injection e1 with e1 e2 _
                subst e1 e2
                refine .inr ⟨lp[j - 1], ⟨by omega, ?_⟩, hcell2⟩
                rw [hy]
                exact List.pairwise_iff_getElem.1 HPO.out.1 (j - 1) j hj1 hjL (by omega)
            have hm256 : ∀ x, m x < 256 := by obtain ⟨_, _, _, hin⟩ := HA12.out; exact hin.2.2.2.2.2.2.1
            have hym : (y : Int) % 4096 = 0 := by omega
            have hyt : (y : Int).tmod 4096 = 0 := by rw [Int.tmod_eq_emod_of_nonneg (Int.natCast_nonneg _)]; exact hym
            have e1 : IntKind.i64.wrap ((j : Int) + 1) = ((j + 1 : Nat) : Int) := by have := HNPM.out; rw [IntKind.wrap_i64]; omega
            have q1 := hcy wr HFR.out
            have HY := Lib.hid (show 8192 ≤ y ∧ y + 4096 ≤ 16384 from by omega)
            have hhas : hasR 8192 8192 y ((4096 : Nat) : Int) = true := by
              unfold hasR
              simp
              omega
            have hbq : Calls Try.prog 12 #[.pointer (some ⟨b, 0, none⟩), .int .u64 (y : Int), .int .i64 4096] wr fun r w' => ∃ g, r = .returned (.tuple #[.slice (some ⟨g, 0, none⟩) 4096 4096, .bool true]) ∧ Blk w' g 5 (bV (bytesR m y 4096)).toArray ∧ wr.heap.size ≤ g ∧ Fr No wr w' := bytes_c wr b 8192 8192 m _ _ y 4096 (HA12.out.fr HFR.out (fun _ _ q => q)) (by omega) (by omega) (by omega) hhas
            have HBQ := Lib.hid hbq
            have HC0 := Lib.hid hcy
            have HTX := Lib.hid (txt_ne (bytesR_lt hm256 y 4096) (rep_lt 4096) hbn)
            have HPOS := Lib.hid hpos
            have HYM := Lib.hid (And.intro hym hyt)
            obtain ⟨TA, hTA⟩ : ∃ TA, TA = txt (bytesR m y 4096) := ⟨_, rfl⟩
            obtain ⟨TZ, hTZ⟩ : ∃ TZ, TZ = txt (List.replicate 4096 0) := ⟨_, rfl⟩
            rw [← hTA, ← hTZ] at HTX
            have HTA := Lib.hid hTA
            have HTZ := Lib.hid hTZ
            clear hR hcell hy hp hnz hpb hcy hbn hpos hm256 hym hyt hhas hbq hTA hTZ
            go_wp2_with fail
            refine HBQ.out.mono ?_
            rintro e w13 ⟨gb, rfl, hB13, _, hf13⟩
            have HF13 := Lib.hid (HFR.out.trans hf13)
            have HCV := Lib.hid (show ∀ W, Fr No w13 W → (convert 31 9 (.slice (some ⟨gb, 0, none⟩) 4096 4096)).run Try.prog W = .ok (.string TA) W from fun W hW => by rw [HTA.out]; exact text_at W gb _ 4096 (hB13.fr hW (fun q => q)) (bytesR_len _ _ _) (by omega))
            have HC0 := Lib.hid (show ∀ W, Fr No w13 W → W.cell? ⟨g, o + j, none⟩ = some (.int .u64 (y : Int)) from fun W hW => HC0.out W (HF13.out.trans hW))
            clear hB13 hf13 q1
            obtain ⟨Z, hZ⟩ : ∃ Z, Z = (bV (List.replicate 4096 0)).toArray := ⟨_, rfl⟩
            have HMK := Lib.hid (show ∀ W : World, (Instr.makeSlice 31 (.int .i64 4096) (.int .i64 4096)).run Try.prog W = .ok (.slice (some ⟨W.heap.size, 0, none⟩) 4096 4096) (W.alloc (.cells Z 5)) from fun W => by rw [hZ]; exact make_zero 4096 (by omega) W)
            have HZT := Lib.hid (show ∀ (W : World) (B : Nat), Blk W B 5 Z → (convert 31 9 (.slice (some ⟨B, 0, none⟩) 4096 4096)).run Try.prog W = .ok (.string TZ) W from fun W B hB => by rw [HTZ.out]; rw [hZ] at hB; exact text_at W B _ 4096 hB (List.length_replicate ..) (by omega))
            clear hZ
            go_upto_region 29 with fail
            refine wp_region_held_drew (S := fun W => Fr No w13 W) (by kernel_rfl) (Fr.refl No w13).drew (fun hHeld => ?_)
            refine' tkG (i := 0) (v := _) rfl (by kernel_rfl) (by kernel_rfl) (by kernel_rfl) (fun _ _ _ h => h) (by rfl) ?hy19 (by assumption) ?rest19
            case hy19 => (intro wq hSq; have z0 := HC0.out wq hSq; have zc := HCV.out wq hSq; go_simp; try with_reducible rfl)
            simp only [Act.put, List.setIfInBounds_toArray, List.set_cons_zero, List.set_cons_succ]
            refine' tkG (i := 1) (v := _) rfl (by kernel_rfl) (by kernel_rfl) (by kernel_rfl) (fun _ _ _ h => h) (by rfl) ?hy20 (by assumption) ?rest20
            case hy20 => (intro wq hSq; have z0 := HC0.out wq hSq; have zc := HCV.out wq hSq; go_simp; try with_reducible rfl)
            simp only [Act.put, List.setIfInBounds_toArray, List.set_cons_zero, List.set_cons_succ]
            refine' tkG (i := 2) (v := _) rfl (by kernel_rfl) (by kernel_rfl) (by kernel_rfl) (fun _ _ _ h => h) (by rfl) ?hy21 (by assumption) ?rest21
            case hy21 => (intro wq hSq; have z0 := HC0.out wq hSq; have zc := HCV.out wq hSq; go_simp; try with_reducible rfl)
            simp only [Act.put, List.setIfInBounds_toArray, List.set_cons_zero, List.set_cons_succ]
            refine' tkG (i := 3) (v := _) rfl (by kernel_rfl) (by kernel_rfl) (by kernel_rfl) (fun _ _ _ h => h) (by rfl) ?hy22 (by assumption) ?rest22
            case hy22 => (intro wq hSq; have z0 := HC0.out wq hSq; have zc := HCV.out wq hSq; go_simp; try with_reducible rfl)
            simp only [Act.put, List.setIfInBounds_toArray, List.set_cons_zero, List.set_cons_succ]
            refine' tkG (i := 4) (v := _) rfl (by kernel_rfl) (by kernel_rfl) (by kernel_rfl) (fun _ _ _ h => h) (by rfl) ?hy23 (by assumption) ?rest23
            case hy23 => (intro wq hSq; have z0 := HC0.out wq hSq; have zc := HCV.out wq hSq; go_simp; try with_reducible rfl)
            simp only [Act.put, List.setIfInBounds_toArray, List.set_cons_zero, List.set_cons_succ]
            refine wpAnyH_ready (rs := [5]) (by kernel_rfl) (by simp) ?_
            refine AllReadyH.cons rfl (fun K hK => ?_) AllReadyH.nil
            rw [if_pos (by kernel_rfl)]
            have hmk := HMK.out
            go_simp
            refine hK.out _ _ (hHeld.alloc _) (fun hHeld2 => ?_)
            clear hK K hHeld hmk
            try simp only [List.setIfInBounds_toArray, List.set_cons_zero, List.set_cons_succ]
            obtain ⟨BZ, hBZ⟩ : ∃ BZ, BZ = w13.heap.size := ⟨_, rfl⟩
            obtain ⟨X, hX⟩ : ∃ X, X = (w13.alloc (.cells Z 5)).drew := ⟨_, rfl⟩
            have hBX : Blk X BZ 5 Z := by rw [hX, hBZ]; exact Blk.new w13 _ _
            rw [← hX] at hHeld2 ⊢
            rw [← hBZ]
            refine wpAnyH_sharper (T := fun W => Fr No w13 W ∧ Blk W BZ 5 Z) (fun W h => h.1) _ _ _ _ ?_
            have hHeld : Fr No w13 X ∧ Blk X BZ 5 Z := ⟨hHeld2, hBX⟩
            clear hX hBZ hBX hHeld2
            refine' tkG (i := 6) (v := _) rfl (by kernel_rfl) (by kernel_rfl) (by kernel_rfl) (fun _ _ _ h => h) (by rfl) ?hy24 (by assumption) ?rest24
            case hy24 => (intro wq hSq; have z0 := HC0.out wq hSq.1; have zz := HZT.out wq BZ hSq.2; go_simp; try with_reducible rfl)
            simp only [Act.put, List.setIfInBounds_toArray, List.set_cons_zero, List.set_cons_succ]
            refine' tkG (i := 7) (v := _) rfl (by kernel_rfl) (by kernel_rfl) (by kernel_rfl) (fun _ _ _ h => h) (by rfl) ?hy25 (by assumption) ?rest25
            case hy25 => (intro wq hSq; have z0 := HC0.out wq hSq.1; have ht := HTX.out; go_simp; try with_reducible rfl)
            simp only [Act.put, List.setIfInBounds_toArray, List.set_cons_zero, List.set_cons_succ]
            obtain ⟨hym, hyt⟩ := HYM.out
            rcases HPOS.out with h0 | ⟨z, ⟨hj0, hzy⟩, hcz⟩
            · subst h0
              have HC0 := Lib.hid (show ∀ W, Fr No w13 W → W.cell? ⟨g, o, none⟩ = some (.int .u64 (y : Int)) from HC0.out)
              refine' tkG (i := 8) (v := _) rfl (by kernel_rfl) (by kernel_rfl) (by kernel_rfl) (fun _ _ _ h => h) (by rfl) ?hy26 (by assumption) ?rest26
              case hy26 => (intro wq hSq; have z0 := HC0.out wq hSq.1; skip; go_simp; try with_reducible rfl)
              simp only [Act.put, List.setIfInBounds_toArray, List.set_cons_zero, List.set_cons_succ]
              refine' tkG (i := 9) (v := _) rfl (by kernel_rfl) (by kernel_rfl) (by kernel_rfl) (fun _ _ _ h => h) (by rfl) ?hy27 (by assumption) ?rest27
              case hy27 => (intro wq hSq; have z0 := HC0.out wq hSq.1; skip; go_simp; try with_reducible rfl)
              simp only [Act.put, List.setIfInBounds_toArray, List.set_cons_zero, List.set_cons_succ]
              refine' tkG (i := 10) (v := _) rfl (by kernel_rfl) (by kernel_rfl) (by kernel_rfl) (fun _ _ _ h => h) (by rfl) ?hy28 (by assumption) ?rest28
              case hy28 => (intro wq hSq; have z0 := HC0.out wq hSq.1; skip; go_simp; try with_reducible rfl)
              simp only [Act.put, List.setIfInBounds_toArray, List.set_cons_zero, List.set_cons_succ]
              refine' tkG (i := 11) (v := _) rfl (by kernel_rfl) (by kernel_rfl) (by kernel_rfl) (fun _ _ _ h => h) (by rfl) ?hy29 (by assumption) ?rest29
              case hy29 => (intro wq hSq; have z0 := HC0.out wq hSq.1; skip; go_simp; try with_reducible rfl)
              simp only [Act.put, List.setIfInBounds_toArray, List.set_cons_zero, List.set_cons_succ]
              refine' tkG (i := 12) (v := _) rfl (by kernel_rfl) (by kernel_rfl) (by kernel_rfl) (fun _ _ _ h => h) (by rfl) ?hy30 (by assumption) ?rest30
              case hy30 => (intro wq hSq; have z0 := HC0.out wq hSq.1; skip; go_simp; try with_reducible rfl)
              simp only [Act.put, List.setIfInBounds_toArray, List.set_cons_zero, List.set_cons_succ]
              refine' tkU (i := 13) rfl (by kernel_rfl) (by kernel_rfl) (by kernel_rfl) (fun _ _ _ h => h) (by rfl) (by assumption) ?rest31
              simp only [Act.put, List.setIfInBounds_toArray, List.set_cons_zero, List.set_cons_succ]
              refine' tkU (i := 14) rfl (by kernel_rfl) (by kernel_rfl) (by kernel_rfl) (fun _ _ _ h => h) (by rfl) (by assumption) ?rest32
              simp only [Act.put, List.setIfInBounds_toArray, List.set_cons_zero, List.set_cons_succ]
              refine' tkU (i := 15) rfl (by kernel_rfl) (by kernel_rfl) (by kernel_rfl) (fun _ _ _ h => h) (by rfl) (by assumption) ?rest33
              simp only [Act.put, List.setIfInBounds_toArray, List.set_cons_zero, List.set_cons_succ]
              refine' tkU (i := 16) rfl (by kernel_rfl) (by kernel_rfl) (by kernel_rfl) (fun _ _ _ h => h) (by rfl) (by assumption) ?rest34
              simp only [Act.put, List.setIfInBounds_toArray, List.set_cons_zero, List.set_cons_succ]
              refine' tkU (i := 17) rfl (by kernel_rfl) (by kernel_rfl) (by kernel_rfl) (fun _ _ _ h => h) (by rfl) (by assumption) ?rest35
              simp only [Act.put, List.setIfInBounds_toArray, List.set_cons_zero, List.set_cons_succ]
              refine' tkU (i := 18) rfl (by kernel_rfl) (by kernel_rfl) (by kernel_rfl) (fun _ _ _ h => h) (by rfl) (by assumption) ?rest36
              simp only [Act.put, List.setIfInBounds_toArray, List.set_cons_zero, List.set_cons_succ]
              refine' tkU (i := 19) rfl (by kernel_rfl) (by kernel_rfl) (by kernel_rfl) (fun _ _ _ h => h) (by rfl) (by assumption) ?rest37
              simp only [Act.put, List.setIfInBounds_toArray, List.set_cons_zero, List.set_cons_succ]
              refine' tkU (i := 20) rfl (by kernel_rfl) (by kernel_rfl) (by kernel_rfl) (fun _ _ _ h => h) (by rfl) (by assumption) ?rest38
              simp only [Act.put, List.setIfInBounds_toArray, List.set_cons_zero, List.set_cons_succ]
              refine' tkU (i := 21) rfl (by kernel_rfl) (by kernel_rfl) (by kernel_rfl) (fun _ _ _ h => h) (by rfl) (by assumption) ?rest39
              simp only [Act.put, List.setIfInBounds_toArray, List.set_cons_zero, List.set_cons_succ]
              refine' tkU (i := 22) rfl (by kernel_rfl) (by kernel_rfl) (by kernel_rfl) (fun _ _ _ h => h) (by rfl) (by assumption) ?rest40
              simp only [Act.put, List.setIfInBounds_toArray, List.set_cons_zero, List.set_cons_succ]
              refine' tkG (i := 23) (v := _) rfl (by kernel_rfl) (by kernel_rfl) (by kernel_rfl) (fun _ _ _ h => h) (by rfl) ?hy41 (by assumption) ?rest41
              case hy41 => (intro wq hSq; have z0 := HC0.out wq hSq.1; skip; go_simp; try with_reducible rfl)
              simp only [Act.put, List.setIfInBounds_toArray, List.set_cons_zero, List.set_cons_succ]
              refine' tkG (i := 24) (v := _) rfl (by kernel_rfl) (by kernel_rfl) (by kernel_rfl) (fun _ _ _ h => h) (by rfl) ?hy42 (by assumption) ?rest42
              case hy42 => (intro wq hSq; have z0 := HC0.out wq hSq.1; skip; go_simp; try with_reducible rfl)
              simp only [Act.put, List.setIfInBounds_toArray, List.set_cons_zero, List.set_cons_succ]
              refine' tkG (i := 25) (v := _) rfl (by kernel_rfl) (by kernel_rfl) (by kernel_rfl) (fun _ _ _ h => h) (by rfl) ?hy43 (by assumption) ?rest43
              case hy43 => (intro wq hSq; have z0 := HC0.out wq hSq.1; skip; go_simp; try with_reducible rfl)
              simp only [Act.put, List.setIfInBounds_toArray, List.set_cons_zero, List.set_cons_succ]
              refine' tkG (i := 26) (v := _) rfl (by kernel_rfl) (by kernel_rfl) (by kernel_rfl) (fun _ _ _ h => h) (by rfl) ?hy44 (by assumption) ?rest44
              case hy44 => (intro wq hSq; have z0 := HC0.out wq hSq.1; skip; go_simp; try with_reducible rfl)
              simp only [Act.put, List.setIfInBounds_toArray, List.set_cons_zero, List.set_cons_succ]
              refine' tkG (i := 27) (v := _) rfl (by kernel_rfl) (by kernel_rfl) (by kernel_rfl) (fun _ _ _ h => h) (by rfl) ?hy45 (by assumption) ?rest45
              case hy45 => (intro wq hSq; have z0 := HC0.out wq hSq.1; skip; go_simp; try with_reducible rfl)
              simp only [Act.put, List.setIfInBounds_toArray, List.set_cons_zero, List.set_cons_succ]
              refine' tkG (i := 28) (v := _) rfl (by kernel_rfl) (by kernel_rfl) (by kernel_rfl) (fun _ _ _ h => h) (by rfl) ?hy46 (by assumption) ?rest46
              case hy46 => (intro wq hSq; have z0 := HC0.out wq hSq.1; skip; go_simp; try with_reducible rfl)
              simp only [Act.put, List.setIfInBounds_toArray, List.set_cons_zero, List.set_cons_succ]
              refine' tkG (i := 29) (v := _) rfl (by kernel_rfl) (by kernel_rfl) (by kernel_rfl) (fun _ _ _ h => h) (by rfl) ?hy47 (by assumption) ?rest47
              case hy47 => (intro wq hSq; have z0 := HC0.out wq hSq.1; skip; go_simp; try with_reducible rfl)
              simp only [Act.put, List.setIfInBounds_toArray, List.set_cons_zero, List.set_cons_succ]
              refine' tkG (i := 30) (v := _) rfl (by kernel_rfl) (by kernel_rfl) (by kernel_rfl) (fun _ _ _ h => h) (by rfl) ?hy48 (by assumption) ?rest48
              case hy48 => (intro wq hSq; have z0 := HC0.out wq hSq.1; skip; go_simp; try with_reducible rfl)
              simp only [Act.put, List.setIfInBounds_toArray, List.set_cons_zero, List.set_cons_succ]
              refine' tkG (i := 31) (v := _) rfl (by kernel_rfl) (by kernel_rfl) (by kernel_rfl) (fun _ _ _ h => h) (by rfl) ?hy49 (by assumption) ?rest49
              case hy49 => (intro wq hSq; have z0 := HC0.out wq hSq.1; skip; go_simp; try with_reducible rfl)
              simp only [Act.put, List.setIfInBounds_toArray, List.set_cons_zero, List.set_cons_succ]
              refine' tkG (i := 32) (v := _) rfl (by kernel_rfl) (by kernel_rfl) (by kernel_rfl) (fun _ _ _ h => h) (by rfl) ?hy50 (by assumption) ?rest50
              case hy50 => (intro wq hSq; have z0 := HC0.out wq hSq.1; skip; go_simp; try with_reducible rfl)
              simp only [Act.put, List.setIfInBounds_toArray, List.set_cons_zero, List.set_cons_succ]
              refine wpAnyH_done (by kernel_rfl) ?_ _
              have HH := Lib.hid (HF13.out.trans hHeld.1)
              clear hHeld
              go_wp2_with fail
              exact ⟨⟨0 + 1, by omega, by simp, HH⟩, by simp [intOf]; omega⟩
            · obtain ⟨k, hkj⟩ : ∃ k, k = j - 1 := ⟨_, rfl⟩
              have hk : k < np := by omega
              have e5 : IntKind.i64.wrap ((j : Int) - 1) = (k : Int) := by have := HNPM.out; rw [IntKind.wrap_i64]; omega
              have e7 : ¬ ((y : Int) ≤ (z : Int)) := by omega
              rw [← hkj] at hcz
              clear hkj
              have HCZ := Lib.hid (show ∀ W, Fr No w13 W → W.cell? ⟨g, o + k, none⟩ = some (.int .u64 (z : Int)) from fun W hW => hcz W (HF13.out.trans hW))
              clear hcz
              refine' tkG (i := 8) (v := _) rfl (by kernel_rfl) (by kernel_rfl) (by kernel_rfl) (fun _ _ _ h => h) (by rfl) ?hy51 (by assumption) ?rest51
              case hy51 => (intro wq hSq; have z0 := HC0.out wq hSq.1; have zz := HCZ.out wq hSq.1; go_simp; try with_reducible rfl)
              simp only [Act.put, List.setIfInBounds_toArray, List.set_cons_zero, List.set_cons_succ]
              refine' tkG (i := 9) (v := _) rfl (by kernel_rfl) (by kernel_rfl) (by kernel_rfl) (fun _ _ _ h => h) (by rfl) ?hy52 (by assumption) ?rest52
              case hy52 => (intro wq hSq; have z0 := HC0.out wq hSq.1; have zz := HCZ.out wq hSq.1; go_simp; try with_reducible rfl)
              simp only [Act.put, List.setIfInBounds_toArray, List.set_cons_zero, List.set_cons_succ]
              refine' tkG (i := 10) (v := _) rfl (by kernel_rfl) (by kernel_rfl) (by kernel_rfl) (fun _ _ _ h => h) (by rfl) ?hy53 (by assumption) ?rest53
              case hy53 => (intro wq hSq; have z0 := HC0.out wq hSq.1; have zz := HCZ.out wq hSq.1; go_simp; try with_reducible rfl)
              simp only [Act.put, List.setIfInBounds_toArray, List.set_cons_zero, List.set_cons_succ]
              refine' tkG (i := 11) (v := _) rfl (by kernel_rfl) (by kernel_rfl) (by kernel_rfl) (fun _ _ _ h => h) (by rfl) ?hy54 (by assumption) ?rest54
              case hy54 => (intro wq hSq; have z0 := HC0.out wq hSq.1; have zz := HCZ.out wq hSq.1; go_simp; try with_reducible rfl)
              simp only [Act.put, List.setIfInBounds_toArray, List.set_cons_zero, List.set_cons_succ]
              refine' tkG (i := 12) (v := _) rfl (by kernel_rfl) (by kernel_rfl) (by kernel_rfl) (fun _ _ _ h => h) (by rfl) ?hy55 (by assumption) ?rest55
              case hy55 => (intro wq hSq; have z0 := HC0.out wq hSq.1; have zz := HCZ.out wq hSq.1; go_simp; try with_reducible rfl)
              simp only [Act.put, List.setIfInBounds_toArray, List.set_cons_zero, List.set_cons_succ]
              refine' tkG (i := 13) (v := _) rfl (by kernel_rfl) (by kernel_rfl) (by kernel_rfl) (fun _ _ _ h => h) (by rfl) ?hy56 (by assumption) ?rest56
              case hy56 => (intro wq hSq; have z0 := HC0.out wq hSq.1; have zz := HCZ.out wq hSq.1; go_simp; try with_reducible rfl)
              simp only [Act.put, List.setIfInBounds_toArray, List.set_cons_zero, List.set_cons_succ]
              refine' tkG (i := 14) (v := _) rfl (by kernel_rfl) (by kernel_rfl) (by kernel_rfl) (fun _ _ _ h => h) (by rfl) ?hy57 (by assumption) ?rest57
              case hy57 => (intro wq hSq; have z0 := HC0.out wq hSq.1; have zz := HCZ.out wq hSq.1; go_simp; try with_reducible rfl)
              simp only [Act.put, List.setIfInBounds_toArray, List.set_cons_zero, List.set_cons_succ]
              refine' tkG (i := 15) (v := _) rfl (by kernel_rfl) (by kernel_rfl) (by kernel_rfl) (fun _ _ _ h => h) (by rfl) ?hy58 (by assumption) ?rest58
              case hy58 => (intro wq hSq; have z0 := HC0.out wq hSq.1; have zz := HCZ.out wq hSq.1; go_simp; try with_reducible rfl)
              simp only [Act.put, List.setIfInBounds_toArray, List.set_cons_zero, List.set_cons_succ]
              refine' tkG (i := 16) (v := _) rfl (by kernel_rfl) (by kernel_rfl) (by kernel_rfl) (fun _ _ _ h => h) (by rfl) ?hy59 (by assumption) ?rest59
              case hy59 => (intro wq hSq; have z0 := HC0.out wq hSq.1; have zz := HCZ.out wq hSq.1; go_simp; try with_reducible rfl)
              simp only [Act.put, List.setIfInBounds_toArray, List.set_cons_zero, List.set_cons_succ]
              refine' tkG (i := 17) (v := _) rfl (by kernel_rfl) (by kernel_rfl) (by kernel_rfl) (fun _ _ _ h => h) (by rfl) ?hy60 (by assumption) ?rest60
              case hy60 => (intro wq hSq; have z0 := HC0.out wq hSq.1; have zz := HCZ.out wq hSq.1; go_simp; try with_reducible rfl)
              simp only [Act.put, List.setIfInBounds_toArray, List.set_cons_zero, List.set_cons_succ]
              refine' tkG (i := 18) (v := _) rfl (by kernel_rfl) (by kernel_rfl) (by kernel_rfl) (fun _ _ _ h => h) (by rfl) ?hy61 (by assumption) ?rest61
              case hy61 => (intro wq hSq; have z0 := HC0.out wq hSq.1; have zz := HCZ.out wq hSq.1; go_simp; try with_reducible rfl)
              simp only [Act.put, List.setIfInBounds_toArray, List.set_cons_zero, List.set_cons_succ]
              refine' tkG (i := 19) (v := _) rfl (by kernel_rfl) (by kernel_rfl) (by kernel_rfl) (fun _ _ _ h => h) (by rfl) ?hy62 (by assumption) ?rest62
              case hy62 => (intro wq hSq; have z0 := HC0.out wq hSq.1; have zz := HCZ.out wq hSq.1; go_simp; try with_reducible rfl)
              simp only [Act.put, List.setIfInBounds_toArray, List.set_cons_zero, List.set_cons_succ]
              refine' tkG (i := 20) (v := _) rfl (by kernel_rfl) (by kernel_rfl) (by kernel_rfl) (fun _ _ _ h => h) (by rfl) ?hy63 (by assumption) ?rest63
              case hy63 => (intro wq hSq; have z0 := HC0.out wq hSq.1; have zz := HCZ.out wq hSq.1; go_simp; try with_reducible rfl)
              simp only [Act.put, List.setIfInBounds_toArray, List.set_cons_zero, List.set_cons_succ]
              refine' tkG (i := 21) (v := _) rfl (by kernel_rfl) (by kernel_rfl) (by kernel_rfl) (fun _ _ _ h => h) (by rfl) ?hy64 (by assumption) ?rest64
              case hy64 => (intro wq hSq; have z0 := HC0.out wq hSq.1; have zz := HCZ.out wq hSq.1; go_simp; try with_reducible rfl)
              simp only [Act.put, List.setIfInBounds_toArray, List.set_cons_zero, List.set_cons_succ]
              refine' tkG (i := 22) (v := _) rfl (by kernel_rfl) (by kernel_rfl) (by kernel_rfl) (fun _ _ _ h => h) (by rfl) ?hy65 (by assumption) ?rest65
              case hy65 => (intro wq hSq; have z0 := HC0.out wq hSq.1; have zz := HCZ.out wq hSq.1; go_simp; try with_reducible rfl)
              simp only [Act.put, List.setIfInBounds_toArray, List.set_cons_zero, List.set_cons_succ]
              refine' tkG (i := 23) (v := _) rfl (by kernel_rfl) (by kernel_rfl) (by kernel_rfl) (fun _ _ _ h => h) (by rfl) ?hy66 (by assumption) ?rest66
              case hy66 => (intro wq hSq; have z0 := HC0.out wq hSq.1; have zz := HCZ.out wq hSq.1; go_simp; try with_reducible rfl)
              simp only [Act.put, List.setIfInBounds_toArray, List.set_cons_zero, List.set_cons_succ]
              refine' tkG (i := 24) (v := _) rfl (by kernel_rfl) (by kernel_rfl) (by kernel_rfl) (fun _ _ _ h => h) (by rfl) ?hy67 (by assumption) ?rest67
              case hy67 => (intro wq hSq; have z0 := HC0.out wq hSq.1; have zz := HCZ.out wq hSq.1; go_simp; try with_reducible rfl)
              simp only [Act.put, List.setIfInBounds_toArray, List.set_cons_zero, List.set_cons_succ]
              refine' tkG (i := 25) (v := _) rfl (by kernel_rfl) (by kernel_rfl) (by kernel_rfl) (fun _ _ _ h => h) (by rfl) ?hy68 (by assumption) ?rest68
              case hy68 => (intro wq hSq; have z0 := HC0.out wq hSq.1; have zz := HCZ.out wq hSq.1; go_simp; try with_reducible rfl)
              simp only [Act.put, List.setIfInBounds_toArray, List.set_cons_zero, List.set_cons_succ]
              refine' tkG (i := 26) (v := _) rfl (by kernel_rfl) (by kernel_rfl) (by kernel_rfl) (fun _ _ _ h => h) (by rfl) ?hy69 (by assumption) ?rest69
              case hy69 => (intro wq hSq; have z0 := HC0.out wq hSq.1; have zz := HCZ.out wq hSq.1; go_simp; try with_reducible rfl)
              simp only [Act.put, List.setIfInBounds_toArray, List.set_cons_zero, List.set_cons_succ]
              refine' tkG (i := 27) (v := _) rfl (by kernel_rfl) (by kernel_rfl) (by kernel_rfl) (fun _ _ _ h => h) (by rfl) ?hy70 (by assumption) ?rest70
              case hy70 => (intro wq hSq; have z0 := HC0.out wq hSq.1; have zz := HCZ.out wq hSq.1; go_simp; try with_reducible rfl)
              simp only [Act.put, List.setIfInBounds_toArray, List.set_cons_zero, List.set_cons_succ]
              refine' tkG (i := 28) (v := _) rfl (by kernel_rfl) (by kernel_rfl) (by kernel_rfl) (fun _ _ _ h => h) (by rfl) ?hy71 (by assumption) ?rest71
              case hy71 => (intro wq hSq; have z0 := HC0.out wq hSq.1; have zz := HCZ.out wq hSq.1; go_simp; try with_reducible rfl)
              simp only [Act.put, List.setIfInBounds_toArray, List.set_cons_zero, List.set_cons_succ]
              refine' tkG (i := 29) (v := _) rfl (by kernel_rfl) (by kernel_rfl) (by kernel_rfl) (fun _ _ _ h => h) (by rfl) ?hy72 (by assumption) ?rest72
              case hy72 => (intro wq hSq; have z0 := HC0.out wq hSq.1; have zz := HCZ.out wq hSq.1; go_simp; try with_reducible rfl)
              simp only [Act.put, List.setIfInBounds_toArray, List.set_cons_zero, List.set_cons_succ]
              refine' tkG (i := 30) (v := _) rfl (by kernel_rfl) (by kernel_rfl) (by kernel_rfl) (fun _ _ _ h => h) (by rfl) ?hy73 (by assumption) ?rest73
              case hy73 => (intro wq hSq; have z0 := HC0.out wq hSq.1; have zz := HCZ.out wq hSq.1; go_simp; try with_reducible rfl)
              simp only [Act.put, List.setIfInBounds_toArray, List.set_cons_zero, List.set_cons_succ]
              refine' tkG (i := 31) (v := _) rfl (by kernel_rfl) (by kernel_rfl) (by kernel_rfl) (fun _ _ _ h => h) (by rfl) ?hy74 (by assumption) ?rest74
              case hy74 => (intro wq hSq; have z0 := HC0.out wq hSq.1; have zz := HCZ.out wq hSq.1; go_simp; try with_reducible rfl)
              simp only [Act.put, List.setIfInBounds_toArray, List.set_cons_zero, List.set_cons_succ]
              refine' tkG (i := 32) (v := _) rfl (by kernel_rfl) (by kernel_rfl) (by kernel_rfl) (fun _ _ _ h => h) (by rfl) ?hy75 (by assumption) ?rest75
              case hy75 => (intro wq hSq; have z0 := HC0.out wq hSq.1; have zz := HCZ.out wq hSq.1; go_simp; try with_reducible rfl)
              simp only [Act.put, List.setIfInBounds_toArray, List.set_cons_zero, List.set_cons_succ]
              refine wpAnyH_done (by kernel_rfl) ?_ _
              have HH := Lib.hid (HF13.out.trans hHeld.1)
              clear hHeld
              go_wp2_with fail
              exact ⟨⟨j + 1, by omega, by simp, HH⟩, by simp [intOf]; omega⟩
          · obtain rfl : j = np := by omega
            have hbq : Calls Try.prog 12 #[.pointer (some ⟨b, 0, none⟩), .int .u64 8192, .int .i64 8192] wr fun r w' => ∃ g, r = .returned (.tuple #[.slice (some ⟨g, 0, none⟩) 8192 8192, .bool true]) ∧ Blk w' g 5 (bV (bytesR m 8192 8192)).toArray ∧ wr.heap.size ≤ g ∧ Fr No wr w' := bytes_c wr b 8192 8192 m _ _ 8192 8192 (HA12.out.fr HFR.out (fun _ _ q => q)) (by omega) (by omega) (by omega) (hasR_all 8192 8192)
            have HBQ := Lib.hid hbq
            have HNIL := Lib.hid (show j = 0 → bytesR m 8192 8192 = List.replicate 8192 0 from fun h0 => bytes_z (fun y => Classical.byContradiction fun hn => by
              have hm : y / 4096 * 4096 ∈ lp := (HPO.out.2 _).2 ⟨_, rfl, y % 4096, by omega, by rw [show y / 4096 * 4096 + y % 4096 = y by omega]; exact hn⟩
              have hl : lp = [] := List.eq_nil_of_length_eq_zero (by have := HNP.out; omega)
              rw [hl] at hm
              cases hm) _ _)
            clear hbq
            go_wp2_with fail
            refine HBQ.out.mono ?_
            rintro e w13 ⟨gb, rfl, hB13, _, hf13⟩
            have HF13 := Lib.hid (HF12.out.trans (HFR.out.trans hf13))
            obtain ⟨TZ, hTZ⟩ : ∃ TZ, TZ = txt (List.replicate 8192 0) := ⟨_, rfl⟩
            have HTZ := Lib.hid hTZ
            have HCW := Lib.hid (show j = 0 → ∀ W, Fr No w13 W → (convert 31 9 (.slice (some ⟨gb, 0, none⟩) 8192 8192)).run Try.prog W = .ok (.string TZ) W from fun h0 W hW => by rw [HTZ.out, ← HNIL.out h0]; exact text_at W gb _ 8192 (hB13.fr hW (fun q => q)) (bytesR_len _ _ _) (by omega))
            clear hB13 hf13 hTZ
            by_cases h0 : j = 0
            · obtain ⟨Z, hZ⟩ : ∃ Z, Z = (bV (List.replicate 8192 0)).toArray := ⟨_, rfl⟩
              have HMK := Lib.hid (show ∀ W : World, (Instr.makeSlice 31 (.int .i64 8192) (.int .i64 8192)).run Try.prog W = .ok (.slice (some ⟨W.heap.size, 0, none⟩) 8192 8192) (W.alloc (.cells Z 5)) from fun W => by rw [hZ]; exact make_zero 8192 (by omega) W)
              have HZT := Lib.hid (show ∀ (W : World) (B : Nat), Blk W B 5 Z → (convert 31 9 (.slice (some ⟨B, 0, none⟩) 8192 8192)).run Try.prog W = .ok (.string TZ) W from fun W B hB => by rw [HTZ.out]; rw [hZ] at hB; exact text_at W B _ 8192 hB (List.length_replicate ..) (by omega))
              have HCV := Lib.hid (HCW.out h0)
              have HC0 : Hid (∀ W, Fr No w13 W → True) := Lib.hid (fun _ _ => trivial)
              clear hZ
              subst h0
              go_upto_region 32 with fail
              refine wp_region_held_drew (S := fun W => Fr No w13 W) (by kernel_rfl) (Fr.refl No w13).drew (fun hHeld => ?_)
              refine' tkG (i := 0) (v := _) rfl (by kernel_rfl) (by kernel_rfl) (by kernel_rfl) (fun _ _ _ h => h) (by rfl) ?hy76 (by assumption) ?rest76
              case hy76 => (intro wq hSq; have z0 := HC0.out wq hSq; have zc := HCV.out wq hSq; go_simp; try with_reducible rfl)
              simp only [Act.put, List.setIfInBounds_toArray, List.set_cons_zero, List.set_cons_succ]
              refine' tkG (i := 1) (v := _) rfl (by kernel_rfl) (by kernel_rfl) (by kernel_rfl) (fun _ _ _ h => h) (by rfl) ?hy77 (by assumption) ?rest77
              case hy77 => (intro wq hSq; have z0 := HC0.out wq hSq; have zc := HCV.out wq hSq; go_simp; try with_reducible rfl)
              simp only [Act.put, List.setIfInBounds_toArray, List.set_cons_zero, List.set_cons_succ]
              refine' tkG (i := 2) (v := _) rfl (by kernel_rfl) (by kernel_rfl) (by kernel_rfl) (fun _ _ _ h => h) (by rfl) ?hy78 (by assumption) ?rest78
              case hy78 => (intro wq hSq; have z0 := HC0.out wq hSq; have zc := HCV.out wq hSq; go_simp; try with_reducible rfl)
              simp only [Act.put, List.setIfInBounds_toArray, List.set_cons_zero, List.set_cons_succ]
              refine' tkG (i := 3) (v := _) rfl (by kernel_rfl) (by kernel_rfl) (by kernel_rfl) (fun _ _ _ h => h) (by rfl) ?hy79 (by assumption) ?rest79
              case hy79 => (intro wq hSq; have z0 := HC0.out wq hSq; have zc := HCV.out wq hSq; go_simp; try with_reducible rfl)
              simp only [Act.put, List.setIfInBounds_toArray, List.set_cons_zero, List.set_cons_succ]
              refine' tkG (i := 4) (v := _) rfl (by kernel_rfl) (by kernel_rfl) (by kernel_rfl) (fun _ _ _ h => h) (by rfl) ?hy80 (by assumption) ?rest80
              case hy80 => (intro wq hSq; have z0 := HC0.out wq hSq; have zc := HCV.out wq hSq; go_simp; try with_reducible rfl)
              simp only [Act.put, List.setIfInBounds_toArray, List.set_cons_zero, List.set_cons_succ]
              refine' tkG (i := 5) (v := _) rfl (by kernel_rfl) (by kernel_rfl) (by kernel_rfl) (fun _ _ _ h => h) (by rfl) ?hy81 (by assumption) ?rest81
              case hy81 => (intro wq hSq; have z0 := HC0.out wq hSq; have zc := HCV.out wq hSq; go_simp; try with_reducible rfl)
              simp only [Act.put, List.setIfInBounds_toArray, List.set_cons_zero, List.set_cons_succ]
              refine wpAnyH_ready (rs := [6]) (by kernel_rfl) (by simp) ?_
              refine AllReadyH.cons rfl (fun K hK => ?_) AllReadyH.nil
              rw [if_pos (by kernel_rfl)]
              have hmk := HMK.out
              go_simp
              refine hK.out _ _ (hHeld.alloc _) (fun hHeld2 => ?_)
              clear hK K hHeld hmk
              try simp only [List.setIfInBounds_toArray, List.set_cons_zero, List.set_cons_succ]
              obtain ⟨BZ, hBZ⟩ : ∃ BZ, BZ = w13.heap.size := ⟨_, rfl⟩
              obtain ⟨X, hX⟩ : ∃ X, X = (w13.alloc (.cells Z 5)).drew := ⟨_, rfl⟩
              have hBX : Blk X BZ 5 Z := by rw [hX, hBZ]; exact Blk.new w13 _ _
              rw [← hX] at hHeld2 ⊢
              rw [← hBZ]
              refine wpAnyH_sharper (T := fun W => Fr No w13 W ∧ Blk W BZ 5 Z) (fun W h => h.1) _ _ _ _ ?_
              have hHeld : Fr No w13 X ∧ Blk X BZ 5 Z := ⟨hHeld2, hBX⟩
              clear hX hBZ hBX hHeld2
              refine' tkG (i := 7) (v := _) rfl (by kernel_rfl) (by kernel_rfl) (by kernel_rfl) (fun _ _ _ h => h) (by rfl) ?hy82 (by assumption) ?rest82
              case hy82 => (intro wq hSq; have z0 := HC0.out wq hSq.1; have zz := HZT.out wq BZ hSq.2; go_simp; try with_reducible rfl)
              simp only [Act.put, List.setIfInBounds_toArray, List.set_cons_zero, List.set_cons_succ]
              refine' tkG (i := 8) (v := _) rfl (by kernel_rfl) (by kernel_rfl) (by kernel_rfl) (fun _ _ _ h => h) (by rfl) ?hy83 (by assumption) ?rest83
              case hy83 => (intro wq hSq; have z0 := HC0.out wq hSq.1; skip; go_simp; try with_reducible rfl)
              simp only [Act.put, List.setIfInBounds_toArray, List.set_cons_zero, List.set_cons_succ]
              refine' tkG (i := 9) (v := _) rfl (by kernel_rfl) (by kernel_rfl) (by kernel_rfl) (fun _ _ _ h => h) (by rfl) ?hy84 (by assumption) ?rest84
              case hy84 => (intro wq hSq; have z0 := HC0.out wq hSq.1; skip; go_simp; try with_reducible rfl)
              simp only [Act.put, List.setIfInBounds_toArray, List.set_cons_zero, List.set_cons_succ]
              refine' tkG (i := 10) (v := _) rfl (by kernel_rfl) (by kernel_rfl) (by kernel_rfl) (fun _ _ _ h => h) (by rfl) ?hy85 (by assumption) ?rest85
              case hy85 => (intro wq hSq; have z0 := HC0.out wq hSq.1; skip; go_simp; try with_reducible rfl)
              simp only [Act.put, List.setIfInBounds_toArray, List.set_cons_zero, List.set_cons_succ]
              refine wpAnyH_done (by kernel_rfl) ?_ _
              have HH := Lib.hid (HF13.out.trans hHeld.1)
              clear hHeld
              go_wp2_with fail
              go_ret
              exact ⟨by simp, HH.out⟩
            · have d1 : decide (0 < j) = true := by rw [decide_eq_true_iff]; omega
              clear h0
              go_upto_region 32 with fail
              go_quiet (fail)
              go_wp2_with fail
              go_ret
              exact ⟨rfl, HF13.out.drewN _⟩
end Go.Proofs.Ytpnabfekidpnoaa

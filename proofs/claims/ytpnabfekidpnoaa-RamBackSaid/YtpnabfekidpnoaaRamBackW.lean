/-
  The statement RamBack: its walk.
-/
import Derived.Test.YtpnabfekidpnoaaRamL
import Derived.Test.YtpnabfekidpnoaaTake
namespace Go.Proofs.Ytpnabfekidpnoaa
open Go Go.RowKit

set_option maxRecDepth 100000 in
set_option maxHeartbeats 4000000 in
set_option pp.deepTerms true in
set_option pp.maxSteps 1000000 in
theorem RamBack_c (w : World) (page : Nat) (v : Value) (l : List AC) (hr : Rd w v l.length (acells l)) (hok : ∀ y ∈ l, y.ok) (a : Nat) (ha : a < 18446744073709551616) (nn : Int) (x : Nat) (hx : x < 18446744073709551616) :
    Calls Try.prog 3 #[.int .u64 (page : Int), v, .int .u64 (a : Int), .int .i64 nn, .int .u64 (x : Int)] w fun e w' => e = .returned (.bool true) ∧ Fr No w w' := by
  obtain ⟨base, hbase⟩ : ∃ base, base = page % 1099511627776 * 4096 := ⟨_, rfl⟩
  have hb52 : base ≤ 4503599627370496 := by omega
  have hgood : goodR base 12288 = true := by
    unfold goodR
    simp
    omega
  have e0 : IntKind.u64.wrap ((page : Int) % 1099511627776 * 4096) = (base : Int) := by rw [IntKind.wrap_u64]; omega
  have HNEW := Lib.hid (fun W => new_c W base 12288 hgood)
  have HR := Lib.hid hr
  have HOK := Lib.hid hok
  have HX := Lib.hid hx
  have HA := Lib.hid ha
  have HB := Lib.hid hb52
  obtain ⟨aa, c, rfl, hlc, hcm, _, _⟩ := hr
  obtain ⟨n, hn⟩ : ∃ n, n = l.length := ⟨_, rfl⟩
  unfold maxLen at hcm
  rw [← hn] at HR hlc ⊢
  have HN := Lib.hid hn
  have HNM := Lib.hid (show n ≤ 9223372036854775807 by omega)
  clear hok hn hcm hlc hx ha hb52 hgood hbase
  go_enter Try.func3, Try.ntmps3
  go_wp2_with fail
  refine (awake_c w).mono ?_
  rintro e w0 ⟨rfl, hf0⟩
  have HF0 := Lib.hid hf0
  clear hf0
  go_wp2_with fail
  refine (HNEW.out w0).mono ?_
  rintro e w1 ⟨b, rfl, hA1, hf1⟩
  have HA1 := Lib.hid (hA1.mono (F' := fun k => w.heap.size ≤ k) (fun k h => h.elim (fun h => h.elim) (fun h => Nat.le_trans HF0.out.size h.1)))
  have HF1 := Lib.hid (HF0.out.trans hf1)
  clear hA1 hf1 HF0 e0
  go_wp2_with fail
  have hG := great_c w1 (.slice aa n c) l (by have h := HR.out; rw [HN.out] at h ⊢; exact h.fr HF1.out (fun _ _ _ q => q))
  refine hG.mono ?_
  rintro e w2 ⟨⟨q, rfl, hq⟩, rfl⟩
  have HG := Lib.hid hq
  clear hG hq
  cases q with
  | true =>
    go_wp2_with fail
    go_ret
    exact ⟨rfl, HF1.out⟩
  | false =>
    have HG60 := Lib.hid (show n ≤ 60 from by rw [HN.out]; exact HG.out rfl)
    clear HG
    go_wp2_with fail
    go_loopw [14] (fun pi wr => ∃ i : Nat, i ≤ n ∧ pi = .int .i64 (i : Int) ∧ Hid (RAt wr b base 12288 (memOf base (l.take i)) (8 * i) (fun k => w.heap.size ≤ k)) ∧ Hid (Fr No w wr)) (fun pi _ => n - (intOf pi).toNat)
    case atStart => exact ⟨0, Nat.zero_le _, rfl, HA1, HF1⟩
    case round =>
      obtain ⟨i, hi, rfl, HA2, HF2⟩ := hrel
      by_cases hlt : i < n
      · have hiL : i < l.length := by have := HN.out; omega
        have hR := HR.out
        rw [HN.out] at hR
        obtain ⟨g, o, c', hv, hcell⟩ := hR.acAt hiL
        injection hv with e1 _ e3
        subst e1 e3
        have hc := hcell wr HF2.out
        have hp := memOf_snoc base l i hiL
        have hko := HOK.out _ (List.getElem_mem hiL)
        obtain ⟨y, hy⟩ : ∃ y, y = l[i] := ⟨_, rfl⟩
        rw [← hy] at hc hp hko
        have q1 := hc 1 _ rfl
        have q2 := hc 2 _ rfl
        have q3 := hc 3 _ rfl
        simp only [← Nat.add_assoc] at q1 q2 q3
        have HP := Lib.hid hp
        have HKO := Lib.hid hko
        obtain ⟨z, hz⟩ : ∃ z, z = base + y.a % 12288 := ⟨_, rfl⟩
        have HZ := Lib.hid hz
        have e2 : IntKind.u64.wrap ((base : Int) + (y.a : Int).tmod 12288) = (z : Int) := by
          rw [Int.tmod_eq_emod_of_nonneg (Int.natCast_nonneg _), IntKind.wrap_u64]
          have := HB.out
          omega
        have e1 : IntKind.i64.wrap ((i : Int) + 1) = ((i + 1 : Nat) : Int) := by have := HNM.out; rw [IntKind.wrap_i64]; omega
        have HGW := Lib.hid (show g < w.heap.size from World.block_lt_of_cell? w _ (hcell w (Fr.refl No w) 1 _ rfl))
        clear hc hp hcell hy hR hz hko
        go_upto_region 12 with fail
        refine wp_region_held_drew (S := fun W => W.cell? ⟨g, o + i * 5 + 1, none⟩ = some (.int .u64 (y.a : Int)) ∧ W.cell? ⟨g, o + i * 5 + 2, none⟩ = some (.int .i64 y.n) ∧ W.cell? ⟨g, o + i * 5 + 3, none⟩ = some (.int .u64 (y.v : Int))) (by kernel_rfl) ⟨q1, q2, q3⟩ (fun hHeld => ?_)
        clear q1 q2 q3
        refine' tkG (i := 0) (v := _) rfl (by kernel_rfl) (by kernel_rfl) (by kernel_rfl) (fun _ _ _ h => h) (by rfl) ?hy1 (by assumption) ?rest1
        case hy1 => (intro wq hSq; obtain ⟨q1, q2, q3⟩ := hSq; go_simp; try with_reducible rfl)
        simp only [Act.put, List.setIfInBounds_toArray, List.set_cons_zero, List.set_cons_succ]
        refine' tkG (i := 1) (v := _) rfl (by kernel_rfl) (by kernel_rfl) (by kernel_rfl) (fun _ _ _ h => h) (by rfl) ?hy2 (by assumption) ?rest2
        case hy2 => (intro wq hSq; obtain ⟨q1, q2, q3⟩ := hSq; go_simp; try with_reducible rfl)
        simp only [Act.put, List.setIfInBounds_toArray, List.set_cons_zero, List.set_cons_succ]
        refine' tkG (i := 2) (v := _) rfl (by kernel_rfl) (by kernel_rfl) (by kernel_rfl) (fun _ _ _ h => h) (by rfl) ?hy3 (by assumption) ?rest3
        case hy3 => (intro wq hSq; obtain ⟨q1, q2, q3⟩ := hSq; go_simp; try with_reducible rfl)
        simp only [Act.put, List.setIfInBounds_toArray, List.set_cons_zero, List.set_cons_succ]
        refine' tkG (i := 3) (v := _) rfl (by kernel_rfl) (by kernel_rfl) (by kernel_rfl) (fun _ _ _ h => h) (by rfl) ?hy4 (by assumption) ?rest4
        case hy4 => (intro wq hSq; obtain ⟨q1, q2, q3⟩ := hSq; go_simp; try with_reducible rfl)
        simp only [Act.put, List.setIfInBounds_toArray, List.set_cons_zero, List.set_cons_succ]
        refine' tkG (i := 4) (v := _) rfl (by kernel_rfl) (by kernel_rfl) (by kernel_rfl) (fun _ _ _ h => h) (by rfl) ?hy5 (by assumption) ?rest5
        case hy5 => (intro wq hSq; obtain ⟨q1, q2, q3⟩ := hSq; go_simp; try with_reducible rfl)
        simp only [Act.put, List.setIfInBounds_toArray, List.set_cons_zero, List.set_cons_succ]
        refine' tkG (i := 5) (v := _) rfl (by kernel_rfl) (by kernel_rfl) (by kernel_rfl) (fun _ _ _ h => h) (by rfl) ?hy6 (by assumption) ?rest6
        case hy6 => (intro wq hSq; obtain ⟨q1, q2, q3⟩ := hSq; go_simp; try with_reducible rfl)
        simp only [Act.put, List.setIfInBounds_toArray, List.set_cons_zero, List.set_cons_succ]
        refine' tkG (i := 6) (v := _) rfl (by kernel_rfl) (by kernel_rfl) (by kernel_rfl) (fun _ _ _ h => h) (by rfl) ?hy7 (by assumption) ?rest7
        case hy7 => (intro wq hSq; obtain ⟨q1, q2, q3⟩ := hSq; go_simp; try with_reducible rfl)
        simp only [Act.put, List.setIfInBounds_toArray, List.set_cons_zero, List.set_cons_succ]
        refine' tkG (i := 7) (v := _) rfl (by kernel_rfl) (by kernel_rfl) (by kernel_rfl) (fun _ _ _ h => h) (by rfl) ?hy8 (by assumption) ?rest8
        case hy8 => (intro wq hSq; obtain ⟨q1, q2, q3⟩ := hSq; go_simp; try with_reducible rfl)
        simp only [Act.put, List.setIfInBounds_toArray, List.set_cons_zero, List.set_cons_succ]
        refine' tkG (i := 8) (v := _) rfl (by kernel_rfl) (by kernel_rfl) (by kernel_rfl) (fun _ _ _ h => h) (by rfl) ?hy9 (by assumption) ?rest9
        case hy9 => (intro wq hSq; obtain ⟨q1, q2, q3⟩ := hSq; go_simp; try with_reducible rfl)
        simp only [Act.put, List.setIfInBounds_toArray, List.set_cons_zero, List.set_cons_succ]
        refine' tkG (i := 9) (v := _) rfl (by kernel_rfl) (by kernel_rfl) (by kernel_rfl) (fun _ _ _ h => h) (by rfl) ?hy10 (by assumption) ?rest10
        case hy10 => (intro wq hSq; obtain ⟨q1, q2, q3⟩ := hSq; go_simp; try with_reducible rfl)
        simp only [Act.put, List.setIfInBounds_toArray, List.set_cons_zero, List.set_cons_succ]
        refine' tkG (i := 10) (v := _) rfl (by kernel_rfl) (by kernel_rfl) (by kernel_rfl) (fun _ _ _ h => h) (by rfl) ?hy11 (by assumption) ?rest11
        case hy11 => (intro wq hSq; obtain ⟨q1, q2, q3⟩ := hSq; go_simp; try with_reducible rfl)
        simp only [Act.put, List.setIfInBounds_toArray, List.set_cons_zero, List.set_cons_succ]
        refine' tkG (i := 11) (v := _) rfl (by kernel_rfl) (by kernel_rfl) (by kernel_rfl) (fun _ _ _ h => h) (by rfl) ?hy12 (by assumption) ?rest12
        case hy12 => (intro wq hSq; obtain ⟨q1, q2, q3⟩ := hSq; go_simp; try with_reducible rfl)
        simp only [Act.put, List.setIfInBounds_toArray, List.set_cons_zero, List.set_cons_succ]
        refine' tkG (i := 12) (v := _) rfl (by kernel_rfl) (by kernel_rfl) (by kernel_rfl) (fun _ _ _ h => h) (by rfl) ?hy13 (by assumption) ?rest13
        case hy13 => (intro wq hSq; obtain ⟨q1, q2, q3⟩ := hSq; go_simp; try with_reducible rfl)
        simp only [Act.put, List.setIfInBounds_toArray, List.set_cons_zero, List.set_cons_succ]
        refine' tkG (i := 13) (v := _) rfl (by kernel_rfl) (by kernel_rfl) (by kernel_rfl) (fun _ _ _ h => h) (by rfl) ?hy14 (by assumption) ?rest14
        case hy14 => (intro wq hSq; obtain ⟨q1, q2, q3⟩ := hSq; go_simp; try with_reducible rfl)
        simp only [Act.put, List.setIfInBounds_toArray, List.set_cons_zero, List.set_cons_succ]
        refine' tkG (i := 14) (v := _) rfl (by kernel_rfl) (by kernel_rfl) (by kernel_rfl) (fun _ _ _ h => h) (by rfl) ?hy15 (by assumption) ?rest15
        case hy15 => (intro wq hSq; obtain ⟨q1, q2, q3⟩ := hSq; go_simp; try with_reducible rfl)
        simp only [Act.put, List.setIfInBounds_toArray, List.set_cons_zero, List.set_cons_succ]
        refine' tkG (i := 15) (v := _) rfl (by kernel_rfl) (by kernel_rfl) (by kernel_rfl) (fun _ _ _ h => h) (by rfl) ?hy16 (by assumption) ?rest16
        case hy16 => (intro wq hSq; obtain ⟨q1, q2, q3⟩ := hSq; go_simp; try with_reducible rfl)
        simp only [Act.put, List.setIfInBounds_toArray, List.set_cons_zero, List.set_cons_succ]
        refine' tkG (i := 16) (v := _) rfl (by kernel_rfl) (by kernel_rfl) (by kernel_rfl) (fun _ _ _ h => h) (by rfl) ?hy17 (by assumption) ?rest17
        case hy17 => (intro wq hSq; obtain ⟨q1, q2, q3⟩ := hSq; go_simp; try with_reducible rfl)
        simp only [Act.put, List.setIfInBounds_toArray, List.set_cons_zero, List.set_cons_succ]
        refine' tkG (i := 17) (v := _) rfl (by kernel_rfl) (by kernel_rfl) (by kernel_rfl) (fun _ _ _ h => h) (by rfl) ?hy18 (by assumption) ?rest18
        case hy18 => (intro wq hSq; obtain ⟨q1, q2, q3⟩ := hSq; go_simp; try with_reducible rfl)
        simp only [Act.put, List.setIfInBounds_toArray, List.set_cons_zero, List.set_cons_succ]
        refine' tkG (i := 18) (v := _) rfl (by kernel_rfl) (by kernel_rfl) (by kernel_rfl) (fun _ _ _ h => h) (by rfl) ?hy19 (by assumption) ?rest19
        case hy19 => (intro wq hSq; obtain ⟨q1, q2, q3⟩ := hSq; go_simp; try with_reducible rfl)
        simp only [Act.put, List.setIfInBounds_toArray, List.set_cons_zero, List.set_cons_succ]
        refine wpAnyH_ready (rs := [19]) (by kernel_rfl) (by simp) ?_
        refine AllReadyH.cons rfl (fun K hK => ?_) AllReadyH.nil
        go_simp
        have hq : Calls Try.prog 11 #[.pointer (some ⟨b, 0, none⟩), .int .u64 (z : Int), .int .i64 y.n, .int .u64 (y.v : Int)] wr.drew fun r w' => r = .returned (.bool (okR base 12288 z y.n)) ∧ RAt w' b base 12288 (writeR base 12288 (memOf base (l.take i)) z y.n y.v) (8 * i + 8) (Plus (fun k => w.heap.size ≤ k) wr.drew w') ∧ Fr (fun k => w.heap.size ≤ k) wr.drew w' := write_c wr.drew b base 12288 _ _ _ z y.v y.n (HA2.out.fr ((Fr.refl No wr).drew) (fun _ _ q => q)) (by have := HB.out; omega) (by have := HB.out; have := HZ.out; omega) HKO.out.2.1 (by have := HKO.out.2.2.2.1; omega) (by have := HG60.out; omega)
        refine hq.mono ?_
        rintro e w4 ⟨rfl, hA4, hf4⟩
        rw [HZ.out, ← HP.out] at hA4
        have HA4 := Lib.hid (hA4.mono (F' := fun k => w.heap.size ≤ k) (fun k h => h.elim (fun h => h) (fun h => Nat.le_trans HF2.out.size h.1)))
        have HF4 := Lib.hid (show Fr No w w4 from (HF2.out.drew).andThen hf4 (fun k hk h => by have h2 : w.heap.size ≤ k := h; omega))
        clear hq hA4
        go_simp
        have hgw : ¬ (w.heap.size ≤ g) := by have h := HGW.out; omega
        refine hK.out _ _ ⟨hf4.cell hHeld.1 hgw, hf4.cell hHeld.2.1 hgw, hf4.cell hHeld.2.2 hgw⟩ (fun hHeld2 => ?_)
        clear hf4 hK K hgw hHeld hHeld2
        try simp only [List.setIfInBounds_toArray, List.set_cons_zero, List.set_cons_succ]
        refine wpAnyH_done (by kernel_rfl) ?_ _
        go_wp2_with fail
        exact ⟨⟨i + 1, by omega, rfl, HA4, HF4⟩, by simp [intOf]; omega⟩
      · obtain ⟨N, κ, L0, L1, A, hBN⟩ := backN nn a base HB.out
        obtain rfl : i = n := by omega
        have f1 := hBN.f1
        have f2 := hBN.f2
        have f3 := hBN.f3
        have f4 := hBN.f4
        have f5 := hBN.f5
        have f6 := hBN.f6
        have f7 := hBN.f7
        have f8 := hBN.f8
        have HNC := Lib.hid hBN.c
        have HA3 := Lib.hid (show base ≤ A ∧ A + N ≤ base + 12288 from ⟨hBN.lo, hBN.hi⟩)
        clear hBN
        obtain ⟨m0, hm0⟩ : ∃ m0, m0 = memOf base l := ⟨_, rfl⟩
        have h := HA2.out
        rw [HN.out, List.take_length, ← hm0, ← HN.out] at h
        have HA5 := Lib.hid (h.cut)
        obtain ⟨s, hs⟩ : ∃ s, s = wr.heap.size := ⟨_, rfl⟩
        rw [← hs] at HA5
        have HS := Lib.hid hs
        have hq : Calls Try.prog 12 #[.pointer (some ⟨b, 0, none⟩), .int .u64 (base : Int), .int .i64 12288] wr fun r w' => ∃ g, r = .returned (.tuple #[.slice (some ⟨g, 0, none⟩) 12288 12288, .bool true]) ∧ Blk w' g 5 (bV (bytesR m0 base 12288)).toArray ∧ wr.heap.size ≤ g ∧ Fr No wr w' := bytes_c wr b base 12288 m0 _ _ base 12288 HA5.out (by have := HB.out; omega) (by omega) (by have := HB.out; omega) (hasR_all base 12288)
        have HQ := Lib.hid hq
        clear h hm0 HA2 HA1 HF1 HNEW HOK HR hs hq
        go_wp2_with fail
        refine HQ.out.mono ?_
        rintro e w3 ⟨g, rfl, hB3, hsg, hf3⟩
        have HB3 := Lib.hid hB3
        have HSG := Lib.hid (show s ≤ g by rw [HS.out]; exact hsg)
        have HA6 := Lib.hid (HA5.out.fr hf3 (fun _ _ q => q))
        have HF3 := Lib.hid (HF2.out.trans hf3)
        have HF3s := Lib.hid (show s ≤ w3.heap.size by rw [HS.out]; exact hf3.size)
        clear hB3 hsg hf3 HA5 HF2 HQ
        have hok1 := okR_of HNC.out HA3.out.1 HA3.out.2
        have hq : Calls Try.prog 11 #[.pointer (some ⟨b, 0, none⟩), .int .u64 (A : Int), .int .i64 (N : Int), .int .u64 (x : Int)] w3 fun r w' => r = .returned (.bool (okR base 12288 A (N : Int))) ∧ RAt w' b base 12288 (writeR base 12288 m0 A (N : Int) x) (8 * i + 8) (Plus (fun k => w.heap.size ≤ k ∧ k < s) w3 w') ∧ Fr (fun k => w.heap.size ≤ k ∧ k < s) w3 w' := write_c w3 b base 12288 _ _ _ A x N HA6.out (by have := HB.out; omega) (by have := HB.out; have := HA3.out; omega) HX.out (by have := HNC.out; omega) (by have := HG60.out; omega)
        rw [hok1, show writeR base 12288 m0 A (N : Int) x = wrR m0 A x N by unfold writeR; rw [if_pos hok1, Int.toNat_natCast]] at hq
        have HQ := Lib.hid hq
        have HO1 := Lib.hid hok1
        clear hq hok1 HA6
        go_wp2_with fail
        refine HQ.out.mono ?_
        rintro e w4 ⟨rfl, hA4, hf4⟩
        have HB4 := Lib.hid (HB3.out.fr hf4 (fun h => by have h2 : w.heap.size ≤ g ∧ g < s := h; have := HSG.out; omega))
        have HA4 := Lib.hid hA4
        have HF4 := Lib.hid (show Fr No w w4 from HF3.out.andThen hf4 (fun k hk h => by have h2 : w.heap.size ≤ k ∧ k < s := h; omega))
        have HG4 := Lib.hid (show g < w4.heap.size from HB4.out.lt)
        clear hA4 hf4 HB3 HF3 HQ HF3s HSG HS
        obtain ⟨m1, hm1⟩ : ∃ m1, m1 = wrR m0 A x N := ⟨_, rfl⟩
        rw [← hm1] at HA4
        obtain ⟨X, hX⟩ : ∃ X, X = x % 2 ^ (8 * N) := ⟨_, rfl⟩
        have hrd : numR m1 A N = X := by rw [hm1, hX]; exact numR_wr m0 A x N
        have HXX := Lib.hid hX
        clear hX
        have hq : Calls Try.prog 13 #[.pointer (some ⟨b, 0, none⟩), .int .u64 (A : Int), .int .i64 (N : Int)] w4 fun r w' => r = .returned (.tuple #[.int .u64 ((readR base 12288 m1 A (N : Int) : Nat) : Int), .bool (okR base 12288 A (N : Int))]) ∧ ∃ k, w' = w4.drewN k := read_c w4 b base 12288 m1 _ _ A N HA4.out (by have := HB.out; omega) (by have := HB.out; have := HA3.out; omega) (by have := HNC.out; omega)
        rw [HO1.out, show readR base 12288 m1 A (N : Int) = X by unfold readR; rw [if_pos HO1.out, Int.toNat_natCast, hrd]] at hq
        have HQ := Lib.hid hq
        have HRD := Lib.hid hrd
        have HM1 := Lib.hid hm1
        clear hq hm1 hrd
        go_wp2_with fail
        refine HQ.out.mono ?_
        rintro e w5 ⟨rfl, k5, rfl⟩
        have HB5 := Lib.hid (HB4.out.fr ((Fr.refl No w4).drewN k5) (fun q => q))
        have HA5 := Lib.hid (HA4.out.fr ((Fr.refl No w4).drewN k5) (fun _ _ q => q))
        have HF5 := Lib.hid (HF4.out.drewN k5)
        have HG5 := Lib.hid (show g < (w4.drewN k5).heap.size from HG4.out)
        generalize hw5 : w4.drewN k5 = w5
        rw [hw5] at HB5 HA5 HF5 HG5
        clear HQ HB4 HA4 HF4 HG4 hw5
        have hq : Calls Try.prog 12 #[.pointer (some ⟨b, 0, none⟩), .int .u64 (base : Int), .int .i64 12288] w5 fun r w' => ∃ g, r = .returned (.tuple #[.slice (some ⟨g, 0, none⟩) 12288 12288, .bool true]) ∧ Blk w' g 5 (bV (bytesR m1 base 12288)).toArray ∧ w5.heap.size ≤ g ∧ Fr No w5 w' := bytes_c w5 b base 12288 m1 _ _ base 12288 HA5.out (by have := HB.out; omega) (by omega) (by have := HB.out; omega) (hasR_all base 12288)
        have HQ := Lib.hid hq
        clear hq
        go_wp2_with fail
        refine HQ.out.mono ?_
        rintro e w6 ⟨g2, rfl, hB6, hsg, hf6⟩
        have HC6 := Lib.hid hB6
        have HB6 := Lib.hid (HB5.out.fr hf6 (fun q => q))
        have HA6 := Lib.hid (HA5.out.fr hf6 (fun _ _ q => q))
        have HF6 := Lib.hid (HF5.out.trans hf6)
        clear hB6 hsg hf6 HQ HB5 HA5 HF5 HG5
        obtain ⟨S, N8, e1, e2, e3, e4, e5⟩ := backS N x HNC.out
        rw [← HXX.out] at e5
        clear HXX
        go_wp2_with fail
        clear e1 e2 e3 e4 e5 f1 f2 f3 f4 f5 f6 f7 f8
        go_loopw [21] (fun pi wr => ∃ j : Nat, j ≤ 12288 ∧ pi = .int .i64 (j : Int) ∧ Hid (Fr No w6 wr)) (fun pi _ => 12288 - (intOf pi).toNat)
        case atStart => exact ⟨0, Nat.zero_le _, rfl, Lib.hid (Fr.refl No w6)⟩
        case round =>
          obtain ⟨j, hj, rfl, HR6⟩ := hrel
          by_cases hjlt : j < 12288
          · obtain ⟨t, AN, ht, hAN, e1, e2, e3, e4, e5⟩ := backT base A N j HB.out HNC.out HA3.out.2 hjlt
            have c1 : _ = _ := ((HB6.out.fr HR6.out (fun q => q)).cell j).trans (bV_at m0 base 12288 j hjlt)
            have c2 : _ = _ := ((HC6.out.fr HR6.out (fun q => q)).cell j).trans (bV_at m1 base 12288 j hjlt)
            rw [← ht, HM1.out, wrR_at, ← hAN] at c2
            rw [← ht] at c1
            by_cases g1 : t < A
            · rw [if_neg (by omega)] at c2
              obtain ⟨z, hz⟩ : ∃ z, z = m0 t := ⟨_, rfl⟩
              rw [← hz] at c1 c2
              have d1 : decide (t < A) = true := by rw [decide_eq_true_iff]; omega
              have d2 : decide (A ≤ t) = false := by rw [decide_eq_false_iff_not]; omega
              clear ht hAN hz
              go_upto_region 26 with fail
              go_quiet (fail)
              go_wp2_with fail
              exact ⟨⟨j + 1, by omega, rfl, Lib.hid (HR6.out.drewN _)⟩, by simp [intOf]; omega⟩
            · by_cases g2' : AN ≤ t
              · rw [if_neg (by omega)] at c2
                obtain ⟨z, hz⟩ : ∃ z, z = m0 t := ⟨_, rfl⟩
                rw [← hz] at c1 c2
                have d1 : decide (t < A) = false := by rw [decide_eq_false_iff_not]; omega
                have d2 : decide (A ≤ t) = true := by rw [decide_eq_true_iff]; omega
                have d3 : decide (AN ≤ t) = true := by rw [decide_eq_true_iff]; omega
                have d4 : decide (t < AN) = false := by rw [decide_eq_false_iff_not]; omega
                clear ht hAN hz
                go_upto_region 26 with fail
                go_quiet (fail)
                go_wp2_with fail
                exact ⟨⟨j + 1, by omega, rfl, Lib.hid (HR6.out.drewN _)⟩, by simp [intOf]; omega⟩
              · rw [if_pos (by omega)] at c2
                obtain ⟨d, d8, y, k1, k2, k3, k4, k5⟩ := backD A N t x HNC.out (by omega) (by omega)
                obtain ⟨z, hz⟩ : ∃ z, z = x / 2 ^ (8 * (t - A)) % 256 := ⟨_, rfl⟩
                rw [← hz] at c2 k5
                obtain ⟨z0, hz0⟩ : ∃ z0, z0 = m0 t := ⟨_, rfl⟩
                rw [← hz0] at c1
                have d1 : decide (t < A) = false := by rw [decide_eq_false_iff_not]; omega
                have d2 : decide (A ≤ t) = true := by rw [decide_eq_true_iff]; omega
                have d3 : decide (AN ≤ t) = false := by rw [decide_eq_false_iff_not]; omega
                have d4 : decide (t < AN) = true := by rw [decide_eq_true_iff]; omega
                clear ht hAN hz hz0
                go_upto_region 26 with fail
                go_quiet (fail)
                go_wp2_with fail
                exact ⟨⟨j + 1, by omega, rfl, Lib.hid (HR6.out.drewN _)⟩, by simp [intOf]; omega⟩
          · by_cases hN1 : N = 1
            · go_wp2_with fail
              go_ret
              exact ⟨rfl, HF6.out.trans HR6.out⟩
            · have hA7 := HA6.out.fr HR6.out (fun _ _ q => q)
              obtain ⟨H, N4, AH, lo, hi', kk⟩ := backR m1 hA7.byte base A N X HB.out HNC.out hN1 HA3.out.1 HA3.out.2 HRD.out
              have hq : Calls Try.prog 13 #[.pointer (some ⟨b, 0, none⟩), .int .u64 (A : Int), .int .i64 (H : Int)] wr fun r w' => r = .returned (.tuple #[.int .u64 ((readR base 12288 m1 A (H : Int) : Nat) : Int), .bool (okR base 12288 A (H : Int))]) ∧ ∃ k, w' = wr.drewN k := read_c wr b base 12288 m1 _ _ A H hA7 kk.b4 kk.b1 kk.b3
              rw [kk.o1, kk.r1] at hq
              have hq2 : ∀ k, Calls Try.prog 13 #[.pointer (some ⟨b, 0, none⟩), .int .u64 (AH : Int), .int .i64 (H : Int)] (wr.drewN k) fun r w' => r = .returned (.tuple #[.int .u64 ((readR base 12288 m1 AH (H : Int) : Nat) : Int), .bool (okR base 12288 AH (H : Int))]) ∧ ∃ j, w' = (wr.drewN k).drewN j := fun k => read_c (wr.drewN k) b base 12288 m1 _ _ AH H (hA7.fr ((Fr.refl No wr).drewN k) (fun _ _ q => q)) kk.b4 kk.b2 kk.b3
              rw [kk.o2, kk.r2] at hq2
              have HQ := Lib.hid hq
              have HQ2 := Lib.hid hq2
              have k1 := kk.k1
              have k2 := kk.k2
              have k3 := kk.k3
              have k4 := kk.k4
              have k5 := kk.k5
              have k6 := kk.k6
              have k7 := kk.k7
              have k8 := kk.k8
              have k9 := kk.k9
              have k10 := kk.k10
              clear hq hq2 kk hA7
              go_wp2_with fail
              refine HQ.out.mono ?_
              rintro e w7 ⟨rfl, k7', rfl⟩
              go_wp2_with fail
              refine (HQ2.out k7').mono ?_
              rintro e w8 ⟨rfl, k8', rfl⟩
              go_wp2_with fail
              go_ret
              exact ⟨rfl, (HF6.out.trans HR6.out).drewN (k7' + k8')⟩
end Go.Proofs.Ytpnabfekidpnoaa

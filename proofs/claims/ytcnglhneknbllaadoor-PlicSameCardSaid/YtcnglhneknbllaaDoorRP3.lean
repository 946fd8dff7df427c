/-
  The document's interrupt controller, the third part: Read.
-/
import Derived.Test.YtcnglhneknbllaaDoorRP2
import Derived.Test.YtcnglhneknbllaaDoorPlic3
namespace Go.Proofs.YtcnglhneknbllaaDoor
open Go Go.RowKit PS

theorem shr_step (x r : Nat) : x >>> r = 2 * (x >>> (r + 1)) + (x.testBit r).toNat := by
  rw [Nat.testBit_eq_decide_div_mod_eq, Nat.shiftRight_succ, ← Nat.shiftRight_eq_div_pow]
  generalize x >>> r = y
  by_cases h : y % 2 = 1
  · simp [h]; omega
  · simp [h]; omega
theorem shr_le (x r : Nat) : x >>> r ≤ x := by rw [Nat.shiftRight_eq_div_pow]; exact Nat.div_le_self _ _
theorem shr_32 (x : Nat) (h : x < 4294967296) : x >>> 32 = 0 := by rw [Nat.shiftRight_eq_div_pow]; exact Nat.div_eq_of_lt h
/-- One bit more of a word that is put together from above. -/
theorem word_step {X r W : Nat} (hX : X < 4294967296) (hW : W = X >>> ((r : Int) + 1).toNat) :
    ∃ W2 W3 : Nat, IntKind.u64.wrap (2 * (W : Int)) = (W2 : Int) ∧ IntKind.u64.wrap ((W2 : Int) + 1) = (W3 : Int) ∧ (X.testBit r = false → W2 = X >>> ((r : Int) - 1 + 1).toNat) ∧ (X.testBit r = true → W3 = X >>> ((r : Int) - 1 + 1).toNat) := by
  have e1 : ((r : Int) + 1).toNat = r + 1 := by omega
  have e2 : ((r : Int) - 1 + 1).toNat = r := by omega
  rw [e1] at hW
  rw [e2]
  have h1 := shr_step X r
  have h2 := shr_le X (r + 1)
  rw [← hW] at h1 h2
  refine ⟨2 * W, 2 * W + 1, ?_, ?_, fun h => ?_, fun h => ?_⟩
  · rw [IntKind.wrap_u64]; omega
  · rw [IntKind.wrap_u64]; omega
  · rw [h] at h1; simpa using h1.symm
  · rw [h] at h1; simpa using h1.symm
theorem down_one (r : Nat) (h : r < 32) : IntKind.i64.wrap ((r : Int) - 1) = (r : Int) - 1 := by rw [IntKind.wrap_i64]; omega
set_option maxRecDepth 100000 in
set_option maxHeartbeats 4000000 in
/-- The words of what is pending. -/
theorem rRead_pend (w : World) (b o : Nat) (s : PS) (h : RAt w b o s) :
    Calls Tryd.prog 62 #[.pointer (some ⟨b, o, none⟩), .int .u64 4096, .int .i64 4] w fun e w' => e = .returned (readV (s.read 4096 4)) ∧ RAt w' b o (s.read 4096 4).1 ∧ FrIn b o 194 w w' := by
  have HA := Lib.hid h
  obtain ⟨X, hX⟩ : ∃ X, X = s.pend := ⟨_, rfl⟩
  have HX := Lib.hid (show X < 4294967296 by rw [hX]; exact h.ok.pend)
  have HXE := Lib.hid hX.symm
  have HR := Lib.hid (show s.read 4096 4 = (s, X, true) by rw [hX]; rfl)
  clear h hX
  go_enter Tryd.func62, Tryd.ntmps62
  go_wp2_with fail
  go_loopw [8, 9] (fun a i wr => ∃ (x : Int) (W : Nat), wr = w ∧ -1 ≤ x ∧ x ≤ 31 ∧ a = .int .u64 (W : Int) ∧ i = .int .i64 x ∧ Hid (W = X >>> (x + 1).toNat)) (fun _ i _ => (intOf i + 1).toNat)
  case atStart => exact ⟨31, 0, rfl, by omega, by omega, rfl, rfl, Lib.hid (shr_32 X HX.out).symm⟩
  case round =>
    obtain ⟨x, W, rfl, hx1, hx2, rfl, rfl, HW⟩ := hrel
    by_cases hx : 0 ≤ x
    · obtain ⟨r, rfl⟩ : ∃ r : Nat, x = (r : Int) := ⟨x.toNat, by omega⟩
      have hr : r < 32 := by omega
      have c := HA.out.pend_ hr
      rw [HXE.out] at c
      obtain ⟨W2, W3, w2, w3, g2, g3⟩ := word_step HX.out HW.out
      have wd := down_one r hr
      have hge : decide ((0 : Int) ≤ (r : Int)) = true := decide_eq_true (by omega)
      clear HW
      cases hb : X.testBit r
      · have G := Lib.hid (g2 hb)
        rw [hb] at c
        clear g2 g3 hb w3
        go_wp2_with fail
        exact ⟨⟨(r : Int) - 1, W2, trivial, by omega, by omega, rfl, rfl, G⟩, by simp [intOf]⟩
      · have G := Lib.hid (g3 hb)
        rw [hb] at c
        clear g2 g3 hb
        go_wp2_with fail
        exact ⟨⟨(r : Int) - 1, W3, trivial, by omega, by omega, rfl, rfl, G⟩, by simp [intOf]⟩
    · obtain rfl : x = -1 := by omega
      have e : W = X := HW.out
      have E := Lib.hid e
      clear e
      go_wp2_with fail
      go_ret2
      rw [HR.out]
      exact ⟨by rw [E.out]; rfl, HA.out, FrIn.refl _ _ _ _⟩

set_option maxRecDepth 100000 in
set_option maxHeartbeats 4000000 in
/-- A priority. -/
theorem rRead_prio (w : World) (b o : Nat) (s : PS) (k : Nat) (hk : k < 32) (h : RAt w b o s) :
    Calls Tryd.prog 62 #[.pointer (some ⟨b, o, none⟩), .int .u64 ((4 * k : Nat) : Int), .int .i64 4] w fun e w' => e = .returned (readV (s.read (4 * k) 4)) ∧ RAt w' b o (s.read (4 * k) 4).1 ∧ FrIn b o 194 w w' := by
  have hr : s.read (4 * k) 4 = (s, s.pr k, true) := by unfold PS.read; rw [if_neg (by decide), if_pos ⟨by omega, by omega⟩, show 4 * k / 4 = k by omega]
  have hq : ((4 * k : Nat) : Int) / 4 = (k : Int) := by omega
  have hq2 : ((4 * k : Nat) : Int).tdiv 4 = (k : Int) := by rw [Int.tdiv_eq_ediv_of_nonneg (by omega)]; exact hq
  have hm2 : ((4 * k : Nat) : Int).tmod 4 = 0 := by rw [Int.tmod_eq_emod_of_nonneg (by omega)]; omega
  have hm : ((4 * k : Nat) : Int) % 4 = 0 := by omega
  have q := h.prio_ hk
  have HR := Lib.hid hr
  have HA := Lib.hid h
  obtain ⟨x, hx⟩ : ∃ x : Int, x = ((4 * k : Nat) : Int) := ⟨_, rfl⟩
  have hx1 : x < 128 := by omega
  have hx2 : 0 ≤ x := by omega
  rw [← hx] at hq hq2 hm hm2 ⊢
  clear hr hx h
  go_enter Tryd.func62, Tryd.ntmps62
  go_wp2_with fail
  go_ret2
  rw [HR.out]
  exact ⟨by simp [readV], HA.out, FrIn.refl _ _ _ _⟩

theorem PS.Ok.pend1 {s : PS} (h : s.Ok) {k : Nat} (h1 : 0 < k) (h2 : k < 32) (u : Bool) : ({ s with pend := setB s.pend k u } : PS).Ok := by
  refine ⟨h.up, setB_lt s.pend k 32 u h.pend h2, h.busy, h.plen, h.prio, h.p0, h.on0, h.on1, h.fl0, h.fl1, h.u0, ?_, h.b0, h.n0, h.n1⟩
  show (setB s.pend k u).testBit 0 = false
  rw [setB_at, if_neg (by omega)]; exact h.z0
theorem PS.Ok.busy1 {s : PS} (h : s.Ok) {k : Nat} (h1 : 0 < k) (h2 : k < 32) (u : Bool) : ({ s with busy := setB s.busy k u } : PS).Ok := by
  refine ⟨h.up, h.pend, setB_lt s.busy k 32 u h.busy h2, h.plen, h.prio, h.p0, h.on0, h.on1, h.fl0, h.fl1, h.u0, h.z0, ?_, h.n0, h.n1⟩
  show (setB s.busy k u).testBit 0 = false
  rw [setB_at, if_neg (by omega)]; exact h.b0
set_option maxRecDepth 100000 in
set_option maxHeartbeats 4000000 in
theorem rRead_8192 (w : World) (b o : Nat) (s : PS) (h : RAt w b o s) :
    Calls Tryd.prog 62 #[.pointer (some ⟨b, o, none⟩), .int .u64 8192, .int .i64 4] w fun e w' => e = .returned (readV (s.read 8192 4)) ∧ RAt w' b o (s.read 8192 4).1 ∧ FrIn b o 194 w w' := by
  have HA := Lib.hid h
  obtain ⟨X, hX⟩ : ∃ X, X = s.on0 := ⟨_, rfl⟩
  have HX := Lib.hid (show X < 4294967296 by rw [hX]; exact HA.out.ok.on0)
  have HXE := Lib.hid hX.symm
  have HR := Lib.hid (show s.read 8192 4 = (s, X, true) by rw [hX]; rfl)
  clear hX
  clear h
  go_enter Tryd.func62, Tryd.ntmps62
  go_wp2_with fail
  go_loopw [10] (fun i wr => w = wr ∧ i = .int .i64 0) (fun i _ => 2 - (intOf i).toNat)
  case atStart => exact ⟨rfl, rfl⟩
  case round =>
    obtain ⟨rfl, rfl⟩ := hrel
    go_wp2_with fail
    go_loopw [12, 13] (fun a i wr => ∃ (x : Int) (W : Nat), wr = w ∧ -1 ≤ x ∧ x ≤ 31 ∧ a = .int .u64 (W : Int) ∧ i = .int .i64 x ∧ Hid (W = X >>> (x + 1).toNat)) (fun _ i _ => (intOf i + 1).toNat)
    case atStart => exact ⟨31, 0, rfl, by omega, by omega, rfl, rfl, Lib.hid (shr_32 X HX.out).symm⟩
    case round =>
      obtain ⟨x, W, rfl, hx1, hx2, rfl, rfl, HW⟩ := hrel
      by_cases hx : 0 ≤ x
      · obtain ⟨r, rfl⟩ : ∃ r : Nat, x = (r : Int) := ⟨x.toNat, by omega⟩
        have hr : r < 32 := by omega
        have c := HA.out.on0_ hr
        rw [HXE.out] at c
        obtain ⟨W2, W3, w2, w3, g2, g3⟩ := word_step HX.out HW.out
        have wd := down_one r hr
        have hge : decide ((0 : Int) ≤ (r : Int)) = true := decide_eq_true (by omega)
        clear HW
        cases hb : X.testBit r
        · have G := Lib.hid (g2 hb)
          rw [hb] at c
          clear g2 g3 hb w3
          go_wp2_with fail
          exact ⟨⟨(r : Int) - 1, W2, trivial, by omega, by omega, rfl, rfl, G⟩, by simp [intOf]⟩
        · have G := Lib.hid (g3 hb)
          rw [hb] at c
          clear g2 g3 hb
          go_wp2_with fail
          exact ⟨⟨(r : Int) - 1, W3, trivial, by omega, by omega, rfl, rfl, G⟩, by simp [intOf]⟩
      · obtain rfl : x = -1 := by omega
        have e : W = X := HW.out
        have E := Lib.hid e
        clear e
        go_wp2_with fail
        go_ret2
        rw [HR.out]
        exact ⟨by rw [E.out]; rfl, HA.out, FrIn.refl _ _ _ _⟩
set_option maxRecDepth 100000 in
set_option maxHeartbeats 4000000 in
theorem rRead_8320 (w : World) (b o : Nat) (s : PS) (h : RAt w b o s) :
    Calls Tryd.prog 62 #[.pointer (some ⟨b, o, none⟩), .int .u64 8320, .int .i64 4] w fun e w' => e = .returned (readV (s.read 8320 4)) ∧ RAt w' b o (s.read 8320 4).1 ∧ FrIn b o 194 w w' := by
  have HA := Lib.hid h
  obtain ⟨X, hX⟩ : ∃ X, X = s.on1 := ⟨_, rfl⟩
  have HX := Lib.hid (show X < 4294967296 by rw [hX]; exact HA.out.ok.on1)
  have HXE := Lib.hid hX.symm
  have HR := Lib.hid (show s.read 8320 4 = (s, X, true) by rw [hX]; rfl)
  clear hX
  clear h
  go_enter Tryd.func62, Tryd.ntmps62
  go_wp2_with fail
  go_loopw [10] (fun i wr => ∃ k : Nat, k ≤ 1 ∧ w = wr ∧ i = .int .i64 (k : Int)) (fun i _ => 2 - (intOf i).toNat)
  case atStart => exact ⟨0, by omega, rfl, rfl⟩
  case round =>
    obtain ⟨k, hk, rfl, rfl⟩ := hrel
    rcases (show k = 0 ∨ k = 1 by omega) with rfl | rfl
    · go_wp2_with fail
      exact ⟨⟨1, by omega, trivial, rfl⟩, by simp [intOf]⟩
    · skip
      go_wp2_with fail
      go_loopw [12, 13] (fun a i wr => ∃ (x : Int) (W : Nat), wr = w ∧ -1 ≤ x ∧ x ≤ 31 ∧ a = .int .u64 (W : Int) ∧ i = .int .i64 x ∧ Hid (W = X >>> (x + 1).toNat)) (fun _ i _ => (intOf i + 1).toNat)
      case atStart => exact ⟨31, 0, rfl, by omega, by omega, rfl, rfl, Lib.hid (shr_32 X HX.out).symm⟩
      case round =>
        obtain ⟨x, W, rfl, hx1, hx2, rfl, rfl, HW⟩ := hrel
        by_cases hx : 0 ≤ x
        · obtain ⟨r, rfl⟩ : ∃ r : Nat, x = (r : Int) := ⟨x.toNat, by omega⟩
          have hr : r < 32 := by omega
          have c := HA.out.on1_ hr
          rw [HXE.out] at c
          obtain ⟨W2, W3, w2, w3, g2, g3⟩ := word_step HX.out HW.out
          have wd := down_one r hr
          have hge : decide ((0 : Int) ≤ (r : Int)) = true := decide_eq_true (by omega)
          clear HW
          cases hb : X.testBit r
          · have G := Lib.hid (g2 hb)
            rw [hb] at c
            clear g2 g3 hb w3
            go_wp2_with fail
            exact ⟨⟨(r : Int) - 1, W2, trivial, by omega, by omega, rfl, rfl, G⟩, by simp [intOf]⟩
          · have G := Lib.hid (g3 hb)
            rw [hb] at c
            clear g2 g3 hb
            go_wp2_with fail
            exact ⟨⟨(r : Int) - 1, W3, trivial, by omega, by omega, rfl, rfl, G⟩, by simp [intOf]⟩
        · obtain rfl : x = -1 := by omega
          have e : W = X := HW.out
          have E := Lib.hid e
          clear e
          go_wp2_with fail
          go_ret2
          rw [HR.out]
          exact ⟨by rw [E.out]; rfl, HA.out, FrIn.refl _ _ _ _⟩
set_option maxRecDepth 100000 in
set_option maxHeartbeats 4000000 in
theorem rRead_2097152 (w : World) (b o : Nat) (s : PS) (h : RAt w b o s) :
    Calls Tryd.prog 62 #[.pointer (some ⟨b, o, none⟩), .int .u64 2097152, .int .i64 4] w fun e w' => e = .returned (readV (s.read 2097152 4)) ∧ RAt w' b o (s.read 2097152 4).1 ∧ FrIn b o 194 w w' := by
  have HA := Lib.hid h
  have HR := Lib.hid (show s.read 2097152 4 = (s, s.fl0, true) from rfl)
  have q := HA.out.fl0_
  clear h
  go_enter Tryd.func62, Tryd.ntmps62
  go_wp2_with fail
  go_loopw [10] (fun i wr => w = wr ∧ i = .int .i64 0) (fun i _ => 2 - (intOf i).toNat)
  case atStart => exact ⟨rfl, rfl⟩
  case round =>
    obtain ⟨rfl, rfl⟩ := hrel
    go_wp2_with fail
    go_ret2
    rw [HR.out]
    exact ⟨rfl, HA.out, FrIn.refl _ _ _ _⟩
set_option maxRecDepth 100000 in
set_option maxHeartbeats 4000000 in
theorem rRead_2101248 (w : World) (b o : Nat) (s : PS) (h : RAt w b o s) :
    Calls Tryd.prog 62 #[.pointer (some ⟨b, o, none⟩), .int .u64 2101248, .int .i64 4] w fun e w' => e = .returned (readV (s.read 2101248 4)) ∧ RAt w' b o (s.read 2101248 4).1 ∧ FrIn b o 194 w w' := by
  have HA := Lib.hid h
  have HR := Lib.hid (show s.read 2101248 4 = (s, s.fl1, true) from rfl)
  have q := HA.out.fl1_
  clear h
  go_enter Tryd.func62, Tryd.ntmps62
  go_wp2_with fail
  go_loopw [10] (fun i wr => ∃ k : Nat, k ≤ 1 ∧ w = wr ∧ i = .int .i64 (k : Int)) (fun i _ => 2 - (intOf i).toNat)
  case atStart => exact ⟨0, by omega, rfl, rfl⟩
  case round =>
    obtain ⟨k, hk, rfl, rfl⟩ := hrel
    rcases (show k = 0 ∨ k = 1 by omega) with rfl | rfl
    · go_wp2_with fail
      exact ⟨⟨1, by omega, trivial, rfl⟩, by simp [intOf]⟩
    · skip
      go_wp2_with fail
      go_ret2
      rw [HR.out]
      exact ⟨rfl, HA.out, FrIn.refl _ _ _ _⟩
set_option maxRecDepth 100000 in
set_option maxHeartbeats 4000000 in
theorem rRead_2097156 (w : World) (b o : Nat) (s : PS) (h : RAt w b o s) :
    Calls Tryd.prog 62 #[.pointer (some ⟨b, o, none⟩), .int .u64 2097156, .int .i64 4] w fun e w' => e = .returned (readV (s.read 2097156 4)) ∧ RAt w' b o (s.read 2097156 4).1 ∧ FrIn b o 194 w w' := by
  have HA := Lib.hid h
  have HR := Lib.hid (show s.read 2097156 4 = ((s.claim 0).1, (s.claim 0).2, true) from rfl)
  have hi := infoRl s
  clear h
  go_enter Tryd.func62, Tryd.ntmps62
  go_wp2_with fail
  go_loopw [10] (fun i wr => w = wr ∧ i = .int .i64 0) (fun i _ => 2 - (intOf i).toNat)
  case atStart => exact ⟨rfl, rfl⟩
  case round =>
    obtain ⟨rfl, rfl⟩ := hrel
    go_wp2_with (refine wpList_load_seg rfl 66 _ rfl _ _ rfl _ HA.out.seg _ Tryd.underlying66 rfl hi ?_)
    refine (rBest_c _ s HA.out.ok 0).mono ?_
    rintro e w2 ⟨rfl, hf2⟩
    have h2 := HA.out.fr hf2 (fun h => h)
    have H2 := Lib.hid h2
    have F2 := Lib.hid (FrIn.of_no (b := b) (o := o) (n := 194) hf2 HA.out.seg.lt)
    have hB31 := HA.out.ok.best_le 0
    obtain ⟨B, hB⟩ : ∃ B, B = s.best 0 := ⟨_, rfl⟩
    rw [← hB] at hB31 ⊢
    by_cases hb : 0 < B
    · have hcl : s.claim 0 = ({ s with pend := setB s.pend B false, busy := setB s.busy B true }, B) := by unfold PS.claim; rw [show (((0 : Nat) : Int)) = 0 from rfl, ← hB, if_pos hb]
      have hB32 : B < 32 := by omega
      have c2 := h2.pend_ hB32
      have c3 := h2.busy_ hB32
      have hfz := h2.seg.free
      have hg : decide (0 < B) = true := decide_eq_true hb
      have hg' : decide ((0 : Int) < (B : Int)) = true := decide_eq_true (by omega)
      have hw : IntKind.u64.wrap (B : Int) = (B : Int) := by rw [IntKind.wrap_u64]; omega
      have ok1 : ({ s with pend := setB s.pend B false } : PS).Ok := HA.out.ok.pend1 hb hB32 false
      have ok2 : ({ s with pend := setB s.pend B false, busy := setB s.busy B true } : PS).Ok := PS.Ok.busy1 ok1 hb hB32 true
      have p1 := h2.putSrc (k := 2) ok1 hB32 (by omega) (rset_pend s hB32 false)
      have p2 := p1.1.putSrc (k := 3) ok2 hB32 (by omega) (rset_busy _ hB32 true)
      have P1 := Lib.hid p1
      have P2 := Lib.hid p2
      have HC := Lib.hid hcl
      clear p1 p2 ok1 ok2 hcl h2 hf2 hB
      go_wp2_with fail
      go_ret2
      rw [HR.out, HC.out]
      exact ⟨rfl, P2.out.1, F2.out.trans (P1.out.2.trans P2.out.2)⟩
    · have hcl : s.claim 0 = (s, 0) := by unfold PS.claim; rw [show (((0 : Nat) : Int)) = 0 from rfl, ← hB, if_neg hb]
      have HC := Lib.hid hcl
      obtain rfl : B = 0 := by omega
      clear h2 hf2 hcl hB
      go_wp2_with fail
      go_ret2
      rw [HR.out, HC.out]
      exact ⟨rfl, H2.out, F2.out⟩
set_option maxRecDepth 100000 in
set_option maxHeartbeats 4000000 in
theorem rRead_2101252 (w : World) (b o : Nat) (s : PS) (h : RAt w b o s) :
    Calls Tryd.prog 62 #[.pointer (some ⟨b, o, none⟩), .int .u64 2101252, .int .i64 4] w fun e w' => e = .returned (readV (s.read 2101252 4)) ∧ RAt w' b o (s.read 2101252 4).1 ∧ FrIn b o 194 w w' := by
  have HA := Lib.hid h
  have HR := Lib.hid (show s.read 2101252 4 = ((s.claim 1).1, (s.claim 1).2, true) from rfl)
  have hi := infoRl s
  clear h
  go_enter Tryd.func62, Tryd.ntmps62
  go_wp2_with fail
  go_loopw [10] (fun i wr => ∃ k : Nat, k ≤ 1 ∧ w = wr ∧ i = .int .i64 (k : Int)) (fun i _ => 2 - (intOf i).toNat)
  case atStart => exact ⟨0, by omega, rfl, rfl⟩
  case round =>
    obtain ⟨k, hk, rfl, rfl⟩ := hrel
    rcases (show k = 0 ∨ k = 1 by omega) with rfl | rfl
    · go_wp2_with fail
      exact ⟨⟨1, by omega, trivial, rfl⟩, by simp [intOf]⟩
    · skip
      go_wp2_with (refine wpList_load_seg rfl 66 _ rfl _ _ rfl _ HA.out.seg _ Tryd.underlying66 rfl hi ?_)
      refine (rBest_c _ s HA.out.ok 1).mono ?_
      rintro e w2 ⟨rfl, hf2⟩
      have h2 := HA.out.fr hf2 (fun h => h)
      have H2 := Lib.hid h2
      have F2 := Lib.hid (FrIn.of_no (b := b) (o := o) (n := 194) hf2 HA.out.seg.lt)
      have hB31 := HA.out.ok.best_le 1
      obtain ⟨B, hB⟩ : ∃ B, B = s.best 1 := ⟨_, rfl⟩
      rw [← hB] at hB31 ⊢
      by_cases hb : 0 < B
      · have hcl : s.claim 1 = ({ s with pend := setB s.pend B false, busy := setB s.busy B true }, B) := by unfold PS.claim; rw [show (((1 : Nat) : Int)) = 1 from rfl, ← hB, if_pos hb]
        have hB32 : B < 32 := by omega
        have c2 := h2.pend_ hB32
        have c3 := h2.busy_ hB32
        have hfz := h2.seg.free
        have hg : decide (0 < B) = true := decide_eq_true hb
        have hg' : decide ((0 : Int) < (B : Int)) = true := decide_eq_true (by omega)
        have hw : IntKind.u64.wrap (B : Int) = (B : Int) := by rw [IntKind.wrap_u64]; omega
        have ok1 : ({ s with pend := setB s.pend B false } : PS).Ok := HA.out.ok.pend1 hb hB32 false
        have ok2 : ({ s with pend := setB s.pend B false, busy := setB s.busy B true } : PS).Ok := PS.Ok.busy1 ok1 hb hB32 true
        have p1 := h2.putSrc (k := 2) ok1 hB32 (by omega) (rset_pend s hB32 false)
        have p2 := p1.1.putSrc (k := 3) ok2 hB32 (by omega) (rset_busy _ hB32 true)
        have P1 := Lib.hid p1
        have P2 := Lib.hid p2
        have HC := Lib.hid hcl
        clear p1 p2 ok1 ok2 hcl h2 hf2 hB
        go_wp2_with fail
        go_ret2
        rw [HR.out, HC.out]
        exact ⟨rfl, P2.out.1, F2.out.trans (P1.out.2.trans P2.out.2)⟩
      · have hcl : s.claim 1 = (s, 0) := by unfold PS.claim; rw [show (((1 : Nat) : Int)) = 1 from rfl, ← hB, if_neg hb]
        have HC := Lib.hid hcl
        obtain rfl : B = 0 := by omega
        clear h2 hf2 hcl hB
        go_wp2_with fail
        go_ret2
        rw [HR.out, HC.out]
        exact ⟨rfl, H2.out, F2.out⟩
end Go.Proofs.YtcnglhneknbllaaDoor

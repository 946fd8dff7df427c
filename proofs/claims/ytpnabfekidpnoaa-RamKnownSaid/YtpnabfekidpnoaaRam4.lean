/-
  Read, Write, New of a memory.
-/
import Derived.Test.YtpnabfekidpnoaaRam3
namespace Go.Proofs.Ytpnabfekidpnoaa
open Go Go.RowKit

/-- The number of n bytes from a on. -/
def numR (m : Nat → Nat) (a : Nat) : Nat → Nat
  | 0 => 0
  | j + 1 => numR m a j + m (a + j) * 2 ^ (8 * j)
theorem numR_lt {m : Nat → Nat} (hm : ∀ x, m x < 256) (a : Nat) : ∀ j, numR m a j < 2 ^ (8 * j)
  | 0 => by simp [numR]
  | j + 1 => by
    have h1 := numR_lt hm a j
    have h2 := hm (a + j)
    have e : 2 ^ (8 * (j + 1)) = 2 ^ (8 * j) * 256 := by rw [Nat.mul_add, Nat.pow_add]
    have h3 : m (a + j) * 2 ^ (8 * j) ≤ 255 * 2 ^ (8 * j) := Nat.mul_le_mul_right _ (by omega)
    unfold numR
    rw [e]
    omega
/-- The bytes behind a Write. -/
def wrR (m : Nat → Nat) (a v : Nat) : Nat → (Nat → Nat)
  | 0 => m
  | j + 1 => upd (wrR m a v j) (a + j) (v / 2 ^ (8 * j) % 256)
def okR (base size a : Nat) (n : Int) : Bool := widthR n && hasR base size a n
theorem widthR_cases {n : Int} (h : widthR n = true) : n = 1 ∨ n = 2 ∨ n = 4 ∨ n = 8 := by
  unfold widthR at h
  simp at h
  omega
theorem hasR_true {base size a : Nat} {n : Int} (h : hasR base size a n = true) (hn : 0 < n) : base ≤ a ∧ a + n.toNat ≤ base + size := by
  unfold hasR at h
  simp at h
  omega
section
variable (w : World)
set_option maxRecDepth 100000 in
theorem read_nil (a : Nat) (n : Int) : Calls Try.prog 13 #[.pointer none, .int .u64 (a : Int), .int .i64 n] w fun r w' => r = .returned (.tuple #[.int .u64 0, .bool false]) ∧ w' = w := by
  have HW := Lib.hid (fun W => width_c W n)
  have HN := Lib.hid (fun W => has_nil W a n)
  cases hwn : widthR n with
  | true =>
    rw [hwn] at HW
    clear hwn
    go_enter Try.func13, Try.ntmps13
    go_wp2_with (first
      | (go_at_call 28; refine (HW.out _).mono ?_; rintro r w1 ⟨rfl, rfl⟩)
      | (go_at_call 17; refine (HN.out _).mono ?_; rintro r w2 ⟨rfl, rfl⟩))
    go_ret2
    exact ⟨rfl, rfl⟩
  | false =>
    rw [hwn] at HW
    clear hwn
    go_enter Try.func13, Try.ntmps13
    go_wp2_with (go_at_call 28; refine (HW.out _).mono ?_; rintro r w1 ⟨rfl, rfl⟩)
    go_ret2
    exact ⟨rfl, rfl⟩
set_option maxRecDepth 100000 in
theorem write_nil (a v : Nat) (n : Int) : Calls Try.prog 11 #[.pointer none, .int .u64 (a : Int), .int .i64 n, .int .u64 (v : Int)] w fun r w' => r = .returned (.bool false) ∧ w' = w := by
  have HW := Lib.hid (fun W => width_c W n)
  have HN := Lib.hid (fun W => has_nil W a n)
  cases hwn : widthR n with
  | true =>
    rw [hwn] at HW
    clear hwn
    go_enter Try.func11, Try.ntmps11
    go_wp2_with (first
      | (go_at_call 28; refine (HW.out _).mono ?_; rintro r w1 ⟨rfl, rfl⟩)
      | (go_at_call 17; refine (HN.out _).mono ?_; rintro r w2 ⟨rfl, rfl⟩))
    go_ret
    exact ⟨rfl, rfl⟩
  | false =>
    rw [hwn] at HW
    clear hwn
    go_enter Try.func11, Try.ntmps11
    go_wp2_with (go_at_call 28; refine (HW.out _).mono ?_; rintro r w1 ⟨rfl, rfl⟩)
    go_ret
    exact ⟨rfl, rfl⟩
end
def readR (base size : Nat) (m : Nat → Nat) (a : Nat) (n : Int) : Nat := if okR base size a n then numR m a n.toNat else 0
def writeR (base size : Nat) (m : Nat → Nat) (a : Nat) (n : Int) (v : Nat) : Nat → Nat := if okR base size a n then wrR m a v n.toNat else m
set_option maxRecDepth 100000 in
set_option maxHeartbeats 1000000 in
theorem read_c (w : World) (b base size : Nat) (m : Nat → Nat) (cnt : Nat) (F : Nat → Prop) (a : Nat) (n : Int) (h : RAt w b base size m cnt F) (hbs : base + size < 18446744073709551616) (ha : a < 18446744073709551616) (hn : n < 9223372036854775808) :
    Calls Try.prog 13 #[.pointer (some ⟨b, 0, none⟩), .int .u64 (a : Int), .int .i64 n] w fun r w' => r = .returned (.tuple #[.int .u64 ((readR base size m a n : Nat) : Int), .bool (okR base size a n)]) ∧ ∃ k, w' = w.drewN k := by
  have HW := Lib.hid (fun W => width_c W n)
  have HR := Lib.hid (show readR base size m a n = if okR base size a n then numR m a n.toNat else 0 from rfl)
  have HO := Lib.hid (show okR base size a n = (widthR n && hasR base size a n) from rfl)
  cases hwn : widthR n with
  | false =>
    rw [hwn] at HW HO
    clear hwn
    go_enter Try.func13, Try.ntmps13
    go_wp2_with (go_at_call 28; refine (HW.out _).mono ?_; rintro r w1 ⟨rfl, rfl⟩)
    go_ret2
    refine ⟨?_, 0, rfl⟩
    rw [HR.out, HO.out]
    rfl
  | true =>
    have hH : Calls Try.prog 17 #[.pointer (some ⟨b, 0, none⟩), .int .u64 (a : Int), .int .i64 n] w fun r w' => r = .returned (.bool (hasR base size a n)) ∧ ∃ k, w' = w.drewN k := by
      obtain ⟨mb, D, pg, hin⟩ := h
      exact has_c w b base size mb a n hin.1 hn ha (by omega)
    have HH := Lib.hid hH
    rw [hwn] at HW HO
    cases hhs : hasR base size a n with
    | false =>
      rw [hhs] at HH HO
      clear hwn hhs hH h
      go_enter Try.func13, Try.ntmps13
      go_wp2_with (first
        | (go_at_call 28; refine (HW.out _).mono ?_; rintro r w1 ⟨rfl, rfl⟩)
        | (go_at_call 17; refine HH.out.mono ?_; rintro r w2 ⟨rfl, kk, rfl⟩))
      go_ret2
      refine ⟨?_, _, rfl⟩
      rw [HR.out, HO.out]
      rfl
    | true =>
      rw [hhs] at HH HO
      obtain ⟨k, hk, hk8⟩ : ∃ k : Nat, n = (k : Int) ∧ 1 ≤ k ∧ k ≤ 8 := ⟨n.toNat, by rcases widthR_cases hwn with h | h | h | h <;> omega, by rcases widthR_cases hwn with h | h | h | h <;> omega⟩
      have hb := hasR_true hhs (by omega)
      have hm : ∀ x, m x < 256 := by obtain ⟨mb, D, pg, hin⟩ := h; exact hin.2.2.2.2.2.2.1
      subst hk
      rw [Int.toNat_natCast] at hb HR
      have HL := Lib.hid (fun j => numR_lt hm a j)
      have HMM := Lib.hid hm
      have HA := Lib.hid h
      have HB := Lib.hid (show a + k < 18446744073709551616 by omega)
      clear hwn hhs hH h hm hb hn hbs
      go_enter Try.func13, Try.ntmps13
      go_wp2_with (first
        | (go_at_call 28; refine (HW.out _).mono ?_; rintro r w1 ⟨rfl, rfl⟩)
        | (go_at_call 17; refine HH.out.mono ?_; rintro r w2 ⟨rfl, kk, rfl⟩))
      go_loopw [8, 21] (fun pv pi wr => ∃ i z : Nat, i ≤ k ∧ Hid (z = numR m a i) ∧ pv = .int .u64 (z : Int) ∧ pi = .int .i64 (i : Int) ∧ Hid (∃ q, wr = (w1.drewN kk).drewN q)) (fun _ pi _ => k - (intOf pi).toNat)
      case atStart => exact ⟨0, 0, Nat.zero_le _, Lib.hid rfl, rfl, rfl, Lib.hid ⟨0, rfl⟩⟩
      case round =>
        obtain ⟨i, z, hi, HZ, rfl, rfl, HQ⟩ := hrel
        by_cases hlt : i < k
        · have ha2 : IntKind.u64.wrap ((a : Int) + (i : Int)) = ((a + i : Nat) : Int) := by have := HB.out; rw [IntKind.wrap_u64]; omega
          have hi3 : IntKind.u64.wrap (i : Int) = (i : Int) := by rw [IntKind.wrap_u64]; omega
          have e8 : IntKind.i64.wrap (8 * (i : Int)) = ((8 * i : Nat) : Int) := by rw [IntKind.wrap_i64]; omega
          have e8' : wrap64 (8 * (i : Int)) = ((8 * i : Nat) : Int) := by unfold wrap64; omega
          have e1 : IntKind.i64.wrap ((i : Int) + 1) = ((i + 1 : Nat) : Int) := by rw [IntKind.wrap_i64]; omega
          obtain ⟨x, hx⟩ : ∃ x, x = m (a + i) := ⟨_, rfl⟩
          have hx8 : IntKind.u64.wrap (x : Int) = (x : Int) := by have := HMM.out (a + i); rw [IntKind.wrap_u64]; omega
          have HAT := Lib.hid (show Calls Try.prog 32 #[.pointer (some ⟨b, 0, none⟩), .int .u64 ((a + i : Nat) : Int)] wr fun r w' => r = .returned (.int .u8 (x : Int)) ∧ w' = wr from by
            obtain ⟨q, rfl⟩ := HQ.out
            rw [hx]
            exact at_c _ b base size m cnt F (a + i) (by obtain ⟨mb, D, pg, hin⟩ := HA.out; exact ⟨mb, D, pg, hin.fr (((Fr.refl No w1).drewN kk).drewN q) (fun _ _ q => q)⟩) (by have := HB.out; omega))
          have HPUT := Lib.hid (fun W => put8_c W z (8 * i) x (by omega) (by rw [HZ.out]; exact HL.out i) (by rw [hx]; exact HMM.out _))
          have HZ2 := Lib.hid (show z + x * 2 ^ (8 * i) = numR m a (i + 1) from by rw [HZ.out, hx]; rfl)
          obtain ⟨z2, hz2⟩ : ∃ z2, z2 = z + x * 2 ^ (8 * i) := ⟨_, rfl⟩
          rw [← hz2] at HPUT HZ2
          clear hx hz2 HZ
          go_wp2_with (first
            | (go_at_call 32; refine HAT.out.mono ?_; rintro r w3 ⟨rfl, rfl⟩)
            | (go_at_call 31; refine (HPUT.out _).mono ?_; rintro r w4 ⟨rfl, rfl⟩))
          exact ⟨⟨i + 1, z2, by omega, HZ2, rfl, by simp, HQ⟩, by simp [intOf]; omega⟩
        · obtain rfl : i = k := by omega
          go_wp2_with fail
          go_ret2
          obtain ⟨q, hq⟩ := HQ.out
          refine ⟨?_, kk + q, by rw [hq]; simp [World.drewN, Nat.add_assoc]⟩
          rw [HR.out, HO.out, HZ.out]
          rfl
end Go.Proofs.Ytpnabfekidpnoaa

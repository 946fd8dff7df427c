/-
  Write, New of a memory.
-/
import Derived.Test.YtpnabfekidpnoaaRam4
namespace Go.Proofs.Ytpnabfekidpnoaa
open Go Go.RowKit

theorem RAt.fr {w w' : World} {b base size : Nat} {m : Nat → Nat} {n : Nat} {F S : Nat → Prop} (h : RAt w b base size m n F) (hf : Fr S w w') (hd : ∀ k, F k → ¬ S k) : RAt w' b base size m n F := by
  obtain ⟨mb, D, pg, hin⟩ := h
  exact ⟨mb, D, pg, hin.fr hf hd⟩
theorem RAt.mono {w : World} {b base size : Nat} {m : Nat → Nat} {n : Nat} {F F' : Nat → Prop} (h : RAt w b base size m n F) (hF : ∀ k, F k → F' k) : RAt w b base size m n F' := by
  obtain ⟨mb, D, pg, hin⟩ := h
  exact ⟨mb, D, pg, hin.mono hF⟩
theorem RAt.cut {w : World} {b base size : Nat} {m : Nat → Nat} {n : Nat} {F : Nat → Prop} (h : RAt w b base size m n F) : RAt w b base size m n (fun k => F k ∧ k < w.heap.size) := by
  obtain ⟨mb, D, pg, hin⟩ := h
  exact ⟨mb, D, pg, hin.cut⟩
theorem RAt.more {w : World} {b base size : Nat} {m : Nat → Nat} {n n' : Nat} {F : Nat → Prop} (h : RAt w b base size m n F) (hn : n ≤ n') : RAt w b base size m n' F := by
  obtain ⟨mb, D, pg, hin⟩ := h
  exact ⟨mb, D, pg, hin.more hn⟩
theorem RAt.byte {w : World} {b base size : Nat} {m : Nat → Nat} {n : Nat} {F : Nat → Prop} (h : RAt w b base size m n F) (x : Nat) : m x < 256 := by
  obtain ⟨mb, D, pg, hin⟩ := h
  exact hin.2.2.2.2.2.2.1 x
/-- Behind a stretch of steps that may also turn what is new. -/
theorem RAt.plus {w w' : World} {b base size : Nat} {m : Nat → Nat} {n : Nat} {F : Nat → Prop} (h : RAt w' b base size m n (fun k => F k ∨ w.heap.size ≤ k)) : RAt w' b base size m n (Plus F w w') :=
  h.cut.mono (fun k hk => hk.1.elim .inl (fun h => .inr ⟨h, hk.2⟩))
set_option maxRecDepth 100000 in
set_option maxHeartbeats 1000000 in
theorem write_c (w : World) (b base size : Nat) (m : Nat → Nat) (cnt : Nat) (F : Nat → Prop) (a v : Nat) (n : Int) (h : RAt w b base size m cnt F) (hbs : base + size < 18446744073709551616) (ha : a < 18446744073709551616) (hv : v < 18446744073709551616) (hn : n < 9223372036854775808) (hc : cnt < 900000000) :
    Calls Try.prog 11 #[.pointer (some ⟨b, 0, none⟩), .int .u64 (a : Int), .int .i64 n, .int .u64 (v : Int)] w fun r w' => r = .returned (.bool (okR base size a n)) ∧ RAt w' b base size (writeR base size m a n v) (cnt + 8) (Plus F w w') ∧ Fr F w w' := by
  have HW := Lib.hid (fun W => width_c W n)
  have HR := Lib.hid (show writeR base size m a n v = if okR base size a n then wrR m a v n.toNat else m from rfl)
  have HO := Lib.hid (show okR base size a n = (widthR n && hasR base size a n) from rfl)
  have HA := Lib.hid h
  cases hwn : widthR n with
  | false =>
    rw [hwn] at HW HO
    clear hwn h
    go_enter Try.func11, Try.ntmps11
    go_wp2_with (go_at_call 28; refine (HW.out _).mono ?_; rintro r w1 ⟨rfl, rfl⟩)
    go_ret
    rw [HR.out, HO.out]
    exact ⟨rfl, (HA.out.more (by omega)).mono (fun _ h => .inl h), Fr.refl _ _⟩
  | true =>
    have hH : Calls Try.prog 17 #[.pointer (some ⟨b, 0, none⟩), .int .u64 (a : Int), .int .i64 n] w fun r w' => r = .returned (.bool (hasR base size a n)) ∧ ∃ k, w' = w.drewN k := by
      obtain ⟨mb, D, pg, hin⟩ := h
      exact has_c w b base size mb a n hin.1 hn ha (by omega)
    have HH := Lib.hid hH
    rw [hwn] at HW HO
    cases hhs : hasR base size a n with
    | false =>
      rw [hhs] at HH HO
      clear hwn hhs hH h
      go_enter Try.func11, Try.ntmps11
      go_wp2_with (first
        | (go_at_call 28; refine (HW.out _).mono ?_; rintro r w1 ⟨rfl, rfl⟩)
        | (go_at_call 17; refine HH.out.mono ?_; rintro r w2 ⟨rfl, kk, rfl⟩))
      go_ret
      rw [HR.out, HO.out]
      exact ⟨rfl, ((HA.out.more (by omega)).mono (fun _ h => .inl h)).fr ((Fr.refl No w1).drewN kk) (fun _ _ q => q), (Fr.refl _ w1).drewN kk⟩
    | true =>
      rw [hhs] at HH HO
      obtain ⟨k, hk, hk8⟩ : ∃ k : Nat, n = (k : Int) ∧ 1 ≤ k ∧ k ≤ 8 := ⟨n.toNat, by rcases widthR_cases hwn with h | h | h | h <;> omega, by rcases widthR_cases hwn with h | h | h | h <;> omega⟩
      have hb := hasR_true hhs (by omega)
      subst hk
      rw [Int.toNat_natCast] at hb HR
      have HB := Lib.hid (show a + k < 18446744073709551616 by omega)
      have HC := Lib.hid (And.intro hc hv)
      clear hwn hhs hH h hb hn hbs hc hv
      go_enter Try.func11, Try.ntmps11
      go_wp2_with (first
        | (go_at_call 28; refine (HW.out _).mono ?_; rintro r w1 ⟨rfl, rfl⟩)
        | (go_at_call 17; refine HH.out.mono ?_; rintro r w2 ⟨rfl, kk, rfl⟩))
      have HA0 := Lib.hid ((HA.out.mono (F' := fun k => F k ∨ w1.heap.size ≤ k) (fun _ h => .inl h)).fr ((Fr.refl No w1).drewN kk) (fun _ _ q => q))
      have HF0 := Lib.hid ((Fr.refl F w1).drewN kk)
      go_loopw [21] (fun pi wr => ∃ i : Nat, i ≤ k ∧ pi = .int .i64 (i : Int) ∧ Hid (RAt wr b base size (wrR m a v i) (cnt + i) (fun k => F k ∨ w1.heap.size ≤ k)) ∧ Hid (Fr F w1 wr)) (fun pi _ => k - (intOf pi).toNat)
      case atStart => exact ⟨0, Nat.zero_le _, rfl, HA0, HF0⟩
      case round =>
        obtain ⟨i, hi, rfl, HX, HF⟩ := hrel
        by_cases hlt : i < k
        · have ha2 : IntKind.u64.wrap ((a : Int) + (i : Int)) = ((a + i : Nat) : Int) := by have := HB.out; rw [IntKind.wrap_u64]; omega
          have hi3 : IntKind.u64.wrap (i : Int) = (i : Int) := by rw [IntKind.wrap_u64]; omega
          have e8 : IntKind.i64.wrap (8 * (i : Int)) = ((8 * i : Nat) : Int) := by rw [IntKind.wrap_i64]; omega
          have e8' : wrap64 (8 * (i : Int)) = ((8 * i : Nat) : Int) := by unfold wrap64; omega
          have e1 : IntKind.i64.wrap ((i : Int) + 1) = ((i + 1 : Nat) : Int) := by rw [IntKind.wrap_i64]; omega
          obtain ⟨x, hx⟩ : ∃ x, x = v / 2 ^ (8 * i) % 256 := ⟨_, rfl⟩
          have hxl : x < 256 := by rw [hx]; exact Nat.mod_lt _ (by omega)
          have hx8 : IntKind.u8.wrap (x : Int) = (x : Int) := by rw [IntKind.wrap_u8]; omega
          have hfl := field_c wr v (8 * i) (by omega) HC.out.2
          rw [← hx] at hfl
          have HFL := Lib.hid hfl
          have HSET := Lib.hid (fun q => set_c (wr.drewN q) b base size (wrR m a v i) (cnt + i) _ (a + i) x (HX.out.fr ((Fr.refl No wr).drewN q) (fun _ _ q => q)) (by have := HC.out.1; omega) (by have := HB.out; omega) hxl)
          have HEQ := Lib.hid (show upd (wrR m a v i) (a + i) x = wrR m a v (i + 1) from by rw [hx]; rfl)
          clear hx hfl hxl
          go_wp2_with (first
            | (go_at_call 30; refine HFL.out.mono ?_; rintro r w3 ⟨rfl, q, rfl⟩)
            | (go_at_call 29
               refine (HSET.out q).mono ?_
               rintro r w4 ⟨rfl, hA4, hf4⟩
               rw [HEQ.out] at hA4
               have HA4 := Lib.hid (hA4.mono (F' := fun k => F k ∨ w1.heap.size ≤ k) (fun k h => h.elim (fun h => h) (fun h => .inr (by have h1 := h.1; have h2 := HF.out.size; simp [World.drewN] at h1; omega))))
               have HF4 := Lib.hid (show Fr F w1 w4 from (HF.out.drewN q).andThen hf4 (fun k hk h => h.elim (fun h => h) (fun h => by omega)))
               clear hA4 hf4))
          exact ⟨⟨i + 1, by omega, by simp, Lib.hid HA4.out, HF4⟩, by simp [intOf]; omega⟩
        · obtain rfl : i = k := by omega
          go_wp2_with fail
          go_ret
          rw [HR.out, HO.out]
          exact ⟨rfl, (HX.out.more (by omega)).plus, HF.out⟩
end Go.Proofs.Ytpnabfekidpnoaa

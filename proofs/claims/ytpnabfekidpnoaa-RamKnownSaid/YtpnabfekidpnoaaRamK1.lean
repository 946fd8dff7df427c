/-
  The laws' same and numbers; what a nil memory does.
-/
import Derived.Test.YtpnabfekidpnoaaRamT4
namespace Go.Proofs.Ytpnabfekidpnoaa
open Go Go.RowKit

section
variable (w : World)
set_option maxRecDepth 100000 in
theorem put_nil (a : Nat) (n c : Nat) (o : Option Addr) : Calls Try.prog 18 #[.pointer none, .int .u64 (a : Int), .slice o n c] w fun r w' => r = .returned (.bool false) ∧ Fr No w w' := by
  have HN := Lib.hid (fun W => has_nil W a (n : Int))
  go_enter Try.func18, Try.ntmps18
  go_wp2_with fail
  refine (HN.out _).mono ?_
  rintro r w2 ⟨rfl, rfl⟩
  go_wp2_with fail
  go_ret
  exact ⟨rfl, Fr.refl _ _⟩
set_option maxRecDepth 100000 in
theorem ramtwin_nil : Calls Try.prog 19 #[.pointer none] w fun r w' => r = .returned (.pointer none) ∧ Fr No w w' := by
  go_enter Try.func19, Try.ntmps19
  go_wp2_with fail
  go_ret
  exact ⟨rfl, Fr.refl _ _⟩
set_option maxRecDepth 100000 in
theorem pages_nil : Calls Try.prog 16 #[.pointer none] w fun r w' => r = .returned (.slice none 0 0) ∧ Fr No w w' := by
  go_enter Try.func16, Try.ntmps16
  go_wp2_with fail
  go_ret
  exact ⟨rfl, Fr.refl _ _⟩
end
theorem hasC (w : World) (b base size : Nat) (m : Nat → Nat) (cnt : Nat) (F : Nat → Prop) (a : Nat) (n : Int) (h : RAt w b base size m cnt F) (hn : n < 9223372036854775808) (ha : a < 18446744073709551616) (hs : size < 18446744073709551616) (q : Bool) (hq : hasR base size a n = q) :
    Calls Try.prog 17 #[.pointer (some ⟨b, 0, none⟩), .int .u64 (a : Int), .int .i64 n] w fun r w' => r = .returned (.bool q) ∧ Fr No w w' := by
  obtain ⟨mb, D, pg, hin⟩ := h
  rw [← hq]
  refine (has_c w b base size mb a n hin.1 hn ha hs).mono ?_
  rintro r w' ⟨rfl, k, rfl⟩
  exact ⟨rfl, (Fr.refl No w).drewN k⟩
set_option maxRecDepth 100000 in
theorem lawsame_c (w : World) (v v' : Value) (l l' : List Nat) (h : Rd w v l.length (bytesV l)) (h' : Rd w v' l'.length (bytesV l')) (hl : ∀ x ∈ l, x < 256) (hl' : ∀ x ∈ l', x < 256) :
    Calls Try.prog 14 #[v, v'] w fun r w' => r = .returned (.bool (decide (l = l'))) ∧ Fr No w w' := by
  have h1 := h.text (P := Try.prog) rfl 31 5 9 Try.underlying31 Try.underlying5 Try.underlying9
  have h2 := h'.text (P := Try.prog) rfl 31 5 9 Try.underlying31 Try.underlying5 Try.underlying9
  have h3 := txt_eq l l' hl hl'
  obtain ⟨q, hq⟩ : ∃ q, q = decide (l = l') := ⟨_, rfl⟩
  rw [← hq] at h3 ⊢
  obtain ⟨T, hT⟩ : ∃ T, T = txt l := ⟨_, rfl⟩
  obtain ⟨T', hT'⟩ : ∃ T', T' = txt l' := ⟨_, rfl⟩
  rw [← hT] at h1 h3
  rw [← hT'] at h2 h3
  clear h h' hl hl' hq hT hT'
  go_enter Try.func14, Try.ntmps14
  go_wp2_with fail
  go_ret
  exact ⟨rfl, Fr.refl _ _⟩
set_option maxRecDepth 100000 in
set_option maxHeartbeats 2000000 in
theorem numbers_c (w : World) (v v' : Value) (l : List Nat) (hr : Rd w v l.length (uV l)) (hr' : Rd w v' l.length (uV l)) :
    Calls Try.prog 15 #[v, v'] w fun r w' => r = .returned (.bool true) ∧ Fr No w w' := by
  have HR := Lib.hid hr
  have HR' := Lib.hid hr'
  obtain ⟨a, c, rfl, hlc, hcm, _, _⟩ := hr
  obtain ⟨a', c', rfl, hlc', hcm', _, _⟩ := hr'
  unfold maxLen at hcm hcm'
  obtain ⟨n, hn⟩ : ∃ n, n = l.length := ⟨_, rfl⟩
  rw [← hn] at HR HR' ⊢
  have HN := Lib.hid hn
  have HNM := Lib.hid (show n ≤ 9223372036854775807 by omega)
  clear hn hlc hcm hlc' hcm'
  go_enter Try.func15, Try.ntmps15
  go_wp2_with fail
  go_loopw [5] (fun pi wr => ∃ i : Nat, i ≤ n ∧ pi = .int .i64 (i : Int) ∧ Hid (Fr No w wr)) (fun pi _ => n - (intOf pi).toNat)
  case atStart => exact ⟨0, Nat.zero_le _, rfl, Lib.hid (Fr.refl _ _)⟩
  case round =>
    obtain ⟨i, hi, rfl, HF⟩ := hrel
    by_cases hlt : i < n
    · have hiL : i < l.length := by have := HN.out; omega
      have hR := HR.out
      have hR' := HR'.out
      rw [HN.out] at hR hR'
      obtain ⟨g, o, c2, hv, hcell⟩ := hR.uAt hiL
      obtain ⟨g', o', c2', hv', hcell'⟩ := hR'.uAt hiL
      injection hv with e1 _ e3
      subst e1 e3
      injection hv' with e1 _ e3
      subst e1 e3
      have q1 := hcell wr HF.out
      have q2 := hcell' wr HF.out
      obtain ⟨x, hx⟩ : ∃ x, x = l[i] := ⟨_, rfl⟩
      rw [← hx] at q1 q2
      have e1 : IntKind.i64.wrap ((i : Int) + 1) = ((i + 1 : Nat) : Int) := by have := HNM.out; rw [IntKind.wrap_i64]; omega
      clear hcell hcell' hR hR' hx
      go_upto_region 6 with fail
      go_quiet (fail)
      go_wp2_with fail
      exact ⟨⟨i + 1, by omega, by simp, Lib.hid (HF.out.drewN _)⟩, by simp [intOf]; omega⟩
    · obtain rfl : i = n := by omega
      go_wp2_with fail
      go_ret
      exact ⟨rfl, HF.out⟩
end Go.Proofs.Ytpnabfekidpnoaa

/-
  Where a memory's bytes lie; the laws' awake.
-/
import Derived.Test.YtpnabfekidpnoaaRamB
namespace Go.Proofs.Ytpnabfekidpnoaa
open Go Go.RowKit

/-- All bytes that are not 0 lie in the memory. -/
def Supp (m : Nat → Nat) (base size : Nat) : Prop := ∀ x, m x ≠ 0 → base ≤ x ∧ x < base + size
theorem Supp.zero (base size : Nat) : Supp zeroM base size := fun _ h => absurd rfl h
theorem Supp.upd {m : Nat → Nat} {base size : Nat} (h : Supp m base size) (a v : Nat) (ha : base ≤ a ∧ a < base + size) : Supp (upd m a v) base size := fun x hx => by
  unfold Go.Proofs.Ytpnabfekidpnoaa.upd at hx
  by_cases e : x = a
  · rw [e]; exact ha
  · rw [if_neg e] at hx
    exact h x hx
theorem Supp.wr {m : Nat → Nat} {base size : Nat} (h : Supp m base size) (a v : Nat) : ∀ n, base ≤ a → a + n ≤ base + size → Supp (wrR m a v n) base size
  | 0, _, _ => h
  | n + 1, h1, h2 => (Supp.wr h a v n h1 (by omega)).upd _ _ ⟨by omega, by omega⟩
theorem Supp.write {m : Nat → Nat} {base size : Nat} (h : Supp m base size) (a v : Nat) (n : Int) : Supp (writeR base size m a n v) base size := by
  unfold writeR
  by_cases ho : okR base size a n = true
  · rw [if_pos ho]
    unfold okR at ho
    rw [Bool.and_eq_true] at ho
    have hn : 0 < n := by rcases widthR_cases ho.1 with h | h | h | h <;> omega
    have hb := hasR_true ho.2 hn
    exact h.wr a v _ hb.1 hb.2
  · rw [if_neg ho]
    exact h
theorem Supp.nz {m : Nat → Nat} {k0 kn : Nat} (h : Supp m (k0 * 4096) (kn * 4096)) (p : Nat) (hp : NZ m p) : k0 ≤ p ∧ p < k0 + kn := by
  obtain ⟨i, hi, hn⟩ := hp
  have := h _ hn
  omega
/-- Two pages. -/
theorem two_pages {m : Nat → Nat} {l : List Nat} (h : PagesOf m l) (p q : Nat) (hpq : p ≠ q) (hp : NZ m p) (hq : NZ m q) (hall : ∀ x, NZ m x → x = p ∨ x = q) : l.length = 2 := by
  have hn : l.Nodup := h.1.imp (fun h => Nat.ne_of_lt h)
  have h1 : p * 4096 ∈ l := (h.2 _).2 ⟨p, rfl, hp⟩
  have h2 : q * 4096 ∈ l := (h.2 _).2 ⟨q, rfl, hq⟩
  have e1 : (l.erase (p * 4096)).length = l.length - 1 := List.length_erase_of_mem h1
  have h3 : q * 4096 ∈ l.erase (p * 4096) := (hn.mem_erase_iff).2 ⟨by omega, h2⟩
  have e2 : ((l.erase (p * 4096)).erase (q * 4096)).length = (l.erase (p * 4096)).length - 1 := List.length_erase_of_mem h3
  have e3 : (l.erase (p * 4096)).erase (q * 4096) = [] := by
    apply List.eq_nil_iff_forall_not_mem.2
    intro x hx
    have g1 := ((hn.erase _).mem_erase_iff).1 hx
    have g2 := (hn.mem_erase_iff).1 g1.2
    obtain ⟨r, hr, hnz⟩ := (h.2 x).1 g2.2
    rcases hall r hnz with e | e
    · exact g2.1 (by rw [hr, e])
    · exact g1.1 (by rw [hr, e])
  have hl : 0 < l.length := List.length_pos_of_mem h1
  have hl2 : 0 < (l.erase (p * 4096)).length := List.length_pos_of_mem h3
  rw [e3] at e2
  simp at e2
  omega
def awM : Nat → Nat := writeR 4096 8192 zeroM 8190 4 16909060
theorem awM_supp : Supp awM 4096 8192 := (Supp.zero _ _).write _ _ _
theorem awM_pages {l : List Nat} (h : PagesOf awM l) : l.length = 2 := by
  refine two_pages h 1 2 (by omega) ⟨4094, by omega, by decide⟩ ⟨0, by omega, by decide⟩ (fun x hx => ?_)
  have := Supp.nz (k0 := 1) (kn := 2) awM_supp x hx
  omega
set_option maxRecDepth 100000 in
set_option maxHeartbeats 1000000 in
theorem awake_c (w : World) : Calls Try.prog 8 #[] w fun r w' => r = .returned (.bool true) ∧ Fr No w w' := by
  have hnew : Calls Try.prog 9 #[.int .u64 4096, .int .u64 8192] w fun r w' => ∃ b, r = .returned (.tuple #[.pointer (some ⟨b, 0, none⟩), .int .i64 0]) ∧ RAt w' b 4096 8192 zeroM 0 (Plus No w w') ∧ Fr No w w' := new_c w 4096 8192 (by decide)
  have HNEW := Lib.hid hnew
  have h1 : okR 4096 8192 8190 4 = true := by decide
  have h2 : okR 4096 8192 8191 2 = true := by decide
  have h3 : readR 4096 8192 awM 8191 2 = 515 := by decide
  have H1 := Lib.hid h1
  have H2 := Lib.hid h2
  have H3 := Lib.hid h3
  clear hnew h1 h2 h3
  go_enter Try.func8, Try.ntmps8
  go_wp2_with fail
  refine HNEW.out.mono ?_
  rintro r w1 ⟨b, rfl, hA1, hf1⟩
  have HA1 := Lib.hid (hA1.mono (F' := fun k => w.heap.size ≤ k) (fun k h => h.elim (fun h => h.elim) (fun h => h.1)))
  have HF1 := Lib.hid hf1
  clear hA1 hf1
  go_wp2_with fail
  have hq : Calls Try.prog 11 #[.pointer (some ⟨b, 0, none⟩), .int .u64 8190, .int .i64 4, .int .u64 16909060] w1 fun r w' => r = .returned (.bool (okR 4096 8192 8190 4)) ∧ RAt w' b 4096 8192 awM (0 + 8) (Plus (fun k => w.heap.size ≤ k) w1 w') ∧ Fr (fun k => w.heap.size ≤ k) w1 w' := write_c w1 b 4096 8192 zeroM 0 _ 8190 16909060 4 HA1.out (by omega) (by omega) (by omega) (by omega) (by omega)
  rw [H1.out] at hq
  refine hq.mono ?_
  rintro r w2 ⟨rfl, hA2, hf2⟩
  have HA2 := Lib.hid (hA2.mono (F' := fun k => w.heap.size ≤ k) (fun k h => h.elim (fun h => h) (fun h => Nat.le_trans HF1.out.size h.1)))
  have HF2 := Lib.hid (show Fr No w w2 from HF1.out.andThen hf2 (fun k hk h => by have h2 : w.heap.size ≤ k := h; omega))
  clear hq hA2 hf2 HA1 HF1
  go_wp2_with fail
  have hq : Calls Try.prog 13 #[.pointer (some ⟨b, 0, none⟩), .int .u64 8191, .int .i64 2] w2 fun r w' => r = .returned (.tuple #[.int .u64 ((readR 4096 8192 awM 8191 2 : Nat) : Int), .bool (okR 4096 8192 8191 2)]) ∧ ∃ k, w' = w2.drewN k := read_c w2 b 4096 8192 awM _ _ 8191 2 HA2.out (by omega) (by omega) (by omega)
  rw [H2.out, H3.out] at hq
  refine hq.mono ?_
  rintro r w3 ⟨rfl, k3, rfl⟩
  clear hq
  have HPG := Lib.hid (pages_c (w2.drewN k3) b 4096 8192 awM _ _ (HA2.out.fr ((Fr.refl No w2).drewN k3) (fun _ _ q => q)) (fun x hx => by have := awM_supp x hx; omega) 1 2 (fun p hp => Supp.nz awM_supp p hp) (by omega))
  go_wp2_with fail
  refine HPG.out.mono ?_
  rintro r w4 ⟨v, l, rfl, hown, hpo, hf4⟩
  obtain ⟨a, c, rfl, _, _⟩ := hown.slice
  have hl2 := awM_pages hpo
  rw [hl2]
  have HF4 := Lib.hid ((HF2.out.drewN k3).trans hf4)
  clear hown hpo hf4 hl2
  go_wp2_with fail
  go_ret
  exact ⟨rfl, HF4.out⟩
end Go.Proofs.Ytpnabfekidpnoaa

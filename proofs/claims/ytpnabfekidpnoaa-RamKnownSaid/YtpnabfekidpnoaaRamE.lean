/-
  Equal rows of numbers.
-/
import Derived.Test.YtpnabfekidpnoaaRamL
import Derived.Test.YtpnabfekidpnoaaTake
namespace Go.Proofs.Ytpnabfekidpnoaa
open Go Go.RowKit

theorem uV_at (l : List Nat) (i : Nat) (hi : i < l.length) : (uV l)[i]? = some (.int .u64 ((l[i] : Nat) : Int)) := by
  unfold uV
  rw [List.getElem?_map, List.getElem?_eq_getElem hi]
  rfl
/-- Where a number lies, at every world that keeps what was there. -/
theorem Rd.uAt {w : World} {v : Value} {l : List Nat} (h : Rd w v l.length (uV l)) {k : Nat} (hk : k < l.length) :
    ∃ g o c, v = .slice (some ⟨g, o, none⟩) l.length c ∧ ∀ wz, Fr No w wz → wz.cell? ⟨g, o + k, none⟩ = some (.int .u64 ((l[k] : Nat) : Int)) := by
  obtain ⟨a, c, rfl, h2, h3, h4, h5⟩ := h
  cases a with
  | none => have := (h4 rfl).1; omega
  | some ad =>
    obtain ⟨g, o, sp⟩ := ad
    have hx := h5 _ rfl k _ (uV_at l k hk)
    cases sp with
    | none => exact ⟨g, o, c, rfl, fun wz hz => hz.cell (by rwa [addr_add] at hx) (fun h => h)⟩
    | some sp =>
      exfalso
      have h0 := h5 _ rfl 0 _ (uV_at l 0 (by omega))
      have hsp : (⟨g, o, some sp⟩ : Addr).add 0 = ⟨g, o, some sp⟩ := rfl
      rw [hsp] at h0
      unfold World.cell? at h0
      split at h0 <;> simp at h0
set_option maxRecDepth 100000 in
set_option maxHeartbeats 2000000 in
theorem equal_c (w : World) (v v' : Value) (l l' : List Nat) (hr : Rd w v l.length (uV l)) (hr' : Rd w v' l'.length (uV l')) :
    Calls Try.prog 39 #[v, v'] w fun r w' => r = .returned (.bool (decide (l = l'))) ∧ ∃ k, w' = w.drewN k := by
  have HR := Lib.hid hr
  have HR' := Lib.hid hr'
  obtain ⟨a, c, rfl, hlc, hcm, _, _⟩ := hr
  obtain ⟨a', c', rfl, hlc', hcm', _, _⟩ := hr'
  unfold maxLen at hcm hcm'
  by_cases hne : l.length = l'.length
  case neg =>
    have hd : decide (l = l') = false := by
      rw [decide_eq_false_iff_not]
      intro h
      exact hne (by rw [h])
    have hni : ¬ ((l.length : Int) = (l'.length : Int)) := by omega
    rw [hd]
    clear hlc hcm hlc' hcm' HR HR'
    go_enter Try.func39, Try.ntmps39
    go_wp2_with fail
    go_ret
    exact ⟨rfl, 0, rfl⟩
  obtain ⟨n, hn⟩ : ∃ n, n = l.length := ⟨_, rfl⟩
  have hn' : n = l'.length := by omega
  rw [← hn] at HR ⊢
  rw [← hn'] at HR' ⊢
  have HN := Lib.hid hn
  have HN' := Lib.hid hn'
  have HNM := Lib.hid (show n ≤ 9223372036854775807 by omega)
  clear hn hn' hlc hcm hlc' hcm' hne
  go_enter Try.func39, Try.ntmps39
  go_wp2_with fail
  go_loopw [13] (fun pi wr => ∃ i : Nat, i ≤ n ∧ pi = .int .i64 (i : Int) ∧ Hid (l.take i = l'.take i) ∧ Hid (∃ k, wr = w.drewN k)) (fun pi _ => n - (intOf pi).toNat)
  case atStart => exact ⟨0, Nat.zero_le _, rfl, Lib.hid rfl, Lib.hid ⟨0, rfl⟩⟩
  case round =>
    obtain ⟨i, hi, rfl, HT, HW⟩ := hrel
    by_cases hlt : i < n
    · have hiL : i < l.length := by have := HN.out; omega
      have hiL' : i < l'.length := by have := HN'.out; omega
      have hR := HR.out
      have hR' := HR'.out
      rw [HN.out] at hR
      rw [HN'.out] at hR'
      obtain ⟨g, o, c2, hv, hcell⟩ := hR.uAt hiL
      obtain ⟨g', o', c2', hv', hcell'⟩ := hR'.uAt hiL'
      injection hv with e1 _ e3
      subst e1 e3
      injection hv' with e1 _ e3
      subst e1 e3
      obtain ⟨k, hk⟩ := HW.out
      have hfr : Fr No w wr := by rw [hk]; exact (Fr.refl No w).drewN k
      have q1 := hcell wr hfr
      have q2 := hcell' wr hfr
      obtain ⟨x, hx⟩ : ∃ x, x = l[i] := ⟨_, rfl⟩
      obtain ⟨y, hy⟩ : ∃ y, y = l'[i] := ⟨_, rfl⟩
      rw [← hx] at q1
      rw [← hy] at q2
      have e1 : IntKind.i64.wrap ((i : Int) + 1) = ((i + 1 : Nat) : Int) := by have := HNM.out; rw [IntKind.wrap_i64]; omega
      have HX := Lib.hid hx
      have HY := Lib.hid hy
      have HK := Lib.hid hk
      clear hcell hcell' hR hR' hfr hx hy hk HW
      by_cases hxy : x = y
      · subst hxy
        go_upto_region 6 with fail
        go_quiet (fail)
        go_wp2_with fail
        refine ⟨⟨i + 1, by omega, rfl, Lib.hid ?_, Lib.hid ⟨k + nq, by rw [HK.out, World.drewN_drewN]⟩⟩, by simp [intOf]; omega⟩
        rw [← List.take_append_getElem hiL, ← List.take_append_getElem hiL', HT.out, ← HX.out, ← HY.out]
      · have hd : decide (l = l') = false := by
          rw [decide_eq_false_iff_not]
          intro h
          subst h
          exact hxy (HX.out.trans HY.out.symm)
        have HD := Lib.hid hd
        clear hd
        go_upto_region 6 with fail
        go_quiet (fail)
        go_wp2_with fail
        go_ret
        exact ⟨by rw [HD.out]; rfl, k + nq, by rw [HK.out, World.drewN_drewN]⟩
    · obtain rfl : i = n := by omega
      have hd : decide (l = l') = true := by
        rw [decide_eq_true_iff]
        have h := HT.out
        have h2 := h
        rw [List.take_of_length_le (by have := HN.out; omega), List.take_of_length_le (by have := HN'.out; omega)] at h2
        exact h2
      have HD := Lib.hid hd
      clear hd
      go_wp2_with fail
      go_ret
      exact ⟨by rw [HD.out]; rfl, HW.out⟩
end Go.Proofs.Ytpnabfekidpnoaa

/-
  made: one that entries were put into. Entries of a statement's argument.
-/
import Derived.Test.YtpnabfekidpnoaaDoorTlbB
import Derived.Test.YtpnabfekidpnoaaDoorOpen
import Derived.Test.YtpnabfekidpnoaaDoorTlbP
namespace Go.Proofs.YtpnabfekidpnoaaDoor
open Go Go.RowKit

theorem tcells_at (xs : List TE) (k : Nat) (x : TE) (h : xs[k]? = some x) (j : Nat) (u : Value) (hu : x.cells[j]? = some u) : (tcells xs)[k * 11 + j]? = some u := by
  obtain ⟨hk, rfl⟩ := List.getElem?_eq_some_iff.1 h
  have hj : j < 11 := by rw [← TE.cells_len (xs[k])]; exact (List.getElem?_eq_some_iff.1 hu).1
  rw [tcells_split hk, List.append_assoc, List.getElem?_append_right (by rw [tcells_len, List.length_take]; omega), tcells_len, List.length_take, List.getElem?_append_left (by rw [TE.cells_len]; omega)]
  rw [← hu]
  congr 1
  omega
/-- Where an entry lies, at every world that keeps what was there. -/
theorem Rd.teAt {w : World} {v : Value} {xs : List TE} (h : Rd w v xs.length (tcells xs)) {k : Nat} (hk : k < xs.length) :
    ∃ g o c, v = .slice (some ⟨g, o, none⟩) xs.length c ∧ ∀ wz, Fr No w wz → ∀ j u, xs[k].cells[j]? = some u → wz.cell? ⟨g, o + (k * 11 + j), none⟩ = some u := by
  obtain ⟨a, c, rfl, h2, h3, h4, h5⟩ := h
  cases a with
  | none => have := (h4 rfl).1; omega
  | some ad =>
    obtain ⟨g, o, sp⟩ := ad
    have hx := fun (j : Nat) (u : Value) (hu : xs[k].cells[j]? = some u) => h5 _ rfl _ u (tcells_at xs k xs[k] (List.getElem?_eq_getElem hk) j u hu)
    cases sp with
    | none => exact ⟨g, o, c, rfl, fun wz hz j u hu => hz.cell (by have := hx j u hu; rwa [addr_add] at this) (fun h => h)⟩
    | some sp =>
      exfalso
      have h0 := h5 _ rfl _ _ (tcells_at xs 0 xs[0] (List.getElem?_eq_getElem (by omega)) 0 _ rfl)
      have hsp : (⟨g, o, some sp⟩ : Addr).add (0 * 11 + 0) = ⟨g, o, some sp⟩ := rfl
      rw [hsp] at h0
      unfold World.cell? at h0
      split at h0 <;> simp at h0
/-- Values in their kinds' ranges are entries' cells. -/
theorem te_of_cells {r : List Value} (h : WFits r [none, some .u64, some .u64, none, some .u64, some .u64, some .u64, some .i64, some .i64, some .u64, some .u64]) : ∃ x : TE, r = x.cells := by
  obtain ⟨a, _, rfl, hr⟩ := h.bool
  obtain ⟨b, _, rfl, hb, hr⟩ := hr.int
  obtain ⟨c, _, rfl, hc, hr⟩ := hr.int
  obtain ⟨d, r2, e1, hr2⟩ := hr.bool
  subst e1
  clear hr
  obtain ⟨e, _, rfl, he, hr⟩ := hr2.int
  obtain ⟨f, _, rfl, hf, hr⟩ := hr.int
  obtain ⟨g, _, rfl, hg, hr⟩ := hr.int
  obtain ⟨i, _, rfl, _, hr⟩ := hr.int
  obtain ⟨j, _, rfl, _, hr⟩ := hr.int
  obtain ⟨k, _, rfl, hk, hr⟩ := hr.int
  obtain ⟨m, _, rfl, hm, hr⟩ := hr.int
  obtain rfl := hr.nil
  obtain ⟨b, rfl, _⟩ := nat_u64 hb
  obtain ⟨c, rfl, _⟩ := nat_u64 hc
  obtain ⟨e, rfl, _⟩ := nat_u64 he
  obtain ⟨f, rfl, _⟩ := nat_u64 hf
  obtain ⟨g, rfl, _⟩ := nat_u64 hg
  obtain ⟨k, rfl, _⟩ := nat_u64 hk
  obtain ⟨m, rfl, _⟩ := nat_u64 hm
  exact ⟨⟨a, b, c, d, e, f, g, i, j, k, m⟩, rfl⟩
theorem tes_of_rows : ∀ rows : List (List Value), (∀ r ∈ rows, WFits r [none, some .u64, some .u64, none, some .u64, some .u64, some .u64, some .i64, some .i64, some .u64, some .u64]) → ∃ xs : List TE, xs.length = rows.length ∧ tcells xs = rows.flatten
  | [], _ => ⟨[], rfl, rfl⟩
  | r :: rows, h => by
    obtain ⟨xs, h1, h2⟩ := tes_of_rows rows (fun r hr => h r (List.mem_cons_of_mem _ hr))
    obtain ⟨x, rfl⟩ := te_of_cells (h r (List.mem_cons_self ..))
    exact ⟨x :: xs, by rw [List.length_cons, List.length_cons, h1], by rw [tcells_cons, List.flatten_cons, h2]⟩
theorem Ok.putAll {ways : Nat} : ∀ (l : List TE) {L : TS}, TS.Ok ways L → TS.Ok ways (putAll ways L l)
  | [], _, h => h
  | x :: l, _, h => Ok.putAll l (h.put x)
theorem putAll_snoc (ways : Nat) (L : TS) (l : List TE) (i : Nat) (hi : i < l.length) : putAll ways L (l.take (i + 1)) = (putAll ways L (l.take i)).put ways l[i] := by
  unfold putAll
  rw [← List.take_append_getElem hi, List.foldl_append]
  rfl
def madeOf (l : List TE) : TS := putAll 3 (List.replicate 4 []) l
theorem madeOf_ok (l : List TE) : TS.Ok 3 (madeOf l) := Ok.putAll l (Ok.new 4 3 (by omega) (by omega))
set_option maxRecDepth 100000 in
set_option maxHeartbeats 2000000 in
theorem made_c (w : World) (v : Value) (l : List TE) (hr : Rd w v l.length (tcells l)) (h100 : l.length ≤ 100) (hT : TzAt w) :
    Calls Tryd.prog 8 #[v] w fun e w' => ∃ b, e = .returned (.pointer (some ⟨b, 0, none⟩)) ∧ TAt w' b 3 (madeOf l) (fun k => w.heap.size ≤ k) ∧ Fr No w w' := by
  have hnew : Calls Tryd.prog 12 #[.int .i64 4, .int .i64 3] w fun e w' => ∃ b, e = .returned (.tuple #[.pointer (some ⟨b, 0, none⟩), .int .i64 0]) ∧ TAt w' b 3 (List.replicate 4 []) (Plus No w w') ∧ Fr No w w' := new_c w 4 3 (by omega) (by decide) (by omega) hT
  have HNEW := Lib.hid hnew
  have HR := Lib.hid hr
  obtain ⟨a, c, rfl, _, _⟩ := hr
  obtain ⟨n, hn⟩ : ∃ n, n = l.length := ⟨_, rfl⟩
  rw [← hn] at h100 HR ⊢
  have HN := Lib.hid hn
  have d1 : decide ((100 : Int) < (n : Int)) = false := by rw [decide_eq_false_iff_not]; omega
  clear hT hnew hn
  go_enter Tryd.func8, Tryd.ntmps8
  go_wp2_with fail
  refine HNEW.out.mono ?_
  rintro e w1 ⟨b, rfl, hA1, hf1⟩
  have HA1 := Lib.hid (hA1.mono (F' := fun k => w.heap.size ≤ k) (fun k h => h.elim (fun h => h.elim) (fun h => h.1)))
  have HF1 := Lib.hid hf1
  clear hA1 hf1
  go_wp2_with fail
  go_loopw [5] (fun pi wr => ∃ i : Nat, i ≤ n ∧ pi = .int .i64 (i : Int) ∧ Hid (TAt wr b 3 (putAll 3 (List.replicate 4 []) (l.take i)) (fun k => w.heap.size ≤ k)) ∧ Hid (Fr No w wr)) (fun pi _ => n - (intOf pi).toNat)
  case atStart => exact ⟨0, Nat.zero_le _, rfl, HA1, HF1⟩
  case round =>
    obtain ⟨i, hi, rfl, HA, HF⟩ := hrel
    by_cases hlt : i < n
    · have hiL : i < l.length := by have := HN.out; omega
      have hR := HR.out
      rw [HN.out] at hR
      obtain ⟨g, o, c', hv, hcell⟩ := hR.teAt hiL
      injection hv with e1 _ e3
      subst e1 e3
      have hc := hcell wr HF.out
      have hp := putAll_snoc 3 (List.replicate 4 []) l i hiL
      obtain ⟨x, hx⟩ : ∃ x, x = l[i] := ⟨_, rfl⟩
      rw [← hx] at hc hp
      have q0 := hc 0 _ rfl
      have q1 := hc 1 _ rfl
      have q2 := hc 2 _ rfl
      have q3 := hc 3 _ rfl
      have q4 := hc 4 _ rfl
      have q5 := hc 5 _ rfl
      have q6 := hc 6 _ rfl
      have q7 := hc 7 _ rfl
      have q8 := hc 8 _ rfl
      have q9 := hc 9 _ rfl
      have q10 := hc 10 _ rfl
      simp only [Nat.add_zero, ← Nat.add_assoc] at q0 q1 q2 q3 q4 q5 q6 q7 q8 q9 q10
      have HP := Lib.hid hp
      have HQ := Lib.hid (put_c wr b 3 _ _ x HA.out (Ok.putAll _ (Ok.new 4 3 (by omega) (by omega))))
      have e1 : IntKind.i64.wrap ((i : Int) + 1) = ((i + 1 : Nat) : Int) := by rw [IntKind.wrap_i64]; omega
      clear hc hp hcell hx hR
      go_wp2_with fail
      refine HQ.out.mono ?_
      rintro e w2 ⟨rfl, hA2, hf2⟩
      rw [← HP.out] at hA2
      have HA2 := Lib.hid (hA2.mono (F' := fun k => w.heap.size ≤ k) (fun k h => h.elim (fun h => h) (fun h => Nat.le_trans HF.out.size h.1)))
      have HF2 := Lib.hid (show Fr No w w2 from HF.out.andThen hf2 (fun k hk h => by have h2 : w.heap.size ≤ k := h; omega))
      clear hA2 hf2 q0 q1 q2 q3 q4 q5 q6 q7 q8 q9 q10
      go_wp2_with fail
      exact ⟨⟨i + 1, by omega, by simp, HA2, HF2⟩, by simp [intOf]; omega⟩
    · obtain rfl : i = n := by omega
      go_wp2_with fail
      go_ret
      have h := HA.out
      rw [HN.out, List.take_length] at h
      exact ⟨b, rfl, h, HF.out⟩
set_option maxRecDepth 100000 in
theorem made_long (w : World) (a : Option Addr) (n c : Nat) (h100 : 100 < n) (hT : TzAt w) :
    Calls Tryd.prog 8 #[.slice a n c] w fun e w' => e = .returned (.pointer none) ∧ Fr No w w' := by
  have hnew : Calls Tryd.prog 12 #[.int .i64 4, .int .i64 3] w fun e w' => ∃ b, e = .returned (.tuple #[.pointer (some ⟨b, 0, none⟩), .int .i64 0]) ∧ TAt w' b 3 (List.replicate 4 []) (Plus No w w') ∧ Fr No w w' := new_c w 4 3 (by omega) (by decide) (by omega) hT
  have HNEW := Lib.hid hnew
  have d1 : decide ((100 : Int) < (n : Int)) = true := by rw [decide_eq_true_iff]; omega
  clear hT hnew
  go_enter Tryd.func8, Tryd.ntmps8
  go_wp2_with fail
  refine HNEW.out.mono ?_
  rintro e w1 ⟨b, rfl, hA1, hf1⟩
  go_wp2_with fail
  go_ret
  exact ⟨rfl, hf1⟩
end Go.Proofs.YtpnabfekidpnoaaDoor

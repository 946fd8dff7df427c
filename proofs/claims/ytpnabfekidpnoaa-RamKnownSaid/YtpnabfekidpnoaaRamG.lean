/-
  Law03's Great; acts of its arguments.
-/
import Derived.Test.YtpnabfekidpnoaaRamA
import Derived.Test.YtpnabfekidpnoaaActs3
namespace Go.Proofs.Ytpnabfekidpnoaa
open Go Go.RowKit

theorem acells_cons (x : AC) (l : List AC) : acells (x :: l) = x.cells ++ acells l := rfl
theorem acells_at (xs : List AC) : ∀ (k : Nat) (x : AC), xs[k]? = some x → ∀ j u, x.cells[j]? = some u → (acells xs)[k * 5 + j]? = some u := by
  induction xs with
  | nil => intro k x h; simp at h
  | cons y xs ih =>
    intro k x h j u hu
    cases k with
    | zero =>
      simp at h
      subst h
      have hj : j < 5 := by rw [← AC.cells_len y]; exact (List.getElem?_eq_some_iff.1 hu).1
      rw [acells_cons, Nat.zero_mul, Nat.zero_add, List.getElem?_append_left (by rw [AC.cells_len]; exact hj)]
      exact hu
    | succ k =>
      rw [acells_cons, List.getElem?_append_right (by rw [AC.cells_len, Nat.add_mul]; omega), AC.cells_len]
      have := ih k x (by simpa using h) j u hu
      rw [← this]
      congr 1
      rw [Nat.add_mul]
      omega
/-- Where an act lies, at every world that keeps what was there. -/
theorem Rd.acAt {w : World} {v : Value} {xs : List AC} (h : Rd w v xs.length (acells xs)) {k : Nat} (hk : k < xs.length) :
    ∃ g o c, v = .slice (some ⟨g, o, none⟩) xs.length c ∧ ∀ wz, Fr No w wz → ∀ j u, xs[k].cells[j]? = some u → wz.cell? ⟨g, o + (k * 5 + j), none⟩ = some u := by
  obtain ⟨a, c, rfl, h2, h3, h4, h5⟩ := h
  cases a with
  | none => have := (h4 rfl).1; omega
  | some ad =>
    obtain ⟨g, o, sp⟩ := ad
    have hx := fun (j : Nat) (u : Value) (hu : xs[k].cells[j]? = some u) => h5 _ rfl _ u (acells_at xs k xs[k] (List.getElem?_eq_getElem hk) j u hu)
    cases sp with
    | none => exact ⟨g, o, c, rfl, fun wz hz j u hu => hz.cell (by have := hx j u hu; rwa [addr_add] at this) (fun h => h)⟩
    | some sp =>
      exfalso
      have h0 := h5 _ rfl _ _ (acells_at xs 0 xs[0] (List.getElem?_eq_getElem (by omega)) 0 _ rfl)
      have hsp : (⟨g, o, some sp⟩ : Addr).add (0 * 5 + 0) = ⟨g, o, some sp⟩ := rfl
      rw [hsp] at h0
      unfold World.cell? at h0
      split at h0 <;> simp at h0
/-- What is known of Great's answer. -/
def GreatR (n : Nat) (e : Ending) : Prop := ∃ q : Bool, e = .returned (.bool q) ∧ (q = false → n ≤ 60)
set_option maxRecDepth 100000 in
set_option maxHeartbeats 2000000 in
theorem great_c (w : World) (v : Value) (l : List AC) (hr : Rd w v l.length (acells l)) :
    Calls Try.prog 10 #[v] w fun e w' => GreatR l.length e ∧ w' = w := by
  have HR := Lib.hid hr
  obtain ⟨a, c, rfl, hlc, hcm, _, _⟩ := hr
  obtain ⟨n, hn⟩ : ∃ n, n = l.length := ⟨_, rfl⟩
  unfold maxLen at hcm
  rw [← hn] at HR hlc ⊢
  have hnm : n ≤ 9223372036854775807 := by omega
  have HN := Lib.hid hn
  clear hn hlc hcm
  go_enter Try.func10, Try.ntmps10
  go_wp2_with fail
  go_loopw [3, 4] (fun ps pi wr => ∃ (i : Nat) (s : Int), i ≤ n ∧ ps = .int .i64 s ∧ pi = .int .i64 (i : Int) ∧ wr = w) (fun _ pi _ => n - (intOf pi).toNat)
  case atStart => exact ⟨0, 0, Nat.zero_le _, rfl, rfl, rfl⟩
  case round =>
    obtain ⟨i, s, hi, rfl, rfl, rfl⟩ := hrel
    by_cases hlt : i < n
    · by_cases h60 : i ≤ 60
      · have hiL : i < l.length := by have := HN.out; omega
        have hR := HR.out
        rw [HN.out] at hR
        obtain ⟨g, o, c', hv, hcell⟩ := hR.acAt hiL
        injection hv with e1 _ e3
        subst e1 e3
        have q4 := hcell wr (Fr.refl No wr) 4 _ rfl
        simp only [← Nat.add_assoc] at q4
        have e1 : IntKind.i64.wrap ((i : Int) + 1) = ((i + 1 : Nat) : Int) := by rw [IntKind.wrap_i64]; omega
        clear hcell hR
        go_wp2_with fail
        exact ⟨⟨i + 1, _, by omega, rfl, rfl, trivial⟩, by simp [intOf]; omega⟩
      · have h61 : 60 < n := by omega
        go_wp2_with fail
        go_ret
        exact ⟨⟨_, rfl, fun h => by simp at h⟩, rfl⟩
    · obtain rfl : i = n := by omega
      by_cases h60 : 60 < i
      · go_wp2_with fail
        go_ret
        exact ⟨⟨_, rfl, fun h => by simp at h⟩, rfl⟩
      · go_wp2_with fail
        go_ret
        exact ⟨⟨_, rfl, fun _ => by omega⟩, rfl⟩
end Go.Proofs.Ytpnabfekidpnoaa

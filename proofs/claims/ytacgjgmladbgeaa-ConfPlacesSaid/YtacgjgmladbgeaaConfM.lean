/-
  Configurations as plain data: what bars a guest, and which configurations are accepted. No program in sight.
-/
import Derived.Test.YtacgjgmladbgeaaBase
namespace Go.Proofs.Ytacgjgmladbgeaa
open Go Go.RowKit

/-- A guest. -/
structure CG where
  base : Nat
  size : Nat
deriving DecidableEq
namespace CG
structure Ok (g : CG) : Prop where
  base : g.base < 18446744073709551616
  size : g.size < 18446744073709551616
/-- Do two guests meet? (Sums as the machine makes them.) -/
def meets (g o : CG) : Bool := decide (g.base < (o.base + o.size) % 18446744073709551616) && decide (o.base < (g.base + g.size) % 18446744073709551616)
/-- Where guests may lie. -/
def lies (ram : Nat) (g : CG) : Bool := decide (2148532224 ≤ g.base) && decide (g.base + g.size ≤ 2147483648 + ram)
/-- Does an address lie in it? -/
def has (g : CG) (a : Nat) : Bool := decide (g.base ≤ a) && decide (a < g.base + g.size)
/-- What bars a guest, behind others. -/
def bars (ram : Nat) (others : List CG) (g : CG) : Nat :=
  if g.size = 0 ∨ 2097152 < g.size ∨ g.size % 4096 ≠ 0 then 251
  else if g.base % 4096 ≠ 0 then 252
  else if g.lies ram = false then 253
  else if others.any (fun o => g.meets o) = true then 254
  else 0
theorem bars_zero {ram : Nat} {others : List CG} {g : CG} (h : g.bars ram others = 0) :
    0 < g.size ∧ g.size ≤ 2097152 ∧ g.size % 4096 = 0 ∧ g.base % 4096 = 0 ∧ 2148532224 ≤ g.base ∧ g.base + g.size ≤ 2147483648 + ram ∧ ∀ o ∈ others, g.meets o = false := by
  unfold bars at h
  split at h
  · omega
  · split at h
    · omega
    · split at h
      · omega
      · split at h
        · omega
        · rename_i h1 h2 h3 h4
          have h5 : g.lies ram = true := by simpa using h3
          unfold lies at h5
          simp only [Bool.and_eq_true, decide_eq_true_eq] at h5
          refine ⟨by omega, by omega, by omega, by omega, h5.1, h5.2, fun o ho => ?_⟩
          cases hm : g.meets o
          · rfl
          · exact absurd (List.any_eq_true.2 ⟨o, ho, hm⟩) h4
end CG
/-- The first number at which `f` is not 0, and what it is there. -/
def scanQ (f : Nat → Nat) : Nat → Nat → Option (Nat × Nat)
  | _, 0 => none
  | i, r + 1 => if f i = 0 then scanQ f (i + 1) r else some (i, f i)
theorem scanQ_congr (f g : Nat → Nat) : ∀ (r i : Nat), (∀ j, j < i → f j = 0) → (∀ j, j < i + r → (∀ m, m < j → f m = 0) → f j = g j) → scanQ f i r = scanQ g i r
  | 0, _, _, _ => rfl
  | r + 1, i, h, hfg => by
    have e := hfg i (by omega) h
    unfold scanQ
    rw [← e]
    split
    · rename_i h0
      refine scanQ_congr f g r (i + 1) (fun j hj => ?_) (fun j hj hm => hfg j (by omega) hm)
      by_cases q : j = i
      · rw [q]; exact h0
      · exact h j (by omega)
    · rfl
theorem scanQ_none {f : Nat → Nat} : ∀ (r i : Nat), scanQ f i r = none → ∀ j, i ≤ j → j < i + r → f j = 0
  | 0, _, _, j, h1, h2 => by omega
  | r + 1, i, h, j, h1, h2 => by
    unfold scanQ at h
    split at h
    · rename_i h0
      by_cases q : j = i
      · rw [q]; exact h0
      · exact scanQ_none r (i + 1) h j (by omega) (by omega)
    · cases h
theorem scanQ_some {f : Nat → Nat} {m e : Nat} : ∀ (r i : Nat), scanQ f i r = some (m, e) → i ≤ m ∧ m < i + r ∧ e = f m ∧ e ≠ 0
  | 0, _, h => by cases h
  | r + 1, i, h => by
    unfold scanQ at h
    split at h
    · obtain ⟨h1, h2, h3⟩ := scanQ_some r (i + 1) h
      exact ⟨by omega, by omega, h3⟩
    · rename_i h0
      obtain ⟨rfl, rfl⟩ : i = m ∧ f i = e := by simpa using h
      exact ⟨by omega, by omega, rfl, h0⟩
/-- A configuration. -/
structure CS where
  ram : Nat
  slice : Nat
  gs : List CG
namespace CS
structure Ok (c : CS) : Prop where
  ram : c.ram < 18446744073709551616
  slice : c.slice < 18446744073709551616
  gs : ∀ g ∈ c.gs, g.Ok
/-- What bars the guest `i`. -/
def barAt (c : CS) (i : Nat) : Nat := (c.gs.getD i ⟨0, 0⟩).bars c.ram (c.gs.take i)
/-- What bars a configuration: the guest's number, or -1, and the reason, or 0. -/
def check (c : CS) : Int × Nat :=
  if c.ram < 2097152 ∨ 67108864 < c.ram ∨ c.ram % 4096 ≠ 0 then (-1, 251)
  else if c.slice = 0 ∨ 4294967296 < c.slice then (-1, 255)
  else if c.gs.length = 0 ∨ 8 < c.gs.length then (-1, 250)
  else match scanQ c.barAt 0 c.gs.length with
    | some (i, e) => ((i : Int), e)
    | none => (-1, 0)
def accepted (c : CS) : Bool := decide (c.check.2 = 0)
/-- What is known of a configuration that is accepted. -/
theorem accepted_iff (c : CS) : c.accepted = true ↔ (2097152 ≤ c.ram ∧ c.ram ≤ 67108864 ∧ c.ram % 4096 = 0 ∧ 0 < c.slice ∧ c.slice ≤ 4294967296 ∧ 0 < c.gs.length ∧ c.gs.length ≤ 8 ∧ ∀ i, i < c.gs.length → c.barAt i = 0) := by
  unfold accepted check
  rw [decide_eq_true_eq]
  constructor
  · intro h
    split at h
    · simp at h
    · split at h
      · simp at h
      · split at h
        · simp at h
        · split at h
          · rename_i hs
            have := scanQ_some _ _ hs
            exact absurd h this.2.2.2
          · rename_i hs
            exact ⟨by omega, by omega, by omega, by omega, by omega, by omega, by omega, fun i hi => scanQ_none _ _ hs i (by omega) (by omega)⟩
  · rintro ⟨h1, h2, h3, h4, h5, h6, h7, h8⟩
    rw [if_neg (by omega), if_neg (by omega), if_neg (by omega)]
    cases hs : scanQ c.barAt 0 c.gs.length with
    | none => rfl
    | some p =>
      obtain ⟨i, e⟩ := p
      obtain ⟨_, q2, q3, q4⟩ := scanQ_some _ _ hs
      exact absurd (q3.trans (h8 i (by omega))) q4
end CS
/-! ### Page by page. -/
namespace CG
theorem lies_pages {ram : Nat} {g : CG} (h0 : 0 < g.size) (h1 : g.size % 4096 = 0) (h2 : g.base % 4096 = 0) (h3 : ram % 4096 = 0) :
    g.lies ram = true ↔ ∀ k, 4096 * k < g.size → 2148532224 ≤ g.base + 4096 * k ∧ g.base + 4096 * k < 2147483648 + ram := by
  unfold lies
  simp only [Bool.and_eq_true, decide_eq_true_eq]
  constructor
  · rintro ⟨a, b⟩ k hk
    omega
  · intro h
    have q0 := h 0 (by omega)
    have q1 := h (g.size / 4096 - 1) (by omega)
    omega
theorem meets_pages {ram : Nat} {g o : CG} (hr : ram ≤ 67108864) (hr2 : ram % 4096 = 0) (h0 : 0 < g.size) (h1 : g.size % 4096 = 0) (h2 : g.base % 4096 = 0) (h3 : g.base + g.size ≤ 2147483648 + ram) (h4 : o.size % 4096 = 0) (h40 : 0 < o.size) (h5 : o.base % 4096 = 0) (h6 : o.base + o.size ≤ 2147483648 + ram) :
    g.meets o = true ↔ ∃ k, 4096 * k < g.size ∧ o.has (g.base + 4096 * k) = true := by
  unfold meets has
  simp only [Bool.and_eq_true, decide_eq_true_eq]
  rw [Nat.mod_eq_of_lt (by omega : o.base + o.size < 18446744073709551616), Nat.mod_eq_of_lt (by omega : g.base + g.size < 18446744073709551616)]
  constructor
  · rintro ⟨a, b⟩
    by_cases q : o.base ≤ g.base
    · exact ⟨0, by omega, by omega, by omega⟩
    · exact ⟨(o.base - g.base) / 4096, by omega, by omega, by omega⟩
  · rintro ⟨k, a, b, c⟩
    omega
end CG
end Go.Proofs.Ytacgjgmladbgeaa

/-
  Two interrupt controllers are equal just where their states are: the program's, and the document's.
-/
import Derived.Test.YtcnglhneknbllaaDoorRP2
import Derived.Test.YtcnglhneknbllaaDoorEq
namespace Go.Proofs.YtcnglhneknbllaaDoor
open Go Go.RowKit PS

/-- Of one kind two rows of cells are the same just where they are equal. -/
theorem cellsEq_iff : ∀ {xs ys : List Value} {ks : List (Option IntKind)}, Fits xs ks → Fits ys ks → (cellsEq xs ys = true ↔ xs = ys)
  | [], [], [], _, _ => by simp [cellsEq]
  | x :: xs, y :: ys, some k :: ks, hx, hy => by
    obtain ⟨⟨a, rfl⟩, hx⟩ := hx
    obtain ⟨⟨b, rfl⟩, hy⟩ := hy
    have ih := cellsEq_iff hx hy
    simp [cellsEq, cellEq, ih]
  | x :: xs, y :: ys, none :: ks, hx, hy => by
    obtain ⟨⟨a, rfl⟩, hx⟩ := hx
    obtain ⟨⟨b, rfl⟩, hy⟩ := hy
    have ih := cellsEq_iff hx hy
    simp [cellsEq, cellEq, ih]
  | [], _ :: _, [], _, hy => by simp [Fits] at hy
  | _ :: _, _, [], hx, _ => by simp [Fits] at hx
  | [], _, some _ :: _, hx, _ => by simp [Fits] at hx
  | [], _, none :: _, hx, _ => by simp [Fits] at hx
  | _ :: _, [], some _ :: _, _, hy => by simp [Fits] at hy
  | _ :: _, [], none :: _, _, hy => by simp [Fits] at hy
def fits1 (v : Value) (k : Option IntKind) : Prop := match k with
  | some k => ∃ n, v = .int k n
  | none => ∃ b, v = .bool b
theorem fits_map {α : Type} (f : α → Value) (g : α → Option IntKind) : ∀ l : List α, (∀ x ∈ l, fits1 (f x) (g x)) → Fits (l.map f) (l.map g)
  | [], _ => trivial
  | x :: l, h => by
    have h1 := h x (List.mem_cons_self ..)
    have h2 := fits_map f g l fun y hy => h y (List.mem_cons_of_mem _ hy)
    rw [List.map_cons, List.map_cons]
    cases hg : g x with
    | none => rw [hg] at h1; exact ⟨h1, h2⟩
    | some k => rw [hg] at h1; exact ⟨h1, h2⟩
theorem bits_ext {a b : Nat} (ha : a < 4294967296) (hb : b < 4294967296) (h : ∀ i, i < 32 → a.testBit i = b.testBit i) : a = b := by
  apply Nat.eq_of_testBit_eq
  intro i
  by_cases hi : i < 32
  · exact h i hi
  · have hp : 2 ^ 32 ≤ 2 ^ i := Nat.pow_le_pow_right (by omega) (by omega)
    rw [Nat.testBit_lt_two_pow (by omega), Nat.testBit_lt_two_pow (by omega)]
theorem prio_ext {s t : PS} (hs : s.Ok) (ht : t.Ok) (h : ∀ i, i < 32 → s.pr i = t.pr i) : s.prio = t.prio := by
  apply List.ext_getElem
  · rw [hs.plen, ht.plen]
  · intro i h1 h2
    have := h i (by rw [hs.plen] at h1; exact h1)
    unfold PS.pr at this
    rw [List.getD_eq_getElem?_getD, List.getD_eq_getElem?_getD, List.getElem?_eq_getElem h1, List.getElem?_eq_getElem h2] at this
    exact this
theorem PS.ext_ {s t : PS} (h1 : s.up = t.up) (h2 : s.pend = t.pend) (h3 : s.busy = t.busy) (h4 : s.prio = t.prio) (h5 : s.on0 = t.on0) (h6 : s.on1 = t.on1) (h7 : s.fl0 = t.fl0) (h8 : s.fl1 = t.fl1) : s = t := by
  cases s
  cases t
  simp_all
theorem rlist_inj {s t : PS} (hs : s.Ok) (ht : t.Ok) (h : rlist s = rlist t) : s = t := by
  have key : ∀ i k, i < 32 → k < 6 → rvf s i k = rvf t i k := fun i k hi hk => by
    have h1 := rlist_src s hi hk
    rw [h, rlist_src t hi hk] at h1
    exact (Option.some.inj h1).symm
  have f0 : rv s 192 = rv t 192 := by
    have h1 := rlist_at s (j := 192) (by omega)
    rw [h, rlist_at t (by omega)] at h1
    exact (Option.some.inj h1).symm
  have f1 : rv s 193 = rv t 193 := by
    have h1 := rlist_at s (j := 193) (by omega)
    rw [h, rlist_at t (by omega)] at h1
    exact (Option.some.inj h1).symm
  refine PS.ext_ (bits_ext hs.up ht.up fun i hi => ?_) (bits_ext hs.pend ht.pend fun i hi => ?_) (bits_ext hs.busy ht.busy fun i hi => ?_) (prio_ext hs ht fun i hi => ?_) (bits_ext hs.on0 ht.on0 fun i hi => ?_) (bits_ext hs.on1 ht.on1 fun i hi => ?_) ?_ ?_
  · have := key i 1 hi (by omega); simpa [rvf] using this
  · have := key i 2 hi (by omega); simpa [rvf] using this
  · have := key i 3 hi (by omega); simpa [rvf] using this
  · have := key i 0 hi (by omega)
    simp only [rvf, Value.int.injEq, true_and] at this
    omega
  · have := key i 4 hi (by omega); simpa [rvf] using this
  · have := key i 5 hi (by omega); simpa [rvf] using this
  · simp only [rv, Nat.lt_irrefl, if_false, if_true, Value.int.injEq, true_and] at f0
    omega
  · have : (Value.int .u64 (s.fl1 : Int)) = .int .u64 (t.fl1 : Int) := f1
    simp only [Value.int.injEq, true_and] at this
    omega
theorem plist_inj {s t : PS} (hs : s.Ok) (ht : t.Ok) (h : plist s = plist t) : s = t := by
  have at_ : ∀ j : Nat, (plist s)[j]? = (plist t)[j]? := fun j => by rw [h]
  have u : ∀ {k : IntKind} {a b : Nat}, some (Value.int k (a : Int)) = some (Value.int k (b : Int)) → a = b := fun e => by
    simp only [Option.some.injEq, Value.int.injEq, true_and] at e
    omega
  refine PS.ext_ (u (at_ 0)) (u (at_ 1)) (u (at_ 2)) (prio_ext hs ht fun i hi => ?_) (u (k := .u32) ?_) (u (k := .u32) ?_) (u (k := .u8) ?_) (u (k := .u8) ?_)
  · have e := at_ (3 + i)
    rw [plist_prio hs hi, plist_prio ht hi] at e
    exact u e
  · have e := at_ 35
    rw [plist_back hs 0, plist_back ht 0] at e
    exact e
  · have e := at_ 36
    rw [plist_back hs 1, plist_back ht 1] at e
    exact e
  · have e := at_ 37
    rw [plist_back hs 2, plist_back ht 2] at e
    exact e
  · have e := at_ 38
    rw [plist_back hs 3, plist_back ht 3] at e
    exact e
def rkind (j : Nat) : Option IntKind := if j < 192 then (if j % 6 = 0 then some .u64 else none) else some .u64
theorem rlist_fits (s : PS) : Fits (rlist s) (kindsOf Tryd.prog 5 66) := by
  rw [show kindsOf Tryd.prog 5 66 = (List.range 194).map rkind from by kernel_rfl]
  refine fits_map _ _ _ fun j hj => ?_
  have hj' : j < 194 := List.mem_range.1 hj
  unfold rv rkind
  by_cases h1 : j < 192
  · rw [if_pos h1, if_pos h1]
    rcases six (Nat.mod_lt j (by omega : 0 < 6)) with e | e | e | e | e | e <;> rw [e]
    · exact ⟨_, rfl⟩
    all_goals exact ⟨_, rfl⟩
  · rw [if_neg h1, if_neg h1]
    split
    · exact ⟨_, rfl⟩
    · exact ⟨_, rfl⟩
def pkind (j : Nat) : Option IntKind := if j < 3 ∨ j = 35 ∨ j = 36 then some .u32 else some .u8
theorem plist_fits {s : PS} (h : s.Ok) : Fits (plist s) (kindsOf Tryd.prog 5 48) := by
  rw [show kindsOf Tryd.prog 5 48 = (List.range 39).map pkind from by kernel_rfl]
  have e : plist s = (List.range 39).map fun j => ((plist s)[j]?).getD undef := by
    apply List.ext_getElem?
    intro j
    by_cases hj : j < 39
    · rw [List.getElem?_map, List.getElem?_range hj, Option.map_some, List.getElem?_eq_getElem (by rw [plist_len h]; exact hj)]
      rfl
    · rw [List.getElem?_eq_none (by rw [plist_len h]; omega), List.getElem?_eq_none (by simp; omega)]
  rw [e]
  refine fits_map _ _ _ fun j hj => ?_
  have hj' : j < 39 := List.mem_range.1 hj
  rcases (by omega : j = 0 ∨ j = 1 ∨ j = 2 ∨ (3 ≤ j ∧ j < 35) ∨ j = 35 ∨ j = 36 ∨ j = 37 ∨ j = 38) with rfl | rfl | rfl | ⟨h1, h2⟩ | rfl | rfl | rfl | rfl
  · exact ⟨_, rfl⟩
  · exact ⟨_, rfl⟩
  · exact ⟨_, rfl⟩
  · obtain ⟨i, rfl⟩ : ∃ i, j = 3 + i := ⟨j - 3, by omega⟩
    rw [plist_prio h (by omega), pkind, if_neg (by omega)]
    exact ⟨_, rfl⟩
  · rw [plist_back h 0]; exact ⟨_, rfl⟩
  · rw [plist_back h 1]; exact ⟨_, rfl⟩
  · rw [plist_back h 2]; exact ⟨_, rfl⟩
  · rw [plist_back h 3]; exact ⟨_, rfl⟩
theorem bool_of_iff {b : Bool} {p : Prop} [Decidable p] (h : b = true ↔ p) : b = decide p := by
  by_cases hp : p
  · rw [decide_eq_true hp, h.2 hp]
  · rw [decide_eq_false hp]
    cases b
    · rfl
    · exact absurd (h.1 rfl) hp
theorem plist_eql (w : World) {s t : PS} (hs : s.Ok) (ht : t.Ok) : (binOp .eql 48 (.agg (plist s).toArray) (.agg (plist t).toArray)).run Tryd.prog w = .ok (.bool (decide (s = t))) w := by
  rw [(run_eql_plain (P := Tryd.prog) w 5 48 _ _ (by omega) (by kernel_rfl) (plist_fits hs) (plist_fits ht) ⟨_, .inl Tryd.underlying48⟩).1]
  rw [bool_of_iff ((cellsEq_iff (plist_fits hs) (plist_fits ht)).trans ⟨plist_inj hs ht, fun h => by rw [h]⟩)]
theorem rlist_eql (w : World) {s t : PS} (hs : s.Ok) (ht : t.Ok) : (binOp .eql 66 (.agg (rlist s).toArray) (.agg (rlist t).toArray)).run Tryd.prog w = .ok (.bool (decide (s = t))) w := by
  rw [(run_eql_plain (P := Tryd.prog) w 5 66 _ _ (by omega) (by kernel_rfl) (rlist_fits s) (rlist_fits t) ⟨_, .inl Tryd.underlying66⟩).1]
  rw [bool_of_iff ((cellsEq_iff (rlist_fits s) (rlist_fits t)).trans ⟨rlist_inj hs ht, fun h => by rw [h]⟩)]
end Go.Proofs.YtcnglhneknbllaaDoor

/-
  Translations that are kept, as plain data: sets of entries, the oldest one first. No program in sight.
-/
import Derived.Test.YtpnabfekidpnoaaDoorBase
namespace Go.Proofs.YtpnabfekidpnoaaDoor
open Go Go.RowKit

/-- An entry. -/
structure TE where
  v : Bool
  vmid : Nat
  asid : Nat
  gl : Bool
  va : Nat
  gpa : Nat
  pa : Nat
  vl : Int
  gll : Int
  vs : Nat
  g : Nat
deriving DecidableEq
namespace TE
def cells (e : TE) : List Value := [.bool e.v, .int .u64 (e.vmid : Int), .int .u64 (e.asid : Int), .bool e.gl, .int .u64 (e.va : Int), .int .u64 (e.gpa : Int), .int .u64 (e.pa : Int), .int .i64 e.vl, .int .i64 e.gll, .int .u64 (e.vs : Int), .int .u64 (e.g : Int)]
theorem cells_len (e : TE) : e.cells.length = 11 := rfl
theorem cells_one (e : TE) : ∀ u ∈ e.cells, u.oneCell' = true := by
  intro u hu
  simp only [cells, List.mem_cons, List.not_mem_nil, or_false] at hu
  rcases hu with rfl | rfl | rfl | rfl | rfl | rfl | rfl | rfl | rfl | rfl | rfl <;> rfl
/-- The entry that is none. -/
def none_ : TE := ⟨false, 0, 0, false, 0, 0, 0, 0, 0, 0, 0⟩
/-- Is it for a question? -/
def ans (e : TE) (v : Bool) (vmid asid va : Nat) : Bool := e.v == v && (!v || e.vmid == vmid) && (e.gl || e.asid == asid) && (e.va / 4096 == va / 4096)
/-- Does an address lie in its region? -/
def hold (e : TE) (va : Nat) : Bool := e.va / 2 ^ (12 + 9 * (min (max e.vl 0) 2).toNat) == va / 2 ^ (12 + 9 * (min (max e.vl 0) 2).toNat)
/-- Its own question. -/
def own (e x : TE) : Bool := x.ans e.v e.vmid e.asid e.va
end TE
def tcells (l : List TE) : List Value := l.flatMap TE.cells
theorem tcells_cons (x : TE) (l : List TE) : tcells (x :: l) = x.cells ++ tcells l := rfl
theorem tcells_app (l m : List TE) : tcells (l ++ m) = tcells l ++ tcells m := by unfold tcells; rw [List.flatMap_append]
theorem tcells_len : ∀ l : List TE, (tcells l).length = l.length * 11
  | [] => rfl
  | x :: l => by rw [tcells_cons, List.length_append, tcells_len l, x.cells_len, List.length_cons]; omega
theorem tcells_one (l : List TE) : ∀ u ∈ tcells l, u.oneCell' = true := by
  intro u hu
  obtain ⟨e, _, h⟩ := List.mem_flatMap.1 hu
  exact e.cells_one u h
theorem tcells_split {l : List TE} {i : Nat} (h : i < l.length) : tcells l = tcells (l.take i) ++ (l[i]).cells ++ tcells (l.drop (i + 1)) := by
  rw [List.append_assoc, ← tcells_cons, ← List.drop_eq_getElem_cons h, ← tcells_app, List.take_append_drop]
theorem tcells_take : ∀ (l : List TE) (i : Nat), (tcells l).take (i * 11) = tcells (l.take i)
  | l, 0 => by simp [tcells]
  | [], i + 1 => by simp [tcells]
  | x :: l, i + 1 => by
    rw [List.take_succ_cons, tcells_cons, tcells_cons, List.take_append, List.take_of_length_le (by rw [TE.cells_len]; omega), TE.cells_len, show (i + 1) * 11 - 11 = i * 11 by omega, tcells_take l i]
theorem tcells_drop : ∀ (l : List TE) (i : Nat), (tcells l).drop (i * 11) = tcells (l.drop i)
  | l, 0 => by simp
  | [], i + 1 => by simp [tcells]
  | x :: l, i + 1 => by
    rw [List.drop_succ_cons, tcells_cons, List.drop_append, List.drop_eq_nil_of_le (by rw [TE.cells_len]; omega), TE.cells_len, show (i + 1) * 11 - 11 = i * 11 by omega, tcells_drop l i, List.nil_append]
theorem tcells_set {l : List TE} {i : Nat} (h : i < l.length) (x : TE) : tcells (l.set i x) = (tcells l).take (i * 11) ++ x.cells ++ (tcells l).drop (i * 11 + 11) := by
  rw [show i * 11 + 11 = (i + 1) * 11 by omega, tcells_take, tcells_drop, List.set_eq_take_append_cons_drop, if_pos h, tcells_app, tcells_cons, List.append_assoc]

/-- The set of an address. -/
def setOf (n va : Nat) : Nat := va / 4096 % n
def putRow (ways : Nat) (e : TE) (l : List TE) : List TE :=
  let m := l.filter fun x => !e.own x
  (if ways ≤ m.length then m.drop (m.length - ways + 1) else m) ++ [e]
/-- Sets of entries. -/
abbrev TS := List (List TE)
namespace TS
def row (L : TS) (va : Nat) : List TE := L.getD (setOf L.length va) []
def put (ways : Nat) (L : TS) (e : TE) : TS := L.set (setOf L.length e.va) (putRow ways e (row L e.va))
def get (L : TS) (v : Bool) (vmid asid va : Nat) : Option TE := (row L va).reverse.find? fun x => x.ans v vmid asid va
def drop (L : TS) (p : TE → Bool) : TS := L.map fun l => l.filter fun x => !p x
def count (L : TS) : Nat := (L.map (·.length)).sum
def went (L : TS) (p : TE → Bool) : Nat := count L - count (drop L p)
def fence (v : Bool) (vmid asid va : Nat) (byVa byAsid : Bool) (e : TE) : Bool := e.v == v && (!v || e.vmid == vmid) && (!byVa || e.hold va) && (!byAsid || !e.gl && e.asid == asid)
def fenceG (vmid : Nat) (byVmid : Bool) (e : TE) : Bool := e.v && (!byVmid || e.vmid == vmid)
structure Ok (ways : Nat) (L : TS) : Prop where
  n : 0 < L.length
  n64 : L.length ≤ 64
  w : 1 ≤ ways ∧ ways ≤ 8
  r : ∀ l ∈ L, l.length ≤ ways
theorem putRow_len (ways : Nat) (e : TE) (l : List TE) (h1 : 1 ≤ ways) (h : l.length ≤ ways) : (putRow ways e l).length ≤ ways := by
  unfold putRow
  have h2 : (l.filter fun x => !e.own x).length ≤ l.length := List.length_filter_le _ _
  simp only [List.length_append, List.length_singleton]
  split
  · rw [List.length_drop]; omega
  · omega
theorem Ok.put {ways : Nat} {L : TS} (h : Ok ways L) (e : TE) : Ok ways (L.put ways e) := by
  refine ⟨by unfold TS.put; rw [List.length_set]; exact h.n, by unfold TS.put; rw [List.length_set]; exact h.n64, h.w, fun l hl => ?_⟩
  unfold TS.put at hl
  rcases List.mem_or_eq_of_mem_set hl with q | rfl
  · exact h.r _ q
  · refine putRow_len _ _ _ h.w.1 ?_
    unfold row
    rw [List.getD_eq_getElem?_getD]
    cases hq : L[setOf (List.length L) e.va]? with
    | none => simp
    | some l => exact h.r _ (List.mem_of_getElem? hq)
theorem Ok.drop {ways : Nat} {L : TS} (h : Ok ways L) (p : TE → Bool) : Ok ways (L.drop p) := by
  refine ⟨by unfold TS.drop; rw [List.length_map]; exact h.n, by unfold TS.drop; rw [List.length_map]; exact h.n64, h.w, fun l hl => ?_⟩
  unfold TS.drop at hl
  obtain ⟨m, hm, rfl⟩ := List.mem_map.1 hl
  exact Nat.le_trans (List.length_filter_le _ _) (h.r _ hm)
end TS
end Go.Proofs.YtpnabfekidpnoaaDoor

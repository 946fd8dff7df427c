/-
  Whole pages: loaded, laid, held against each other.
-/
import Derived.Test.YtpnabfekidpnoaaRamS3
import Derived.Test.YtpnabfekidpnoaaEq
import Derived.Great.Walk
import Derived.Laws.Tables
namespace Go.Proofs.Ytpnabfekidpnoaa
open Go Go.RowKit

set_option maxRecDepth 1000000 in
theorem kindsPage : kindsOf Try.prog 3 71 = (List.replicate 4096 [some IntKind.u8]).flatten := by kernel_rfl
theorem plainPage : plainT Try.prog 3 71 = true := by kernel_rfl
/-- A page's cells: its bytes. -/
def PgCells (cs : Array Value) (f : Nat → Nat) : Prop := cs.size = 4096 ∧ ∀ i, i < 4096 → cs[i]? = some (.int .u8 ((f i : Nat) : Int))
theorem PgCells.list {cs : Array Value} {f : Nat → Nat} (h : PgCells cs f) : cs.toList = (List.range 4096).map fun i => .int .u8 ((f i : Nat) : Int) := by
  apply List.ext_getElem?
  intro i
  rw [Array.getElem?_toList, List.getElem?_map]
  by_cases hi : i < 4096
  · rw [h.2 i hi, List.getElem?_range hi]
    rfl
  · rw [Array.getElem?_eq_none (by have := h.1; omega), List.getElem?_eq_none (by simp; omega)]
    rfl
theorem fits_map (f : Nat → Nat) : ∀ l : List Nat, Fits (l.map fun i => .int .u8 ((f i : Nat) : Int)) ((List.replicate l.length [some IntKind.u8]).flatten)
  | [] => trivial
  | x :: l => by
    rw [List.length_cons, List.replicate_succ, List.flatten_cons, List.map_cons]
    exact ⟨⟨_, rfl⟩, fits_map f l⟩
theorem fits_range (f : Nat → Nat) (n : Nat) : Fits ((List.range n).map fun i => .int .u8 ((f i : Nat) : Int)) ((List.replicate n [some IntKind.u8]).flatten) := by
  have := fits_map f (List.range n)
  rw [List.length_range] at this
  exact this
theorem fits_of {xs ys : List Value} {ks ls : List (Option IntKind)} (h1 : xs = ys) (h2 : ks = ls) (h : Fits ys ls) : Fits xs ks := by rw [h1, h2]; exact h
theorem kindsPage' : ∃ N, N = 4096 ∧ kindsOf Try.prog 3 71 = (List.replicate N [some IntKind.u8]).flatten := ⟨4096, rfl, kindsPage⟩
theorem PgCells.list' {cs : Array Value} {f : Nat → Nat} (h : PgCells cs f) {N : Nat} (hN : N = 4096) : cs.toList = (List.range N).map fun i => .int .u8 ((f i : Nat) : Int) := by
  rw [hN]
  exact h.list
theorem PgCells.fits {cs : Array Value} {f : Nat → Nat} (h : PgCells cs f) : Fits cs.toList (kindsOf Try.prog 3 71) := by
  obtain ⟨N, hN, hk⟩ := kindsPage'
  exact fits_of (h.list' hN) hk (fits_range f N)
theorem cellsEq_map (f g : Nat → Nat) : ∀ l : List Nat, cellsEq (l.map fun i => .int .u8 ((f i : Nat) : Int)) (l.map fun i => .int .u8 ((g i : Nat) : Int)) = l.all fun i => f i == g i
  | [] => rfl
  | x :: l => by
    rw [List.map_cons, List.map_cons, List.all_cons, ← cellsEq_map f g l]
    show (cellEq _ _ && _) = _
    congr 1
    show (((f x : Nat) : Int) == ((g x : Nat) : Int)) = (f x == g x)
    rw [Bool.eq_iff_iff, beq_iff_eq, beq_iff_eq]
    exact Int.natCast_inj
/-- Are two pages' bytes the same? -/
def samePg (f g : Nat → Nat) : Bool := (List.range 4096).all fun i => f i == g i
theorem samePg_iff {f g : Nat → Nat} : samePg f g = true ↔ ∀ i, i < 4096 → f i = g i := by
  unfold samePg
  rw [List.all_eq_true]
  simp
theorem page_eq_run {cs ds : Array Value} {f g : Nat → Nat} (hc : PgCells cs f) (hd : PgCells ds g) (w : World) :
    (binOp .eql 71 (.agg cs) (.agg ds)).run Try.prog w = .ok (.bool (samePg f g)) w ∧ (binOp .neq 71 (.agg cs) (.agg ds)).run Try.prog w = .ok (.bool (!samePg f g)) w := by
  have h := run_eql_plain (P := Try.prog) w 3 71 cs.toList ds.toList (by omega) plainPage hc.fits hd.fits ⟨#[], .inr ⟨_, _, Try.underlying71⟩⟩
  rw [hc.list, hd.list, cellsEq_map, ← hc.list, ← hd.list] at h
  exact h
theorem PgBlk.cells {w : World} {B p : Nat} {m : Nat → Nat} (h : PgBlk w B p m) : ∃ cs, Blk w B 71 cs ∧ PgCells cs fun i => m (p * 4096 + i) := by
  obtain ⟨cs, h1, h2, h3⟩ := h
  exact ⟨cs, h1, h2, h3⟩
def builtOk (cs : Array Value) : Bool := decide (cs.size = 4096) && cs.toList.all isZ8
set_option maxRecDepth 1000000 in
theorem zero_build : ∃ cs, PgCells cs (fun _ => 0) ∧ ∀ w : World, (Instr.build 71 #[]).run Try.prog w = .ok (.agg cs) w := by
  have h : (Try.prog.built 71 []).map builtOk = some true := by kernel_rfl
  obtain ⟨cs, hcs, hok⟩ := Option.map_eq_some_iff.1 h
  unfold builtOk at hok
  rw [Bool.and_eq_true] at hok
  refine ⟨cs, ⟨of_decide_eq_true hok.1, fun j hj => ?_⟩, fun w => run_build w _ _ cs hcs⟩
  have hs : j < cs.size := by rw [of_decide_eq_true hok.1]; exact hj
  rw [Array.getElem?_eq_getElem hs]
  congr 1
  exact isZ8_eq (List.all_eq_true.1 hok.2 _ (by rw [Array.mem_toList_iff]; exact Array.getElem_mem hs))
set_option maxRecDepth 1000000 in
theorem zeroCells_ok : PgCells Try.zeroCells71 (fun _ => 0) := by
  have hok : builtOk Try.zeroCells71 = true := by kernel_rfl
  unfold builtOk at hok
  rw [Bool.and_eq_true] at hok
  refine ⟨of_decide_eq_true hok.1, fun j hj => ?_⟩
  have hs : j < (Try.zeroCells71).size := by rw [of_decide_eq_true hok.1]; exact hj
  rw [Array.getElem?_eq_getElem hs]
  congr 1
  exact isZ8_eq (List.all_eq_true.1 hok.2 _ (by rw [Array.mem_toList_iff]; exact Array.getElem_mem hs))
theorem infoPage : (Try.prog.info? 71).map (·.size) = some 4096 := by kernel_rfl
end Go.Proofs.Ytpnabfekidpnoaa

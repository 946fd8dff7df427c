/-
  Get: an entry is asked for. The library's iterator from the end.
-/
import Derived.Test.YtpnabfekidpnoaaDoorTlb6
import Derived.RangeFuncNested
import Derived.RangeFuncBound
import Derived.RangeFuncCalls
import Derived.RangeFuncLeaves
import Derived.Shelf.Abstract
import Derived.Shelf.RegionOpen
import Derived.WalkKit
import Derived.OwnWalkIn
import Derived.TacticsInMore
import Derived.LoopNIn
import Derived.LoopIn
namespace Go.Proofs.YtpnabfekidpnoaaDoor
open Go Go.RowKit

attribute [local go_sem] Oper.semAt_some
theorem blk_kept {X Y : World} {row : Option Nat} {B : Nat} {t : TypeId} {cs : Array Value} (h : Blk X B t cs) (hg : X.grownBy Y row) (hr : ∀ r, row = some r → ∃ o, X.heap[r]? = some o ∧ o.isCells = false) : Blk Y B t cs :=
  (hg.block B h.lt (fun e => by obtain ⟨o, ho, hc⟩ := hr B e.symm; rw [show X.heap[B]? = _ from h] at ho; cases ho; cases hc)).trans h
def encT (l : List TE) (i : Fin l.length) : Array Value := #[.int .i64 ((i.val : Nat) : Int), .agg #[.bool (l[i.val]).v, .int .u64 ((l[i.val]).vmid : Int), .int .u64 ((l[i.val]).asid : Int), .bool (l[i.val]).gl, .int .u64 ((l[i.val]).va : Int), .int .u64 ((l[i.val]).gpa : Int), .int .u64 ((l[i.val]).pa : Int), .int .i64 (l[i.val]).vl, .int .i64 (l[i.val]).gll, .int .u64 ((l[i.val]).vs : Int), .int .u64 ((l[i.val]).g : Int)]]
/-- The places from the end. -/
def backs (l : List TE) : List (Fin l.length) := (List.finRange l.length).reverse
theorem backs_len (l : List TE) : (backs l).length = l.length := by simp [backs]
theorem backs_at (l : List TE) (k : Nat) (h : k < l.length) : (backs l).take (l.length - (k + 1)) ++ [⟨k, h⟩] = (backs l).take (l.length - k) := by
  have h1 : l.length - (k + 1) < (backs l).length := by rw [backs_len]; omega
  have h3 : (backs l)[l.length - (k + 1)]? = some ⟨k, h⟩ := by
    unfold backs
    rw [List.getElem?_reverse (by rw [List.length_finRange]; omega), List.length_finRange, List.getElem?_eq_getElem (by rw [List.length_finRange]; omega), List.getElem_finRange]
    congr 1
    apply Fin.ext
    show l.length - 1 - (l.length - (k + 1)) = k
    omega
  have h2 : (backs l)[l.length - (k + 1)] = ⟨k, h⟩ := by
    rw [List.getElem?_eq_getElem h1] at h3
    exact Option.some.inj h3
  rw [← h2, List.take_append_getElem h1]
  congr 1
  omega
def lastIx : Nat → Int
  | 0 => -1
  | k + 1 => (k : Int)
theorem lastIx_eq (k : Nat) : lastIx k = (k : Int) - 1 := by cases k <;> simp [lastIx]
set_option maxRecDepth 100000 in
set_option maxHeartbeats 1000000 in
theorem back1_c (F : Fence) (n : Nat) (hf : F.fn 45) (hro : F.round = none) (hn : 1 ≤ n) (lp Bs n₀ : Nat) (l : List TE) (v : Value) (G : Nat → Prop) (hG : ∀ k, G k → k < n₀) (hBs : Bs < n₀) (h100 : l.length ≤ 100) (J Jx : List (Fin l.length) → World → Prop)
    (hY : ∀ pre x W, J pre W → pre.length < l.length → YieldAt F (n - 1) Tryd.prog lp (encT l x) W fun e W' =>
      (e = .returned (.bool true) ∧ J (pre ++ [x]) W' ∧ Below n₀ W W') ∨ (e = .returned (.bool false) ∧ Jx (pre ++ [x]) W'))
    (W : World) (hA : Blk W Bs 22 #[v]) (hR : Row W v l G) (hn₀ : n₀ ≤ W.heap.size) (h0 : J [] W) :
    CallsIn F n Tryd.prog 45 #[.func (.yield lp) #[] #[], .pointer (some ⟨Bs, 0, none⟩)] W fun e W' => (∃ v, e = .returned v) ∧
      ((∃ ys, ys = backs l ∧ J ys W') ∨ (∃ pre, pre <+: backs l ∧ Jx pre W')) := by
  obtain ⟨a0, c0, rfl, hlc, hcm⟩ := hR.len
  have HG := Lib.hid hG
  have H0 := Lib.hid hn₀
  have HR := Lib.hid hR
  have HN := Lib.hid h100
  have HY := Lib.hid hY
  have HB := Lib.hid hBs
  obtain ⟨m, hm⟩ : ∃ m, m = l.length := ⟨_, rfl⟩
  have hcb : W.cell? ⟨Bs, 0, none⟩ = some (.slice a0 m c0) := by rw [hm]; exact hA.cell 0
  rw [← hm] at hlc h100
  have HM := Lib.hid hm
  have HC := Lib.hid hcb
  have hm1 : IntKind.i64.wrap ((m : Int) - 1) = (m : Int) - 1 := by rw [IntKind.wrap_i64]; omega
  clear hG hR hn₀ hY hm hBs hA
  refine callsIn_of_wp Tryd.func45 rfl hf ?_ hro
  simp only [Tryd.ntmps45, List.size_toArray, List.length_cons, List.length_nil, Nat.reduceAdd, Nat.reduceSub, Array.replicate_succ, Array.replicate_zero, List.push_toArray, List.append_toArray, List.nil_append, List.cons_append]
  gi_wp2
  gi_loopw [3] (fun p wr => ∃ i : Nat, i ≤ m ∧ p = .int .i64 (lastIx i) ∧ Hid (J ((backs l).take (m - i)) wr) ∧ Hid (Below n₀ W wr)) (fun p _ => ((intOf p) + 1).toNat)
  case atStart => exact ⟨m, Nat.le_refl _, by rw [lastIx_eq], Lib.hid (by rw [Nat.sub_self]; exact h0), Lib.hid (Below.refl _ _)⟩
  case round =>
    obtain ⟨i, him, rfl, HJ, HW⟩ := hrel
    cases i with
    | succ xi =>
      have hxl : xi < l.length := by have := HM.out; omega
      obtain ⟨g, c', cur, hv, hGg, hB, _⟩ := HR.out.at_ (by omega)
      injection hv with e1 _ e3
      subst e1 e3
      have hcb2 : wr.cell? ⟨Bs, 0, none⟩ = some (.slice (some ⟨g, 0, none⟩) m c0) := (World.cell?_of_block (a := ⟨Bs, 0, none⟩) (HW.out.block Bs HB.out)).trans HC.out
      have hrow := HR.out.own.elem hxl
      have hrw : Row wr (.slice (some ⟨g, 0, none⟩) l.length c0) l G := by
        rcases HR.out with ⟨h1, h2⟩ | ⟨g', c', cur', h1, h2, h3, h4⟩
        · cases h1
        · exact .inr ⟨g', c', cur', h1, h2, (HW.out.block _ (HG.out _ h2)).trans h3, h4⟩
      obtain ⟨q0, q1, q2, q3, q4, q5, q6, q7, q8, q9, q10⟩ := (hrw.own.elem hxl).te
      simp only [Nat.zero_add] at q0 q1 q2 q3 q4 q5 q6 q7 q8 q9 q10
      obtain ⟨fn, tmps, assign, body, hy, hRd⟩ := HY.out ((backs l).take (m - (xi + 1))) ⟨xi, hxl⟩ wr HJ.out (by rw [List.length_take]; have := HM.out; omega)
      unfold encT at hy
      have htk : (backs l).take (m - (xi + 1)) ++ [⟨xi, hxl⟩] = (backs l).take (m - xi) := by rw [HM.out]; exact backs_at l xi hxl
      have HT := Lib.hid htk
      obtain ⟨y, hy0⟩ : ∃ y, y = l[xi] := ⟨_, rfl⟩
      simp only at hy
      rw [← hy0] at q0 q1 q2 q3 q4 q5 q6 q7 q8 q9 q10
      simp only [← hy0] at hy
      clear hy0 htk hrw hrow hB
      have hix : lastIx (xi + 1) = (xi : Int) := rfl
      have HL := Lib.hid (lastIx_eq xi)
      rw [hix]
      have hw : IntKind.i64.wrap ((xi : Int) - 1) = (xi : Int) - 1 := by rw [IntKind.wrap_i64]; omega
      clear hix
      gi_wp2
      refine hRd.mono ?_
      rintro e W3 (⟨rfl, hJ3, hk3⟩ | ⟨rfl, hJx3⟩)
      · rw [HT.out] at hJ3
        have HJ3 := Lib.hid hJ3
        have HK3 := Lib.hid hk3
        clear hJ3 hk3
        gi_wp2
        go_roundw
        case rel => exact ⟨xi, by omega, by rw [HL.out], HJ3, Lib.hid (HW.out.trans HK3.out)⟩
        case measure => simp [intOf]
      · rw [HT.out] at hJx3
        gi_wp2
        refine bodyPost_ret (results_none rfl _ _ _) rfl ?_
        exact ⟨⟨_, rfl⟩, .inr ⟨_, List.take_prefix _ _, hJx3⟩⟩
    | zero =>
      have hix : lastIx 0 = -1 := rfl
      rw [hix]
      gi_wp2
      go_end0
      exact ⟨⟨_, rfl⟩, .inl ⟨_, rfl, by have h := HJ.out; rw [Nat.sub_zero, show m = (backs l).length from by rw [backs_len]; exact HM.out, List.take_length] at h; exact h⟩⟩
/-- The iterator gives a row's entries from the end, to whatever body keeps what lay. -/
theorem back_stops (F : Fence) (n : Nat) (hf : F.fn 45) (hro : F.round = none) (hn : 1 ≤ n) (Bs : Nat) (l : List TE) (v : Value) (G : Nat → Prop) (w : World) (h100 : l.length ≤ 100) (hA : Blk w Bs 22 #[v]) (hR : Row w v l G) :
    SeqStopsK F n Tryd.prog 45 #[.pointer (some ⟨Bs, 0, none⟩)] (encT l) (Below w.heap.size) (fun ys => ys = backs l) (fun pre => pre <+: backs l) l.length w := fun lp J Jx W hW _ _ hY h0 =>
  back1_c F n hf hro hn lp Bs w.heap.size l v (fun k => G k ∧ k < w.heap.size) (fun _ hk => hk.2) hA.lt h100 J Jx hY W ((hW.block _ hA.lt).trans hA) (hR.cut.fr (Fr.of_below hW No) (fun _ _ q => q)) hW.size h0
theorem back_enters : ∀ args w, (callFunc 45 args).run Tryd.prog w = .ok (.enter 45 args) w := fun args w => enters_of Tryd.func45 (by kernel_rfl) rfl args w
set_option maxRecDepth 100000 in
theorem backward_c (w : World) (a : Option Addr) (n c : Nat) : Calls Tryd.prog 28 #[.slice a n c] w fun e w' => e = .returned (.func (.func 45) #[] #[.pointer (some ⟨w.heap.size, 0, none⟩)]) ∧ w' = w.alloc (.cells #[.slice a n c] 22) := by
  go_enter Tryd.func28, Tryd.ntmps28
  go_wp2_with fail
  go_ret
  exact ⟨rfl, rfl⟩
end Go.Proofs.YtpnabfekidpnoaaDoor

/-
  Get: an entry is asked for.
-/
import Derived.Test.YtpnabfekidpnoaaDoorTlb7
import Derived.RangeFuncKeeps
namespace Go.Proofs.YtpnabfekidpnoaaDoor
open Go Go.RowKit

attribute [local go_sem] Oper.semAt_some
/-- What is told. -/
def getRes (o : Option TE) : Value := .tuple #[.agg (o.getD TE.none_).cells.toArray, .bool o.isSome]
theorem get_backs (l : List TE) (p : TE → Bool) : ((backs l).find? fun x => p l[x.val]).map (fun x => l[x.val]) = l.reverse.find? p := by
  have h1 : l.reverse = (backs l).map (fun x => l[x.val]) := by
    unfold backs
    rw [List.map_reverse]
    congr 1
    apply List.ext_getElem
    · simp
    · intro i h1 h2
      simp
  rw [h1, List.find?_map]
  rfl
/-- Six objects that are laid one behind the other. -/
theorem six_at (w : World) (o0 o1 o2 o3 o4 o5 : Obj) {wA : World} (h : wA = (((((w.alloc o0).alloc o1).alloc o2).alloc o3).alloc o4).alloc o5) :
    wA.heap[w.heap.size]? = some o0 ∧ wA.heap[w.heap.size + 1]? = some o1 ∧ wA.heap[w.heap.size + 2]? = some o2 ∧ wA.heap[w.heap.size + 3]? = some o3 ∧ wA.heap[w.heap.size + 4]? = some o4 ∧ wA.heap[w.heap.size + 5]? = some o5 ∧ wA.heap.size = w.heap.size + 6 ∧ Fr No w wA := by
  have hh : wA.heap = (((((w.heap.push o0).push o1).push o2).push o3).push o4).push o5 := by rw [h]; rfl
  refine ⟨?_, ?_, ?_, ?_, ?_, ?_, by rw [h]; simp, by rw [h]; exact ((((((Fr.refl No w).alloc _).alloc _).alloc _).alloc _).alloc _).alloc _⟩
  all_goals
    rw [hh]
    simp only [Array.getElem?_push, Array.size_push]
    repeat (first | rw [if_pos trivial] | rw [if_pos (by omega)] | rw [if_neg (by omega)])
/-- A range over a function whose body has its element in a box of its own. -/
theorem wpIn_range_boxed {α : Type} {P : Program} {F : Fence} {n : Nat} {g : Operand} {ps : Array Tmp} {assign body : Code} {Q : Exit → Act → World → Prop} {a : Act} {w : World}
    (hro : F.round = none) (h1 : 1 ≤ n) {gf : Nat} {lb : Array Value} (hg : a.eval g = .func (.func gf) #[] lb) (hFg : F.fn gf) (eg : ∀ args w, (callFunc gf args).run P w = .ok (.enter gf args) w)
    {encs : α → Array Value} {Kp : World → World → Prop} {S Sp : List α → Prop} {N : Nat} {w0 : World} (hseq : SeqStopsK F (n - 1) P gf lb encs Kp S Sp N w0)
    (hKt : ∀ {A B C : World}, Kp A B → Kp B C → Kp A C) (hKb : ∀ (W : World) (l : Nat) (o o' : Obj), w.heap.size ≤ l → W.heap[l]? = some o → o.isCells = false → o.isWalk = false → Kp W (W.putObj l o')) (hb0 : Below w0.heap.size w0 w) (hps : ∀ x, (encs x).size = ps.size)
    (I : List α → World → Prop) (Ix : Code → List α → World → Prop) (hI : OwnFrom w.heap.size I) (hIx : ∀ c, OwnFrom w.heap.size (Ix c)) (h0 : I [] w)
    (hsz : ∀ pre W, I pre W → w.heap.size ≤ W.heap.size) (hKa : ∀ W o, w.heap.size ≤ W.heap.size → Kp W (W.alloc o))
    (t : TypeId) (cs : α → Array Value) (tm : α → Nat → Array Value → Array Value)
    (hassign : ∀ (l : Nat) (x : α) (W : World) (K : Act → World → Prop), K { tmps := tm x W.heap.size ((ps.zip (encs x)).foldl (fun t (p, v) => t.setIfInBounds p v) a.tmps), defers := [] } (W.alloc (.cells (cs x) t)) →
      assign.wpIn (F.inRound l) (n - 1 - 1) P (Exit.then K (fun _ _ _ => False)) { tmps := (ps.zip (encs x)).foldl (fun t (p, v) => t.setIfInBounds p v) a.tmps, defers := [] } W)
    (hbody : ∀ (l : Nat) (pre : List α) (x : α) (Bx : Nat) (W : World), w.heap.size ≤ l → (∃ r, W.heap[l]? = some (.loop r)) → I pre W → w.heap.size ≤ Bx → Blk W Bx t (cs x) → pre.length < N →
      body.wpIn (F.inRound l) (n - 1 - 1) P (ownPostG w.heap.size Kp I Ix (pre ++ [x]) W) { tmps := tm x Bx ((ps.zip (encs x)).foldl (fun t (p, v) => t.setIfInBounds p v) a.tmps), defers := [] } W)
    (hdone : ∀ (D : Nat) (xs : List α) (W : World), w.heap.size ≤ D → S xs → I xs W → W.heap[D]? = some (.deferred (some [])) → Q .normal { a with defers := { target := .collected D, args := #[] } :: a.defers } W)
    (hstop : ∀ (D : Nat) (c : Code) (pre : List α) (W : World), w.heap.size ≤ D → Sp pre → Ix c pre W → W.heap[D]? = some (.deferred (some [])) → c.wpIn F n P Q { a with defers := { target := .collected D, args := #[] } :: a.defers } W) :
    (Code.rangeFunc g ps assign body).wpIn F n P Q a w := by
  refine wpIn_rangeFunc_ownH hro h1 hg hFg eg hseq hKt hKb hb0 hps I Ix hI hIx h0
    (fun x a' W => ∃ Bx, w.heap.size ≤ Bx ∧ Blk W Bx t (cs x) ∧ a' = { tmps := tm x Bx ((ps.zip (encs x)).foldl (fun t (p, v) => t.setIfInBounds p v) a.tmps), defers := [] })
    (fun x a' _ X Y row hs hgr hr => by obtain ⟨Bx, e1, e2, e3⟩ := hs; exact ⟨Bx, e1, blk_kept e2 hgr (fun r e => (hr r e).2), e3⟩)
    (fun l pre x W K hp hK => hassign l x W K (hK _ _ ((KeepsOthers.alloc W _).from _) (hKa _ _ (hsz _ _ hp)) (hI.alloc _ hp) ⟨W.heap.size, hsz _ _ hp, Blk.new W _ _, rfl⟩))
    (fun l pre x a' W hl hr hp hA hlt => by obtain ⟨Bx, e1, e2, rfl⟩ := hA; exact hbody l pre x Bx W hl hr hp e1 e2 hlt) hdone hstop
def firstAns (l : List TE) (v : Bool) (vmid asid va : Nat) (pre : List (Fin l.length)) : Option (Fin l.length) := pre.find? fun x => (l[x.val]).ans v vmid asid va
theorem first_backs {l : List TE} {v : Bool} {vmid asid va : Nat} {pre : List (Fin l.length)} {x : Fin l.length} (h : pre <+: backs l) (hx : firstAns l v vmid asid va pre = some x) : firstAns l v vmid asid va (backs l) = some x := by
  obtain ⟨t, ht⟩ := h
  rw [← ht]
  unfold firstAns at hx ⊢
  rw [List.find?_append, hx]
  rfl
theorem keepsOthers_put {W X : World} (h : KeepsOthers W X) (a : Addr) (v : Value) : KeepsOthers W (X.setCell a v) := h.trans (KeepsOthers.setCell X a v)
/-- The two results are written. -/
def fin12 (W : World) (B B' : Nat) (e : TE) (r : Bool) : World := (((((((((((W.setCell ⟨B, 0, none⟩ (.bool e.v)).setCell ⟨B, 1, none⟩ (.int .u64 (e.vmid : Int))).setCell ⟨B, 2, none⟩ (.int .u64 (e.asid : Int))).setCell ⟨B, 3, none⟩ (.bool e.gl)).setCell ⟨B, 4, none⟩ (.int .u64 (e.va : Int))).setCell ⟨B, 5, none⟩ (.int .u64 (e.gpa : Int))).setCell ⟨B, 6, none⟩ (.int .u64 (e.pa : Int))).setCell ⟨B, 7, none⟩ (.int .i64 e.vl)).setCell ⟨B, 8, none⟩ (.int .i64 e.gll)).setCell ⟨B, 9, none⟩ (.int .u64 (e.vs : Int))).setCell ⟨B, 10, none⟩ (.int .u64 (e.g : Int))).setCell ⟨B', 0, none⟩ (.bool r)
theorem fin12_c {W : World} {B B' : Nat} {e : TE} {r : Bool} {r0 : Bool} (h4 : Blk W B 25 #[.bool false, .int .u64 0, .int .u64 0, .bool false, .int .u64 0, .int .u64 0, .int .u64 0, .int .i64 0, .int .i64 0, .int .u64 0, .int .u64 0]) (h5 : Blk W B' 4 #[.bool r0]) (hn : B ≠ B') :
    KeepsOthers W (fin12 W B B' e r) ∧ Blk (fin12 W B B' e r) B 25 e.cells.toArray ∧ Blk (fin12 W B B' e r) B' 4 #[.bool r] ∧ ∀ (n : Nat) (w : World), Below n w W → n ≤ B → n ≤ B' → Below n w (fin12 W B B' e r) := by
  have hne : B' ≠ B := fun h => hn h.symm
  refine ⟨keepsOthers_put (keepsOthers_put (keepsOthers_put (keepsOthers_put (keepsOthers_put (keepsOthers_put (keepsOthers_put (keepsOthers_put (keepsOthers_put (keepsOthers_put (keepsOthers_put (keepsOthers_put (KeepsOthers.refl W) ⟨B, 0, none⟩ (.bool e.v)) ⟨B, 1, none⟩ (.int .u64 (e.vmid : Int))) ⟨B, 2, none⟩ (.int .u64 (e.asid : Int))) ⟨B, 3, none⟩ (.bool e.gl)) ⟨B, 4, none⟩ (.int .u64 (e.va : Int))) ⟨B, 5, none⟩ (.int .u64 (e.gpa : Int))) ⟨B, 6, none⟩ (.int .u64 (e.pa : Int))) ⟨B, 7, none⟩ (.int .i64 e.vl)) ⟨B, 8, none⟩ (.int .i64 e.gll)) ⟨B, 9, none⟩ (.int .u64 (e.vs : Int))) ⟨B, 10, none⟩ (.int .u64 (e.g : Int))) _ _, ?_, ?_, fun n w hb hB hB' => (((((((((((hb.setCell (p := ⟨B, 0, none⟩) hB (.bool e.v)).setCell (p := ⟨B, 1, none⟩) hB (.int .u64 (e.vmid : Int))).setCell (p := ⟨B, 2, none⟩) hB (.int .u64 (e.asid : Int))).setCell (p := ⟨B, 3, none⟩) hB (.bool e.gl)).setCell (p := ⟨B, 4, none⟩) hB (.int .u64 (e.va : Int))).setCell (p := ⟨B, 5, none⟩) hB (.int .u64 (e.gpa : Int))).setCell (p := ⟨B, 6, none⟩) hB (.int .u64 (e.pa : Int))).setCell (p := ⟨B, 7, none⟩) hB (.int .i64 e.vl)).setCell (p := ⟨B, 8, none⟩) hB (.int .i64 e.gll)).setCell (p := ⟨B, 9, none⟩) hB (.int .u64 (e.vs : Int))).setCell (p := ⟨B, 10, none⟩) hB (.int .u64 (e.g : Int))).setCell (p := ⟨B', 0, none⟩) hB' _⟩
  · have := (((((((((((h4.put 0 (.bool e.v)).put 1 (.int .u64 (e.vmid : Int))).put 2 (.int .u64 (e.asid : Int))).put 3 (.bool e.gl)).put 4 (.int .u64 (e.va : Int))).put 5 (.int .u64 (e.gpa : Int))).put 6 (.int .u64 (e.pa : Int))).put 7 (.int .i64 e.vl)).put 8 (.int .i64 e.gll)).put 9 (.int .u64 (e.vs : Int))).put 10 (.int .u64 (e.g : Int))).far (p := ⟨B', 0, none⟩) hn (.bool r)
    simp only [List.setIfInBounds_toArray, List.set_cons_zero, List.set_cons_succ] at this
    exact this
  · have := (((((((((((h5.far (p := ⟨B, 0, none⟩) hne (.bool e.v)).far (p := ⟨B, 1, none⟩) hne (.int .u64 (e.vmid : Int))).far (p := ⟨B, 2, none⟩) hne (.int .u64 (e.asid : Int))).far (p := ⟨B, 3, none⟩) hne (.bool e.gl)).far (p := ⟨B, 4, none⟩) hne (.int .u64 (e.va : Int))).far (p := ⟨B, 5, none⟩) hne (.int .u64 (e.gpa : Int))).far (p := ⟨B, 6, none⟩) hne (.int .u64 (e.pa : Int))).far (p := ⟨B, 7, none⟩) hne (.int .i64 e.vl)).far (p := ⟨B, 8, none⟩) hne (.int .i64 e.gll)).far (p := ⟨B, 9, none⟩) hne (.int .u64 (e.vs : Int))).far (p := ⟨B, 10, none⟩) hne (.int .u64 (e.g : Int))).put 0 (.bool r)
    simp only [List.setIfInBounds_toArray, List.set_cons_zero] at this
    exact this
set_option maxRecDepth 100000 in
set_option maxHeartbeats 2000000 in
theorem get_c (w : World) (b ways : Nat) (L : TS) (F : Nat → Prop) (v : Bool) (vmid asid va : Nat) (h : TAt w b ways L F) (hok : TS.Ok ways L) :
    Calls Tryd.prog 10 #[.pointer (some ⟨b, 0, none⟩), .bool v, .int .u64 (vmid : Int), .int .u64 (asid : Int), .int .u64 (va : Int)] w fun r w' => r = .returned (getRes (L.get v vmid asid va)) ∧ Below w.heap.size w w' := by
  obtain ⟨s, c, vs, G, h1, h2, h3, h4, h5, h6, h7, h8, h9, h10, h11⟩ := h
  obtain ⟨q, hq⟩ : ∃ q, q = setOf L.length va := ⟨_, rfl⟩
  have hqn : q < L.length := by rw [hq]; exact Nat.mod_lt _ hok.n
  obtain ⟨v0, hv0, hr0⟩ := h6 q hqn
  obtain ⟨l, hl⟩ : ∃ l, l = L[q] := ⟨_, rfl⟩
  rw [← hl] at hr0
  have hget : L.get v vmid asid va = l.reverse.find? fun x => x.ans v vmid asid va := by unfold TS.get TS.row; rw [← hq, hl]; simp [List.getD_eq_getElem?_getD, hqn]
  have hl100 : l.length ≤ 100 := by rw [hl]; have := hok.r _ (List.getElem_mem hqn); have := hok.w; omega
  obtain ⟨a0, c0, rfl, hlc0, hcm0⟩ := hr0.len
  rw [hget, ← get_backs]
  have hro : Fence.wide.round = none := rfl
  obtain ⟨bs, hbs⟩ : ∃ bs, bs = w.heap.size := ⟨_, rfl⟩
  have HB := Lib.hid h1
  have HS := Lib.hid h2
  have HV := Lib.hid hv0
  have HR := Lib.hid hr0
  have HN := Lib.hid (And.intro hok.n hok.n64)
  have HQ := Lib.hid hq
  have H100 := Lib.hid hl100
  clear h1 h2 h3 h4 h5 h6 h7 h8 h9 h10 h11 hq hqn hv0 hr0 hlc0 hcm0 hok hl hget hl100
  refine (callsIn_wide (n := 6)).1 ?_
  refine callsIn_of_wp_marks Tryd.func10 rfl trivial ?_ hro
  simp only [Tryd.ntmps10, List.size_toArray, List.length_cons, List.length_nil, Nat.reduceAdd, Nat.reduceSub, Array.replicate_succ, Array.replicate_zero, List.push_toArray, List.append_toArray, List.nil_append, List.cons_append]
  gi_wp2
  simp only [Nat.add_assoc, Nat.reduceAdd]
  obtain ⟨wA, hwA⟩ : ∃ wA, wA = (((((w.alloc (.cells #[.bool v] 4)).alloc (.cells #[.int .u64 (vmid : Int)] 23)).alloc (.cells #[.int .u64 (asid : Int)] 23)).alloc (.cells #[.int .u64 (va : Int)] 23)).alloc (.cells #[.bool false, .int .u64 0, .int .u64 0, .bool false, .int .u64 0, .int .u64 0, .int .u64 0, .int .i64 0, .int .i64 0, .int .u64 0, .int .u64 0] 25)).alloc (.cells #[.bool false] 4) := ⟨_, rfl⟩
  rw [← hwA]
  obtain ⟨k0, k1, k2, k3, k4, k5, kz, kf⟩ := six_at w _ _ _ _ _ _ hwA
  have hset := set_c wA b s c L.length (ways : Int) va (HB.out.fr kf (fun q => q)) HN.out.1 HN.out.2
  rw [← HQ.out] at hset
  refine ⟨trivial, (callsIn_wide.2 hset).mono ?_⟩
  rintro e w2 ⟨rfl, m2, hm2⟩
  have hf2 : Fr No wA w2 := by rw [hm2]; exact (Fr.refl No wA).drewN m2
  have hz2 : w2.heap.size = w.heap.size + 6 := by rw [hm2]; exact kz
  have cs : w2.cell? ⟨s, q, none⟩ = some (.slice a0 l.length c0) := by rw [((HS.out.fr kf (fun q => q)).fr hf2 (fun q => q)).cell]; exact HV.out
  have b0 : Blk w2 w.heap.size 4 #[.bool v] := Blk.fr (show Blk wA _ _ _ from k0) hf2 (fun q => q)
  have b1 : Blk w2 (w.heap.size + 1) 23 #[.int .u64 (vmid : Int)] := Blk.fr (show Blk wA _ _ _ from k1) hf2 (fun q => q)
  have b2 : Blk w2 (w.heap.size + 2) 23 #[.int .u64 (asid : Int)] := Blk.fr (show Blk wA _ _ _ from k2) hf2 (fun q => q)
  have b3 : Blk w2 (w.heap.size + 3) 23 #[.int .u64 (va : Int)] := Blk.fr (show Blk wA _ _ _ from k3) hf2 (fun q => q)
  have b4 : Blk w2 (w.heap.size + 4) 25 #[.bool false, .int .u64 0, .int .u64 0, .bool false, .int .u64 0, .int .u64 0, .int .u64 0, .int .i64 0, .int .i64 0, .int .u64 0, .int .u64 0] := Blk.fr (show Blk wA _ _ _ from k4) hf2 (fun q => q)
  have b5 : Blk w2 (w.heap.size + 5) 4 #[.bool false] := Blk.fr (show Blk wA _ _ _ from k5) hf2 (fun q => q)
  have hrow2 := (HR.out.fr kf (fun _ _ q => q)).fr hf2 (fun _ _ q => q)
  have HR2 := Lib.hid hrow2
  have HW2 := Lib.hid (show Below w.heap.size w w2 from (kf.trans hf2).below (Nat.le_refl _) (fun _ _ q => q))
  have B0 := Lib.hid b0
  have B1 := Lib.hid b1
  have B2 := Lib.hid b2
  have B3 := Lib.hid b3
  have B4 := Lib.hid b4
  have B5 := Lib.hid b5
  have HZ2 := Lib.hid hz2
  clear hwA k0 k1 k2 k3 k4 k5 kz kf hset hm2 hf2 hrow2 b0 b1 b2 b3 b4 b5 hz2
  gi_wp2
  refine ⟨trivial, (callsIn_wide.2 (backward_c w2 a0 l.length c0)).mono ?_⟩
  rintro e w3 ⟨rfl, hw3⟩
  have hf3 : Fr No w2 w3 := by rw [hw3]; exact (Fr.refl No w2).alloc _
  have hb3 : Blk w3 w2.heap.size 22 #[.slice a0 l.length c0] := by rw [hw3]; exact Blk.new w2 _ _
  have B0 := Lib.hid (B0.out.fr hf3 (fun q => q))
  have B1 := Lib.hid (B1.out.fr hf3 (fun q => q))
  have B2 := Lib.hid (B2.out.fr hf3 (fun q => q))
  have B3 := Lib.hid (B3.out.fr hf3 (fun q => q))
  have B4 := Lib.hid (B4.out.fr hf3 (fun q => q))
  have B5 := Lib.hid (B5.out.fr hf3 (fun q => q))
  have HZ3 := Lib.hid (show w3.heap.size = w.heap.size + 7 from by rw [hw3]; simp; exact HZ2.out)
  have HW3 := Lib.hid (show Below w.heap.size w w3 from HW2.out.trans (hf3.below (by have := HZ2.out; omega) (fun _ _ q => q)))
  have HR3 := Lib.hid (HR2.out.fr hf3 (fun _ _ q => q))
  have HB3 := Lib.hid hb3
  clear hw3 hf3 hb3 cs
  gi_wp2
  refine wpIn_range_boxed hro (by omega) (gf := 45) (lb := #[.pointer (some ⟨w2.heap.size, 0, none⟩)]) rfl trivial back_enters
    (back_stops Fence.wide 5 trivial hro (by omega) w2.heap.size l _ (G q) w3 H100.out HB3.out HR3.out) belowK_t (belowK_b (Nat.le_refl _)) (Below.refl _ _) (fun _ => rfl)
    (fun pre W => firstAns l v vmid asid va pre = none ∧ Below w3.heap.size w3 W)
    (fun c pre W => c = .ret ∧ ∃ x, firstAns l v vmid asid va pre = some x ∧ Blk W (w.heap.size + 4) 25 (l[x.val]).cells.toArray ∧ Blk W (w.heap.size + 5) 4 #[.bool true] ∧ Below w.heap.size w W)
    (OwnFrom.and (ownFrom_pure _ _) (ownFrom_below (Nat.le_refl _) (Nat.le_refl _)))
    (fun c s X Y row hs hg hr => by obtain ⟨h1, x, h2, h3, h4, h5⟩ := hs; exact ⟨h1, x, h2, blk_kept h3 hg (fun r e => (hr r e).2), blk_kept h4 hg (fun r e => (hr r e).2), (ownFrom_below (β := Unit) (Nat.le_refl _) (by have := HZ3.out; omega)) () X Y row h5 hg hr⟩)
    ⟨rfl, Below.refl _ _⟩ (fun pre W hp => hp.2.size) (fun W o h => (Below.refl _ W).alloc h o)
    25 (fun x => #[.bool (l[x.val]).v, .int .u64 ((l[x.val]).vmid : Int), .int .u64 ((l[x.val]).asid : Int), .bool (l[x.val]).gl, .int .u64 ((l[x.val]).va : Int), .int .u64 ((l[x.val]).gpa : Int), .int .u64 ((l[x.val]).pa : Int), .int .i64 (l[x.val]).vl, .int .i64 (l[x.val]).gll, .int .u64 ((l[x.val]).vs : Int), .int .u64 ((l[x.val]).g : Int)]) (fun x Bx t => t.setIfInBounds 13 (.pointer (some ⟨Bx, 0, none⟩)))
    ?assign ?body ?done ?stop
  case assign =>
    intro lp x W K hK
    unfold encT at hK ⊢
    simp at hK
    gi_wp2
    exact hK
  case body =>
    rintro lp pre x Bx W hl ⟨rr, hrr⟩ ⟨hp, hB2⟩ hBx bX hlt
    have d0 : W.cell? ⟨w.heap.size, 0, none⟩ = some (.bool v) := Blk.cell (show Blk W _ _ _ from (hB2.block _ B0.out.lt).trans B0.out) 0
    have d1 : W.cell? ⟨w.heap.size + 1, 0, none⟩ = some (.int .u64 (vmid : Int)) := Blk.cell (show Blk W _ _ _ from (hB2.block _ B1.out.lt).trans B1.out) 0
    have d2 : W.cell? ⟨w.heap.size + 2, 0, none⟩ = some (.int .u64 (asid : Int)) := Blk.cell (show Blk W _ _ _ from (hB2.block _ B2.out.lt).trans B2.out) 0
    have d3 : W.cell? ⟨w.heap.size + 3, 0, none⟩ = some (.int .u64 (va : Int)) := Blk.cell (show Blk W _ _ _ from (hB2.block _ B3.out.lt).trans B3.out) 0
    obtain ⟨y, hy⟩ : ∃ y, y = l[x.val] := ⟨_, rfl⟩
    have hfa : firstAns l v vmid asid va (pre ++ [x]) = if y.ans v vmid asid va = true then some x else none := by
      unfold firstAns at hp ⊢
      rw [List.find?_append, hp, Option.none_or, List.find?_singleton, hy]
    have HFA := Lib.hid hfa
    have HY := Lib.hid hy
    have HBX := Lib.hid (show Blk W Bx 25 y.cells.toArray from by rw [hy]; exact bX)
    unfold encT
    rw [← hy]
    have x0 : W.cell? ⟨Bx, 0, none⟩ = some (.bool y.v) := HBX.out.cell 0
    have x1 : W.cell? ⟨Bx, 1, none⟩ = some (.int .u64 (y.vmid : Int)) := HBX.out.cell 1
    have x2 : W.cell? ⟨Bx, 2, none⟩ = some (.int .u64 (y.asid : Int)) := HBX.out.cell 2
    have x3 : W.cell? ⟨Bx, 3, none⟩ = some (.bool y.gl) := HBX.out.cell 3
    have x4 : W.cell? ⟨Bx, 4, none⟩ = some (.int .u64 (y.va : Int)) := HBX.out.cell 4
    have x5 : W.cell? ⟨Bx, 5, none⟩ = some (.int .u64 (y.gpa : Int)) := HBX.out.cell 5
    have x6 : W.cell? ⟨Bx, 6, none⟩ = some (.int .u64 (y.pa : Int)) := HBX.out.cell 6
    have x7 : W.cell? ⟨Bx, 7, none⟩ = some (.int .i64 y.vl) := HBX.out.cell 7
    have x8 : W.cell? ⟨Bx, 8, none⟩ = some (.int .i64 y.gll) := HBX.out.cell 8
    have x9 : W.cell? ⟨Bx, 9, none⟩ = some (.int .u64 (y.vs : Int)) := HBX.out.cell 9
    have x10 : W.cell? ⟨Bx, 10, none⟩ = some (.int .u64 (y.g : Int)) := HBX.out.cell 10
    have HC := Lib.hid (answers_c W y v vmid asid va)
    obtain ⟨r, hr⟩ : ∃ r, r = y.ans v vmid asid va := ⟨_, rfl⟩
    rw [← hr] at HC HFA
    have H2 := Lib.hid hB2
    clear hfa hy bX hp hrr hr hB2
    gi_wp2
    refine ⟨trivial, ?_⟩
    refine CallsIn.inRound lp ((callsIn_wide.2 HC.out).mono ?_)
    rintro e W4 ⟨rfl, hb4⟩
    have hBX4 : Blk W4 Bx 25 y.cells.toArray := (hb4.block _ HBX.out.lt).trans HBX.out
    have hB34 : Below w3.heap.size w3 W4 := H2.out.trans (hb4.mono H2.out.size)
    have h44 : Blk W4 (w.heap.size + 4) 25 #[.bool false, .int .u64 0, .int .u64 0, .bool false, .int .u64 0, .int .u64 0, .int .u64 0, .int .i64 0, .int .i64 0, .int .u64 0, .int .u64 0] := (hB34.block _ B4.out.lt).trans B4.out
    have h45 : Blk W4 (w.heap.size + 5) 4 #[.bool false] := (hB34.block _ B5.out.lt).trans B5.out
    have u0 : W4.cell? ⟨Bx, 0, none⟩ = some (.bool y.v) := hBX4.cell 0
    have u1 : W4.cell? ⟨Bx, 1, none⟩ = some (.int .u64 (y.vmid : Int)) := hBX4.cell 1
    have u2 : W4.cell? ⟨Bx, 2, none⟩ = some (.int .u64 (y.asid : Int)) := hBX4.cell 2
    have u3 : W4.cell? ⟨Bx, 3, none⟩ = some (.bool y.gl) := hBX4.cell 3
    have u4 : W4.cell? ⟨Bx, 4, none⟩ = some (.int .u64 (y.va : Int)) := hBX4.cell 4
    have u5 : W4.cell? ⟨Bx, 5, none⟩ = some (.int .u64 (y.gpa : Int)) := hBX4.cell 5
    have u6 : W4.cell? ⟨Bx, 6, none⟩ = some (.int .u64 (y.pa : Int)) := hBX4.cell 6
    have u7 : W4.cell? ⟨Bx, 7, none⟩ = some (.int .i64 y.vl) := hBX4.cell 7
    have u8 : W4.cell? ⟨Bx, 8, none⟩ = some (.int .i64 y.gll) := hBX4.cell 8
    have u9 : W4.cell? ⟨Bx, 9, none⟩ = some (.int .u64 (y.vs : Int)) := hBX4.cell 9
    have u10 : W4.cell? ⟨Bx, 10, none⟩ = some (.int .u64 (y.g : Int)) := hBX4.cell 10
    have z0 : W4.cell? ⟨(w.heap.size + 4), 0, none⟩ = some (.bool false) := h44.cell 0
    have z1 : W4.cell? ⟨(w.heap.size + 4), 1, none⟩ = some (.int .u64 0) := h44.cell 1
    have z2 : W4.cell? ⟨(w.heap.size + 4), 2, none⟩ = some (.int .u64 0) := h44.cell 2
    have z3 : W4.cell? ⟨(w.heap.size + 4), 3, none⟩ = some (.bool false) := h44.cell 3
    have z4 : W4.cell? ⟨(w.heap.size + 4), 4, none⟩ = some (.int .u64 0) := h44.cell 4
    have z5 : W4.cell? ⟨(w.heap.size + 4), 5, none⟩ = some (.int .u64 0) := h44.cell 5
    have z6 : W4.cell? ⟨(w.heap.size + 4), 6, none⟩ = some (.int .u64 0) := h44.cell 6
    have z7 : W4.cell? ⟨(w.heap.size + 4), 7, none⟩ = some (.int .i64 0) := h44.cell 7
    have z8 : W4.cell? ⟨(w.heap.size + 4), 8, none⟩ = some (.int .i64 0) := h44.cell 8
    have z9 : W4.cell? ⟨(w.heap.size + 4), 9, none⟩ = some (.int .u64 0) := h44.cell 9
    have z10 : W4.cell? ⟨(w.heap.size + 4), 10, none⟩ = some (.int .u64 0) := h44.cell 10
    have z11 : W4.cell? ⟨w.heap.size + 5, 0, none⟩ = some (.bool false) := h45.cell 0
    have f4 := h44.free
    have f5 := h45.free
    have G4 := Lib.hid h44
    have G5 := Lib.hid h45
    have H34 := Lib.hid hB34
    have HB4 := Lib.hid hb4
    clear h44 h45 hBX4 hB34 hb4
    have hko : KeepsOthers W W4 := ⟨HB4.out.size, fun k o hk _ => (HB4.out.block k (Array.getElem?_eq_some_iff.1 hk).1).trans hk⟩
    have hbase : Below w.heap.size w W4 := HW3.out.trans (H34.out.mono (by have := HZ3.out; omega))
    cases r with
    | true =>
      gi_wp2
      have hfin := fin12_c (e := y) (r := true) G4.out G5.out (by omega)
      refine ⟨(hko.trans hfin.1).from _, rfl, x, HFA.out, by rw [← HY.out]; exact hfin.2.1, hfin.2.2.1, hfin.2.2.2 _ _ hbase (by omega) (by omega)⟩
    | false =>
      gi_wp2
      exact ⟨hko.from _, HB4.out.mono H2.out.size, HFA.out, H34.out⟩
  case done =>
    rintro D ys W hD rfl ⟨hp, hB2⟩ hK
    have h44 : Blk W (w.heap.size + 4) 25 #[.bool false, .int .u64 0, .int .u64 0, .bool false, .int .u64 0, .int .u64 0, .int .u64 0, .int .i64 0, .int .i64 0, .int .u64 0, .int .u64 0] := (hB2.block _ B4.out.lt).trans B4.out
    have h45 : Blk W (w.heap.size + 5) 4 #[.bool false] := (hB2.block _ B5.out.lt).trans B5.out
    have z0 : W.cell? ⟨(w.heap.size + 4), 0, none⟩ = some (.bool false) := h44.cell 0
    have z1 : W.cell? ⟨(w.heap.size + 4), 1, none⟩ = some (.int .u64 0) := h44.cell 1
    have z2 : W.cell? ⟨(w.heap.size + 4), 2, none⟩ = some (.int .u64 0) := h44.cell 2
    have z3 : W.cell? ⟨(w.heap.size + 4), 3, none⟩ = some (.bool false) := h44.cell 3
    have z4 : W.cell? ⟨(w.heap.size + 4), 4, none⟩ = some (.int .u64 0) := h44.cell 4
    have z5 : W.cell? ⟨(w.heap.size + 4), 5, none⟩ = some (.int .u64 0) := h44.cell 5
    have z6 : W.cell? ⟨(w.heap.size + 4), 6, none⟩ = some (.int .u64 0) := h44.cell 6
    have z7 : W.cell? ⟨(w.heap.size + 4), 7, none⟩ = some (.int .i64 0) := h44.cell 7
    have z8 : W.cell? ⟨(w.heap.size + 4), 8, none⟩ = some (.int .i64 0) := h44.cell 8
    have z9 : W.cell? ⟨(w.heap.size + 4), 9, none⟩ = some (.int .u64 0) := h44.cell 9
    have z10 : W.cell? ⟨(w.heap.size + 4), 10, none⟩ = some (.int .u64 0) := h44.cell 10
    have z11 : W.cell? ⟨w.heap.size + 5, 0, none⟩ = some (.bool false) := h45.cell 0
    have f4 := h44.free
    have f5 := h45.free
    have hfin := fin12_c (e := TE.none_) (r := false) h44 h45 (by omega)
    have hbase : Below w.heap.size w W := HW3.out.trans (hB2.mono (by have := HZ3.out; omega))
    have hK' := hfin.1.same D _ hK rfl
    obtain ⟨Z, hZ⟩ : ∃ Z, Z = (fin12 W (w.heap.size + 4) (w.heap.size + 5) TE.none_ false).putObj D (.deferred none) := ⟨_, rfl⟩
    have r4 : Blk Z (w.heap.size + 4) 25 TE.none_.cells.toArray := by rw [hZ]; exact blk_kept hfin.2.1 (grownBy_putObj' _ D (.deferred none)) (fun r e => by cases e; exact ⟨_, hK', rfl⟩)
    have r5 : Blk Z (w.heap.size + 5) 4 #[.bool false] := by rw [hZ]; exact blk_kept hfin.2.2.1 (grownBy_putObj' _ D (.deferred none)) (fun r e => by cases e; exact ⟨_, hK', rfl⟩)
    have hbz : Below w.heap.size w Z := by rw [hZ]; exact (hfin.2.2.2 _ _ hbase (by omega) (by omega)).trans (belowK_b (w := w) (Nat.le_refl _) _ D _ _ (by have := HZ3.out; omega) hK' rfl rfl)
    have hrun : (Instr.takeDeferred D).run Tryd.prog (fin12 W (w.heap.size + 4) (w.heap.size + 5) TE.none_ false) = .ok [] Z := by rw [hZ]; exact run_takeDeferred hK'
    have HRUN := Lib.hid hrun
    have HP := Lib.hid hp
    have HBZ := Lib.hid hbz
    have R4 := Lib.hid r4
    have R5 := Lib.hid r5
    clear h44 h45 hfin hbase hK' hZ r4 r5 hbz hrun hp hB2
    gi_wp2
    refine ⟨by simp, .inl ⟨_, Z, rfl, HRUN.out, ?_⟩⟩
    have y0 : Z.cell? ⟨(w.heap.size + 4), 0, none⟩ = some (.bool false) := R4.out.cell 0
    have y1 : Z.cell? ⟨(w.heap.size + 4), 1, none⟩ = some (.int .u64 0) := R4.out.cell 1
    have y2 : Z.cell? ⟨(w.heap.size + 4), 2, none⟩ = some (.int .u64 0) := R4.out.cell 2
    have y3 : Z.cell? ⟨(w.heap.size + 4), 3, none⟩ = some (.bool false) := R4.out.cell 3
    have y4 : Z.cell? ⟨(w.heap.size + 4), 4, none⟩ = some (.int .u64 0) := R4.out.cell 4
    have y5 : Z.cell? ⟨(w.heap.size + 4), 5, none⟩ = some (.int .u64 0) := R4.out.cell 5
    have y6 : Z.cell? ⟨(w.heap.size + 4), 6, none⟩ = some (.int .u64 0) := R4.out.cell 6
    have y7 : Z.cell? ⟨(w.heap.size + 4), 7, none⟩ = some (.int .i64 0) := R4.out.cell 7
    have y8 : Z.cell? ⟨(w.heap.size + 4), 8, none⟩ = some (.int .i64 0) := R4.out.cell 8
    have y9 : Z.cell? ⟨(w.heap.size + 4), 9, none⟩ = some (.int .u64 0) := R4.out.cell 9
    have y10 : Z.cell? ⟨(w.heap.size + 4), 10, none⟩ = some (.int .u64 0) := R4.out.cell 10
    have y11 : Z.cell? ⟨w.heap.size + 5, 0, none⟩ = some (.bool false) := R5.out.cell 0
    refine ⟨getRes none, ?_, ?_, HBZ.out⟩
    · simp [results, Tryd.f10, go_sem, y0, y1, y2, y3, y4, y5, y6, y7, y8, y9, y10, y11, getRes]
      rfl
    · have h := HP.out
      unfold firstAns at h
      rw [h]
      rfl
  case stop =>
    rintro D cc pre W hD hpre ⟨rfl, x, hx, r4, r5, hB⟩ hK
    obtain ⟨Z, hZ⟩ : ∃ Z, Z = W.putObj D (.deferred none) := ⟨_, rfl⟩
    have r4 : Blk Z (w.heap.size + 4) 25 (l[x.val]).cells.toArray := by rw [hZ]; exact blk_kept r4 (grownBy_putObj' _ D (.deferred none)) (fun r e => by cases e; exact ⟨_, hK, rfl⟩)
    have r5 : Blk Z (w.heap.size + 5) 4 #[.bool true] := by rw [hZ]; exact blk_kept r5 (grownBy_putObj' _ D (.deferred none)) (fun r e => by cases e; exact ⟨_, hK, rfl⟩)
    have hbz : Below w.heap.size w Z := by rw [hZ]; exact hB.trans (belowK_b (w := w) (Nat.le_refl _) _ D _ _ (by have := HZ3.out; omega) hK rfl rfl)
    have hrun : (Instr.takeDeferred D).run Tryd.prog W = .ok [] Z := by rw [hZ]; exact run_takeDeferred hK
    have hfb := first_backs hpre hx
    clear hK hx hpre
    obtain ⟨y, hy⟩ : ∃ y, y = l[x.val] := ⟨_, rfl⟩
    rw [← hy] at r4
    gi_wp2
    refine ⟨by simp, .inl ⟨_, Z, rfl, hrun, ?_⟩⟩
    have y0 : Z.cell? ⟨(w.heap.size + 4), 0, none⟩ = some (.bool y.v) := r4.cell 0
    have y1 : Z.cell? ⟨(w.heap.size + 4), 1, none⟩ = some (.int .u64 (y.vmid : Int)) := r4.cell 1
    have y2 : Z.cell? ⟨(w.heap.size + 4), 2, none⟩ = some (.int .u64 (y.asid : Int)) := r4.cell 2
    have y3 : Z.cell? ⟨(w.heap.size + 4), 3, none⟩ = some (.bool y.gl) := r4.cell 3
    have y4 : Z.cell? ⟨(w.heap.size + 4), 4, none⟩ = some (.int .u64 (y.va : Int)) := r4.cell 4
    have y5 : Z.cell? ⟨(w.heap.size + 4), 5, none⟩ = some (.int .u64 (y.gpa : Int)) := r4.cell 5
    have y6 : Z.cell? ⟨(w.heap.size + 4), 6, none⟩ = some (.int .u64 (y.pa : Int)) := r4.cell 6
    have y7 : Z.cell? ⟨(w.heap.size + 4), 7, none⟩ = some (.int .i64 y.vl) := r4.cell 7
    have y8 : Z.cell? ⟨(w.heap.size + 4), 8, none⟩ = some (.int .i64 y.gll) := r4.cell 8
    have y9 : Z.cell? ⟨(w.heap.size + 4), 9, none⟩ = some (.int .u64 (y.vs : Int)) := r4.cell 9
    have y10 : Z.cell? ⟨(w.heap.size + 4), 10, none⟩ = some (.int .u64 (y.g : Int)) := r4.cell 10
    have y11 : Z.cell? ⟨w.heap.size + 5, 0, none⟩ = some (.bool true) := r5.cell 0
    refine ⟨getRes (some y), ?_, ?_, hbz⟩
    · simp [results, Tryd.f10, go_sem, y0, y1, y2, y3, y4, y5, y6, y7, y8, y9, y10, y11, getRes]
      rfl
    · unfold firstAns at hfb
      rw [hfb, hy]
      rfl
end Go.Proofs.YtpnabfekidpnoaaDoor

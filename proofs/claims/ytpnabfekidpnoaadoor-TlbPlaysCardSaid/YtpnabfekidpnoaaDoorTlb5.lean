/-
  Put: an entry is kept.
-/
import Derived.Test.YtpnabfekidpnoaaDoorTlb4
import Derived.Shelf.Abstract
import Derived.Shelf.RegionOpen
namespace Go.Proofs.YtpnabfekidpnoaaDoor
open Go Go.RowKit

section
variable {w : World}
/-- append of a row of entries onto a row of entries. -/
theorem wpList_append_te {ops : Array Oper} {rest : List Oper} {o : Oper} {a : Act} {Q : Exit → Act → World → Prop} (hgd : o.guard = none) (s x : Operand)
    (ho : o.op = .call { callee := .builtin .append, args := #[s, x], argTypes := #[22, 22] })
    {v : Value} {l : List TE} {G : Nat → Prop} (m : List TE) (ao : Option Addr) (c : Nat) (hs : a.eval s = v) (hx : a.eval x = .slice ao m.length c) (h : Row w v l G)
    (hrd : 0 < m.length → ∃ ad, ao = some ad ∧ ∀ j u, (tcells m)[j]? = some u → w.cell? (ad.add j) = some u) (hn : l.length + m.length ≤ 1000000)
    (hk : ∀ v' w', Row w' v' (l ++ m) (fun k => G k ∨ k = w.heap.size) → Fr G w w' → wpList Tryd.prog ops Q rest (a.put o.dst v') w') : wpList Tryd.prog ops Q (o :: rest) a w :=
  wpList_plain hgd fun K hK => by
    obtain ⟨v', w', hrun, h2, h3⟩ := h.append o.type ao c hrd hn
    unfold Oper.wp execOp
    simp only [ho, resolve, invoke, builtin, Sem.run_bind, Sem.run_pure, Result.andThen_ok, List.map_toArray, List.map_cons, List.map_nil, hs, hx, hrun]
    exact hK _ _ (hk v' w' h2 h3)
end
/-- A row of one that was just laid. -/
theorem one_rd (w : World) (e : TE) : 0 < [e].length → ∃ ad, (some ⟨w.heap.size, 0, none⟩ : Option Addr) = some ad ∧ ∀ j u, (tcells [e])[j]? = some u → (w.alloc (.cells e.cells.toArray 25)).cell? (ad.add j) = some u :=
  fun _ => ⟨_, rfl, fun j u hu => by
    rw [addr_add, Nat.zero_add, (Blk.new w _ _).cell, List.getElem?_toArray, ← hu]
    simp [tcells]⟩
theorem put_enters : ∀ args w, (callFunc 25 args).run Tryd.prog w = .ok (.enter 25 args) w := fun args w => enters_of Tryd.func25 (by kernel_rfl) rfl args w
theorem pr_full {ways : Nat} {e : TE} {l l3 l4 : List TE} (h3 : l3 = keep e.own l) (h4 : l3.drop (l3.length - ways + 1) = l4) (h : ways ≤ l3.length) : l4 ++ [e] = putRow ways e l := by
  rw [← h4]
  show _ = (if ways ≤ (keep e.own l).length then (keep e.own l).drop ((keep e.own l).length - ways + 1) else keep e.own l) ++ [e]
  rw [← h3, if_pos h]
theorem pr_room {ways : Nat} {e : TE} {l l3 : List TE} (h3 : l3 = keep e.own l) (h : ¬ ways ≤ l3.length) : l3 ++ [e] = putRow ways e l := by
  show _ = (if ways ≤ (keep e.own l).length then (keep e.own l).drop ((keep e.own l).length - ways + 1) else keep e.own l) ++ [e]
  rw [← h3, if_neg h]
set_option maxRecDepth 100000 in
set_option maxHeartbeats 2000000 in
theorem put_c (w : World) (b ways : Nat) (L : TS) (F : Nat → Prop) (e : TE) (h : TAt w b ways L F) (hok : TS.Ok ways L) :
    Calls Tryd.prog 9 #[.pointer (some ⟨b, 0, none⟩), .agg e.cells.toArray] w fun r w' => r = .returned (.tuple #[]) ∧ TAt w' b ways (L.put ways e) (Plus F w w') ∧ Fr F w w' := by
  obtain ⟨s, c, vs, G, h1, h2, h3, h4, h5, h6, h7, h8, h9, h10, h11⟩ := h
  obtain ⟨q, hq⟩ : ∃ q, q = setOf L.length e.va := ⟨_, rfl⟩
  have hqn : q < L.length := by rw [hq]; exact Nat.mod_lt _ hok.n
  obtain ⟨v0, hv0, hr0⟩ := h6 q hqn
  obtain ⟨l, hl⟩ : ∃ l, l = L[q] := ⟨_, rfl⟩
  rw [← hl] at hr0
  have hlw : l.length ≤ ways := by rw [hl]; exact hok.r _ (List.getElem_mem _)
  have hput : L.put ways e = L.set q (putRow ways e l) := by unfold TS.put TS.row; rw [← hq, hl]; simp [List.getD_eq_getElem?_getD, hqn]
  have hw8 := hok.w
  obtain ⟨a0, c0, rfl, hlc0, hcm0⟩ := hr0.len
  obtain ⟨W0, hW0⟩ : ∃ W0, W0 = w.alloc (.cells e.cells.toArray 25) := ⟨_, rfl⟩
  have hF0 : Fr No w W0 := by rw [hW0]; exact (Fr.refl No w).alloc _
  have hset := set_c W0 b s c L.length (ways : Int) e.va (h1.fr hF0 (fun q => q)) hok.n hok.n64
  rw [← hq] at hset
  have hbx : Blk W0 w.heap.size 25 e.cells.toArray := by rw [hW0]; exact Blk.new w _ _
  have hz0 : w.heap.size < W0.heap.size := hbx.lt
  have H6 := Lib.hid h6
  have H10 := Lib.hid h10
  have H11 := Lib.hid h11
  have HQ := Lib.hid (And.intro hqn hput)
  have HB := Lib.hid h1
  have HS := Lib.hid h2
  have HC := Lib.hid (And.intro h3 (And.intro h4 h5))
  have HF := Lib.hid (And.intro h7 (And.intro h8 h9))
  have HROW := Lib.hid (hr0.cut.fr hF0 (fun _ _ q => q))
  have HSET := Lib.hid hset
  have HF0 := Lib.hid hF0
  have HBX0 := Lib.hid hbx
  have HSB := Lib.hid h2.lt
  have HBB := Lib.hid h1.lt
  have HVQ := Lib.hid hv0
  have HV0 := Lib.hid (show W0.cell? ⟨s, q, none⟩ = some (.slice a0 l.length c0) from by rw [(h2.fr hF0 (fun q => q)).cell]; exact hv0)
  have HWW := Lib.hid hW0
  have HL8 := Lib.hid (And.intro hlw hw8)
  have d4 : (w.alloc (.cells #[.bool e.v, .int .u64 (e.vmid : Int), .int .u64 (e.asid : Int), .bool e.gl, .int .u64 (e.va : Int), .int .u64 (e.gpa : Int), .int .u64 (e.pa : Int), .int .i64 e.vl, .int .i64 e.gll, .int .u64 (e.vs : Int), .int .u64 (e.g : Int)] 25)).cell? ⟨w.heap.size, 4, none⟩ = some (.int .u64 (e.va : Int)) := (Blk.new w 25 e.cells.toArray).cell 4
  have hW0' : w.alloc (.cells #[.bool e.v, .int .u64 (e.vmid : Int), .int .u64 (e.asid : Int), .bool e.gl, .int .u64 (e.va : Int), .int .u64 (e.gpa : Int), .int .u64 (e.pa : Int), .int .i64 e.vl, .int .i64 e.gll, .int .u64 (e.vs : Int), .int .u64 (e.g : Int)] 25) = W0 := hW0.symm
  have HW0 := Lib.hid hW0'
  clear h1 h2 h3 h4 h5 h6 h7 h8 h9 h10 h11 hq hqn hv0 hr0 hlw hput hw8 hlc0 hcm0 hF0 hset hbx hz0 hok hW0 hW0' hl
  show Calls Tryd.prog 9 #[.pointer (some ⟨b, 0, none⟩), .agg #[.bool e.v, .int .u64 (e.vmid : Int), .int .u64 (e.asid : Int), .bool e.gl, .int .u64 (e.va : Int), .int .u64 (e.gpa : Int), .int .u64 (e.pa : Int), .int .i64 e.vl, .int .i64 e.gll, .int .u64 (e.vs : Int), .int .u64 (e.g : Int)]] w _
  go_enter Tryd.func9, Tryd.ntmps9
  go_wp2_with (first
    | (go_at_call 23
       rw [HW0.out]
       refine HSET.out.mono ?_
       rintro r w2 ⟨rfl, m, hm⟩
       have hf2 : Fr No W0 w2 := by rw [hm]; exact (Fr.refl No W0).drewN m
       have cs : w2.cell? ⟨s, q, none⟩ = some (.slice a0 l.length c0) := hf2.cell HV0.out (fun q => q)
       have HF2 := Lib.hid hf2
       clear hm hf2 d4)
    | (go_at_call 24
       refine (deleteFunc_c w2 _ l (fun k => G q k ∧ k < w.heap.size) 25 #[.pointer (some ⟨w.heap.size, 0, none⟩)] e.own (HROW.out.fr HF2.out (fun _ _ q => q)) (by have := HL8.out; omega) (fun W x hW => put1_c W w.heap.size e x ((HBX0.out.fr HF2.out (fun q => q)).fr hW (fun q => by omega))) put_enters).mono ?_
       rintro r w3 ⟨v3, rfl, hr3, hf3⟩
       obtain ⟨l3, hl3⟩ : ∃ l3, l3 = keep e.own l := ⟨_, rfl⟩
       rw [← hl3] at hr3
       have hle : l3.length ≤ ways := by rw [hl3]; have := HL8.out; exact Nat.le_trans (List.length_filter_le _ _) this.1
       obtain ⟨a3, c3, rfl, hn3, hm3⟩ := hr3.len
       have hf23 : Fr (fun k => G q k ∧ k < w.heap.size) w w3 := ((HF0.out.mono (fun _ _ q => q.elim)).trans (HF2.out.mono (fun _ _ q => q.elim))).trans hf3
       have b0 : w3.cell? ⟨b, 0, none⟩ = some (.int .i64 (ways : Int)) := (HB.out.fr hf23 (fun q => (H10.out _ _ q.1).2.1 rfl)).cell 0
       have HF3 := Lib.hid hf23
       have HW3 := Lib.hid hf23.size
       have HBX := Lib.hid ((HBX0.out.fr HF2.out (fun q => q)).fr hf3 (fun q => by omega))
       have HL3 := Lib.hid hl3
       have HM3 := Lib.hid (And.intro hn3 hm3)
       obtain ⟨n3, hln3⟩ : ∃ n3, n3 = l3.length := ⟨_, rfl⟩
       rw [← hln3] at hle hr3 ⊢
       have HR3 := Lib.hid hr3
       have HN3 := Lib.hid hln3
       have y0 : w3.cell? ⟨w.heap.size, 0, none⟩ = some (.bool e.v) := HBX.out.cell 0
       have y1 : w3.cell? ⟨w.heap.size, 1, none⟩ = some (.int .u64 (e.vmid : Int)) := HBX.out.cell 1
       have y2 : w3.cell? ⟨w.heap.size, 2, none⟩ = some (.int .u64 (e.asid : Int)) := HBX.out.cell 2
       have y3 : w3.cell? ⟨w.heap.size, 3, none⟩ = some (.bool e.gl) := HBX.out.cell 3
       have y4 : w3.cell? ⟨w.heap.size, 4, none⟩ = some (.int .u64 (e.va : Int)) := HBX.out.cell 4
       have y5 : w3.cell? ⟨w.heap.size, 5, none⟩ = some (.int .u64 (e.gpa : Int)) := HBX.out.cell 5
       have y6 : w3.cell? ⟨w.heap.size, 6, none⟩ = some (.int .u64 (e.pa : Int)) := HBX.out.cell 6
       have y7 : w3.cell? ⟨w.heap.size, 7, none⟩ = some (.int .i64 e.vl) := HBX.out.cell 7
       have y8 : w3.cell? ⟨w.heap.size, 8, none⟩ = some (.int .i64 e.gll) := HBX.out.cell 8
       have y9 : w3.cell? ⟨w.heap.size, 9, none⟩ = some (.int .u64 (e.vs : Int)) := HBX.out.cell 9
       have y10 : w3.cell? ⟨w.heap.size, 10, none⟩ = some (.int .u64 (e.g : Int)) := HBX.out.cell 10
       clear hr3 hf23 hf3 hl3 hm3 cs hn3 hln3)
    | (go_at_call 27
       have hge : ways ≤ n3 := by assumption
       have h33 : (n3 : Int) - (ways : Int) + 1 = ((1 : Nat) : Int) := by omega
       rw [h33]
       refine (delete_c w3 _ l3 _ 1 HR3.out (by omega) (by have := HN3.out; have := HL8.out; omega) (by have := HN3.out; have := HL8.out; omega)).mono ?_
       rintro r w4 ⟨v4, rfl, hr4, hf4⟩
       have hl4 : (l3.drop (l3.length - ways + 1)) = l3.drop 1 := by congr 1; have := HN3.out; omega
       obtain ⟨l4, hd4⟩ : ∃ l4, l4 = l3.drop 1 := ⟨_, rfl⟩
       rw [← hd4] at hr4 hl4
       have hle4 : l4.length ≤ ways := by rw [hd4, List.length_drop]; have := HN3.out; omega
       have HR4 := Lib.hid hr4
       have HL4 := Lib.hid hl4
       have HF4 := Lib.hid (HF3.out.trans hf4)
       have HW3 := Lib.hid HF4.out.size
       have HX4 := Lib.hid (HBX.out.fr hf4 (fun q => by omega))
       clear hr4 hl4 hd4 hf4 h33 y0 y1 y2 y3 y4 y5 y6 y7 y8 y9 y10
       have y0 : w4.cell? ⟨w.heap.size, 0, none⟩ = some (.bool e.v) := HX4.out.cell 0
       have y1 : w4.cell? ⟨w.heap.size, 1, none⟩ = some (.int .u64 (e.vmid : Int)) := HX4.out.cell 1
       have y2 : w4.cell? ⟨w.heap.size, 2, none⟩ = some (.int .u64 (e.asid : Int)) := HX4.out.cell 2
       have y3 : w4.cell? ⟨w.heap.size, 3, none⟩ = some (.bool e.gl) := HX4.out.cell 3
       have y4 : w4.cell? ⟨w.heap.size, 4, none⟩ = some (.int .u64 (e.va : Int)) := HX4.out.cell 4
       have y5 : w4.cell? ⟨w.heap.size, 5, none⟩ = some (.int .u64 (e.gpa : Int)) := HX4.out.cell 5
       have y6 : w4.cell? ⟨w.heap.size, 6, none⟩ = some (.int .u64 (e.pa : Int)) := HX4.out.cell 6
       have y7 : w4.cell? ⟨w.heap.size, 7, none⟩ = some (.int .i64 e.vl) := HX4.out.cell 7
       have y8 : w4.cell? ⟨w.heap.size, 8, none⟩ = some (.int .i64 e.gll) := HX4.out.cell 8
       have y9 : w4.cell? ⟨w.heap.size, 9, none⟩ = some (.int .u64 (e.vs : Int)) := HX4.out.cell 9
       have y10 : w4.cell? ⟨w.heap.size, 10, none⟩ = some (.int .u64 (e.g : Int)) := HX4.out.cell 10
      )
    | (
       at_builtin
       refine wpList_append_te rfl (.tmp 35) (.tmp 37) rfl [e] _ _ rfl rfl (HR4.out.fr ((Fr.refl No w4).alloc _) (fun _ _ q => q)) (one_rd w4 e) (by have := HN3.out; have := HL8.out; simp; omega) ?_
       intro v5 w5 hr5 hf5
       obtain ⟨a5, c5, hv5, _, _⟩ := hr5.len
       obtain ⟨n5, hn5⟩ : ∃ n5, n5 = (l4 ++ [e]).length := ⟨_, rfl⟩
       rw [← hn5] at hv5
       subst hv5
       have hf15 : Fr (fun k => G q k ∧ k < w.heap.size) w w5 := (HF4.out.alloc _).trans hf5
       have hS5 : Blk w5 s 22 vs := HS.out.fr hf15 (fun q' => (H10.out _ _ q'.1).2.2 rfl)
       have s5 : w5.cell? ⟨s, q, none⟩ = some (.slice a0 l.length c0) := (hS5.cell q).trans HVQ.out
       have f5 := hS5.free
       have HS5 := Lib.hid hS5
       have HR5 := Lib.hid hr5
       have HF5 := Lib.hid hf15
       have HX5 := Lib.hid (show w.heap.size ≤ w4.heap.size ∧ (w4.alloc (.cells e.cells.toArray 25)).heap.size < w5.heap.size ∨ True from .inr trivial)
       clear hr5 hf5 hf15 hS5 hn5
      )
    | (
       at_builtin
       refine wpList_append_te rfl (.tmp 35) (.tmp 37) rfl [e] _ _ rfl rfl (HR3.out.fr ((Fr.refl No w3).alloc _) (fun _ _ q => q)) (one_rd w3 e) (by have := HN3.out; have := HL8.out; simp; omega) ?_
       intro v5 w5 hr5 hf5
       obtain ⟨a5, c5, hv5, _, _⟩ := hr5.len
       obtain ⟨n5, hn5⟩ : ∃ n5, n5 = (l3 ++ [e]).length := ⟨_, rfl⟩
       rw [← hn5] at hv5
       subst hv5
       have hf15 : Fr (fun k => G q k ∧ k < w.heap.size) w w5 := (HF3.out.alloc _).trans hf5
       have hS5 : Blk w5 s 22 vs := HS.out.fr hf15 (fun q' => (H10.out _ _ q'.1).2.2 rfl)
       have s5 : w5.cell? ⟨s, q, none⟩ = some (.slice a0 l.length c0) := (hS5.cell q).trans HVQ.out
       have f5 := hS5.free
       have HS5 := Lib.hid hS5
       have HR5 := Lib.hid hr5
       have HF5 := Lib.hid hf15
       have HX5 := Lib.hid (show w.heap.size ≤ w3.heap.size ∧ (w3.alloc (.cells e.cells.toArray 25)).heap.size < w5.heap.size ∨ True from .inr trivial)
       clear hr5 hf5 hf15 hS5 hn5
      ))
  · go_end0
    refine ⟨rfl, ?_, (HF5.out.mono (fun k _ h => (H10.out _ _ h.1).1)).setCell (.inl HF.out.2.2) _⟩
    rw [HQ.out.2]
    refine TIn.at_ (s := s) (c := c) ?_
    refine TAt.setRow (w0 := w) (HB.out.fr HF5.out (fun h => (H10.out _ _ h.1).2.1 rfl)) HS5.out HC.out.1 HC.out.2.1 HC.out.2.2 (fun j hj hne => ?_) HF.out.1 HF.out.2.1 HF.out.2.2 H10.out H11.out HQ.out.1 (l := putRow ways e l) (H := fun k => (G q k ∧ k < w.heap.size) ∨ (w.heap.size ≤ k ∧ k < w5.heap.size)) ?_ (fun k h => h.imp id (fun h => ⟨h.1, .inr ⟨h.1, by rw [World.size_setCell]; exact h.2⟩⟩)) (fun k h => .inl h) HBB.out HSB.out
    · obtain ⟨v, hv, hr⟩ := H6.out j hj
      exact ⟨v, hv, hr.cut.fr HF5.out (fun k hk h => hne (H11.out _ _ _ hk.1 h.1))⟩
    have hpr : _ = putRow ways e l := (pr_full HL3.out HL4.out (by have := HN3.out; omega))
    rw [← hpr]
    refine HR5.out.cut.mono (fun k hk => ?_)
    · rcases hk.1 with h | h
      · exact .inl h
      · have h2 := HF5.out.size
        rw [World.size_alloc] at h
        refine .inr ⟨?_, hk.2⟩
        have := HW3.out
        omega
  · go_end0
    refine ⟨rfl, ?_, (HF5.out.mono (fun k _ h => (H10.out _ _ h.1).1)).setCell (.inl HF.out.2.2) _⟩
    rw [HQ.out.2]
    refine TIn.at_ (s := s) (c := c) ?_
    refine TAt.setRow (w0 := w) (HB.out.fr HF5.out (fun h => (H10.out _ _ h.1).2.1 rfl)) HS5.out HC.out.1 HC.out.2.1 HC.out.2.2 (fun j hj hne => ?_) HF.out.1 HF.out.2.1 HF.out.2.2 H10.out H11.out HQ.out.1 (l := putRow ways e l) (H := fun k => (G q k ∧ k < w.heap.size) ∨ (w.heap.size ≤ k ∧ k < w5.heap.size)) ?_ (fun k h => h.imp id (fun h => ⟨h.1, .inr ⟨h.1, by rw [World.size_setCell]; exact h.2⟩⟩)) (fun k h => .inl h) HBB.out HSB.out
    · obtain ⟨v, hv, hr⟩ := H6.out j hj
      exact ⟨v, hv, hr.cut.fr HF5.out (fun k hk h => hne (H11.out _ _ _ hk.1 h.1))⟩
    have hpr : _ = putRow ways e l := (pr_room HL3.out (by have := HN3.out; omega))
    rw [← hpr]
    refine HR5.out.cut.mono (fun k hk => ?_)
    · rcases hk.1 with h | h
      · exact .inl h
      · have h2 := HF5.out.size
        rw [World.size_alloc] at h
        refine .inr ⟨?_, hk.2⟩
        have := HW3.out
        omega
end Go.Proofs.YtpnabfekidpnoaaDoor

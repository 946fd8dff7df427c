/-
  The library's search and deletion over rows of entries: what the walks compute.
-/
import Derived.Test.YtpnabfekidpnoaaDoorTlbR
import Derived.Shelf.Abstract
import Derived.Shelf.RegionOpen
namespace Go.Proofs.YtpnabfekidpnoaaDoor
open Go Go.RowKit

theorem Seg.te {w : World} {g o : Nat} {x : TE} (h : Seg w g o x.cells) :
    w.cell? ⟨g, o, none⟩ = some (.bool x.v) ∧ w.cell? ⟨g, o + 1, none⟩ = some (.int .u64 (x.vmid : Int)) ∧ w.cell? ⟨g, o + 2, none⟩ = some (.int .u64 (x.asid : Int)) ∧ w.cell? ⟨g, o + 3, none⟩ = some (.bool x.gl) ∧ w.cell? ⟨g, o + 4, none⟩ = some (.int .u64 (x.va : Int)) ∧
    w.cell? ⟨g, o + 5, none⟩ = some (.int .u64 (x.gpa : Int)) ∧ w.cell? ⟨g, o + 6, none⟩ = some (.int .u64 (x.pa : Int)) ∧ w.cell? ⟨g, o + 7, none⟩ = some (.int .i64 x.vl) ∧ w.cell? ⟨g, o + 8, none⟩ = some (.int .i64 x.gll) ∧ w.cell? ⟨g, o + 9, none⟩ = some (.int .u64 (x.vs : Int)) ∧ w.cell? ⟨g, o + 10, none⟩ = some (.int .u64 (x.g : Int)) :=
  ⟨h.cell (j := 0) rfl, h.cell (j := 1) rfl, h.cell (j := 2) rfl, h.cell (j := 3) rfl, h.cell (j := 4) rfl, h.cell (j := 5) rfl, h.cell (j := 6) rfl, h.cell (j := 7) rfl, h.cell (j := 8) rfl, h.cell (j := 9) rfl, h.cell (j := 10) rfl⟩
/-- A function value says which entries go, wherever nothing but blocks of S has turned. -/
def Goes (f : Nat) (lb : Array Value) (p : TE → Bool) (S : Nat → Prop) (w : World) : Prop :=
  ∀ W x, Fr S w W → Calls Tryd.prog f (#[.agg x.cells.toArray] ++ lb) W fun e W' => e = .returned (.bool (p x)) ∧ Below W.heap.size W W'
theorem Goes.step {f : Nat} {lb : Array Value} {p : TE → Bool} {S : Nat → Prop} {w w' : World} (h : Goes f lb p S w) (hf : Fr S w w') : Goes f lb p S w' := fun W x hW => h W x (hf.trans hW)
/-- The first that goes. -/
def firstP (p : TE → Bool) (l : List TE) : Int := if l.findIdx p < l.length then ((l.findIdx p : Nat) : Int) else -1
set_option maxRecDepth 100000 in
set_option maxHeartbeats 1000000 in
theorem index_c (w : World) (v : Value) (l : List TE) (G : Nat → Prop) (f : Nat) (lb : Array Value) (p : TE → Bool) (hown : Own w 25 11 v l.length (tcells l) G) (h100 : l.length ≤ 100) (hgo : Goes f lb p G w)
    (eg : ∀ args w, (callFunc f args).run Tryd.prog w = .ok (.enter f args) w) :
    Calls Tryd.prog 44 #[v, .func (.func f) #[] lb] w fun e w' => e = .returned (.int .i64 (firstP p l)) ∧ Below w.heap.size w w' := by
  obtain ⟨A, c, rfl, hnc, hcm⟩ := hown.slice
  have HO := Lib.hid hown
  have HG := Lib.hid hgo
  obtain ⟨n, hn⟩ : ∃ n, n = l.length := ⟨_, rfl⟩
  rw [← hn] at h100 ⊢
  have HN := Lib.hid hn
  clear hown hgo hn hnc hcm
  go_enter Tryd.func44, Tryd.ntmps44
  go_wp2_with fail
  go_loopw [8] (fun s wr => ∃ i : Nat, i ≤ n ∧ s = .int .i64 (i : Int) ∧ Hid (Below w.heap.size w wr) ∧ Hid (∀ j (hj : j < l.length), j < i → p l[j] = false)) (fun s _ => n - (intOf s).toNat)
  case atStart => exact ⟨0, Nat.zero_le _, rfl, Lib.hid (Below.refl _ _), Lib.hid (fun j hj h => by omega)⟩
  case round =>
    obtain ⟨i, hin, rfl, HB, HP⟩ := hrel
    by_cases hlt : i < n
    · have hil : i < l.length := by have := HN.out; omega
      obtain ⟨x, hx⟩ : ∃ x, x = l[i] := ⟨_, rfl⟩
      have hOr := HO.out.fr (Fr.of_below HB.out No) (fun _ _ q => q)
      obtain ⟨g, o, c', hv, _⟩ := hOr.at_ (by omega)
      injection hv with e1 _ e3
      subst e1 e3
      have hseg := hOr.elem hil
      rw [← hx] at hseg
      obtain ⟨q0, q1, q2, q3, q4, q5, q6, q7, q8, q9, q10⟩ := hseg.te
      have hcall := HG.out wr x (Fr.of_below HB.out G)
      have hi100 : i < 100 := by omega
      have HX := Lib.hid hx
      obtain ⟨r, hr⟩ : ∃ r, r = p x := ⟨_, rfl⟩
      rw [← hr] at hcall
      have HR := Lib.hid hr
      have HCALL := Lib.hid (show Calls Tryd.prog f (#[.agg #[.bool x.v, .int .u64 (x.vmid : Int), .int .u64 (x.asid : Int), .bool x.gl, .int .u64 (x.va : Int), .int .u64 (x.gpa : Int), .int .u64 (x.pa : Int), .int .i64 x.vl, .int .i64 x.gll, .int .u64 (x.vs : Int), .int .u64 (x.g : Int)]] ++ lb) wr fun e W' => e = .returned (.bool r) ∧ Below wr.heap.size wr W' from hcall)
      clear hx hOr hseg hcall hr
      go_wp2_with (go_at_fn f; refine HCALL.out.mono ?_; rintro e w2 ⟨rfl, hb2⟩)
      · go_ret
        refine ⟨?_, HB.out.trans (hb2.mono HB.out.size)⟩
        have e : l.findIdx p = i := (List.findIdx_eq hil).2 ⟨by have h1 := HR.out; rw [HX.out] at h1; exact h1.symm.trans (by assumption), fun j hj => HP.out j (by omega) hj⟩
        unfold firstP
        rw [e, if_pos hil]
        rfl
      · refine ⟨⟨i + 1, hlt, by simp, Lib.hid (HB.out.trans (hb2.mono HB.out.size)), Lib.hid (fun j hj hji => ?_)⟩, by simp [intOf]; omega⟩
        by_cases q : j = i
        · subst q
          have h1 := HR.out
          rw [HX.out] at h1
          exact h1.symm.trans (by assumption)
        · exact HP.out j hj (by omega)
    · obtain rfl : i = n := by omega
      go_wp2_with fail
      go_ret
      refine ⟨?_, HB.out⟩
      have e : ¬ l.findIdx p < l.length := fun q => by
        have h1 := List.findIdx_getElem (w := q)
        rw [HP.out _ q (by rw [HN.out]; exact q)] at h1
        cases h1
      unfold firstP
      rw [if_neg e]
      rfl
def keep (p : TE → Bool) (l : List TE) : List TE := l.filter fun x => !p x
/-- What stands in a row in the midst of a deletion: up to i what is kept of what was read, from j on what was not read. -/
structure Mid (p : TE → Bool) (l m : List TE) (i j : Nat) : Prop where
  len : m.length = l.length
  ij : i < j
  jn : j ≤ l.length
  il : i = (keep p (l.take j)).length
  low : m.take i = keep p (l.take j)
  high : m.drop j = l.drop j
theorem Mid.start {p : TE → Bool} {l : List TE} (h : l.findIdx p < l.length) : Mid p l l (l.findIdx p) (l.findIdx p + 1) := by
  have h1 : keep p (l.take (l.findIdx p + 1)) = l.take (l.findIdx p) := by
    unfold keep
    rw [List.take_add_one, List.getElem?_eq_getElem h, List.filter_append]
    have h2 : (l.take (l.findIdx p)).filter (fun x => !p x) = l.take (l.findIdx p) := List.filter_eq_self.2 fun x hx => by
      obtain ⟨j, hj, rfl⟩ := List.mem_iff_getElem.1 hx
      rw [List.length_take] at hj
      rw [List.getElem_take]
      have := List.not_of_lt_findIdx (p := p) (xs := l) (i := j) (by omega)
      simpa using this
    rw [h2]
    simp [List.findIdx_getElem]
  refine ⟨rfl, by omega, by omega, by rw [h1, List.length_take]; omega, by rw [h1], rfl⟩
theorem Mid.skip {p : TE → Bool} {l m : List TE} {i j : Nat} (h : Mid p l m i j) (hj : j < l.length) (hp : p l[j] = true) : Mid p l m i (j + 1) := by
  have h1 : keep p (l.take (j + 1)) = keep p (l.take j) := by
    unfold keep
    rw [List.take_add_one, List.getElem?_eq_getElem hj, List.filter_append]
    simp [hp]
  exact ⟨h.len, by have := h.ij; omega, hj, by rw [h1]; exact h.il, by rw [h1]; exact h.low, by rw [← List.drop_drop, h.high, List.drop_drop]⟩
theorem Mid.at_ {p : TE → Bool} {l m : List TE} {i j : Nat} (h : Mid p l m i j) (hj : j < l.length) (hm : j < m.length) : m[j] = l[j] := by
  have h1 := congrArg (fun r => r[0]?) h.high
  simp only [List.getElem?_drop, Nat.add_zero] at h1
  rw [List.getElem?_eq_getElem hj, List.getElem?_eq_getElem hm] at h1
  exact Option.some.inj h1
theorem Mid.put {p : TE → Bool} {l m : List TE} {i j : Nat} (h : Mid p l m i j) (hj : j < l.length) (hp : p l[j] = false) : Mid p l (m.set i l[j]) (i + 1) (j + 1) := by
  have hij := h.ij
  have hlen := h.len
  have h1 : keep p (l.take (j + 1)) = keep p (l.take j) ++ [l[j]] := by
    unfold keep
    rw [List.take_add_one, List.getElem?_eq_getElem hj, List.filter_append]
    simp [hp]
  refine ⟨by rw [List.length_set]; exact h.len, by omega, hj, by rw [h1, List.length_append, ← h.il, List.length_singleton], ?_, ?_⟩
  · rw [h1, ← h.low, List.take_add_one, List.take_set_of_le (Nat.le_refl i), List.getElem?_set_self (by omega)]
    rfl
  · rw [List.drop_set_of_lt (by omega), ← List.drop_drop, h.high, List.drop_drop]
theorem Mid.done {p : TE → Bool} {l m : List TE} {i : Nat} (h : Mid p l m i l.length) : m.take i = keep p l ∧ i = (keep p l).length := by
  have h1 := h.low
  have h2 := h.il
  rw [List.take_length] at h1 h2
  exact ⟨h1, h2⟩
set_option maxRecDepth 100000 in
set_option maxHeartbeats 2000000 in
theorem deleteFunc_c (w : World) (v : Value) (l : List TE) (G : Nat → Prop) (f : Nat) (lb : Array Value) (p : TE → Bool) (hown : Row w v l G) (h100 : l.length ≤ 100) (hgo : Goes f lb p G w)
    (eg : ∀ args w, (callFunc f args).run Tryd.prog w = .ok (.enter f args) w) :
    Calls Tryd.prog 24 #[v, .func (.func f) #[] lb] w fun e w' => ∃ v', e = .returned v' ∧ Row w' v' (keep p l) G ∧ Fr G w w' := by
  have hix := index_c w v l G f lb p hown.own h100 hgo eg
  by_cases hf : l.findIdx p < l.length
  case neg =>
    have h1 : firstP p l = -1 := by unfold firstP; rw [if_neg hf]
    have h2 : keep p l = l := List.filter_eq_self.2 fun x hx => by
      have h3 := List.findIdx_eq_length.1 (Nat.le_antisymm List.findIdx_le_length (by omega : l.length ≤ l.findIdx p)) x hx
      simpa using h3
    rw [h1] at hix
    have HX := Lib.hid hix
    have HO := Lib.hid hown
    rw [h2]
    clear hix hown hgo h1 h2 hf
    go_enter Tryd.func24, Tryd.ntmps24
    go_wp2_with (go_at_call 44; refine HX.out.mono ?_; rintro e w2 ⟨rfl, hb2⟩)
    go_ret
    exact ⟨_, rfl, HO.out.fr (Fr.of_below hb2 No) (fun _ _ q => q), Fr.of_below hb2 G⟩
  case pos =>
    have h1 : firstP p l = ((l.findIdx p : Nat) : Int) := by unfold firstP; rw [if_pos hf]
    have hmid := Mid.start hf
    obtain ⟨k0, hk0⟩ : ∃ k0, k0 = l.findIdx p := ⟨_, rfl⟩
    rw [h1] at hix
    rw [← hk0] at hix hmid hf
    obtain ⟨g, c, cur, rfl, hGg, _, hlc, hcm, _⟩ := hown.at_ (by omega)
    have HX := Lib.hid hix
    have HO := Lib.hid hown
    have HG := Lib.hid hgo
    have HM := Lib.hid hmid
    obtain ⟨n, hn⟩ : ∃ n, n = l.length := ⟨_, rfl⟩
    rw [← hn] at HX h100 hf hlc ⊢
    have HN := Lib.hid hn
    have e0 : ((k0 : Int) == -1) = false := by rw [beq_eq_false_iff_ne]; omega
    clear hix hown hgo h1 hmid hn hk0
    go_enter Tryd.func24, Tryd.ntmps24
    go_wp2_with (go_at_call 44; refine HX.out.mono ?_; rintro e w2 ⟨rfl, hb2⟩)
    have hrow2 := HO.out.fr (Fr.of_below hb2 No) (fun _ _ q => q)
    have HO2 := Lib.hid (show Row w2 (.slice (some ⟨g, 0, none⟩) l.length c) l G from hrow2)
    have HF2 := Lib.hid (Fr.of_below hb2 G)
    clear hb2 hrow2 HX HO
    go_loopw [5, 6] (fun s5 s6 wr => ∃ (i j : Nat) (m : List TE), s5 = .int .i64 (i : Int) ∧ s6 = .int .i64 (j : Int) ∧ j ≤ n ∧ Hid (Mid p l m i j) ∧ Hid (Row wr (.slice (some ⟨g, 0, none⟩) m.length c) m G) ∧ Hid (Fr G w wr)) (fun _ s6 _ => n - (intOf s6).toNat)
    case atStart => exact ⟨k0, k0 + 1, l, rfl, by simp, by omega, HM, HO2, HF2⟩
    case round =>
      obtain ⟨i, j, m, rfl, rfl, hjn, HM, HR, HF⟩ := hrel
      have hml : m.length = n := by have := HM.out.len; have := HN.out; omega
      have hij := HM.out.ij
      by_cases hlt : j < n
      · have hjl : j < l.length := by have := HN.out; omega
        have hxe := HM.out.at_ hjl (by omega)
        obtain ⟨x, hx⟩ : ∃ x, x = l[j] := ⟨_, rfl⟩
        have hseg := HR.out.own.elem (i := j) (by omega)
        rw [hxe, ← hx, Nat.zero_add] at hseg
        obtain ⟨q0, q1, q2, q3, q4, q5, q6, q7, q8, q9, q10⟩ := hseg.te
        obtain ⟨bx, hbx⟩ : ∃ bx, bx = wr.heap.size := ⟨_, rfl⟩
        obtain ⟨w3, hw3⟩ : ∃ w3, w3 = wr.alloc (.cells #[.bool x.v, .int .u64 (x.vmid : Int), .int .u64 (x.asid : Int), .bool x.gl, .int .u64 (x.va : Int), .int .u64 (x.gpa : Int), .int .u64 (x.pa : Int), .int .i64 x.vl, .int .i64 x.gll, .int .u64 (x.vs : Int), .int .u64 (x.g : Int)] 25) := ⟨_, rfl⟩
        have hF3 : Fr G w w3 := by rw [hw3]; exact HF.out.alloc _
        have hcall := HG.out w3 x hF3
        have HR3 := Lib.hid (show Row w3 (.slice (some ⟨g, 0, none⟩) m.length c) m G from by rw [hw3]; exact HR.out.fr ((Fr.refl No wr).alloc _) (fun _ _ q => q))
        have HX3 := Lib.hid (show Blk w3 bx 25 x.cells.toArray from by rw [hw3, hbx]; exact Blk.new wr _ _)
        have hgbx : g < bx := by rw [hbx]; obtain ⟨g', c', cur', hv, _, hB, _⟩ := HR.out.at_ (by omega); injection hv with e1 _ _; injection e1 with e1; injection e1 with e1 _ _; subst e1; exact hB.lt
        obtain ⟨r, hr⟩ : ∃ r, r = p x := ⟨_, rfl⟩
        rw [← hr] at hcall
        have HCALL := Lib.hid (show Calls Tryd.prog f (#[.agg #[.bool x.v, .int .u64 (x.vmid : Int), .int .u64 (x.asid : Int), .bool x.gl, .int .u64 (x.va : Int), .int .u64 (x.gpa : Int), .int .u64 (x.pa : Int), .int .i64 x.vl, .int .i64 x.gll, .int .u64 (x.vs : Int), .int .u64 (x.g : Int)]] ++ lb) w3 fun e W' => e = .returned (.bool r) ∧ Below w3.heap.size w3 W' from hcall)
        have HPX := Lib.hid (show p l[j] = r from by rw [← hx]; exact hr.symm)
        have HF3 := Lib.hid hF3
        have HW3 := Lib.hid hw3
        have HBX := Lib.hid hbx
        have HXE := Lib.hid hx
        clear hseg hxe hcall hr hF3 hw3 hbx hx
        go_wp2_with (first
          | (go_at_fn f
             rw [← HW3.out]
             refine HCALL.out.mono ?_
             rintro e w4 ⟨rfl, hb4⟩
             have hx4 : Blk w4 bx 25 x.cells.toArray := (hb4.block _ HX3.out.lt).trans HX3.out
             have y0 : w4.cell? ⟨wr.heap.size, 0, none⟩ = some (.bool x.v) := by rw [← HBX.out]; exact Blk.cell hx4 0
             have y1 : w4.cell? ⟨wr.heap.size, 1, none⟩ = some (.int .u64 (x.vmid : Int)) := by rw [← HBX.out]; exact Blk.cell hx4 1
             have y2 : w4.cell? ⟨wr.heap.size, 2, none⟩ = some (.int .u64 (x.asid : Int)) := by rw [← HBX.out]; exact Blk.cell hx4 2
             have y3 : w4.cell? ⟨wr.heap.size, 3, none⟩ = some (.bool x.gl) := by rw [← HBX.out]; exact Blk.cell hx4 3
             have y4 : w4.cell? ⟨wr.heap.size, 4, none⟩ = some (.int .u64 (x.va : Int)) := by rw [← HBX.out]; exact Blk.cell hx4 4
             have y5 : w4.cell? ⟨wr.heap.size, 5, none⟩ = some (.int .u64 (x.gpa : Int)) := by rw [← HBX.out]; exact Blk.cell hx4 5
             have y6 : w4.cell? ⟨wr.heap.size, 6, none⟩ = some (.int .u64 (x.pa : Int)) := by rw [← HBX.out]; exact Blk.cell hx4 6
             have y7 : w4.cell? ⟨wr.heap.size, 7, none⟩ = some (.int .i64 x.vl) := by rw [← HBX.out]; exact Blk.cell hx4 7
             have y8 : w4.cell? ⟨wr.heap.size, 8, none⟩ = some (.int .i64 x.gll) := by rw [← HBX.out]; exact Blk.cell hx4 8
             have y9 : w4.cell? ⟨wr.heap.size, 9, none⟩ = some (.int .u64 (x.vs : Int)) := by rw [← HBX.out]; exact Blk.cell hx4 9
             have y10 : w4.cell? ⟨wr.heap.size, 10, none⟩ = some (.int .u64 (x.g : Int)) := by rw [← HBX.out]; exact Blk.cell hx4 10
             have HR4 := Lib.hid (HR3.out.fr (Fr.of_below hb4 No) (fun _ _ q => q))
             have HF4 := Lib.hid (HF3.out.trans (Fr.of_below hb4 G))
             clear hx4 hb4 q0 q1 q2 q3 q4 q5 q6 q7 q8 q9 q10)
          | (refine wpList_store_row_te rfl _ _ rfl rfl x rfl rfl HR4.out (by omega) ?_
             intro w5 hr5 hf5))
        · have hrf : r = false := by cases r <;> first | rfl | (exfalso; simp at *)
          have hm2 := HM.out.put hjl (HPX.out.trans hrf)
          rw [← HXE.out] at hm2
          refine ⟨⟨i + 1, j + 1, m.set i x, by simp, by simp, by omega, Lib.hid hm2, Lib.hid (by rw [List.length_set]; exact hr5), Lib.hid (HF4.out.trans hf5)⟩, by simp [intOf]; omega⟩
        · refine ⟨⟨i, j + 1, m, rfl, by simp, by omega, Lib.hid (HM.out.skip hjl (HPX.out.trans (by cases r <;> first | rfl | (exfalso; simp at *)))), HR4, HF4⟩, by simp [intOf]; omega⟩
      · obtain rfl : j = n := by omega
        have hdone := HM.out
        rw [HN.out] at hdone
        have hd := hdone.done
        have hic : i ≤ c := by omega
        have hnc2 : ¬ c = i := by omega
        have HD := Lib.hid hd
        clear hdone hd
        have hji : (j : Int) ≤ (c : Int) := by omega
        have hii : i ≤ j := by omega
        go_wp2_with (refine wpList_clear_te rfl _ rfl rfl rfl HR.out (i := i) (by omega) (by omega) (by omega) ?_; intro w5 hr5 hf5)
        go_ret
        rw [HD.out.1] at hr5
        exact ⟨.slice (some ⟨g, 0, none⟩) i c, rfl, hr5, HF.out.trans hf5⟩
/-- append, its run known, as one step of a region that draws. -/
theorem step_append_run {P : Program} {ops : Array Oper} {w w' : World} {o : Oper} {a : Act} {K : Act → World → Prop} {Q : Exit → Act → World → Prop} {E : Prop} (hgd : o.guard = none) (s x : Operand) (t : TypeId)
    (ho : o.op = .call { callee := .builtin .append, args := #[s, x], argTypes := #[t, t] }) (vs vx v' : Value) (hs : a.eval s = vs) (hx : a.eval x = vx) (hrun : (Builtin.append_ #[t, t] o.type #[vs, vx]).run P w = .ok v' w') (h : K (a.put o.dst v') w') :
    if Region.wanted o (yielded ops a.tmps) = true then Oper.wp P o a w K Q else E := by
  have hw : Region.wanted o (yielded ops a.tmps) = true := by simp [Region.wanted, hgd]
  rw [if_pos hw]
  unfold Oper.wp execOp
  simp only [ho, resolve, invoke, builtin, Sem.run_bind, Sem.run_pure, Result.andThen_ok, List.map_toArray, List.map_cons, List.map_nil, hs, hx, hrun]
  exact h
/-- The front of a row is overwritten by its end. -/
theorem Row.shift {w : World} {g c : Nat} {l : List TE} {G : Nat → Prop} (h : Row w (.slice (some ⟨g, 0, none⟩) l.length c) l G) (k : Nat) (hk : k ≤ l.length) (hn : 0 < l.length) (ty : TypeId) (ad : Option Addr) (c2 : Nat) (had : 0 < l.length - k → ad = some ⟨g, k * 11, none⟩) :
    ∃ w', (Builtin.append_ #[22, 22] ty #[.slice (some ⟨g, 0, none⟩) 0 c, .slice ad (l.length - k) c2]).run Tryd.prog w = .ok (.slice (some ⟨g, 0, none⟩) (l.length - k) c) w' ∧ Row w' (.slice (some ⟨g, 0, none⟩) l.length c) (l.drop k ++ l.drop (l.length - k)) G ∧ Fr G w w' := by
  obtain ⟨g', c', cur, hv, hG, hB, h1, h2, h3, h4⟩ := h.at_ hn
  injection hv with e1 _ e3
  injection e1 with e1
  injection e1 with e1 _ _
  subst e1 e3
  obtain ⟨i, hi, hz⟩ := Option.map_eq_some_iff.1 infoE
  by_cases hm : l.length - k = 0
  · rw [hm]
    have hown : Own w 25 11 (.slice (some ⟨g, 0, none⟩) 0 c) 0 [] G := ⟨rfl, .inr ⟨g, 0, c, cur, rfl, hG, hB, Nat.zero_le _, h2, by omega, .inl ⟨rfl, h3⟩, fun j hj => by simp at hj⟩⟩
    refine ⟨w, run_append_zero w 22 ty 25 i 11 Tryd.underlying22 hi _ 0 [] G hown ad c2, ?_, Fr.refl _ _⟩
    rw [List.drop_eq_nil_of_le (by omega), List.drop_zero, List.nil_append]
    exact h
  · obtain rfl := had (by omega)
    have hnl : (tcells (l.drop k)).length = (l.length - k) * 11 := by rw [tcells_len, List.length_drop]
    have hr := run_append_room (P := Tryd.prog) w 22 ty 25 i Tryd.underlying22 hi g 0 c cur hB ⟨g, k * 11, none⟩ (l.length - k) c2 (tcells (l.drop k)) (by rw [hz]; exact hnl) (fun j u hu => by
      have hj : j < (tcells (l.drop k)).length := (List.getElem?_eq_some_iff.1 hu).1
      rw [addr_add, hB.cell, h4 _ (by omega), ← hu, ← tcells_drop, List.getElem?_drop]) (tcells_one _) (by omega) (by rw [hnl]; omega)
    rw [Nat.zero_add] at hr
    have hsz : (cur.toList.take (0 * i.size) ++ tcells (l.drop k) ++ cur.toList.drop (0 * i.size + (tcells (l.drop k)).length)).length = cur.size := by
      simp only [List.length_append, List.length_take, List.length_drop, Array.length_toList, hnl]
      omega
    have hl2 : (l.drop k ++ l.drop (l.length - k)).length = l.length := by rw [List.length_append, List.length_drop, List.length_drop]; omega
    refine ⟨_, hr, .inr ⟨g, c, _, by rw [hl2], hG, hB.row _, by rw [hl2]; exact h1, h2, by rw [List.size_toArray, hsz]; exact h3, fun j hj => ?_⟩, (Fr.row _).mono (fun k _ hk => by have q2 : k = g := hk; rw [q2]; exact hG)⟩
    rw [hl2] at hj
    rw [List.getElem?_toArray, Nat.zero_mul, List.take_zero, List.nil_append, Nat.zero_add, tcells_app]
    by_cases q : j < (l.length - k) * 11
    · rw [List.getElem?_append_left (by rw [hnl]; exact q), List.getElem?_append_left (by rw [hnl]; exact q)]
    · rw [List.getElem?_append_right (by rw [hnl]; omega), List.getElem?_append_right (by rw [hnl]; omega), hnl, List.getElem?_drop, ← tcells_drop, List.getElem?_drop, Array.getElem?_toList, show (l.length - k) * 11 + (j - (l.length - k) * 11) = j by omega, h4 j hj]
set_option maxRecDepth 100000 in
set_option maxHeartbeats 2000000 in
theorem delete_c (w : World) (v : Value) (l : List TE) (G : Nat → Prop) (k : Nat) (hrow : Row w v l G) (h0 : 0 < k) (hk : k ≤ l.length) (h100 : l.length ≤ 100) :
    Calls Tryd.prog 27 #[v, .int .i64 0, .int .i64 (k : Int)] w fun e w' => ∃ v', e = .returned v' ∧ Row w' v' (l.drop k) G ∧ Fr G w w' := by
  obtain ⟨g, c, cur, rfl, hGg, _, hlc, hcm, _⟩ := hrow.at_ (by omega)
  have HR := Lib.hid hrow
  obtain ⟨n, hn⟩ : ∃ n, n = l.length := ⟨_, rfl⟩
  rw [← hn] at hlc hk h100 ⊢
  have HN := Lib.hid hn
  have e0 : ((0 : Int) == (k : Int)) = false := by rw [beq_eq_false_iff_ne]; omega
  have hnc : (n : Int) ≤ (c : Int) := by omega
  have hkn : (k : Int) ≤ (n : Int) := by omega
  clear hrow hn
  go_enter Tryd.func27, Tryd.ntmps27
  go_upto_region 5 with fail
  have hkc : k ≤ c := by omega
  refine wp_region_held_drew (S := fun _ => True) (by kernel_rfl) trivial (fun hHeld => ?_)
  refine' tkG (i := 0) (v := _) rfl (by kernel_rfl) (by kernel_rfl) (by kernel_rfl) (fun _ _ _ h => h) (by rfl) ?hy1 (by assumption) ?rest1
  case hy1 => (intro wq hSq; (try dsimp only at hSq); go_simp; try with_reducible rfl)
  simp only [Act.put, List.setIfInBounds_toArray, List.set_cons_zero, List.set_cons_succ]
  refine' tkG (i := 1) (v := _) rfl (by kernel_rfl) (by kernel_rfl) (by kernel_rfl) (fun _ _ _ h => h) (by rfl) ?hy2 (by assumption) ?rest2
  case hy2 => (intro wq hSq; (try dsimp only at hSq); go_simp; try with_reducible rfl)
  simp only [Act.put, List.setIfInBounds_toArray, List.set_cons_zero, List.set_cons_succ]
  refine' tkG (i := 2) (v := _) rfl (by kernel_rfl) (by kernel_rfl) (by kernel_rfl) (fun _ _ _ h => h) (by rfl) ?hy3 (by assumption) ?rest3
  case hy3 => (intro wq hSq; (try dsimp only at hSq); go_simp; try with_reducible rfl)
  simp only [Act.put, List.setIfInBounds_toArray, List.set_cons_zero, List.set_cons_succ]
  refine' tkG (i := 3) (v := _) rfl (by kernel_rfl) (by kernel_rfl) (by kernel_rfl) (fun _ _ _ h => h) (by rfl) ?hy4 (by assumption) ?rest4
  case hy4 => (intro wq hSq; (try dsimp only at hSq); go_simp; try with_reducible rfl)
  simp only [Act.put, List.setIfInBounds_toArray, List.set_cons_zero, List.set_cons_succ]
  refine' tkG (i := 4) (v := _) rfl (by kernel_rfl) (by kernel_rfl) (by kernel_rfl) (fun _ _ _ h => h) (by rfl) ?hy5 (by assumption) ?rest5
  case hy5 => (intro wq hSq; (try dsimp only at hSq); go_simp; try with_reducible rfl)
  simp only [Act.put, List.setIfInBounds_toArray, List.set_cons_zero, List.set_cons_succ]
  refine' tkG (i := 5) (v := _) rfl (by kernel_rfl) (by kernel_rfl) (by kernel_rfl) (fun _ _ _ h => h) (by rfl) ?hy6 (by assumption) ?rest6
  case hy6 => (intro wq hSq; (try dsimp only at hSq); go_simp; try with_reducible rfl)
  simp only [Act.put, List.setIfInBounds_toArray, List.set_cons_zero, List.set_cons_succ]
  obtain ⟨AD, hAD⟩ : ∃ AD : Option Addr, AD = (if c = k then some ⟨g, 0, none⟩ else some ⟨g, k * 11, none⟩) := ⟨_, rfl⟩
  rw [← hAD]
  have hsh := Row.shift (HR.out.fr ((Fr.refl No w).drew) (fun _ _ q => q)) k (by rw [← HN.out]; exact hk) (by rw [← HN.out]; omega) 22 AD (c - k) (fun q => by rw [hAD, if_neg (by have := HN.out; omega)])
  rw [← HN.out] at hsh
  obtain ⟨w5, hrun, hr5, hf5⟩ := hsh
  have HR5 := Lib.hid hr5
  have HF5 := Lib.hid (show Fr G w w5 from ((Fr.refl G w).drew).trans hf5)
  have HRUN := Lib.hid hrun
  clear hAD hrun hr5 hf5
  refine wpAnyH_ready (rs := [6]) (by kernel_rfl) (by simp) ?_
  refine AllReadyH.cons rfl (fun K hK => ?_) AllReadyH.nil
  refine step_append_run rfl (.tmp 22) (.tmp 25) _ rfl _ _ _ rfl rfl HRUN.out ?_
  refine hK.out _ _ trivial (fun hHeld => ?_)
  clear hK K hHeld
  simp only [Act.put, List.setIfInBounds_toArray, List.set_cons_zero, List.set_cons_succ]
  have hHeld : True := trivial
  refine' tkG (i := 7) (v := _) rfl (by kernel_rfl) (by kernel_rfl) (by kernel_rfl) (fun _ _ _ h => h) (by rfl) ?hy7 (by assumption) ?rest7
  case hy7 => (intro wq hSq; (try dsimp only at hSq); go_simp; try with_reducible rfl)
  simp only [Act.put, List.setIfInBounds_toArray, List.set_cons_zero, List.set_cons_succ]
  refine wpAnyH_done (by kernel_rfl) ?_ _
  have e1 : n - k ≤ n := by omega
  have e2 : (n : Int) ≤ (c : Int) := by omega
  have e3 : ((n - k : Nat) : Int) ≤ (n : Int) := by omega
  have e4 : ¬ c = n - k := by omega
  have hl2 : (l.drop k ++ l.drop (n - k)).length = n := by rw [List.length_append, List.length_drop, List.length_drop]; have := HN.out; omega
  have HL2 := Lib.hid hl2
  have HR6 := Lib.hid (show Row w5 (.slice (some ⟨g, 0, none⟩) (l.drop k ++ l.drop (n - k)).length c) (l.drop k ++ l.drop (n - k)) G from by rw [hl2]; exact HR5.out)
  obtain ⟨nk, hnk⟩ : ∃ nk, nk = n - k := ⟨_, rfl⟩
  rw [← hnk] at e1 e3 e4 HL2 HR6 ⊢
  have HNK := Lib.hid hnk
  clear hl2 HR5 hnk hHeld
  go_wp2_with (refine wpList_clear_te rfl _ rfl rfl rfl HR6.out (i := nk) (by rw [HL2.out]; exact e1) (by omega) (by rw [HL2.out]; omega) ?_; intro w6 hr6 hf6)
  go_ret
  have hlen : (l.drop k).length = nk := by rw [List.length_drop]; have := HNK.out; have := HN.out; omega
  rw [List.take_left' hlen] at hr6
  exact ⟨.slice (some ⟨g, 0, none⟩) nk c, rfl, hr6, HF5.out.trans hf6⟩
end Go.Proofs.YtpnabfekidpnoaaDoor

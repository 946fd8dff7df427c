/-
  The document's Put.
-/
import Derived.Test.YtpnabfekidpnoaaDoorTlbS2
import Derived.Test.YtpnabfekidpnoaaDoorTake
import Derived.Test.YtpnabfekidpnoaaDoorBs
namespace Go.Proofs.YtpnabfekidpnoaaDoor
open Go Go.RowKit

theorem infoRE : (Tryd.prog.info? 78).map (·.size) = some 11 := by kernel_rfl
theorem infoRE2 : ∃ i, Tryd.prog.info? 78 = some i ∧ i.zero = some (.agg TE.none_.cells.toArray) ∧ i.size = 11 ∧ i.bytes ≤ 100 := by
  have h : (Tryd.prog.info? 78).map (fun i => (i.zero, i.size, decide (i.bytes ≤ 100))) = some (some (.agg TE.none_.cells.toArray), 11, true) := by kernel_rfl
  obtain ⟨i, hi, hz⟩ := Option.map_eq_some_iff.1 h
  injection hz with h1 h2
  injection h2 with h2 h3
  exact ⟨i, hi, h1, h2, of_decide_eq_true h3⟩
/-- An entry behind a row. -/
theorem RRow.append {w : World} {v : Value} {l m : List TE} {G : Nat → Prop} (h : RRow w v l G) (ty : TypeId) (ao : Option Addr) (c : Nat) (hrd : 0 < m.length → ∃ ad, ao = some ad ∧ ∀ j u, (tcells m)[j]? = some u → w.cell? (ad.add j) = some u) (hn : l.length + m.length ≤ 1000000) :
    ∃ v' w', (Builtin.append_ #[52, 52] ty #[v, .slice ao m.length c]).run Tryd.prog w = .ok v' w' ∧ RRow w' v' (l ++ m) (fun k => G k ∨ k = w.heap.size) ∧ Fr G w w' := by
  obtain ⟨i, hi, hz, hs, hb⟩ := infoRE2
  have hbb : (l.length + m.length) * i.bytes ≤ 1000000 * 100 := Nat.mul_le_mul hn hb
  obtain ⟨v', w', h1, h2, h3⟩ := run_append_head (P := Tryd.prog) w 52 ty 78 i _ 11 i.bytes Tryd.underlying52 hi hz hs rfl rfl v l.length (tcells l) G h ao m.length c (tcells m) hrd (tcells_len m) (tcells_one m) (by unfold maxLen; omega) (by omega)
  refine ⟨v', w', h1, ?_, h3⟩
  unfold RRow
  rw [tcells_app, List.length_append]
  exact h2
theorem wpList_append_re {w : World} {ops : Array Oper} {rest : List Oper} {o : Oper} {a : Act} {Q : Exit → Act → World → Prop} (hgd : o.guard = none) (s x : Operand)
    (ho : o.op = .call { callee := .builtin .append, args := #[s, x], argTypes := #[52, 52] })
    {v : Value} {l : List TE} {G : Nat → Prop} (m : List TE) (ao : Option Addr) (c : Nat) (hs : a.eval s = v) (hx : a.eval x = .slice ao m.length c) (h : RRow w v l G)
    (hrd : 0 < m.length → ∃ ad, ao = some ad ∧ ∀ j u, (tcells m)[j]? = some u → w.cell? (ad.add j) = some u) (hn : l.length + m.length ≤ 1000000)
    (hk : ∀ v' w', RRow w' v' (l ++ m) (fun k => G k ∨ k = w.heap.size) → Fr G w w' → wpList Tryd.prog ops Q rest (a.put o.dst v') w') : wpList Tryd.prog ops Q (o :: rest) a w :=
  wpList_plain hgd fun K hK => by
    obtain ⟨v', w', hrun, h2, h3⟩ := h.append o.type ao c hrd hn
    unfold Oper.wp execOp
    simp only [ho, resolve, invoke, builtin, Sem.run_bind, Sem.run_pure, Result.andThen_ok, List.map_toArray, List.map_cons, List.map_nil, hs, hx, hrun]
    exact hK _ _ (hk v' w' h2 h3)
theorem wpList_bs_re {w : World} {ops : Array Oper} {rest : List Oper} {o : Oper} {a : Act} {Q : Exit → Act → World → Prop} (hgd : o.guard = none) (x : Operand) (ho : o.op = .buildSlice 52 1 #[(0, x)])
    (e : TE) (hx : a.eval x = .agg e.cells.toArray) (h : wpList Tryd.prog ops Q rest (a.put o.dst (.slice (some ⟨w.heap.size, 0, none⟩) 1 1)) (w.alloc (.cells e.cells.toArray 78))) : wpList Tryd.prog ops Q (o :: rest) a w := by
  obtain ⟨i, hi, hz, hs, _⟩ := infoRE2
  exact wpList_buildSlice_one hgd 52 x ho 78 i _ e.cells hx Tryd.underlying52 hi hz hs rfl (by simp [TE.cells_len]) (by simp [TE.cells_len]) h
theorem one_rre (w : World) (e : TE) : 0 < [e].length → ∃ ad, (some ⟨w.heap.size, 0, none⟩ : Option Addr) = some ad ∧ ∀ j u, (tcells [e])[j]? = some u → (w.alloc (.cells e.cells.toArray 78)).cell? (ad.add j) = some u :=
  fun _ => ⟨_, rfl, fun j u hu => by
    rw [addr_add, Nat.zero_add, (Blk.new w _ _).cell, List.getElem?_toArray, ← hu]
    simp [tcells]⟩
theorem refKeep_snoc (R : List TE) (e : TE) (i : Nat) (hi : i < R.length) : refKeep (R.take (i + 1)) e = refKeep (R.take i) e ++ (if e.own R[i] = true then [] else [R[i]]) := by
  unfold refKeep
  rw [← List.take_append_getElem hi, List.filter_append]
  congr 1
  by_cases h : e.own R[i] = true
  · rw [if_pos h, List.filter_cons_of_neg (by simp [h])]; rfl
  · rw [if_neg h, List.filter_cons_of_pos (by simpa using h)]; rfl
theorem refKeep_len (R : List TE) (e : TE) : (refKeep R e).length ≤ R.length := List.length_filter_le _ _
/-- What stands while Put goes on. -/
structure PutW (W : World) (b B0 n ways : Nat) (R : List TE) (vR : Value) (GR : Nat → Prop) (e : TE) : Prop where
  hb : Blk W b 76 #[.int .i64 (n : Int), .int .i64 (ways : Int), vR]
  he : Blk W B0 78 e.cells.toArray
  hr : RRow W vR R GR
theorem PutW.fr {W W' : World} {b B0 n ways : Nat} {R : List TE} {vR : Value} {GR : Nat → Prop} {e : TE} (h : PutW W b B0 n ways R vR GR e) (hf : Fr No W W') : PutW W' b B0 n ways R vR GR e :=
  ⟨h.hb.fr hf (fun q => q), h.he.fr hf (fun q => q), Head.fr h.hr hf (fun _ _ q => q)⟩
theorem PutW.cells {W : World} {b B0 n ways : Nat} {R : List TE} {vR : Value} {GR : Nat → Prop} {e : TE} (h : PutW W b B0 n ways R vR GR e) :
    W.cell? ⟨b, 0, none⟩ = some (.int .i64 (n : Int)) ∧ W.cell? ⟨b, 1, none⟩ = some (.int .i64 (ways : Int)) ∧ W.cell? ⟨b, 2, none⟩ = some vR ∧
    W.cell? ⟨B0, 0, none⟩ = some (.bool e.v) ∧ W.cell? ⟨B0, 1, none⟩ = some (.int .u64 (e.vmid : Int)) ∧ W.cell? ⟨B0, 2, none⟩ = some (.int .u64 (e.asid : Int)) ∧ W.cell? ⟨B0, 4, none⟩ = some (.int .u64 (e.va : Int)) :=
  ⟨h.hb.cell 0, h.hb.cell 1, h.hb.cell 2, h.he.cell 0, h.he.cell 1, h.he.cell 2, h.he.cell 4⟩
set_option maxRecDepth 100000 in
set_option maxHeartbeats 4000000 in
theorem rput_c (w : World) (b n ways : Nat) (R : List TE) (F : Nat → Prop) (e : TE) (h : RTAt w b n ways R F) (hn : 0 < n ∧ n ≤ 64) (hw : 1 ≤ ways ∧ ways ≤ 8) (hR : R.length ≤ 100000) (hv : ∀ x ∈ R, x.va < 18446744073709551616) (he : e.va < 18446744073709551616) :
    Calls Tryd.prog 37 #[.pointer (some ⟨b, 0, none⟩), .agg e.cells.toArray] w fun r w' => r = .returned (.tuple #[]) ∧ RTAt w' b n ways (refPut ways n R e) (Plus F w w') ∧ Fr F w w' := by
  obtain ⟨vR, GR, h1, h2, h3, h4⟩ := h
  obtain ⟨W0, hW0⟩ : ∃ W0, W0 = w.alloc (.cells e.cells.toArray 78) := ⟨_, rfl⟩
  have hF0 : Fr No w W0 := by rw [hW0]; exact (Fr.refl No w).alloc _
  have hPW : PutW W0 b w.heap.size n ways R vR GR e := ⟨h1.fr hF0 (fun q => q), by rw [hW0]; exact Blk.new w _ _, Head.fr h2 hF0 (fun _ _ q => q)⟩
  have hW0s : W0.heap.size = w.heap.size + 1 := by rw [hW0]; simp
  obtain ⟨aR, cR, hvR, hRc, hcm⟩ := RRow.len h2
  have HPW := Lib.hid hPW
  have HF0 := Lib.hid hF0
  have HWS := Lib.hid hW0s
  have HBB := Lib.hid h1.lt
  have HF := Lib.hid (And.intro h3 h4)
  have HV := Lib.hid hv
  have HE := Lib.hid he
  have HNN := Lib.hid hn
  have HW0 := Lib.hid (show w.alloc (.cells #[.bool e.v, .int .u64 (e.vmid : Int), .int .u64 (e.asid : Int), .bool e.gl, .int .u64 (e.va : Int), .int .u64 (e.gpa : Int), .int .u64 (e.pa : Int), .int .i64 e.vl, .int .i64 e.gll, .int .u64 (e.vs : Int), .int .u64 (e.g : Int)] 78) = W0 from hW0.symm)
  obtain ⟨N, hN⟩ : ∃ N, N = R.length := ⟨_, rfl⟩
  rw [← hN] at hvR hRc hR
  subst hvR
  have HN := Lib.hid hN
  have HCE := Lib.hid (fun W (hW : Fr No W0 W) => (hPW.fr hW).cells)
  clear h1 h2 h3 h4 hv he hn hPW hF0 hW0s hW0 hN hRc hcm
  show Calls Tryd.prog 37 #[.pointer (some ⟨b, 0, none⟩), .agg #[.bool e.v, .int .u64 (e.vmid : Int), .int .u64 (e.asid : Int), .bool e.gl, .int .u64 (e.va : Int), .int .u64 (e.gpa : Int), .int .u64 (e.pa : Int), .int .i64 e.vl, .int .i64 e.gll, .int .u64 (e.vs : Int), .int .u64 (e.g : Int)]] w _
  go_enter Tryd.func37, Tryd.ntmps37
  go_wp2_with fail
  rw [HW0.out]
  go_loopw [4, 5, 6] (fun pl pn pi wr => ∃ i t : Nat, i ≤ N ∧ t ≤ i ∧ pn = .int .i64 (t : Int) ∧ pi = .int .i64 (i : Int) ∧ Hid (t = (refKeep (R.take i) e).countP (inSet n e.va)) ∧ Hid (RRow wr pl (refKeep (R.take i) e) (fun k => W0.heap.size ≤ k)) ∧ Hid (Fr No W0 wr)) (fun _ _ pi _ => N - (intOf pi).toNat)
  case atStart => exact ⟨0, 0, Nat.zero_le _, Nat.le_refl _, rfl, rfl, Lib.hid rfl, Lib.hid (Head.nil_ _ _ _ _), Lib.hid (Fr.refl _ _)⟩
  case round =>
    obtain ⟨i, t, hi, hti, rfl, rfl, HT, HL, HFR⟩ := hrel
    obtain ⟨z0, z1, z2, z3, z4, z5, z6⟩ := HCE.out wr HFR.out
    by_cases hlt : i < N
    · have hiL : i < R.length := by have := HN.out; omega
      obtain ⟨g, c, hvs, hGg, hgl, hseg⟩ := HPW.out.hr.at_ (by omega)
      rw [← HN.out] at hvs
      injection hvs with e1 _ e3
      subst e1 e3
      have hks := refKeep_snoc R e i hiL
      have hxv := HV.out _ (List.getElem_mem hiL)
      have hseg2 := fun W hW => hseg W hW i hiL
      obtain ⟨x, hx⟩ : ∃ x, x = R[i] := ⟨_, rfl⟩
      rw [← hx] at hks hxv hseg2
      have HSEG := Lib.hid hseg2
      have HX4 := Lib.hid (show ∀ W, Fr No W0 W → W.cell? ⟨g, i * 11 + 4, none⟩ = some (.int .u64 (x.va : Int)) from fun W hW => (hseg2 W hW).cell rfl)
      have HKS := Lib.hid hks
      have HXV := Lib.hid hxv
      have e1 : IntKind.i64.wrap ((i : Int) + 1) = ((i + 1 : Nat) : Int) := by rw [IntKind.wrap_i64]; omega
      have e2 : IntKind.i64.wrap ((t : Int) + 1) = ((t + 1 : Nat) : Int) := by rw [IntKind.wrap_i64]; omega
      clear hseg hseg2 hks hxv hx hGg hgl
      go_upto_region 7 with fail
      clear z0 z1 z2 z3 z4 z5 z6
      refine wp_region_held_drew (S := fun W => Fr No W0 W) (by kernel_rfl) HFR.out.drew (fun hHeld => ?_)
      refine' tkG (i := 0) (v := _) rfl (by kernel_rfl) (by kernel_rfl) (by kernel_rfl) (fun _ _ _ h => h) (by rfl) ?hy1 (by assumption) ?rest1
      case hy1 => (intro wq hSq; obtain ⟨z0, z1, z2, z3, z4, z5, z6⟩ := HCE.out wq hSq; (try have zx := HX4.out wq hSq); go_simp; try with_reducible rfl)
      simp only [Act.put, List.setIfInBounds_toArray, List.set_cons_zero, List.set_cons_succ]
      refine' tkG (i := 1) (v := _) rfl (by kernel_rfl) (by kernel_rfl) (by kernel_rfl) (fun _ _ _ h => h) (by rfl) ?hy2 (by assumption) ?rest2
      case hy2 => (intro wq hSq; obtain ⟨z0, z1, z2, z3, z4, z5, z6⟩ := HCE.out wq hSq; (try have zx := HX4.out wq hSq); go_simp; try with_reducible rfl)
      simp only [Act.put, List.setIfInBounds_toArray, List.set_cons_zero, List.set_cons_succ]
      refine' tkG (i := 2) (v := _) rfl (by kernel_rfl) (by kernel_rfl) (by kernel_rfl) (fun _ _ _ h => h) (by rfl) ?hy3 (by assumption) ?rest3
      case hy3 => (intro wq hSq; obtain ⟨z0, z1, z2, z3, z4, z5, z6⟩ := HCE.out wq hSq; (try have zx := HX4.out wq hSq); go_simp; try with_reducible rfl)
      simp only [Act.put, List.setIfInBounds_toArray, List.set_cons_zero, List.set_cons_succ]
      refine' tkG (i := 3) (v := _) rfl (by kernel_rfl) (by kernel_rfl) (by kernel_rfl) (fun _ _ _ h => h) (by rfl) ?hy4 (by assumption) ?rest4
      case hy4 => (intro wq hSq; obtain ⟨z0, z1, z2, z3, z4, z5, z6⟩ := HCE.out wq hSq; (try have zx := HX4.out wq hSq); go_simp; try with_reducible rfl)
      simp only [Act.put, List.setIfInBounds_toArray, List.set_cons_zero, List.set_cons_succ]
      refine' tkG (i := 4) (v := _) rfl (by kernel_rfl) (by kernel_rfl) (by kernel_rfl) (fun _ _ _ h => h) (by rfl) ?hy5 (by assumption) ?rest5
      case hy5 => (intro wq hSq; obtain ⟨z0, z1, z2, z3, z4, z5, z6⟩ := HCE.out wq hSq; (try have zx := HX4.out wq hSq); go_simp; try with_reducible rfl)
      simp only [Act.put, List.setIfInBounds_toArray, List.set_cons_zero, List.set_cons_succ]
      refine' tkG (i := 5) (v := _) rfl (by kernel_rfl) (by kernel_rfl) (by kernel_rfl) (fun _ _ _ h => h) (by rfl) ?hy6 (by assumption) ?rest6
      case hy6 => (intro wq hSq; obtain ⟨z0, z1, z2, z3, z4, z5, z6⟩ := HCE.out wq hSq; (try have zx := HX4.out wq hSq); go_simp; try with_reducible rfl)
      simp only [Act.put, List.setIfInBounds_toArray, List.set_cons_zero, List.set_cons_succ]
      refine' tkG (i := 6) (v := .agg x.cells.toArray) rfl (by kernel_rfl) (by kernel_rfl) (by kernel_rfl) (fun _ _ _ h => h) (by rfl) ?hy7 (by assumption) ?rest7
      case hy7 => (intro wq hSq; exact exec_load_seg 78 (.tmp 25) rfl g (i * 11) rfl _ (HSEG.out wq hSq) _ Tryd.underlying78 rfl infoRE)
      simp only [Act.put, List.setIfInBounds_toArray, List.set_cons_zero, List.set_cons_succ]
      refine' tkG (i := 7) (v := _) rfl (by kernel_rfl) (by kernel_rfl) (by kernel_rfl) (fun _ _ _ h => h) (by rfl) ?hy8 (by assumption) ?rest8
      case hy8 => (intro wq hSq; obtain ⟨z0, z1, z2, z3, z4, z5, z6⟩ := HCE.out wq hSq; (try have zx := HX4.out wq hSq); go_simp; try with_reducible rfl)
      simp only [Act.put, List.setIfInBounds_toArray, List.set_cons_zero, List.set_cons_succ]
      refine' tkG (i := 8) (v := _) rfl (by kernel_rfl) (by kernel_rfl) (by kernel_rfl) (fun _ _ _ h => h) (by rfl) ?hy9 (by assumption) ?rest9
      case hy9 => (intro wq hSq; obtain ⟨z0, z1, z2, z3, z4, z5, z6⟩ := HCE.out wq hSq; (try have zx := HX4.out wq hSq); go_simp; try with_reducible rfl)
      simp only [Act.put, List.setIfInBounds_toArray, List.set_cons_zero, List.set_cons_succ]
      refine' tkG (i := 9) (v := _) rfl (by kernel_rfl) (by kernel_rfl) (by kernel_rfl) (fun _ _ _ h => h) (by rfl) ?hy10 (by assumption) ?rest10
      case hy10 => (intro wq hSq; obtain ⟨z0, z1, z2, z3, z4, z5, z6⟩ := HCE.out wq hSq; (try have zx := HX4.out wq hSq); go_simp; try with_reducible rfl)
      simp only [Act.put, List.setIfInBounds_toArray, List.set_cons_zero, List.set_cons_succ]
      refine' tkG (i := 10) (v := _) rfl (by kernel_rfl) (by kernel_rfl) (by kernel_rfl) (fun _ _ _ h => h) (by rfl) ?hy11 (by assumption) ?rest11
      case hy11 => (intro wq hSq; obtain ⟨z0, z1, z2, z3, z4, z5, z6⟩ := HCE.out wq hSq; (try have zx := HX4.out wq hSq); go_simp; try with_reducible rfl)
      simp only [Act.put, List.setIfInBounds_toArray, List.set_cons_zero, List.set_cons_succ]
      refine' tkG (i := 11) (v := _) rfl (by kernel_rfl) (by kernel_rfl) (by kernel_rfl) (fun _ _ _ h => h) (by rfl) ?hy12 (by assumption) ?rest12
      case hy12 => (intro wq hSq; obtain ⟨z0, z1, z2, z3, z4, z5, z6⟩ := HCE.out wq hSq; (try have zx := HX4.out wq hSq); go_simp; try with_reducible rfl)
      simp only [Act.put, List.setIfInBounds_toArray, List.set_cons_zero, List.set_cons_succ]
      refine' tkG (i := 12) (v := _) rfl (by kernel_rfl) (by kernel_rfl) (by kernel_rfl) (fun _ _ _ h => h) (by rfl) ?hy13 (by assumption) ?rest13
      case hy13 => (intro wq hSq; obtain ⟨z0, z1, z2, z3, z4, z5, z6⟩ := HCE.out wq hSq; (try have zx := HX4.out wq hSq); go_simp; try with_reducible rfl)
      simp only [Act.put, List.setIfInBounds_toArray, List.set_cons_zero, List.set_cons_succ]
      refine' tkG (i := 13) (v := _) rfl (by kernel_rfl) (by kernel_rfl) (by kernel_rfl) (fun _ _ _ h => h) (by rfl) ?hy14 (by assumption) ?rest14
      case hy14 => (intro wq hSq; obtain ⟨z0, z1, z2, z3, z4, z5, z6⟩ := HCE.out wq hSq; (try have zx := HX4.out wq hSq); go_simp; try with_reducible rfl)
      simp only [Act.put, List.setIfInBounds_toArray, List.set_cons_zero, List.set_cons_succ]
      refine' tkG (i := 14) (v := _) rfl (by kernel_rfl) (by kernel_rfl) (by kernel_rfl) (fun _ _ _ h => h) (by rfl) ?hy15 (by assumption) ?rest15
      case hy15 => (intro wq hSq; obtain ⟨z0, z1, z2, z3, z4, z5, z6⟩ := HCE.out wq hSq; (try have zx := HX4.out wq hSq); go_simp; try with_reducible rfl)
      simp only [Act.put, List.setIfInBounds_toArray, List.set_cons_zero, List.set_cons_succ]
      refine wpAnyH_ready (rs := [15]) (by kernel_rfl) (by simp) ?_
      refine AllReadyH.cons rfl (fun K hK => ?_) AllReadyH.nil
      go_simp
      refine (rIs_c wr.drew x e.v e.vmid e.asid e.va HXV.out HE.out).mono ?_
      rintro r w4 ⟨rfl, hf4⟩
      have HF4 := Lib.hid (show Fr No W0 w4 from HFR.out.drew.trans hf4)
      have HL4 := Lib.hid (Head.fr HL.out ((Fr.refl No wr).drew.trans hf4) (fun _ _ q => q))
      obtain ⟨ow, how⟩ : ∃ ow, ow = e.own x := ⟨_, rfl⟩
      have hans : x.ans e.v e.vmid e.asid e.va = ow := how.symm
      rw [hans]
      have HOW := Lib.hid how
      clear hans how hf4
      go_simp
      refine hK.out _ _ HF4.out (fun hHeld2 => ?_)
      clear hK K hHeld hHeld2
      try simp only [List.setIfInBounds_toArray, List.set_cons_zero, List.set_cons_succ]
      refine wpAnyH_done (by kernel_rfl) ?_ _
      obtain ⟨z0, z1, z2, z3, z4, z5, z6⟩ := HCE.out w4 HF4.out
      cases ow with
      | true =>
        go_wp2_with fail
        refine ⟨⟨i + 1, t, by omega, by omega, rfl, rfl, Lib.hid ?_, Lib.hid ?_, HF4⟩, by simp [intOf]; omega⟩
        · rw [HKS.out, if_pos HOW.out.symm, List.append_nil]; exact HT.out
        · rw [HKS.out, if_pos HOW.out.symm, List.append_nil]; exact HL4.out
      | false =>
        go_wp2_with (first
          | (refine wpList_load_seg rfl 78 _ rfl g (i * 11) rfl _ (HSEG.out w4 HF4.out) _ Tryd.underlying78 rfl infoRE ?_)
          | (refine wpList_bs_re rfl (.tmp 43) rfl x rfl ?_)
          | (at_builtin
             refine wpList_append_re rfl (.tmp 36) (.tmp 44) rfl [x] _ _ rfl rfl (Head.fr HL4.out ((Fr.refl No w4).alloc _) (fun _ _ q => q)) (one_rre w4 x) (by have := refKeep_len (R.take i) e; rw [List.length_take] at this; simp; omega) ?_
             intro v5 w5 hr5 hf5
             have hf05 : Fr No W0 w5 := (HF4.out.alloc _).andThen hf5 (fun k hk q => by have q2 : W0.heap.size ≤ k := q; omega)
             have HF5 := Lib.hid hf05
             have HL5 := Lib.hid (show RRow w5 v5 (refKeep (R.take (i + 1)) e) (fun k => W0.heap.size ≤ k) from by
               rw [HKS.out, if_neg (by rw [← HOW.out]; simp)]
               refine Head.mono hr5 (fun k hk => hk.elim id (fun q => ?_))
               rw [q, World.size_alloc]
               have := HF4.out.size
               omega)
             clear hr5 hf5 hf05))
        obtain ⟨z0, z1, z2, z3, z4, z5, z6⟩ := HCE.out w5 HF5.out
        have zx := HX4.out w5 HF5.out
        obtain ⟨s1, hs1⟩ : ∃ s1, s1 = setOf n x.va := ⟨_, rfl⟩
        obtain ⟨s2, hs2⟩ : ∃ s2, s2 = setOf n e.va := ⟨_, rfl⟩
        have H7 := Lib.hid (show ∀ k, Calls Tryd.prog 42 #[.pointer (some ⟨b, 0, none⟩), .int .u64 (x.va : Int)] (w5.drewN k) fun r w' => r = .returned (.int .u64 (s1 : Int)) ∧ w5.drewN k = w' from fun k => by rw [hs1]; exact rset_c _ b n x.va z0 HNN.out.1 HNN.out.2 HXV.out)
        have H8 := Lib.hid (show ∀ k, Calls Tryd.prog 42 #[.pointer (some ⟨b, 0, none⟩), .int .u64 (e.va : Int)] (w5.drewN k) fun r w' => r = .returned (.int .u64 (s2 : Int)) ∧ w5.drewN k = w' from fun k => by rw [hs2]; exact rset_c _ b n e.va z0 HNN.out.1 HNN.out.2 HE.out)
        have HTT := Lib.hid (show (if s1 = s2 then t + 1 else t) = (refKeep (R.take (i + 1)) e).countP (inSet n e.va) from by
          rw [HKS.out, if_neg (show ¬ e.own x = true from by rw [← HOW.out]; simp), List.countP_append, ← HT.out, List.countP_cons, List.countP_nil, Nat.zero_add]
          unfold inSet
          rw [← hs1, ← hs2]
          by_cases h : s1 = s2
          · rw [if_pos h, if_pos (by rw [h]; simp)]
          · rw [if_neg h, if_neg (by simpa using h)]; rfl)
        clear hs1 hs2
        go_quiet ((go_at_call 42; first | with_reducible exact quiet_eq (H7.out _) | with_reducible exact quiet_eq (H8.out _)))
        by_cases hss : s1 = s2
        · subst hss
          go_wp2_with fail
          refine ⟨⟨i + 1, t + 1, by omega, by omega, by simp, by simp, Lib.hid ?_, HL5, Lib.hid (HF5.out.drewN _)⟩, by simp [intOf]; omega⟩
          have := HTT.out
          rwa [if_pos rfl] at this
        · have hss2 : ((s1 : Int) == (s2 : Int)) = false := by simp; omega
          have HSS := Lib.hid hss
          clear hss
          go_wp2_with fail
          refine ⟨⟨i + 1, t, by omega, by omega, rfl, by simp, Lib.hid ?_, HL5, Lib.hid (HF5.out.drewN _)⟩, by simp [intOf]; omega⟩
          have := HTT.out
          rwa [if_neg HSS.out] at this
    · obtain rfl : i = N := by omega
      have hKL := HL.out
      have hKT := HT.out
      rw [HN.out, List.take_length] at hKL hKT
      go_upto_region 12 with fail
      obtain ⟨K, hK⟩ : ∃ K, K = refKeep R e := ⟨_, rfl⟩
      have hKm : ∀ y ∈ K, y.va < 18446744073709551616 := fun y hy => HV.out y (by rw [hK] at hy; exact (List.mem_filter.1 hy).1)
      have hKl : K.length ≤ i := by rw [hK, HN.out]; exact refKeep_len R e
      have hfin : refPut ways n R e = (K.foldl (cutS n ways e.va) ([], t)).1 ++ [e] := by unfold refPut; rw [← hKT, hK]
      rw [← hK] at hKL hKT
      obtain ⟨W1, hW1⟩ : ∃ W1, W1 = wr := ⟨_, rfl⟩
      rw [← hW1] at hKL HFR ⊢
      obtain ⟨aK, cK, hvK, hKc, hcmK⟩ := RRow.len hKL
      obtain ⟨M, hM⟩ : ∃ M, M = K.length := ⟨_, rfl⟩
      rw [← hM] at hvK hKc hKl
      subst hvK
      have HMM := Lib.hid hM
      have HKM := Lib.hid hKm
      have HFIN := Lib.hid hfin
      have HKL := Lib.hid hKL
      have HFR1 := Lib.hid HFR.out
      clear HT HL hKT hK hKm hfin hKL hW1 hKc hcmK z0 z1 z2 z3 z4 z5 z6 HFR hM
      go_wp2_with fail
      go_loopw [5, 7, 8] (fun pn pm pj wz => ∃ (j s : Nat) (A : List TE), j ≤ M ∧ s ≤ t ∧ pn = .int .i64 (s : Int) ∧ pj = .int .i64 (j : Int) ∧ Hid ((A, s) = (K.take j).foldl (cutS n ways e.va) ([], t)) ∧ Hid (A.length ≤ j) ∧ Hid (RRow wz pm A (fun k => W1.heap.size ≤ k)) ∧ Hid (Fr No W1 wz)) (fun _ _ pj _ => M - (intOf pj).toNat)
      case atStart => exact ⟨0, t, [], Nat.zero_le _, Nat.le_refl _, rfl, rfl, Lib.hid rfl, Lib.hid (by simp), Lib.hid (Head.nil_ _ _ _ _), Lib.hid (Fr.refl _ _)⟩
      case round =>
        obtain ⟨j, s, A, hj, hst, rfl, rfl, HA, HAL, HM, HFZ⟩ := hrel
        by_cases hlt2 : j < M
        · have hjK : j < K.length := by have := HMM.out; omega
          obtain ⟨g, c, hvs, hGg, hgl, hseg⟩ := HKL.out.at_ (by omega)
          rw [← HMM.out] at hvs
          injection hvs with e1 _ e3
          subst e1 e3
          have hxv := HKM.out _ (List.getElem_mem hjK)
          have hseg2 := fun W hW => hseg W hW j hjK
          have hcs : (K.take (j + 1)).foldl (cutS n ways e.va) ([], t) = cutS n ways e.va (A, s) K[j] := by
            rw [← List.take_append_getElem hjK, List.foldl_append, ← HA.out]
            rfl
          obtain ⟨x, hx⟩ : ∃ x, x = K[j] := ⟨_, rfl⟩
          rw [← hx] at hxv hseg2 hcs
          have zx : wr.cell? ⟨g, j * 11 + 4, none⟩ = some (.int .u64 (x.va : Int)) := (hseg2 wr HFZ.out).cell rfl
          have HSEG := Lib.hid hseg2
          have HCS := Lib.hid hcs
          have HXV := Lib.hid hxv
          have e1 : IntKind.i64.wrap ((j : Int) + 1) = ((j + 1 : Nat) : Int) := by rw [IntKind.wrap_i64]; omega
          clear hseg hseg2 hcs hxv hx hGg hgl
          obtain ⟨z0, z1, z2, z3, z4, z5, z6⟩ := HCE.out wr (HFR1.out.trans HFZ.out)
          obtain ⟨s1, hs1⟩ : ∃ s1, s1 = setOf n x.va := ⟨_, rfl⟩
          obtain ⟨s2, hs2⟩ : ∃ s2, s2 = setOf n e.va := ⟨_, rfl⟩
          have H7 := Lib.hid (show ∀ k, Calls Tryd.prog 42 #[.pointer (some ⟨b, 0, none⟩), .int .u64 (x.va : Int)] (wr.drewN k) fun r w' => r = .returned (.int .u64 (s1 : Int)) ∧ wr.drewN k = w' from fun k => by rw [hs1]; exact rset_c _ b n x.va z0 HNN.out.1 HNN.out.2 HXV.out)
          have H8 := Lib.hid (show ∀ k, Calls Tryd.prog 42 #[.pointer (some ⟨b, 0, none⟩), .int .u64 (e.va : Int)] (wr.drewN k) fun r w' => r = .returned (.int .u64 (s2 : Int)) ∧ wr.drewN k = w' from fun k => by rw [hs2]; exact rset_c _ b n e.va z0 HNN.out.1 HNN.out.2 HE.out)
          have HIN := Lib.hid (show inSet n e.va x = true ↔ s1 = s2 from by unfold inSet; rw [← hs1, ← hs2, beq_iff_eq])
          clear hs1 hs2
          by_cases hge : ways ≤ s
          · have d1 : decide (ways ≤ s) = true := by rw [decide_eq_true_iff]; exact hge
            go_upto_region 15 with fail
            go_quiet ((go_at_call 42; first | with_reducible exact quiet_eq (H7.out _) | with_reducible exact quiet_eq (H8.out _)))
            by_cases hss : s1 = s2
            · subst hss
              go_wp2_with fail
              have e4 : cutS n ways e.va (A, s) x = (A, s - 1) := by unfold cutS; rw [if_pos ⟨hge, HIN.out.2 rfl⟩]
              have e5 : IntKind.i64.wrap ((s : Int) - 1) = ((s - 1 : Nat) : Int) := by rw [IntKind.wrap_i64]; omega
              refine ⟨⟨j + 1, s - 1, A, by omega, by omega, by simp; omega, by simp, Lib.hid (by rw [HCS.out, e4]), Lib.hid (by have := HAL.out; omega), Lib.hid (Head.fr HM.out ((Fr.refl No wr).drewN _) (fun _ _ q => q)), Lib.hid (HFZ.out.drewN _)⟩, by simp [intOf]; omega⟩
            · have hss2 : ((s1 : Int) == (s2 : Int)) = false := by simp; omega
              have e4 : cutS n ways e.va (A, s) x = (A ++ [x], s) := by unfold cutS; rw [if_neg (fun q => hss (HIN.out.1 q.2))]
              have HE4 := Lib.hid e4
              clear hss e4 z0 z1 z2 z3 z4 z5 z6 zx
              go_wp2_with (first
                | (refine wpList_load_seg rfl 78 (.tmp 94) rfl g (j * 11) rfl _ (HSEG.out _ (HFZ.out.drewN _)) _ Tryd.underlying78 rfl infoRE ?_)
                | (refine wpList_bs_re rfl (.tmp 95) rfl x rfl ?_)
                | (at_builtin
                   refine wpList_append_re rfl (.tmp 91) (.tmp 96) rfl [x] _ _ rfl rfl (Head.fr HM.out (((Fr.refl No wr).drewN _).alloc _) (fun _ _ q => q)) (one_rre (wr.drewN _) x) (by have := HAL.out; simp; omega) ?_
                   intro v5 w5 hr5 hf5
                   have hf05 : Fr No W1 w5 := ((HFZ.out.drewN _).alloc _).andThen hf5 (fun k hk q => by have q2 : W1.heap.size ≤ k := q; omega)
                   have HF5 := Lib.hid hf05
                   have HL5 := Lib.hid (show RRow w5 v5 (A ++ [x]) (fun k => W1.heap.size ≤ k) from by
                     refine Head.mono hr5 (fun k hk => hk.elim id (fun q => ?_))
                     rw [q, World.size_alloc]
                     have := HFZ.out.size
                     exact Nat.le_trans this (Nat.le_succ _))
                   clear hr5 hf5 hf05))
              exact ⟨⟨j + 1, s, A ++ [x], by omega, by omega, rfl, by simp, Lib.hid (by rw [HCS.out, HE4.out]), Lib.hid (by have := HAL.out; simp; omega), HL5, HF5⟩, by simp [intOf]; omega⟩
          · have d1 : decide (ways ≤ s) = false := by rw [decide_eq_false_iff_not]; exact hge
            have e4 : cutS n ways e.va (A, s) x = (A ++ [x], s) := by unfold cutS; rw [if_neg (fun q => hge q.1)]
            have HE4 := Lib.hid e4
            go_upto_region 15 with fail
            go_quiet (fail)
            clear e4 z0 z1 z2 z3 z4 z5 z6 zx
            go_wp2_with (first
              | (refine wpList_load_seg rfl 78 (.tmp 94) rfl g (j * 11) rfl _ (HSEG.out _ (HFZ.out.drewN _)) _ Tryd.underlying78 rfl infoRE ?_)
              | (refine wpList_bs_re rfl (.tmp 95) rfl x rfl ?_)
              | (at_builtin
                 refine wpList_append_re rfl (.tmp 91) (.tmp 96) rfl [x] _ _ rfl rfl (Head.fr HM.out (((Fr.refl No wr).drewN _).alloc _) (fun _ _ q => q)) (one_rre (wr.drewN _) x) (by have := HAL.out; simp; omega) ?_
                 intro v5 w5 hr5 hf5
                 have hf05 : Fr No W1 w5 := ((HFZ.out.drewN _).alloc _).andThen hf5 (fun k hk q => by have q2 : W1.heap.size ≤ k := q; omega)
                 have HF5 := Lib.hid hf05
                 have HL5 := Lib.hid (show RRow w5 v5 (A ++ [x]) (fun k => W1.heap.size ≤ k) from by
                   refine Head.mono hr5 (fun k hk => hk.elim id (fun q => ?_))
                   rw [q, World.size_alloc]
                   have := HFZ.out.size
                   exact Nat.le_trans this (Nat.le_succ _))
                 clear hr5 hf5 hf05))
            exact ⟨⟨j + 1, s, A ++ [x], by omega, by omega, rfl, by simp, Lib.hid (by rw [HCS.out, HE4.out]), Lib.hid (by have := HAL.out; simp; omega), HL5, HF5⟩, by simp [intOf]; omega⟩
        · obtain rfl : j = M := by omega
          have hA := HA.out
          rw [HMM.out, List.take_length] at hA
          have hfin := HFIN.out
          rw [← hA] at hfin
          have HFIN2 := Lib.hid hfin
          have HF0r := Lib.hid (HFR1.out.trans HFZ.out)
          have HPr := Lib.hid (HPW.out.fr HF0r.out)
          have HSe := Lib.hid (show Seg wr w.heap.size 0 e.cells from Seg.of_blk HPr.out.he)
          have HAN := Lib.hid (show A.length ≤ 100000 from by have := HAL.out; omega)
          clear hA hfin hi hlt hj hlt2
          go_wp2_with (first
            | (refine wpList_load_seg rfl 78 (.tmp 3) rfl w.heap.size 0 rfl _ HSe.out _ Tryd.underlying78 rfl infoRE ?_)
            | (refine wpList_bs_re rfl (.tmp 100) rfl e rfl ?_)
            | (at_builtin
               refine wpList_append_re rfl (.tmp 99) (.tmp 101) rfl [e] _ _ rfl rfl (Head.fr HM.out ((Fr.refl No wr).alloc _) (fun _ _ q => q)) (one_rre wr e) (by have := HAN.out; simp; omega) ?_
               intro v5 w5 hr5 hf5
               have hf05 : Fr No W1 w5 := (HFZ.out.alloc _).andThen hf5 (fun k hk q => by have q2 : W1.heap.size ≤ k := q; omega)
               have HF5 := Lib.hid (HFR1.out.trans hf05)
               have hb5 := (HPW.out.fr HF5.out).hb
               have f5 := hb5.free
               have y2 : w5.cell? ⟨b, 2, none⟩ = some (.slice aR i cR) := hb5.cell 2
               have HB5 := Lib.hid hb5
               have hcut := Head.cut hr5
               obtain ⟨a5, c5, hv5, _, _⟩ := RRow.len hr5
               obtain ⟨n5, hn5⟩ : ∃ n5, n5 = (A ++ [e]).length := ⟨_, rfl⟩
               rw [← hn5] at hv5
               subst hv5
               have HL5 := Lib.hid (show RRow w5 (.slice a5 n5 c5) (A ++ [e]) (fun k => W1.heap.size ≤ k ∧ k < w5.heap.size) from by
                 refine Head.mono hcut (fun k hk => ⟨hk.1.elim id (fun q => ?_), hk.2⟩)
                 rw [q, World.size_alloc]
                 exact Nat.le_trans HFZ.out.size (Nat.le_succ _))
               clear hr5 hf5 hf05 hb5 hcut hn5))
          go_end0
          have hsz1 := HFR1.out.size
          have hsz2 := HWS.out
          have hbb := HBB.out
          have hfw : Fr No w w5 := HF0.out.trans HF5.out
          have hbF := HF.out.1
          refine ⟨rfl, ⟨.slice a5 n5 c5, fun k => W1.heap.size ≤ k ∧ k < w5.heap.size, HB5.out.put 2 _, ?_, .inl hbF, fun k hk => ⟨.inr ⟨by omega, by rw [World.size_setCell]; exact hk.2⟩, by omega⟩⟩, (hfw.mono (fun _ _ q => q.elim)).setCell (.inl hbF) _⟩
          rw [HFIN2.out]
          exact Head.fr HL5.out (Fr.put w5 b 2 _) (fun k hk q => by have q2 : k = b := q; omega)
end Go.Proofs.YtpnabfekidpnoaaDoor

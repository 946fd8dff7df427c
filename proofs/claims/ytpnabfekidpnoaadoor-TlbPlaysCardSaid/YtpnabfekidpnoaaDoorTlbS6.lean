/-
  The document's Get and Entries.
-/
import Derived.Test.YtpnabfekidpnoaaDoorTlbS4
namespace Go.Proofs.YtpnabfekidpnoaaDoor
open Go Go.RowKit

theorem refGet_cut (R : List TE) (v : Bool) (vmid asid va : Nat) : ∀ (i : Nat) (_ : i ≤ R.length), (∀ j (hj : j < R.length), i ≤ j → (R[j]).ans v vmid asid va = false) → refGet R v vmid asid va = refGet (R.take i) v vmid asid va := by
  intro i hi h
  unfold refGet
  have e : R.reverse.find? (fun x => x.ans v vmid asid va) = ((R.drop i).reverse ++ (R.take i).reverse).find? (fun x => x.ans v vmid asid va) := by
    rw [← List.reverse_append, List.take_append_drop]
  rw [e, List.find?_append]
  have hn : (R.drop i).reverse.find? (fun x => x.ans v vmid asid va) = none := by
    rw [List.find?_eq_none]
    intro x hx
    rw [List.mem_reverse] at hx
    obtain ⟨j, hj, rfl⟩ := List.getElem_of_mem hx
    rw [List.length_drop] at hj
    rw [List.getElem_drop, h (i + j) (by omega) (by omega)]
    simp
  rw [hn]
  rfl
theorem refGet_last (R : List TE) (v : Bool) (vmid asid va : Nat) (i : Nat) (hi : i < R.length) (h : (R[i]).ans v vmid asid va = true) : refGet (R.take (i + 1)) v vmid asid va = some R[i] := by
  unfold refGet
  rw [← List.take_append_getElem hi, List.reverse_append]
  exact List.find?_cons_of_pos h
def rgetV (o : Option TE) : Array Value := (o.getD TE.none_).cells.toArray
set_option maxRecDepth 100000 in
set_option maxHeartbeats 2000000 in
theorem rget_c (w : World) (b n ways : Nat) (R : List TE) (F : Nat → Prop) (v : Bool) (vmid asid va : Nat) (h : RTAt w b n ways R F) (hR : R.length ≤ 100000) (hv : ∀ x ∈ R, x.va < 18446744073709551616) (hva : va < 18446744073709551616) :
    Calls Tryd.prog 38 #[.pointer (some ⟨b, 0, none⟩), .bool v, .int .u64 (vmid : Int), .int .u64 (asid : Int), .int .u64 (va : Int)] w fun r w' => r = .returned (getRes (refGet R v vmid asid va)) ∧ Fr No w w' := by
  obtain ⟨vR, GR, h1, h2, h3, h4⟩ := h
  obtain ⟨aR, cR, hvR, hRc, hcm⟩ := RRow.len h2
  have HB := Lib.hid h1
  have HR2 := Lib.hid h2
  have HV := Lib.hid hv
  have HVA := Lib.hid hva
  obtain ⟨N, hN⟩ : ∃ N, N = R.length := ⟨_, rfl⟩
  rw [← hN] at hvR hRc hR
  subst hvR
  have HN := Lib.hid hN
  clear h1 h2 h3 h4 hN hRc hcm hv hva
  obtain ⟨W0, hW0⟩ : ∃ W0, W0 = w.alloc (.cells TE.none_.cells.toArray 78) := ⟨_, rfl⟩
  have HW0 := Lib.hid (show w.alloc (.cells #[.bool false, .int .u64 0, .int .u64 0, .bool false, .int .u64 0, .int .u64 0, .int .u64 0, .int .i64 0, .int .i64 0, .int .u64 0, .int .u64 0] 78) = W0 from hW0.symm)
  have HF0 := Lib.hid (show Fr No w W0 from by rw [hW0]; exact (Fr.refl No w).alloc _)
  have HX0 := Lib.hid (show Blk W0 w.heap.size 78 TE.none_.cells.toArray from by rw [hW0]; exact Blk.new w _ _)
  clear hW0
  have e0 : wrap64 ((N : Int) - 1) = (N : Int) - 1 := by unfold wrap64; omega
  go_enter Tryd.func38, Tryd.ntmps38
  go_upto_region 1 with fail
  rw [HW0.out]
  have z2 : W0.cell? ⟨b, 2, none⟩ = some (.slice aR N cR) := (HB.out.fr HF0.out (fun q => q)).cell 2
  go_wp2_with fail
  clear z2
  go_loopw [12] (fun pi wr => ∃ (i : Nat), i ≤ N ∧ pi = .int .i64 ((i : Int) - 1) ∧ Hid (refGet R v vmid asid va = refGet (R.take i) v vmid asid va) ∧ Hid (Fr No W0 wr)) (fun pi _ => (intOf pi + 1).toNat)
  case atStart => exact ⟨N, Nat.le_refl _, by first | rfl | (rw [e0]), Lib.hid (by rw [HN.out, List.take_length]), Lib.hid (Fr.refl _ _)⟩
  case round =>
    obtain ⟨i, hi, rfl, HG, HFR⟩ := hrel
    have z2 : wr.cell? ⟨b, 2, none⟩ = some (.slice aR N cR) := (HB.out.fr (HF0.out.trans HFR.out) (fun q => q)).cell 2
    by_cases hlt : 0 < i
    · obtain ⟨j, rfl⟩ : ∃ j, i = j + 1 := ⟨i - 1, by omega⟩
      have ej : (((j + 1 : Nat) : Int) - 1) = (j : Int) := by omega
      rw [ej]
      have hjR : j < R.length := by have := HN.out; omega
      have hjN : j < N := by omega
      obtain ⟨g, c, hvs, hGg, hgl, hseg⟩ := HR2.out.at_ (by omega)
      rw [← HN.out] at hvs
      injection hvs with e1 _ e3
      subst e1 e3
      have hseg2 := hseg
      have hxv := HV.out _ (List.getElem_mem hjR)
      have hlast := refGet_last R v vmid asid va j hjR
      have hcut := refGet_cut (R.take (j + 1)) v vmid asid va j (by rw [List.length_take]; omega)
      obtain ⟨x, hx⟩ : ∃ x, x = R[j] := ⟨_, rfl⟩
      have hsx : ∀ W, Fr No w W → Seg W g (j * 11) x.cells := fun W hW => by rw [hx]; exact hseg W hW j hjR
      rw [← hx] at hxv hlast
      obtain ⟨q, hq⟩ : ∃ q, q = x.ans v vmid asid va := ⟨_, rfl⟩
      rw [← hq] at hlast
      have hmiss : q = false → refGet R v vmid asid va = refGet (R.take j) v vmid asid va := fun hf => by
        rw [HG.out, hcut (fun k hk hjk => by
          rw [List.length_take] at hk
          obtain rfl : k = j := by omega
          rw [List.getElem_take, ← hx, ← hq, hf]), List.take_take, Nat.min_eq_left (by omega)]
      have HRI := Lib.hid (show ∀ W, Calls Tryd.prog 48 #[.agg x.cells.toArray, .bool v, .int .u64 (vmid : Int), .int .u64 (asid : Int), .int .u64 (va : Int)] W fun r w' => r = .returned (.bool q) ∧ Fr No W w' from fun W => by rw [hq]; exact rIs_c W x v vmid asid va hxv HVA.out)
      have HSEG := Lib.hid hsx
      have HLAST := Lib.hid hlast
      have HMISS := Lib.hid hmiss
      have e2 : IntKind.i64.wrap ((j : Int) - 1) = (j : Int) - 1 := by rw [IntKind.wrap_i64]; omega
      clear hseg hseg2 hsx hxv hlast hcut hmiss hx hq hGg hgl ej
      go_wp2_with (first
        | (refine wpList_load_seg rfl 78 _ rfl g (j * 11) rfl _ (HSEG.out wr (HF0.out.trans HFR.out)) _ Tryd.underlying78 rfl infoRE ?_))
      refine (HRI.out _).mono ?_
      rintro r w4 ⟨rfl, hf4⟩
      have HF4 := Lib.hid (HFR.out.trans hf4)
      clear hf4
      have z3 : w4.cell? ⟨b, 2, none⟩ = some (.slice (some ⟨g, 0, none⟩) N cR) := (HB.out.fr (HF0.out.trans HF4.out) (fun q => q)).cell 2
      cases q with
      | true =>
        have HX4 := Lib.hid (HX0.out.fr HF4.out (fun q => q))
        have HLAST2 := Lib.hid (HLAST.out rfl)
        go_wp2_with (first
          | (refine wpList_load_seg rfl 78 _ rfl g (j * 11) rfl _ (HSEG.out w4 (HF0.out.trans HF4.out)) _ Tryd.underlying78 rfl infoRE ?_)
          | (refine wpList_store_row rfl 78 _ _ rfl _ _ rfl rfl _ _ HX4.out infoRE rfl (all_oneCell_toArray x.cells_one) ?_))
        have HRES := Lib.hid (HG.out.trans HLAST2.out)
        obtain ⟨X, hX⟩ : ∃ X, X = World.setRow w4 w.heap.size x.cells.toArray := ⟨_, rfl⟩
        have rX : Blk X w.heap.size 78 x.cells.toArray := by rw [hX]; exact HX4.out.row _
        have kf : Fr No w X := by rw [hX]; exact (HF0.out.trans HF4.out).andThen (Fr.row _) (fun k hk q => by have q2 : k = w.heap.size := q; omega)
        rw [← hX]
        have y0 : X.cell? ⟨w.heap.size, 0, none⟩ = some (.bool x.v) := rX.cell 0
        have y1 : X.cell? ⟨w.heap.size, 1, none⟩ = some (.int .u64 (x.vmid : Int)) := rX.cell 1
        have y2 : X.cell? ⟨w.heap.size, 2, none⟩ = some (.int .u64 (x.asid : Int)) := rX.cell 2
        have y3 : X.cell? ⟨w.heap.size, 3, none⟩ = some (.bool x.gl) := rX.cell 3
        have y4 : X.cell? ⟨w.heap.size, 4, none⟩ = some (.int .u64 (x.va : Int)) := rX.cell 4
        have y5 : X.cell? ⟨w.heap.size, 5, none⟩ = some (.int .u64 (x.gpa : Int)) := rX.cell 5
        have y6 : X.cell? ⟨w.heap.size, 6, none⟩ = some (.int .u64 (x.pa : Int)) := rX.cell 6
        have y7 : X.cell? ⟨w.heap.size, 7, none⟩ = some (.int .i64 x.vl) := rX.cell 7
        have y8 : X.cell? ⟨w.heap.size, 8, none⟩ = some (.int .i64 x.gll) := rX.cell 8
        have y9 : X.cell? ⟨w.heap.size, 9, none⟩ = some (.int .u64 (x.vs : Int)) := rX.cell 9
        have y10 : X.cell? ⟨w.heap.size, 10, none⟩ = some (.int .u64 (x.g : Int)) := rX.cell 10
        clear hX rX
        refine bodyPost_ret (v := getRes (some x)) ?_ rfl ⟨by rw [HRES.out], kf⟩
        simp [results, Tryd.f38, go_sem, y0, y1, y2, y3, y4, y5, y6, y7, y8, y9, y10, getRes]
        rfl
      | false =>
        go_wp2_with fail
        exact ⟨⟨j, by omega, by simp, Lib.hid (by first | exact HMISS.out rfl | exact HMISS.out trivial), HF4⟩, by simp [intOf]⟩
    · obtain rfl : i = 0 := by omega
      have hnone : refGet R v vmid asid va = none := by rw [HG.out]; rfl
      have HNONE := Lib.hid hnone
      have HX4 := Lib.hid (HX0.out.fr HFR.out (fun q => q))
      clear hnone
      go_wp2_with (first
          | (refine wpList_store_row rfl 78 _ _ rfl _ _ rfl rfl _ _ HX4.out infoRE rfl (by kernel_rfl) ?_))
      obtain ⟨X, hX⟩ : ∃ X, X = World.setRow wr w.heap.size #[.bool false, .int .u64 0, .int .u64 0, .bool false, .int .u64 0, .int .u64 0, .int .u64 0, .int .i64 0, .int .i64 0, .int .u64 0, .int .u64 0] := ⟨_, rfl⟩
      have rX : Blk X w.heap.size 78 #[.bool false, .int .u64 0, .int .u64 0, .bool false, .int .u64 0, .int .u64 0, .int .u64 0, .int .i64 0, .int .i64 0, .int .u64 0, .int .u64 0] := by rw [hX]; exact HX4.out.row _
      have kf : Fr No w X := by rw [hX]; exact (HF0.out.trans HFR.out).andThen (Fr.row _) (fun k hk q => by have q2 : k = w.heap.size := q; omega)
      rw [← hX]
      have y0 : X.cell? ⟨w.heap.size, 0, none⟩ = some (.bool TE.none_.v) := rX.cell 0
      have y1 : X.cell? ⟨w.heap.size, 1, none⟩ = some (.int .u64 (TE.none_.vmid : Int)) := rX.cell 1
      have y2 : X.cell? ⟨w.heap.size, 2, none⟩ = some (.int .u64 (TE.none_.asid : Int)) := rX.cell 2
      have y3 : X.cell? ⟨w.heap.size, 3, none⟩ = some (.bool TE.none_.gl) := rX.cell 3
      have y4 : X.cell? ⟨w.heap.size, 4, none⟩ = some (.int .u64 (TE.none_.va : Int)) := rX.cell 4
      have y5 : X.cell? ⟨w.heap.size, 5, none⟩ = some (.int .u64 (TE.none_.gpa : Int)) := rX.cell 5
      have y6 : X.cell? ⟨w.heap.size, 6, none⟩ = some (.int .u64 (TE.none_.pa : Int)) := rX.cell 6
      have y7 : X.cell? ⟨w.heap.size, 7, none⟩ = some (.int .i64 TE.none_.vl) := rX.cell 7
      have y8 : X.cell? ⟨w.heap.size, 8, none⟩ = some (.int .i64 TE.none_.gll) := rX.cell 8
      have y9 : X.cell? ⟨w.heap.size, 9, none⟩ = some (.int .u64 (TE.none_.vs : Int)) := rX.cell 9
      have y10 : X.cell? ⟨w.heap.size, 10, none⟩ = some (.int .u64 (TE.none_.g : Int)) := rX.cell 10
      clear hX rX
      refine bodyPost_ret (v := getRes none) ?_ rfl ⟨by rw [HNONE.out], kf⟩
      simp [results, Tryd.f38, go_sem, y0, y1, y2, y3, y4, y5, y6, y7, y8, y9, y10, getRes]
      rfl
end Go.Proofs.YtpnabfekidpnoaaDoor

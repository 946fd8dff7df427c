/-
  The document's fences.
-/
import Derived.Test.YtpnabfekidpnoaaDoorTlbS3
namespace Go.Proofs.YtpnabfekidpnoaaDoor
open Go Go.RowKit

theorem filt_snoc (R : List TE) (p : TE → Bool) (i : Nat) (hi : i < R.length) : (R.take (i + 1)).filter p = (R.take i).filter p ++ (if p R[i] = true then [R[i]] else []) := by
  rw [← List.take_append_getElem hi, List.filter_append]
  congr 1
  by_cases h : p R[i] = true
  · rw [if_pos h, List.filter_cons_of_pos h]; rfl
  · rw [if_neg h, List.filter_cons_of_neg h]; rfl
set_option maxRecDepth 100000 in
set_option maxHeartbeats 4000000 in
theorem rfenceG_c (w : World) (b n ways : Nat) (R : List TE) (F : Nat → Prop) (vmid : Nat) (by_ : Bool) (h : RTAt w b n ways R F) (hR : R.length ≤ 100000) :
    Calls Tryd.prog 40 #[.pointer (some ⟨b, 0, none⟩), .int .u64 (vmid : Int), .bool by_] w fun r w' => r = .returned (.int .i64 ((R.length - (R.filter fun x => !TS.fenceG vmid by_ x).length : Nat) : Int)) ∧ RTAt w' b n ways (R.filter fun x => !TS.fenceG vmid by_ x) (Plus F w w') ∧ Fr F w w' := by
  obtain ⟨vR, GR, h1, h2, h3, h4⟩ := h
  obtain ⟨p, hp⟩ : ∃ p : TE → Bool, p = fun x => !TS.fenceG vmid by_ x := ⟨_, rfl⟩
  rw [← hp]
  have hpx : ∀ x, p x = (!x.v || by_ && !(x.vmid == vmid)) := fun x => by
    rw [hp]
    show (!(x.v && (!by_ || x.vmid == vmid))) = _
    generalize x.v = a
    generalize (x.vmid == vmid) = c
    cases a <;> cases by_ <;> cases c <;> rfl
  obtain ⟨aR, cR, hvR, hRc, hcm⟩ := RRow.len h2
  have HB := Lib.hid h1
  have HR2 := Lib.hid h2
  have HBB := Lib.hid h1.lt
  have HF := Lib.hid h3
  have HPX := Lib.hid hpx
  obtain ⟨N, hN⟩ : ∃ N, N = R.length := ⟨_, rfl⟩
  rw [← hN] at hvR hRc hR ⊢
  subst hvR
  have HN := Lib.hid hN
  clear h1 h2 h3 h4 hN hRc hcm hp hpx
  have z2 : w.cell? ⟨b, 2, none⟩ = some (.slice aR N cR) := HB.out.cell 2
  go_enter Tryd.func40, Tryd.ntmps40
  go_wp2_with fail
  clear z2
  go_loopw [7, 8] (fun pl pi wr => ∃ (i : Nat) (A : List TE), i ≤ N ∧ pi = .int .i64 (i : Int) ∧ Hid (A = (R.take i).filter p) ∧ Hid (A.length ≤ i) ∧ Hid (RRow wr pl A (fun k => w.heap.size ≤ k)) ∧ Hid (Fr No w wr)) (fun _ pi _ => N - (intOf pi).toNat)
  case atStart => exact ⟨0, [], Nat.zero_le _, rfl, Lib.hid rfl, Lib.hid (by simp), Lib.hid (Head.nil_ _ _ _ _), Lib.hid (Fr.refl _ _)⟩
  case round =>
    obtain ⟨i, A, hi, rfl, HA, HAL, HM, HFR⟩ := hrel
    have z2 : wr.cell? ⟨b, 2, none⟩ = some (.slice aR N cR) := (HB.out.fr HFR.out (fun q => q)).cell 2
    by_cases hlt : i < N
    · have hiR : i < R.length := by have := HN.out; omega
      obtain ⟨g, c, hvs, hGg, hgl, hseg⟩ := HR2.out.at_ (by omega)
      rw [← HN.out] at hvs
      injection hvs with e1 _ e3
      subst e1 e3
      have hsn := filt_snoc R p i hiR
      have hseg2 := hseg wr HFR.out i hiR
      have hpx := HPX.out R[i]
      obtain ⟨x, hx⟩ : ∃ x, x = R[i] := ⟨_, rfl⟩
      rw [← hx] at hseg2 hsn hpx
      rw [← HA.out] at hsn
      have HSEG := Lib.hid hseg2
      have HSN := Lib.hid hsn
      have HAX := Lib.hid hpx
      have e1 : IntKind.i64.wrap ((i : Int) + 1) = ((i + 1 : Nat) : Int) := by rw [IntKind.wrap_i64]; omega
      clear hseg hseg2 hsn hx hGg hgl hpx HA
      go_upto_region 8 with (first
        | (refine wpList_load_seg rfl 78 _ rfl g (i * 11) rfl _ HSEG.out _ Tryd.underlying78 rfl infoRE ?_)
        | (refine wpList_store_row rfl 78 _ _ rfl _ _ rfl rfl _ _ (heap_alloc_new _ _) infoRE rfl (all_oneCell_toArray x.cells_one) ?_))
      have hw4 := fun old => setRow_fr2 wr (.cells old 78) x.cells.toArray
      have hb4 := fun old => setRow_heap (wr.alloc (.cells old 78)) wr.heap.size old x.cells.toArray 78 _ (heap_alloc_new wr _)
      obtain ⟨B, hB⟩ : ∃ B, B = wr.heap.size := ⟨_, rfl⟩
      generalize hW : (World.setRow _ _ _) = w4
      have HX2 := Lib.hid (show Fr No wr w4 from by rw [← hW]; exact hw4 _)
      have HB4 := Lib.hid (show Blk w4 B 78 x.cells.toArray from by rw [← hW, hB]; exact hb4 _)
      rw [← hB]
      have HFX := Lib.hid (HFR.out.trans HX2.out)
      have HSB := Lib.hid (show Seg w4 B 0 x.cells from Seg.of_blk HB4.out)
      clear hw4 hb4 hW hB z2
      have z2 : w4.cell? ⟨b, 2, none⟩ = some (.slice (some ⟨g, 0, none⟩) N cR) := (HB.out.fr HFX.out (fun q => q)).cell 2
      have y0 : w4.cell? ⟨B, 0, none⟩ = some (.bool x.v) := HB4.out.cell 0
      have y1 : w4.cell? ⟨B, 1, none⟩ = some (.int .u64 (x.vmid : Int)) := HB4.out.cell 1
      obtain ⟨xv, hxv⟩ : ∃ xv, xv = x.v := ⟨_, rfl⟩
      obtain ⟨xm, hxm⟩ : ∃ xm, xm = x.vmid := ⟨_, rfl⟩
      rw [← hxv] at y0 HAX
      rw [← hxm] at y1 HAX
      clear hxv hxm
      cases xv with
      | false =>
        go_wp2_with (first
          | (refine wpList_load_seg rfl 78 (.tmp 9) rfl B 0 rfl _ HSB.out _ Tryd.underlying78 rfl infoRE ?_)
          | (refine wpList_bs_re rfl (.tmp 42) rfl x rfl ?_)
          | (at_builtin
             refine wpList_append_re rfl (.tmp 41) (.tmp 43) rfl [x] _ _ rfl rfl (Head.fr HM.out (HX2.out.alloc _) (fun _ _ q => q)) (one_rre _ x) (by have := HAL.out; simp; omega) ?_
             intro v5 w5 hr5 hf5
             have hf05 : Fr No w w5 := (HFX.out.alloc _).andThen hf5 (fun k hk q => by have q2 : w.heap.size ≤ k := q; omega)
             have HF5 := Lib.hid hf05
             have HL5 := Lib.hid (show RRow w5 v5 (A ++ [x]) (fun k => w.heap.size ≤ k) from by
               refine Head.mono hr5 (fun k hk => hk.elim id (fun q => ?_))
               rw [q, World.size_alloc]
               exact Nat.le_trans HFX.out.size (Nat.le_succ _))
             clear hr5 hf5 hf05))
        exact ⟨⟨i + 1, A ++ [x], by omega, by simp, Lib.hid (by rw [HSN.out]; simp [HAX.out, true_and]), Lib.hid (by have := HAL.out; simp; omega), HL5, HF5⟩, by simp [intOf]; omega⟩
      | true =>
        cases by_ with
        | false =>
          go_wp2_with fail
          exact ⟨⟨i + 1, A, by omega, by simp, Lib.hid (by rw [HSN.out]; simp [HAX.out, true_and]), Lib.hid (by have := HAL.out; omega), Lib.hid (Head.fr HM.out HX2.out (fun _ _ q => q)), HFX⟩, by simp [intOf]; omega⟩
        | true =>
          by_cases hm : xm = vmid
          · subst hm
            go_wp2_with fail
            exact ⟨⟨i + 1, A, by omega, by simp, Lib.hid (by rw [HSN.out]; simp [HAX.out, true_and]), Lib.hid (by have := HAL.out; omega), Lib.hid (Head.fr HM.out HX2.out (fun _ _ q => q)), HFX⟩, by simp [intOf]; omega⟩
          · have hm2 : ((xm : Int) != (vmid : Int)) = true := by simp; omega
            have HM2 := Lib.hid hm
            clear hm
            go_wp2_with (first
              | (refine wpList_load_seg rfl 78 (.tmp 9) rfl B 0 rfl _ HSB.out _ Tryd.underlying78 rfl infoRE ?_)
              | (refine wpList_bs_re rfl (.tmp 42) rfl x rfl ?_)
              | (at_builtin
                 refine wpList_append_re rfl (.tmp 41) (.tmp 43) rfl [x] _ _ rfl rfl (Head.fr HM.out (HX2.out.alloc _) (fun _ _ q => q)) (one_rre _ x) (by have := HAL.out; simp; omega) ?_
                 intro v5 w5 hr5 hf5
                 have hf05 : Fr No w w5 := (HFX.out.alloc _).andThen hf5 (fun k hk q => by have q2 : w.heap.size ≤ k := q; omega)
                 have HF5 := Lib.hid hf05
                 have HL5 := Lib.hid (show RRow w5 v5 (A ++ [x]) (fun k => w.heap.size ≤ k) from by
                   refine Head.mono hr5 (fun k hk => hk.elim id (fun q => ?_))
                   rw [q, World.size_alloc]
                   exact Nat.le_trans HFX.out.size (Nat.le_succ _))
                 clear hr5 hf5 hf05))
            exact ⟨⟨i + 1, A ++ [x], by omega, by simp, Lib.hid (by rw [HSN.out]; simp [HAX.out, HM2.out]), Lib.hid (by have := HAL.out; simp; omega), HL5, HF5⟩, by simp [intOf]; omega⟩
    · obtain rfl : i = N := by omega
      have hA := HA.out
      rw [HN.out, List.take_length] at hA
      have HFIL := Lib.hid hA
      have hcut := Head.cut HM.out
      obtain ⟨aA, cA, hv5, _, _⟩ := RRow.len HM.out
      obtain ⟨m, hm⟩ : ∃ m, m = A.length := ⟨_, rfl⟩
      rw [← hm] at hv5
      have HMA := Lib.hid hm
      subst hv5
      have hmi : m ≤ i := by have := HAL.out; omega
      have e1 : IntKind.i64.wrap ((i : Int) - (m : Int)) = ((i - m : Nat) : Int) := by rw [IntKind.wrap_i64]; omega
      have hb5 := HB.out.fr HFR.out (fun q => q)
      have f5 := hb5.free
      have HB5 := Lib.hid hb5
      have HC := Lib.hid hcut
      clear hA hcut hm hb5
      go_wp2_with fail
      go_ret
      have hbb := HBB.out
      have hbF := HF.out
      rw [← HFIL.out, ← HMA.out]
      refine ⟨by simp, ⟨.slice aA m cA, fun k => w.heap.size ≤ k ∧ k < wr.heap.size, HB5.out.put 2 _, ?_, .inl hbF, fun k hk => ⟨.inr ⟨hk.1, by rw [World.size_setCell]; exact hk.2⟩, by omega⟩⟩, (HFR.out.mono (fun _ _ q => q.elim)).setCell (.inl hbF) _⟩
      exact Head.fr HC.out (Fr.put wr b 2 _) (fun k hk q => by have q2 : k = b := q; have := hk.1; omega)
end Go.Proofs.YtpnabfekidpnoaaDoor

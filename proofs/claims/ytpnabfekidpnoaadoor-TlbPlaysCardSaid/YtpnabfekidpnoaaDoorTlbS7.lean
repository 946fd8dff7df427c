/-
  The document's Entries; the law's same.
-/
import Derived.Test.YtpnabfekidpnoaaDoorTlbS6
namespace Go.Proofs.YtpnabfekidpnoaaDoor
open Go Go.RowKit

def refTo (n : Nat) (R : List TE) (s : Nat) : List TE := ((List.range s).map fun q => R.filter (fun x => setOf n x.va == q)).flatten
theorem refTo_succ (n : Nat) (R : List TE) (s : Nat) : refTo n R (s + 1) = refTo n R s ++ R.filter (fun x => setOf n x.va == s) := by
  unfold refTo
  rw [List.range_succ, List.map_append, List.flatten_append]
  simp
theorem refTo_len (n : Nat) (R : List TE) : ∀ s, (refTo n R s).length ≤ s * R.length
  | 0 => by simp [refTo]
  | s + 1 => by
    have := refTo_len n R s
    have h2 : (R.filter (fun x => setOf n x.va == s)).length ≤ R.length := List.length_filter_le _ _
    rw [refTo_succ, List.length_append, Nat.add_mul, Nat.one_mul]
    omega
set_option maxRecDepth 100000 in
set_option maxHeartbeats 4000000 in
theorem rentries_c (w : World) (b n ways : Nat) (R : List TE) (F : Nat → Prop) (h : RTAt w b n ways R F) (hn : 0 < n ∧ n ≤ 64) (hR : R.length ≤ 1000) (hv : ∀ x ∈ R, x.va < 18446744073709551616) :
    Calls Tryd.prog 21 #[.pointer (some ⟨b, 0, none⟩)] w fun r w' => ∃ v, r = .returned v ∧ RRow w' v (refEntries n R) (fun k => w.heap.size ≤ k) ∧ Fr No w w' := by
  obtain ⟨vR, GR, h1, h2, h3, h4⟩ := h
  obtain ⟨aR, cR, hvR, hRc, hcm⟩ := RRow.len h2
  have HB := Lib.hid h1
  have HR2 := Lib.hid h2
  have HV := Lib.hid hv
  have HNN := Lib.hid hn
  obtain ⟨N, hN⟩ : ∃ N, N = R.length := ⟨_, rfl⟩
  rw [← hN] at hvR hRc hR
  subst hvR
  have HN := Lib.hid hN
  have HRL := Lib.hid (show ∀ s, (refTo n R s).length ≤ s * 1000 from fun s => Nat.le_trans (refTo_len n R s) (Nat.mul_le_mul_left s (by omega)))
  clear h1 h2 h3 h4 hN hRc hcm hv
  have hn64 := hn.2
  clear hn
  go_enter Tryd.func21, Tryd.ntmps21
  go_wp2_with fail
  go_loopw [3, 4] (fun pl ps wr => ∃ (s : Nat) (A : List TE), s ≤ n ∧ ps = .int .i64 (s : Int) ∧ Hid (A = refTo n R s) ∧ Hid (RRow wr pl A (fun k => w.heap.size ≤ k)) ∧ Hid (Fr No w wr)) (fun _ ps _ => n - (intOf ps).toNat)
  case atStart => exact ⟨0, [], Nat.zero_le _, rfl, Lib.hid rfl, Lib.hid (Head.nil_ _ _ _ _), Lib.hid (Fr.refl _ _)⟩
  case round =>
    obtain ⟨s, A, hs, rfl, HA, HM, HFR⟩ := hrel
    have hb5 := HB.out.fr HFR.out (fun q => q)
    have z0 : wr.cell? ⟨b, 0, none⟩ = some (.int .i64 (n : Int)) := hb5.cell 0
    clear hb5
    by_cases hlt : s < n
    · have e1 : IntKind.i64.wrap ((s : Int) + 1) = ((s + 1 : Nat) : Int) := by rw [IntKind.wrap_i64]; omega
      have es : IntKind.u64.wrap (s : Int) = (s : Int) := by rw [IntKind.wrap_u64]; omega
      go_wp2_with fail
      clear z0
      obtain ⟨W1, hW1⟩ : ∃ W1, W1 = wr := ⟨_, rfl⟩
      rw [← hW1] at HFR HM ⊢
      clear hW1
      go_loopw [3, 5] (fun pl pi wz => ∃ (i : Nat) (B : List TE), i ≤ N ∧ pi = .int .i64 (i : Int) ∧ Hid (B = A ++ (R.take i).filter (fun x => setOf n x.va == s)) ∧ Hid (B.length ≤ s * 1000 + i) ∧ Hid (RRow wz pl B (fun k => w.heap.size ≤ k)) ∧ Hid (Fr No w wz)) (fun _ pi _ => N - (intOf pi).toNat)
      case atStart => exact ⟨0, A, Nat.zero_le _, rfl, Lib.hid (by simp), Lib.hid (by rw [HA.out]; exact HRL.out s), HM, HFR⟩
      case round =>
        obtain ⟨i, B, hi, rfl, HBB, HBL, HM2, HF2⟩ := hrel
        have hb5 := HB.out.fr HF2.out (fun q => q)
        have z0 : wr.cell? ⟨b, 0, none⟩ = some (.int .i64 (n : Int)) := hb5.cell 0
        have z2 : wr.cell? ⟨b, 2, none⟩ = some (.slice aR N cR) := hb5.cell 2
        clear hb5
        by_cases hlt2 : i < N
        · have hiR : i < R.length := by have := HN.out; omega
          obtain ⟨g, c, hvs, hGg, hgl, hseg⟩ := HR2.out.at_ (by omega)
          rw [← HN.out] at hvs
          injection hvs with e1 _ e3
          subst e1 e3
          have hsn := filt_snoc R (fun x => setOf n x.va == s) i hiR
          have hseg2 := hseg wr HF2.out i hiR
          have hxv := HV.out _ (List.getElem_mem hiR)
          obtain ⟨x, hx⟩ : ∃ x, x = R[i] := ⟨_, rfl⟩
          rw [← hx] at hseg2 hsn hxv
          have zx : wr.cell? ⟨g, i * 11 + 4, none⟩ = some (.int .u64 (x.va : Int)) := hseg2.cell rfl
          obtain ⟨q, hq⟩ : ∃ q, q = setOf n x.va := ⟨_, rfl⟩
          have HC := Lib.hid (show ∀ W, W.cell? ⟨b, 0, none⟩ = some (.int .i64 (n : Int)) → Calls Tryd.prog 42 #[.pointer (some ⟨b, 0, none⟩), .int .u64 (x.va : Int)] W fun r w' => r = .returned (.int .u64 (q : Int)) ∧ W = w' from fun W hW => by rw [hq]; exact rset_c W b n x.va hW HNN.out.1 HNN.out.2 hxv)
          have e2 : IntKind.i64.wrap ((i : Int) + 1) = ((i + 1 : Nat) : Int) := by rw [IntKind.wrap_i64]; omega
          have HSEG := Lib.hid hseg2
          have HSN := Lib.hid hsn
          have HQ := Lib.hid hq
          clear hseg hseg2 hsn hxv hx hq hGg hgl
          by_cases hqs : q = s
          · subst hqs
            have HBN := Lib.hid (show B ++ [x] = A ++ (R.take (i + 1)).filter (fun y => setOf n y.va == q) from by rw [HSN.out, if_pos (by rw [← HQ.out]; simp), HBB.out, List.append_assoc])
            go_wp2_with (first
              | (go_at_call 42; refine (HC.out _ z0).mono ?_; rintro r w4 ⟨rfl, rfl⟩)
              | (refine wpList_load_seg rfl 78 _ rfl g (i * 11) rfl _ HSEG.out _ Tryd.underlying78 rfl infoRE ?_)
              | (refine wpList_bs_re rfl (.tmp 46) rfl x rfl ?_)
              | (at_builtin
                 refine wpList_append_re rfl (.tmp 39) (.tmp 47) rfl [x] _ _ rfl rfl (Head.fr HM2.out ((Fr.refl No _).alloc _) (fun _ _ q => q)) (one_rre _ x) (by have := HBL.out; simp; omega) ?_
                 intro v5 w5 hr5 hf5
                 have hf05 : Fr No w w5 := (HF2.out.alloc _).andThen hf5 (fun k hk q => by have q2 : w.heap.size ≤ k := q; omega)
                 have HF5 := Lib.hid hf05
                 have HL5 := Lib.hid (show RRow w5 v5 (B ++ [x]) (fun k => w.heap.size ≤ k) from by
                   refine Head.mono hr5 (fun k hk => hk.elim id (fun q => ?_))
                   rw [q, World.size_alloc]
                   exact Nat.le_trans HF2.out.size (Nat.le_succ _))
                 clear hr5 hf5 hf05))
            exact ⟨⟨i + 1, B ++ [x], by omega, by simp, HBN, Lib.hid (by have := HBL.out; simp; omega), HL5, HF5⟩, by simp [intOf]; omega⟩
          · have HBN := Lib.hid (show B = A ++ (R.take (i + 1)).filter (fun y => setOf n y.va == s) from by rw [HSN.out, if_neg (by rw [← HQ.out]; simpa using hqs), HBB.out]; simp)
            have hq2 : ((q : Int) == (s : Int)) = false := by simp; omega
            clear hqs
            go_wp2_with (first
              | (go_at_call 42; refine (HC.out _ z0).mono ?_; rintro r w4 ⟨rfl, rfl⟩))
            exact ⟨⟨i + 1, B, by omega, by simp, HBN, Lib.hid (by have := HBL.out; omega), HM2, HF2⟩, by simp [intOf]; omega⟩
        · obtain rfl : i = N := by omega
          have hB := HBB.out
          rw [HN.out, List.take_length, HA.out, ← refTo_succ] at hB
          have HB2 := Lib.hid hB
          clear hB
          go_wp2_with fail
          exact ⟨⟨s + 1, B, by omega, by simp, HB2, HM2, HF2⟩, by simp [intOf]; omega⟩
    · obtain rfl : s = n := by omega
      go_wp2_with fail
      go_ret
      refine ⟨_, rfl, ?_, HFR.out⟩
      have h := HM.out
      rw [HA.out] at h
      exact h
set_option maxRecDepth 100000 in
set_option maxHeartbeats 2000000 in
theorem same_c (w : World) (v v' : Value) (l : List TE) (G G' : Nat → Prop) (h : Row w v l G) (h' : RRow w v' l G') :
    Calls Tryd.prog 20 #[v, v'] w fun r w' => r = .returned (.bool true) ∧ Fr No w w' := by
  obtain ⟨a, c, rfl, hc1, hc2⟩ := h.len
  obtain ⟨a', c', rfl, hc3, hc4⟩ := RRow.len h'
  have H1 := Lib.hid h
  have H2 := Lib.hid h'
  obtain ⟨N, hN⟩ : ∃ N, N = l.length := ⟨_, rfl⟩
  unfold maxLen at hc2
  rw [← hN] at H1 H2 hc1 ⊢
  have HN := Lib.hid hN
  have hN63 : N ≤ 9223372036854775807 := by omega
  have HN63 := Lib.hid hN63
  clear h h' hN hc1 hc2 hc3 hc4 hN63
  go_enter Tryd.func20, Tryd.ntmps20
  go_wp2_with fail
  go_loopw [5] (fun pi wr => ∃ (i : Nat), i ≤ N ∧ pi = .int .i64 (i : Int) ∧ Hid (Fr No w wr)) (fun pi _ => N - (intOf pi).toNat)
  case atStart => exact ⟨0, Nat.zero_le _, rfl, Lib.hid (Fr.refl _ _)⟩
  case round =>
    obtain ⟨i, hi, rfl, HFR⟩ := hrel
    by_cases hlt : i < N
    · have hil : i < l.length := by have := HN.out; omega
      obtain ⟨g', c2', hvs', _, _, hseg'⟩ := H2.out.at_ (by omega)
      obtain ⟨g, c2, cur, hvs, _, hB, _, _, hsz, hcell⟩ := H1.out.at_ (by omega)
      rw [← HN.out] at hvs hvs'
      injection hvs with e1 _ e3
      subst e1 e3
      injection hvs' with e1 _ e3
      subst e1 e3
      obtain ⟨x, hx⟩ : ∃ x, x = l[i] := ⟨_, rfl⟩
      have HS2 := Lib.hid (show ∀ W, Fr No w W → Seg W g' (i * 11) x.cells from fun W hW => by rw [hx]; exact hseg' W hW i hil)
      have HS1 := Lib.hid (show ∀ W, Fr No w W → Seg W g (i * 11) x.cells from fun W hW => by
        have h2 := (H1.out.own.fr hW (fun _ _ q => q))
        rw [HN.out] at h2
        have h3 := Own.elem h2 hil
        rw [Nat.zero_add] at h3
        rw [hx]
        exact h3)
      have e2 : IntKind.i64.wrap ((i : Int) + 1) = ((i + 1 : Nat) : Int) := by have := HN63.out; rw [IntKind.wrap_i64]; omega
      have hne : ∀ W : World, (binOp .neq 25 (.agg x.cells.toArray) (.agg x.cells.toArray)).run Tryd.prog W = .ok (.bool false) W := fun W => by rw [(te_eq_run x x W).2]; simp
      clear hseg' hcell hB hsz hx
      go_upto_region 6 with fail
      refine wp_region_held_drew (S := fun W => Fr No w W) (by kernel_rfl) HFR.out.drew (fun hHeld => ?_)
      refine' tkG (i := 0) (v := _) rfl (by kernel_rfl) (by kernel_rfl) (by kernel_rfl) (fun _ _ _ h => h) (by rfl) ?hy1 (by assumption) ?rest1
      case hy1 => (intro wq hSq; go_simp; try with_reducible rfl)
      simp only [Act.put, List.setIfInBounds_toArray, List.set_cons_zero, List.set_cons_succ]
      refine' tkG (i := 1) (v := _) rfl (by kernel_rfl) (by kernel_rfl) (by kernel_rfl) (fun _ _ _ h => h) (by rfl) ?hy2 (by assumption) ?rest2
      case hy2 => (intro wq hSq; go_simp; try with_reducible rfl)
      simp only [Act.put, List.setIfInBounds_toArray, List.set_cons_zero, List.set_cons_succ]
      refine' tkG (i := 2) (v := _) rfl (by kernel_rfl) (by kernel_rfl) (by kernel_rfl) (fun _ _ _ h => h) (by rfl) ?hy3 (by assumption) ?rest3
      case hy3 => (intro wq hSq; go_simp; try with_reducible rfl)
      simp only [Act.put, List.setIfInBounds_toArray, List.set_cons_zero, List.set_cons_succ]
      refine' tkG (i := 3) (v := .agg x.cells.toArray) rfl (by kernel_rfl) (by kernel_rfl) (by kernel_rfl) (fun _ _ _ h => h) (by rfl) ?hy4 (by assumption) ?rest4
      case hy4 => (intro wq hSq; exact exec_load_seg 25 (.tmp 19) rfl g (i * 11) rfl _ (HS1.out wq hSq) _ Tryd.underlying25 rfl infoE)
      simp only [Act.put, List.setIfInBounds_toArray, List.set_cons_zero, List.set_cons_succ]
      refine' tkG (i := 4) (v := _) rfl (by kernel_rfl) (by kernel_rfl) (by kernel_rfl) (fun _ _ _ h => h) (by rfl) ?hy5 (by assumption) ?rest5
      case hy5 => (intro wq hSq; go_simp; try with_reducible rfl)
      simp only [Act.put, List.setIfInBounds_toArray, List.set_cons_zero, List.set_cons_succ]
      refine' tkG (i := 5) (v := _) rfl (by kernel_rfl) (by kernel_rfl) (by kernel_rfl) (fun _ _ _ h => h) (by rfl) ?hy6 (by assumption) ?rest6
      case hy6 => (intro wq hSq; go_simp; try with_reducible rfl)
      simp only [Act.put, List.setIfInBounds_toArray, List.set_cons_zero, List.set_cons_succ]
      refine' tkG (i := 6) (v := _) rfl (by kernel_rfl) (by kernel_rfl) (by kernel_rfl) (fun _ _ _ h => h) (by rfl) ?hy7 (by assumption) ?rest7
      case hy7 => (intro wq hSq; go_simp; try with_reducible rfl)
      simp only [Act.put, List.setIfInBounds_toArray, List.set_cons_zero, List.set_cons_succ]
      refine' tkG (i := 7) (v := .agg x.cells.toArray) rfl (by kernel_rfl) (by kernel_rfl) (by kernel_rfl) (fun _ _ _ h => h) (by rfl) ?hy8 (by assumption) ?rest8
      case hy8 => (intro wq hSq; exact exec_load_seg 78 (.tmp 23) rfl g' (i * 11) rfl _ (HS2.out wq hSq) _ Tryd.underlying78 rfl infoRE)
      simp only [Act.put, List.setIfInBounds_toArray, List.set_cons_zero, List.set_cons_succ]
      refine' tkG (i := 8) (v := _) rfl (by kernel_rfl) (by kernel_rfl) (by kernel_rfl) (fun _ _ _ h => h) (by rfl) ?hy9 (by assumption) ?rest9
      case hy9 => (intro wq hSq; go_simp; try with_reducible rfl)
      simp only [Act.put, List.setIfInBounds_toArray, List.set_cons_zero, List.set_cons_succ]
      have HH := Lib.hid hHeld
      refine wpAnyH_done (by kernel_rfl) ?_ _
      clear hHeld
      go_wp2_with fail
      exact ⟨⟨i + 1, by omega, by simp, HH⟩, by simp [intOf]; omega⟩
    · obtain rfl : i = N := by omega
      go_wp2_with fail
      go_ret
      exact ⟨rfl, HFR.out⟩
end Go.Proofs.YtpnabfekidpnoaaDoor

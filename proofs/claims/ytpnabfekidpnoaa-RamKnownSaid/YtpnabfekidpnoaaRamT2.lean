/-
  Twin of a memory.
-/
import Derived.Test.YtpnabfekidpnoaaRamT1
namespace Go.Proofs.Ytpnabfekidpnoaa
open Go Go.RowKit

theorem keyU_lt {x : Nat} {kl : Lit} (h : keyOf Try.prog 22 (.int .u64 (x : Int)) = some kl) : x < 18446744073709551616 := by
  obtain ⟨y, h1, h2, h3⟩ := Maps.keyOf_int_inv Try.underlying22 h
  injection h1 with _ h1
  have h4 : (Lit.int .u64 y).wf = true := h3
  have h5 : (decide (IntKind.u64.min ≤ y) && decide (y ≤ IntKind.u64.max)) = true := h4
  rw [Bool.and_eq_true, decide_eq_true_iff, decide_eq_true_iff] at h5
  have h6 : IntKind.u64.max = 18446744073709551615 := by decide
  rw [h6] at h5
  omega
set_option maxRecDepth 100000 in
set_option maxHeartbeats 4000000 in
theorem twin_c (w : World) (b base size : Nat) (m : Nat → Nat) (cnt0 : Nat) (F : Nat → Prop) (h : RAt w b base size m cnt0 F) (hsup : ∀ x, m x ≠ 0 → x < 18446744073709551616) (h63 : cnt0 < 1000000) :
    Calls Try.prog 19 #[.pointer (some ⟨b, 0, none⟩)] w fun z w' => ∃ b2, z = .returned (.pointer (some ⟨b2, 0, none⟩)) ∧ RAt w' b2 base size m cnt0 (fun k => w.heap.size ≤ k) ∧ Fr No w w' := by
  obtain ⟨mb, D, pg, hin⟩ := h
  obtain ⟨R0, hR0⟩ : ∃ R0, R0 = w.heap.size := ⟨_, rfl⟩
  have hmb := hin.2.1.lt
  have HIN := Lib.hid (show RIn w b base size mb D pg m cnt0 (fun k => F k ∧ k < R0) from by rw [hR0]; exact hin.cut)
  have HSZ := Lib.hid hin.2.1.size_le
  have HCE := Lib.hid (show ∀ W, Fr No w W → W.cell? ⟨b, 0, none⟩ = some (.int .u64 (base : Int)) ∧ W.cell? ⟨b, 1, none⟩ = some (.int .u64 (size : Int)) ∧ W.cell? ⟨b, 2, none⟩ = some (.map (some mb)) from fun W hW => by
    have := hin.1.fr hW (fun q => q)
    exact ⟨this.cell 0, this.cell 1, this.cell 2⟩)
  have HLEN := Lib.hid (show ∀ W, Fr No w W → ∀ ty, (Builtin.len_ #[61] ty #[.map (some mb)]).run Try.prog W = .ok (.int .i64 (Maps.size D)) W from fun W hW ty => (ownsMap_fr hin.2.1 hW (fun q => q)).len Try.underlying61 ty)
  have HSUP := Lib.hid hsup
  have HR0 := Lib.hid hR0
  have HMB := Lib.hid hmb
  clear hin hsup hR0 hmb
  go_enter Try.func19, Try.ntmps19
  go_upto_region 3 with fail
  refine wp_region_held_drew (S := fun W => Fr No w W) (by kernel_rfl) (Fr.refl No w).drew (fun hHeld => ?_)
  refine' tkG (i := 0) (v := _) rfl (by kernel_rfl) (by kernel_rfl) (by kernel_rfl) (fun _ _ _ h => h) (by rfl) ?hy1 (by assumption) ?rest1
  case hy1 => (intro wq hSq; obtain ⟨q0, q1, q2⟩ := HCE.out wq hSq; go_simp; try with_reducible rfl)
  simp only [Act.put, List.setIfInBounds_toArray, List.set_cons_zero, List.set_cons_succ]
  refine' tkG (i := 1) (v := _) rfl (by kernel_rfl) (by kernel_rfl) (by kernel_rfl) (fun _ _ _ h => h) (by rfl) ?hy2 (by assumption) ?rest2
  case hy2 => (intro wq hSq; obtain ⟨q0, q1, q2⟩ := HCE.out wq hSq; go_simp; try with_reducible rfl)
  simp only [Act.put, List.setIfInBounds_toArray, List.set_cons_zero, List.set_cons_succ]
  refine' tkG (i := 2) (v := _) rfl (by kernel_rfl) (by kernel_rfl) (by kernel_rfl) (fun _ _ _ h => h) (by rfl) ?hy3 (by assumption) ?rest3
  case hy3 => (intro wq hSq; obtain ⟨q0, q1, q2⟩ := HCE.out wq hSq; go_simp; try with_reducible rfl)
  simp only [Act.put, List.setIfInBounds_toArray, List.set_cons_zero, List.set_cons_succ]
  refine' tkG (i := 3) (v := _) rfl (by kernel_rfl) (by kernel_rfl) (by kernel_rfl) (fun _ _ _ h => h) (by rfl) ?hy4 (by assumption) ?rest4
  case hy4 => (intro wq hSq; obtain ⟨q0, q1, q2⟩ := HCE.out wq hSq; go_simp; try with_reducible rfl)
  simp only [Act.put, List.setIfInBounds_toArray, List.set_cons_zero, List.set_cons_succ]
  refine' tkG (i := 4) (v := _) rfl (by kernel_rfl) (by kernel_rfl) (by kernel_rfl) (fun _ _ _ h => h) (by rfl) ?hy5 (by assumption) ?rest5
  case hy5 => (intro wq hSq; obtain ⟨q0, q1, q2⟩ := HCE.out wq hSq; go_simp; try with_reducible rfl)
  simp only [Act.put, List.setIfInBounds_toArray, List.set_cons_zero, List.set_cons_succ]
  refine' tkG (i := 5) (v := _) rfl (by kernel_rfl) (by kernel_rfl) (by kernel_rfl) (fun _ _ _ h => h) (by rfl) ?hy6 (by assumption) ?rest6
  case hy6 => (intro wq hSq; obtain ⟨q0, q1, q2⟩ := HCE.out wq hSq; go_simp; try with_reducible rfl)
  simp only [Act.put, List.setIfInBounds_toArray, List.set_cons_zero, List.set_cons_succ]
  refine' tkG (i := 6) (v := _) rfl (by kernel_rfl) (by kernel_rfl) (by kernel_rfl) (fun _ _ _ h => h) (by rfl) ?hy7 (by assumption) ?rest7
  case hy7 => (intro wq hSq; obtain ⟨q0, q1, q2⟩ := HCE.out wq hSq; go_simp; try with_reducible rfl)
  simp only [Act.put, List.setIfInBounds_toArray, List.set_cons_zero, List.set_cons_succ]
  refine' tkG (i := 7) (v := _) rfl (by kernel_rfl) (by kernel_rfl) (by kernel_rfl) (fun _ _ _ h => h) (by rfl) ?hy8 (by assumption) ?rest8
  case hy8 => (intro wq hSq; obtain ⟨q0, q1, q2⟩ := HCE.out wq hSq; go_simp; try with_reducible rfl)
  simp only [Act.put, List.setIfInBounds_toArray, List.set_cons_zero, List.set_cons_succ]
  refine' tkG (i := 8) (v := _) rfl (by kernel_rfl) (by kernel_rfl) (by kernel_rfl) (fun _ _ _ h => h) (by rfl) ?hy9 (by assumption) ?rest9
  case hy9 => (intro wq hSq; obtain ⟨q0, q1, q2⟩ := HCE.out wq hSq; go_simp; try with_reducible rfl)
  simp only [Act.put, List.setIfInBounds_toArray, List.set_cons_zero, List.set_cons_succ]
  refine' tkG (i := 9) (v := _) rfl (by kernel_rfl) (by kernel_rfl) (by kernel_rfl) (fun _ _ _ h => h) (by rfl) ?hy10 (by assumption) ?rest10
  case hy10 => (intro wq hSq; obtain ⟨q0, q1, q2⟩ := HCE.out wq hSq; go_simp; try with_reducible rfl)
  simp only [Act.put, List.setIfInBounds_toArray, List.set_cons_zero, List.set_cons_succ]
  refine' tkG (i := 10) (v := _) rfl (by kernel_rfl) (by kernel_rfl) (by kernel_rfl) (fun _ _ _ h => h) (by rfl) ?hy11 (by assumption) ?rest11
  case hy11 => (intro wq hSq; obtain ⟨q0, q1, q2⟩ := HCE.out wq hSq; go_simp; try with_reducible rfl)
  simp only [Act.put, List.setIfInBounds_toArray, List.set_cons_zero, List.set_cons_succ]
  refine' tkG (i := 11) (v := _) rfl (by kernel_rfl) (by kernel_rfl) (by kernel_rfl) (fun _ _ _ h => h) (by rfl) ?hy12 (by assumption) ?rest12
  case hy12 => (intro wq hSq; obtain ⟨q0, q1, q2⟩ := HCE.out wq hSq; go_simp; try with_reducible rfl)
  simp only [Act.put, List.setIfInBounds_toArray, List.set_cons_zero, List.set_cons_succ]
  refine' tkG (i := 12) (v := .int .i64 (Maps.size D)) rfl (by kernel_rfl) (by kernel_rfl) (by kernel_rfl) (fun _ _ _ h => h) (by rfl) ?hyL (by assumption) ?restL
  case hyL => (intro wq hSq; have hl := HLEN.out wq hSq; go_simp)
  simp only [Act.put, List.setIfInBounds_toArray, List.set_cons_zero, List.set_cons_succ]
  refine wpAnyH_ready (rs := [13]) (by kernel_rfl) (by simp) ?_
  refine AllReadyH.cons rfl (fun K hK => ?_) AllReadyH.nil
  have hmm : ∀ W : World, (Instr.makeMap 61 (some (.int .i64 (Maps.size D)))).run Try.prog W = .ok (.map (some W.heap.size)) (W.alloc (.map #[] 0)) := fun W => run_makeMap_hint W _ _ _ Try.underlying61 _
  go_simp
  refine hK.out _ _ (hHeld.alloc _) (fun hHeld2 => ?_)
  clear hK K hmm
  try simp only [List.setIfInBounds_toArray, List.set_cons_zero, List.set_cons_succ]
  obtain ⟨M1, hM1⟩ : ∃ M1, M1 = (w.alloc (.map #[] 0)).drew := ⟨_, rfl⟩
  have hsz1 : M1.heap.size = R0 + 1 := by rw [hM1, HR0.out]; simp
  have hown1 : M1.ownsMap Try.prog 22 pgElem R0 0 (.map []) := by rw [hM1, HR0.out]; exact World.ownsMap_made w _ _ pgElem
  have hmbt' : w.heap.size = R0 := HR0.out.symm
  rw [← hM1] at hHeld2 ⊢
  rw [hmbt']
  have HF1 := Lib.hid hHeld2
  have HO1 := Lib.hid hown1
  have HS1 := Lib.hid hsz1
  clear hM1 hown1 hHeld
  refine' tkG (i := 14) (v := _) rfl (by kernel_rfl) (by kernel_rfl) (by kernel_rfl) (fun _ _ _ h => h) (by rfl) ?hy13 (by assumption) ?rest13
  case hy13 => (intro wq hSq; obtain ⟨q0, q1, q2⟩ := HCE.out wq hSq; go_simp; try with_reducible rfl)
  simp only [Act.put, List.setIfInBounds_toArray, List.set_cons_zero, List.set_cons_succ]
  refine wpAnyH_ready (rs := [15]) (by kernel_rfl) (by simp) ?_
  refine AllReadyH.cons rfl (fun K hK => ?_) AllReadyH.nil
  go_simp
  refine hK.out _ _ (HF1.out.alloc _) (fun hHeld3 => ?_)
  clear hK K
  try simp only [List.setIfInBounds_toArray, List.set_cons_zero, List.set_cons_succ]
  have hB2 : Blk (M1.alloc (.cells #[.int .u64 (base : Int), .int .u64 (size : Int), .map (some R0)] 63)) M1.heap.size 63 #[.int .u64 (base : Int), .int .u64 (size : Int), .map (some R0)] := Blk.new M1 _ _
  obtain ⟨M2, hM2⟩ : ∃ M2, M2 = M1.alloc (.cells #[.int .u64 (base : Int), .int .u64 (size : Int), .map (some R0)] 63) := ⟨_, rfl⟩
  rw [← hM2] at hB2 hHeld3 ⊢
  have hsz2 : M2.heap.size = R0 + 2 := by rw [hM2, World.size_alloc, HS1.out]
  have hown2 : M2.ownsMap Try.prog 22 pgElem R0 0 (.map []) := by rw [hM2]; exact HO1.out.alloc _
  rw [hsz1] at hB2
  try rw [hsz1]
  have HF2 := Lib.hid hHeld3
  have HO2 := Lib.hid hown2
  have HS2 := Lib.hid hsz2
  have HB2 := Lib.hid hB2
  have HOW := Lib.hid (ownsMap_fr HIN.out.2.1 hHeld3 (fun q => q))
  clear hM2 hown2 hsz1 hsz2 hB2 hHeld3 hHeld2
  refine' tkG (i := 16) (v := _) rfl (by kernel_rfl) (by kernel_rfl) (by kernel_rfl) (fun _ _ _ h => h) (by rfl) ?hyM HF2.out ?restM
  case hyM => (intro wq hSq; go_simp; try with_reducible rfl)
  simp only [Act.put, List.setIfInBounds_toArray, List.set_cons_zero, List.set_cons_succ]
  refine wpAnyH_done (by kernel_rfl) ?_ _
  obtain ⟨q0, q1, q2⟩ := HCE.out M2 HF2.out
  go_wp2_with (at_range; refine wpList_range_own _ rfl _ 61 rfl 22 67 lawU Try.underlying61 pgElem mb cnt0 _ rfl HOW.out ?_; intro w0 hrg0 hg0 hs0)
  go_frame
  obtain ⟨r, hr⟩ : ∃ r, r = M2.heap.size := ⟨_, rfl⟩
  rw [← hr] at hrg0 hs0 ⊢
  have hr2 : r = R0 + 2 := by rw [hr]; exact HS2.out
  have HR := Lib.hid hr2
  have hfm : Fr No M2 w0 := (Fr.refl No M2).grown hg0 (fun k hk => by cases hk)
  have HT0 := Lib.hid (show TwinAt w0 (R0 + 1) base size R0 (Maps.has D) m 0 R0 r from by
    refine ⟨.map [], fun _ => none, ⟨HB2.out.fr hfm (fun q => q), ownsMap_fr HO2.out hfm (fun q => q), fun p => ⟨rfl, rfl⟩, (fun p B h => by cases h), (fun p p' B h => by cases h), (fun p i _ hi => ?_), (fun a => ?_), by omega, ⟨by omega, by omega⟩, ⟨by omega, by omega⟩⟩, fun _ _ => rfl⟩
    · unfold halfM
      rw [show (p * 4096 + i) / 4096 = p by omega]
      split
      · rfl
      · rename_i hh
        rw [(HIN.out.2.2.1 p).2] at hh
        cases hq : pg p with
        | none => exact HIN.out.2.2.2.2.2.1 p i hq hi
        | some B => rw [hq] at hh; exact absurd rfl hh
    · unfold halfM
      split
      · omega
      · exact HIN.out.2.2.2.2.2.2.1 a)
  have HRG0 := Lib.hid hrg0
  have HF0 := Lib.hid (HF2.out.trans hfm)
  have HSR := Lib.hid (show r < w0.heap.size by omega)
  clear hrg0 hg0 hs0 hfm hr hr2 q0 q1 q2
  go_loopw [6] (fun _ wr => ∃ (left : Lit → Bool) (cnt c : Nat), Hid (wr.ranges Try.prog 22 pgElem mb r cnt0 D left cnt) ∧ Hid (TwinAt wr (R0 + 1) base size R0 left m c R0 r) ∧ Hid (c + cnt ≤ cnt0) ∧ Hid (∀ kl, left kl = true → Maps.has D kl = true) ∧ Hid (r < wr.heap.size) ∧ Hid (Fr No w wr)) (fun _ wr => wr.rangeLeft mb r)
  case atStart => exact ⟨_, _, 0, HRG0, HT0, Lib.hid (by have := HSZ.out; omega), Lib.hid (fun _ h => h), HSR, HF0⟩
  case round =>
    obtain ⟨left, cnt, c, HRG, HT, HCC, HLH, HRW, HF⟩ := hrel
    go_wp2_with (at_next; refine wpList_next_ranges _ rfl _ rfl 22 lawU pgElem (fun x : Nat => Value.int .u64 (x : Int)) pgVal (fun key kl hkey => by obtain ⟨x, h1, _⟩ := keyU_inv hkey; exact ⟨x, h1⟩) (fun v y hv => by obtain ⟨o, h1, _⟩ := pgElem_inv hv; exact ⟨o, h1⟩) mb r cnt0 D left cnt rfl HRG.out ?_ ?_)
    · intro hc0 hl0
      have HL0 := Lib.hid hl0
      clear hl0 hc0
      go_wp2_with fail
      go_ret
      obtain ⟨Dt, pgt, h1, _⟩ := HT.out
      rw [halfM_none m HL0.out] at h1
      exact ⟨_, rfl, ⟨R0, Dt, pgt, (h1.more (by have := HCC.out; omega)).mono (fun k q => by have := HR0.out; have := q.1; omega)⟩, HF.out⟩
    · intro x c2 kl yd yp w1 cnt1 hkey hlk hv hat hrg1 hlt hg1 hs1 hen
      obtain ⟨x', ex, rfl⟩ := keyU_inv hkey
      obtain rfl : x = x' := by
        injection ex with _ ex
        omega
      have hx64 := keyU_lt hkey
      rw [pgElem_mk] at hv
      have hat0 := hat (.lit (pgLit none))
      rw [(HIN.out.2.2.1 x).1] at hat0
      injection hv with hv
      injection hv with hv _
      rw [← hv] at hat0
      injection hat0 with hat0
      have hcp : pg x = c2 := pgLit_inj hat0
      have hhas := HLH.out _ hlk
      rw [(HIN.out.2.2.1 x).2, hcp] at hhas
      cases c2 with
      | none => cases hhas
      | some B =>
        obtain ⟨cs, hBlk, hcells⟩ := (HIN.out.2.2.2.1 x B hcp).1.cells
        have hB := (HIN.out.2.2.2.1 x B hcp).2
        have hf1 : Fr (One r) wr w1 := (Fr.refl _ wr).grown hg1 (fun k hk => by cases hk; exact .inl rfl)
        have hBr : B < R0 := hB.1.2
        have hf01 : Fr No w w1 := HF.out.andThen hf1 (fun k hk q => by have e : k = r := q; have := HR.out; have := HR0.out; omega)
        have hB1 : Blk w1 B 71 cs := hBlk.fr hf01 (fun q => q)
        obtain ⟨L, hL⟩ : ∃ L, L = cs.toList := ⟨_, rfl⟩
        have hcsL : cs = L.toArray := by rw [hL]
        rw [hcsL] at hB1 hcells
        have HSEG := Lib.hid (show Seg w1 B 0 L from ⟨_, _, hB1, fun j u hu => by rw [Nat.zero_add, List.getElem?_toArray]; exact hu⟩)
        have hlenL : L.length = 4096 := by have := hcells.1; simpa using this
        have HINFO := Lib.hid (show (Try.prog.info? 71).map (·.size) = some L.length from by rw [hlenL]; exact infoPage)
        have HZL := Lib.hid (show (Try.zeroCells71).size = L.length from by rw [hlenL]; exact zeroCells_ok.1)
        have HONE := Lib.hid (show L.toArray.all (·.oneCell') = true from hcells.one)
        have HCELLS := Lib.hid hcells
        have HT1 := Lib.hid (HT.out.fr hf1 (fun k h1 h2 _ q => h2 q))
        have HF1' := Lib.hid hf01
        have HRG1 := Lib.hid hrg1
        have HLT := Lib.hid hlt
        have HLK := Lib.hid hlk
        have HX64 := Lib.hid hx64
        have HW1 := Lib.hid (show r < w1.heap.size from by rw [hs1]; exact HRW.out)
        have hsup256 := HIN.out.2.2.2.2.2.2.1
        have hst := fun old => HT1.out.step hsup256 x HX64.out HLK.out (by have := HCC.out; unfold maxLen; omega) w1.heap.size rfl HW1.out (by have := HW1.out; have := HR.out; omega) L.toArray old HCELLS.out
        have HST := Lib.hid hst
        unfold pgVal at hen ⊢
        clear hkey hv hat hat0 hhas hcells hBlk hf1 hf01 hB1 hL hcsL hlenL hrg1 hlt hg1 hlk hB hBr hx64 hs1 hst hsup256 hmbt'
        go_upto_region 8 with (first
          | (refine wpList_load_seg rfl 71 (.tmp 36) rfl B 0 rfl L HSEG.out _ Try.underlying71 rfl HINFO.out ?_)
          | (refine wpList_store_row rfl 71 _ _ rfl _ _ rfl rfl _ _ (heap_alloc_new _ _) HINFO.out HZL.out HONE.out ?_))
        obtain ⟨w5, hrun, ht5, hf5, hc5⟩ := HST.out Try.zeroCells71
        obtain ⟨X, hX⟩ : ∃ X, X = (w1.alloc (.cells Try.zeroCells71 71)).setRow w1.heap.size L.toArray := ⟨_, rfl⟩
        rw [← hX] at hrun hc5 ⊢
        have HT5 := Lib.hid ht5
        have HF5 := Lib.hid hf5
        clear ht5 hf5 hX
        go_wp2_with fail
        have hrg5 := ranges_fr HRG1.out HF5.out (fun q => by have q2 : mb = R0 := q; have := HMB.out; have := HR0.out; omega) (fun q => by have q2 : r = R0 := q; have := HR.out; omega)
        refine ⟨⟨_, cnt1, c + 1, Lib.hid hrg5, HT5, Lib.hid (by have := HCC.out; have := HLT.out; omega), Lib.hid (fun kl hk => HLH.out kl (by simp only [Bool.and_eq_true] at hk; exact hk.1)), Lib.hid (Nat.lt_of_lt_of_le HW1.out HF5.out.size), Lib.hid (HF1'.out.andThen HF5.out (fun k hk q => by have q2 : k = R0 := q; have := HR0.out; omega))⟩, ?_⟩
        rw [hrg5.left_eq, HRG.out.left_eq]
        exact HLT.out
end Go.Proofs.Ytpnabfekidpnoaa

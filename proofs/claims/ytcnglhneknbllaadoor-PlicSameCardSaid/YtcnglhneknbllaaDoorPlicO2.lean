/-
  The statement PlicOnce, the second part: its function claims.
-/
import Derived.Test.YtcnglhneknbllaaDoorPlicO1
namespace Go.Proofs.YtcnglhneknbllaaDoor
open Go Go.RowKit

/-- What is done to an interrupt controller. -/
structure PAct where
  act : Int
  off : Nat
  n : Int
  v : Nat
  src : Int
  up : Bool
def PAct.Ok (x : PAct) : Prop := x.off < 18446744073709551616 ∧ x.v < 18446744073709551616
def PAct.cells (x : PAct) : List Value := [.int .i64 x.act, .int .u64 (x.off : Int), .int .i64 x.n, .int .u64 (x.v : Int), .int .i64 x.src, .bool x.up]
/-- Which context's place of claims an offset is. -/
def ctxI (off : Nat) : Int := if off = 2101252 then 1 else if off = 2097156 then 0 else -1
theorem read_pr (s : PS) (i : Nat) (h : i < 32) : s.read (4 * i) 4 = (s, s.pr i, true) := by
  unfold PS.read
  rw [if_neg (by decide), if_pos (by omega), show 4 * i / 4 = i by omega]
set_option maxRecDepth 100000 in
set_option maxHeartbeats 4000000 in
theorem claims_none (w0 w : World) (b bb : Nat) (s : PS) (x : PAct) (hx : x.Ok) (h : Once w0 w b bb s s.busy) (hn : ctxI x.off = -1 ∨ x.n ≠ 4) :
    Calls Tryd.prog 42 #[.pointer (some ⟨b, 0, none⟩), .pointer (some ⟨bb, 0, none⟩), .agg x.cells.toArray, .int .i64 (ctxI x.off)] w fun e w' => e = .returned (.bool true) ∧ Once w0 w' b bb (s.read x.off x.n).1 (s.read x.off x.n).1.busy := by
  have hb : (s.read x.off x.n).1.busy = s.busy := PS.read_busy s x.off x.n (by
    rcases hn with hn | hn
    · right
      unfold ctxI at hn
      split at hn
      · cases hn
      · split at hn
        · cases hn
        · exact ⟨‹_›, ‹_›⟩
    · exact .inl hn)
  rw [hb]
  have hci : ctxI x.off = 1 ∨ ctxI x.off = 0 ∨ ctxI x.off = -1 := by unfold ctxI; split; exact .inl rfl; split; exact .inr (.inl rfl); exact .inr (.inr rfl)
  have HX := Lib.hid hx
  have HO := Lib.hid (h.keep ((Fr.refl No w).alloc (.cells x.cells.toArray 68)))
  obtain ⟨c, hc⟩ : ∃ c, c = ctxI x.off := ⟨_, rfl⟩
  rw [← hc] at hn hci ⊢
  clear hx h hc
  obtain ⟨act, off, n, v, src, up⟩ := x
  have B1 := Blk.new w 68 (PAct.cells ⟨act, off, n, v, src, up⟩).toArray
  have q1 : (w.alloc (.cells (PAct.cells ⟨act, off, n, v, src, up⟩).toArray 68)).cell? ⟨w.heap.size, 1, none⟩ = some (.int .u64 (off : Int)) := B1.cell 1
  have q2 : (w.alloc (.cells (PAct.cells ⟨act, off, n, v, src, up⟩).toArray 68)).cell? ⟨w.heap.size, 2, none⟩ = some (.int .i64 n) := B1.cell 2
  clear B1
  dsimp only at hn HO hb ⊢
  rcases hci with rfl | rfl | rfl
  · have hne : (n != 4) = true := by rw [bne_iff_ne]; rcases hn with hn | hn; cases hn; exact hn
    clear hn
    go_enter Tryd.func42, Tryd.ntmps42
    go_wp2_with fail
    refine (PRead_c _ b 0 s off n HX.out.1 HO.out.pic.at_ HO.out.pic.tz).mono ?_
    rintro e w2 ⟨rfl, hp, hf⟩
    have O2 := Lib.hid (HO.out.step (HO.out.inv.read off n) hp hf)
    clear hp hf
    simp only [readV]
    go_wp2_with fail
    go_ret
    exact ⟨rfl, O2.out⟩
  · have hne : (n != 4) = true := by rw [bne_iff_ne]; rcases hn with hn | hn; cases hn; exact hn
    clear hn
    go_enter Tryd.func42, Tryd.ntmps42
    go_wp2_with fail
    refine (PRead_c _ b 0 s off n HX.out.1 HO.out.pic.at_ HO.out.pic.tz).mono ?_
    rintro e w2 ⟨rfl, hp, hf⟩
    have O2 := Lib.hid (HO.out.step (HO.out.inv.read off n) hp hf)
    clear hp hf
    simp only [readV]
    go_wp2_with fail
    go_ret
    exact ⟨rfl, O2.out⟩
  · clear hn
    go_enter Tryd.func42, Tryd.ntmps42
    go_wp2_with fail
    refine (PRead_c _ b 0 s off n HX.out.1 HO.out.pic.at_ HO.out.pic.tz).mono ?_
    rintro e w2 ⟨rfl, hp, hf⟩
    have O2 := Lib.hid (HO.out.step (HO.out.inv.read off n) hp hf)
    clear hp hf
    simp only [readV]
    go_wp2_with fail
    go_ret
    exact ⟨rfl, O2.out⟩
theorem bit_odd (m k : Nat) (h : m.testBit k = true) : ((((m : Int) / 2 ^ k).tmod 2) == 0) = false ∧ ((((m : Int) / 2 ^ k) % 2) == 0) = false := by
  have h1 : ((m : Int) / 2 ^ k) = ((m / 2 ^ k : Nat) : Int) := by simp
  rw [Nat.testBit_eq_decide_div_mod_eq] at h
  have h := of_decide_eq_true h
  rw [h1]
  generalize m / 2 ^ k = x at h
  rw [Int.tmod_eq_emod_of_nonneg (by omega)]
  have key : (((x : Int) % 2) == 0) = false := by rw [beq_eq_false_iff_ne]; omega
  exact ⟨key, key⟩
theorem times4' (s : Nat) (h : s ≤ 31) : IntKind.u64.wrap (4 * (s : Int)) = ((4 * s : Nat) : Int) ∧ 4 * (s : Int) = ((4 * s : Nat) : Int) ∧ 4 * s < 18446744073709551616 := ⟨by rw [IntKind.wrap_u64]; omega, by omega, by omega⟩
set_option maxRecDepth 100000 in
set_option maxHeartbeats 8000000 in
theorem claims_hit0 (w0 w : World) (b bb : Nat) (s : PS) (x : PAct) (hx : x.off = 2097156) (hn : x.n = 4) (h : Once w0 w b bb s s.busy) :
    Calls Tryd.prog 42 #[.pointer (some ⟨b, 0, none⟩), .pointer (some ⟨bb, 0, none⟩), .agg x.cells.toArray, .int .i64 0] w fun e w' => e = .returned (.bool true) ∧ Once w0 w' b bb (s.claim 0).1 (s.claim 0).1.busy := by
  obtain ⟨act, off, n, v, src, up⟩ := x
  dsimp only at hx hn
  subst hx; subst hn
  have Ow1 := Lib.hid (h.keep ((Fr.refl No w).alloc (.cells (PAct.cells ⟨act, 2097156, 4, v, src, up⟩).toArray 68)))
  have Fw1 := Lib.hid (Fr.refl (One b) (w.alloc (.cells (PAct.cells ⟨act, 2097156, 4, v, src, up⟩).toArray 68)))
  have hbw : w.heap.size ≠ b := fun q => by have := h.pic.at_.seg.lt; omega
  have B1 := Blk.new w 68 (PAct.cells ⟨act, 2097156, 4, v, src, up⟩).toArray
  have q1 : (w.alloc (.cells (PAct.cells ⟨act, 2097156, 4, v, src, up⟩).toArray 68)).cell? ⟨w.heap.size, 1, none⟩ = some (.int .u64 2097156) := B1.cell 1
  have q2 : (w.alloc (.cells (PAct.cells ⟨act, 2097156, 4, v, src, up⟩).toArray 68)).cell? ⟨w.heap.size, 2, none⟩ = some (.int .i64 4) := B1.cell 2
  have hron : s.read 8192 4 = (s, s.on0, true) := rfl
  have hrpd : s.read 4096 4 = (s, s.pend, true) := rfl
  have hrcl : s.read 2097156 4 = ((s.claim 0).1, (s.claim 0).2, true) := rfl
  have hbi := h.inv.ok.best_is 0 (by omega)
  have hB31 := h.inv.ok.best_le (0 : Int)
  have hinv1 := h.inv.claim 0
  have hcl2 : (s.claim 0).2 = s.best (0 : Int) := by
    unfold PS.claim
    split
    · rfl
    · rename_i q; exact (Nat.eq_zero_of_not_pos q).symm
  have hpr1 : ∀ i, (s.claim 0).1.pr i = s.pr i := fun i => by unfold PS.claim; split <;> rfl
  have hbusy : (s.claim 0).1.busy = if 0 < s.best (0 : Int) then setB s.busy (s.best (0 : Int)) true else s.busy := by
    unfold PS.claim
    split
    · rename_i q; exact (if_pos (show 0 < s.best (0 : Int) from q)).symm
    · rename_i q; exact (if_neg (show ¬ 0 < s.best (0 : Int) from q)).symm
  have hy : s.on0 < 4294967296 := h.inv.ok.on0
  have hpd := h.inv.ok.pend
  have hap := h.inv.apart
  have hA := u64_and_nat s.on0 s.pend (by omega) (by omega)
  have hp0 := h.inv.ok.pr0
  obtain ⟨A, hAe⟩ : ∃ A, A = s.on0 &&& s.pend := ⟨_, rfl⟩
  obtain ⟨B, hBe⟩ : ∃ B, B = s.best (0 : Int) := ⟨_, rfl⟩
  obtain ⟨s1, hs1⟩ : ∃ s1, s1 = (s.claim 0).1 := ⟨_, rfl⟩
  rw [← hAe] at hA
  rw [← hBe] at hB31 hcl2 hbusy
  rw [hcl2] at hrcl
  rw [← hs1] at hrcl hinv1 hpr1 hbusy ⊢
  have hq : ∀ i, A.testBit i = true → s.pr i ≤ s.pr B ∧ (s.pr i = s.pr B → 0 < s.pr i → B ≤ i) := fun i hi => by
    rw [hAe, Nat.testBit_and, Bool.and_eq_true] at hi
    have hbe : B = s.best (((0 : Nat)) : Int) := hBe
    rw [hbe]
    exact ⟨hbi.top i ⟨hi.2, hi.1⟩, hbi.low i ⟨hi.2, hi.1⟩⟩
  have hpos : 0 < B → A.testBit B = true ∧ 0 < s.pr B ∧ s.busy.testBit B = false := fun hb0 => by
    have hbe : B = s.best (((0 : Nat)) : Int) := hBe
    have := hbi.pos (by rw [← hbe]; exact hb0)
    rw [← hbe] at this
    exact ⟨by rw [hAe, Nat.testBit_and, Bool.and_eq_true]; exact ⟨this.1.2, this.1.1⟩, this.2, hap B this.1.1⟩
  have hbest := fun w' (h' : Once w0 w' b bb s s.busy) => Best_c w' s h'.inv.ok 0 h'.pic.tz
  have hBI : ((0 : Nat) : Int) = 0 := rfl
  obtain ⟨M, hM⟩ : ∃ M, M = s.pr B := ⟨_, rfl⟩
  have hrm : s1.read (4 * B) 4 = (s1, M, true) := by rw [read_pr s1 B (by omega), hpr1, hM]
  obtain ⟨y4, hy4⟩ : ∃ y4, y4 = 4 * B := ⟨_, rfl⟩
  rw [← hy4] at hrm
  have ht4 := times4' B hB31
  rw [← hy4] at ht4
  obtain ⟨ht4, ht5, hy4l⟩ := ht4
  have HY4 := Lib.hid hy4l
  have H1 := Lib.hid hron
  have H2 := Lib.hid hrpd
  have H3 := Lib.hid hrcl
  have H4 := Lib.hid hbest
  have H5 := Lib.hid hrm
  have H6 := Lib.hid hq
  have H7 := Lib.hid hpos
  have H8 := Lib.hid hbusy
  have H9 := Lib.hid hinv1
  have HPR := Lib.hid hpr1
  have HBE := Lib.hid hBe
  have HM := Lib.hid hM
  have HP0 := Lib.hid hp0
  obtain ⟨y, hyy⟩ : ∃ y, y = s.on0 := ⟨_, rfl⟩
  obtain ⟨z, hzz⟩ : ∃ z, z = s.pend := ⟨_, rfl⟩
  rw [← hyy] at hA H1
  rw [← hzz] at hA H2
  have hB64 : IntKind.u64.wrap (B : Int) = (B : Int) := by rw [IntKind.wrap_u64]; omega
  clear h B1 hron hrpd hrcl hbi hcl2 hpr1 hbusy hy hpd hap hp0 hAe hBe hs1 hq hpos hbest hBI hM hrm hy4 hyy hzz hy4l hinv1
  go_enter Tryd.func42, Tryd.ntmps42
  go_wp2_with fail
  refine (PRead_c _ b 0 s 8192 4 (by omega) Ow1.out.pic.at_ Ow1.out.pic.tz).mono ?_
  rw [H1.out]
  simp only [readV]
  rintro e w2 ⟨rfl, hp, hf⟩
  have Ow2 := Lib.hid (Ow1.out.step Ow1.out.inv hp hf)
  have Fw2 := Lib.hid (Fw1.out.trans hf.fr)
  clear hp hf
  go_wp2_with fail
  refine (PRead_c _ b 0 s 4096 4 (by omega) Ow2.out.pic.at_ Ow2.out.pic.tz).mono ?_
  rw [H2.out]
  simp only [readV]
  rintro e w3 ⟨rfl, hp, hf⟩
  have Ow3 := Lib.hid (Ow2.out.step Ow1.out.inv hp hf)
  have Fw3 := Lib.hid (Fw2.out.trans hf.fr)
  clear hp hf
  go_wp2_with (first | refine wpList_load_seg rfl 48 _ rfl _ _ rfl _ Ow3.out.pic.at_.seg _ Tryd.underlying48 rfl (infoPl Ow3.out.pic.at_.ok) ?_ | refine wpList_load_seg_g rfl 48 _ rfl _ _ rfl _ Ow3.out.pic.at_.seg _ Tryd.underlying48 rfl (infoPl Ow3.out.pic.at_.ok) ?_)
  refine (H4.out _ Ow3.out).mono ?_
  rw [← HBE.out]
  rintro e w4 ⟨rfl, hf⟩
  have Ow4 := Lib.hid (Ow3.out.keep hf)
  have Fw4 := Lib.hid (Fw3.out.trans (hf.mono fun _ _ h => h.elim))
  have q3 := Fw4.out.cell q1 hbw
  clear hf
  go_wp2_with fail
  refine (PRead_c _ b 0 s 2097156 4 (by omega) Ow4.out.pic.at_ Ow4.out.pic.tz).mono ?_
  rw [H3.out]
  simp only [readV]
  rintro e w5 ⟨rfl, hp, hf⟩
  have Ow5 := Lib.hid (Ow4.out.step H9.out hp hf)
  have Fw5 := Lib.hid (Fw4.out.trans hf.fr)
  clear hp hf
  go_wp2_with fail
  refine (PRead_c _ b 0 s1 y4 4 HY4.out Ow5.out.pic.at_ Ow5.out.pic.tz).mono ?_
  rw [H5.out]
  simp only [readV]
  rintro e w6 ⟨rfl, hp, hf⟩
  have Ow6 := Lib.hid (Ow5.out.step H9.out hp hf)
  have Fw6 := Lib.hid (Fw5.out.trans hf.fr)
  clear hp hf
  have HQ1 := Lib.hid q1
  have HQ2 := Lib.hid q2
  clear q1 q2 q3 Ow1 Ow2 Ow3 Ow4 Ow5 Fw1 Fw2 Fw3 Fw4 Fw5 H1 H2 H3 H4 H5 HY4
  go_wp2_with fail
  go_loopw [18] (fun i wk => ∃ k : Nat, k ≤ 32 ∧ 1 ≤ k ∧ i = .int .u64 (k : Int) ∧ Hid (Once w0 wk b bb s1 s.busy) ∧ Hid (Fr (One b) w6 wk)) (fun i _ => 32 - (intOf i).toNat)
  case atStart => exact ⟨1, by omega, by omega, rfl, Ow6, Lib.hid (Fr.refl _ _)⟩
  case round =>
    obtain ⟨k, hk, hk1, rfl, Owk, Fwk⟩ := hrel
    by_cases hlt : k < 32
    · obtain ⟨e1, e2⟩ := bit_even A k
      have hrd : s1.read (4 * k) 4 = (s1, s.pr k, true) := by rw [read_pr s1 k hlt, HPR.out]
      have hqk := H6.out k
      obtain ⟨ht, ht', hxl⟩ := times4' k (by omega)
      obtain ⟨x4, hx4⟩ : ∃ x4, x4 = 4 * k := ⟨_, rfl⟩
      obtain ⟨K, hK⟩ : ∃ K, K = s.pr k := ⟨_, rfl⟩
      rw [← hx4] at ht ht' hxl hrd
      rw [← HM.out, ← hK] at hqk
      rw [← hK] at hrd
      have HX4 := Lib.hid hxl
      have HRD := Lib.hid hrd
      clear hrd hxl hx4
      cases hA' : A.testBit k
      · rw [hA'] at e1 e2
        clear hqk hA' hK
        go_wp2_with fail
        refine (PRead_c _ b 0 s1 x4 4 HX4.out Owk.out.pic.at_ Owk.out.pic.tz).mono ?_
        rw [HRD.out]
        simp only [readV]
        rintro e w8 ⟨rfl, hp, hf⟩
        have Ow8 := Lib.hid (Owk.out.step H9.out hp hf)
        have Fw8 := Lib.hid (Fwk.out.trans hf.fr)
        clear hp hf
        go_wp2_with fail
        exact ⟨⟨k + 1, by omega, by omega, rfl, Ow8, Fw8⟩, by simp [intOf]; omega⟩
      · rw [hA'] at e1 e2
        obtain ⟨hle, hlow⟩ := hqk hA'
        clear hqk hA'
        by_cases hK0 : 0 < K
        · have g0 : decide ((0 : Int) < (K : Int)) = true := decide_eq_true (by omega)
          have gB : ((B : Int) == 0) = false := by
            rw [beq_eq_false_iff_ne]
            intro e
            have e0 : B = 0 := by omega
            have := HM.out
            rw [e0, HP0.out] at this
            omega
          have g1 : decide ((M : Int) < (K : Int)) = false := decide_eq_false (by omega)
          by_cases hKM : K = M
          · have hBk : B ≤ k := hlow hKM hK0
            have g3 : decide ((k : Int) < (B : Int)) = false := decide_eq_false (by have := hlow hKM hK0; omega)
            clear hlow hK g1 hle
            subst hKM
            go_wp2_with fail
            refine (PRead_c _ b 0 s1 x4 4 HX4.out Owk.out.pic.at_ Owk.out.pic.tz).mono ?_
            rw [HRD.out]
            simp only [readV]
            rintro e w8 ⟨rfl, hp, hf⟩
            have Ow8 := Lib.hid (Owk.out.step H9.out hp hf)
            have Fw8 := Lib.hid (Fwk.out.trans hf.fr)
            clear hp hf
            go_wp2_with fail
            exact ⟨⟨k + 1, by omega, by omega, rfl, Ow8, Fw8⟩, by simp [intOf]; omega⟩
          · have g2 : ((K : Int) == (M : Int)) = false := by rw [beq_eq_false_iff_ne]; omega
            clear hlow hK
            go_wp2_with fail
            refine (PRead_c _ b 0 s1 x4 4 HX4.out Owk.out.pic.at_ Owk.out.pic.tz).mono ?_
            rw [HRD.out]
            simp only [readV]
            rintro e w8 ⟨rfl, hp, hf⟩
            have Ow8 := Lib.hid (Owk.out.step H9.out hp hf)
            have Fw8 := Lib.hid (Fwk.out.trans hf.fr)
            clear hp hf
            go_wp2_with fail
            exact ⟨⟨k + 1, by omega, by omega, rfl, Ow8, Fw8⟩, by simp [intOf]; omega⟩
        · have g0 : decide ((0 : Int) < (K : Int)) = false := decide_eq_false (by omega)
          clear hlow hK
          go_wp2_with fail
          refine (PRead_c _ b 0 s1 x4 4 HX4.out Owk.out.pic.at_ Owk.out.pic.tz).mono ?_
          rw [HRD.out]
          simp only [readV]
          rintro e w8 ⟨rfl, hp, hf⟩
          have Ow8 := Lib.hid (Owk.out.step H9.out hp hf)
          have Fw8 := Lib.hid (Fwk.out.trans hf.fr)
          clear hp hf
          go_wp2_with fail
          exact ⟨⟨k + 1, by omega, by omega, rfl, Ow8, Fw8⟩, by simp [intOf]; omega⟩
    · have F9 := Lib.hid (Fw6.out.trans Fwk.out)
      clear HPR H6 HP0
      by_cases hB0 : B = 0
      · have gB : ((B : Int) == 0) = true := by rw [beq_iff_eq]; omega
        have h8 := H8.out
        rw [if_neg (by omega)] at h8
        have H8' := Lib.hid h8
        clear h8
        go_wp2_with fail
        go_ret
        rw [H8'.out]
        exact ⟨rfl, Owk.out⟩
      · have gB : ((B : Int) == 0) = false := by rw [beq_eq_false_iff_ne]; omega
        obtain ⟨k1, k2, k3⟩ := H7.out (by omega)
        have q := Owk.out.busyAt (k := B) (by omega)
        rw [k3] at q
        have kb := bit_odd A B k1
        obtain ⟨kb1, kb2⟩ := kb
        rw [← HM.out] at k2
        have gM : ((M : Int) == 0) = false := by rw [beq_eq_false_iff_ne]; omega
        have h8 := H8.out
        rw [if_pos (by omega)] at h8
        have H8' := Lib.hid h8
        clear h8 k1 k2 k3 H8 H7
        have hfz := Owk.out.row.free
        go_wp2_with fail
        go_ret
        rw [H8'.out]
        exact ⟨rfl, Owk.out.mark (by omega) true⟩
set_option maxRecDepth 100000 in
set_option maxHeartbeats 8000000 in
theorem claims_hit1 (w0 w : World) (b bb : Nat) (s : PS) (x : PAct) (hx : x.off = 2101252) (hn : x.n = 4) (h : Once w0 w b bb s s.busy) :
    Calls Tryd.prog 42 #[.pointer (some ⟨b, 0, none⟩), .pointer (some ⟨bb, 0, none⟩), .agg x.cells.toArray, .int .i64 1] w fun e w' => e = .returned (.bool true) ∧ Once w0 w' b bb (s.claim 1).1 (s.claim 1).1.busy := by
  obtain ⟨act, off, n, v, src, up⟩ := x
  dsimp only at hx hn
  subst hx; subst hn
  have Ow1 := Lib.hid (h.keep ((Fr.refl No w).alloc (.cells (PAct.cells ⟨act, 2101252, 4, v, src, up⟩).toArray 68)))
  have Fw1 := Lib.hid (Fr.refl (One b) (w.alloc (.cells (PAct.cells ⟨act, 2101252, 4, v, src, up⟩).toArray 68)))
  have hbw : w.heap.size ≠ b := fun q => by have := h.pic.at_.seg.lt; omega
  have B1 := Blk.new w 68 (PAct.cells ⟨act, 2101252, 4, v, src, up⟩).toArray
  have q1 : (w.alloc (.cells (PAct.cells ⟨act, 2101252, 4, v, src, up⟩).toArray 68)).cell? ⟨w.heap.size, 1, none⟩ = some (.int .u64 2101252) := B1.cell 1
  have q2 : (w.alloc (.cells (PAct.cells ⟨act, 2101252, 4, v, src, up⟩).toArray 68)).cell? ⟨w.heap.size, 2, none⟩ = some (.int .i64 4) := B1.cell 2
  have hron : s.read 8320 4 = (s, s.on1, true) := rfl
  have hrpd : s.read 4096 4 = (s, s.pend, true) := rfl
  have hrcl : s.read 2101252 4 = ((s.claim 1).1, (s.claim 1).2, true) := rfl
  have hbi := h.inv.ok.best_is 1 (by omega)
  have hB31 := h.inv.ok.best_le (1 : Int)
  have hinv1 := h.inv.claim 1
  have hcl2 : (s.claim 1).2 = s.best (1 : Int) := by
    unfold PS.claim
    split
    · rfl
    · rename_i q; exact (Nat.eq_zero_of_not_pos q).symm
  have hpr1 : ∀ i, (s.claim 1).1.pr i = s.pr i := fun i => by unfold PS.claim; split <;> rfl
  have hbusy : (s.claim 1).1.busy = if 0 < s.best (1 : Int) then setB s.busy (s.best (1 : Int)) true else s.busy := by
    unfold PS.claim
    split
    · rename_i q; exact (if_pos (show 0 < s.best (1 : Int) from q)).symm
    · rename_i q; exact (if_neg (show ¬ 0 < s.best (1 : Int) from q)).symm
  have hy : s.on1 < 4294967296 := h.inv.ok.on1
  have hpd := h.inv.ok.pend
  have hap := h.inv.apart
  have hA := u64_and_nat s.on1 s.pend (by omega) (by omega)
  have hp0 := h.inv.ok.pr0
  obtain ⟨A, hAe⟩ : ∃ A, A = s.on1 &&& s.pend := ⟨_, rfl⟩
  obtain ⟨B, hBe⟩ : ∃ B, B = s.best (1 : Int) := ⟨_, rfl⟩
  obtain ⟨s1, hs1⟩ : ∃ s1, s1 = (s.claim 1).1 := ⟨_, rfl⟩
  rw [← hAe] at hA
  rw [← hBe] at hB31 hcl2 hbusy
  rw [hcl2] at hrcl
  rw [← hs1] at hrcl hinv1 hpr1 hbusy ⊢
  have hq : ∀ i, A.testBit i = true → s.pr i ≤ s.pr B ∧ (s.pr i = s.pr B → 0 < s.pr i → B ≤ i) := fun i hi => by
    rw [hAe, Nat.testBit_and, Bool.and_eq_true] at hi
    have hbe : B = s.best (((1 : Nat)) : Int) := hBe
    rw [hbe]
    exact ⟨hbi.top i ⟨hi.2, hi.1⟩, hbi.low i ⟨hi.2, hi.1⟩⟩
  have hpos : 0 < B → A.testBit B = true ∧ 0 < s.pr B ∧ s.busy.testBit B = false := fun hb0 => by
    have hbe : B = s.best (((1 : Nat)) : Int) := hBe
    have := hbi.pos (by rw [← hbe]; exact hb0)
    rw [← hbe] at this
    exact ⟨by rw [hAe, Nat.testBit_and, Bool.and_eq_true]; exact ⟨this.1.2, this.1.1⟩, this.2, hap B this.1.1⟩
  have hbest := fun w' (h' : Once w0 w' b bb s s.busy) => Best_c w' s h'.inv.ok 1 h'.pic.tz
  have hBI : ((1 : Nat) : Int) = 1 := rfl
  obtain ⟨M, hM⟩ : ∃ M, M = s.pr B := ⟨_, rfl⟩
  have hrm : s1.read (4 * B) 4 = (s1, M, true) := by rw [read_pr s1 B (by omega), hpr1, hM]
  obtain ⟨y4, hy4⟩ : ∃ y4, y4 = 4 * B := ⟨_, rfl⟩
  rw [← hy4] at hrm
  have ht4 := times4' B hB31
  rw [← hy4] at ht4
  obtain ⟨ht4, ht5, hy4l⟩ := ht4
  have HY4 := Lib.hid hy4l
  have H1 := Lib.hid hron
  have H2 := Lib.hid hrpd
  have H3 := Lib.hid hrcl
  have H4 := Lib.hid hbest
  have H5 := Lib.hid hrm
  have H6 := Lib.hid hq
  have H7 := Lib.hid hpos
  have H8 := Lib.hid hbusy
  have H9 := Lib.hid hinv1
  have HPR := Lib.hid hpr1
  have HBE := Lib.hid hBe
  have HM := Lib.hid hM
  have HP0 := Lib.hid hp0
  obtain ⟨y, hyy⟩ : ∃ y, y = s.on1 := ⟨_, rfl⟩
  obtain ⟨z, hzz⟩ : ∃ z, z = s.pend := ⟨_, rfl⟩
  rw [← hyy] at hA H1
  rw [← hzz] at hA H2
  have hB64 : IntKind.u64.wrap (B : Int) = (B : Int) := by rw [IntKind.wrap_u64]; omega
  clear h B1 hron hrpd hrcl hbi hcl2 hpr1 hbusy hy hpd hap hp0 hAe hBe hs1 hq hpos hbest hBI hM hrm hy4 hyy hzz hy4l hinv1
  go_enter Tryd.func42, Tryd.ntmps42
  go_wp2_with fail
  refine (PRead_c _ b 0 s 8320 4 (by omega) Ow1.out.pic.at_ Ow1.out.pic.tz).mono ?_
  rw [H1.out]
  simp only [readV]
  rintro e w2 ⟨rfl, hp, hf⟩
  have Ow2 := Lib.hid (Ow1.out.step Ow1.out.inv hp hf)
  have Fw2 := Lib.hid (Fw1.out.trans hf.fr)
  clear hp hf
  go_wp2_with fail
  refine (PRead_c _ b 0 s 4096 4 (by omega) Ow2.out.pic.at_ Ow2.out.pic.tz).mono ?_
  rw [H2.out]
  simp only [readV]
  rintro e w3 ⟨rfl, hp, hf⟩
  have Ow3 := Lib.hid (Ow2.out.step Ow1.out.inv hp hf)
  have Fw3 := Lib.hid (Fw2.out.trans hf.fr)
  clear hp hf
  go_wp2_with (first | refine wpList_load_seg rfl 48 _ rfl _ _ rfl _ Ow3.out.pic.at_.seg _ Tryd.underlying48 rfl (infoPl Ow3.out.pic.at_.ok) ?_ | refine wpList_load_seg_g rfl 48 _ rfl _ _ rfl _ Ow3.out.pic.at_.seg _ Tryd.underlying48 rfl (infoPl Ow3.out.pic.at_.ok) ?_)
  refine (H4.out _ Ow3.out).mono ?_
  rw [← HBE.out]
  rintro e w4 ⟨rfl, hf⟩
  have Ow4 := Lib.hid (Ow3.out.keep hf)
  have Fw4 := Lib.hid (Fw3.out.trans (hf.mono fun _ _ h => h.elim))
  have q3 := Fw4.out.cell q1 hbw
  clear hf
  go_wp2_with fail
  refine (PRead_c _ b 0 s 2101252 4 (by omega) Ow4.out.pic.at_ Ow4.out.pic.tz).mono ?_
  rw [H3.out]
  simp only [readV]
  rintro e w5 ⟨rfl, hp, hf⟩
  have Ow5 := Lib.hid (Ow4.out.step H9.out hp hf)
  have Fw5 := Lib.hid (Fw4.out.trans hf.fr)
  clear hp hf
  go_wp2_with fail
  refine (PRead_c _ b 0 s1 y4 4 HY4.out Ow5.out.pic.at_ Ow5.out.pic.tz).mono ?_
  rw [H5.out]
  simp only [readV]
  rintro e w6 ⟨rfl, hp, hf⟩
  have Ow6 := Lib.hid (Ow5.out.step H9.out hp hf)
  have Fw6 := Lib.hid (Fw5.out.trans hf.fr)
  clear hp hf
  have HQ1 := Lib.hid q1
  have HQ2 := Lib.hid q2
  clear q1 q2 q3 Ow1 Ow2 Ow3 Ow4 Ow5 Fw1 Fw2 Fw3 Fw4 Fw5 H1 H2 H3 H4 H5 HY4
  go_wp2_with fail
  go_loopw [18] (fun i wk => ∃ k : Nat, k ≤ 32 ∧ 1 ≤ k ∧ i = .int .u64 (k : Int) ∧ Hid (Once w0 wk b bb s1 s.busy) ∧ Hid (Fr (One b) w6 wk)) (fun i _ => 32 - (intOf i).toNat)
  case atStart => exact ⟨1, by omega, by omega, rfl, Ow6, Lib.hid (Fr.refl _ _)⟩
  case round =>
    obtain ⟨k, hk, hk1, rfl, Owk, Fwk⟩ := hrel
    by_cases hlt : k < 32
    · obtain ⟨e1, e2⟩ := bit_even A k
      have hrd : s1.read (4 * k) 4 = (s1, s.pr k, true) := by rw [read_pr s1 k hlt, HPR.out]
      have hqk := H6.out k
      obtain ⟨ht, ht', hxl⟩ := times4' k (by omega)
      obtain ⟨x4, hx4⟩ : ∃ x4, x4 = 4 * k := ⟨_, rfl⟩
      obtain ⟨K, hK⟩ : ∃ K, K = s.pr k := ⟨_, rfl⟩
      rw [← hx4] at ht ht' hxl hrd
      rw [← HM.out, ← hK] at hqk
      rw [← hK] at hrd
      have HX4 := Lib.hid hxl
      have HRD := Lib.hid hrd
      clear hrd hxl hx4
      cases hA' : A.testBit k
      · rw [hA'] at e1 e2
        clear hqk hA' hK
        go_wp2_with fail
        refine (PRead_c _ b 0 s1 x4 4 HX4.out Owk.out.pic.at_ Owk.out.pic.tz).mono ?_
        rw [HRD.out]
        simp only [readV]
        rintro e w8 ⟨rfl, hp, hf⟩
        have Ow8 := Lib.hid (Owk.out.step H9.out hp hf)
        have Fw8 := Lib.hid (Fwk.out.trans hf.fr)
        clear hp hf
        go_wp2_with fail
        exact ⟨⟨k + 1, by omega, by omega, rfl, Ow8, Fw8⟩, by simp [intOf]; omega⟩
      · rw [hA'] at e1 e2
        obtain ⟨hle, hlow⟩ := hqk hA'
        clear hqk hA'
        by_cases hK0 : 0 < K
        · have g0 : decide ((0 : Int) < (K : Int)) = true := decide_eq_true (by omega)
          have gB : ((B : Int) == 0) = false := by
            rw [beq_eq_false_iff_ne]
            intro e
            have e0 : B = 0 := by omega
            have := HM.out
            rw [e0, HP0.out] at this
            omega
          have g1 : decide ((M : Int) < (K : Int)) = false := decide_eq_false (by omega)
          by_cases hKM : K = M
          · have hBk : B ≤ k := hlow hKM hK0
            have g3 : decide ((k : Int) < (B : Int)) = false := decide_eq_false (by have := hlow hKM hK0; omega)
            clear hlow hK g1 hle
            subst hKM
            go_wp2_with fail
            refine (PRead_c _ b 0 s1 x4 4 HX4.out Owk.out.pic.at_ Owk.out.pic.tz).mono ?_
            rw [HRD.out]
            simp only [readV]
            rintro e w8 ⟨rfl, hp, hf⟩
            have Ow8 := Lib.hid (Owk.out.step H9.out hp hf)
            have Fw8 := Lib.hid (Fwk.out.trans hf.fr)
            clear hp hf
            go_wp2_with fail
            exact ⟨⟨k + 1, by omega, by omega, rfl, Ow8, Fw8⟩, by simp [intOf]; omega⟩
          · have g2 : ((K : Int) == (M : Int)) = false := by rw [beq_eq_false_iff_ne]; omega
            clear hlow hK
            go_wp2_with fail
            refine (PRead_c _ b 0 s1 x4 4 HX4.out Owk.out.pic.at_ Owk.out.pic.tz).mono ?_
            rw [HRD.out]
            simp only [readV]
            rintro e w8 ⟨rfl, hp, hf⟩
            have Ow8 := Lib.hid (Owk.out.step H9.out hp hf)
            have Fw8 := Lib.hid (Fwk.out.trans hf.fr)
            clear hp hf
            go_wp2_with fail
            exact ⟨⟨k + 1, by omega, by omega, rfl, Ow8, Fw8⟩, by simp [intOf]; omega⟩
        · have g0 : decide ((0 : Int) < (K : Int)) = false := decide_eq_false (by omega)
          clear hlow hK
          go_wp2_with fail
          refine (PRead_c _ b 0 s1 x4 4 HX4.out Owk.out.pic.at_ Owk.out.pic.tz).mono ?_
          rw [HRD.out]
          simp only [readV]
          rintro e w8 ⟨rfl, hp, hf⟩
          have Ow8 := Lib.hid (Owk.out.step H9.out hp hf)
          have Fw8 := Lib.hid (Fwk.out.trans hf.fr)
          clear hp hf
          go_wp2_with fail
          exact ⟨⟨k + 1, by omega, by omega, rfl, Ow8, Fw8⟩, by simp [intOf]; omega⟩
    · have F9 := Lib.hid (Fw6.out.trans Fwk.out)
      clear HPR H6 HP0
      by_cases hB0 : B = 0
      · have gB : ((B : Int) == 0) = true := by rw [beq_iff_eq]; omega
        have h8 := H8.out
        rw [if_neg (by omega)] at h8
        have H8' := Lib.hid h8
        clear h8
        go_wp2_with fail
        go_ret
        rw [H8'.out]
        exact ⟨rfl, Owk.out⟩
      · have gB : ((B : Int) == 0) = false := by rw [beq_eq_false_iff_ne]; omega
        obtain ⟨k1, k2, k3⟩ := H7.out (by omega)
        have q := Owk.out.busyAt (k := B) (by omega)
        rw [k3] at q
        have kb := bit_odd A B k1
        obtain ⟨kb1, kb2⟩ := kb
        rw [← HM.out] at k2
        have gM : ((M : Int) == 0) = false := by rw [beq_eq_false_iff_ne]; omega
        have h8 := H8.out
        rw [if_pos (by omega)] at h8
        have H8' := Lib.hid h8
        clear h8 k1 k2 k3 H8 H7
        have hfz := Owk.out.row.free
        go_wp2_with fail
        go_ret
        rw [H8'.out]
        exact ⟨rfl, Owk.out.mark (by omega) true⟩
end Go.Proofs.YtcnglhneknbllaaDoor

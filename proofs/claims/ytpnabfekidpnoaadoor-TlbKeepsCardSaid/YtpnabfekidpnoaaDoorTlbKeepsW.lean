/-
  TlbKeeps, walked.
-/
import Derived.Test.YtpnabfekidpnoaaDoorTlbC
import Derived.Test.YtpnabfekidpnoaaDoorTlbD
namespace Go.Proofs.YtpnabfekidpnoaaDoor
open Go Go.RowKit

def cntArr (b : List TE) (i : Nat) : Array Value := #[.int .i64 (((b.take i).countP fun x => setOf 4 x.va == 0 : Nat) : Int), .int .i64 (((b.take i).countP fun x => setOf 4 x.va == 1 : Nat) : Int), .int .i64 (((b.take i).countP fun x => setOf 4 x.va == 2 : Nat) : Int), .int .i64 (((b.take i).countP fun x => setOf 4 x.va == 3 : Nat) : Int)]
def lastSet (b : List TE) (i : Nat) : Nat := match b[i - 1]? with
  | some x => if i = 0 then 0 else setOf 4 x.va
  | none => 0
theorem cntArr_at (b : List TE) (i q : Nat) (hq : q < 4) : (cntArr b i)[q]? = some (.int .i64 (((b.take i).countP fun x => setOf 4 x.va == q : Nat) : Int)) := by
  match q, hq with
  | 0, _ => rfl
  | 1, _ => rfl
  | 2, _ => rfl
  | 3, _ => rfl
theorem cntArr_put (b : List TE) (i q : Nat) (hi : i < b.length) (hs : setOf 4 (b[i]).va = q) (hq : q < 4) :
    (cntArr b i).setIfInBounds q (.int .i64 (((b.take i).countP (fun x => setOf 4 x.va == q) + 1 : Nat) : Int)) = cntArr b (i + 1) := by
  have h : ∀ s, (b.take (i + 1)).countP (fun x => setOf 4 x.va == s) = (b.take i).countP (fun x => setOf 4 x.va == s) + if q = s then 1 else 0 := fun s => by
    rw [← List.take_append_getElem hi, List.countP_append, List.countP_singleton, hs]
    simp
  unfold cntArr
  rw [h, h, h, h]
  match q, hq with
  | 0, _ => simp
  | 1, _ => simp
  | 2, _ => simp
  | 3, _ => simp
theorem cnt_le (b : List TE) (i q : Nat) (hi : i < b.length) (hs : setOf 4 (b[i]).va = q) (h3 : b.countP (fun x => setOf 4 x.va == q) ≤ 3) : (b.take i).countP (fun x => setOf 4 x.va == q) + 1 ≤ 3 := by
  have h : (b.take (i + 1)).countP (fun x => setOf 4 x.va == q) ≤ b.countP (fun x => setOf 4 x.va == q) := (List.take_sublist _ _).countP_le
  rw [← List.take_append_getElem hi, List.countP_append, List.countP_singleton, hs] at h
  simp at h
  omega
theorem lastSet_zero (b : List TE) : lastSet b 0 = 0 := by unfold lastSet; split <;> simp
theorem lastSet_succ (b : List TE) (i : Nat) (hi : i < b.length) : lastSet b (i + 1) = setOf 4 (b[i]).va := by
  unfold lastSet
  rw [Nat.add_sub_cancel, List.getElem?_eq_getElem hi]
  simp
theorem lastSet_le (b : List TE) (e : TE) (h : b.Pairwise fun x y => setOf 4 x.va ≤ setOf 4 y.va ∧ (setOf 4 x.va = setOf 4 y.va → x ≠ e)) (i : Nat) (hi : i < b.length) : lastSet b i ≤ setOf 4 (b[i]).va := by
  cases i with
  | zero => unfold lastSet; split <;> simp
  | succ j =>
    rw [lastSet_succ b j (by omega)]
    exact (List.pairwise_iff_getElem.1 h j (j + 1) (by omega) hi (by omega)).1
theorem madeOf_four (l : List TE) : Four (madeOf l) := Four.all l Four.start
set_option maxRecDepth 100000 in
set_option maxHeartbeats 2000000 in
theorem TlbKeeps_long (w : World) (a : Option Addr) (n c : Nat) (e : TE) (h100 : 100 < n) (hT : TzAt w) :
    Calls Tryd.prog 3 #[.slice a n c, .agg e.cells.toArray] w fun r w' => r = .returned (.bool true) ∧ Fr No w w' := by
  obtain ⟨W0, hW0⟩ : ∃ W0, W0 = w.alloc (.cells e.cells.toArray 25) := ⟨_, rfl⟩
  have hf0 : Fr No w W0 := by rw [hW0]; exact (Fr.refl No w).alloc _
  have hT0 := hT.fr hf0 (fun q => q)
  have HT := Lib.hid hT0
  have HA := Lib.hid (awake_c W0 hT0)
  have HF0 := Lib.hid hf0
  have HW := Lib.hid (show w.alloc (.cells #[.bool e.v, .int .u64 (e.vmid : Int), .int .u64 (e.asid : Int), .bool e.gl, .int .u64 (e.va : Int), .int .u64 (e.gpa : Int), .int .u64 (e.pa : Int), .int .i64 e.vl, .int .i64 e.gll, .int .u64 (e.vs : Int), .int .u64 (e.g : Int)] 25) = W0 from hW0.symm)
  have d1 : decide ((100 : Int) < (n : Int)) = true := by rw [decide_eq_true_iff]; omega
  clear hT hT0 hf0 hW0
  show Calls Tryd.prog 3 #[.slice a n c, .agg #[.bool e.v, .int .u64 (e.vmid : Int), .int .u64 (e.asid : Int), .bool e.gl, .int .u64 (e.va : Int), .int .u64 (e.gpa : Int), .int .u64 (e.pa : Int), .int .i64 e.vl, .int .i64 e.gll, .int .u64 (e.vs : Int), .int .u64 (e.g : Int)]] w _
  go_enter Tryd.func3, Tryd.ntmps3
  go_wp2_with fail
  rw [HW.out]
  refine HA.out.mono ?_
  rintro r w1 ⟨rfl, hf1⟩
  have HM := Lib.hid (made_long w1 a n c h100 (HT.out.fr hf1 (fun q => q)))
  have HF1 := Lib.hid (HF0.out.trans hf1)
  clear hf1
  go_wp2_with fail
  refine HM.out.mono ?_
  rintro r w2 ⟨rfl, hf2⟩
  go_wp2_with fail
  go_ret
  exact ⟨rfl, HF1.out.trans hf2⟩
set_option maxRecDepth 100000 in
set_option maxHeartbeats 4000000 in
theorem TlbKeeps_main (w : World) (v : Value) (l : List TE) (e : TE) (hr : Rd w v l.length (tcells l)) (h100 : l.length ≤ 100) (hT : TzAt w) :
    Calls Tryd.prog 3 #[v, .agg e.cells.toArray] w fun r w' => r = .returned (.bool true) ∧ Fr No w w' := by
  obtain ⟨bx, hbx⟩ : ∃ bx, bx = w.heap.size := ⟨_, rfl⟩
  obtain ⟨W0, hW0⟩ : ∃ W0, W0 = w.alloc (.cells e.cells.toArray 25) := ⟨_, rfl⟩
  have hf0 : Fr No w W0 := by rw [hW0]; exact (Fr.refl No w).alloc _
  have hB0 : Blk W0 bx 25 e.cells.toArray := by rw [hW0, hbx]; exact Blk.new w _ _
  have hT0 := hT.fr hf0 (fun q => q)
  have HT := Lib.hid hT0
  have HR := Lib.hid (hr.fr hf0 (fun _ _ _ q => q))
  have HA := Lib.hid (awake_c W0 hT0)
  have HF0 := Lib.hid hf0
  have HB0 := Lib.hid hB0
  have HBX := Lib.hid hbx
  have H4 := Lib.hid (madeOf_four l)
  have HW := Lib.hid (show w.alloc (.cells #[.bool e.v, .int .u64 (e.vmid : Int), .int .u64 (e.asid : Int), .bool e.gl, .int .u64 (e.va : Int), .int .u64 (e.gpa : Int), .int .u64 (e.pa : Int), .int .i64 e.vl, .int .i64 e.gll, .int .u64 (e.vs : Int), .int .u64 (e.g : Int)] 25) = W0 from hW0.symm)
  have H100 := Lib.hid h100
  clear hT hT0 hf0 hW0 hB0 hr h100
  show Calls Tryd.prog 3 #[v, .agg #[.bool e.v, .int .u64 (e.vmid : Int), .int .u64 (e.asid : Int), .bool e.gl, .int .u64 (e.va : Int), .int .u64 (e.gpa : Int), .int .u64 (e.pa : Int), .int .i64 e.vl, .int .i64 e.gll, .int .u64 (e.vs : Int), .int .u64 (e.g : Int)]] w _
  rw [hbx] at HB0
  clear hbx
  go_enter Tryd.func3, Tryd.ntmps3
  go_wp2_with fail
  rw [HW.out, ← HBX.out]
  refine HA.out.mono ?_
  rintro r w1 ⟨rfl, hf1⟩
  have HM := Lib.hid (made_c w1 v l (HR.out.fr hf1 (fun _ _ _ q => q)) H100.out (HT.out.fr hf1 (fun q => q)))
  have HF1 := Lib.hid hf1
  clear hf1
  go_wp2_with fail
  refine HM.out.mono ?_
  rintro r w2 ⟨b, rfl, hA2, hf2⟩
  obtain ⟨sz, hsz⟩ : ∃ sz, sz = W0.heap.size := ⟨_, rfl⟩
  have hbsz : bx < sz := by rw [hsz, HBX.out]; exact HB0.out.lt
  have HSZ := Lib.hid (And.intro hsz hbsz)
  have HF2 := Lib.hid (HF1.out.trans hf2)
  have HA2 := Lib.hid (hA2.mono (F' := fun k => sz ≤ k) (fun k h => by have h2 : w1.heap.size ≤ k := h; have := HF1.out.size; omega))
  have HB2 := Lib.hid (show Blk w2 bx 25 e.cells.toArray from by rw [HBX.out]; exact HB0.out.fr HF2.out (fun q => q))
  have y0 : w2.cell? ⟨bx, 0, none⟩ = some (.bool e.v) := HB2.out.cell 0
  have y1 : w2.cell? ⟨bx, 1, none⟩ = some (.int .u64 (e.vmid : Int)) := HB2.out.cell 1
  have y2 : w2.cell? ⟨bx, 2, none⟩ = some (.int .u64 (e.asid : Int)) := HB2.out.cell 2
  have y3 : w2.cell? ⟨bx, 3, none⟩ = some (.bool e.gl) := HB2.out.cell 3
  have y4 : w2.cell? ⟨bx, 4, none⟩ = some (.int .u64 (e.va : Int)) := HB2.out.cell 4
  have y5 : w2.cell? ⟨bx, 5, none⟩ = some (.int .u64 (e.gpa : Int)) := HB2.out.cell 5
  have y6 : w2.cell? ⟨bx, 6, none⟩ = some (.int .u64 (e.pa : Int)) := HB2.out.cell 6
  have y7 : w2.cell? ⟨bx, 7, none⟩ = some (.int .i64 e.vl) := HB2.out.cell 7
  have y8 : w2.cell? ⟨bx, 8, none⟩ = some (.int .i64 e.gll) := HB2.out.cell 8
  have y9 : w2.cell? ⟨bx, 9, none⟩ = some (.int .u64 (e.vs : Int)) := HB2.out.cell 9
  have y10 : w2.cell? ⟨bx, 10, none⟩ = some (.int .u64 (e.g : Int)) := HB2.out.cell 10
  clear hA2 hf2 hbsz hsz HM HF1 HA
  go_wp2_with fail
  refine (put_c w2 b 3 _ _ e HA2.out (madeOf_ok l)).mono ?_
  rintro r w3 ⟨rfl, hA3, hf3⟩
  obtain ⟨L1, hL1⟩ : ∃ L1, L1 = TS.put 3 (madeOf l) e := ⟨_, rfl⟩
  have hok1 : TS.Ok 3 L1 := by rw [hL1]; exact (madeOf_ok l).put e
  have htold : L1.get e.v e.vmid e.asid e.va = some e := by rw [hL1]; exact H4.out.told e
  obtain ⟨bl, hbl⟩ : ∃ bl, bl = L1.flatten := ⟨_, rfl⟩
  obtain ⟨n, hn⟩ : ∃ n, n = bl.length := ⟨_, rfl⟩
  have HBL := Lib.hid hbl
  have HN := Lib.hid hn
  clear hn hbl
  have hagain : L1.put 3 e = L1 := by rw [hL1]; exact H4.out.again e
  rw [← hL1] at hA3
  have HL1 := Lib.hid hL1
  have HOK := Lib.hid hok1
  have HAG := Lib.hid hagain
  have HF3 := Lib.hid (show Fr No W0 w3 from HF2.out.andThen hf3 (fun k hk h => by have h2 : sz ≤ k := h; have := HSZ.out.1; omega))
  have HA3 := Lib.hid (hA3.mono (F' := fun k => sz ≤ k) (fun k h => h.elim (fun h => h) (fun h => by have := HF2.out.size; have := HSZ.out.1; omega)))
  have HB3 := Lib.hid (show Blk w3 bx 25 e.cells.toArray from by rw [HBX.out]; exact HB0.out.fr HF3.out (fun q => q))
  have hget := get_c w3 b 3 L1 _ e.v e.vmid e.asid e.va HA3.out hok1
  rw [htold] at hget
  have hres : getRes (some e) = .tuple #[.agg #[.bool e.v, .int .u64 (e.vmid : Int), .int .u64 (e.asid : Int), .bool e.gl, .int .u64 (e.va : Int), .int .u64 (e.gpa : Int), .int .u64 (e.pa : Int), .int .i64 e.vl, .int .i64 e.gll, .int .u64 (e.vs : Int), .int .u64 (e.g : Int)], .bool true] := rfl
  rw [hres] at hget
  have HGET := Lib.hid hget
  clear hA3 hf3 hL1 hok1 htold hagain hget hres y0 y1 y2 y3 y4 y5 y6 y7 y8 y9 y10 HA2 HB2
  have y0 : w3.cell? ⟨bx, 0, none⟩ = some (.bool e.v) := HB3.out.cell 0
  have y1 : w3.cell? ⟨bx, 1, none⟩ = some (.int .u64 (e.vmid : Int)) := HB3.out.cell 1
  have y2 : w3.cell? ⟨bx, 2, none⟩ = some (.int .u64 (e.asid : Int)) := HB3.out.cell 2
  have y3 : w3.cell? ⟨bx, 3, none⟩ = some (.bool e.gl) := HB3.out.cell 3
  have y4 : w3.cell? ⟨bx, 4, none⟩ = some (.int .u64 (e.va : Int)) := HB3.out.cell 4
  have y5 : w3.cell? ⟨bx, 5, none⟩ = some (.int .u64 (e.gpa : Int)) := HB3.out.cell 5
  have y6 : w3.cell? ⟨bx, 6, none⟩ = some (.int .u64 (e.pa : Int)) := HB3.out.cell 6
  have y7 : w3.cell? ⟨bx, 7, none⟩ = some (.int .i64 e.vl) := HB3.out.cell 7
  have y8 : w3.cell? ⟨bx, 8, none⟩ = some (.int .i64 e.gll) := HB3.out.cell 8
  have y9 : w3.cell? ⟨bx, 9, none⟩ = some (.int .u64 (e.vs : Int)) := HB3.out.cell 9
  have y10 : w3.cell? ⟨bx, 10, none⟩ = some (.int .u64 (e.g : Int)) := HB3.out.cell 10
  go_wp2_with fail
  refine HGET.out.mono ?_
  rintro r w4 ⟨rfl, hb4⟩
  clear y0 y1 y2 y3 y4 y5 y6 y7 y8 y9 y10
  obtain ⟨X4, hX4⟩ : ∃ X4, X4 = w4.alloc (.cells #[.bool e.v, .int .u64 (e.vmid : Int), .int .u64 (e.asid : Int), .bool e.gl, .int .u64 (e.va : Int), .int .u64 (e.gpa : Int), .int .u64 (e.pa : Int), .int .i64 e.vl, .int .i64 e.gll, .int .u64 (e.vs : Int), .int .u64 (e.g : Int)] 25) := ⟨_, rfl⟩
  have hfx : Fr No w3 X4 := by rw [hX4]; exact (Fr.of_below hb4 No).alloc _
  have HF4 := Lib.hid (HF3.out.trans hfx)
  have HA4 := Lib.hid (HA3.out.fr hfx (fun _ _ q => q))
  have HB4 := Lib.hid (show Blk X4 bx 25 e.cells.toArray from by rw [HBX.out]; exact HB0.out.fr HF4.out (fun q => q))
  have hBX4 := HB4.out
  rw [hX4] at hBX4
  have y0 : (w4.alloc (.cells #[.bool e.v, .int .u64 (e.vmid : Int), .int .u64 (e.asid : Int), .bool e.gl, .int .u64 (e.va : Int), .int .u64 (e.gpa : Int), .int .u64 (e.pa : Int), .int .i64 e.vl, .int .i64 e.gll, .int .u64 (e.vs : Int), .int .u64 (e.g : Int)] 25)).cell? ⟨bx, 0, none⟩ = some (.bool e.v) := hBX4.cell 0
  have y1 : (w4.alloc (.cells #[.bool e.v, .int .u64 (e.vmid : Int), .int .u64 (e.asid : Int), .bool e.gl, .int .u64 (e.va : Int), .int .u64 (e.gpa : Int), .int .u64 (e.pa : Int), .int .i64 e.vl, .int .i64 e.gll, .int .u64 (e.vs : Int), .int .u64 (e.g : Int)] 25)).cell? ⟨bx, 1, none⟩ = some (.int .u64 (e.vmid : Int)) := hBX4.cell 1
  have y2 : (w4.alloc (.cells #[.bool e.v, .int .u64 (e.vmid : Int), .int .u64 (e.asid : Int), .bool e.gl, .int .u64 (e.va : Int), .int .u64 (e.gpa : Int), .int .u64 (e.pa : Int), .int .i64 e.vl, .int .i64 e.gll, .int .u64 (e.vs : Int), .int .u64 (e.g : Int)] 25)).cell? ⟨bx, 2, none⟩ = some (.int .u64 (e.asid : Int)) := hBX4.cell 2
  have y3 : (w4.alloc (.cells #[.bool e.v, .int .u64 (e.vmid : Int), .int .u64 (e.asid : Int), .bool e.gl, .int .u64 (e.va : Int), .int .u64 (e.gpa : Int), .int .u64 (e.pa : Int), .int .i64 e.vl, .int .i64 e.gll, .int .u64 (e.vs : Int), .int .u64 (e.g : Int)] 25)).cell? ⟨bx, 3, none⟩ = some (.bool e.gl) := hBX4.cell 3
  have y4 : (w4.alloc (.cells #[.bool e.v, .int .u64 (e.vmid : Int), .int .u64 (e.asid : Int), .bool e.gl, .int .u64 (e.va : Int), .int .u64 (e.gpa : Int), .int .u64 (e.pa : Int), .int .i64 e.vl, .int .i64 e.gll, .int .u64 (e.vs : Int), .int .u64 (e.g : Int)] 25)).cell? ⟨bx, 4, none⟩ = some (.int .u64 (e.va : Int)) := hBX4.cell 4
  have y5 : (w4.alloc (.cells #[.bool e.v, .int .u64 (e.vmid : Int), .int .u64 (e.asid : Int), .bool e.gl, .int .u64 (e.va : Int), .int .u64 (e.gpa : Int), .int .u64 (e.pa : Int), .int .i64 e.vl, .int .i64 e.gll, .int .u64 (e.vs : Int), .int .u64 (e.g : Int)] 25)).cell? ⟨bx, 5, none⟩ = some (.int .u64 (e.gpa : Int)) := hBX4.cell 5
  have y6 : (w4.alloc (.cells #[.bool e.v, .int .u64 (e.vmid : Int), .int .u64 (e.asid : Int), .bool e.gl, .int .u64 (e.va : Int), .int .u64 (e.gpa : Int), .int .u64 (e.pa : Int), .int .i64 e.vl, .int .i64 e.gll, .int .u64 (e.vs : Int), .int .u64 (e.g : Int)] 25)).cell? ⟨bx, 6, none⟩ = some (.int .u64 (e.pa : Int)) := hBX4.cell 6
  have y7 : (w4.alloc (.cells #[.bool e.v, .int .u64 (e.vmid : Int), .int .u64 (e.asid : Int), .bool e.gl, .int .u64 (e.va : Int), .int .u64 (e.gpa : Int), .int .u64 (e.pa : Int), .int .i64 e.vl, .int .i64 e.gll, .int .u64 (e.vs : Int), .int .u64 (e.g : Int)] 25)).cell? ⟨bx, 7, none⟩ = some (.int .i64 e.vl) := hBX4.cell 7
  have y8 : (w4.alloc (.cells #[.bool e.v, .int .u64 (e.vmid : Int), .int .u64 (e.asid : Int), .bool e.gl, .int .u64 (e.va : Int), .int .u64 (e.gpa : Int), .int .u64 (e.pa : Int), .int .i64 e.vl, .int .i64 e.gll, .int .u64 (e.vs : Int), .int .u64 (e.g : Int)] 25)).cell? ⟨bx, 8, none⟩ = some (.int .i64 e.gll) := hBX4.cell 8
  have y9 : (w4.alloc (.cells #[.bool e.v, .int .u64 (e.vmid : Int), .int .u64 (e.asid : Int), .bool e.gl, .int .u64 (e.va : Int), .int .u64 (e.gpa : Int), .int .u64 (e.pa : Int), .int .i64 e.vl, .int .i64 e.gll, .int .u64 (e.vs : Int), .int .u64 (e.g : Int)] 25)).cell? ⟨bx, 9, none⟩ = some (.int .u64 (e.vs : Int)) := hBX4.cell 9
  have y10 : (w4.alloc (.cells #[.bool e.v, .int .u64 (e.vmid : Int), .int .u64 (e.asid : Int), .bool e.gl, .int .u64 (e.va : Int), .int .u64 (e.gpa : Int), .int .u64 (e.pa : Int), .int .i64 e.vl, .int .i64 e.gll, .int .u64 (e.vs : Int), .int .u64 (e.g : Int)] 25)).cell? ⟨bx, 10, none⟩ = some (.int .u64 (e.g : Int)) := hBX4.cell 10
  have heq : ∀ W, (binOp .neq 25 (.agg #[.bool e.v, .int .u64 (e.vmid : Int), .int .u64 (e.asid : Int), .bool e.gl, .int .u64 (e.va : Int), .int .u64 (e.gpa : Int), .int .u64 (e.pa : Int), .int .i64 e.vl, .int .i64 e.gll, .int .u64 (e.vs : Int), .int .u64 (e.g : Int)]) (.agg #[.bool e.v, .int .u64 (e.vmid : Int), .int .u64 (e.asid : Int), .bool e.gl, .int .u64 (e.va : Int), .int .u64 (e.gpa : Int), .int .u64 (e.pa : Int), .int .i64 e.vl, .int .i64 e.gll, .int .u64 (e.vs : Int), .int .u64 (e.g : Int)])).run Tryd.prog W = .ok (.bool false) W := fun W => (te_eq_run e e W).2.trans (by rw [decide_eq_true rfl]; rfl)
  have HX4 := Lib.hid hX4.symm
  clear hfx hb4 hX4 hBX4 HA3 HB3
  go_wp2_with fail
  rw [HX4.out]
  refine (entries_c X4 b 3 L1 _ HA4.out HOK.out).mono ?_
  rintro r w5 ⟨va, rfl, hra, hf5⟩
  rw [← HBL.out] at hra
  obtain ⟨aa, ca, rfl, hca1, hca2⟩ := hra.len
  rw [← HN.out] at hra hca1 ⊢
  have HRA := Lib.hid hra
  have HF5 := Lib.hid (HF4.out.trans hf5)
  have HA5 := Lib.hid (HA4.out.cut.fr hf5 (fun _ _ q => q))
  have HB5 := Lib.hid (show Blk w5 bx 25 e.cells.toArray from by rw [HBX.out]; exact HB0.out.fr HF5.out (fun q => q))
  have HZ5 := Lib.hid hf5.size
  have HF45 := Lib.hid hf5
  clear y0 y1 y2 y3 y4 y5 y6 y7 y8 y9 y10 heq hra hf5
  have y0 : w5.cell? ⟨bx, 0, none⟩ = some (.bool e.v) := HB5.out.cell 0
  have y1 : w5.cell? ⟨bx, 1, none⟩ = some (.int .u64 (e.vmid : Int)) := HB5.out.cell 1
  have y2 : w5.cell? ⟨bx, 2, none⟩ = some (.int .u64 (e.asid : Int)) := HB5.out.cell 2
  have y3 : w5.cell? ⟨bx, 3, none⟩ = some (.bool e.gl) := HB5.out.cell 3
  have y4 : w5.cell? ⟨bx, 4, none⟩ = some (.int .u64 (e.va : Int)) := HB5.out.cell 4
  have y5 : w5.cell? ⟨bx, 5, none⟩ = some (.int .u64 (e.gpa : Int)) := HB5.out.cell 5
  have y6 : w5.cell? ⟨bx, 6, none⟩ = some (.int .u64 (e.pa : Int)) := HB5.out.cell 6
  have y7 : w5.cell? ⟨bx, 7, none⟩ = some (.int .i64 e.vl) := HB5.out.cell 7
  have y8 : w5.cell? ⟨bx, 8, none⟩ = some (.int .i64 e.gll) := HB5.out.cell 8
  have y9 : w5.cell? ⟨bx, 9, none⟩ = some (.int .u64 (e.vs : Int)) := HB5.out.cell 9
  have y10 : w5.cell? ⟨bx, 10, none⟩ = some (.int .u64 (e.g : Int)) := HB5.out.cell 10
  go_wp2_with fail
  refine (put_c w5 b 3 _ _ e HA5.out HOK.out).mono ?_
  rintro r w6 ⟨rfl, hA6, hf6⟩
  rw [HAG.out] at hA6
  have HF6 := Lib.hid (show Fr No W0 w6 from HF5.out.andThen hf6 (fun k hk h => by have h2 : sz ≤ k := h.1; have := HSZ.out.1; omega))
  have HRA6 := Lib.hid (HRA.out.fr hf6 (fun k hk h => by have h2 : k < X4.heap.size := h.2; have h3 : X4.heap.size ≤ k := hk.1; omega))
  have HE := Lib.hid (entries_c w6 b 3 L1 _ hA6 HOK.out)
  have HZ6 := Lib.hid hf6.size
  clear hA6 hf6 y0 y1 y2 y3 y4 y5 y6 y7 y8 y9 y10 HRA HA5 HB5
  go_wp2_with fail
  refine HE.out.mono ?_
  rintro r w7 ⟨vb, rfl, hrb, hf7⟩
  rw [← HBL.out] at hrb
  obtain ⟨ab, cb, rfl, hcb1, hcb2⟩ := hrb.len
  rw [← HN.out] at hrb hcb1 ⊢
  have HF7 := Lib.hid (HF6.out.trans hf7)
  have HRA7 := Lib.hid (HRA6.out.fr hf7 (fun _ _ q => q))
  have HRB7 := Lib.hid hrb
  have hbl := HBL.out
  have h12 : n ≤ 12 := by rw [HN.out, hbl, HL1.out]; exact (H4.out.put e).len
  have hcnt : ∀ s, bl.countP (fun x => setOf 4 x.va == s) ≤ 3 := by rw [hbl, HL1.out]; exact (H4.out.put e).count
  have hord : bl.Pairwise fun x y => setOf 4 x.va ≤ setOf 4 y.va ∧ (setOf 4 x.va = setOf 4 y.va → x ≠ e) := by rw [hbl, HL1.out]; exact H4.out.order e
  have hsame : putAll 3 (List.replicate 4 []) bl = L1 := by rw [hbl, HL1.out]; exact (H4.out.put e).same
  have hle1 : sz ≤ X4.heap.size := by have := HF4.out.size; have := HSZ.out.1; omega
  have HRA8 := Lib.hid (show Row w7 (.slice aa n ca) bl (fun k => sz ≤ k) from by exact HRA7.out.mono (fun k hk => by have h3 : X4.heap.size ≤ k := hk.1; omega))
  have HRB8 := Lib.hid (show Row w7 (.slice ab n cb) bl (fun k => sz ≤ k) from by exact HRB7.out.mono (fun k hk => by have h3 : w6.heap.size ≤ k := hk.1; have := HF6.out.size; have := HSZ.out.1; omega))
  have HB7 := Lib.hid (show Blk w7 bx 25 e.cells.toArray from by rw [HBX.out]; exact HB0.out.fr HF7.out (fun q => q))
  have HCNT := Lib.hid hcnt
  have HORD := Lib.hid hord
  have HSAME := Lib.hid hsame
  have d12 : decide ((12 : Int) < (n : Int)) = false := by rw [decide_eq_false_iff_not]; omega
  clear hrb hf7 hbl hcnt hord hsame hle1 hca1 hca2 hcb1 hcb2 HRA6 HRA7 HRB7 HE HF45 HZ5 HZ6 HX4 HF5 HF6 HA4 HB4 HF4 HAG HOK HL1 HGET HF3 HF2 HR HW
  go_wp2_with fail
  obtain ⟨bn, hbn⟩ : ∃ bn, bn = w7.heap.size := ⟨_, rfl⟩
  obtain ⟨w8, hw8⟩ : ∃ w8, w8 = w7.alloc (.cells #[.int .i64 0, .int .i64 0, .int .i64 0, .int .i64 0] 33) := ⟨_, rfl⟩
  rw [← hw8, ← hbn]
  have hfx : Fr No w7 w8 := by rw [hw8]; exact (Fr.refl No w7).alloc _
  have HBN := Lib.hid (show Blk w8 bn 33 (cntArr bl 0) from by rw [hw8, hbn]; exact Blk.new w7 _ _)
  have HRA9 := Lib.hid (HRA8.out.cut.fr hfx (fun _ _ q => q))
  have HRB9 := Lib.hid (HRB8.out.cut.fr hfx (fun _ _ q => q))
  have HF8 := Lib.hid (HF7.out.trans hfx)
  have HB8 := Lib.hid (HB7.out.fr hfx (fun q => q))
  have HBNZ := Lib.hid (show bn = w7.heap.size ∧ bx < bn from ⟨hbn, by rw [hbn]; exact HB7.out.lt⟩)
  clear hfx hw8 hbn HRA8 HRB8 HB7
  go_loopw [11, 12] (fun pl pi wr => ∃ i : Nat, i ≤ n ∧ pl = .int .i64 ((lastSet bl i : Nat) : Int) ∧ pi = .int .i64 (i : Int) ∧ Hid (Blk wr bn 33 (cntArr bl i)) ∧ Hid (Fr (One bn) w8 wr)) (fun _ pi _ => n - (intOf pi).toNat)
  case atStart => exact ⟨0, Nat.zero_le _, by rw [lastSet_zero]; rfl, rfl, HBN, Lib.hid (Fr.refl _ _)⟩
  case round =>
    obtain ⟨i, hi, rfl, rfl, HC, HF⟩ := hrel
    by_cases hlt : i < n
    · have hiL : i < bl.length := by have := HN.out; omega
      obtain ⟨q, hq⟩ : ∃ q, q = setOf 4 (bl[i]).va := ⟨_, rfl⟩
      have hq4 : q < 4 := by rw [hq]; exact set_lt _
      have hRB : Row wr (.slice ab bl.length cb) bl (fun k => sz ≤ k ∧ k < w7.heap.size) := by
        have h := HRB9.out.fr HF.out (fun k hk h => by have h2 : k = bn := h; have h3 : k < w7.heap.size := hk.2; have := HBNZ.out.1; omega)
        rw [HN.out] at h
        exact h
      obtain ⟨g, c', cur, hv, hg, hBg, _, _, _, hcs⟩ := hRB.at_ (by omega)
      injection hv with e1 _ e3
      subst e1 e3
      obtain ⟨x, hx⟩ : ∃ x, x = bl[i] := ⟨_, rfl⟩
      obtain ⟨q0, q1, q2, q3, q4, q5, q6, q7, q8, q9, q10⟩ := (hRB.own.elem hiL).te
      simp only [Nat.zero_add] at q0 q1 q2 q3 q4 q5 q6 q7 q8 q9 q10
      rw [← hx] at q0 q1 q2 q3 q4 q5 q6 q7 q8 q9 q10
      have hcnt := cnt_le bl i q hiL hq.symm (HCNT.out q)
      have hlast := lastSet_le bl e HORD.out i hiL
      rw [← hq] at hlast
      have hlsucc := lastSet_succ bl i hiL
      rw [← hq] at hlsucc
      have hput := cntArr_put bl i q hiL hq.symm hq4
      have hat := cntArr_at bl i q hq4
      obtain ⟨cn, hcn⟩ : ∃ cn, cn = (bl.take i).countP (fun x => setOf 4 x.va == q) := ⟨_, rfl⟩
      rw [← hcn] at hcnt hput hat
      obtain ⟨la, hla⟩ : ∃ la, la = lastSet bl i := ⟨_, rfl⟩
      rw [← hla] at hlast ⊢
      have hq' : x.va / 4096 % 4 = q := by rw [hq, hx]; rfl
      have z0 : wr.cell? ⟨bn, q, none⟩ = some (.int .i64 (cn : Int)) := (HC.out.cell q).trans hat
      have zf := HC.out.free
      have HBR := Lib.hid (HB8.out.fr HF.out (fun h => by have h2 : bx = bn := h; have := HBNZ.out.2; omega))
      have y0 : wr.cell? ⟨bx, 0, none⟩ = some (.bool e.v) := HBR.out.cell 0
      have y1 : wr.cell? ⟨bx, 1, none⟩ = some (.int .u64 (e.vmid : Int)) := HBR.out.cell 1
      have y2 : wr.cell? ⟨bx, 2, none⟩ = some (.int .u64 (e.asid : Int)) := HBR.out.cell 2
      have y3 : wr.cell? ⟨bx, 3, none⟩ = some (.bool e.gl) := HBR.out.cell 3
      have y4 : wr.cell? ⟨bx, 4, none⟩ = some (.int .u64 (e.va : Int)) := HBR.out.cell 4
      have y5 : wr.cell? ⟨bx, 5, none⟩ = some (.int .u64 (e.gpa : Int)) := HBR.out.cell 5
      have y6 : wr.cell? ⟨bx, 6, none⟩ = some (.int .u64 (e.pa : Int)) := HBR.out.cell 6
      have y7 : wr.cell? ⟨bx, 7, none⟩ = some (.int .i64 e.vl) := HBR.out.cell 7
      have y8 : wr.cell? ⟨bx, 8, none⟩ = some (.int .i64 e.gll) := HBR.out.cell 8
      have y9 : wr.cell? ⟨bx, 9, none⟩ = some (.int .u64 (e.vs : Int)) := HBR.out.cell 9
      have y10 : wr.cell? ⟨bx, 10, none⟩ = some (.int .u64 (e.g : Int)) := HBR.out.cell 10
      have HPUT := Lib.hid hput
      have HLS := Lib.hid hlsucc
      have HX := Lib.hid (show bl[i]? = some x from by rw [hx]; exact List.getElem?_eq_getElem hiL)
      have HQV := Lib.hid hq'
      have HRB := Lib.hid hRB
      have HCS := Lib.hid (And.intro hBg hcs)
      clear hput hlsucc hx hq hq' hRB hg hBg hcs hat hcn hla hiL
      have HS := Lib.hid (set_int2 x.va q HQV.out)
      have d3 : decide ((3 : Int) < (cn : Int) + 1) = false := by rw [decide_eq_false_iff_not]; omega
      have d4 : decide ((q : Int) < (la : Int)) = false := by rw [decide_eq_false_iff_not]; omega
      have d5 : decide (3 < cn + 1) = false := by rw [decide_eq_false_iff_not]; omega
      have d6 : decide (q < la) = false := by rw [decide_eq_false_iff_not]; omega
      go_upto_region 21 with fail
      rw [HS.out]
      go_upto_region 22 with fail
      obtain ⟨X, hX⟩ : ∃ X, X = wr.setCell ⟨bn, q, none⟩ (.int .i64 ((cn : Int) + 1)) := ⟨_, rfl⟩
      rw [← hX]
      have hfx : Fr (One bn) wr X := by rw [hX]; exact Fr.put wr bn q _
      have hbX : Blk X bn 33 (cntArr bl (i + 1)) := by rw [hX, ← HPUT.out]; exact HC.out.put q _
      have hcX : X.cell? ⟨bn, q, none⟩ = some (.int .i64 ((cn : Int) + 1)) := by rw [hX, (HC.out.put q _).cell, Array.getElem?_setIfInBounds]; simp [cntArr]; exact hq4
      have HCX := Lib.hid hbX
      have HFX := Lib.hid (HF.out.trans hfx)
      have HXB := Lib.hid (HBR.out.fr hfx (fun h => by have h2 : bx = bn := h; have := HBNZ.out.2; omega))
      have HXR := Lib.hid (HRB.out.fr hfx (fun k hk h => by have h2 : k = bn := h; have h3 : k < w7.heap.size := hk.2; have := HBNZ.out.1; omega))
      have e1 : IntKind.i64.wrap ((i : Int) + 1) = ((i + 1 : Nat) : Int) := by rw [IntKind.wrap_i64]; omega
      clear hX hfx hbX q0 q1 q2 q3 q4 q5 q6 q7 q8 q9 q10 y0 y1 y2 y3 y4 y5 y6 y7 y8 y9 y10 z0 zf HC HF HBR HRB HS HCS
      go_upto_region 25 with fail
      have hiL : i < bl.length := by have := HN.out; omega
      have hxi : bl[i] = x := by have h := HX.out; rw [List.getElem?_eq_getElem hiL] at h; exact Option.some.inj h
      obtain ⟨q0, q1, q2, q3, q4, q5, q6, q7, q8, q9, q10⟩ := (HXR.out.own.elem hiL).te
      simp only [Nat.zero_add] at q0 q1 q2 q3 q4 q5 q6 q7 q8 q9 q10
      rw [hxi] at q0 q1 q2 q3 q4 q5 q6 q7 q8 q9 q10
      have y0 : X.cell? ⟨bx, 0, none⟩ = some (.bool e.v) := HXB.out.cell 0
      have y1 : X.cell? ⟨bx, 1, none⟩ = some (.int .u64 (e.vmid : Int)) := HXB.out.cell 1
      have y2 : X.cell? ⟨bx, 2, none⟩ = some (.int .u64 (e.asid : Int)) := HXB.out.cell 2
      have y3 : X.cell? ⟨bx, 3, none⟩ = some (.bool e.gl) := HXB.out.cell 3
      have y4 : X.cell? ⟨bx, 4, none⟩ = some (.int .u64 (e.va : Int)) := HXB.out.cell 4
      have y5 : X.cell? ⟨bx, 5, none⟩ = some (.int .u64 (e.gpa : Int)) := HXB.out.cell 5
      have y6 : X.cell? ⟨bx, 6, none⟩ = some (.int .u64 (e.pa : Int)) := HXB.out.cell 6
      have y7 : X.cell? ⟨bx, 7, none⟩ = some (.int .i64 e.vl) := HXB.out.cell 7
      have y8 : X.cell? ⟨bx, 8, none⟩ = some (.int .i64 e.gll) := HXB.out.cell 8
      have y9 : X.cell? ⟨bx, 9, none⟩ = some (.int .u64 (e.vs : Int)) := HXB.out.cell 9
      have y10 : X.cell? ⟨bx, 10, none⟩ = some (.int .u64 (e.g : Int)) := HXB.out.cell 10
      clear hxi hiL
      by_cases hxe : x = e
      · have heq : ∀ W, (binOp .eql 25 (.agg #[.bool x.v, .int .u64 (x.vmid : Int), .int .u64 (x.asid : Int), .bool x.gl, .int .u64 (x.va : Int), .int .u64 (x.gpa : Int), .int .u64 (x.pa : Int), .int .i64 x.vl, .int .i64 x.gll, .int .u64 (x.vs : Int), .int .u64 (x.g : Int)]) (.agg #[.bool e.v, .int .u64 (e.vmid : Int), .int .u64 (e.asid : Int), .bool e.gl, .int .u64 (e.va : Int), .int .u64 (e.gpa : Int), .int .u64 (e.pa : Int), .int .i64 e.vl, .int .i64 e.gll, .int .u64 (e.vs : Int), .int .u64 (e.g : Int)])).run Tryd.prog W = .ok (.bool true) W := fun W => (te_eq_run x e W).1.trans (by rw [decide_eq_true hxe])
        by_cases hn1 : i + 1 < n
        · have hi2 : i + 1 < bl.length := by have := HN.out; omega
          obtain ⟨y, hy⟩ : ∃ y, y = bl[i + 1] := ⟨_, rfl⟩
          have hp4 := (HXR.out.own.elem hi2).te.2.2.2.2.1
          simp only [Nat.zero_add] at hp4
          rw [← hy] at hp4
          have hne : (bits .and .u64 ((y.va : Int) / 4096) 3 == bits .and .u64 ((e.va : Int) / 4096) 3) = false := by
            rw [set_int, set_int, nateq, beq_eq_false_iff_ne]
            intro hh
            have hiL : i < bl.length := by omega
            have hxi : bl[i] = x := by have h := HX.out; rw [List.getElem?_eq_getElem hiL] at h; exact Option.some.inj h
            have h2 := (List.pairwise_iff_getElem.1 HORD.out i (i + 1) hiL hi2 (by omega)).2
            rw [hxi, ← hy] at h2
            exact h2 (by rw [hxe]; exact hh.symm) hxe
          have d7 : decide ((i : Int) + 1 < (n : Int)) = true := by rw [decide_eq_true_iff]; omega
          have hii : i + 1 ≤ n := by omega
          have HII := Lib.hid hii
          clear hxe hy hi2 hii
          go_quiet (fail)
          go_wp2_with fail
          exact ⟨⟨i + 1, by omega, by rw [HLS.out], by simp, Lib.hid (HCX.out.drewN _), Lib.hid (HFX.out.drewN _)⟩, by simp [intOf]; omega⟩
        · have d7 : decide ((i : Int) + 1 < (n : Int)) = false := by rw [decide_eq_false_iff_not]; omega
          clear hxe
          go_quiet (fail)
          go_wp2_with fail
          exact ⟨⟨i + 1, by omega, by rw [HLS.out], by simp, Lib.hid (HCX.out.drewN _), Lib.hid (HFX.out.drewN _)⟩, by simp [intOf]; omega⟩
      · have heq : ∀ W, (binOp .eql 25 (.agg #[.bool x.v, .int .u64 (x.vmid : Int), .int .u64 (x.asid : Int), .bool x.gl, .int .u64 (x.va : Int), .int .u64 (x.gpa : Int), .int .u64 (x.pa : Int), .int .i64 x.vl, .int .i64 x.gll, .int .u64 (x.vs : Int), .int .u64 (x.g : Int)]) (.agg #[.bool e.v, .int .u64 (e.vmid : Int), .int .u64 (e.asid : Int), .bool e.gl, .int .u64 (e.va : Int), .int .u64 (e.gpa : Int), .int .u64 (e.pa : Int), .int .i64 e.vl, .int .i64 e.gll, .int .u64 (e.vs : Int), .int .u64 (e.g : Int)])).run Tryd.prog W = .ok (.bool false) W := fun W => (te_eq_run x e W).1.trans (by rw [decide_eq_false hxe])
        clear hxe
        go_quiet (fail)
        go_wp2_with fail
        exact ⟨⟨i + 1, by omega, by rw [HLS.out], by simp, Lib.hid (HCX.out.drewN _), Lib.hid (HFX.out.drewN _)⟩, by simp [intOf]; omega⟩
    · obtain rfl : i = n := by omega
      have hfw : Fr No W0 wr := HF8.out.andThen HF.out (fun k hk h => by have h2 : k = bn := h; have h3 := HBNZ.out.1; have h4 := HF7.out.size; omega)
      have hnb : ∀ k, (sz ≤ k ∧ k < w7.heap.size) → ¬ One bn k := fun k hk h => by have h2 : k = bn := h; have h3 : k < w7.heap.size := hk.2; have := HBNZ.out.1; omega
      have hRA := HRA9.out.fr HF.out hnb
      have hRB := HRB9.out.fr HF.out hnb
      rw [HN.out] at hRA hRB
      have HM2 := Lib.hid (made_c wr _ bl hRA.own.rd (by have := HN.out; omega) (HT.out.fr hfw (fun q => q)))
      have HRA10 := Lib.hid hRA
      have HRB10 := Lib.hid hRB
      have HF9 := Lib.hid hfw
      have HNN := HN.out
      rw [← HNN] at HM2
      clear hRA hRB hfw hnb HNN
      go_wp2_with fail
      refine HM2.out.mono ?_
      rintro r w10 ⟨b2, rfl, hA10, hf10⟩
      have hmo : madeOf bl = L1 := HSAME.out
      rw [hmo] at hA10
      have HE2 := Lib.hid (entries_c w10 b2 3 L1 _ hA10 (by rw [← hmo]; exact madeOf_ok bl))
      have HF10 := Lib.hid hf10
      clear hA10 hf10 hmo
      go_wp2_with fail
      refine HE2.out.mono ?_
      rintro r w11 ⟨vc, rfl, hrc, hf11⟩
      rw [← HBL.out] at hrc
      obtain ⟨ac, cc, rfl, _, _⟩ := hrc.len
      have hfx := HF10.out.trans hf11
      have HRC := Lib.hid hrc
      have HRA11 := Lib.hid (HRA10.out.fr hfx (fun _ _ q => q))
      have HRB11 := Lib.hid (HRB10.out.fr hfx (fun _ _ q => q))
      have HF11 := Lib.hid (HF9.out.trans hfx)
      rw [← HN.out] at HRC HRA11 HRB11 ⊢
      clear hrc hf11 hfx HRA10 HRB10
      go_wp2_with fail
      go_loopw [16] (fun pi wx => ∃ j : Nat, j ≤ i ∧ pi = .int .i64 (j : Int) ∧ Hid (Fr No w11 wx)) (fun pi _ => i - (intOf pi).toNat)
      case atStart => exact ⟨0, Nat.zero_le _, rfl, Lib.hid (Fr.refl _ _)⟩
      case round =>
        obtain ⟨j, hj, rfl, HFX⟩ := hrel
        by_cases hlt2 : j < i
        · have hjL : j < bl.length := by have := HN.out; omega
          have hA := HRA11.out.fr HFX.out (fun _ _ q => q)
          have hB := HRB11.out.fr HFX.out (fun _ _ q => q)
          have hC := HRC.out.fr HFX.out (fun _ _ q => q)
          rw [HN.out] at hA hB hC
          obtain ⟨ga, c1, _, hva, _⟩ := hA.at_ (by omega)
          obtain ⟨gb, c2, _, hvb, _⟩ := hB.at_ (by omega)
          obtain ⟨gc, c3, _, hvc, _⟩ := hC.at_ (by omega)
          injection hva with ea _ _
          injection hvb with eb _ _
          injection hvc with ec _ _
          subst ea eb ec
          obtain ⟨x, hx⟩ : ∃ x, x = bl[j] := ⟨_, rfl⟩
          obtain ⟨q0, q1, q2, q3, q4, q5, q6, q7, q8, q9, q10⟩ := (hA.own.elem hjL).te
          obtain ⟨p0, p1, p2, p3, p4, p5, p6, p7, p8, p9, p10⟩ := (hB.own.elem hjL).te
          obtain ⟨r0, r1, r2, r3, r4, r5, r6, r7, r8, r9, r10⟩ := (hC.own.elem hjL).te
          simp only [Nat.zero_add] at q0 q1 q2 q3 q4 q5 q6 q7 q8 q9 q10 p0 p1 p2 p3 p4 p5 p6 p7 p8 p9 p10 r0 r1 r2 r3 r4 r5 r6 r7 r8 r9 r10
          rw [← hx] at q0 q1 q2 q3 q4 q5 q6 q7 q8 q9 q10 p0 p1 p2 p3 p4 p5 p6 p7 p8 p9 p10 r0 r1 r2 r3 r4 r5 r6 r7 r8 r9 r10
          have heq : ∀ W, (binOp .neq 25 (.agg #[.bool x.v, .int .u64 (x.vmid : Int), .int .u64 (x.asid : Int), .bool x.gl, .int .u64 (x.va : Int), .int .u64 (x.gpa : Int), .int .u64 (x.pa : Int), .int .i64 x.vl, .int .i64 x.gll, .int .u64 (x.vs : Int), .int .u64 (x.g : Int)]) (.agg #[.bool x.v, .int .u64 (x.vmid : Int), .int .u64 (x.asid : Int), .bool x.gl, .int .u64 (x.va : Int), .int .u64 (x.gpa : Int), .int .u64 (x.pa : Int), .int .i64 x.vl, .int .i64 x.gll, .int .u64 (x.vs : Int), .int .u64 (x.g : Int)])).run Tryd.prog W = .ok (.bool false) W := fun W => (te_eq_run x x W).2.trans (by rw [decide_eq_true rfl]; rfl)
          have e1 : IntKind.i64.wrap ((j : Int) + 1) = ((j + 1 : Nat) : Int) := by rw [IntKind.wrap_i64]; omega
          clear hA hB hC hx hjL
          go_upto_region 34 with fail
          go_quiet (fail)
          go_wp2_with fail
          exact ⟨⟨j + 1, by omega, by simp, Lib.hid (HFX.out.drewN _)⟩, by simp [intOf]; omega⟩
        · obtain rfl : j = i := by omega
          go_wp2_with fail
          go_ret
          exact ⟨rfl, (HF0.out.trans HF11.out).trans HFX.out⟩
end Go.Proofs.YtpnabfekidpnoaaDoor

/-
  The statement UartFull: its walk.
-/
import Derived.Test.YtcnglhneknbllaaDoorUartP
import Derived.Deep.RegionHeld3
namespace Go.Proofs.YtcnglhneknbllaaDoor
open Go Go.RowKit

/-- A line into which the same byte was written `k` times. -/
def fullAt (b k : Nat) : US := ⟨[], List.replicate (min k 65536) b, 0, 0, 0, 0, 0, 0, 0, false, decide (0 < k)⟩
theorem fullAt_zero (b : Nat) : fullAt b 0 = US.new := by
  unfold fullAt US.new
  rw [Nat.zero_min]
  rfl
theorem fullAt_write (b k v : Nat) (hv : k < 65536 → v % 256 = b) : (fullAt b k).write 0 1 v = (fullAt b (k + 1), true) := by
  have hl : (fullAt b k).latch = false := by show Nat.testBit 0 7 = false; exact Nat.zero_testBit 7
  unfold US.write US.put
  rw [if_neg (by omega), if_pos rfl, if_neg (by rw [hl]; decide)]
  refine Prod.ext ?_ rfl
  unfold fullAt
  generalize hL : (65536 : Nat) = L at hv ⊢
  show (⟨[], if (List.replicate (min k L) b).length < L then List.replicate (min k L) b ++ [v % 256] else List.replicate (min k L) b, 0, 0, 0, 0, 0, 0, 0, false, true⟩ : US) = ⟨[], List.replicate (min (k + 1) L) b, 0, 0, 0, 0, 0, 0, 0, false, decide (0 < k + 1)⟩
  rw [decide_eq_true (Nat.succ_pos k), List.length_replicate]
  congr 1
  by_cases hk : k < L
  · rw [if_pos (by omega), hv hk, Nat.min_eq_left (by omega), Nat.min_eq_left (by omega), List.replicate_succ']
  · rw [if_neg (by omega), Nat.min_eq_right (by omega), Nat.min_eq_right (by omega)]

set_option maxRecDepth 100000 in
set_option maxHeartbeats 4000000 in
theorem UartFull_c (w : World) (hk : KeptAt w) (b m : Nat) (hb : b < 256) (hm : m < 256) :
    Calls Tryd.prog 3 #[.int .u8 (b : Int), .int .u8 (m : Int)] w fun e w' => e = .returned (.bool true) ∧ Fr No w w' := by
  have HK := Lib.hid hk
  have HX := Lib.hid (fun k (h : k < w.heap.size) => h)
  obtain ⟨L, hL⟩ : ∃ L, L = 65536 + m := ⟨_, rfl⟩
  have e1 : IntKind.i64.wrap ((m : Nat) : Int) = ((m : Nat) : Int) := by rw [IntKind.wrap_i64]; omega
  have e2 : IntKind.i64.wrap ((65536 : Int) + ((m : Nat) : Int)) = ((L : Nat) : Int) := by rw [IntKind.wrap_i64]; omega
  have E3 := Lib.hid (fun k : Nat => show k < L → IntKind.u64.wrap (IntKind.u64.wrap ((b : Nat) : Int) + IntKind.u64.wrap (wrap64 (((k : Nat) : Int) / 65536))) = ((b + k / 65536 : Nat) : Int) from fun hkL => by
    have e : wrap64 (((k : Nat) : Int) / 65536) = ((k / 65536 : Nat) : Int) := by
      unfold wrap64; omega
    rw [e, IntKind.wrap_u64, IntKind.wrap_u64, IntKind.wrap_u64]
    omega)
  have HB := Lib.hid hb
  have HL := Lib.hid hL
  have HM := Lib.hid hm
  clear hk hL hb hm
  go_enter Tryd.func3, Tryd.ntmps3
  go_wp2_with fail
  refine (awake_c w HK.out).mono ?_
  rintro e w1 ⟨rfl, hf1⟩
  have F1 := Lib.hid hf1
  have G1 := Lib.hid ((Ground.start HK.out).keep (hf1.keep (fun _ h => h.elim)))
  clear hf1
  go_wp2_with fail
  refine (aNew G1.out).mono ?_
  rintro e w2 ⟨rfl, hu2, hk2⟩
  have F2 := Lib.hid (F1.out.after hk2 HX.out)
  have A2 := Lib.hid hu2
  clear hu2 hk2
  rw [← fullAt_zero b] at A2
  go_wp2_with fail
  go_loopw [6] (fun i wr => ∃ k : Nat, k ≤ L ∧ i = .int .i64 (k : Int) ∧ Hid (Alone (fun k => k < w.heap.size) wr w1.heap.size (fullAt b k)) ∧ Hid (Fr No w wr)) (fun i _ => L - (intOf i).toNat)
  case atStart => exact ⟨0, Nat.zero_le _, rfl, A2, F2⟩
  case round =>
    obtain ⟨k, hkL, rfl, HA, HF⟩ := hrel
    by_cases hlt : k < L
    · have e3 := E3.out k hlt
      have e4 : IntKind.i64.wrap ((k : Int) + 1) = ((k + 1 : Nat) : Int) := by have := HL.out; have := HM.out; rw [IntKind.wrap_i64]; omega
      go_wp2_with fail
      refine (aWrite 0 1 (b + k / 65536) (by omega) HA.out).mono ?_
      have hb := HB.out
      rw [fullAt_write b k _ (fun h => by rw [Nat.div_eq_of_lt h]; omega)]
      clear hb
      rintro e w3 ⟨rfl, hu3, hk3⟩
      have A3 := Lib.hid hu3
      have F3 := Lib.hid (HF.out.after hk3 HX.out)
      clear hu3 hk3
      go_wp2_with fail
      exact ⟨⟨k + 1, hlt, rfl, A3, F3⟩, by simp [intOf]; omega⟩
    · obtain rfl : k = L := by omega
      go_wp2_with fail
      refine (aOut HA.out).mono ?_
      have hlen : (fullAt b k).out.length = 65536 := by
        have := HL.out
        show (List.replicate (min k 65536) b).length = 65536
        rw [List.length_replicate]; omega
      have hcell : ∀ j : Nat, j < 65536 → (bytesV (fullAt b k).out)[j]? = some (u8v b) := fun j hj => by
        have := HL.out
        show (bytesV (List.replicate (min k 65536) b))[j]? = some (u8v b)
        rw [bytesV_at, List.getElem?_replicate, if_pos (by omega)]; rfl
      rw [hlen]
      rintro e w3 ⟨v3, rfl, ho3, hf3, hu3⟩
      obtain ⟨g, o, c, rfl, hc1, hc2, hgG, hgw, hcl, hfz⟩ := ho3.at_ (by omega)
      have k0 := hcl 0 _ (hcell 0 (by omega))
      have k1 := hcl 65535 _ (hcell 65535 (by omega))
      have F3 := Lib.hid (HF.out.trans hf3)
      clear ho3 hcl hcell hlen hf3 hu3 hfz hc2
      rw [Nat.add_zero] at k0
      go_wp2_with fail
      go_ret
      exact ⟨rfl, F3.out⟩
end Go.Proofs.YtcnglhneknbllaaDoor

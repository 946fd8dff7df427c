/-
  Contracts of math/bits.TrailingZeros64 (under its table) and of mezzanine/bits.Ones.
-/
import Derived.Test.YtpnabfekidpnoaaDoorOnesM
import Derived.Test.YtpnabfekidpnoaaDoorChecked
import Derived.Shelf.Spec.TrailingZeros
import Derived.WalkSpells
namespace Go.Proofs.YtpnabfekidpnoaaDoor
open Go Go.RowKit

/-- The table of math/bits stands in memory. -/
abbrev TzAt (w : World) : Prop := TabAt 0 Lib.deBruijn64tab w
theorem TzAt.fr {w w' : World} {S : Nat → Prop} (h : TzAt w) (hf : Fr S w w') (hs : ¬ S 0) : TzAt w' := fun j hj => hf.cell (h j hj) hs

set_option maxRecDepth 100000 in
set_option maxHeartbeats 1000000 in
theorem Tz_core (x k idx : Nat) (w : World) (hx0 : ((x : Int) == 0) = false)
    (key : IntKind.u64.wrap (bits BinOp.and IntKind.u64 (x : Int) (IntKind.u64.wrap (-(x : Int))) * 285870213051353865) / 288230376151711744 = (idx : Int))
    (hi : idx < 64) (hk : k < 64) (hcell : w.cell? ⟨0, idx, none⟩ = some (.int .u8 k)) :
    Calls Tryd.prog 47 #[.int .u64 (x : Int)] w fun e w' => e = .returned (.int .i64 (k : Int)) ∧ w = w' := by
  go_enter Tryd.func47, Tryd.ntmps47
  go_wp2_with (simp only [key])
  go_ret
  exact ⟨rfl, rfl⟩
theorem Tz_zero (w : World) : Calls Tryd.prog 47 #[.int .u64 0] w fun e w' => e = .returned (.int .i64 64) ∧ w = w' := by
  go_enter Tryd.func47, Tryd.ntmps47
  go_wp2
  go_ret
  exact ⟨rfl, rfl⟩
theorem Tz_c (x : Nat) (hx : x < 18446744073709551616) (w : World) (hT : TzAt w) :
    Calls Tryd.prog 47 #[.int .u64 (x : Int)] w fun e w' => e = .returned (.int .i64 ((Lib.ctz 64 x : Nat) : Int)) ∧ w = w' := by
  by_cases hx0 : x = 0
  · subst hx0
    exact Tz_zero w
  · obtain ⟨hlow, hk⟩ := Lib.lowest_bit 64 x hx0 hx
    obtain ⟨hi, htab⟩ := Lib.deBruijn64_at _ hk
    have hcell := hT _ hi
    rw [htab] at hcell
    exact Tz_core x _ _ w (by simp; omega) (tz64_key x _ hx hx0 hlow) hi hk hcell

theorem info_int : (Tryd.prog.info? 3).map (fun i => (i.zero, i.size, i.bytes)) = some (some (.int .i64 0), 1, 8) := by kernel_rfl
abbrev i64v (n : Nat) : Value := .int .i64 (n : Int)
def intsV (l : List Nat) : List Value := l.map i64v
theorem intsV_len (l : List Nat) : (intsV l).length = l.length := by simp [intsV]
theorem intsV_app (l m : List Nat) : intsV (l ++ m) = intsV l ++ intsV m := by simp [intsV]
theorem intsV_one (l : List Nat) : ∀ u ∈ intsV l, u.oneCell' = true := by
  intro u hu
  simp only [intsV, List.mem_map] at hu
  obtain ⟨x, _, rfl⟩ := hu
  rfl

set_option maxRecDepth 100000 in
set_option maxHeartbeats 1000000 in
theorem Ones_c (w : World) (x : Nat) (hx : x < 18446744073709551616) (hT : TzAt w) :
    Calls Tryd.prog 30 #[.int .u64 (x : Int)] w fun e w' => ∃ v', e = .returned v' ∧ Own w' 3 1 v' (ones x).length (intsV (ones x)) (fun k => w.heap.size ≤ k ∧ k < w'.heap.size) ∧ Fr No w w' := by
  have HT := Lib.hid hT
  obtain ⟨i0, hi0, hz0, hz1, hz2⟩ := info_parts info_int
  have HI := Lib.hid hi0
  have H0 := Lib.hid hz0
  have H1 := Lib.hid hz1
  have H2 := Lib.hid hz2
  have HX := Lib.hid hx
  clear hT hi0 hz0 hz1 hz2 hx
  go_enter Tryd.func30, Tryd.ntmps30
  go_wp2_with fail
  go_loopw [0, 3] (fun u l wr => ∃ (y : Nat) (acc : List Nat), u = .int .u64 (y : Int) ∧ Hid (y < 18446744073709551616) ∧ Hid (Own wr 3 1 l acc.length (intsV acc) (fun k => w.heap.size ≤ k ∧ k < wr.heap.size)) ∧ Hid (Fr No w wr) ∧ Hid (ones x = acc ++ ones y)) (fun u _ _ => (intOf u).toNat)
  case atStart => exact ⟨x, [], rfl, HX, Lib.hid (Own.nil_ _ _ _ _), Lib.hid (Fr.refl _ _), Lib.hid rfl⟩
  case round =>
    obtain ⟨y, acc, rfl, HY, HO, HW, HE⟩ := hrel
    by_cases hy0 : y = 0
    · subst hy0
      have he := HE.out
      rw [ones_zero, List.append_nil] at he
      have HE2 := Lib.hid he
      clear he
      go_wp2_with fail
      go_ret
      exact ⟨_, rfl, by rw [HE2.out]; exact HO.out, HW.out⟩
    · have hne : ((y : Int) != 0) = true := by simp; omega
      obtain ⟨hk, hs⟩ := ones_step y hy0 HY.out
      obtain ⟨z, hz⟩ : ∃ z, z = y &&& (y - 1) := ⟨_, rfl⟩
      have hzl : z ≤ y - 1 := by rw [hz]; exact Nat.and_le_right
      have hsub : IntKind.u64.wrap ((y : Int) - 1) = ((y - 1 : Nat) : Int) := by have := HY.out; rw [IntKind.wrap_u64]; omega
      have hand : bits BinOp.and IntKind.u64 (y : Int) ((y - 1 : Nat) : Int) = (z : Int) := by have := HY.out; rw [hz, bits_and_u64_nat y _ this (by omega)]
      rw [← hz] at hs
      have HS := Lib.hid hs
      have hlen : acc.length ≤ 64 := by
        have := ones_len x
        rw [HE.out, List.length_append] at this
        omega
      clear hz hs
      obtain ⟨c, hc⟩ : ∃ c, c = Lib.ctz 64 y := ⟨_, rfl⟩
      rw [← hc] at HS hk
      have HC := Lib.hid hc
      clear hc
      go_wp2_with fail
      refine (Tz_c y HY.out _ (HT.out.fr HW.out (fun h => h))).mono ?_
      rw [← HC.out]
      rintro e w2 ⟨rfl, rfl⟩
      have O2 := Lib.hid (HO.out.fr ((Fr.refl No wr).alloc (.cells #[i64v c] 3)) (fun _ _ h => h))
      have R2 := Lib.hid (Rd.new wr 3 [i64v c] 1 (by unfold maxLen; omega))
      go_wp2_with
       (at_builtin
        refine wpList_append _ rfl (.tmp 6) (.tmp 9) _ rfl 3 i0 _ 1 8 Tryd.underlying70 HI.out H0.out H1.out H2.out rfl _ acc.length (intsV acc) _ rfl O2.out _ 1 [i64v c] rfl R2.out rfl (intsV_one [c]) (by unfold maxLen; omega) (by omega) ?_
        intro v3 w3 hown3 hf3
        have O3 := Lib.hid hown3
        have F3 := Lib.hid hf3
        clear hown3 hf3)
      have F4 : Hid (Fr No w w3) := Lib.hid ((HW.out.alloc _).andThen F3.out (fun j hj hG => by exfalso; omega))
      refine ⟨⟨z, acc ++ [c], rfl, Lib.hid (by have := HY.out; omega), ?_, F4, Lib.hid (by rw [HE.out, HS.out, List.append_assoc]; rfl)⟩, by simp [intOf]; omega⟩
      refine Lib.hid ?_
      have hs := F3.out.size
      have h2 := HW.out.size
      rw [World.size_alloc] at hs
      rw [intsV_app, List.length_append]
      refine O3.out.cut.mono (fun j hj => ⟨?_, hj.2⟩)
      rcases hj.1 with h | h
      · exact h.1
      · rw [h, World.size_alloc]; omega
end Go.Proofs.YtpnabfekidpnoaaDoor

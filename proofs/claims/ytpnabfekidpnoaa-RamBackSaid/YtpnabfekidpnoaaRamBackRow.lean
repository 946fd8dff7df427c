/-
  The statement RamBack: at every page, row of acts, address and numbers it answers true, and leaves its arguments as they were. No condition beside the row's own.
-/
import Derived.Test.YtpnabfekidpnoaaOpen
import Derived.Test.YtpnabfekidpnoaaRamBackW
import Derived.Test.YtpnabfekidpnoaaUnlaid
namespace Go.Proofs.Ytpnabfekidpnoaa
open Go Go.RowKit Go.ChangeShapes Go.WideShapes


set_option maxRecDepth 100000 in
theorem RamBack_lifted (os : Os) (started : os.Started) (H : Type) (enc : TypeId × Value → H) :
    ReturnsInHanded {} Try.checked os 3 .any (fun w args => (Rows.ramBackSpec.pre enc Try.prog Try.f3 [] false w args ∧ laidMet Try.prog [] w) ∧ sizedMet enc Try.prog Try.f3 (OpenSpec.ofChange Rows.ramBackSpec) false w args)
      (Rows.ramBackSpec.post enc Try.prog Try.f3 false true false false) := by
  refine lift_true (C := Try.checked) (tb := 4) (X := fun w _ => laidMet Try.prog [] w) (fun _ _ _ hh h => h.of_heap hh) ownNone started (by kernel_rfl) Try.func3 laidOut rfl (by kernel_rfl) (by kernel_rfl) Try.underlying4 ?_ ?_
    (ChangeSpec.witness_at (enc := enc) (C := Try.checked) (os := os) (X := fun w _ => laidMet Try.prog [] w) false (world_none os) #[.int .u64 0, .slice none 0 0, .int .u64 0, .int .i64 0, .int .u64 0] 8 rfl (by kernel_rfl) (by kernel_rfl) (by kernel_rfl) (by kernel_rfl) (by kernel_rfl) (world_none_met os _)) ?_
  · intro t ht
    have e : Try.f3.params.toList = [22, 23, 22, 3, 22] := by kernel_rfl
    rw [e] at ht
    simp only [List.mem_cons, List.not_mem_nil, or_false] at ht
    rcases ht with rfl | rfl | rfl | rfl | rfl
    · exact ⟨by kernel_rfl, of_decide_eq_true (by kernel_rfl)⟩
    · exact ⟨by kernel_rfl, of_decide_eq_true (by kernel_rfl)⟩
    · exact ⟨by kernel_rfl, of_decide_eq_true (by kernel_rfl)⟩
    · exact ⟨by kernel_rfl, of_decide_eq_true (by kernel_rfl)⟩
    · exact ⟨by kernel_rfl, of_decide_eq_true (by kernel_rfl)⟩
  · intro ds hds
    have e : Try.f3.params.toList = [22, 23, 22, 3, 22] := by kernel_rfl
    rw [e] at hds
    match ds, hds with
    | [d0, d1, d2, d3, d4], _ => simp [Rows.ramBackSpec]
  · intro W base args ds ps hval0 hA0 hL
    have e : Try.f3.params = #[22, 23, 22, 3, 22] := by kernel_rfl
    have hval : ∀ (j : Nat) t v, Try.f3.params[j]? = some t → args[j]? = some v → Value.okWide Try.prog W .any base t v := hval0
    have hA : DataW.TrodAll enc Try.prog W 0 (fun _ => true) true Try.f3.params.toList args.toList ds ps := hA0
    rw [e] at hA hval
    obtain ⟨v0, vs0, d0, ds0, p0, q0, hargs, rfl, rfl, h0, r0⟩ := trodAll_cons hA
    obtain ⟨v1, vs1, d1, ds1, p1, q1, rfl, rfl, rfl, h1, r1⟩ := trodAll_cons r0
    obtain ⟨v2, vs2, d2, ds2, p2, q2, rfl, rfl, rfl, h2, r2⟩ := trodAll_cons r1
    obtain ⟨v3, vs3, d3, ds3, p3, q3, rfl, rfl, rfl, h3, r3⟩ := trodAll_cons r2
    obtain ⟨v4, vs4, d4, ds4, p4, q4, rfl, rfl, rfl, h4, r4⟩ := trodAll_cons r3
    obtain ⟨rfl, rfl, rfl⟩ := trodAll_nil r4
    obtain rfl : args = #[v0, v1, v2, v3, v4] := by cases args; simp_all
    obtain ⟨z0, rfl, rfl, rfl, wz0⟩ := open_int Try.underlying22 (hval 0 _ v0 rfl rfl) h0
    obtain ⟨x0, rfl, hx0⟩ := nat_u64 wz0
    obtain ⟨xs1, hr1, ho1⟩ := open_acts Try.underlying23 (okWide_slice Try.underlying23 (hval 1 _ v1 rfl rfl)) h1
    obtain ⟨z2, rfl, rfl, rfl, wz2⟩ := open_int Try.underlying22 (hval 2 _ v2 rfl rfl) h2
    obtain ⟨x2, rfl, hx2⟩ := nat_u64 wz2
    obtain ⟨z3, rfl, rfl, rfl, wz3⟩ := open_int Try.underlying3 (hval 3 _ v3 rfl rfl) h3
    obtain ⟨z4, rfl, rfl, rfl, wz4⟩ := open_int Try.underlying22 (hval 4 _ v4 rfl rfl) h4
    obtain ⟨x4, rfl, hx4⟩ := nat_u64 wz4
    exact RamBack_c W x0 v1 xs1 hr1 ho1 x2 hx2 z3 x4 hx4

theorem RamBack_holds : Rows.RamBackSaid :=
  OpenClaim.holds_of_wide 3 Try.f3 rfl rfl rfl rfl rfl rfl rfl ⟨rfl, rfl, rfl, rfl, rfl⟩ rfl rfl rfl rfl rfl (by kernel_rfl) Try.func3 (by kernel_rfl)
    (of_decide_eq_true (by kernel_rfl)) (by unfold Func.isWrapper; rw [if_neg (of_decide_eq_false (by kernel_rfl))]; exact ⟨rfl, rfl⟩)
    (fun os started H enc _ => unlaid (RamBack_lifted os started H enc))
theorem RamBack_proved : Rows.RamBackSaid := RamBack_holds
#print axioms RamBack_proved
end Go.Proofs.Ytpnabfekidpnoaa

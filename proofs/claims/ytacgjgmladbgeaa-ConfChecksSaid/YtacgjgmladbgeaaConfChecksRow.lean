/-
  The statement ConfChecks, of which configurations are accepted: at every configuration it answers true, and leaves its arguments as they were. No condition beside the row's own.
-/
import Derived.Test.YtacgjgmladbgeaaOpen
import Derived.Test.YtacgjgmladbgeaaConfChecksP
import Derived.Test.YtacgjgmladbgeaaUnlaid
namespace Go.Proofs.Ytacgjgmladbgeaa
open Go Go.RowKit Go.ChangeShapes Go.WideShapes


set_option maxRecDepth 100000 in
theorem ConfChecks_lifted (os : Os) (started : os.Started) (H : Type) (enc : TypeId × Value → H) :
    ReturnsInHanded {} Try.checked os 5 .any (fun w args => (Rows.confChecksSpec.pre enc Try.prog Try.f5 [] false w args ∧ laidMet Try.prog [] w) ∧ sizedMet enc Try.prog Try.f5 (OpenSpec.ofChange Rows.confChecksSpec) false w args)
      (Rows.confChecksSpec.post enc Try.prog Try.f5 false true false false) := by
  refine lift_true (C := Try.checked) (tb := 4) (X := fun w _ => laidMet Try.prog [] w) (fun _ _ _ hh h => h.of_heap hh) ownNone started (by kernel_rfl) Try.func5 laidOut rfl (by kernel_rfl) (by kernel_rfl) Try.underlying4 ?_ ?_
    (ChangeSpec.witness_at (enc := enc) (C := Try.checked) (os := os) (X := fun w _ => laidMet Try.prog [] w) false (world_none os) #[.agg #[.int .u64 0, .int .u64 0, .slice none 0 0]] 8 rfl (by kernel_rfl) (by kernel_rfl) (by kernel_rfl) (by kernel_rfl) (by kernel_rfl) (world_none_met os _)) ?_
  · intro t ht
    have e : Try.f5.params.toList = [25] := by kernel_rfl
    rw [e] at ht
    obtain rfl := List.mem_singleton.1 ht
    exact ⟨by kernel_rfl, of_decide_eq_true (by kernel_rfl)⟩
  · intro ds hds
    have e : Try.f5.params.toList = [25] := by kernel_rfl
    rw [e] at hds
    match ds, hds with
    | [d0], _ => simp [Rows.confChecksSpec]
  · intro W base args ds ps hval0 hA0 hL
    have e : Try.f5.params = #[25] := by kernel_rfl
    have hval : ∀ (j : Nat) t v, Try.f5.params[j]? = some t → args[j]? = some v → Value.okWide Try.prog W .any base t v := hval0
    have hA : DataW.TrodAll enc Try.prog W 0 (fun _ => true) true Try.f5.params.toList args.toList ds ps := hA0
    rw [e] at hA hval
    obtain ⟨v0, vs0, d0, ds0, p0, q0, hargs, rfl, rfl, h0, r0⟩ := trodAll_cons hA
    obtain ⟨rfl, rfl, rfl⟩ := trodAll_nil r0
    obtain rfl : args = #[v0] := by cases args; simp_all
    obtain ⟨ram0, slice0, A0, cc0, gs0, rfl, hram0, hslice0, hk0, hc0, hok0⟩ := PConfChecks.open_config (hval 0 _ v0 rfl rfl) h0
    exact PConfChecks.ConfChecks_j ram0 slice0 A0 cc0 gs0 W hk0 hc0 hok0 hram0 hslice0

theorem ConfChecks_holds : Rows.ConfChecksSaid :=
  OpenClaim.holds_of_wide 5 Try.f5 rfl rfl rfl rfl rfl rfl rfl ⟨rfl, rfl, rfl, rfl, rfl⟩ rfl rfl rfl rfl rfl (by kernel_rfl) Try.func5 (by kernel_rfl)
    (of_decide_eq_true (by kernel_rfl)) (by unfold Func.isWrapper; rw [if_neg (of_decide_eq_false (by kernel_rfl))]; exact ⟨rfl, rfl⟩)
    (fun os started H enc _ => unlaid (ConfChecks_lifted os started H enc))
theorem ConfChecks_proved : Rows.ConfChecksSaid := ConfChecks_holds
#print axioms ConfChecks_proved
end Go.Proofs.Ytacgjgmladbgeaa

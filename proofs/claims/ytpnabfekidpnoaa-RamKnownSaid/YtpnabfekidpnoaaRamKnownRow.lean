/-
  The statement RamKnown: it answers true. No condition beside the row's own.
-/
import Derived.Test.YtpnabfekidpnoaaOpen
import Derived.Test.YtpnabfekidpnoaaRamKnownW
import Derived.Test.YtpnabfekidpnoaaUnlaid
namespace Go.Proofs.Ytpnabfekidpnoaa
open Go Go.RowKit Go.ChangeShapes Go.WideShapes


set_option maxRecDepth 100000 in
theorem RamKnown_lifted (os : Os) (started : os.Started) (H : Type) (enc : TypeId × Value → H) :
    ReturnsInHanded {} Try.checked os 4 .any (fun w args => (Rows.ramKnownSpec.pre enc Try.prog Try.f4 [] false w args ∧ laidMet Try.prog [] w) ∧ sizedMet enc Try.prog Try.f4 (OpenSpec.ofChange Rows.ramKnownSpec) false w args)
      (Rows.ramKnownSpec.post enc Try.prog Try.f4 false true false false) := by
  refine lift_true (C := Try.checked) (tb := 4) (X := fun w _ => laidMet Try.prog [] w) (fun _ _ _ hh h => h.of_heap hh) ownNone started (by kernel_rfl) Try.func4 laidOut rfl (by kernel_rfl) (by kernel_rfl) Try.underlying4 ?_ ?_
    (ChangeSpec.witness_at (enc := enc) (C := Try.checked) (os := os) (X := fun w _ => laidMet Try.prog [] w) false (world_none os) #[] 8 rfl (by kernel_rfl) (by kernel_rfl) (by kernel_rfl) (by kernel_rfl) (by kernel_rfl) (world_none_met os _)) ?_
  · intro t ht
    have e : Try.f4.params.toList = [] := by kernel_rfl
    rw [e] at ht
    cases ht
  · intro ds hds
    have e : Try.f4.params.toList = [] := by kernel_rfl
    rw [e] at hds
    match ds, hds with
    | [], _ => simp [Rows.ramKnownSpec]
  · intro W base args ds ps hval0 hA0 hL
    have e : Try.f4.params = #[] := by kernel_rfl
    have hval : ∀ (j : Nat) t v, Try.f4.params[j]? = some t → args[j]? = some v → Value.okWide Try.prog W .any base t v := hval0
    have hA : DataW.TrodAll enc Try.prog W 0 (fun _ => true) true Try.f4.params.toList args.toList ds ps := hA0
    rw [e] at hA hval
    obtain ⟨hargs, rfl, rfl⟩ := trodAll_nil hA
    obtain rfl : args = #[] := by cases args; simp_all
    exact RamKnown_c W

theorem RamKnown_holds : Rows.RamKnownSaid :=
  OpenClaim.holds_of_wide 4 Try.f4 rfl rfl rfl rfl rfl rfl rfl ⟨rfl, rfl, rfl, rfl, rfl⟩ rfl rfl rfl rfl rfl (by kernel_rfl) Try.func4 (by kernel_rfl)
    (of_decide_eq_true (by kernel_rfl)) (by unfold Func.isWrapper; rw [if_neg (of_decide_eq_false (by kernel_rfl))]; exact ⟨rfl, rfl⟩)
    (fun os started H enc _ => unlaid (RamKnown_lifted os started H enc))
theorem RamKnown_proved : Rows.RamKnownSaid := RamKnown_holds
#print axioms RamKnown_proved
end Go.Proofs.Ytpnabfekidpnoaa

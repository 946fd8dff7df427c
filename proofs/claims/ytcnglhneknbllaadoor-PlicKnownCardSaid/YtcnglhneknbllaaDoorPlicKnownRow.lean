/-
  The closed statement PlicKnown: it answers true. No condition beside the row's own: what the package's tables hold stands as the text lays it.
-/
import Derived.Test.YtcnglhneknbllaaDoorOpen
import Derived.Test.YtcnglhneknbllaaDoorLayTryd
import Derived.Test.YtcnglhneknbllaaDoorPlicKnownC
import Derived.Test.YtcnglhneknbllaaDoorTie
import Derived.Test.YtcnglhneknbllaaDoorCards
namespace Go.Proofs.YtcnglhneknbllaaDoor
open Go Go.RowKit Go.ChangeShapes Go.WideShapes


set_option maxRecDepth 100000 in
theorem PlicKnown_lifted (os : Os) (started : os.Started) (H : Type) (enc : TypeId × Value → H) :
    ReturnsInHanded {} Tryd.checked os 6 .any (fun w args => (Rows.plicKnownSpec.pre enc Tryd.prog Tryd.f6 [] false w args ∧ laidMet Tryd.prog [("math/bits.deBruijn64tab", Rows.laid_math_bits_deBruijn64tab)] w) ∧ sizedMet enc Tryd.prog Tryd.f6 (OpenSpec.ofChange Rows.plicKnownSpec) false w args)
      (Rows.plicKnownSpec.post enc Tryd.prog Tryd.f6 false true false false) := by
  refine lift_true (C := Tryd.checked) (tb := 4) (X := fun w _ => laidMet Tryd.prog [("math/bits.deBruijn64tab", Rows.laid_math_bits_deBruijn64tab)] w) (fun _ _ _ hh h => h.of_heap hh) ownNone started (by kernel_rfl) Tryd.func6 laidOut rfl (by kernel_rfl) (by kernel_rfl) Tryd.underlying4 ?_ ?_
    (ChangeSpec.witness_at (enc := enc) (C := Tryd.checked) (os := os) (X := fun w _ => laidMet Tryd.prog [("math/bits.deBruijn64tab", Rows.laid_math_bits_deBruijn64tab)] w) false (world_math_bits_deBruijn64tab os) #[] 8 rfl (by kernel_rfl) (by kernel_rfl) (by kernel_rfl) (by kernel_rfl) (by kernel_rfl) (world_math_bits_deBruijn64tab_met os _)) ?_
  · intro t ht
    have e : Tryd.f6.params.toList = [] := by kernel_rfl
    rw [e] at ht
    cases ht
  · intro ds hds
    have e : Tryd.f6.params.toList = [] := by kernel_rfl
    rw [e] at hds
    match ds, hds with
    | [], _ => simp [Rows.plicKnownSpec]
  · intro W base args ds ps hval0 hA0 hL
    have e : Tryd.f6.params = #[] := by kernel_rfl
    have hval : ∀ (j : Nat) t v, Tryd.f6.params[j]? = some t → args[j]? = some v → Value.okWide Tryd.prog W .any base t v := hval0
    have hA : DataW.TrodAll enc Tryd.prog W 0 (fun _ => true) true Tryd.f6.params.toList args.toList ds ps := hA0
    rw [e] at hA hval
    obtain ⟨hargs, rfl, rfl⟩ := trodAll_nil hA
    obtain rfl : args = #[] := by cases args; simp_all
    exact PlicKnown_c W (lay_math_bits_deBruijn64tab hL)

theorem PlicKnown_holds : Rows.PlicKnownSaid :=
  OpenClaim.holds_of_wide 6 Tryd.f6 rfl rfl rfl rfl rfl rfl rfl ⟨rfl, rfl, rfl, rfl, rfl⟩ rfl rfl rfl rfl rfl (by kernel_rfl) Tryd.func6 (by kernel_rfl)
    (of_decide_eq_true (by kernel_rfl)) (by unfold Func.isWrapper; rw [if_neg (of_decide_eq_false (by kernel_rfl))]; exact ⟨rfl, rfl⟩)
    (fun os started H enc _ => PlicKnown_lifted os started H enc)

theorem PlicKnown_proved : Rows.PlicKnownCardSaid :=
  Claim7.holds_tied_plain_at .later [] [.data] true (true, "db90c739255d992ed0d1d6f69990fe4b6383dba3c68cddfc687737a5ba081c54") false
    PlicKnown_holds (fun _ h => by cases h) (by kernel_rfl) (fun _ h => by cases h) plicKnown_row_tie rfl ⟨rfl, rfl⟩ (by kernel_rfl) rfl
    (fun f fn hf hfn => by
      obtain rfl : f = 6 := Option.some.inj ((show Tryd.prog.funcNamed "mezzanine/mezzaninelaw05.PlicKnown" = some 6 by kernel_rfl).symm.trans hf) |>.symm
      obtain rfl : fn = Tryd.f6 := (Option.some.inj (Tryd.func6.symm.trans hfn)).symm
      exact ⟨by kernel_rfl, fun j t ht => by
        have e : Tryd.f6.params = #[] := by kernel_rfl
        rw [e] at ht
        simp at ht⟩)
    (by kernel_rfl)
#print axioms PlicKnown_proved
end Go.Proofs.YtcnglhneknbllaaDoor

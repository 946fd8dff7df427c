/-
  The closed statement BusKnown: it answers true. No condition beside the row's own: what the package's tables hold stands as the text lays it.
-/
import Derived.Test.YtkfefdjbihmblaaDoorOpen
import Derived.Test.YtkfefdjbihmblaaDoorLayTryd
import Derived.Test.YtkfefdjbihmblaaDoorBusKnownC
import Derived.Test.YtkfefdjbihmblaaDoorTie
import Derived.Test.YtkfefdjbihmblaaDoorCards
namespace Go.Proofs.YtkfefdjbihmblaaDoor
open Go Go.RowKit Go.ChangeShapes Go.WideShapes


set_option maxRecDepth 100000 in
theorem BusKnown_lifted (os : Os) (started : os.Started) (H : Type) (enc : TypeId × Value → H) :
    ReturnsInHanded {} Tryd.checked os 3 .any (fun w args => (Rows.busKnownSpec.pre enc Tryd.prog Tryd.f3 [] false w args ∧ laidMet Tryd.prog [("math/bits.deBruijn64tab", Rows.laid_math_bits_deBruijn64tab), ("mezzanine/uart.kept", Rows.laid_mezzanine_uart_kept)] w) ∧ sizedMet enc Tryd.prog Tryd.f3 (OpenSpec.ofChange Rows.busKnownSpec) false w args)
      (Rows.busKnownSpec.post enc Tryd.prog Tryd.f3 false true false false) := by
  refine lift_true (C := Tryd.checked) (tb := 4) (X := fun w _ => laidMet Tryd.prog [("math/bits.deBruijn64tab", Rows.laid_math_bits_deBruijn64tab), ("mezzanine/uart.kept", Rows.laid_mezzanine_uart_kept)] w) (fun _ _ _ hh h => h.of_heap hh) ownNone started (by kernel_rfl) Tryd.func3 laidOut rfl (by kernel_rfl) (by kernel_rfl) Tryd.underlying4 ?_ ?_
    (ChangeSpec.witness_at (enc := enc) (C := Tryd.checked) (os := os) (X := fun w _ => laidMet Tryd.prog [("math/bits.deBruijn64tab", Rows.laid_math_bits_deBruijn64tab), ("mezzanine/uart.kept", Rows.laid_mezzanine_uart_kept)] w) false (world_math_bits_deBruijn64tab__mezzanine_uart_kept os) #[] 8 rfl (by kernel_rfl) (by kernel_rfl) (by kernel_rfl) (by kernel_rfl) (by kernel_rfl) (world_math_bits_deBruijn64tab__mezzanine_uart_kept_met os _)) ?_
  · intro t ht
    have e : Tryd.f3.params.toList = [] := by kernel_rfl
    rw [e] at ht
    cases ht
  · intro ds hds
    have e : Tryd.f3.params.toList = [] := by kernel_rfl
    rw [e] at hds
    match ds, hds with
    | [], _ => simp [Rows.busKnownSpec]
  · intro W base args ds ps hval0 hA0 hL
    have e : Tryd.f3.params = #[] := by kernel_rfl
    have hval : ∀ (j : Nat) t v, Tryd.f3.params[j]? = some t → args[j]? = some v → Value.okWide Tryd.prog W .any base t v := hval0
    have hA : DataW.TrodAll enc Tryd.prog W 0 (fun _ => true) true Tryd.f3.params.toList args.toList ds ps := hA0
    rw [e] at hA hval
    obtain ⟨hargs, rfl, rfl⟩ := trodAll_nil hA
    obtain rfl : args = #[] := by cases args; simp_all
    exact BusKnown_c W (lay_math_bits_deBruijn64tab__mezzanine_uart_kept hL)

theorem BusKnown_holds : Rows.BusKnownSaid :=
  OpenClaim.holds_of_wide 3 Tryd.f3 rfl rfl rfl rfl rfl rfl rfl ⟨rfl, rfl, rfl, rfl, rfl⟩ rfl rfl rfl rfl rfl (by kernel_rfl) Tryd.func3 (by kernel_rfl)
    (of_decide_eq_true (by kernel_rfl)) (by unfold Func.isWrapper; rw [if_neg (of_decide_eq_false (by kernel_rfl))]; exact ⟨rfl, rfl⟩)
    (fun os started H enc _ => BusKnown_lifted os started H enc)

theorem BusKnown_proved : Rows.BusKnownCardSaid :=
  Claim7.holds_tied_plain_at .later [] [.data, .data] true (true, "52477e1bea696c0c6abe157456a818e96dc33b8b44659fae10afd0900a2105a9") false
    BusKnown_holds (fun _ h => by cases h) (by kernel_rfl) (fun _ h => by cases h) busKnown_row_tie rfl ⟨rfl, rfl⟩ (by kernel_rfl) rfl
    (fun f fn hf hfn => by
      obtain rfl : f = 3 := Option.some.inj ((show Tryd.prog.funcNamed "mezzanine/mezzaninelaw07.BusKnown" = some 3 by kernel_rfl).symm.trans hf) |>.symm
      obtain rfl : fn = Tryd.f3 := (Option.some.inj (Tryd.func3.symm.trans hfn)).symm
      exact ⟨by kernel_rfl, fun j t ht => by
        have e : Tryd.f3.params = #[] := by kernel_rfl
        rw [e] at ht
        simp at ht⟩)
    (by kernel_rfl)
#print axioms BusKnown_proved
end Go.Proofs.YtkfefdjbihmblaaDoor

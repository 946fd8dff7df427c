/-
  The closed statement UartKnown: it answers true. No condition beside the row's own: what the package's tables hold stands as the text lays it.
-/
import Derived.Test.YtcnglhneknbllaaDoorOpen
import Derived.Test.YtcnglhneknbllaaDoorLayTryd
import Derived.Test.YtcnglhneknbllaaDoorUartKnownC
import Derived.Test.YtcnglhneknbllaaDoorTie
import Derived.Test.YtcnglhneknbllaaDoorCards
namespace Go.Proofs.YtcnglhneknbllaaDoor
open Go Go.RowKit Go.ChangeShapes Go.WideShapes


set_option maxRecDepth 100000 in
theorem UartKnown_lifted (os : Os) (started : os.Started) (H : Type) (enc : TypeId × Value → H) :
    ReturnsInHanded {} Tryd.checked os 13 .any (fun w args => (Rows.uartKnownSpec.pre enc Tryd.prog Tryd.f13 [] false w args ∧ laidMet Tryd.prog [("mezzanine/uart.kept", Rows.laid_mezzanine_uart_kept)] w) ∧ sizedMet enc Tryd.prog Tryd.f13 (OpenSpec.ofChange Rows.uartKnownSpec) false w args)
      (Rows.uartKnownSpec.post enc Tryd.prog Tryd.f13 false true false false) := by
  refine lift_true (C := Tryd.checked) (tb := 4) (X := fun w _ => laidMet Tryd.prog [("mezzanine/uart.kept", Rows.laid_mezzanine_uart_kept)] w) (fun _ _ _ hh h => h.of_heap hh) ownNone started (by kernel_rfl) Tryd.func13 laidOut rfl (by kernel_rfl) (by kernel_rfl) Tryd.underlying4 ?_ ?_
    (ChangeSpec.witness_at (enc := enc) (C := Tryd.checked) (os := os) (X := fun w _ => laidMet Tryd.prog [("mezzanine/uart.kept", Rows.laid_mezzanine_uart_kept)] w) false (world_mezzanine_uart_kept os) #[] 8 rfl (by kernel_rfl) (by kernel_rfl) (by kernel_rfl) (by kernel_rfl) (by kernel_rfl) (world_mezzanine_uart_kept_met os _)) ?_
  · intro t ht
    have e : Tryd.f13.params.toList = [] := by kernel_rfl
    rw [e] at ht
    cases ht
  · intro ds hds
    have e : Tryd.f13.params.toList = [] := by kernel_rfl
    rw [e] at hds
    match ds, hds with
    | [], _ => simp [Rows.uartKnownSpec]
  · intro W base args ds ps hval0 hA0 hL
    have e : Tryd.f13.params = #[] := by kernel_rfl
    have hval : ∀ (j : Nat) t v, Tryd.f13.params[j]? = some t → args[j]? = some v → Value.okWide Tryd.prog W .any base t v := hval0
    have hA : DataW.TrodAll enc Tryd.prog W 0 (fun _ => true) true Tryd.f13.params.toList args.toList ds ps := hA0
    rw [e] at hA hval
    obtain ⟨hargs, rfl, rfl⟩ := trodAll_nil hA
    obtain rfl : args = #[] := by cases args; simp_all
    exact UartKnown_c W (lay_mezzanine_uart_kept hL)

theorem UartKnown_holds : Rows.UartKnownSaid :=
  OpenClaim.holds_of_wide 13 Tryd.f13 rfl rfl rfl rfl rfl rfl rfl ⟨rfl, rfl, rfl, rfl, rfl⟩ rfl rfl rfl rfl rfl (by kernel_rfl) Tryd.func13 (by kernel_rfl)
    (of_decide_eq_true (by kernel_rfl)) (by unfold Func.isWrapper; rw [if_neg (of_decide_eq_false (by kernel_rfl))]; exact ⟨rfl, rfl⟩)
    (fun os started H enc _ => UartKnown_lifted os started H enc)

theorem UartKnown_proved : Rows.UartKnownCardSaid :=
  Claim7.holds_tied_plain_at .later [] [.data] true (true, "db90c739255d992ed0d1d6f69990fe4b6383dba3c68cddfc687737a5ba081c54") false
    UartKnown_holds (fun _ h => by cases h) (by kernel_rfl) (fun _ h => by cases h) uartKnown_row_tie rfl ⟨rfl, rfl⟩ (by kernel_rfl) rfl
    (fun f fn hf hfn => by
      obtain rfl : f = 13 := Option.some.inj ((show Tryd.prog.funcNamed "mezzanine/mezzaninelaw06.UartKnown" = some 13 by kernel_rfl).symm.trans hf) |>.symm
      obtain rfl : fn = Tryd.f13 := (Option.some.inj (Tryd.func13.symm.trans hfn)).symm
      exact ⟨by kernel_rfl, fun j t ht => by
        have e : Tryd.f13.params = #[] := by kernel_rfl
        rw [e] at ht
        simp at ht⟩)
    (by kernel_rfl)
#print axioms UartKnown_proved
end Go.Proofs.YtcnglhneknbllaaDoor

/-
  The statement UartFull, of what a serial line keeps of what is sent: at every byte and every number more it answers true, and leaves its arguments as they were. No condition beside the row's own: the package's table of masks stands as its text lays it.
-/
import Derived.Test.YtcnglhneknbllaaDoorUartRow
import Derived.Test.YtcnglhneknbllaaDoorUartL2
import Derived.Test.YtcnglhneknbllaaDoorTie
import Derived.Test.YtcnglhneknbllaaDoorCards
namespace Go.Proofs.YtcnglhneknbllaaDoor
open Go Go.RowKit Go.ChangeShapes Go.WideShapes


set_option maxRecDepth 100000 in
theorem UartFull_lifted (os : Os) (started : os.Started) (H : Type) (enc : TypeId × Value → H) :
    ReturnsInHanded {} Tryd.checked os 3 .any (fun w args => (Rows.uartFullSpec.pre enc Tryd.prog Tryd.f3 [] false w args ∧ laidMet Tryd.prog [("mezzanine/uart.kept", Rows.laid_mezzanine_uart_kept)] w) ∧ sizedMet enc Tryd.prog Tryd.f3 (OpenSpec.ofChange Rows.uartFullSpec) false w args)
      (Rows.uartFullSpec.post enc Tryd.prog Tryd.f3 false true false false) := by
  refine lift_true (C := Tryd.checked) (tb := 4) (X := fun w _ => laidMet Tryd.prog [("mezzanine/uart.kept", Rows.laid_mezzanine_uart_kept)] w) (fun _ _ _ hh h => h.of_heap hh) ownNone started (by kernel_rfl) Tryd.func3 laidOut rfl (by kernel_rfl) (by kernel_rfl) Tryd.underlying4 ?_ ?_
    (ChangeSpec.witness_at (enc := enc) (C := Tryd.checked) (os := os) (X := fun w _ => laidMet Tryd.prog [("mezzanine/uart.kept", Rows.laid_mezzanine_uart_kept)] w) false (keptWorld os) #[.int .u8 0, .int .u8 0] 8 rfl (by kernel_rfl) (by kernel_rfl) (by kernel_rfl) (by kernel_rfl) (by kernel_rfl) (keptWorld_met os _)) ?_
  · intro t ht
    have e : Tryd.f3.params.toList = [5, 5] := by kernel_rfl
    rw [e] at ht
    simp only [List.mem_cons, List.not_mem_nil, or_false] at ht
    rcases ht with rfl | rfl
    · exact ⟨by kernel_rfl, of_decide_eq_true (by kernel_rfl)⟩
    · exact ⟨by kernel_rfl, of_decide_eq_true (by kernel_rfl)⟩
  · intro ds hds
    have e : Tryd.f3.params.toList = [5, 5] := by kernel_rfl
    rw [e] at hds
    match ds, hds with
    | [d0, d1], _ => simp [Rows.uartFullSpec]
  · intro W base args ds ps hval0 hA0 hL
    have e : Tryd.f3.params = #[5, 5] := by kernel_rfl
    have hval : ∀ (j : Nat) t v, Tryd.f3.params[j]? = some t → args[j]? = some v → Value.okWide Tryd.prog W .any base t v := hval0
    have hA : DataW.TrodAll enc Tryd.prog W 0 (fun _ => true) true Tryd.f3.params.toList args.toList ds ps := hA0
    rw [e] at hA hval
    obtain ⟨v0, vs0, d0, ds0, p0, q0, hargs, rfl, rfl, h0, r0⟩ := trodAll_cons hA
    obtain ⟨v1, vs1, d1, ds1, p1, q1, rfl, rfl, rfl, h1, r1⟩ := trodAll_cons r0
    obtain ⟨rfl, rfl, rfl⟩ := trodAll_nil r1
    obtain rfl : args = #[v0, v1] := by cases args; simp_all
    obtain ⟨z0, rfl, rfl, rfl, wz0⟩ := open_int Tryd.underlying5 (hval 0 _ v0 rfl rfl) h0
    obtain ⟨x0, rfl, hx0⟩ := nat_u8 wz0
    obtain ⟨z1, rfl, rfl, rfl, wz1⟩ := open_int Tryd.underlying5 (hval 1 _ v1 rfl rfl) h1
    obtain ⟨x1, rfl, hx1⟩ := nat_u8 wz1
    exact UartFull_c W (kept_of_laid hL) x0 x1 hx0 hx1

theorem UartFull_holds : Rows.UartFullSaid :=
  OpenClaim.holds_of_wide 3 Tryd.f3 rfl rfl rfl rfl rfl rfl rfl ⟨rfl, rfl, rfl, rfl, rfl⟩ rfl rfl rfl rfl rfl (by kernel_rfl) Tryd.func3 (by kernel_rfl)
    (of_decide_eq_true (by kernel_rfl)) (by unfold Func.isWrapper; rw [if_neg (of_decide_eq_false (by kernel_rfl))]; exact ⟨rfl, rfl⟩)
    (fun os started H enc _ => UartFull_lifted os started H enc)

theorem UartFull_proved : Rows.UartFullCardSaid :=
  Claim7.holds_tied_plain_at .later [] [.data] true (true, "db90c739255d992ed0d1d6f69990fe4b6383dba3c68cddfc687737a5ba081c54") false
    UartFull_holds (fun _ h => by cases h) (by kernel_rfl) (fun _ h => by cases h) uartFull_row_tie rfl ⟨rfl, rfl⟩ (by kernel_rfl) rfl
    (fun f fn hf hfn => by
      obtain rfl : f = 3 := Option.some.inj ((show Tryd.prog.funcNamed "mezzanine/mezzaninelaw06.UartFull" = some 3 by kernel_rfl).symm.trans hf) |>.symm
      obtain rfl : fn = Tryd.f3 := (Option.some.inj (Tryd.func3.symm.trans hfn)).symm
      exact ⟨by kernel_rfl, fun j t ht => by
        have e : Tryd.f3.params = #[5, 5] := by kernel_rfl
        rw [e] at ht
        rcases j with _ | j
        · obtain rfl : t = 5 := by simpa using ht.symm
          exact (show Tryd.prog.wantsStandIn 5 = false by kernel_rfl)
        rcases j with _ | j
        · obtain rfl : t = 5 := by simpa using ht.symm
          exact (show Tryd.prog.wantsStandIn 5 = false by kernel_rfl)
        simp at ht⟩)
    (by kernel_rfl)
#print axioms UartFull_proved
end Go.Proofs.YtcnglhneknbllaaDoor

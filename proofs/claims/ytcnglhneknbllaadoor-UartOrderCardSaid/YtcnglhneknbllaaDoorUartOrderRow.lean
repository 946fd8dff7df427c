/-
  The statement UartOrder, of what a serial line keeps in order: at every row of acts it answers true, and leaves its arguments as they were. No condition beside the row's own: the package's table of masks stands as its text lays it.
-/
import Derived.Test.YtcnglhneknbllaaDoorUartRow
import Derived.Test.YtcnglhneknbllaaDoorUartO
import Derived.Test.YtcnglhneknbllaaDoorTie
import Derived.Test.YtcnglhneknbllaaDoorCards
namespace Go.Proofs.YtcnglhneknbllaaDoor
open Go Go.RowKit Go.ChangeShapes Go.WideShapes


set_option maxRecDepth 100000 in
theorem UartOrder_lifted (os : Os) (started : os.Started) (H : Type) (enc : TypeId × Value → H) :
    ReturnsInHanded {} Tryd.checked os 4 .any (fun w args => (Rows.uartOrderSpec.pre enc Tryd.prog Tryd.f4 [] false w args ∧ laidMet Tryd.prog [("mezzanine/uart.kept", Rows.laid_mezzanine_uart_kept)] w) ∧ sizedMet enc Tryd.prog Tryd.f4 (OpenSpec.ofChange Rows.uartOrderSpec) false w args)
      (Rows.uartOrderSpec.post enc Tryd.prog Tryd.f4 false true false false) := by
  refine lift_true (C := Tryd.checked) (tb := 4) (X := fun w _ => laidMet Tryd.prog [("mezzanine/uart.kept", Rows.laid_mezzanine_uart_kept)] w) (fun _ _ _ hh h => h.of_heap hh) ownNone started (by kernel_rfl) Tryd.func4 laidOut rfl (by kernel_rfl) (by kernel_rfl) Tryd.underlying4 ?_ ?_
    (ChangeSpec.witness_at (enc := enc) (C := Tryd.checked) (os := os) (X := fun w _ => laidMet Tryd.prog [("mezzanine/uart.kept", Rows.laid_mezzanine_uart_kept)] w) false (keptWorld os) #[.slice none 0 0] 8 rfl (by kernel_rfl) (by kernel_rfl) (by kernel_rfl) (by kernel_rfl) (by kernel_rfl) (keptWorld_met os _)) ?_
  · intro t ht
    have e : Tryd.f4.params.toList = [30] := by kernel_rfl
    rw [e] at ht
    obtain rfl := List.mem_singleton.1 ht
    exact ⟨by kernel_rfl, of_decide_eq_true (by kernel_rfl)⟩
  · intro ds hds
    have e : Tryd.f4.params.toList = [30] := by kernel_rfl
    rw [e] at hds
    match ds, hds with
    | [d0], _ => simp [Rows.uartOrderSpec]
  · intro W base args ds ps hval0 hA0 hL
    have e : Tryd.f4.params = #[30] := by kernel_rfl
    have hval : ∀ (j : Nat) t v, Tryd.f4.params[j]? = some t → args[j]? = some v → Value.okWide Tryd.prog W .any base t v := hval0
    have hA : DataW.TrodAll enc Tryd.prog W 0 (fun _ => true) true Tryd.f4.params.toList args.toList ds ps := hA0
    rw [e] at hA hval
    obtain ⟨v0, vs0, d0, ds0, p0, q0, hargs, rfl, rfl, h0, r0⟩ := trodAll_cons hA
    obtain ⟨rfl, rfl, rfl⟩ := trodAll_nil r0
    obtain rfl : args = #[v0] := by cases args; simp_all
    obtain ⟨rows0, hr0, hw0⟩ := open_rows 3 Tryd.underlying30 (e := 32) (by kernel_rfl) (okWide_slice Tryd.underlying30 (hval 0 _ v0 rfl rfl)) h0
    have hk0 : kindsOf Tryd.prog 3 32 = [some .i64, some .u64, some .i64, some .u64] := by kernel_rfl
    rw [hk0] at hw0
    obtain ⟨xs0, hl0, hc0, ho0⟩ := uacts_of_rows rows0 hw0
    rw [← hl0, ← hc0] at hr0
    exact UartOrder_c W (kept_of_laid hL) v0 xs0 hr0 ho0

theorem UartOrder_holds : Rows.UartOrderSaid :=
  OpenClaim.holds_of_wide 4 Tryd.f4 rfl rfl rfl rfl rfl rfl rfl ⟨rfl, rfl, rfl, rfl, rfl⟩ rfl rfl rfl rfl rfl (by kernel_rfl) Tryd.func4 (by kernel_rfl)
    (of_decide_eq_true (by kernel_rfl)) (by unfold Func.isWrapper; rw [if_neg (of_decide_eq_false (by kernel_rfl))]; exact ⟨rfl, rfl⟩)
    (fun os started H enc _ => UartOrder_lifted os started H enc)

theorem UartOrder_proved : Rows.UartOrderCardSaid :=
  Claim7.holds_tied_plain_at .later [] [.data] true (true, "db90c739255d992ed0d1d6f69990fe4b6383dba3c68cddfc687737a5ba081c54") false
    UartOrder_holds (fun _ h => by cases h) (by kernel_rfl) (fun _ h => by cases h) uartOrder_row_tie rfl ⟨rfl, rfl⟩ (by kernel_rfl) rfl
    (fun f fn hf hfn => by
      obtain rfl : f = 4 := Option.some.inj ((show Tryd.prog.funcNamed "mezzanine/mezzaninelaw06.UartOrder" = some 4 by kernel_rfl).symm.trans hf) |>.symm
      obtain rfl : fn = Tryd.f4 := (Option.some.inj (Tryd.func4.symm.trans hfn)).symm
      exact ⟨by kernel_rfl, fun j t ht => by
        have e : Tryd.f4.params = #[30] := by kernel_rfl
        rw [e] at ht
        rcases j with _ | j
        · obtain rfl : t = 30 := by simpa using ht.symm
          exact (show Tryd.prog.wantsStandIn 30 = false by kernel_rfl)
        simp at ht⟩)
    (by kernel_rfl)
#print axioms UartOrder_proved
end Go.Proofs.YtcnglhneknbllaaDoor

/-
  The statement UartPlays, of the serial line beside the document's: at every slice of acts it answers true, and leaves the acts as they were. No condition beside the row's own: the package's table of masks stands as its text lays it.
-/
import Derived.Test.YtcnglhneknbllaaDoorUartRow
import Derived.Test.YtcnglhneknbllaaDoorUartL1
import Derived.Test.YtcnglhneknbllaaDoorTie
import Derived.Test.YtcnglhneknbllaaDoorCards
namespace Go.Proofs.YtcnglhneknbllaaDoor
open Go Go.RowKit Go.ChangeShapes Go.WideShapes

/-- Rows of an act's cells are acts. -/
theorem acts_of_rows : ∀ rows : List (List Value), (∀ r ∈ rows, WFits r [some .i64, some .u64, some .i64, some .u64]) → ∃ xs : List UAct, xs.length = rows.length ∧ actCells xs = rows.flatten ∧ ∀ x ∈ xs, x.Ok
  | [], _ => ⟨[], rfl, rfl, fun x h => by cases h⟩
  | r :: rows, h => by
    obtain ⟨xs, h1, h2, h3⟩ := acts_of_rows rows (fun r hr => h r (List.mem_cons_of_mem _ hr))
    have hr := h r (List.mem_cons_self ..)
    obtain ⟨a, _, rfl, _, hr⟩ := hr.int
    obtain ⟨b, _, rfl, hb, hr⟩ := hr.int
    obtain ⟨c, _, rfl, _, hr⟩ := hr.int
    obtain ⟨d, _, rfl, hd, hr⟩ := hr.int
    obtain rfl := hr.nil
    obtain ⟨b, rfl, hb'⟩ := nat_u64 hb
    obtain ⟨d, rfl, hd'⟩ := nat_u64 hd
    refine ⟨⟨a, b, c, d⟩ :: xs, by rw [List.length_cons, List.length_cons, h1], ?_, fun x hx => ?_⟩
    · rw [List.flatten_cons, ← h2]
      rfl
    · rcases List.mem_cons.1 hx with rfl | hx
      · exact ⟨hb', hd'⟩
      · exact h3 x hx

set_option maxRecDepth 100000 in
theorem UartPlays_lifted (os : Os) (started : os.Started) (H : Type) (enc : TypeId × Value → H) :
    ReturnsInHanded {} Tryd.checked os 5 .any (fun w args => (Rows.uartPlaysSpec.pre enc Tryd.prog Tryd.f5 [] false w args ∧ laidMet Tryd.prog [("mezzanine/uart.kept", Rows.laid_mezzanine_uart_kept)] w) ∧ sizedMet enc Tryd.prog Tryd.f5 (OpenSpec.ofChange Rows.uartPlaysSpec) false w args)
      (Rows.uartPlaysSpec.post enc Tryd.prog Tryd.f5 false true false false) := by
  refine lift_true (C := Tryd.checked) (tb := 4) (X := fun w _ => laidMet Tryd.prog [("mezzanine/uart.kept", Rows.laid_mezzanine_uart_kept)] w) (fun _ _ _ hh h => h.of_heap hh) ownNone started (by kernel_rfl) Tryd.func5 laidOut rfl (by kernel_rfl) (by kernel_rfl) Tryd.underlying4 ?_ ?_
    (ChangeSpec.witness_at (enc := enc) (C := Tryd.checked) (os := os) (X := fun w _ => laidMet Tryd.prog [("mezzanine/uart.kept", Rows.laid_mezzanine_uart_kept)] w) false (keptWorld os) #[.slice none 0 0] 8 rfl (by kernel_rfl) (by kernel_rfl) (by kernel_rfl) (by kernel_rfl) (by kernel_rfl) (keptWorld_met os _)) ?_
  · intro t ht
    have e : Tryd.f5.params.toList = [30] := by kernel_rfl
    rw [e] at ht
    obtain rfl := List.mem_singleton.1 ht
    exact ⟨by kernel_rfl, of_decide_eq_true (by kernel_rfl)⟩
  · intro ds hds
    match ds, hds with
    | [d], _ => simp [Rows.uartPlaysSpec]
  · intro W base args ds ps hval0 hA0 hL
    have e : Tryd.f5.params = #[30] := by kernel_rfl
    have hval : ∀ (j : Nat) t v, Tryd.f5.params[j]? = some t → args[j]? = some v → Value.okWide Tryd.prog W .any base t v := hval0
    have hA : DataW.TrodAll enc Tryd.prog W 0 (fun _ => true) true Tryd.f5.params.toList args.toList ds ps := hA0
    rw [e] at hA hval
    obtain ⟨v0, d0, rfl, rfl, h0⟩ := trodAll_one hA
    obtain ⟨rows, hr, hw⟩ := open_rows 3 Tryd.underlying30 (e := 32) (by kernel_rfl) (okWide_slice Tryd.underlying30 (hval 0 _ v0 rfl rfl)) h0
    have hk : kindsOf Tryd.prog 3 32 = [some .i64, some .u64, some .i64, some .u64] := by kernel_rfl
    rw [hk] at hw
    obtain ⟨xs, h1, h2, h3⟩ := acts_of_rows rows hw
    rw [← h1, ← h2] at hr
    exact UartPlays_c W (kept_of_laid hL) v0 xs hr h3

theorem UartPlays_holds : Rows.UartPlaysSaid :=
  OpenClaim.holds_of_wide 5 Tryd.f5 rfl rfl rfl rfl rfl rfl rfl ⟨rfl, rfl, rfl, rfl, rfl⟩ rfl rfl rfl rfl rfl (by kernel_rfl) Tryd.func5 (by kernel_rfl)
    (of_decide_eq_true (by kernel_rfl)) (by unfold Func.isWrapper; rw [if_neg (of_decide_eq_false (by kernel_rfl))]; exact ⟨rfl, rfl⟩)
    (fun os started H enc _ => UartPlays_lifted os started H enc)

theorem UartPlays_proved : Rows.UartPlaysCardSaid :=
  Claim7.holds_tied_plain_at .later [] [.data] true (true, "db90c739255d992ed0d1d6f69990fe4b6383dba3c68cddfc687737a5ba081c54") false
    UartPlays_holds (fun _ h => by cases h) (by kernel_rfl) (fun _ h => by cases h) uartPlays_row_tie rfl ⟨rfl, rfl⟩ (by kernel_rfl) rfl
    (fun f fn hf hfn => by
      obtain rfl : f = 5 := Option.some.inj ((show Tryd.prog.funcNamed "mezzanine/mezzaninelaw06.UartPlays" = some 5 by kernel_rfl).symm.trans hf) |>.symm
      obtain rfl : fn = Tryd.f5 := (Option.some.inj (Tryd.func5.symm.trans hfn)).symm
      exact ⟨by kernel_rfl, fun j t ht => by
        have e : Tryd.f5.params = #[30] := by kernel_rfl
        rw [e] at ht
        have h3 : t = 30 := by
          rcases j with _ | j
          · simpa using ht.symm
          · simp at ht
        subst h3
        exact (show Tryd.prog.wantsStandIn 30 = false by kernel_rfl)⟩)
    (by kernel_rfl)
#print axioms UartPlays_proved
end Go.Proofs.YtcnglhneknbllaaDoor

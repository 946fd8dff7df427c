/-
  The statement TlbKnown: it answers true. No condition beside the row's own: math/bits' table stands as its text lays it.
-/
import Derived.Test.YtpnabfekidpnoaaDoorPlicRow
import Derived.Test.YtpnabfekidpnoaaDoorTlbKnownW
import Derived.Test.YtpnabfekidpnoaaDoorTie
import Derived.Test.YtpnabfekidpnoaaDoorCards
namespace Go.Proofs.YtpnabfekidpnoaaDoor
open Go Go.RowKit Go.ChangeShapes Go.WideShapes


set_option maxRecDepth 100000 in
theorem TlbKnown_lifted (os : Os) (started : os.Started) (H : Type) (enc : TypeId × Value → H) :
    ReturnsInHanded {} Tryd.checked os 4 .any (fun w args => (Rows.tlbKnownSpec.pre enc Tryd.prog Tryd.f4 [] false w args ∧ laidMet Tryd.prog [("math/bits.deBruijn64tab", Rows.laid_math_bits_deBruijn64tab)] w) ∧ sizedMet enc Tryd.prog Tryd.f4 (OpenSpec.ofChange Rows.tlbKnownSpec) false w args)
      (Rows.tlbKnownSpec.post enc Tryd.prog Tryd.f4 false true false false) := by
  refine lift_true (C := Tryd.checked) (tb := 4) (X := fun w _ => laidMet Tryd.prog [("math/bits.deBruijn64tab", Rows.laid_math_bits_deBruijn64tab)] w) (fun _ _ _ hh h => h.of_heap hh) ownNone started (by kernel_rfl) Tryd.func4 laidOut rfl (by kernel_rfl) (by kernel_rfl) Tryd.underlying4 ?_ ?_
    (ChangeSpec.witness_at (enc := enc) (C := Tryd.checked) (os := os) (X := fun w _ => laidMet Tryd.prog [("math/bits.deBruijn64tab", Rows.laid_math_bits_deBruijn64tab)] w) false (tzWorld os) #[] 8 rfl (by kernel_rfl) (by kernel_rfl) (by kernel_rfl) (by kernel_rfl) (by kernel_rfl) (tzWorld_met os _)) ?_
  · intro t ht
    have e : Tryd.f4.params.toList = [] := by kernel_rfl
    rw [e] at ht
    cases ht
  · intro ds hds
    have e : Tryd.f4.params.toList = [] := by kernel_rfl
    rw [e] at hds
    match ds, hds with
    | [], _ => simp [Rows.tlbKnownSpec]
  · intro W base args ds ps hval0 hA0 hL
    have e : Tryd.f4.params = #[] := by kernel_rfl
    have hval : ∀ (j : Nat) t v, Tryd.f4.params[j]? = some t → args[j]? = some v → Value.okWide Tryd.prog W .any base t v := hval0
    have hA : DataW.TrodAll enc Tryd.prog W 0 (fun _ => true) true Tryd.f4.params.toList args.toList ds ps := hA0
    rw [e] at hA hval
    obtain ⟨hargs, rfl, rfl⟩ := trodAll_nil hA
    obtain rfl : args = #[] := by cases args; simp_all
    exact TlbKnown_c W (tz_of_laid hL)

theorem TlbKnown_holds : Rows.TlbKnownSaid :=
  OpenClaim.holds_of_wide 4 Tryd.f4 rfl rfl rfl rfl rfl rfl rfl ⟨rfl, rfl, rfl, rfl, rfl⟩ rfl rfl rfl rfl rfl (by kernel_rfl) Tryd.func4 (by kernel_rfl)
    (of_decide_eq_true (by kernel_rfl)) (by unfold Func.isWrapper; rw [if_neg (of_decide_eq_false (by kernel_rfl))]; exact ⟨rfl, rfl⟩)
    (fun os started H enc _ => TlbKnown_lifted os started H enc)

theorem TlbKnown_proved : Rows.TlbKnownCardSaid :=
  Claim7.holds_tied_plain_at .later [] [.data] true (true, "4b405b8eff7d3db3586bf2d3a6ae99442e2f5aef85221a6f5705ad36e53d05c9") false
    TlbKnown_holds (fun _ h => by cases h) (by kernel_rfl) (fun _ h => by cases h) tlbKnown_row_tie rfl ⟨rfl, rfl⟩ (by kernel_rfl) rfl
    (fun f fn hf hfn => by
      obtain rfl : f = 4 := Option.some.inj ((show Tryd.prog.funcNamed "mezzanine/mezzaninelaw19.TlbKnown" = some 4 by kernel_rfl).symm.trans hf) |>.symm
      obtain rfl : fn = Tryd.f4 := (Option.some.inj (Tryd.func4.symm.trans hfn)).symm
      exact ⟨by kernel_rfl, fun j t ht => by
        have e : Tryd.f4.params = #[] := by kernel_rfl
        rw [e] at ht
        simp at ht⟩)
    (by kernel_rfl)
#print axioms TlbKnown_proved
end Go.Proofs.YtpnabfekidpnoaaDoor

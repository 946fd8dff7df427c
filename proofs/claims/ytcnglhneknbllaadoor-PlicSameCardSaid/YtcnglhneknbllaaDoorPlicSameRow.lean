/-
  The statement PlicSame: at every two rows of acts it answers true, and leaves its arguments as they were. No condition beside the row's own: math/bits' table stands as its text lays it.
-/
import Derived.Test.YtcnglhneknbllaaDoorPlicRow
import Derived.Test.YtcnglhneknbllaaDoorPlicSm
import Derived.Test.YtcnglhneknbllaaDoorTie
import Derived.Test.YtcnglhneknbllaaDoorCards
namespace Go.Proofs.YtcnglhneknbllaaDoor
open Go Go.RowKit Go.ChangeShapes Go.WideShapes


set_option maxRecDepth 100000 in
theorem PlicSame_lifted (os : Os) (started : os.Started) (H : Type) (enc : TypeId × Value → H) :
    ReturnsInHanded {} Tryd.checked os 10 .any (fun w args => (Rows.plicSameSpec.pre enc Tryd.prog Tryd.f10 [] false w args ∧ laidMet Tryd.prog [("math/bits.deBruijn64tab", Rows.laid_math_bits_deBruijn64tab)] w) ∧ sizedMet enc Tryd.prog Tryd.f10 (OpenSpec.ofChange Rows.plicSameSpec) false w args)
      (Rows.plicSameSpec.post enc Tryd.prog Tryd.f10 false true false false) := by
  refine lift_true (C := Tryd.checked) (tb := 4) (X := fun w _ => laidMet Tryd.prog [("math/bits.deBruijn64tab", Rows.laid_math_bits_deBruijn64tab)] w) (fun _ _ _ hh h => h.of_heap hh) ownNone started (by kernel_rfl) Tryd.func10 laidOut rfl (by kernel_rfl) (by kernel_rfl) Tryd.underlying4 ?_ ?_
    (ChangeSpec.witness_at (enc := enc) (C := Tryd.checked) (os := os) (X := fun w _ => laidMet Tryd.prog [("math/bits.deBruijn64tab", Rows.laid_math_bits_deBruijn64tab)] w) false (tzWorld os) #[.slice none 0 0, .slice none 0 0] 8 rfl (by kernel_rfl) (by kernel_rfl) (by kernel_rfl) (by kernel_rfl) (by kernel_rfl) (tzWorld_met os _)) ?_
  · intro t ht
    have e : Tryd.f10.params.toList = [59, 59] := by kernel_rfl
    rw [e] at ht
    simp only [List.mem_cons, List.not_mem_nil, or_false] at ht
    rcases ht with rfl | rfl
    · exact ⟨by kernel_rfl, of_decide_eq_true (by kernel_rfl)⟩
    · exact ⟨by kernel_rfl, of_decide_eq_true (by kernel_rfl)⟩
  · intro ds hds
    have e : Tryd.f10.params.toList = [59, 59] := by kernel_rfl
    rw [e] at hds
    match ds, hds with
    | [d0, d1], _ => simp [Rows.plicSameSpec]
  · intro W base args ds ps hval0 hA0 hL
    have e : Tryd.f10.params = #[59, 59] := by kernel_rfl
    have hval : ∀ (j : Nat) t v, Tryd.f10.params[j]? = some t → args[j]? = some v → Value.okWide Tryd.prog W .any base t v := hval0
    have hA : DataW.TrodAll enc Tryd.prog W 0 (fun _ => true) true Tryd.f10.params.toList args.toList ds ps := hA0
    rw [e] at hA hval
    obtain ⟨v0, vs0, d0, ds0, p0, q0, hargs, rfl, rfl, h0, r0⟩ := trodAll_cons hA
    obtain ⟨v1, vs1, d1, ds1, p1, q1, rfl, rfl, rfl, h1, r1⟩ := trodAll_cons r0
    obtain ⟨rfl, rfl, rfl⟩ := trodAll_nil r1
    obtain rfl : args = #[v0, v1] := by cases args; simp_all
    obtain ⟨rows0, hr0, hw0⟩ := open_rows 3 Tryd.underlying59 (e := 68) (by kernel_rfl) (okWide_slice Tryd.underlying59 (hval 0 _ v0 rfl rfl)) h0
    have hk0 : kindsOf Tryd.prog 3 68 = [some .i64, some .u64, some .i64, some .u64, some .i64, none] := by kernel_rfl
    rw [hk0] at hw0
    obtain ⟨xs0, hl0, hc0, ho0⟩ := pacts_of_rows rows0 hw0
    rw [← hl0, ← hc0] at hr0
    obtain ⟨rows1, hr1, hw1⟩ := open_rows 3 Tryd.underlying59 (e := 68) (by kernel_rfl) (okWide_slice Tryd.underlying59 (hval 1 _ v1 rfl rfl)) h1
    have hk1 : kindsOf Tryd.prog 3 68 = [some .i64, some .u64, some .i64, some .u64, some .i64, none] := by kernel_rfl
    rw [hk1] at hw1
    obtain ⟨xs1, hl1, hc1, ho1⟩ := pacts_of_rows rows1 hw1
    rw [← hl1, ← hc1] at hr1
    exact PlicSame_c W (tz_of_laid hL) v0 xs0 hr0 ho0 v1 xs1 hr1 ho1

theorem PlicSame_holds : Rows.PlicSameSaid :=
  OpenClaim.holds_of_wide 10 Tryd.f10 rfl rfl rfl rfl rfl rfl rfl ⟨rfl, rfl, rfl, rfl, rfl⟩ rfl rfl rfl rfl rfl (by kernel_rfl) Tryd.func10 (by kernel_rfl)
    (of_decide_eq_true (by kernel_rfl)) (by unfold Func.isWrapper; rw [if_neg (of_decide_eq_false (by kernel_rfl))]; exact ⟨rfl, rfl⟩)
    (fun os started H enc _ => PlicSame_lifted os started H enc)

theorem PlicSame_proved : Rows.PlicSameCardSaid :=
  Claim7.holds_tied_plain_at .later [] [.data] true (true, "db90c739255d992ed0d1d6f69990fe4b6383dba3c68cddfc687737a5ba081c54") false
    PlicSame_holds (fun _ h => by cases h) (by kernel_rfl) (fun _ h => by cases h) plicSame_row_tie rfl ⟨rfl, rfl⟩ (by kernel_rfl) rfl
    (fun f fn hf hfn => by
      obtain rfl : f = 10 := Option.some.inj ((show Tryd.prog.funcNamed "mezzanine/mezzaninelaw05.PlicSame" = some 10 by kernel_rfl).symm.trans hf) |>.symm
      obtain rfl : fn = Tryd.f10 := (Option.some.inj (Tryd.func10.symm.trans hfn)).symm
      exact ⟨by kernel_rfl, fun j t ht => by
        have e : Tryd.f10.params = #[59, 59] := by kernel_rfl
        rw [e] at ht
        rcases j with _ | j
        · obtain rfl : t = 59 := by simpa using ht.symm
          exact (show Tryd.prog.wantsStandIn 59 = false by kernel_rfl)
        rcases j with _ | j
        · obtain rfl : t = 59 := by simpa using ht.symm
          exact (show Tryd.prog.wantsStandIn 59 = false by kernel_rfl)
        simp at ht⟩)
    (by kernel_rfl)
#print axioms PlicSame_proved
end Go.Proofs.YtcnglhneknbllaaDoor

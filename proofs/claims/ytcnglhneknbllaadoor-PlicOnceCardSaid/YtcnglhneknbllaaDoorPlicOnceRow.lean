/-
  The statement PlicOnce, of what an interrupt controller hands out: at every row of acts it answers true, and leaves its arguments as they were. No condition beside the row's own: math/bits' table stands as its text lays it.
-/
import Derived.Test.YtcnglhneknbllaaDoorPlicRow
import Derived.Test.YtcnglhneknbllaaDoorPlicO3
import Derived.Test.YtcnglhneknbllaaDoorTie
import Derived.Test.YtcnglhneknbllaaDoorCards
namespace Go.Proofs.YtcnglhneknbllaaDoor
open Go Go.RowKit Go.ChangeShapes Go.WideShapes


set_option maxRecDepth 100000 in
theorem PlicOnce_lifted (os : Os) (started : os.Started) (H : Type) (enc : TypeId × Value → H) :
    ReturnsInHanded {} Tryd.checked os 11 .any (fun w args => (Rows.plicOnceSpec.pre enc Tryd.prog Tryd.f11 [] false w args ∧ laidMet Tryd.prog [("math/bits.deBruijn64tab", Rows.laid_math_bits_deBruijn64tab)] w) ∧ sizedMet enc Tryd.prog Tryd.f11 (OpenSpec.ofChange Rows.plicOnceSpec) false w args)
      (Rows.plicOnceSpec.post enc Tryd.prog Tryd.f11 false true false false) := by
  refine lift_true (C := Tryd.checked) (tb := 4) (X := fun w _ => laidMet Tryd.prog [("math/bits.deBruijn64tab", Rows.laid_math_bits_deBruijn64tab)] w) (fun _ _ _ hh h => h.of_heap hh) ownNone started (by kernel_rfl) Tryd.func11 laidOut rfl (by kernel_rfl) (by kernel_rfl) Tryd.underlying4 ?_ ?_
    (ChangeSpec.witness_at (enc := enc) (C := Tryd.checked) (os := os) (X := fun w _ => laidMet Tryd.prog [("math/bits.deBruijn64tab", Rows.laid_math_bits_deBruijn64tab)] w) false (tzWorld os) #[.slice none 0 0] 8 rfl (by kernel_rfl) (by kernel_rfl) (by kernel_rfl) (by kernel_rfl) (by kernel_rfl) (tzWorld_met os _)) ?_
  · intro t ht
    have e : Tryd.f11.params.toList = [59] := by kernel_rfl
    rw [e] at ht
    obtain rfl := List.mem_singleton.1 ht
    exact ⟨by kernel_rfl, of_decide_eq_true (by kernel_rfl)⟩
  · intro ds hds
    have e : Tryd.f11.params.toList = [59] := by kernel_rfl
    rw [e] at hds
    match ds, hds with
    | [d0], _ => simp [Rows.plicOnceSpec]
  · intro W base args ds ps hval0 hA0 hL
    have e : Tryd.f11.params = #[59] := by kernel_rfl
    have hval : ∀ (j : Nat) t v, Tryd.f11.params[j]? = some t → args[j]? = some v → Value.okWide Tryd.prog W .any base t v := hval0
    have hA : DataW.TrodAll enc Tryd.prog W 0 (fun _ => true) true Tryd.f11.params.toList args.toList ds ps := hA0
    rw [e] at hA hval
    obtain ⟨v0, vs0, d0, ds0, p0, q0, hargs, rfl, rfl, h0, r0⟩ := trodAll_cons hA
    obtain ⟨rfl, rfl, rfl⟩ := trodAll_nil r0
    obtain rfl : args = #[v0] := by cases args; simp_all
    obtain ⟨rows0, hr0, hw0⟩ := open_rows 3 Tryd.underlying59 (e := 68) (by kernel_rfl) (okWide_slice Tryd.underlying59 (hval 0 _ v0 rfl rfl)) h0
    have hk0 : kindsOf Tryd.prog 3 68 = [some .i64, some .u64, some .i64, some .u64, some .i64, none] := by kernel_rfl
    rw [hk0] at hw0
    obtain ⟨xs0, hl0, hc0, ho0⟩ := pacts_of_rows rows0 hw0
    rw [← hl0, ← hc0] at hr0
    exact PlicOnce_c W (tz_of_laid hL) v0 xs0 hr0 ho0

theorem PlicOnce_holds : Rows.PlicOnceSaid :=
  OpenClaim.holds_of_wide 11 Tryd.f11 rfl rfl rfl rfl rfl rfl rfl ⟨rfl, rfl, rfl, rfl, rfl⟩ rfl rfl rfl rfl rfl (by kernel_rfl) Tryd.func11 (by kernel_rfl)
    (of_decide_eq_true (by kernel_rfl)) (by unfold Func.isWrapper; rw [if_neg (of_decide_eq_false (by kernel_rfl))]; exact ⟨rfl, rfl⟩)
    (fun os started H enc _ => PlicOnce_lifted os started H enc)

theorem PlicOnce_proved : Rows.PlicOnceCardSaid :=
  Claim7.holds_tied_plain_at .later [] [.data] true (true, "db90c739255d992ed0d1d6f69990fe4b6383dba3c68cddfc687737a5ba081c54") false
    PlicOnce_holds (fun _ h => by cases h) (by kernel_rfl) (fun _ h => by cases h) plicOnce_row_tie rfl ⟨rfl, rfl⟩ (by kernel_rfl) rfl
    (fun f fn hf hfn => by
      obtain rfl : f = 11 := Option.some.inj ((show Tryd.prog.funcNamed "mezzanine/mezzaninelaw05.PlicOnce" = some 11 by kernel_rfl).symm.trans hf) |>.symm
      obtain rfl : fn = Tryd.f11 := (Option.some.inj (Tryd.func11.symm.trans hfn)).symm
      exact ⟨by kernel_rfl, fun j t ht => by
        have e : Tryd.f11.params = #[59] := by kernel_rfl
        rw [e] at ht
        rcases j with _ | j
        · obtain rfl : t = 59 := by simpa using ht.symm
          exact (show Tryd.prog.wantsStandIn 59 = false by kernel_rfl)
        simp at ht⟩)
    (by kernel_rfl)
#print axioms PlicOnce_proved
end Go.Proofs.YtcnglhneknbllaaDoor

/-
  The statement ConfPlaces, of whose an address is, what is free, and the guests by their places: at every configuration, address and number it answers true, and leaves its arguments as they were. No condition beside the row's own.
-/
import Derived.Test.YtacgjgmladbgeaaOpen
import Derived.Test.YtacgjgmladbgeaaConfPlacesP
import Derived.Test.YtacgjgmladbgeaaUnlaid
namespace Go.Proofs.Ytacgjgmladbgeaa
open Go Go.RowKit Go.ChangeShapes Go.WideShapes


set_option maxRecDepth 100000 in
theorem ConfPlaces_lifted (os : Os) (started : os.Started) (H : Type) (enc : TypeId × Value → H) :
    ReturnsInHanded {} Try.checked os 6 .any (fun w args => (Rows.confPlacesSpec.pre enc Try.prog Try.f6 [] false w args ∧ laidMet Try.prog [] w) ∧ sizedMet enc Try.prog Try.f6 (OpenSpec.ofChange Rows.confPlacesSpec) false w args)
      (Rows.confPlacesSpec.post enc Try.prog Try.f6 false true false false) := by
  refine lift_true (C := Try.checked) (tb := 4) (X := fun w _ => laidMet Try.prog [] w) (fun _ _ _ hh h => h.of_heap hh) ownNone started (by kernel_rfl) Try.func6 laidOut rfl (by kernel_rfl) (by kernel_rfl) Try.underlying4 ?_ ?_
    (ChangeSpec.witness_at (enc := enc) (C := Try.checked) (os := os) (X := fun w _ => laidMet Try.prog [] w) false (world_none os) #[.agg #[.int .u64 0, .int .u64 0, .slice none 0 0], .int .u64 0, .int .i64 0] 8 rfl (by kernel_rfl) (by kernel_rfl) (by kernel_rfl) (by kernel_rfl) (by kernel_rfl) (world_none_met os _)) ?_
  · intro t ht
    have e : Try.f6.params.toList = [25, 22, 3] := by kernel_rfl
    rw [e] at ht
    simp only [List.mem_cons, List.not_mem_nil, or_false] at ht
    rcases ht with rfl | rfl | rfl
    · exact ⟨by kernel_rfl, of_decide_eq_true (by kernel_rfl)⟩
    · exact ⟨by kernel_rfl, of_decide_eq_true (by kernel_rfl)⟩
    · exact ⟨by kernel_rfl, of_decide_eq_true (by kernel_rfl)⟩
  · intro ds hds
    have e : Try.f6.params.toList = [25, 22, 3] := by kernel_rfl
    rw [e] at hds
    match ds, hds with
    | [d0, d1, d2], _ => simp [Rows.confPlacesSpec]
  · intro W base args ds ps hval0 hA0 hL
    have e : Try.f6.params = #[25, 22, 3] := by kernel_rfl
    have hval : ∀ (j : Nat) t v, Try.f6.params[j]? = some t → args[j]? = some v → Value.okWide Try.prog W .any base t v := hval0
    have hA : DataW.TrodAll enc Try.prog W 0 (fun _ => true) true Try.f6.params.toList args.toList ds ps := hA0
    rw [e] at hA hval
    obtain ⟨v0, vs0, d0, ds0, p0, q0, hargs, rfl, rfl, h0, r0⟩ := trodAll_cons hA
    obtain ⟨v1, vs1, d1, ds1, p1, q1, rfl, rfl, rfl, h1, r1⟩ := trodAll_cons r0
    obtain ⟨v2, vs2, d2, ds2, p2, q2, rfl, rfl, rfl, h2, r2⟩ := trodAll_cons r1
    obtain ⟨rfl, rfl, rfl⟩ := trodAll_nil r2
    obtain rfl : args = #[v0, v1, v2] := by cases args; simp_all
    obtain ⟨ram0, slice0, A0, cc0, gs0, rfl, hram0, hslice0, hk0, hc0, hok0⟩ := PConfPlaces.open_config (hval 0 _ v0 rfl rfl) h0
    obtain ⟨z1, rfl, rfl, rfl, wz1⟩ := open_int Try.underlying22 (hval 1 _ v1 rfl rfl) h1
    obtain ⟨x1, rfl, hx1⟩ := nat_u64 wz1
    obtain ⟨z2, rfl, rfl, rfl, wz2⟩ := open_int Try.underlying3 (hval 2 _ v2 rfl rfl) h2
    refine (PConfPlaces.ConfPlaces_c ram0 slice0 A0 cc0 gs0 x1 z2 W hk0 hc0 hok0 hram0 hslice0 hx1).mono ?_
    rintro e w' ⟨he, hb⟩
    exact ⟨he, Fr.of_below hb No⟩

theorem ConfPlaces_holds : Rows.ConfPlacesSaid :=
  OpenClaim.holds_of_wide 6 Try.f6 rfl rfl rfl rfl rfl rfl rfl ⟨rfl, rfl, rfl, rfl, rfl⟩ rfl rfl rfl rfl rfl (by kernel_rfl) Try.func6 (by kernel_rfl)
    (of_decide_eq_true (by kernel_rfl)) (by unfold Func.isWrapper; rw [if_neg (of_decide_eq_false (by kernel_rfl))]; exact ⟨rfl, rfl⟩)
    (fun os started H enc _ => unlaid (ConfPlaces_lifted os started H enc))
theorem ConfPlaces_proved : Rows.ConfPlacesSaid := ConfPlaces_holds
#print axioms ConfPlaces_proved
end Go.Proofs.Ytacgjgmladbgeaa

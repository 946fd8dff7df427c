/-
  The statement ConfApart, of an accepted configuration's guests: at every configuration and every address it answers true, and leaves its arguments as they were. No condition beside the row's own.
-/
import Derived.Test.YtacgjgmladbgeaaOpen
import Derived.Test.YtacgjgmladbgeaaConfApartP
import Derived.Test.YtacgjgmladbgeaaUnlaid
namespace Go.Proofs.Ytacgjgmladbgeaa
open Go Go.RowKit Go.ChangeShapes Go.WideShapes


set_option maxRecDepth 100000 in
theorem ConfApart_lifted (os : Os) (started : os.Started) (H : Type) (enc : TypeId × Value → H) :
    ReturnsInHanded {} Try.checked os 7 .any (fun w args => (Rows.confApartSpec.pre enc Try.prog Try.f7 [] false w args ∧ laidMet Try.prog [] w) ∧ sizedMet enc Try.prog Try.f7 (OpenSpec.ofChange Rows.confApartSpec) false w args)
      (Rows.confApartSpec.post enc Try.prog Try.f7 false true false false) := by
  refine lift_true (C := Try.checked) (tb := 4) (X := fun w _ => laidMet Try.prog [] w) (fun _ _ _ hh h => h.of_heap hh) ownNone started (by kernel_rfl) Try.func7 laidOut rfl (by kernel_rfl) (by kernel_rfl) Try.underlying4 ?_ ?_
    (ChangeSpec.witness_at (enc := enc) (C := Try.checked) (os := os) (X := fun w _ => laidMet Try.prog [] w) false (world_none os) #[.agg #[.int .u64 0, .int .u64 0, .slice none 0 0], .int .u64 0] 8 rfl (by kernel_rfl) (by kernel_rfl) (by kernel_rfl) (by kernel_rfl) (by kernel_rfl) (world_none_met os _)) ?_
  · intro t ht
    have e : Try.f7.params.toList = [25, 22] := by kernel_rfl
    rw [e] at ht
    simp only [List.mem_cons, List.not_mem_nil, or_false] at ht
    rcases ht with rfl | rfl
    · exact ⟨by kernel_rfl, of_decide_eq_true (by kernel_rfl)⟩
    · exact ⟨by kernel_rfl, of_decide_eq_true (by kernel_rfl)⟩
  · intro ds hds
    have e : Try.f7.params.toList = [25, 22] := by kernel_rfl
    rw [e] at hds
    match ds, hds with
    | [d0, d1], _ => simp [Rows.confApartSpec]
  · intro W base args ds ps hval0 hA0 hL
    have e : Try.f7.params = #[25, 22] := by kernel_rfl
    have hval : ∀ (j : Nat) t v, Try.f7.params[j]? = some t → args[j]? = some v → Value.okWide Try.prog W .any base t v := hval0
    have hA : DataW.TrodAll enc Try.prog W 0 (fun _ => true) true Try.f7.params.toList args.toList ds ps := hA0
    rw [e] at hA hval
    obtain ⟨v0, vs0, d0, ds0, p0, q0, hargs, rfl, rfl, h0, r0⟩ := trodAll_cons hA
    obtain ⟨v1, vs1, d1, ds1, p1, q1, rfl, rfl, rfl, h1, r1⟩ := trodAll_cons r0
    obtain ⟨rfl, rfl, rfl⟩ := trodAll_nil r1
    obtain rfl : args = #[v0, v1] := by cases args; simp_all
    obtain ⟨ram0, slice0, A0, cc0, gs0, rfl, hram0, hslice0, hk0, hc0, hok0⟩ := PConfApart.open_config (hval 0 _ v0 rfl rfl) h0
    obtain ⟨z1, rfl, rfl, rfl, wz1⟩ := open_int Try.underlying22 (hval 1 _ v1 rfl rfl) h1
    obtain ⟨x1, rfl, hx1⟩ := nat_u64 wz1
    obtain ⟨k, hk⟩ := PConfApart.ConfApart_pure ram0 slice0 gs0 x1 hram0 hslice0 hx1 hok0
    refine (PConfApart.mezzaninelaw25_ConfApart.calls k (ram0 : Int) (slice0 : Int) A0 cc0 gs0 (x1 : Int) true W hk0 hc0 hk).mono ?_
    rintro e w' ⟨he, hb⟩
    exact ⟨he, Fr.of_below hb No⟩

theorem ConfApart_holds : Rows.ConfApartSaid :=
  OpenClaim.holds_of_wide 7 Try.f7 rfl rfl rfl rfl rfl rfl rfl ⟨rfl, rfl, rfl, rfl, rfl⟩ rfl rfl rfl rfl rfl (by kernel_rfl) Try.func7 (by kernel_rfl)
    (of_decide_eq_true (by kernel_rfl)) (by unfold Func.isWrapper; rw [if_neg (of_decide_eq_false (by kernel_rfl))]; exact ⟨rfl, rfl⟩)
    (fun os started H enc _ => unlaid (ConfApart_lifted os started H enc))
theorem ConfApart_proved : Rows.ConfApartSaid := ConfApart_holds
#print axioms ConfApart_proved
end Go.Proofs.Ytacgjgmladbgeaa

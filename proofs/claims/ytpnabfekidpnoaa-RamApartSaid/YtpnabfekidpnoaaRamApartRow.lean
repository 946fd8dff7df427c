/-
  The statement RamApart: at every row of acts, every address and every byte it answers true, and leaves its arguments as they were. No condition beside the row's own.
-/
import Derived.Test.YtpnabfekidpnoaaOpen
import Derived.Test.YtpnabfekidpnoaaRamApartW
import Derived.Test.YtpnabfekidpnoaaUnlaid
namespace Go.Proofs.Ytpnabfekidpnoaa
open Go Go.RowKit Go.ChangeShapes Go.WideShapes


set_option maxRecDepth 100000 in
theorem RamApart_lifted (os : Os) (started : os.Started) (H : Type) (enc : TypeId × Value → H) :
    ReturnsInHanded {} Try.checked os 6 .any (fun w args => (Rows.ramApartSpec.pre enc Try.prog Try.f6 [] false w args ∧ laidMet Try.prog [] w) ∧ sizedMet enc Try.prog Try.f6 (OpenSpec.ofChange Rows.ramApartSpec) false w args)
      (Rows.ramApartSpec.post enc Try.prog Try.f6 false true false false) := by
  refine lift_true (C := Try.checked) (tb := 4) (X := fun w _ => laidMet Try.prog [] w) (fun _ _ _ hh h => h.of_heap hh) ownNone started (by kernel_rfl) Try.func6 laidOut rfl (by kernel_rfl) (by kernel_rfl) Try.underlying4 ?_ ?_
    (ChangeSpec.witness_at (enc := enc) (C := Try.checked) (os := os) (X := fun w _ => laidMet Try.prog [] w) false (world_none os) #[.slice none 0 0, .int .u64 0, .int .u8 0] 8 rfl (by kernel_rfl) (by kernel_rfl) (by kernel_rfl) (by kernel_rfl) (by kernel_rfl) (world_none_met os _)) ?_
  · intro t ht
    have e : Try.f6.params.toList = [23, 22, 5] := by kernel_rfl
    rw [e] at ht
    simp only [List.mem_cons, List.not_mem_nil, or_false] at ht
    rcases ht with rfl | rfl | rfl
    · exact ⟨by kernel_rfl, of_decide_eq_true (by kernel_rfl)⟩
    · exact ⟨by kernel_rfl, of_decide_eq_true (by kernel_rfl)⟩
    · exact ⟨by kernel_rfl, of_decide_eq_true (by kernel_rfl)⟩
  · intro ds hds
    have e : Try.f6.params.toList = [23, 22, 5] := by kernel_rfl
    rw [e] at hds
    match ds, hds with
    | [d0, d1, d2], _ => simp [Rows.ramApartSpec]
  · intro W base args ds ps hval0 hA0 hL
    have e : Try.f6.params = #[23, 22, 5] := by kernel_rfl
    have hval : ∀ (j : Nat) t v, Try.f6.params[j]? = some t → args[j]? = some v → Value.okWide Try.prog W .any base t v := hval0
    have hA : DataW.TrodAll enc Try.prog W 0 (fun _ => true) true Try.f6.params.toList args.toList ds ps := hA0
    rw [e] at hA hval
    obtain ⟨v0, vs0, d0, ds0, p0, q0, hargs, rfl, rfl, h0, r0⟩ := trodAll_cons hA
    obtain ⟨v1, vs1, d1, ds1, p1, q1, rfl, rfl, rfl, h1, r1⟩ := trodAll_cons r0
    obtain ⟨v2, vs2, d2, ds2, p2, q2, rfl, rfl, rfl, h2, r2⟩ := trodAll_cons r1
    obtain ⟨rfl, rfl, rfl⟩ := trodAll_nil r2
    obtain rfl : args = #[v0, v1, v2] := by cases args; simp_all
    obtain ⟨xs0, hr0, ho0⟩ := open_acts Try.underlying23 (okWide_slice Try.underlying23 (hval 0 _ v0 rfl rfl)) h0
    obtain ⟨z1, rfl, rfl, rfl, wz1⟩ := open_int Try.underlying22 (hval 1 _ v1 rfl rfl) h1
    obtain ⟨x1, rfl, hx1⟩ := nat_u64 wz1
    obtain ⟨z2, rfl, rfl, rfl, wz2⟩ := open_int Try.underlying5 (hval 2 _ v2 rfl rfl) h2
    obtain ⟨x2, rfl, hx2⟩ := nat_u8 wz2
    exact RamApart_c W v0 xs0 hr0 ho0 x1 x2 hx2

theorem RamApart_holds : Rows.RamApartSaid :=
  OpenClaim.holds_of_wide 6 Try.f6 rfl rfl rfl rfl rfl rfl rfl ⟨rfl, rfl, rfl, rfl, rfl⟩ rfl rfl rfl rfl rfl (by kernel_rfl) Try.func6 (by kernel_rfl)
    (of_decide_eq_true (by kernel_rfl)) (by unfold Func.isWrapper; rw [if_neg (of_decide_eq_false (by kernel_rfl))]; exact ⟨rfl, rfl⟩)
    (fun os started H enc _ => unlaid (RamApart_lifted os started H enc))
theorem RamApart_proved : Rows.RamApartSaid := RamApart_holds
#print axioms RamApart_proved
end Go.Proofs.Ytpnabfekidpnoaa

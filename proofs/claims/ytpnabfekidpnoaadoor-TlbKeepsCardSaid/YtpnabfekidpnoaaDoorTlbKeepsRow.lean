/-
  The statement TlbKeeps: at every row of entries and every entry it answers true, and leaves its arguments as they were. No condition beside the row's own: math/bits' table stands as its text lays it.
-/
import Derived.Test.YtpnabfekidpnoaaDoorPlicRow
import Derived.Test.YtpnabfekidpnoaaDoorTlbKeepsC
import Derived.Test.YtpnabfekidpnoaaDoorTie
import Derived.Test.YtpnabfekidpnoaaDoorCards
namespace Go.Proofs.YtpnabfekidpnoaaDoor
open Go Go.RowKit Go.ChangeShapes Go.WideShapes


set_option maxRecDepth 100000 in
theorem TlbKeeps_lifted (os : Os) (started : os.Started) (H : Type) (enc : TypeId × Value → H) :
    ReturnsInHanded {} Tryd.checked os 3 .any (fun w args => (Rows.tlbKeepsSpec.pre enc Tryd.prog Tryd.f3 [] false w args ∧ laidMet Tryd.prog [("math/bits.deBruijn64tab", Rows.laid_math_bits_deBruijn64tab)] w) ∧ sizedMet enc Tryd.prog Tryd.f3 (OpenSpec.ofChange Rows.tlbKeepsSpec) false w args)
      (Rows.tlbKeepsSpec.post enc Tryd.prog Tryd.f3 false true false false) := by
  refine lift_true (C := Tryd.checked) (tb := 4) (X := fun w _ => laidMet Tryd.prog [("math/bits.deBruijn64tab", Rows.laid_math_bits_deBruijn64tab)] w) (fun _ _ _ hh h => h.of_heap hh) ownNone started (by kernel_rfl) Tryd.func3 laidOut rfl (by kernel_rfl) (by kernel_rfl) Tryd.underlying4 ?_ ?_
    (ChangeSpec.witness_at (enc := enc) (C := Tryd.checked) (os := os) (X := fun w _ => laidMet Tryd.prog [("math/bits.deBruijn64tab", Rows.laid_math_bits_deBruijn64tab)] w) false (tzWorld os) #[.slice none 0 0, .agg #[.bool false, .int .u64 0, .int .u64 0, .bool false, .int .u64 0, .int .u64 0, .int .u64 0, .int .i64 0, .int .i64 0, .int .u64 0, .int .u64 0]] 8 rfl (by kernel_rfl) (by kernel_rfl) (by kernel_rfl) (by kernel_rfl) (by kernel_rfl) (tzWorld_met os _)) ?_
  · intro t ht
    have e : Tryd.f3.params.toList = [22, 25] := by kernel_rfl
    rw [e] at ht
    simp only [List.mem_cons, List.not_mem_nil, or_false] at ht
    rcases ht with rfl | rfl
    · exact ⟨by kernel_rfl, of_decide_eq_true (by kernel_rfl)⟩
    · exact ⟨by kernel_rfl, of_decide_eq_true (by kernel_rfl)⟩
  · intro ds hds
    have e : Tryd.f3.params.toList = [22, 25] := by kernel_rfl
    rw [e] at hds
    match ds, hds with
    | [d0, d1], _ => simp [Rows.tlbKeepsSpec]
  · intro W base args ds ps hval0 hA0 hL
    have e : Tryd.f3.params = #[22, 25] := by kernel_rfl
    have hval : ∀ (j : Nat) t v, Tryd.f3.params[j]? = some t → args[j]? = some v → Value.okWide Tryd.prog W .any base t v := hval0
    have hA : DataW.TrodAll enc Tryd.prog W 0 (fun _ => true) true Tryd.f3.params.toList args.toList ds ps := hA0
    rw [e] at hA hval
    obtain ⟨v0, vs0, d0, ds0, p0, q0, hargs, rfl, rfl, h0, r0⟩ := trodAll_cons hA
    obtain ⟨v1, vs1, d1, ds1, p1, q1, rfl, rfl, rfl, h1, r1⟩ := trodAll_cons r0
    obtain ⟨rfl, rfl, rfl⟩ := trodAll_nil r1
    obtain rfl : args = #[v0, v1] := by cases args; simp_all
    obtain ⟨rows0, hr0, hw0⟩ := open_rows 5 Tryd.underlying22 (e := 25) (by kernel_rfl) (okWide_slice Tryd.underlying22 (hval 0 _ v0 rfl rfl)) h0
    have hk0 : kindsOf Tryd.prog 5 25 = [none, some .u64, some .u64, none, some .u64, some .u64, some .u64, some .i64, some .i64, some .u64, some .u64] := by kernel_rfl
    rw [hk0] at hw0
    obtain ⟨xs0, hl0, hc0, ho0⟩ := tes_of_rows2 rows0 hw0
    rw [← hl0, ← hc0] at hr0
    obtain ⟨cs1, rfl, _⟩ := okWide_struct Tryd.underlying25 (hval 1 _ v1 rfl rfl)
    obtain ⟨m1, hm1⟩ := h1
    have hf1 := trod_fits 5 m1 _ _ _ (by kernel_rfl) hm1
    have hk1 : kindsOf Tryd.prog 5 25 = [none, some .u64, some .u64, none, some .u64, some .u64, some .u64, some .i64, some .i64, some .u64, some .u64] := by kernel_rfl
    rw [hk1] at hf1
    obtain ⟨x1, hx1, ho1⟩ := te_of_cells2 _ hf1
    obtain rfl : cs1 = _ := by cases cs1; exact congrArg Array.mk hx1
    exact TlbKeeps_c W (tz_of_laid hL) v0 xs0 hr0 x1

theorem TlbKeeps_holds : Rows.TlbKeepsSaid :=
  OpenClaim.holds_of_wide 3 Tryd.f3 rfl rfl rfl rfl rfl rfl rfl ⟨rfl, rfl, rfl, rfl, rfl⟩ rfl rfl rfl rfl rfl (by kernel_rfl) Tryd.func3 (by kernel_rfl)
    (of_decide_eq_true (by kernel_rfl)) (by unfold Func.isWrapper; rw [if_neg (of_decide_eq_false (by kernel_rfl))]; exact ⟨rfl, rfl⟩)
    (fun os started H enc _ => TlbKeeps_lifted os started H enc)

theorem TlbKeeps_proved : Rows.TlbKeepsCardSaid :=
  Claim7.holds_tied_plain_at .later [] [.data] true (true, "4b405b8eff7d3db3586bf2d3a6ae99442e2f5aef85221a6f5705ad36e53d05c9") false
    TlbKeeps_holds (fun _ h => by cases h) (by kernel_rfl) (fun _ h => by cases h) tlbKeeps_row_tie rfl ⟨rfl, rfl⟩ (by kernel_rfl) rfl
    (fun f fn hf hfn => by
      obtain rfl : f = 3 := Option.some.inj ((show Tryd.prog.funcNamed "mezzanine/mezzaninelaw19.TlbKeeps" = some 3 by kernel_rfl).symm.trans hf) |>.symm
      obtain rfl : fn = Tryd.f3 := (Option.some.inj (Tryd.func3.symm.trans hfn)).symm
      exact ⟨by kernel_rfl, fun j t ht => by
        have e : Tryd.f3.params = #[22, 25] := by kernel_rfl
        rw [e] at ht
        rcases j with _ | j
        · obtain rfl : t = 22 := by simpa using ht.symm
          exact (show Tryd.prog.wantsStandIn 22 = false by kernel_rfl)
        rcases j with _ | j
        · obtain rfl : t = 25 := by simpa using ht.symm
          exact (show Tryd.prog.wantsStandIn 25 = false by kernel_rfl)
        simp at ht⟩)
    (by kernel_rfl)
#print axioms TlbKeeps_proved
end Go.Proofs.YtpnabfekidpnoaaDoor

/-
  The statement TlbFenced: at every row of entries, every fence and every question it answers true, and leaves its arguments as they were. No condition beside the row's own: math/bits' table stands as its text lays it.
-/
import Derived.Test.YtpnabfekidpnoaaDoorPlicRow
import Derived.Test.YtpnabfekidpnoaaDoorTlbFencedC
import Derived.Test.YtpnabfekidpnoaaDoorTie
import Derived.Test.YtpnabfekidpnoaaDoorCards
namespace Go.Proofs.YtpnabfekidpnoaaDoor
open Go Go.RowKit Go.ChangeShapes Go.WideShapes


set_option maxRecDepth 100000 in
theorem TlbFenced_lifted (os : Os) (started : os.Started) (H : Type) (enc : TypeId × Value → H) :
    ReturnsInHanded {} Tryd.checked os 6 .any (fun w args => (Rows.tlbFencedSpec.pre enc Tryd.prog Tryd.f6 [] false w args ∧ laidMet Tryd.prog [("math/bits.deBruijn64tab", Rows.laid_math_bits_deBruijn64tab)] w) ∧ sizedMet enc Tryd.prog Tryd.f6 (OpenSpec.ofChange Rows.tlbFencedSpec) false w args)
      (Rows.tlbFencedSpec.post enc Tryd.prog Tryd.f6 false true false false) := by
  refine lift_true (C := Tryd.checked) (tb := 4) (X := fun w _ => laidMet Tryd.prog [("math/bits.deBruijn64tab", Rows.laid_math_bits_deBruijn64tab)] w) (fun _ _ _ hh h => h.of_heap hh) ownNone started (by kernel_rfl) Tryd.func6 laidOut rfl (by kernel_rfl) (by kernel_rfl) Tryd.underlying4 ?_ ?_
    (ChangeSpec.witness_at (enc := enc) (C := Tryd.checked) (os := os) (X := fun w _ => laidMet Tryd.prog [("math/bits.deBruijn64tab", Rows.laid_math_bits_deBruijn64tab)] w) false (tzWorld os) #[.slice none 0 0, .agg #[.bool false, .int .u64 0, .int .u64 0, .bool false, .int .u64 0, .int .u64 0, .int .u64 0, .int .i64 0, .int .i64 0, .int .u64 0, .int .u64 0], .bool false, .bool false, .agg #[.bool false, .int .u64 0, .int .u64 0, .bool false, .int .u64 0, .int .u64 0, .int .u64 0, .int .i64 0, .int .i64 0, .int .u64 0, .int .u64 0]] 8 rfl (by kernel_rfl) (by kernel_rfl) (by kernel_rfl) (by kernel_rfl) (by kernel_rfl) (tzWorld_met os _)) ?_
  · intro t ht
    have e : Tryd.f6.params.toList = [22, 25, 4, 4, 25] := by kernel_rfl
    rw [e] at ht
    simp only [List.mem_cons, List.not_mem_nil, or_false] at ht
    rcases ht with rfl | rfl | rfl | rfl | rfl
    · exact ⟨by kernel_rfl, of_decide_eq_true (by kernel_rfl)⟩
    · exact ⟨by kernel_rfl, of_decide_eq_true (by kernel_rfl)⟩
    · exact ⟨by kernel_rfl, of_decide_eq_true (by kernel_rfl)⟩
    · exact ⟨by kernel_rfl, of_decide_eq_true (by kernel_rfl)⟩
    · exact ⟨by kernel_rfl, of_decide_eq_true (by kernel_rfl)⟩
  · intro ds hds
    have e : Tryd.f6.params.toList = [22, 25, 4, 4, 25] := by kernel_rfl
    rw [e] at hds
    match ds, hds with
    | [d0, d1, d2, d3, d4], _ => simp [Rows.tlbFencedSpec]
  · intro W base args ds ps hval0 hA0 hL
    have e : Tryd.f6.params = #[22, 25, 4, 4, 25] := by kernel_rfl
    have hval : ∀ (j : Nat) t v, Tryd.f6.params[j]? = some t → args[j]? = some v → Value.okWide Tryd.prog W .any base t v := hval0
    have hA : DataW.TrodAll enc Tryd.prog W 0 (fun _ => true) true Tryd.f6.params.toList args.toList ds ps := hA0
    rw [e] at hA hval
    obtain ⟨v0, vs0, d0, ds0, p0, q0, hargs, rfl, rfl, h0, r0⟩ := trodAll_cons hA
    obtain ⟨v1, vs1, d1, ds1, p1, q1, rfl, rfl, rfl, h1, r1⟩ := trodAll_cons r0
    obtain ⟨v2, vs2, d2, ds2, p2, q2, rfl, rfl, rfl, h2, r2⟩ := trodAll_cons r1
    obtain ⟨v3, vs3, d3, ds3, p3, q3, rfl, rfl, rfl, h3, r3⟩ := trodAll_cons r2
    obtain ⟨v4, vs4, d4, ds4, p4, q4, rfl, rfl, rfl, h4, r4⟩ := trodAll_cons r3
    obtain ⟨rfl, rfl, rfl⟩ := trodAll_nil r4
    obtain rfl : args = #[v0, v1, v2, v3, v4] := by cases args; simp_all
    obtain ⟨rows0, hr0, hw0⟩ := open_rows 5 Tryd.underlying22 (e := 25) (by kernel_rfl) (okWide_slice Tryd.underlying22 (hval 0 _ v0 rfl rfl)) h0
    have hk0 : kindsOf Tryd.prog 5 25 = [none, some .u64, some .u64, none, some .u64, some .u64, some .u64, some .i64, some .i64, some .u64, some .u64] := by kernel_rfl
    rw [hk0] at hw0
    obtain ⟨xs0, hl0, hc0, ho0⟩ := tes_of_rows2 rows0 hw0
    rw [← hl0, ← hc0] at hr0
    obtain ⟨cs1, rfl, _⟩ := okWide_struct Tryd.underlying25 (hval 1 _ v1 rfl rfl)
    obtain ⟨m1, hm1⟩ := h1
    have hf1 := trod_fits 5 m1 _ _ _ (by kernel_rfl) hm1
    have hk1 : kindsOf Tryd.prog 5 25 = [none, some .u64, some .u64, none, some .u64, some .u64, some .u64, some .i64, some .i64, some .u64, some .u64] := by kernel_rfl
    rw [hk1] at hf1
    obtain ⟨x1, hx1, ho1⟩ := te_of_cells2 _ hf1
    obtain rfl : cs1 = _ := by cases cs1; exact congrArg Array.mk hx1
    obtain ⟨b2, rfl, rfl, rfl⟩ := open_bool Tryd.underlying4 (hval 2 _ v2 rfl rfl) h2
    obtain ⟨b3, rfl, rfl, rfl⟩ := open_bool Tryd.underlying4 (hval 3 _ v3 rfl rfl) h3
    obtain ⟨cs4, rfl, _⟩ := okWide_struct Tryd.underlying25 (hval 4 _ v4 rfl rfl)
    obtain ⟨m4, hm4⟩ := h4
    have hf4 := trod_fits 5 m4 _ _ _ (by kernel_rfl) hm4
    have hk4 : kindsOf Tryd.prog 5 25 = [none, some .u64, some .u64, none, some .u64, some .u64, some .u64, some .i64, some .i64, some .u64, some .u64] := by kernel_rfl
    rw [hk4] at hf4
    obtain ⟨x4, hx4, ho4⟩ := te_of_cells2 _ hf4
    obtain rfl : cs4 = _ := by cases cs4; exact congrArg Array.mk hx4
    exact TlbFenced_c W (tz_of_laid hL) v0 xs0 hr0 x1 b2 b3 x4

theorem TlbFenced_holds : Rows.TlbFencedSaid :=
  OpenClaim.holds_of_wide 6 Tryd.f6 rfl rfl rfl rfl rfl rfl rfl ⟨rfl, rfl, rfl, rfl, rfl⟩ rfl rfl rfl rfl rfl (by kernel_rfl) Tryd.func6 (by kernel_rfl)
    (of_decide_eq_true (by kernel_rfl)) (by unfold Func.isWrapper; rw [if_neg (of_decide_eq_false (by kernel_rfl))]; exact ⟨rfl, rfl⟩)
    (fun os started H enc _ => TlbFenced_lifted os started H enc)

theorem TlbFenced_proved : Rows.TlbFencedCardSaid :=
  Claim7.holds_tied_plain_at .later [] [.data] true (true, "4b405b8eff7d3db3586bf2d3a6ae99442e2f5aef85221a6f5705ad36e53d05c9") false
    TlbFenced_holds (fun _ h => by cases h) (by kernel_rfl) (fun _ h => by cases h) tlbFenced_row_tie rfl ⟨rfl, rfl⟩ (by kernel_rfl) rfl
    (fun f fn hf hfn => by
      obtain rfl : f = 6 := Option.some.inj ((show Tryd.prog.funcNamed "mezzanine/mezzaninelaw19.TlbFenced" = some 6 by kernel_rfl).symm.trans hf) |>.symm
      obtain rfl : fn = Tryd.f6 := (Option.some.inj (Tryd.func6.symm.trans hfn)).symm
      exact ⟨by kernel_rfl, fun j t ht => by
        have e : Tryd.f6.params = #[22, 25, 4, 4, 25] := by kernel_rfl
        rw [e] at ht
        rcases j with _ | j
        · obtain rfl : t = 22 := by simpa using ht.symm
          exact (show Tryd.prog.wantsStandIn 22 = false by kernel_rfl)
        rcases j with _ | j
        · obtain rfl : t = 25 := by simpa using ht.symm
          exact (show Tryd.prog.wantsStandIn 25 = false by kernel_rfl)
        rcases j with _ | j
        · obtain rfl : t = 4 := by simpa using ht.symm
          exact (show Tryd.prog.wantsStandIn 4 = false by kernel_rfl)
        rcases j with _ | j
        · obtain rfl : t = 4 := by simpa using ht.symm
          exact (show Tryd.prog.wantsStandIn 4 = false by kernel_rfl)
        rcases j with _ | j
        · obtain rfl : t = 25 := by simpa using ht.symm
          exact (show Tryd.prog.wantsStandIn 25 = false by kernel_rfl)
        simp at ht⟩)
    (by kernel_rfl)
#print axioms TlbFenced_proved
end Go.Proofs.YtpnabfekidpnoaaDoor

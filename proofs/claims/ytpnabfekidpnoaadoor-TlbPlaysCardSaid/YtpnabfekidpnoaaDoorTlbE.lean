/-
  Twin: another one of the same entries; the statement's `is`.
-/
import Derived.Test.YtpnabfekidpnoaaDoorTlbC
namespace Go.Proofs.YtpnabfekidpnoaaDoor
open Go Go.RowKit

set_option maxRecDepth 100000 in
set_option maxHeartbeats 1000000 in
/-- A row is copied. -/
theorem clone_c (w : World) (v : Value) (l : List TE) (G : Nat → Prop) (h : Row w v l G) (h100 : l.length ≤ 100) :
    Calls Tryd.prog 35 #[v] w fun e w' => ∃ v', e = .returned v' ∧ Row w' v' l (fun k => w.heap.size ≤ k ∧ k < w'.heap.size) ∧ Fr No w w' := by
  rcases h with ⟨rfl, rfl⟩ | ⟨g, c, cur, rfl, hG, hB, hlc, hcm, hcs, hcell⟩
  · have hq : ∀ W : World, (binOp .eql 22 (.slice none 0 0) (.slice none 0 0)).run Tryd.prog W = .ok (.bool true) W := fun W => Lib.run_eql_slice_nil W _ _ none 0 0 0 0 Tryd.underlying22
    go_enter Tryd.func35, Tryd.ntmps35
    go_wp2_with fail
    go_ret
    exact ⟨_, rfl, Row.nil_ _ _, Fr.refl _ _⟩
  · have hq : ∀ W : World, (binOp .eql 22 (.slice (some ⟨g, 0, none⟩) l.length c) (.slice none 0 0)).run Tryd.prog W = .ok (.bool false) W := fun W => Lib.run_eql_slice_nil W _ _ (some ⟨g, 0, none⟩) l.length c 0 0 Tryd.underlying22
    have hf0 : Fr No w (w.alloc (.cells #[] 25)) := (Fr.refl No w).alloc _
    have hO : Row (w.alloc (.cells #[] 25)) (.slice (some ⟨w.heap.size, 0, none⟩) 0 0) [] (One w.heap.size) :=
      .inr ⟨w.heap.size, 0, #[], rfl, rfl, Blk.new w _ _, Nat.le_refl _, by unfold maxLen; omega, by simp, fun j hj => by simp at hj⟩
    have hrd : 0 < l.length → ∃ ad, (some ⟨g, 0, none⟩ : Option Addr) = some ad ∧ ∀ j u, (tcells l)[j]? = some u → (w.alloc (.cells #[] 25)).cell? (ad.add j) = some u := fun _ => ⟨_, rfl, fun j u hu => by
      have hj : j < (tcells l).length := (List.getElem?_eq_some_iff.1 hu).1
      rw [tcells_len] at hj
      rw [addr_add, (hB.fr hf0 (fun q => q)).cell, Nat.zero_add, hcell j hj, hu]⟩
    have HO := Lib.hid hO
    have HF := Lib.hid hf0
    have HRD := Lib.hid hrd
    have H100 := Lib.hid h100
    clear hO hf0 hrd hB hlc hcm hcs hcell hG h100
    obtain ⟨n, hn⟩ : ∃ n, n = l.length := ⟨_, rfl⟩
    have HN := Lib.hid hn
    rw [← hn] at hq HRD ⊢
    clear hn
    go_enter Tryd.func35, Tryd.ntmps35
    go_wp2_with (at_builtin; rw [HN.out]; refine wpList_append_te rfl (.tmp 5) (.tmp 6) rfl l (some ⟨g, 0, none⟩) c rfl rfl HO.out (by rw [← HN.out]; exact HRD.out) (by have := H100.out; simp; omega) ?_; intro v1 w1 hr1 hf1)
    go_ret
    rw [List.nil_append] at hr1
    refine ⟨v1, rfl, hr1.cut.mono (fun k hk => ⟨?_, hk.2⟩), HF.out.andThen hf1 (fun k hk h => by have h2 : k = w.heap.size := h; omega)⟩
    rcases hk.1 with h | h
    · have h2 : k = w.heap.size := h; omega
    · rw [h]; simp
/-- Half a twin: its block, its sets so far. -/
def Half (wr : World) (bu ways i : Nat) (L : TS) : Prop :=
  ∃ (sv : Value) (vs : List Value) (S : Nat → Prop) (G : Nat → Nat → Prop), Blk wr bu 64 #[.int .i64 (ways : Int), sv] ∧ Head wr 22 1 sv i vs S ∧
    (∀ j (hj : j < i) (hjL : j < L.length), ∃ v, vs[j]? = some v ∧ Row wr v L[j] (G j)) ∧ (∀ k, S k → bu < k ∧ k < wr.heap.size) ∧ (∀ j k, G j k → bu < k ∧ ¬ S k ∧ k < wr.heap.size) ∧ ∀ i j k, G i k → G j k → i = j
theorem Half.start (w : World) (ways : Nat) (L : TS) : Half (w.alloc (.cells #[.int .i64 (ways : Int), .slice none 0 0] 64)) w.heap.size ways 0 L :=
  ⟨_, [], No, fun _ => No, Blk.new w _ _, Head.nil_ _ _ _ _, fun j hj => absurd hj (Nat.not_lt_zero j), fun _ h => h.elim, fun _ _ h => h.elim, fun _ _ _ h => h.elim⟩
theorem Half.done {wr : World} {bu ways : Nat} {L : TS} (h : Half wr bu ways L.length L) (h0 : 0 < L.length) : TAt wr bu ways L (fun k => bu ≤ k) := by
  obtain ⟨sv, vs, S, G, h1, ⟨h2, h3⟩, h4, h5, h6, h7⟩ := h
  rcases h3 with ⟨_, h3⟩ | ⟨g, c, cur, rfl, hS, hB, hn, hm, hs, hc⟩
  · omega
  · have hg := h5 _ hS
    refine ⟨g, c, cur, G, h1, hB, by omega, hn, hm, fun i hi => ?_, by omega, Nat.le_refl _, Nat.le_of_lt hg.1, fun i k hk => ⟨Nat.le_of_lt (h6 i k hk).1, ?_, ?_⟩, h7⟩
    · obtain ⟨v, hv, hr⟩ := h4 i hi hi
      exact ⟨v, by rw [hc i (by omega)]; exact hv, hr⟩
    · have := (h6 i k hk).1; omega
    · intro e; subst e; exact (h6 i _ hk).2.1 hS
/-- One more row. -/
theorem Half.step {wr w1 : World} {bu ways i : Nat} {L : TS} (h : Half wr bu ways i L) (hb : bu < wr.heap.size) (hi : i < L.length) (h64 : L.length ≤ 64) {v : Value} (hr : Row w1 v L[i] (fun k => wr.heap.size ≤ k ∧ k < w1.heap.size)) (hf : Fr No wr w1) (ty : TypeId) :
    ∃ sv, wr.cell? ⟨bu, 1, none⟩ = some sv ∧ w1.cell? ⟨bu, 1, none⟩ = some sv ∧ ∃ a' c' w2, (Builtin.append_ #[62, 62] ty #[sv, .slice (some ⟨w1.heap.size, 0, none⟩) 1 1]).run Tryd.prog (w1.alloc (.cells #[v] 22)) = .ok (.slice a' (i + 1) c') w2 ∧
      w2.cell? ⟨bu, 1, none⟩ = some sv ∧ (∀ k, w2.frozen? ⟨bu, k, none⟩ = false) ∧ Half (w2.setCell ⟨bu, 1, none⟩ (.slice a' (i + 1) c')) bu ways (i + 1) L ∧ Fr (fun k => bu ≤ k) wr (w2.setCell ⟨bu, 1, none⟩ (.slice a' (i + 1) c')) := by
  obtain ⟨sv, vs, S, G, h1, h2, h4, h5, h6, h7⟩ := h
  have hfa : Fr No wr (w1.alloc (.cells #[v] 22)) := hf.alloc _
  obtain ⟨i0, hi0, hz0, hs0, hb0⟩ := infoS2
  obtain ⟨v', w2, hrun, hh2, hf2⟩ := run_append_head (P := Tryd.prog) (w1.alloc (.cells #[v] 22)) 62 ty 22 i0 _ 1 i0.bytes Tryd.underlying62 hi0 hz0 hs0 rfl rfl sv i vs S (h2.fr hfa (fun _ _ q => q)) (some ⟨w1.heap.size, 0, none⟩) 1 1 [v]
    (fun _ => ⟨_, rfl, fun j u hu => by rw [addr_add, Nat.zero_add, (Blk.new w1 _ _).cell, List.getElem?_toArray]; exact hu⟩) rfl (by
      intro u hu
      rw [List.mem_singleton.1 hu]
      obtain ⟨a, c, rfl, _⟩ := hr.len
      rfl) (by unfold maxLen; omega) (by
      have : (i + 1) * i0.bytes ≤ 64 * 100 := Nat.mul_le_mul (by omega) hb0
      omega)
  obtain ⟨a', c', rfl, _, _⟩ := hh2.own.slice
  have hbS : ¬ S bu := fun q => by have := (h5 _ q).1; omega
  have hsz : wr.heap.size ≤ w1.heap.size := hf.size
  have hsz2 : w1.heap.size + 1 ≤ w2.heap.size := by have := hf2.size; simp at this; exact this
  have hB2 : Blk w2 bu 64 #[.int .i64 (ways : Int), sv] := (h1.fr hfa (fun q => q)).fr hf2 hbS
  have hfs : Fr (One bu) w2 (w2.setCell ⟨bu, 1, none⟩ (.slice a' (i + 1) c')) := Fr.put w2 bu 1 _
  refine ⟨sv, h1.cell 1, (h1.fr hf (fun q => q)).cell 1, a', c', w2, hrun, hB2.cell 1, fun k => hB2.free k, ⟨.slice a' (i + 1) c', vs ++ [v], fun k => (S k ∨ k = w1.heap.size + 1) ∧ k < w2.heap.size, fun j k => if j = i then (wr.heap.size ≤ k ∧ k < w1.heap.size) else G j k, ?_, ?_, ?_, ?_, ?_, ?_⟩, ?_⟩
  · exact hB2.put 1 _
  · have := hh2.cut
    rw [World.size_alloc] at this
    exact this.fr hfs (fun k hk q => by have q2 : k = bu := q; rcases hk.1 with h | h; · exact hbS (q2 ▸ h)
                                        · omega)
  · intro j hj hjL
    by_cases hji : j = i
    · subst hji
      refine ⟨v, by rw [List.getElem?_append_right (by rw [h2.1]; omega), h2.1]; simp, ?_⟩
      simp only [if_true]
      refine (((hr.fr ((Fr.refl No w1).alloc (.cells #[v] 22)) (fun _ _ q => q)).fr hf2 (fun k hk q => ?_)).fr hfs (fun k hk q => ?_))
      · have := (h5 _ q).2; omega
      · have q2 : k = bu := q; omega
    · obtain ⟨u, hu, hru⟩ := h4 j (by omega) hjL
      refine ⟨u, by rw [List.getElem?_append_left (by rw [h2.1]; omega)]; exact hu, ?_⟩
      simp only [if_neg hji]
      exact ((hru.fr hfa (fun _ _ q => q)).fr hf2 (fun k hk => (h6 j k hk).2.1)).fr hfs (fun k hk q => by have q2 : k = bu := q; have := (h6 j k hk).1; omega)
  · intro k hk
    refine ⟨?_, by rw [World.size_setCell]; exact hk.2⟩
    rcases hk.1 with h | h
    · exact (h5 _ h).1
    · omega
  · intro j k hk
    rw [World.size_setCell]
    by_cases hji : j = i
    · simp only [hji, if_true] at hk
      refine ⟨by omega, fun q => ?_, by omega⟩
      rcases q.1 with h | h
      · have := (h5 _ h).2; omega
      · omega
    · simp only [if_neg hji] at hk
      obtain ⟨q1, q2, q3⟩ := h6 j k hk
      refine ⟨q1, fun q => ?_, by omega⟩
      rcases q.1 with h | h
      · exact q2 h
      · omega
  · intro j j' k hj hj'
    by_cases e1 : j = i
    · by_cases e2 : j' = i
      · rw [e1, e2]
      · simp only [e1, if_true] at hj
        simp only [if_neg e2] at hj'
        have := (h6 _ _ hj').2.2
        omega
    · by_cases e2 : j' = i
      · simp only [if_neg e1] at hj
        simp only [e2, if_true] at hj'
        have := (h6 _ _ hj).2.2
        omega
      · simp only [if_neg e1] at hj
        simp only [if_neg e2] at hj'
        exact h7 _ _ _ hj hj'
  · exact ((hfa.mono (fun _ _ q => q.elim)).andThen hf2 (fun k hk q => Nat.le_of_lt (h5 k q).1)).setCell (.inl (Nat.le_refl _)) _
set_option maxRecDepth 100000 in
set_option maxHeartbeats 2000000 in
theorem twin_c (w : World) (b ways : Nat) (L : TS) (F : Nat → Prop) (h : TAt w b ways L F) (hok : TS.Ok ways L) :
    Calls Tryd.prog 16 #[.pointer (some ⟨b, 0, none⟩)] w fun r w' => ∃ b2, r = .returned (.pointer (some ⟨b2, 0, none⟩)) ∧ TAt w' b2 ways L (fun k => w.heap.size ≤ k) ∧ Fr No w w' := by
  obtain ⟨s, c, hin⟩ := h
  obtain ⟨n, hn⟩ : ∃ n, n = L.length := ⟨_, rfl⟩
  have cb : w.cell? ⟨b, 1, none⟩ = some (.slice (some ⟨s, 0, none⟩) n c) := by obtain ⟨vs, G, h1, _⟩ := hin; rw [hn]; exact h1.cell 1
  have cw : w.cell? ⟨b, 0, none⟩ = some (.int .i64 (ways : Int)) := by obtain ⟨vs, G, h1, _⟩ := hin; exact h1.cell 0
  have hcut : TIn w b s c ways L (fun k => F k ∧ k < w.heap.size) := by
    obtain ⟨vs, G, h1, h2, h3, h4, h5, h6, h7, h8, h9, h10, h11⟩ := hin
    refine ⟨vs, fun i k => G i k ∧ k < w.heap.size, h1, h2, h3, h4, h5, fun i hi => ?_, h7, ⟨h8, h1.lt⟩, ⟨h9, h2.lt⟩, fun i k hk => ⟨⟨(h10 i k hk.1).1, hk.2⟩, (h10 i k hk.1).2⟩, fun i j k h h' => h11 i j k h.1 h'.1⟩
    obtain ⟨v, hv, hr⟩ := h6 i hi
    exact ⟨v, hv, hr.cut⟩
  have hb : b < w.heap.size := by obtain ⟨vs, G, h1, _⟩ := hin; exact h1.lt
  have HI := Lib.hid hcut
  have HN := Lib.hid hn
  have HOK := Lib.hid hok
  have HB := Lib.hid hb
  obtain ⟨bu, hbu⟩ : ∃ bu, bu = w.heap.size := ⟨_, rfl⟩
  have HBU := Lib.hid hbu
  have hst := Half.start w ways L
  have HST := Lib.hid hst
  clear hin hn hok hb hcut hst
  have hub : ∀ t cs, (w.alloc (.cells cs t)).cell? ⟨b, 1, none⟩ = some (.slice (some ⟨s, 0, none⟩) n c) := fun t cs => (World.cell?_alloc_some w ⟨b, 1, none⟩ _ (by rw [cb]; rfl)).trans cb
  have hF1 : Fr (fun k => bu ≤ k) w (w.alloc (.cells #[.int .i64 (ways : Int), .slice none 0 0] 64)) := (Fr.refl _ w).alloc _
  have HF1 := Lib.hid hF1
  have hlt1 : bu < (w.alloc (.cells #[.int .i64 (ways : Int), .slice none 0 0] 64)).heap.size := by rw [hbu]; simp
  have HLT1 := Lib.hid hlt1
  have h64 : n ≤ 64 := by have := HN.out; rw [this]; exact HOK.out.n64
  clear hF1 hlt1
  go_enter Tryd.func16, Tryd.ntmps16
  go_wp2_with fail
  rw [← hbu] at HST ⊢
  clear hbu hub
  go_loopw [19] (fun pi wr => ∃ i : Nat, i ≤ n ∧ pi = .int .i64 (i : Int) ∧ Hid (Half wr bu ways i L) ∧ Hid (Fr (fun k => bu ≤ k) w wr) ∧ Hid (bu < wr.heap.size)) (fun pi _ => n - (intOf pi).toNat)
  case atStart => exact ⟨0, Nat.zero_le _, rfl, HST, HF1, HLT1⟩
  case round =>
    obtain ⟨i, hi, rfl, HA, HF, HLT⟩ := hrel
    by_cases hlt : i < n
    · have hiL : i < L.length := by have := HN.out; omega
      have hin := HI.out.fr HF.out (fun k hk q => by have q2 : bu ≤ k := q; have := hk.2; have := HBU.out; omega)
      obtain ⟨a, cc, hc, hrow, _⟩ := hin.read i hiL
      have hw8 := HOK.out.w
      have hlw : L[i].length ≤ 100 := by have := HOK.out.r _ (List.getElem_mem hiL); omega
      obtain ⟨l, hl⟩ : ∃ l, l = L[i] := ⟨_, rfl⟩
      rw [← hl] at hc hrow hlw
      have HROW := Lib.hid hrow
      have HL := Lib.hid hl
      obtain ⟨m, hm⟩ : ∃ m, m = l.length := ⟨_, rfl⟩
      rw [← hm] at hc
      have HM := Lib.hid hm
      have e1 : IntKind.i64.wrap ((i : Int) + 1) = ((i + 1 : Nat) : Int) := by rw [IntKind.wrap_i64]; omega
      obtain ⟨sv, hsv⟩ : ∃ sv, wr.cell? ⟨bu, 1, none⟩ = some sv := by obtain ⟨sv, vs, S, G, h1, _⟩ := HA.out; exact ⟨sv, h1.cell 1⟩
      clear hin hrow hl hm hw8
      go_upto_region 7 with fail
      refine wp_region_held_drew (S := fun _ => True) (by kernel_rfl) trivial (fun _ => ?_)
      have hHeld : True := trivial
      refine' tkG (i := 0) (v := _) rfl (by kernel_rfl) (by kernel_rfl) (by kernel_rfl) (fun _ _ _ h => h) (by rfl) ?hy1 (by assumption) ?rest1
      case hy1 => (intro wq hSq; (try dsimp only at hSq); go_simp; try with_reducible rfl)
      simp only [Act.put, List.setIfInBounds_toArray, List.set_cons_zero, List.set_cons_succ]
      refine' tkG (i := 1) (v := _) rfl (by kernel_rfl) (by kernel_rfl) (by kernel_rfl) (fun _ _ _ h => h) (by rfl) ?hy2 (by assumption) ?rest2
      case hy2 => (intro wq hSq; (try dsimp only at hSq); go_simp; try with_reducible rfl)
      simp only [Act.put, List.setIfInBounds_toArray, List.set_cons_zero, List.set_cons_succ]
      refine' tkG (i := 2) (v := _) rfl (by kernel_rfl) (by kernel_rfl) (by kernel_rfl) (fun _ _ _ h => h) (by rfl) ?hy3 (by assumption) ?rest3
      case hy3 => (intro wq hSq; (try dsimp only at hSq); go_simp; try with_reducible rfl)
      simp only [Act.put, List.setIfInBounds_toArray, List.set_cons_zero, List.set_cons_succ]
      refine' tkG (i := 3) (v := _) rfl (by kernel_rfl) (by kernel_rfl) (by kernel_rfl) (fun _ _ _ h => h) (by rfl) ?hy4 (by assumption) ?rest4
      case hy4 => (intro wq hSq; (try dsimp only at hSq); go_simp; try with_reducible rfl)
      simp only [Act.put, List.setIfInBounds_toArray, List.set_cons_zero, List.set_cons_succ]
      refine' tkG (i := 5) (v := _) rfl (by kernel_rfl) (by kernel_rfl) (by kernel_rfl) (fun _ _ _ h => h) (by rfl) ?hy5 (by assumption) ?rest5
      case hy5 => (intro wq hSq; (try dsimp only at hSq); go_simp; try with_reducible rfl)
      simp only [Act.put, List.setIfInBounds_toArray, List.set_cons_zero, List.set_cons_succ]
      refine wpAnyH_ready (rs := [4, 6]) (by kernel_rfl) (by simp) ?_
      refine AllReadyH.cons rfl (fun K hK => ?_) (AllReadyH.cons rfl (fun K hK => ?_) AllReadyH.nil)
      · go_simp
        refine hK.out _ _ trivial (fun _ => ?_)
        clear hK K
        try simp only [Act.put, List.setIfInBounds_toArray, List.set_cons_zero, List.set_cons_succ]
        refine wpAnyH_ready (rs := [6]) (by kernel_rfl) (by simp) ?_
        refine AllReadyH.cons rfl (fun K hK => ?_) AllReadyH.nil
        go_simp
        have hcl := clone_c wr.drew (.slice a l.length cc) l F ((HROW.out.mono (fun k h => h.1)).fr ((Fr.refl No wr).drew) (fun _ _ q => q)) hlw
        rw [← HM.out] at hcl
        refine hcl.mono ?_
        rintro r w1 ⟨v1, rfl, hr1, hf1⟩
        have hf01 : Fr No wr w1 := ((Fr.refl No wr).drew).trans hf1
        rw [HL.out] at hr1
        obtain ⟨a1, c1, hv1, _, _⟩ := hr1.len
        obtain ⟨m1, hm1⟩ : ∃ m1, m1 = L[i].length := ⟨_, rfl⟩
        rw [← hm1] at hv1
        clear hm1
        subst hv1
        obtain ⟨sv', q1, q2, a', c', w2, hrun, hcell2, hfree2, hhalf, hfr⟩ := HA.out.step HLT.out hiL (by have := HN.out; omega) hr1 hf01 62
        obtain rfl : sv' = sv := by rw [hsv] at q1; exact (Option.some.inj q1).symm
        have HRUN := Lib.hid hrun
        have HHALF := Lib.hid hhalf
        have HFR := Lib.hid hfr
        clear hcl hf1 hf01 hr1 q1 hrun hhalf hfr
        go_simp
        refine hK.out _ _ trivial (fun _ => ?_)
        clear hK K
        try simp only [Act.put, List.setIfInBounds_toArray, List.set_cons_zero, List.set_cons_succ]
        refine wpAnyH_ready (rs := [7]) (by kernel_rfl) (by simp) ?_
        refine AllReadyH.cons rfl (fun K hK => ?_) AllReadyH.nil
        go_simp
        refine hK.out _ _ trivial (fun _ => ?_)
        clear hK K
        try simp only [Act.put, List.setIfInBounds_toArray, List.set_cons_zero, List.set_cons_succ]
        refine wpAnyH_ready (rs := [8]) (by kernel_rfl) (by simp) ?_
        refine AllReadyH.cons rfl (fun K hK => ?_) AllReadyH.nil
        refine step_append_run rfl (.tmp 27) (.tmp 30) _ rfl _ _ _ rfl rfl HRUN.out ?_
        refine hK.out _ _ trivial (fun _ => ?_)
        clear hK K
        try simp only [Act.put, List.setIfInBounds_toArray, List.set_cons_zero, List.set_cons_succ]
        refine' tkG (i := 9) (v := _) rfl (by kernel_rfl) (by kernel_rfl) (by kernel_rfl) (fun _ _ _ h => h) (by rfl) ?hy13 (by assumption) ?rest13
        case hy13 => (intro wq hSq; (try dsimp only at hSq); go_simp; try with_reducible rfl)
        simp only [Act.put, List.setIfInBounds_toArray, List.set_cons_zero, List.set_cons_succ]
        refine' tkG (i := 10) (v := _) rfl (by kernel_rfl) (by kernel_rfl) (by kernel_rfl) (fun _ _ _ h => h) (by rfl) ?hy14 (by assumption) ?rest14
        case hy14 => (intro wq hSq; (try dsimp only at hSq); go_simp; try with_reducible rfl)
        simp only [Act.put, List.setIfInBounds_toArray, List.set_cons_zero, List.set_cons_succ]
        refine wpAnyH_ready (rs := [11]) (by kernel_rfl) (by simp) ?_
        refine AllReadyH.cons rfl (fun K hK => ?_) AllReadyH.nil
        go_simp
        refine hK.out _ _ trivial (fun _ => ?_)
        clear hK K
        try simp only [Act.put, List.setIfInBounds_toArray, List.set_cons_zero, List.set_cons_succ]
        refine wpAnyH_done (by kernel_rfl) ?_ _
        go_wp2_with fail
        exact ⟨⟨i + 1, by omega, by simp, HHALF, Lib.hid (HF.out.trans (HFR.out.mono (fun k _ q => q))), Lib.hid (by have := HFR.out.size; have := HLT.out; omega)⟩, by simp [intOf]; omega⟩
      · go_simp
        have hcl := clone_c wr.drew (.slice a l.length cc) l F ((HROW.out.mono (fun k h => h.1)).fr ((Fr.refl No wr).drew) (fun _ _ q => q)) hlw
        rw [← HM.out] at hcl
        refine hcl.mono ?_
        rintro r w1 ⟨v1, rfl, hr1, hf1⟩
        have hf01 : Fr No wr w1 := ((Fr.refl No wr).drew).trans hf1
        rw [HL.out] at hr1
        obtain ⟨a1, c1, hv1, _, _⟩ := hr1.len
        obtain ⟨m1, hm1⟩ : ∃ m1, m1 = L[i].length := ⟨_, rfl⟩
        rw [← hm1] at hv1
        clear hm1
        subst hv1
        obtain ⟨sv', q1, q2, a', c', w2, hrun, hcell2, hfree2, hhalf, hfr⟩ := HA.out.step HLT.out hiL (by have := HN.out; omega) hr1 hf01 62
        obtain rfl : sv' = sv := by rw [hsv] at q1; exact (Option.some.inj q1).symm
        have HRUN := Lib.hid hrun
        have HHALF := Lib.hid hhalf
        have HFR := Lib.hid hfr
        clear hcl hf1 hf01 hr1 q1 hrun hhalf hfr
        go_simp
        refine hK.out _ _ trivial (fun _ => ?_)
        clear hK K
        try simp only [Act.put, List.setIfInBounds_toArray, List.set_cons_zero, List.set_cons_succ]
        refine wpAnyH_ready (rs := [4, 7]) (by kernel_rfl) (by simp) ?_
        refine AllReadyH.cons rfl (fun K hK => ?_) (AllReadyH.cons rfl (fun K hK => ?_) AllReadyH.nil)
        · go_simp
          refine hK.out _ _ trivial (fun _ => ?_)
          clear hK K
          try simp only [Act.put, List.setIfInBounds_toArray, List.set_cons_zero, List.set_cons_succ]
          refine wpAnyH_ready (rs := [7]) (by kernel_rfl) (by simp) ?_
          refine AllReadyH.cons rfl (fun K hK => ?_) AllReadyH.nil
          go_simp
          refine hK.out _ _ trivial (fun _ => ?_)
          clear hK K
          try simp only [Act.put, List.setIfInBounds_toArray, List.set_cons_zero, List.set_cons_succ]
          refine wpAnyH_ready (rs := [8]) (by kernel_rfl) (by simp) ?_
          refine AllReadyH.cons rfl (fun K hK => ?_) AllReadyH.nil
          refine step_append_run rfl (.tmp 27) (.tmp 30) _ rfl _ _ _ rfl rfl HRUN.out ?_
          refine hK.out _ _ trivial (fun _ => ?_)
          clear hK K
          try simp only [Act.put, List.setIfInBounds_toArray, List.set_cons_zero, List.set_cons_succ]
          refine' tkG (i := 9) (v := _) rfl (by kernel_rfl) (by kernel_rfl) (by kernel_rfl) (fun _ _ _ h => h) (by rfl) ?hy23 (by assumption) ?rest23
          case hy23 => (intro wq hSq; (try dsimp only at hSq); go_simp; try with_reducible rfl)
          simp only [Act.put, List.setIfInBounds_toArray, List.set_cons_zero, List.set_cons_succ]
          refine' tkG (i := 10) (v := _) rfl (by kernel_rfl) (by kernel_rfl) (by kernel_rfl) (fun _ _ _ h => h) (by rfl) ?hy24 (by assumption) ?rest24
          case hy24 => (intro wq hSq; (try dsimp only at hSq); go_simp; try with_reducible rfl)
          simp only [Act.put, List.setIfInBounds_toArray, List.set_cons_zero, List.set_cons_succ]
          refine wpAnyH_ready (rs := [11]) (by kernel_rfl) (by simp) ?_
          refine AllReadyH.cons rfl (fun K hK => ?_) AllReadyH.nil
          go_simp
          refine hK.out _ _ trivial (fun _ => ?_)
          clear hK K
          try simp only [Act.put, List.setIfInBounds_toArray, List.set_cons_zero, List.set_cons_succ]
          refine wpAnyH_done (by kernel_rfl) ?_ _
          go_wp2_with fail
          exact ⟨⟨i + 1, by omega, by simp, HHALF, Lib.hid (HF.out.trans (HFR.out.mono (fun k _ q => q))), Lib.hid (by have := HFR.out.size; have := HLT.out; omega)⟩, by simp [intOf]; omega⟩
        · go_simp
          refine hK.out _ _ trivial (fun _ => ?_)
          clear hK K
          try simp only [Act.put, List.setIfInBounds_toArray, List.set_cons_zero, List.set_cons_succ]
          refine wpAnyH_ready (rs := [4]) (by kernel_rfl) (by simp) ?_
          refine AllReadyH.cons rfl (fun K hK => ?_) AllReadyH.nil
          have hal := (World.cell?_alloc_some w1 ⟨bu, 1, none⟩ (.cells #[.slice a1 m1 c1] 22) (by rw [q2]; rfl)).trans q2
          go_simp
          refine hK.out _ _ trivial (fun _ => ?_)
          clear hK K
          try simp only [Act.put, List.setIfInBounds_toArray, List.set_cons_zero, List.set_cons_succ]
          refine wpAnyH_ready (rs := [8]) (by kernel_rfl) (by simp) ?_
          refine AllReadyH.cons rfl (fun K hK => ?_) AllReadyH.nil
          refine step_append_run rfl (.tmp 27) (.tmp 30) _ rfl _ _ _ rfl rfl HRUN.out ?_
          refine hK.out _ _ trivial (fun _ => ?_)
          clear hK K
          try simp only [Act.put, List.setIfInBounds_toArray, List.set_cons_zero, List.set_cons_succ]
          refine' tkG (i := 9) (v := _) rfl (by kernel_rfl) (by kernel_rfl) (by kernel_rfl) (fun _ _ _ h => h) (by rfl) ?hy30 (by assumption) ?rest30
          case hy30 => (intro wq hSq; (try dsimp only at hSq); go_simp; try with_reducible rfl)
          simp only [Act.put, List.setIfInBounds_toArray, List.set_cons_zero, List.set_cons_succ]
          refine' tkG (i := 10) (v := _) rfl (by kernel_rfl) (by kernel_rfl) (by kernel_rfl) (fun _ _ _ h => h) (by rfl) ?hy31 (by assumption) ?rest31
          case hy31 => (intro wq hSq; (try dsimp only at hSq); go_simp; try with_reducible rfl)
          simp only [Act.put, List.setIfInBounds_toArray, List.set_cons_zero, List.set_cons_succ]
          refine wpAnyH_ready (rs := [11]) (by kernel_rfl) (by simp) ?_
          refine AllReadyH.cons rfl (fun K hK => ?_) AllReadyH.nil
          go_simp
          refine hK.out _ _ trivial (fun _ => ?_)
          clear hK K
          try simp only [Act.put, List.setIfInBounds_toArray, List.set_cons_zero, List.set_cons_succ]
          refine wpAnyH_done (by kernel_rfl) ?_ _
          go_wp2_with fail
          exact ⟨⟨i + 1, by omega, by simp, HHALF, Lib.hid (HF.out.trans (HFR.out.mono (fun k _ q => q))), Lib.hid (by have := HFR.out.size; have := HLT.out; omega)⟩, by simp [intOf]; omega⟩
    · obtain rfl : i = n := by omega
      go_wp2_with fail
      go_ret
      have hA := HA.out
      rw [HN.out] at hA
      refine ⟨bu, rfl, ?_, ?_⟩
      · have h := Half.done hA HOK.out.n
        rw [HBU.out] at h ⊢
        exact h
      · exact HF.out.mono (fun k hk q => by have q2 : bu ≤ k := q; have := HBU.out; omega)
end Go.Proofs.YtpnabfekidpnoaaDoor

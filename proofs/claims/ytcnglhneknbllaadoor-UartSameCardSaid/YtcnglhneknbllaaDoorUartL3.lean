/-
  The statement UartSame: its walk.
-/
import Derived.Test.YtcnglhneknbllaaDoorUartL1
import Derived.Test.YtcnglhneknbllaaDoorUartRS
import Derived.Test.YtcnglhneknbllaaDoorUartActs
import Derived.Test.YtcnglhneknbllaaDoorUartS
namespace Go.Proofs.YtcnglhneknbllaaDoor
open Go Go.RowKit

set_option maxRecDepth 100000 in
set_option maxHeartbeats 4000000 in
theorem UartSame_c (w : World) (hk : KeptAt w) (v v' : Value) (xs ys : List UAct) (hr : Rd w v xs.length (actCells xs)) (hr' : Rd w v' ys.length (actCells ys)) (hok : ∀ x ∈ xs, x.Ok) (hok' : ∀ x ∈ ys, x.Ok) :
    Calls Tryd.prog 7 #[v, v'] w fun e w' => e = .returned (.bool true) ∧ Fr No w w' := by
  have HK := Lib.hid hk
  have HR := Lib.hid hr
  have HR' := Lib.hid hr'
  have HO := Lib.hid hok
  have HO' := Lib.hid hok'
  obtain ⟨a, c, rfl, hnc, hcm, _, _⟩ := hr
  obtain ⟨a', c', rfl, hnc', hcm', _, _⟩ := hr'
  obtain ⟨n, hn⟩ : ∃ n, n = xs.length := ⟨_, rfl⟩
  obtain ⟨m, hm⟩ : ∃ m, m = ys.length := ⟨_, rfl⟩
  rw [← hn] at HR hnc ⊢
  rw [← hm] at HR' hnc' ⊢
  have HN := Lib.hid hn
  have HM := Lib.hid hm
  unfold maxLen at hcm hcm'
  clear hk hok hn hok' hm
  go_enter Tryd.func7, Tryd.ntmps7
  go_wp2_with fail
  refine (awake_c w HK.out).mono ?_
  rintro e w1 ⟨rfl, hf1⟩
  have F1 := Lib.hid hf1
  clear hf1
  by_cases h1 : n ≤ 100
  case neg =>
    go_wp2_with fail
    go_ret
    exact ⟨rfl, F1.out⟩
  by_cases h2 : m ≤ 100
  case neg =>
    go_wp2_with fail
    go_ret
    exact ⟨rfl, F1.out⟩
  go_wp2_with fail
  refine (New_c w1).mono ?_
  rintro e w2 ⟨rfl, hu2, hf2⟩
  have U2 := Lib.hid hu2
  have F2 := Lib.hid hf2
  clear hu2 hf2
  go_wp2_with fail
  refine (New_c w2).mono ?_
  rintro e w3 ⟨rfl, hu3, hf3⟩
  have U3 := Lib.hid hu3
  have F3 := Lib.hid hf3
  clear hu3 hf3
  go_wp2_with fail
  refine (RNew_c w3).mono ?_
  rintro e w4 ⟨rfl, hu4, hf4⟩
  have U4 := Lib.hid hu4
  have F4 := Lib.hid hf4
  clear hu4 hf4
  go_wp2_with fail
  refine (RNew_c w4).mono ?_
  rintro e w5 ⟨rfl, hu5, hf5⟩
  have U5 := Lib.hid hu5
  have F5 := Lib.hid hf5
  clear hu5 hf5
  have K0 : Hid (KeptAt w5 ∧ Fr No w w5) := Lib.hid ⟨HK.out.fr (F1.out.trans (F2.out.trans (F3.out.trans (F4.out.trans F5.out)))) (fun h => h), F1.out.trans (F2.out.trans (F3.out.trans (F4.out.trans F5.out)))⟩
  have B0 : Hid (w.heap.size ≤ w1.heap.size ∧ w1.heap.size ≤ w2.heap.size ∧ w2.heap.size ≤ w3.heap.size ∧ w3.heap.size ≤ w4.heap.size ∧ w4.heap.size ≤ w5.heap.size ∧ 0 < w.heap.size) :=
    Lib.hid ⟨F1.out.size, F2.out.size, F3.out.size, F4.out.size, F5.out.size, World.block_lt_of_cell? w _ (HK.out 0 0 rfl)⟩
  have P5 : Hid (Pair (fun k => k < w.heap.size ∨ Plus No w2 w3 k ∨ Plus No w4 w5 k) w5 w1.heap.size US.new w3.heap.size US.new) := by
    obtain ⟨b1, b2, b3, b4, b5, b6⟩ := B0.out
    refine Lib.hid ⟨⟨K0.out.1, .inl b6, ?_⟩, Plus No w1 w2, Plus No w3 w4, U2.out.fr (F3.out.trans (F4.out.trans F5.out)) (fun _ _ h => h), U4.out.fr F5.out (fun _ _ h => h), ?_, ?_, ?_⟩
    all_goals
      simp only [Plus, No, false_or]
      intros
      omega
  have A2 : Hid (UartAt w5 w2.heap.size US.new (Plus No w2 w3)) := Lib.hid (U3.out.fr (F4.out.trans F5.out) (fun _ _ h => h))
  clear U2 U3 U4 F1 F2 F3 F4 F5
  go_wp2_with fail
  go_loopw [9] (fun i wr => ∃ (k : Nat) (s : US), k ≤ n ∧ i = .int .i64 (k : Int) ∧ Hid (Pair (fun k => k < w.heap.size ∨ Plus No w2 w3 k ∨ Plus No w4 w5 k) wr w1.heap.size s w3.heap.size s) ∧ Hid (Keep (fun k => k < w.heap.size ∨ Plus No w2 w3 k ∨ Plus No w4 w5 k) w5 wr)) (fun i _ => n - (intOf i).toNat)
  case atStart => exact ⟨0, _, Nat.zero_le _, rfl, P5, Lib.hid (Fr.refl _ _)⟩
  case round =>
    obtain ⟨k, s, hkn, rfl, HP, HF⟩ := hrel
    have FZ := Lib.hid (K0.out.2.after HF.out (fun k h => .inl h))
    by_cases hlt : k < n
    · have hlt' : k < xs.length := by rw [← HN.out]; exact hlt
      have hR := HR.out
      rw [HN.out] at hR
      obtain ⟨g, o, c'', hv, hcs⟩ := hR.actsAt hlt'
      cases hv
      obtain ⟨x, hx⟩ : ∃ x, x = xs[k] := ⟨_, rfl⟩
      have hxo := HO.out _ (List.getElem_mem hlt')
      rw [← hx] at hcs hxo
      obtain ⟨q0, q1, q2, q3⟩ := hcs wr FZ.out
      have HXO := Lib.hid hxo
      clear hcs hxo hx hR
      go_wp2_with fail
      refine (both_c x HXO.out HP.out).mono ?_
      rintro e w6 ⟨rfl, hp6, hk6⟩
      have P6 := Lib.hid hp6
      have F6 := Lib.hid (HF.out.trans hk6)
      clear hp6 hk6 q0 q1 q2 q3
      go_wp2_with fail
      exact ⟨⟨k + 1, s.act x, by omega, rfl, P6, F6⟩, by simp [intOf]; omega⟩
    · go_wp2_with fail
      obtain ⟨Fa, Gc, X2, hX2, PB, A3, C3, F6⟩ : ∃ Fa Gc : Nat → Prop, ∃ X2 : Nat → Prop, Hid (∀ k, X2 k ↔ (k < w.heap.size ∨ Fa k ∨ Gc k)) ∧ Hid (Pair X2 wr w2.heap.size US.new w4.heap.size US.new) ∧ Hid (UartAt wr w1.heap.size s Fa) ∧ Hid (RefAt wr w3.heap.size s Gc) ∧ Hid (Fr No w wr) := by
        obtain ⟨gr, Fa, Gc, l1, l2, l3, l4, l5⟩ := HP.out
        have hb := A2.out.fr HF.out (fun k hk hn => hn (.inr (.inl hk)))
        have hd := U5.out.fr HF.out (fun k hk hn => hn (.inr (.inr hk)))
        obtain ⟨b1, b2, b3, b4, b5, b6⟩ := B0.out
        refine ⟨Fa, Gc, fun k => k < w.heap.size ∨ Fa k ∨ Gc k, Lib.hid (fun _ => Iff.rfl), Lib.hid ⟨⟨gr.kept, .inl b6, ?_⟩, _, _, hb, hd, ?_, ?_, ?_⟩, Lib.hid l1, Lib.hid l2, FZ⟩
        · rintro k (h | h | h)
          · exact gr.bound k (.inl h)
          · exact l1.bound k h
          · exact l2.bound k h
        · simp only [Plus, No, false_or]; intros; omega
        · rintro k hk (h | h | h)
          · simp only [Plus, No, false_or] at hk; omega
          · exact l4 k h (.inr (.inl hk))
          · exact l5 k h (.inr (.inl hk))
        · rintro k hk (h | h | h)
          · simp only [Plus, No, false_or] at hk; omega
          · exact l4 k h (.inr (.inr hk))
          · exact l5 k h (.inr (.inr hk))
      clear HP HF FZ
      go_loopw [10] (fun i wz => ∃ (k : Nat) (t : US), k ≤ m ∧ i = .int .i64 (k : Int) ∧ Hid (Pair X2 wz w2.heap.size t w4.heap.size t) ∧ Hid (Keep X2 wr wz)) (fun i _ => m - (intOf i).toNat)
      case atStart => exact ⟨0, _, Nat.zero_le _, rfl, PB, Lib.hid (Fr.refl _ _)⟩
      case round =>
        obtain ⟨k2, t, hkm, rfl, HP, HF⟩ := hrel
        have FZ := Lib.hid (F6.out.after HF.out (fun k h => (hX2.out k).2 (.inl h)))
        by_cases hlt2 : k2 < m
        · have hlt' : k2 < ys.length := by rw [← HM.out]; exact hlt2
          have hR := HR'.out
          rw [HM.out] at hR
          obtain ⟨g, o, c'', hv, hcs⟩ := hR.actsAt hlt'
          cases hv
          obtain ⟨x, hx⟩ : ∃ x, x = ys[k2] := ⟨_, rfl⟩
          have hxo := HO'.out _ (List.getElem_mem hlt')
          rw [← hx] at hcs hxo
          obtain ⟨q0, q1, q2, q3⟩ := hcs _ FZ.out
          have HXO := Lib.hid hxo
          clear hcs hxo hx hR
          go_wp2_with fail
          refine (both_c x HXO.out HP.out).mono ?_
          rintro e w7 ⟨rfl, hp7, hk7⟩
          have P7 := Lib.hid hp7
          have F7 := Lib.hid (HF.out.trans hk7)
          clear hp7 hk7 q0 q1 q2 q3
          go_wp2_with fail
          exact ⟨⟨k2 + 1, t.act x, by omega, rfl, P7, F7⟩, by simp [intOf]; omega⟩
        · have A4 := Lib.hid (A3.out.fr HF.out (fun k hk hn => hn ((hX2.out k).2 (.inr (.inl hk)))))
          have C4 := Lib.hid (C3.out.fr HF.out (fun k hk hn => hn ((hX2.out k).2 (.inr (.inr hk)))))
          obtain ⟨gr, FB, GD, l1, l2, l3⟩ := HP.out
          have B4 := Lib.hid l1
          have D4 := Lib.hid l2
          clear gr l1 l2 l3
          obtain ⟨q, hq⟩ : ∃ q, q = decide (s = t) := ⟨_, rfl⟩
          have HQ := Lib.hid hq
          have qq : (q == q) = true := by cases q <;> rfl
          clear hq
          go_wp2_with fail
          refine (Same_c _ _ _ _ _ _ _ A4.out B4.out).mono ?_
          rw [← HQ.out]
          rintro e w8 ⟨rfl, n8, rfl⟩
          go_wp2_with fail
          refine (RSame_c _ _ _ _ _ _ _ (C4.out.fr ((Fr.refl No _).drewN n8) (fun _ _ h => h)) (D4.out.fr ((Fr.refl No _).drewN n8) (fun _ _ h => h))).mono ?_
          rw [← HQ.out]
          rintro e w9 ⟨rfl, n9, rfl⟩
          go_wp2_with fail
          have mkF : ∀ {W : World} {b : Nat} {s : US} {F : Nat → Prop}, Hid (UartAt W b s F) → Hid (Fr No W (W.drewN (n8 + n9))) := fun _ => Lib.hid ((Fr.refl No _).drewN (n8 + n9))
          have F9 := mkF A4
          clear mkF
          refine (Twin_c _ _ _ _ (A4.out.fr F9.out (fun _ _ h => h))).mono ?_
          rintro e w10 ⟨b10, rfl, hu10, hf10⟩
          have U10 := Lib.hid hu10
          have F10 := Lib.hid (F9.out.trans hf10)
          clear hu10 hf10
          go_wp2_with fail
          refine (Same_c _ _ _ _ _ _ _ (A4.out.fr F10.out (fun _ _ h => h)) U10.out).mono ?_
          rw [decide_eq_true rfl]
          rintro e w11 ⟨rfl, n11, rfl⟩
          go_wp2_with fail
          refine (Same_nil_right _ _).mono ?_
          rintro e w12 ⟨rfl, rfl⟩
          go_wp2_with fail
          refine (Same_nil_left _ _).mono ?_
          rintro e w13 ⟨rfl, rfl⟩
          go_wp2_with fail
          go_ret
          exact ⟨rfl, (FZ.out.trans F10.out).drewN n11⟩
end Go.Proofs.YtcnglhneknbllaaDoor

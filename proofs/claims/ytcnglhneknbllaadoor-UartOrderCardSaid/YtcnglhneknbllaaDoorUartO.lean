/-
  The statement UartOrder: its walk.
-/
import Derived.Test.YtcnglhneknbllaaDoorUartActs
import Derived.Test.YtcnglhneknbllaaDoorUartO1
import Derived.Deep.RegionHeld
import Derived.Deep.CutBlock
import Derived.Deep.CutRange
namespace Go.Proofs.YtcnglhneknbllaaDoor
open Go Go.RowKit

set_option maxRecDepth 100000 in
set_option maxHeartbeats 8000000 in
theorem UartOrder_c (w : World) (hk : KeptAt w) (v : Value) (xs : List UAct) (hr : Rd w v xs.length (actCells xs)) (hok : ∀ x ∈ xs, x.Ok) :
    Calls Tryd.prog 4 #[v] w fun e w' => e = .returned (.bool true) ∧ Fr No w w' := by
  have HK := Lib.hid hk
  have HX := Lib.hid (fun k (h : k < w.heap.size) => h)
  have HR := Lib.hid hr
  have HO := Lib.hid hok
  obtain ⟨i0, hi0, hz0, hz1, hz2⟩ := info_parts info_u8
  have HI := Lib.hid hi0
  have H0 := Lib.hid hz0
  have H1 := Lib.hid hz1
  have H2 := Lib.hid hz2
  obtain ⟨a, c, rfl, hnc, hcm, _, _⟩ := hr
  obtain ⟨n, hn⟩ : ∃ n, n = xs.length := ⟨_, rfl⟩
  rw [← hn] at HR hnc ⊢
  have HN := Lib.hid hn
  unfold maxLen at hcm
  clear hk hok hn hi0 hz0 hz1 hz2
  go_enter Tryd.func4, Tryd.ntmps4
  go_wp2_with fail
  refine (awake_c w HK.out).mono ?_
  rintro e w1 ⟨rfl, hf1⟩
  have F1 := Lib.hid hf1
  have G1 := Lib.hid ((Ground.start HK.out).keep (hf1.keep (fun _ h => h.elim)))
  clear hf1
  by_cases h1 : n ≤ 200
  case neg =>
    go_wp2_with fail
    go_ret
    exact ⟨rfl, F1.out⟩
  go_wp2_with fail
  refine (aNew G1.out).mono ?_
  rintro e w2 ⟨rfl, hu2, hk2⟩
  have F2 := Lib.hid (F1.out.after hk2 HX.out)
  have A2 := Lib.hid (Desk.start hu2)
  obtain ⟨bu, hbu⟩ : ∃ bu, bu = w1.heap.size := ⟨_, rfl⟩
  rw [← hbu] at A2 ⊢
  clear hu2 hk2 hbu
  go_wp2_with fail
  go_loopg [4, 5, 6] n (fun g vi vo i wr => ∃ (k : Nat) (s : US), k ≤ n ∧ g = n - k ∧ i = .int .i64 (k : Int) ∧ s.out.length ≤ k ∧ Hid (Desk (fun k => k < w.heap.size) wr bu s vi s.inn vo s.out) ∧ Hid (Fr No w wr))
  case atStart => exact ⟨0, US.new, Nat.zero_le _, rfl, rfl, Nat.le_refl _, A2, F2⟩
  case round =>
    obtain ⟨k, s, hkn, rfl, rfl, hol, HA, HF⟩ := hrel
    by_cases hlt : k < n
    · have hlt' : k < xs.length := by rw [← HN.out]; exact hlt
      have hR := HR.out
      rw [HN.out] at hR
      obtain ⟨g, o, c', hv, hcs⟩ := hR.actsAt hlt'
      cases hv
      obtain ⟨x, hx⟩ : ∃ x, x = xs[k] := ⟨_, rfl⟩
      have hxo := HO.out _ (List.getElem_mem hlt')
      rw [← hx] at hcs hxo
      obtain ⟨q0, q1, q2, q3⟩ := hcs _ HF.out
      have HXO := Lib.hid hxo
      clear hcs hxo hx hR
      obtain ⟨act, off, nn, av⟩ := x
      dsimp only at q0 q1 q2 q3
      obtain ⟨ai, ci, ao, co, rfl, rfl, hic, him, hoc, hom⟩ := HA.out.slices
      unfold maxLen at him hom
      have hs3 : s.read 3 1 = (s, s.lcr, true) := by simp [US.read, US.get]
      have HS3 := Lib.hid hs3
      have hlcr : s.lcr < 256 := by obtain ⟨F, h, _⟩ := HA.out.line; exact h.ok.lcr
      clear hs3
      go_wp2_with fail
      have DA := Lib.hid (HA.out.alloc (.cells #[.int .i64 act, .int .u64 (off : Int), .int .i64 nn, .int .u64 (av : Int)] 32))
      have BA := Lib.hid (Blk.new wr 32 #[.int .i64 act, .int .u64 (off : Int), .int .i64 nn, .int .u64 (av : Int)])
      have FA := Lib.hid (HF.out.alloc (.cells #[.int .i64 act, .int .u64 (off : Int), .int .i64 nn, .int .u64 (av : Int)] 32))
      refine (kRead 3 1 (by omega) DA.out).mono ?_
      rw [HS3.out]
      rintro e w3 ⟨rfl, hd3, hk3⟩
      have D3 := Lib.hid hd3
      have B3 := Lib.hid (BA.out.keep hk3 (.inr rfl))
      have F3 := Lib.hid (FA.out.after hk3 (fun k h => .inl h))
      have W3 := Lib.hid (fun (s' : US) vi' li' vo' lo' wz (h : Desk (And1 (fun k => k < w.heap.size) wr.heap.size) wz bu s' vi' li' vo' lo') => h.weaken (fun k hk => .inl hk) (World.block_lt_of_cell? w _ (HK.out 0 0 rfl)))
      have p0 : w3.cell? ⟨wr.heap.size, 0, none⟩ = some (.int .i64 act) := B3.out.cell 0
      have p1 : w3.cell? ⟨wr.heap.size, 1, none⟩ = some (.int .u64 (off : Int)) := B3.out.cell 1
      have p2 : w3.cell? ⟨wr.heap.size, 2, none⟩ = some (.int .i64 nn) := B3.out.cell 2
      have p3 : w3.cell? ⟨wr.heap.size, 3, none⟩ = some (.int .u64 (av : Int)) := B3.out.cell 3
      clear hd3 hk3 DA BA FA q0 q1 q2 q3 HA HF
      go_upto_block 2 with fail
      go_cut [4, 5, 10] from 22 to 192 (fun vi vo _ wx => ∃ s' : US, s'.out.length ≤ k + 1 ∧ Hid (Desk (fun k => k < w.heap.size) wx bu s' vi s'.inn vo s'.out) ∧ Hid (Fr No w wx))
      case first =>
        have hlat := US.latch_ge (s := s) (by obtain ⟨F, h, _⟩ := D3.out.line; exact h.ok)
        have hv8 : IntKind.u8.wrap (av : Int) = ((av % 256 : Nat) : Int) := by rw [IntKind.wrap_u8']; omega
        have hy8 : av % 256 < 256 := Nat.mod_lt _ (by omega)
        have hv7 : (av : Int) % 256 = ((av % 256 : Nat) : Int) := by omega
        have hbit := bit1_iff av
        have m1 : (av : Int) / 2 % 2 = ((av / 2 % 2 : Nat) : Int) := by omega
        have m2 : ((av : Int).tdiv 2).tmod 2 = ((av / 2 % 2 : Nat) : Int) := by
          rw [Int.tdiv_eq_ediv_of_nonneg (by omega), Int.tmod_eq_emod_of_nonneg (by omega)]
          exact m1
        obtain ⟨y, hy⟩ : ∃ y, y = av % 256 := ⟨_, rfl⟩
        obtain ⟨z, hz⟩ : ∃ z, z = av / 2 % 2 := ⟨_, rfl⟩
        obtain ⟨hh, hhh⟩ : ∃ hh, hh = av / 2 := ⟨_, rfl⟩
        have hw2 : IntKind.u64.wrap ((av : Int) / 2) = (hh : Int) := by have hav : av < 18446744073709551616 := HXO.out.2; rw [IntKind.wrap_u64]; omega
        have m3 : (hh : Int).tmod 2 = ((z : Nat) : Int) := by rw [Int.tmod_eq_emod_of_nonneg (by omega)]; omega
        have m4 : (hh : Int) % 2 = ((z : Nat) : Int) := by omega
        clear hhh
        have hz2 : z = 1 ∨ z = 0 := by omega
        rw [← hy] at hv8 hy8 hbit hv7
        rw [← hz] at m1 m2 hbit
        have HBIT := Lib.hid hbit
        have HLAT := Lib.hid hlat
        clear hbit hlat hz
        by_cases a0 : act = 0
        · subst a0
          by_cases hin : nn = 1 ∧ off < 8
          · obtain ⟨rfl, ho8⟩ := hin
            have hwr : s.write off 1 av = (s.put off y, true) := by unfold US.write; rw [if_neg (by omega), ← hy]
            by_cases o0 : off = 0
            · subst o0
              by_cases hl : 128 ≤ s.lcr
              · have hkp := s.put_keeps 0 y (.inr (by rw [HLAT.out, decide_eq_true hl])) (.inl (by omega))
                have hlb : decide ((128 : Int) ≤ (s.lcr : Int)) = true := decide_eq_true (by omega)
                have HKP := Lib.hid hkp
                have HW := Lib.hid hwr
                clear hkp hwr hy
                as_aux_lemma =>
                  go_wp2_with fail
                  refine (kWrite 0 1 av (by omega) D3.out).mono ?_
                  rw [HW.out]
                  rintro e w4 ⟨rfl, hd4, hk4⟩
                  have B4 := Lib.hid (B3.out.keep hk4 (.inr rfl))
                  have F4 := Lib.hid (F3.out.after hk4 (fun k h => .inl h))
                  have D4 := Lib.hid hd4
                  have p0 : w4.cell? ⟨wr.heap.size, 0, none⟩ = some (.int .i64 0) := B4.out.cell 0
                  have p1 : w4.cell? ⟨wr.heap.size, 1, none⟩ = some (.int .u64 0) := B4.out.cell 1
                  have p2 : w4.cell? ⟨wr.heap.size, 2, none⟩ = some (.int .i64 1) := B4.out.cell 2
                  have p3 : w4.cell? ⟨wr.heap.size, 3, none⟩ = some (.int .u64 (av : Int)) := B4.out.cell 3
                  clear hd4 hk4
                  go_wp2_with fail
                  go_meet
                  exact ⟨s.put 0 y, by rw [HKP.out.2]; omega, Lib.hid (by rw [HKP.out.1, HKP.out.2]; exact W3.out _ _ _ _ _ _ D4.out), F4⟩
              · have hlf : s.latch = false := by rw [HLAT.out, decide_eq_false hl]
                have hlb : decide ((128 : Int) ≤ (s.lcr : Int)) = false := decide_eq_false (by omega)
                have hpt : s.put 0 y = { s with out := s.out ++ [y], sent := true } := by unfold US.put; rw [if_pos rfl, hlf]; simp; omega
                rw [hpt] at hwr
                have HW := Lib.hid hwr
                clear hwr hy hlf hpt
                as_aux_lemma =>
                  go_wp2_with fail
                  refine (kWrite 0 1 av (by omega) D3.out).mono ?_
                  rw [HW.out]
                  rintro e w4 ⟨rfl, hd4, hk4⟩
                  have B4 := Lib.hid (B3.out.keep hk4 (.inr rfl))
                  have F4 := Lib.hid (F3.out.after hk4 (fun k h => .inl h))
                  have D4 := Lib.hid hd4
                  have p0 : w4.cell? ⟨wr.heap.size, 0, none⟩ = some (.int .i64 0) := B4.out.cell 0
                  have p1 : w4.cell? ⟨wr.heap.size, 1, none⟩ = some (.int .u64 0) := B4.out.cell 1
                  have p2 : w4.cell? ⟨wr.heap.size, 2, none⟩ = some (.int .i64 1) := B4.out.cell 2
                  have p3 : w4.cell? ⟨wr.heap.size, 3, none⟩ = some (.int .u64 (av : Int)) := B4.out.cell 3
                  clear hd4 hk4
                  go_upto_region 23 with fail
                  obtain ⟨Go, ho1, ho2⟩ := D4.out.out
                  have hfa := (Fr.refl No w4).alloc (.cells #[u8v y] 5)
                  have O4 := Lib.hid (ho1.fr hfa (fun _ _ h => h))
                  have R4 := Lib.hid (Rd.new w4 5 [u8v y] 1 (by unfold maxLen; omega))
                  have HG := Lib.hid ho2
                  clear ho1 ho2 hfa
                  go_wp2_with
                   (at_builtin
                    refine wpList_append_owo _ rfl (.tmp 73) (.tmp 77) _ rfl 5 i0 _ 1 Tryd.underlying27 HI.out H0.out H1.out H2.out rfl _ s.out.length (bytesV s.out) _ rfl O4.out _ (u8v y) rfl R4.out rfl (by unfold maxLen; omega) (by omega) ?_
                    intro v5 w5 hown5 hf5
                    have hd5 := HG.out w5 v5 (s.out ++ [y]) (by
                      rw [bytesV_app, List.length_append]
                      exact hown5.mono fun k hk => by
                        rcases hk with hk | hk
                        · exact .inl hk
                        · exact .inr (by rw [hk]; simp)) (((Fr.refl _ w4).alloc _).trans hf5)
                    have D5 := Lib.hid hd5.1
                    have B5 := Lib.hid (B4.out.keep hd5.2 (.inr rfl))
                    have F6 := Lib.hid (F4.out.after hd5.2 (fun k h => .inl h))
                    have p0 : w5.cell? ⟨wr.heap.size, 0, none⟩ = some (.int .i64 0) := B5.out.cell 0
                    have p1 : w5.cell? ⟨wr.heap.size, 1, none⟩ = some (.int .u64 0) := B5.out.cell 1
                    have p2 : w5.cell? ⟨wr.heap.size, 2, none⟩ = some (.int .i64 1) := B5.out.cell 2
                    have p3 : w5.cell? ⟨wr.heap.size, 3, none⟩ = some (.int .u64 (av : Int)) := B5.out.cell 3
                    clear hown5 hf5 hd5)
                  go_meet
                  exact ⟨{ s with out := s.out ++ [y], sent := true }, by simp; omega, Lib.hid (W3.out _ _ _ _ _ _ D5.out), F6⟩
            · have o0' : ((off : Int) == 0) = false := by rw [beq_eq_false_iff_ne]; omega
              by_cases o2 : off = 2
              · subst o2
                rcases hz2 with rfl | rfl
                · have hpt : s.put 2 y = { s with fcr := y % 2, inn := [] } := by unfold US.put; simp [HBIT.out]
                  rw [hpt] at hwr
                  have HW := Lib.hid hwr
                  clear hwr hy hpt
                  as_aux_lemma =>
                    go_wp2_with fail
                    refine (kWrite 2 1 av (by omega) D3.out).mono ?_
                    rw [HW.out]
                    rintro e w4 ⟨rfl, hd4, hk4⟩
                    have B4 := Lib.hid (B3.out.keep hk4 (.inr rfl))
                    have F4 := Lib.hid (F3.out.after hk4 (fun k h => .inl h))
                    have D4 := Lib.hid hd4
                    have p0 : w4.cell? ⟨wr.heap.size, 0, none⟩ = some (.int .i64 0) := B4.out.cell 0
                    have p1 : w4.cell? ⟨wr.heap.size, 1, none⟩ = some (.int .u64 2) := B4.out.cell 1
                    have p2 : w4.cell? ⟨wr.heap.size, 2, none⟩ = some (.int .i64 1) := B4.out.cell 2
                    have p3 : w4.cell? ⟨wr.heap.size, 3, none⟩ = some (.int .u64 (av : Int)) := B4.out.cell 3
                    clear hd4 hk4
                    go_wp2_with fail
                    go_meet
                    exact ⟨{ s with fcr := y % 2, inn := [] }, by simp; omega, Lib.hid ((W3.out _ _ _ _ _ _ D4.out).none_in), F4⟩
                · have hkp := s.put_keeps 2 y (.inl (by omega)) (.inr (by rw [HBIT.out]; rfl))
                  have HKP := Lib.hid hkp
                  have HW := Lib.hid hwr
                  clear hkp hwr hy
                  as_aux_lemma =>
                    go_wp2_with fail
                    refine (kWrite 2 1 av (by omega) D3.out).mono ?_
                    rw [HW.out]
                    rintro e w4 ⟨rfl, hd4, hk4⟩
                    have B4 := Lib.hid (B3.out.keep hk4 (.inr rfl))
                    have F4 := Lib.hid (F3.out.after hk4 (fun k h => .inl h))
                    have D4 := Lib.hid hd4
                    have p0 : w4.cell? ⟨wr.heap.size, 0, none⟩ = some (.int .i64 0) := B4.out.cell 0
                    have p1 : w4.cell? ⟨wr.heap.size, 1, none⟩ = some (.int .u64 2) := B4.out.cell 1
                    have p2 : w4.cell? ⟨wr.heap.size, 2, none⟩ = some (.int .i64 1) := B4.out.cell 2
                    have p3 : w4.cell? ⟨wr.heap.size, 3, none⟩ = some (.int .u64 (av : Int)) := B4.out.cell 3
                    clear hd4 hk4
                    go_wp2_with fail
                    go_meet
                    exact ⟨s.put 2 y, by rw [HKP.out.2]; omega, Lib.hid (by rw [HKP.out.1, HKP.out.2]; exact W3.out _ _ _ _ _ _ D4.out), F4⟩
              · have o2' : ((off : Int) == 2) = false := by rw [beq_eq_false_iff_ne]; omega
                have hob : decide ((off : Int) < 8) = true := decide_eq_true (by omega)
                have hkp := s.put_keeps off y (.inl o0) (.inl o2)
                have HKP := Lib.hid hkp
                have HW := Lib.hid hwr
                clear hkp hwr hy
                as_aux_lemma =>
                  go_wp2_with fail
                  refine (kWrite off 1 av HXO.out.1 D3.out).mono ?_
                  rw [HW.out]
                  rintro e w4 ⟨rfl, hd4, hk4⟩
                  have B4 := Lib.hid (B3.out.keep hk4 (.inr rfl))
                  have F4 := Lib.hid (F3.out.after hk4 (fun k h => .inl h))
                  have D4 := Lib.hid hd4
                  have p0 : w4.cell? ⟨wr.heap.size, 0, none⟩ = some (.int .i64 0) := B4.out.cell 0
                  have p1 : w4.cell? ⟨wr.heap.size, 1, none⟩ = some (.int .u64 (off : Int)) := B4.out.cell 1
                  have p2 : w4.cell? ⟨wr.heap.size, 2, none⟩ = some (.int .i64 1) := B4.out.cell 2
                  have p3 : w4.cell? ⟨wr.heap.size, 3, none⟩ = some (.int .u64 (av : Int)) := B4.out.cell 3
                  clear hd4 hk4
                  go_wp2_with fail
                  go_meet
                  exact ⟨s.put off y, by rw [HKP.out.2]; omega, Lib.hid (by rw [HKP.out.1, HKP.out.2]; exact W3.out _ _ _ _ _ _ D4.out), F4⟩
          · have hwr : s.write off nn av = (s, false) := by unfold US.write; rw [if_pos (by omega)]
            have HW := Lib.hid hwr
            clear hwr hy
            by_cases n1 : nn = 1
            · have ho8 : ¬ off < 8 := fun h => hin ⟨n1, h⟩
              subst n1
              clear hin
              as_aux_lemma =>
                go_wp2_with fail
                refine (kWrite off 1 av HXO.out.1 D3.out).mono ?_
                rw [HW.out]
                rintro e w4 ⟨rfl, hd4, hk4⟩
                have B4 := Lib.hid (B3.out.keep hk4 (.inr rfl))
                have F4 := Lib.hid (F3.out.after hk4 (fun k h => .inl h))
                have D4 := Lib.hid hd4
                have p0 : w4.cell? ⟨wr.heap.size, 0, none⟩ = some (.int .i64 0) := B4.out.cell 0
                have p1 : w4.cell? ⟨wr.heap.size, 1, none⟩ = some (.int .u64 (off : Int)) := B4.out.cell 1
                have p2 : w4.cell? ⟨wr.heap.size, 2, none⟩ = some (.int .i64 1) := B4.out.cell 2
                have p3 : w4.cell? ⟨wr.heap.size, 3, none⟩ = some (.int .u64 (av : Int)) := B4.out.cell 3
                clear hd4 hk4
                go_wp2_with fail
                go_meet
                exact ⟨s, by omega, Lib.hid (W3.out _ _ _ _ _ _ D4.out), F4⟩
            · have n1' : (nn == 1) = false := by rw [beq_eq_false_iff_ne]; exact n1
              clear hin
              as_aux_lemma =>
                go_wp2_with fail
                refine (kWrite off nn av HXO.out.1 D3.out).mono ?_
                rw [HW.out]
                rintro e w4 ⟨rfl, hd4, hk4⟩
                have B4 := Lib.hid (B3.out.keep hk4 (.inr rfl))
                have F4 := Lib.hid (F3.out.after hk4 (fun k h => .inl h))
                have D4 := Lib.hid hd4
                have p0 : w4.cell? ⟨wr.heap.size, 0, none⟩ = some (.int .i64 0) := B4.out.cell 0
                have p1 : w4.cell? ⟨wr.heap.size, 1, none⟩ = some (.int .u64 (off : Int)) := B4.out.cell 1
                have p2 : w4.cell? ⟨wr.heap.size, 2, none⟩ = some (.int .i64 nn) := B4.out.cell 2
                have p3 : w4.cell? ⟨wr.heap.size, 3, none⟩ = some (.int .u64 (av : Int)) := B4.out.cell 3
                clear hd4 hk4
                go_wp2_with fail
                go_meet
                exact ⟨s, by omega, Lib.hid (W3.out _ _ _ _ _ _ D4.out), F4⟩
        · have a0' : (act == 0) = false := by rw [beq_eq_false_iff_ne]; exact a0
          by_cases a1 : act = 1
          · subst a1
            by_cases hin : nn = 1 ∧ off < 8
            · obtain ⟨rfl, ho8⟩ := hin
              have hrd : s.read off 1 = ((s.get off).1, (s.get off).2, true) := by unfold US.read; rw [if_neg (by omega)]
              by_cases o0 : off = 0
              · subst o0
                by_cases hl : 128 ≤ s.lcr
                · have hlt2 : s.latch = true := by rw [HLAT.out, decide_eq_true hl]
                  have hlb : decide ((128 : Int) ≤ (s.lcr : Int)) = true := decide_eq_true (by omega)
                  have hg : s.get 0 = (s, s.dl) := by unfold US.get; rw [if_pos rfl, hlt2]; rfl
                  rw [hg] at hrd
                  have hdl : s.dl < 256 := by obtain ⟨F, h, _⟩ := D3.out.line; exact h.ok.dl
                  have HW := Lib.hid hrd
                  clear hrd hg hlt2
                  as_aux_lemma =>
                    go_wp2_with fail
                    refine (kRead 0 1 (by omega) D3.out).mono ?_
                    rw [HW.out]
                    rintro e w4 ⟨rfl, hd4, hk4⟩
                    have B4 := Lib.hid (B3.out.keep hk4 (.inr rfl))
                    have F4 := Lib.hid (F3.out.after hk4 (fun k h => .inl h))
                    have D4 := Lib.hid hd4
                    have p0 : w4.cell? ⟨wr.heap.size, 0, none⟩ = some (.int .i64 1) := B4.out.cell 0
                    have p1 : w4.cell? ⟨wr.heap.size, 1, none⟩ = some (.int .u64 0) := B4.out.cell 1
                    have p2 : w4.cell? ⟨wr.heap.size, 2, none⟩ = some (.int .i64 1) := B4.out.cell 2
                    have p3 : w4.cell? ⟨wr.heap.size, 3, none⟩ = some (.int .u64 (av : Int)) := B4.out.cell 3
                    clear hd4 hk4
                    go_wp2_with fail
                    go_meet
                    exact ⟨s, by omega, Lib.hid (W3.out _ _ _ _ _ _ D4.out), F4⟩
                · have hlt2 : s.latch = false := by rw [HLAT.out, decide_eq_false hl]
                  have hlb : decide ((128 : Int) ≤ (s.lcr : Int)) = false := decide_eq_false (by omega)
                  have hg : s.get 0 = s.first := by unfold US.get; rw [if_pos rfl, hlt2]; rfl
                  rw [hg] at hrd
                  clear hg hlt2
                  rcases hinn : s.inn with _ | ⟨x0, r⟩
                  · have hf : s.first = (s, 0) := by unfold US.first; rw [hinn]
                    rw [hf] at hrd
                    have HW := Lib.hid hrd
                    have HINN := Lib.hid hinn
                    have hlen : s.inn.length = 0 := by rw [hinn]; rfl
                    clear hrd hf hinn
                    as_aux_lemma =>
                      go_wp2_with fail
                      refine (kRead 0 1 (by omega) D3.out).mono ?_
                      rw [HW.out]
                      rintro e w4 ⟨rfl, hd4, hk4⟩
                      have B4 := Lib.hid (B3.out.keep hk4 (.inr rfl))
                      have F4 := Lib.hid (F3.out.after hk4 (fun k h => .inl h))
                      have D4 := Lib.hid hd4
                      have p0 : w4.cell? ⟨wr.heap.size, 0, none⟩ = some (.int .i64 1) := B4.out.cell 0
                      have p1 : w4.cell? ⟨wr.heap.size, 1, none⟩ = some (.int .u64 0) := B4.out.cell 1
                      have p2 : w4.cell? ⟨wr.heap.size, 2, none⟩ = some (.int .i64 1) := B4.out.cell 2
                      have p3 : w4.cell? ⟨wr.heap.size, 3, none⟩ = some (.int .u64 (av : Int)) := B4.out.cell 3
                      clear hd4 hk4
                      go_wp2_with fail
                      go_meet
                      exact ⟨s, by omega, Lib.hid (by have h9 := W3.out _ _ _ _ _ _ D4.out; rw [hlen] at h9; exact h9), F4⟩
                  · have hf : s.first = ({ s with inn := r }, x0) := by unfold US.first; rw [hinn]
                    have hx8 : x0 < 256 := by obtain ⟨F, h, _⟩ := D3.out.line; exact h.ok.inn x0 (by rw [hinn]; exact List.mem_cons_self ..)
                    rw [hf] at hrd
                    have HW := Lib.hid hrd
                    have HINN := Lib.hid hinn
                    have hlen : s.inn.length = r.length + 1 := by rw [hinn]; rfl
                    clear hrd hf hinn
                    as_aux_lemma =>
                      go_wp2_with fail
                      refine (kRead 0 1 (by omega) D3.out).mono ?_
                      rw [HW.out]
                      rintro e w4 ⟨rfl, hd4, hk4⟩
                      have B4 := Lib.hid (B3.out.keep hk4 (.inr rfl))
                      have F4 := Lib.hid (F3.out.after hk4 (fun k h => .inl h))
                      have D4 := Lib.hid hd4
                      have p0 : w4.cell? ⟨wr.heap.size, 0, none⟩ = some (.int .i64 1) := B4.out.cell 0
                      have p1 : w4.cell? ⟨wr.heap.size, 1, none⟩ = some (.int .u64 0) := B4.out.cell 1
                      have p2 : w4.cell? ⟨wr.heap.size, 2, none⟩ = some (.int .i64 1) := B4.out.cell 2
                      have p3 : w4.cell? ⟨wr.heap.size, 3, none⟩ = some (.int .u64 (av : Int)) := B4.out.cell 3
                      clear hd4 hk4
                      have hd5 : Desk (And1 (fun k => k < w.heap.size) wr.heap.size) w4 bu { s with inn := r } (.slice ai s.inn.length ci) (x0 :: r) (.slice ao s.out.length co) s.out := by rw [← HINN.out]; exact D4.out
                      obtain ⟨g5, o5, c5, hv5, hc5, hm5, hcell5, hdesk5⟩ := hd5.first
                      rw [hlen] at hv5
                      cases hv5
                      unfold maxLen at hm5
                      have D5 := Lib.hid hdesk5
                      clear hd5 hdesk5
                      by_cases hc1 : ci = 1
                      · subst hc1
                        rw [if_pos rfl] at D5
                        have hr0 : r.length = 0 := by omega
                        have hrn : r = [] := List.eq_nil_of_length_eq_zero hr0
                        go_wp2_with fail
                        go_meet
                        exact ⟨{ s with inn := r }, by simp; omega, Lib.hid (by have := W3.out _ _ _ _ _ _ D5.out; simpa [hr0] using this), F4⟩
                      · rw [if_neg hc1] at D5
                        go_wp2_with fail
                        go_meet
                        exact ⟨{ s with inn := r }, by simp; omega, Lib.hid (W3.out _ _ _ _ _ _ D5.out), F4⟩
              · have o0' : ((off : Int) == 0) = false := by rw [beq_eq_false_iff_ne]; omega
                have hob : decide ((off : Int) < 8) = true := decide_eq_true (by omega)
                have hkp := s.get_keeps off (.inl o0)
                have hg8 : (s.get off).2 < 256 := by obtain ⟨F, h, _⟩ := D3.out.line; exact (h.ok.get off).2
                obtain ⟨q, hq⟩ : ∃ q, q = (s.get off).2 := ⟨_, rfl⟩
                rw [← hq] at hrd hg8
                have HKP := Lib.hid hkp
                have HW := Lib.hid hrd
                clear hkp hrd hq
                as_aux_lemma =>
                  go_wp2_with fail
                  refine (kRead off 1 HXO.out.1 D3.out).mono ?_
                  rw [HW.out]
                  rintro e w4 ⟨rfl, hd4, hk4⟩
                  have B4 := Lib.hid (B3.out.keep hk4 (.inr rfl))
                  have F4 := Lib.hid (F3.out.after hk4 (fun k h => .inl h))
                  have D4 := Lib.hid hd4
                  have p0 : w4.cell? ⟨wr.heap.size, 0, none⟩ = some (.int .i64 1) := B4.out.cell 0
                  have p1 : w4.cell? ⟨wr.heap.size, 1, none⟩ = some (.int .u64 (off : Int)) := B4.out.cell 1
                  have p2 : w4.cell? ⟨wr.heap.size, 2, none⟩ = some (.int .i64 1) := B4.out.cell 2
                  have p3 : w4.cell? ⟨wr.heap.size, 3, none⟩ = some (.int .u64 (av : Int)) := B4.out.cell 3
                  clear hd4 hk4
                  go_wp2_with fail
                  go_meet
                  exact ⟨(s.get off).1, by rw [HKP.out.2]; omega, Lib.hid (by rw [HKP.out.1, HKP.out.2]; exact W3.out _ _ _ _ _ _ D4.out), F4⟩
            · have hrd : s.read off nn = (s, 0, false) := by unfold US.read; rw [if_pos (by omega)]
              have HW := Lib.hid hrd
              clear hrd
              by_cases n1 : nn = 1
              · have ho8 : ¬ off < 8 := fun h => hin ⟨n1, h⟩
                subst n1
                clear hin
                as_aux_lemma =>
                  go_wp2_with fail
                  refine (kRead off 1 HXO.out.1 D3.out).mono ?_
                  rw [HW.out]
                  rintro e w4 ⟨rfl, hd4, hk4⟩
                  have B4 := Lib.hid (B3.out.keep hk4 (.inr rfl))
                  have F4 := Lib.hid (F3.out.after hk4 (fun k h => .inl h))
                  have D4 := Lib.hid hd4
                  have p0 : w4.cell? ⟨wr.heap.size, 0, none⟩ = some (.int .i64 1) := B4.out.cell 0
                  have p1 : w4.cell? ⟨wr.heap.size, 1, none⟩ = some (.int .u64 (off : Int)) := B4.out.cell 1
                  have p2 : w4.cell? ⟨wr.heap.size, 2, none⟩ = some (.int .i64 1) := B4.out.cell 2
                  have p3 : w4.cell? ⟨wr.heap.size, 3, none⟩ = some (.int .u64 (av : Int)) := B4.out.cell 3
                  clear hd4 hk4
                  go_wp2_with fail
                  go_meet
                  exact ⟨s, by omega, Lib.hid (W3.out _ _ _ _ _ _ D4.out), F4⟩
              · have n1' : (nn == 1) = false := by rw [beq_eq_false_iff_ne]; exact n1
                clear hin
                as_aux_lemma =>
                  go_wp2_with fail
                  refine (kRead off nn HXO.out.1 D3.out).mono ?_
                  rw [HW.out]
                  rintro e w4 ⟨rfl, hd4, hk4⟩
                  have B4 := Lib.hid (B3.out.keep hk4 (.inr rfl))
                  have F4 := Lib.hid (F3.out.after hk4 (fun k h => .inl h))
                  have D4 := Lib.hid hd4
                  have p0 : w4.cell? ⟨wr.heap.size, 0, none⟩ = some (.int .i64 1) := B4.out.cell 0
                  have p1 : w4.cell? ⟨wr.heap.size, 1, none⟩ = some (.int .u64 (off : Int)) := B4.out.cell 1
                  have p2 : w4.cell? ⟨wr.heap.size, 2, none⟩ = some (.int .i64 nn) := B4.out.cell 2
                  have p3 : w4.cell? ⟨wr.heap.size, 3, none⟩ = some (.int .u64 (av : Int)) := B4.out.cell 3
                  clear hd4 hk4
                  go_wp2_with fail
                  go_meet
                  exact ⟨s, by omega, Lib.hid (W3.out _ _ _ _ _ _ D4.out), F4⟩
          · have a1' : (act == 1) = false := by rw [beq_eq_false_iff_ne]; exact a1
            by_cases a2 : act = 2
            · subst a2
              by_cases h16 : s.inn.length < 16
              · have hwr : s.feed y = ({ s with inn := s.inn ++ [y] }, true) := by unfold US.feed; rw [if_neg (by omega)]
                have h16b : decide ((s.inn.length : Int) < 16) = true := decide_eq_true (by omega)
                have h16c : decide (s.inn.length < 16) = true := decide_eq_true h16
                have HW := Lib.hid hwr
                clear hwr hy
                as_aux_lemma =>
                  go_wp2_with fail
                  refine (kFeed y hy8 D3.out).mono ?_
                  rw [HW.out]
                  rintro e w4 ⟨rfl, hd4, hk4⟩
                  have B4 := Lib.hid (B3.out.keep hk4 (.inr rfl))
                  have F4 := Lib.hid (F3.out.after hk4 (fun k h => .inl h))
                  have D4 := Lib.hid hd4
                  have p0 : w4.cell? ⟨wr.heap.size, 0, none⟩ = some (.int .i64 2) := B4.out.cell 0
                  have p1 : w4.cell? ⟨wr.heap.size, 1, none⟩ = some (.int .u64 (off : Int)) := B4.out.cell 1
                  have p2 : w4.cell? ⟨wr.heap.size, 2, none⟩ = some (.int .i64 nn) := B4.out.cell 2
                  have p3 : w4.cell? ⟨wr.heap.size, 3, none⟩ = some (.int .u64 (av : Int)) := B4.out.cell 3
                  clear hd4 hk4
                  go_upto_region 39 with fail
                  obtain ⟨Gi, ho1, ho2⟩ := D4.out.inn
                  have hfa := (Fr.refl No w4).alloc (.cells #[u8v y] 5)
                  have O4 := Lib.hid (ho1.fr hfa (fun _ _ h => h))
                  have R4 := Lib.hid (Rd.new w4 5 [u8v y] 1 (by unfold maxLen; omega))
                  have HG := Lib.hid ho2
                  clear ho1 ho2 hfa
                  go_wp2_with
                   (at_builtin
                    refine wpList_append_owo _ rfl (.tmp 174) (.tmp 178) _ rfl 5 i0 _ 1 Tryd.underlying27 HI.out H0.out H1.out H2.out rfl _ s.inn.length (bytesV s.inn) _ rfl O4.out _ (u8v y) rfl R4.out rfl (by unfold maxLen; omega) (by omega) ?_
                    intro v5 w5 hown5 hf5
                    have hd5 := HG.out w5 v5 (s.inn ++ [y]) (by
                      rw [bytesV_app, List.length_append]
                      exact hown5.mono fun k hk => by
                        rcases hk with hk | hk
                        · exact .inl hk
                        · exact .inr (by rw [hk]; simp)) (((Fr.refl _ w4).alloc _).trans hf5)
                    have D5 := Lib.hid hd5.1
                    have F6 := Lib.hid (F4.out.after hd5.2 (fun k h => .inl h))
                    clear hown5 hf5 hd5)
                  go_meet
                  exact ⟨{ s with inn := s.inn ++ [y] }, by simp; omega, Lib.hid (W3.out _ _ _ _ _ _ D5.out), F6⟩
              · have hwr : s.feed y = ({ s with lost := true }, false) := by unfold US.feed; rw [if_pos (by omega)]
                have h16b : decide ((s.inn.length : Int) < 16) = false := decide_eq_false (by omega)
                have h16c : decide (s.inn.length < 16) = false := decide_eq_false h16
                have HW := Lib.hid hwr
                clear hwr hy
                as_aux_lemma =>
                  go_wp2_with fail
                  refine (kFeed y hy8 D3.out).mono ?_
                  rw [HW.out]
                  rintro e w4 ⟨rfl, hd4, hk4⟩
                  have B4 := Lib.hid (B3.out.keep hk4 (.inr rfl))
                  have F4 := Lib.hid (F3.out.after hk4 (fun k h => .inl h))
                  have D4 := Lib.hid hd4
                  have p0 : w4.cell? ⟨wr.heap.size, 0, none⟩ = some (.int .i64 2) := B4.out.cell 0
                  have p1 : w4.cell? ⟨wr.heap.size, 1, none⟩ = some (.int .u64 (off : Int)) := B4.out.cell 1
                  have p2 : w4.cell? ⟨wr.heap.size, 2, none⟩ = some (.int .i64 nn) := B4.out.cell 2
                  have p3 : w4.cell? ⟨wr.heap.size, 3, none⟩ = some (.int .u64 (av : Int)) := B4.out.cell 3
                  clear hd4 hk4
                  go_wp2_with fail
                  go_meet
                  exact ⟨{ s with lost := true }, by simp; omega, Lib.hid (W3.out _ _ _ _ _ _ D4.out), F4⟩
            · have a2' : (act == 2) = false := by rw [beq_eq_false_iff_ne]; exact a2
              as_aux_lemma =>
                go_wp2_with fail
                go_meet
                exact ⟨s, by omega, Lib.hid (W3.out _ _ _ _ _ _ D3.out), F3⟩
      case rest =>
        obtain ⟨s', hol', HD, HFx⟩ := hcut
        obtain ⟨ai, ci, ao, co, rfl, rfl, hic, him, hoc, hom⟩ := HD.out.slices
        unfold maxLen at him hom
        have DD := Lib.hid (HD.out.fr (Fr.refl No wc).drew)
        have RO := Lib.hid DD.out.rdo
        have ko := RO.out.text (P := Tryd.prog) rfl 27 5 9 Tryd.underlying27 Tryd.underlying5 Tryd.underlying9
        clear p0 p1 p2 p3
        as_aux_lemma =>
          go_wp2_with fail
          go_region_held (fun _ => True)
            (exact trivial)
            (first
              | (go_at_call 20; refine (kWaiting DD.out).mono ?_; rintro e w' ⟨rfl, rfl⟩)
              | (go_at_call 17; refine (kOut DD.out).mono ?_; rintro e w17 ⟨v17, rfl, ho17, hf17⟩; have k6 := ho17.rd.text (P := Tryd.prog) rfl 27 5 9 Tryd.underlying27 Tryd.underlying5 Tryd.underlying9; have k7 := (RO.out.fr hf17 (fun _ _ _ h => h)).text (P := Tryd.prog) rfl 27 5 9 Tryd.underlying27 Tryd.underlying5 Tryd.underlying9; have D17 := Lib.hid (HD.out.fr ((Fr.refl No wc).drew.trans hf17)); have F17 := Lib.hid (HFx.out.drew.trans hf17); clear ho17 hf17))
          all_goals
            go_wp2_with fail
            go_roundg (n - (k + 1))
            case measure => omega
            case rel => exact ⟨k + 1, s', hlt, rfl, rfl, hol', D17, F17⟩
    · clear HR HO
      obtain ⟨ai, ci, ao, co, rfl, rfl, hic, him, hoc, hom⟩ := HA.out.slices
      go_wp2_with fail
      go_ret
      exact ⟨rfl, HF.out⟩
end Go.Proofs.YtcnglhneknbllaaDoor

/-
  The statement TlbPlays: its walk.
-/
import Derived.Test.YtpnabfekidpnoaaDoorTlbSD
namespace Go.Proofs.YtpnabfekidpnoaaDoor
open Go Go.RowKit

theorem infoAct : (Tryd.prog.info? 50).map (·.size) = some 14 := by kernel_rfl
theorem ta_ent (x : TA) (j : Nat) (u : Value) (h : x.e.cells[j]? = some u) : x.cells[1 + j]? = some u := by
  have hl : j < x.e.cells.length := (List.getElem?_eq_some_iff.1 h).1
  unfold TA.cells
  rw [Nat.add_comm, List.getElem?_cons_succ, List.getElem?_append_left hl]
  exact h
set_option maxRecDepth 100000 in
set_option maxHeartbeats 4000000 in
theorem TlbPlays_c (w : World) (hT : TzAt w) (sets ways : Int) (v : Value) (l : List TA) (hr : Rd w v l.length (taCells l)) (hva : ∀ x ∈ l, x.e.va < 18446744073709551616) :
    Calls Tryd.prog 5 #[.int .i64 sets, .int .i64 ways, v] w fun e w' => e = .returned (.bool true) ∧ Fr No w w' := by
  have HT := Lib.hid hT
  have HR := Lib.hid hr
  have HV := Lib.hid hva
  obtain ⟨a, c, rfl, hnc, hcm, _, _⟩ := hr
  obtain ⟨N, hN⟩ : ∃ N, N = l.length := ⟨_, rfl⟩
  unfold maxLen at hcm
  rw [← hN] at HR hnc ⊢
  have HN := Lib.hid hN
  have HNM := Lib.hid (show N ≤ 9223372036854775807 by omega)
  clear hT hva hN hnc hcm
  go_enter Tryd.func5, Tryd.ntmps5
  go_wp2_with fail
  refine (awake_c w HT.out).mono ?_
  rintro z w0 ⟨rfl, hf0⟩
  have F0 := Lib.hid hf0
  have HT0 := Lib.hid (HT.out.fr hf0 (fun q => q))
  clear hf0
  by_cases h150 : N ≤ 150
  case neg =>
    go_wp2_with fail
    go_ret
    exact ⟨rfl, F0.out⟩
  by_cases hg : goodNew sets ways
  · obtain ⟨n, rfl⟩ : ∃ n : Nat, sets = (n : Int) := ⟨sets.toNat, by have := hg.1; omega⟩
    obtain ⟨m, rfl⟩ : ∃ m : Nat, ways = (m : Int) := ⟨ways.toNat, by have := hg.2.2.2.1; omega⟩
    have hn : 1 ≤ n ∧ n ≤ 64 := by have h1 := hg.1; have h2 := hg.2.1; omega
    have hm : 1 ≤ m ∧ m ≤ 8 := by have h1 := hg.2.2.2; omega
    have hones : (ones n).length = 1 := by have h := hg.2.2.1; rwa [Int.toNat_natCast] at h
    have HNEW := Lib.hid (new_c w0 n m hn hones hm HT0.out)
    have HNN := Lib.hid (And.intro hn hm)
    have HG := Lib.hid hg
    clear hn hm hones hg
    go_wp2_with fail
    refine HNEW.out.mono ?_
    rintro z w1 ⟨t, rfl, ht, hf1⟩
    have HT1 := Lib.hid ht
    have HF1 := Lib.hid hf1
    clear ht hf1
    go_wp2_with fail
    refine (rnew_c w1 (n : Int) (m : Int)).mono ?_
    rintro z w2 (⟨_, rfl, hr2, hf2⟩ | ⟨hbad, _⟩)
    case inr => exact absurd HG.out hbad
    rw [Int.toNat_natCast, Int.toNat_natCast] at hr2
    have D2 := Lib.hid (Duo.start F0.out HNN.out.1 HNN.out.2 HT1.out HF1.out hr2 hf2)
    obtain ⟨r, hrr⟩ : ∃ r, r = w1.heap.size := ⟨_, rfl⟩
    rw [← hrr] at D2 ⊢
    have D2' : Hid (Duo_ w w2 t r n m) := Lib.hid ⟨_, _, _, _, D2.out⟩
    clear hr2 hf2 hrr D2
    go_wp2_with fail
    go_loopw [7, 11] (fun pt pi wr => ∃ k t : Nat, k ≤ N ∧ pt = .pointer (some ⟨t, 0, none⟩) ∧ pi = .int .i64 (k : Int) ∧ Hid (Duo_ w wr t r n m)) (fun _ pi _ => N - (intOf pi).toNat)
    case atStart => exact ⟨0, t, Nat.zero_le _, rfl, rfl, D2'⟩
    case round =>
      obtain ⟨k, t, hk, rfl, rfl, HD⟩ := hrel
      by_cases hlt : k < N
      · have hkl : k < l.length := by have := HN.out; omega
        have hR := HR.out
        rw [HN.out] at hR
        obtain ⟨g, o, c', hv, hcell⟩ := hR.taAt hkl
        injection hv with e1 _ e3
        subst e1 e3
        have hxv := HV.out _ (List.getElem_mem hkl)
        obtain ⟨x, hx⟩ : ∃ x, x = l[k] := ⟨_, rfl⟩
        rw [← hx] at hcell hxv
        have HX := Lib.hid hcell
        have HXE := Lib.hid (show ∀ W, Fr No w W → ∀ j u, x.e.cells[j]? = some u → W.cell? ⟨g, o + k * 14 + 1 + j, none⟩ = some u from fun W hW j u hj => by
          rw [Nat.add_assoc (o + k * 14) 1 j]
          exact hcell W hW _ u (ta_ent x j u hj))
        have HXV := Lib.hid hxv
        obtain ⟨L, R, F, G, hd⟩ := HD.out
        have HD1 := Lib.hid hd
        have e1 : IntKind.i64.wrap ((k : Int) + 1) = ((k + 1 : Nat) : Int) := by have := HNM.out; rw [IntKind.wrap_i64]; omega
        clear hR hcell hxv hx hd
        go_wp2_with (first
          | (refine wpList_load_at rfl 50 (.tmp 50) rfl g (o + k * 14) rfl x.cells (HX.out _ HD1.out.fr) _ Tryd.underlying50 rfl infoAct ?_)
          )
        refine (both_c w wr t r n m L R F G x HXV.out HD1.out).mono ?_
        rintro z w3 ⟨rfl, L2, R2, F2, G2, hd3⟩
        have D3 := Lib.hid hd3.cut
        clear hd3 HD1 HD
        obtain ⟨act, hact⟩ : ∃ act, act = x.act := ⟨_, rfl⟩
        have qa : w3.cell? ⟨g, o + k * 14, none⟩ = some (.int .i64 act) := by rw [hact]; exact HX.out w3 D3.out.fr 0 _ rfl
        clear hact
        by_cases a5 : act = 5
        · subst a5
          go_wp2_with fail
          refine (twin_c w3 t m L2 _ D3.out.ta D3.out.ok).mono ?_
          rintro z w5 ⟨b2, rfl, hu, hf5⟩
          have HU := Lib.hid hu
          have HF5 := Lib.hid hf5
          have HF05 := Lib.hid (D3.out.fr.trans hf5)
          clear hu hf5 qa
          go_wp2_with (first
            | (refine wpList_load_at rfl 25 (.tmp 67) rfl g (o + k * 14 + 1) rfl x.e.cells (HXE.out _ HF05.out) _ Tryd.underlying25 rfl infoE ?_)
            )
          refine (put_c w5 t m L2 _ x.e (D3.out.ta.fr HF5.out (fun _ _ q => q)) D3.out.ok).mono ?_
          rintro z w6 ⟨rfl, ht6, hf6⟩
          have HT6 := Lib.hid ht6
          have HF6 := Lib.hid hf6
          have HF06 := Lib.hid (show Fr No w w6 from HF05.out.andThen hf6 (fun k hk q => by have h1 := D3.out.fn k q; omega))
          have qm : w6.cell? ⟨g, o + k * 14 + 1 + 1, none⟩ = some (.int .u64 (x.e.vmid : Int)) := HXE.out w6 HF06.out 1 _ rfl
          clear ht6 hf6
          go_wp2_with fail
          refine (fenceG_c w6 t m _ _ x.e.vmid true HT6.out (D3.out.ok.put _)).mono ?_
          rintro z w7 ⟨rfl, _, hf7⟩
          have D7 := Lib.hid (D3.out.twin (fun k q => q.2) (fun k q => q.2) HU.out HF5.out HF6.out hf7)
          clear hf7 qm
          go_wp2_with fail
          refine (entries_c w7 b2 m L2 _ D7.out.ta D7.out.ok).mono ?_
          rintro z w8 ⟨v8, rfl, hrow, hf8⟩
          have hrow' : Row w8 v8 (refEntries n R2) (fun k => w7.heap.size ≤ k) := by
            have h := hrow.mono (G' := fun k => w7.heap.size ≤ k) (fun k q => q.1)
            rw [D7.out.rel.flat, D7.out.len] at h
            exact h
          have HROW := Lib.hid hrow'
          have D8 := Lib.hid (D7.out.keep hf8)
          clear hrow hrow' hf8
          go_wp2_with fail
          refine (rentries_c w8 r n m R2 _ D8.out.ra D8.out.nn (by have := D8.out.rl; omega) D8.out.va).mono ?_
          rintro z w9 ⟨v9, rfl, hrow9, hf9⟩
          have HR9 := Lib.hid hrow9
          have HROW9 := Lib.hid (HROW.out.fr hf9 (fun _ _ q => q))
          have D9 := Lib.hid (D8.out.keep hf9)
          clear hrow9 hf9
          go_wp2_with fail
          refine (same_c w9 v8 v9 (refEntries n R2) _ _ HROW9.out HR9.out).mono ?_
          rintro z w10 ⟨rfl, hf10⟩
          have D10 := Lib.hid (D9.out.keep hf10)
          clear hf10
          go_wp2_with fail
          exact ⟨⟨k + 1, b2, by omega, rfl, by simp, Lib.hid ⟨_, _, _, _, D10.out⟩⟩, by simp [intOf]; omega⟩
        · clear HXE
          go_wp2_with fail
          refine (entries_c w3 t m L2 _ D3.out.ta D3.out.ok).mono ?_
          rintro z w8 ⟨v8, rfl, hrow, hf8⟩
          have hrow' : Row w8 v8 (refEntries n R2) (fun k => w3.heap.size ≤ k) := by
            have h := hrow.mono (G' := fun k => w3.heap.size ≤ k) (fun k q => q.1)
            rw [D3.out.rel.flat, D3.out.len] at h
            exact h
          have HROW := Lib.hid hrow'
          have D8 := Lib.hid (D3.out.keep hf8)
          clear hrow hrow' hf8
          go_wp2_with fail
          refine (rentries_c w8 r n m R2 _ D8.out.ra D8.out.nn (by have := D8.out.rl; omega) D8.out.va).mono ?_
          rintro z w9 ⟨v9, rfl, hrow9, hf9⟩
          have HR9 := Lib.hid hrow9
          have HROW9 := Lib.hid (HROW.out.fr hf9 (fun _ _ q => q))
          have D9 := Lib.hid (D8.out.keep hf9)
          clear hrow9 hf9
          go_wp2_with fail
          refine (same_c w9 v8 v9 (refEntries n R2) _ _ HROW9.out HR9.out).mono ?_
          rintro z w10 ⟨rfl, hf10⟩
          have D10 := Lib.hid (D9.out.keep hf10)
          clear hf10
          go_wp2_with fail
          exact ⟨⟨k + 1, t, by omega, rfl, by simp, Lib.hid ⟨_, _, _, _, D10.out⟩⟩, by simp [intOf]; omega⟩
      · obtain rfl : k = N := by omega
        obtain ⟨L, R, F, G, hd⟩ := HD.out
        have HFR := Lib.hid hd.fr
        clear hd
        go_wp2_with fail
        go_ret
        exact ⟨rfl, HFR.out⟩
  · have HNEW := Lib.hid (new_bad w0 sets ways hg HT0.out)
    have HG := Lib.hid hg
    clear hg
    go_wp2_with fail
    refine HNEW.out.mono ?_
    rintro z w1 ⟨rfl, hf1⟩
    have HF1 := Lib.hid (F0.out.trans hf1)
    clear hf1
    go_wp2_with fail
    refine (rnew_c w1 sets ways).mono ?_
    rintro z w2 (⟨hgood, _⟩ | ⟨_, rfl, hf2⟩)
    case inl => exact absurd hgood HG.out
    have HF2 := Lib.hid (HF1.out.trans hf2)
    clear hf2
    go_wp2_with fail
    go_loopw [7, 11] (fun pt pi wr => ∃ k : Nat, k ≤ N ∧ pt = .pointer none ∧ pi = .int .i64 (k : Int) ∧ Hid (Fr No w wr)) (fun _ pi _ => N - (intOf pi).toNat)
    case atStart => exact ⟨0, Nat.zero_le _, rfl, rfl, HF2⟩
    case round =>
      obtain ⟨k, hk, rfl, rfl, HD⟩ := hrel
      by_cases hlt : k < N
      · have hkl : k < l.length := by have := HN.out; omega
        have hR := HR.out
        rw [HN.out] at hR
        obtain ⟨g, o, c', hv, hcell⟩ := hR.taAt hkl
        injection hv with e1 _ e3
        subst e1 e3
        obtain ⟨x, hx⟩ : ∃ x, x = l[k] := ⟨_, rfl⟩
        rw [← hx] at hcell
        have HX := Lib.hid hcell
        have HXE := Lib.hid (show ∀ W, Fr No w W → ∀ j u, x.e.cells[j]? = some u → W.cell? ⟨g, o + k * 14 + 1 + j, none⟩ = some u from fun W hW j u hj => by
          rw [Nat.add_assoc (o + k * 14) 1 j]
          exact hcell W hW _ u (ta_ent x j u hj))
        have e1 : IntKind.i64.wrap ((k : Int) + 1) = ((k + 1 : Nat) : Int) := by have := HNM.out; rw [IntKind.wrap_i64]; omega
        clear hR hcell hx
        go_wp2_with (first
          | (refine wpList_load_at rfl 50 (.tmp 50) rfl g (o + k * 14) rfl x.cells (HX.out _ HD.out) _ Tryd.underlying50 rfl infoAct ?_)
          )
        refine (both_nil wr x).mono ?_
        rintro z w3 ⟨rfl, hf3⟩
        have D3 := Lib.hid (HD.out.trans hf3)
        clear hf3 HD
        obtain ⟨act, hact⟩ : ∃ act, act = x.act := ⟨_, rfl⟩
        have qa : w3.cell? ⟨g, o + k * 14, none⟩ = some (.int .i64 act) := by rw [hact]; exact HX.out w3 D3.out 0 _ rfl
        clear hact
        by_cases a5 : act = 5
        · subst a5
          go_wp2_with fail
          refine (twin_nil w3).mono ?_
          rintro z w5 ⟨rfl, hf5⟩
          have HF05 := Lib.hid (D3.out.trans hf5)
          clear hf5 qa
          go_wp2_with (first
            | (refine wpList_load_at rfl 25 (.tmp 67) rfl g (o + k * 14 + 1) rfl x.e.cells (HXE.out _ HF05.out) _ Tryd.underlying25 rfl infoE ?_)
            )
          refine (put_nil w5 x.e).mono ?_
          rintro z w6 ⟨rfl, hf6⟩
          have HF06 := Lib.hid (HF05.out.trans hf6)
          have qm : w6.cell? ⟨g, o + k * 14 + 1 + 1, none⟩ = some (.int .u64 (x.e.vmid : Int)) := HXE.out w6 HF06.out 1 _ rfl
          clear hf6
          go_wp2_with fail
          refine (fenceG_nil w6 x.e.vmid true).mono ?_
          rintro z w7 ⟨rfl, hf7⟩
          have D7 := Lib.hid (HF06.out.trans hf7)
          clear hf7 qm
          go_wp2_with fail
          refine (entries_nil w7).mono ?_
          rintro z w8 ⟨rfl, hf8⟩
          have D8 := Lib.hid (D7.out.trans hf8)
          clear hf8
          go_wp2_with fail
          refine (rentries_nil w8).mono ?_
          rintro z w9 ⟨rfl, hf9⟩
          have D9 := Lib.hid (D8.out.trans hf9)
          clear hf9
          go_wp2_with fail
          refine (same_c w9 _ _ [] (fun _ => False) (fun _ => False) (Row.nil_ _ _) (Head.nil_ _ _ _ _)).mono ?_
          rintro z w10 ⟨rfl, hf10⟩
          have D10 := Lib.hid (D9.out.trans hf10)
          clear hf10
          go_wp2_with fail
          exact ⟨⟨k + 1, by omega, rfl, by simp, D10⟩, by simp [intOf]; omega⟩
        · clear HXE
          go_wp2_with fail
          refine (entries_nil w3).mono ?_
          rintro z w8 ⟨rfl, hf8⟩
          have D8 := Lib.hid (D3.out.trans hf8)
          clear hf8
          go_wp2_with fail
          refine (rentries_nil w8).mono ?_
          rintro z w9 ⟨rfl, hf9⟩
          have D9 := Lib.hid (D8.out.trans hf9)
          clear hf9
          go_wp2_with fail
          refine (same_c w9 _ _ [] (fun _ => False) (fun _ => False) (Row.nil_ _ _) (Head.nil_ _ _ _ _)).mono ?_
          rintro z w10 ⟨rfl, hf10⟩
          have D10 := Lib.hid (D9.out.trans hf10)
          clear hf10
          go_wp2_with fail
          exact ⟨⟨k + 1, by omega, rfl, by simp, D10⟩, by simp [intOf]; omega⟩
      · obtain rfl : k = N := by omega
        go_wp2_with fail
        go_ret
        exact ⟨rfl, HD.out⟩
end Go.Proofs.YtpnabfekidpnoaaDoor

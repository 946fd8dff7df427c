/-
  The statement PlicOnce: its walk.
-/
import Derived.Test.YtcnglhneknbllaaDoorPacts
namespace Go.Proofs.YtcnglhneknbllaaDoor
open Go Go.RowKit

/-- At first. -/
theorem Once.start {w0 w1 : World} {b : Nat} (h : Pic1 w0 w1 b PS.new) (t : TypeId) (cs : Array Value) (hc : cs.toList = bzl 0) : Once w0 (w1.alloc (.cells cs t)) b w1.heap.size PS.new 0 := by
  have hf := (Fr.refl No w1).alloc (.cells cs t)
  have hs := Seg.new w1 t cs
  rw [hc] at hs
  exact ⟨h.keep hf, PS.Inv.new, hs, fun e => by have := h.at_.seg.lt; omega, h.fr.size⟩
theorem rem32 (v : Nat) : (v : Int).tmod 4294967296 = ((v % 4294967296 : Nat) : Int) ∧ (v : Int) % 4294967296 = ((v % 4294967296 : Nat) : Int) := ⟨by rw [Int.tmod_eq_emod_of_nonneg (by omega)]; omega, by omega⟩
theorem complete_same (s : PS) (c v : Nat) (h : ¬ (v ≤ 31 ∧ (s.on c).testBit v = true)) : (s.complete c v).busy = s.busy := by
  apply Nat.eq_of_testBit_eq
  intro j
  rw [PS.complete_busy, if_neg (fun q => h q.2)]
theorem complete_cut (s : PS) (c v : Nat) (h1 : v ≤ 31) (h2 : (s.on c).testBit v = true) : (s.complete c v).busy = setB s.busy v false := by
  apply Nat.eq_of_testBit_eq
  intro j
  rw [PS.complete_busy, setB_at]
  by_cases e : j = v
  · rw [if_pos ⟨e, h1, h2⟩, if_pos e]
  · rw [if_neg (fun q => e q.1), if_neg e]
set_option maxRecDepth 100000 in
set_option maxHeartbeats 16000000 in
theorem PlicOnce_c (w : World) (hT : TzAt w) (v : Value) (xs : List PAct) (hr : Rd w v xs.length (pactCells xs)) (hok : ∀ x ∈ xs, x.Ok) :
    Calls Tryd.prog 11 #[v] w fun e w' => e = .returned (.bool true) ∧ Fr No w w' := by
  have HT := Lib.hid hT
  have HR := Lib.hid hr
  have HO := Lib.hid hok
  obtain ⟨a, c, rfl, hnc, hcm, _, _⟩ := hr
  obtain ⟨n, hn⟩ : ∃ n, n = xs.length := ⟨_, rfl⟩
  rw [← hn] at HR hnc ⊢
  have HN := Lib.hid hn
  unfold maxLen at hcm
  clear hT hok hn
  go_enter Tryd.func11, Tryd.ntmps11
  go_wp2_with fail
  refine (pawake_c w HT.out).mono ?_
  rintro e w0 ⟨rfl, hf0⟩
  have F0 := Lib.hid hf0
  clear hf0
  by_cases h1 : n ≤ 200
  case neg =>
    go_wp2_with fail
    go_ret
    exact ⟨rfl, F0.out⟩
  go_wp2_with fail
  refine (PNew_c w0).mono ?_
  rintro e w1 ⟨rfl, hf1⟩
  have F1 := Lib.hid (F0.out.trans hf1)
  clear hf1
  go_wp2_with (first
    | (refine wpList_store_row rfl 48 _ _ rfl _ _ rfl rfl _ _ (heap_alloc_new _ _) infoPic rfl (one_plist _) ?_))
  have h2_ := fun t old => Pic1.laid HT.out F1.out t old PS.new PS.ok_new
  generalize hW : (World.setRow _ _ _) = w2
  have Q2 := Lib.hid (by rw [← hW]; exact h2_ _ _ : Pic1 w w2 w1.heap.size PS.new)
  have hsz : w1.heap.size + 1 = w2.heap.size := by rw [← hW]; simp [World.setRow]
  have A2 := Lib.hid (Once.start Q2.out 73 #[.bool false, .bool false, .bool false, .bool false, .bool false, .bool false, .bool false, .bool false, .bool false, .bool false, .bool false, .bool false, .bool false, .bool false, .bool false, .bool false, .bool false, .bool false, .bool false, .bool false, .bool false, .bool false, .bool false, .bool false, .bool false, .bool false, .bool false, .bool false, .bool false, .bool false, .bool false, .bool false] rfl)
  clear h2_ hW
  obtain ⟨b, hb⟩ : ∃ b, b = w1.heap.size := ⟨_, rfl⟩
  obtain ⟨bb, hbb⟩ : ∃ bb, bb = w2.heap.size := ⟨_, rfl⟩
  try rw [hsz]
  rw [← hb, ← hbb] at A2 ⊢
  clear hb hbb hsz
  go_loopw [5] (fun i wr => ∃ (k : Nat) (s : PS), k ≤ n ∧ i = .int .i64 (k : Int) ∧ Hid (Once w wr b bb s s.busy)) (fun i _ => n - (intOf i).toNat)
  case atStart => exact ⟨0, _, Nat.zero_le _, rfl, A2⟩
  case round =>
    obtain ⟨k, s, hkn, rfl, HA⟩ := hrel
    by_cases hlt : k < n
    · have hlt' : k < xs.length := by rw [← HN.out]; exact hlt
      have hR := HR.out
      rw [HN.out] at hR
      obtain ⟨g, o, c', hv, hcs⟩ := hR.pactsAt hlt'
      cases hv
      obtain ⟨x, hx⟩ : ∃ x, x = xs[k] := ⟨_, rfl⟩
      have hxo := HO.out _ (List.getElem_mem hlt')
      rw [← hx] at hcs hxo
      have HC := Lib.hid (hcs wr HA.out.pic.fr)
      have HXO := Lib.hid hxo
      clear hcs hxo hx hR
      obtain ⟨act, off, nn, av, src, up⟩ := x
      have q0 : wr.cell? ⟨g, o + k * 6, none⟩ = some (.int .i64 act) := HC.out 0 _ rfl
      have q1 : wr.cell? ⟨g, o + k * 6 + 1, none⟩ = some (.int .u64 (off : Int)) := HC.out 1 _ rfl
      have q2 : wr.cell? ⟨g, o + k * 6 + 2, none⟩ = some (.int .i64 nn) := HC.out 2 _ rfl
      have q3 : wr.cell? ⟨g, o + k * 6 + 3, none⟩ = some (.int .u64 (av : Int)) := HC.out 3 _ rfl
      have q4 : wr.cell? ⟨g, o + k * 6 + 4, none⟩ = some (.int .i64 src) := HC.out 4 _ rfl
      have q5 : wr.cell? ⟨g, o + k * 6 + 5, none⟩ = some (.bool up) := HC.out 5 _ rfl
      have OA := Lib.hid (HA.out.keep ((Fr.refl No wr).alloc (.cells #[.int .i64 act, .int .u64 (off : Int), .int .i64 nn, .int .u64 (av : Int), .int .i64 src, .bool up] 68)))
      have BA := Lib.hid (Blk.new wr 68 #[.int .i64 act, .int .u64 (off : Int), .int .i64 nn, .int .u64 (av : Int), .int .i64 src, .bool up])
      have hxb : wr.heap.size ≠ b := fun e => by have := HA.out.pic.at_.seg.lt; omega
      have HAV := Lib.hid HXO.out.2
      have HOF := Lib.hid HXO.out.1
      clear HXO HC HA
      by_cases a0 : act = 0
      · subst a0
        by_cases o1 : off = 2097156
        · subst o1
          have hron : s.read 8192 4 = (s, s.on0, true) := rfl
          have hn0 := OA.out.inv.ok.n0
          obtain ⟨K, hK⟩ : ∃ K, K = av % 4294967296 := ⟨_, rfl⟩
          obtain ⟨m1, m2⟩ := rem32 av
          rw [← hK] at m1 m2
          have hwc : (s.write 2097156 4 av).1 = s.complete 0 K := by rw [hK]; rfl
          obtain ⟨y, hy⟩ : ∃ y, y = s.on0 := ⟨_, rfl⟩
          have hony : s.on 0 = y := by rw [hy]; rfl
          obtain ⟨e1, e2⟩ := bit_even y K
          rw [← hy] at hron hn0
          have HRON := Lib.hid hron
          clear hron hK hy
          by_cases hn4 : nn = 4
          · subst hn4
            by_cases hK0 : K = 0
            · subst hK0
              have HBZ : Hid ((s.write 2097156 4 av).1.busy = s.busy) := Lib.hid (by rw [hwc]; exact complete_same s 0 0 (by rw [hony, hn0]; simp))
              clear hwc hony hn0 e1 e2
              go_wp2_with fail
              refine (PRead_c _ b 0 s 8192 4 (by omega) OA.out.pic.at_ OA.out.pic.tz).mono ?_
              rw [HRON.out]
              simp only [readV]
              rintro e w4 ⟨rfl, hp, hf⟩
              have O4 := Lib.hid (OA.out.step OA.out.inv hp hf)
              have r1 : w4.cell? ⟨wr.heap.size, 1, none⟩ = some (.int .u64 2097156) := hf.fr.cell (BA.out.cell 1) hxb
              have r2 : w4.cell? ⟨wr.heap.size, 2, none⟩ = some (.int .i64 4) := hf.fr.cell (BA.out.cell 2) hxb
              have r3 : w4.cell? ⟨wr.heap.size, 3, none⟩ = some (.int .u64 (av : Int)) := hf.fr.cell (BA.out.cell 3) hxb
              clear hp hf
              go_wp2_with fail
              refine (PWrite_c _ b 0 s 2097156 4 av (by omega) HAV.out O4.out.pic.at_).mono ?_
              rintro e w5 ⟨rfl, hp, hf⟩
              have O5' := O4.out.step (O4.out.inv.write 2097156 4 av) hp hf
              have s2 := hf.fr.cell r2 hxb
              have s3 := hf.fr.cell r3 hxb
              clear hp hf
              have O5'' := O5'
              rw [← HBZ.out] at O5''
              have O5 := Lib.hid O5''
              clear O5' O5''
              go_wp2_with fail
              refine (stands_c _ _ b bb _ O5.out).mono ?_
              rintro e w9 ⟨rfl, h9⟩
              have O9 := Lib.hid h9
              clear h9
              go_wp2_with fail
              exact ⟨⟨k + 1, _, hlt, rfl, O9⟩, by simp [intOf]; omega⟩
            · by_cases hK31 : K ≤ 31
              · cases hb : y.testBit K
                · rw [hb] at e1 e2
                  have HBZ : Hid ((s.write 2097156 4 av).1.busy = s.busy) := Lib.hid (by rw [hwc]; exact complete_same s 0 K (by rw [hony, hb]; simp))
                  clear hwc hony hn0 hb
                  go_wp2_with fail
                  refine (PRead_c _ b 0 s 8192 4 (by omega) OA.out.pic.at_ OA.out.pic.tz).mono ?_
                  rw [HRON.out]
                  simp only [readV]
                  rintro e w4 ⟨rfl, hp, hf⟩
                  have O4 := Lib.hid (OA.out.step OA.out.inv hp hf)
                  have r1 : w4.cell? ⟨wr.heap.size, 1, none⟩ = some (.int .u64 2097156) := hf.fr.cell (BA.out.cell 1) hxb
                  have r2 : w4.cell? ⟨wr.heap.size, 2, none⟩ = some (.int .i64 4) := hf.fr.cell (BA.out.cell 2) hxb
                  have r3 : w4.cell? ⟨wr.heap.size, 3, none⟩ = some (.int .u64 (av : Int)) := hf.fr.cell (BA.out.cell 3) hxb
                  clear hp hf
                  go_wp2_with fail
                  refine (PWrite_c _ b 0 s 2097156 4 av (by omega) HAV.out O4.out.pic.at_).mono ?_
                  rintro e w5 ⟨rfl, hp, hf⟩
                  have O5' := O4.out.step (O4.out.inv.write 2097156 4 av) hp hf
                  have s2 := hf.fr.cell r2 hxb
                  have s3 := hf.fr.cell r3 hxb
                  clear hp hf
                  have O5'' := O5'
                  rw [← HBZ.out] at O5''
                  have O5 := Lib.hid O5''
                  clear O5' O5''
                  go_wp2_with fail
                  refine (stands_c _ _ b bb _ O5.out).mono ?_
                  rintro e w9 ⟨rfl, h9⟩
                  have O9 := Lib.hid h9
                  clear h9
                  go_wp2_with fail
                  exact ⟨⟨k + 1, _, hlt, rfl, O9⟩, by simp [intOf]; omega⟩
                · rw [hb] at e1 e2
                  have HBZ : Hid ((s.write 2097156 4 av).1.busy = setB s.busy K false) := Lib.hid (by rw [hwc]; exact complete_cut s 0 K hK31 (by rw [hony, hb]))
                  clear hwc hony hn0 hb
                  go_wp2_with fail
                  refine (PRead_c _ b 0 s 8192 4 (by omega) OA.out.pic.at_ OA.out.pic.tz).mono ?_
                  rw [HRON.out]
                  simp only [readV]
                  rintro e w4 ⟨rfl, hp, hf⟩
                  have O4 := Lib.hid (OA.out.step OA.out.inv hp hf)
                  have r1 : w4.cell? ⟨wr.heap.size, 1, none⟩ = some (.int .u64 2097156) := hf.fr.cell (BA.out.cell 1) hxb
                  have r2 : w4.cell? ⟨wr.heap.size, 2, none⟩ = some (.int .i64 4) := hf.fr.cell (BA.out.cell 2) hxb
                  have r3 : w4.cell? ⟨wr.heap.size, 3, none⟩ = some (.int .u64 (av : Int)) := hf.fr.cell (BA.out.cell 3) hxb
                  clear hp hf
                  go_wp2_with fail
                  refine (PWrite_c _ b 0 s 2097156 4 av (by omega) HAV.out O4.out.pic.at_).mono ?_
                  rintro e w5 ⟨rfl, hp, hf⟩
                  have O5' := O4.out.step (O4.out.inv.write 2097156 4 av) hp hf
                  have s2 := hf.fr.cell r2 hxb
                  have s3 := hf.fr.cell r3 hxb
                  clear hp hf
                  have O5'' := O5'.mark (k := K) (by omega) false
                  rw [← HBZ.out] at O5''
                  have O5 := Lib.hid O5''
                  have hfz := O5'.row.free
                  have qbb := O5'.busyAt (k := K) (by omega)
                  clear O5' O5''
                  go_wp2_with fail
                  refine (stands_c _ _ b bb _ O5.out).mono ?_
                  rintro e w9 ⟨rfl, h9⟩
                  have O9 := Lib.hid h9
                  clear h9
                  go_wp2_with fail
                  exact ⟨⟨k + 1, _, hlt, rfl, O9⟩, by simp [intOf]; omega⟩
              · have HBZ : Hid ((s.write 2097156 4 av).1.busy = s.busy) := Lib.hid (by rw [hwc]; exact complete_same s 0 K (fun q => hK31 q.1))
                clear hwc hony hn0 e1 e2
                go_wp2_with fail
                refine (PRead_c _ b 0 s 8192 4 (by omega) OA.out.pic.at_ OA.out.pic.tz).mono ?_
                rw [HRON.out]
                simp only [readV]
                rintro e w4 ⟨rfl, hp, hf⟩
                have O4 := Lib.hid (OA.out.step OA.out.inv hp hf)
                have r1 : w4.cell? ⟨wr.heap.size, 1, none⟩ = some (.int .u64 2097156) := hf.fr.cell (BA.out.cell 1) hxb
                have r2 : w4.cell? ⟨wr.heap.size, 2, none⟩ = some (.int .i64 4) := hf.fr.cell (BA.out.cell 2) hxb
                have r3 : w4.cell? ⟨wr.heap.size, 3, none⟩ = some (.int .u64 (av : Int)) := hf.fr.cell (BA.out.cell 3) hxb
                clear hp hf
                go_wp2_with fail
                refine (PWrite_c _ b 0 s 2097156 4 av (by omega) HAV.out O4.out.pic.at_).mono ?_
                rintro e w5 ⟨rfl, hp, hf⟩
                have O5' := O4.out.step (O4.out.inv.write 2097156 4 av) hp hf
                have s2 := hf.fr.cell r2 hxb
                have s3 := hf.fr.cell r3 hxb
                clear hp hf
                have O5'' := O5'
                rw [← HBZ.out] at O5''
                have O5 := Lib.hid O5''
                clear O5' O5''
                go_wp2_with fail
                refine (stands_c _ _ b bb _ O5.out).mono ?_
                rintro e w9 ⟨rfl, h9⟩
                have O9 := Lib.hid h9
                clear h9
                go_wp2_with fail
                exact ⟨⟨k + 1, _, hlt, rfl, O9⟩, by simp [intOf]; omega⟩
          · have hne4 : (nn == 4) = false := by rw [beq_eq_false_iff_ne]; exact hn4
            have HBZ : Hid ((s.write 2097156 nn av).1.busy = s.busy) := Lib.hid (by unfold PS.write; rw [if_pos hn4])
            clear hwc hony hn0 e1 e2
            go_wp2_with fail
            refine (PRead_c _ b 0 s 8192 4 (by omega) OA.out.pic.at_ OA.out.pic.tz).mono ?_
            rw [HRON.out]
            simp only [readV]
            rintro e w4 ⟨rfl, hp, hf⟩
            have O4 := Lib.hid (OA.out.step OA.out.inv hp hf)
            have r1 : w4.cell? ⟨wr.heap.size, 1, none⟩ = some (.int .u64 2097156) := hf.fr.cell (BA.out.cell 1) hxb
            have r2 : w4.cell? ⟨wr.heap.size, 2, none⟩ = some (.int .i64 nn) := hf.fr.cell (BA.out.cell 2) hxb
            have r3 : w4.cell? ⟨wr.heap.size, 3, none⟩ = some (.int .u64 (av : Int)) := hf.fr.cell (BA.out.cell 3) hxb
            clear hp hf
            go_wp2_with fail
            refine (PWrite_c _ b 0 s 2097156 nn av (by omega) HAV.out O4.out.pic.at_).mono ?_
            rintro e w5 ⟨rfl, hp, hf⟩
            have O5' := O4.out.step (O4.out.inv.write 2097156 nn av) hp hf
            have s2 := hf.fr.cell r2 hxb
            have s3 := hf.fr.cell r3 hxb
            clear hp hf
            have O5'' := O5'
            rw [← HBZ.out] at O5''
            have O5 := Lib.hid O5''
            clear O5' O5''
            go_wp2_with fail
            refine (stands_c _ _ b bb _ O5.out).mono ?_
            rintro e w9 ⟨rfl, h9⟩
            have O9 := Lib.hid h9
            clear h9
            go_wp2_with fail
            exact ⟨⟨k + 1, _, hlt, rfl, O9⟩, by simp [intOf]; omega⟩
        · by_cases o2 : off = 2101252
          · subst o2
            have hron : s.read 8320 4 = (s, s.on1, true) := rfl
            have hn0 := OA.out.inv.ok.n1
            obtain ⟨K, hK⟩ : ∃ K, K = av % 4294967296 := ⟨_, rfl⟩
            obtain ⟨m1, m2⟩ := rem32 av
            rw [← hK] at m1 m2
            have hwc : (s.write 2101252 4 av).1 = s.complete 1 K := by rw [hK]; rfl
            obtain ⟨y, hy⟩ : ∃ y, y = s.on1 := ⟨_, rfl⟩
            have hony : s.on 1 = y := by rw [hy]; rfl
            obtain ⟨e1, e2⟩ := bit_even y K
            rw [← hy] at hron hn0
            have HRON := Lib.hid hron
            clear hron hK hy
            by_cases hn4 : nn = 4
            · subst hn4
              by_cases hK0 : K = 0
              · subst hK0
                have HBZ : Hid ((s.write 2101252 4 av).1.busy = s.busy) := Lib.hid (by rw [hwc]; exact complete_same s 1 0 (by rw [hony, hn0]; simp))
                clear hwc hony hn0 e1 e2
                go_wp2_with fail
                refine (PRead_c _ b 0 s 8320 4 (by omega) OA.out.pic.at_ OA.out.pic.tz).mono ?_
                rw [HRON.out]
                simp only [readV]
                rintro e w4 ⟨rfl, hp, hf⟩
                have O4 := Lib.hid (OA.out.step OA.out.inv hp hf)
                have r1 : w4.cell? ⟨wr.heap.size, 1, none⟩ = some (.int .u64 2101252) := hf.fr.cell (BA.out.cell 1) hxb
                have r2 : w4.cell? ⟨wr.heap.size, 2, none⟩ = some (.int .i64 4) := hf.fr.cell (BA.out.cell 2) hxb
                have r3 : w4.cell? ⟨wr.heap.size, 3, none⟩ = some (.int .u64 (av : Int)) := hf.fr.cell (BA.out.cell 3) hxb
                clear hp hf
                go_wp2_with fail
                refine (PWrite_c _ b 0 s 2101252 4 av (by omega) HAV.out O4.out.pic.at_).mono ?_
                rintro e w5 ⟨rfl, hp, hf⟩
                have O5' := O4.out.step (O4.out.inv.write 2101252 4 av) hp hf
                have s2 := hf.fr.cell r2 hxb
                have s3 := hf.fr.cell r3 hxb
                clear hp hf
                have O5'' := O5'
                rw [← HBZ.out] at O5''
                have O5 := Lib.hid O5''
                clear O5' O5''
                go_wp2_with fail
                refine (stands_c _ _ b bb _ O5.out).mono ?_
                rintro e w9 ⟨rfl, h9⟩
                have O9 := Lib.hid h9
                clear h9
                go_wp2_with fail
                exact ⟨⟨k + 1, _, hlt, rfl, O9⟩, by simp [intOf]; omega⟩
              · by_cases hK31 : K ≤ 31
                · cases hb : y.testBit K
                  · rw [hb] at e1 e2
                    have HBZ : Hid ((s.write 2101252 4 av).1.busy = s.busy) := Lib.hid (by rw [hwc]; exact complete_same s 1 K (by rw [hony, hb]; simp))
                    clear hwc hony hn0 hb
                    go_wp2_with fail
                    refine (PRead_c _ b 0 s 8320 4 (by omega) OA.out.pic.at_ OA.out.pic.tz).mono ?_
                    rw [HRON.out]
                    simp only [readV]
                    rintro e w4 ⟨rfl, hp, hf⟩
                    have O4 := Lib.hid (OA.out.step OA.out.inv hp hf)
                    have r1 : w4.cell? ⟨wr.heap.size, 1, none⟩ = some (.int .u64 2101252) := hf.fr.cell (BA.out.cell 1) hxb
                    have r2 : w4.cell? ⟨wr.heap.size, 2, none⟩ = some (.int .i64 4) := hf.fr.cell (BA.out.cell 2) hxb
                    have r3 : w4.cell? ⟨wr.heap.size, 3, none⟩ = some (.int .u64 (av : Int)) := hf.fr.cell (BA.out.cell 3) hxb
                    clear hp hf
                    go_wp2_with fail
                    refine (PWrite_c _ b 0 s 2101252 4 av (by omega) HAV.out O4.out.pic.at_).mono ?_
                    rintro e w5 ⟨rfl, hp, hf⟩
                    have O5' := O4.out.step (O4.out.inv.write 2101252 4 av) hp hf
                    have s2 := hf.fr.cell r2 hxb
                    have s3 := hf.fr.cell r3 hxb
                    clear hp hf
                    have O5'' := O5'
                    rw [← HBZ.out] at O5''
                    have O5 := Lib.hid O5''
                    clear O5' O5''
                    go_wp2_with fail
                    refine (stands_c _ _ b bb _ O5.out).mono ?_
                    rintro e w9 ⟨rfl, h9⟩
                    have O9 := Lib.hid h9
                    clear h9
                    go_wp2_with fail
                    exact ⟨⟨k + 1, _, hlt, rfl, O9⟩, by simp [intOf]; omega⟩
                  · rw [hb] at e1 e2
                    have HBZ : Hid ((s.write 2101252 4 av).1.busy = setB s.busy K false) := Lib.hid (by rw [hwc]; exact complete_cut s 1 K hK31 (by rw [hony, hb]))
                    clear hwc hony hn0 hb
                    go_wp2_with fail
                    refine (PRead_c _ b 0 s 8320 4 (by omega) OA.out.pic.at_ OA.out.pic.tz).mono ?_
                    rw [HRON.out]
                    simp only [readV]
                    rintro e w4 ⟨rfl, hp, hf⟩
                    have O4 := Lib.hid (OA.out.step OA.out.inv hp hf)
                    have r1 : w4.cell? ⟨wr.heap.size, 1, none⟩ = some (.int .u64 2101252) := hf.fr.cell (BA.out.cell 1) hxb
                    have r2 : w4.cell? ⟨wr.heap.size, 2, none⟩ = some (.int .i64 4) := hf.fr.cell (BA.out.cell 2) hxb
                    have r3 : w4.cell? ⟨wr.heap.size, 3, none⟩ = some (.int .u64 (av : Int)) := hf.fr.cell (BA.out.cell 3) hxb
                    clear hp hf
                    go_wp2_with fail
                    refine (PWrite_c _ b 0 s 2101252 4 av (by omega) HAV.out O4.out.pic.at_).mono ?_
                    rintro e w5 ⟨rfl, hp, hf⟩
                    have O5' := O4.out.step (O4.out.inv.write 2101252 4 av) hp hf
                    have s2 := hf.fr.cell r2 hxb
                    have s3 := hf.fr.cell r3 hxb
                    clear hp hf
                    have O5'' := O5'.mark (k := K) (by omega) false
                    rw [← HBZ.out] at O5''
                    have O5 := Lib.hid O5''
                    have hfz := O5'.row.free
                    have qbb := O5'.busyAt (k := K) (by omega)
                    clear O5' O5''
                    go_wp2_with fail
                    refine (stands_c _ _ b bb _ O5.out).mono ?_
                    rintro e w9 ⟨rfl, h9⟩
                    have O9 := Lib.hid h9
                    clear h9
                    go_wp2_with fail
                    exact ⟨⟨k + 1, _, hlt, rfl, O9⟩, by simp [intOf]; omega⟩
                · have HBZ : Hid ((s.write 2101252 4 av).1.busy = s.busy) := Lib.hid (by rw [hwc]; exact complete_same s 1 K (fun q => hK31 q.1))
                  clear hwc hony hn0 e1 e2
                  go_wp2_with fail
                  refine (PRead_c _ b 0 s 8320 4 (by omega) OA.out.pic.at_ OA.out.pic.tz).mono ?_
                  rw [HRON.out]
                  simp only [readV]
                  rintro e w4 ⟨rfl, hp, hf⟩
                  have O4 := Lib.hid (OA.out.step OA.out.inv hp hf)
                  have r1 : w4.cell? ⟨wr.heap.size, 1, none⟩ = some (.int .u64 2101252) := hf.fr.cell (BA.out.cell 1) hxb
                  have r2 : w4.cell? ⟨wr.heap.size, 2, none⟩ = some (.int .i64 4) := hf.fr.cell (BA.out.cell 2) hxb
                  have r3 : w4.cell? ⟨wr.heap.size, 3, none⟩ = some (.int .u64 (av : Int)) := hf.fr.cell (BA.out.cell 3) hxb
                  clear hp hf
                  go_wp2_with fail
                  refine (PWrite_c _ b 0 s 2101252 4 av (by omega) HAV.out O4.out.pic.at_).mono ?_
                  rintro e w5 ⟨rfl, hp, hf⟩
                  have O5' := O4.out.step (O4.out.inv.write 2101252 4 av) hp hf
                  have s2 := hf.fr.cell r2 hxb
                  have s3 := hf.fr.cell r3 hxb
                  clear hp hf
                  have O5'' := O5'
                  rw [← HBZ.out] at O5''
                  have O5 := Lib.hid O5''
                  clear O5' O5''
                  go_wp2_with fail
                  refine (stands_c _ _ b bb _ O5.out).mono ?_
                  rintro e w9 ⟨rfl, h9⟩
                  have O9 := Lib.hid h9
                  clear h9
                  go_wp2_with fail
                  exact ⟨⟨k + 1, _, hlt, rfl, O9⟩, by simp [intOf]; omega⟩
            · have hne4 : (nn == 4) = false := by rw [beq_eq_false_iff_ne]; exact hn4
              have HBZ : Hid ((s.write 2101252 nn av).1.busy = s.busy) := Lib.hid (by unfold PS.write; rw [if_pos hn4])
              clear hwc hony hn0 e1 e2
              go_wp2_with fail
              refine (PRead_c _ b 0 s 8320 4 (by omega) OA.out.pic.at_ OA.out.pic.tz).mono ?_
              rw [HRON.out]
              simp only [readV]
              rintro e w4 ⟨rfl, hp, hf⟩
              have O4 := Lib.hid (OA.out.step OA.out.inv hp hf)
              have r1 : w4.cell? ⟨wr.heap.size, 1, none⟩ = some (.int .u64 2101252) := hf.fr.cell (BA.out.cell 1) hxb
              have r2 : w4.cell? ⟨wr.heap.size, 2, none⟩ = some (.int .i64 nn) := hf.fr.cell (BA.out.cell 2) hxb
              have r3 : w4.cell? ⟨wr.heap.size, 3, none⟩ = some (.int .u64 (av : Int)) := hf.fr.cell (BA.out.cell 3) hxb
              clear hp hf
              go_wp2_with fail
              refine (PWrite_c _ b 0 s 2101252 nn av (by omega) HAV.out O4.out.pic.at_).mono ?_
              rintro e w5 ⟨rfl, hp, hf⟩
              have O5' := O4.out.step (O4.out.inv.write 2101252 nn av) hp hf
              have s2 := hf.fr.cell r2 hxb
              have s3 := hf.fr.cell r3 hxb
              clear hp hf
              have O5'' := O5'
              rw [← HBZ.out] at O5''
              have O5 := Lib.hid O5''
              clear O5' O5''
              go_wp2_with fail
              refine (stands_c _ _ b bb _ O5.out).mono ?_
              rintro e w9 ⟨rfl, h9⟩
              have O9 := Lib.hid h9
              clear h9
              go_wp2_with fail
              exact ⟨⟨k + 1, _, hlt, rfl, O9⟩, by simp [intOf]; omega⟩
          · have hne1 : ((off : Int) == 2097156) = false := by rw [beq_eq_false_iff_ne]; omega
            have hne2 : ((off : Int) == 2101252) = false := by rw [beq_eq_false_iff_ne]; omega
            have hbz := PS.write_busy s off nn av o1 o2
            clear o1 o2
            go_wp2_with fail
            refine (PWrite_c _ b 0 s off nn av HOF.out HAV.out OA.out.pic.at_).mono ?_
            rintro e w5 ⟨rfl, hp, hf⟩
            have O5' := OA.out.step (OA.out.inv.write off nn av) hp hf
            rw [← hbz] at O5'
            have O5 := Lib.hid O5'
            have s2 : w5.cell? ⟨wr.heap.size, 2, none⟩ = some (.int .i64 nn) := hf.fr.cell (BA.out.cell 2) hxb
            have s3 : w5.cell? ⟨wr.heap.size, 3, none⟩ = some (.int .u64 (av : Int)) := hf.fr.cell (BA.out.cell 3) hxb
            clear hp hf hbz O5'
            go_wp2_with fail
            refine (stands_c _ _ b bb _ O5.out).mono ?_
            rintro e w9 ⟨rfl, h9⟩
            have O9 := Lib.hid h9
            clear h9
            go_wp2_with fail
            exact ⟨⟨k + 1, _, hlt, rfl, O9⟩, by simp [intOf]; omega⟩
      · have a0' : (act == 0) = false := by rw [beq_eq_false_iff_ne]; exact a0
        by_cases a1 : act = 1
        · subst a1
          by_cases o1 : off = 2097156
          · subst o1
            by_cases hn4 : nn = 4
            · subst hn4
              have hcl := claims_hit0 w _ b bb s ⟨1, 2097156, 4, av, src, up⟩ rfl rfl OA.out
              have HCL := Lib.hid hcl
              clear hcl
              go_wp2_with fail
              refine HCL.out.mono ?_
              rintro e w5 ⟨rfl, h5⟩
              have O5 := Lib.hid h5
              clear h5
              go_wp2_with fail
              refine (stands_c _ _ b bb _ O5.out).mono ?_
              rintro e w9 ⟨rfl, h9⟩
              have O9 := Lib.hid h9
              clear h9
              go_wp2_with fail
              exact ⟨⟨k + 1, _, hlt, rfl, O9⟩, by simp [intOf]; omega⟩
            · have hcl := claims_none w _ b bb s ⟨1, 2097156, nn, av, src, up⟩ ⟨HOF.out, HAV.out⟩ OA.out (.inr hn4)
              rw [show ctxI (PAct.off ⟨1, 2097156, nn, av, src, up⟩) = 0 from rfl] at hcl
              have HCL := Lib.hid hcl
              clear hcl
              go_wp2_with fail
              refine HCL.out.mono ?_
              rintro e w5 ⟨rfl, h5⟩
              have O5 := Lib.hid h5
              clear h5
              go_wp2_with fail
              refine (stands_c _ _ b bb _ O5.out).mono ?_
              rintro e w9 ⟨rfl, h9⟩
              have O9 := Lib.hid h9
              clear h9
              go_wp2_with fail
              exact ⟨⟨k + 1, _, hlt, rfl, O9⟩, by simp [intOf]; omega⟩
          · by_cases o2 : off = 2101252
            · subst o2
              by_cases hn4 : nn = 4
              · subst hn4
                have hcl := claims_hit1 w _ b bb s ⟨1, 2101252, 4, av, src, up⟩ rfl rfl OA.out
                have HCL := Lib.hid hcl
                clear hcl
                go_wp2_with fail
                refine HCL.out.mono ?_
                rintro e w5 ⟨rfl, h5⟩
                have O5 := Lib.hid h5
                clear h5
                go_wp2_with fail
                refine (stands_c _ _ b bb _ O5.out).mono ?_
                rintro e w9 ⟨rfl, h9⟩
                have O9 := Lib.hid h9
                clear h9
                go_wp2_with fail
                exact ⟨⟨k + 1, _, hlt, rfl, O9⟩, by simp [intOf]; omega⟩
              · have hcl := claims_none w _ b bb s ⟨1, 2101252, nn, av, src, up⟩ ⟨HOF.out, HAV.out⟩ OA.out (.inr hn4)
                rw [show ctxI (PAct.off ⟨1, 2101252, nn, av, src, up⟩) = 1 from rfl] at hcl
                have HCL := Lib.hid hcl
                clear hcl
                go_wp2_with fail
                refine HCL.out.mono ?_
                rintro e w5 ⟨rfl, h5⟩
                have O5 := Lib.hid h5
                clear h5
                go_wp2_with fail
                refine (stands_c _ _ b bb _ O5.out).mono ?_
                rintro e w9 ⟨rfl, h9⟩
                have O9 := Lib.hid h9
                clear h9
                go_wp2_with fail
                exact ⟨⟨k + 1, _, hlt, rfl, O9⟩, by simp [intOf]; omega⟩
            · have hci : ctxI (PAct.off ⟨1, off, nn, av, src, up⟩) = -1 := by
                show (if off = 2101252 then (1 : Int) else if off = 2097156 then 0 else -1) = -1
                rw [if_neg o2, if_neg o1]
              have hcl := claims_none w _ b bb s ⟨1, off, nn, av, src, up⟩ ⟨HOF.out, HAV.out⟩ OA.out (.inl hci)
              rw [hci] at hcl
              have hne1 : ((off : Int) == 2097156) = false := by rw [beq_eq_false_iff_ne]; omega
              have hne2 : ((off : Int) == 2101252) = false := by rw [beq_eq_false_iff_ne]; omega
              clear o1 o2 hci
              have HCL := Lib.hid hcl
              clear hcl
              go_wp2_with fail
              refine HCL.out.mono ?_
              rintro e w5 ⟨rfl, h5⟩
              have O5 := Lib.hid h5
              clear h5
              go_wp2_with fail
              refine (stands_c _ _ b bb _ O5.out).mono ?_
              rintro e w9 ⟨rfl, h9⟩
              have O9 := Lib.hid h9
              clear h9
              go_wp2_with fail
              exact ⟨⟨k + 1, _, hlt, rfl, O9⟩, by simp [intOf]; omega⟩
        · have a1' : (act == 1) = false := by rw [beq_eq_false_iff_ne]; exact a1
          by_cases a2 : act = 2
          · subst a2
            by_cases o1 : off = 2097156
            · subst o1
              have hbz := PS.level_busy s src up
              go_wp2_with fail
              refine (Level_c _ b 0 s src up OA.out.pic.at_).mono ?_
              rintro e w5 ⟨rfl, hp, hf⟩
              have O5' := OA.out.step (OA.out.inv.level src up) hp hf
              rw [← hbz] at O5'
              have O5 := Lib.hid O5'
              clear hp hf hbz O5'
              go_wp2_with fail
              refine (stands_c _ _ b bb _ O5.out).mono ?_
              rintro e w9 ⟨rfl, h9⟩
              have O9 := Lib.hid h9
              clear h9
              go_wp2_with fail
              exact ⟨⟨k + 1, _, hlt, rfl, O9⟩, by simp [intOf]; omega⟩
            · by_cases o2 : off = 2101252
              · subst o2
                have hbz := PS.level_busy s src up
                go_wp2_with fail
                refine (Level_c _ b 0 s src up OA.out.pic.at_).mono ?_
                rintro e w5 ⟨rfl, hp, hf⟩
                have O5' := OA.out.step (OA.out.inv.level src up) hp hf
                rw [← hbz] at O5'
                have O5 := Lib.hid O5'
                clear hp hf hbz O5'
                go_wp2_with fail
                refine (stands_c _ _ b bb _ O5.out).mono ?_
                rintro e w9 ⟨rfl, h9⟩
                have O9 := Lib.hid h9
                clear h9
                go_wp2_with fail
                exact ⟨⟨k + 1, _, hlt, rfl, O9⟩, by simp [intOf]; omega⟩
              · have hne1 : ((off : Int) == 2097156) = false := by rw [beq_eq_false_iff_ne]; omega
                have hne2 : ((off : Int) == 2101252) = false := by rw [beq_eq_false_iff_ne]; omega
                clear o1 o2
                have hbz := PS.level_busy s src up
                go_wp2_with fail
                refine (Level_c _ b 0 s src up OA.out.pic.at_).mono ?_
                rintro e w5 ⟨rfl, hp, hf⟩
                have O5' := OA.out.step (OA.out.inv.level src up) hp hf
                rw [← hbz] at O5'
                have O5 := Lib.hid O5'
                clear hp hf hbz O5'
                go_wp2_with fail
                refine (stands_c _ _ b bb _ O5.out).mono ?_
                rintro e w9 ⟨rfl, h9⟩
                have O9 := Lib.hid h9
                clear h9
                go_wp2_with fail
                exact ⟨⟨k + 1, _, hlt, rfl, O9⟩, by simp [intOf]; omega⟩
          · have a2' : (act == 2) = false := by rw [beq_eq_false_iff_ne]; exact a2
            by_cases o1 : off = 2097156
            · subst o1
              go_wp2_with fail
              refine (stands_c _ _ b bb _ OA.out).mono ?_
              rintro e w9 ⟨rfl, h9⟩
              have O9 := Lib.hid h9
              clear h9
              go_wp2_with fail
              exact ⟨⟨k + 1, _, hlt, rfl, O9⟩, by simp [intOf]; omega⟩
            · by_cases o2 : off = 2101252
              · subst o2
                go_wp2_with fail
                refine (stands_c _ _ b bb _ OA.out).mono ?_
                rintro e w9 ⟨rfl, h9⟩
                have O9 := Lib.hid h9
                clear h9
                go_wp2_with fail
                exact ⟨⟨k + 1, _, hlt, rfl, O9⟩, by simp [intOf]; omega⟩
              · have hne1 : ((off : Int) == 2097156) = false := by rw [beq_eq_false_iff_ne]; omega
                have hne2 : ((off : Int) == 2101252) = false := by rw [beq_eq_false_iff_ne]; omega
                clear o1 o2
                go_wp2_with fail
                refine (stands_c _ _ b bb _ OA.out).mono ?_
                rintro e w9 ⟨rfl, h9⟩
                have O9 := Lib.hid h9
                clear h9
                go_wp2_with fail
                exact ⟨⟨k + 1, _, hlt, rfl, O9⟩, by simp [intOf]; omega⟩
    · clear HR HO
      go_wp2_with fail
      go_ret
      exact ⟨rfl, HA.out.pic.fr⟩
end Go.Proofs.YtcnglhneknbllaaDoor

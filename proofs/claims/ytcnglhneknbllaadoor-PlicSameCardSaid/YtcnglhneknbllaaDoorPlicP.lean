/-
  The statement PlicPlays: its walk.
-/
import Derived.Test.YtcnglhneknbllaaDoorRP8
import Derived.Test.YtcnglhneknbllaaDoorPacts
namespace Go.Proofs.YtcnglhneknbllaaDoor
open Go Go.RowKit PS

/-- Since w0 two controllers have been laid side by side, and nothing that was there has changed. -/
structure Duo1 (w0 w : World) (b r : Nat) (s : PS) : Prop where
  duo : Duo w b r s
  fr : Fr No w0 w
  nb : w0.heap.size ≤ b
  nr : w0.heap.size ≤ r
  lt : 1 < w0.heap.size
namespace Duo1
variable {w0 w w' : World} {b r : Nat} {s s' : PS}
theorem keep (h : Duo1 w0 w b r s) (hf : Fr No w w') : Duo1 w0 w' b r s := ⟨h.duo.keep hf, h.fr.trans hf, h.nb, h.nr, h.lt⟩
theorem step (h : Duo1 w0 w b r s) (hd : Duo w' b r s') (hf : Fr (Or2 (One b) (One r)) w w') : Duo1 w0 w' b r s' :=
  ⟨hd, h.fr.andThen hf (fun k hk q => by
    have h1 := h.nb
    have h2 := h.nr
    rcases q with q | q
    · have : k = b := q
      omega
    · have : k = r := q
      omega), h.nb, h.nr, h.lt⟩
/-- What happens in a block that is neither's, and was laid since. -/
theorem far (h : Duo1 w0 w b r s) {x : Nat} (hx : w0.heap.size ≤ x) (hxb : x ≠ b) (hxr : x ≠ r) (hf : Fr (One x) w w') : Duo1 w0 w' b r s :=
  ⟨⟨h.duo.tz.fr hf (fun q => by have : 1 = x := q; have := h.lt; omega), h.duo.pic.fr hf (fun q => hxb (Eq.symm q)), h.duo.ref.fr hf (fun q => hxr (Eq.symm q)), h.duo.ne, h.duo.nb, h.duo.nr⟩,
    h.fr.andThen hf (fun k hk q => by have : k = x := q; omega), h.nb, h.nr, h.lt⟩
/-- One of them is copied into a block of its own. -/
theorem copy (h : Duo1 w0 w b r s) (t : TypeId) (old : Array Value) : Duo1 w0 ((w.alloc (.cells old t)).setRow w.heap.size (plist s).toArray) b r s ∧ PicAt ((w.alloc (.cells old t)).setRow w.heap.size (plist s).toArray) w.heap.size 0 s ∧
    w0.heap.size ≤ w.heap.size ∧ w.heap.size ≠ b ∧ w.heap.size ≠ r ∧ 1 < w0.heap.size := by
  have h2 := setRow_fr w (.cells old t) (plist s).toArray
  have hb : Blk ((w.alloc (.cells old t)).setRow w.heap.size (plist s).toArray) w.heap.size t (plist s).toArray := setRow_heap _ _ _ _ _ _ (heap_alloc_new w _)
  have h3 := h.duo.pic.seg.lt
  have h4 := h.duo.ref.seg.lt
  exact ⟨h.keep h2, ⟨h.duo.pic.ok, Seg.of_blk hb⟩, h.fr.size, by omega, by omega, h.lt⟩
end Duo1
theorem info66 : (Tryd.prog.info? 66).map (·.size) = some 194 := infoRP
theorem one_rlist (s : PS) : (rlist s).toArray.all (·.oneCell') = true := by
  refine all_oneCell_toArray fun v hv => ?_
  obtain ⟨j, _, rfl⟩ := List.mem_map.1 hv
  unfold rv rvf
  split
  · split <;> rfl
  · split <;> rfl
theorem Duo1.start {w0 w1 : World} {b : Nat} (h : Pic1 w0 w1 b PS.new) (t : TypeId) (old : Array Value) (cs : Array Value) (hc : cs = (rlist PS.new).toArray) : Duo1 w0 ((w1.alloc (.cells old t)).setRow w1.heap.size cs) b w1.heap.size PS.new := by
  subst hc
  have h2 := setRow_fr w1 (.cells old t) (rlist PS.new).toArray
  have hb : Blk ((w1.alloc (.cells old t)).setRow w1.heap.size (rlist PS.new).toArray) w1.heap.size t (rlist PS.new).toArray := setRow_heap _ _ _ _ _ _ (heap_alloc_new w1 _)
  have h3 := h.at_.seg.lt
  have h4 := h.fr.size
  have h5 := h.lt
  have h6 := h.new
  exact ⟨⟨h.tz.fr h2 (fun q => q), h.at_.fr h2 (fun q => q), ⟨PS.ok_new, Seg.of_blk hb⟩, by omega, by omega, by omega⟩, h.fr.trans h2, h6, h4, h5⟩
set_option maxRecDepth 100000 in
set_option maxHeartbeats 16000000 in
theorem PlicPlays_c (w : World) (hT : TzAt w) (v : Value) (xs : List PAct) (hr : Rd w v xs.length (pactCells xs)) (hok : ∀ x ∈ xs, x.Ok) (source ctx : Int) :
    Calls Tryd.prog 9 #[v, .int .i64 source, .int .i64 ctx] w fun e w' => e = .returned (.bool true) ∧ Fr No w w' := by
  have HT := Lib.hid hT
  have HR := Lib.hid hr
  have HO := Lib.hid hok
  obtain ⟨a, c, rfl, hnc, hcm, _, _⟩ := hr
  obtain ⟨n, hn⟩ : ∃ n, n = xs.length := ⟨_, rfl⟩
  rw [← hn] at HR hnc ⊢
  have HN := Lib.hid hn
  unfold maxLen at hcm
  clear hT hok hn
  go_enter Tryd.func9, Tryd.ntmps9
  go_wp2_with fail
  refine (pawake_c w HT.out).mono ?_
  rintro e w0 ⟨rfl, hf0⟩
  have F0 := Lib.hid hf0
  clear hf0
  by_cases h1 : n ≤ 200
  case neg =>
    go_wp2_with fail
    go_ret
    exact ⟨rfl, F0.out⟩
  go_wp2_with fail
  refine (PNew_c w0).mono ?_
  rintro e w1 ⟨rfl, hf1⟩
  have F1 := Lib.hid (F0.out.trans hf1)
  clear hf1
  go_upto_region 6 with (first
    | (refine wpList_store_row rfl 48 _ _ rfl _ _ rfl rfl _ _ (heap_alloc_new _ _) infoPic rfl (one_plist _) ?_))
  have h2_ := fun t old => Pic1.laid HT.out F1.out t old PS.new PS.ok_new
  generalize hW : (World.setRow _ _ _) = w2
  have Q2 := Lib.hid (by rw [← hW]; exact h2_ _ _ : Pic1 w w2 w1.heap.size PS.new)
  obtain ⟨b, hb⟩ : ∃ b, b = w1.heap.size := ⟨_, rfl⟩
  rw [← hb] at Q2 ⊢
  clear h2_ hW hb F1
  go_wp2_with (first
    | (refine wpList_store_row rfl 66 _ _ rfl _ _ rfl rfl _ _ (heap_alloc_new _ _) info66 rfl (by kernel_rfl) ?_))
  have h3_ := fun t old cs hc => Duo1.start Q2.out t old cs hc
  generalize hW : (World.setRow _ _ _) = w3
  have D3 := Lib.hid (by rw [← hW]; exact h3_ _ _ _ (by kernel_rfl) : Duo1 w w3 b w2.heap.size PS.new)
  obtain ⟨r, hr'⟩ : ∃ r, r = w2.heap.size := ⟨_, rfl⟩
  rw [← hr'] at D3 ⊢
  clear h3_ hW hr' Q2 F0
  go_loopw [9] (fun i wr => ∃ (k : Nat) (s : PS), k ≤ n ∧ i = .int .i64 (k : Int) ∧ Hid (Duo1 w wr b r s)) (fun i _ => n - (intOf i).toNat)
  case atStart => exact ⟨0, _, Nat.zero_le _, rfl, D3⟩
  case round =>
    obtain ⟨k, s, hkn, rfl, HA⟩ := hrel
    by_cases hlt : k < n
    · have hlt' : k < xs.length := by rw [← HN.out]; exact hlt
      have hR := HR.out
      rw [HN.out] at hR
      obtain ⟨g, o, c', hv, hcs⟩ := hR.pactsAt hlt'
      cases hv
      obtain ⟨x, hx⟩ : ∃ x, x = xs[k] := ⟨_, rfl⟩
      have hxo := HO.out _ (List.getElem_mem hlt')
      rw [← hx] at hcs hxo
      have HC := Lib.hid hcs
      have HXO := Lib.hid hxo
      clear hcs hxo hx hR
      obtain ⟨act, off, nn, av, src, up⟩ := x
      have q0 : wr.cell? ⟨g, o + k * 6, none⟩ = some (.int .i64 act) := HC.out wr HA.out.fr 0 _ rfl
      have q1 : wr.cell? ⟨g, o + k * 6 + 1, none⟩ = some (.int .u64 (off : Int)) := HC.out wr HA.out.fr 1 _ rfl
      have q2 : wr.cell? ⟨g, o + k * 6 + 2, none⟩ = some (.int .i64 nn) := HC.out wr HA.out.fr 2 _ rfl
      have q3 : wr.cell? ⟨g, o + k * 6 + 3, none⟩ = some (.int .u64 (av : Int)) := HC.out wr HA.out.fr 3 _ rfl
      have q4 : wr.cell? ⟨g, o + k * 6 + 4, none⟩ = some (.int .i64 src) := HC.out wr HA.out.fr 4 _ rfl
      have q5 : wr.cell? ⟨g, o + k * 6 + 5, none⟩ = some (.bool up) := HC.out wr HA.out.fr 5 _ rfl
      by_cases a3 : act = 3
      · subst a3
        go_wp2_with (first
          | (refine wpList_load_seg rfl 48 _ rfl _ _ rfl _ HA.out.duo.pic.seg _ Tryd.underlying48 rfl (infoPl HA.out.duo.pic.ok) ?_)
          | (refine wpList_store_row rfl 48 _ _ rfl _ _ rfl rfl _ _ (heap_alloc_new _ _) (infoPl HA.out.duo.pic.ok) (plist_len HA.out.duo.pic.ok).symm (one_plist _) ?_))
        have h4_ := fun t old => HA.out.copy t old
        generalize hW : (World.setRow _ _ _) = w4
        have D4' : Duo1 w w4 b r s ∧ PicAt w4 wr.heap.size 0 s ∧ w.heap.size ≤ wr.heap.size ∧ wr.heap.size ≠ b ∧ wr.heap.size ≠ r ∧ 1 < w.heap.size := by rw [← hW]; exact h4_ _ _
        obtain ⟨y, hy⟩ : ∃ y, y = wr.heap.size := ⟨_, rfl⟩
        rw [← hy] at D4' ⊢
        have HY := Lib.hid D4'.2.2
        have P4 := Lib.hid D4'.2.1
        have D4 := Lib.hid D4'.1
        clear h4_ hW hy D4' q0 q1 q2 q3 q4 q5
        go_wp2_with fail
        refine (PRead_c _ y 0 s 2097156 4 (by omega) P4.out D4.out.duo.tz).mono ?_
        rintro e w5 ⟨rfl, hp, hf⟩
        have D5 := Lib.hid (D4.out.far HY.out.1 HY.out.2.1 HY.out.2.2.1 hf.fr)
        clear hf P4
        generalize PS.read s 2097156 4 = z5 at hp ⊢
        have P5 := Lib.hid hp
        clear hp
        simp only [readV]
        go_wp2_with fail
        refine (PRead_c _ y 0 z5.1 2101252 4 (by omega) P5.out D5.out.duo.tz).mono ?_
        rintro e w6 ⟨rfl, hp, hf⟩
        have D6 := Lib.hid (D5.out.far HY.out.1 HY.out.2.1 HY.out.2.2.1 hf.fr)
        clear hf P5
        generalize PS.read z5.1 2101252 4 = z6 at hp ⊢
        have P6 := Lib.hid hp
        clear hp
        simp only [readV]
        have q4 : w6.cell? ⟨g, o + k * 6 + 4, none⟩ = some (.int .i64 src) := HC.out w6 D6.out.fr 4 _ rfl
        have q5 : w6.cell? ⟨g, o + k * 6 + 5, none⟩ = some (.bool up) := HC.out w6 D6.out.fr 5 _ rfl
        go_wp2_with fail
        go_region_held (fun w' => w'.cell? ⟨g, o + k * 6 + 4, none⟩ = some (.int .i64 src) ∧ w'.cell? ⟨g, o + k * 6 + 5, none⟩ = some (.bool up))
          (first | exact ⟨q4, q5⟩ | exact ⟨k4, k5⟩)
          ((go_at_call 29; refine (Level_c _ y 0 z6.1 src up P6.out.drew).mono ?_; rintro e w7 ⟨rfl, hp7, hf7⟩; have D7 := Lib.hid ((D6.out.keep (Fr.refl No _).drew).far HY.out.1 HY.out.2.1 HY.out.2.2.1 hf7.fr); have k4 := HC.out w7 D7.out.fr 4 _ rfl; have k5 := HC.out w7 D7.out.fr 5 _ rfl; dsimp only at k4 k5; clear hp7 hf7))
        clear q4 q5 k4 k5
        have q0 : w7.cell? ⟨g, o + k * 6, none⟩ = some (.int .i64 3) := HC.out w7 D7.out.fr 0 _ rfl
        have q1 : w7.cell? ⟨g, o + k * 6 + 1, none⟩ = some (.int .u64 (off : Int)) := HC.out w7 D7.out.fr 1 _ rfl
        have q2 : w7.cell? ⟨g, o + k * 6 + 2, none⟩ = some (.int .i64 nn) := HC.out w7 D7.out.fr 2 _ rfl
        have q3 : w7.cell? ⟨g, o + k * 6 + 3, none⟩ = some (.int .u64 (av : Int)) := HC.out w7 D7.out.fr 3 _ rfl
        have q4 : w7.cell? ⟨g, o + k * 6 + 4, none⟩ = some (.int .i64 src) := HC.out w7 D7.out.fr 4 _ rfl
        have q5 : w7.cell? ⟨g, o + k * 6 + 5, none⟩ = some (.bool up) := HC.out w7 D7.out.fr 5 _ rfl
        clear P6 D6 D5 D4 HA
        go_wp2_with fail
        refine (both_c _ b r s ⟨3, off, nn, av, src, up⟩ HXO.out D7.out.duo).mono ?_
        rintro e w8 ⟨rfl, hd, hf⟩
        have D8 := Lib.hid (D7.out.step hd hf)
        clear hd hf
        generalize PAct.step _ s = s8 at D8
        go_wp2_with fail
        go_loopw [11] (fun c wz => ∃ cc : Int, -1 ≤ cc ∧ cc ≤ 3 ∧ c = .int .i64 cc ∧ Hid (Duo1 w wz b r s8)) (fun c _ => (3 - intOf c).toNat)
        case atStart => exact ⟨-1, by omega, by omega, rfl, D8⟩
        case round =>
          obtain ⟨cc, hc1, hc2, rfl, HD⟩ := hrel
          by_cases hc3 : cc < 3
          · have HOK := Lib.hid HD.out.duo.pic.ok
            go_wp2_with fail
            refine wp_region_held_drew (S := fun w' => Duo1 w w' b r s8) (by kernel_rfl) (HD.out.keep (Fr.refl No _).drew) (fun hHeld => ?_)
            refine' tk0 (v := .agg (plist s8).toArray) (by kernel_rfl) (by kernel_rfl) (by kernel_rfl) (fun _ _ _ h => h) (by rfl) ?hy6 (by assumption) ?rest6
            case hy6 => (intro wq hSq; exact exec_load_seg 48 (.tmp 7) rfl b 0 rfl _ hSq.duo.pic.seg _ Tryd.underlying48 rfl (infoPl hSq.duo.pic.ok))
            simp only [Act.put, List.setIfInBounds_toArray, List.set_cons_zero, List.set_cons_succ]
            refine' tk1 (v := _) (by kernel_rfl) (by kernel_rfl) (by kernel_rfl) (fun _ _ _ h => h) (by rfl) ?hy7 (by assumption) ?rest7
            case hy7 => (intro wq hSq; (try dsimp only at hSq); go_simp; try with_reducible rfl)
            simp only [Act.put, List.setIfInBounds_toArray, List.set_cons_zero, List.set_cons_succ]
            refine' tk3 (v := .agg (rlist s8).toArray) (by kernel_rfl) (by kernel_rfl) (by kernel_rfl) (fun _ _ _ h => h) (by rfl) ?hy8 (by assumption) ?rest8
            case hy8 => (intro wq hSq; exact exec_load_seg 66 (.tmp 8) rfl r 0 rfl _ hSq.duo.ref.seg _ Tryd.underlying66 rfl (infoRl _))
            simp only [Act.put, List.setIfInBounds_toArray, List.set_cons_zero, List.set_cons_succ]
            refine' tk4 (v := _) (by kernel_rfl) (by kernel_rfl) (by kernel_rfl) (fun _ _ _ h => h) (by rfl) ?hy9 (by assumption) ?rest9
            case hy9 => (intro wq hSq; (try dsimp only at hSq); go_simp; try with_reducible rfl)
            simp only [Act.put, List.setIfInBounds_toArray, List.set_cons_zero, List.set_cons_succ]
            refine wpAnyH_ready (rs := [2]) (by kernel_rfl) (by simp) ?_
            refine AllReadyH.cons rfl (fun K hK => ?_) AllReadyH.nil
            go_simp
            refine (Best_c _ _ HOK.out cc hHeld.duo.tz).mono ?_
            rintro e w10 ⟨rfl, hf10⟩
            have hT10 := hHeld.keep hf10
            clear hHeld hf10
            go_wp2_with fail
            refine hK.out _ _ hT10 (fun _ => ?_)
            clear hK K
            have hHeld := hT10
            clear hT10
            refine wpAnyH_ready (rs := [5]) (by kernel_rfl) (by simp) ?_
            refine AllReadyH.cons rfl (fun K hK => ?_) AllReadyH.nil
            go_simp
            refine (rBest_c _ _ HOK.out cc).mono ?_
            rintro e w11 ⟨rfl, hf11⟩
            have hT11 := hHeld.keep hf11
            clear hHeld hf11
            go_wp2_with fail
            refine hK.out _ _ hT11 (fun _ => ?_)
            clear hK K
            have hHeld := hT11
            clear hT11
            refine' tk6 (v := _) (by kernel_rfl) (by kernel_rfl) (by kernel_rfl) (fun _ _ _ h => h) (by rfl) ?hy12 (by assumption) ?rest12
            case hy12 => (intro wq hSq; (try dsimp only at hSq); go_simp; try with_reducible rfl)
            simp only [Act.put, List.setIfInBounds_toArray, List.set_cons_zero, List.set_cons_succ]
            refine' tk7 (v := _) (by kernel_rfl) (by kernel_rfl) (by kernel_rfl) (fun _ _ _ h => h) (by rfl) ?hy13 (by assumption) ?rest13
            case hy13 => (intro wq hSq; (try dsimp only at hSq); go_simp; try with_reducible rfl)
            simp only [Act.put, List.setIfInBounds_toArray, List.set_cons_zero, List.set_cons_succ]
            refine' tk8 (v := .agg (plist s8).toArray) (by kernel_rfl) (by kernel_rfl) (by kernel_rfl) (fun _ _ _ h => h) (by rfl) ?hy15 (by assumption) ?rest15
            case hy15 => (intro wq hSq; exact exec_load_seg 48 (.tmp 7) rfl b 0 rfl _ hSq.duo.pic.seg _ Tryd.underlying48 rfl (infoPl hSq.duo.pic.ok))
            simp only [Act.put, List.setIfInBounds_toArray, List.set_cons_zero, List.set_cons_succ]
            refine' tk9 (v := _) (by kernel_rfl) (by kernel_rfl) (by kernel_rfl) (fun _ _ _ h => h) (by rfl) ?hy16 (by assumption) ?rest16
            case hy16 => (intro wq hSq; (try dsimp only at hSq); go_simp; try with_reducible rfl)
            simp only [Act.put, List.setIfInBounds_toArray, List.set_cons_zero, List.set_cons_succ]
            refine' tk11 (v := .agg (rlist s8).toArray) (by kernel_rfl) (by kernel_rfl) (by kernel_rfl) (fun _ _ _ h => h) (by rfl) ?hy17 (by assumption) ?rest17
            case hy17 => (intro wq hSq; exact exec_load_seg 66 (.tmp 8) rfl r 0 rfl _ hSq.duo.ref.seg _ Tryd.underlying66 rfl (infoRl _))
            simp only [Act.put, List.setIfInBounds_toArray, List.set_cons_zero, List.set_cons_succ]
            refine' tk12 (v := _) (by kernel_rfl) (by kernel_rfl) (by kernel_rfl) (fun _ _ _ h => h) (by rfl) ?hy18 (by assumption) ?rest18
            case hy18 => (intro wq hSq; (try dsimp only at hSq); go_simp; try with_reducible rfl)
            simp only [Act.put, List.setIfInBounds_toArray, List.set_cons_zero, List.set_cons_succ]
            refine wpAnyH_ready (rs := [10]) (by kernel_rfl) (by simp) ?_
            refine AllReadyH.cons rfl (fun K hK => ?_) AllReadyH.nil
            go_simp
            refine (Line_c5 _ _ HOK.out cc hHeld.duo.tz).mono ?_
            rintro e w19 ⟨rfl, hf19⟩
            have hT19 := hHeld.keep hf19
            clear hHeld hf19
            go_wp2_with fail
            refine hK.out _ _ hT19 (fun _ => ?_)
            clear hK K
            have hHeld := hT19
            clear hT19
            refine wpAnyH_ready (rs := [13]) (by kernel_rfl) (by simp) ?_
            refine AllReadyH.cons rfl (fun K hK => ?_) AllReadyH.nil
            go_simp
            refine (rLine_c _ _ HOK.out cc).mono ?_
            rintro e w20 ⟨rfl, hf20⟩
            have hT20 := hHeld.keep hf20
            clear hHeld hf20
            go_wp2_with fail
            refine hK.out _ _ hT20 (fun _ => ?_)
            clear hK K
            have hHeld := hT20
            clear hT20
            refine' tk14 (v := _) (by kernel_rfl) (by kernel_rfl) (by kernel_rfl) (fun _ _ _ h => h) (by rfl) ?hy21 (by assumption) ?rest21
            case hy21 => (intro wq hSq; (try dsimp only at hSq); go_simp; try with_reducible rfl)
            simp only [Act.put, List.setIfInBounds_toArray, List.set_cons_zero, List.set_cons_succ]
            refine' tk15 (v := _) (by kernel_rfl) (by kernel_rfl) (by kernel_rfl) (fun _ _ _ h => h) (by rfl) ?hy22 (by assumption) ?rest22
            case hy22 => (intro wq hSq; (try dsimp only at hSq); go_simp; try with_reducible rfl)
            simp only [Act.put, List.setIfInBounds_toArray, List.set_cons_zero, List.set_cons_succ]
            refine wpAnyH_done (by kernel_rfl) ?_ _
            have H9 := Lib.hid hHeld
            clear hHeld HD
            go_wp2_with fail
            exact ⟨⟨cc + 1, by omega, by omega, rfl, H9⟩, by simp [intOf]; omega⟩
          · clear hc1 hc2
            go_wp2_with fail
            exact ⟨⟨k + 1, _, hlt, rfl, HD⟩, by simp [intOf]; omega⟩
      · have a3' : (act == 3) = false := by rw [beq_eq_false_iff_ne]; exact a3
        clear a3
        go_wp2_with fail
        refine (both_c _ b r s ⟨act, off, nn, av, src, up⟩ HXO.out HA.out.duo).mono ?_
        rintro e w8 ⟨rfl, hd, hf⟩
        have D8 := Lib.hid (HA.out.step hd hf)
        clear hd hf
        generalize PAct.step _ s = s8 at D8
        go_wp2_with fail
        go_loopw [11] (fun c wz => ∃ cc : Int, -1 ≤ cc ∧ cc ≤ 3 ∧ c = .int .i64 cc ∧ Hid (Duo1 w wz b r s8)) (fun c _ => (3 - intOf c).toNat)
        case atStart => exact ⟨-1, by omega, by omega, rfl, D8⟩
        case round =>
          obtain ⟨cc, hc1, hc2, rfl, HD⟩ := hrel
          by_cases hc3 : cc < 3
          · have HOK := Lib.hid HD.out.duo.pic.ok
            go_wp2_with fail
            refine wp_region_held_drew (S := fun w' => Duo1 w w' b r s8) (by kernel_rfl) (HD.out.keep (Fr.refl No _).drew) (fun hHeld => ?_)
            refine' tk0 (v := .agg (plist s8).toArray) (by kernel_rfl) (by kernel_rfl) (by kernel_rfl) (fun _ _ _ h => h) (by rfl) ?hy26 (by assumption) ?rest26
            case hy26 => (intro wq hSq; exact exec_load_seg 48 (.tmp 7) rfl b 0 rfl _ hSq.duo.pic.seg _ Tryd.underlying48 rfl (infoPl hSq.duo.pic.ok))
            simp only [Act.put, List.setIfInBounds_toArray, List.set_cons_zero, List.set_cons_succ]
            refine' tk1 (v := _) (by kernel_rfl) (by kernel_rfl) (by kernel_rfl) (fun _ _ _ h => h) (by rfl) ?hy27 (by assumption) ?rest27
            case hy27 => (intro wq hSq; (try dsimp only at hSq); go_simp; try with_reducible rfl)
            simp only [Act.put, List.setIfInBounds_toArray, List.set_cons_zero, List.set_cons_succ]
            refine' tk3 (v := .agg (rlist s8).toArray) (by kernel_rfl) (by kernel_rfl) (by kernel_rfl) (fun _ _ _ h => h) (by rfl) ?hy28 (by assumption) ?rest28
            case hy28 => (intro wq hSq; exact exec_load_seg 66 (.tmp 8) rfl r 0 rfl _ hSq.duo.ref.seg _ Tryd.underlying66 rfl (infoRl _))
            simp only [Act.put, List.setIfInBounds_toArray, List.set_cons_zero, List.set_cons_succ]
            refine' tk4 (v := _) (by kernel_rfl) (by kernel_rfl) (by kernel_rfl) (fun _ _ _ h => h) (by rfl) ?hy29 (by assumption) ?rest29
            case hy29 => (intro wq hSq; (try dsimp only at hSq); go_simp; try with_reducible rfl)
            simp only [Act.put, List.setIfInBounds_toArray, List.set_cons_zero, List.set_cons_succ]
            refine wpAnyH_ready (rs := [2]) (by kernel_rfl) (by simp) ?_
            refine AllReadyH.cons rfl (fun K hK => ?_) AllReadyH.nil
            go_simp
            refine (Best_c _ _ HOK.out cc hHeld.duo.tz).mono ?_
            rintro e w30 ⟨rfl, hf30⟩
            have hT30 := hHeld.keep hf30
            clear hHeld hf30
            go_wp2_with fail
            refine hK.out _ _ hT30 (fun _ => ?_)
            clear hK K
            have hHeld := hT30
            clear hT30
            refine wpAnyH_ready (rs := [5]) (by kernel_rfl) (by simp) ?_
            refine AllReadyH.cons rfl (fun K hK => ?_) AllReadyH.nil
            go_simp
            refine (rBest_c _ _ HOK.out cc).mono ?_
            rintro e w31 ⟨rfl, hf31⟩
            have hT31 := hHeld.keep hf31
            clear hHeld hf31
            go_wp2_with fail
            refine hK.out _ _ hT31 (fun _ => ?_)
            clear hK K
            have hHeld := hT31
            clear hT31
            refine' tk6 (v := _) (by kernel_rfl) (by kernel_rfl) (by kernel_rfl) (fun _ _ _ h => h) (by rfl) ?hy32 (by assumption) ?rest32
            case hy32 => (intro wq hSq; (try dsimp only at hSq); go_simp; try with_reducible rfl)
            simp only [Act.put, List.setIfInBounds_toArray, List.set_cons_zero, List.set_cons_succ]
            refine' tk7 (v := _) (by kernel_rfl) (by kernel_rfl) (by kernel_rfl) (fun _ _ _ h => h) (by rfl) ?hy33 (by assumption) ?rest33
            case hy33 => (intro wq hSq; (try dsimp only at hSq); go_simp; try with_reducible rfl)
            simp only [Act.put, List.setIfInBounds_toArray, List.set_cons_zero, List.set_cons_succ]
            refine' tk8 (v := .agg (plist s8).toArray) (by kernel_rfl) (by kernel_rfl) (by kernel_rfl) (fun _ _ _ h => h) (by rfl) ?hy35 (by assumption) ?rest35
            case hy35 => (intro wq hSq; exact exec_load_seg 48 (.tmp 7) rfl b 0 rfl _ hSq.duo.pic.seg _ Tryd.underlying48 rfl (infoPl hSq.duo.pic.ok))
            simp only [Act.put, List.setIfInBounds_toArray, List.set_cons_zero, List.set_cons_succ]
            refine' tk9 (v := _) (by kernel_rfl) (by kernel_rfl) (by kernel_rfl) (fun _ _ _ h => h) (by rfl) ?hy36 (by assumption) ?rest36
            case hy36 => (intro wq hSq; (try dsimp only at hSq); go_simp; try with_reducible rfl)
            simp only [Act.put, List.setIfInBounds_toArray, List.set_cons_zero, List.set_cons_succ]
            refine' tk11 (v := .agg (rlist s8).toArray) (by kernel_rfl) (by kernel_rfl) (by kernel_rfl) (fun _ _ _ h => h) (by rfl) ?hy37 (by assumption) ?rest37
            case hy37 => (intro wq hSq; exact exec_load_seg 66 (.tmp 8) rfl r 0 rfl _ hSq.duo.ref.seg _ Tryd.underlying66 rfl (infoRl _))
            simp only [Act.put, List.setIfInBounds_toArray, List.set_cons_zero, List.set_cons_succ]
            refine' tk12 (v := _) (by kernel_rfl) (by kernel_rfl) (by kernel_rfl) (fun _ _ _ h => h) (by rfl) ?hy38 (by assumption) ?rest38
            case hy38 => (intro wq hSq; (try dsimp only at hSq); go_simp; try with_reducible rfl)
            simp only [Act.put, List.setIfInBounds_toArray, List.set_cons_zero, List.set_cons_succ]
            refine wpAnyH_ready (rs := [10]) (by kernel_rfl) (by simp) ?_
            refine AllReadyH.cons rfl (fun K hK => ?_) AllReadyH.nil
            go_simp
            refine (Line_c5 _ _ HOK.out cc hHeld.duo.tz).mono ?_
            rintro e w39 ⟨rfl, hf39⟩
            have hT39 := hHeld.keep hf39
            clear hHeld hf39
            go_wp2_with fail
            refine hK.out _ _ hT39 (fun _ => ?_)
            clear hK K
            have hHeld := hT39
            clear hT39
            refine wpAnyH_ready (rs := [13]) (by kernel_rfl) (by simp) ?_
            refine AllReadyH.cons rfl (fun K hK => ?_) AllReadyH.nil
            go_simp
            refine (rLine_c _ _ HOK.out cc).mono ?_
            rintro e w40 ⟨rfl, hf40⟩
            have hT40 := hHeld.keep hf40
            clear hHeld hf40
            go_wp2_with fail
            refine hK.out _ _ hT40 (fun _ => ?_)
            clear hK K
            have hHeld := hT40
            clear hT40
            refine' tk14 (v := _) (by kernel_rfl) (by kernel_rfl) (by kernel_rfl) (fun _ _ _ h => h) (by rfl) ?hy41 (by assumption) ?rest41
            case hy41 => (intro wq hSq; (try dsimp only at hSq); go_simp; try with_reducible rfl)
            simp only [Act.put, List.setIfInBounds_toArray, List.set_cons_zero, List.set_cons_succ]
            refine' tk15 (v := _) (by kernel_rfl) (by kernel_rfl) (by kernel_rfl) (fun _ _ _ h => h) (by rfl) ?hy42 (by assumption) ?rest42
            case hy42 => (intro wq hSq; (try dsimp only at hSq); go_simp; try with_reducible rfl)
            simp only [Act.put, List.setIfInBounds_toArray, List.set_cons_zero, List.set_cons_succ]
            refine wpAnyH_done (by kernel_rfl) ?_ _
            have H9 := Lib.hid hHeld
            clear hHeld HD
            go_wp2_with fail
            exact ⟨⟨cc + 1, by omega, by omega, rfl, H9⟩, by simp [intOf]; omega⟩
          · clear hc1 hc2
            go_wp2_with fail
            exact ⟨⟨k + 1, _, hlt, rfl, HD⟩, by simp [intOf]; omega⟩
    · clear HR HO
      have HOK := Lib.hid HA.out.duo.pic.ok
      go_wp2_with fail
      refine wp_region_held_drew (S := fun w' => Duo1 w w' b r s) (by kernel_rfl) (HA.out.keep (Fr.refl No _).drew) (fun hHeld => ?_)
      refine' tk0 (v := .agg (plist s).toArray) (by kernel_rfl) (by kernel_rfl) (by kernel_rfl) (fun _ _ _ h => h) (by rfl) ?hy44 (by assumption) ?rest44
      case hy44 => (intro wq hSq; exact exec_load_seg 48 (.tmp 7) rfl b 0 rfl _ hSq.duo.pic.seg _ Tryd.underlying48 rfl (infoPl hSq.duo.pic.ok))
      simp only [Act.put, List.setIfInBounds_toArray, List.set_cons_zero, List.set_cons_succ]
      refine' tk1 (v := _) (by kernel_rfl) (by kernel_rfl) (by kernel_rfl) (fun _ _ _ h => h) (by rfl) ?hy45 (by assumption) ?rest45
      case hy45 => (intro wq hSq; (try dsimp only at hSq); go_simp; try with_reducible rfl)
      simp only [Act.put, List.setIfInBounds_toArray, List.set_cons_zero, List.set_cons_succ]
      refine' tk3 (v := .agg (rlist s).toArray) (by kernel_rfl) (by kernel_rfl) (by kernel_rfl) (fun _ _ _ h => h) (by rfl) ?hy46 (by assumption) ?rest46
      case hy46 => (intro wq hSq; exact exec_load_seg 66 (.tmp 8) rfl r 0 rfl _ hSq.duo.ref.seg _ Tryd.underlying66 rfl (infoRl _))
      simp only [Act.put, List.setIfInBounds_toArray, List.set_cons_zero, List.set_cons_succ]
      refine' tk4 (v := _) (by kernel_rfl) (by kernel_rfl) (by kernel_rfl) (fun _ _ _ h => h) (by rfl) ?hy47 (by assumption) ?rest47
      case hy47 => (intro wq hSq; (try dsimp only at hSq); go_simp; try with_reducible rfl)
      simp only [Act.put, List.setIfInBounds_toArray, List.set_cons_zero, List.set_cons_succ]
      refine wpAnyH_ready (rs := [2]) (by kernel_rfl) (by simp) ?_
      refine AllReadyH.cons rfl (fun K hK => ?_) AllReadyH.nil
      go_simp
      refine (Up_c _ _ HOK.out source).mono ?_
      rintro e w48 ⟨rfl, hf48⟩
      have hT48 := hHeld.keep hf48
      clear hHeld hf48
      go_wp2_with fail
      refine hK.out _ _ hT48 (fun _ => ?_)
      clear hK K
      have hHeld := hT48
      clear hT48
      refine wpAnyH_ready (rs := [5]) (by kernel_rfl) (by simp) ?_
      refine AllReadyH.cons rfl (fun K hK => ?_) AllReadyH.nil
      go_simp
      refine (rUp_c _ _ HOK.out source).mono ?_
      rintro e w49 ⟨rfl, hf49⟩
      have hT49 := hHeld.keep hf49
      clear hHeld hf49
      go_wp2_with fail
      refine hK.out _ _ hT49 (fun _ => ?_)
      clear hK K
      have hHeld := hT49
      clear hT49
      refine' tk6 (v := _) (by kernel_rfl) (by kernel_rfl) (by kernel_rfl) (fun _ _ _ h => h) (by rfl) ?hy50 (by assumption) ?rest50
      case hy50 => (intro wq hSq; (try dsimp only at hSq); go_simp; try with_reducible rfl)
      simp only [Act.put, List.setIfInBounds_toArray, List.set_cons_zero, List.set_cons_succ]
      refine' tk7 (v := _) (by kernel_rfl) (by kernel_rfl) (by kernel_rfl) (fun _ _ _ h => h) (by rfl) ?hy51 (by assumption) ?rest51
      case hy51 => (intro wq hSq; (try dsimp only at hSq); go_simp; try with_reducible rfl)
      simp only [Act.put, List.setIfInBounds_toArray, List.set_cons_zero, List.set_cons_succ]
      refine' tk8 (v := .agg (plist s).toArray) (by kernel_rfl) (by kernel_rfl) (by kernel_rfl) (fun _ _ _ h => h) (by rfl) ?hy53 (by assumption) ?rest53
      case hy53 => (intro wq hSq; exact exec_load_seg 48 (.tmp 7) rfl b 0 rfl _ hSq.duo.pic.seg _ Tryd.underlying48 rfl (infoPl hSq.duo.pic.ok))
      simp only [Act.put, List.setIfInBounds_toArray, List.set_cons_zero, List.set_cons_succ]
      refine' tk9 (v := _) (by kernel_rfl) (by kernel_rfl) (by kernel_rfl) (fun _ _ _ h => h) (by rfl) ?hy54 (by assumption) ?rest54
      case hy54 => (intro wq hSq; (try dsimp only at hSq); go_simp; try with_reducible rfl)
      simp only [Act.put, List.setIfInBounds_toArray, List.set_cons_zero, List.set_cons_succ]
      refine' tk11 (v := .agg (rlist s).toArray) (by kernel_rfl) (by kernel_rfl) (by kernel_rfl) (fun _ _ _ h => h) (by rfl) ?hy55 (by assumption) ?rest55
      case hy55 => (intro wq hSq; exact exec_load_seg 66 (.tmp 8) rfl r 0 rfl _ hSq.duo.ref.seg _ Tryd.underlying66 rfl (infoRl _))
      simp only [Act.put, List.setIfInBounds_toArray, List.set_cons_zero, List.set_cons_succ]
      refine' tk12 (v := _) (by kernel_rfl) (by kernel_rfl) (by kernel_rfl) (fun _ _ _ h => h) (by rfl) ?hy56 (by assumption) ?rest56
      case hy56 => (intro wq hSq; (try dsimp only at hSq); go_simp; try with_reducible rfl)
      simp only [Act.put, List.setIfInBounds_toArray, List.set_cons_zero, List.set_cons_succ]
      refine wpAnyH_ready (rs := [10]) (by kernel_rfl) (by simp) ?_
      refine AllReadyH.cons rfl (fun K hK => ?_) AllReadyH.nil
      go_simp
      refine (Best_c _ _ HOK.out ctx hHeld.duo.tz).mono ?_
      rintro e w57 ⟨rfl, hf57⟩
      have hT57 := hHeld.keep hf57
      clear hHeld hf57
      go_wp2_with fail
      refine hK.out _ _ hT57 (fun _ => ?_)
      clear hK K
      have hHeld := hT57
      clear hT57
      refine wpAnyH_ready (rs := [13]) (by kernel_rfl) (by simp) ?_
      refine AllReadyH.cons rfl (fun K hK => ?_) AllReadyH.nil
      go_simp
      refine (rBest_c _ _ HOK.out ctx).mono ?_
      rintro e w58 ⟨rfl, hf58⟩
      have hT58 := hHeld.keep hf58
      clear hHeld hf58
      go_wp2_with fail
      refine hK.out _ _ hT58 (fun _ => ?_)
      clear hK K
      have hHeld := hT58
      clear hT58
      refine' tk14 (v := _) (by kernel_rfl) (by kernel_rfl) (by kernel_rfl) (fun _ _ _ h => h) (by rfl) ?hy59 (by assumption) ?rest59
      case hy59 => (intro wq hSq; (try dsimp only at hSq); go_simp; try with_reducible rfl)
      simp only [Act.put, List.setIfInBounds_toArray, List.set_cons_zero, List.set_cons_succ]
      refine' tk15 (v := _) (by kernel_rfl) (by kernel_rfl) (by kernel_rfl) (fun _ _ _ h => h) (by rfl) ?hy60 (by assumption) ?rest60
      case hy60 => (intro wq hSq; (try dsimp only at hSq); go_simp; try with_reducible rfl)
      simp only [Act.put, List.setIfInBounds_toArray, List.set_cons_zero, List.set_cons_succ]
      refine' tk16 (v := _) (by kernel_rfl) (by kernel_rfl) (by kernel_rfl) (fun _ _ _ h => h) (by rfl) ?hy61 (by assumption) ?rest61
      case hy61 => (intro wq hSq; (try dsimp only at hSq); go_simp; try with_reducible rfl)
      simp only [Act.put, List.setIfInBounds_toArray, List.set_cons_zero, List.set_cons_succ]
      refine' tk17 (v := .agg (plist s).toArray) (by kernel_rfl) (by kernel_rfl) (by kernel_rfl) (fun _ _ _ h => h) (by rfl) ?hy63 (by assumption) ?rest63
      case hy63 => (intro wq hSq; exact exec_load_seg 48 (.tmp 7) rfl b 0 rfl _ hSq.duo.pic.seg _ Tryd.underlying48 rfl (infoPl hSq.duo.pic.ok))
      simp only [Act.put, List.setIfInBounds_toArray, List.set_cons_zero, List.set_cons_succ]
      refine' tk18 (v := _) (by kernel_rfl) (by kernel_rfl) (by kernel_rfl) (fun _ _ _ h => h) (by rfl) ?hy64 (by assumption) ?rest64
      case hy64 => (intro wq hSq; (try dsimp only at hSq); go_simp; try with_reducible rfl)
      simp only [Act.put, List.setIfInBounds_toArray, List.set_cons_zero, List.set_cons_succ]
      refine' tk20 (v := .agg (rlist s).toArray) (by kernel_rfl) (by kernel_rfl) (by kernel_rfl) (fun _ _ _ h => h) (by rfl) ?hy65 (by assumption) ?rest65
      case hy65 => (intro wq hSq; exact exec_load_seg 66 (.tmp 8) rfl r 0 rfl _ hSq.duo.ref.seg _ Tryd.underlying66 rfl (infoRl _))
      simp only [Act.put, List.setIfInBounds_toArray, List.set_cons_zero, List.set_cons_succ]
      refine' tk21 (v := _) (by kernel_rfl) (by kernel_rfl) (by kernel_rfl) (fun _ _ _ h => h) (by rfl) ?hy66 (by assumption) ?rest66
      case hy66 => (intro wq hSq; (try dsimp only at hSq); go_simp; try with_reducible rfl)
      simp only [Act.put, List.setIfInBounds_toArray, List.set_cons_zero, List.set_cons_succ]
      refine wpAnyH_ready (rs := [19]) (by kernel_rfl) (by simp) ?_
      refine AllReadyH.cons rfl (fun K hK => ?_) AllReadyH.nil
      go_simp
      refine (Line_c5 _ _ HOK.out ctx hHeld.duo.tz).mono ?_
      rintro e w67 ⟨rfl, hf67⟩
      have hT67 := hHeld.keep hf67
      clear hHeld hf67
      go_wp2_with fail
      refine hK.out _ _ hT67 (fun _ => ?_)
      clear hK K
      have hHeld := hT67
      clear hT67
      refine wpAnyH_ready (rs := [22]) (by kernel_rfl) (by simp) ?_
      refine AllReadyH.cons rfl (fun K hK => ?_) AllReadyH.nil
      go_simp
      refine (rLine_c _ _ HOK.out ctx).mono ?_
      rintro e w68 ⟨rfl, hf68⟩
      have hT68 := hHeld.keep hf68
      clear hHeld hf68
      go_wp2_with fail
      refine hK.out _ _ hT68 (fun _ => ?_)
      clear hK K
      have hHeld := hT68
      clear hT68
      refine' tk23 (v := _) (by kernel_rfl) (by kernel_rfl) (by kernel_rfl) (fun _ _ _ h => h) (by rfl) ?hy69 (by assumption) ?rest69
      case hy69 => (intro wq hSq; (try dsimp only at hSq); go_simp; try with_reducible rfl)
      simp only [Act.put, List.setIfInBounds_toArray, List.set_cons_zero, List.set_cons_succ]
      refine' tk24 (v := _) (by kernel_rfl) (by kernel_rfl) (by kernel_rfl) (fun _ _ _ h => h) (by rfl) ?hy70 (by assumption) ?rest70
      case hy70 => (intro wq hSq; (try dsimp only at hSq); go_simp; try with_reducible rfl)
      simp only [Act.put, List.setIfInBounds_toArray, List.set_cons_zero, List.set_cons_succ]
      refine' tk25 (v := _) (by kernel_rfl) (by kernel_rfl) (by kernel_rfl) (fun _ _ _ h => h) (by rfl) ?hy71 (by assumption) ?rest71
      case hy71 => (intro wq hSq; (try dsimp only at hSq); go_simp; try with_reducible rfl)
      simp only [Act.put, List.setIfInBounds_toArray, List.set_cons_zero, List.set_cons_succ]
      refine wpAnyH_done (by kernel_rfl) ?_ _
      go_wp2_with fail
      go_ret
      exact ⟨by simp, hHeld.fr⟩
end Go.Proofs.YtcnglhneknbllaaDoor

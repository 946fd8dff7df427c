/-
  The statement UartPlays: its walk.
-/
import Derived.Test.YtcnglhneknbllaaDoorUartB
import Derived.Deep.RegionHeld
namespace Go.Proofs.YtcnglhneknbllaaDoor
open Go Go.RowKit

/-- The cells of acts, one behind the other. -/
def actCells (xs : List UAct) : List Value := xs.flatMap UAct.cells
theorem actCells_len (xs : List UAct) : (actCells xs).length = xs.length * 4 := by
  induction xs with
  | nil => rfl
  | cons x xs ih => simp only [actCells, List.flatMap_cons, List.length_append, List.length_cons] at ih ⊢; rw [ih]; simp [UAct.cells]; omega
theorem actCells_at (xs : List UAct) : ∀ (k : Nat) (x : UAct), xs[k]? = some x → ∀ j u, x.cells[j]? = some u → (actCells xs)[k * 4 + j]? = some u := by
  induction xs with
  | nil => intro k x h; simp at h
  | cons y xs ih =>
    intro k x h j u hu
    have h4 : ∀ z : UAct, z.cells.length = 4 := fun z => rfl
    cases k with
    | zero =>
      simp at h
      subst h
      have hj : j < 4 := by have := (List.getElem?_eq_some_iff.1 hu).1; rw [h4] at this; exact this
      simp only [actCells, List.flatMap_cons]
      rw [List.getElem?_append_left (by rw [h4]; omega)]
      simpa using hu
    | succ k =>
      simp only [actCells, List.flatMap_cons]
      rw [List.getElem?_append_right (by rw [h4]; omega), h4]
      have := ih k x (by simpa using h) j u hu
      rw [← this]
      congr 1
      omega
/-- Where an act lies that is there. -/
theorem Rd.act {w : World} {v : Value} {xs : List UAct} (h : Rd w v xs.length (actCells xs)) {k : Nat} (hk : k < xs.length) :
    ∃ g o c, v = .slice (some ⟨g, o, none⟩) xs.length c ∧ g < w.heap.size ∧ ∀ j u, xs[k].cells[j]? = some u → w.cell? ⟨g, o + (k * 4 + j), none⟩ = some u := by
  obtain ⟨a, c, rfl, h2, h3, h4, h5⟩ := h
  cases a with
  | none => have := (h4 rfl).1; omega
  | some ad =>
    obtain ⟨g, o, sp⟩ := ad
    have hx := fun (j : Nat) (u : Value) (hu : xs[k].cells[j]? = some u) => h5 _ rfl _ u (actCells_at xs k xs[k] (List.getElem?_eq_getElem hk) j u hu)
    have h0 := hx 0 _ rfl
    cases sp with
    | none => exact ⟨g, o, c, rfl, by have := World.block_lt_of_cell? w _ h0; rwa [addr_add] at this, fun j u hu => by have := hx j u hu; rwa [addr_add] at this⟩
    | some sp =>
      exfalso
      have h0 := h5 _ rfl _ _ (actCells_at xs 0 xs[0] (List.getElem?_eq_getElem (by omega)) 0 _ rfl)
      have hsp : (⟨g, o, some sp⟩ : Addr).add (0 * 4 + 0) = ⟨g, o, some sp⟩ := rfl
      rw [hsp] at h0
      unfold World.cell? at h0
      split at h0 <;> simp at h0

/-- A third line beside the two: the one whose twin goes on. -/
structure Trio (X : Nat → Prop) (w : World) (bu : Nat) (su : US) (bw : Nat) (sw : US) (bo : Nat) (so : US) : Prop where
  gr : Ground X w
  lines : ∃ F G H, UartAt w bu su F ∧ RefAt w bw sw G ∧ UartAt w bo so H ∧ (∀ k, F k → ¬ G k ∧ ¬ H k) ∧ (∀ k, G k → ¬ H k) ∧ (∀ k, F k → ¬ X k) ∧ (∀ k, G k → ¬ X k) ∧ (∀ k, H k → ¬ X k)
namespace Trio
variable {X : Nat → Prop} {w w' : World} {bu bw bo : Nat} {su sw so : US}
theorem pair (h : Trio X w bu su bw sw bo so) : Pair X w bu su bw sw := by
  obtain ⟨g, F, G, H, h1, h2, h3, h4, h5, h6, h7, h8⟩ := h
  exact ⟨g, F, G, h1, h2, fun k hk => (h4 k hk).1, h6, h7⟩
theorem of_twin {b' : Nat} (h : Pair X w bu su bw sw) (ht : UartAt w' b' su (fun k => w.heap.size ≤ k ∧ k < w'.heap.size)) (hf : Fr No w w') : Trio X w' b' su bw sw bu su := by
  obtain ⟨g, F, G, h1, h2, h3, h4, h5⟩ := h
  exact ⟨g.keep (hf.keep (fun _ h => h.elim)), _, G, F, ht, h2.fr hf (fun _ _ h => h), h1.fr hf (fun _ _ h => h), fun k hk => ⟨fun hg => by have := h2.bound k hg; omega, fun hg => by have := h1.bound k hg; omega⟩,
    fun k hk hF => h3 k hF hk, fun k hk hx => by have := g.bound k hx; omega, h5, h4⟩
theorem left (h : Trio X w bu su bw sw bo so) : ∃ F, UartAt w bu su F ∧ KeptAt w ∧ ¬ F 0 ∧ ∀ w' s', UartAt w' bu s' (Plus F w w') → Fr F w w' → Trio X w' bu s' bw sw bo so ∧ Keep X w w' := by
  obtain ⟨h0, F, G, H, h1, h2, h3, h4, h5, h6, h7, h8⟩ := h
  refine ⟨F, h1, h0.kept, fun hn => h6 _ hn h0.zero, fun w' s' hu hf => ⟨⟨h0.keep (hf.keep h6), Plus F w w', G, H, hu, h2.fr hf (fun k hk hk' => (h4 k hk').1 hk), h3.fr hf (fun k hk hk' => (h4 k hk').2 hk), fun k hk => ?_, h5, fun k hk hx => ?_, h7, h8⟩, hf.keep h6⟩⟩
  · rcases hk with hk | hk
    · exact h4 k hk
    · exact ⟨fun hg => by have := h2.bound k hg; omega, fun hg => by have := h3.bound k hg; omega⟩
  · rcases hk with hk | hk
    · exact h6 k hk hx
    · have := h0.bound k hx; omega
theorem right (h : Trio X w bu su bw sw bo so) : ∃ G, RefAt w bw sw G ∧ ∀ w' s', RefAt w' bw s' (Plus G w w') → Fr G w w' → Trio X w' bu su bw s' bo so ∧ Keep X w w' := by
  obtain ⟨h0, F, G, H, h1, h2, h3, h4, h5, h6, h7, h8⟩ := h
  refine ⟨G, h2, fun w' s' hu hf => ⟨⟨h0.keep (hf.keep h7), F, Plus G w w', H, h1.fr hf (fun k hk hk' => (h4 k hk).1 hk'), hu, h3.fr hf (fun k hk hk' => h5 k hk' hk), fun k hk => ⟨?_, (h4 k hk).2⟩, fun k hk => ?_, h6, fun k hk hx => ?_, h8⟩, hf.keep h7⟩⟩
  · rintro (hg | hg)
    · exact (h4 k hk).1 hg
    · have := h1.bound k hk; omega
  · rcases hk with hk | hk
    · exact h5 k hk
    · intro hg; have := h3.bound k hg; omega
  · rcases hk with hk | hk
    · exact h7 k hk hx
    · have := h0.bound k hx; omega
theorem old (h : Trio X w bu su bw sw bo so) : ∃ H, UartAt w bo so H ∧ KeptAt w ∧ ¬ H 0 ∧ ∀ w' s', UartAt w' bo s' (Plus H w w') → Fr H w w' → Trio X w' bu su bw sw bo s' ∧ Keep X w w' := by
  obtain ⟨h0, F, G, H, h1, h2, h3, h4, h5, h6, h7, h8⟩ := h
  refine ⟨H, h3, h0.kept, fun hn => h8 _ hn h0.zero, fun w' s' hu hf => ⟨⟨h0.keep (hf.keep h8), F, G, Plus H w w', h1.fr hf (fun k hk hk' => (h4 k hk).2 hk'), h2.fr hf (fun k hk hk' => h5 k hk hk'), hu, fun k hk => ⟨(h4 k hk).1, ?_⟩, fun k hk => ?_, h6, h7, fun k hk hx => ?_⟩, hf.keep h8⟩⟩
  · rintro (hg | hg)
    · exact (h4 k hk).2 hg
    · have := h1.bound k hk; omega
  · rintro (hg | hg)
    · exact h5 k hk hg
    · have := h2.bound k hk; omega
  · rcases hk with hk | hk
    · exact h8 k hk hx
    · have := h0.bound k hx; omega
end Trio
section
variable {X : Nat → Prop} {w : World} {bu bw bo : Nat} {su sw so : US}
theorem tWaiting (h : Pair X w bu su bw sw) : Calls Tryd.prog 20 #[.pointer (some ⟨bu, 0, none⟩)] w fun e w' => e = .returned (.int .i64 (su.inn.length : Nat)) ∧ w = w' := by
  obtain ⟨F, h1, _⟩ := h.left
  exact Waiting_c w bu su F h1
theorem tLine (h : Pair X w bu su bw sw) : Calls Tryd.prog 25 #[.pointer (some ⟨bu, 0, none⟩)] w fun e w' => e = .returned (.bool su.line) ∧ w = w' := by
  obtain ⟨F, h1, _⟩ := h.left
  exact Line_c w bu su F h1
theorem tRLine (h : Pair X w bu su bw sw) : Calls Tryd.prog 26 #[.pointer (some ⟨bw, 0, none⟩)] w fun e w' => e = .returned (.bool sw.line) ∧ w = w' := by
  obtain ⟨F, h1, _⟩ := h.right
  exact RLine_c w bw sw F h1
/-- What is seen of the document's line in place. -/
theorem Pair.sees (h : Pair X w bu su bw sw) : ∃ ai ci ao co, ∀ w', Fr No w w' → w'.cell? ⟨bw, 0, none⟩ = some (.slice ai sw.inn.length ci) ∧ w'.cell? ⟨bw, 1, none⟩ = some (.slice ao sw.out.length co) ∧
    (convert 27 9 (.slice ao sw.out.length co)).run Tryd.prog w' = .ok (.string (txt sw.out)) w' := by
  obtain ⟨g, F, G, _, ⟨g1, g2, hBd, vi, vo, Fi, Fo, hb, hi, ho, hFi, hFo⟩, _⟩ := h
  obtain ⟨ai, ci, rfl, _, _⟩ := hi.slice
  obtain ⟨ao, co, rfl, _, _⟩ := ho.slice
  refine ⟨ai, ci, ao, co, fun w' hf => ?_⟩
  have hb' := hb.fr hf (fun h => h)
  exact ⟨by rw [hb'.cell]; rfl, by rw [hb'.cell]; rfl, (ho.fr hf (fun _ _ h => h)).rd.text (P := Tryd.prog) rfl 27 5 9 Tryd.underlying27 Tryd.underlying5 Tryd.underlying9⟩
theorem tTwin (h : Pair X w bu su bw sw) : Calls Tryd.prog 23 #[.pointer (some ⟨bu, 0, none⟩)] w fun e w' => ∃ b', e = .returned (.pointer (some ⟨b', 0, none⟩)) ∧ Trio X w' b' su bw sw bu su ∧ Keep X w w' := by
  obtain ⟨F, h1, _⟩ := h.left
  exact (Twin_c w bu su F h1).mono fun e w' ⟨b', he, hu, hf⟩ => ⟨b', he, Trio.of_twin h hu hf, hf.keep (fun _ h => h.elim)⟩
theorem tWrite (off : Nat) (n : Int) (v : Nat) (hoff : off < 18446744073709551616) (h : Trio X w bu su bw sw bo so) :
    Calls Tryd.prog 16 #[.pointer (some ⟨bu, 0, none⟩), .int .u64 (off : Int), .int .i64 n, .int .u64 (v : Int)] w fun e w' => e = .returned (.bool (su.write off n v).2) ∧ Trio X w' bu (su.write off n v).1 bw sw bo so ∧ Keep X w w' := by
  obtain ⟨F, h1, h2, h3, h4⟩ := h.left
  exact (Write_c w bu su F off n v hoff h1 h2 h3).mono fun e w' ⟨he, hu, hf⟩ => ⟨he, h4 _ _ hu hf⟩
theorem tRWrite (off : Nat) (n : Int) (v : Nat) (hv : v < 18446744073709551616) (h : Trio X w bu su bw sw bo so) :
    Calls Tryd.prog 24 #[.pointer (some ⟨bw, 0, none⟩), .int .u64 (off : Int), .int .i64 n, .int .u64 (v : Int)] w fun e w' => e = .returned (.bool (sw.write off n v).2) ∧ Trio X w' bu su bw (sw.write off n v).1 bo so ∧ Keep X w w' := by
  obtain ⟨F, h1, h4⟩ := h.right
  exact (RWrite_c w bw sw F off n v hv h1).mono fun e w' ⟨he, hu, hf⟩ => ⟨he, h4 _ _ hu hf⟩
theorem oWrite (off : Nat) (n : Int) (v : Nat) (hoff : off < 18446744073709551616) (h : Trio X w bu su bw sw bo so) :
    Calls Tryd.prog 16 #[.pointer (some ⟨bo, 0, none⟩), .int .u64 (off : Int), .int .i64 n, .int .u64 (v : Int)] w fun e w' => e = .returned (.bool (so.write off n v).2) ∧ Trio X w' bu su bw sw bo (so.write off n v).1 ∧ Keep X w w' := by
  obtain ⟨F, h1, h2, h3, h4⟩ := h.old
  exact (Write_c w bo so F off n v hoff h1 h2 h3).mono fun e w' ⟨he, hu, hf⟩ => ⟨he, h4 _ _ hu hf⟩
theorem oFeed (x : Nat) (hx : x < 256) (h : Trio X w bu su bw sw bo so) :
    Calls Tryd.prog 19 #[.pointer (some ⟨bo, 0, none⟩), .int .u8 (x : Int)] w fun e w' => e = .returned (.bool (so.feed x).2) ∧ Trio X w' bu su bw sw bo (so.feed x).1 ∧ Keep X w w' := by
  obtain ⟨F, h1, h2, h3, h4⟩ := h.old
  exact (Feed_c w bo so F x hx h1).mono fun e w' ⟨he, hu, hf⟩ => ⟨he, h4 _ _ hu hf⟩
theorem oRead (off : Nat) (n : Int) (hoff : off < 18446744073709551616) (h : Trio X w bu su bw sw bo so) :
    Calls Tryd.prog 18 #[.pointer (some ⟨bo, 0, none⟩), .int .u64 (off : Int), .int .i64 n] w fun e w' => e = .returned (.tuple #[.int .u64 ((so.read off n).2.1 : Nat), .bool (so.read off n).2.2]) ∧ Trio X w' bu su bw sw bo (so.read off n).1 ∧ Keep X w w' := by
  obtain ⟨F, h1, h2, h3, h4⟩ := h.old
  exact (Read_c w bo so F off n hoff h1).mono fun e w' ⟨he, hu, hf⟩ => ⟨he, h4 _ _ hu.plus hf⟩
end

set_option maxRecDepth 100000 in
set_option maxHeartbeats 4000000 in
theorem UartPlays_c (w : World) (hk : KeptAt w) (v : Value) (xs : List UAct) (hr : Rd w v xs.length (actCells xs)) (hok : ∀ x ∈ xs, x.Ok) :
    Calls Tryd.prog 5 #[v] w fun e w' => e = .returned (.bool true) ∧ Fr No w w' := by
  have HK := Lib.hid hk
  have HR := Lib.hid hr
  have HO := Lib.hid hok
  obtain ⟨a, c, rfl, hnc, hcm, _, _⟩ := hr
  obtain ⟨n, hn⟩ : ∃ n, n = xs.length := ⟨_, rfl⟩
  rw [← hn] at HR hnc ⊢
  have HN := Lib.hid hn
  unfold maxLen at hcm
  clear hk hok hn
  go_enter Tryd.func5, Tryd.ntmps5
  go_wp2_with fail
  refine (awake_c w HK.out).mono ?_
  rintro e w1 ⟨rfl, hf1⟩
  have F1 := Lib.hid hf1
  have G1 := Lib.hid ((Ground.start HK.out).keep (hf1.keep (fun _ h => h.elim)))
  clear hf1
  by_cases h200 : n ≤ 200
  · go_wp2_with fail
    refine (aNew G1.out).mono ?_
    rintro e w2 ⟨rfl, hu2, hk2⟩
    have F2 := Lib.hid (F1.out.after hk2 (fun _ h => h))
    have A2 := Lib.hid hu2
    clear hu2 hk2
    go_wp2_with fail
    refine (RNew_c w2).mono ?_
    rintro e w3 ⟨rfl, hr3, hf3⟩
    have P3 : Hid (Pair (fun k => k < w.heap.size) w3 w1.heap.size US.new w2.heap.size US.new) := by
      obtain ⟨g, F, h1, h2⟩ := A2.out
      refine Lib.hid ⟨g.keep (hf3.keep (fun _ h => h.elim)), F, _, h1.fr hf3 (fun _ _ h => h), hr3, fun k hk hg => ?_, h2, fun k hk hx => ?_⟩
      · rcases hg with hg | hg
        · exact hg
        · have := h1.bound k hk; omega
      · rcases hk with hk | hk
        · exact hk
        · have := g.bound k hx; omega
    have F3 := Lib.hid (F2.out.trans hf3)
    clear hr3 hf3
    go_wp2_with fail
    go_loopw [3, 5] (fun u i wr => ∃ (k bu : Nat) (s : US), k ≤ n ∧ i = .int .i64 (k : Int) ∧ u = .pointer (some ⟨bu, 0, none⟩) ∧ Hid (Pair (fun k => k < w.heap.size) wr bu s w2.heap.size s) ∧ Hid (Fr No w wr)) (fun _ i _ => n - (intOf i).toNat)
    case atStart => exact ⟨0, _, _, Nat.zero_le _, rfl, rfl, P3, F3⟩
    case round =>
      obtain ⟨k, bu, s, hkn, rfl, rfl, HP, HF⟩ := hrel
      by_cases hlt : k < n
      · have hlt' : k < xs.length := by rw [← HN.out]; exact hlt
        have hR := HR.out
        rw [HN.out] at hR
        obtain ⟨g, o, c', hv, hg, hcell⟩ := hR.act hlt'
        cases hv
        have hcr : ∀ j u, xs[k].cells[j]? = some u → wr.cell? ⟨g, o + (k * 4 + j), none⟩ = some u := fun j u hu => HF.out.cell (hcell j u hu) (fun h => h)
        obtain ⟨x, hx⟩ : ∃ x, x = xs[k] := ⟨_, rfl⟩
        have hxo := HO.out _ (List.getElem_mem hlt')
        rw [← hx] at hcr hxo
        have hcs : ∀ wz, Fr No w wz → wz.cell? ⟨g, o + k * 4, none⟩ = some (.int .i64 x.act) ∧ wz.cell? ⟨g, o + k * 4 + 1, none⟩ = some (.int .u64 (x.off : Int)) ∧ wz.cell? ⟨g, o + k * 4 + 2, none⟩ = some (.int .i64 x.n) ∧ wz.cell? ⟨g, o + k * 4 + 3, none⟩ = some (.int .u64 (x.v : Int)) := fun wz hz => by
          rw [← hx] at hcell
          exact ⟨hz.cell (hcell 0 _ rfl) (fun h => h), hz.cell (hcell 1 _ rfl) (fun h => h), hz.cell (hcell 2 _ rfl) (fun h => h), hz.cell (hcell 3 _ rfl) (fun h => h)⟩
        obtain ⟨q0, q1, q2, q3⟩ := hcs wr HF.out
        have HXO := Lib.hid hxo
        have HC := Lib.hid hcs
        clear hcell hcr hR hxo hx hcs
        go_wp2_with fail
        refine (both_c x HXO.out HP.out).mono ?_
        rintro e w4 ⟨rfl, hp4, hk4⟩
        have P4 := Lib.hid hp4
        have F4 := Lib.hid (HF.out.after hk4 (fun _ h => h))
        clear hp4 hk4 q0 q1 q2 q3
        obtain ⟨q0, q1, q2, q3⟩ := HC.out w4 F4.out
        by_cases h3 : x.act = 3
        · have hs : s.act x = s := by unfold US.act; rw [if_neg (by omega), if_neg (by omega), if_neg (by omega)]
          rw [hs] at P4
          rw [h3] at q0
          clear hs h3
          go_wp2_with fail
          refine (tTwin P4.out).mono ?_
          rintro e w5 ⟨b', rfl, ht5, hk5⟩
          have T5 := Lib.hid ht5
          have F5 := Lib.hid (F4.out.after hk5 (fun _ h => h))
          clear ht5 hk5 q0 q1 q2 q3
          obtain ⟨q0, q1, q2, q3⟩ := HC.out w5 F5.out
          go_wp2_with fail
          refine (tWrite 0 1 x.v (by omega) T5.out).mono ?_
          rintro e w6 ⟨rfl, ht6, hk6⟩
          have T6 := Lib.hid ht6
          have F6 := Lib.hid (F5.out.after hk6 (fun _ h => h))
          clear ht6 hk6 q0 q1 q2 q3
          obtain ⟨q0, q1, q2, q3⟩ := HC.out w6 F6.out
          go_wp2_with fail
          refine (tRWrite 0 1 x.v HXO.out.2 T6.out).mono ?_
          rintro e w7 ⟨rfl, ht7, hk7⟩
          have T7 := Lib.hid ht7
          have F7 := Lib.hid (F6.out.after hk7 (fun _ h => h))
          clear ht7 hk7 q0 q1 q2 q3
          obtain ⟨q0, q1, q2, q3⟩ := HC.out w7 F7.out
          obtain ⟨v1, hv1⟩ : ∃ v1 : Nat, IntKind.u64.wrap ((x.v : Int) + 1) = (v1 : Int) := ⟨(x.v + 1) % 18446744073709551616, by rw [IntKind.wrap_u64]; omega⟩
          go_wp2_with fail
          refine (oWrite 0 1 v1 (by omega) T7.out).mono ?_
          rintro e w8 ⟨rfl, ht8, hk8⟩
          have T8 := Lib.hid ht8
          have F8 := Lib.hid (F7.out.after hk8 (fun _ h => h))
          clear ht8 hk8 q0 q1 q2 q3
          go_wp2_with fail
          refine (oFeed 7 (by omega) T8.out).mono ?_
          rintro e w9 ⟨rfl, ht9, hk9⟩
          have T9 := Lib.hid ht9
          have F9 := Lib.hid (F8.out.after hk9 (fun _ h => h))
          clear ht9 hk9
          go_wp2_with fail
          refine (oRead 0 1 (by omega) T9.out).mono ?_
          rintro e w10 ⟨rfl, ht10, hk10⟩
          have FZ := Lib.hid (F9.out.after hk10 (fun _ h => h)).drew
          have PZ := Lib.hid (ht10.pair.fr (Fr.refl No w10).drew)
          clear ht10 hk10
          obtain ⟨s2, hs2⟩ : ∃ s2, s2 = (s.write 0 1 x.v).1 := ⟨_, rfl⟩
          rw [← hs2] at PZ
          clear hs2
          go_wp2_with fail
          obtain ⟨ai, ci, ao, co, hsee⟩ := PZ.out.sees
          obtain ⟨k0, k1, k2⟩ := hsee _ (Fr.refl _ _)
          rw [World.cell?_drew] at k0 k1
          have HSEE := Lib.hid hsee
          clear hsee
          go_region_held (fun w' => w'.cell? ⟨w2.heap.size, 0, none⟩ = some (.slice ai s2.inn.length ci) ∧ w'.cell? ⟨w2.heap.size, 1, none⟩ = some (.slice ao s2.out.length co) ∧
              (convert 27 9 (.slice ao s2.out.length co)).run Tryd.prog w' = .ok (.string (txt s2.out)) w')
            (first | exact ⟨k0, k1, k2⟩ | exact ⟨k3, k4, k5⟩)
            (first
              | (go_at_call 20; refine (tWaiting PZ.out).mono ?_; rintro e w' ⟨rfl, rfl⟩)
              | (go_at_call 25; refine (tLine PZ.out).mono ?_; rintro e w' ⟨rfl, rfl⟩)
              | (go_at_call 26; refine (tRLine PZ.out).mono ?_; rintro e w' ⟨rfl, rfl⟩)
              | (go_at_call 17; refine (pOut PZ.out).mono ?_; rintro e w11 ⟨v11, rfl, ho11, hf11, hp11⟩; obtain ⟨k3, k4, k5⟩ := HSEE.out w11 hf11; have k6 := ho11.rd.text (P := Tryd.prog) rfl 27 5 9 Tryd.underlying27 Tryd.underlying5 Tryd.underlying9; have PW := Lib.hid hp11; have FW := Lib.hid (FZ.out.trans hf11); clear ho11 hf11 hp11))
          all_goals
            go_wp2_with fail
            exact ⟨⟨k + 1, b', s2, by omega, rfl, rfl, PW, FW⟩, by simp [intOf]; omega⟩
        · obtain ⟨s2, hs2⟩ : ∃ s2, s2 = s.act x := ⟨_, rfl⟩
          rw [← hs2] at P4
          have PZ := Lib.hid (P4.out.fr (Fr.refl No w4).drew)
          have FZ := Lib.hid F4.out.drew
          have n3 : (x.act == 3) = false := by rw [beq_eq_false_iff_ne]; exact h3
          clear hs2 h3
          go_wp2_with fail
          obtain ⟨ai, ci, ao, co, hsee⟩ := PZ.out.sees
          obtain ⟨k0, k1, k2⟩ := hsee _ (Fr.refl _ _)
          rw [World.cell?_drew] at k0 k1
          have HSEE := Lib.hid hsee
          clear hsee
          go_region_held (fun w' => w'.cell? ⟨w2.heap.size, 0, none⟩ = some (.slice ai s2.inn.length ci) ∧ w'.cell? ⟨w2.heap.size, 1, none⟩ = some (.slice ao s2.out.length co) ∧
              (convert 27 9 (.slice ao s2.out.length co)).run Tryd.prog w' = .ok (.string (txt s2.out)) w')
            (first | exact ⟨k0, k1, k2⟩ | exact ⟨k3, k4, k5⟩)
            (first
              | (go_at_call 20; refine (tWaiting PZ.out).mono ?_; rintro e w' ⟨rfl, rfl⟩)
              | (go_at_call 25; refine (tLine PZ.out).mono ?_; rintro e w' ⟨rfl, rfl⟩)
              | (go_at_call 26; refine (tRLine PZ.out).mono ?_; rintro e w' ⟨rfl, rfl⟩)
              | (go_at_call 17; refine (pOut PZ.out).mono ?_; rintro e w11 ⟨v11, rfl, ho11, hf11, hp11⟩; obtain ⟨k3, k4, k5⟩ := HSEE.out w11 hf11; have k6 := ho11.rd.text (P := Tryd.prog) rfl 27 5 9 Tryd.underlying27 Tryd.underlying5 Tryd.underlying9; have PW := Lib.hid hp11; have FW := Lib.hid (FZ.out.trans hf11); clear ho11 hf11 hp11))
          all_goals
            go_wp2_with fail
            exact ⟨⟨k + 1, bu, s2, by omega, rfl, rfl, PW, FW⟩, by simp [intOf]; omega⟩
      · go_wp2_with fail
        go_ret
        exact ⟨rfl, HF.out⟩
  · go_wp2_with fail
    go_ret
    exact ⟨rfl, F1.out⟩
end Go.Proofs.YtcnglhneknbllaaDoor

/-
  The statements' function both: an act by a line and by the document's.
-/
import Derived.Test.YtcnglhneknbllaaDoorUartP
namespace Go.Proofs.YtcnglhneknbllaaDoor
open Go Go.RowKit

/-- A row of bytes that one may write: block `g`, from `o` on. -/
theorem bump_wrap (x : Nat) : ∃ y : Nat, y < 256 ∧ IntKind.u8.wrap ((x : Int) + 1) = (y : Int) := ⟨(x + 1) % 256, by omega, by rw [IntKind.wrap_u8']; omega⟩

section
variable {X : Nat → Prop} {w : World} {bu bw : Nat} {s : US} (x : UAct) (hx : x.Ok) (h : Pair X w bu s bw s)
/-- What both ends in. -/
def BothSaid (X : Nat → Prop) (w : World) (bu : Nat) (bw : Nat) (s' : US) (e : Ending) (w' : World) : Prop := e = .returned (.bool true) ∧ Pair X w' bu s' bw s' ∧ Keep X w w'
include hx h
set_option maxRecDepth 100000 in
set_option maxHeartbeats 2000000 in
theorem both_write (a0 : x.act = 0) : Calls Tryd.prog 22 #[.pointer (some ⟨bu, 0, none⟩), .pointer (some ⟨bw, 0, none⟩), .agg x.cells.toArray] w (BothSaid X w bu bw (s.act x)) := by
  obtain ⟨hx1, hx2⟩ := hx
  have hs : s.act x = (s.write x.off x.n x.v).1 := by unfold US.act; rw [if_pos a0]
  have H1 := Lib.hid (h.alloc (.cells x.cells.toArray 32))
  have HZ := Lib.hid h.gr.zero
  have HB := Lib.hid (Blk.new w 32 x.cells.toArray)
  have HA := Lib.hid (((Fr.refl No w).alloc (.cells x.cells.toArray 32)).keep (X := X) (fun _ h => h.elim))
  have HX1 := Lib.hid hx1
  have HX2 := Lib.hid hx2
  have HS := Lib.hid hs
  have HW := Lib.hid h
  clear h hx1 hx2 hs
  simp only [UAct.cells, a0]
  go_enter Tryd.func22, Tryd.ntmps22
  go_wp2_with fail
  simp only [UAct.cells, a0] at H1 HB HA
  refine (pWrite x.off x.n x.v HX1.out H1.out).mono ?_
  rintro e w1 ⟨rfl, hp1, hk1⟩
  have hb1 := HB.out.keep hk1 (.inr rfl)
  have hc1 := fun o => hb1.cell o
  have H2 := Lib.hid hp1
  have HK1 := Lib.hid hk1
  clear hp1 hk1 hb1
  go_wp2_with fail
  refine (pRWrite x.off x.n x.v HX2.out H2.out).mono ?_
  rintro e w2 ⟨rfl, hp2, hk2⟩
  have H3 := Lib.hid hp2
  have HK2 := Lib.hid hk2
  clear hp2 hk2 hc1
  go_wp2_with fail
  go_ret
  refine ⟨by simp, ?_, ?_⟩
  · rw [HS.out]
    exact H3.out.weaken (fun k hk => .inl hk) HZ.out
  · exact (HA.out.trans (HK1.out.mono (fun k _ hk hx => hk (.inl hx)))).trans (HK2.out.mono (fun k _ hk hx => hk (.inl hx)))

set_option maxRecDepth 100000 in
set_option maxHeartbeats 2000000 in
theorem both_read (a0 : x.act = 1) : Calls Tryd.prog 22 #[.pointer (some ⟨bu, 0, none⟩), .pointer (some ⟨bw, 0, none⟩), .agg x.cells.toArray] w (BothSaid X w bu bw (s.act x)) := by
  obtain ⟨hx1, hx2⟩ := hx
  have hs : s.act x = (s.read x.off x.n).1 := by unfold US.act; rw [if_neg (by omega), if_pos a0]
  have H1 := Lib.hid (h.alloc (.cells x.cells.toArray 32))
  have HZ := Lib.hid h.gr.zero
  have HB := Lib.hid (Blk.new w 32 x.cells.toArray)
  have HA := Lib.hid (((Fr.refl No w).alloc (.cells x.cells.toArray 32)).keep (X := X) (fun _ h => h.elim))
  have HX1 := Lib.hid hx1
  have HS := Lib.hid hs
  clear h hx1 hx2 hs
  simp only [UAct.cells, a0]
  go_enter Tryd.func22, Tryd.ntmps22
  go_wp2_with fail
  simp only [UAct.cells, a0] at H1 HB HA
  refine (pRead x.off x.n HX1.out H1.out).mono ?_
  rintro e w1 ⟨rfl, hp1, hk1⟩
  have hb1 := HB.out.keep hk1 (.inr rfl)
  have hc1 := fun o => hb1.cell o
  have H2 := Lib.hid hp1
  have HK1 := Lib.hid hk1
  clear hp1 hk1 hb1
  go_wp2_with fail
  refine (pRRead x.off x.n HX1.out H2.out).mono ?_
  rintro e w2 ⟨rfl, hp2, hk2⟩
  have H3 := Lib.hid hp2
  have HK2 := Lib.hid hk2
  clear hp2 hk2 hc1
  go_wp2_with fail
  go_ret
  refine ⟨by simp, ?_, ?_⟩
  · rw [HS.out]
    exact H3.out.weaken (fun k hk => .inl hk) HZ.out
  · exact (HA.out.trans (HK1.out.mono (fun k _ hk hx => hk (.inl hx)))).trans (HK2.out.mono (fun k _ hk hx => hk (.inl hx)))

omit hx in
set_option maxRecDepth 100000 in
set_option maxHeartbeats 2000000 in
theorem both_feed (a0 : x.act = 2) : Calls Tryd.prog 22 #[.pointer (some ⟨bu, 0, none⟩), .pointer (some ⟨bw, 0, none⟩), .agg x.cells.toArray] w (BothSaid X w bu bw (s.act x)) := by
  have hs : s.act x = (s.feed (x.v % 256)).1 := by unfold US.act; rw [if_neg (by omega), if_neg (by omega), if_pos a0]
  have H1 := Lib.hid (h.alloc (.cells x.cells.toArray 32))
  have HZ := Lib.hid h.gr.zero
  have HB := Lib.hid (Blk.new w 32 x.cells.toArray)
  have HA := Lib.hid (((Fr.refl No w).alloc (.cells x.cells.toArray 32)).keep (X := X) (fun _ h => h.elim))
  have HS := Lib.hid hs
  have hv : IntKind.u8.wrap (x.v : Int) = ((x.v % 256 : Nat) : Int) := by rw [IntKind.wrap_u8']; omega
  have hm : x.v % 256 < 256 := by omega
  have hv2 : ∀ y, y = x.v % 256 → IntKind.u8.wrap (x.v : Int) = ((y : Nat) : Int) := fun y hy => by rw [hy, hv]
  obtain ⟨y, hy⟩ : ∃ y, y = x.v % 256 := ⟨_, rfl⟩
  have hvy := hv2 y hy
  rw [← hy] at hm
  have HY := Lib.hid hy
  clear h hs hv hv2 hy
  simp only [UAct.cells, a0]
  go_enter Tryd.func22, Tryd.ntmps22
  go_wp2_with fail
  simp only [UAct.cells, a0] at H1 HB HA
  refine (pFeed y hm H1.out).mono ?_
  rintro e w1 ⟨rfl, hp1, hk1⟩
  have hb1 := HB.out.keep hk1 (.inr rfl)
  have hc1 := fun o => hb1.cell o
  have H2 := Lib.hid hp1
  have HK1 := Lib.hid hk1
  clear hp1 hk1 hb1
  go_wp2_with fail
  refine (pRFeed y hm H2.out).mono ?_
  rintro e w2 ⟨rfl, hp2, hk2⟩
  have H3 := Lib.hid hp2
  have HK2 := Lib.hid hk2
  clear hp2 hk2 hc1
  go_wp2_with fail
  go_ret
  refine ⟨by simp, ?_, ?_⟩
  · rw [HS.out, ← HY.out]
    exact H3.out.weaken (fun k hk => .inl hk) HZ.out
  · exact (HA.out.trans (HK1.out.mono (fun k _ hk hx => hk (.inl hx)))).trans (HK2.out.mono (fun k _ hk hx => hk (.inl hx)))

omit hx in
set_option maxRecDepth 100000 in
set_option maxHeartbeats 2000000 in
theorem both_none (a0 : x.act ≠ 0) (a1 : x.act ≠ 1) (a2 : x.act ≠ 2) (a4 : x.act ≠ 4) : Calls Tryd.prog 22 #[.pointer (some ⟨bu, 0, none⟩), .pointer (some ⟨bw, 0, none⟩), .agg x.cells.toArray] w (BothSaid X w bu bw (s.act x)) := by
  have hs : s.act x = s := by unfold US.act; rw [if_neg a0, if_neg a1, if_neg a2]
  rw [hs]
  have HA := Lib.hid ((Fr.refl No w).alloc (.cells x.cells.toArray 32))
  have HH := Lib.hid h
  clear h hs
  have b0 : (x.act == 0) = false := by rw [beq_eq_false_iff_ne]; exact a0
  have b1 : (x.act == 1) = false := by rw [beq_eq_false_iff_ne]; exact a1
  have b2 : (x.act == 2) = false := by rw [beq_eq_false_iff_ne]; exact a2
  have b4 : (x.act == 4) = false := by rw [beq_eq_false_iff_ne]; exact a4
  simp only [UAct.cells] at HA ⊢
  clear a0 a1 a2 a4
  go_enter Tryd.func22, Tryd.ntmps22
  go_wp2_with fail
  go_ret
  exact ⟨by simp, HH.out.fr HA.out, HA.out.keep (fun _ h => h.elim)⟩

omit hx in
set_option maxRecDepth 100000 in
set_option maxHeartbeats 2000000 in
theorem both_out (a0 : x.act = 4) : Calls Tryd.prog 22 #[.pointer (some ⟨bu, 0, none⟩), .pointer (some ⟨bw, 0, none⟩), .agg x.cells.toArray] w (BothSaid X w bu bw (s.act x)) := by
  have hs : s.act x = s := by unfold US.act; rw [if_neg (by omega), if_neg (by omega), if_neg (by omega)]
  rw [hs]
  have hA := (Fr.refl No w).alloc (.cells x.cells.toArray 32)
  have HA := Lib.hid hA
  have H1 := Lib.hid (h.fr hA)
  have HH := Lib.hid h
  obtain ⟨h0, F, G, hu, _⟩ := h
  have hol := hu.ok.olen
  have hob := hu.ok.out
  clear hA hs h0 hu
  simp only [UAct.cells, a0] at HA H1 ⊢
  go_enter Tryd.func22, Tryd.ntmps22
  go_wp2_with fail
  refine (pOut H1.out).mono ?_
  rintro e w1 ⟨v1, rfl, ho1, hf1, hp1⟩
  have hfw := HA.out.trans hf1
  obtain ⟨n, hn⟩ : ∃ n, n = s.out.length := ⟨_, rfl⟩
  rw [← hn] at ho1
  have hnl : n ≤ 2147483647 := by omega
  obtain ⟨a1, c1, hv1, hnc1, hm1⟩ := ho1.slice
  have HFW := Lib.hid hfw
  have hcells : ∀ j, j < n → ∃ g o, a1 = some ⟨g, o, none⟩ ∧ w.heap.size ≤ g ∧ ∃ y : Nat, y < 256 ∧ w1.cell? ⟨g, o + j, none⟩ = some (u8v y) ∧ w1.frozen? ⟨g, o + j, none⟩ = false := by
    intro j hj
    obtain ⟨g, o, c, hv, _, _, hG, _, hcell, hfz⟩ := ho1.at_ (by omega)
    rw [hv1] at hv
    cases hv
    have hjl : j < s.out.length := by omega
    refine ⟨g, o, rfl, by have := hG.1; have := HA.out.size; omega, s.out[j], hob _ (List.getElem_mem _), hcell j _ ?_, hfz _⟩
    rw [bytesV_at]
    simp [hjl]
  have HC := Lib.hid hcells
  have HN := Lib.hid hn
  subst hv1
  clear hfw hf1 hp1 ho1 hcells hob hol hn hm1
  go_wp2_with fail
  go_loopw [14] (fun i wr => ∃ k : Nat, k ≤ n ∧ i = .int .i64 (k : Int) ∧ Hid (Fr No w wr) ∧ Hid (∀ j, j < n → ∃ g o, a1 = some ⟨g, o, none⟩ ∧ w.heap.size ≤ g ∧ ∃ y : Nat, y < 256 ∧ wr.cell? ⟨g, o + j, none⟩ = some (u8v y) ∧ wr.frozen? ⟨g, o + j, none⟩ = false)) (fun i _ => n - (intOf i).toNat)
  case atStart => exact ⟨0, Nat.zero_le _, rfl, HFW, HC⟩
  case round =>
    obtain ⟨k, hk, rfl, HF, HD⟩ := hrel
    by_cases hlt : k < n
    · obtain ⟨g, o, ha1, hg, y, hy, hcy, hfy⟩ := HD.out k hlt
      subst ha1
      obtain ⟨z, hz, hbz⟩ := bump_wrap y
      have HY := Lib.hid hcy
      have HX := Lib.hid hfy
      go_wp2_with fail
      refine ⟨⟨k + 1, by omega, rfl, Lib.hid (HF.out.andThen (Fr.put wr g (o + k) _) (fun b hb hb' => by rw [show b = g from hb'] at hb; omega)), Lib.hid (fun j hj => ?_)⟩, by simp [intOf]; omega⟩
      obtain ⟨g', o', hgo, hg', y', hy', hc', hf'⟩ := HD.out j hj
      cases hgo
      refine ⟨g, o, rfl, hg, ?_⟩
      by_cases hjk : j = k
      · subst hjk
        exact ⟨z, hz, World.cell?_setCell_same _ _ _ HY.out, by rw [World.frozen?_setCell]; exact hf'⟩
      · exact ⟨y', hy', by rw [World.cell?_setCell_other _ _ _ _ (by simp <;> omega)]; exact hc', by rw [World.frozen?_setCell]; exact hf'⟩
    · go_wp2_with fail
      go_ret
      exact ⟨rfl, HH.out.fr HF.out, HF.out.keep (fun _ h => h.elim)⟩

theorem both_c : Calls Tryd.prog 22 #[.pointer (some ⟨bu, 0, none⟩), .pointer (some ⟨bw, 0, none⟩), .agg x.cells.toArray] w (BothSaid X w bu bw (s.act x)) := by
  by_cases a0 : x.act = 0
  · exact both_write x hx h a0
  · by_cases a1 : x.act = 1
    · exact both_read x hx h a1
    · by_cases a2 : x.act = 2
      · exact both_feed x h a2
      · by_cases a4 : x.act = 4
        · exact both_out x h a4
        · exact both_none x h a0 a1 a2 a4
end
end Go.Proofs.YtcnglhneknbllaaDoor

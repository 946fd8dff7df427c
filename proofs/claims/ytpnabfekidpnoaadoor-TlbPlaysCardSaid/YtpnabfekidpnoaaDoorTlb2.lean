/-
  The set of an address, and the closures that say which entries go: what the walks over the translations compute.
-/
import Derived.Test.YtpnabfekidpnoaaDoorTlb1
namespace Go.Proofs.YtpnabfekidpnoaaDoor
open Go Go.RowKit

set_option maxRecDepth 100000 in
set_option maxHeartbeats 1000000 in
theorem set_c (w : World) (b s c n : Nat) (ways : Int) (va : Nat) (hb : Blk w b 64 #[.int .i64 ways, .slice (some ⟨s, 0, none⟩) n c]) (h0 : 0 < n) (h64 : n ≤ 64) :
    Calls Tryd.prog 23 #[.pointer (some ⟨b, 0, none⟩), .int .u64 (va : Int)] w fun e w' => e = .returned (.pointer (some ⟨s, setOf n va, none⟩)) ∧ ∃ m, w' = w.drewN m := by
  have c0 : w.cell? ⟨b, 0, none⟩ = some (.int .i64 ways) := hb.cell 0
  have c1 : w.cell? ⟨b, 1, none⟩ = some (.slice (some ⟨s, 0, none⟩) n c) := hb.cell 1
  have e1 : IntKind.u64.wrap (n : Int) = (n : Int) := by rw [IntKind.wrap_u64]; omega
  obtain ⟨p, hp⟩ : ∃ p, p = va / 4096 := ⟨_, rfl⟩
  obtain ⟨q, hq⟩ : ∃ q, q = p % n := ⟨_, rfl⟩
  have hlt : q < n := by rw [hq]; exact Nat.mod_lt _ h0
  have e2 : (p : Int).tmod (n : Int) = (q : Int) := by rw [hq, Int.tmod_eq_emod_of_nonneg (by omega)]; simp
  have e3 : ((n : Int) == 0) = false := by simp; omega
  have hs : setOf n va = q := by unfold setOf; rw [hq, hp]
  have HS := Lib.hid hs
  have hpc := fun w => page_c w va
  rw [← hp] at hpc
  have HPC := Lib.hid hpc
  clear hp hq hb hs hpc
  go_enter Tryd.func23, Tryd.ntmps23
  go_wp2_with fail
  go_quiet ((go_at_call 43; exact quiet_eq (HPC.out _)))
  go_wp2_with fail
  go_ret
  rw [HS.out]
  exact ⟨rfl, _, rfl⟩
theorem nateq (x y : Nat) : ((x : Int) == (y : Int)) = (x == y) := by rw [Bool.eq_iff_iff, beq_iff_eq, beq_iff_eq]; exact Int.natCast_inj
theorem infoE : (Tryd.prog.info? 25).map (·.size) = some 11 := by kernel_rfl
set_option maxRecDepth 100000 in
set_option maxHeartbeats 1000000 in
/-- Is one for the question of another? -/
theorem put1_c (w : World) (bx : Nat) (e x : TE) (hb : Blk w bx 25 e.cells.toArray) :
    Calls Tryd.prog 25 #[.agg x.cells.toArray, .pointer (some ⟨bx, 0, none⟩)] w fun r w' => r = .returned (.bool (e.own x)) ∧ Below w.heap.size w w' := by
  obtain ⟨wA, hwA⟩ : ∃ wA, wA = w.alloc (.cells x.cells.toArray 25) := ⟨_, rfl⟩
  have hbA : Blk wA bx 25 e.cells.toArray := by rw [hwA]; exact hb.alloc _
  have c0 : (w.alloc (.cells x.cells.toArray 25)).cell? ⟨bx, 0, none⟩ = some (.bool e.v) := by rw [← hwA]; exact hbA.cell 0
  have c1 : (w.alloc (.cells x.cells.toArray 25)).cell? ⟨bx, 1, none⟩ = some (.int .u64 (e.vmid : Int)) := by rw [← hwA]; exact hbA.cell 1
  have c2 : (w.alloc (.cells x.cells.toArray 25)).cell? ⟨bx, 2, none⟩ = some (.int .u64 (e.asid : Int)) := by rw [← hwA]; exact hbA.cell 2
  have c4 : (w.alloc (.cells x.cells.toArray 25)).cell? ⟨bx, 4, none⟩ = some (.int .u64 (e.va : Int)) := by rw [← hwA]; exact hbA.cell 4
  have HS := Lib.hid (show Seg (w.alloc (.cells x.cells.toArray 25)) w.heap.size 0 x.cells from Seg.new w 25 x.cells.toArray)
  have HB := Lib.hid ((Below.refl w.heap.size w).alloc (Nat.le_refl _) (.cells x.cells.toArray 25))
  clear hb hbA hwA
  have HC := Lib.hid (fun W => answers_c W x e.v e.vmid e.asid e.va)
  obtain ⟨r, hr⟩ : ∃ r, r = e.own x := ⟨_, rfl⟩
  have hr2 : x.ans e.v e.vmid e.asid e.va = r := hr.symm
  rw [hr2] at HC
  rw [← hr]
  clear hr hr2 HS
  obtain ⟨xv, xvmid, xasid, xgl, xva, xgpa, xpa, xvl, xgll, xvs, xg⟩ := x
  change Calls Tryd.prog 25 #[.agg #[.bool xv, .int .u64 (xvmid : Int), .int .u64 (xasid : Int), .bool xgl, .int .u64 (xva : Int), .int .u64 (xgpa : Int), .int .u64 (xpa : Int), .int .i64 xvl, .int .i64 xgll, .int .u64 (xvs : Int), .int .u64 (xg : Int)], .pointer (some ⟨bx, 0, none⟩)] w _
  change (w.alloc (.cells #[.bool xv, .int .u64 (xvmid : Int), .int .u64 (xasid : Int), .bool xgl, .int .u64 (xva : Int), .int .u64 (xgpa : Int), .int .u64 (xpa : Int), .int .i64 xvl, .int .i64 xgll, .int .u64 (xvs : Int), .int .u64 (xg : Int)] 25)).cell? ⟨bx, 0, none⟩ = some (.bool e.v) at c0
  change (w.alloc (.cells #[.bool xv, .int .u64 (xvmid : Int), .int .u64 (xasid : Int), .bool xgl, .int .u64 (xva : Int), .int .u64 (xgpa : Int), .int .u64 (xpa : Int), .int .i64 xvl, .int .i64 xgll, .int .u64 (xvs : Int), .int .u64 (xg : Int)] 25)).cell? ⟨bx, 1, none⟩ = some (.int .u64 (e.vmid : Int)) at c1
  change (w.alloc (.cells #[.bool xv, .int .u64 (xvmid : Int), .int .u64 (xasid : Int), .bool xgl, .int .u64 (xva : Int), .int .u64 (xgpa : Int), .int .u64 (xpa : Int), .int .i64 xvl, .int .i64 xgll, .int .u64 (xvs : Int), .int .u64 (xg : Int)] 25)).cell? ⟨bx, 2, none⟩ = some (.int .u64 (e.asid : Int)) at c2
  change (w.alloc (.cells #[.bool xv, .int .u64 (xvmid : Int), .int .u64 (xasid : Int), .bool xgl, .int .u64 (xva : Int), .int .u64 (xgpa : Int), .int .u64 (xpa : Int), .int .i64 xvl, .int .i64 xgll, .int .u64 (xvs : Int), .int .u64 (xg : Int)] 25)).cell? ⟨bx, 4, none⟩ = some (.int .u64 (e.va : Int)) at c4
  go_enter Tryd.func25, Tryd.ntmps25
  go_wp2_with fail
  refine (HC.out _).mono ?_
  rintro r w2 ⟨rfl, hb2⟩
  go_wp2_with fail
  go_ret
  exact ⟨rfl, HB.out.trans (hb2.mono HB.out.size)⟩
set_option maxRecDepth 100000 in
theorem clear1_c (w : World) (x : TE) : Calls Tryd.prog 36 #[.agg x.cells.toArray] w fun r w' => r = .returned (.bool true) ∧ Below w.heap.size w w' := by
  go_enter Tryd.func36, Tryd.ntmps36
  go_wp2_with fail
  go_ret
  exact ⟨rfl, (Below.refl w.heap.size w).alloc (Nat.le_refl _) _⟩
set_option maxRecDepth 100000 in
set_option maxHeartbeats 1000000 in
/-- Which guests' entries go. -/
theorem fenceG1_c (w : World) (b1 b2 : Nat) (vmid : Nat) (by_ : Bool) (e : TE) (h1 : w.cell? ⟨b1, 0, none⟩ = some (.bool by_)) (h2 : w.cell? ⟨b2, 0, none⟩ = some (.int .u64 (vmid : Int))) :
    Calls Tryd.prog 34 #[.agg e.cells.toArray, .pointer (some ⟨b1, 0, none⟩), .pointer (some ⟨b2, 0, none⟩)] w fun r w' => r = .returned (.bool (TS.fenceG vmid by_ e)) ∧ Below w.heap.size w w' := by
  obtain ⟨ev, evmid, easid, egl, eva, egpa, epa, evl, egll, evs, eg⟩ := e
  have hans : TS.fenceG vmid by_ ⟨ev, evmid, easid, egl, eva, egpa, epa, evl, egll, evs, eg⟩ = (ev && (!by_ || evmid == vmid)) := rfl
  have HA := Lib.hid hans
  clear hans
  have c1 := fun o => (World.cell?_alloc_some w ⟨b1, 0, none⟩ o (by rw [h1]; rfl)).trans h1
  have c2 := fun o => (World.cell?_alloc_some w ⟨b2, 0, none⟩ o (by rw [h2]; rfl)).trans h2
  show Calls Tryd.prog 34 #[.agg #[.bool ev, .int .u64 (evmid : Int), .int .u64 (easid : Int), .bool egl, .int .u64 (eva : Int), .int .u64 (egpa : Int), .int .u64 (epa : Int), .int .i64 evl, .int .i64 egll, .int .u64 (evs : Int), .int .u64 (eg : Int)], .pointer (some ⟨b1, 0, none⟩), .pointer (some ⟨b2, 0, none⟩)] w _
  go_enter Tryd.func34, Tryd.ntmps34
  go_wp2_with fail
  all_goals
    go_ret
    refine ⟨?_, (Below.refl _ w).alloc (Nat.le_refl _) _⟩
    rw [HA.out]
    clear HA c1 c2 h1 h2
    simp_all [nateq, Int.natCast_inj]
set_option maxRecDepth 100000 in
set_option maxHeartbeats 2000000 in
/-- Which entries of address spaces go. -/
theorem fence1_c (w : World) (b1 b2 b3 b4 b5 b6 : Nat) (v : Bool) (vmid asid va : Nat) (byVa byAsid : Bool) (e : TE) (h1 : w.cell? ⟨b1, 0, none⟩ = some (.bool v)) (h2 : w.cell? ⟨b2, 0, none⟩ = some (.int .u64 (vmid : Int))) (h3 : w.cell? ⟨b3, 0, none⟩ = some (.bool byVa)) (h4 : w.cell? ⟨b4, 0, none⟩ = some (.int .u64 (va : Int))) (h5 : w.cell? ⟨b5, 0, none⟩ = some (.bool byAsid)) (h6 : w.cell? ⟨b6, 0, none⟩ = some (.int .u64 (asid : Int))) :
    Calls Tryd.prog 32 #[.agg e.cells.toArray, .pointer (some ⟨b1, 0, none⟩), .pointer (some ⟨b2, 0, none⟩), .pointer (some ⟨b3, 0, none⟩), .pointer (some ⟨b4, 0, none⟩), .pointer (some ⟨b5, 0, none⟩), .pointer (some ⟨b6, 0, none⟩)] w fun r w' => r = .returned (.bool (TS.fence v vmid asid va byVa byAsid e)) ∧ Below w.heap.size w w' := by
  obtain ⟨h, hh⟩ : ∃ h, h = e.hold va := ⟨_, rfl⟩
  obtain ⟨ev, evmid, easid, egl, eva, egpa, epa, evl, egll, evs, eg⟩ := e
  have hans : TS.fence v vmid asid va byVa byAsid ⟨ev, evmid, easid, egl, eva, egpa, epa, evl, egll, evs, eg⟩ = (ev == v && (!v || evmid == vmid) && (!byVa || h) && (!byAsid || !egl && easid == asid)) := by rw [hh]; rfl
  have HA := Lib.hid hans
  have HHC := Lib.hid (show ∀ (W : World) (ev' egl' : Bool) (vm' as' : Int), (∃ a b : Nat, vm' = (a : Int) ∧ as' = (b : Int)) → Calls Tryd.prog 33 #[.agg #[.bool ev', .int .u64 vm', .int .u64 as', .bool egl', .int .u64 (eva : Int), .int .u64 (egpa : Int), .int .u64 (epa : Int), .int .i64 evl, .int .i64 egll, .int .u64 (evs : Int), .int .u64 (eg : Int)], .int .u64 (va : Int)] W fun r w' => r = .returned (.bool h) ∧ Below W.heap.size W w' from fun W ev' egl' vm' as' ⟨a, b, e1, e2⟩ => by subst e1 e2; rw [hh]; exact holds_c W ⟨ev', a, b, egl', eva, egpa, epa, evl, egll, evs, eg⟩ va)
  clear hans hh
  obtain ⟨wA, hwA⟩ : ∃ wA, wA = w.alloc (.cells #[.bool ev, .int .u64 (evmid : Int), .int .u64 (easid : Int), .bool egl, .int .u64 (eva : Int), .int .u64 (egpa : Int), .int .u64 (epa : Int), .int .i64 evl, .int .i64 egll, .int .u64 (evs : Int), .int .u64 (eg : Int)] 25) := ⟨_, rfl⟩
  have HB := Lib.hid (show Below w.heap.size w wA from by rw [hwA]; exact (Below.refl _ w).alloc (Nat.le_refl _) _)
  have HX := Lib.hid (show Blk wA w.heap.size 25 #[.bool ev, .int .u64 (evmid : Int), .int .u64 (easid : Int), .bool egl, .int .u64 (eva : Int), .int .u64 (egpa : Int), .int .u64 (epa : Int), .int .i64 evl, .int .i64 egll, .int .u64 (evs : Int), .int .u64 (eg : Int)] from by rw [hwA]; exact Blk.new w _ _)
  have HK := Lib.hid (show wA.cell? ⟨b1, 0, none⟩ = some (.bool v) ∧ wA.cell? ⟨b2, 0, none⟩ = some (.int .u64 (vmid : Int)) ∧ wA.cell? ⟨b3, 0, none⟩ = some (.bool byVa) ∧ wA.cell? ⟨b4, 0, none⟩ = some (.int .u64 (va : Int)) ∧ wA.cell? ⟨b5, 0, none⟩ = some (.bool byAsid) ∧ wA.cell? ⟨b6, 0, none⟩ = some (.int .u64 (asid : Int)) from by
    have f : ∀ p u, w.cell? p = some u → wA.cell? p = some u := fun p u hp => by rw [hwA]; exact (World.cell?_alloc_some w p _ (by rw [hp]; rfl)).trans hp
    exact ⟨f _ _ h1, f _ _ h2, f _ _ h3, f _ _ h4, f _ _ h5, f _ _ h6⟩)
  have HWA := Lib.hid hwA
  clear hwA h1 h2 h3 h4 h5 h6
  show Calls Tryd.prog 32 #[.agg #[.bool ev, .int .u64 (evmid : Int), .int .u64 (easid : Int), .bool egl, .int .u64 (eva : Int), .int .u64 (egpa : Int), .int .u64 (epa : Int), .int .i64 evl, .int .i64 egll, .int .u64 (evs : Int), .int .u64 (eg : Int)], .pointer (some ⟨b1, 0, none⟩), .pointer (some ⟨b2, 0, none⟩), .pointer (some ⟨b3, 0, none⟩), .pointer (some ⟨b4, 0, none⟩), .pointer (some ⟨b5, 0, none⟩), .pointer (some ⟨b6, 0, none⟩)] w _
  go_enter Tryd.func32, Tryd.ntmps32
  go_upto_region 1 with fail
  rw [← HWA.out]
  obtain ⟨k1, k2, k3, k4, k5, k6⟩ := HK.out
  have x0 : wA.cell? ⟨w.heap.size, 0, none⟩ = some (.bool ev) := HX.out.cell 0
  have x1 : wA.cell? ⟨w.heap.size, 1, none⟩ = some (.int .u64 (evmid : Int)) := HX.out.cell 1
  have x2 : wA.cell? ⟨w.heap.size, 2, none⟩ = some (.int .u64 (easid : Int)) := HX.out.cell 2
  have x3 : wA.cell? ⟨w.heap.size, 3, none⟩ = some (.bool egl) := HX.out.cell 3
  have x4 : wA.cell? ⟨w.heap.size, 4, none⟩ = some (.int .u64 (eva : Int)) := HX.out.cell 4
  have x5 : wA.cell? ⟨w.heap.size, 5, none⟩ = some (.int .u64 (egpa : Int)) := HX.out.cell 5
  have x6 : wA.cell? ⟨w.heap.size, 6, none⟩ = some (.int .u64 (epa : Int)) := HX.out.cell 6
  have x7 : wA.cell? ⟨w.heap.size, 7, none⟩ = some (.int .i64 evl) := HX.out.cell 7
  have x8 : wA.cell? ⟨w.heap.size, 8, none⟩ = some (.int .i64 egll) := HX.out.cell 8
  have x9 : wA.cell? ⟨w.heap.size, 9, none⟩ = some (.int .u64 (evs : Int)) := HX.out.cell 9
  have x10 : wA.cell? ⟨w.heap.size, 10, none⟩ = some (.int .u64 (eg : Int)) := HX.out.cell 10
  clear HX
  go_wp2_with fail
  all_goals first
    | (go_at_call 33
       refine (HHC.out _ _ _ _ _ ⟨_, _, rfl, rfl⟩).mono ?_
       rintro r w2 ⟨rfl, hb2⟩
       have f : ∀ p u, wA.cell? p = some u → w2.cell? p = some u := fun p u hp => (World.cell?_of_block (hb2.block _ (World.block_lt_of_cell? wA p hp))).trans hp
       have y2 := f _ _ x2
       have y3 := f _ _ x3
       have y5 := f _ _ k5
       have y6 := f _ _ k6
       have HB2 := Lib.hid (HB.out.trans (hb2.mono HB.out.size))
       clear f hb2 x0 x1 x2 x3 x4 x5 x6 x7 x8 x9 x10 k1 k2 k3 k4 k5 k6
       go_wp2_with fail)
    | skip
  all_goals
    go_ret
    refine ⟨?_, by first | exact HB2.out | exact HB.out⟩
    rw [HA.out]
    clear HA HB HHC HK HWA
    try clear HB2
    try simp only [Int.natCast_inj] at *
    simp_all [nateq]
end Go.Proofs.YtpnabfekidpnoaaDoor

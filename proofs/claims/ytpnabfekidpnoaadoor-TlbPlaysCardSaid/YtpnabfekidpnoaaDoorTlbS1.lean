/-
  The document's translations in memory; its small functions.
-/
import Derived.Test.YtpnabfekidpnoaaDoorTlbN
import Derived.Test.YtpnabfekidpnoaaDoorTlbQ
namespace Go.Proofs.YtpnabfekidpnoaaDoor
open Go Go.RowKit

/-- A row of the document's entries. -/
def RRow (w : World) (v : Value) (l : List TE) (G : Nat → Prop) : Prop := Head w 78 11 v l.length (tcells l) G
/-- The document's one: its block, and the row of its entries; all lie in blocks of F. -/
def RTAt (w : World) (b n ways : Nat) (R : List TE) (F : Nat → Prop) : Prop :=
  ∃ (v : Value) (G : Nat → Prop), Blk w b 76 #[.int .i64 (n : Int), .int .i64 (ways : Int), v] ∧ RRow w v R G ∧ F b ∧ ∀ k, G k → F k ∧ k ≠ b
namespace RTAt
variable {w w' : World} {b n ways : Nat} {R : List TE} {F S : Nat → Prop}
theorem fr (h : RTAt w b n ways R F) (hf : Fr S w w') (hd : ∀ k, F k → ¬ S k) : RTAt w' b n ways R F := by
  obtain ⟨v, G, h1, h2, h3, h4⟩ := h
  exact ⟨v, G, h1.fr hf (hd _ h3), Head.fr h2 hf (fun k hk => hd _ (h4 k hk).1), h3, h4⟩
theorem mono {F' : Nat → Prop} (h : RTAt w b n ways R F) (hF : ∀ k, F k → F' k) : RTAt w b n ways R F' := by
  obtain ⟨v, G, h1, h2, h3, h4⟩ := h
  exact ⟨v, G, h1, h2, hF _ h3, fun k hk => ⟨hF _ (h4 k hk).1, (h4 k hk).2⟩⟩
theorem cut (h : RTAt w b n ways R F) : RTAt w b n ways R (fun k => F k ∧ k < w.heap.size) := by
  obtain ⟨v, G, h1, h2, h3, h4⟩ := h
  exact ⟨v, fun k => G k ∧ k < w.heap.size, h1, Head.cut h2, ⟨h3, h1.lt⟩, fun k hk => ⟨⟨(h4 k hk.1).1, hk.2⟩, (h4 k hk.1).2⟩⟩
theorem lt (h : RTAt w b n ways R F) : b < w.heap.size := by
  obtain ⟨v, G, h1, _⟩ := h
  exact h1.lt
end RTAt
namespace RRow
variable {w w' : World} {v : Value} {l : List TE} {G S : Nat → Prop}
theorem len (h : RRow w v l G) : ∃ a c, v = .slice a l.length c ∧ l.length ≤ c ∧ c ≤ maxLen := by
  rcases h.2 with ⟨h1, h2⟩ | ⟨g, c, cur, h1, h2, h3, h4, h5, h6, h7⟩
  · exact ⟨none, 0, by rw [h1, h2], by omega, by unfold maxLen; omega⟩
  · exact ⟨_, c, h1, h4, h5⟩
/-- Where its entries lie. -/
theorem at_ (h : RRow w v l G) (h0 : 0 < l.length) : ∃ g c, v = .slice (some ⟨g, 0, none⟩) l.length c ∧ G g ∧ g < w.heap.size ∧ ∀ W, Fr No w W → ∀ i (hi : i < l.length), Seg W g (i * 11) (l[i]).cells := by
  rcases h.2 with ⟨h1, h2⟩ | ⟨g, c, cur, h1, h2, h3, h4, h5, h6, h7⟩
  · omega
  · refine ⟨g, c, h1, h2, h3.lt, fun W hW i hi => ?_⟩
    have hW2 := h3.fr hW (fun q => q)
    refine ⟨_, cur, hW2, fun j u hj => ?_⟩
    have hj11 : j < 11 := by rw [← TE.cells_len (l[i])]; exact (List.getElem?_eq_some_iff.1 hj).1
    have hlen := tcells_len l
    have := h7 (i * 11 + j) (by rw [hlen]; omega)
    rw [this, tcells_split hi, List.append_assoc, List.getElem?_append_right (by rw [tcells_len, List.length_take]; omega), tcells_len, List.length_take, List.getElem?_append_left (by rw [TE.cells_len]; omega), ← hj]
    congr 1
    omega
end RRow
theorem wq_quo (a k : Nat) (h : a < 18446744073709551616) : IntKind.u64.wrap ((a : Int) / (k : Int)) = (a : Int) / (k : Int) := by
  have h2 : a / k ≤ a := Nat.div_le_self a k
  rw [← Int.natCast_ediv]
  generalize a / k = z at h2
  rw [IntKind.wrap_u64]
  omega
set_option maxRecDepth 100000 in
set_option maxHeartbeats 1000000 in
theorem rIs_c (w : World) (e : TE) (v : Bool) (vmid asid va : Nat) (he : e.va < 18446744073709551616) (hva : va < 18446744073709551616) :
    Calls Tryd.prog 48 #[.agg e.cells.toArray, .bool v, .int .u64 (vmid : Int), .int .u64 (asid : Int), .int .u64 (va : Int)] w fun r w' => r = .returned (.bool (e.ans v vmid asid va)) ∧ Fr No w w' := by
  obtain ⟨ev, evmid, easid, egl, eva, egpa, epa, evl, egll, evs, eg⟩ := e
  have hans : TE.ans ⟨ev, evmid, easid, egl, eva, egpa, epa, evl, egll, evs, eg⟩ v vmid asid va = (ev == v && (!v || evmid == vmid) && (egl || easid == asid) && (eva / 4096 == va / 4096)) := rfl
  have hw1 : IntKind.u64.wrap ((eva : Int) / 4096) = (eva : Int) / 4096 := wq_quo eva 4096 he
  have hw2 : IntKind.u64.wrap ((va : Int) / 4096) = (va : Int) / 4096 := wq_quo va 4096 hva
  clear he hva
  have HA := Lib.hid hans
  have hb := Lib.hid ((Below.refl w.heap.size w).alloc (Nat.le_refl _) (.cells #[.bool ev, .int .u64 (evmid : Int), .int .u64 (easid : Int), .bool egl, .int .u64 (eva : Int), .int .u64 (egpa : Int), .int .u64 (epa : Int), .int .i64 evl, .int .i64 egll, .int .u64 (evs : Int), .int .u64 (eg : Int)] 78))
  clear hans
  show Calls Tryd.prog 48 #[.agg #[.bool ev, .int .u64 (evmid : Int), .int .u64 (easid : Int), .bool egl, .int .u64 (eva : Int), .int .u64 (egpa : Int), .int .u64 (epa : Int), .int .i64 evl, .int .i64 egll, .int .u64 (evs : Int), .int .u64 (eg : Int)], .bool v, .int .u64 (vmid : Int), .int .u64 (asid : Int), .int .u64 (va : Int)] w _
  go_enter Tryd.func48, Tryd.ntmps48
  go_wp2_with fail
  all_goals
    go_ret
    refine ⟨?_, (Fr.refl _ w).alloc _⟩
    rw [HA.out]
    clear HA hb
    have hpg := pgeq eva va
    simp_all [Int.natCast_inj]
set_option maxRecDepth 100000 in
set_option maxHeartbeats 1000000 in
theorem rregion_c (w : World) (e : TE) (va : Nat) (he : e.va < 18446744073709551616) (hva : va < 18446744073709551616) :
    Calls Tryd.prog 49 #[.agg e.cells.toArray, .int .u64 (va : Int)] w fun r w' => r = .returned (.bool (e.hold va)) ∧ Fr No w w' := by
  obtain ⟨ev, evmid, easid, egl, eva, egpa, epa, evl, egll, evs, eg⟩ := e
  have hans : TE.hold ⟨ev, evmid, easid, egl, eva, egpa, epa, evl, egll, evs, eg⟩ va = (eva / 2 ^ shiftOf evl == va / 2 ^ shiftOf evl) := rfl
  have HA := Lib.hid hans
  clear hans
  show Calls Tryd.prog 49 #[.agg #[.bool ev, .int .u64 (evmid : Int), .int .u64 (easid : Int), .bool egl, .int .u64 (eva : Int), .int .u64 (egpa : Int), .int .u64 (epa : Int), .int .i64 evl, .int .i64 egll, .int .u64 (evs : Int), .int .u64 (eg : Int)], .int .u64 (va : Int)] w _
  have hpg : ∀ k : Nat, ((eva : Int) / (k : Int) == (va : Int) / (k : Int)) = (eva / k == va / k) := fun k => by
    rw [Bool.eq_iff_iff, beq_iff_eq, beq_iff_eq, ← Int.natCast_ediv, ← Int.natCast_ediv]
    exact Int.natCast_inj
  have h12 := hpg 4096
  have h21 := hpg 2097152
  have h30 := hpg 1073741824
  have H12 := Lib.hid h12
  have H21 := Lib.hid h21
  have H30 := Lib.hid h30
  have A12 : IntKind.u64.wrap ((eva : Int) / 4096) = (eva : Int) / 4096 := wq_quo eva 4096 he
  have B12 : IntKind.u64.wrap ((va : Int) / 4096) = (va : Int) / 4096 := wq_quo va 4096 hva
  have A21 : IntKind.u64.wrap ((eva : Int) / 2097152) = (eva : Int) / 2097152 := wq_quo eva 2097152 he
  have B21 : IntKind.u64.wrap ((va : Int) / 2097152) = (va : Int) / 2097152 := wq_quo va 2097152 hva
  have A30 : IntKind.u64.wrap ((eva : Int) / 1073741824) = (eva : Int) / 1073741824 := wq_quo eva 1073741824 he
  have B30 : IntKind.u64.wrap ((va : Int) / 1073741824) = (va : Int) / 1073741824 := wq_quo va 1073741824 hva
  clear hpg h12 h21 h30 he hva
  rcases (show evl < 1 ∨ evl = 1 ∨ 2 ≤ evl by omega) with h | h | h
  · have hs : shiftOf evl = 12 := by unfold shiftOf; omega
    rw [hs] at HA
    go_enter Tryd.func49, Tryd.ntmps49
    go_wp2_with fail
    go_quiet (fail)
    go_wp2_with fail
    go_ret
    refine ⟨?_, ((Fr.refl _ w).alloc _).drewN _⟩
    rw [HA.out]
    exact congrArg (fun b => Ending.returned (Value.bool b)) H12.out
  · subst h
    go_enter Tryd.func49, Tryd.ntmps49
    go_wp2_with fail
    go_quiet (fail)
    go_wp2_with fail
    go_ret
    refine ⟨?_, ((Fr.refl _ w).alloc _).drewN _⟩
    rw [HA.out]
    exact congrArg (fun b => Ending.returned (Value.bool b)) H21.out
  · have hs : shiftOf evl = 30 := by unfold shiftOf; omega
    rw [hs] at HA
    go_enter Tryd.func49, Tryd.ntmps49
    go_wp2_with fail
    go_quiet (fail)
    go_wp2_with fail
    go_ret
    refine ⟨?_, ((Fr.refl _ w).alloc _).drewN _⟩
    rw [HA.out]
    exact congrArg (fun b => Ending.returned (Value.bool b)) H30.out
set_option maxRecDepth 100000 in
theorem rset_c (w : World) (b n : Nat) (va : Nat) (hb : w.cell? ⟨b, 0, none⟩ = some (.int .i64 (n : Int))) (h0 : 0 < n) (h64 : n ≤ 64) (hva : va < 18446744073709551616) :
    Calls Tryd.prog 42 #[.pointer (some ⟨b, 0, none⟩), .int .u64 (va : Int)] w fun r w' => r = .returned (.int .u64 ((setOf n va : Nat) : Int)) ∧ w = w' := by
  have e1 : IntKind.u64.wrap (n : Int) = (n : Int) := by rw [IntKind.wrap_u64]; omega
  have e3 : ((n : Int) == 0) = false := by simp; omega
  obtain ⟨p, hp⟩ : ∃ p, p = va / 4096 := ⟨_, rfl⟩
  have e4 : IntKind.u64.wrap ((va : Int) / 4096) = (p : Int) := by
    rw [hp]
    exact wq_quo va 4096 hva
  obtain ⟨q, hq⟩ : ∃ q, q = p % n := ⟨_, rfl⟩
  have e2 : (p : Int).tmod (n : Int) = (q : Int) := by rw [hq, Int.tmod_eq_emod_of_nonneg (by omega)]; simp
  have e5 : (p : Int) % (n : Int) = (q : Int) := by rw [hq]; simp
  have hs : setOf n va = q := by unfold setOf; rw [hq, hp]
  rw [hs]
  clear hs hq hp hva
  go_enter Tryd.func42, Tryd.ntmps42
  go_wp2_with fail
  go_ret
  exact ⟨rfl, rfl⟩
def Pw (n : Int) : Prop := n = 1 ∨ n = 2 ∨ n = 4 ∨ n = 8 ∨ n = 16 ∨ n = 32 ∨ n = 64
theorem pw_ones : ((List.range 65).all fun m => (decide ((ones m).length = 1)) == (decide (m = 1 ∨ m = 2 ∨ m = 4 ∨ m = 8 ∨ m = 16 ∨ m = 32 ∨ m = 64))) = true := by kernel_rfl
theorem good_iff (n ways : Int) : goodNew n ways ↔ Pw n ∧ 1 ≤ ways ∧ ways ≤ 8 := by
  have h := List.all_eq_true.1 pw_ones
  constructor
  · rintro ⟨h1, h2, h3, h4, h5⟩
    refine ⟨?_, h4, h5⟩
    have := h n.toNat (List.mem_range.2 (by omega))
    rw [beq_iff_eq, decide_eq_true h3, eq_comm, decide_eq_true_iff] at this
    unfold Pw
    omega
  · rintro ⟨h1, h4, h5⟩
    unfold Pw at h1
    refine ⟨by omega, by omega, ?_, h4, h5⟩
    have := h n.toNat (List.mem_range.2 (by omega))
    rw [beq_iff_eq, decide_eq_true (show n.toNat = 1 ∨ n.toNat = 2 ∨ n.toNat = 4 ∨ n.toNat = 8 ∨ n.toNat = 16 ∨ n.toNat = 32 ∨ n.toNat = 64 by omega), decide_eq_true_iff] at this
    exact this
end Go.Proofs.YtpnabfekidpnoaaDoor

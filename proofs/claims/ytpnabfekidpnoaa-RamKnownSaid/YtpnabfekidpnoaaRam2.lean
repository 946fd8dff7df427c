/-
  set: a byte is written.
-/
import Derived.Test.YtpnabfekidpnoaaRam1
namespace Go.Proofs.Ytpnabfekidpnoaa
open Go Go.RowKit

def isZ8 : Value → Bool
  | .int .u8 0 => true
  | _ => false
theorem isZ8_eq {v : Value} (h : isZ8 v = true) : v = .int .u8 0 := by
  unfold isZ8 at h
  split at h
  · rfl
  · cases h
def pageOk (i : TypeInfo) : Bool := match i.zero with
  | some (.agg cs) => decide (cs.size = 4096) && cs.toList.all isZ8
  | _ => false
set_option maxRecDepth 100000 in
/-- A page of noughts. -/
theorem zeroPage : ∃ i, Try.prog.info? 71 = some i ∧ ∃ cs, i.zero = some (.agg cs) ∧ cs.size = 4096 ∧ ∀ j, j < 4096 → cs[j]? = some (.int .u8 0) := by
  have h : (Try.prog.info? 71).map pageOk = some true := by kernel_rfl
  obtain ⟨i, hi, hz⟩ := Option.map_eq_some_iff.1 h
  refine ⟨i, hi, ?_⟩
  unfold pageOk at hz
  split at hz
  · rename_i cs hcs
    rw [Bool.and_eq_true] at hz
    refine ⟨cs, hcs, of_decide_eq_true hz.1, fun j hj => ?_⟩
    have hs : j < cs.size := by rw [of_decide_eq_true hz.1]; exact hj
    rw [Array.getElem?_eq_getElem hs]
    congr 1
    exact isZ8_eq (List.all_eq_true.1 hz.2 _ (by rw [Array.mem_toList_iff]; exact Array.getElem_mem hs))
  · cases hz
theorem zero_page_run : ∃ cs : Array Value, cs.size = 4096 ∧ (∀ j, j < 4096 → cs[j]? = some (.int .u8 0)) ∧ ∀ w : World, (zeroValue 71).run Try.prog w = .ok (.agg cs) w := by
  obtain ⟨i, hi, cs, h1, h2, h3⟩ := zeroPage
  exact ⟨cs, h2, h3, fun w => by simp [zeroValue, typeInfo, hi, h1]⟩
theorem upd_same {m : Nat → Nat} {a v : Nat} (h : m a = v) : upd m a v = m := by
  funext x
  unfold upd
  split
  · rename_i e
    rw [e, h]
  · rfl
set_option maxRecDepth 100000 in
set_option maxHeartbeats 1000000 in
theorem set_c (w : World) (b base size : Nat) (m : Nat → Nat) (n : Nat) (F : Nat → Prop) (a v : Nat) (h : RAt w b base size m n F) (hn : n < 1000000000) (ha : a < 18446744073709551616) (hv : v < 256) :
    Calls Try.prog 29 #[.pointer (some ⟨b, 0, none⟩), .int .u64 (a : Int), .int .u8 (v : Int)] w fun r w' => r = .returned (.tuple #[]) ∧ RAt w' b base size (upd m a v) (n + 1) (Plus F w w') ∧ Fr F w w' := by
  obtain ⟨mb, D, pg, hin⟩ := h
  have hlook := hin.look (a / 4096) (by omega)
  have c2 : w.cell? ⟨b, 2, none⟩ = some (.map (some mb)) := hin.1.cell 2
  rw [Int.natCast_ediv] at hlook
  have hlk : (Instr.lookup 61 (.map (some mb)) (.int .u64 ((a : Int) / 4096)) false).run Try.prog w = .ok (pgVal (pg (a / 4096))) w := hlook
  have wq : IntKind.u64.wrap ((a : Int) / 4096) = (a : Int) / 4096 := by rw [IntKind.wrap_u64]; omega
  clear hlook
  obtain ⟨o, ho⟩ : ∃ o, o = pg (a / 4096) := ⟨_, rfl⟩
  rw [← ho] at hlk
  obtain ⟨i, hi⟩ : ∃ i, i = a % 4096 := ⟨_, rfl⟩
  have hmod : (a : Int) % 4096 = (i : Int) := by omega
  have hi2 : i < 4096 := by omega
  cases o with
  | none =>
    have hz : m a = 0 := by
      have := hin.2.2.2.2.2.1 (a / 4096) (a % 4096) ho.symm (by omega)
      rwa [show a / 4096 * 4096 + a % 4096 = a by omega] at this
    by_cases hv0 : v = 0
    · subst hv0
      have HE := Lib.hid (show RAt w b base size (upd m a 0) (n + 1) F from by rw [upd_same hz]; exact ⟨mb, D, pg, hin.more (by omega)⟩)
      unfold pgVal at hlk
      clear hin ho ha hz hi hmod
      show Calls Try.prog 29 #[.pointer (some ⟨b, 0, none⟩), .int .u64 (a : Int), .int .u8 0] w _
      go_enter Try.func29, Try.ntmps29
      go_wp2_with fail
      refine bodyPost_ret (results_none rfl _ _ _) rfl ?_
      obtain ⟨mb', D', pg', h'⟩ := HE.out
      exact ⟨rfl, ⟨mb', D', pg', h'.mono (fun k h => .inl h)⟩, Fr.refl _ _⟩
    · obtain ⟨cs, hcs, hzc, hzero⟩ := zero_page_run
      obtain ⟨B, hB⟩ : ∃ B, B = w.heap.size := ⟨_, rfl⟩
      obtain ⟨w1, hw1⟩ : ∃ w1, w1 = w.alloc (.cells cs 71) := ⟨_, rfl⟩
      have hBlk : Blk w1 B 71 cs := by rw [hw1, hB]; exact Blk.new w _ _
      have hf1 : Fr No w w1 := by rw [hw1]; exact (Fr.refl No w).alloc _
      have hsz1 : B < w1.heap.size := hBlk.lt
      have hlt1 := hin.1.lt
      have hlt2 := hin.2.1.lt
      have hin1 := (hin.cut.fr hf1 (fun _ _ q => q)).mono (F' := fun k => F k ∨ k = B) (fun k h => .inl h.1)
      obtain ⟨w2, hrun, hin2, hf2⟩ := hin1.page (a / 4096) (by omega) (by unfold maxLen; omega) ho.symm hBlk hcs hzc (.inr rfl) (by omega) (by omega) (fun q hq => by have := (hin.2.2.2.1 q B hq).1.lt; omega)
      have hin3 := hin2.put a v hv (B := B) (by simp)
      rw [← hi] at hin3
      have hcB : ∃ u, w2.cell? ⟨B, i, none⟩ = some u := by
        have := (hBlk.fr hf2 (fun e => by have e2 : B = mb := e; omega)).cell i
        exact ⟨_, this.trans (hzc i hi2)⟩
      obtain ⟨u, hu⟩ := hcB
      have hfree := (hBlk.fr hf2 (fun e => by have e2 : B = mb := e; omega)).free
      have hrun2 : (Instr.mapUpdate 61 (.map (some mb)) (.int .u64 ((a : Int) / 4096)) (.pointer (some ⟨B, 0, none⟩))).run Try.prog w1 = .ok () w2 := by rw [Int.natCast_ediv] at hrun; exact hrun
      have hfall : Fr F w (w2.setCell ⟨B, i, none⟩ (.int .u8 (v : Int))) := ((hf1.mono (fun _ _ q => q.elim)).andThen hf2 (fun k _ q => by have e : k = mb := q; rw [e]; exact hin.2.2.2.2.2.2.2.2.2)).setCell (.inr (by rw [hB]; exact Nat.le_refl _)) _
      have HE := Lib.hid (And.intro hin3.1 hfall)
      have hc21 : w1.cell? ⟨b, 2, none⟩ = some (.map (some mb)) := hf1.cell c2 (fun q => q)
      have hv1 : ((v : Int) == 0) = false := by simpa using hv0
      have hSz := Lib.hid (show B < w2.heap.size from Nat.lt_of_lt_of_le hsz1 hf2.size)
      have HB := Lib.hid hB
      unfold pgVal at hlk
      rw [hw1] at hrun2 hc21
      rw [hB] at hrun2 hu hfree
      clear hin hin1 hin2 hin3 hf1 hf2 hfall hBlk hrun ho ha hz hi hsz1 hlt1 hlt2 hv0 hcs hzc hw1
      go_enter Try.func29, Try.ntmps29
      go_wp2_with fail
      go_end0
      rw [← HB.out]
      refine ⟨rfl, ⟨mb, _, _, HE.out.1.mono (fun k h => ?_)⟩, HE.out.2⟩
      rcases h with h | h
      · exact .inl h
      · exact .inr ⟨by rw [h, HB.out]; exact Nat.le_refl _, by rw [h, World.size_setCell]; exact hSz.out⟩
  | some B =>
    obtain ⟨⟨cs, c1, c3, c4⟩, _⟩ := hin.2.2.2.1 (a / 4096) B ho.symm
    have hcell := c4 (a % 4096) (by omega)
    rw [show a / 4096 * 4096 + a % 4096 = a by omega, ← c1.cell, ← hi] at hcell
    have hfree := c1.free
    have hput := hin.put a v hv ho.symm
    rw [← hi] at hput
    have HE := Lib.hid hput
    unfold pgVal at hlk
    clear hin ho ha hi c1 c3 c4 hput
    go_enter Try.func29, Try.ntmps29
    go_wp2_with fail
    go_end0
    exact ⟨rfl, ⟨mb, D, pg, (HE.out.1.more (by omega)).mono (fun k h => .inl h)⟩, HE.out.2⟩
end Go.Proofs.Ytpnabfekidpnoaa

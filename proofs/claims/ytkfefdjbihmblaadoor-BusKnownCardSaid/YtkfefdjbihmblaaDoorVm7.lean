/-
  An evaluator for closed calls, part 7: structs and rows that are built, copies, lengths, texts, nil.
-/
import Derived.Test.YtkfefdjbihmblaaDoorVm6
namespace Go.Proofs.YtkfefdjbihmblaaDoor
open Go Go.RowKit

namespace Vm

section
variable {P : Program} {w0 : World} {R : Ren} {V : VW} {w' : World}

theorem stat_listMapM {α β : Type} {g : α → Sem β} (hg : ∀ a, Stat (g a)) : ∀ l : List α, Stat (l.mapM g)
  | [] => by rw [List.mapM_nil]; exact .pure _
  | a :: l => by rw [List.mapM_cons]; exact (hg a).bind fun b => (stat_listMapM hg l).bind fun c => .pure _
theorem stat_mapM {α β : Type} {g : α → Sem β} (hg : ∀ a, Stat (g a)) (l : Array α) : Stat (l.mapM g) := by
  rw [Array.mapM_eq_mapM_toList]
  show Stat ((fun x => x.toArray) <$> l.toList.mapM g)
  exact (stat_listMapM hg l.toList).bind fun b => .pure _

/-- Two lists of numbered parts. -/
def PsR (R : Ren) : List (Nat × Value) → List (Nat × Value) → Prop
  | [], [] => True
  | (i, v) :: l, (j, v') :: l' => i = j ∧ VR R v v' ∧ PsR R l l'
  | _, _ => False
theorem PsR.mono {R R' : Ren} (hl : Le R R') : ∀ {l l' : List (Nat × Value)}, PsR R l l' → PsR R' l l'
  | [], [], _ => trivial
  | _ :: _, _ :: _, h => ⟨h.1, h.2.1.mono hl, PsR.mono hl h.2.2⟩
  | [], _ :: _, h => h.elim
  | _ :: _, [], h => h.elim
theorem set_rel (off : Nat) : ∀ (l l' : List (Value × Nat)) (c c' : Array Value), l.length = l'.length → (∀ (i : Nat) p p', l[i]? = some p → l'[i]? = some p' → VR R p.1 p'.1 ∧ p.2 = p'.2) → AsR R c c' →
    AsR R (l.foldl (fun cs p => cs.setIfInBounds (off + p.2) p.1) c) (l'.foldl (fun cs p => cs.setIfInBounds (off + p.2) p.1) c')
  | [], [], c, c', _, _, h => h
  | p :: l, p' :: l', c, c', hs, hp, h => by
    obtain ⟨h1, h2⟩ := hp 0 p p' rfl rfl
    refine set_rel off l l' _ _ (by simpa using hs) (fun i q q' h1 h2 => hp (i + 1) q q' (by simpa using h1) (by simpa using h2)) ?_
    dsimp only
    rw [h2]
    exact h.set _ h1
  | [], _ :: _, _, _, hs, _, _ => by simp at hs
  | _ :: _, [], _, _, hs, _, _ => by simp at hs
theorem fill_rel (place : Nat → Option (Nat × Nat)) : ∀ (l l' : List (Nat × Value)) (c c' : Array Value), PsR R l l' → AsR R c c' →
    (Instr.fill place c l = none ∧ Instr.fill place c' l' = none) ∨ ∃ d d', Instr.fill place c l = some d ∧ Instr.fill place c' l' = some d' ∧ AsR R d d'
  | [], [], c, c', _, h => .inr ⟨c, c', rfl, rfl, h⟩
  | (i, v) :: l, (j, v') :: l', c, c', hp, h => by
    obtain ⟨rfl, hv, hp⟩ := hp
    have hc := AsR.cells hv
    unfold Instr.fill
    cases place i with
    | none => exact .inl ⟨rfl, rfl⟩
    | some x =>
      obtain ⟨off, size⟩ := x
      simp only [hc.size, h.size]
      split
      · exact .inl ⟨rfl, rfl⟩
      · refine fill_rel place l l' _ _ hp ?_
        rw [← Array.foldl_toList, ← Array.foldl_toList]
        refine set_rel off _ _ _ _ (by simp [hc.size]) (fun k p p' h1 h2 => ?_) h
        simp only [Array.toList_zipIdx, List.getElem?_zipIdx, Array.getElem?_toList, Option.map_eq_some_iff] at h1 h2
        obtain ⟨u, hu, rfl⟩ := h1
        obtain ⟨u', hu', rfl⟩ := h2
        exact ⟨hc.at_ k u u' hu hu', rfl⟩
  | [], _ :: _, _, _, hp, _ => hp.elim
  | _ :: _, [], _, _, hp, _ => hp.elim
theorem sim_build (hz : Zeros P) (t : TypeId) (ht : t < P.types.size) {ps ps' : Array (Nat × Value)} (h : PsR R ps.toList ps'.toList) : Sim P w0 R V w' (Instr.build t ps) (Instr.build t ps') VR := by
  unfold Instr.build
  refine (sim_zero hz t ht).bind fun R1 V1 w1 z z' hl hz1 => ?_
  obtain ⟨rfl, hz1⟩ := hz1
  have hzc := AsR.cells hz1
  refine (Sim.stat (stat_underlying t)).bind fun R2 V2 w2 d d' hl2 e => ?_
  subst e
  have hzc := hzc.mono hl2
  have h := (h.mono hl).mono hl2
  split
  · rename_i fields
    refine (Sim.stat (stat_mapM (fun f => (stat_sizeOf _).bind fun n => .pure _) fields)).bind fun R3 V3 w3 pl pl' hl3 e => ?_
    subst e
    rcases fill_rel (pl[·]?) _ _ _ _ (h.mono hl3) (hzc.mono hl3) with ⟨h1, h2⟩ | ⟨c, c', h1, h2, h3⟩
    · simp only [h1]; exact Sim.halt
    · simp only [h1, h2]; exact Sim.pure (VR.agg_ h3)
  · rename_i n el
    refine (Sim.stat (stat_sizeOf el)).bind fun R3 V3 w3 s s' hl3 e => ?_
    subst e
    rcases fill_rel (fun i => some (i * s, s)) _ _ _ _ (h.mono hl3) (hzc.mono hl3) with ⟨h1, h2⟩ | ⟨c, c', h1, h2, h3⟩
    · simp only [h1]; exact Sim.halt
    · simp only [h1, h2]; exact Sim.pure (VR.agg_ h3)
  · exact Sim.halt

/-- Zeros, one behind the other. -/
theorem zeros_rel {z : Array Value} (h : AsR R z z) (n : Nat) : AsR R ((Array.range n).map (z[· % z.size]!)) ((Array.range n).map (z[· % z.size]!)) := by
  refine ⟨rfl, fun i v v' h1 h2 => ?_⟩
  rw [h1] at h2
  cases h2
  rw [Array.getElem?_map] at h1
  obtain ⟨k, _, rfl⟩ := Option.map_eq_some_iff.1 h1
  rw [Array.getElem!_eq_getD]
  exact h.getD _ (.bool false)
/-- The end of what makes a slice out of its elements. -/
def bsTail (el : TypeId) (n s : Nat) (z : Array Value) (ps : List (Nat × Value)) : Sem Value := do
  let some cells := Instr.fill (fun i => some (i * s, s)) ((Array.range (n * s)).map (z[· % z.size]!)) ps | stuck "buildSlice: a part of the wrong size"
  Pure.pure (.slice (some (← newRow el cells)) n n)
theorem sim_buildSlice (hz : Zeros P) (t : TypeId) (ht : elOk P t = true) (n : Nat) {ps ps' : Array (Nat × Value)} (h : PsR R ps.toList ps'.toList) : Sim P w0 R V w' (Instr.buildSlice t n ps) (Instr.buildSlice t n ps') (fun R1 a b => capOk a = true → VR R1 a b) := by
  unfold Instr.buildSlice
  refine (sim_underlying t).bind fun R1 V1 w1 d d' hl e => ?_
  obtain ⟨rfl, hut⟩ := e
  split
  · rename_i el
    refine (Sim.stat (stat_sizeOf el)).bind fun R2 V2 w2 s s' hl2 e => ?_
    subst e
    dsimp only
    split
    · exact Sim.haltB
    · have tail : ∀ (R3 : Ren) (V3 : VW) (w3 : World) (z : Array Value), Le R R3 → AsR R3 z z → Sim P w0 R3 V3 w3
          (bsTail el n s z ps.toList)
          (bsTail el n s z ps'.toList) (fun R1 a b => capOk a = true → VR R1 a b) := by
        intro R3 V3 w3 z hl3 hzz
        unfold bsTail
        rcases fill_rel (fun i => some (i * s, s)) _ _ _ _ (h.mono hl3) (zeros_rel hzz (n * s)) with ⟨h1, h2⟩ | ⟨c, c', h1, h2, h3⟩
        · simp only [h1]; exact Sim.halt
        · simp only [h1, h2]
          exact (Sim.row h3).bind fun R4 V4 w4 a a' hl4 ha => Sim.pure fun hc => .slice ha (by simpa [capOk] using hc)
      split
      · exact tail _ _ _ _ (hl.trans hl2) (AsR.nil _)
      · refine (sim_zero hz el (elOk_spec ht hut)).bind fun R3 V3 w3 z z' hl3 hzz => ?_
        obtain ⟨rfl, hzz⟩ := hzz
        exact tail _ _ _ _ ((hl.trans hl2).trans hl3) (AsR.cells hzz)
  · exact Sim.halt
theorem sim_makeSlice (hz : Zeros P) (t : TypeId) (ht : elOk P t = true) {l l' c c' : Value} (h : VR R l l') (hc : VR R c c') : Sim P w0 R V w' (Instr.makeSlice t l c) (Instr.makeSlice t l' c') (fun R1 a b => capOk a = true → VR R1 a b) := by
  unfold Instr.makeSlice
  refine (sim_underlying t).bind fun R1 V1 w1 d d' hl e => ?_
  obtain ⟨rfl, hut⟩ := e
  split
  · rename_i el
    refine (sim_asInt (h.mono hl)).bind fun R2 V2 w2 ln ln' hl2 e => ?_
    subst e
    refine (sim_asInt ((hc.mono hl).mono hl2)).bind fun R3 V3 w3 cn cn' hl3 e => ?_
    subst e
    refine (Sim.stat (stat_typeInfo el)).bind fun R4 V4 w4 ti ti' hl4 e => ?_
    subst e
    dsimp only
    split
    · intro hW ro a V1 hx
      exfalso
      revert hx
      split
      · exact fun hx => by cases hx
      · split
        · exact fun hx => by cases hx
        · exact fun hx => by cases hx
    · refine (Sim.stat (stat_askRoom _)).bind fun R5 V5 w5 _ _ hl5 _ => ?_
      refine (Sim.stat (stat_sizeOf el)).bind fun R6 V6 w6 s s' hl6 e => ?_
      subst e
      have tail : ∀ (R7 : Ren) (V7 : VW) (w7 : World) (z : Array Value) (n : Nat), AsR R7 z z → Sim P w0 R7 V7 w7
          (do let a ← newRow el ((Array.range n).map (z[· % z.size]!)); Pure.pure (.slice (some a) (IntKind.i64.wrap ln).toNat (IntKind.i64.wrap cn).toNat) : Sem Value)
          (do let a ← newRow el ((Array.range n).map (z[· % z.size]!)); Pure.pure (.slice (some a) (IntKind.i64.wrap ln).toNat (IntKind.i64.wrap cn).toNat) : Sem Value) (fun R1 a b => capOk a = true → VR R1 a b) := by
        intro R7 V7 w7 z n hzz
        exact (Sim.row (zeros_rel hzz n)).bind fun R4 V4 w4 a a' hl4 ha => Sim.pure fun hc => .slice ha (by simpa [capOk] using hc)
      split
      · exact tail _ _ _ _ _ (AsR.nil _)
      · refine (sim_zero hz el (elOk_spec ht hut)).bind fun R7 V7 w7 z z' hl7 hzz => ?_
        obtain ⟨rfl, hzz⟩ := hzz
        exact tail _ _ _ _ _ (AsR.cells hzz)
  · exact Sim.halt

theorem sim_lenOf {v v' : Value} (h : VR R v v') : Sim P w0 R V w' (Builtin.lenOf v) (Builtin.lenOf v') (fun _ a b => a = b ∧ Builtin.lenOf v = Pure.pure a) := by
  cases h <;> first | exact Sim.pure ⟨rfl, rfl⟩ | exact Sim.halt
theorem sim_none {a a' : Addr} : Sim P w0 R V w' (loadCells a 0) (loadCells a' 0) AsR := Sim.pure (AsR.nil R)
theorem sim_firstCells {v v' : Value} (h : VR R v v') (size n : Nat) (hn : n = 0 ∨ opn v = false ∨ ∀ a l c, v = .slice a l c → l ≠ 0) : Sim P w0 R V w' (Builtin.firstCells size n v) (Builtin.firstCells size n v') AsR := by
  cases h with
  | sliceN l c => exact Sim.pure (AsR.nil R)
  | slice ha hc => exact sim_loadCells ha _
  | @sliceO a a' l c' y hx hs h1 h2 h3 h4 h5 =>
    rcases hn with rfl | hn | hn
    · show Sim P w0 R V w' (loadCells a (0 * size)) (loadCells a' (0 * size)) AsR
      rw [Nat.zero_mul]
      exact sim_none
    · simp [opn] at hn
    · rcases h3 with h3 | h3
      · exact absurd h3 (hn _ _ _ rfl)
      · refine sim_loadCells ⟨y, hx, hs, ?_⟩ _
        obtain ⟨b, o, s⟩ := a'
        simp only at h1 h2 h3
        subst h1; subst h2; subst h3
        rfl
  | string s => exact Sim.pure ⟨rfl, fun i v v' h1 h2 => by
      rw [h1] at h2
      cases h2
      rw [Array.getElem?_map] at h1
      obtain ⟨k, _, rfl⟩ := Option.map_eq_some_iff.1 h1
      exact .int _ _⟩
  | _ => exact Sim.halt
theorem len_ne {v : Value} {n : Nat} (h : Builtin.lenOf v = Pure.pure n) (hn : n ≠ 0) : ∀ a l c, v = .slice a l c → l ≠ 0 := by
  rintro a l c rfl
  have : (Sem.pure l : Sem Nat) = Sem.pure n := h
  cases this
  exact hn
theorem sim_copy {ts : Array TypeId} {ty : TypeId} {as as' : Array Value} (h : AsR R as as') : Sim P w0 R V w' (Builtin.copy_ ts ty as) (Builtin.copy_ ts ty as') VR := by
  unfold Builtin.copy_
  cases ts[0]? with
  | none => exact Sim.halt
  | some dt =>
    rcases h.opt 0 with ⟨h1, h2⟩ | ⟨d, d', h1, h2, hd⟩
    · rw [h1, h2]; exact Sim.halt
    rcases h.opt 1 with ⟨h3, h4⟩ | ⟨s, s', h3, h4, hs⟩
    · rw [h1, h2, h3, h4]; exact Sim.halt
    rw [h1, h2, h3, h4]
    refine (Sim.stat (stat_underlying dt)).bind fun R1 V1 w1 d d' hl e => ?_
    subst e
    have hd := hd.mono hl
    have hs := hs.mono hl
    split
    · rename_i el
      cases hd <;> first | exact Sim.halt | skip
      · dsimp only
        refine (sim_lenOf hs).bind fun R2 V2 w2 n n' hl2 e => ?_
        obtain ⟨rfl, hn⟩ := e
        refine (Sim.stat (stat_sizeOf el)).bind fun R3 V3 w3 sz sz' hl3 e => ?_
        subst e
        have hcell : ∀ m, Sim P w0 R3 V3 w3 (Builtin.firstCells sz (Nat.min n m) s) (Builtin.firstCells sz (Nat.min n m) s') AsR := fun m =>
          sim_firstCells ((hs.mono hl2).mono hl3) sz _ (by
            by_cases h0 : n = 0
            · left; subst h0; exact Nat.zero_min m
            · exact .inr (.inr (len_ne hn h0)))
        exact (hcell _).bind fun R4 V4 w4 c c' hl4 hc => Sim.pure (.int _ _)
      · rename_i ha hc0
        dsimp only
        refine (sim_lenOf hs).bind fun R2 V2 w2 n n' hl2 e => ?_
        obtain ⟨rfl, hn⟩ := e
        refine (Sim.stat (stat_sizeOf el)).bind fun R3 V3 w3 sz sz' hl3 e => ?_
        subst e
        have hcell : ∀ m, Sim P w0 R3 V3 w3 (Builtin.firstCells sz (Nat.min n m) s) (Builtin.firstCells sz (Nat.min n m) s') AsR := fun m =>
          sim_firstCells ((hs.mono hl2).mono hl3) sz _ (by
            by_cases h0 : n = 0
            · left; subst h0; exact Nat.zero_min m
            · exact .inr (.inr (len_ne hn h0)))
        refine (hcell _).bind fun R4 V4 w4 c c' hl4 hc => ?_
        exact (sim_storeCells _ _ 0 _ _ _ (((ha.mono hl2).mono hl3).mono hl4) hc.list).bind fun _ _ _ _ _ _ _ => Sim.pure (.int _ _)
      · rename_i a a' l c' y hx hsp e1 e2 e3 e4 e5
        dsimp only
        refine (sim_lenOf hs).bind fun R2 V2 w2 n n' hl2 e => ?_
        obtain ⟨rfl, hn⟩ := e
        refine (Sim.stat (stat_sizeOf el)).bind fun R3 V3 w3 sz sz' hl3 e => ?_
        subst e
        have hs := (hs.mono hl2).mono hl3
        rcases e3 with e3 | e3
        · subst e3
          have e0 : Nat.min n 0 = 0 := Nat.min_zero n
          rw [e0]
          have hcell : Sim P w0 R3 V3 w3 (Builtin.firstCells sz 0 s) (Builtin.firstCells sz 0 s') (fun _ a b => a = #[] ∧ b = #[]) := by
            have z : 0 * sz = 0 := Nat.zero_mul sz
            cases hs <;> unfold Builtin.firstCells <;> (try rw [z]) <;> first
              | exact Sim.pure ⟨rfl, rfl⟩
              | exact Sim.halt
              | (refine Sim.pure ⟨?_, ?_⟩ <;> simp [ByteArray.data_extract])
          refine hcell.bind fun R4 V4 w4 c c' hl4 hc => ?_
          obtain ⟨rfl, rfl⟩ := hc
          exact Sim.pure (.int _ _)
        · have ha : AR R1 a a' := ⟨y, hx, hsp, by
            obtain ⟨b, o, s⟩ := a'
            simp only at e1 e2 e3
            subst e1; subst e2; subst e3
            rfl⟩
          have hcell : ∀ m, Sim P w0 R3 V3 w3 (Builtin.firstCells sz (Nat.min n m) s) (Builtin.firstCells sz (Nat.min n m) s') AsR := fun m =>
            sim_firstCells hs sz _ (by
              by_cases h0 : n = 0
              · left; subst h0; exact Nat.zero_min m
              · exact .inr (.inr (len_ne hn h0)))
          refine (hcell _).bind fun R4 V4 w4 c c' hl4 hc => ?_
          exact (sim_storeCells _ _ 0 _ _ _ (((ha.mono hl2).mono hl3).mono hl4) hc.list).bind fun _ _ _ _ _ _ _ => Sim.pure (.int _ _)
    · exact Sim.halt
end
end Vm
end Go.Proofs.YtkfefdjbihmblaaDoor

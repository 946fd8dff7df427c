/-
  An evaluator for closed calls, part 3: how the evaluator's memory and the model's stand to each other.
-/
import Derived.Test.YtkfefdjbihmblaaDoorVm2
namespace Go.Proofs.YtkfefdjbihmblaaDoor
open Go Go.RowKit

namespace Vm

/-- Two tables of map entries. -/
structure EsR (R : Ren) (es es' : Array MapEntry) : Prop where
  size : es.size = es'.size
  at_ : ∀ (i : Nat) e e', es[i]? = some e → es'[i]? = some e' → VR R e.key e'.key ∧ VR R e.val e'.val ∧ e.born = e'.born
theorem EsR.mono {R R' : Ren} (hl : Le R R') {a a' : Array MapEntry} (h : EsR R a a') : EsR R' a a' :=
  ⟨h.size, fun i v v' h1 h2 => let ⟨p, q, r⟩ := h.at_ i v v' h1 h2; ⟨p.mono hl, q.mono hl, r⟩⟩

/-- A block of the evaluator's and the model's block that it stands for. -/
def ObjR (R : Ren) (x : RE) (b : VB) (o' : Obj) : Prop :=
  match b.obj with
  | .cells c _ _ => ∃ c' e' lo hi, o' = .cells c' e' (lo, hi) ∧ (b.es ≠ 0 → x.es = b.es ∧ x.sz = c'.size) ∧ (b.rd = false → ∀ i, lo ≤ i → i < hi → c'.size ≤ i) ∧ ∀ (i : Nat) v, b.at_ c i = some v → ∃ v', c'[i + x.d]? = some v' ∧ VR R v v'
  | .map es ck => ∃ es', o' = .map es' ck ∧ EsR R es es'
  | _ => False
theorem ObjR.mono {R R' : Ren} (hl : Le R R') {x : RE} {b : VB} {o' : Obj} (h : ObjR R x b o') : ObjR R' x b o' := by
  unfold ObjR at h ⊢
  split
  · rename_i c e f hb
    rw [hb] at h
    obtain ⟨c', e', lo, hi, h1, h3, h4, h5⟩ := h
    exact ⟨c', e', lo, hi, h1, h3, h4, fun i v hv => let ⟨v', p, q⟩ := h5 i v hv; ⟨v', p, q.mono hl⟩⟩
  · rename_i es ck hb
    rw [hb] at h
    obtain ⟨es', h1, h2⟩ := h
    exact ⟨es', h1, h2.mono hl⟩
  · rename_i h1 h2
    revert h
    split
    · rename_i c e f hb; exact fun _ => h1 _ _ _ hb
    · rename_i es ck hb; exact fun _ => h2 _ _ hb
    · exact id

structure WR (w0 : World) (R : Ren) (V : VW) (w' : World) : Prop where
  len : R.length = V.n
  top : V.n ≤ VW.bound
  some_ : ∀ k b, V.t.get k = some b → k < V.n
  live : ∀ k b, V.t.get k = some b → b.live = true → ∃ x o', R[k]? = some x ∧ w'.heap[x.r]? = some o' ∧ ObjR R x b o'
  inj : ∀ j k bj bk x y, V.t.get j = some bj → bj.live = true → V.t.get k = some bk → bk.live = true → R[j]? = some x → R[k]? = some y → x.r = y.r → j = k
  new : ∀ (k : Nat) b x, V.t.get k = some b → b.live = true → R[k]? = some x → x.r < w'.heap.size ∧ (b.rd = false → w0.heap.size ≤ x.r)
  glob : ∀ g, g < B0 → R[g]? = some ⟨g, 0, 0, 0⟩
  fr : Fr No w0 w'

theorem VW.get_empty (k : Nat) : VW.empty.t.get k = none := T.get_leaf k
/-- The numbers of the package's variables. -/
def R0 : Ren := (List.range B0).map fun g => ⟨g, 0, 0, 0⟩
theorem R0_at (g : Nat) (h : g < B0) : R0[g]? = some ⟨g, 0, 0, 0⟩ := by
  unfold R0
  rw [List.getElem?_map, List.getElem?_range h]
  rfl
theorem R0_len : R0.length = B0 := by simp [R0]
theorem WR.start (w : World) : WR w R0 VW.empty w :=
  ⟨R0_len, by show B0 ≤ _; unfold VW.bound B0; omega, fun k b h => absurd h (by rw [VW.get_empty]; exact fun e => by cases e), fun k b h => absurd h (by rw [VW.get_empty]; exact fun e => by cases e),
    fun j k bj bk x y h => absurd h (by rw [VW.get_empty]; exact fun e => by cases e), fun k b x h => absurd h (by rw [VW.get_empty]; exact fun e => by cases e), R0_at, Fr.refl _ _⟩

theorem VW.get_put (V : VW) (k j : Nat) (b : VB) (hk : k < V.n) (ht : V.n ≤ VW.bound) : (V.put k b).t.get j = if j = k then some b else V.t.get j := by
  have : k < 2 ^ 41 - 1 := by unfold VW.bound at ht; omega
  exact T.get_set b 41 V.t k j this
theorem VW.get_add (V : VW) (j : Nat) (b : VB) (ht : V.n < VW.bound) : (V.add b).t.get j = if j = V.n then some b else V.t.get j := by
  have : V.n < 2 ^ 41 - 1 := by unfold VW.bound at ht; omega
  exact T.get_set b 41 V.t V.n j this

theorem VW.row_some {V : VW} {k : Nat} {c : Array Value} {e : TypeId} {b : VB} (h : V.row k = some (c, e, b)) : V.t.get k = some b ∧ b.live = true ∧ ∃ f, b.obj = .cells c e f := by
  unfold VW.row at h
  split at h
  · rename_i b' hb
    split at h
    · rename_i c' e' f ho hl
      simp only [Option.some.injEq, Prod.mk.injEq] at h
      obtain ⟨rfl, rfl, rfl⟩ := h
      exact ⟨hb, hl, f, ho⟩
    · cases h
  · cases h
theorem VW.obj_some {V : VW} {k : Nat} {b : VB} (h : V.obj k = some b) : V.t.get k = some b ∧ b.live = true ∧ b.rd = false ∧ ∃ es c, b.obj = .map es c := by
  unfold VW.obj at h
  split at h
  · rename_i b' hb
    split at h
    · rename_i es c ho hl
      split at h
      · cases h
      · rename_i hr
        simp only [Option.some.injEq] at h
        subst h
        exact ⟨hb, hl, by simpa using hr, es, c, ho⟩
    · cases h
  · cases h

/-- The model's row behind a row of the evaluator's. -/
theorem WR.row {w0 : World} {R : Ren} {V : VW} {w' : World} (h : WR w0 R V w') {k : Nat} {c : Array Value} {e : TypeId} {b : VB} (hr : V.row k = some (c, e, b)) :
    ∃ x c' e' lo hi, R[k]? = some x ∧ w'.heap[x.r]? = some (.cells c' e' (lo, hi)) ∧ (b.es ≠ 0 → x.es = b.es ∧ x.sz = c'.size) ∧ (b.rd = false → ∀ i, lo ≤ i → i < hi → c'.size ≤ i) ∧ ∀ (i : Nat) v, b.at_ c i = some v → ∃ v', c'[i + x.d]? = some v' ∧ VR R v v' := by
  obtain ⟨h1, h2, f, h3⟩ := VW.row_some hr
  obtain ⟨x, o', hx, ho, hO⟩ := h.live k b h1 h2
  unfold ObjR at hO
  rw [h3] at hO
  obtain ⟨c', e', lo, hi, rfl, hO⟩ := hO
  exact ⟨x, c', e', lo, hi, hx, ho, hO⟩

theorem WR.cell {w0 : World} {R : Ren} {V : VW} {w' : World} (h : WR w0 R V w') {a a' : Addr} {v : Value} (hv : V.cell a = some v) (ha : AR R a a') :
    ∃ v', w'.cell? a' = some v' ∧ VR R v v' := by
  obtain ⟨x, hx, hs, rfl⟩ := ha.ex
  unfold VW.cell at hv
  rw [hs] at hv
  simp only [] at hv
  split at hv
  · rename_i c e b hr
    obtain ⟨y, c', e', lo, hi, hy, ho, _, _, hc⟩ := h.row hr
    rw [hx] at hy
    cases hy
    obtain ⟨v', h1, h2⟩ := hc _ _ hv
    refine ⟨v', ?_, h2⟩
    simp only [World.cell?, ho]
    exact h1
  · cases hv

/-- A block of the evaluator's turns, and the model's block behind it. -/
theorem WR.turn {w0 : World} {R : Ren} {V : VW} {w' w1 : World} (h : WR w0 R V w') {k : Nat} {b b' : VB} {x : RE} {o1 : Obj} (hg : V.t.get k = some b) (hl : b.live = true) (hx : R[k]? = some x)
    (h1 : w1.heap[x.r]? = some o1) (hO : b'.live = true → ObjR R x b' o1) (hrd : b'.rd = b.rd) (ho : ∀ r, r ≠ x.r → w1.heap[r]? = w'.heap[r]?) (hs : w1.heap.size = w'.heap.size) (hf : Fr No w0 w1) : WR w0 R (V.put k b') w1 := by
  have hk := h.some_ k b hg
  have hget := fun j => VW.get_put V k j b' hk h.top
  refine ⟨h.len, h.top, fun j bj hj => ?_, fun j bj hj hlj => ?_, fun i j bi bj y z hi hli hj hlj hy hz hyz => ?_, fun j bj y hj hlj hy => ?_, h.glob, hf⟩
  · rw [hget] at hj
    split at hj
    · rename_i e; rw [e]; exact hk
    · exact h.some_ j bj hj
  · rw [hget] at hj
    split at hj
    · rename_i e
      cases hj; subst e
      exact ⟨x, o1, hx, h1, hO hlj⟩
    · rename_i e
      obtain ⟨y, o', hy, ho', hO'⟩ := h.live j bj hj hlj
      refine ⟨y, o', hy, ?_, hO'⟩
      rw [ho y.r (fun er => e (h.inj j k bj b y x hj hlj hg hl hy hx er))]
      exact ho'
  · have hi' : ∃ ci, V.t.get i = some ci ∧ ci.live = true := by
      rw [hget] at hi
      split at hi
      · rename_i e; rw [e]; exact ⟨b, hg, hl⟩
      · exact ⟨bi, hi, hli⟩
    have hj' : ∃ cj, V.t.get j = some cj ∧ cj.live = true := by
      rw [hget] at hj
      split at hj
      · rename_i e; rw [e]; exact ⟨b, hg, hl⟩
      · exact ⟨bj, hj, hlj⟩
    obtain ⟨ci, hi1, hi2⟩ := hi'
    obtain ⟨cj, hj1, hj2⟩ := hj'
    exact h.inj i j ci cj y z hi1 hi2 hj1 hj2 hy hz hyz
  · rw [hs]
    rw [hget] at hj
    split at hj
    · rename_i e
      cases hj; subst e
      have := h.new j b y hg hl hy
      exact ⟨this.1, fun e2 => this.2 (by rw [← hrd]; exact e2)⟩
    · exact h.new j bj y hj hlj hy

theorem WR.setCell {w0 : World} {R : Ren} {V V1 : VW} {w' : World} (h : WR w0 R V w') {a a' : Addr} {v v' : Value} (hs : V.setCell a v = some V1) (ha : AR R a a') (hv : VR R v v') :
    (∃ u, w'.cell? a' = some u) ∧ w'.frozen? a' = false ∧ WR w0 R V1 (w'.setCell a' v') := by
  obtain ⟨x, hx, hsp, rfl⟩ := ha.ex
  unfold VW.setCell at hs
  rw [hsp] at hs
  simp only [] at hs
  split at hs
  · rename_i c e b hr
    split at hs
    · rename_i u0 hu0
      split at hs
      · rename_i hlt
        obtain ⟨hlt, hrd⟩ := hlt
        cases hs
        obtain ⟨y, c', e', lo, hi, hy, ho, hes, hf, hc⟩ := h.row hr
        rw [hx] at hy
        cases hy
        obtain ⟨hg, hl, f, hob⟩ := VW.row_some hr
        obtain ⟨u, hu, _⟩ := hc _ _ hu0
        have hult := (Array.getElem?_eq_some_iff.1 hu).1
        have hnew : (w'.setCell ⟨x.r, a.off + x.d, none⟩ v').heap[x.r]? = some (.cells (c'.setIfInBounds (a.off + x.d) v') e' (lo, hi)) := by
          simp [World.setCell, Array.getElem?_modify, ho]
        have hfz : w'.frozen? ⟨x.r, a.off + x.d, none⟩ = false := by
          simp only [World.frozen?, ho]
          cases e1 : decide (lo ≤ a.off + x.d) <;> cases e2 : decide (a.off + x.d < hi) <;> simp
          have := hf hrd _ (of_decide_eq_true e1) (of_decide_eq_true e2)
          omega
        refine ⟨⟨u, by simp only [World.cell?, ho]; exact hu⟩, hfz, h.turn (b' := { b with ov := T.set v 41 b.ov a.off }) hg hl hx hnew (fun _ => ?_) rfl (fun r hr' => Below.heap_setCell w' _ v' r hr') (by simp [World.setCell]) (h.fr.setCell (.inr ((h.new _ b x hg hl hx).2 hrd)) v')⟩
        unfold ObjR
        simp only [hob]
        refine ⟨_, e', lo, hi, rfl, fun q => by rw [Array.size_setIfInBounds]; exact hes q, fun q i h1 h2 => by rw [Array.size_setIfInBounds]; exact hf q i h1 h2, fun i u2 hu2 => ?_⟩
        have hat : VB.at_ { b with ov := T.set v 41 b.ov a.off } c i = if i = a.off then some v else b.at_ c i := by
          unfold VB.at_
          rw [T.get_set v 41 b.ov a.off i (by unfold VW.bound at hlt; omega)]
          by_cases e1 : i = a.off
          · rw [if_pos e1, if_pos e1]
          · rw [if_neg e1, if_neg e1]
        have hu3 : (if i = a.off then some v else b.at_ c i) = some u2 := hat.symm.trans hu2
        split at hu3
        · rename_i e1
          subst e1
          cases hu3
          refine ⟨v', ?_, hv⟩
          rw [Array.getElem?_setIfInBounds_self, if_pos hult]
        · rename_i e1
          obtain ⟨u', hu', hR⟩ := hc _ _ hu3
          refine ⟨u', ?_, hR⟩
          rw [Array.getElem?_setIfInBounds_ne (by omega)]
          exact hu'
      · cases hs
    · cases hs
  · cases hs

/-- A new block of both. -/
theorem WR.add {w0 : World} {R : Ren} {V : VW} {w' : World} (h : WR w0 R V w') (hn : V.n < VW.bound) (x : RE) (b : VB) (o' : Obj) (hx : x.r = w'.heap.size)
    (hO : ObjR (R ++ [x]) x b o') : WR w0 (R ++ [x]) (V.add b) (w'.alloc o') := by
  have hget := fun j => VW.get_add V j b hn
  have hlast : (R ++ [x])[V.n]? = some x := by rw [← h.len]; simp
  have hold : ∀ {j : Nat} {bj : VB}, V.t.get j = some bj → ∀ y, (R ++ [x])[j]? = some y → R[j]? = some y := fun {j bj} hj y hy => by
    rw [List.getElem?_append_left (by rw [h.len]; exact h.some_ j bj hj)] at hy
    exact hy
  have hsz : (w'.alloc o').heap.size = w'.heap.size + 1 := by simp
  refine ⟨by simp [h.len, VW.add], by show V.n + 1 ≤ _; omega, fun j bj hj => ?_, fun j bj hj hlj => ?_, fun i j bi bj y z hi hli hj hlj hy hz hyz => ?_, fun j bj y hj hlj hy => ?_, fun g hg => Le.push R x g _ (h.glob g hg), h.fr.alloc o'⟩
  · rw [hget] at hj
    show j < V.n + 1
    split at hj
    · omega
    · have := h.some_ j bj hj; omega
  · rw [hget] at hj
    split at hj
    · rename_i e
      cases hj; subst e
      exact ⟨x, o', hlast, by rw [hx]; exact heap_alloc_new w' o', hO⟩
    · obtain ⟨y, oy, hy, ho, hO'⟩ := h.live j bj hj hlj
      refine ⟨y, oy, Le.push R x j y hy, ?_, hO'.mono (Le.push R x)⟩
      rw [Below.heap_alloc w' o' y.r (h.new j bj y ‹_› hlj hy).1]
      exact ho
  · rw [hget] at hi hj
    split at hi <;> split at hj
    · omega
    · rename_i e1 e2
      subst e1
      rw [hlast] at hy
      cases hy
      have := (h.new j bj z hj hlj (hold hj z hz)).1
      omega
    · rename_i e1 e2
      subst e2
      rw [hlast] at hz
      cases hz
      have := (h.new i bi y hi hli (hold hi y hy)).1
      omega
    · exact h.inj i j bi bj y z hi hli hj hlj (hold hi y hy) (hold hj z hz) hyz
  · rw [hsz]
    rw [hget] at hj
    split at hj
    · rename_i e
      cases hj; subst e
      rw [hlast] at hy
      cases hy
      have := h.fr.size
      exact ⟨by omega, fun _ => by omega⟩
    · have := h.new j bj y hj hlj (hold hj y hy)
      exact ⟨by omega, this.2⟩
theorem WR.drew {w0 : World} {R : Ren} {V : VW} {w' : World} (h : WR w0 R V w') : WR w0 R V w'.drew :=
  ⟨h.len, h.top, h.some_, h.live, h.inj, h.new, h.glob, h.fr.drew⟩
/-- What a call leaves that turns nothing that was there. -/
theorem WR.kept {w0 : World} {R : Ren} {V : VW} {w' w1 : World} (h : WR w0 R V w') (hf : Fr No w' w1) : WR w0 R V w1 := by
  refine ⟨h.len, h.top, h.some_, fun k b hk hl => ?_, h.inj, fun k b x hk hl hx => ?_, h.glob, ?_⟩
  · obtain ⟨x, o', hx, ho, hO⟩ := h.live k b hk hl
    exact ⟨x, o', hx, (hf.block x.r (h.new k b x hk hl hx).1 (fun e => e)).trans ho, hO⟩
  · have := h.new k b x hk hl hx
    exact ⟨Nat.lt_of_lt_of_le this.1 hf.size, this.2⟩
  · exact h.fr.andThen hf (fun k _ e => e)
theorem WR.has {w0 : World} {R : Ren} {V : VW} {w' : World} (h : WR w0 R V w') {k : Nat} (hk : k < V.n) : ∃ x, R[k]? = some x := ⟨_, List.getElem?_eq_getElem (by rw [h.len]; exact hk)⟩

end Vm
end Go.Proofs.YtkfefdjbihmblaaDoor

/-
  An evaluator for closed calls, part 8: append.
-/
import Derived.Test.YtkfefdjbihmblaaDoorVm7
import Derived.ArgAppend
namespace Go.Proofs.YtkfefdjbihmblaaDoor
open Go Go.RowKit

namespace Vm

def oneV : Value → Bool
  | .agg _ | .tuple _ => false
  | _ => true

/-- append: where it is not known how much room there is, and where there is none: a block of its own; the old one is not looked at again where it may be the same one. -/
def vAppend (P : Program) (ts : Array TypeId) (s x : Value) (V : VW) : Option (Value × VW) :=
  match ts[0]?, ts[1]?, s, x with
  | some t, some u, .slice base n cap, .slice _ m _ =>
    if t ≠ u ∨ ts.size ≠ 2 then none else
    match P.underlying t with
    | some (.slice el) =>
      match P.info? el with
      | none => none
      | some i =>
        match i.zero with
        | none => none
        | some _ =>
        if i.size = 0 ∨ ¬ el < P.types.size then none else
        match vrun P true (Builtin.firstCells i.size m x) V, vrun P true (Builtin.firstCells i.size n s) V with
        | some (new, _), some (old, _) =>
          if (n + m) * i.bytes > 140737488355328 ∨ n + m > maxLen ∨ !new.toList.all oneV ∨ VW.bound ≤ V.n ∨ old.size ≠ n * i.size ∨ new.size ≠ m * i.size then none
          else if n + m ≤ cap ∧ cap ≠ OPEN then
            match base with
            | none => none
            | some a => match vrun P false (storeCells (a.add (n * i.size)) new.toList) V with
              | some (_, V1) => some (.slice (some a) (n + m) cap, V1)
              | none => none
          else if cap = OPEN then
            match base with
            | none => none
            | some a => match V.row a.block with
              | some (_, e, b) => if b.es = i.size ∧ a.spot = none ∧ b.rd = false then some (.slice (some ⟨V.n, 0, none⟩) (n + m) OPEN, (V.put a.block { b with live := false }).add ⟨.cells (old ++ new) e, i.size, true, false, .leaf⟩) else none
              | none => none
          else some (.slice (some ⟨V.n, 0, none⟩) (n + m) OPEN, V.add ⟨.cells (old ++ new) el, i.size, true, false, .leaf⟩)
        | _, _ => none
    | _ => none
  | _, _, _, _ => none

section
variable {P : Program} {w0 : World} {R : Ren} {V : VW} {w' : World}

theorem run_append_room' (w w1 : World) (t ty e : TypeId) (i : TypeInfo) (ht : P.underlying t = some (.slice e)) (hi : P.info? e = some i)
    (a : Option Addr) (n cap m : Nat) (xa : Option Addr) (xc : Nat) (new : Array Value) (hnew : (Builtin.firstCells i.size m (.slice xa m xc)).run P w = .ok new w) (hroom : n + m ≤ cap)
    (hst : ∀ b, a = some b → (storeCells (b.add (n * i.size)) new.toList).run P w = .ok () w1) (hn : a = none → w1 = w) :
    (Builtin.append_ #[t, t] ty #[.slice a n cap, .slice xa m xc]).run P w = .ok (.slice a (n + m) cap) w1 := by
  cases a with
  | some b =>
    have hst := hst b rfl
    simp [Builtin.append_, run_underlying ht, sizeOf, typeInfo, hi, Builtin.lenOf, hroom, hnew, hst]
  | none =>
    rw [hn rfl]
    simp [Builtin.append_, run_underlying ht, sizeOf, typeInfo, hi, Builtin.lenOf, hroom, hnew]
theorem run_append_grow' (w : World) (t ty e : TypeId) (i : TypeInfo) (z : Value) (ht : P.underlying t = some (.slice e)) (hi : P.info? e = some i) (hz : i.zero = some z)
    (a : Option Addr) (n cap m : Nat) (xa : Option Addr) (xc : Nat) (old new : Array Value) (hold : (Builtin.firstCells i.size n (.slice a n cap)).run P w.drew = .ok old w.drew) (hnew : (Builtin.firstCells i.size m (.slice xa m xc)).run P w.drew = .ok new w.drew)
    (hg : cap < n + m) (h63 : n + m ≤ maxLen) (hb : (n + m) * i.bytes ≤ 140737488355328) :
    (Builtin.append_ #[t, t] ty #[.slice a n cap, .slice xa m xc]).run P w =
      .ok (.slice (some ⟨w.heap.size, 0, none⟩) (n + m) (grownCap w (n + m) cap e)) (w.drew.alloc (.cells (old ++ new ++ Builtin.zeroCells z.cells (grownCap w (n + m) cap e - (n + m))) e)) := by
  have hn : ¬ (n + m ≤ cap) := by omega
  have h63' : ¬ (9223372036854775807 < ((n : Int) + (m : Int))) := by unfold maxLen at h63; omega
  have h48 := growslice_fits hg hb
  have h48' : ¬ (281474976710656 < Builtin.nextslicecap (n + m) cap * i.bytes) := by omega
  simp [Builtin.append_, run_underlying ht, sizeOf, typeInfo, zeroValue, hi, hz, Builtin.lenOf, hn, h63', h48', Question.forced, hold, hnew, newRow, grownCap]

/-- What storing does to a row. -/
def setArr (c : Array Value) : Nat → List Value → Array Value
  | _, [] => c
  | o, v :: l => setArr (c.setIfInBounds o v) (o + 1) l
theorem setArr_size : ∀ (l : List Value) (o : Nat) (c : Array Value), (setArr c o l).size = c.size
  | [], _, _ => rfl
  | v :: l, o, c => by rw [setArr, setArr_size l]; simp
theorem setArr_out : ∀ (l : List Value) (o : Nat) (c : Array Value) (i : Nat), i < o → (setArr c o l)[i]? = c[i]?
  | [], _, _, _, _ => rfl
  | v :: l, o, c, i, h => by rw [setArr, setArr_out l _ _ i (by omega), Array.getElem?_setIfInBounds_ne (by omega)]
theorem setArr_in : ∀ (l : List Value) (o : Nat) (c : Array Value) (j : Nat), o + l.length ≤ c.size → (hj : j < l.length) → (setArr c o l)[o + j]? = some l[j]
  | [], _, _, _, _, hj => by simp at hj
  | v :: l, o, c, 0, h, _ => by
    simp only [List.length_cons] at h
    show (setArr (c.setIfInBounds o v) (o + 1) l)[o]? = some v
    rw [setArr_out l _ _ o (by omega), Array.getElem?_setIfInBounds_self_of_lt (by omega)]
  | v :: l, o, c, j + 1, h, hj => by
    simp only [List.length_cons] at h hj
    rw [setArr, show o + (j + 1) = (o + 1) + j by omega, setArr_in l (o + 1) _ j (by rw [Array.size_setIfInBounds]; omega) (by omega)]
    rfl
theorem setCells_block (b : Nat) : ∀ (l : List Value) (o : Nat) (w : World) (c : Array Value) (e : TypeId) (f : Nat × Nat), w.heap[b]? = some (.cells c e f) → (w.setCells b o l).heap[b]? = some (.cells (setArr c o l) e f)
  | [], _, _, _, _, _, h => h
  | v :: l, o, w, c, e, f, h => by
    rw [World.setCells, setArr]
    exact setCells_block b l (o + 1) _ _ e f (by simp [World.setCell, Array.getElem?_modify, h])
theorem setCells_far (b : Nat) : ∀ (l : List Value) (o : Nat) (w : World) (k : Nat), k ≠ b → (w.setCells b o l).heap[k]? = w.heap[k]?
  | [], _, _, _, _ => rfl
  | v :: l, o, w, k, h => by rw [World.setCells, setCells_far b l _ _ k h]; exact Below.heap_setCell w _ v k h
theorem setCells_size (b : Nat) : ∀ (l : List Value) (o : Nat) (w : World), (w.setCells b o l).heap.size = w.heap.size
  | [], _, _ => rfl
  | v :: l, o, w => by rw [World.setCells, setCells_size b l]; simp [World.setCell]
theorem setCells_fr (b : Nat) (hb : w0.heap.size ≤ b) : ∀ (l : List Value) (o : Nat) (w : World), Fr No w0 w → Fr No w0 (w.setCells b o l)
  | [], _, _, h => h
  | v :: l, o, w, h => by rw [World.setCells]; exact setCells_fr b hb l _ _ (h.setCell (.inr hb) v)

/-- One block is done with, and a new one stands for the same row of the model's. -/
theorem WR.again {w1 : World} (h : WR w0 R V w') (hn : V.n < VW.bound) {k : Nat} {b b2 : VB} {x y : RE} {o1 : Obj} (hg : V.t.get k = some b) (hl : b.live = true) (hx : R[k]? = some x) (hy : y.r = x.r)
    (h1 : w1.heap[x.r]? = some o1) (ho : ∀ r, r ≠ x.r → w1.heap[r]? = w'.heap[r]?) (hs : w1.heap.size = w'.heap.size) (hf : Fr No w0 w1) (hbr : b.rd = false) (hO : ObjR (R ++ [y]) y b2 o1) :
    WR w0 (R ++ [y]) ((V.put k { b with live := false }).add b2) w1 := by
  have hT := h.turn (b' := { b with live := false }) hg hl hx h1 (fun e => by cases e) rfl ho hs hf
  have hn' : (V.put k { b with live := false }).n < VW.bound := hn
  have hget := fun j => VW.get_add (V.put k { b with live := false }) j b2 hn'
  have hlast : (R ++ [y])[V.n]? = some y := by rw [← h.len]; simp
  have hk := h.some_ k b hg
  have hgk := VW.get_put V k k { b with live := false } hk h.top
  rw [if_pos rfl] at hgk
  have hold : ∀ {j : Nat} {bj : VB}, (V.put k { b with live := false }).t.get j = some bj → ∀ z, (R ++ [y])[j]? = some z → R[j]? = some z := fun {j bj} hj z hz => by
    rw [List.getElem?_append_left (by rw [h.len]; exact hT.some_ j bj hj)] at hz
    exact hz
  -- a live block of the old ones does not stand for that row
  have hapart : ∀ {j : Nat} {bj : VB}, (V.put k { b with live := false }).t.get j = some bj → bj.live = true → ∀ z, R[j]? = some z → z.r ≠ x.r := fun {j bj} hj hlj z hz e => by
    have hj' := hj
    rw [VW.get_put V k j _ hk h.top] at hj'
    split at hj'
    · cases hj'; cases hlj
    · rename_i hne
      exact hne (h.inj j k bj b z x hj' hlj hg hl hz hx e)
  refine ⟨by simp [h.len, VW.add, VW.put], by show V.n + 1 ≤ _; omega, fun j bj hj => ?_, fun j bj hj hlj => ?_, fun i j bi bj z u hi hli hj hlj hz hu hzu => ?_, fun j bj z hj hlj hz => ?_, fun g hgl => Le.push R y g _ (h.glob g hgl), hf⟩
  · rw [hget] at hj
    show j < V.n + 1
    split at hj
    · rename_i e; have e : j = V.n := e; omega
    · have : j < V.n := hT.some_ j bj hj; omega
  · rw [hget] at hj
    split at hj
    · rename_i e
      have e : j = V.n := e
      cases hj; subst e
      exact ⟨y, o1, hlast, by rw [hy]; exact h1, hO⟩
    · obtain ⟨z, oz, hz, hoz, hO'⟩ := hT.live j bj hj hlj
      exact ⟨z, oz, Le.push R y j z hz, hoz, hO'.mono (Le.push R y)⟩
  · rw [hget] at hi hj
    split at hi <;> split at hj
    · omega
    · rename_i e1 e2
      have e1 : i = V.n := e1
      subst e1
      rw [hlast] at hz
      cases hz
      exact absurd (hzu.symm.trans hy) (hapart hj hlj u (hold hj u hu))
    · rename_i e1 e2
      have e2 : j = V.n := e2
      subst e2
      rw [hlast] at hu
      cases hu
      exact absurd (hzu.trans hy) (hapart hi hli z (hold hi z hz))
    · exact hT.inj i j bi bj z u hi hli hj hlj (hold hi z hz) (hold hj u hu) hzu
  · rw [hget] at hj
    split at hj
    · rename_i e
      have e : j = V.n := e
      cases hj; subst e
      rw [hlast] at hz
      cases hz
      rw [hy, hs]
      have := h.new k b x hg hl hx
      exact ⟨this.1, fun _ => this.2 hbr⟩
    · exact hT.new j bj z hj hlj (hold hj z hz)

theorem ro_run {α β : Type} {m : Sem α} {m' : Sem β} {Rel : Ren → α → β → Prop} (h : Sim P w0 R V w' m m' Rel) (hW : WR w0 R V w') {a : α} {V1 : VW} (hr : vrun P true m V = some (a, V1)) :
    ∃ b, m'.run P w' = .ok b w' ∧ Rel R a b := by
  obtain ⟨R1, b, w1, _, h2, _, h4, h5⟩ := h hW true a V1 hr
  obtain ⟨rfl, rfl, rfl⟩ := h5 rfl
  exact ⟨b, h2, h4⟩
theorem vload_at {ro : Bool} {a : Addr} : ∀ (n i : Nat) (acc r : Array Value) (V' : VW), vrun P ro (loadCellsFrom a i n acc) V = some (r, V') →
    r.size = acc.size + n ∧ (∀ k, k < acc.size → r[k]? = acc[k]?) ∧ ∀ k, k < n → V.cell (a.add (i + k)) = r[acc.size + k]?
  | 0, i, acc, r, V', h => by
    cases h
    exact ⟨rfl, fun k _ => rfl, fun k hk => by omega⟩
  | n + 1, i, acc, r, V', h => by
    have h : vrun P ro ((Go.load (a.add i)).bind fun v => loadCellsFrom a (i + 1) n (acc.push v)) V = some (r, V') := h
    rw [vrun_bind] at h
    have e : vrun P ro (Go.load (a.add i)) V = (V.cell (a.add i)).map fun v => (v, V) := by
      unfold Go.load
      simp only [vrun]
      cases V.cell (a.add i) <;> rfl
    rw [e] at h
    cases hc : V.cell (a.add i) with
    | none => rw [hc] at h; cases h
    | some v =>
      rw [hc] at h
      have h : vrun P ro (loadCellsFrom a (i + 1) n (acc.push v)) V = some (r, V') := h
      obtain ⟨h1, h2, h3⟩ := vload_at n (i + 1) _ r V' h
      rw [Array.size_push] at h1 h2 h3
      refine ⟨by omega, fun k hk => by rw [h2 k (by omega), Array.getElem?_push_lt hk]; exact (Array.getElem?_eq_getElem hk).symm, fun k hk => ?_⟩
      cases k with
      | zero =>
        rw [Nat.add_zero, Nat.add_zero, hc, h2 acc.size (by omega)]
        simp
      | succ k =>
        have := h3 k (by omega)
        rw [show i + (k + 1) = i + 1 + k by omega, show acc.size + (k + 1) = acc.size + 1 + k by omega]
        exact this
theorem one_rel {a a' : Array Value} (h : AsR R a a') (ho : a.toList.all oneV = true) : ∀ v ∈ a'.toList, v.oneCell' = true := by
  intro v hv
  obtain ⟨i, hi⟩ := List.getElem?_of_mem hv
  rw [Array.getElem?_toList] at hi
  have hlt : i < a.size := by rw [h.size]; exact (Array.getElem?_eq_some_iff.1 hi).1
  have hu := h.at_ i _ v (Array.getElem?_eq_getElem hlt) hi
  have h1 : oneV a[i] = true := List.all_eq_true.1 ho _ (Array.mem_toList_iff.2 (Array.getElem_mem hlt))
  revert h1 hu
  generalize a[i] = u
  intro hu h1
  cases hu <;> first | rfl | (simp [oneV] at h1)

theorem vAppend_ok (hz : Zeros P) (hW : WR w0 R V w') {ts : Array TypeId} {s s' x x' v : Value} {V1 : VW} (h : vAppend P ts s x V = some (v, V1)) (hs : VR R s s') (hx : VR R x x') (ty : TypeId) :
    ∃ R1 v' w1, Le R R1 ∧ (Builtin.append_ ts ty #[s', x']).run P w' = .ok v' w1 ∧ WR w0 R1 V1 w1 ∧ VR R1 v v' := by
  unfold vAppend at h
  split at h
  · rename_i t u base n cap xa m xc ht hu
    split at h
    · cases h
    rename_i htu
    have htu : t = u ∧ ts.size = 2 := by
      refine ⟨Classical.byContradiction fun e => htu (.inl e), Classical.byContradiction fun e => htu (.inr e)⟩
    obtain ⟨rfl, hsz⟩ := htu
    have hts : ts = #[t, t] := by
      apply Array.ext (by simp [hsz])
      intro i h1 h2
      have : i = 0 ∨ i = 1 := by simp at h2; omega
      rcases this with rfl | rfl
      · have := Array.getElem?_eq_getElem h1
        rw [ht] at this
        simpa using this.symm
      · have := Array.getElem?_eq_getElem h1
        rw [hu] at this
        simpa using this.symm
    subst hts
    clear ht hu hsz
    split at h
    · rename_i el hel
      split at h
      · cases h
      rename_i i hi
      split at h
      · cases h
      rename_i z hzz
      split at h
      · cases h
      rename_i hi0'
      have hi0 : ¬ i.size = 0 := fun e => hi0' (.inl e)
      have hel0 : el < P.types.size := Classical.byContradiction fun e => hi0' (.inr e)
      split at h
      · rename_i new V2 old V3 hnew hold
        split at h
        · cases h
        rename_i hok
        simp only [not_or, Decidable.not_not, Bool.not_eq_true, Nat.not_lt, Nat.not_le, gt_iff_lt, ne_eq] at hok
        obtain ⟨hb1, hb2, hb3, hb4, hb5, hb6⟩ := hok
        have hb3 : new.toList.all oneV = true := by simpa using hb3
        have hzs := hz.size el i z hel0 hi hzz
        have snew : ∀ (w2 : World), WR w0 R V w2 → ∃ new', (Builtin.firstCells i.size m x').run P w2 = .ok new' w2 ∧ AsR R new new' := fun w2 hW2 =>
          ro_run (sim_firstCells (P := P) (w0 := w0) (V := V) (w' := w2) hx i.size m (by
            by_cases h0 : m = 0
            · exact .inl h0
            · exact .inr (.inr (by rintro a l c e; cases e; exact h0)))) hW2 hnew
        have sold : ∀ (w2 : World), WR w0 R V w2 → ∃ old', (Builtin.firstCells i.size n s').run P w2 = .ok old' w2 ∧ AsR R old old' := fun w2 hW2 =>
          ro_run (sim_firstCells (P := P) (w0 := w0) (V := V) (w' := w2) hs i.size n (by
            by_cases h0 : n = 0
            · exact .inl h0
            · exact .inr (.inr (by rintro a l c e; cases e; exact h0)))) hW2 hold
        obtain ⟨new', hnew', hnR⟩ := snew w' hW
        obtain ⟨newd, hnewd, hnRd⟩ := snew w'.drew hW.drew
        obtain ⟨oldd, holdd, hoRd⟩ := sold w'.drew hW.drew
        -- the shapes of the model's two slices
        have hx' : ∃ xa' xc', x' = .slice xa' m xc' := by cases hx <;> exact ⟨_, _, rfl⟩
        obtain ⟨xa', xc', rfl⟩ := hx'
        -- a new block
        have grow : ∀ (V2 : VW), WR w0 R V2 w' → V2.n = V.n → ∀ (a' : Option Addr) (cap' : Nat), s' = .slice a' n cap' → cap' < n + m → ∀ e0, ∃ R1 v' w1, Le R R1 ∧ (Builtin.append_ #[t, t] ty #[s', .slice xa' m xc']).run P w' = .ok v' w1 ∧ WR w0 R1 (V2.add ⟨.cells (old ++ new) e0, i.size, true, false, .leaf⟩) w1 ∧ VR R1 (.slice (some ⟨V.n, 0, none⟩) (n + m) OPEN) v' := by
          rintro V2 hW2 hV2 a' cap' rfl hg e0
          have hrun := run_append_grow' w' t ty el i z hel hi hzz a' n cap' m xa' xc' oldd newd holdd hnewd hg hb2 (Nat.le_of_not_lt (by omega))
          have hge := grownCap_ge w' (n + m) cap' el
          have hlen : ∀ k, (Builtin.zeroCells z.cells k).size = k * i.size := fun k => by rw [size_zeroCells, hzs]
          have hcs := hoRd.append hnRd
          obtain ⟨sz, hszd⟩ : ∃ sz, sz = (oldd ++ newd ++ Builtin.zeroCells z.cells (grownCap w' (n + m) cap' el - (n + m))).size := ⟨_, rfl⟩
          refine ⟨R ++ [⟨w'.heap.size, 0, sz, i.size⟩], _, _, Le.push R _, hrun, hW2.drew.add (by rw [hV2]; exact hb4) _ _ _ rfl ?_, ?_⟩
          · refine ⟨_, el, 0, 0, rfl, fun _ => ⟨rfl, hszd⟩, fun _ j _ hj => by omega, fun j u hu => ?_⟩
            have hu : (old ++ new)[j]? = some u := by
              unfold VB.at_ at hu
              rw [T.get_leaf] at hu
              exact hu
            obtain ⟨u', hu', hR⟩ := hcs.get hu
            refine ⟨u', ?_, hR.mono (Le.push R _)⟩
            rw [Nat.add_zero, Array.getElem?_append_left (by exact (Array.getElem?_eq_some_iff.1 hu').1)]
            exact hu'
          · refine .sliceO (x := ⟨w'.heap.size, 0, sz, i.size⟩) (by rw [← hW.len]; simp) rfl rfl rfl (.inr rfl) hge ?_
            have h1 : oldd.size = n * i.size := by rw [← hoRd.size]; exact hb5
            have h2 : newd.size = m * i.size := by rw [← hnRd.size]; exact hb6
            show 0 + _ * i.size ≤ sz
            rw [hszd, Array.size_append, Array.size_append, hlen, h1, h2, ← Nat.add_mul, ← Nat.add_mul, Nat.zero_add]
            refine Nat.mul_le_mul_right _ ?_
            omega
        split at h
        · rename_i hfit
          split at h
          · cases h
          rename_i a
          split at h
          · rename_i V4 hst
            cases h
            cases hs with
            | sliceO => exact absurd rfl hfit.2
            | @slice _ a' _ _ ha hc =>
              obtain ⟨R1, _, w1, hl1, hr1, hW1, _, _⟩ := sim_storeCells (P := P) (w0 := w0) new.toList new'.toList 0 R V w' (ha.add (n * i.size)) hnR.list hW false _ _ hst
              exact ⟨R1, _, w1, hl1, run_append_room' w' w1 t ty el i hel hi (some a') n cap m xa' xc' new' hnew' hfit.1 (fun b hb => by cases hb; exact hr1) (fun e => by cases e), hW1, .slice (ha.mono hl1) hc⟩
          · cases h
        · rename_i hfit
          split at h
          · rename_i hcap
            subst hcap
            split at h
            · cases h
            rename_i a
            split at h
            · rename_i c0 e0 b hrow
              split at h
              · rename_i hes
                obtain ⟨hes, hsp, hbrd⟩ := hes
                cases h
                cases hs with
                | slice ha hc => exact absurd rfl hc
                | @sliceO _ a' _ cap' y hy hsp' h1 h2 h3 h4 h5 =>
                  obtain ⟨hg, hl, f, hob⟩ := VW.row_some hrow
                  obtain ⟨y2, c', e', lo, hi', hy2, hheap, hes', hfz, hcells⟩ := hW.row hrow
                  rw [hy] at hy2
                  cases hy2
                  obtain ⟨hyes, hsz⟩ := hes' (by omega)
                  have hyes : y.es = i.size := by rw [← hes]; exact hyes
                  have hfz := hfz hbrd
                  have hy0 : ∀ (q : RE), (R ++ [q])[V.n]? = some q := fun q => by rw [← hW.len]; simp
                  by_cases hroom : n + m ≤ cap'
                  · -- in place
                    obtain ⟨ab, ao, asp⟩ := a'
                    simp only at h1 h2 h3 h5
                    subst h1; subst h2
                    have hextent : ao + (n + m) * i.size ≤ c'.size := by
                      rw [← hsz]
                      refine Nat.le_trans (Nat.add_le_add_left ?_ ao) h5
                      rw [hyes]
                      exact Nat.mul_le_mul_right _ hroom
                    have hnl : new'.toList.length = m * i.size := by rw [Array.length_toList, ← hnR.size]; exact hb6
                    have hin : ∀ k, k < new'.toList.length → ao + n * i.size + k < c'.size := fun k hk => by
                      rw [hnl] at hk
                      rw [Nat.add_mul] at hextent
                      omega
                    have hcell : ∀ k, w'.cell? ⟨y.r, k, none⟩ = c'[k]? := fun k => by simp only [World.cell?, hheap]; rfl
                    have hst := run_storeCells_cells (P := P) y.r (ao + n * i.size) new'.toList 0 w'
                      (fun k hk => by rw [Nat.add_zero, hcell, Array.getElem?_eq_getElem (hin k hk)]; rfl)
                      (fun k hk => by
                        rw [Nat.add_zero]
                        simp only [World.frozen?, hheap]
                        cases q1 : decide (lo ≤ ao + n * i.size + k) <;> cases q2 : decide (ao + n * i.size + k < hi') <;> simp
                        have := hfz _ (of_decide_eq_true q1) (of_decide_eq_true q2)
                        have := hin k hk
                        omega) (one_rel hnR hb3)
                    rw [Nat.add_zero] at hst
                    have hrun := run_append_room' w' (w'.setCells y.r (ao + n * i.size) new'.toList) t ty el i hel hi (some ⟨y.r, ao, none⟩) n cap' m xa' xc' new' hnew' hroom
                      (fun b hb => by cases hb; rw [Addr.add_lit]; exact hst) (fun e => by cases e)
                    have hblk := setCells_block y.r new'.toList (ao + n * i.size) w' c' e' (lo, hi') hheap
                    refine ⟨R ++ [⟨y.r, ao, y.sz, i.size⟩], _, _, Le.push R _, hrun, hW.again hb4 hg hl hy rfl hblk (fun r hr => setCells_far y.r _ _ w' r hr) (setCells_size y.r _ _ w') (setCells_fr y.r ((hW.new _ b y hg hl hy).2 hbrd) _ _ w' hW.fr) hbrd ?_, ?_⟩
                    · refine ⟨_, e', lo, hi', rfl, fun _ => ⟨rfl, by rw [setArr_size]; exact hsz⟩, fun _ k q1 q2 => by rw [setArr_size]; exact hfz k q1 q2, fun k u hu => ?_⟩
                      show ∃ v', (setArr c' (ao + n * i.size) new'.toList)[k + ao]? = some v' ∧ _
                      unfold VB.at_ at hu
                      rw [T.get_leaf] at hu
                      simp only [] at hu
                      rw [Array.getElem?_append] at hu
                      split at hu
                      · rename_i hk
                        rw [hb5] at hk
                        have hn0 : n ≠ 0 := by rintro rfl; omega
                        have h3 : ao = a.off + y.d := h3.resolve_left hn0
                        have hfc : vrun P true (loadCellsFrom a 0 (n * i.size) #[]) V = some (old, V3) := hold
                        obtain ⟨_, _, hat⟩ := vload_at _ _ _ _ _ hfc
                        have hat := hat k hk
                        rw [Nat.zero_add] at hat
                        have hat : V.cell (a.add k) = old[k]? := by simpa using hat
                        rw [hu] at hat
                        have hao : (a.add k).off = a.off + k ∧ (a.add k).block = a.block ∧ (a.add k).spot = none := by
                          unfold Addr.add
                          split
                          · rename_i h0; subst h0; exact ⟨rfl, rfl, hsp⟩
                          · exact ⟨rfl, rfl, rfl⟩
                        unfold VW.cell at hat
                        rw [hao.2.2, hao.2.1, hao.1] at hat
                        simp only [hrow] at hat
                        obtain ⟨u', hu', hR⟩ := hcells _ _ hat
                        refine ⟨u', ?_, hR.mono (Le.push R _)⟩
                        rw [setArr_out _ _ _ _ (by omega), ← hu']
                        congr 1
                        omega
                      · rename_i hk
                        rw [hb5] at hk hu
                        obtain ⟨u', hu', hR⟩ := hnR.get hu
                        refine ⟨u', ?_, hR.mono (Le.push R _)⟩
                        have hk2 : k - n * i.size < new'.toList.length := by rw [Array.length_toList]; exact (Array.getElem?_eq_some_iff.1 hu').1
                        have e1 : k + ao = (ao + n * i.size) + (k - n * i.size) := by omega
                        rw [e1, setArr_in _ _ _ _ (by rw [hnl]; rw [Nat.add_mul] at hextent; omega) hk2]
                        rw [← Array.getElem?_toList, List.getElem?_eq_getElem hk2] at hu'
                        exact hu'
                    · refine .sliceO (hy0 _) rfl rfl rfl (.inr (Nat.zero_add ao).symm) hroom ?_
                      show ao + cap' * i.size ≤ y.sz
                      rw [← hyes]; exact h5
                  · -- a new one
                    exact grow (V.put a.block { b with live := false }) (hW.turn (b' := { b with live := false }) hg hl hy hheap (fun e => by cases e) rfl (fun _ _ => rfl) rfl hW.fr) rfl (some a') cap' rfl (Nat.lt_of_not_le hroom) e0
              · cases h
            · cases h
          · rename_i hcap
            cases h
            have hg : cap < n + m := by
              apply Nat.lt_of_not_le
              intro hle
              exact hfit ⟨hle, hcap⟩
            cases hs with
            | sliceN => exact grow V hW rfl none cap rfl hg el
            | @slice _ a' _ _ ha hc => exact grow V hW rfl (some a') cap rfl hg el
            | sliceO => exact absurd rfl hcap
      · cases h
    · cases h
  · cases h
end
end Vm
end Go.Proofs.YtkfefdjbihmblaaDoor

/-
  From what a row says of its arguments to the cells that a walk reads: plain types, and slices of them; and the way back, where nothing that was there has changed.
-/
import Derived.Test.YtpnabfekidpnoaaEq
import Derived.ChangeSame
import Derived.ChangeVars
import Derived.JoinedOf
import Derived.LaidLaws
import Derived.Deep.Slices
import Derived.OpenShut
import Derived.ChangeOld
import Derived.Carry
import Derived.Lib.LaidTab
namespace Go.Proofs.Ytpnabfekidpnoaa
open Go Go.RowKit Go.ChangeShapes Go.WideShapes

/-- Cells of kinds, each within its kind's bounds. -/
def WFits : List Value → List (Option IntKind) → Prop
  | [], [] => True
  | v :: vs, some k :: ks => (∃ n, v = .int k n ∧ (Lit.int k n).wf = true) ∧ WFits vs ks
  | v :: vs, none :: ks => (∃ b, v = .bool b) ∧ WFits vs ks
  | _, _ => False
theorem WFits.append : ∀ {xs ys : List Value} {ks ls : List (Option IntKind)}, WFits xs ks → WFits ys ls → WFits (xs ++ ys) (ks ++ ls)
  | [], ys, [], ls, _, h => h
  | _ :: _, ys, some _ :: _, ls, h, h' => ⟨h.1, WFits.append h.2 h'⟩
  | _ :: _, ys, none :: _, ls, h, h' => ⟨h.1, WFits.append h.2 h'⟩
  | [], _, _ :: _, _, h, _ => by cases h
  | _ :: _, _, [], _, h, _ => by cases h
theorem WFits.fits : ∀ {xs : List Value} {ks : List (Option IntKind)}, WFits xs ks → Fits xs ks
  | [], [], _ => trivial
  | _ :: _, some _ :: _, h => ⟨let ⟨n, hn, _⟩ := h.1; ⟨n, hn⟩, WFits.fits h.2⟩
  | _ :: _, none :: _, h => ⟨h.1, WFits.fits h.2⟩
  | [], _ :: _, h => by cases h
  | _ :: _, [], h => by cases h

theorem WFits.int {r : List Value} {k : IntKind} {ks : List (Option IntKind)} (h : WFits r (some k :: ks)) : ∃ n r', r = .int k n :: r' ∧ (Lit.int k n).wf = true ∧ WFits r' ks := by
  cases r with
  | nil => cases h
  | cons v r => obtain ⟨⟨n, rfl, hn⟩, h⟩ := h; exact ⟨n, r, rfl, hn, h⟩
theorem WFits.bool {r : List Value} {ks : List (Option IntKind)} (h : WFits r (none :: ks)) : ∃ b r', r = .bool b :: r' ∧ WFits r' ks := by
  cases r with
  | nil => cases h
  | cons v r => obtain ⟨⟨n, rfl⟩, h⟩ := h; exact ⟨n, r, rfl, h⟩
theorem WFits.nil {r : List Value} (h : WFits r []) : r = [] := by
  cases r with
  | nil => rfl
  | cons v r => cases h

theorem cellsOf_plain {P : Program} {d : Nat} {t : TypeId} (h : plainT P d t = true) : P.cellsOf t = (kindsOf P d t).length := by
  obtain ⟨i, u, hi, _, hs⟩ := plainT_size h
  simp [Program.cellsOf, hi, hs]

section
variable {H : Type} {enc : TypeId × Value → H} {P : Program} {w : World} {base : Nat} {sp : Nat → Bool} {held : Bool}
theorem fits_fields (d : Nat) (fuel : Nat) (ih : ∀ (t : TypeId) (cs : List Value) (x : DataW H × List MemPlace), plainT P d t = true → DataW.trod enc P w base sp held fuel t cs = some x → WFits cs (kindsOf P d t)) :
    ∀ (fs : List Field) (o : Nat) (cs : List Value), fieldsOk (fun t => (kindsOf P d t).length) (plainT P d) o fs = true → cs.length = o + (fs.flatMap fun f => kindsOf P d f.type).length →
      (∀ f ∈ fs, ∃ x, DataW.trod enc P w base sp held fuel f.type ((cs.drop f.offset).take (P.cellsOf f.type)) = some x) → WFits (cs.drop o) (fs.flatMap fun f => kindsOf P d f.type)
  | [], o, cs, _, hl, _ => by
    have : cs.drop o = [] := List.drop_eq_nil_of_le (by simp at hl; omega)
    rw [this]; trivial
  | f :: fs, o, cs, hok, hl, hx => by
    simp only [fieldsOk, Bool.and_eq_true, beq_iff_eq, bne_iff_ne, ne_eq, decide_eq_true_eq] at hok
    obtain ⟨⟨⟨⟨hoff, _⟩, hpos⟩, hpl⟩, hrest⟩ := hok
    simp only [List.flatMap_cons, List.length_append] at hl ⊢
    obtain ⟨x, hx0⟩ := hx f (List.mem_cons_self ..)
    have h0 := ih _ _ _ hpl hx0
    rw [hoff, cellsOf_plain hpl] at h0
    have h1 := fits_fields d fuel ih fs (o + (kindsOf P d f.type).length) cs hrest (by omega) (fun g hg => hx g (List.mem_cons_of_mem _ hg))
    have := h0.append h1
    rwa [← List.drop_drop, List.take_append_drop] at this
theorem fits_elems (d : Nat) (fuel : Nat) (e : TypeId) (hpl : plainT P d e = true) (ih : ∀ (t : TypeId) (cs : List Value) (x : DataW H × List MemPlace), plainT P d t = true → DataW.trod enc P w base sp held fuel t cs = some x → WFits cs (kindsOf P d t)) :
    ∀ (n : Nat) (cs : List Value), cs.length = n * (kindsOf P d e).length →
      (∀ i, i < n → ∃ x, DataW.trod enc P w base sp held fuel e ((cs.drop (i * P.cellsOf e)).take (P.cellsOf e)) = some x) → WFits cs (List.replicate n (kindsOf P d e)).flatten
  | 0, cs, hl, _ => by
    have : cs = [] := List.eq_nil_of_length_eq_zero (by simpa using hl)
    subst this; trivial
  | n + 1, cs, hl, hx => by
    obtain ⟨x, hx0⟩ := hx 0 (by omega)
    have h0 := ih _ _ _ hpl hx0
    rw [cellsOf_plain hpl, Nat.zero_mul, List.drop_zero] at h0
    have h1 := fits_elems d fuel e hpl ih n (cs.drop (kindsOf P d e).length) (by rw [List.length_drop, hl, Nat.add_mul]; omega) (fun i hi => by
      obtain ⟨y, hy⟩ := hx (i + 1) (by omega)
      refine ⟨y, ?_⟩
      rw [← hy, List.drop_drop, cellsOf_plain hpl]
      congr 3
      rw [Nat.add_mul]; omega)
    have := h0.append h1
    rw [List.take_append_drop] at this
    rwa [List.replicate_succ, List.flatten_cons]
/-- What is read of a plain type: cells of its kinds. -/
theorem trod_fits : ∀ (d fuel : Nat) (t : TypeId) (cs : List Value) (x : DataW H × List MemPlace), plainT P d t = true → DataW.trod enc P w base sp held fuel t cs = some x → WFits cs (kindsOf P d t)
  | 0, _, _, _, _, h, _ => by simp [plainT] at h
  | d + 1, fuel, t, cs, x, h, hx => by
    have hsz := cellsOf_plain h
    unfold plainT at h
    rw [Bool.and_eq_true] at h
    obtain ⟨_, h⟩ := h
    cases hu : P.underlying t with
    | none => rw [hu] at h; simp at h
    | some u =>
      rw [hu] at h
      cases u with
      | int k =>
        obtain ⟨n, rfl, _, hw⟩ := DataW.trod_int hu hx
        have : kindsOf P (d + 1) t = [some k] := by unfold kindsOf; rw [hu]
        rw [this]
        exact ⟨⟨n, rfl, hw⟩, trivial⟩
      | bool =>
        obtain ⟨b, rfl, _⟩ := DataW.trod_bool hu hx
        have : kindsOf P (d + 1) t = [none] := by unfold kindsOf; rw [hu]
        rw [this]
        exact ⟨⟨b, rfl⟩, trivial⟩
      | struct fs =>
        obtain ⟨xs, n, rfl, _, hl, hxl, hxs⟩ := DataW.trod_struct hu hx
        have hk : kindsOf P (d + 1) t = fs.toList.flatMap fun f => kindsOf P d f.type := by conv => lhs; unfold kindsOf; rw [hu]
        rw [hk] at hsz ⊢
        simp only [Bool.and_eq_true] at h
        have := fits_fields d n (fun t cs x => trod_fits d n t cs x) fs.toList 0 cs h.2 (by omega) (fun f hf => by
          obtain ⟨i, hi, hfi⟩ := List.getElem_of_mem hf
          have hi' : fs[i]? = some f := by
            rw [← hfi]; simp at hi ⊢
          have := hxs i f hi'
          rw [List.getElem?_eq_getElem (by rw [hxl]; simpa using hi)] at this
          exact ⟨_, this⟩)
        simpa using this
      | array n e =>
        obtain ⟨xs, m, rfl, _, hl, hxl, hxs⟩ := DataW.trod_array hu hx
        have hk : kindsOf P (d + 1) t = (List.replicate n (kindsOf P d e)).flatten := by conv => lhs; unfold kindsOf; rw [hu]
        rw [hk] at hsz ⊢
        refine fits_elems d m e h (fun t cs x => trod_fits d m t cs x) n cs (by rw [hl, hsz]; simp) (fun i hi => ?_)
        have := hxs i hi
        rw [List.getElem?_eq_getElem (by omega)] at this
        exact ⟨_, this⟩
      | _ => simp at h

theorem WFits.len {xs : List Value} {ks : List (Option IntKind)} (h : WFits xs ks) : xs.length = ks.length := h.fits.len

theorem flatten_at {α : Type} (n : Nat) : ∀ (rows : List (List α)), (∀ r ∈ rows, r.length = n) → ∀ (j : Nat) (u : α), rows.flatten[j]? = some u → 0 < n ∧ ∃ r, rows[j / n]? = some r ∧ r[j % n]? = some u
  | [], _, j, u, h => by simp at h
  | r :: rows, hr, j, u, h => by
    have hrl := hr r (List.mem_cons_self ..)
    rw [List.flatten_cons] at h
    by_cases hj : j < n
    · rw [List.getElem?_append_left (by omega)] at h
      refine ⟨by omega, r, ?_, ?_⟩
      · rw [Nat.div_eq_of_lt hj]; rfl
      · rw [Nat.mod_eq_of_lt hj]; exact h
    · rw [List.getElem?_append_right (by omega), hrl] at h
      obtain ⟨hn, r', h1, h2⟩ := flatten_at n rows (fun r' hr' => hr r' (List.mem_cons_of_mem _ hr')) _ _ h
      refine ⟨hn, r', ?_, ?_⟩
      · rw [Nat.div_eq_sub_div hn (by omega)]; simpa using h1
      · rw [Nat.mod_eq_sub_mod (by omega)]; exact h2

/-- A slice of a plain type that came in. -/
theorem open_rows (d : Nat) {t e : TypeId} (ht : P.underlying t = some (.slice e)) (hpl : plainT P d e = true) {v : Value} (hv : ∃ a l c, v = .slice a l c) {dd : DataW H} {ps : List MemPlace}
    (h : DataW.Trod enc P w 0 (fun _ => true) true t v dd ps) : ∃ rows : List (List Value), Rd w v rows.length rows.flatten ∧ ∀ r ∈ rows, WFits r (kindsOf P d e) := by
  obtain ⟨a0, l0, c0, rfl⟩ := hv
  obtain ⟨fuel, hf⟩ := h
  rcases Deep.open_slice ht hf with ⟨hcs, _⟩ | ⟨a, len, cap, m, n, D, Pl, hcs, _, hl, hm, hmm, _, hx⟩
  · simp [Value.cells] at hcs
    obtain ⟨rfl, rfl, rfl⟩ := hcs
    exact ⟨[], ⟨none, 0, rfl, Nat.le_refl _, by unfold maxLen; omega, fun _ => ⟨rfl, rfl, rfl⟩, fun ad h => by cases h⟩, fun r hr => by cases hr⟩
  · simp [Value.cells] at hcs
    obtain ⟨rfl, rfl, rfl⟩ := hcs
    simp at hmm
    subst hmm
    obtain ⟨R, hR⟩ := Deep.choose_lt (α := List Value) (n := l0) (p := fun i cs => w.cells? 0 (a.add (i * P.cellsOf e)) (P.cellsOf e) = some cs ∧ WFits cs (kindsOf P d e)) (fun i hi => by
      obtain ⟨cs, h1, h2⟩ := hx i (by omega)
      exact ⟨cs, h1, trod_fits d _ _ _ _ hpl h2⟩)
    refine ⟨(List.range l0).map R, ?_, ?_⟩
    · refine ⟨some a, m, by simp, by simpa using hl, hm, fun h => (by cases h), fun ad had j u hu => ?_⟩
      cases had
      obtain ⟨hn, r, h1, h2⟩ := flatten_at (kindsOf P d e).length _ (fun r hr => by
        obtain ⟨i, hi, rfl⟩ := List.mem_map.1 hr
        exact (hR i (by simpa using hi)).2.len) j u hu
      have hj : j / (kindsOf P d e).length < l0 := by
        have := (List.getElem?_eq_some_iff.1 h1).1
        simpa using this
      simp [hj] at h1
      subst h1
      obtain ⟨k1, k2⟩ := hR _ hj
      obtain ⟨_, k3, k4⟩ := World.cells?_some k1
      rw [cellsOf_plain hpl] at k4
      have := k4 (j % (kindsOf P d e).length) (Nat.mod_lt _ hn)
      rw [Deep.add_add, h2] at this
      rw [← this]
      congr 2
      rw [Nat.mul_comm]
      exact (Nat.div_add_mod j _).symm
    · intro r hr
      obtain ⟨i, hi, rfl⟩ := List.mem_map.1 hr
      exact (hR i (by simpa using hi)).2

/-! ### The arguments read again -/
theorem all_again (hl : laidOutB P = true) {W W' : World} (hb : Below W.heap.size W W') : ∀ (ts : List TypeId) (vs : List Value) (ds : List (DataW H)) (ps : List MemPlace),
    (∀ t ∈ ts, P.readableRec t = true ∧ t < P.types.size) → DataW.TrodAll enc P W 0 (fun _ => true) true ts vs ds ps → DataW.TrodAll enc P W' 0 (fun b => decide (b < W.heap.size)) true ts vs ds ps
  | [], [], [], ps, _, h => h
  | t :: ts, v :: vs, d :: ds, ps, ht, h => by
    obtain ⟨p, q, h1, h2, rfl⟩ := h
    refine ⟨p, q, Below.trod hl (ht t (List.mem_cons_self ..)).1 (ht t (List.mem_cons_self ..)).2 h1 hb (by obtain ⟨m, hm⟩ := h1; exact DataW.trod_lt m _ _ _ hm), all_again hl hb ts vs ds q (fun t h => ht t (List.mem_cons_of_mem _ h)) h2, rfl⟩
  | [], _ :: _, _, _, _, h => by cases h
  | _ :: _, [], _, _, _, h => by cases h
  | [], [], _ :: _, _, _, h => by cases h
  | _ :: _, _ :: _, [], _, _, h => by cases h
theorem trodAll_lens : ∀ (ts : List TypeId) (vs : List Value) (ds : List (DataW H)) (ps : List MemPlace), DataW.TrodAll enc P w base sp held ts vs ds ps → vs.length = ts.length ∧ ds.length = ts.length
  | [], [], [], ps, _ => ⟨rfl, rfl⟩
  | t :: ts, v :: vs, d :: ds, ps, h => by
    obtain ⟨p, q, h1, h2, rfl⟩ := h
    have := trodAll_lens ts vs ds q h2
    exact ⟨by simp [this.1], by simp [this.2]⟩
  | [], _ :: _, _, _, h => by cases h
  | _ :: _, [], _, _, h => by cases h
  | [], [], _ :: _, _, h => by cases h
  | _ :: _, _ :: _, [], _, h => by cases h
end

/-- A law that answers true and leaves alone what was there: from its walk to what the row says. -/
theorem lift_true {C : Checked} {os : Os} {H : Type} {enc : TypeId × Value → H} {s : ChangeSpec} {f : FuncId} {fn : Func} {X : World → Array Value → Prop} {tb : TypeId}
    (hX : ∀ (w w' : World) (args : Array Value), w.heap = w'.heap → X w args → X w' args)
    (own : ownKnob C.prog.godebug = none) (started : os.Started) (noInit : C.prog.inits.idxOf? f = none) (hfn : C.prog.funcs[f]? = some fn)
    (hlaid : laidOutB C.prog = true) (hvars : s.vars = []) (hres : fn.resultTypes.toList = [tb]) (hrs : fn.resultTypes.size = 1) (htb : C.prog.underlying tb = some .bool)
    (hts : ∀ t ∈ fn.params.toList, C.prog.readableRec t = true ∧ t < C.prog.types.size)
    (hspec : ∀ ds : List (DataW H), ds.length = fn.params.toList.length → s.fn H ds = { results := [.lit (.bool true)], args := ds })
    (witness : ∃ (w : World) (tape : Tape) (i : Input), w.os = os ∧ (w.forCall tape i).Shaped C.prog ∧ i.vars = [] ∧ Input.okWide C.prog (w.forCall tape i) .any w.heap.size f i ∧
      ((s.pre enc C.prog fn [] false (w.forCall tape i).memory i.args ∧ X (w.forCall tape i).memory i.args) ∧ sizedMet enc C.prog fn (OpenSpec.ofChange s) false (w.forCall tape i).memory i.args) ∧ ({} : Assume).holds C.prog (lone (Frame.enter C.prog f i.args .normal) [] (w.forCall tape i)))
    (walk : ∀ (W : World) (base : Nat) (args : Array Value) (ds : List (DataW H)) (ps : List MemPlace), (∀ (j : Nat) t v, fn.params[j]? = some t → args[j]? = some v → Value.okWide C.prog W .any base t v) →
      DataW.TrodAll enc C.prog W 0 (fun _ => true) true fn.params.toList args.toList ds ps → X W args → Calls C.prog f args W fun e W' => e = .returned (.bool true) ∧ Fr No W W') :
    ReturnsInHanded {} C os f .any (fun w args => (s.pre enc C.prog fn [] false w args ∧ X w args) ∧ sizedMet enc C.prog fn (OpenSpec.ofChange s) false w args) (s.post enc C.prog fn false true false false) := by
  refine returnsInHanded_of_change_and hX own started noInit hfn witness ?_
  intro W base args ds gs before hval hW _ _ hx _
  have hW' := hW
  obtain ⟨p, q, hA, hV, rfl, _, _⟩ := hW
  rw [hvars] at hV
  obtain ⟨rfl, rfl⟩ := trodVars_none hV
  refine (walk W base args ds p hval hA hx).mono fun e W' ⟨he, hf⟩ => ?_
  have hb : Below W.heap.size W W' := hf.below (Nat.le_refl _) (fun _ _ h => h)
  have hsp := hspec ds (trodAll_lens _ _ _ _ hA).2
  subst he
  refine ⟨_, rfl, _, _, _, [], p, [], hW', ?_, ?_, ?_, hb.frame _, fun h => by cases h⟩
  · rw [List.append_nil, hsp, hres, hrs]
    exact trodAll_mk1 (shut_bool htb true)
  · rw [List.append_nil, hsp]
    exact all_again hlaid hb _ _ _ _ hts hA
  · rw [List.append_nil, hsp, hvars]
    rfl
/-! ### Bounds of kinds -/
theorem nat_u64 {b : Int} (h : (Lit.int .u64 b).wf = true) : ∃ n : Nat, b = (n : Int) ∧ n < 18446744073709551616 := by
  have h0 : 0 ≤ b ∧ b < 18446744073709551616 := by
    rw [Lit.wf, Bool.and_eq_true, decide_eq_true_eq, decide_eq_true_eq] at h
    exact ⟨h.1, Int.lt_of_le_of_lt h.2 (by decide)⟩
  exact ⟨b.toNat, by omega, by omega⟩
theorem nat_u8 {b : Int} (h : (Lit.int .u8 b).wf = true) : ∃ n : Nat, b = (n : Int) ∧ n < 256 := by
  have h0 : 0 ≤ b ∧ b < 256 := by
    rw [Lit.wf, Bool.and_eq_true, decide_eq_true_eq, decide_eq_true_eq] at h
    exact ⟨h.1, Int.lt_of_le_of_lt h.2 (by decide)⟩
  exact ⟨b.toNat, by omega, by omega⟩
theorem nat_u32 {b : Int} (h : (Lit.int .u32 b).wf = true) : ∃ n : Nat, b = (n : Int) ∧ n < 4294967296 := by
  have h0 : 0 ≤ b ∧ b < 4294967296 := by
    rw [Lit.wf, Bool.and_eq_true, decide_eq_true_eq, decide_eq_true_eq] at h
    exact ⟨h.1, Int.lt_of_le_of_lt h.2 (by decide)⟩
  exact ⟨b.toNat, by omega, by omega⟩
theorem nat_u16 {b : Int} (h : (Lit.int .u16 b).wf = true) : ∃ n : Nat, b = (n : Int) ∧ n < 65536 := by
  have h0 : 0 ≤ b ∧ b < 65536 := by
    rw [Lit.wf, Bool.and_eq_true, decide_eq_true_eq, decide_eq_true_eq] at h
    exact ⟨h.1, Int.lt_of_le_of_lt h.2 (by decide)⟩
  exact ⟨b.toNat, by omega, by omega⟩
theorem int_i64 {b : Int} (h : (Lit.int .i64 b).wf = true) : -9223372036854775808 ≤ b ∧ b < 9223372036854775808 := by
  rw [Lit.wf, Bool.and_eq_true, decide_eq_true_eq, decide_eq_true_eq] at h
  exact ⟨h.1, Int.lt_of_le_of_lt h.2 (by decide)⟩
end Go.Proofs.Ytpnabfekidpnoaa

/-
  '==' between arrays and structs whose cells are whole numbers and bools.
-/
import Derived.Test.YtpnabfekidpnoaaBase
namespace Go.Proofs.Ytpnabfekidpnoaa
open Go Go.RowKit

/-- The loop of '==' over an array. -/
def eqElems (P : Program) (d : Nat) (elem : TypeId) (n : Nat) (xs ys : Array Value) : List Nat → Sem Bool
  | [] => pure true
  | i :: is => do
    let a ← part elem xs (i * n)
    let b ← part elem ys (i * n)
    let r ← Op.equalIn d elem a b
    if (!r) = true then pure false else eqElems P d elem n xs ys is

section
variable {P : Program} (w : World)
theorem run_equalIn_array (d : Nat) (t elem len : Nat) (i : TypeInfo) (xs ys : Array Value) (ht : P.underlying t = some (.array len elem)) (hi : P.info? elem = some i) :
    (Op.equalIn (d + 1) t (.agg xs) (.agg ys)).run P w = (eqElems P d elem i.size xs ys (List.range len)).run P w := by
  simp only [Op.equalIn, Sem.run_bind, run_underlying ht, Result.andThen_ok, sizeOf, typeInfo, run_program, hi, Sem.run_pure]
  rw [Std.Legacy.Range.forIn_eq_forIn_range']
  have hr : List.range' 0 (Std.Legacy.Range.size { start := 0, stop := len, step := 1, step_pos := by omega }) 1 = List.range len := by
    rw [List.range_eq_range']
    congr 1
    simp [Std.Legacy.Range.size]
  simp only [] at hr ⊢
  rw [hr]
  generalize List.range len = fs
  clear ht hr
  induction fs generalizing w with
  | nil => simp [eqElems]
  | cons f fs ih =>
    simp only [List.forIn_cons, eqElems, Sem.run_bind]
    generalize (part elem xs (f * i.size)).run P w = r1
    cases r1 with
    | ok a w1 =>
      simp only [Result.andThen_ok]
      generalize (part elem ys (f * i.size)).run P w1 = r2
      cases r2 with
      | ok b w2 =>
        simp only [Result.andThen_ok]
        generalize (Op.equalIn d elem a b).run P w2 = r3
        cases r3 with
        | ok r w3 =>
          cases r
          · simp only [Result.andThen_ok, Bool.not_false, if_true, Sem.run_pure]
          · simp only [Result.andThen_ok, Bool.not_true, Bool.false_eq_true, if_false, Sem.run_pure]
            exact ih w3
        | halt x w3 => simp [Result.andThen]
      | halt x w2 => simp [Result.andThen]
    | halt x w1 => simp [Result.andThen]
end

/-- The kinds of a plain type's cells, one behind the other (none: a bool). -/
def kindsOf (P : Program) : Nat → TypeId → List (Option IntKind)
  | 0, _ => []
  | d + 1, t => match P.underlying t with
    | some (.int k) => [some k]
    | some .bool => [none]
    | some (.struct fs) => fs.toList.flatMap fun f => kindsOf P d f.type
    | some (.array len e) => (List.replicate len (kindsOf P d e)).flatten
    | _ => []
/-- The fields lie one behind the other. -/
def fieldsOk (size : TypeId → Nat) (ok : TypeId → Bool) : Nat → List Field → Bool
  | _, [] => true
  | o, f :: fs => f.offset == o && f.name != "_" && decide (0 < size f.type) && ok f.type && fieldsOk size ok (o + size f.type) fs
/-- A type of whole numbers and bools, structs and arrays of them. -/
def plainT (P : Program) : Nat → TypeId → Bool
  | 0, _ => false
  | d + 1, t => (P.info? t).map (·.size) == some (kindsOf P (d + 1) t).length && match P.underlying t with
    | some (.int _) => true
    | some .bool => true
    | some (.struct fs) => !P.stoodInHeld t && fieldsOk (fun t => (kindsOf P d t).length) (plainT P d) 0 fs.toList
    | some (.array _ e) => plainT P d e
    | _ => false
/-- Cells of kinds. -/
def Fits : List Value → List (Option IntKind) → Prop
  | [], [] => True
  | v :: vs, some k :: ks => (∃ n, v = .int k n) ∧ Fits vs ks
  | v :: vs, none :: ks => (∃ b, v = .bool b) ∧ Fits vs ks
  | _, _ => False
/-- Are two cells the same? -/
def cellEq : Value → Value → Bool
  | .int _ a, .int _ b => a == b
  | .bool a, .bool b => a == b
  | _, _ => false
/-- Are rows of cells the same? -/
def cellsEq : List Value → List Value → Bool
  | [], [] => true
  | x :: xs, y :: ys => cellEq x y && cellsEq xs ys
  | _, _ => false
def asVal (P : Program) (t : TypeId) (xs : List Value) : Value := match P.underlying t with
  | some (.struct _) => .agg xs.toArray
  | some (.array _ _) => .agg xs.toArray
  | _ => xs.headD undef

theorem Fits.len : ∀ {xs : List Value} {ks : List (Option IntKind)}, Fits xs ks → xs.length = ks.length
  | [], [], _ => rfl
  | _ :: _, some _ :: _, h => by simp [h.2.len]
  | _ :: _, none :: _, h => by simp [h.2.len]
  | [], _ :: _, h => by cases h
  | _ :: _, [], h => by cases h
theorem Fits.split : ∀ {xs : List Value} {ks ls : List (Option IntKind)}, Fits xs (ks ++ ls) → Fits (xs.take ks.length) ks ∧ Fits (xs.drop ks.length) ls
  | xs, [], ls, h => ⟨by simp [Fits], by simpa using h⟩
  | [], _ :: _, _, h => by cases h
  | _ :: xs, some k :: ks, ls, h => ⟨⟨h.1, (Fits.split (ks := ks) h.2).1⟩, (Fits.split (ks := ks) h.2).2⟩
  | _ :: xs, none :: ks, ls, h => ⟨⟨h.1, (Fits.split (ks := ks) h.2).1⟩, (Fits.split (ks := ks) h.2).2⟩
theorem cellsEq_split : ∀ (n : Nat) (xs ys : List Value), xs.length = ys.length → cellsEq xs ys = (cellsEq (xs.take n) (ys.take n) && cellsEq (xs.drop n) (ys.drop n))
  | 0, xs, ys, _ => by simp [cellsEq]
  | n + 1, [], [], _ => by simp [cellsEq]
  | n + 1, x :: xs, y :: ys, h => by
    simp only [List.take_succ_cons, List.drop_succ_cons, cellsEq]
    rw [cellsEq_split n xs ys (by simpa using h), Bool.and_assoc]
  | n + 1, [], _ :: _, h => by cases h
  | n + 1, _ :: _, [], h => by cases h

theorem run_part (P : Program) (w : World) (t : TypeId) (i : TypeInfo) (hi : P.info? t = some i) (hu : ∃ u, P.underlying t = some u) (xs : List Value) (off : Nat) (h : off + i.size ≤ xs.length) (h1 : ¬ (∃ fs, P.underlying t = some (.struct fs)) → ¬ (∃ n e, P.underlying t = some (.array n e)) → i.size = 1) :
    (part t xs.toArray off).run P w = .ok (asVal P t ((xs.drop off).take i.size)) w := by
  obtain ⟨u, hu⟩ := hu
  unfold asVal
  cases u with
  | struct fs =>
    simp [part, isAgg, run_underlying hu, sizeOf, typeInfo, hi, hu]
  | array n e =>
    simp [part, isAgg, run_underlying hu, sizeOf, typeInfo, hi, hu]
  | _ =>
    have hs := h1 (by rw [hu]; rintro ⟨_, h⟩; cases h) (by rw [hu]; rintro ⟨_, _, h⟩; cases h)
    have hlt : off < xs.length := by omega
    have hd : xs.drop off = xs[off] :: xs.drop (off + 1) := List.drop_eq_getElem_cons hlt
    simp [part, isAgg, run_underlying hu, hu, hs, hlt]
    rw [hd]
    rfl

theorem plainT_size {P : Program} {d : Nat} {t : TypeId} (h : plainT P d t = true) : ∃ i u, P.info? t = some i ∧ P.underlying t = some u ∧ i.size = (kindsOf P d t).length := by
  cases d with
  | zero => simp [plainT] at h
  | succ d =>
    unfold plainT at h
    rw [Bool.and_eq_true, beq_iff_eq] at h
    obtain ⟨i, hi, hs⟩ := Option.map_eq_some_iff.1 h.1
    cases hu : P.underlying t with
    | none => rw [hu] at h; simp at h
    | some u => exact ⟨i, u, hi, rfl, hs⟩
theorem plainT_one {P : Program} {d : Nat} {t : TypeId} (h : plainT P d t = true) (h1 : ¬ (∃ fs, P.underlying t = some (.struct fs))) (h2 : ¬ (∃ n e, P.underlying t = some (.array n e))) : (kindsOf P d t).length = 1 := by
  cases d with
  | zero => simp [plainT] at h
  | succ d =>
    unfold plainT at h
    unfold kindsOf
    cases hu : P.underlying t with
    | none => rw [hu] at h; simp at h
    | some u =>
      rw [hu] at h
      cases u <;> simp_all

section
variable {P : Program} (w : World)
theorem run_eqFields (d D : Nat) (ih : ∀ (t : TypeId) (xs ys : List Value), plainT P d t = true → Fits xs (kindsOf P d t) → Fits ys (kindsOf P d t) → (Op.equalIn D t (asVal P t xs) (asVal P t ys)).run P w = .ok (cellsEq xs ys) w) :
    ∀ (fs : List Field) (o : Nat) (xs ys : List Value), fieldsOk (fun t => (kindsOf P d t).length) (plainT P d) o fs = true →
      Fits (xs.drop o) (fs.flatMap fun f => kindsOf P d f.type) → Fits (ys.drop o) (fs.flatMap fun f => kindsOf P d f.type) →
      (Op.eqFields D xs.toArray ys.toArray fs).run P w = .ok (cellsEq (xs.drop o) (ys.drop o)) w
  | [], o, xs, ys, _, hx, hy => by
    have h1 : xs.drop o = [] := List.eq_nil_of_length_eq_zero hx.len
    have h2 : ys.drop o = [] := List.eq_nil_of_length_eq_zero hy.len
    rw [h1, h2]
    simp [Op.eqFields, cellsEq]
  | f :: fs, o, xs, ys, hok, hx, hy => by
    simp only [fieldsOk, Bool.and_eq_true, beq_iff_eq, bne_iff_ne, ne_eq, decide_eq_true_eq] at hok
    obtain ⟨⟨⟨⟨hoff, hname⟩, hpos⟩, hpl⟩, hrest⟩ := hok
    simp only [List.flatMap_cons] at hx hy
    obtain ⟨hx1, hx2⟩ := hx.split
    obtain ⟨hy1, hy2⟩ := hy.split
    rw [List.drop_drop] at hx2 hy2
    obtain ⟨i, u, hi, hu, hs⟩ := plainT_size hpl
    have hlx := hx.len
    have hly := hy.len
    simp only [List.length_append, List.length_drop] at hlx hly
    have hone := fun h1 h2 => hs.trans (plainT_one hpl h1 h2)
    have px := run_part P w f.type i hi ⟨u, hu⟩ xs o (by omega) hone
    have py := run_part P w f.type i hi ⟨u, hu⟩ ys o (by omega) hone
    rw [hs] at px py
    have e := ih f.type _ _ hpl hx1 hy1
    have hrec := run_eqFields d D ih fs _ xs ys hrest hx2 hy2
    rw [cellsEq_split (kindsOf P d f.type).length (xs.drop o) (ys.drop o) (by rw [hx.len, hy.len]), List.drop_drop, List.drop_drop]
    simp only [Op.eqFields, hname, hoff, ne_eq, not_false_iff, if_true, Sem.run_bind, px, py, Result.andThen_ok, e]
    cases hb : cellsEq ((xs.drop o).take (kindsOf P d f.type).length) ((ys.drop o).take (kindsOf P d f.type).length) <;> simp [hrec]

theorem run_eqElems (d D : Nat) (e : TypeId) (i : TypeInfo) (hi : P.info? e = some i) (he : plainT P d e = true) (ih : ∀ (xs ys : List Value), Fits xs (kindsOf P d e) → Fits ys (kindsOf P d e) → (Op.equalIn D e (asVal P e xs) (asVal P e ys)).run P w = .ok (cellsEq xs ys) w) :
    ∀ (n k : Nat) (xs ys : List Value), Fits (xs.drop (k * i.size)) ((List.replicate n (kindsOf P d e)).flatten) → Fits (ys.drop (k * i.size)) ((List.replicate n (kindsOf P d e)).flatten) → (k * i.size ≤ xs.length ∧ k * i.size ≤ ys.length) →
      (eqElems P D e i.size xs.toArray ys.toArray (List.range' k n)).run P w = .ok (cellsEq (xs.drop (k * i.size)) (ys.drop (k * i.size))) w
  | 0, k, xs, ys, hx, hy, _ => by
    have h1 : xs.drop (k * i.size) = [] := List.eq_nil_of_length_eq_zero hx.len
    have h2 : ys.drop (k * i.size) = [] := List.eq_nil_of_length_eq_zero hy.len
    rw [h1, h2]
    simp [eqElems, cellsEq]
  | n + 1, k, xs, ys, hx, hy, hle => by
    simp only [List.replicate_succ, List.flatten_cons] at hx hy
    obtain ⟨hx1, hx2⟩ := hx.split
    obtain ⟨hy1, hy2⟩ := hy.split
    rw [List.drop_drop] at hx2 hy2
    obtain ⟨i', u, hi', hu, hs⟩ := plainT_size he
    rw [hi] at hi'
    cases hi'
    have hlx := hx.len
    have hly := hy.len
    simp only [List.length_append, List.length_drop] at hlx hly
    have hone := fun h1 h2 => hs.trans (plainT_one he h1 h2)
    have px := run_part P w e i hi ⟨u, hu⟩ xs (k * i.size) (by omega) hone
    have py := run_part P w e i hi ⟨u, hu⟩ ys (k * i.size) (by omega) hone
    rw [← hs] at hx1 hy1 hx2 hy2
    have e1 := ih _ _ hx1 hy1
    have hk : (k + 1) * i.size = k * i.size + i.size := by rw [Nat.add_mul, Nat.one_mul]
    have hrec := run_eqElems d D e i hi he ih n (k + 1) xs ys (by rw [hk]; exact hx2) (by rw [hk]; exact hy2) (by rw [hk]; omega)
    rw [hk] at hrec
    rw [cellsEq_split i.size (xs.drop (k * i.size)) (ys.drop (k * i.size)) (by rw [hx.len, hy.len]), List.drop_drop, List.drop_drop]
    simp only [List.range'_succ, eqElems, Sem.run_bind, px, py, Result.andThen_ok, e1]
    cases hb : cellsEq ((xs.drop (k * i.size)).take i.size) ((ys.drop (k * i.size)).take i.size) <;> simp [hrec]

/-- '==' of two values of a plain type: as their cells are. -/
theorem run_equalIn_plain : ∀ (d D : Nat) (t : TypeId) (xs ys : List Value), d ≤ D → plainT P d t = true → Fits xs (kindsOf P d t) → Fits ys (kindsOf P d t) →
    (Op.equalIn D t (asVal P t xs) (asVal P t ys)).run P w = .ok (cellsEq xs ys) w
  | 0, _, _, _, _, _, h, _, _ => by simp [plainT] at h
  | d + 1, 0, _, _, _, h, _, _, _ => by omega
  | d + 1, D + 1, t, xs, ys, hD, h, hx, hy => by
    have ih := run_equalIn_plain d D
    obtain ⟨i, u, hi, hu, hs⟩ := plainT_size h
    unfold plainT at h
    rw [Bool.and_eq_true, hu] at h
    have h2 := h.2
    unfold kindsOf at hx hy
    rw [hu] at hx hy
    cases u with
    | int k =>
      match xs, ys, hx, hy with
      | [x], [y], hx, hy =>
        obtain ⟨⟨a, rfl⟩, _⟩ := hx
        obtain ⟨⟨b, rfl⟩, _⟩ := hy
        simp [asVal, hu, cellsEq, cellEq, Op.equalIn, run_underlying hu]
    | bool =>
      match xs, ys, hx, hy with
      | [x], [y], hx, hy =>
        obtain ⟨⟨a, rfl⟩, _⟩ := hx
        obtain ⟨⟨b, rfl⟩, _⟩ := hy
        simp [asVal, hu, cellsEq, cellEq, Op.equalIn, run_underlying hu]
    | struct fs =>
      simp only [Bool.and_eq_true, Bool.not_eq_true'] at h2
      have hf : P.fieldsOf t = fs := by simp [Program.fieldsOf, hu]
      have hr := run_eqFields (P := P) w d D (fun t xs ys h hx hy => ih t xs ys (by omega) h hx hy) fs.toList 0 xs ys h2.2 hx hy
      simp only [List.drop_zero] at hr
      simp only [asVal, hu]
      rw [run_equalIn_struct w D t _ _ (by rw [hf]; exact hu) h2.1, hf, hr]
    | array n e =>
      simp only at h2
      obtain ⟨j, u', hj, _, _⟩ := plainT_size h2
      have hr := run_eqElems (P := P) w d D e j hj h2 (fun xs ys hx hy => ih e xs ys (by omega) h2 hx hy) n 0 xs ys (by simpa using hx) (by simpa using hy) (by simp)
      simp only [Nat.zero_mul, List.drop_zero] at hr
      simp only [asVal, hu]
      rw [run_equalIn_array w D t e n j _ _ hu hj, List.range_eq_range', hr]
    | _ => simp at h2
theorem run_eql_plain (d : Nat) (t : TypeId) (xs ys : List Value) (hd : d ≤ 10000) (h : plainT P d t = true) (hx : Fits xs (kindsOf P d t)) (hy : Fits ys (kindsOf P d t)) (ha : ∃ fs, P.underlying t = some (.struct fs) ∨ ∃ n e, P.underlying t = some (.array n e)) :
    (binOp .eql t (.agg xs.toArray) (.agg ys.toArray)).run P w = .ok (.bool (cellsEq xs ys)) w ∧ (binOp .neq t (.agg xs.toArray) (.agg ys.toArray)).run P w = .ok (.bool (!cellsEq xs ys)) w := by
  have hr := run_equalIn_plain (P := P) w d Op.maxDepth t xs ys hd h hx hy
  have e1 : asVal P t xs = .agg xs.toArray ∧ asVal P t ys = .agg ys.toArray := by
    obtain ⟨fs, hu | ⟨n, e, hu⟩⟩ := ha <;> simp [asVal, hu]
  rw [e1.1, e1.2] at hr
  constructor
  · simp only [binOp]
    simp [Op.equal, hr]
  · simp only [binOp]
    simp [Op.equal, hr]
end
end Go.Proofs.Ytpnabfekidpnoaa

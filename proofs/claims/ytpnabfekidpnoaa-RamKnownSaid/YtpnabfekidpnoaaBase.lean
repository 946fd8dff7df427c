/-
  Plain lemmas on the model's memory that all walks of this seat use: frames (which blocks may have changed), a block that is known whole, a row of cells that an object owns, and append onto such a row.
-/
import Derived.WalkKit
import Derived.Lib.Hide
import Derived.Lib.Bytes
import Derived.Deep.QuietTactic
import Derived.BigQuiet
namespace Go.Proofs.Ytpnabfekidpnoaa
open Go Go.RowKit

/-- Of what was there only blocks of `S` may have changed; the streams are as they were. -/
structure Fr (S : Nat → Prop) (w w' : World) : Prop where
  os : w'.os = w.os
  tape : w'.tape = w.tape
  output : w'.output = w.output
  size : w.heap.size ≤ w'.heap.size
  block : ∀ k, k < w.heap.size → ¬ S k → w'.heap[k]? = w.heap[k]?

/-- No block. -/
def No : Nat → Prop := fun _ => False
/-- One block. -/
def One (b : Nat) : Nat → Prop := fun k => k = b
/-- One or the other. -/
def Or2 (S T : Nat → Prop) : Nat → Prop := fun k => S k ∨ T k

namespace Fr
variable {S T : Nat → Prop} {w w1 w2 : World}
theorem refl (S : Nat → Prop) (w : World) : Fr S w w := ⟨rfl, rfl, rfl, Nat.le_refl _, fun _ _ _ => rfl⟩
theorem mono (h : Fr S w w1) (hs : ∀ k, k < w.heap.size → S k → T k) : Fr T w w1 := ⟨h.os, h.tape, h.output, h.size, fun k hk hn => h.block k hk (fun a => hn (hs k hk a))⟩
theorem trans (h : Fr S w w1) (h' : Fr S w1 w2) : Fr S w w2 :=
  ⟨h'.os.trans h.os, h'.tape.trans h.tape, h'.output.trans h.output, Nat.le_trans h.size h'.size,
   fun k hk hn => (h'.block k (Nat.lt_of_lt_of_le hk h.size) hn).trans (h.block k hk hn)⟩
/-- The second step may also change what is new. -/
theorem andThen (h : Fr S w w1) (h' : Fr T w1 w2) (hT : ∀ k, k < w.heap.size → T k → S k) : Fr S w w2 :=
  ⟨h'.os.trans h.os, h'.tape.trans h.tape, h'.output.trans h.output, Nat.le_trans h.size h'.size,
   fun k hk hn => (h'.block k (Nat.lt_of_lt_of_le hk h.size) (fun a => hn (hT k hk a))).trans (h.block k hk hn)⟩
theorem drew (h : Fr S w w1) : Fr S w w1.drew := ⟨h.os, h.tape, h.output, h.size, h.block⟩
theorem drewN (h : Fr S w w1) (n : Nat) : Fr S w (w1.drewN n) := ⟨h.os, h.tape, h.output, h.size, h.block⟩
theorem alloc (h : Fr S w w1) (o : Obj) : Fr S w (w1.alloc o) :=
  ⟨h.os, h.tape, h.output, Nat.le_trans h.size (by simp), fun k hk hn => (Below.heap_alloc w1 o k (Nat.lt_of_lt_of_le hk h.size)).trans (h.block k hk hn)⟩
theorem setCell (h : Fr S w w1) {a : Addr} (ha : S a.block ∨ w.heap.size ≤ a.block) (v : Value) : Fr S w (w1.setCell a v) :=
  ⟨h.os, h.tape, h.output, by simpa using h.size, fun k hk hn => (Below.heap_setCell w1 a v k (fun e => by
    subst e
    rcases ha with h1 | h1
    · exact hn h1
    · omega)).trans (h.block k hk hn)⟩
theorem grown (h : Fr S w w1) {row : Option Nat} (hg : w1.grownBy w2 row) (hr : ∀ k, row = some k → S k ∨ w.heap.size ≤ k) : Fr S w w2 :=
  ⟨hg.os.trans h.os, hg.tape.trans h.tape, hg.output.trans h.output, Nat.le_trans h.size hg.size,
   fun k hk hn => (hg.block k (Nat.lt_of_lt_of_le hk h.size) (fun e => by
    rcases hr k e.symm with h1 | h1
    · exact hn h1
    · omega)).trans (h.block k hk hn)⟩
theorem of_below (h : Below w.heap.size w w1) (S : Nat → Prop) : Fr S w w1 := ⟨h.os, h.tape, h.output, h.size, fun k hk _ => h.block k hk⟩
theorem below (h : Fr S w w1) {B : Nat} (hB : B ≤ w.heap.size) (hS : ∀ k, k < B → ¬ S k) : Below B w w1 :=
  ⟨h.os, h.tape, h.output, h.size, fun k hk => h.block k (Nat.lt_of_lt_of_le hk hB) (hS k hk)⟩
theorem cell (h : Fr S w w1) {p : Addr} {v : Value} (hc : w.cell? p = some v) (hn : ¬ S p.block) : w1.cell? p = some v :=
  (World.cell?_of_block (h.block p.block (World.block_lt_of_cell? w p hc) hn)).trans hc
theorem put (w : World) (b i : Nat) (v : Value) : Fr (One b) w (w.setCell ⟨b, i, none⟩ v) := (Fr.refl (One b) w).setCell (a := ⟨b, i, none⟩) (.inl rfl) v
end Fr

/-- Block `g` is just the cells `cs` of type `t`; none is frozen. -/
def Blk (w : World) (g : Nat) (t : TypeId) (cs : Array Value) : Prop := w.heap[g]? = some (.cells cs t (0, 0))

namespace Blk
variable {w w' : World} {g : Nat} {t : TypeId} {cs : Array Value} {S : Nat → Prop}
theorem lt (h : Blk w g t cs) : g < w.heap.size := (Array.getElem?_eq_some_iff.1 h).1
theorem cell (h : Blk w g t cs) (i : Nat) : w.cell? ⟨g, i, none⟩ = cs[i]? := cell_of_row w g i cs t (0, 0) h
theorem free (h : Blk w g t cs) (i : Nat) : w.frozen? ⟨g, i, none⟩ = false := by
  unfold Blk at h
  simp [World.frozen?, h]
theorem new (w : World) (t : TypeId) (cs : Array Value) : Blk (w.alloc (.cells cs t)) w.heap.size t cs := heap_alloc_new w _
theorem drew (h : Blk w g t cs) : Blk w.drew g t cs := h
theorem drewN (h : Blk w g t cs) (n : Nat) : Blk (w.drewN n) g t cs := h
theorem alloc (h : Blk w g t cs) (o : Obj) : Blk (w.alloc o) g t cs := (Below.heap_alloc w o g h.lt).trans h
theorem put (h : Blk w g t cs) (i : Nat) (u : Value) : Blk (w.setCell ⟨g, i, none⟩ u) g t (cs.setIfInBounds i u) := by
  unfold Blk at h ⊢
  simp [World.setCell, Array.getElem?_modify, h]
theorem far (h : Blk w g t cs) {p : Addr} (hp : g ≠ p.block) (u : Value) : Blk (w.setCell p u) g t cs := (Below.heap_setCell w p u g hp).trans h
theorem fr (h : Blk w g t cs) (hf : Fr S w w') (hg : ¬ S g) : Blk w' g t cs := (hf.block g h.lt hg).trans h
end Blk

/-- The slice value `v`, of elements of type `e` that take `size` cells each, reads as the cells `xs`. It owns its array: block `G`. Its address is its array's head, or it is full. -/
def Own (w : World) (e : TypeId) (size : Nat) (v : Value) (n : Nat) (xs : List Value) (G : Nat → Prop) : Prop :=
  xs.length = n * size ∧
  ((v = .slice none 0 0 ∧ n = 0) ∨
   ∃ g o c cur, v = .slice (some ⟨g, o, none⟩) n c ∧ G g ∧ Blk w g e cur ∧ n ≤ c ∧ c ≤ maxLen ∧ o + c * size ≤ cur.size ∧ (o = 0 ∧ cur.size = c * size ∨ n = c) ∧ ∀ j, j < xs.length → cur[o + j]? = xs[j]?)

namespace Own
variable {w w' : World} {e : TypeId} {size : Nat} {v : Value} {n : Nat} {xs : List Value} {G S : Nat → Prop}
theorem nil_ (w : World) (e : TypeId) (size : Nat) (G : Nat → Prop) : Own w e size (.slice none 0 0) 0 [] G := ⟨by simp, .inl ⟨rfl, rfl⟩⟩
theorem mono {G' : Nat → Prop} (h : Own w e size v n xs G) (hG : ∀ k, G k → G' k) : Own w e size v n xs G' := by
  refine ⟨h.1, ?_⟩
  rcases h.2 with h1 | ⟨g, o, c, cur, h1, h2, h3⟩
  · exact .inl h1
  · exact .inr ⟨g, o, c, cur, h1, hG _ h2, h3⟩
theorem fr (h : Own w e size v n xs G) (hf : Fr S w w') (hd : ∀ k, G k → ¬ S k) : Own w' e size v n xs G := by
  refine ⟨h.1, ?_⟩
  rcases h.2 with h1 | ⟨g, o, c, cur, h1, h2, h3, h4⟩
  · exact .inl h1
  · exact .inr ⟨g, o, c, cur, h1, h2, h3.fr hf (hd _ h2), h4⟩
theorem slice (h : Own w e size v n xs G) : ∃ a c, v = .slice a n c ∧ n ≤ c ∧ c ≤ maxLen := by
  rcases h.2 with ⟨h1, h2⟩ | ⟨g, o, c, cur, h1, h2, h3, h4, h5, _⟩
  · exact ⟨none, 0, by rw [h1, h2], by omega, by unfold maxLen; omega⟩
  · exact ⟨_, c, h1, h4, h5⟩
/-- The element's cells, where there is one. -/
theorem at_ (h : Own w e size v n xs G) (hn : 0 < n) : ∃ g o c, v = .slice (some ⟨g, o, none⟩) n c ∧ n ≤ c ∧ c ≤ maxLen ∧ G g ∧ g < w.heap.size ∧ (∀ j u, xs[j]? = some u → w.cell? ⟨g, o + j, none⟩ = some u) ∧ ∀ j, w.frozen? ⟨g, j, none⟩ = false := by
  rcases h.2 with ⟨h1, h2⟩ | ⟨g, o, c, cur, h1, h2, h3, h4, h5, h6, h7, h8⟩
  · omega
  · refine ⟨g, o, c, h1, h4, h5, h2, h3.lt, fun j u hu => ?_, h3.free⟩
    rw [h3.cell, h8 j (by exact (List.getElem?_eq_some_iff.1 hu).1), hu]
/-- Without its first element. -/
theorem tail {g o c : Nat} {x : Value} (h : Own w e 1 (.slice (some ⟨g, o, none⟩) (n + 1) c) (n + 1) (x :: xs) G) :
    Own w e 1 (.slice (some ⟨g, o + 1, none⟩) n n) n xs G ∧ (n = 0 → Own w e 1 (.slice (some ⟨g, o, none⟩) 0 0) 0 xs G) := by
  obtain ⟨hl, h | ⟨g', o', c', cur, hv, h2, h3, h4, h5, h6, h7, h8⟩⟩ := h
  · cases h.1
  · cases hv
    simp only [List.length_cons, Nat.mul_one] at hl
    have hxl : xs.length = n := by omega
    refine ⟨⟨by omega, .inr ⟨g, o + 1, n, cur, rfl, h2, h3, Nat.le_refl _, by omega, by omega, .inr rfl, fun j hj => ?_⟩⟩, fun h0 => ⟨by omega, .inr ⟨g, o, 0, cur, rfl, h2, h3, Nat.le_refl _, by omega, by omega, .inr rfl, fun j hj => by omega⟩⟩⟩
    have := h8 (j + 1) (by simp only [List.length_cons]; omega)
    rw [List.getElem?_cons_succ] at this
    rw [← this]
    congr 1
    omega
end Own

theorem addr_add (g o j : Nat) : (⟨g, o, none⟩ : Addr).add j = ⟨g, o + j, none⟩ := by
  unfold Addr.add
  split <;> simp_all

section
variable {P : Program} (w : World)
/-- append onto an owned row: of `m` elements whose cells lie at `a`. -/
theorem run_append (t ty e : TypeId) (i : TypeInfo) (z : Value) (size bytes : Nat) (ht : P.underlying t = some (.slice e)) (hi : P.info? e = some i) (hz : i.zero = some z)
    (hsize : i.size = size) (hby : i.bytes = bytes) (hzs : z.cells.size = size)
    (v : Value) (n : Nat) (xs : List Value) (G : Nat → Prop) (hown : Own w e size v n xs G)
    (a : Addr) (m c : Nat) (news : List Value) (hm : 0 < m) (hl : news.length = m * size) (hnews : ∀ j u, news[j]? = some u → w.cell? (a.add j) = some u) (h1 : ∀ u ∈ news, u.oneCell' = true)
    (h63 : n + m ≤ maxLen) (hbytes : (n + m) * bytes ≤ 140737488355328) :
    ∃ v' w', (Builtin.append_ #[t, t] ty #[v, .slice (some a) m c]).run P w = .ok v' w' ∧ Own w' e size v' (n + m) (xs ++ news) (fun k => G k ∨ k = w.heap.size) ∧ Fr G w w' := by
  subst hsize
  subst hby
  have h63' : n + m ≤ 9223372036854775807 := by simp only [maxLen] at h63; omega
  have hlen : (xs ++ news).length = (n + m) * i.size := by rw [List.length_append, hown.1, hl, Nat.add_mul]
  have grown : ∀ old : Nat, Own (w.drew.alloc (.cells (xs.toArray ++ news.toArray ++ Builtin.zeroCells z.cells (grownCap w (n + m) old e - (n + m))) e)) e i.size
        (.slice (some ⟨w.heap.size, 0, none⟩) (n + m) (grownCap w (n + m) old e)) (n + m) (xs ++ news) (fun k => G k ∨ k = w.heap.size) := by
    intro old
    have hge := grownCap_ge w (n + m) old e
    have hcm : grownCap w (n + m) old e ≤ maxLen := grownCap_le_maxLen w (n + m) old e h63
    have hsz : (xs.toArray ++ news.toArray ++ Builtin.zeroCells z.cells (grownCap w (n + m) old e - (n + m))).size = grownCap w (n + m) old e * i.size := by
      simp only [Array.size_append, List.size_toArray, size_zeroCells, hzs, hown.1, hl, ← Nat.add_mul]
      congr 1
      omega
    refine ⟨hlen, .inr ⟨w.heap.size, 0, _, _, rfl, .inr rfl, Blk.new w.drew e _, hge, hcm, by rw [hsz]; omega, .inl ⟨rfl, hsz⟩, fun j hj => ?_⟩⟩
    have hj' : j < (xs.toArray ++ news.toArray).size := by simpa using hj
    rw [Nat.zero_add, Array.getElem?_append_left hj']
    simp
  rcases hown.2 with ⟨rfl, rfl⟩ | ⟨g, o, c0, cur, rfl, hG, hb, hnc, hcm, hcs, hoc, hat⟩
  · have hx : xs = [] := List.eq_nil_of_length_eq_zero (by simpa using hown.1)
    subst hx
    have hr := run_append_nil (P := P) w t ty e i z ht hi hz a m c news hl hnews (by omega) (by omega) (by have hb := hbytes; simp only [Nat.zero_add] at hb; omega)
    have hgr := grown 0
    simp only [Nat.zero_add, List.nil_append, Array.empty_append] at hgr ⊢
    exact ⟨_, _, hr, hgr, ((Fr.refl G w).drew).alloc _⟩
  · have holds : ∀ j u, xs[j]? = some u → w.cell? ((⟨g, o, none⟩ : Addr).add j) = some u := fun j u hu => by
      rw [addr_add, hb.cell, hat j (List.getElem?_eq_some_iff.1 hu).1, hu]
    by_cases hroom : n + m ≤ c0
    · rcases hoc with ⟨rfl, hcur⟩ | hoc
      · have hfit : n * i.size + news.length ≤ cur.size := by
          rw [hl, ← Nat.add_mul]
          exact Nat.le_trans (Nat.mul_le_mul_right _ hroom) (by omega)
        have hr := run_append_room (P := P) w t ty e i ht hi g n c0 cur hb a m c news hl hnews h1 hroom hfit
        have hxl := hown.1
        have hsz : (cur.toList.take (n * i.size) ++ news ++ cur.toList.drop (n * i.size + news.length)).length = cur.size := by
          simp only [List.length_append, List.length_take, List.length_drop, Array.length_toList]
          omega
        refine ⟨_, _, hr, ⟨hlen, .inr ⟨g, 0, c0, _, rfl, .inl hG, setRow_heap w g cur _ e _ hb, hroom, hcm, by rw [List.size_toArray, hsz]; exact hcs, .inl ⟨rfl, by rw [List.size_toArray, hsz]; exact hcur⟩, fun j hj => ?_⟩⟩,
          ⟨rfl, rfl, rfl, by simp, fun k _ hk => setRow_other w g k _ (fun e => hk (by rw [e]; exact hG))⟩⟩
        rw [Nat.zero_add]
        have hx : cur.toList.take (n * i.size) = xs := by
          apply List.ext_getElem?
          intro j
          rw [List.getElem?_take]
          by_cases hj : j < n * i.size
          · rw [if_pos hj]
            have := hat j (by omega)
            simpa using this
          · rw [if_neg hj, List.getElem?_eq_none (by omega)]
        rw [hx, List.getElem?_toArray, List.getElem?_append_left hj]
      · omega
    · have hr := run_append_grow (P := P) w t ty e i z ht hi hz ⟨g, o, none⟩ n c0 xs hown.1 holds a m c news hl hnews (by omega) (by omega) (growslice_fits (by omega) hbytes)
      exact ⟨_, _, hr, grown c0, ((Fr.refl G w).drew).alloc _⟩
end

/-- The slice value `v` reads as `n` elements, whose cells are `xs`. -/
def Rd (w : World) (v : Value) (n : Nat) (xs : List Value) : Prop :=
  ∃ a c, v = .slice a n c ∧ n ≤ c ∧ c ≤ maxLen ∧ (a = none → n = 0 ∧ c = 0 ∧ xs = []) ∧ ∀ ad, a = some ad → ∀ j u, xs[j]? = some u → w.cell? (ad.add j) = some u

theorem Own.rd {w : World} {e : TypeId} {size : Nat} {v : Value} {n : Nat} {xs : List Value} {G : Nat → Prop} (h : Own w e size v n xs G) : Rd w v n xs := by
  rcases h.2 with ⟨h1, h2⟩ | ⟨g, o, c, cur, h1, h2, h3, h4, h5, h6, h7, h8⟩
  · have hx : xs = [] := List.eq_nil_of_length_eq_zero (by rw [h.1, h2]; simp)
    exact ⟨none, 0, by rw [h1, h2], by omega, by unfold maxLen; omega, fun _ => ⟨h2, rfl, hx⟩, fun ad h => by cases h⟩
  · refine ⟨_, c, h1, h4, h5, fun h => (by cases h), fun ad had j u hu => ?_⟩
    cases had
    rw [addr_add, h3.cell, h8 j (List.getElem?_eq_some_iff.1 hu).1, hu]
theorem Rd.fr {S : Nat → Prop} {w w' : World} {v : Value} {n : Nat} {xs : List Value} (h : Rd w v n xs) (hf : Fr S w w') (hs : ∀ a c, v = .slice (some a) n c → ¬ S a.block) : Rd w' v n xs := by
  obtain ⟨a, c, h1, h2, h3, h4, h5⟩ := h
  refine ⟨a, c, h1, h2, h3, h4, fun ad had j u hu => hf.cell (h5 ad had j u hu) ?_⟩
  have : (ad.add j).block = ad.block := by unfold Addr.add; split <;> rfl
  rw [this]
  exact hs ad c (by rw [h1, had])

abbrev u8v (n : Nat) : Value := .int .u8 (n : Int)
def bytesV (l : List Nat) : List Value := l.map u8v
theorem bytesV_len (l : List Nat) : (bytesV l).length = l.length := by simp [bytesV]
theorem bytesV_at (l : List Nat) (j : Nat) : (bytesV l)[j]? = l[j]?.map u8v := by simp [bytesV]
theorem bytesV_app (l m : List Nat) : bytesV (l ++ m) = bytesV l ++ bytesV m := by simp [bytesV]
/-- The text of some bytes. -/
def txt (l : List Nat) : ByteArray := strOfNums (l.map Int.ofNat)
theorem txt_list (l : List Nat) : (txt l).toList = l.map UInt8.ofNat := by rw [Lib.toList_data]; simp [txt, strOfNums]
theorem txt_eq (l m : List Nat) (hl : ∀ x ∈ l, x < 256) (hm : ∀ x ∈ m, x < 256) : ((txt l).toList == (txt m).toList) = decide (l = m) := by
  have e : ∀ l : List Nat, (txt l).toList = l.map UInt8.ofNat := fun l => by
    rw [Lib.toList_data]; simp [txt, strOfNums]
  rw [e, e, Bool.eq_iff_iff, beq_iff_eq, decide_eq_true_eq]
  refine ⟨fun h => ?_, fun h => by rw [h]⟩
  have h2 := congrArg (List.map UInt8.toNat) h
  have e2 : ∀ l : List Nat, (∀ x ∈ l, x < 256) → (l.map UInt8.ofNat).map UInt8.toNat = l := fun l hl => by
    rw [List.map_map]
    conv => rhs; rw [← List.map_id l]
    exact List.map_congr_left fun x hx => by
      have := hl x hx
      show (UInt8.ofNat x).toNat = x
      rw [UInt8.toNat_ofNat']; omega
  rwa [e2 l hl, e2 m hm] at h2

section
variable {P : Program} {w : World}
theorem Rd.text {v : Value} {n : Nat} {l : List Nat} (h : Rd w v n (bytesV l)) (hn : l.length = n) (src e dst : TypeId) (hs : P.underlying src = some (.slice e)) (he : P.underlying e = some (.int .u8)) (hd : P.underlying dst = some .string) :
    (convert src dst v).run P w = .ok (.string (txt l)) w := by
  obtain ⟨a, c, rfl, h2, h3, h4, h5⟩ := h
  cases a with
  | none =>
    obtain ⟨rfl, rfl, hx⟩ := h4 rfl
    have hl : l = [] := List.eq_nil_of_length_eq_zero hn
    subst hl
    rw [run_convert_bytes_nil w src e hs he 0 0 dst hd]
    simp [txt, strOfNums, ByteArray.empty, ByteArray.emptyWithCapacity]
    rfl
  | some ad =>
    rw [run_convert_bytes_string w src dst e _ n c hs he hd]
    have hl : (loadCells ad n).run P w = .ok ((l.map Int.ofNat).map (Value.int .u8)).toArray w := by
      have := run_loadCells_list (P := P) w ad (bytesV l) (fun j v hj => h5 ad rfl j v hj)
      rw [bytesV_len, hn] at this
      rw [this, List.map_map]
      rfl
    rw [run_bytesToString w _ n c _ hl, foldl_push_bytes]
    simp [txt, strOfNums, ByteArray.empty, ByteArray.emptyWithCapacity]
    rfl
end

/-- What was there and is `F`'s, and what is new. -/
def Plus (F : Nat → Prop) (w w' : World) : Nat → Prop := fun k => F k ∨ (w.heap.size ≤ k ∧ k < w'.heap.size)
theorem Own.cut {w : World} {e : TypeId} {size : Nat} {v : Value} {n : Nat} {xs : List Value} {G : Nat → Prop} (h : Own w e size v n xs G) : Own w e size v n xs (fun k => G k ∧ k < w.heap.size) := by
  refine ⟨h.1, ?_⟩
  rcases h.2 with h1 | ⟨g, o, c, cur, h1, h2, h3, h4⟩
  · exact .inl h1
  · exact .inr ⟨g, o, c, cur, h1, ⟨h2, h3.lt⟩, h3, h4⟩
/-- A row that lies in a new block. -/
theorem Rd.new (w : World) (e : TypeId) (cs : List Value) (m : Nat) (hm : m ≤ maxLen) : Rd (w.alloc (.cells cs.toArray e)) (.slice (some ⟨w.heap.size, 0, none⟩) m m) m cs := by
  refine ⟨_, m, rfl, Nat.le_refl _, hm, fun h => (by cases h), fun ad had j u hu => ?_⟩
  cases had
  rw [addr_add, Nat.zero_add, World.cell?_alloc_new]
  simpa using hu

section
variable {P : Program} (w : World)
theorem run_append_zero (t ty e : TypeId) (i : TypeInfo) (size : Nat) (ht : P.underlying t = some (.slice e)) (hi : P.info? e = some i)
    (v : Value) (n : Nat) (xs : List Value) (G : Nat → Prop) (hown : Own w e size v n xs G) (ao : Option Addr) (c : Nat) :
    (Builtin.append_ #[t, t] ty #[v, .slice ao 0 c]).run P w = .ok v w := by
  rcases hown.2 with ⟨rfl, rfl⟩ | ⟨g, o, c0, cur, rfl, hG, hb, hnc, _⟩
  · cases ao <;> simp [Builtin.append_, run_underlying ht, sizeOf, typeInfo, hi, Builtin.lenOf, Builtin.firstCells, loadCells, loadCellsFrom]
  · cases ao <;> simp [Builtin.append_, run_underlying ht, sizeOf, typeInfo, hi, Builtin.lenOf, Builtin.firstCells, loadCells, loadCellsFrom, hnc, storeCells]
/-- append onto an owned row, of a row that can be read (a nil one, too). -/
theorem run_append_rd (t ty e : TypeId) (i : TypeInfo) (z : Value) (size bytes : Nat) (ht : P.underlying t = some (.slice e)) (hi : P.info? e = some i) (hz : i.zero = some z)
    (hsize : i.size = size) (hby : i.bytes = bytes) (hzs : z.cells.size = size)
    (v : Value) (n : Nat) (xs : List Value) (G : Nat → Prop) (hown : Own w e size v n xs G)
    (vx : Value) (m : Nat) (news : List Value) (hr : Rd w vx m news) (hl : news.length = m * size) (h1 : ∀ u ∈ news, u.oneCell' = true)
    (h63 : n + m ≤ maxLen) (hbytes : (n + m) * bytes ≤ 140737488355328) :
    ∃ v' w', (Builtin.append_ #[t, t] ty #[v, vx]).run P w = .ok v' w' ∧ Own w' e size v' (n + m) (xs ++ news) (fun k => G k ∨ k = w.heap.size) ∧ Fr G w w' := by
  obtain ⟨ao, c, rfl, hmc, hcm, hnone, hcell⟩ := hr
  by_cases hm : m = 0
  · subst hm
    have hn : news = [] := List.eq_nil_of_length_eq_zero (by simpa using hl)
    subst hn
    exact ⟨v, w, run_append_zero w t ty e i size ht hi v n xs G hown ao c, by simpa using hown.mono (fun k hk => .inl hk), Fr.refl _ _⟩
  · cases ao with
    | none => exact absurd (hnone rfl).1 hm
    | some ad => exact run_append w t ty e i z size bytes ht hi hz hsize hby hzs v n xs G hown ad m c news (by omega) hl (hcell ad rfl) h1 h63 hbytes
theorem wpList_append {ops : Array Oper} {rest : List Oper} {o : Oper} {a : Act} {Q : Exit → Act → World → Prop} (hgd : o.guard = none) (s x : Operand) (t : TypeId)
    (ho : o.op = .call { callee := .builtin .append, args := #[s, x], argTypes := #[t, t] })
    (e : TypeId) (i : TypeInfo) (z : Value) (size bytes : Nat) (ht : P.underlying t = some (.slice e)) (hi : P.info? e = some i) (hz : i.zero = some z)
    (hsize : i.size = size) (hby : i.bytes = bytes) (hzs : z.cells.size = size)
    (v : Value) (n : Nat) (xs : List Value) (G : Nat → Prop) (hs : a.eval s = v) (hown : Own w e size v n xs G)
    (vx : Value) (m : Nat) (news : List Value) (hx : a.eval x = vx) (hr : Rd w vx m news) (hl : news.length = m * size) (h1 : ∀ u ∈ news, u.oneCell' = true)
    (h63 : n + m ≤ maxLen) (hbytes : (n + m) * bytes ≤ 140737488355328)
    (h : ∀ v' w', Own w' e size v' (n + m) (xs ++ news) (fun k => G k ∨ k = w.heap.size) → Fr G w w' → wpList P ops Q rest (a.put o.dst v') w') : wpList P ops Q (o :: rest) a w :=
  wpList_plain hgd fun K hK => by
    obtain ⟨v', w', hrun, h2, h3⟩ := run_append_rd (P := P) w t o.type e i z size bytes ht hi hz hsize hby hzs v n xs G hown vx m news hr hl h1 h63 hbytes
    unfold Oper.wp execOp
    simp only [ho, resolve, invoke, builtin, Sem.run_bind, Sem.run_pure, Result.andThen_ok, List.map_toArray, List.map_cons, List.map_nil, hs, hx, hrun]
    exact hK _ _ (h v' w' h2 h3)
end
theorem Rd.drewN {w : World} {v : Value} {n : Nat} {xs : List Value} (h : Rd w v n xs) (k : Nat) : Rd (w.drewN k) v n xs := h
/-- A callee's contract inside a region that draws its order: the callee leaves the world alone. -/
theorem quiet_eq {P : Program} {f : FuncId} {args : Array Value} {w : World} {n : Nat} {v : Value}
    (h : Calls P f args (w.drewN n) fun e w' => e = .returned v ∧ w.drewN n = w') : Calls P f args (w.drewN n) fun e w'' => e = .returned v ∧ ∃ m, w'' = w.drewN m :=
  h.mono fun _ _ ⟨he, hm⟩ => ⟨he, n, hm.symm⟩
theorem Rd.empty (w : World) (a : Option Addr) : Rd w (.slice a 0 0) 0 [] :=
  ⟨a, 0, rfl, Nat.le_refl _, by unfold maxLen; omega, fun _ => ⟨rfl, rfl, rfl⟩, fun ad _ j u hu => by simp at hu⟩
end Go.Proofs.Ytpnabfekidpnoaa

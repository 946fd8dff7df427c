/-
  Bytes read and written one by one; texts of bytes; the memory of RamApart.
-/
import Derived.Test.YtpnabfekidpnoaaRamT3
namespace Go.Proofs.Ytpnabfekidpnoaa
open Go Go.RowKit

theorem ok1 {A : Nat} (h : 8192 ≤ A ∧ A < 16384) : okR 8192 8192 A (1 : Int) = true := okR_of (N := 1) (.inl rfl) h.1 (by omega)
theorem read1_c (w : World) (b : Nat) (m : Nat → Nat) (n : Nat) (F : Nat → Prop) (A : Nat) (h : RAt w b 8192 8192 m n F) (hA : 8192 ≤ A ∧ A < 16384) :
    Calls Try.prog 13 #[.pointer (some ⟨b, 0, none⟩), .int .u64 (A : Int), .int .i64 1] w fun r w' => r = .returned (.tuple #[.int .u64 ((m A : Nat) : Int), .bool true]) ∧ Fr No w w' := by
  have hq := read_c w b 8192 8192 m n F A (1 : Int) h (by omega) (by omega) (by omega)
  rw [ok1 hA, show readR 8192 8192 m A (1 : Int) = m A by unfold readR; rw [if_pos (ok1 hA)]; simp [numR]] at hq
  refine hq.mono ?_
  rintro r w' ⟨rfl, k, rfl⟩
  exact ⟨rfl, (Fr.refl No w).drewN k⟩
theorem write1_c (w : World) (b : Nat) (m : Nat → Nat) (n : Nat) (F : Nat → Prop) (A v : Nat) (h : RAt w b 8192 8192 m n F) (hA : 8192 ≤ A ∧ A < 16384) (hv : v < 256) (hn : n < 900000000) :
    Calls Try.prog 11 #[.pointer (some ⟨b, 0, none⟩), .int .u64 (A : Int), .int .i64 1, .int .u64 (v : Int)] w fun r w' => r = .returned (.bool true) ∧ RAt w' b 8192 8192 (upd m A v) (n + 8) (Plus F w w') ∧ Fr F w w' := by
  have hq := write_c w b 8192 8192 m n F A v (1 : Int) h (by omega) (by omega) (by omega) (by omega) hn
  rw [ok1 hA, show writeR 8192 8192 m A (1 : Int) v = upd m A v by
    unfold writeR
    rw [if_pos (ok1 hA)]
    show upd m (A + 0) (v / 2 ^ (8 * 0) % 256) = upd m A v
    rw [Nat.add_zero, Nat.mul_zero, Nat.pow_zero, Nat.div_one, Nat.mod_eq_of_lt hv]] at hq
  exact hq
theorem upd_same_iff (m : Nat → Nat) (A v : Nat) : m = upd m A v ↔ m A = v := by
  constructor
  · intro h
    have := congrFun h A
    rw [this]
    simp [upd]
  · intro h
    funext x
    unfold upd
    split
    · rename_i e; rw [e, h]
    · rfl
theorem upd_back (m : Nat → Nat) (A v : Nat) : upd (upd m A v) A (m A) = m := by
  funext x
  unfold upd
  split
  · rename_i e; rw [e]
  · rfl
theorem bV_bytesV (l : List Nat) : bV l = bytesV l := rfl
theorem text_at (w : World) (g : Nat) (l : List Nat) (n : Nat) (h : Blk w g 5 (bV l).toArray) (hl : l.length = n) (hn : n ≤ 67108864) : (convert 31 9 (.slice (some ⟨g, 0, none⟩) n n)).run Try.prog w = .ok (.string (txt l)) w := by
  have hr : Rd w (.slice (some ⟨g, 0, none⟩) n n) n (bytesV l) := ⟨_, n, rfl, Nat.le_refl _, by unfold maxLen; omega, fun h => (by cases h), fun ad had j u hu => by
    cases had
    rw [addr_add, Nat.zero_add, h.cell, List.getElem?_toArray, bV_bytesV]
    exact hu⟩
  exact hr.text hl _ 5 _ Try.underlying31 Try.underlying5 Try.underlying9
theorem make_zero (n : Nat) (hn : n ≤ 67108864) (w : World) : (Instr.makeSlice 31 (.int .i64 (n : Int)) (.int .i64 (n : Int))).run Try.prog w = .ok (.slice (some ⟨w.heap.size, 0, none⟩) n n) (w.alloc (.cells (bV (List.replicate n 0)).toArray 5)) := by
  obtain ⟨i0, hi0, hiz, his, hib⟩ := info_u8
  rw [← made_zero]
  exact run_make_row (P := Try.prog) 31 5 i0 _ Try.underlying31 hi0 hiz his rfl .i64 .i64 n (by rw [hib]; omega) (by omega) w
theorem bytes_nz {m : Nat → Nat} {p : Nat} (h : NZ m p) : bytesR m (p * 4096) 4096 ≠ List.replicate 4096 0 := by
  intro e
  obtain ⟨i, hi, hn⟩ := h
  have h1 : (bytesR m (p * 4096) 4096)[i]? = some (m (p * 4096 + i)) := by
    unfold bytesR
    rw [List.getElem?_map, List.getElem?_range hi]
    rfl
  rw [e, List.getElem?_replicate, if_pos hi] at h1
  exact hn (Option.some.inj h1).symm
theorem bytes_z {m : Nat → Nat} (h : ∀ x, m x = 0) (a n : Nat) : bytesR m a n = List.replicate n 0 := by
  apply List.ext_getElem?
  intro i
  unfold bytesR
  rw [List.getElem?_map, List.getElem?_replicate]
  by_cases hi : i < n
  · rw [List.getElem?_range hi, if_pos hi]; simp [h]
  · rw [List.getElem?_eq_none (by simp; omega), if_neg hi]; rfl
theorem txt_ne {l l' : List Nat} (hl : ∀ x ∈ l, x < 256) (hl' : ∀ x ∈ l', x < 256) (h : l ≠ l') : ((txt l).toList == (txt l').toList) = false := by
  rw [txt_eq l l' hl hl', decide_eq_false h]
theorem bytesR_lt {m : Nat → Nat} (hm : ∀ x, m x < 256) (a n : Nat) : ∀ x ∈ bytesR m a n, x < 256 := by
  intro x hx
  unfold bytesR at hx
  obtain ⟨i, _, rfl⟩ := List.mem_map.1 hx
  exact hm _
theorem rep_lt (n : Nat) : ∀ x ∈ List.replicate n 0, x < 256 := by
  intro x hx
  rw [List.eq_of_mem_replicate hx]
  omega
/-- Acts carried out, one behind the other. -/
def memAp (l : List AC) : Nat → Nat := l.foldl (fun m x => writeR 8192 8192 m (8192 + x.a % 8192) x.n x.v) zeroM
theorem memAp_snoc (l : List AC) (i : Nat) (hi : i < l.length) : memAp (l.take (i + 1)) = writeR 8192 8192 (memAp (l.take i)) (8192 + l[i].a % 8192) l[i].n l[i].v := by
  unfold memAp
  rw [← List.take_append_getElem hi, List.foldl_append]
  rfl
theorem memAp_supp (l : List AC) : Supp (memAp l) 8192 8192 := by
  unfold memAp
  have : ∀ (l : List AC) (m : Nat → Nat), Supp m 8192 8192 → Supp (l.foldl (fun m x => writeR 8192 8192 m (8192 + x.a % 8192) x.n x.v) m) 8192 8192 := by
    intro l
    induction l with
    | nil => exact fun m h => h
    | cons x l ih => exact fun m h => ih _ (h.write _ _ _)
  exact this l zeroM (Supp.zero _ _)
theorem Supp.sup64 {m : Nat → Nat} (h : Supp m 8192 8192) : ∀ x, m x ≠ 0 → x < 18446744073709551616 := fun x hx => by have := h x hx; omega
theorem Supp.pages {m : Nat → Nat} (h : Supp m 8192 8192) : ∀ p, NZ m p → 2 ≤ p ∧ p < 2 + 2 := fun p hp => Supp.nz (k0 := 2) (kn := 2) h p hp
/-- Two memories of 8192 bytes at 8192, held against each other. -/
theorem same8_c (w : World) (b b' : Nat) (m m' : Nat → Nat) (n n' : Nat) (F F' : Nat → Prop) (h : RAt w b 8192 8192 m n F) (h' : RAt w b' 8192 8192 m' n' F') (hs : Supp m 8192 8192) (hs' : Supp m' 8192 8192) (q : Bool) (hq : q = true ↔ m = m') :
    Calls Try.prog 26 #[.pointer (some ⟨b, 0, none⟩), .pointer (some ⟨b', 0, none⟩)] w fun z w' => z = .returned (.bool q) ∧ Fr No w w' := by
  refine (ramsame_c w b 8192 8192 m n F b' 8192 8192 m' n' F' h h' hs.sup64 hs'.sup64 2 2 hs.pages (by omega) 2 2 hs'.pages (by omega)).mono ?_
  rintro z w' ⟨⟨q', rfl, hq'⟩, hf⟩
  have : q' = q := by
    rw [Bool.eq_iff_iff, hq', hq]
    simp
  rw [this]
  exact ⟨rfl, hf⟩
end Go.Proofs.Ytpnabfekidpnoaa

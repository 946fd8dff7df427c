/-
  Plain laws of a memory's reads and writes.
-/
import Derived.Test.YtpnabfekidpnoaaRamG
namespace Go.Proofs.Ytpnabfekidpnoaa
open Go Go.RowKit

theorem wrR_at (m : Nat → Nat) (a v x : Nat) : ∀ n, wrR m a v n x = if a ≤ x ∧ x < a + n then v / 2 ^ (8 * (x - a)) % 256 else m x
  | 0 => by rw [if_neg (by omega)]; rfl
  | n + 1 => by
    unfold wrR
    unfold upd
    by_cases e : x = a + n
    · rw [if_pos e, if_pos (by omega), show x - a = n by omega]
    · rw [if_neg e, wrR_at m a v x n]
      by_cases h : a ≤ x ∧ x < a + n
      · rw [if_pos h, if_pos (by omega)]
      · rw [if_neg h, if_neg (by omega)]
theorem numR_congr {m m' : Nat → Nat} (a : Nat) : ∀ n, (∀ x, a ≤ x → x < a + n → m x = m' x) → numR m a n = numR m' a n
  | 0, _ => rfl
  | n + 1, h => by
    unfold numR
    rw [numR_congr a n (fun x h1 h2 => h x h1 (by omega)), h (a + n) (by omega) (by omega)]
theorem numR_dig (v a : Nat) (m : Nat → Nat) : ∀ n, (∀ x, a ≤ x → x < a + n → m x = v / 2 ^ (8 * (x - a)) % 256) → numR m a n = v % 2 ^ (8 * n)
  | 0, _ => by simp [numR, Nat.mod_one]
  | n + 1, h => by
    unfold numR
    rw [numR_dig v a m n (fun x h1 h2 => h x h1 (by omega)), h (a + n) (by omega) (by omega), show a + n - a = n by omega, show 8 * (n + 1) = 8 * n + 8 by omega, Nat.pow_add, Nat.mod_mul, Nat.mul_comm (v / _ % _)]
theorem numR_wr (m : Nat → Nat) (a v n : Nat) : numR (wrR m a v n) a n = v % 2 ^ (8 * n) :=
  numR_dig v a _ n fun x h1 h2 => by rw [wrR_at, if_pos ⟨h1, h2⟩]
theorem numR_split (m : Nat → Nat) (a h : Nat) : ∀ k, numR m a (h + k) = numR m a h + numR m (a + h) k * 2 ^ (8 * h)
  | 0 => by simp [numR]
  | k + 1 => by
    show numR m a (h + k) + m (a + (h + k)) * 2 ^ (8 * (h + k)) = numR m a h + (numR m (a + h) k + m (a + h + k) * 2 ^ (8 * k)) * 2 ^ (8 * h)
    rw [numR_split m a h k, Nat.add_mul, show 8 * (h + k) = 8 * k + 8 * h by omega, Nat.pow_add, ← Nat.mul_assoc, Nat.add_assoc, Nat.add_assoc a h k]
/-- Acts carried out, one behind the other. -/
def memOf (base : Nat) (l : List AC) : Nat → Nat := l.foldl (fun m x => writeR base 12288 m (base + x.a % 12288) x.n x.v) zeroM
theorem memOf_snoc (base : Nat) (l : List AC) (i : Nat) (hi : i < l.length) : memOf base (l.take (i + 1)) = writeR base 12288 (memOf base (l.take i)) (base + l[i].a % 12288) l[i].n l[i].v := by
  unfold memOf
  rw [← List.take_append_getElem hi, List.foldl_append]
  rfl
theorem memOf_supp (base : Nat) (l : List AC) : Supp (memOf base l) base 12288 := by
  unfold memOf
  have : ∀ (l : List AC) (m : Nat → Nat), Supp m base 12288 → Supp (l.foldl (fun m x => writeR base 12288 m (base + x.a % 12288) x.n x.v) m) base 12288 := by
    intro l
    induction l with
    | nil => exact fun m h => h
    | cons x l ih => exact fun m h => ih _ (h.write _ _ _)
  exact this l zeroM (Supp.zero _ _)
theorem and3 (n : Int) : bits .and .i64 n 3 = n % 4 := by
  have h2 : (BitVec.ofInt 64 (3 : Int)).toNat = 3 := by
    rw [show (3 : Int) = ((3 : Nat) : Int) from rfl, BitVec.ofInt_natCast, BitVec.toNat_ofNat]
  show IntKind.i64.wrap ((BitVec.ofInt 64 n &&& BitVec.ofInt 64 (3 : Int)).toNat : Int) = _
  have h3 : ∀ z : Nat, z &&& 3 = z % 4 := fun z => Nat.and_two_pow_sub_one_eq_mod z 2
  have h1 : ((BitVec.ofInt 64 n).toNat : Int) = n % 18446744073709551616 := by
    rw [BitVec.toNat_ofInt]
    show (((n % ((2 ^ 64 : Nat) : Int)).toNat : Nat) : Int) = _
    rw [Int.toNat_of_nonneg (by omega)]
    rfl
  rw [BitVec.toNat_and, h2, h3, IntKind.wrap_i64]
  omega
/-- The width that an act's number names. -/
def wid (n : Int) : Nat := 2 ^ (n % 4).toNat
theorem wid_cases (n : Int) : wid n = 1 ∨ wid n = 2 ∨ wid n = 4 ∨ wid n = 8 := by
  unfold wid
  obtain ⟨k, hk⟩ : ∃ k, k = (n % 4).toNat := ⟨_, rfl⟩
  rw [← hk]
  have : k < 4 := by omega
  match k, this with
  | 0, _ => exact .inl rfl
  | 1, _ => exact .inr (.inl rfl)
  | 2, _ => exact .inr (.inr (.inl rfl))
  | 3, _ => exact .inr (.inr (.inr rfl))
theorem shl_wid (n : Int) : IntKind.i64.wrap (1 * 2 ^ min (n % 4).toNat 64) = (wid n : Int) := by
  rw [Nat.min_eq_left (by omega)]
  have h := wid_cases n
  have e : (1 : Int) * 2 ^ (n % 4).toNat = ((wid n : Nat) : Int) := by unfold wid; simp
  rw [e, IntKind.wrap_i64]
  omega
/-- The shift up and down leaves the low n bytes. -/
theorem cut_low (v n : Nat) (hn : n = 1 ∨ n = 2 ∨ n = 4 ∨ n = 8) : (IntKind.u64.wrap ((v : Int) * 2 ^ (64 - 8 * n))) / 2 ^ (64 - 8 * n) = ((v % 2 ^ (8 * n) : Nat) : Int) := by
  rw [IntKind.wrap_u64]
  rcases hn with rfl | rfl | rfl | rfl
  · show (v : Int) * 72057594037927936 % _ / 72057594037927936 = ((v % 256 : Nat) : Int); omega
  · show (v : Int) * 281474976710656 % _ / 281474976710656 = ((v % 65536 : Nat) : Int); omega
  · show (v : Int) * 4294967296 % _ / 4294967296 = ((v % 4294967296 : Nat) : Int); omega
  · show (v : Int) * 1 % _ / 1 = ((v % 18446744073709551616 : Nat) : Int); omega
theorem okR_of {base size A N : Nat} (hn : N = 1 ∨ N = 2 ∨ N = 4 ∨ N = 8) (h1 : base ≤ A) (h2 : A + N ≤ base + size) : okR base size A (N : Int) = true := by
  have hw : widthR (N : Int) = true := by rcases hn with rfl | rfl | rfl | rfl <;> rfl
  unfold okR
  rw [hw]
  unfold hasR
  simp
  omega
theorem hasR_all (base size : Nat) : hasR base size base (size : Int) = true := by
  unfold hasR
  simp
/-- The numbers of RamBack. -/
structure BackN (nn : Int) (a base : Nat) (N κ L0 L1 A : Nat) : Prop where
  c : N = 1 ∨ N = 2 ∨ N = 4 ∨ N = 8
  f1 : bits .and .i64 nn 3 = (κ : Int)
  f2 : IntKind.u64.wrap (κ : Int) = (κ : Int)
  f3 : wrap64 (2 ^ min κ 64) = (N : Int)
  f4 : wrap64 (12288 - (N : Int)) = (L0 : Int)
  f5 : wrap64 ((L0 : Int) + 1) = (L1 : Int)
  f6 : IntKind.u64.wrap (L1 : Int) = (L1 : Int)
  f7 : IntKind.u64.wrap ((base : Int) + (a : Int) % (L1 : Int)) = (A : Int)
  f8 : ¬ L1 = 0
  lo : base ≤ A
  hi : A + N ≤ base + 12288
theorem backN_ (N a base : Nat) (hb : base ≤ 4503599627370496) (h : N = 1 ∨ N = 2 ∨ N = 4 ∨ N = 8) : ∃ L0 L1 A : Nat, wrap64 (12288 - (N : Int)) = (L0 : Int) ∧ wrap64 ((L0 : Int) + 1) = (L1 : Int) ∧ IntKind.u64.wrap (L1 : Int) = (L1 : Int) ∧
    IntKind.u64.wrap ((base : Int) + (a : Int) % (L1 : Int)) = (A : Int) ∧ ¬ L1 = 0 ∧ base ≤ A ∧ A + N ≤ base + 12288 := by
  obtain ⟨L0, hL0⟩ : ∃ L0, L0 + N = 12288 := ⟨12288 - N, by omega⟩
  obtain ⟨r, hr⟩ : ∃ r, r = a % (L0 + 1) := ⟨_, rfl⟩
  have hlt : r < L0 + 1 := by rw [hr]; exact Nat.mod_lt _ (Nat.succ_pos _)
  have e : (a : Int) % ((L0 + 1 : Nat) : Int) = (r : Int) := by rw [hr]; rfl
  refine ⟨L0, L0 + 1, base + r, ?_, ?_, ?_, ?_, Nat.succ_ne_zero _, Nat.le_add_right _ _, by omega⟩
  · clear e hr; unfold wrap64; omega
  · clear e hr; unfold wrap64; omega
  · clear e hr; rw [IntKind.wrap_u64]; omega
  · rw [e]; clear e hr; rw [IntKind.wrap_u64]; omega
theorem backN (nn : Int) (a base : Nat) (hb : base ≤ 4503599627370496) : ∃ N κ L0 L1 A, BackN nn a base N κ L0 L1 A := by
  obtain ⟨L0, L1, A, h1, h2, h3, h4, h5, h6, h7⟩ := backN_ (wid nn) a base hb (wid_cases nn)
  refine ⟨wid nn, (nn % 4).toNat, L0, L1, A, wid_cases nn, ?_, ?_, ?_, h1, h2, h3, h4, h5, h6, h7⟩
  · rw [and3]; omega
  · rw [IntKind.wrap_u64]; omega
  · rw [← shl_wid nn, IntKind.wrap_i64, Int.one_mul]
    unfold wrap64
    rfl
theorem backS (N x : Nat) (h : N = 1 ∨ N = 2 ∨ N = 4 ∨ N = 8) : ∃ S N8 : Nat, wrap64 (8 * (N : Int)) = (N8 : Int) ∧ wrap64 (64 - (N8 : Int)) = (S : Int) ∧ IntKind.u64.wrap (S : Int) = (S : Int) ∧ min S 64 = S ∧ IntKind.u64.wrap ((x : Int) * 2 ^ S) / 2 ^ S = ((x % 2 ^ (8 * N) : Nat) : Int) := by
  refine ⟨64 - 8 * N, 8 * N, ?_, ?_, ?_, ?_, cut_low x N h⟩
  · unfold wrap64; omega
  · unfold wrap64; omega
  · rw [IntKind.wrap_u64]; omega
  · omega
theorem bV_at (m : Nat → Nat) (base n i : Nat) (hi : i < n) : (bV (bytesR m base n)).toArray[i]? = some (.int .u8 ((m (base + i) : Nat) : Int)) := by
  rw [List.getElem?_toArray]
  unfold bV bytesR
  rw [List.getElem?_map, List.getElem?_map, List.getElem?_range hi]
  rfl
theorem backT (base A N i : Nat) (hb : base ≤ 4503599627370496) (hN : N = 1 ∨ N = 2 ∨ N = 4 ∨ N = 8) (hhi : A + N ≤ base + 12288) (hi : i < 12288) : ∃ t AN : Nat, t = base + i ∧ AN = A + N ∧ IntKind.u64.wrap (i : Int) = (i : Int) ∧ IntKind.u64.wrap ((i : Int) + (base : Int)) = (t : Int) ∧
    IntKind.u64.wrap (N : Int) = (N : Int) ∧ IntKind.u64.wrap ((A : Int) + (N : Int)) = (AN : Int) ∧ IntKind.i64.wrap ((i : Int) + 1) = ((i + 1 : Nat) : Int) := by
  refine ⟨base + i, A + N, rfl, rfl, ?_, ?_, ?_, ?_, ?_⟩
  · rw [IntKind.wrap_u64]; omega
  · rw [IntKind.wrap_u64]; omega
  · rw [IntKind.wrap_u64]; omega
  · rw [IntKind.wrap_u64]; omega
  · rw [IntKind.wrap_i64]; omega
theorem backD (A N t x : Nat) (_ : N = 1 ∨ N = 2 ∨ N = 4 ∨ N = 8) (h1 : A ≤ t) (h2 : t < A + N) : ∃ d d8 y : Nat, IntKind.u64.wrap ((t : Int) - (A : Int)) = (d : Int) ∧ IntKind.u64.wrap (8 * (d : Int)) = (d8 : Int) ∧ min d8 64 = d8 ∧ (x : Int) / 2 ^ d8 = (y : Int) ∧ IntKind.u8.wrap (y : Int) = ((x / 2 ^ (8 * (t - A)) % 256 : Nat) : Int) := by
  refine ⟨t - A, 8 * (t - A), x / 2 ^ (8 * (t - A)), ?_, ?_, by omega, by simp, ?_⟩
  · rw [IntKind.wrap_u64]; omega
  · rw [IntKind.wrap_u64]; omega
  · rw [IntKind.wrap_u8]; omega
theorem backH (m : Nat → Nat) (hm : ∀ x, m x < 256) (A N X : Nat) (hN : N = 1 ∨ N = 2 ∨ N = 4 ∨ N = 8) (h1 : ¬ N = 1) (hA : A ≤ 4503599627390000) (hX : numR m A N = X) : ∃ H N4 AH lo hi : Nat, (H = 1 ∨ H = 2 ∨ H = 4 ∨ H = 8) ∧ H + H = N ∧ numR m A H = lo ∧ numR m AH H = hi ∧ AH = A + H ∧ (N : Int) / 2 = (H : Int) ∧ (N : Int).tdiv 2 = (H : Int) ∧
    IntKind.i64.wrap (H : Int) = (H : Int) ∧ wrap64 (H : Int) = (H : Int) ∧ IntKind.u64.wrap (H : Int) = (H : Int) ∧ IntKind.u64.wrap ((A : Int) + (H : Int)) = (AH : Int) ∧ wrap64 (4 * (N : Int)) = (N4 : Int) ∧ IntKind.u64.wrap (N4 : Int) = (N4 : Int) ∧ min N4 64 = N4 ∧ IntKind.u64.wrap ((lo : Int) + IntKind.u64.wrap ((hi : Int) * 2 ^ N4)) = (X : Int) := by
  obtain ⟨H, hH⟩ : ∃ H, H + H = N := ⟨N / 2, by omega⟩
  have hl := numR_lt hm A H
  have hr := numR_lt hm (A + H) H
  have hs := numR_split m A H H
  rw [hH, hX] at hs
  obtain ⟨lo, hlo⟩ : ∃ lo, lo = numR m A H := ⟨_, rfl⟩
  obtain ⟨hi, hhi⟩ : ∃ hi, hi = numR m (A + H) H := ⟨_, rfl⟩
  rw [← hlo, ← hhi] at hs
  rw [← hlo] at hl
  rw [← hhi] at hr
  have hH' : H = 1 ∨ H = 2 ∨ H = 4 := by omega
  refine ⟨H, 4 * N, A + H, lo, hi, by omega, hH, hlo.symm, hhi.symm, rfl, by omega, by rw [Int.tdiv_eq_ediv_of_nonneg (Int.natCast_nonneg N)]; omega, ?_, ?_, ?_, ?_, ?_, ?_, by omega, ?_⟩
  · rw [IntKind.wrap_i64]; omega
  · unfold wrap64; omega
  · rw [IntKind.wrap_u64]; omega
  · rw [IntKind.wrap_u64]; omega
  · unfold wrap64; omega
  · rw [IntKind.wrap_u64]; omega
  · clear hX hlo hhi
    subst hH
    rw [IntKind.wrap_u64, IntKind.wrap_u64]
    rcases hH' with rfl | rfl | rfl
    · have hl : lo < 256 := hl
      have hr : hi < 256 := hr
      have hs : X = lo + hi * 256 := hs
      show ((lo : Int) + (hi : Int) * 256 % _) % _ = _
      omega
    · have hl : lo < 65536 := hl
      have hr : hi < 65536 := hr
      have hs : X = lo + hi * 65536 := hs
      show ((lo : Int) + (hi : Int) * 65536 % _) % _ = _
      omega
    · have hl : lo < 4294967296 := hl
      have hr : hi < 4294967296 := hr
      have hs : X = lo + hi * 4294967296 := hs
      show ((lo : Int) + (hi : Int) * 4294967296 % _) % _ = _
      omega
/-- The halves of the number, as they are read. -/
structure BackH (m : Nat → Nat) (base A N X H N4 AH lo hi : Nat) : Prop where
  r1 : readR base 12288 m A (H : Int) = lo
  r2 : readR base 12288 m AH (H : Int) = hi
  o1 : okR base 12288 A (H : Int) = true
  o2 : okR base 12288 AH (H : Int) = true
  b1 : A < 18446744073709551616
  b2 : AH < 18446744073709551616
  b3 : (H : Int) < 9223372036854775808
  b4 : base + 12288 < 18446744073709551616
  k1 : (N : Int) / 2 = (H : Int)
  k2 : (N : Int).tdiv 2 = (H : Int)
  k3 : IntKind.i64.wrap (H : Int) = (H : Int)
  k4 : wrap64 (H : Int) = (H : Int)
  k5 : IntKind.u64.wrap (H : Int) = (H : Int)
  k6 : IntKind.u64.wrap ((A : Int) + (H : Int)) = (AH : Int)
  k7 : wrap64 (4 * (N : Int)) = (N4 : Int)
  k8 : IntKind.u64.wrap (N4 : Int) = (N4 : Int)
  k9 : min N4 64 = N4
  k10 : IntKind.u64.wrap ((lo : Int) + IntKind.u64.wrap ((hi : Int) * 2 ^ N4)) = (X : Int)
theorem backR (m : Nat → Nat) (hm : ∀ x, m x < 256) (base A N X : Nat) (hb : base ≤ 4503599627370496) (hN : N = 1 ∨ N = 2 ∨ N = 4 ∨ N = 8) (h1 : ¬ N = 1) (hlo : base ≤ A) (hhi : A + N ≤ base + 12288) (hX : numR m A N = X) : ∃ H N4 AH lo hi : Nat, BackH m base A N X H N4 AH lo hi := by
  obtain ⟨H, N4, AH, lo, hi, kc, kh, klo, khi, kAH, k1, k2, k3, k4, k5, k6, k7, k8, k9, k10⟩ := backH m hm A N X hN h1 (by omega) hX
  have q1 : A + H ≤ base + 12288 := by clear k1 k2 k3 k4 k5 k6 k7 k8 k9 k10 klo khi hX; omega
  have q2 : base ≤ AH := by clear k1 k2 k3 k4 k5 k6 k7 k8 k9 k10 klo khi hX; omega
  have q3 : AH + H ≤ base + 12288 := by clear k1 k2 k3 k4 k5 k6 k7 k8 k9 k10 klo khi hX; omega
  have q4 : A < 18446744073709551616 ∧ AH < 18446744073709551616 ∧ (H : Int) < 9223372036854775808 ∧ base + 12288 < 18446744073709551616 := by clear k1 k2 k3 k4 k5 k6 k7 k8 k9 k10 klo khi hX; omega
  have o1 := okR_of (size := 12288) kc hlo q1
  have o2 := okR_of (size := 12288) kc q2 q3
  exact ⟨H, N4, AH, lo, hi, by unfold readR; rw [if_pos o1, Int.toNat_natCast, klo], by unfold readR; rw [if_pos o2, Int.toNat_natCast, khi], o1, o2, q4.1, q4.2.1, q4.2.2.1, q4.2.2.2, k1, k2, k3, k4, k5, k6, k7, k8, k9, k10⟩
end Go.Proofs.Ytpnabfekidpnoaa

/-
  Bytes of a memory.
-/
import Derived.Test.YtpnabfekidpnoaaRamP3
import Derived.Laws.CopyRow
import Derived.Deep.OwnRows
namespace Go.Proofs.Ytpnabfekidpnoaa
open Go Go.RowKit

def bV (l : List Nat) : List Value := l.map fun x => .int .u8 ((x : Nat) : Int)
theorem bV_len (l : List Nat) : (bV l).length = l.length := by unfold bV; rw [List.length_map]
theorem bV_one (l : List Nat) : ∀ u ∈ bV l, u.oneCell' = true := by
  intro u hu
  obtain ⟨x, _, rfl⟩ := List.mem_map.1 hu
  rfl
theorem bV_app (l k : List Nat) : bV (l ++ k) = bV l ++ bV k := by unfold bV; rw [List.map_append]
def bytesR (m : Nat → Nat) (a n : Nat) : List Nat := (List.range n).map fun i => m (a + i)
theorem bytesR_len (m : Nat → Nat) (a n : Nat) : (bytesR m a n).length = n := by simp [bytesR]
/-- The first i bytes are there. -/
def preB (m : Nat → Nat) (a n i : Nat) : List Nat := bytesR m a i ++ List.replicate (n - i) 0
theorem preB_len (m : Nat → Nat) (a n i : Nat) (h : i ≤ n) : (preB m a n i).length = n := by simp [preB, bytesR_len]; omega
theorem bytesR_add (m : Nat → Nat) (a i k : Nat) : bytesR m a (i + k) = bytesR m a i ++ bytesR m (a + i) k := by
  unfold bytesR
  rw [List.range_add, List.map_append, List.map_map]
  congr 1
  apply List.map_congr_left
  intro x _
  show m (a + (i + x)) = m (a + i + x)
  rw [Nat.add_assoc]
theorem preB_copy (m : Nat → Nat) (a n i k : Nat) (h : i + k ≤ n) : (preB m a n i).take i ++ bytesR m (a + i) k ++ (preB m a n i).drop (i + k) = preB m a n (i + k) := by
  unfold preB
  rw [List.take_left' (bytesR_len m a i), List.drop_append, bytesR_len, List.drop_eq_nil_of_le (by rw [bytesR_len]; omega), List.nil_append, List.drop_replicate, bytesR_add, show n - i - (i + k - i) = n - (i + k) by omega]
theorem preB_zero (m : Nat → Nat) (a n i k : Nat) (h : i + k ≤ n) (hz : ∀ j, j < k → m (a + i + j) = 0) : preB m a n i = preB m a n (i + k) := by
  have h1 : bytesR m (a + i) k = List.replicate k 0 := by
    unfold bytesR
    rw [List.eq_replicate_iff]
    refine ⟨by simp, fun x hx => ?_⟩
    obtain ⟨j, hj, rfl⟩ := List.mem_map.1 hx
    exact hz j (List.mem_range.1 hj)
  unfold preB
  rw [bytesR_add, h1, List.append_assoc, List.replicate_append_replicate, show k + (n - (i + k)) = n - i by omega]
theorem info_u8 : ∃ i, Try.prog.info? 5 = some i ∧ i.zero = some (.int .u8 0) ∧ i.size = 1 ∧ i.bytes = 1 := by
  have h : (Try.prog.info? 5).map (fun i => (i.zero, i.size, i.bytes)) = some (some (.int .u8 0), 1, 1) := by kernel_rfl
  obtain ⟨i, hi, hz⟩ := Option.map_eq_some_iff.1 h
  injection hz with h1 h2
  injection h2 with h2 h3
  exact ⟨i, hi, h1, h2, h3⟩
theorem i64_sum (i k : Nat) (h : i + k ≤ 67108864) : IntKind.i64.wrap ((i : Int) + (k : Int)) = ((i + k : Nat) : Int) := by rw [IntKind.wrap_i64]; omega
theorem step_copy_run {P : Program} {ops : Array Oper} {w w' : World} {o : Oper} {a : Act} {K : Act → World → Prop} {Q : Exit → Act → World → Prop} {E : Prop} (hgd : o.guard = none) (s x : Operand) (t : TypeId)
    (ho : o.op = .call { callee := .builtin .copy, args := #[s, x], argTypes := #[t, t] }) (vs vx v' : Value) (hs : a.eval s = vs) (hx : a.eval x = vx) (hrun : (Builtin.copy_ #[t, t] o.type #[vs, vx]).run P w = .ok v' w') (h : K (a.put o.dst v') w') :
    if Region.wanted o (yielded ops a.tmps) = true then Oper.wp P o a w K Q else E := by
  have hw : Region.wanted o (yielded ops a.tmps) = true := by simp [Region.wanted, hgd]
  rw [if_pos hw]
  unfold Oper.wp execOp
  simp only [ho, resolve, invoke, builtin, Sem.run_bind, Sem.run_pure, Result.andThen_ok, List.map_toArray, List.map_cons, List.map_nil, hs, hx, hrun]
  exact h
theorem Fr.row {w : World} {g : Nat} (cs' : Array Value) : Fr (One g) w (w.setRow g cs') := ⟨rfl, rfl, rfl, by simp, fun k _ hk => setRow_other w g k _ (fun e => hk e)⟩
theorem made_zero (n : Nat) : madeCells #[.int .u8 0] n = (bV (List.replicate n 0)).toArray := by
  apply Array.ext_getElem?
  intro j
  rw [List.getElem?_toArray]
  unfold madeCells bV
  by_cases hj : j < n
  · simp [hj, Nat.mod_one]
  · simp [hj]
set_option maxRecDepth 100000 in
theorem bytes_bad (w : World) (v : Value) (a : Nat) (n : Int) (hH : Calls Try.prog 17 #[v, .int .u64 (a : Int), .int .i64 n] w fun r w' => r = .returned (.bool false) ∧ ∃ k, w' = w.drewN k) :
    Calls Try.prog 12 #[v, .int .u64 (a : Int), .int .i64 n] w fun r w' => r = .returned (.tuple #[.slice none 0 0, .bool false]) ∧ ∃ k, w' = w.drewN k := by
  have HH := Lib.hid hH
  clear hH
  go_enter Try.func12, Try.ntmps12
  go_wp2_with (go_at_call 17; refine HH.out.mono ?_; rintro r w2 ⟨rfl, kk, rfl⟩)
  go_ret2
  exact ⟨rfl, kk, rfl⟩
set_option maxRecDepth 100000 in
set_option maxHeartbeats 2000000 in
theorem bytes_c (w : World) (b base size : Nat) (m : Nat → Nat) (cnt : Nat) (F : Nat → Prop) (a n : Nat) (h : RAt w b base size m cnt F) (hbs : base + size < 18446744073709551616) (hsz : size ≤ 67108864) (ha : a < 18446744073709551616) (hhs : hasR base size a (n : Int) = true) :
    Calls Try.prog 12 #[.pointer (some ⟨b, 0, none⟩), .int .u64 (a : Int), .int .i64 (n : Int)] w fun r w' => ∃ g, r = .returned (.tuple #[.slice (some ⟨g, 0, none⟩) n n, .bool true]) ∧ Blk w' g 5 (bV (bytesR m a n)).toArray ∧ w.heap.size ≤ g ∧ Fr No w w' := by
  have hn : n ≤ 67108864 ∧ (0 < n → a + n ≤ base + size) := by
    by_cases h0 : n = 0
    · omega
    · have := hasR_true hhs (by omega)
      unfold hasR at hhs
      simp at hhs
      omega
  have hH : Calls Try.prog 17 #[.pointer (some ⟨b, 0, none⟩), .int .u64 (a : Int), .int .i64 (n : Int)] w fun r w' => r = .returned (.bool (hasR base size a (n : Int))) ∧ ∃ k, w' = w.drewN k := by
    obtain ⟨mb, D, pg, hin⟩ := h
    exact has_c w b base size mb a n hin.1 (by omega) ha (by omega)
  rw [hhs] at hH
  obtain ⟨mb, D, pg, hin⟩ := h
  obtain ⟨i0, hi0, hiz, his, hib⟩ := info_u8
  obtain ⟨g, hg⟩ : ∃ g, g = w.heap.size := ⟨_, rfl⟩
  have HH := Lib.hid hH
  have HIN := Lib.hid (show RIn w b base size mb D pg m cnt (fun k => F k ∧ k < g) from by rw [hg]; exact hin.cut)
  have HI0 := Lib.hid hi0
  have HI1 := Lib.hid hiz
  have HI2 := Lib.hid his
  have HI3 := Lib.hid hib
  have HN := Lib.hid hn
  have HG := Lib.hid hg
  have HBS := Lib.hid hbs
  clear hin hi0 hiz his hib hn hhs hH hbs hsz ha
  go_enter Try.func12, Try.ntmps12
  go_wp2_with (first
    | (go_at_call 17; refine HH.out.mono ?_; rintro r w2 ⟨rfl, kk, rfl⟩)
    | (refine wpList_make_row _ rfl _ _ 31 rfl 5 i0 _ Try.underlying31 HI0.out HI1.out HI2.out rfl .i64 .i64 n rfl rfl (by rw [HI3.out]; have := HN.out.1; omega) (by have := HN.out.1; omega) ?_))
  have hwB : ∀ cs t, Fr No w ((w.drewN kk).alloc (.cells cs t)) := fun cs t => ((Fr.refl No w).drewN kk).alloc _
  have hB0 : Blk ((w.drewN kk).alloc (.cells (madeCells #[.int .u8 0] n) 5)) g 5 (bV (preB m a n 0)).toArray := by
    have h1 := Blk.new (w.drewN kk) 5 (madeCells #[.int .u8 0] n)
    rw [made_zero] at h1 ⊢
    rw [hg]
    exact h1
  have HB0 := Lib.hid hB0
  have HF0 := Lib.hid (hwB (madeCells #[.int .u8 0] n) 5)
  have hgw : (w.drewN kk).heap.size = g := by rw [hg]; rfl
  try rw [hgw]
  try rw [← hg]
  clear hwB hB0 hgw hg
  go_loopw [9] (fun pi wr => ∃ i : Nat, i ≤ n ∧ pi = .int .i64 (i : Int) ∧ Hid (Blk wr g 5 (bV (preB m a n i)).toArray) ∧ Hid (Fr No w wr)) (fun pi _ => n - (intOf pi).toNat)
  case atStart => exact ⟨0, Nat.zero_le _, rfl, HB0, HF0⟩
  case round =>
    obtain ⟨i, hi, rfl, HB, HF⟩ := hrel
    by_cases hlt : i < n
    · obtain ⟨t, ht⟩ : ∃ t, t = a + i := ⟨_, rfl⟩
      obtain ⟨off, hoff⟩ : ∃ off, off = t % 4096 := ⟨_, rfl⟩
      obtain ⟨k, hk⟩ : ∃ k, k = min (n - i) (4096 - off) := ⟨_, rfl⟩
      have hkn : i + k ≤ n := by omega
      have hk1 : 1 ≤ k := by omega
      have hko : off + k ≤ 4096 := by omega
      have hoff2 : off < 4096 := by omega
      have hms : n - (i + k) < n - i := by omega
      have hn26 := HN.out.1
      have E10 := Lib.hid (i64_sum i k (Nat.le_trans hkn hn26))
      clear hn26
      have HMS := Lib.hid hms
      clear hms
      have hN := HN.out
      have hBS := HBS.out
      have ht64 : t < 18446744073709551616 := by have := hN.2 (by omega); omega
      have e1 : IntKind.u64.wrap (i : Int) = (i : Int) := by rw [IntKind.wrap_u64]; omega
      have e2 : IntKind.u64.wrap ((a : Int) + (i : Int)) = (t : Int) := by rw [IntKind.wrap_u64]; omega
      have e3 : wrap64 ((n : Int) - (i : Int)) = (n : Int) - (i : Int) := by unfold wrap64; omega
      have e4 : (t : Int) % 4096 = (off : Int) := by omega
      have e5 : IntKind.u64.wrap (4096 - (off : Int)) = 4096 - (off : Int) := by rw [IntKind.wrap_u64]; omega
      have e6 : IntKind.i64.wrap (4096 - (off : Int)) = 4096 - (off : Int) := by rw [IntKind.wrap_i64]; omega
      have e7 : min ((n : Int) - (i : Int)) (4096 - (off : Int)) = (k : Int) := by omega
      have e8 : wrap64 ((i : Int) + (k : Int)) = ((i + k : Nat) : Int) := by unfold wrap64; omega
      have e9 : IntKind.u64.wrap ((t : Int) / 4096) = (t : Int) / 4096 := by rw [IntKind.wrap_u64]; omega
      have hinr := HIN.out.fr HF.out (fun _ _ q => q)
      have hlook := hinr.look (t / 4096) (by omega)
      rw [Int.natCast_ediv] at hlook
      have hlk : (Instr.lookup 61 (.map (some mb)) (.int .u64 ((t : Int) / 4096)) false).run Try.prog wr = .ok (pgVal (pg (t / 4096))) wr := hlook
      have c2 : wr.cell? ⟨b, 2, none⟩ = some (.map (some mb)) := hinr.1.cell 2
      obtain ⟨q, hq⟩ : ∃ q, q = pg (t / 4096) := ⟨_, rfl⟩
      rw [← hq] at hlk
      have HHK := Lib.hid (show 1 ≤ k ∧ i + k ≤ n ∧ off + k ≤ 4096 ∧ t = a + i ∧ off = t % 4096 from ⟨hk1, hkn, hko, ht, hoff⟩)
      cases q with
      | none =>
        have hz : ∀ j, j < k → m (a + i + j) = 0 := fun j hj => by
          have := HIN.out.2.2.2.2.2.1 (t / 4096) (off + j) hq.symm (by omega)
          rwa [show t / 4096 * 4096 + (off + j) = a + i + j by omega] at this
        have HB2 := Lib.hid (show Blk wr g 5 (bV (preB m a n (i + k))).toArray from by rw [← preB_zero m a n i k hkn hz]; exact HB.out)
        unfold pgVal at hlk
        clear hN hBS hinr hlook hz hq ht hoff hk ht64
        go_wp2_with fail
        rw [e8]
        exact ⟨⟨i + k, hkn, rfl, HB2, HF⟩, by show n - ((i + k : Nat) : Int).toNat < n - (i : Int).toNat; rw [Int.toNat_natCast, Int.toNat_natCast]; exact HMS.out⟩
      | some B =>
        unfold pgVal at hlk
        obtain ⟨cs, hBlk, hcells⟩ := (hinr.2.2.2.1 (t / 4096) B hq.symm).1.cells
        have HBlk := Lib.hid hBlk
        have hsrc : ∀ j v, (bV (bytesR m (a + i) k))[j]? = some v → wr.cell? ((⟨B, off, none⟩ : Addr).add j) = some v := fun j v hv => by
          have hj : j < k := by have := (List.getElem?_eq_some_iff.1 hv).1; rwa [bV_len, bytesR_len] at this
          rw [addr_add, hBlk.cell, hcells.2 (off + j) (by omega), ← hv]
          unfold bV bytesR
          rw [List.getElem?_map, List.getElem?_map, List.getElem?_range hj]
          show some (Value.int .u8 ((m (t / 4096 * 4096 + (off + j)) : Nat) : Int)) = some (Value.int .u8 ((m (a + i + j) : Nat) : Int))
          have e : t / 4096 * 4096 + (off + j) = a + i + j := by omega
          rw [e]
        have hcopy := run_copy_row (P := Try.prog) wr.drew 31 31 3 5 g i k (n - i) ⟨B, off, none⟩ (4096 - off) (4096 - off) (bV (preB m a n i)).toArray 5 (bV (bytesR m (a + i) k)) Try.underlying31 (by rw [HI0.out]; exact congrArg some HI2.out) (HB.out.fr ((Fr.refl No wr).drew) (fun q => q)) (by rw [bV_len, bytesR_len]; show k = min _ _; omega) hsrc (by rw [bV_len, bytesR_len, List.size_toArray, bV_len, preB_len _ _ _ _ hi]; exact hkn) (bV_one _)
        have hnew : (((bV (preB m a n i)).toArray.toList.take i ++ bV (bytesR m (a + i) k) ++ (bV (preB m a n i)).toArray.toList.drop (i + (bV (bytesR m (a + i) k)).length)).toArray) = (bV (preB m a n (i + k))).toArray := by
          rw [bV_len, bytesR_len, ← preB_copy m a n i k hkn, bV_app, bV_app]
          congr 2
          · congr 1
            unfold bV
            rw [List.map_take]
          · unfold bV
            rw [List.map_drop]
        rw [hnew] at hcopy
        have hBn : Blk (wr.drew.setRow g (bV (preB m a n (i + k))).toArray) g 5 (bV (preB m a n (i + k))).toArray := setRow_heap _ g _ _ _ _ (HB.out.fr ((Fr.refl No wr).drew) (fun q => q))
        have hFn : Fr No w (wr.drew.setRow g (bV (preB m a n (i + k))).toArray) := (HF.out.drew).andThen (Fr.row _) (fun j hj e => by have e2 : j = g := e; have := HG.out; omega)
        have HB2 := Lib.hid hBn
        have HF2 := Lib.hid hFn
        have HCOPY := Lib.hid hcopy
        have hin' : i < n := hlt
        have hnik : ¬ n = i := Nat.ne_of_gt hlt
        have hoffn : ¬ 4096 = off := Nat.ne_of_gt hoff2
        have f1 : (i : Int) ≤ (n : Int) := Int.ofNat_le.2 hi
        have f2 : ((i + k : Nat) : Int) ≤ (n : Int) := Int.ofNat_le.2 hkn
        have f3 : (i : Int) ≤ ((i + k : Nat) : Int) := Int.ofNat_le.2 (Nat.le_add_right i k)
        have f4 : (off : Int) ≤ 4096 := Int.ofNat_le.2 (Nat.le_of_lt hoff2)
        obtain ⟨ik, hik⟩ : ∃ ik, ik = i + k := ⟨_, rfl⟩
        have e10 := E10.out
        have e4' : (t : Int).tmod 4096 = (off : Int) := by rw [Int.tmod_eq_emod_of_nonneg (Int.natCast_nonneg t)]; exact e4
        rw [← hik] at e8 e10 f2 f3
        have f5 : (0 : Int) ≤ (ik : Int) := Int.natCast_nonneg ik
        have hd : ik - i = k := by rw [hik]; exact Nat.add_sub_cancel_left i k
        have hiik : i ≤ ik := by rw [hik]; exact Nat.le_add_right i k
        have hikn : ik ≤ n := by rw [hik]; exact hkn
        have hofl : off ≤ 4096 := Nat.le_of_lt hoff2
        have HIK := Lib.hid hik
        clear hN hBS hinr hlook hq ht hoff hk ht64 hBlk hcells hsrc hcopy hnew hBn hFn hik
        go_upto_region 10 with fail
        refine wp_region_held_drew (S := fun _ => True) (by kernel_rfl) trivial (fun hHeld => ?_)
        refine' tkG (i := 0) (v := _) rfl (by kernel_rfl) (by kernel_rfl) (by kernel_rfl) (fun _ _ _ h => h) (by rfl) ?hy1 (by assumption) ?rest1
        case hy1 => (intro wq hSq; (try dsimp only at hSq); go_simp; try with_reducible rfl)
        simp only [Act.put, List.setIfInBounds_toArray, List.set_cons_zero, List.set_cons_succ]
        refine' tkG (i := 1) (v := _) rfl (by kernel_rfl) (by kernel_rfl) (by kernel_rfl) (fun _ _ _ h => h) (by rfl) ?hy2 (by assumption) ?rest2
        case hy2 => (intro wq hSq; (try dsimp only at hSq); go_simp; try with_reducible rfl)
        simp only [Act.put, List.setIfInBounds_toArray, List.set_cons_zero, List.set_cons_succ]
        refine' tkG (i := 2) (v := _) rfl (by kernel_rfl) (by kernel_rfl) (by kernel_rfl) (fun _ _ _ h => h) (by rfl) ?hy3 (by assumption) ?rest3
        case hy3 => (intro wq hSq; (try dsimp only at hSq); go_simp; try with_reducible rfl)
        simp only [Act.put, List.setIfInBounds_toArray, List.set_cons_zero, List.set_cons_succ]
        refine' tkG (i := 3) (v := _) rfl (by kernel_rfl) (by kernel_rfl) (by kernel_rfl) (fun _ _ _ h => h) (by rfl) ?hy4 (by assumption) ?rest4
        case hy4 => (intro wq hSq; (try dsimp only at hSq); go_simp; try with_reducible rfl)
        simp only [Act.put, List.setIfInBounds_toArray, List.set_cons_zero, List.set_cons_succ]
        refine' tkG (i := 4) (v := _) rfl (by kernel_rfl) (by kernel_rfl) (by kernel_rfl) (fun _ _ _ h => h) (by rfl) ?hy5 (by assumption) ?rest5
        case hy5 => (intro wq hSq; (try dsimp only at hSq); go_simp; try with_reducible rfl)
        simp only [Act.put, List.setIfInBounds_toArray, List.set_cons_zero, List.set_cons_succ]
        refine' tkG (i := 5) (v := _) rfl (by kernel_rfl) (by kernel_rfl) (by kernel_rfl) (fun _ _ _ h => h) (by rfl) ?hy6 (by assumption) ?rest6
        case hy6 => (intro wq hSq; (try dsimp only at hSq); go_simp; try with_reducible rfl)
        simp only [Act.put, List.setIfInBounds_toArray, List.set_cons_zero, List.set_cons_succ]
        refine' tkG (i := 6) (v := _) rfl (by kernel_rfl) (by kernel_rfl) (by kernel_rfl) (fun _ _ _ h => h) (by rfl) ?hy7 (by assumption) ?rest7
        case hy7 => (intro wq hSq; (try dsimp only at hSq); go_simp; try with_reducible rfl)
        simp only [Act.put, List.setIfInBounds_toArray, List.set_cons_zero, List.set_cons_succ]
        refine' tkG (i := 7) (v := _) rfl (by kernel_rfl) (by kernel_rfl) (by kernel_rfl) (fun _ _ _ h => h) (by rfl) ?hy8 (by assumption) ?rest8
        case hy8 => (intro wq hSq; (try dsimp only at hSq); go_simp; try with_reducible rfl)
        simp only [Act.put, List.setIfInBounds_toArray, List.set_cons_zero, List.set_cons_succ]
        refine' tkG (i := 8) (v := _) rfl (by kernel_rfl) (by kernel_rfl) (by kernel_rfl) (fun _ _ _ h => h) (by rfl) ?hy9 (by assumption) ?rest9
        case hy9 => (intro wq hSq; (try dsimp only at hSq); go_simp; try with_reducible rfl)
        simp only [Act.put, List.setIfInBounds_toArray, List.set_cons_zero, List.set_cons_succ]
        refine' tkG (i := 9) (v := _) rfl (by kernel_rfl) (by kernel_rfl) (by kernel_rfl) (fun _ _ _ h => h) (by rfl) ?hy10 (by assumption) ?rest10
        case hy10 => (intro wq hSq; (try dsimp only at hSq); go_simp; try with_reducible rfl)
        simp only [Act.put, List.setIfInBounds_toArray, List.set_cons_zero, List.set_cons_succ]
        refine' tkG (i := 10) (v := _) rfl (by kernel_rfl) (by kernel_rfl) (by kernel_rfl) (fun _ _ _ h => h) (by rfl) ?hy11 (by assumption) ?rest11
        case hy11 => (intro wq hSq; (try dsimp only at hSq); go_simp; try with_reducible rfl)
        simp only [Act.put, List.setIfInBounds_toArray, List.set_cons_zero, List.set_cons_succ]
        refine wpAnyH_ready (rs := [11]) (by kernel_rfl) (by simp) ?_
        refine AllReadyH.cons rfl (fun K hK => ?_) AllReadyH.nil
        refine step_copy_run rfl (.tmp 49) (.tmp 54) _ rfl _ _ _ rfl rfl HCOPY.out ?_
        refine hK.out _ _ trivial (fun hHeld => ?_)
        clear hK K hHeld
        simp only [Act.put, List.setIfInBounds_toArray, List.set_cons_zero, List.set_cons_succ]
        refine wpAnyH_done (by kernel_rfl) ?_ _
        go_wp2_with fail
        refine ⟨⟨ik, hikn, rfl, Lib.hid (by rw [HIK.out]; exact HB2.out), HF2⟩, ?_⟩
        show n - ((ik : Nat) : Int).toNat < n - (i : Int).toNat
        rw [Int.toNat_natCast, Int.toNat_natCast, HIK.out]
        exact HMS.out
    · obtain rfl : i = n := by omega
      go_wp2_with fail
      go_ret2
      have h := HB.out
      have hp : preB m a i i = bytesR m a i := by unfold preB; simp
      rw [hp] at h
      exact ⟨g, rfl, h, by rw [HG.out]; exact Nat.le_refl _, HF.out⟩
end Go.Proofs.Ytpnabfekidpnoaa

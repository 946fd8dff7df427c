/-
  The statement PlicSame: its walk.
-/
import Derived.Test.YtcnglhneknbllaaDoorPlicP
import Derived.Test.YtcnglhneknbllaaDoorPlicS
import Derived.Laws.StructEq
namespace Go.Proofs.YtcnglhneknbllaaDoor
open Go Go.RowKit PS

/-- Two pairs of controllers, all laid since w0. -/
structure Quad (w0 w : World) (b r : Nat) (s : PS) (b' r' : Nat) (t : PS) : Prop where
  one : Duo1 w0 w b r s
  two : Duo1 w0 w b' r' t
  n1 : b ≠ b'
  n2 : b ≠ r'
  n3 : r ≠ b'
  n4 : r ≠ r'
namespace Quad
variable {w0 w w' : World} {b r b' r' : Nat} {s t s' t' : PS}
theorem keep (h : Quad w0 w b r s b' r' t) (hf : Fr No w w') : Quad w0 w' b r s b' r' t := ⟨h.one.keep hf, h.two.keep hf, h.n1, h.n2, h.n3, h.n4⟩
theorem far2 (h : Duo1 w0 w b r s) {x y : Nat} (hx : w0.heap.size ≤ x) (hy : w0.heap.size ≤ y) (h1 : b ≠ x) (h2 : b ≠ y) (h3 : r ≠ x) (h4 : r ≠ y) (hf : Fr (Or2 (One x) (One y)) w w') : Duo1 w0 w' b r s :=
  ⟨⟨h.duo.tz.fr hf (fun q => by
      have := h.lt
      rcases q with q | q
      · have : 1 = x := q
        omega
      · have : 1 = y := q
        omega),
    h.duo.pic.fr hf (fun q => q.elim h1 h2), h.duo.ref.fr hf (fun q => q.elim h3 h4), h.duo.ne, h.duo.nb, h.duo.nr⟩,
    h.fr.andThen hf (fun k hk q => by
      rcases q with q | q
      · have : k = x := q
        omega
      · have : k = y := q
        omega), h.nb, h.nr, h.lt⟩
theorem step1 (h : Quad w0 w b r s b' r' t) (hd : Duo w' b r s') (hf : Fr (Or2 (One b) (One r)) w w') : Quad w0 w' b r s' b' r' t :=
  ⟨h.one.step hd hf, far2 h.two h.one.nb h.one.nr (Ne.symm h.n1) (Ne.symm h.n3) (Ne.symm h.n2) (Ne.symm h.n4) hf, h.n1, h.n2, h.n3, h.n4⟩
theorem step2 (h : Quad w0 w b r s b' r' t) (hd : Duo w' b' r' t') (hf : Fr (Or2 (One b') (One r')) w w') : Quad w0 w' b r s b' r' t' :=
  ⟨far2 h.one h.two.nb h.two.nr h.n1 h.n2 h.n3 h.n4 hf, h.two.step hd hf, h.n1, h.n2, h.n3, h.n4⟩
end Quad
/-- Two of the program's, laid one behind the other. -/
structure Two (w0 w : World) (b b' : Nat) (s t : PS) : Prop where
  one : Pic1 w0 w b s
  two : Pic1 w0 w b' t
  ne : b ≠ b'
theorem Two.laid {w0 w : World} {b : Nat} {s t : PS} (h : Pic1 w0 w b s) (ht : t.Ok) (ty : TypeId) (old : Array Value) (cs : Array Value) (hc : cs = (plist t).toArray) : Two w0 ((w.alloc (.cells old ty)).setRow w.heap.size cs) b w.heap.size s t := by
  subst hc
  have h2 := setRow_fr w (.cells old ty) (plist t).toArray
  have hb : Blk ((w.alloc (.cells old ty)).setRow w.heap.size (plist t).toArray) w.heap.size ty (plist t).toArray := setRow_heap _ _ _ _ _ _ (heap_alloc_new w _)
  have h3 := h.at_.seg.lt
  have h6 := h.keep h2
  exact ⟨h6, ⟨h6.tz, ⟨ht, Seg.of_blk hb⟩, h.fr.size, h6.fr, h6.lt⟩, by omega⟩
theorem Two.ref {w0 w : World} {b b' : Nat} {s : PS} (h : Two w0 w b b' s PS.new) (hs : s = PS.new) (ty : TypeId) (old : Array Value) (cs : Array Value) (hc : cs = (rlist PS.new).toArray) :
    Duo1 w0 ((w.alloc (.cells old ty)).setRow w.heap.size cs) b w.heap.size PS.new ∧ Pic1 w0 ((w.alloc (.cells old ty)).setRow w.heap.size cs) b' PS.new ∧ b ≠ b' ∧ b' ≠ w.heap.size := by
  subst hs
  have h1 := Duo1.start h.one ty old cs hc
  subst hc
  have h3 := h.two.at_.seg.lt
  exact ⟨h1, h.two.keep (setRow_fr w (.cells old ty) (rlist PS.new).toArray), h.ne, by omega⟩
theorem Quad.start {w0 w : World} {b r b' : Nat} (h : Duo1 w0 w b r PS.new ∧ Pic1 w0 w b' PS.new ∧ b ≠ b' ∧ b' ≠ r) (ty : TypeId) (old : Array Value) (cs : Array Value) (hc : cs = (rlist PS.new).toArray) :
    Quad w0 ((w.alloc (.cells old ty)).setRow w.heap.size cs) b r PS.new b' w.heap.size PS.new := by
  have h1 := Duo1.start h.2.1 ty old cs hc
  subst hc
  have h3 := h.1.duo.pic.seg.lt
  have h4 := h.1.duo.ref.seg.lt
  exact ⟨h.1.keep (setRow_fr w (.cells old ty) (rlist PS.new).toArray), h1, h.2.2.1, by omega, Ne.symm h.2.2.2, by omega⟩
/-- Two aggregates are held against each other. -/
theorem exec_eql_agg {P : Program} {w : World} {o : Oper} {a : Act} {v : Value} (t u : TypeId) (x y : Operand) {xs ys : Array Value} (ho : o.op = .binOp .eql t x y u) (hx : a.eval x = .agg xs) (hy : a.eval y = .agg ys)
    (hm : P.eqGuardType P.depth t = false) (h : (binOp .eql t (.agg xs) (.agg ys)).run P w = .ok v w) : (execOp a.eval o).run P w = .ok (.value v) w := by
  unfold execOp
  simp only [ho, hx, hy, Sem.run_bind, run_eqGuard_agg w .eql t x y xs ys hm, h, Sem.run_pure, Result.andThen_ok]
set_option maxRecDepth 100000 in
set_option maxHeartbeats 16000000 in
theorem PlicSame_c (w : World) (hT : TzAt w) (v : Value) (xs : List PAct) (hr : Rd w v xs.length (pactCells xs)) (hok : ∀ x ∈ xs, x.Ok) (v' : Value) (ys : List PAct) (hr' : Rd w v' ys.length (pactCells ys)) (hok' : ∀ x ∈ ys, x.Ok) :
    Calls Tryd.prog 10 #[v, v'] w fun e w' => e = .returned (.bool true) ∧ Fr No w w' := by
  have HT := Lib.hid hT
  have HR := Lib.hid hr
  have HO := Lib.hid hok
  have HR' := Lib.hid hr'
  have HO' := Lib.hid hok'
  obtain ⟨a, c, rfl, hnc, hcm, _, _⟩ := hr
  obtain ⟨a', c', rfl, hnc', hcm', _, _⟩ := hr'
  obtain ⟨n, hn⟩ : ∃ n, n = xs.length := ⟨_, rfl⟩
  obtain ⟨m, hm⟩ : ∃ m, m = ys.length := ⟨_, rfl⟩
  rw [← hn] at HR hnc ⊢
  rw [← hm] at HR' hnc' ⊢
  have HN := Lib.hid hn
  have HM := Lib.hid hm
  unfold maxLen at hcm hcm'
  clear hT hok hn hok' hm
  go_enter Tryd.func10, Tryd.ntmps10
  go_wp2_with fail
  refine (pawake_c w HT.out).mono ?_
  rintro e w0 ⟨rfl, hf0⟩
  have F0 := Lib.hid hf0
  clear hf0
  by_cases h1 : n ≤ 100
  case neg =>
    go_wp2_with fail
    go_ret
    exact ⟨rfl, F0.out⟩
  by_cases h1' : m ≤ 100
  case neg =>
    go_wp2_with fail
    go_ret
    exact ⟨rfl, F0.out⟩
  go_wp2_with fail
  refine (PNew_c w0).mono ?_
  rintro e w1 ⟨rfl, hf1⟩
  have F1 := Lib.hid (F0.out.trans hf1)
  clear hf1
  go_upto_region 6 with (first
    | (refine wpList_store_row rfl 48 _ _ rfl _ _ rfl rfl _ _ (heap_alloc_new _ _) infoPic rfl (one_plist _) ?_))
  have h_ := fun t old (cs : Array Value) (hc : cs = (plist PS.new).toArray) => (by subst hc; exact Pic1.laid HT.out F1.out t old PS.new PS.ok_new : Pic1 w ((w1.alloc (.cells old t)).setRow w1.heap.size cs) w1.heap.size PS.new)
  generalize hW : (World.setRow _ _ _) = w2
  have Q2 := Lib.hid (by rw [← hW]; exact h_ _ _ _ (by kernel_rfl) : Pic1 w w2 w1.heap.size PS.new)
  clear h_ hW
  obtain ⟨b, hb⟩ : ∃ b, b = w1.heap.size := ⟨_, rfl⟩
  rw [← hb] at Q2 ⊢
  clear hb F1 F0
  go_upto_region 7 with (first
    | (refine wpList_store_row rfl 48 _ _ rfl _ _ rfl rfl _ _ (heap_alloc_new _ _) infoPic rfl (by kernel_rfl) ?_))
  have h_ := fun t old cs hc => Two.laid Q2.out PS.ok_new t old cs hc
  generalize hW : (World.setRow _ _ _) = w3
  have Q3 := Lib.hid (by rw [← hW]; exact h_ _ _ _ (by kernel_rfl) : Two w w3 b w2.heap.size PS.new PS.new)
  clear h_ hW
  obtain ⟨b', hb⟩ : ∃ b', b' = w2.heap.size := ⟨_, rfl⟩
  rw [← hb] at Q3 ⊢
  clear hb Q2
  go_upto_region 8 with (first
    | (refine wpList_store_row rfl 66 _ _ rfl _ _ rfl rfl _ _ (heap_alloc_new _ _) info66 rfl (by kernel_rfl) ?_))
  have h_ := fun t old cs hc => Two.ref Q3.out rfl t old cs hc
  generalize hW : (World.setRow _ _ _) = w4
  have Q4 := Lib.hid (by rw [← hW]; exact h_ _ _ _ (by kernel_rfl) : Duo1 w w4 b w3.heap.size PS.new ∧ Pic1 w w4 b' PS.new ∧ b ≠ b' ∧ b' ≠ w3.heap.size)
  clear h_ hW
  obtain ⟨r, hb⟩ : ∃ r, r = w3.heap.size := ⟨_, rfl⟩
  rw [← hb] at Q4 ⊢
  clear hb Q3
  go_wp2_with (first
    | (refine wpList_store_row rfl 66 _ _ rfl _ _ rfl rfl _ _ (heap_alloc_new _ _) info66 rfl (by kernel_rfl) ?_))
  have h_ := fun t old cs hc => Quad.start Q4.out t old cs hc
  generalize hW : (World.setRow _ _ _) = w5
  have Q5 := Lib.hid (by rw [← hW]; exact h_ _ _ _ (by kernel_rfl) : Quad w w5 b r PS.new b' w4.heap.size PS.new)
  clear h_ hW
  obtain ⟨r', hb⟩ : ∃ r', r' = w4.heap.size := ⟨_, rfl⟩
  rw [← hb] at Q5 ⊢
  clear hb Q4
  go_loopw [9] (fun i wr => ∃ (k : Nat) (s : PS), k ≤ n ∧ i = .int .i64 (k : Int) ∧ Hid (Quad w wr b r s b' r' PS.new)) (fun i _ => n - (intOf i).toNat)
  case atStart => exact ⟨0, _, Nat.zero_le _, rfl, Q5⟩
  case round =>
    obtain ⟨k, s, hkn, rfl, HA⟩ := hrel
    by_cases hlt : k < n
    · have hlt' : k < xs.length := by rw [← HN.out]; exact hlt
      have hR := HR.out
      rw [HN.out] at hR
      obtain ⟨g, o, c', hv, hcs⟩ := hR.pactsAt hlt'
      cases hv
      obtain ⟨x, hx⟩ : ∃ x, x = xs[k] := ⟨_, rfl⟩
      have hxo := HO.out _ (List.getElem_mem hlt')
      rw [← hx] at hcs hxo
      have HC := Lib.hid hcs
      have HXO := Lib.hid hxo
      clear hcs hxo hx hR
      obtain ⟨act, off, nn, av, src, up⟩ := x
      have q0 : wr.cell? ⟨g, o + k * 6, none⟩ = some (.int .i64 act) := HC.out wr HA.out.one.fr 0 _ rfl
      have q1 : wr.cell? ⟨g, o + k * 6 + 1, none⟩ = some (.int .u64 (off : Int)) := HC.out wr HA.out.one.fr 1 _ rfl
      have q2 : wr.cell? ⟨g, o + k * 6 + 2, none⟩ = some (.int .i64 nn) := HC.out wr HA.out.one.fr 2 _ rfl
      have q3 : wr.cell? ⟨g, o + k * 6 + 3, none⟩ = some (.int .u64 (av : Int)) := HC.out wr HA.out.one.fr 3 _ rfl
      have q4 : wr.cell? ⟨g, o + k * 6 + 4, none⟩ = some (.int .i64 src) := HC.out wr HA.out.one.fr 4 _ rfl
      have q5 : wr.cell? ⟨g, o + k * 6 + 5, none⟩ = some (.bool up) := HC.out wr HA.out.one.fr 5 _ rfl
      go_wp2_with fail
      refine (both_c _ b r s ⟨act, off, nn, av, src, up⟩ HXO.out ?duo).mono ?_
      case duo => exact HA.out.one.duo
      rintro e w8 ⟨rfl, hd, hf⟩
      have D8 := Lib.hid (HA.out.step1 hd hf)
      clear hd hf
      go_wp2_with fail
      exact ⟨⟨k + 1, _, hlt, rfl, D8⟩, by simp [intOf]; omega⟩
    · clear HR HO
      obtain ⟨s1, hs1⟩ : ∃ s1, s1 = s := ⟨_, rfl⟩
      rw [← hs1] at HA
      have HB := HA
      clear HA hs1
      go_wp2_with fail
      clear hlt hkn
      go_loopw [10] (fun i wr => ∃ (k : Nat) (s : PS), k ≤ m ∧ i = .int .i64 (k : Int) ∧ Hid (Quad w wr b r s1 b' r' s)) (fun i _ => m - (intOf i).toNat)
      case atStart => exact ⟨0, _, Nat.zero_le _, rfl, HB⟩
      case round =>
        obtain ⟨k, s, hkn, rfl, HA⟩ := hrel
        by_cases hlt : k < m
        · have hlt' : k < ys.length := by rw [← HM.out]; exact hlt
          have hR := HR'.out
          rw [HM.out] at hR
          obtain ⟨g, o, c', hv, hcs⟩ := hR.pactsAt hlt'
          cases hv
          obtain ⟨x, hx⟩ : ∃ x, x = ys[k] := ⟨_, rfl⟩
          have hxo := HO'.out _ (List.getElem_mem hlt')
          rw [← hx] at hcs hxo
          have HC := Lib.hid hcs
          have HXO := Lib.hid hxo
          clear hcs hxo hx hR
          obtain ⟨act, off, nn, av, src, up⟩ := x
          have q0 : wr.cell? ⟨g, o + k * 6, none⟩ = some (.int .i64 act) := HC.out wr HA.out.one.fr 0 _ rfl
          have q1 : wr.cell? ⟨g, o + k * 6 + 1, none⟩ = some (.int .u64 (off : Int)) := HC.out wr HA.out.one.fr 1 _ rfl
          have q2 : wr.cell? ⟨g, o + k * 6 + 2, none⟩ = some (.int .i64 nn) := HC.out wr HA.out.one.fr 2 _ rfl
          have q3 : wr.cell? ⟨g, o + k * 6 + 3, none⟩ = some (.int .u64 (av : Int)) := HC.out wr HA.out.one.fr 3 _ rfl
          have q4 : wr.cell? ⟨g, o + k * 6 + 4, none⟩ = some (.int .i64 src) := HC.out wr HA.out.one.fr 4 _ rfl
          have q5 : wr.cell? ⟨g, o + k * 6 + 5, none⟩ = some (.bool up) := HC.out wr HA.out.one.fr 5 _ rfl
          go_wp2_with fail
          refine (both_c _ b' r' s ⟨act, off, nn, av, src, up⟩ HXO.out ?duo).mono ?_
          case duo => exact HA.out.two.duo
          rintro e w8 ⟨rfl, hd, hf⟩
          have D8 := Lib.hid (HA.out.step2 hd hf)
          clear hd hf
          go_wp2_with fail
          exact ⟨⟨k + 1, _, hlt, rfl, D8⟩, by simp [intOf]; omega⟩
        · clear HR' HO'
          have hq1 := HA.out.one.duo.pic.ok
          have hq2 := HA.out.two.duo.pic.ok
          have HE1 := Lib.hid (fun w => plist_eql w hq1 hq2)
          have HE2 := Lib.hid (fun w => rlist_eql w hq1 hq2)
          clear hq1 hq2
          go_wp2_with fail
          refine wp_region_held_drew (S := fun w' => Quad w w' b r s1 b' r' s) (by kernel_rfl) (HA.out.keep (Fr.refl No _).drew) (fun hHeld => ?_)
          refine' tk0 (v := .agg (plist s1).toArray) (by kernel_rfl) (by kernel_rfl) (by kernel_rfl) (fun _ _ _ h => h) (by rfl) ?hy9 (by assumption) ?rest9
          case hy9 => (intro wq hSq; exact exec_load_seg 48 (.tmp 5) rfl b 0 rfl _ hSq.one.duo.pic.seg _ Tryd.underlying48 rfl (infoPl hSq.one.duo.pic.ok))
          simp only [Act.put, List.setIfInBounds_toArray, List.set_cons_zero, List.set_cons_succ]
          refine' tk1 (v := .agg (plist s).toArray) (by kernel_rfl) (by kernel_rfl) (by kernel_rfl) (fun _ _ _ h => h) (by rfl) ?hy10 (by assumption) ?rest10
          case hy10 => (intro wq hSq; exact exec_load_seg 48 (.tmp 6) rfl b' 0 rfl _ hSq.two.duo.pic.seg _ Tryd.underlying48 rfl (infoPl hSq.two.duo.pic.ok))
          simp only [Act.put, List.setIfInBounds_toArray, List.set_cons_zero, List.set_cons_succ]
          refine' tk2 (v := .bool (decide (s1 = s))) (by kernel_rfl) (by kernel_rfl) (by kernel_rfl) (fun _ _ _ h => h) (by rfl) ?hy11 (by assumption) ?rest11
          case hy11 => (intro wq hSq; exact exec_eql_agg _ _ _ _ rfl rfl rfl (by kernel_rfl) (HE1.out wq))
          simp only [Act.put, List.setIfInBounds_toArray, List.set_cons_zero, List.set_cons_succ]
          refine' tk3 (v := .agg (rlist s1).toArray) (by kernel_rfl) (by kernel_rfl) (by kernel_rfl) (fun _ _ _ h => h) (by rfl) ?hy12 (by assumption) ?rest12
          case hy12 => (intro wq hSq; exact exec_load_seg 66 (.tmp 7) rfl r 0 rfl _ hSq.one.duo.ref.seg _ Tryd.underlying66 rfl (infoRl _))
          simp only [Act.put, List.setIfInBounds_toArray, List.set_cons_zero, List.set_cons_succ]
          refine' tk4 (v := .agg (rlist s).toArray) (by kernel_rfl) (by kernel_rfl) (by kernel_rfl) (fun _ _ _ h => h) (by rfl) ?hy13 (by assumption) ?rest13
          case hy13 => (intro wq hSq; exact exec_load_seg 66 (.tmp 8) rfl r' 0 rfl _ hSq.two.duo.ref.seg _ Tryd.underlying66 rfl (infoRl _))
          simp only [Act.put, List.setIfInBounds_toArray, List.set_cons_zero, List.set_cons_succ]
          refine' tk5 (v := .bool (decide (s1 = s))) (by kernel_rfl) (by kernel_rfl) (by kernel_rfl) (fun _ _ _ h => h) (by rfl) ?hy14 (by assumption) ?rest14
          case hy14 => (intro wq hSq; exact exec_eql_agg _ _ _ _ rfl rfl rfl (by kernel_rfl) (HE2.out wq))
          simp only [Act.put, List.setIfInBounds_toArray, List.set_cons_zero, List.set_cons_succ]
          refine' tk6 (v := _) (by kernel_rfl) (by kernel_rfl) (by kernel_rfl) (fun _ _ _ h => h) (by rfl) ?hy15 (by assumption) ?rest15
          case hy15 => (intro wq hSq; (try dsimp only at hSq); go_simp; try with_reducible rfl)
          simp only [Act.put, List.setIfInBounds_toArray, List.set_cons_zero, List.set_cons_succ]
          refine' tk7 (v := _) (by kernel_rfl) (by kernel_rfl) (by kernel_rfl) (fun _ _ _ h => h) (by rfl) ?hy16 (by assumption) ?rest16
          case hy16 => (intro wq hSq; (try dsimp only at hSq); go_simp; try with_reducible rfl)
          simp only [Act.put, List.setIfInBounds_toArray, List.set_cons_zero, List.set_cons_succ]
          refine wpAnyH_done (by kernel_rfl) ?_ _
          go_wp2_with fail
          go_ret
          exact ⟨by simp, hHeld.one.fr⟩
end Go.Proofs.YtcnglhneknbllaaDoor

/-
  The statement ConfChecks, walked: at every configuration it answers true. Conditions: the numbers are of their kinds.
-/
import Derived.Test.YtacgjgmladbgeaaPConfChecksx6
import Derived.Test.YtacgjgmladbgeaaConfM
import Derived.Test.YtacgjgmladbgeaaConfL
import Derived.Test.YtacgjgmladbgeaaOpen
import Derived.Test.YtacgjgmladbgeaaEq
import Derived.Lib.Hide
import Derived.Lib.SmallJoins
namespace Go.Proofs.Ytacgjgmladbgeaa.PConfChecks
open Go Go.RowKit Go.Proofs.YtacgjgmladbgeaaW.PrintWords Go.Proofs.YtacgjgmladbgeaaW.PrintLast Go.Proofs.YtacgjgmladbgeaaW.PrintMore
set_option linter.unusedVariables false
set_option linter.unusedSimpArgs false

/-! ### A copy with marked room behind: by hand -/
set_option maxRecDepth 100000 in
set_option maxHeartbeats 1000000 in
theorem copied_c (ram slice : Int) (A : Option Addr) (c : Nat) (l : GL) (w : World) (hr : Kd.C k53 w A l.length l) (hm : l.length ≤ 100) :
    Calls Try.prog 23 #[.agg #[.int .u64 ram, .int .u64 slice, .slice A l.length c]] w fun e w' => ∃ g o cap, e = .returned (.tuple #[.agg #[.int .u64 ram, .int .u64 slice, .slice (some ⟨g, o, none⟩) l.length cap], .slice (some ⟨g, o, none⟩) (l.length + 1) cap]) ∧
      Own w' 53 2 (.slice (some ⟨g, o, none⟩) (l.length + 1) cap) (l.length + 1) (gcells l ++ [.int .u64 77, .int .u64 0]) (fun k => w.heap.size ≤ k) ∧ l.length + 1 ≤ cap ∧ Below w.heap.size w w' := by
  obtain ⟨i0, hi0, hz0, hz1, hz2⟩ := info_parts (show (Try.prog.info? 53).map (fun i => (i.zero, i.size, i.bytes)) = some (some (.agg #[(.int .u64 0), (.int .u64 0)]), 2, 16) from by kernel_rfl)
  have HI := Lib.hid hi0
  have H0 := Lib.hid hz0
  have H1 := Lib.hid hz1
  have H2 := Lib.hid hz2
  have HR := Lib.hid hr
  obtain ⟨n, hn⟩ : ∃ n, n = l.length := ⟨_, rfl⟩
  rw [← hn] at hm ⊢
  have HN := Lib.hid hn
  clear hi0 hz0 hz1 hz2 hr hn
  obtain ⟨wA, hwA⟩ : ∃ wA, wA = ((w.alloc (.cells #[.int .u64 ram, .int .u64 slice, .slice A n c] 25)).alloc (.cells #[.int .u64 0, .int .u64 0, .slice none 0 0] 25)).alloc (.cells #[] 53) := ⟨_, rfl⟩
  have hb1 : Below w.heap.size w wA := by rw [hwA]; exact (((Below.refl _ w).alloc (Nat.le_refl _) _).alloc (by simp) _).alloc (by simp; omega) _
  have hsz : wA.heap.size = w.heap.size + 3 := by rw [hwA]; simp
  have e1 : Blk wA w.heap.size 25 #[.int .u64 ram, .int .u64 slice, .slice A n c] := by rw [hwA]; exact ((Blk.new w _ _).alloc _).alloc _
  have e2 : Blk wA (w.heap.size + 1) 25 #[.int .u64 0, .int .u64 0, .slice none 0 0] := by
    have := Blk.new (w.alloc (.cells #[.int .u64 ram, .int .u64 slice, .slice A n c] 25)) 25 #[.int .u64 0, .int .u64 0, .slice none 0 0]
    rw [World.size_alloc] at this
    rw [hwA]; exact this.alloc _
  have hO : Own wA 53 2 (.slice (some ⟨w.heap.size + 2, 0, none⟩) 0 0) 0 [] (One (w.heap.size + 2)) := by
    refine ⟨by simp, .inr ⟨w.heap.size + 2, 0, 0, #[], rfl, rfl, ?_, Nat.le_refl _, by unfold maxLen; omega, by simp, .inl ⟨rfl, rfl⟩, fun j hj => by simp at hj⟩⟩
    have := Blk.new ((w.alloc (.cells #[.int .u64 ram, .int .u64 slice, .slice A n c] 25)).alloc (.cells #[.int .u64 0, .int .u64 0, .slice none 0 0] 25)) 53 #[]
    rw [World.size_alloc, World.size_alloc] at this
    rw [hwA]; exact this
  have hC := fun (hp : 0 < n) => row_cells (Kd.C_below HR.out hb1) (by rw [← HN.out]; exact hp)
  have HO := Lib.hid hO
  have HB := Lib.hid hb1
  have HC := Lib.hid hC
  have E1 := Lib.hid e1
  have E2 := Lib.hid e2
  have HZ := Lib.hid hsz
  clear hO hb1 hC e1 e2 hsz
  go_enter Try.func23, Try.ntmps23
  go_wp2_with
   (first
    | (at_builtin
       rw [← hwA]
       refine wpList_append_cells rfl (.tmp 5) (.tmp 7) _ rfl 53 i0 _ 2 16 Try.underlying23 HI.out H0.out H1.out H2.out rfl _ 0 [] (One (w.heap.size + 2)) rfl HO.out _ n c (gcells l) rfl HC.out (by rw [gcells_len, HN.out]) (gcells_one l) (by unfold maxLen; omega) (by omega) ?_
       intro v1 w1 hown1 hf1
       rw [Nat.zero_add, List.nil_append] at hown1
       obtain ⟨a1, c1', rfl, hn1, hm1⟩ := hown1.slice
       have hs1 := hf1.size
       have O1 := Lib.hid (hown1.fr ((Fr.refl No w1).alloc (.cells #[.int .u64 77, .int .u64 0] 53)) (fun _ _ h => h))
       have R1 := Lib.hid (Rd.new w1 53 [.int .u64 77, .int .u64 0] 1 (by unfold maxLen; omega))
       have E3 := Lib.hid ((E1.out.fr hf1 (fun h => by have h2 : w.heap.size = w.heap.size + 2 := h; omega)).alloc (.cells #[.int .u64 77, .int .u64 0] 53))
       have E4 := Lib.hid ((E2.out.fr hf1 (fun h => by have h2 : w.heap.size + 1 = w.heap.size + 2 := h; omega)).alloc (.cells #[.int .u64 77, .int .u64 0] 53))
       have B3 := Lib.hid ((HB.out.trans (hf1.below (B := w.heap.size) HB.out.size (fun k hk h => by have h2 : k = w.heap.size + 2 := h; omega))).alloc (Nat.le_trans HB.out.size hs1) (.cells #[.int .u64 77, .int .u64 0] 53))
       have S1 := Lib.hid hs1
       clear hown1 hf1 hs1)
    | (at_builtin
       refine wpList_append _ rfl (.tmp 8) (.tmp 10) _ rfl 53 i0 _ 2 16 Try.underlying23 HI.out H0.out H1.out H2.out rfl _ n (gcells l) _ rfl O1.out _ 1 [.int .u64 77, .int .u64 0] rfl R1.out rfl (by intro u hu; simp only [List.mem_cons, List.not_mem_nil, or_false] at hu; rcases hu with rfl | rfl <;> rfl) (by unfold maxLen; omega) (by omega) ?_
       intro v2 w2 hown2 hf2
       obtain ⟨g, o, cap, rfl, hcap, hm2, _, _, _, _⟩ := hown2.at_ (by omega)
       have hsz := HZ.out
       have hs1 := S1.out
       have hE5 := E3.out.fr hf2 (fun h => by rcases h with h | h <;> first | omega | (have h2 : w.heap.size = w.heap.size + 2 := h; omega))
       have hE6 := E4.out.fr hf2 (fun h => by rcases h with h | h <;> first | omega | (have h2 : w.heap.size + 1 = w.heap.size + 2 := h; omega))
       have B4 := Lib.hid (B3.out.trans (hf2.below (B := w.heap.size) B3.out.size (fun k hk h => by rcases h with h | h <;> first | omega | (have h2 : k = w.heap.size + 2 := h; omega))))
       have O2 := Lib.hid hown2
       have E5 := Lib.hid hE5
       have E6 := Lib.hid hE6
       have c0 : w2.cell? ⟨w.heap.size, 0, none⟩ = some (.int .u64 ram) := hE5.cell 0
       have c1 : w2.cell? ⟨w.heap.size, 1, none⟩ = some (.int .u64 slice) := hE5.cell 1
       have c2 : w2.cell? ⟨w.heap.size, 2, none⟩ = some (.slice A n c) := hE5.cell 2
       have d0 : w2.cell? ⟨w.heap.size + 1, 0, none⟩ = some (.int .u64 0) := hE6.cell 0
       have d1 : w2.cell? ⟨w.heap.size + 1, 1, none⟩ = some (.int .u64 0) := hE6.cell 1
       have d2 : w2.cell? ⟨w.heap.size + 1, 2, none⟩ = some (.slice none 0 0) := hE6.cell 2
       have f5 := hE5.free
       have f6 := hE6.free
       have hs2 : w.heap.size + 2 ≤ w2.heap.size := by have := hf2.size; rw [World.size_alloc] at this; omega
       have S2 := Lib.hid hs2
       have S3 := Lib.hid hf2.size
       clear hown2 hf2 hE5 hE6 hsz hs1 hs2))
  have hx := (((E6.out.far (p := ⟨w.heap.size, 2, none⟩) (show w.heap.size + 1 ≠ w.heap.size by omega) (.slice (some ⟨g, o, none⟩) n cap)).put 0 (.int .u64 ram)).put 1 (.int .u64 slice)).put 2 (.slice (some ⟨g, o, none⟩) n cap)
  have hs2 := S2.out
  have hs3 := S3.out
  have hs1 := S1.out
  have hsz := HZ.out
  have hG : ∀ k, ((One (w.heap.size + 2) k ∨ k = wA.heap.size) ∨ k = (w1.alloc (.cells #[.int .u64 77, .int .u64 0] 53)).heap.size) → w.heap.size + 2 ≤ k := fun k hk => by
    rcases hk with (hk | hk) | hk
    · exact Nat.le_of_eq (Eq.symm hk)
    · omega
    · rw [World.size_alloc] at hk; omega
  refine bodyPost_ret ((results_cell_tmp rfl _ _ _).trans (?_ : _ = Result.ok (.tuple #[.agg #[.int .u64 ram, .int .u64 slice, .slice (some ⟨g, o, none⟩) n cap], .slice (some ⟨g, o, none⟩) (n + 1) cap]) _)) rfl ?_
  · have hl := run_loadVar_row (P := Try.prog) _ (w.heap.size + 1) 25 25 _ (0, 0) _ hx Try.underlying25 rfl (by kernel_rfl)
    simp [asAddr, hl]
  · refine ⟨g, o, cap, rfl, ?_, hcap, ?_⟩
    · have h1 := ((((O2.out.fr (Fr.put w2 w.heap.size 2 (.slice (some ⟨g, o, none⟩) n cap)) ?_).fr (Fr.put _ (w.heap.size + 1) 0 (.int .u64 ram)) ?_).fr (Fr.put _ (w.heap.size + 1) 1 (.int .u64 slice)) ?_).fr (Fr.put _ (w.heap.size + 1) 2 (.slice (some ⟨g, o, none⟩) n cap)) ?_).mono (G' := fun k => w.heap.size ≤ k) ?_
      · exact h1
      · exact fun k hk h => by have := hG k hk; have h2 : k = w.heap.size := h; omega
      · exact fun k hk h => by have := hG k hk; have h2 : k = w.heap.size + 1 := h; omega
      · exact fun k hk h => by have := hG k hk; have h2 : k = w.heap.size + 1 := h; omega
      · exact fun k hk h => by have := hG k hk; have h2 : k = w.heap.size + 1 := h; omega
      · exact fun k hk => by have := hG k hk; omega
    · exact (((B4.out.setCell (p := ⟨w.heap.size, 2, none⟩) (Nat.le_refl _) _).setCell (p := ⟨w.heap.size + 1, 0, none⟩) (by show w.heap.size ≤ w.heap.size + 1; omega) _).setCell (p := ⟨w.heap.size + 1, 1, none⟩) (by show w.heap.size ≤ w.heap.size + 1; omega) _).setCell (p := ⟨w.heap.size + 1, 2, none⟩) (by show w.heap.size ≤ w.heap.size + 1; omega) _
/-! ### A configuration that came in -/
theorem guests_of_rows : ∀ rows : List (List Value), (∀ r ∈ rows, WFits r [some .u64, some .u64]) → ∃ gs : GL, gs.length = rows.length ∧ okL gs ∧ rows.flatten = gs.flatMap (fun g => [.int .u64 g.f0, .int .u64 g.f1])
  | [], _ => ⟨[], rfl, rfl, rfl⟩
  | r :: rows, h => by
    obtain ⟨gs, h1, h2, h3⟩ := guests_of_rows rows (fun r hr => h r (List.mem_cons_of_mem _ hr))
    have hr := h r (List.mem_cons_self ..)
    obtain ⟨a, _, rfl, ha, hr⟩ := hr.int
    obtain ⟨b, _, rfl, hb, hr⟩ := hr.int
    obtain rfl := hr.nil
    obtain ⟨x, rfl, hx⟩ := nat_u64 ha
    obtain ⟨y, rfl, hy⟩ := nat_u64 hb
    have f1 : fit64 (x : Int) = true := by unfold fit64; simp only [Bool.and_eq_true, decide_eq_true_eq]; omega
    have f2 : fit64 (y : Int) = true := by unfold fit64; simp only [Bool.and_eq_true, decide_eq_true_eq]; omega
    refine ⟨⟨(x : Int), (y : Int)⟩ :: gs, by simp [h1], ?_, ?_⟩
    · unfold okL at h2 ⊢
      rw [List.all_cons, f1, f2, h2]
      rfl
    · rw [List.flatten_cons, List.flatMap_cons, h3]
theorem flat_at : ∀ (gs : GL) (j : Nat) (g : S53), gs[j]? = some g → ∀ i u, ([.int .u64 g.f0, .int .u64 g.f1] : List Value)[i]? = some u → (gs.flatMap (fun g => ([.int .u64 g.f0, .int .u64 g.f1] : List Value)))[j * 2 + i]? = some u
  | [], j, g, h, _, _, _ => by simp at h
  | y :: gs, 0, g, h, i, u, hu => by
    simp at h
    subst h
    have hi : i < 2 := by have := (List.getElem?_eq_some_iff.1 hu).1; simpa using this
    simp only [List.flatMap_cons]
    rw [Nat.zero_mul, Nat.zero_add, List.getElem?_append_left (by simpa using hi)]
    exact hu
  | y :: gs, j + 1, g, h, i, u, hu => by
    simp only [List.flatMap_cons]
    rw [List.getElem?_append_right (by simp; omega)]
    have := flat_at gs j g (by simpa using h) i u hu
    rw [← this]
    congr 1
    simp
    omega
theorem guests_of_rd {W : World} {v : Value} {gs : GL} (h : Rd W v gs.length (gs.flatMap (fun g => [.int .u64 g.f0, .int .u64 g.f1]))) : ∃ A c, v = .slice A gs.length c ∧ Kd.C k53 W A gs.length gs ∧ gs.length ≤ c := by
  obtain ⟨A, c, rfl, h1, h2, h3, h4⟩ := h
  refine ⟨A, c, rfl, ⟨rfl, by unfold maxLen at h2; omega, fun hpos => ?_⟩, h1⟩
  cases A with
  | none => have := (h3 rfl).1; omega
  | some ad => exact ⟨ad, rfl, fun j p hp => ⟨[.int .u64 p.f0, .int .u64 p.f1], rfl, k53_mk W p, fun i u hu => h4 ad rfl _ u (flat_at gs j p hp i u hu)⟩⟩
theorem open_config {H : Type} {enc : TypeId × Value → H} {W : World} {r : Reach} {b0 : Nat} {v : Value} {d : DataW H} {ps : List MemPlace} (hv : Value.okWide Try.prog W r b0 25 v) (h : DataW.Trod enc Try.prog W 0 (fun _ => true) true 25 v d ps) :
    ∃ (ram slice : Nat) (A : Option Addr) (c : Nat) (gs : GL), v = .agg #[.int .u64 (ram : Int), .int .u64 (slice : Int), .slice A gs.length c] ∧ ram < 18446744073709551616 ∧ slice < 18446744073709551616 ∧ Kd.C k53 W A gs.length gs ∧ gs.length ≤ c ∧ okL gs := by
  obtain ⟨c0, c1, c2, y0, y1, y2, m, rfl, _, _, hy0, hy1, hy2⟩ := Joins.open_agg3 Try.underlying25 (by kernel_rfl) (by kernel_rfl) hv h
  obtain ⟨n0, e0, _, w0⟩ := DataW.trod_int Try.underlying22 hy0
  obtain ⟨n1, e1, _, w1⟩ := DataW.trod_int Try.underlying22 hy1
  obtain rfl := (List.cons.inj e0).1
  obtain rfl := (List.cons.inj e1).1
  obtain ⟨ram, rfl, hr⟩ := nat_u64 w0
  obtain ⟨slice, rfl, hs⟩ := nat_u64 w1
  have hsl : ∃ a l c, c2 = .slice a l c := by
    rcases Deep.open_slice Try.underlying23 hy2 with ⟨hcs, _⟩ | ⟨a, len, cap, _, _, _, _, hcs, _⟩
    · exact ⟨_, _, _, (List.cons.inj hcs).1⟩
    · exact ⟨_, _, _, (List.cons.inj hcs).1⟩
  obtain ⟨a, l, c, rfl⟩ := hsl
  obtain ⟨rows, hr0, hw0⟩ := open_rows 3 Try.underlying23 (e := 53) (by kernel_rfl) ⟨a, l, c, rfl⟩ ⟨m, hy2⟩
  rw [show kindsOf Try.prog 3 53 = [some .u64, some .u64] from by kernel_rfl] at hw0
  obtain ⟨gs, h1, h2, h3⟩ := guests_of_rows rows hw0
  rw [h3, ← h1] at hr0
  obtain ⟨A, c', e2, h4, h5⟩ := guests_of_rd hr0
  exact ⟨ram, slice, A, c', gs, by rw [e2], hr, hs, h4, h5, h2⟩
/-! ### Guests are compared; a copied row is a row of guests -/
theorem guest_eq_run (x y x' y' : Int) (w : World) : (binOp .eql 53 (.agg #[.int .u64 x, .int .u64 y]) (.agg #[.int .u64 x', .int .u64 y'])).run Try.prog w = .ok (.bool (x == x' && y == y')) w ∧
    (binOp .neq 53 (.agg #[.int .u64 x, .int .u64 y]) (.agg #[.int .u64 x', .int .u64 y'])).run Try.prog w = .ok (.bool (!(x == x' && y == y'))) w := by
  have h := run_eql_plain (P := Try.prog) w 5 53 [.int .u64 x, .int .u64 y] [.int .u64 x', .int .u64 y'] (by omega) (by kernel_rfl) (by rw [show kindsOf Try.prog 5 53 = [some .u64, some .u64] from by kernel_rfl]; simp [Fits]) (by rw [show kindsOf Try.prog 5 53 = [some .u64, some .u64] from by kernel_rfl]; simp [Fits]) ⟨_, .inl Try.underlying53⟩
  have e : cellsEq [.int .u64 x, .int .u64 y] [.int .u64 x', .int .u64 y'] = (x == x' && y == y') := by simp [cellsEq, cellEq]
  rw [e] at h
  exact h
theorem kd_of_own {W : World} {g o cap : Nat} {l : GL} {G : Nat → Prop} (h : Own W 53 2 (.slice (some ⟨g, o, none⟩) (l.length + 1) cap) (l.length + 1) (gcells l ++ [.int .u64 77, .int .u64 0]) G) : Kd.C k53 W (some ⟨g, o, none⟩) l.length l := by
  obtain ⟨g', o', c', hv, h1, h2, _, _, hcell, _⟩ := h.at_ (by omega)
  injection hv with e1 _ e3
  injection e1 with e1
  injection e1 with e1 e2 _
  subst e1 e2 e3
  have hrd : Rd W (.slice (some ⟨g, o, none⟩) l.length cap) l.length (gcells l) :=
    ⟨_, cap, rfl, by omega, by omega, fun h => (by cases h), fun ad had j u hu => by
      cases had
      rw [addr_add]
      exact hcell j u (by rw [List.getElem?_append_left (List.getElem?_eq_some_iff.1 hu).1]; exact hu)⟩
  obtain ⟨A, c, hA, hk, _⟩ := guests_of_rd hrd
  injection hA with q
  rw [q]
  exact hk
theorem func_not_nil (cb : Array Value) (W : World) : (binOp .eql 50 (.func (.func 42) #[] cb) .nilFunc).run Try.prog W = .ok (.bool false) W := by
  have hu := Try.underlying50
  have hm : Op.maxDepth = 9999 + 1 := rfl
  simp only [binOp, Op.equal]
  rw [hm]
  unfold Op.equalIn
  simp [hu]
/-! ### ConfChecks: by hand -/
/-- What stands fast in the law: the configuration's box, the copy's box, the copied row with its marked room, and nothing that lay has turned. -/
structure CkAt (w W : World) (b3 : Nat) (cv ov : Array Value) (vf : Value) (l : GL) : Prop where
  c : Blk W w.heap.size 25 cv
  o : Blk W b3 25 ov
  f : Own W 53 2 vf (l.length + 1) (gcells l ++ [.int .u64 77, .int .u64 0]) (fun k => w.heap.size ≤ k)
  b : Below w.heap.size w W
  h : w.heap.size ≤ b3
theorem CkAt.step {w W W' : World} {b3 : Nat} {cv ov : Array Value} {vf : Value} {l : GL} (h : CkAt w W b3 cv ov vf l) (hb : Below W.heap.size W W') : CkAt w W' b3 cv ov vf l :=
  ⟨(hb.block _ h.c.lt).trans h.c, (hb.block _ h.o.lt).trans h.o, h.f.fr (Fr.of_below hb No) (fun _ _ h => h), h.b.trans (hb.mono h.b.size), h.h⟩
set_option maxRecDepth 100000 in
set_option maxHeartbeats 4000000 in
theorem ConfChecks_c (k : Nat) (ram slice : Nat) (A : Option Addr) (c : Nat) (l : GL) (w : World) (hr : Kd.C k53 w A l.length l) (hc : l.length ≤ c) (ok : okL l) (hram : ram < 18446744073709551616) (hslice : slice < 18446744073709551616)
    (m e : Int) (fr wz : Int) (acc : Bool) (hawake : mezzaninelaw25_awake.f k = some true) (hcheck : conf_Check.f k (ram : Int) (slice : Int) l = some (m, e)) (hcheckr : mezzanineref25_Check.f k (ram : Int) (slice : Int) l = some (m, e)) (hfree : conf_Free.f k (ram : Int) (slice : Int) l = some fr)
    (hwhose : l.length ≤ 100 → conf_Whose.f (ram : Int) (slice : Int) l 2148532224 = some wz) (hacc : conf_accepted.f k (ram : Int) (slice : Int) l = some acc) (h12 : acc = true → l.length ≤ 12 ∧ 0 < l.length) :
    Calls Try.prog 5 #[.agg #[.int .u64 ram, .int .u64 slice, .slice A l.length c]] w fun e w' => e = .returned (.bool true) ∧ Below w.heap.size w w' := by
  have HR := Lib.hid hr
  have HC := Lib.hid hc
  have HA := Lib.hid hawake
  have HK := Lib.hid hcheck
  have HKR := Lib.hid hcheckr
  have HF := Lib.hid hfree
  have HW := Lib.hid hwhose
  have HAC := Lib.hid hacc
  have H12 := Lib.hid h12
  obtain ⟨R, hR⟩ : ∃ R : Int, R = (ram : Int) := ⟨_, rfl⟩
  obtain ⟨S, hS⟩ : ∃ S : Int, S = (slice : Int) := ⟨_, rfl⟩
  rw [← hR, ← hS] at HK HKR HF HW HAC ⊢
  obtain ⟨n, hn⟩ : ∃ n, n = l.length := ⟨_, rfl⟩
  rw [← hn]
  have HN := Lib.hid hn
  have OK := Lib.hid ok
  clear hr hc hawake hcheck hcheckr hfree hwhose hacc h12 hR hS ok hram hslice hn
  have hb1 : Below w.heap.size w (w.alloc (.cells #[.int .u64 R, .int .u64 S, .slice A n c] 25)) := (Below.refl _ w).alloc (Nat.le_refl _) _
  have HB1 := Lib.hid hb1
  have E1 := Lib.hid (Blk.new w 25 #[.int .u64 R, .int .u64 S, .slice A n c])
  clear hb1
  go_enter Try.func5, Try.ntmps5
  go_wp2_with fail
  refine (mezzaninelaw25_awake.calls k true _ HA.out).mono ?_
  rintro e1 w2 ⟨rfl, hb2⟩
  have hE2 : Blk w2 w.heap.size 25 #[.int .u64 R, .int .u64 S, .slice A n c] := (hb2.block _ E1.out.lt).trans E1.out
  have E2 := Lib.hid hE2
  have B2 := Lib.hid (HB1.out.trans (hb2.mono HB1.out.size))
  have c0 : w2.cell? ⟨w.heap.size, 0, none⟩ = some (.int .u64 R) := hE2.cell 0
  have c1 : w2.cell? ⟨w.heap.size, 1, none⟩ = some (.int .u64 S) := hE2.cell 1
  have c2 : w2.cell? ⟨w.heap.size, 2, none⟩ = some (.slice A n c) := hE2.cell 2
  clear hb2 hE2 E1 HB1
  by_cases hlen : n ≤ 100
  case neg =>
    go_wp2_with fail
    go_ret
    exact ⟨rfl, B2.out⟩
  go_wp2_with fail
  rw [HN.out]
  refine (copied_c R S A c l w2 (Kd.C_below HR.out B2.out) (by rw [← HN.out]; exact hlen)).mono ?_
  rintro e1 w3 ⟨g, o, cap, rfl, hO3, hcap, hb3⟩
  rw [← HN.out]
  rw [← HN.out] at hcap
  obtain ⟨b3, hb3e⟩ : ∃ b3, b3 = w3.heap.size := ⟨_, rfl⟩
  have hK4 : CkAt w (w3.alloc (.cells #[.int .u64 R, .int .u64 S, .slice (some ⟨g, o, none⟩) n cap] 25)) b3 #[.int .u64 R, .int .u64 S, .slice A n c] #[.int .u64 R, .int .u64 S, .slice (some ⟨g, o, none⟩) n cap] (.slice (some ⟨g, o, none⟩) (l.length + 1) cap) l :=
    ⟨Blk.alloc (show Blk w3 w.heap.size 25 #[.int .u64 R, .int .u64 S, .slice A n c] from (hb3.block _ E2.out.lt).trans E2.out) _, by rw [hb3e]; exact Blk.new w3 _ _, (hO3.mono (fun k hk => Nat.le_trans B2.out.size hk)).fr ((Fr.refl No w3).alloc _) (fun _ _ h => h), (B2.out.trans (hb3.mono B2.out.size)).alloc (Nat.le_trans B2.out.size hb3.size) _, by rw [hb3e]; exact Nat.le_trans B2.out.size hb3.size⟩
  have K4 := Lib.hid hK4
  have c0' : (w3.alloc (.cells #[.int .u64 R, .int .u64 S, .slice (some ⟨g, o, none⟩) n cap] 25)).cell? ⟨w.heap.size, 0, none⟩ = some (.int .u64 R) := hK4.c.cell 0
  have c1' : (w3.alloc (.cells #[.int .u64 R, .int .u64 S, .slice (some ⟨g, o, none⟩) n cap] 25)).cell? ⟨w.heap.size, 1, none⟩ = some (.int .u64 S) := hK4.c.cell 1
  have c2' : (w3.alloc (.cells #[.int .u64 R, .int .u64 S, .slice (some ⟨g, o, none⟩) n cap] 25)).cell? ⟨w.heap.size, 2, none⟩ = some (.slice A n c) := hK4.c.cell 2
  clear hO3 hb3 hK4 E2 c0 c1 c2
  go_wp2_with fail
  rw [← hb3e]
  obtain ⟨w4, hw4⟩ : ∃ w4, w4 = w3.alloc (.cells #[.int .u64 R, .int .u64 S, .slice (some ⟨g, o, none⟩) n cap] 25) := ⟨_, rfl⟩
  rw [← hw4] at K4 ⊢
  clear hw4
  have HCAP := Lib.hid hcap
  clear hb3e c0' c1' c2'
  rw [HN.out]
  refine (conf_Check.calls k R S (some ⟨g, o, none⟩) cap l m e _ (kd_of_own K4.out.f) (by have := HCAP.out; have := HN.out; omega) HK.out).mono ?_
  rintro e1 w5 ⟨rfl, hb⟩
  rw [← HN.out]
  have hK := K4.out.step hb
  have K5 := Lib.hid hK
  have c0 : w5.cell? ⟨w.heap.size, 0, none⟩ = some (.int .u64 R) := hK.c.cell 0
  have c1 : w5.cell? ⟨w.heap.size, 1, none⟩ = some (.int .u64 S) := hK.c.cell 1
  have c2 : w5.cell? ⟨w.heap.size, 2, none⟩ = some (.slice A n c) := hK.c.cell 2
  have o0 : w5.cell? ⟨b3, 0, none⟩ = some (.int .u64 R) := hK.o.cell 0
  have o1 : w5.cell? ⟨b3, 1, none⟩ = some (.int .u64 S) := hK.o.cell 1
  have o2 : w5.cell? ⟨b3, 2, none⟩ = some (.slice (some ⟨g, o, none⟩) n cap) := hK.o.cell 2
  clear hb hK K4
  go_wp2_with fail
  clear c0 c1 c2 o0 o1 o2
  rw [HN.out]
  refine (mezzanineref25_Check.calls k R S A c l m e _ (Kd.C_below HR.out K5.out.b) HC.out HKR.out).mono ?_
  rintro e1 w6 ⟨rfl, hb⟩
  rw [← HN.out]
  have hK := K5.out.step hb
  have K6 := Lib.hid hK
  have c0 : w6.cell? ⟨w.heap.size, 0, none⟩ = some (.int .u64 R) := hK.c.cell 0
  have c1 : w6.cell? ⟨w.heap.size, 1, none⟩ = some (.int .u64 S) := hK.c.cell 1
  have c2 : w6.cell? ⟨w.heap.size, 2, none⟩ = some (.slice A n c) := hK.c.cell 2
  have o0 : w6.cell? ⟨b3, 0, none⟩ = some (.int .u64 R) := hK.o.cell 0
  have o1 : w6.cell? ⟨b3, 1, none⟩ = some (.int .u64 S) := hK.o.cell 1
  have o2 : w6.cell? ⟨b3, 2, none⟩ = some (.slice (some ⟨g, o, none⟩) n cap) := hK.o.cell 2
  clear hb hK K5
  go_wp2_with fail
  clear c0 c1 c2 o0 o1 o2
  rw [HN.out]
  refine (conf_Free.calls k R S (some ⟨g, o, none⟩) cap l fr _ (kd_of_own K6.out.f) (by have := HCAP.out; have := HN.out; omega) HF.out).mono ?_
  rintro e1 w7 ⟨rfl, hb⟩
  rw [← HN.out]
  have hK := K6.out.step hb
  have K7 := Lib.hid hK
  have c0 : w7.cell? ⟨w.heap.size, 0, none⟩ = some (.int .u64 R) := hK.c.cell 0
  have c1 : w7.cell? ⟨w.heap.size, 1, none⟩ = some (.int .u64 S) := hK.c.cell 1
  have c2 : w7.cell? ⟨w.heap.size, 2, none⟩ = some (.slice A n c) := hK.c.cell 2
  have o0 : w7.cell? ⟨b3, 0, none⟩ = some (.int .u64 R) := hK.o.cell 0
  have o1 : w7.cell? ⟨b3, 1, none⟩ = some (.int .u64 S) := hK.o.cell 1
  have o2 : w7.cell? ⟨b3, 2, none⟩ = some (.slice (some ⟨g, o, none⟩) n cap) := hK.o.cell 2
  clear hb hK K6
  go_wp2_with fail
  clear c0 c1 c2 o0 o1 o2
  rw [HN.out]
  refine (conf_Whose.calls R S (some ⟨g, o, none⟩) cap l 2148532224 wz _ (kd_of_own K7.out.f) (by have := HCAP.out; have := HN.out; omega) (HW.out (by rw [← HN.out]; exact hlen))).mono ?_
  rintro e1 w8 ⟨rfl, hb⟩
  rw [← HN.out]
  have hK := K7.out.step hb
  have K8 := Lib.hid hK
  have c0 : w8.cell? ⟨w.heap.size, 0, none⟩ = some (.int .u64 R) := hK.c.cell 0
  have c1 : w8.cell? ⟨w.heap.size, 1, none⟩ = some (.int .u64 S) := hK.c.cell 1
  have c2 : w8.cell? ⟨w.heap.size, 2, none⟩ = some (.slice A n c) := hK.c.cell 2
  have o0 : w8.cell? ⟨b3, 0, none⟩ = some (.int .u64 R) := hK.o.cell 0
  have o1 : w8.cell? ⟨b3, 1, none⟩ = some (.int .u64 S) := hK.o.cell 1
  have o2 : w8.cell? ⟨b3, 2, none⟩ = some (.slice (some ⟨g, o, none⟩) n cap) := hK.o.cell 2
  clear hb hK K7
  go_wp2_with fail
  clear c0 c1 c2 o0 o1 o2
  rw [HN.out]
  refine (all_c k R S (some ⟨g, o, none⟩) cap l acc _ (kd_of_own K8.out.f) (by have := HCAP.out; have := HN.out; omega) (by rw [← HN.out]; exact hlen) HAC.out H12.out).mono ?_
  rintro e1 w9 ⟨Bo, Bw, ord, rfl, _, _, hb⟩
  rw [← HN.out]
  have hK := K8.out.step hb
  have K9 := Lib.hid hK
  have c0 : w9.cell? ⟨w.heap.size, 0, none⟩ = some (.int .u64 R) := hK.c.cell 0
  have c1 : w9.cell? ⟨w.heap.size, 1, none⟩ = some (.int .u64 S) := hK.c.cell 1
  have c2 : w9.cell? ⟨w.heap.size, 2, none⟩ = some (.slice A n c) := hK.c.cell 2
  have o0 : w9.cell? ⟨b3, 0, none⟩ = some (.int .u64 R) := hK.o.cell 0
  have o1 : w9.cell? ⟨b3, 1, none⟩ = some (.int .u64 S) := hK.o.cell 1
  have o2 : w9.cell? ⟨b3, 2, none⟩ = some (.slice (some ⟨g, o, none⟩) n cap) := hK.o.cell 2
  clear hb hK K8
  have hq := func_not_nil #[.pointer (some ⟨Bo, 0, none⟩), .pointer (some ⟨Bw, 0, none⟩)] w9
  go_wp2_with fail
  clear hq c0 c1 c2 o0 o1 o2
  go_loopw [10] (fun p wr => ∃ i : Nat, i ≤ n ∧ p = .int .i64 (i : Int) ∧ Hid (CkAt w wr b3 #[.int .u64 R, .int .u64 S, .slice A n c] #[.int .u64 R, .int .u64 S, .slice (some ⟨g, o, none⟩) n cap] (.slice (some ⟨g, o, none⟩) (l.length + 1) cap) l)) (fun p _ => n - (intOf p).toNat)
  case atStart => exact ⟨0, Nat.zero_le _, rfl, K9⟩
  case round =>
    obtain ⟨i, hi, rfl, HK9⟩ := hrel
    have c2 : wr.cell? ⟨w.heap.size, 2, none⟩ = some (.slice A n c) := HK9.out.c.cell 2
    obtain ⟨g', o', cap', hv, _, _, _, _, hcell, _⟩ := HK9.out.f.at_ (by omega)
    injection hv with e1 _ e3
    injection e1 with e1
    injection e1 with e1 e2 _
    subst e1 e2 e3
    by_cases hlt : i < n
    · have hil : i < l.length := by have := HN.out; omega
      obtain ⟨x, y, q1, _, _, q2, _⟩ := OK.out.get hil
      obtain ⟨ga, oa, hA, _, q3, q4⟩ := bars_cells (Kd.C_below HR.out HK9.out.b) OK.out i hil
      have q5 : (l.map toCG).getD i ⟨0, 0⟩ = ⟨x, y⟩ := by rw [List.getD_eq_getElem?_getD, q2]; rfl
      rw [q5] at q3 q4
      simp only at q3 q4
      have q6 : wr.cell? ⟨g, o + i * 2, none⟩ = some (.int .u64 (x : Int)) := by
        refine hcell _ _ ?_
        rw [List.getElem?_append_left (by rw [gcells_len]; omega), (gcells_get hil).1, q1]
      have q7 : wr.cell? ⟨g, o + i * 2 + 1, none⟩ = some (.int .u64 (y : Int)) := by
        refine (show wr.cell? ⟨g, o + (i * 2 + 1), none⟩ = _ from hcell _ _ ?_)
        rw [List.getElem?_append_left (by rw [gcells_len]; omega), (gcells_get hil).2, q1]
      have hneq : ∀ W, (binOp .neq 53 (.agg #[.int .u64 (x : Int), .int .u64 (y : Int)]) (.agg #[.int .u64 (x : Int), .int .u64 (y : Int)])).run Try.prog W = .ok (.bool false) W := fun W => by
        have := (guest_eq_run (x : Int) (y : Int) (x : Int) (y : Int) W).2
        simpa using this
      obtain ⟨X, hX⟩ : ∃ X : Int, X = (x : Int) := ⟨_, rfl⟩
      obtain ⟨Y, hY⟩ : ∃ Y : Int, Y = (y : Int) := ⟨_, rfl⟩
      rw [← hX, ← hY] at hneq
      rw [← hX] at q3 q6
      rw [← hY] at q4 q7
      clear hX hY q1 q2 q5 hcell hil
      rw [hA] at c2 ⊢
      have hi100 : i < 100 := by omega
      go_wp2_with fail
      go_quiet (fail)
      go_wp2_with fail
      have hK := HK9.out.step (((Fr.refl No wr).drewN nq).below (B := wr.heap.size) (Nat.le_refl _) (fun _ _ h => h))
      rw [hA] at hK
      exact ⟨⟨i + 1, hlt, by simp, Lib.hid hK⟩, by simp [intOf]; omega⟩
    · obtain rfl : i = n := by omega
      have q6 : wr.cell? ⟨g, o + i * 2, none⟩ = some (.int .u64 77) := by
        refine hcell _ _ ?_
        rw [List.getElem?_append_right (by rw [gcells_len, ← HN.out]; exact Nat.le_refl _), gcells_len, ← HN.out, Nat.sub_self]
        rfl
      have q7 : wr.cell? ⟨g, o + i * 2 + 1, none⟩ = some (.int .u64 0) := by
        refine (show wr.cell? ⟨g, o + (i * 2 + 1), none⟩ = _ from hcell _ _ ?_)
        rw [List.getElem?_append_right (by rw [gcells_len, ← HN.out]; omega), gcells_len, ← HN.out, show i * 2 + 1 - i * 2 = 1 by omega]
        rfl
      have heq : (binOp .eql 53 (.agg #[.int .u64 77, .int .u64 0]) (.agg #[.int .u64 77, .int .u64 0])).run Try.prog wr = .ok (.bool true) wr := by
        have := (guest_eq_run 77 0 77 0 wr).1
        simpa using this
      clear hcell
      go_wp2_with fail
      go_ret
      exact ⟨rfl, HK9.out.b⟩
theorem wrapu {x : Int} (h0 : 0 ≤ x) (h : x < 18446744073709551616) : IntKind.u64.wrap x = x := by rw [IntKind.wrap_u64]; omega
theorem has_f (g : CG) (hs : g.base + g.size < 18446744073709551616) (a : Nat) : mezzanineref25_Has.f (g.base : Int) (g.size : Int) (a : Int) = some (g.has a) := by
  unfold mezzanineref25_Has.f CG.has
  rw [wrapu (by omega) (by omega)]
  by_cases c1 : (a : Int) ≥ (g.base : Int)
  · rw [if_pos c1, decide_eq_true (p := g.base ≤ a) (by omega), Bool.true_and]
    congr 1
    rw [decide_eq_decide]
    omega
  · rw [if_neg c1, decide_eq_false (p := g.base ≤ a) (by omega), Bool.false_and]
/-- What bars a guest, behind others that are all right. -/
structure Fine (ram : Nat) (gs : GL) (i : Nat) : Prop where
  ok : okL gs
  hi : i < gs.length
  h8 : gs.length ≤ 8
  rle : ram ≤ 67108864
  pages : ram % 4096 = 0
  all : ∀ j, j < i → ∃ o : CG, (gs.map toCG)[j]? = some o ∧ rd_T53 gs (j : Int) = ⟨(o.base : Int), (o.size : Int)⟩ ∧ o.size % 4096 = 0 ∧ 0 < o.size ∧ o.base % 4096 = 0 ∧ o.base + o.size ≤ 2147483648 + ram
theorem Fine.mk_ {ram slice : Nat} {gs : GL} {i : Nat} (ok : okL gs) (hi : i < gs.length) (h8 : gs.length ≤ 8) (hr : ram ≤ 67108864) (hp : ram % 4096 = 0) (hz : ∀ j, j < i → (csOf ram slice gs).barAt j = 0) : Fine ram gs i := by
  refine ⟨ok, hi, h8, hr, hp, fun j hj => ?_⟩
  obtain ⟨o, ho, e1, e2, e3⟩ := ok.at_ (show j < gs.length by omega)
  have h := hz j hj
  unfold CS.barAt csOf at h
  rw [e1] at h
  obtain ⟨h1, h2, h3, h4, h5, h6, _⟩ := CG.bars_zero h
  exact ⟨o, e2, e3, h3, h1, h4, h6⟩
/-- The inner loop: does one of the first guests have a page? -/
theorem guest_l2 {ram : Nat} {gs : GL} {i : Nat} (F : Fine ram gs i) (g : CG) (p : Nat) (s : Int) (hp : g.base + p < 4294967296) (R : Int)
    (hnext : (∀ o ∈ (gs.map toCG).take i, o.has (g.base + p) = false) → Ev (fun k => mezzanineref25_guest.l1 k (i : Int) (IntKind.u64.wrap ((p : Int) + 4096)) (ram : Int) s gs (g.base : Int) (g.size : Int)) R)
    (hhit : (∃ o ∈ (gs.map toCG).take i, o.has (g.base + p) = true) → R = 254) :
    ∀ (r j : Nat), j + r = i → (∀ m o, m < j → (gs.map toCG)[m]? = some o → o.has (g.base + p) = false) →
    Ev (fun k => mezzanineref25_guest.l2 k (i : Int) (p : Int) (j : Int) (ram : Int) s gs (g.base : Int) (g.size : Int)) R
  | 0, j, e, hn => by
    refine Ev.step (fun k => mezzanineref25_guest.l2.eq_2 ..) ?_
    simp only [if_neg (show ¬ (j : Int) < (i : Int) by omega)]
    refine hnext fun o ho => ?_
    obtain ⟨m, hm⟩ := List.mem_iff_getElem?.1 ho
    rw [List.getElem?_take] at hm
    split at hm
    · exact hn m o (by omega) hm
    · cases hm
  | r + 1, j, e, hn => by
    obtain ⟨o, h1, h2, h3, h4, h5, h6⟩ := F.all j (by omega)
    have hi := F.hi
    have hr := F.rle
    refine Ev.step (fun k => mezzanineref25_guest.l2.eq_2 ..) ?_
    have e1 : IntKind.u64.wrap ((g.base : Int) + (p : Int)) = ((g.base + p : Nat) : Int) := by rw [wrapu (by omega) (by omega)]; omega
    simp only [if_pos (show (j : Int) < (i : Int) by omega), if_pos (show (0 : Int) ≤ (j : Int) by omega), if_pos (show (j : Int) < (gs.length : Int) by omega), h2, e1, has_f o (by omega), Option.bind_some]
    cases hh : o.has (g.base + p)
    · simp only [Bool.false_eq_true, if_false, wrap64_up j (by have := F.h8; omega)]
      refine guest_l2 F g p s hp R hnext hhit r (j + 1) (by omega) fun m o' hm ho' => ?_
      by_cases q : m = j
      · subst q
        rw [h1] at ho'
        obtain rfl := Option.some.inj ho'
        exact hh
      · exact hn m o' (by omega) ho'
    · simp only [if_true]
      rw [hhit ⟨o, List.mem_iff_getElem?.2 ⟨j, by rw [List.getElem?_take, if_pos (by omega)]; exact h1⟩, hh⟩]
      exact Ev.now _
/-- The loop over pages, for those that meet. -/
theorem guest_l1 {ram : Nat} {gs : GL} {i : Nat} (F : Fine ram gs i) (g : CG) (s : Int) (hz : g.size % 4096 = 0) (hb : g.base + g.size ≤ 2147483648 + ram) (R : Int)
    (hno : (∀ k, 4096 * k < g.size → ∀ o ∈ (gs.map toCG).take i, o.has (g.base + 4096 * k) = false) → R = 0)
    (hyes : (∃ k, 4096 * k < g.size ∧ ∃ o ∈ (gs.map toCG).take i, o.has (g.base + 4096 * k) = true) → R = 254) :
    ∀ (r m : Nat), 4096 * (m + r) = g.size → (∀ k, k < m → ∀ o ∈ (gs.map toCG).take i, o.has (g.base + 4096 * k) = false) →
    Ev (fun k => mezzanineref25_guest.l1 k (i : Int) ((4096 * m : Nat) : Int) (ram : Int) s gs (g.base : Int) (g.size : Int)) R
  | 0, m, e, hn => by
    refine Ev.step (fun k => mezzanineref25_guest.l1.eq_2 ..) ?_
    simp only [if_neg (show ¬ ((4096 * m : Nat) : Int) < (g.size : Int) by omega)]
    rw [hno fun k hk => hn k (by omega)]
    exact Ev.now _
  | r + 1, m, e, hn => by
    have hr := F.rle
    refine Ev.step (fun k => mezzanineref25_guest.l1.eq_2 ..) ?_
    simp only [if_pos (show ((4096 * m : Nat) : Int) < (g.size : Int) by omega)]
    refine guest_l2 F g (4096 * m) s (by omega) R (fun hall => ?_) (fun ⟨o, ho, h1⟩ => hyes ⟨m, by omega, o, ho, h1⟩) i 0 (by omega) (fun _ _ h => by omega)
    rw [show IntKind.u64.wrap (((4096 * m : Nat) : Int) + 4096) = ((4096 * (m + 1) : Nat) : Int) by rw [wrapu (by omega) (by omega)]; omega]
    refine guest_l1 F g s hz hb R hno hyes r (m + 1) (by omega) fun k hk => ?_
    by_cases q : k = m
    · rw [q]; exact hall
    · exact hn k (by omega)
/-- The loop over pages, for their places. -/
theorem guest_l0 {ram : Nat} {gs : GL} {i : Nat} (F : Fine ram gs i) (g : CG) (s : Int) (hz : g.size % 4096 = 0) (h2 : g.size ≤ 2097152) (h3 : 0 < g.size) (h4 : g.base % 4096 = 0) (h5 : g.base < 18446744073709551616) (R : Int)
    (hbad : g.lies ram = false → R = 253) (hgood : g.lies ram = true → Ev (fun k => mezzanineref25_guest.l1 k (i : Int) 0 (ram : Int) s gs (g.base : Int) (g.size : Int)) R) :
    ∀ (r m : Nat), 4096 * (m + r) = g.size → (∀ k, k < m → 2148532224 ≤ g.base + 4096 * k ∧ g.base + 4096 * k < 2147483648 + ram) →
    Ev (fun k => mezzanineref25_guest.l0 k (i : Int) ((4096 * m : Nat) : Int) (ram : Int) s gs (g.base : Int) (g.size : Int)) R
  | 0, m, e, hn => by
    refine Ev.step (fun k => mezzanineref25_guest.l0.eq_2 ..) ?_
    simp only [if_neg (show ¬ ((4096 * m : Nat) : Int) < (g.size : Int) by omega)]
    exact hgood ((CG.lies_pages h3 hz h4 F.pages).2 fun k hk => hn k (by omega))
  | r + 1, m, e, hn => by
    have hr := F.rle
    refine Ev.step (fun k => mezzanineref25_guest.l0.eq_2 ..) ?_
    have hlies := CG.lies_pages (g := g) h3 hz h4 F.pages
    have bad : ¬ (2148532224 ≤ g.base + 4096 * m ∧ g.base + 4096 * m < 2147483648 + ram) → R = 253 := fun hq => hbad (by
      cases hl : g.lies ram
      · rfl
      · exact absurd (hlies.1 hl m (by omega)) hq)
    have e1 : IntKind.u64.wrap (2147483648 + (ram : Int)) = 2147483648 + (ram : Int) := wrapu (by omega) (by omega)
    obtain ⟨x, hx, hx2⟩ : ∃ x : Nat, IntKind.u64.wrap ((g.base : Int) + ((4096 * m : Nat) : Int)) = (x : Int) ∧ (x = g.base + 4096 * m ∨ (2148532224 > x ∧ ¬ (g.base + 4096 * m < 2147483648 + ram))) := by
      refine ⟨(g.base + 4096 * m) % 18446744073709551616, by rw [IntKind.wrap_u64]; omega, ?_⟩
      omega
    simp only [if_pos (show ((4096 * m : Nat) : Int) < (g.size : Int) by omega), hx, e1]
    by_cases c1 : (x : Int) < 2148532224
    · simp only [if_pos c1]
      rw [bad (by omega)]
      exact Ev.now _
    · simp only [if_neg c1]
      by_cases c2 : (x : Int) ≥ 2147483648 + (ram : Int)
      · simp only [if_pos c2]
        rw [bad (by omega)]
        exact Ev.now _
      · simp only [if_neg c2]
        rw [show IntKind.u64.wrap (((4096 * m : Nat) : Int) + 4096) = ((4096 * (m + 1) : Nat) : Int) by rw [wrapu (by omega) (by omega)]; omega]
        refine guest_l0 F g s hz h2 h3 h4 h5 R hbad hgood r (m + 1) (by omega) fun k hk => ?_
        by_cases q : k = m
        · rw [q]; omega
        · exact hn k (by omega)
theorem guest_ref {ram slice : Nat} {gs : GL} {i : Nat} (F : Fine ram gs i) : Ev (fun k => mezzanineref25_guest.f k (ram : Int) (slice : Int) gs (i : Int)) (((csOf ram slice gs).barAt i : Nat) : Int) := by
  obtain ⟨g, hg, e1, e2, e3⟩ := F.ok.at_ F.hi
  have hi := F.hi
  have hbase := hg.base
  have hsize := hg.size
  have hR : (csOf ram slice gs).barAt i = g.bars ram ((gs.map toCG).take i) := by unfold CS.barAt csOf; rw [e1]
  rw [hR]
  unfold mezzanineref25_guest.f
  simp only [if_pos (show (0 : Int) ≤ (i : Int) by omega), if_pos (show (i : Int) < (gs.length : Int) by omega), e3]
  have bad : ∀ n : Nat, n = 251 → Ev (fun k => mezzanineref25_guest.j0 k (i : Int) true (ram : Int) (slice : Int) gs (g.base : Int) (g.size : Int)) (n : Int) := fun n hn => by
    subst hn
    refine Ev.step (fun k => mezzanineref25_guest.j0.eq_2 ..) ?_
    simp only [if_true]
    exact Ev.now _
  by_cases c1 : g.size < 4096
  · simp only [if_pos (show (g.size : Int) < 4096 by omega)]
    exact bad _ (if_pos (by omega))
  · simp only [if_neg (show ¬ (g.size : Int) < 4096 by omega)]
    by_cases c2 : 2097152 < g.size
    · simp only [if_pos (show (g.size : Int) > 2097152 by omega)]
      exact bad _ (if_pos (by omega))
    · simp only [if_neg (show ¬ (g.size : Int) > 2097152 by omega)]
      have tm : ∀ x : Nat, Int.tmod (x : Int) 4096 = ((x % 4096 : Nat) : Int) := fun x => by rw [Int.tmod_eq_emod_of_nonneg (by omega)]; omega
      simp only [tm]
      by_cases c3 : g.size % 4096 = 0
      · simp only [show (((g.size % 4096 : Nat) : Int) != 0) = false by rw [bne_eq_false_iff_eq]; omega]
        refine Ev.step (fun k => mezzanineref25_guest.j0.eq_2 ..) ?_
        simp only [Bool.false_eq_true, if_false, tm]
        unfold CG.bars
        rw [if_neg (by omega)]
        by_cases c4 : g.base % 4096 = 0
        · simp only [if_pos (show ((g.base % 4096 : Nat) : Int) = 0 by omega)]
          rw [if_neg (by omega)]
          refine guest_l0 F g (slice : Int) c3 (by omega) (by omega) c4 hbase _ (fun hl => by rw [if_pos hl]; rfl) (fun hl => ?_) (g.size / 4096) 0 (by omega) (fun _ h => by omega)
          rw [if_neg (by rw [hl]; exact fun h => by cases h)]
          have hl2 := hl
          unfold CG.lies at hl2
          simp only [Bool.and_eq_true, decide_eq_true_eq] at hl2
          have meet : ∀ o ∈ (gs.map toCG).take i, (g.meets o = true ↔ ∃ k, 4096 * k < g.size ∧ o.has (g.base + 4096 * k) = true) := fun o ho => by
            obtain ⟨m, hm⟩ := List.mem_iff_getElem?.1 ho
            rw [List.getElem?_take] at hm
            split at hm
            case isFalse => cases hm
            rename_i hmi
            obtain ⟨o', q1, q2, q3, q4, q5, q6⟩ := F.all m hmi
            rw [q1] at hm
            obtain rfl := Option.some.inj hm
            exact CG.meets_pages F.rle F.pages (by omega) c3 c4 hl2.2 q3 q4 q5 q6
          refine guest_l1 F g (slice : Int) c3 hl2.2 _ (fun hno => ?_) (fun ⟨k, hk, o, ho, h1⟩ => ?_) (g.size / 4096) 0 (by omega) (fun _ h => by omega)
          · rw [if_neg]
            · rfl
            · intro hany
              obtain ⟨o, ho, h1⟩ := List.any_eq_true.1 hany
              obtain ⟨k, hk, h2⟩ := (meet o ho).1 h1
              rw [hno k hk o ho] at h2
              cases h2
          · rw [if_pos (List.any_eq_true.2 ⟨o, ho, (meet o ho).2 ⟨k, hk, h1⟩⟩)]
            rfl
        · simp only [if_neg (show ¬ ((g.base % 4096 : Nat) : Int) = 0 by omega)]
          rw [if_pos c4]
          exact Ev.now _
      · simp only [show (((g.size % 4096 : Nat) : Int) != 0) = true by rw [bne_iff_ne]; omega]
        exact bad _ (if_pos (by omega))
theorem check_loop_ref {gs : GL} (h : okL gs) (ram slice : Nat) (hr : ram ≤ 67108864) (hp : ram % 4096 = 0) (h8 : gs.length ≤ 8) : ∀ (r i : Nat), i + r = gs.length → (∀ j, j < i → (csOf ram slice gs).barAt j = 0) →
    Ev (fun k => mezzanineref25_Check.l0 k (i : Int) (ram : Int) (slice : Int) gs) (scanR (csOf ram slice gs) i r)
  | 0, i, e, hz => by
    refine Ev.step (fun k => mezzanineref25_Check.l0.eq_2 ..) ?_
    simp only [if_neg (show ¬ (i : Int) < (gs.length : Int) by omega)]
    exact Ev.now _
  | r + 1, i, e, hz => by
    have hg := guest_ref (slice := slice) (Fine.mk_ (slice := slice) h (show i < gs.length by omega) h8 hr hp hz)
    refine Ev.step (fun k => mezzanineref25_Check.l0.eq_2 ..) ?_
    simp only [if_pos (show (i : Int) < (gs.length : Int) by omega)]
    refine Ev.bind hg ?_
    unfold scanR scanQ
    by_cases hb : (csOf ram slice gs).barAt i = 0
    · rw [if_pos hb]
      simp only [if_pos (show (((csOf ram slice gs).barAt i : Nat) : Int) = 0 by omega), wrap64_up i (by omega)]
      refine check_loop_ref h ram slice hr hp h8 r (i + 1) (by omega) fun j hj => ?_
      by_cases q : j = i
      · rw [q]; exact hb
      · exact hz j (by omega)
    · rw [if_neg hb]
      simp only [if_neg (show ¬ (((csOf ram slice gs).barAt i : Nat) : Int) = 0 by omega)]
      exact Ev.now _
theorem tmodN (x y : Nat) : Int.tmod (x : Int) (y : Int) = ((x % y : Nat) : Int) := by rw [Int.tmod_eq_emod_of_nonneg (by omega)]; simp
/-- The document's check tells the plain one. -/
theorem check_ref {gs : GL} (h : okL gs) (ram slice : Nat) :
    Ev (fun k => mezzanineref25_Check.f k (ram : Int) (slice : Int) gs) ((csOf ram slice gs).check.1, ((csOf ram slice gs).check.2 : Int)) := by
  have hlen : (gs.map toCG).length = gs.length := List.length_map ..
  have tm : Int.tmod (ram : Int) 4096 = ((ram % 4096 : Nat) : Int) := tmodN ram 4096
  unfold mezzanineref25_Check.f CS.check
  simp only [tm]
  have bad : ∀ r : Int × Nat, r = (-1, 251) → Ev (fun k => mezzanineref25_Check.j0 k true (ram : Int) (slice : Int) gs) (r.1, (r.2 : Int)) := fun r hr => by
    subst hr
    refine Ev.step (fun k => mezzanineref25_Check.j0.eq_2 ..) ?_
    simp only [if_true]
    exact Ev.now _
  by_cases c1 : ram < 2097152
  · simp only [if_pos (show (ram : Int) < 2097152 by omega)]
    exact bad _ (if_pos (.inl c1))
  · simp only [if_neg (show ¬ (ram : Int) < 2097152 by omega)]
    by_cases c2 : 67108864 < ram
    · simp only [if_pos (show (ram : Int) > 67108864 by omega)]
      exact bad _ (if_pos (.inr (.inl c2)))
    · simp only [if_neg (show ¬ (ram : Int) > 67108864 by omega)]
      by_cases c3 : ram % 4096 = 0
      · have hbad1 : ¬ ((csOf ram slice gs).ram < 2097152 ∨ 67108864 < (csOf ram slice gs).ram ∨ (csOf ram slice gs).ram % 4096 ≠ 0) := by unfold csOf; simp only; omega
        simp only [show (((ram % 4096 : Nat) : Int) != 0) = false by rw [bne_eq_false_iff_eq]; omega]
        rw [if_neg hbad1]
        refine Ev.step (fun k => mezzanineref25_Check.j0.eq_2 ..) ?_
        simp only [Bool.false_eq_true, if_false]
        have bad2 : ∀ r : Int × Nat, r = (-1, 255) → Ev (fun k => mezzanineref25_Check.j1 k true (ram : Int) (slice : Int) gs) (r.1, (r.2 : Int)) := fun r hr => by
          subst hr
          refine Ev.step (fun k => mezzanineref25_Check.j1.eq_2 ..) ?_
          simp only [if_true]
          exact Ev.now _
        by_cases d1 : slice = 0
        · simp only [if_pos (show (slice : Int) < 1 by omega)]
          exact bad2 _ (if_pos (.inl d1))
        · simp only [if_neg (show ¬ (slice : Int) < 1 by omega)]
          by_cases d2 : 4294967296 < slice
          · simp only [decide_eq_true (show (slice : Int) > 4294967296 by omega)]
            exact bad2 _ (if_pos (.inr d2))
          · have hbad2 : ¬ ((csOf ram slice gs).slice = 0 ∨ 4294967296 < (csOf ram slice gs).slice) := by unfold csOf; simp only; omega
            simp only [decide_eq_false (show ¬ (slice : Int) > 4294967296 by omega)]
            rw [if_neg hbad2]
            refine Ev.step (fun k => mezzanineref25_Check.j1.eq_2 ..) ?_
            simp only [Bool.false_eq_true, if_false]
            have bad3 : ∀ r : Int × Nat, r = (-1, 250) → Ev (fun k => mezzanineref25_Check.j2 k true (ram : Int) (slice : Int) gs) (r.1, (r.2 : Int)) := fun r hr => by
              subst hr
              refine Ev.step (fun k => mezzanineref25_Check.j2.eq_2 ..) ?_
              simp only [if_true]
              exact Ev.now _
            by_cases e1 : gs.length = 0
            · simp only [if_pos (show (gs.length : Int) < 1 by omega)]
              exact bad3 _ (if_pos (.inl (hlen.trans e1)))
            · simp only [if_neg (show ¬ (gs.length : Int) < 1 by omega)]
              by_cases e2 : 8 < gs.length
              · simp only [decide_eq_true (show (gs.length : Int) > 8 by omega)]
                exact bad3 _ (if_pos (.inr (by show 8 < (gs.map toCG).length; omega)))
              · rw [if_neg (show ¬ ((csOf ram slice gs).gs.length = 0 ∨ 8 < (csOf ram slice gs).gs.length) by show ¬ ((gs.map toCG).length = 0 ∨ 8 < (gs.map toCG).length); omega)]
                simp only [decide_eq_false (show ¬ (gs.length : Int) > 8 by omega)]
                refine Ev.step (fun k => mezzanineref25_Check.j2.eq_2 ..) ?_
                simp only [Bool.false_eq_true, if_false]
                have hl := check_loop_ref h ram slice (by omega) c3 (by omega) gs.length 0 (by omega) (fun _ h => by omega)
                unfold scanR at hl
                rw [show (csOf ram slice gs).gs.length = gs.length from hlen]
                cases hs : scanQ (csOf ram slice gs).barAt 0 gs.length with
                | none => rw [hs] at hl; exact hl
                | some p => obtain ⟨m, e⟩ := p; rw [hs] at hl; exact hl
      · simp only [show (((ram % 4096 : Nat) : Int) != 0) = true by rw [bne_iff_ne]; omega]
        exact bad _ (if_pos (.inr (.inr c3)))
/-! ### What the checks, what is free and whose an address is tell, plainly -/
theorem whose_f {gs : GL} (ok : okL gs) (ram slice a : Nat) (hr : ram < 18446744073709551616) (hs : slice < 18446744073709551616) (ha : a < 18446744073709551616) (hl : gs.length ≤ 100) :
    conf_Whose.f (ram : Int) (slice : Int) gs (a : Int) = some (whoseP ram slice gs (a : Int)) := by
  have f : ∀ n : Nat, n < 18446744073709551616 → fit64 (n : Int) = true := fun n h => by unfold fit64; simp only [Bool.and_eq_true, decide_eq_true_eq]; omega
  have h2 : gs.all (fun g => fit64 g.f0 && fit64 g.f1) = true := ok
  unfold conf_Whose.f
  rw [if_pos (by simp only [f ram hr, f slice hs, f a ha, h2, decide_eq_true hl, Bool.and_self]), Int.toNat_natCast, Int.toNat_natCast]
/-- What is known of a guest of an accepted configuration. -/
theorem acc_at {gs : GL} (ok : okL gs) {ram slice : Nat} (h : (csOf ram slice gs).check.2 = 0) {i : Nat} (hi : i < gs.length) : ∃ x y : Nat, gs[i] = ⟨(x : Int), (y : Int)⟩ ∧ rd_T53 gs (i : Int) = ⟨(x : Int), (y : Int)⟩ ∧ 0 < y ∧ y ≤ 2097152 ∧ 2148532224 ≤ x ∧ x + y ≤ 2147483648 + ram ∧ ram ≤ 67108864 := by
  obtain ⟨_, hr, _, _, _, hb⟩ := check_zero h
  have bi := hb i hi
  obtain ⟨u, v, f1, _, _, f2, f3⟩ := ok.get hi
  unfold CS.barAt csOf at bi
  simp only at bi
  rw [List.getD_eq_getElem?_getD, f2, Option.getD_some] at bi
  obtain ⟨b1, b2, _, _, b5, b6, _⟩ := CG.bars_zero bi
  exact ⟨u, v, f1, f3, b1, b2, b5, b6, hr⟩
theorem has_iff (x y a : Nat) (ha : a < 18446744073709551616) : hasI ⟨(x : Int), (y : Int)⟩ (a : Int) = true ↔ x ≤ a ∧ a < x + y := by
  rw [hasI_nat x y a ha]
  unfold CG.has
  simp only [Bool.and_eq_true, decide_eq_true_eq]
theorem whose_at {gs : GL} (ok : okL gs) {ram slice : Nat} (h : (csOf ram slice gs).check.2 = 0) (a : Nat) (ha : a < 18446744073709551616) {i : Nat} (hi : i < gs.length) (hh : hasI gs[i] (a : Int) = true) : whoseP ram slice gs (a : Int) = (i : Int) := by
  unfold whoseP
  rw [if_pos h]
  unfold firstIn
  cases hf : (List.finRange gs.length).find? fun j => hasI gs[j.val] (a : Int) with
  | none => exact absurd hh (List.find?_eq_none.1 hf ⟨i, hi⟩ (List.mem_finRange _))
  | some j =>
    have h1 := List.find?_some hf
    have h2 := one_has ok ram slice h a ha j ⟨i, hi⟩ h1 hh
    rw [h2]
    rfl
theorem whose_none {gs : GL} {ram slice : Nat} (h : (csOf ram slice gs).check.2 = 0) (a : Nat) (hh : ∀ i (hi : i < gs.length), hasI gs[i] (a : Int) = false) : whoseP ram slice gs (a : Int) = -1 := by
  unfold whoseP
  rw [if_pos h]
  unfold firstIn
  have : (List.finRange gs.length).find? (fun j => hasI gs[j.val] (a : Int)) = none := List.find?_eq_none.2 fun j _ => by rw [hh j.val j.isLt]; decide
  rw [this]
  rfl
theorem whose_has {gs : GL} {ram slice : Nat} (h : (csOf ram slice gs).check.2 = 0) (a : Nat) {i : Nat} (hi : i < gs.length) (hw : whoseP ram slice gs (a : Int) = (i : Int)) : hasI gs[i] (a : Int) = true := by
  unfold whoseP at hw
  rw [if_pos h] at hw
  unfold firstIn at hw
  cases hf : (List.finRange gs.length).find? fun j => hasI gs[j.val] (a : Int) with
  | none => rw [hf] at hw; have h2 : (-1 : Int) = (i : Int) := hw; omega
  | some j =>
    rw [hf] at hw
    have h1 := List.find?_some hf
    have h2 : j.val = i := by unfold idxOf at hw; simp only at hw; omega
    subst h2
    exact h1
def sumI : GL → Int
  | [] => 0
  | g :: l => g.f1 + sumI l
theorem sum_drop {gs : GL} {i : Nat} (hi : i < gs.length) : sumI (gs.drop i) = (gs[i]).f1 + sumI (gs.drop (i + 1)) := by
  rw [List.drop_eq_getElem_cons hi]
  rfl
theorem wrap_add (X y : Int) : IntKind.u64.wrap (IntKind.u64.wrap X + y) = IntKind.u64.wrap (X + y) := by rw [IntKind.wrap_u64, IntKind.wrap_u64, IntKind.wrap_u64]; omega
theorem wrap_sub (X y : Int) : IntKind.u64.wrap (IntKind.u64.wrap X - y) = IntKind.u64.wrap (X - y) := by rw [IntKind.wrap_u64, IntKind.wrap_u64, IntKind.wrap_u64]; omega
theorem free_loop {gs : GL} (h8 : gs.length ≤ 8) : ∀ (r i : Nat) (X : Int), i + r = gs.length → Ev (fun k => conf_Free.l0 k (IntKind.u64.wrap X) gs (gs.length : Int) (i : Int)) (IntKind.u64.wrap (X - sumI (gs.drop i)))
  | 0, i, X, e => by
    refine Ev.step (fun k => conf_Free.l0.eq_2 ..) ?_
    simp only [if_neg (show ¬ (i : Int) < (gs.length : Int) by omega)]
    have : gs.drop i = [] := List.drop_eq_nil_of_le (by omega)
    rw [this]
    have e0 : X - sumI [] = X := by unfold sumI; omega
    rw [e0]
    exact Ev.now _
  | r + 1, i, X, e => by
    refine Ev.step (fun k => conf_Free.l0.eq_2 ..) ?_
    have hi : i < gs.length := by omega
    have e1 : (rd_T53 gs (i : Int)).f1 = (gs[i]).f1 := by
      unfold rd_T53
      rw [Int.toNat_natCast, List.getD_eq_getElem?_getD, List.getElem?_eq_getElem hi]
      rfl
    simp only [if_pos (show (i : Int) < (gs.length : Int) by omega), if_pos (show (0 : Int) ≤ (i : Int) by omega), wrap_sub, wrap64_up i (by omega), e1]
    rw [sum_drop hi]
    have h := free_loop h8 r (i + 1) (X - (gs[i]).f1) (by omega)
    rw [show X - (gs[i]).f1 - sumI (gs.drop (i + 1)) = X - ((gs[i]).f1 + sumI (gs.drop (i + 1))) by omega] at h
    exact h
theorem free_f {gs : GL} (ok : okL gs) (ram slice : Nat) (hr : ram < 18446744073709551616) : Ev (fun k => conf_Free.f k (ram : Int) (slice : Int) gs) (if (csOf ram slice gs).check.2 = 0 then IntKind.u64.wrap ((ram : Int) - 1048576 - sumI gs) else 0) := by
  unfold conf_Free.f
  refine Ev.bind (accepted_conf ok ram slice hr) ?_
  by_cases h : (csOf ram slice gs).check.2 = 0
  · obtain ⟨_, _, _, h8, _⟩ := check_zero h
    simp only [decide_eq_true h, if_true, if_pos h]
    have := free_loop h8 gs.length 0 ((ram : Int) - 1048576) (by omega)
    rw [List.drop_zero] at this
    exact this
  · simp only [decide_eq_false h, Bool.false_eq_true, if_false, if_neg h]
    exact Ev.now _
theorem check_bounds (ram slice : Nat) (gs : GL) : (csOf ram slice gs).check.1 ≥ -1 ∧ ((csOf ram slice gs).check.2 ≠ 0 → (csOf ram slice gs).check.1 < (gs.length : Int)) ∧ ((csOf ram slice gs).check.2 = 0 → (csOf ram slice gs).check.1 = -1) := by
  have hlen : (csOf ram slice gs).gs.length = gs.length := List.length_map ..
  unfold CS.check
  split
  · exact ⟨by simp, fun _ => by simp; omega, fun h => by simp at h⟩
  · split
    · exact ⟨by simp, fun _ => by simp; omega, fun h => by simp at h⟩
    · split
      · exact ⟨by simp, fun _ => by simp; omega, fun h => by simp at h⟩
      · cases hs : scanQ (csOf ram slice gs).barAt 0 (csOf ram slice gs).gs.length with
        | none => exact ⟨by simp, fun h => absurd rfl h, fun _ => rfl⟩
        | some p =>
          obtain ⟨m, e⟩ := p
          obtain ⟨_, q2, q3, q4⟩ := scanQ_some _ _ hs
          exact ⟨by simp only; omega, fun _ => by simp only; omega, fun h => absurd h q4⟩
theorem awake25_at : mezzaninelaw25_awake.f 12 = some true := by kernel_rfl
theorem awake25_true : Ev (fun k => mezzaninelaw25_awake.f k) true := Ev.of (fun k => mezzaninelaw25_awake.mono k) awake25_at
/-! ### ConfChecks, joined -/
theorem ConfChecks_j (ram slice : Nat) (A : Option Addr) (c : Nat) (l : GL) (w : World) (hr : Kd.C k53 w A l.length l) (hc : l.length ≤ c) (ok : okL l) (hram : ram < 18446744073709551616) (hslice : slice < 18446744073709551616) :
    Calls Try.prog 5 #[.agg #[.int .u64 (ram : Int), .int .u64 (slice : Int), .slice A l.length c]] w fun e w' => e = .returned (.bool true) ∧ Fr No w w' := by
  obtain ⟨k1, h1⟩ := awake25_true
  obtain ⟨k2, h2⟩ := check_conf ok ram slice hram
  obtain ⟨k3, h3⟩ := check_ref ok ram slice
  obtain ⟨k4, h4⟩ := free_f ok ram slice hram
  obtain ⟨k5, h5⟩ := accepted_conf ok ram slice hram
  refine (ConfChecks_c (k1 + k2 + k3 + k4 + k5) ram slice A c l w hr hc ok hram hslice _ _ _ _ _ (h1 _ (by omega)) (h2 _ (by omega)) (h3 _ (by omega)) (h4 _ (by omega)) (fun h => whose_f ok ram slice 2148532224 hram hslice (by omega) h) (h5 _ (by omega)) (fun hz => ?_)).mono ?_
  · have := check_zero (of_decide_eq_true hz)
    omega
  · rintro e w' ⟨he, hb⟩
    exact ⟨he, Fr.of_below hb No⟩
end Go.Proofs.Ytacgjgmladbgeaa.PConfChecks

/-
  The statement ConfPlaces, walked: at every configuration, address and number it answers true. Conditions: the numbers are of their kinds.
-/
import Derived.Test.YtacgjgmladbgeaaPConfPlacesx7
import Derived.Test.YtacgjgmladbgeaaConfM
import Derived.Test.YtacgjgmladbgeaaConfL
import Derived.Test.YtacgjgmladbgeaaOpen
import Derived.Test.YtacgjgmladbgeaaEq
import Derived.Test.YtacgjgmladbgeaaTk
import Derived.Lib.Hide
import Derived.Lib.SmallJoins
namespace Go.Proofs.Ytacgjgmladbgeaa.PConfPlaces
open Go Go.RowKit Go.Proofs.YtacgjgmladbgeaaW.PrintWords Go.Proofs.YtacgjgmladbgeaaW.PrintLast Go.Proofs.YtacgjgmladbgeaaW.PrintMore
set_option linter.unusedVariables false
set_option linter.unusedSimpArgs false

/-! ### A copy with marked room behind: by hand -/
set_option maxRecDepth 100000 in
set_option maxHeartbeats 1000000 in
theorem copied_c (ram slice : Int) (A : Option Addr) (c : Nat) (l : GL) (w : World) (hr : Kd.C k53 w A l.length l) (hm : l.length ≤ 100) :
    Calls Try.prog 23 #[.agg #[.int .u64 ram, .int .u64 slice, .slice A l.length c]] w fun e w' => ∃ g o cap, e = .returned (.tuple #[.agg #[.int .u64 ram, .int .u64 slice, .slice (some ⟨g, o, none⟩) l.length cap], .slice (some ⟨g, o, none⟩) (l.length + 1) cap]) ∧
      Own w' 53 2 (.slice (some ⟨g, o, none⟩) (l.length + 1) cap) (l.length + 1) (gcells l ++ [.int .u64 77, .int .u64 0]) (fun k => w.heap.size ≤ k) ∧ l.length + 1 ≤ cap ∧ Below w.heap.size w w' := by
  obtain ⟨i0, hi0, hz0, hz1, hz2⟩ := info_parts (show (Try.prog.info? 53).map (fun i => (i.zero, i.size, i.bytes)) = some (some (.agg #[(.int .u64 0), (.int .u64 0)]), 2, 16) from by kernel_rfl)
  have HI := Lib.hid hi0
  have H0 := Lib.hid hz0
  have H1 := Lib.hid hz1
  have H2 := Lib.hid hz2
  have HR := Lib.hid hr
  obtain ⟨n, hn⟩ : ∃ n, n = l.length := ⟨_, rfl⟩
  rw [← hn] at hm ⊢
  have HN := Lib.hid hn
  clear hi0 hz0 hz1 hz2 hr hn
  obtain ⟨wA, hwA⟩ : ∃ wA, wA = ((w.alloc (.cells #[.int .u64 ram, .int .u64 slice, .slice A n c] 25)).alloc (.cells #[.int .u64 0, .int .u64 0, .slice none 0 0] 25)).alloc (.cells #[] 53) := ⟨_, rfl⟩
  have hb1 : Below w.heap.size w wA := by rw [hwA]; exact (((Below.refl _ w).alloc (Nat.le_refl _) _).alloc (by simp) _).alloc (by simp; omega) _
  have hsz : wA.heap.size = w.heap.size + 3 := by rw [hwA]; simp
  have e1 : Blk wA w.heap.size 25 #[.int .u64 ram, .int .u64 slice, .slice A n c] := by rw [hwA]; exact ((Blk.new w _ _).alloc _).alloc _
  have e2 : Blk wA (w.heap.size + 1) 25 #[.int .u64 0, .int .u64 0, .slice none 0 0] := by
    have := Blk.new (w.alloc (.cells #[.int .u64 ram, .int .u64 slice, .slice A n c] 25)) 25 #[.int .u64 0, .int .u64 0, .slice none 0 0]
    rw [World.size_alloc] at this
    rw [hwA]; exact this.alloc _
  have hO : Own wA 53 2 (.slice (some ⟨w.heap.size + 2, 0, none⟩) 0 0) 0 [] (One (w.heap.size + 2)) := by
    refine ⟨by simp, .inr ⟨w.heap.size + 2, 0, 0, #[], rfl, rfl, ?_, Nat.le_refl _, by unfold maxLen; omega, by simp, .inl ⟨rfl, rfl⟩, fun j hj => by simp at hj⟩⟩
    have := Blk.new ((w.alloc (.cells #[.int .u64 ram, .int .u64 slice, .slice A n c] 25)).alloc (.cells #[.int .u64 0, .int .u64 0, .slice none 0 0] 25)) 53 #[]
    rw [World.size_alloc, World.size_alloc] at this
    rw [hwA]; exact this
  have hC := fun (hp : 0 < n) => row_cells (Kd.C_below HR.out hb1) (by rw [← HN.out]; exact hp)
  have HO := Lib.hid hO
  have HB := Lib.hid hb1
  have HC := Lib.hid hC
  have E1 := Lib.hid e1
  have E2 := Lib.hid e2
  have HZ := Lib.hid hsz
  clear hO hb1 hC e1 e2 hsz
  go_enter Try.func23, Try.ntmps23
  go_wp2_with
   (first
    | (at_builtin
       rw [← hwA]
       refine wpList_append_cells rfl (.tmp 5) (.tmp 7) _ rfl 53 i0 _ 2 16 Try.underlying23 HI.out H0.out H1.out H2.out rfl _ 0 [] (One (w.heap.size + 2)) rfl HO.out _ n c (gcells l) rfl HC.out (by rw [gcells_len, HN.out]) (gcells_one l) (by unfold maxLen; omega) (by omega) ?_
       intro v1 w1 hown1 hf1
       rw [Nat.zero_add, List.nil_append] at hown1
       obtain ⟨a1, c1', rfl, hn1, hm1⟩ := hown1.slice
       have hs1 := hf1.size
       have O1 := Lib.hid (hown1.fr ((Fr.refl No w1).alloc (.cells #[.int .u64 77, .int .u64 0] 53)) (fun _ _ h => h))
       have R1 := Lib.hid (Rd.new w1 53 [.int .u64 77, .int .u64 0] 1 (by unfold maxLen; omega))
       have E3 := Lib.hid ((E1.out.fr hf1 (fun h => by have h2 : w.heap.size = w.heap.size + 2 := h; omega)).alloc (.cells #[.int .u64 77, .int .u64 0] 53))
       have E4 := Lib.hid ((E2.out.fr hf1 (fun h => by have h2 : w.heap.size + 1 = w.heap.size + 2 := h; omega)).alloc (.cells #[.int .u64 77, .int .u64 0] 53))
       have B3 := Lib.hid ((HB.out.trans (hf1.below (B := w.heap.size) HB.out.size (fun k hk h => by have h2 : k = w.heap.size + 2 := h; omega))).alloc (Nat.le_trans HB.out.size hs1) (.cells #[.int .u64 77, .int .u64 0] 53))
       have S1 := Lib.hid hs1
       clear hown1 hf1 hs1)
    | (at_builtin
       refine wpList_append _ rfl (.tmp 8) (.tmp 10) _ rfl 53 i0 _ 2 16 Try.underlying23 HI.out H0.out H1.out H2.out rfl _ n (gcells l) _ rfl O1.out _ 1 [.int .u64 77, .int .u64 0] rfl R1.out rfl (by intro u hu; simp only [List.mem_cons, List.not_mem_nil, or_false] at hu; rcases hu with rfl | rfl <;> rfl) (by unfold maxLen; omega) (by omega) ?_
       intro v2 w2 hown2 hf2
       obtain ⟨g, o, cap, rfl, hcap, hm2, _, _, _, _⟩ := hown2.at_ (by omega)
       have hsz := HZ.out
       have hs1 := S1.out
       have hE5 := E3.out.fr hf2 (fun h => by rcases h with h | h <;> first | omega | (have h2 : w.heap.size = w.heap.size + 2 := h; omega))
       have hE6 := E4.out.fr hf2 (fun h => by rcases h with h | h <;> first | omega | (have h2 : w.heap.size + 1 = w.heap.size + 2 := h; omega))
       have B4 := Lib.hid (B3.out.trans (hf2.below (B := w.heap.size) B3.out.size (fun k hk h => by rcases h with h | h <;> first | omega | (have h2 : k = w.heap.size + 2 := h; omega))))
       have O2 := Lib.hid hown2
       have E5 := Lib.hid hE5
       have E6 := Lib.hid hE6
       have c0 : w2.cell? ⟨w.heap.size, 0, none⟩ = some (.int .u64 ram) := hE5.cell 0
       have c1 : w2.cell? ⟨w.heap.size, 1, none⟩ = some (.int .u64 slice) := hE5.cell 1
       have c2 : w2.cell? ⟨w.heap.size, 2, none⟩ = some (.slice A n c) := hE5.cell 2
       have d0 : w2.cell? ⟨w.heap.size + 1, 0, none⟩ = some (.int .u64 0) := hE6.cell 0
       have d1 : w2.cell? ⟨w.heap.size + 1, 1, none⟩ = some (.int .u64 0) := hE6.cell 1
       have d2 : w2.cell? ⟨w.heap.size + 1, 2, none⟩ = some (.slice none 0 0) := hE6.cell 2
       have f5 := hE5.free
       have f6 := hE6.free
       have hs2 : w.heap.size + 2 ≤ w2.heap.size := by have := hf2.size; rw [World.size_alloc] at this; omega
       have S2 := Lib.hid hs2
       have S3 := Lib.hid hf2.size
       clear hown2 hf2 hE5 hE6 hsz hs1 hs2))
  have hx := (((E6.out.far (p := ⟨w.heap.size, 2, none⟩) (show w.heap.size + 1 ≠ w.heap.size by omega) (.slice (some ⟨g, o, none⟩) n cap)).put 0 (.int .u64 ram)).put 1 (.int .u64 slice)).put 2 (.slice (some ⟨g, o, none⟩) n cap)
  have hs2 := S2.out
  have hs3 := S3.out
  have hs1 := S1.out
  have hsz := HZ.out
  have hG : ∀ k, ((One (w.heap.size + 2) k ∨ k = wA.heap.size) ∨ k = (w1.alloc (.cells #[.int .u64 77, .int .u64 0] 53)).heap.size) → w.heap.size + 2 ≤ k := fun k hk => by
    rcases hk with (hk | hk) | hk
    · exact Nat.le_of_eq (Eq.symm hk)
    · omega
    · rw [World.size_alloc] at hk; omega
  refine bodyPost_ret ((results_cell_tmp rfl _ _ _).trans (?_ : _ = Result.ok (.tuple #[.agg #[.int .u64 ram, .int .u64 slice, .slice (some ⟨g, o, none⟩) n cap], .slice (some ⟨g, o, none⟩) (n + 1) cap]) _)) rfl ?_
  · have hl := run_loadVar_row (P := Try.prog) _ (w.heap.size + 1) 25 25 _ (0, 0) _ hx Try.underlying25 rfl (by kernel_rfl)
    simp [asAddr, hl]
  · refine ⟨g, o, cap, rfl, ?_, hcap, ?_⟩
    · have h1 := ((((O2.out.fr (Fr.put w2 w.heap.size 2 (.slice (some ⟨g, o, none⟩) n cap)) ?_).fr (Fr.put _ (w.heap.size + 1) 0 (.int .u64 ram)) ?_).fr (Fr.put _ (w.heap.size + 1) 1 (.int .u64 slice)) ?_).fr (Fr.put _ (w.heap.size + 1) 2 (.slice (some ⟨g, o, none⟩) n cap)) ?_).mono (G' := fun k => w.heap.size ≤ k) ?_
      · exact h1
      · exact fun k hk h => by have := hG k hk; have h2 : k = w.heap.size := h; omega
      · exact fun k hk h => by have := hG k hk; have h2 : k = w.heap.size + 1 := h; omega
      · exact fun k hk h => by have := hG k hk; have h2 : k = w.heap.size + 1 := h; omega
      · exact fun k hk h => by have := hG k hk; have h2 : k = w.heap.size + 1 := h; omega
      · exact fun k hk => by have := hG k hk; omega
    · exact (((B4.out.setCell (p := ⟨w.heap.size, 2, none⟩) (Nat.le_refl _) _).setCell (p := ⟨w.heap.size + 1, 0, none⟩) (by show w.heap.size ≤ w.heap.size + 1; omega) _).setCell (p := ⟨w.heap.size + 1, 1, none⟩) (by show w.heap.size ≤ w.heap.size + 1; omega) _).setCell (p := ⟨w.heap.size + 1, 2, none⟩) (by show w.heap.size ≤ w.heap.size + 1; omega) _
/-! ### A configuration that came in -/
theorem guests_of_rows : ∀ rows : List (List Value), (∀ r ∈ rows, WFits r [some .u64, some .u64]) → ∃ gs : GL, gs.length = rows.length ∧ okL gs ∧ rows.flatten = gs.flatMap (fun g => [.int .u64 g.f0, .int .u64 g.f1])
  | [], _ => ⟨[], rfl, rfl, rfl⟩
  | r :: rows, h => by
    obtain ⟨gs, h1, h2, h3⟩ := guests_of_rows rows (fun r hr => h r (List.mem_cons_of_mem _ hr))
    have hr := h r (List.mem_cons_self ..)
    obtain ⟨a, _, rfl, ha, hr⟩ := hr.int
    obtain ⟨b, _, rfl, hb, hr⟩ := hr.int
    obtain rfl := hr.nil
    obtain ⟨x, rfl, hx⟩ := nat_u64 ha
    obtain ⟨y, rfl, hy⟩ := nat_u64 hb
    have f1 : fit64 (x : Int) = true := by unfold fit64; simp only [Bool.and_eq_true, decide_eq_true_eq]; omega
    have f2 : fit64 (y : Int) = true := by unfold fit64; simp only [Bool.and_eq_true, decide_eq_true_eq]; omega
    refine ⟨⟨(x : Int), (y : Int)⟩ :: gs, by simp [h1], ?_, ?_⟩
    · unfold okL at h2 ⊢
      rw [List.all_cons, f1, f2, h2]
      rfl
    · rw [List.flatten_cons, List.flatMap_cons, h3]
theorem flat_at : ∀ (gs : GL) (j : Nat) (g : S53), gs[j]? = some g → ∀ i u, ([.int .u64 g.f0, .int .u64 g.f1] : List Value)[i]? = some u → (gs.flatMap (fun g => ([.int .u64 g.f0, .int .u64 g.f1] : List Value)))[j * 2 + i]? = some u
  | [], j, g, h, _, _, _ => by simp at h
  | y :: gs, 0, g, h, i, u, hu => by
    simp at h
    subst h
    have hi : i < 2 := by have := (List.getElem?_eq_some_iff.1 hu).1; simpa using this
    simp only [List.flatMap_cons]
    rw [Nat.zero_mul, Nat.zero_add, List.getElem?_append_left (by simpa using hi)]
    exact hu
  | y :: gs, j + 1, g, h, i, u, hu => by
    simp only [List.flatMap_cons]
    rw [List.getElem?_append_right (by simp; omega)]
    have := flat_at gs j g (by simpa using h) i u hu
    rw [← this]
    congr 1
    simp
    omega
theorem guests_of_rd {W : World} {v : Value} {gs : GL} (h : Rd W v gs.length (gs.flatMap (fun g => [.int .u64 g.f0, .int .u64 g.f1]))) : ∃ A c, v = .slice A gs.length c ∧ Kd.C k53 W A gs.length gs ∧ gs.length ≤ c := by
  obtain ⟨A, c, rfl, h1, h2, h3, h4⟩ := h
  refine ⟨A, c, rfl, ⟨rfl, by unfold maxLen at h2; omega, fun hpos => ?_⟩, h1⟩
  cases A with
  | none => have := (h3 rfl).1; omega
  | some ad => exact ⟨ad, rfl, fun j p hp => ⟨[.int .u64 p.f0, .int .u64 p.f1], rfl, k53_mk W p, fun i u hu => h4 ad rfl _ u (flat_at gs j p hp i u hu)⟩⟩
theorem open_config {H : Type} {enc : TypeId × Value → H} {W : World} {r : Reach} {b0 : Nat} {v : Value} {d : DataW H} {ps : List MemPlace} (hv : Value.okWide Try.prog W r b0 25 v) (h : DataW.Trod enc Try.prog W 0 (fun _ => true) true 25 v d ps) :
    ∃ (ram slice : Nat) (A : Option Addr) (c : Nat) (gs : GL), v = .agg #[.int .u64 (ram : Int), .int .u64 (slice : Int), .slice A gs.length c] ∧ ram < 18446744073709551616 ∧ slice < 18446744073709551616 ∧ Kd.C k53 W A gs.length gs ∧ gs.length ≤ c ∧ okL gs := by
  obtain ⟨c0, c1, c2, y0, y1, y2, m, rfl, _, _, hy0, hy1, hy2⟩ := Joins.open_agg3 Try.underlying25 (by kernel_rfl) (by kernel_rfl) hv h
  obtain ⟨n0, e0, _, w0⟩ := DataW.trod_int Try.underlying22 hy0
  obtain ⟨n1, e1, _, w1⟩ := DataW.trod_int Try.underlying22 hy1
  obtain rfl := (List.cons.inj e0).1
  obtain rfl := (List.cons.inj e1).1
  obtain ⟨ram, rfl, hr⟩ := nat_u64 w0
  obtain ⟨slice, rfl, hs⟩ := nat_u64 w1
  have hsl : ∃ a l c, c2 = .slice a l c := by
    rcases Deep.open_slice Try.underlying23 hy2 with ⟨hcs, _⟩ | ⟨a, len, cap, _, _, _, _, hcs, _⟩
    · exact ⟨_, _, _, (List.cons.inj hcs).1⟩
    · exact ⟨_, _, _, (List.cons.inj hcs).1⟩
  obtain ⟨a, l, c, rfl⟩ := hsl
  obtain ⟨rows, hr0, hw0⟩ := open_rows 3 Try.underlying23 (e := 53) (by kernel_rfl) ⟨a, l, c, rfl⟩ ⟨m, hy2⟩
  rw [show kindsOf Try.prog 3 53 = [some .u64, some .u64] from by kernel_rfl] at hw0
  obtain ⟨gs, h1, h2, h3⟩ := guests_of_rows rows hw0
  rw [h3, ← h1] at hr0
  obtain ⟨A, c', e2, h4, h5⟩ := guests_of_rd hr0
  exact ⟨ram, slice, A, c', gs, by rw [e2], hr, hs, h4, h5, h2⟩
/-! ### Guests are compared; a copied row is a row of guests -/
theorem guest_eq_run (x y x' y' : Int) (w : World) : (binOp .eql 53 (.agg #[.int .u64 x, .int .u64 y]) (.agg #[.int .u64 x', .int .u64 y'])).run Try.prog w = .ok (.bool (x == x' && y == y')) w ∧
    (binOp .neq 53 (.agg #[.int .u64 x, .int .u64 y]) (.agg #[.int .u64 x', .int .u64 y'])).run Try.prog w = .ok (.bool (!(x == x' && y == y'))) w := by
  have h := run_eql_plain (P := Try.prog) w 5 53 [.int .u64 x, .int .u64 y] [.int .u64 x', .int .u64 y'] (by omega) (by kernel_rfl) (by rw [show kindsOf Try.prog 5 53 = [some .u64, some .u64] from by kernel_rfl]; simp [Fits]) (by rw [show kindsOf Try.prog 5 53 = [some .u64, some .u64] from by kernel_rfl]; simp [Fits]) ⟨_, .inl Try.underlying53⟩
  have e : cellsEq [.int .u64 x, .int .u64 y] [.int .u64 x', .int .u64 y'] = (x == x' && y == y') := by simp [cellsEq, cellEq]
  rw [e] at h
  exact h
theorem kd_of_own {W : World} {g o cap : Nat} {l : GL} {G : Nat → Prop} (h : Own W 53 2 (.slice (some ⟨g, o, none⟩) (l.length + 1) cap) (l.length + 1) (gcells l ++ [.int .u64 77, .int .u64 0]) G) : Kd.C k53 W (some ⟨g, o, none⟩) l.length l := by
  obtain ⟨g', o', c', hv, h1, h2, _, _, hcell, _⟩ := h.at_ (by omega)
  injection hv with e1 _ e3
  injection e1 with e1
  injection e1 with e1 e2 _
  subst e1 e2 e3
  have hrd : Rd W (.slice (some ⟨g, o, none⟩) l.length cap) l.length (gcells l) :=
    ⟨_, cap, rfl, by omega, by omega, fun h => (by cases h), fun ad had j u hu => by
      cases had
      rw [addr_add]
      exact hcell j u (by rw [List.getElem?_append_left (List.getElem?_eq_some_iff.1 hu).1]; exact hu)⟩
  obtain ⟨A, c, hA, hk, _⟩ := guests_of_rd hrd
  injection hA with q
  rw [q]
  exact hk
theorem func_not_nil (cb : Array Value) (W : World) : (binOp .eql 50 (.func (.func 42) #[] cb) .nilFunc).run Try.prog W = .ok (.bool false) W := by
  have hu := Try.underlying50
  have hm : Op.maxDepth = 9999 + 1 := rfl
  simp only [binOp, Op.equal]
  rw [hm]
  unfold Op.equalIn
  simp [hu]
theorem wrapu {x : Int} (h0 : 0 ≤ x) (h : x < 18446744073709551616) : IntKind.u64.wrap x = x := by rw [IntKind.wrap_u64]; omega
theorem has_f (g : CG) (hs : g.base + g.size < 18446744073709551616) (a : Nat) : mezzanineref25_Has.f (g.base : Int) (g.size : Int) (a : Int) = some (g.has a) := by
  unfold mezzanineref25_Has.f CG.has
  rw [wrapu (by omega) (by omega)]
  by_cases c1 : (a : Int) ≥ (g.base : Int)
  · rw [if_pos c1, decide_eq_true (p := g.base ≤ a) (by omega), Bool.true_and]
    congr 1
    rw [decide_eq_decide]
    omega
  · rw [if_neg c1, decide_eq_false (p := g.base ≤ a) (by omega), Bool.false_and]
/-- What bars a guest, behind others that are all right. -/
structure Fine (ram : Nat) (gs : GL) (i : Nat) : Prop where
  ok : okL gs
  hi : i < gs.length
  h8 : gs.length ≤ 8
  rle : ram ≤ 67108864
  pages : ram % 4096 = 0
  all : ∀ j, j < i → ∃ o : CG, (gs.map toCG)[j]? = some o ∧ rd_T53 gs (j : Int) = ⟨(o.base : Int), (o.size : Int)⟩ ∧ o.size % 4096 = 0 ∧ 0 < o.size ∧ o.base % 4096 = 0 ∧ o.base + o.size ≤ 2147483648 + ram
theorem Fine.mk_ {ram slice : Nat} {gs : GL} {i : Nat} (ok : okL gs) (hi : i < gs.length) (h8 : gs.length ≤ 8) (hr : ram ≤ 67108864) (hp : ram % 4096 = 0) (hz : ∀ j, j < i → (csOf ram slice gs).barAt j = 0) : Fine ram gs i := by
  refine ⟨ok, hi, h8, hr, hp, fun j hj => ?_⟩
  obtain ⟨o, ho, e1, e2, e3⟩ := ok.at_ (show j < gs.length by omega)
  have h := hz j hj
  unfold CS.barAt csOf at h
  rw [e1] at h
  obtain ⟨h1, h2, h3, h4, h5, h6, _⟩ := CG.bars_zero h
  exact ⟨o, e2, e3, h3, h1, h4, h6⟩
/-- The inner loop: does one of the first guests have a page? -/
theorem guest_l2 {ram : Nat} {gs : GL} {i : Nat} (F : Fine ram gs i) (g : CG) (p : Nat) (s : Int) (hp : g.base + p < 4294967296) (R : Int)
    (hnext : (∀ o ∈ (gs.map toCG).take i, o.has (g.base + p) = false) → Ev (fun k => mezzanineref25_guest.l1 k (i : Int) (IntKind.u64.wrap ((p : Int) + 4096)) (ram : Int) s gs (g.base : Int) (g.size : Int)) R)
    (hhit : (∃ o ∈ (gs.map toCG).take i, o.has (g.base + p) = true) → R = 254) :
    ∀ (r j : Nat), j + r = i → (∀ m o, m < j → (gs.map toCG)[m]? = some o → o.has (g.base + p) = false) →
    Ev (fun k => mezzanineref25_guest.l2 k (i : Int) (p : Int) (j : Int) (ram : Int) s gs (g.base : Int) (g.size : Int)) R
  | 0, j, e, hn => by
    refine Ev.step (fun k => mezzanineref25_guest.l2.eq_2 ..) ?_
    simp only [if_neg (show ¬ (j : Int) < (i : Int) by omega)]
    refine hnext fun o ho => ?_
    obtain ⟨m, hm⟩ := List.mem_iff_getElem?.1 ho
    rw [List.getElem?_take] at hm
    split at hm
    · exact hn m o (by omega) hm
    · cases hm
  | r + 1, j, e, hn => by
    obtain ⟨o, h1, h2, h3, h4, h5, h6⟩ := F.all j (by omega)
    have hi := F.hi
    have hr := F.rle
    refine Ev.step (fun k => mezzanineref25_guest.l2.eq_2 ..) ?_
    have e1 : IntKind.u64.wrap ((g.base : Int) + (p : Int)) = ((g.base + p : Nat) : Int) := by rw [wrapu (by omega) (by omega)]; omega
    simp only [if_pos (show (j : Int) < (i : Int) by omega), if_pos (show (0 : Int) ≤ (j : Int) by omega), if_pos (show (j : Int) < (gs.length : Int) by omega), h2, e1, has_f o (by omega), Option.bind_some]
    cases hh : o.has (g.base + p)
    · simp only [Bool.false_eq_true, if_false, wrap64_up j (by have := F.h8; omega)]
      refine guest_l2 F g p s hp R hnext hhit r (j + 1) (by omega) fun m o' hm ho' => ?_
      by_cases q : m = j
      · subst q
        rw [h1] at ho'
        obtain rfl := Option.some.inj ho'
        exact hh
      · exact hn m o' (by omega) ho'
    · simp only [if_true]
      rw [hhit ⟨o, List.mem_iff_getElem?.2 ⟨j, by rw [List.getElem?_take, if_pos (by omega)]; exact h1⟩, hh⟩]
      exact Ev.now _
/-- The loop over pages, for those that meet. -/
theorem guest_l1 {ram : Nat} {gs : GL} {i : Nat} (F : Fine ram gs i) (g : CG) (s : Int) (hz : g.size % 4096 = 0) (hb : g.base + g.size ≤ 2147483648 + ram) (R : Int)
    (hno : (∀ k, 4096 * k < g.size → ∀ o ∈ (gs.map toCG).take i, o.has (g.base + 4096 * k) = false) → R = 0)
    (hyes : (∃ k, 4096 * k < g.size ∧ ∃ o ∈ (gs.map toCG).take i, o.has (g.base + 4096 * k) = true) → R = 254) :
    ∀ (r m : Nat), 4096 * (m + r) = g.size → (∀ k, k < m → ∀ o ∈ (gs.map toCG).take i, o.has (g.base + 4096 * k) = false) →
    Ev (fun k => mezzanineref25_guest.l1 k (i : Int) ((4096 * m : Nat) : Int) (ram : Int) s gs (g.base : Int) (g.size : Int)) R
  | 0, m, e, hn => by
    refine Ev.step (fun k => mezzanineref25_guest.l1.eq_2 ..) ?_
    simp only [if_neg (show ¬ ((4096 * m : Nat) : Int) < (g.size : Int) by omega)]
    rw [hno fun k hk => hn k (by omega)]
    exact Ev.now _
  | r + 1, m, e, hn => by
    have hr := F.rle
    refine Ev.step (fun k => mezzanineref25_guest.l1.eq_2 ..) ?_
    simp only [if_pos (show ((4096 * m : Nat) : Int) < (g.size : Int) by omega)]
    refine guest_l2 F g (4096 * m) s (by omega) R (fun hall => ?_) (fun ⟨o, ho, h1⟩ => hyes ⟨m, by omega, o, ho, h1⟩) i 0 (by omega) (fun _ _ h => by omega)
    rw [show IntKind.u64.wrap (((4096 * m : Nat) : Int) + 4096) = ((4096 * (m + 1) : Nat) : Int) by rw [wrapu (by omega) (by omega)]; omega]
    refine guest_l1 F g s hz hb R hno hyes r (m + 1) (by omega) fun k hk => ?_
    by_cases q : k = m
    · rw [q]; exact hall
    · exact hn k (by omega)
/-- The loop over pages, for their places. -/
theorem guest_l0 {ram : Nat} {gs : GL} {i : Nat} (F : Fine ram gs i) (g : CG) (s : Int) (hz : g.size % 4096 = 0) (h2 : g.size ≤ 2097152) (h3 : 0 < g.size) (h4 : g.base % 4096 = 0) (h5 : g.base < 18446744073709551616) (R : Int)
    (hbad : g.lies ram = false → R = 253) (hgood : g.lies ram = true → Ev (fun k => mezzanineref25_guest.l1 k (i : Int) 0 (ram : Int) s gs (g.base : Int) (g.size : Int)) R) :
    ∀ (r m : Nat), 4096 * (m + r) = g.size → (∀ k, k < m → 2148532224 ≤ g.base + 4096 * k ∧ g.base + 4096 * k < 2147483648 + ram) →
    Ev (fun k => mezzanineref25_guest.l0 k (i : Int) ((4096 * m : Nat) : Int) (ram : Int) s gs (g.base : Int) (g.size : Int)) R
  | 0, m, e, hn => by
    refine Ev.step (fun k => mezzanineref25_guest.l0.eq_2 ..) ?_
    simp only [if_neg (show ¬ ((4096 * m : Nat) : Int) < (g.size : Int) by omega)]
    exact hgood ((CG.lies_pages h3 hz h4 F.pages).2 fun k hk => hn k (by omega))
  | r + 1, m, e, hn => by
    have hr := F.rle
    refine Ev.step (fun k => mezzanineref25_guest.l0.eq_2 ..) ?_
    have hlies := CG.lies_pages (g := g) h3 hz h4 F.pages
    have bad : ¬ (2148532224 ≤ g.base + 4096 * m ∧ g.base + 4096 * m < 2147483648 + ram) → R = 253 := fun hq => hbad (by
      cases hl : g.lies ram
      · rfl
      · exact absurd (hlies.1 hl m (by omega)) hq)
    have e1 : IntKind.u64.wrap (2147483648 + (ram : Int)) = 2147483648 + (ram : Int) := wrapu (by omega) (by omega)
    obtain ⟨x, hx, hx2⟩ : ∃ x : Nat, IntKind.u64.wrap ((g.base : Int) + ((4096 * m : Nat) : Int)) = (x : Int) ∧ (x = g.base + 4096 * m ∨ (2148532224 > x ∧ ¬ (g.base + 4096 * m < 2147483648 + ram))) := by
      refine ⟨(g.base + 4096 * m) % 18446744073709551616, by rw [IntKind.wrap_u64]; omega, ?_⟩
      omega
    simp only [if_pos (show ((4096 * m : Nat) : Int) < (g.size : Int) by omega), hx, e1]
    by_cases c1 : (x : Int) < 2148532224
    · simp only [if_pos c1]
      rw [bad (by omega)]
      exact Ev.now _
    · simp only [if_neg c1]
      by_cases c2 : (x : Int) ≥ 2147483648 + (ram : Int)
      · simp only [if_pos c2]
        rw [bad (by omega)]
        exact Ev.now _
      · simp only [if_neg c2]
        rw [show IntKind.u64.wrap (((4096 * m : Nat) : Int) + 4096) = ((4096 * (m + 1) : Nat) : Int) by rw [wrapu (by omega) (by omega)]; omega]
        refine guest_l0 F g s hz h2 h3 h4 h5 R hbad hgood r (m + 1) (by omega) fun k hk => ?_
        by_cases q : k = m
        · rw [q]; omega
        · exact hn k (by omega)
theorem guest_ref {ram slice : Nat} {gs : GL} {i : Nat} (F : Fine ram gs i) : Ev (fun k => mezzanineref25_guest.f k (ram : Int) (slice : Int) gs (i : Int)) (((csOf ram slice gs).barAt i : Nat) : Int) := by
  obtain ⟨g, hg, e1, e2, e3⟩ := F.ok.at_ F.hi
  have hi := F.hi
  have hbase := hg.base
  have hsize := hg.size
  have hR : (csOf ram slice gs).barAt i = g.bars ram ((gs.map toCG).take i) := by unfold CS.barAt csOf; rw [e1]
  rw [hR]
  unfold mezzanineref25_guest.f
  simp only [if_pos (show (0 : Int) ≤ (i : Int) by omega), if_pos (show (i : Int) < (gs.length : Int) by omega), e3]
  have bad : ∀ n : Nat, n = 251 → Ev (fun k => mezzanineref25_guest.j0 k (i : Int) true (ram : Int) (slice : Int) gs (g.base : Int) (g.size : Int)) (n : Int) := fun n hn => by
    subst hn
    refine Ev.step (fun k => mezzanineref25_guest.j0.eq_2 ..) ?_
    simp only [if_true]
    exact Ev.now _
  by_cases c1 : g.size < 4096
  · simp only [if_pos (show (g.size : Int) < 4096 by omega)]
    exact bad _ (if_pos (by omega))
  · simp only [if_neg (show ¬ (g.size : Int) < 4096 by omega)]
    by_cases c2 : 2097152 < g.size
    · simp only [if_pos (show (g.size : Int) > 2097152 by omega)]
      exact bad _ (if_pos (by omega))
    · simp only [if_neg (show ¬ (g.size : Int) > 2097152 by omega)]
      have tm : ∀ x : Nat, Int.tmod (x : Int) 4096 = ((x % 4096 : Nat) : Int) := fun x => by rw [Int.tmod_eq_emod_of_nonneg (by omega)]; omega
      simp only [tm]
      by_cases c3 : g.size % 4096 = 0
      · simp only [show (((g.size % 4096 : Nat) : Int) != 0) = false by rw [bne_eq_false_iff_eq]; omega]
        refine Ev.step (fun k => mezzanineref25_guest.j0.eq_2 ..) ?_
        simp only [Bool.false_eq_true, if_false, tm]
        unfold CG.bars
        rw [if_neg (by omega)]
        by_cases c4 : g.base % 4096 = 0
        · simp only [if_pos (show ((g.base % 4096 : Nat) : Int) = 0 by omega)]
          rw [if_neg (by omega)]
          refine guest_l0 F g (slice : Int) c3 (by omega) (by omega) c4 hbase _ (fun hl => by rw [if_pos hl]; rfl) (fun hl => ?_) (g.size / 4096) 0 (by omega) (fun _ h => by omega)
          rw [if_neg (by rw [hl]; exact fun h => by cases h)]
          have hl2 := hl
          unfold CG.lies at hl2
          simp only [Bool.and_eq_true, decide_eq_true_eq] at hl2
          have meet : ∀ o ∈ (gs.map toCG).take i, (g.meets o = true ↔ ∃ k, 4096 * k < g.size ∧ o.has (g.base + 4096 * k) = true) := fun o ho => by
            obtain ⟨m, hm⟩ := List.mem_iff_getElem?.1 ho
            rw [List.getElem?_take] at hm
            split at hm
            case isFalse => cases hm
            rename_i hmi
            obtain ⟨o', q1, q2, q3, q4, q5, q6⟩ := F.all m hmi
            rw [q1] at hm
            obtain rfl := Option.some.inj hm
            exact CG.meets_pages F.rle F.pages (by omega) c3 c4 hl2.2 q3 q4 q5 q6
          refine guest_l1 F g (slice : Int) c3 hl2.2 _ (fun hno => ?_) (fun ⟨k, hk, o, ho, h1⟩ => ?_) (g.size / 4096) 0 (by omega) (fun _ h => by omega)
          · rw [if_neg]
            · rfl
            · intro hany
              obtain ⟨o, ho, h1⟩ := List.any_eq_true.1 hany
              obtain ⟨k, hk, h2⟩ := (meet o ho).1 h1
              rw [hno k hk o ho] at h2
              cases h2
          · rw [if_pos (List.any_eq_true.2 ⟨o, ho, (meet o ho).2 ⟨k, hk, h1⟩⟩)]
            rfl
        · simp only [if_neg (show ¬ ((g.base % 4096 : Nat) : Int) = 0 by omega)]
          rw [if_pos c4]
          exact Ev.now _
      · simp only [show (((g.size % 4096 : Nat) : Int) != 0) = true by rw [bne_iff_ne]; omega]
        exact bad _ (if_pos (by omega))
theorem check_loop_ref {gs : GL} (h : okL gs) (ram slice : Nat) (hr : ram ≤ 67108864) (hp : ram % 4096 = 0) (h8 : gs.length ≤ 8) : ∀ (r i : Nat), i + r = gs.length → (∀ j, j < i → (csOf ram slice gs).barAt j = 0) →
    Ev (fun k => mezzanineref25_Check.l0 k (i : Int) (ram : Int) (slice : Int) gs) (scanR (csOf ram slice gs) i r)
  | 0, i, e, hz => by
    refine Ev.step (fun k => mezzanineref25_Check.l0.eq_2 ..) ?_
    simp only [if_neg (show ¬ (i : Int) < (gs.length : Int) by omega)]
    exact Ev.now _
  | r + 1, i, e, hz => by
    have hg := guest_ref (slice := slice) (Fine.mk_ (slice := slice) h (show i < gs.length by omega) h8 hr hp hz)
    refine Ev.step (fun k => mezzanineref25_Check.l0.eq_2 ..) ?_
    simp only [if_pos (show (i : Int) < (gs.length : Int) by omega)]
    refine Ev.bind hg ?_
    unfold scanR scanQ
    by_cases hb : (csOf ram slice gs).barAt i = 0
    · rw [if_pos hb]
      simp only [if_pos (show (((csOf ram slice gs).barAt i : Nat) : Int) = 0 by omega), wrap64_up i (by omega)]
      refine check_loop_ref h ram slice hr hp h8 r (i + 1) (by omega) fun j hj => ?_
      by_cases q : j = i
      · rw [q]; exact hb
      · exact hz j (by omega)
    · rw [if_neg hb]
      simp only [if_neg (show ¬ (((csOf ram slice gs).barAt i : Nat) : Int) = 0 by omega)]
      exact Ev.now _
theorem tmodN (x y : Nat) : Int.tmod (x : Int) (y : Int) = ((x % y : Nat) : Int) := by rw [Int.tmod_eq_emod_of_nonneg (by omega)]; simp
/-- The document's check tells the plain one. -/
theorem check_ref {gs : GL} (h : okL gs) (ram slice : Nat) :
    Ev (fun k => mezzanineref25_Check.f k (ram : Int) (slice : Int) gs) ((csOf ram slice gs).check.1, ((csOf ram slice gs).check.2 : Int)) := by
  have hlen : (gs.map toCG).length = gs.length := List.length_map ..
  have tm : Int.tmod (ram : Int) 4096 = ((ram % 4096 : Nat) : Int) := tmodN ram 4096
  unfold mezzanineref25_Check.f CS.check
  simp only [tm]
  have bad : ∀ r : Int × Nat, r = (-1, 251) → Ev (fun k => mezzanineref25_Check.j0 k true (ram : Int) (slice : Int) gs) (r.1, (r.2 : Int)) := fun r hr => by
    subst hr
    refine Ev.step (fun k => mezzanineref25_Check.j0.eq_2 ..) ?_
    simp only [if_true]
    exact Ev.now _
  by_cases c1 : ram < 2097152
  · simp only [if_pos (show (ram : Int) < 2097152 by omega)]
    exact bad _ (if_pos (.inl c1))
  · simp only [if_neg (show ¬ (ram : Int) < 2097152 by omega)]
    by_cases c2 : 67108864 < ram
    · simp only [if_pos (show (ram : Int) > 67108864 by omega)]
      exact bad _ (if_pos (.inr (.inl c2)))
    · simp only [if_neg (show ¬ (ram : Int) > 67108864 by omega)]
      by_cases c3 : ram % 4096 = 0
      · have hbad1 : ¬ ((csOf ram slice gs).ram < 2097152 ∨ 67108864 < (csOf ram slice gs).ram ∨ (csOf ram slice gs).ram % 4096 ≠ 0) := by unfold csOf; simp only; omega
        simp only [show (((ram % 4096 : Nat) : Int) != 0) = false by rw [bne_eq_false_iff_eq]; omega]
        rw [if_neg hbad1]
        refine Ev.step (fun k => mezzanineref25_Check.j0.eq_2 ..) ?_
        simp only [Bool.false_eq_true, if_false]
        have bad2 : ∀ r : Int × Nat, r = (-1, 255) → Ev (fun k => mezzanineref25_Check.j1 k true (ram : Int) (slice : Int) gs) (r.1, (r.2 : Int)) := fun r hr => by
          subst hr
          refine Ev.step (fun k => mezzanineref25_Check.j1.eq_2 ..) ?_
          simp only [if_true]
          exact Ev.now _
        by_cases d1 : slice = 0
        · simp only [if_pos (show (slice : Int) < 1 by omega)]
          exact bad2 _ (if_pos (.inl d1))
        · simp only [if_neg (show ¬ (slice : Int) < 1 by omega)]
          by_cases d2 : 4294967296 < slice
          · simp only [decide_eq_true (show (slice : Int) > 4294967296 by omega)]
            exact bad2 _ (if_pos (.inr d2))
          · have hbad2 : ¬ ((csOf ram slice gs).slice = 0 ∨ 4294967296 < (csOf ram slice gs).slice) := by unfold csOf; simp only; omega
            simp only [decide_eq_false (show ¬ (slice : Int) > 4294967296 by omega)]
            rw [if_neg hbad2]
            refine Ev.step (fun k => mezzanineref25_Check.j1.eq_2 ..) ?_
            simp only [Bool.false_eq_true, if_false]
            have bad3 : ∀ r : Int × Nat, r = (-1, 250) → Ev (fun k => mezzanineref25_Check.j2 k true (ram : Int) (slice : Int) gs) (r.1, (r.2 : Int)) := fun r hr => by
              subst hr
              refine Ev.step (fun k => mezzanineref25_Check.j2.eq_2 ..) ?_
              simp only [if_true]
              exact Ev.now _
            by_cases e1 : gs.length = 0
            · simp only [if_pos (show (gs.length : Int) < 1 by omega)]
              exact bad3 _ (if_pos (.inl (hlen.trans e1)))
            · simp only [if_neg (show ¬ (gs.length : Int) < 1 by omega)]
              by_cases e2 : 8 < gs.length
              · simp only [decide_eq_true (show (gs.length : Int) > 8 by omega)]
                exact bad3 _ (if_pos (.inr (by show 8 < (gs.map toCG).length; omega)))
              · rw [if_neg (show ¬ ((csOf ram slice gs).gs.length = 0 ∨ 8 < (csOf ram slice gs).gs.length) by show ¬ ((gs.map toCG).length = 0 ∨ 8 < (gs.map toCG).length); omega)]
                simp only [decide_eq_false (show ¬ (gs.length : Int) > 8 by omega)]
                refine Ev.step (fun k => mezzanineref25_Check.j2.eq_2 ..) ?_
                simp only [Bool.false_eq_true, if_false]
                have hl := check_loop_ref h ram slice (by omega) c3 (by omega) gs.length 0 (by omega) (fun _ h => by omega)
                unfold scanR at hl
                rw [show (csOf ram slice gs).gs.length = gs.length from hlen]
                cases hs : scanQ (csOf ram slice gs).barAt 0 gs.length with
                | none => rw [hs] at hl; exact hl
                | some p => obtain ⟨m, e⟩ := p; rw [hs] at hl; exact hl
      · simp only [show (((ram % 4096 : Nat) : Int) != 0) = true by rw [bne_iff_ne]; omega]
        exact bad _ (if_pos (.inr (.inr c3)))
/-! ### What the checks, what is free and whose an address is tell, plainly -/
theorem whose_f {gs : GL} (ok : okL gs) (ram slice a : Nat) (hr : ram < 18446744073709551616) (hs : slice < 18446744073709551616) (ha : a < 18446744073709551616) (hl : gs.length ≤ 100) :
    conf_Whose.f (ram : Int) (slice : Int) gs (a : Int) = some (whoseP ram slice gs (a : Int)) := by
  have f : ∀ n : Nat, n < 18446744073709551616 → fit64 (n : Int) = true := fun n h => by unfold fit64; simp only [Bool.and_eq_true, decide_eq_true_eq]; omega
  have h2 : gs.all (fun g => fit64 g.f0 && fit64 g.f1) = true := ok
  unfold conf_Whose.f
  rw [if_pos (by simp only [f ram hr, f slice hs, f a ha, h2, decide_eq_true hl, Bool.and_self]), Int.toNat_natCast, Int.toNat_natCast]
/-- What is known of a guest of an accepted configuration. -/
theorem acc_at {gs : GL} (ok : okL gs) {ram slice : Nat} (h : (csOf ram slice gs).check.2 = 0) {i : Nat} (hi : i < gs.length) : ∃ x y : Nat, gs[i] = ⟨(x : Int), (y : Int)⟩ ∧ rd_T53 gs (i : Int) = ⟨(x : Int), (y : Int)⟩ ∧ 0 < y ∧ y ≤ 2097152 ∧ 2148532224 ≤ x ∧ x + y ≤ 2147483648 + ram ∧ ram ≤ 67108864 := by
  obtain ⟨_, hr, _, _, _, hb⟩ := check_zero h
  have bi := hb i hi
  obtain ⟨u, v, f1, _, _, f2, f3⟩ := ok.get hi
  unfold CS.barAt csOf at bi
  simp only at bi
  rw [List.getD_eq_getElem?_getD, f2, Option.getD_some] at bi
  obtain ⟨b1, b2, _, _, b5, b6, _⟩ := CG.bars_zero bi
  exact ⟨u, v, f1, f3, b1, b2, b5, b6, hr⟩
theorem has_iff (x y a : Nat) (ha : a < 18446744073709551616) : hasI ⟨(x : Int), (y : Int)⟩ (a : Int) = true ↔ x ≤ a ∧ a < x + y := by
  rw [hasI_nat x y a ha]
  unfold CG.has
  simp only [Bool.and_eq_true, decide_eq_true_eq]
theorem whose_at {gs : GL} (ok : okL gs) {ram slice : Nat} (h : (csOf ram slice gs).check.2 = 0) (a : Nat) (ha : a < 18446744073709551616) {i : Nat} (hi : i < gs.length) (hh : hasI gs[i] (a : Int) = true) : whoseP ram slice gs (a : Int) = (i : Int) := by
  unfold whoseP
  rw [if_pos h]
  unfold firstIn
  cases hf : (List.finRange gs.length).find? fun j => hasI gs[j.val] (a : Int) with
  | none => exact absurd hh (List.find?_eq_none.1 hf ⟨i, hi⟩ (List.mem_finRange _))
  | some j =>
    have h1 := List.find?_some hf
    have h2 := one_has ok ram slice h a ha j ⟨i, hi⟩ h1 hh
    rw [h2]
    rfl
theorem whose_none {gs : GL} {ram slice : Nat} (h : (csOf ram slice gs).check.2 = 0) (a : Nat) (hh : ∀ i (hi : i < gs.length), hasI gs[i] (a : Int) = false) : whoseP ram slice gs (a : Int) = -1 := by
  unfold whoseP
  rw [if_pos h]
  unfold firstIn
  have : (List.finRange gs.length).find? (fun j => hasI gs[j.val] (a : Int)) = none := List.find?_eq_none.2 fun j _ => by rw [hh j.val j.isLt]; decide
  rw [this]
  rfl
theorem whose_has {gs : GL} {ram slice : Nat} (h : (csOf ram slice gs).check.2 = 0) (a : Nat) {i : Nat} (hi : i < gs.length) (hw : whoseP ram slice gs (a : Int) = (i : Int)) : hasI gs[i] (a : Int) = true := by
  unfold whoseP at hw
  rw [if_pos h] at hw
  unfold firstIn at hw
  cases hf : (List.finRange gs.length).find? fun j => hasI gs[j.val] (a : Int) with
  | none => rw [hf] at hw; have h2 : (-1 : Int) = (i : Int) := hw; omega
  | some j =>
    rw [hf] at hw
    have h1 := List.find?_some hf
    have h2 : j.val = i := by unfold idxOf at hw; simp only at hw; omega
    subst h2
    exact h1
def sumI : GL → Int
  | [] => 0
  | g :: l => g.f1 + sumI l
theorem sum_drop {gs : GL} {i : Nat} (hi : i < gs.length) : sumI (gs.drop i) = (gs[i]).f1 + sumI (gs.drop (i + 1)) := by
  rw [List.drop_eq_getElem_cons hi]
  rfl
theorem wrap_add (X y : Int) : IntKind.u64.wrap (IntKind.u64.wrap X + y) = IntKind.u64.wrap (X + y) := by rw [IntKind.wrap_u64, IntKind.wrap_u64, IntKind.wrap_u64]; omega
theorem wrap_sub (X y : Int) : IntKind.u64.wrap (IntKind.u64.wrap X - y) = IntKind.u64.wrap (X - y) := by rw [IntKind.wrap_u64, IntKind.wrap_u64, IntKind.wrap_u64]; omega
theorem free_loop {gs : GL} (h8 : gs.length ≤ 8) : ∀ (r i : Nat) (X : Int), i + r = gs.length → Ev (fun k => conf_Free.l0 k (IntKind.u64.wrap X) gs (gs.length : Int) (i : Int)) (IntKind.u64.wrap (X - sumI (gs.drop i)))
  | 0, i, X, e => by
    refine Ev.step (fun k => conf_Free.l0.eq_2 ..) ?_
    simp only [if_neg (show ¬ (i : Int) < (gs.length : Int) by omega)]
    have : gs.drop i = [] := List.drop_eq_nil_of_le (by omega)
    rw [this]
    have e0 : X - sumI [] = X := by unfold sumI; omega
    rw [e0]
    exact Ev.now _
  | r + 1, i, X, e => by
    refine Ev.step (fun k => conf_Free.l0.eq_2 ..) ?_
    have hi : i < gs.length := by omega
    have e1 : (rd_T53 gs (i : Int)).f1 = (gs[i]).f1 := by
      unfold rd_T53
      rw [Int.toNat_natCast, List.getD_eq_getElem?_getD, List.getElem?_eq_getElem hi]
      rfl
    simp only [if_pos (show (i : Int) < (gs.length : Int) by omega), if_pos (show (0 : Int) ≤ (i : Int) by omega), wrap_sub, wrap64_up i (by omega), e1]
    rw [sum_drop hi]
    have h := free_loop h8 r (i + 1) (X - (gs[i]).f1) (by omega)
    rw [show X - (gs[i]).f1 - sumI (gs.drop (i + 1)) = X - ((gs[i]).f1 + sumI (gs.drop (i + 1))) by omega] at h
    exact h
theorem free_f {gs : GL} (ok : okL gs) (ram slice : Nat) (hr : ram < 18446744073709551616) : Ev (fun k => conf_Free.f k (ram : Int) (slice : Int) gs) (if (csOf ram slice gs).check.2 = 0 then IntKind.u64.wrap ((ram : Int) - 1048576 - sumI gs) else 0) := by
  unfold conf_Free.f
  refine Ev.bind (accepted_conf ok ram slice hr) ?_
  by_cases h : (csOf ram slice gs).check.2 = 0
  · obtain ⟨_, _, _, h8, _⟩ := check_zero h
    simp only [decide_eq_true h, if_true, if_pos h]
    have := free_loop h8 gs.length 0 ((ram : Int) - 1048576) (by omega)
    rw [List.drop_zero] at this
    exact this
  · simp only [decide_eq_false h, Bool.false_eq_true, if_false, if_neg h]
    exact Ev.now _
theorem check_bounds (ram slice : Nat) (gs : GL) : (csOf ram slice gs).check.1 ≥ -1 ∧ ((csOf ram slice gs).check.2 ≠ 0 → (csOf ram slice gs).check.1 < (gs.length : Int)) ∧ ((csOf ram slice gs).check.2 = 0 → (csOf ram slice gs).check.1 = -1) := by
  have hlen : (csOf ram slice gs).gs.length = gs.length := List.length_map ..
  unfold CS.check
  split
  · exact ⟨by simp, fun _ => by simp; omega, fun h => by simp at h⟩
  · split
    · exact ⟨by simp, fun _ => by simp; omega, fun h => by simp at h⟩
    · split
      · exact ⟨by simp, fun _ => by simp; omega, fun h => by simp at h⟩
      · cases hs : scanQ (csOf ram slice gs).barAt 0 (csOf ram slice gs).gs.length with
        | none => exact ⟨by simp, fun h => absurd rfl h, fun _ => rfl⟩
        | some p =>
          obtain ⟨m, e⟩ := p
          obtain ⟨_, q2, q3, q4⟩ := scanQ_some _ _ hs
          exact ⟨by simp only; omega, fun _ => by simp only; omega, fun h => absurd h q4⟩
theorem awake25_at : mezzaninelaw25_awake.f 12 = some true := by kernel_rfl
theorem awake25_true : Ev (fun k => mezzaninelaw25_awake.f k) true := Ev.of (fun k => mezzaninelaw25_awake.mono k) awake25_at
/-! ### Configurations turned about, plainly -/
def ownOk (ram : Nat) (g : CG) : Prop := ¬ (g.size = 0 ∨ 2097152 < g.size ∨ g.size % 4096 ≠ 0) ∧ ¬ g.base % 4096 ≠ 0 ∧ g.lies ram = true
theorem bars_iff {ram : Nat} {others : List CG} {g : CG} : g.bars ram others = 0 ↔ ownOk ram g ∧ ∀ o ∈ others, g.meets o = false := by
  unfold CG.bars ownOk
  constructor
  · intro h
    split at h
    · omega
    · split at h
      · omega
      · split at h
        · omega
        · split at h
          · omega
          · rename_i h1 h2 h3 h4
            refine ⟨⟨h1, h2, by simpa using h3⟩, fun o ho => ?_⟩
            cases hm : g.meets o
            · rfl
            · exact absurd (List.any_eq_true.2 ⟨o, ho, hm⟩) h4
  · rintro ⟨⟨h1, h2, h3⟩, h4⟩
    rw [if_neg h1, if_neg h2, if_neg (by rw [h3]; decide), if_neg]
    intro h
    obtain ⟨o, ho, hm⟩ := List.any_eq_true.1 h
    rw [h4 o ho] at hm
    cases hm
theorem meets_symm (g o : CG) : g.meets o = o.meets g := by unfold CG.meets; rw [Bool.and_comm]
/-- Which configurations are accepted, without an order. -/
def CFit (ram slice : Nat) (gs : List CG) : Prop := (2097152 ≤ ram ∧ ram ≤ 67108864 ∧ ram % 4096 = 0 ∧ 0 < slice ∧ slice ≤ 4294967296 ∧ 0 < gs.length ∧ gs.length ≤ 8) ∧ (∀ g ∈ gs, ownOk ram g) ∧ gs.Pairwise fun o g => g.meets o = false
theorem check_fit (ram slice : Nat) (gs : GL) : (csOf ram slice gs).check.2 = 0 ↔ CFit ram slice (gs.map toCG) := by
  have h0 : (csOf ram slice gs).check.2 = 0 ↔ (csOf ram slice gs).accepted = true := by unfold CS.accepted; rw [decide_eq_true_eq]
  rw [h0, CS.accepted_iff]
  have e1 : (csOf ram slice gs).gs = gs.map toCG := rfl
  have e2 : (csOf ram slice gs).ram = ram := rfl
  have e3 : (csOf ram slice gs).slice = slice := rfl
  rw [e1, e2, e3]
  obtain ⟨cs, hcs⟩ : ∃ cs, cs = gs.map toCG := ⟨_, rfl⟩
  have hb : ∀ i (hi : i < cs.length), (csOf ram slice gs).barAt i = (cs[i]).bars ram (cs.take i) := fun i hi => by
    unfold CS.barAt
    rw [e1, e2, ← hcs, List.getD_eq_getElem?_getD, List.getElem?_eq_getElem hi, Option.getD_some]
  rw [← hcs]
  unfold CFit
  constructor
  · rintro ⟨a1, a2, a3, a4, a5, a6, a7, h⟩
    refine ⟨⟨a1, a2, a3, a4, a5, a6, a7⟩, fun g hg => ?_, ?_⟩
    · obtain ⟨i, hi, rfl⟩ := List.mem_iff_getElem.1 hg
      exact (bars_iff.1 ((hb i hi).symm.trans (h i hi))).1
    · rw [List.pairwise_iff_getElem]
      intro i j hi hj hij
      refine (bars_iff.1 ((hb j hj).symm.trans (h j hj))).2 _ ?_
      rw [List.mem_iff_getElem?]
      exact ⟨i, by rw [List.getElem?_take, if_pos hij, List.getElem?_eq_getElem hi]⟩
  · rintro ⟨⟨a1, a2, a3, a4, a5, a6, a7⟩, h1, h2⟩
    refine ⟨a1, a2, a3, a4, a5, a6, a7, fun j hj => ?_⟩
    rw [hb j hj, bars_iff]
    refine ⟨h1 _ (List.getElem_mem hj), fun o ho => ?_⟩
    obtain ⟨i, hi⟩ := List.mem_iff_getElem?.1 ho
    rw [List.getElem?_take] at hi
    split at hi
    · rename_i hij
      obtain ⟨hil, rfl⟩ := List.getElem?_eq_some_iff.1 hi
      exact List.pairwise_iff_getElem.1 h2 i j hil hj hij
    · cases hi
theorem Fit.perm {ram slice : Nat} {gs hs : List CG} (h : gs.Perm hs) : CFit ram slice gs → CFit ram slice hs := by
  rintro ⟨⟨a1, a2, a3, a4, a5, a6, a7⟩, h1, h2⟩
  refine ⟨⟨a1, a2, a3, a4, a5, by rw [← h.length_eq]; exact a6, by rw [← h.length_eq]; exact a7⟩, fun g hg => h1 g (h.symm.subset hg), ?_⟩
  exact (h.pairwise_iff (fun {x y} hxy => by rw [meets_symm]; exact hxy)).1 h2
/-- The two guests turned about. -/
def turnedL (l : GL) (i k : Nat) (hi : i < l.length) (hk : k < l.length) : GL := (l.set i l[k]).set k l[i]
theorem turned_perm (l : GL) (i k : Nat) (hi : i < l.length) (hk : k < l.length) : (turnedL l i k hi hk).Perm l := List.set_set_perm hi hk
theorem turned_len (l : GL) (i k : Nat) (hi : i < l.length) (hk : k < l.length) : (turnedL l i k hi hk).length = l.length := by unfold turnedL; simp
theorem turned_ok {l : GL} (ok : okL l) (i k : Nat) (hi : i < l.length) (hk : k < l.length) : okL (turnedL l i k hi hk) :=
  List.all_eq_true.2 fun g hg => List.all_eq_true.1 ok g ((turned_perm l i k hi hk).subset hg)
theorem turned_check (l : GL) (ram slice i k : Nat) (hi : i < l.length) (hk : k < l.length) : (csOf ram slice (turnedL l i k hi hk)).check.2 = 0 ↔ (csOf ram slice l).check.2 = 0 := by
  rw [check_fit, check_fit]
  have h := (turned_perm l i k hi hk).map toCG
  exact ⟨Fit.perm h, Fit.perm h.symm⟩
theorem sumI_perm {l m : GL} (h : l.Perm m) : sumI l = sumI m := by
  induction h with
  | nil => rfl
  | cons x _ ih => unfold sumI; rw [ih]
  | swap x y l => unfold sumI; unfold sumI; omega
  | trans _ _ h1 h2 => rw [h1, h2]
theorem sumI_app (l m : GL) : sumI (l ++ m) = sumI l + sumI m := by
  induction l with
  | nil => show sumI m = 0 + sumI m; omega
  | cons x l ih => show x.f1 + sumI (l ++ m) = x.f1 + sumI l + sumI m; omega
theorem sumI_less (l : GL) (i : Nat) (hi : i < l.length) : sumI (l.take i ++ l.drop (i + 1)) = sumI l - (l[i]).f1 := by
  have h1 : sumI l = sumI (l.take i) + sumI (l.drop i) := by rw [← sumI_app, List.take_append_drop]
  rw [sumI_app, h1, sum_drop hi]
  omega
theorem less_check {l : GL} {ram slice : Nat} (h : (csOf ram slice l).check.2 = 0) (i : Nat) (hi : i < l.length) (h1 : 1 < l.length) : (csOf ram slice (l.take i ++ l.drop (i + 1))).check.2 = 0 := by
  rw [check_fit] at h ⊢
  obtain ⟨⟨a1, a2, a3, a4, a5, a6, a7⟩, b1, b2⟩ := h
  have hs : (l.take i ++ l.drop (i + 1)).Sublist l := by
    rw [← List.eraseIdx_eq_take_drop_succ]
    exact List.eraseIdx_sublist l i
  have hm := hs.map toCG
  have hlen : (l.take i ++ l.drop (i + 1)).length = l.length - 1 := by simp; omega
  rw [List.length_map] at a6 a7
  refine ⟨⟨a1, a2, a3, a4, a5, by rw [List.length_map]; omega, by rw [List.length_map]; omega⟩, fun g hg => b1 g (hm.subset hg), b2.sublist hm⟩
/-- By their places the guests of an accepted configuration rise. -/
theorem rising_strict {gs : GL} (ok : okL gs) {ram slice : Nat} (h : (csOf ram slice gs).check.2 = 0) {ord : List (Fin gs.length)} (hp : ord.Perm (List.finRange gs.length)) (hr : Rising gs ord) : ord.Pairwise fun i k => (gs[i.val]).f0 < (gs[k.val]).f0 := by
  have hn : ord.Pairwise (· ≠ ·) := (hp.nodup_iff.2 (List.nodup_finRange _))
  unfold Rising at hr
  refine (hr.and hn).imp ?_
  rintro i k ⟨h1, h2⟩
  rcases Int.lt_or_le (gs[i.val]).f0 (gs[k.val]).f0 with q | q
  · exact q
  · exfalso
    have e : (gs[i.val]).f0 = (gs[k.val]).f0 := by omega
    obtain ⟨x, y, e1, _, p0, p1, p2, p3, p4⟩ := acc_at ok h i.isLt
    obtain ⟨x', y', e1', _, p0', _⟩ := acc_at ok h k.isLt
    rw [e1, e1'] at e
    simp only at e
    have ex : x = x' := by omega
    refine h2 (one_has ok ram slice h x (by omega) i k ?_ ?_)
    · rw [e1, has_iff _ _ _ (by omega)]; omega
    · rw [e1', has_iff _ _ _ (by omega)]; omega
/-! ### The document's answers, plainly -/
theorem accepted_ref {gs : GL} (ok : okL gs) (ram slice : Nat) : Ev (fun k => mezzanineref25_Accepted.f k (ram : Int) (slice : Int) gs) (decide ((csOf ram slice gs).check.2 = 0)) := by
  unfold mezzanineref25_Accepted.f
  refine Ev.bind (check_ref ok ram slice) ?_
  have e : (((csOf ram slice gs).check.2 : Int) == 0) = decide ((csOf ram slice gs).check.2 = 0) := by
    rw [Bool.eq_iff_iff]
    simp
  rw [← e]
  exact Ev.now _
theorem whose_ref_loop {gs : GL} (ok : okL gs) (ram slice a : Nat) (ha : a < 18446744073709551616) (h : (csOf ram slice gs).check.2 = 0) : ∀ (r i : Nat), i + r = gs.length → (∀ j (hj : j < gs.length), j < i → hasI gs[j] (a : Int) = false) →
    Ev (fun k => mezzanineref25_Whose.l0 k (a : Int) (i : Int) (ram : Int) (slice : Int) gs) (whoseP ram slice gs (a : Int))
  | 0, i, e, hn => by
    refine Ev.step (fun k => mezzanineref25_Whose.l0.eq_2 ..) ?_
    simp only [if_neg (show ¬ (i : Int) < (gs.length : Int) by omega)]
    rw [whose_none h a (fun j hj => hn j hj (by omega))]
    exact Ev.now _
  | r + 1, i, e, hn => by
    have hi : i < gs.length := by omega
    obtain ⟨x, y, e1, e2, y0, y1, x0, x1, x2⟩ := acc_at ok h hi
    obtain ⟨_, hr, _, h8, _⟩ := check_zero h
    have hh : hasI gs[i] (a : Int) = (CG.mk x y).has a := by rw [e1, hasI_nat _ _ _ ha]
    have hf := has_f (CG.mk x y) (by show x + y < 18446744073709551616; omega) a
    simp only at hf
    refine Ev.step (fun k => mezzanineref25_Whose.l0.eq_2 ..) ?_
    simp only [if_pos (show (i : Int) < (gs.length : Int) by omega), if_pos (show (0 : Int) ≤ (i : Int) by omega), e2]
    refine Ev.bind (show Ev (fun _ : Nat => mezzanineref25_Has.f (x : Int) (y : Int) (a : Int)) _ from ⟨0, fun _ _ => hf⟩) ?_
    by_cases hq : (CG.mk x y).has a = true
    · simp only [hq, if_true]
      rw [whose_at ok h a ha hi (hh.trans hq)]
      exact Ev.now _
    · have hq' : (CG.mk x y).has a = false := Bool.eq_false_iff.2 hq
      simp only [hq', Bool.false_eq_true, if_false, wrap64_up i (by omega)]
      refine whose_ref_loop ok ram slice a ha h r (i + 1) (by omega) fun j hj hji => ?_
      by_cases q : j = i
      · subst q; rw [hh]; exact hq'
      · exact hn j hj (by omega)
theorem whose_ref {gs : GL} (ok : okL gs) (ram slice a : Nat) (ha : a < 18446744073709551616) : Ev (fun k => mezzanineref25_Whose.f k (ram : Int) (slice : Int) gs (a : Int)) (whoseP ram slice gs (a : Int)) := by
  unfold mezzanineref25_Whose.f
  refine Ev.bind (accepted_ref ok ram slice) ?_
  by_cases h : (csOf ram slice gs).check.2 = 0
  · simp only [decide_eq_true h, if_true]
    exact whose_ref_loop ok ram slice a ha h gs.length 0 (by omega) (fun j _ hj => by omega)
  · simp only [decide_eq_false h, Bool.false_eq_true, if_false]
    have e : whoseP ram slice gs (a : Int) = -1 := by unfold whoseP; rw [if_neg h]
    rw [e]
    exact Ev.now _
/-! ### The document's order of the guests, plainly -/
def baseOf (gs : GL) (j : Nat) : Int := (rd_T53 gs (j : Int)).f0
theorem base_ne {gs : GL} (ok : okL gs) {ram slice : Nat} (h : (csOf ram slice gs).check.2 = 0) {i j : Nat} (hi : i < gs.length) (hj : j < gs.length) (hij : i ≠ j) : baseOf gs i ≠ baseOf gs j := by
  intro q
  obtain ⟨x, y, e1, e2, y0, y1, x0, x1, x2⟩ := acc_at ok h hi
  obtain ⟨x', y', e1', e2', y0', y1', _⟩ := acc_at ok h hj
  unfold baseOf at q
  rw [e2, e2'] at q
  simp only at q
  have hx : x = x' := by omega
  have := one_has ok ram slice h x (by omega) ⟨i, hi⟩ ⟨j, hj⟩ (by rw [e1, has_iff _ _ _ (by omega)]; omega) (by rw [e1', has_iff _ _ _ (by omega)]; omega)
  exact hij (congrArg Fin.val this)
/-- A number put into its place. -/
theorem put_rises (f : Nat → Int) (L : List Nat) (i k : Nat) (hk : k ≤ L.length) (hr : L.Pairwise fun a b => f a < f b) (h1 : ∀ a ∈ L.take k, f a < f i) (h2 : ∀ a ∈ L.drop k, f i < f a) : (L.take k ++ [i] ++ L.drop k).Pairwise fun a b => f a < f b := by
  have hr2 : (L.take k ++ L.drop k).Pairwise fun a b => f a < f b := by rw [List.take_append_drop]; exact hr
  obtain ⟨p1, p2, p3⟩ := List.pairwise_append.1 hr2
  rw [List.append_assoc, List.pairwise_append]
  refine ⟨p1, ?_, ?_⟩
  · rw [List.singleton_append, List.pairwise_cons]
    exact ⟨h2, p2⟩
  · intro a ha b hb
    rw [List.singleton_append, List.mem_cons] at hb
    rcases hb with rfl | hb
    · exact h1 a ha
    · exact p3 a ha b hb
theorem put_perm (L : List Nat) (i k : Nat) (h : L.Perm (List.range i)) : (L.take k ++ [i] ++ L.drop k).Perm (List.range (i + 1)) := by
  rw [List.range_succ, List.append_assoc]
  refine (List.perm_append_comm_assoc (L.take k) [i] (L.drop k)).trans ?_
  rw [List.take_append_drop]
  exact List.perm_append_comm.trans (h.append_right [i])
def castL (L : List Nat) : List Int := L.map fun (j : Nat) => (j : Int)
theorem castL_len (L : List Nat) : (castL L).length = L.length := by unfold castL; simp
theorem rd_cast (L : List Nat) (k : Nat) (hk : k < L.length) : rd (castL L) (k : Int) = ((L[k] : Nat) : Int) := by
  unfold rd castL
  rw [Int.toNat_natCast, List.getD_eq_getElem?_getD, List.getElem?_map, List.getElem?_eq_getElem hk]
  rfl
theorem cast_put (L : List Nat) (i k : Nat) : (([] : List Int) ++ (castL L).take k ++ [(i : Int)]) ++ (castL L).drop k = castL (L.take k ++ [i] ++ L.drop k) := by unfold castL; simp [List.map_take, List.map_drop]
theorem all_inner {gs : GL} (ok : okL gs) (ram slice : Nat) (h : (csOf ram slice gs).check.2 = 0) (i : Nat) (hi : i < gs.length) (L : List Nat) (hp : L.Perm (List.range i)) (hr : L.Pairwise fun a b => baseOf gs a < baseOf gs b)
    (IH : ∀ L2 : List Nat, L2.Perm (List.range (i + 1)) → (L2.Pairwise fun a b => baseOf gs a < baseOf gs b) → ∃ M : List Nat, M.Perm (List.range gs.length) ∧ (M.Pairwise fun a b => baseOf gs a < baseOf gs b) ∧ Ev (fun t => mezzanineref25_All.l0 t (castL L2) ((i + 1 : Nat) : Int) (ram : Int) (slice : Int) gs) (castL M)) :
    ∀ (q k : Nat), k + q = L.length → (∀ a ∈ L.take k, baseOf gs a < baseOf gs i) → ∃ M : List Nat, M.Perm (List.range gs.length) ∧ (M.Pairwise fun a b => baseOf gs a < baseOf gs b) ∧ Ev (fun t => mezzanineref25_All.l1 t (castL L) (i : Int) (k : Int) (ram : Int) (slice : Int) gs) (castL M)
  | 0, k, e, hk => by
    obtain ⟨_, _, _, h8, _⟩ := check_zero h
    have hl : L.length = i := by rw [hp.length_eq, List.length_range]
    have hd : L.drop k = [] := List.drop_eq_nil_of_le (by omega)
    obtain ⟨M, m1, m2, m3⟩ := IH (L.take k ++ [i] ++ L.drop k) (put_perm L i k hp) (put_rises (baseOf gs) L i k (by omega) hr hk (by rw [hd]; simp))
    refine ⟨M, m1, m2, Ev.step (fun t => mezzanineref25_All.l1.eq_2 ..) (Ev.congr (fun t => ?_) m3)⟩
    have hc := castL_len L
    simp only [Option.bind_some, Int.toNat_natCast]
    rw [if_neg (by omega), if_pos (by omega), if_pos (by omega), if_pos (by simp; omega), if_pos (by simp; omega), if_pos (by simp; omega), cast_put, wrap64_up i (by omega)]
  | q + 1, k, e, hk => by
    obtain ⟨_, _, _, h8, _⟩ := check_zero h
    have hl : L.length = i := by rw [hp.length_eq, List.length_range]
    have hkl : k < L.length := by omega
    have hc := castL_len L
    have hm : L[k] ∈ List.range i := hp.subset (List.getElem_mem hkl)
    rw [List.mem_range] at hm
    have hrd := rd_cast L k hkl
    have e1 : (rd_T53 gs ((L[k] : Nat) : Int)).f0 = baseOf gs L[k] := rfl
    have e2 : (rd_T53 gs (i : Int)).f0 = baseOf gs i := rfl
    by_cases hlt : baseOf gs L[k] < baseOf gs i
    · obtain ⟨M, m1, m2, m3⟩ := all_inner ok ram slice h i hi L hp hr IH q (k + 1) (by omega) (fun a ha => by
        rw [List.take_add_one, List.getElem?_eq_getElem hkl] at ha
        rcases List.mem_append.1 ha with ha | ha
        · exact hk a ha
        · simp at ha; rw [ha]; exact hlt)
      refine ⟨M, m1, m2, Ev.step (fun t => mezzanineref25_All.l1.eq_2 ..) (Ev.congr (fun t => ?_) m3)⟩
      rw [if_pos (by omega), if_pos (by omega), hrd, if_pos (by omega), if_pos (by omega), if_pos (by omega), if_pos (by omega), e1, e2, if_pos hlt, wrap64_up k (by omega)]
    · have hgt : baseOf gs i < baseOf gs L[k] := by
        have := base_ne ok h (show L[k] < gs.length by omega) hi (by omega)
        omega
      have hdr : ∀ a ∈ L.drop k, baseOf gs i < baseOf gs a := fun a ha => by
        have hr2 : (L.drop k).Pairwise fun a b => baseOf gs a < baseOf gs b := hr.sublist (List.drop_sublist k L)
        rw [List.drop_eq_getElem_cons hkl] at ha hr2
        rcases List.mem_cons.1 ha with rfl | ha
        · exact hgt
        · have := List.rel_of_pairwise_cons hr2 ha
          omega
      obtain ⟨M, m1, m2, m3⟩ := IH (L.take k ++ [i] ++ L.drop k) (put_perm L i k hp) (put_rises (baseOf gs) L i k (by omega) hr hk hdr)
      refine ⟨M, m1, m2, Ev.step (fun t => mezzanineref25_All.l1.eq_2 ..) (Ev.congr (fun t => ?_) m3)⟩
      simp only [Option.bind_some, Int.toNat_natCast]
      rw [if_pos (by omega), if_pos (by omega), hrd, if_pos (by omega), if_pos (by omega), if_pos (by omega), if_pos (by omega), e1, e2, if_neg hlt, if_pos (by omega), if_pos (by simp; omega), if_pos (by simp; omega), if_pos (by simp; omega), cast_put, wrap64_up i (by omega)]
theorem all_outer {gs : GL} (ok : okL gs) (ram slice : Nat) (h : (csOf ram slice gs).check.2 = 0) : ∀ (r i : Nat), i + r = gs.length → ∀ L : List Nat, L.Perm (List.range i) → (L.Pairwise fun a b => baseOf gs a < baseOf gs b) →
    ∃ M : List Nat, M.Perm (List.range gs.length) ∧ (M.Pairwise fun a b => baseOf gs a < baseOf gs b) ∧ Ev (fun t => mezzanineref25_All.l0 t (castL L) (i : Int) (ram : Int) (slice : Int) gs) (castL M)
  | 0, i, e, L, hp, hr => by
    refine ⟨L, by rw [← e]; exact hp, hr, Ev.step (fun t => mezzanineref25_All.l0.eq_2 ..) ?_⟩
    simp only [if_neg (show ¬ (i : Int) < (gs.length : Int) by omega)]
    exact Ev.now _
  | r + 1, i, e, L, hp, hr => by
    obtain ⟨M, m1, m2, m3⟩ := all_inner ok ram slice h i (by omega) L hp hr (fun L2 hp2 hr2 => all_outer ok ram slice h r (i + 1) (by omega) L2 hp2 hr2) L.length 0 (by omega) (by simp)
    refine ⟨M, m1, m2, Ev.step (fun t => mezzanineref25_All.l0.eq_2 ..) ?_⟩
    simp only [if_pos (show (i : Int) < (gs.length : Int) by omega)]
    exact m3
/-- The document's order: the one in which the guests rise; none, where the configuration is not accepted. -/
theorem all_ref {gs : GL} (ok : okL gs) (ram slice : Nat) : ∃ M : List Nat, Ev (fun k => mezzanineref25_All.f k (ram : Int) (slice : Int) gs) (castL M) ∧
    ((csOf ram slice gs).check.2 = 0 → M.Perm (List.range gs.length) ∧ M.Pairwise fun a b => baseOf gs a < baseOf gs b) ∧ ((csOf ram slice gs).check.2 ≠ 0 → M = []) := by
  by_cases h : (csOf ram slice gs).check.2 = 0
  · obtain ⟨M, m1, m2, m3⟩ := all_outer ok ram slice h gs.length 0 (by omega) [] (by simp) List.Pairwise.nil
    refine ⟨M, ?_, fun _ => ⟨m1, m2⟩, fun q => absurd h q⟩
    unfold mezzanineref25_All.f
    refine Ev.bind (accepted_ref ok ram slice) ?_
    simp only [decide_eq_true h, if_true]
    exact m3
  · refine ⟨[], ?_, fun q => absurd q h, fun _ => rfl⟩
    unfold mezzanineref25_All.f
    refine Ev.bind (accepted_ref ok ram slice) ?_
    simp only [decide_eq_false h, Bool.false_eq_true, if_false]
    exact Ev.now _
/-! ### The order of the guests by their places is one -/
theorem rising_one {α : Type} (f : α → Int) : ∀ (l m : List α), l.Perm m → l.Pairwise (fun a b => f a < f b) → m.Pairwise (fun a b => f a < f b) → l = m
  | [], m, h, _, _ => h.nil_eq
  | a :: l, [], h, _, _ => absurd h.symm.nil_eq (by simp)
  | a :: l, b :: m, h, h1, h2 => by
    have ha : a ∈ b :: m := h.subset List.mem_cons_self
    have hb : b ∈ a :: l := h.symm.subset List.mem_cons_self
    have e : a = b := by
      rcases List.mem_cons.1 ha with q | q
      · exact q
      · rcases List.mem_cons.1 hb with p | p
        · exact p.symm
        · have q1 := List.rel_of_pairwise_cons h1 p
          have q2 := List.rel_of_pairwise_cons h2 q
          omega
    subst e
    rw [rising_one f l m (List.perm_cons a |>.1 h) (List.Pairwise.of_cons h1) (List.Pairwise.of_cons h2)]
/-! ### Pages are counted -/
theorem count_interval : ∀ (T b s : Nat), b + s ≤ T → (List.range T).countP (fun t => decide (b ≤ t) && decide (t < b + s)) = s
  | 0, b, s, h => by simp; omega
  | T + 1, b, s, h => by
    rw [List.range_succ, List.countP_append, List.countP_singleton]
    by_cases q : b + s ≤ T
    · have e : (decide (b ≤ T) && decide (T < b + s)) = false := by simp; omega
      rw [count_interval T b s q, e]
      simp
    · by_cases z : s = 0
      · subst z
        have e : (decide (b ≤ T) && decide (T < b + 0)) = false := by simp
        have e2 : (List.range T).countP (fun t => decide (b ≤ t) && decide (t < b + 0)) = 0 := List.countP_eq_zero.2 fun t _ => by simp
        rw [e, e2]
        simp
      · obtain ⟨s', rfl⟩ : ∃ s', s = s' + 1 := ⟨s - 1, by omega⟩
        have e : (decide (b ≤ T) && decide (T < b + (s' + 1))) = true := by simp; omega
        have e2 : (List.range T).countP (fun t => decide (b ≤ t) && decide (t < b + (s' + 1))) = (List.range T).countP (fun t => decide (b ≤ t) && decide (t < b + s')) := List.countP_congr fun t ht => by
          have := List.mem_range.1 ht
          simp
          omega
        rw [e, e2, count_interval T b s' (by omega)]
        simp
theorem count_or {α : Type} (p q : α → Bool) : ∀ l : List α, (∀ a ∈ l, ¬ (p a = true ∧ q a = true)) → l.countP (fun a => p a || q a) = l.countP p + l.countP q
  | [], _ => rfl
  | a :: l, h => by
    have ih := count_or p q l (fun b hb => h b (List.mem_cons_of_mem _ hb))
    have ha := h a List.mem_cons_self
    rw [List.countP_cons, List.countP_cons, List.countP_cons, ih]
    cases hp : p a <;> cases hq : q a <;> simp_all <;> omega
/-- Intervals that are apart cover as many places as they are long. -/
theorem count_any (T : Nat) : ∀ L : List (Nat × Nat), (∀ x ∈ L, x.1 + x.2 ≤ T) → (L.Pairwise fun x y => x.1 + x.2 ≤ y.1 ∨ y.1 + y.2 ≤ x.1) →
    (List.range T).countP (fun t => L.any fun x => decide (x.1 ≤ t) && decide (t < x.1 + x.2)) = (L.map (·.2)).sum
  | [], _, _ => by simp
  | x :: L, h1, h2 => by
    have ih := count_any T L (fun y hy => h1 y (List.mem_cons_of_mem _ hy)) h2.of_cons
    have hx := count_interval T x.1 x.2 (h1 x List.mem_cons_self)
    simp only [List.any_cons, List.map_cons, List.sum_cons]
    rw [count_or (fun t => decide (x.1 ≤ t) && decide (t < x.1 + x.2)) (fun t => L.any fun y => decide (y.1 ≤ t) && decide (t < y.1 + y.2)), hx, ih]
    rintro t _ ⟨p1, p2⟩
    obtain ⟨y, hy, p3⟩ := List.any_eq_true.1 p2
    have := List.rel_of_pairwise_cons h2 hy
    simp only [Bool.and_eq_true, decide_eq_true_eq] at p1 p3
    omega
/-! ### The document's count of what is free, plainly -/
def pgOf (g : CG) : Nat × Nat := ((g.base - 2148532224) / 4096, g.size / 4096)
theorem own_parts {ram : Nat} {g : CG} (h : ownOk ram g) : 0 < g.size ∧ g.size % 4096 = 0 ∧ g.base % 4096 = 0 ∧ 2148532224 ≤ g.base ∧ g.base + g.size ≤ 2147483648 + ram := by
  obtain ⟨h1, h2, h3⟩ := h
  unfold CG.lies at h3
  simp only [Bool.and_eq_true, decide_eq_true_eq] at h3
  omega
theorem has_page {ram : Nat} {g : CG} (h : ownOk ram g) (t : Nat) : g.has (2148532224 + 4096 * t) = (decide ((pgOf g).1 ≤ t) && decide (t < (pgOf g).1 + (pgOf g).2)) := by
  obtain ⟨_, h1, h2, h3, _⟩ := own_parts h
  unfold CG.has pgOf
  rw [Bool.eq_iff_iff]
  simp only [Bool.and_eq_true, decide_eq_true_eq]
  omega
def mineAt (gs : GL) (a : Nat) : Bool := (gs.map toCG).any fun g => g.has a
def freeN (gs : GL) (t : Nat) : Nat := (List.range t).countP fun t => !(mineAt gs (2148532224 + 4096 * t))
theorem mine_page {ram : Nat} : ∀ cs : List CG, (∀ g ∈ cs, ownOk ram g) → ∀ t, (cs.any fun g => g.has (2148532224 + 4096 * t)) = ((cs.map pgOf).any fun x => decide (x.1 ≤ t) && decide (t < x.1 + x.2))
  | [], _, _ => rfl
  | g :: cs, h, t => by
    rw [List.any_cons, List.map_cons, List.any_cons, has_page (h g List.mem_cons_self) t, mine_page cs (fun x hx => h x (List.mem_cons_of_mem _ hx)) t]
theorem free_in {gs : GL} (ok : okL gs) {ram slice : Nat} (h : (csOf ram slice gs).check.2 = 0) (a : Nat) (n : Int) (R : Int) : ∀ (r i : Nat) (mine : Bool), i + r = gs.length →
    Ev (fun k => mezzanineref25_Free.l0 k (if (mine || ((gs.map toCG).drop i).any fun g => g.has a) = true then n else IntKind.u64.wrap (n + 4096)) (IntKind.u64.wrap ((a : Int) + 4096)) (ram : Int) (slice : Int) gs) R →
    Ev (fun k => mezzanineref25_Free.l1 k n (a : Int) mine (i : Int) (ram : Int) (slice : Int) gs) R
  | 0, i, mine, e, H => by
    refine Ev.step (fun k => mezzanineref25_Free.l1.eq_2 ..) ?_
    have hd : (gs.map toCG).drop i = [] := List.drop_eq_nil_of_le (by rw [List.length_map]; omega)
    rw [hd, List.any_nil, Bool.or_false] at H
    simp only [if_neg (show ¬ (i : Int) < (gs.length : Int) by omega)]
    cases mine with
    | true => simpa using H
    | false => simpa using H
  | r + 1, i, mine, e, H => by
    have hi : i < gs.length := by omega
    obtain ⟨_, hr, _, h8, _⟩ := check_zero h
    obtain ⟨x, y, _, _, _, e1, e2⟩ := ok.get hi
    have hfit := (check_fit ram slice gs).1 h
    have hmem : CG.mk x y ∈ gs.map toCG := List.mem_of_getElem? e1
    obtain ⟨_, _, _, _, hb⟩ := own_parts (hfit.2.1 _ hmem)
    have hf := has_f (CG.mk x y) (by show x + y < _; simp only at hb; omega) a
    simp only at hf
    have hil : i < (gs.map toCG).length := by rw [List.length_map]; exact hi
    have hd : (gs.map toCG).drop i = CG.mk x y :: (gs.map toCG).drop (i + 1) := by
      rw [List.drop_eq_getElem_cons hil]
      congr 1
      exact (List.getElem?_eq_some_iff.1 e1).2
    rw [hd, List.any_cons] at H
    refine Ev.step (fun k => mezzanineref25_Free.l1.eq_2 ..) ?_
    simp only [if_pos (show (i : Int) < (gs.length : Int) by omega)]
    cases mine with
    | true =>
      simp only [if_true, wrap64_up i (by omega)]
      refine free_in ok h a n R r (i + 1) true (by omega) ?_
      simpa using H
    | false =>
      simp only [Bool.false_eq_true, if_false, if_pos (show (0 : Int) ≤ (i : Int) by omega), e2]
      refine Ev.bind (show Ev (fun _ : Nat => mezzanineref25_Has.f (x : Int) (y : Int) (a : Int)) _ from ⟨0, fun _ _ => hf⟩) ?_
      simp only [wrap64_up i (by omega)]
      refine free_in ok h a n R r (i + 1) _ (by omega) ?_
      simpa using H
theorem free_out {gs : GL} (ok : okL gs) {ram slice : Nat} (h : (csOf ram slice gs).check.2 = 0) (T : Nat) (hT : ram = 1048576 + 4096 * T) : ∀ (r t : Nat), t + r = T →
    Ev (fun k => mezzanineref25_Free.l0 k ((4096 * freeN gs t : Nat) : Int) ((2148532224 + 4096 * t : Nat) : Int) (ram : Int) (slice : Int) gs) ((4096 * freeN gs T : Nat) : Int)
  | 0, t, e => by
    obtain ⟨_, hr, _⟩ := check_zero h
    obtain rfl : t = T := by omega
    refine Ev.step (fun k => mezzanineref25_Free.l0.eq_2 ..) ?_
    have hw : IntKind.u64.wrap (2147483648 + (ram : Int)) = ((2147483648 + ram : Nat) : Int) := by rw [IntKind.wrap_u64]; omega
    simp only [hw, if_neg (show ¬ ((2148532224 + 4096 * t : Nat) : Int) < ((2147483648 + ram : Nat) : Int) by omega)]
    exact Ev.now _
  | r + 1, t, e => by
    obtain ⟨_, hr, _⟩ := check_zero h
    have ih := free_out ok h T hT r (t + 1) (by omega)
    have hle : freeN gs t ≤ t := by
      have := List.countP_le_length (p := fun t => !(mineAt gs (2148532224 + 4096 * t))) (l := List.range t)
      rw [List.length_range] at this
      exact this
    refine Ev.step (fun k => mezzanineref25_Free.l0.eq_2 ..) ?_
    have hw : IntKind.u64.wrap (2147483648 + (ram : Int)) = ((2147483648 + ram : Nat) : Int) := by rw [IntKind.wrap_u64]; omega
    simp only [hw, if_pos (show ((2148532224 + 4096 * t : Nat) : Int) < ((2147483648 + ram : Nat) : Int) by omega)]
    refine free_in ok h (2148532224 + 4096 * t) _ _ gs.length 0 false (by omega) ?_
    rw [List.drop_zero, Bool.false_or]
    have hw2 : IntKind.u64.wrap (((2148532224 + 4096 * t : Nat) : Int) + 4096) = ((2148532224 + 4096 * (t + 1) : Nat) : Int) := by rw [IntKind.wrap_u64]; omega
    have hw3 : IntKind.u64.wrap (((4096 * freeN gs t : Nat) : Int) + 4096) = ((4096 * (freeN gs t + 1) : Nat) : Int) := by rw [IntKind.wrap_u64]; omega
    rw [hw2, hw3]
    have hs : freeN gs (t + 1) = if mineAt gs (2148532224 + 4096 * t) = true then freeN gs t else freeN gs t + 1 := by
      unfold freeN
      rw [List.range_succ, List.countP_append, List.countP_singleton]
      cases mineAt gs (2148532224 + 4096 * t) <;> simp
    rw [hs] at ih
    unfold mineAt at ih
    by_cases q : ((gs.map toCG).any fun g => g.has (2148532224 + 4096 * t)) = true
    · rw [if_pos q] at ih ⊢
      exact ih
    · rw [if_neg q] at ih ⊢
      exact ih
theorem sum_nat : ∀ (gs : GL) (ram : Nat), okL gs → (∀ g ∈ gs.map toCG, ownOk ram g) → sumI gs = ((4096 * (((gs.map toCG).map pgOf).map (·.2)).sum : Nat) : Int)
  | [], _, _, _ => rfl
  | g :: gs, ram, ok, h => by
    obtain ⟨x, y, e1, _, _, e2, _⟩ := ok.get (show 0 < (g :: gs).length by simp)
    have okt : okL gs := List.all_eq_true.2 fun z hz => List.all_eq_true.1 ok z (List.mem_cons_of_mem _ hz)
    have ih := sum_nat gs ram okt (fun z hz => h z (by rw [List.map_cons]; exact List.mem_cons_of_mem _ hz))
    have e3 : toCG g = ⟨x, y⟩ := by simpa using e2
    have e4 : g = ⟨(x : Int), (y : Int)⟩ := e1
    obtain ⟨_, h1, _⟩ := own_parts (h (toCG g) (by rw [List.map_cons]; exact List.mem_cons_self))
    rw [e3] at h1
    simp only at h1
    rw [List.map_cons, List.map_cons, List.map_cons, List.sum_cons]
    have e5 : (pgOf (toCG g)).2 = y / 4096 := by rw [e3]; rfl
    rw [e5]
    unfold sumI
    rw [ih, e4]
    show (y : Int) + _ = _
    omega

theorem count_not (p : Nat → Bool) (T : Nat) : (List.range T).countP (fun t => !(p t)) = T - (List.range T).countP p := by
  have e2 := List.length_eq_countP_add_countP p (l := List.range T)
  rw [List.length_range] at e2
  have e3 : (List.range T).countP (fun t => !(p t)) = (List.range T).countP (fun t => decide ¬ (p t = true)) := List.countP_congr fun t _ => by simp
  rw [e3]
  omega
theorem free_ref {gs : GL} (ok : okL gs) (ram slice : Nat) : Ev (fun k => mezzanineref25_Free.f k (ram : Int) (slice : Int) gs) (if (csOf ram slice gs).check.2 = 0 then IntKind.u64.wrap ((ram : Int) - 1048576 - sumI gs) else 0) := by
  unfold mezzanineref25_Free.f
  refine Ev.bind (accepted_ref ok ram slice) ?_
  by_cases h : (csOf ram slice gs).check.2 = 0
  · obtain ⟨r1, r2, r3, h8, _⟩ := check_zero h
    obtain ⟨T, hT⟩ : ∃ T, ram = 1048576 + 4096 * T := ⟨(ram - 1048576) / 4096, by omega⟩
    have hfit := (check_fit ram slice gs).1 h
    have hc := count_any T ((gs.map toCG).map pgOf) (fun x hx => by
        obtain ⟨g, hg, rfl⟩ := List.mem_map.1 hx
        obtain ⟨_, q1, q2, q3, q4⟩ := own_parts (hfit.2.1 g hg)
        unfold pgOf
        simp only
        omega) (by
        rw [List.pairwise_map]
        refine hfit.2.2.imp_of_mem ?_
        intro x y hx hy hm
        obtain ⟨_, q1, q2, q3, q4⟩ := own_parts (hfit.2.1 x hx)
        obtain ⟨_, p1, p2, p3, p4⟩ := own_parts (hfit.2.1 y hy)
        unfold CG.meets at hm
        unfold pgOf
        simp only [Bool.and_eq_false_iff, decide_eq_false_iff_not] at hm ⊢
        omega)
    have hcnt : freeN gs T = T - (((gs.map toCG).map pgOf).map (·.2)).sum := by
      have e1 : (List.range T).countP (fun t => mineAt gs (2148532224 + 4096 * t)) = (((gs.map toCG).map pgOf).map (·.2)).sum := by
        rw [← hc, show (fun t => mineAt gs (2148532224 + 4096 * t)) = (fun t => ((gs.map toCG).map pgOf).any fun x => decide (x.1 ≤ t) && decide (t < x.1 + x.2)) from funext fun t => mine_page _ hfit.2.1 t]
      unfold freeN
      rw [count_not fun t => mineAt gs (2148532224 + 4096 * t), e1]
    have hsum := sum_nat gs ram ok hfit.2.1
    have hle : (((gs.map toCG).map pgOf).map (·.2)).sum ≤ T := by
      rw [← hc]
      have := List.countP_le_length (p := fun t => ((gs.map toCG).map pgOf).any fun x => decide (x.1 ≤ t) && decide (t < x.1 + x.2)) (l := List.range T)
      rw [List.length_range] at this
      exact this
    simp only [decide_eq_true h, if_true, if_pos h]
    have hout := free_out ok h T hT T 0 (by omega)
    have e0 : freeN gs 0 = 0 := rfl
    rw [e0, show ((4096 * 0 : Nat) : Int) = 0 by omega, show ((2148532224 + 4096 * 0 : Nat) : Int) = 2148532224 by omega] at hout
    have e6 : IntKind.u64.wrap ((ram : Int) - 1048576 - sumI gs) = ((4096 * freeN gs T : Nat) : Int) := by
      rw [hsum, hcnt, IntKind.wrap_u64]
      omega
    rw [e6]
    exact hout
  · simp only [decide_eq_false h, Bool.false_eq_true, if_false, if_neg h]
    exact Ev.now _
/-! ### The iterator over the guests, to bodies that write into what lay before it: by hand -/
section
attribute [local go_sem] Oper.semAt_some
/-- The blocks from lo to hi are as they were. -/
def KeepG (lo hi : Nat) (A B : World) : Prop := ∀ k, lo ≤ k → k < hi → B.heap[k]? = A.heap[k]?
theorem KeepG.refl (lo hi : Nat) (A : World) : KeepG lo hi A A := fun _ _ _ => rfl
theorem KeepG.trans {lo hi : Nat} {A B C : World} (h : KeepG lo hi A B) (k : KeepG lo hi B C) : KeepG lo hi A C := fun i h1 h2 => (k i h1 h2).trans (h i h1 h2)
theorem KeepG.cell {lo hi : Nat} {A B : World} (h : KeepG lo hi A B) {p : Addr} (hp : lo ≤ p.block ∧ p.block < hi) : B.cell? p = A.cell? p := World.cell?_of_block (h _ hp.1 hp.2)
theorem KeepG.of_fr {lo hi : Nat} {S : Nat → Prop} {A B : World} (h : Fr S A B) (hh : hi ≤ A.heap.size) (hS : ∀ k, lo ≤ k → ¬ S k) : KeepG lo hi A B := fun k h1 h2 => h.block k (by omega) (hS k h1)
theorem keepG_b {lo hi : Nat} {w : World} (hn : hi ≤ w.heap.size) (W : World) (l : Nat) (o o' : Obj) (hl : w.heap.size ≤ l) (h : W.heap[l]? = some o) (_ : o.isCells = false) (_ : o.isWalk = false) : KeepG lo hi W (W.putObj l o') :=
  fun k _ h2 => ((Below.refl hi W).grown (grownBy_putObj' W l o') (by have := (Array.getElem?_eq_some_iff.1 h).1; omega) (fun k e => by cases e; omega)).block k h2
set_option maxRecDepth 100000 in
set_option maxHeartbeats 1000000 in
theorem iter2_c (F : Fence) (n : Nat) (hf : F.fn 42) (hro : F.round = none) (hn : 1 ≤ n) (lp Bo Bw lo n₀ : Nat) (l : GL) (ord : List (Fin l.length)) (G : Nat → Prop) (hG : ∀ k, G k → lo ≤ k ∧ k < n₀) (hord : ord.length ≤ 100) (J Jx : List (Fin l.length) → World → Prop)
    (hY : ∀ pre x W, J pre W → pre.length < ord.length → YieldAt F (n - 1) Try.prog lp (encA l x) W fun e W' =>
      (e = .returned (.bool true) ∧ J (pre ++ [x]) W' ∧ KeepG lo n₀ W W') ∨ (e = .returned (.bool false) ∧ Jx (pre ++ [x]) W'))
    (W : World) (hA : AllAt W G Bo Bw l ord) (hn₀ : n₀ ≤ W.heap.size) (h0 : J [] W) :
    CallsIn F n Try.prog 42 #[.func (.yield lp) #[] #[], .pointer (some ⟨Bo, 0, none⟩), .pointer (some ⟨Bw, 0, none⟩)] W fun e W' => (∃ v, e = .returned v) ∧
      ((∃ ys, ys = ord ∧ J ys W') ∨ (∃ pre, pre <+: ord ∧ Jx pre W')) := by
  obtain ⟨hGo, hGw, vo, vw, hco, hcw, hOo, hOw⟩ := hA
  obtain ⟨ao, co, rfl, hoc, hom⟩ := hOo.slice
  obtain ⟨aw, cw, rfl, hwc, hwm⟩ := hOw.slice
  have HG := Lib.hid hG
  have H0 := Lib.hid hn₀
  have HO := Lib.hid hOo
  have HW := Lib.hid hOw
  have HN := Lib.hid hord
  have HGw := Lib.hid hGw
  have HY := Lib.hid hY
  obtain ⟨m, hm⟩ : ∃ m, m = ord.length := ⟨_, rfl⟩
  rw [← hm] at hco hoc
  have HM := Lib.hid hm
  clear hG hOo hOw hn₀ hord hY hGw hm hGo
  refine callsIn_of_wp Try.func42 rfl hf ?_ hro
  simp only [Try.ntmps42, List.size_toArray, List.length_cons, List.length_nil, Nat.reduceAdd, Nat.reduceSub, Array.replicate_succ, Array.replicate_zero, List.push_toArray, List.append_toArray, List.nil_append, List.cons_append]
  gi_wp2
  gi_loopw [8] (fun p wr => ∃ i : Nat, i ≤ m ∧ p = .int .i64 (i : Int) ∧ Hid (J (ord.take i) wr) ∧ Hid (KeepG lo n₀ W wr)) (fun p _ => m - (intOf p).toNat)
  case atStart => exact ⟨0, Nat.zero_le _, rfl, Lib.hid h0, Lib.hid (KeepG.refl _ _ _)⟩
  case round =>
    obtain ⟨i, him, rfl, HJ, HB⟩ := hrel
    by_cases hlt : i < m
    · have hio : i < ord.length := by have := HM.out; omega
      obtain ⟨x, hx⟩ : ∃ x, x = ord[i] := ⟨_, rfl⟩
      obtain ⟨g, o, c', hv, _, _, hGg, _, hcell, _⟩ := HO.out.at_ (by omega)
      obtain ⟨gw, ow, cw', hvw, _, _, hGgw, _, hcellw, _⟩ := HW.out.at_ (by have := x.isLt; omega)
      injection hv with e1 e2 e3
      injection hvw with e4 e5 e6
      subst e1 e4
      have c1 : wr.cell? ⟨g, o + i, none⟩ = some (.int .i64 ((x.val : Nat) : Int)) := by
        refine (HB.out.cell (p := ⟨g, o + i, none⟩) (HG.out _ hGg)).trans (hcell i _ ?_)
        rw [List.getElem?_map, List.getElem?_eq_getElem hio, hx]
        rfl
      have c2 : wr.cell? ⟨Bw, 0, none⟩ = some (.slice (some ⟨gw, ow, none⟩) l.length cw) := (HB.out.cell (p := ⟨Bw, 0, none⟩) (HG.out _ HGw.out)).trans hcw
      have c3 : wr.cell? ⟨gw, ow + x.val * 2, none⟩ = some (.int .u64 (l[x.val]).f0) := (HB.out.cell (p := ⟨gw, ow + x.val * 2, none⟩) (HG.out _ hGgw)).trans (hcellw _ _ (gcells_get x.isLt).1)
      have c4 : wr.cell? ⟨gw, ow + x.val * 2 + 1, none⟩ = some (.int .u64 (l[x.val]).f1) := (HB.out.cell (p := ⟨gw, ow + x.val * 2 + 1, none⟩) (HG.out _ hGgw)).trans (hcellw _ _ (gcells_get x.isLt).2)
      obtain ⟨fn, tmps, assign, body, hy, hR⟩ := HY.out (ord.take i) x wr HJ.out (by rw [List.length_take]; omega)
      unfold encA at hy
      have hxl : x.val < l.length := x.isLt
      have htk : ord.take i ++ [x] = ord.take (i + 1) := by rw [hx, List.take_append_getElem hio]
      have HT := Lib.hid htk
      have hi100 : i < 100 := by have := HN.out; omega
      have h100 : m ≤ 100 := by have := HN.out; have := HM.out; omega
      obtain ⟨y0, hy0⟩ : ∃ y0, y0 = (l[x.val]).f0 := ⟨_, rfl⟩
      obtain ⟨y1, hy1⟩ : ∃ y1, y1 = (l[x.val]).f1 := ⟨_, rfl⟩
      rw [← hy0] at c3 hy
      rw [← hy1] at c4 hy
      obtain ⟨xi, hxi⟩ : ∃ xi : Nat, xi = x.val := ⟨_, rfl⟩
      rw [← hxi] at c1 c3 c4 hy hxl
      clear hxi hy0 hy1 hx htk hcell hcellw hGg hGgw e2 e3 e5 e6 hio
      have hw : IntKind.i64.wrap ((i : Int) + 1) = ((i + 1 : Nat) : Int) := by rw [IntKind.wrap_i64]; omega
      gi_wp2
      refine hR.mono ?_
      rintro e W3 (⟨rfl, hJ3, hk3⟩ | ⟨rfl, hJx3⟩)
      · rw [HT.out] at hJ3
        have HJ3 := Lib.hid hJ3
        have HK3 := Lib.hid hk3
        clear hJ3 hk3
        gi_wp2
        go_roundw
        case rel => exact ⟨i + 1, hlt, by simp, HJ3, Lib.hid (HB.out.trans HK3.out)⟩
        case measure => simp [intOf]; omega
      · rw [HT.out] at hJx3
        gi_wp2
        refine bodyPost_ret (results_none rfl _ _ _) rfl ?_
        exact ⟨⟨_, rfl⟩, .inr ⟨_, List.take_prefix _ _, hJx3⟩⟩
    · obtain rfl : i = m := by omega
      gi_wp2
      go_end0
      exact ⟨⟨_, rfl⟩, .inl ⟨_, rfl, by have h := HJ.out; rw [HM.out, List.take_length] at h; exact h⟩⟩
/-- What the maker hands back gives the guests in their order, to whatever body keeps what lay. -/
theorem iter_stops2 (F : Fence) (n : Nat) (hf : F.fn 42) (hro : F.round = none) (hn : 1 ≤ n) (Bo Bw : Nat) (l : GL) (ord : List (Fin l.length)) (G : Nat → Prop) (w : World) (lo : Nat) (hG : ∀ k, G k → lo ≤ k ∧ k < w.heap.size) (hord : ord.length ≤ 100) (hA : AllAt w G Bo Bw l ord) :
    SeqStopsK F n Try.prog 42 #[.pointer (some ⟨Bo, 0, none⟩), .pointer (some ⟨Bw, 0, none⟩)] (encA l) (KeepG lo w.heap.size) (fun ys => ys = ord) (fun pre => pre <+: ord) ord.length w := fun lp J Jx W hW _ _ hY h0 =>
  iter2_c F n hf hro hn lp Bo Bw lo w.heap.size l ord G hG hord J Jx hY W (hA.below hW (Nat.le_refl _) (fun k hk => (hG k hk).2)) hW.size h0
end
/-- A range over a function whose body has its element in a box of its own. -/
theorem wpIn_range_boxed {α : Type} {P : Program} {F : Fence} {n : Nat} {g : Operand} {ps : Array Tmp} {assign body : Code} {Q : Exit → Act → World → Prop} {a : Act} {w : World}
    (hro : F.round = none) (h1 : 1 ≤ n) {gf : Nat} {lb : Array Value} (hg : a.eval g = .func (.func gf) #[] lb) (hFg : F.fn gf) (eg : ∀ args w, (callFunc gf args).run P w = .ok (.enter gf args) w)
    {encs : α → Array Value} {Kp : World → World → Prop} {S Sp : List α → Prop} {N : Nat} {w0 : World} (hseq : SeqStopsK F (n - 1) P gf lb encs Kp S Sp N w0)
    (hKt : ∀ {A B C : World}, Kp A B → Kp B C → Kp A C) (hKb : ∀ (W : World) (l : Nat) (o o' : Obj), w.heap.size ≤ l → W.heap[l]? = some o → o.isCells = false → o.isWalk = false → Kp W (W.putObj l o')) (hb0 : Below w0.heap.size w0 w) (hps : ∀ x, (encs x).size = ps.size)
    (I : List α → World → Prop) (Ix : Code → List α → World → Prop) (hI : OwnFrom w.heap.size I) (hIx : ∀ c, OwnFrom w.heap.size (Ix c)) (h0 : I [] w)
    (hsz : ∀ pre W, I pre W → w.heap.size ≤ W.heap.size) (hKa : ∀ W o, w.heap.size ≤ W.heap.size → Kp W (W.alloc o))
    (t : TypeId) (cs : α → Array Value) (tm : α → Nat → Array Value → Array Value)
    (hassign : ∀ (l : Nat) (x : α) (W : World) (K : Act → World → Prop), K { tmps := tm x W.heap.size ((ps.zip (encs x)).foldl (fun t (p, v) => t.setIfInBounds p v) a.tmps), defers := [] } (W.alloc (.cells (cs x) t)) →
      assign.wpIn (F.inRound l) (n - 1 - 1) P (Exit.then K (fun _ _ _ => False)) { tmps := (ps.zip (encs x)).foldl (fun t (p, v) => t.setIfInBounds p v) a.tmps, defers := [] } W)
    (hbody : ∀ (l : Nat) (pre : List α) (x : α) (Bx : Nat) (W : World), w.heap.size ≤ l → (∃ r, W.heap[l]? = some (.loop r)) → I pre W → w.heap.size ≤ Bx → Blk W Bx t (cs x) → pre.length < N →
      body.wpIn (F.inRound l) (n - 1 - 1) P (ownPostG w.heap.size Kp I Ix (pre ++ [x]) W) { tmps := tm x Bx ((ps.zip (encs x)).foldl (fun t (p, v) => t.setIfInBounds p v) a.tmps), defers := [] } W)
    (hdone : ∀ (D : Nat) (xs : List α) (W : World), w.heap.size ≤ D → S xs → I xs W → W.heap[D]? = some (.deferred (some [])) → Q .normal { a with defers := { target := .collected D, args := #[] } :: a.defers } W)
    (hstop : ∀ (D : Nat) (c : Code) (pre : List α) (W : World), w.heap.size ≤ D → Sp pre → Ix c pre W → W.heap[D]? = some (.deferred (some [])) → c.wpIn F n P Q { a with defers := { target := .collected D, args := #[] } :: a.defers } W) :
    (Code.rangeFunc g ps assign body).wpIn F n P Q a w := by
  refine wpIn_rangeFunc_ownH hro h1 hg hFg eg hseq hKt hKb hb0 hps I Ix hI hIx h0
    (fun x a' W => ∃ Bx, w.heap.size ≤ Bx ∧ Blk W Bx t (cs x) ∧ a' = { tmps := tm x Bx ((ps.zip (encs x)).foldl (fun t (p, v) => t.setIfInBounds p v) a.tmps), defers := [] })
    (fun x a' _ X Y row hs hgr hr => by obtain ⟨Bx, e1, e2, e3⟩ := hs; exact ⟨Bx, e1, blk_kept e2 hgr (fun r e => (hr r e).2), e3⟩)
    (fun l pre x W K hp hK => hassign l x W K (hK _ _ ((KeepsOthers.alloc W _).from _) (hKa _ _ (hsz _ _ hp)) (hI.alloc _ hp) ⟨W.heap.size, hsz _ _ hp, Blk.new W _ _, rfl⟩))
    (fun l pre x a' W hl hr hp hA hlt => by obtain ⟨Bx, e1, e2, rfl⟩ := hA; exact hbody l pre x Bx W hl hr hp e1 e2 hlt) hdone hstop
/-! ### A region that draws its order, in the body of a range over a function -/
theorem wpOps_round {P : Program} {ops : Array Oper} {Q : Exit → Act → World → Prop} {n lp : Nat} (hd : ∀ (i : Nat) (o : Oper), ops[i]? = some o → ∀ c, o.op ≠ .defer c) (hl : ¬ LetsOut Q) :
    ∀ (is : List Nat) (a : Act) (w : World), wpOps P ops Q is a w → wpOpsIn (Fence.wide.inRound lp) n P ops Q is a w
  | [], _, _, h => h
  | i :: rest, a, w, h => by
    have ih := wpOps_round (P := P) (n := n) (lp := lp) hd hl rest
    simp only [wpOps] at h
    simp only [wpOpsIn]
    cases ho : ops[i]? with
    | none =>
      simp only [ho] at h ⊢
      exact ih _ _ h
    | some o =>
      simp only [ho] at h ⊢
      by_cases hw : Region.wanted o (yielded ops a.tmps) = true
      · simp only [hw, if_true] at h ⊢
        rcases h with h | h
        · refine ⟨fun _ _ => trivial, ?_⟩
          rw [show (Fence.wide.inRound lp).round = some lp from rfl, Oper.semAt_some lp a.eval o (hd i o ho)]
          unfold Oper.wp at h
          generalize (execOp a.eval o).run P w = r at h ⊢
          cases r with
          | ok nx w' =>
            cases nx with
            | value v => exact ih _ _ h
            | skip => exact ih _ _ h
            | defer d => exact ih _ _ h
            | enter f args =>
              refine ⟨fun q => (by cases q), CallsIn.inRound lp (callsIn_wide.2 (Calls.mono h fun e w'' he => ?_))⟩
              cases e with
              | returned v => exact ih _ _ he
              | panicked c => exact he
              | outgrown => exact he
            | row row args =>
              refine ⟨fun q => (by cases q), fun c cs _ => ?_⟩
              obtain ⟨v, w'', r, s⟩ := h c cs
              exact ⟨v, w'', ih _ _ r, stepsIn_wide.2 s⟩
            | _ => exact h.elim
          | halt x w' =>
            cases x with
            | panic v => exact h
            | _ => exact h.elim
        · exact absurd h.2 hl
      · simp only [hw] at h ⊢
        exact ⟨fun _ _ => trivial, ih _ _ h⟩
theorem wpIn_region_held_round {P : Program} {ops : Array Oper} {Q : Exit → Act → World → Prop} {S : World → Prop} {n lp id : Nat} {a : Act} {w : World} (hm : P.follows .mixedOrders = true)
    (hd : ∀ (i : Nat) (o : Oper), ops[i]? = some o → ∀ c, o.op ≠ .defer c) (hl : ¬ LetsOut Q) (hS : S w.drew) (h : S w.drew → wpAnyH P .any ops Q S ops.size (Array.replicate ops.size false) a w.drew) :
    (Code.region id ops true).wpIn (Fence.wide.inRound lp) n P Q a w :=
  wpIn_region_draw fun t => by
    simp only [Region.schedule, hm, Bool.true_or, if_true]
    exact wpOps_round hd hl _ _ _ (wpAny_sound ops.size t _ a _ (wpAny_of_held _ _ _ _ (h hS)))
/-- No operation defers a call. -/
def noDefer (ops : Array Oper) : Bool := ops.toList.all fun o => match o.op with
  | .defer _ => false
  | _ => true
theorem noDefer_spec {ops : Array Oper} (h : noDefer ops = true) (i : Nat) (o : Oper) (ho : ops[i]? = some o) (c : Call) : o.op ≠ .defer c := fun e => by
  unfold noDefer at h
  have h2 := List.all_eq_true.1 h o (by rw [← Array.getElem?_toList] at ho; exact List.mem_of_getElem? ho)
  rw [e] at h2
  cases h2
/-! ### ConfPlaces: its walk, by hand -/
structure PlA (w W : World) (cv : Array Value) (lv : Int) (res : Bool) : Prop where
  c : Blk W w.heap.size 25 cv
  v : Blk W (w.heap.size + 1) 3 #[.int .i64 lv]
  r : Blk W (w.heap.size + 2) 4 #[.bool res]
  b : Below w.heap.size w W
theorem PlA.step {w W W' : World} {cv : Array Value} {lv : Int} {res : Bool} (h : PlA w W cv lv res) (hb : Below W.heap.size W W') : PlA w W' cv lv res :=
  ⟨(hb.block _ h.c.lt).trans h.c, (hb.block _ h.v.lt).trans h.v, (hb.block _ h.r.lt).trans h.r, h.b.trans (hb.mono h.b.size)⟩
theorem PlA.fr {w W W' : World} {cv : Array Value} {lv : Int} {res : Bool} {S : Nat → Prop} (h : PlA w W cv lv res) (hf : Fr S W W') (hS : ∀ k, k < W.heap.size → S k → w.heap.size + 3 ≤ k) : PlA w W' cv lv res :=
  ⟨h.c.fr hf (fun q => by have := hS _ h.c.lt q; omega), h.v.fr hf (fun q => by have := hS _ h.v.lt q; omega), h.r.fr hf (fun q => by have := hS _ h.r.lt q; omega), h.b.trans (hf.below h.b.size (fun k hk q => by have := hS k (Nat.lt_of_lt_of_le hk h.b.size) q; omega))⟩
structure PlW (w W : World) (cv : Array Value) (lv : Int) (bW : Nat) (Aw : Option Addr) (M : List Nat) (cw : Nat) : Prop where
  p : PlA w W cv lv false
  o : Blk W bW 55 #[.slice Aw M.length cw]
  k : (Kd.int .i64).C W Aw M.length (castL M)
theorem PlW.step {w W W' : World} {cv : Array Value} {lv : Int} {bW : Nat} {Aw : Option Addr} {M : List Nat} {cw : Nat} (h : PlW w W cv lv bW Aw M cw) (hb : Below W.heap.size W W') : PlW w W' cv lv bW Aw M cw :=
  ⟨h.p.step hb, (hb.block _ h.o.lt).trans h.o, Kd.C_below h.k hb⟩
theorem it_enters : ∀ args w, (callFunc 42 args).run Try.prog w = .ok (.enter 42 args) w := fun args w => enters_of Try.func42 (by kernel_rfl) rfl args w
theorem range_join {P : Program} {F : Fence} {n : Nat} {c : Code} {Q : Exit → Act → World → Prop} {a : Act} {w : World} (Rw : Nat → World → Prop) (id : Nat) (hQ : ∀ a w, Q .normal a w → Q (.exit id) a w)
    (h : ∀ Q' : Exit → Act → World → Prop, (∀ D W, Rw D W → Q' .normal { a with defers := { target := .collected D, args := #[] } :: a.defers } W) → (∀ D W, Rw D W → Q' (.exit id) { a with defers := { target := .collected D, args := #[] } :: a.defers } W) → c.wpIn F n P Q' a w)
    (k : ∀ D W, Rw D W → Q .normal { a with defers := { target := .collected D, args := #[] } :: a.defers } W) : c.wpIn F n P Q a w :=
  h Q k (fun D W r => hQ _ _ (k D W r))
theorem ownFrom_fr {β : Type} {S : Nat → Prop} {B : Nat} {w₀ : World} (hB : w₀.heap.size ≤ B) : OwnFrom B (fun (_ : β) W => Fr S w₀ W) := fun _ _ _ _ hs hg hr => hs.grown hg (fun k e => .inr (Nat.le_trans hB (hr k e).1))
theorem boxed_from {W W' : World} {row : Option Nat} {B b : Nat} {t : TypeId} {v : Value} (h : Boxed W b t v) (hg : W.grownBy W' row) (hr : ∀ r, row = some r → B ≤ r ∧ ∃ o : Obj, W.heap[r]? = some o ∧ o.isCells = false) : Boxed W' b t v :=
  h.kept hg (fun e => by obtain ⟨_, o, ho, hc⟩ := hr b e.symm; rw [show W.heap[b]? = _ from h] at ho; cases ho; cases hc)
structure FnAt (w W : World) (cv : Array Value) (lv : Int) (bW : Nat) (Aw : Option Addr) (M : List Nat) (cw D1 D2 : Nat) : Prop where
  q : PlW w W cv lv bW Aw M cw
  d1 : W.heap[D1]? = some (.deferred (some []))
  d2 : W.heap[D2]? = some (.deferred (some []))
theorem FnAt.step {w W W' : World} {cv : Array Value} {lv : Int} {bW : Nat} {Aw : Option Addr} {M : List Nat} {cw D1 D2 : Nat} (h : FnAt w W cv lv bW Aw M cw D1 D2) (hb : Below W.heap.size W W') : FnAt w W' cv lv bW Aw M cw D1 D2 :=
  ⟨h.q.step hb, (hb.block _ (Array.getElem?_eq_some_iff.1 h.d1).1).trans h.d1, (hb.block _ (Array.getElem?_eq_some_iff.1 h.d2).1).trans h.d2⟩
theorem places_res (tmps : Array Value) (B : Nat) (b : Bool) (W : World) (ht : tmps.getD 6 undef = .pointer (some ⟨B, 0, none⟩)) (hc : W.cell? ⟨B, 0, none⟩ = some (.bool b)) : (results Try.f6 tmps).run Try.prog W = .ok (.bool b) W := by
  have ht' : tmps[6]?.getD undef = .pointer (some ⟨B, 0, none⟩) := by simpa using ht
  simp [results, Try.f6, go_sem, ht', hc]
section
attribute [local go_sem] Oper.semAt_some
set_option maxRecDepth 100000 in
set_option maxHeartbeats 8000000 in
theorem ConfPlaces_main (k : Nat) (ram slice : Nat) (A : Option Addr) (c : Nat) (l : GL) (a : Nat) (lv : Int) (w : World) (hr : Kd.C k53 w A l.length l) (hc : l.length ≤ c) (ok : okL l) (h100 : l.length ≤ 100)
    (M : List Nat) (acc : Bool) (wz fr : Int) (hawake : mezzaninelaw25_awake.f k = some true) (hall : mezzanineref25_All.f k (ram : Int) (slice : Int) l = some (castL M)) (hacc : conf_accepted.f k (ram : Int) (slice : Int) l = some acc) (h12 : acc = true → l.length ≤ 12 ∧ 0 < l.length) (hM : M.length ≤ 100)
    (hord : ∀ ord : List (Fin l.length), OrdOk acc l ord → ord.map (·.val) = M)
    (hw1 : conf_Whose.f (ram : Int) (slice : Int) l (a : Int) = some wz) (hw2 : mezzanineref25_Whose.f k (ram : Int) (slice : Int) l (a : Int) = some wz) (hf1 : conf_Free.f k (ram : Int) (slice : Int) l = some fr) (hf2 : mezzanineref25_Free.f k (ram : Int) (slice : Int) l = some fr) :
    Calls Try.prog 6 #[.agg #[.int .u64 ram, .int .u64 slice, .slice A l.length c], .int .u64 a, .int .i64 lv] w fun e w' => e = .returned (.bool true) ∧ Below w.heap.size w w' := by
  have HR := Lib.hid hr
  have HC := Lib.hid hc
  have HA := Lib.hid hawake
  have HAL := Lib.hid hall
  have HAC := Lib.hid hacc
  have H12 := Lib.hid h12
  have HMM := Lib.hid hM
  have HO := Lib.hid hord
  have HW1 := Lib.hid hw1
  have HW2 := Lib.hid hw2
  have HF1 := Lib.hid hf1
  have HF2 := Lib.hid hf2
  have OK := Lib.hid ok
  obtain ⟨R, hR⟩ : ∃ R : Int, R = (ram : Int) := ⟨_, rfl⟩
  obtain ⟨S, hS⟩ : ∃ S : Int, S = (slice : Int) := ⟨_, rfl⟩
  obtain ⟨av, hav⟩ : ∃ av : Int, av = (a : Int) := ⟨_, rfl⟩
  rw [← hR, ← hS] at HAL HAC HW1 HW2 HF1 HF2 ⊢
  rw [← hav] at HW1 HW2 ⊢
  obtain ⟨n, hn⟩ : ∃ n, n = l.length := ⟨_, rfl⟩
  have H100 := Lib.hid h100
  rw [← hn] at H100 ⊢
  have HN := Lib.hid hn
  clear hr hc hawake hall hacc h12 hM hord hw1 hw2 hf1 hf2 ok hR hS hav h100 hn
  have hro : Fence.wide.round = none := rfl
  obtain ⟨wA, hwA⟩ : ∃ wA, wA = ((w.alloc (.cells #[.int .u64 R, .int .u64 S, .slice A n c] 25)).alloc (.cells #[.int .i64 lv] 3)).alloc (.cells #[.bool false] 4) := ⟨_, rfl⟩
  have hpA : PlA w wA #[.int .u64 R, .int .u64 S, .slice A n c] lv false := by
    rw [hwA]
    refine ⟨((Blk.new w _ _).alloc _).alloc _, ?_, ?_, (((Below.refl _ w).alloc (Nat.le_refl _) _).alloc (by simp) _).alloc (by simp; omega) _⟩
    · have := Blk.new (w.alloc (.cells #[.int .u64 R, .int .u64 S, .slice A n c] 25)) 3 #[.int .i64 lv]
      rw [World.size_alloc] at this
      exact this.alloc _
    · have := Blk.new ((w.alloc (.cells #[.int .u64 R, .int .u64 S, .slice A n c] 25)).alloc (.cells #[.int .i64 lv] 3)) 4 #[.bool false]
      rw [World.size_alloc, World.size_alloc] at this
      exact this
  have PA := Lib.hid hpA
  have WA := Lib.hid hwA
  clear hpA hwA
  refine (callsIn_wide (n := 6)).1 ?_
  refine callsIn_of_wp_marks Try.func6 rfl trivial ?_ hro
  simp only [Try.ntmps6, List.size_toArray, List.length_cons, List.length_nil, Nat.reduceAdd, Nat.reduceSub, Array.replicate_succ, Array.replicate_zero, List.push_toArray, List.append_toArray, List.nil_append, List.cons_append]
  refine wpIn_wide.2 ?_
  refine Code.wp_mono (Q := calmQ _) (fun e a w h => calm_le h) ?_
  go_wp2_with fail
  rw [← WA.out]
  refine (mezzaninelaw25_awake.calls k true _ HA.out).mono ?_
  rintro e1 w2 ⟨rfl, hb2⟩
  have P2 := Lib.hid (PA.out.step hb2)
  have Z2 := Lib.hid (show w.heap.size + 3 ≤ w2.heap.size from by have := P2.out.r.lt; omega)
  have c0 : w2.cell? ⟨w.heap.size, 0, none⟩ = some (.int .u64 R) := P2.out.c.cell 0
  have c1 : w2.cell? ⟨w.heap.size, 1, none⟩ = some (.int .u64 S) := P2.out.c.cell 1
  have c2 : w2.cell? ⟨w.heap.size, 2, none⟩ = some (.slice A n c) := P2.out.c.cell 2
  have g1 : decide (100 < (n : Int)) = false := decide_eq_false (by have := H100.out; omega)
  clear hb2 PA WA
  go_wp2_with fail
  rw [HN.out]
  refine (copied_c R S A c l w2 (Kd.C_below HR.out P2.out.b) (by rw [← HN.out]; exact H100.out)).mono ?_
  rintro e1 w3 ⟨g, o, cap, rfl, hO3, hcap, hb3⟩
  rw [← HN.out]
  rw [← HN.out] at hcap
  obtain ⟨b3, hb3e⟩ : ∃ b3, b3 = w3.heap.size := ⟨_, rfl⟩
  obtain ⟨w4, hw4⟩ : ∃ w4, w4 = w3.alloc (.cells #[.int .u64 R, .int .u64 S, .slice (some ⟨g, o, none⟩) n cap] 25) := ⟨_, rfl⟩
  have P3 := P2.out.step hb3
  have P4 := Lib.hid (show PlA w w4 _ lv false from by rw [hw4]; exact P3.step ((Below.refl _ w3).alloc (Nat.le_refl _) _))
  have O4 := Lib.hid (show Own w4 53 2 (.slice (some ⟨g, o, none⟩) (l.length + 1) cap) (l.length + 1) (gcells l ++ [.int .u64 77, .int .u64 0]) (fun k => w.heap.size + 3 ≤ k ∧ k < b3) from by
    rw [hw4]
    exact (hO3.cut.mono (fun k hk => ⟨Nat.le_trans Z2.out hk.1, by rw [hb3e]; exact hk.2⟩)).fr ((Fr.refl No w3).alloc _) (fun _ _ h => h))
  have E4 := Lib.hid (show Blk w4 b3 25 #[.int .u64 R, .int .u64 S, .slice (some ⟨g, o, none⟩) n cap] from by rw [hw4, hb3e]; exact Blk.new w3 _ _)
  have Z4 := Lib.hid (show w.heap.size + 3 ≤ b3 from by have := hb3.size; have := Z2.out; omega)
  have c0' : (w3.alloc (.cells #[.int .u64 R, .int .u64 S, .slice (some ⟨g, o, none⟩) n cap] 25)).cell? ⟨w.heap.size, 0, none⟩ = some (.int .u64 R) := by rw [← hw4]; exact P4.out.c.cell 0
  have c1' : (w3.alloc (.cells #[.int .u64 R, .int .u64 S, .slice (some ⟨g, o, none⟩) n cap] 25)).cell? ⟨w.heap.size, 1, none⟩ = some (.int .u64 S) := by rw [← hw4]; exact P4.out.c.cell 1
  have c2' : (w3.alloc (.cells #[.int .u64 R, .int .u64 S, .slice (some ⟨g, o, none⟩) n cap] 25)).cell? ⟨w.heap.size, 2, none⟩ = some (.slice A n c) := by rw [← hw4]; exact P4.out.c.cell 2
  have HW4 := Lib.hid hw4
  have HB3 := Lib.hid hb3e
  have HCAP := Lib.hid hcap
  clear hO3 hb3 P3 P2 c0 c1 c2 hw4 hb3e hcap Z2
  go_wp2_with fail
  rw [← HB3.out, ← HW4.out]
  rw [HN.out]
  refine (mezzanineref25_All.calls k R S A c l (castL M) _ (Kd.C_below HR.out P4.out.b) HC.out HAL.out).mono ?_
  rintro e1 w5 ⟨v0, rfl, hR5, hb5⟩
  rw [← HN.out]
  obtain ⟨Aw, cw, rfl⟩ := Kd.R_slice hR5
  have hK5 := Kd.R_mono (ok' := fun k => b3 < k) (Kd.R_bound hR5) (fun k hk => by have := E4.out.lt; omega)
  obtain ⟨base, hbase⟩ : ∃ base, base = w4.heap.size := ⟨_, rfl⟩
  rw [← hbase] at hK5
  have hLM : (castL M).length = M.length := castL_len M
  rw [hLM] at hK5 ⊢
  obtain ⟨bW, hbW⟩ : ∃ bW, bW = w5.heap.size := ⟨_, rfl⟩
  obtain ⟨w6, hw6⟩ : ∃ w6, w6 = w5.alloc (.cells #[.slice Aw M.length cw] 55) := ⟨_, rfl⟩
  have hb6 : Below w4.heap.size w4 w6 := by rw [hw6]; exact hb5.alloc hb5.size _
  have P6 := Lib.hid (P4.out.step hb6)
  have O6 := Lib.hid (O4.out.fr (Fr.of_below hb6 No) (fun _ _ h => h))
  have E6 := Lib.hid ((hb6.block _ E4.out.lt).trans E4.out)
  have E6 : Hid (Blk w6 b3 25 #[.int .u64 R, .int .u64 S, .slice (some ⟨g, o, none⟩) n cap]) := E6
  have W6 := Lib.hid (show Blk w6 bW 55 #[.slice Aw M.length cw] from by rw [hw6, hbW]; exact Blk.new w5 _ _)
  have K6 := Lib.hid (show (Kd.int .i64).R 3 w6 base (fun k => b3 < k) (.slice Aw M.length cw) (castL M) from by rw [hw6]; exact Kd.R_below hK5 ((Below.refl _ w5).alloc (Nat.le_refl _) _))
  have Z6 := Lib.hid (show b3 < bW ∧ w6.heap.size = bW + 1 from by rw [hw6, hbW]; exact ⟨by have := E4.out.lt; have := hb5.size; omega, by simp⟩)
  have o0 : (w5.alloc (.cells #[.slice Aw M.length cw] 55)).cell? ⟨b3, 0, none⟩ = some (.int .u64 R) := by rw [← hw6]; exact E6.out.cell 0
  have o1 : (w5.alloc (.cells #[.slice Aw M.length cw] 55)).cell? ⟨b3, 1, none⟩ = some (.int .u64 S) := by rw [← hw6]; exact E6.out.cell 1
  have o2 : (w5.alloc (.cells #[.slice Aw M.length cw] 55)).cell? ⟨b3, 2, none⟩ = some (.slice (some ⟨g, o, none⟩) n cap) := by rw [← hw6]; exact E6.out.cell 2
  have HW6 := Lib.hid hw6
  have HBW := Lib.hid hbW
  clear hbase hR5 hK5 hb5 hb6 hw6 hbW hLM c0' c1' c2' HW4 HB3 P4 O4 E4
  go_wp2_with fail
  rw [← HBW.out, ← HW6.out]
  rw [HN.out]
  refine (all_c k R S (some ⟨g, o, none⟩) cap l acc _ (kd_of_own O6.out) (by have := HCAP.out; have := HN.out; omega) (by rw [← HN.out]; exact H100.out) HAC.out H12.out).mono ?_
  rintro e1 w7 ⟨Bo, Bw, ord, rfl, hall, hord, hb7⟩
  rw [← HN.out]
  have hmo := HO.out ord hord
  have P7 := Lib.hid (P6.out.step hb7)
  have O7 := Lib.hid ((O6.out.fr (Fr.of_below hb7 No) (fun _ _ h => h)))
  have W7 := Lib.hid (show Blk w7 bW 55 #[.slice Aw M.length cw] from (hb7.block _ W6.out.lt).trans W6.out)
  have K7 := Lib.hid (Kd.R_below K6.out hb7)
  have Z7 := Lib.hid (show b3 < bW ∧ bW + 1 ≤ w7.heap.size from ⟨Z6.out.1, by have := Z6.out.2; have := hb7.size; omega⟩)
  have AL7 := Lib.hid (show AllAt w7 (fun k => bW < k ∧ k < w7.heap.size) Bo Bw l ord from by
    obtain ⟨h1, h2, vo, vw, h3, h4, h5, h6⟩ := hall
    have hz := Z6.out.2
    exact ⟨⟨by omega, h1.2⟩, ⟨by omega, h2.2⟩, vo, vw, h3, h4, h5.mono (fun k hk => ⟨by omega, hk.2⟩), h6.mono (fun k hk => ⟨by omega, hk.2⟩)⟩)
  have HMO := Lib.hid hmo
  have hq := func_not_nil #[.pointer (some ⟨Bo, 0, none⟩), .pointer (some ⟨Bw, 0, none⟩)] w7
  clear hb7 hall hord hmo o0 o1 o2 HW6 HBW P6 O6 E6 W6 K6 Z6
  go_wp2_with fail
  clear hq
  obtain ⟨g', o', cap', hv, _, _, hGg, _, _, _⟩ := O7.out.at_ (by omega)
  injection hv with e1 _ e3
  injection e1 with e1
  injection e1 with e1 e2 _
  subst e1 e2 e3
  have HG := Lib.hid hGg
  have F7 := Lib.hid (show ∃ cur, Blk w7 g 53 cur ∧ o + (n + 1) * 2 ≤ cur.size from by
    obtain ⟨g', o', c', cur, hv, _, hB, h1, _, h3, _, _⟩ := O7.out.2.resolve_left (fun q => by omega)
    injection hv with e1 _ e3
    injection e1 with e1
    injection e1 with e1 e2 _
    subst e1 e2 e3
    have := HN.out
    exact ⟨cur, hB, by omega⟩)
  clear hGg O7
  go_loopw [11] (fun p wr => ∃ i : Nat, i ≤ n + 1 ∧ p = .int .i64 (i : Int) ∧ Hid (Fr (One g) w7 wr) ∧ Hid (∃ cur, Blk wr g 53 cur ∧ o + (n + 1) * 2 ≤ cur.size)) (fun p _ => n + 1 - (intOf p).toNat)
  case atStart => exact ⟨0, Nat.zero_le _, rfl, Lib.hid (Fr.refl _ _), F7⟩
  case round =>
    obtain ⟨i, hi, rfl, HF, HB⟩ := hrel
    have hi100 : i ≤ 101 := by have := H100.out; omega
    by_cases hlt : i < n + 1
    · obtain ⟨cur, hB, hcs⟩ := HB.out
      have q0 : wr.cell? ⟨g, o + i * 2, none⟩ = some (cur[o + i * 2]'(by omega)) := by rw [hB.cell, Array.getElem?_eq_getElem]
      have q1 : wr.cell? ⟨g, o + i * 2 + 1, none⟩ = some (cur[o + i * 2 + 1]'(by omega)) := by rw [hB.cell, Array.getElem?_eq_getElem]
      obtain ⟨z0, hz0⟩ : ∃ z, z = (cur[o + i * 2]'(by omega)) := ⟨_, rfl⟩
      obtain ⟨z1, hz1⟩ : ∃ z, z = (cur[o + i * 2 + 1]'(by omega)) := ⟨_, rfl⟩
      rw [← hz0] at q0
      rw [← hz1] at q1
      have hfr := hB.free
      have HB2 := Lib.hid hB
      have HCS := Lib.hid hcs
      clear hz0 hz1 hB hcs
      go_wp2_with fail
      refine ⟨⟨i + 1, hlt, by simp, Lib.hid (((HF.out).setCell (a := ⟨g, o + i * 2, none⟩) (.inl rfl) _).setCell (a := ⟨g, o + i * 2 + 1, none⟩) (.inl rfl) _), Lib.hid ⟨_, ((HB2.out.put (o + i * 2) _).put (o + i * 2 + 1) _), by simpa using HCS.out⟩⟩, by simp [intOf]; omega⟩
    · obtain rfl : i = n + 1 := by omega
      have hfg := HF.out
      have hg1 := HG.out
      have hz7 := Z7.out
      have hz4 := Z4.out
      have P8 := Lib.hid (P7.out.fr hfg (fun k hk q => by have q2 : k = g := q; omega))
      have W8 := Lib.hid (W7.out.fr hfg (fun q => by have q2 : bW = g := q; omega))
      have hK8 := (Kd.R_reads' (Kd.R_step K7.out (w1 := wr) (fun k hk hlt => hfg.block k hlt (fun q => by have q2 : k = g := q; omega)))).2.2
      have hlc : (castL M).length = M.length := castL_len M
      rw [hlc] at hK8
      have K8 := Lib.hid hK8
      have AL8 := Lib.hid (AL7.out.fr hfg (fun k hk q => by have q2 : k = g := q; omega))
      have Z8 := Lib.hid (show w7.heap.size ≤ wr.heap.size from hfg.size)
      have N8 := Lib.hid (show w.heap.size + 3 ≤ wr.heap.size from by have := P8.out.r.lt; omega)
      clear hfg hg1 hz7 hz4 hK8 hlc HB HF HG F7 P7 W7 K7 AL7
      go_wp2_with fail
      obtain ⟨ba, hba⟩ : ∃ ba, ba = wr.heap.size := ⟨_, rfl⟩
      obtain ⟨W1, hW1⟩ : ∃ W1, W1 = wr.alloc (.cells #[.int .i64 0] 3) := ⟨_, rfl⟩
      have B1 := Lib.hid (show Below wr.heap.size wr W1 from by rw [hW1]; exact (Below.refl _ wr).alloc (Nat.le_refl _) _)
      have HA1 := Lib.hid (show Boxed W1 ba 3 (.int .i64 0) from by rw [hW1, hba]; exact Boxed.new wr _ _)
      have HZ1 := Lib.hid (show W1.heap.size = ba + 1 from by rw [hW1, hba]; simp)
      have HBA := Lib.hid hba
      have cB : W1.cell? ⟨ba, 0, none⟩ = some (.int .i64 0) := HA1.out.cell
      rw [← hW1, ← hba]
      clear hba hW1
      refine wp_loop_rounds 3 ?_
      rw [rounds_succ]
      have hlen : ord.length ≤ 100 := by have e2 := congrArg List.length HMO.out; rw [List.length_map] at e2; have := HMM.out; omega
      have HLEN := Lib.hid hlen
      have S8 := Lib.hid (PlW.mk P8.out W8.out K8.out)
      clear hlen P8 W8 K8
      go_wp2_with fail
      obtain ⟨bn1, hbn⟩ : ∃ bn, bn = W1.heap.size := ⟨_, rfl⟩
      obtain ⟨WL1, hWL⟩ : ∃ WL, WL = W1.alloc (.cells #[.int .i64 0] 3) := ⟨_, rfl⟩
      have BL1 := Lib.hid (show Below wr.heap.size wr WL1 from by rw [hWL]; exact B1.out.alloc B1.out.size _)
      have AB1 := Lib.hid (show Boxed WL1 ba 3 (.int .i64 0) from by rw [hWL]; exact HA1.out.alloc _)
      have NB1 := Lib.hid (show Boxed WL1 bn1 3 (.int .i64 0) from by rw [hWL, hbn]; exact Boxed.new _ _ _)
      have LZ1 := Lib.hid (show ba < bn1 ∧ wr.heap.size ≤ ba ∧ WL1.heap.size = bn1 + 1 from by
        rw [hWL, hbn]
        exact ⟨HA1.out.lt, Nat.le_of_eq HBA.out.symm, by simp⟩)
      rw [← hWL, ← hbn]
      have HWL1 := Lib.hid hWL
      clear hWL hbn
      refine (wpIn_wide (n := 6)).1 ?_
      refine range_join (fun D W' => W'.heap[D]? = some (.deferred (some [])) ∧ WL1.heap.size ≤ D ∧ Fr (One bn1) WL1 W' ∧ ∃ nv : Int, Boxed W' bn1 3 (.int .i64 nv) ∧ (nv = (M.length : Int) ∨ (nv = lv ∧ (0 : Int) = 0))) 4 (fun a w h => by simp only [Exit.inBlock, if_true]; exact h) ?loop1 ?rest1
      case loop1 =>
        intro Q' hn hx
        refine wpIn_range_boxed hro (by omega) (lb := #[.pointer (some ⟨Bo, 0, none⟩), .pointer (some ⟨Bw, 0, none⟩)]) rfl trivial it_enters
          (iter_stops Fence.wide 5 trivial hro (by omega) Bo Bw l ord _ wr (fun k hk => Nat.lt_of_lt_of_le hk.2 Z8.out) HLEN.out AL8.out) belowK_t (belowK_b (by have := LZ1.out; omega)) BL1.out (fun _ => rfl)
          (fun pre W' => (∃ nv : Nat, nv ≤ M.length ∧ Hid (pre <+: ord → nv = pre.length) ∧ Boxed W' bn1 3 (.int .i64 (nv : Int))) ∧ Fr (One bn1) WL1 W')
          (fun cc pre W' => (cc = .ret ∧ ¬ pre <+: ord) ∨ ((cc = .exit 4 ∧ (0 : Int) = 0) ∧ Boxed W' bn1 3 (.int .i64 lv) ∧ Fr (One bn1) WL1 W'))
          (OwnFrom.and (fun s X Y row hs hg hr => by obtain ⟨nv, h1, h2, h3⟩ := hs; exact ⟨nv, h1, h2, boxed_from h3 hg hr⟩) (ownFrom_fr (Nat.le_refl _)))
          (fun cc s X Y row hs hg hr => by
            rcases hs with hs | ⟨h1, h2, h3⟩
            · exact .inl hs
            · exact .inr ⟨h1, boxed_from h2 hg hr, h3.grown hg (fun k e => .inr (hr k e).1)⟩)
          ⟨⟨0, Nat.zero_le _, Lib.hid (fun _ => rfl), NB1.out⟩, Fr.refl _ _⟩
          (fun pre W' hp => hp.2.size) (fun W' o h => (Below.refl wr.heap.size W').alloc (by have := LZ1.out; omega) o)
          53 (fun x => #[.int .u64 (l[x.val]).f0, .int .u64 (l[x.val]).f1]) (fun x Bx t => (t.setIfInBounds 14 (.int .i64 ((x.val : Nat) : Int))).setIfInBounds 15 (.pointer (some ⟨Bx, 0, none⟩)))
          ?assign ?body ?done ?stop
        case assign =>
          intro lp x W K hK
          unfold encA at hK ⊢
          simp at hK
          gi_wp2
          exact hK
        case done =>
          rintro D0 ys W hD rfl ⟨⟨nv, h1, h2, bN⟩, hF2⟩ hK
          refine hn D0 W ⟨hK, hD, hF2, _, bN, .inl ?_⟩
          have e1 := h2.out (List.prefix_refl _)
          have e2 := congrArg List.length HMO.out
          rw [List.length_map] at e2
          omega
        case stop =>
          rintro D0 cc pre W hD hpre (⟨_, hno⟩ | ⟨⟨rfl, h1⟩, bN, hF2⟩) hK
          · exact absurd hpre hno
          · first
              | exact absurd h1 (by decide)
              | (have HH := Lib.hid (show W.heap[D0]? = some (.deferred (some [])) ∧ WL1.heap.size ≤ D0 ∧ Fr (One bn1) WL1 W ∧ ∃ nv : Int, Boxed W bn1 3 (.int .i64 nv) ∧ (nv = (M.length : Int) ∨ (nv = lv ∧ (0 : Int) = 0)) from ⟨hK, hD, hF2, _, bN, .inr ⟨rfl, h1⟩⟩)
                 have hx2 := hx D0 W HH.out
                 clear hx hn hK hF2 bN
                 gi_wp2
                 exact hx2)
        case body =>
          rintro lp pre x Bx W hl ⟨rr, hrr⟩ ⟨⟨nv, hnv, hlc, bN⟩, hF2⟩ hBx bX hlt
          have hz := LZ1.out
          have hbw : Below wr.heap.size wr W := BL1.out.trans (hF2.below (B := wr.heap.size) (by omega) (fun k hk q => by have q2 : k = bn1 := q; omega))
          have S9 := Lib.hid (S8.out.step hbw)
          have hxl := x.isLt
          obtain ⟨ga, oa, hAe, _, u1, u2⟩ := bars_cells (Kd.C_below HR.out S9.out.p.b) OK.out x.val hxl
          obtain ⟨xv, yv, p1, _, _, p4, _⟩ := OK.out.get hxl
          have p5 : (l.map toCG).getD x.val ⟨0, 0⟩ = ⟨xv, yv⟩ := by rw [List.getD_eq_getElem?_getD, p4]; rfl
          rw [p5] at u1 u2
          simp only at u1 u2
          have x0 : W.cell? ⟨Bx, 0, none⟩ = some (.int .u64 (l[x.val]).f0) := bX.cell 0
          have x1 : W.cell? ⟨Bx, 1, none⟩ = some (.int .u64 (l[x.val]).f1) := bX.cell 1
          rw [p1] at x0 x1
          simp only at x0 x1
          have c2 : W.cell? ⟨w.heap.size, 2, none⟩ = some (.slice (some ⟨ga, oa, none⟩) n c) := by rw [← hAe]; exact S9.out.p.c.cell 2
          have cW : W.cell? ⟨bW, 0, none⟩ = some (.slice Aw M.length cw) := S9.out.o.cell 0
          have cV : W.cell? ⟨w.heap.size + 1, 0, none⟩ = some (.int .i64 lv) := S9.out.p.v.cell 0
          have cR : W.cell? ⟨w.heap.size + 1 + 1, 0, none⟩ = some (.bool false) := S9.out.p.r.cell 0
          have fR : ∀ j, W.frozen? ⟨w.heap.size + 1 + 1, j, none⟩ = false := S9.out.p.r.free
          have cA : W.cell? ⟨ba, 0, none⟩ = some (.int .i64 0) := (World.cell?_of_block (hF2.block ba AB1.out.lt (fun q => by have q2 : ba = bn1 := q; omega))).trans AB1.out.cell
          have cN := bN.cell
          have fN := bN.frozen
          have hneq : ∀ W, (binOp .neq 53 (.agg #[.int .u64 (xv : Int), .int .u64 (yv : Int)]) (.agg #[.int .u64 (xv : Int), .int .u64 (yv : Int)])).run Try.prog W = .ok (.bool false) W := fun W => by
            have := (guest_eq_run (xv : Int) (yv : Int) (xv : Int) (yv : Int) W).2
            simpa using this
          have hAt : ∀ (hlt2 : nv < M.length), ∃ ad, Aw = some ad ∧ W.cell? (ad.add nv) = some (.int .i64 ((M[nv] : Nat) : Int)) := fun hlt2 => by
            obtain ⟨ad, e1, e2⟩ := Kd.at_int S9.out.k (nv : Int) (by omega) (by omega)
            rw [rd_cast M nv hlt2] at e2
            exact ⟨ad, e1, e2⟩
          have hpre : pre ++ [x] <+: ord → ∃ hlt2 : nv < M.length, M[nv] = x.val := fun hp => by
            obtain ⟨t, ht⟩ := hp
            have e1 := hlc.out ⟨[x] ++ t, by rw [← List.append_assoc]; exact ht⟩
            have e2 := HMO.out
            subst e2
            rw [e1]
            have e3 : ord[pre.length]? = some x := by rw [← ht, List.append_assoc, List.getElem?_append_right (Nat.le_refl _), Nat.sub_self]; rfl
            obtain ⟨h4, h5⟩ := List.getElem?_eq_some_iff.1 e3
            exact ⟨by rw [List.length_map]; exact h4, by rw [List.getElem_map, h5]⟩
          have HPRE := Lib.hid hpre
          have HLC := Lib.hid hlc.out
          have BN := Lib.hid bN
          have HF2' := Lib.hid hF2
          have hxn : x.val < n := by have := HN.out; omega
          have HZ := Lib.hid hz
          obtain ⟨X, hX⟩ : ∃ X : Int, X = (xv : Int) := ⟨_, rfl⟩
          obtain ⟨Y, hY⟩ : ∃ Y : Int, Y = (yv : Int) := ⟨_, rfl⟩
          obtain ⟨xi, hxi⟩ : ∃ xi : Nat, xi = x.val := ⟨_, rfl⟩
          rw [← hX, ← hY] at hneq
          rw [← hX] at u1 x0
          rw [← hY] at u2 x1
          have e6 : (l[x.val]).f0 = X := by rw [p1, hX]
          have e7 : (l[x.val]).f1 = Y := by rw [p1, hY]
          rw [← hxi] at u1 u2 hxn HPRE
          have hnm : nv ≤ 100 := by have := HMM.out; omega
          have hx100 : xi < 100 := by have := H100.out; omega
          unfold encA
          rw [e6, e7, ← hxi]
          have HXI := Lib.hid hxi
          clear hX hY hz hpre bN hF2 hlc p1 p4 p5 e6 e7 bX hrr hxl hlt hxi hBx
          subst hAe
          by_cases ha : nv < M.length
          · obtain ⟨ad, hAw, hcell⟩ := hAt ha
            subst hAw
            have g2 : decide ((M.length : Int) ≤ (nv : Int)) = false := decide_eq_false (by omega)
            have g4 : decide (M.length ≤ nv) = false := decide_eq_false (by omega)
            have hpr : pre ++ [x] <+: ord → M[nv] = xi := fun hp => (HPRE.out hp).2
            have HPR := Lib.hid hpr
            obtain ⟨m, hm⟩ : ∃ m, m = M[nv] := ⟨_, rfl⟩
            rw [← hm] at hcell HPR
            clear hm hAt hpr HPRE
            by_cases hb : xi = m
            · subst hb
              obtain ⟨n1, hn1⟩ : ∃ n1, n1 = nv + 1 := ⟨_, rfl⟩
              have e5 : IntKind.i64.wrap ((nv : Int) + 1) = (n1 : Int) := by rw [IntKind.wrap_i64]; omega
              have hn1M : n1 ≤ M.length := by omega
              obtain ⟨WX, hWX⟩ : ∃ WX, WX = (W.setCell ⟨bn1, 0, none⟩ (.int .i64 (n1 : Int))).drew := ⟨_, rfl⟩
              have hz := HZ.out
              have hfs := HF2'.out.size
              have hn8 := N8.out
              have FX := Lib.hid (show Fr (One bn1) W WX from by rw [hWX]; exact ((Fr.refl (One bn1) W).setCell (a := ⟨bn1, 0, none⟩) (.inl rfl) (.int .i64 (n1 : Int))).drew)
              have BX := Lib.hid (show Boxed WX bn1 3 (.int .i64 (n1 : Int)) from by rw [hWX]; exact BN.out.set _)
              have KX := Lib.hid (show KeepsFrom WL1.heap.size W WX from by rw [hWX]; exact ((KeepsOthers.setCell W ⟨bn1, 0, none⟩ (.int .i64 (n1 : Int))).trans (KeepsOthers.drew _)).from WL1.heap.size)
              have YX := Lib.hid (show Below wr.heap.size W WX from FX.out.below (B := wr.heap.size) (by omega) (fun k hk q => by have q2 : k = bn1 := q; omega))
              have hlen : pre ++ [x] <+: ord → n1 = (pre ++ [x]).length := fun hp => by
                have h3 := HLC.out ((List.prefix_append pre [x]).trans hp)
                rw [List.length_append, List.length_singleton, hn1, h3]
              have IX := Lib.hid (show (∃ nv : Nat, nv ≤ M.length ∧ Hid (pre ++ [x] <+: ord → nv = (pre ++ [x]).length) ∧ Boxed WX bn1 3 (.int .i64 (nv : Int))) ∧ Fr (One bn1) WL1 WX from ⟨⟨n1, hn1M, Lib.hid hlen, BX.out⟩, HF2'.out.trans FX.out⟩)
              have hne1 : bn1 ≠ w.heap.size + 1 := by omega
              have hne2 : bn1 ≠ ba := by omega
              have cV3 : (W.setCell ⟨bn1, 0, none⟩ (.int .i64 (n1 : Int))).drew.cell? ⟨w.heap.size + 1, 0, none⟩ = some (.int .i64 lv) := (World.cell?_setCell_far _ _ _ _ hne1).trans cV
              have cA3 : (W.setCell ⟨bn1, 0, none⟩ (.int .i64 (n1 : Int))).drew.cell? ⟨ba, 0, none⟩ = some (.int .i64 0) := (World.cell?_setCell_far _ _ _ _ hne2).trans cA
              have cN3 : (W.setCell ⟨bn1, 0, none⟩ (.int .i64 (n1 : Int))).drew.cell? ⟨bn1, 0, none⟩ = some (.int .i64 (n1 : Int)) := by rw [← hWX]; exact BX.out.cell
              have HWX := Lib.hid hWX
              have CV := Lib.hid cV3
              have CA := Lib.hid cA3
              have CN := Lib.hid cN3
              have cN2 : W.drew.cell? ⟨bn1, 0, none⟩ = some (.int .i64 (nv : Int)) := cN
              have fN2 : W.drew.frozen? ⟨bn1, 0, none⟩ = false := fN
              clear hn1 hn1M hz hfs hn8 hlen hne1 hne2 cV3 cA3 cN3 hWX cV cA
              gi_wp2
              refine wpIn_region_held_round (S := fun W' => W'.cell? ⟨bn1, 0, none⟩ = some (.int .i64 (nv : Int)) ∧ W'.cell? ⟨bW, 0, none⟩ = some (.slice (some ad) M.length cw) ∧ W'.cell? (ad.add nv) = some (.int .i64 (xi : Int)) ∧ W'.cell? ⟨Bx, 0, none⟩ = some (.int .u64 X) ∧ W'.cell? ⟨Bx, 1, none⟩ = some (.int .u64 Y) ∧ W'.cell? ⟨w.heap.size, 2, none⟩ = some (.slice (some ⟨ga, oa, none⟩) n c) ∧ W'.cell? ⟨ga, oa + xi * 2, none⟩ = some (.int .u64 X) ∧ W'.cell? ⟨ga, oa + xi * 2 + 1, none⟩ = some (.int .u64 Y)) (by kernel_rfl) (noDefer_spec (by kernel_rfl)) (fun h => by obtain ⟨_, _, h⟩ := h; exact h) ⟨cN, cW, hcell, x0, x1, c2, u1, u2⟩ (fun hHeld => ?_)
              refine' tkG (i := 0) (v := _) (by rfl) (by kernel_rfl) (by kernel_rfl) (by kernel_rfl) (fun _ _ _ h => h) (by rfl) ?hy3 (by assumption) ?rest3
              case hy3 => (intro wq hSq; (try dsimp only at hSq); go_simp; try with_reducible rfl)
              simp only [Act.put, List.setIfInBounds_toArray, List.set_cons_zero, List.set_cons_succ]
              refine' tkG (i := 1) (v := _) (by rfl) (by kernel_rfl) (by kernel_rfl) (by kernel_rfl) (fun _ _ _ h => h) (by rfl) ?hy4 (by assumption) ?rest4
              case hy4 => (intro wq hSq; (try dsimp only at hSq); go_simp; try with_reducible rfl)
              simp only [Act.put, List.setIfInBounds_toArray, List.set_cons_zero, List.set_cons_succ]
              refine' tkG (i := 2) (v := _) (by rfl) (by kernel_rfl) (by kernel_rfl) (by kernel_rfl) (fun _ _ _ h => h) (by rfl) ?hy5 (by assumption) ?rest5
              case hy5 => (intro wq hSq; (try dsimp only at hSq); go_simp; try with_reducible rfl)
              simp only [Act.put, List.setIfInBounds_toArray, List.set_cons_zero, List.set_cons_succ]
              refine' tkG (i := 3) (v := _) (by rfl) (by kernel_rfl) (by kernel_rfl) (by kernel_rfl) (fun _ _ _ h => h) (by rfl) ?hy6 (by assumption) ?rest6
              case hy6 => (intro wq hSq; (try dsimp only at hSq); go_simp; try with_reducible rfl)
              simp only [Act.put, List.setIfInBounds_toArray, List.set_cons_zero, List.set_cons_succ]
              refine' tkG (i := 4) (v := _) (by rfl) (by kernel_rfl) (by kernel_rfl) (by kernel_rfl) (fun _ _ _ h => h) (by rfl) ?hy7 (by assumption) ?rest7
              case hy7 => (intro wq hSq; (try dsimp only at hSq); go_simp; try with_reducible rfl)
              simp only [Act.put, List.setIfInBounds_toArray, List.set_cons_zero, List.set_cons_succ]
              refine' tkG (i := 5) (v := _) (by rfl) (by kernel_rfl) (by kernel_rfl) (by kernel_rfl) (fun _ _ _ h => h) (by rfl) ?hy8 (by assumption) ?rest8
              case hy8 => (intro wq hSq; (try dsimp only at hSq); go_simp; try with_reducible rfl)
              simp only [Act.put, List.setIfInBounds_toArray, List.set_cons_zero, List.set_cons_succ]
              refine' tkG (i := 6) (v := _) (by rfl) (by kernel_rfl) (by kernel_rfl) (by kernel_rfl) (fun _ _ _ h => h) (by rfl) ?hy9 (by assumption) ?rest9
              case hy9 => (intro wq hSq; (try dsimp only at hSq); go_simp; try with_reducible rfl)
              simp only [Act.put, List.setIfInBounds_toArray, List.set_cons_zero, List.set_cons_succ]
              refine' tkG (i := 7) (v := _) (by rfl) (by kernel_rfl) (by kernel_rfl) (by kernel_rfl) (fun _ _ _ h => h) (by rfl) ?hy10 (by assumption) ?rest10
              case hy10 => (intro wq hSq; (try dsimp only at hSq); go_simp; try with_reducible rfl)
              simp only [Act.put, List.setIfInBounds_toArray, List.set_cons_zero, List.set_cons_succ]
              refine' tkG (i := 8) (v := _) (by rfl) (by kernel_rfl) (by kernel_rfl) (by kernel_rfl) (fun _ _ _ h => h) (by rfl) ?hy11 (by assumption) ?rest11
              case hy11 => (intro wq hSq; (try dsimp only at hSq); go_simp; try with_reducible rfl)
              simp only [Act.put, List.setIfInBounds_toArray, List.set_cons_zero, List.set_cons_succ]
              refine' tkG (i := 9) (v := _) (by rfl) (by kernel_rfl) (by kernel_rfl) (by kernel_rfl) (fun _ _ _ h => h) (by rfl) ?hy12 (by assumption) ?rest12
              case hy12 => (intro wq hSq; (try dsimp only at hSq); go_simp; try with_reducible rfl)
              simp only [Act.put, List.setIfInBounds_toArray, List.set_cons_zero, List.set_cons_succ]
              refine' tkG (i := 10) (v := _) (by rfl) (by kernel_rfl) (by kernel_rfl) (by kernel_rfl) (fun _ _ _ h => h) (by rfl) ?hy13 (by assumption) ?rest13
              case hy13 => (intro wq hSq; (try dsimp only at hSq); go_simp; try with_reducible rfl)
              simp only [Act.put, List.setIfInBounds_toArray, List.set_cons_zero, List.set_cons_succ]
              refine' tkG (i := 11) (v := _) (by rfl) (by kernel_rfl) (by kernel_rfl) (by kernel_rfl) (fun _ _ _ h => h) (by rfl) ?hy14 (by assumption) ?rest14
              case hy14 => (intro wq hSq; (try dsimp only at hSq); go_simp; try with_reducible rfl)
              simp only [Act.put, List.setIfInBounds_toArray, List.set_cons_zero, List.set_cons_succ]
              refine' tkG (i := 12) (v := _) (by rfl) (by kernel_rfl) (by kernel_rfl) (by kernel_rfl) (fun _ _ _ h => h) (by rfl) ?hy15 (by assumption) ?rest15
              case hy15 => (intro wq hSq; (try dsimp only at hSq); go_simp; try with_reducible rfl)
              simp only [Act.put, List.setIfInBounds_toArray, List.set_cons_zero, List.set_cons_succ]
              refine' tkG (i := 13) (v := _) (by rfl) (by kernel_rfl) (by kernel_rfl) (by kernel_rfl) (fun _ _ _ h => h) (by rfl) ?hy16 (by assumption) ?rest16
              case hy16 => (intro wq hSq; (try dsimp only at hSq); go_simp; try with_reducible rfl)
              simp only [Act.put, List.setIfInBounds_toArray, List.set_cons_zero, List.set_cons_succ]
              refine' tkG (i := 14) (v := _) (by rfl) (by kernel_rfl) (by kernel_rfl) (by kernel_rfl) (fun _ _ _ h => h) (by rfl) ?hy17 (by assumption) ?rest17
              case hy17 => (intro wq hSq; (try dsimp only at hSq); go_simp; try with_reducible rfl)
              simp only [Act.put, List.setIfInBounds_toArray, List.set_cons_zero, List.set_cons_succ]
              refine' tkG (i := 15) (v := _) (by rfl) (by kernel_rfl) (by kernel_rfl) (by kernel_rfl) (fun _ _ _ h => h) (by rfl) ?hy18 (by assumption) ?rest18
              case hy18 => (intro wq hSq; (try dsimp only at hSq); go_simp; try with_reducible rfl)
              simp only [Act.put, List.setIfInBounds_toArray, List.set_cons_zero, List.set_cons_succ]
              refine' tkG (i := 16) (v := _) (by rfl) (by kernel_rfl) (by kernel_rfl) (by kernel_rfl) (fun _ _ _ h => h) (by rfl) ?hy19 (by assumption) ?rest19
              case hy19 => (intro wq hSq; (try dsimp only at hSq); go_simp; try with_reducible rfl)
              simp only [Act.put, List.setIfInBounds_toArray, List.set_cons_zero, List.set_cons_succ]
              refine' tkG (i := 17) (v := _) (by rfl) (by kernel_rfl) (by kernel_rfl) (by kernel_rfl) (fun _ _ _ h => h) (by rfl) ?hy20 (by assumption) ?rest20
              case hy20 => (intro wq hSq; (try dsimp only at hSq); go_simp; try with_reducible rfl)
              simp only [Act.put, List.setIfInBounds_toArray, List.set_cons_zero, List.set_cons_succ]
              refine' tkG (i := 18) (v := _) (by rfl) (by kernel_rfl) (by kernel_rfl) (by kernel_rfl) (fun _ _ _ h => h) (by rfl) ?hy21 (by assumption) ?rest21
              case hy21 => (intro wq hSq; (try dsimp only at hSq); go_simp; try with_reducible rfl)
              simp only [Act.put, List.setIfInBounds_toArray, List.set_cons_zero, List.set_cons_succ]
              refine' tkG (i := 19) (v := _) (by rfl) (by kernel_rfl) (by kernel_rfl) (by kernel_rfl) (fun _ _ _ h => h) (by rfl) ?hy22 (by assumption) ?rest22
              case hy22 => (intro wq hSq; (try dsimp only at hSq); go_simp; try with_reducible rfl)
              simp only [Act.put, List.setIfInBounds_toArray, List.set_cons_zero, List.set_cons_succ]
              refine' tkG (i := 20) (v := _) (by rfl) (by kernel_rfl) (by kernel_rfl) (by kernel_rfl) (fun _ _ _ h => h) (by rfl) ?hy23 (by assumption) ?rest23
              case hy23 => (intro wq hSq; (try dsimp only at hSq); go_simp; try with_reducible rfl)
              simp only [Act.put, List.setIfInBounds_toArray, List.set_cons_zero, List.set_cons_succ]
              refine wpAnyH_done (by kernel_rfl) ?_ _
              clear hcell x0 x1 c2 u1 u2 cW cR fR hHeld hneq g2 g4
              have cV3 := CV.out
              have cA3 := CA.out
              have cN3 := CN.out
              by_cases he : (n1 : Int) = lv
              · have g5 : ((n1 : Int) == lv) = true := by simpa using he
                have HE := Lib.hid he
                clear he
                gi_wp2
                rw [← HWX.out]
                exact ⟨KX.out, .inr ⟨by simp, by have h := BX.out; rw [HE.out] at h; exact h, IX.out.2⟩⟩
              · have g5 : ((n1 : Int) == lv) = false := by simpa using he
                clear he
                gi_wp2
                rw [← HWX.out]
                exact ⟨KX.out, YX.out, IX.out⟩
            · have g3 : ((xi : Int) != (m : Int)) = true := by simp; omega
              gi_wp2
              refine wpIn_region_held_round (S := fun W' => W'.cell? ⟨bn1, 0, none⟩ = some (.int .i64 (nv : Int)) ∧ W'.cell? ⟨bW, 0, none⟩ = some (.slice (some ad) M.length cw) ∧ W'.cell? (ad.add nv) = some (.int .i64 (m : Int))) (by kernel_rfl) (noDefer_spec (by kernel_rfl)) (fun h => by obtain ⟨_, _, h⟩ := h; exact h) ⟨cN, cW, hcell⟩ (fun hHeld => ?_)
              refine' tkG (i := 0) (v := _) (by rfl) (by kernel_rfl) (by kernel_rfl) (by kernel_rfl) (fun _ _ _ h => h) (by rfl) ?hy25 (by assumption) ?rest25
              case hy25 => (intro wq hSq; (try dsimp only at hSq); go_simp; try with_reducible rfl)
              simp only [Act.put, List.setIfInBounds_toArray, List.set_cons_zero, List.set_cons_succ]
              refine' tkG (i := 1) (v := _) (by rfl) (by kernel_rfl) (by kernel_rfl) (by kernel_rfl) (fun _ _ _ h => h) (by rfl) ?hy26 (by assumption) ?rest26
              case hy26 => (intro wq hSq; (try dsimp only at hSq); go_simp; try with_reducible rfl)
              simp only [Act.put, List.setIfInBounds_toArray, List.set_cons_zero, List.set_cons_succ]
              refine' tkG (i := 2) (v := _) (by rfl) (by kernel_rfl) (by kernel_rfl) (by kernel_rfl) (fun _ _ _ h => h) (by rfl) ?hy27 (by assumption) ?rest27
              case hy27 => (intro wq hSq; (try dsimp only at hSq); go_simp; try with_reducible rfl)
              simp only [Act.put, List.setIfInBounds_toArray, List.set_cons_zero, List.set_cons_succ]
              refine' tkG (i := 3) (v := _) (by rfl) (by kernel_rfl) (by kernel_rfl) (by kernel_rfl) (fun _ _ _ h => h) (by rfl) ?hy28 (by assumption) ?rest28
              case hy28 => (intro wq hSq; (try dsimp only at hSq); go_simp; try with_reducible rfl)
              simp only [Act.put, List.setIfInBounds_toArray, List.set_cons_zero, List.set_cons_succ]
              refine' tkG (i := 4) (v := _) (by rfl) (by kernel_rfl) (by kernel_rfl) (by kernel_rfl) (fun _ _ _ h => h) (by rfl) ?hy29 (by assumption) ?rest29
              case hy29 => (intro wq hSq; (try dsimp only at hSq); go_simp; try with_reducible rfl)
              simp only [Act.put, List.setIfInBounds_toArray, List.set_cons_zero, List.set_cons_succ]
              refine' tkG (i := 5) (v := _) (by rfl) (by kernel_rfl) (by kernel_rfl) (by kernel_rfl) (fun _ _ _ h => h) (by rfl) ?hy30 (by assumption) ?rest30
              case hy30 => (intro wq hSq; (try dsimp only at hSq); go_simp; try with_reducible rfl)
              simp only [Act.put, List.setIfInBounds_toArray, List.set_cons_zero, List.set_cons_succ]
              refine' tkG (i := 6) (v := _) (by rfl) (by kernel_rfl) (by kernel_rfl) (by kernel_rfl) (fun _ _ _ h => h) (by rfl) ?hy31 (by assumption) ?rest31
              case hy31 => (intro wq hSq; (try dsimp only at hSq); go_simp; try with_reducible rfl)
              simp only [Act.put, List.setIfInBounds_toArray, List.set_cons_zero, List.set_cons_succ]
              refine' tkG (i := 7) (v := _) (by rfl) (by kernel_rfl) (by kernel_rfl) (by kernel_rfl) (fun _ _ _ h => h) (by rfl) ?hy32 (by assumption) ?rest32
              case hy32 => (intro wq hSq; (try dsimp only at hSq); go_simp; try with_reducible rfl)
              simp only [Act.put, List.setIfInBounds_toArray, List.set_cons_zero, List.set_cons_succ]
              refine' tkG (i := 8) (v := _) (by rfl) (by kernel_rfl) (by kernel_rfl) (by kernel_rfl) (fun _ _ _ h => h) (by rfl) ?hy33 (by assumption) ?rest33
              case hy33 => (intro wq hSq; (try dsimp only at hSq); go_simp; try with_reducible rfl)
              simp only [Act.put, List.setIfInBounds_toArray, List.set_cons_zero, List.set_cons_succ]
              refine' tkG (i := 9) (v := _) (by rfl) (by kernel_rfl) (by kernel_rfl) (by kernel_rfl) (fun _ _ _ h => h) (by rfl) ?hy34 (by assumption) ?rest34
              case hy34 => (intro wq hSq; (try dsimp only at hSq); go_simp; try with_reducible rfl)
              simp only [Act.put, List.setIfInBounds_toArray, List.set_cons_zero, List.set_cons_succ]
              refine' tkG (i := 10) (v := _) (by rfl) (by kernel_rfl) (by kernel_rfl) (by kernel_rfl) (fun _ _ _ h => h) (by rfl) ?hy35 (by assumption) ?rest35
              case hy35 => (intro wq hSq; (try dsimp only at hSq); go_simp; try with_reducible rfl)
              simp only [Act.put, List.setIfInBounds_toArray, List.set_cons_zero, List.set_cons_succ]
              refine' tkG (i := 11) (v := _) (by rfl) (by kernel_rfl) (by kernel_rfl) (by kernel_rfl) (fun _ _ _ h => h) (by rfl) ?hy36 (by assumption) ?rest36
              case hy36 => (intro wq hSq; (try dsimp only at hSq); go_simp; try with_reducible rfl)
              simp only [Act.put, List.setIfInBounds_toArray, List.set_cons_zero, List.set_cons_succ]
              refine' tkG (i := 12) (v := _) (by rfl) (by kernel_rfl) (by kernel_rfl) (by kernel_rfl) (fun _ _ _ h => h) (by rfl) ?hy37 (by assumption) ?rest37
              case hy37 => (intro wq hSq; (try dsimp only at hSq); go_simp; try with_reducible rfl)
              simp only [Act.put, List.setIfInBounds_toArray, List.set_cons_zero, List.set_cons_succ]
              refine' tkU (i := 13) (by rfl) (by kernel_rfl) (by kernel_rfl) (by kernel_rfl) (fun _ _ _ h => h) (by rfl) (by assumption) ?rest38
              simp only [Act.put, List.setIfInBounds_toArray, List.set_cons_zero, List.set_cons_succ]
              refine' tkU (i := 14) (by rfl) (by kernel_rfl) (by kernel_rfl) (by kernel_rfl) (fun _ _ _ h => h) (by rfl) (by assumption) ?rest39
              simp only [Act.put, List.setIfInBounds_toArray, List.set_cons_zero, List.set_cons_succ]
              refine' tkU (i := 15) (by rfl) (by kernel_rfl) (by kernel_rfl) (by kernel_rfl) (fun _ _ _ h => h) (by rfl) (by assumption) ?rest40
              simp only [Act.put, List.setIfInBounds_toArray, List.set_cons_zero, List.set_cons_succ]
              refine' tkU (i := 16) (by rfl) (by kernel_rfl) (by kernel_rfl) (by kernel_rfl) (fun _ _ _ h => h) (by rfl) (by assumption) ?rest41
              simp only [Act.put, List.setIfInBounds_toArray, List.set_cons_zero, List.set_cons_succ]
              refine' tkU (i := 17) (by rfl) (by kernel_rfl) (by kernel_rfl) (by kernel_rfl) (fun _ _ _ h => h) (by rfl) (by assumption) ?rest42
              simp only [Act.put, List.setIfInBounds_toArray, List.set_cons_zero, List.set_cons_succ]
              refine' tkU (i := 18) (by rfl) (by kernel_rfl) (by kernel_rfl) (by kernel_rfl) (fun _ _ _ h => h) (by rfl) (by assumption) ?rest43
              simp only [Act.put, List.setIfInBounds_toArray, List.set_cons_zero, List.set_cons_succ]
              refine' tkU (i := 19) (by rfl) (by kernel_rfl) (by kernel_rfl) (by kernel_rfl) (fun _ _ _ h => h) (by rfl) (by assumption) ?rest44
              simp only [Act.put, List.setIfInBounds_toArray, List.set_cons_zero, List.set_cons_succ]
              refine' tkG (i := 20) (v := _) (by rfl) (by kernel_rfl) (by kernel_rfl) (by kernel_rfl) (fun _ _ _ h => h) (by rfl) ?hy45 (by assumption) ?rest45
              case hy45 => (intro wq hSq; (try dsimp only at hSq); go_simp; try with_reducible rfl)
              simp only [Act.put, List.setIfInBounds_toArray, List.set_cons_zero, List.set_cons_succ]
              refine wpAnyH_done (by kernel_rfl) ?_ _
              gi_wp2
              refine ⟨(KeepsOthers.drew _).trans (KeepsOthers.setCell _ _ _) |>.from _, .inl ⟨rfl, fun hp => hb (HPR.out hp).symm⟩⟩
          · have g2 : decide ((M.length : Int) ≤ (nv : Int)) = true := decide_eq_true (by omega)
            have g4 : decide (M.length ≤ nv) = true := decide_eq_true (by omega)
            clear hAt
            gi_wp2
            refine wpIn_region_held_round (S := fun W' => W'.cell? ⟨bn1, 0, none⟩ = some (.int .i64 (nv : Int)) ∧ W'.cell? ⟨bW, 0, none⟩ = some (.slice Aw M.length cw)) (by kernel_rfl) (noDefer_spec (by kernel_rfl)) (fun h => by obtain ⟨_, _, h⟩ := h; exact h) ⟨cN, cW⟩ (fun hHeld => ?_)
            refine' tkG (i := 0) (v := _) (by rfl) (by kernel_rfl) (by kernel_rfl) (by kernel_rfl) (fun _ _ _ h => h) (by rfl) ?hy47 (by assumption) ?rest47
            case hy47 => (intro wq hSq; (try dsimp only at hSq); go_simp; try with_reducible rfl)
            simp only [Act.put, List.setIfInBounds_toArray, List.set_cons_zero, List.set_cons_succ]
            refine' tkG (i := 1) (v := _) (by rfl) (by kernel_rfl) (by kernel_rfl) (by kernel_rfl) (fun _ _ _ h => h) (by rfl) ?hy48 (by assumption) ?rest48
            case hy48 => (intro wq hSq; (try dsimp only at hSq); go_simp; try with_reducible rfl)
            simp only [Act.put, List.setIfInBounds_toArray, List.set_cons_zero, List.set_cons_succ]
            refine' tkG (i := 2) (v := _) (by rfl) (by kernel_rfl) (by kernel_rfl) (by kernel_rfl) (fun _ _ _ h => h) (by rfl) ?hy49 (by assumption) ?rest49
            case hy49 => (intro wq hSq; (try dsimp only at hSq); go_simp; try with_reducible rfl)
            simp only [Act.put, List.setIfInBounds_toArray, List.set_cons_zero, List.set_cons_succ]
            refine' tkG (i := 3) (v := _) (by rfl) (by kernel_rfl) (by kernel_rfl) (by kernel_rfl) (fun _ _ _ h => h) (by rfl) ?hy50 (by assumption) ?rest50
            case hy50 => (intro wq hSq; (try dsimp only at hSq); go_simp; try with_reducible rfl)
            simp only [Act.put, List.setIfInBounds_toArray, List.set_cons_zero, List.set_cons_succ]
            refine' tkG (i := 4) (v := _) (by rfl) (by kernel_rfl) (by kernel_rfl) (by kernel_rfl) (fun _ _ _ h => h) (by rfl) ?hy51 (by assumption) ?rest51
            case hy51 => (intro wq hSq; (try dsimp only at hSq); go_simp; try with_reducible rfl)
            simp only [Act.put, List.setIfInBounds_toArray, List.set_cons_zero, List.set_cons_succ]
            refine' tkU (i := 5) (by rfl) (by kernel_rfl) (by kernel_rfl) (by kernel_rfl) (fun _ _ _ h => h) (by rfl) (by assumption) ?rest52
            simp only [Act.put, List.setIfInBounds_toArray, List.set_cons_zero, List.set_cons_succ]
            refine' tkU (i := 6) (by rfl) (by kernel_rfl) (by kernel_rfl) (by kernel_rfl) (fun _ _ _ h => h) (by rfl) (by assumption) ?rest53
            simp only [Act.put, List.setIfInBounds_toArray, List.set_cons_zero, List.set_cons_succ]
            refine' tkU (i := 7) (by rfl) (by kernel_rfl) (by kernel_rfl) (by kernel_rfl) (fun _ _ _ h => h) (by rfl) (by assumption) ?rest54
            simp only [Act.put, List.setIfInBounds_toArray, List.set_cons_zero, List.set_cons_succ]
            refine' tkU (i := 8) (by rfl) (by kernel_rfl) (by kernel_rfl) (by kernel_rfl) (fun _ _ _ h => h) (by rfl) (by assumption) ?rest55
            simp only [Act.put, List.setIfInBounds_toArray, List.set_cons_zero, List.set_cons_succ]
            refine' tkU (i := 9) (by rfl) (by kernel_rfl) (by kernel_rfl) (by kernel_rfl) (fun _ _ _ h => h) (by rfl) (by assumption) ?rest56
            simp only [Act.put, List.setIfInBounds_toArray, List.set_cons_zero, List.set_cons_succ]
            refine' tkU (i := 10) (by rfl) (by kernel_rfl) (by kernel_rfl) (by kernel_rfl) (fun _ _ _ h => h) (by rfl) (by assumption) ?rest57
            simp only [Act.put, List.setIfInBounds_toArray, List.set_cons_zero, List.set_cons_succ]
            refine' tkG (i := 11) (v := _) (by rfl) (by kernel_rfl) (by kernel_rfl) (by kernel_rfl) (fun _ _ _ h => h) (by rfl) ?hy58 (by assumption) ?rest58
            case hy58 => (intro wq hSq; (try dsimp only at hSq); go_simp; try with_reducible rfl)
            simp only [Act.put, List.setIfInBounds_toArray, List.set_cons_zero, List.set_cons_succ]
            refine' tkG (i := 12) (v := _) (by rfl) (by kernel_rfl) (by kernel_rfl) (by kernel_rfl) (fun _ _ _ h => h) (by rfl) ?hy59 (by assumption) ?rest59
            case hy59 => (intro wq hSq; (try dsimp only at hSq); go_simp; try with_reducible rfl)
            simp only [Act.put, List.setIfInBounds_toArray, List.set_cons_zero, List.set_cons_succ]
            refine' tkU (i := 13) (by rfl) (by kernel_rfl) (by kernel_rfl) (by kernel_rfl) (fun _ _ _ h => h) (by rfl) (by assumption) ?rest60
            simp only [Act.put, List.setIfInBounds_toArray, List.set_cons_zero, List.set_cons_succ]
            refine' tkU (i := 14) (by rfl) (by kernel_rfl) (by kernel_rfl) (by kernel_rfl) (fun _ _ _ h => h) (by rfl) (by assumption) ?rest61
            simp only [Act.put, List.setIfInBounds_toArray, List.set_cons_zero, List.set_cons_succ]
            refine' tkU (i := 15) (by rfl) (by kernel_rfl) (by kernel_rfl) (by kernel_rfl) (fun _ _ _ h => h) (by rfl) (by assumption) ?rest62
            simp only [Act.put, List.setIfInBounds_toArray, List.set_cons_zero, List.set_cons_succ]
            refine' tkU (i := 16) (by rfl) (by kernel_rfl) (by kernel_rfl) (by kernel_rfl) (fun _ _ _ h => h) (by rfl) (by assumption) ?rest63
            simp only [Act.put, List.setIfInBounds_toArray, List.set_cons_zero, List.set_cons_succ]
            refine' tkU (i := 17) (by rfl) (by kernel_rfl) (by kernel_rfl) (by kernel_rfl) (fun _ _ _ h => h) (by rfl) (by assumption) ?rest64
            simp only [Act.put, List.setIfInBounds_toArray, List.set_cons_zero, List.set_cons_succ]
            refine' tkU (i := 18) (by rfl) (by kernel_rfl) (by kernel_rfl) (by kernel_rfl) (fun _ _ _ h => h) (by rfl) (by assumption) ?rest65
            simp only [Act.put, List.setIfInBounds_toArray, List.set_cons_zero, List.set_cons_succ]
            refine' tkU (i := 19) (by rfl) (by kernel_rfl) (by kernel_rfl) (by kernel_rfl) (fun _ _ _ h => h) (by rfl) (by assumption) ?rest66
            simp only [Act.put, List.setIfInBounds_toArray, List.set_cons_zero, List.set_cons_succ]
            refine' tkG (i := 20) (v := _) (by rfl) (by kernel_rfl) (by kernel_rfl) (by kernel_rfl) (fun _ _ _ h => h) (by rfl) ?hy67 (by assumption) ?rest67
            case hy67 => (intro wq hSq; (try dsimp only at hSq); go_simp; try with_reducible rfl)
            simp only [Act.put, List.setIfInBounds_toArray, List.set_cons_zero, List.set_cons_succ]
            refine wpAnyH_done (by kernel_rfl) ?_ _
            gi_wp2
            refine ⟨(KeepsOthers.drew _).trans (KeepsOthers.setCell _ _ _) |>.from _, .inl ⟨rfl, fun hp => ha (HPRE.out hp).1⟩⟩
      case rest1 =>
        rintro D1 V1 ⟨hK, hD, hF2, nv, bN, hnv⟩
        have HKD1 := Lib.hid hK
        have HDZ1 := Lib.hid hD
        have hz := LZ1.out
        have BV1 := Lib.hid (show Below wr.heap.size wr V1 from BL1.out.trans (hF2.below (B := wr.heap.size) (by omega) (fun k hk q => by have q2 : k = bn1 := q; omega)))
        have SV1 := Lib.hid (S8.out.step BV1.out)
        have HFV1 := Lib.hid hF2
        have AV1 := Lib.hid (show Boxed V1 ba 3 (.int .i64 0) from (hF2.block ba AB1.out.lt (fun q => by have q2 : ba = bn1 := q; omega)).trans AB1.out)
        have cN := bN.cell
        have cW : V1.cell? ⟨bW, 0, none⟩ = some (.slice Aw M.length cw) := SV1.out.o.cell 0
        have cV : V1.cell? ⟨w.heap.size + 1, 0, none⟩ = some (.int .i64 lv) := SV1.out.p.v.cell 0
        have cA := AV1.out.cell
        clear hK hD hF2 hz bN
        go_upto_region 25 with fail
        go_cut [92] from 80 to 93 (fun v W' => v = .bool false ∧ Hid (W' = V1))
        case first =>
          by_cases q1 : nv = (M.length : Int)
          · subst q1
            go_wp2_with fail
            go_meet
            exact ⟨rfl, Lib.hid rfl⟩
          · have q2 : nv = lv := by
              rcases hnv with h | h
              · exact absurd h q1
              · exact h.1
            have g6 : (nv != (M.length : Int)) = true := by simpa using q1
            have g7 : (nv != lv) = false := by simpa using q2
            clear q1 q2 hnv
            go_wp2_with fail
            go_meet
            exact ⟨rfl, Lib.hid rfl⟩
        case rest =>
          obtain ⟨rfl, hWC⟩ := hcut
          obtain rfl := hWC.out
          clear hnv cN cW cV hWC
          go_wp2_with fail
          obtain ⟨ba2, hba⟩ : ∃ ba2, ba2 = wc.heap.size := ⟨_, rfl⟩
          obtain ⟨W2, hW2⟩ : ∃ W2, W2 = wc.alloc (.cells #[.int .i64 1] 3) := ⟨_, rfl⟩
          have B2 := Lib.hid (show Below wr.heap.size wr W2 from by rw [hW2]; exact BV1.out.alloc BV1.out.size _)
          have HA2 := Lib.hid (show Boxed W2 ba2 3 (.int .i64 1) from by rw [hW2, hba]; exact Boxed.new wc _ _)
          have HBA2 := Lib.hid (show wr.heap.size ≤ ba2 from by rw [hba]; exact BV1.out.size)
          have HD1 := Lib.hid (show D1 < ba2 ∧ W2.heap[D1]? = some (.deferred (some [])) from by
            have h1 := (Array.getElem?_eq_some_iff.1 HKD1.out).1
            rw [hW2, hba]
            exact ⟨h1, (Below.heap_alloc wc _ D1 h1).trans HKD1.out⟩)
          have cB : W2.cell? ⟨ba2, 0, none⟩ = some (.int .i64 1) := HA2.out.cell
          rw [← hW2, ← hba]
          clear hba hW2 cA HKD1
          rw [rounds_succ]
          go_wp2_with fail
          obtain ⟨bn2, hbn⟩ : ∃ bn, bn = W2.heap.size := ⟨_, rfl⟩
          obtain ⟨WL2, hWL⟩ : ∃ WL, WL = W2.alloc (.cells #[.int .i64 0] 3) := ⟨_, rfl⟩
          have BL2 := Lib.hid (show Below wr.heap.size wr WL2 from by rw [hWL]; exact B2.out.alloc B2.out.size _)
          have AB2 := Lib.hid (show Boxed WL2 ba2 3 (.int .i64 1) from by rw [hWL]; exact HA2.out.alloc _)
          have NB2 := Lib.hid (show Boxed WL2 bn2 3 (.int .i64 0) from by rw [hWL, hbn]; exact Boxed.new _ _ _)
          have LZ2 := Lib.hid (show ba2 < bn2 ∧ wr.heap.size ≤ ba2 ∧ WL2.heap.size = bn2 + 1 from by
            rw [hWL, hbn]
            exact ⟨HA2.out.lt, HBA2.out, by simp⟩)
          rw [← hWL, ← hbn]
          have HWL2 := Lib.hid hWL
          clear hWL hbn
          refine (wpIn_wide (n := 6)).1 ?_
          refine range_join (fun D W' => W'.heap[D]? = some (.deferred (some [])) ∧ WL2.heap.size ≤ D ∧ Fr (One bn2) WL2 W' ∧ ∃ nv : Int, Boxed W' bn2 3 (.int .i64 nv) ∧ (nv = (M.length : Int) ∨ (nv = lv ∧ (1 : Int) = 0))) 4 (fun a w h => by simp only [Exit.inBlock, if_true]; exact h) ?loop2 ?rest2
          case loop2 =>
            intro Q' hn hx
            refine wpIn_range_boxed hro (by omega) (lb := #[.pointer (some ⟨Bo, 0, none⟩), .pointer (some ⟨Bw, 0, none⟩)]) rfl trivial it_enters
              (iter_stops Fence.wide 5 trivial hro (by omega) Bo Bw l ord _ wr (fun k hk => Nat.lt_of_lt_of_le hk.2 Z8.out) HLEN.out AL8.out) belowK_t (belowK_b (by have := LZ2.out; omega)) BL2.out (fun _ => rfl)
              (fun pre W' => (∃ nv : Nat, nv ≤ M.length ∧ Hid (pre <+: ord → nv = pre.length) ∧ Boxed W' bn2 3 (.int .i64 (nv : Int))) ∧ Fr (One bn2) WL2 W')
              (fun cc pre W' => (cc = .ret ∧ ¬ pre <+: ord) ∨ ((cc = .exit 4 ∧ (1 : Int) = 0) ∧ Boxed W' bn2 3 (.int .i64 lv) ∧ Fr (One bn2) WL2 W'))
              (OwnFrom.and (fun s X Y row hs hg hr => by obtain ⟨nv, h1, h2, h3⟩ := hs; exact ⟨nv, h1, h2, boxed_from h3 hg hr⟩) (ownFrom_fr (Nat.le_refl _)))
              (fun cc s X Y row hs hg hr => by
                rcases hs with hs | ⟨h1, h2, h3⟩
                · exact .inl hs
                · exact .inr ⟨h1, boxed_from h2 hg hr, h3.grown hg (fun k e => .inr (hr k e).1)⟩)
              ⟨⟨0, Nat.zero_le _, Lib.hid (fun _ => rfl), NB2.out⟩, Fr.refl _ _⟩
              (fun pre W' hp => hp.2.size) (fun W' o h => (Below.refl wr.heap.size W').alloc (by have := LZ2.out; omega) o)
              53 (fun x => #[.int .u64 (l[x.val]).f0, .int .u64 (l[x.val]).f1]) (fun x Bx t => (t.setIfInBounds 14 (.int .i64 ((x.val : Nat) : Int))).setIfInBounds 15 (.pointer (some ⟨Bx, 0, none⟩)))
              ?assign ?body ?done ?stop
            case assign =>
              intro lp x W K hK
              unfold encA at hK ⊢
              simp at hK
              gi_wp2
              exact hK
            case done =>
              rintro D0 ys W hD rfl ⟨⟨nv, h1, h2, bN⟩, hF2⟩ hK
              refine hn D0 W ⟨hK, hD, hF2, _, bN, .inl ?_⟩
              have e1 := h2.out (List.prefix_refl _)
              have e2 := congrArg List.length HMO.out
              rw [List.length_map] at e2
              omega
            case stop =>
              rintro D0 cc pre W hD hpre (⟨_, hno⟩ | ⟨⟨rfl, h1⟩, bN, hF2⟩) hK
              · exact absurd hpre hno
              · first
                  | exact absurd h1 (by decide)
                  | (have HH := Lib.hid (show W.heap[D0]? = some (.deferred (some [])) ∧ WL2.heap.size ≤ D0 ∧ Fr (One bn2) WL2 W ∧ ∃ nv : Int, Boxed W bn2 3 (.int .i64 nv) ∧ (nv = (M.length : Int) ∨ (nv = lv ∧ (1 : Int) = 0)) from ⟨hK, hD, hF2, _, bN, .inr ⟨rfl, h1⟩⟩)
                     have hx2 := hx D0 W HH.out
                     clear hx hn hK hF2 bN
                     gi_wp2
                     exact hx2)
            case body =>
              rintro lp pre x Bx W hl ⟨rr, hrr⟩ ⟨⟨nv, hnv, hlc, bN⟩, hF2⟩ hBx bX hlt
              have hz := LZ2.out
              have hbw : Below wr.heap.size wr W := BL2.out.trans (hF2.below (B := wr.heap.size) (by omega) (fun k hk q => by have q2 : k = bn2 := q; omega))
              have S9 := Lib.hid (S8.out.step hbw)
              have hxl := x.isLt
              obtain ⟨ga, oa, hAe, _, u1, u2⟩ := bars_cells (Kd.C_below HR.out S9.out.p.b) OK.out x.val hxl
              obtain ⟨xv, yv, p1, _, _, p4, _⟩ := OK.out.get hxl
              have p5 : (l.map toCG).getD x.val ⟨0, 0⟩ = ⟨xv, yv⟩ := by rw [List.getD_eq_getElem?_getD, p4]; rfl
              rw [p5] at u1 u2
              simp only at u1 u2
              have x0 : W.cell? ⟨Bx, 0, none⟩ = some (.int .u64 (l[x.val]).f0) := bX.cell 0
              have x1 : W.cell? ⟨Bx, 1, none⟩ = some (.int .u64 (l[x.val]).f1) := bX.cell 1
              rw [p1] at x0 x1
              simp only at x0 x1
              have c2 : W.cell? ⟨w.heap.size, 2, none⟩ = some (.slice (some ⟨ga, oa, none⟩) n c) := by rw [← hAe]; exact S9.out.p.c.cell 2
              have cW : W.cell? ⟨bW, 0, none⟩ = some (.slice Aw M.length cw) := S9.out.o.cell 0
              have cV : W.cell? ⟨w.heap.size + 1, 0, none⟩ = some (.int .i64 lv) := S9.out.p.v.cell 0
              have cR : W.cell? ⟨w.heap.size + 1 + 1, 0, none⟩ = some (.bool false) := S9.out.p.r.cell 0
              have fR : ∀ j, W.frozen? ⟨w.heap.size + 1 + 1, j, none⟩ = false := S9.out.p.r.free
              have cA : W.cell? ⟨ba2, 0, none⟩ = some (.int .i64 1) := (World.cell?_of_block (hF2.block ba2 AB2.out.lt (fun q => by have q2 : ba2 = bn2 := q; omega))).trans AB2.out.cell
              have cN := bN.cell
              have fN := bN.frozen
              have hneq : ∀ W, (binOp .neq 53 (.agg #[.int .u64 (xv : Int), .int .u64 (yv : Int)]) (.agg #[.int .u64 (xv : Int), .int .u64 (yv : Int)])).run Try.prog W = .ok (.bool false) W := fun W => by
                have := (guest_eq_run (xv : Int) (yv : Int) (xv : Int) (yv : Int) W).2
                simpa using this
              have hAt : ∀ (hlt2 : nv < M.length), ∃ ad, Aw = some ad ∧ W.cell? (ad.add nv) = some (.int .i64 ((M[nv] : Nat) : Int)) := fun hlt2 => by
                obtain ⟨ad, e1, e2⟩ := Kd.at_int S9.out.k (nv : Int) (by omega) (by omega)
                rw [rd_cast M nv hlt2] at e2
                exact ⟨ad, e1, e2⟩
              have hpre : pre ++ [x] <+: ord → ∃ hlt2 : nv < M.length, M[nv] = x.val := fun hp => by
                obtain ⟨t, ht⟩ := hp
                have e1 := hlc.out ⟨[x] ++ t, by rw [← List.append_assoc]; exact ht⟩
                have e2 := HMO.out
                subst e2
                rw [e1]
                have e3 : ord[pre.length]? = some x := by rw [← ht, List.append_assoc, List.getElem?_append_right (Nat.le_refl _), Nat.sub_self]; rfl
                obtain ⟨h4, h5⟩ := List.getElem?_eq_some_iff.1 e3
                exact ⟨by rw [List.length_map]; exact h4, by rw [List.getElem_map, h5]⟩
              have HPRE := Lib.hid hpre
              have HLC := Lib.hid hlc.out
              have BN := Lib.hid bN
              have HF2' := Lib.hid hF2
              have hxn : x.val < n := by have := HN.out; omega
              have HZ := Lib.hid hz
              obtain ⟨X, hX⟩ : ∃ X : Int, X = (xv : Int) := ⟨_, rfl⟩
              obtain ⟨Y, hY⟩ : ∃ Y : Int, Y = (yv : Int) := ⟨_, rfl⟩
              obtain ⟨xi, hxi⟩ : ∃ xi : Nat, xi = x.val := ⟨_, rfl⟩
              rw [← hX, ← hY] at hneq
              rw [← hX] at u1 x0
              rw [← hY] at u2 x1
              have e6 : (l[x.val]).f0 = X := by rw [p1, hX]
              have e7 : (l[x.val]).f1 = Y := by rw [p1, hY]
              rw [← hxi] at u1 u2 hxn HPRE
              have hnm : nv ≤ 100 := by have := HMM.out; omega
              have hx100 : xi < 100 := by have := H100.out; omega
              unfold encA
              rw [e6, e7, ← hxi]
              have HXI := Lib.hid hxi
              clear hX hY hz hpre bN hF2 hlc p1 p4 p5 e6 e7 bX hrr hxl hlt hxi hBx
              subst hAe
              by_cases ha : nv < M.length
              · obtain ⟨ad, hAw, hcell⟩ := hAt ha
                subst hAw
                have g2 : decide ((M.length : Int) ≤ (nv : Int)) = false := decide_eq_false (by omega)
                have g4 : decide (M.length ≤ nv) = false := decide_eq_false (by omega)
                have hpr : pre ++ [x] <+: ord → M[nv] = xi := fun hp => (HPRE.out hp).2
                have HPR := Lib.hid hpr
                obtain ⟨m, hm⟩ : ∃ m, m = M[nv] := ⟨_, rfl⟩
                rw [← hm] at hcell HPR
                clear hm hAt hpr HPRE
                by_cases hb : xi = m
                · subst hb
                  obtain ⟨n1, hn1⟩ : ∃ n1, n1 = nv + 1 := ⟨_, rfl⟩
                  have e5 : IntKind.i64.wrap ((nv : Int) + 1) = (n1 : Int) := by rw [IntKind.wrap_i64]; omega
                  have hn1M : n1 ≤ M.length := by omega
                  obtain ⟨WX, hWX⟩ : ∃ WX, WX = (W.setCell ⟨bn2, 0, none⟩ (.int .i64 (n1 : Int))).drew := ⟨_, rfl⟩
                  have hz := HZ.out
                  have hfs := HF2'.out.size
                  have hn8 := N8.out
                  have FX := Lib.hid (show Fr (One bn2) W WX from by rw [hWX]; exact ((Fr.refl (One bn2) W).setCell (a := ⟨bn2, 0, none⟩) (.inl rfl) (.int .i64 (n1 : Int))).drew)
                  have BX := Lib.hid (show Boxed WX bn2 3 (.int .i64 (n1 : Int)) from by rw [hWX]; exact BN.out.set _)
                  have KX := Lib.hid (show KeepsFrom WL2.heap.size W WX from by rw [hWX]; exact ((KeepsOthers.setCell W ⟨bn2, 0, none⟩ (.int .i64 (n1 : Int))).trans (KeepsOthers.drew _)).from WL2.heap.size)
                  have YX := Lib.hid (show Below wr.heap.size W WX from FX.out.below (B := wr.heap.size) (by omega) (fun k hk q => by have q2 : k = bn2 := q; omega))
                  have hlen : pre ++ [x] <+: ord → n1 = (pre ++ [x]).length := fun hp => by
                    have h3 := HLC.out ((List.prefix_append pre [x]).trans hp)
                    rw [List.length_append, List.length_singleton, hn1, h3]
                  have IX := Lib.hid (show (∃ nv : Nat, nv ≤ M.length ∧ Hid (pre ++ [x] <+: ord → nv = (pre ++ [x]).length) ∧ Boxed WX bn2 3 (.int .i64 (nv : Int))) ∧ Fr (One bn2) WL2 WX from ⟨⟨n1, hn1M, Lib.hid hlen, BX.out⟩, HF2'.out.trans FX.out⟩)
                  have hne1 : bn2 ≠ w.heap.size + 1 := by omega
                  have hne2 : bn2 ≠ ba2 := by omega
                  have cV3 : (W.setCell ⟨bn2, 0, none⟩ (.int .i64 (n1 : Int))).drew.cell? ⟨w.heap.size + 1, 0, none⟩ = some (.int .i64 lv) := (World.cell?_setCell_far _ _ _ _ hne1).trans cV
                  have cA3 : (W.setCell ⟨bn2, 0, none⟩ (.int .i64 (n1 : Int))).drew.cell? ⟨ba2, 0, none⟩ = some (.int .i64 1) := (World.cell?_setCell_far _ _ _ _ hne2).trans cA
                  have cN3 : (W.setCell ⟨bn2, 0, none⟩ (.int .i64 (n1 : Int))).drew.cell? ⟨bn2, 0, none⟩ = some (.int .i64 (n1 : Int)) := by rw [← hWX]; exact BX.out.cell
                  have HWX := Lib.hid hWX
                  have CV := Lib.hid cV3
                  have CA := Lib.hid cA3
                  have CN := Lib.hid cN3
                  have cN2 : W.drew.cell? ⟨bn2, 0, none⟩ = some (.int .i64 (nv : Int)) := cN
                  have fN2 : W.drew.frozen? ⟨bn2, 0, none⟩ = false := fN
                  clear hn1 hn1M hz hfs hn8 hlen hne1 hne2 cV3 cA3 cN3 hWX cV cA
                  gi_wp2
                  refine wpIn_region_held_round (S := fun W' => W'.cell? ⟨bn2, 0, none⟩ = some (.int .i64 (nv : Int)) ∧ W'.cell? ⟨bW, 0, none⟩ = some (.slice (some ad) M.length cw) ∧ W'.cell? (ad.add nv) = some (.int .i64 (xi : Int)) ∧ W'.cell? ⟨Bx, 0, none⟩ = some (.int .u64 X) ∧ W'.cell? ⟨Bx, 1, none⟩ = some (.int .u64 Y) ∧ W'.cell? ⟨w.heap.size, 2, none⟩ = some (.slice (some ⟨ga, oa, none⟩) n c) ∧ W'.cell? ⟨ga, oa + xi * 2, none⟩ = some (.int .u64 X) ∧ W'.cell? ⟨ga, oa + xi * 2 + 1, none⟩ = some (.int .u64 Y)) (by kernel_rfl) (noDefer_spec (by kernel_rfl)) (fun h => by obtain ⟨_, _, h⟩ := h; exact h) ⟨cN, cW, hcell, x0, x1, c2, u1, u2⟩ (fun hHeld => ?_)
                  refine' tkG (i := 0) (v := _) (by rfl) (by kernel_rfl) (by kernel_rfl) (by kernel_rfl) (fun _ _ _ h => h) (by rfl) ?hy71 (by assumption) ?rest71
                  case hy71 => (intro wq hSq; (try dsimp only at hSq); go_simp; try with_reducible rfl)
                  simp only [Act.put, List.setIfInBounds_toArray, List.set_cons_zero, List.set_cons_succ]
                  refine' tkG (i := 1) (v := _) (by rfl) (by kernel_rfl) (by kernel_rfl) (by kernel_rfl) (fun _ _ _ h => h) (by rfl) ?hy72 (by assumption) ?rest72
                  case hy72 => (intro wq hSq; (try dsimp only at hSq); go_simp; try with_reducible rfl)
                  simp only [Act.put, List.setIfInBounds_toArray, List.set_cons_zero, List.set_cons_succ]
                  refine' tkG (i := 2) (v := _) (by rfl) (by kernel_rfl) (by kernel_rfl) (by kernel_rfl) (fun _ _ _ h => h) (by rfl) ?hy73 (by assumption) ?rest73
                  case hy73 => (intro wq hSq; (try dsimp only at hSq); go_simp; try with_reducible rfl)
                  simp only [Act.put, List.setIfInBounds_toArray, List.set_cons_zero, List.set_cons_succ]
                  refine' tkG (i := 3) (v := _) (by rfl) (by kernel_rfl) (by kernel_rfl) (by kernel_rfl) (fun _ _ _ h => h) (by rfl) ?hy74 (by assumption) ?rest74
                  case hy74 => (intro wq hSq; (try dsimp only at hSq); go_simp; try with_reducible rfl)
                  simp only [Act.put, List.setIfInBounds_toArray, List.set_cons_zero, List.set_cons_succ]
                  refine' tkG (i := 4) (v := _) (by rfl) (by kernel_rfl) (by kernel_rfl) (by kernel_rfl) (fun _ _ _ h => h) (by rfl) ?hy75 (by assumption) ?rest75
                  case hy75 => (intro wq hSq; (try dsimp only at hSq); go_simp; try with_reducible rfl)
                  simp only [Act.put, List.setIfInBounds_toArray, List.set_cons_zero, List.set_cons_succ]
                  refine' tkG (i := 5) (v := _) (by rfl) (by kernel_rfl) (by kernel_rfl) (by kernel_rfl) (fun _ _ _ h => h) (by rfl) ?hy76 (by assumption) ?rest76
                  case hy76 => (intro wq hSq; (try dsimp only at hSq); go_simp; try with_reducible rfl)
                  simp only [Act.put, List.setIfInBounds_toArray, List.set_cons_zero, List.set_cons_succ]
                  refine' tkG (i := 6) (v := _) (by rfl) (by kernel_rfl) (by kernel_rfl) (by kernel_rfl) (fun _ _ _ h => h) (by rfl) ?hy77 (by assumption) ?rest77
                  case hy77 => (intro wq hSq; (try dsimp only at hSq); go_simp; try with_reducible rfl)
                  simp only [Act.put, List.setIfInBounds_toArray, List.set_cons_zero, List.set_cons_succ]
                  refine' tkG (i := 7) (v := _) (by rfl) (by kernel_rfl) (by kernel_rfl) (by kernel_rfl) (fun _ _ _ h => h) (by rfl) ?hy78 (by assumption) ?rest78
                  case hy78 => (intro wq hSq; (try dsimp only at hSq); go_simp; try with_reducible rfl)
                  simp only [Act.put, List.setIfInBounds_toArray, List.set_cons_zero, List.set_cons_succ]
                  refine' tkG (i := 8) (v := _) (by rfl) (by kernel_rfl) (by kernel_rfl) (by kernel_rfl) (fun _ _ _ h => h) (by rfl) ?hy79 (by assumption) ?rest79
                  case hy79 => (intro wq hSq; (try dsimp only at hSq); go_simp; try with_reducible rfl)
                  simp only [Act.put, List.setIfInBounds_toArray, List.set_cons_zero, List.set_cons_succ]
                  refine' tkG (i := 9) (v := _) (by rfl) (by kernel_rfl) (by kernel_rfl) (by kernel_rfl) (fun _ _ _ h => h) (by rfl) ?hy80 (by assumption) ?rest80
                  case hy80 => (intro wq hSq; (try dsimp only at hSq); go_simp; try with_reducible rfl)
                  simp only [Act.put, List.setIfInBounds_toArray, List.set_cons_zero, List.set_cons_succ]
                  refine' tkG (i := 10) (v := _) (by rfl) (by kernel_rfl) (by kernel_rfl) (by kernel_rfl) (fun _ _ _ h => h) (by rfl) ?hy81 (by assumption) ?rest81
                  case hy81 => (intro wq hSq; (try dsimp only at hSq); go_simp; try with_reducible rfl)
                  simp only [Act.put, List.setIfInBounds_toArray, List.set_cons_zero, List.set_cons_succ]
                  refine' tkG (i := 11) (v := _) (by rfl) (by kernel_rfl) (by kernel_rfl) (by kernel_rfl) (fun _ _ _ h => h) (by rfl) ?hy82 (by assumption) ?rest82
                  case hy82 => (intro wq hSq; (try dsimp only at hSq); go_simp; try with_reducible rfl)
                  simp only [Act.put, List.setIfInBounds_toArray, List.set_cons_zero, List.set_cons_succ]
                  refine' tkG (i := 12) (v := _) (by rfl) (by kernel_rfl) (by kernel_rfl) (by kernel_rfl) (fun _ _ _ h => h) (by rfl) ?hy83 (by assumption) ?rest83
                  case hy83 => (intro wq hSq; (try dsimp only at hSq); go_simp; try with_reducible rfl)
                  simp only [Act.put, List.setIfInBounds_toArray, List.set_cons_zero, List.set_cons_succ]
                  refine' tkG (i := 13) (v := _) (by rfl) (by kernel_rfl) (by kernel_rfl) (by kernel_rfl) (fun _ _ _ h => h) (by rfl) ?hy84 (by assumption) ?rest84
                  case hy84 => (intro wq hSq; (try dsimp only at hSq); go_simp; try with_reducible rfl)
                  simp only [Act.put, List.setIfInBounds_toArray, List.set_cons_zero, List.set_cons_succ]
                  refine' tkG (i := 14) (v := _) (by rfl) (by kernel_rfl) (by kernel_rfl) (by kernel_rfl) (fun _ _ _ h => h) (by rfl) ?hy85 (by assumption) ?rest85
                  case hy85 => (intro wq hSq; (try dsimp only at hSq); go_simp; try with_reducible rfl)
                  simp only [Act.put, List.setIfInBounds_toArray, List.set_cons_zero, List.set_cons_succ]
                  refine' tkG (i := 15) (v := _) (by rfl) (by kernel_rfl) (by kernel_rfl) (by kernel_rfl) (fun _ _ _ h => h) (by rfl) ?hy86 (by assumption) ?rest86
                  case hy86 => (intro wq hSq; (try dsimp only at hSq); go_simp; try with_reducible rfl)
                  simp only [Act.put, List.setIfInBounds_toArray, List.set_cons_zero, List.set_cons_succ]
                  refine' tkG (i := 16) (v := _) (by rfl) (by kernel_rfl) (by kernel_rfl) (by kernel_rfl) (fun _ _ _ h => h) (by rfl) ?hy87 (by assumption) ?rest87
                  case hy87 => (intro wq hSq; (try dsimp only at hSq); go_simp; try with_reducible rfl)
                  simp only [Act.put, List.setIfInBounds_toArray, List.set_cons_zero, List.set_cons_succ]
                  refine' tkG (i := 17) (v := _) (by rfl) (by kernel_rfl) (by kernel_rfl) (by kernel_rfl) (fun _ _ _ h => h) (by rfl) ?hy88 (by assumption) ?rest88
                  case hy88 => (intro wq hSq; (try dsimp only at hSq); go_simp; try with_reducible rfl)
                  simp only [Act.put, List.setIfInBounds_toArray, List.set_cons_zero, List.set_cons_succ]
                  refine' tkG (i := 18) (v := _) (by rfl) (by kernel_rfl) (by kernel_rfl) (by kernel_rfl) (fun _ _ _ h => h) (by rfl) ?hy89 (by assumption) ?rest89
                  case hy89 => (intro wq hSq; (try dsimp only at hSq); go_simp; try with_reducible rfl)
                  simp only [Act.put, List.setIfInBounds_toArray, List.set_cons_zero, List.set_cons_succ]
                  refine' tkG (i := 19) (v := _) (by rfl) (by kernel_rfl) (by kernel_rfl) (by kernel_rfl) (fun _ _ _ h => h) (by rfl) ?hy90 (by assumption) ?rest90
                  case hy90 => (intro wq hSq; (try dsimp only at hSq); go_simp; try with_reducible rfl)
                  simp only [Act.put, List.setIfInBounds_toArray, List.set_cons_zero, List.set_cons_succ]
                  refine' tkG (i := 20) (v := _) (by rfl) (by kernel_rfl) (by kernel_rfl) (by kernel_rfl) (fun _ _ _ h => h) (by rfl) ?hy91 (by assumption) ?rest91
                  case hy91 => (intro wq hSq; (try dsimp only at hSq); go_simp; try with_reducible rfl)
                  simp only [Act.put, List.setIfInBounds_toArray, List.set_cons_zero, List.set_cons_succ]
                  refine wpAnyH_done (by kernel_rfl) ?_ _
                  clear hcell x0 x1 c2 u1 u2 cW cR fR hHeld hneq g2 g4
                  have cV3 := CV.out
                  have cA3 := CA.out
                  have cN3 := CN.out
                  by_cases he : (n1 : Int) = lv
                  · have g5 : ((n1 : Int) == lv) = true := by simpa using he
                    have HE := Lib.hid he
                    clear he
                    gi_wp2
                    rw [← HWX.out]
                    exact ⟨KX.out, YX.out, IX.out⟩
                  · have g5 : ((n1 : Int) == lv) = false := by simpa using he
                    clear he
                    gi_wp2
                    rw [← HWX.out]
                    exact ⟨KX.out, YX.out, IX.out⟩
                · have g3 : ((xi : Int) != (m : Int)) = true := by simp; omega
                  gi_wp2
                  refine wpIn_region_held_round (S := fun W' => W'.cell? ⟨bn2, 0, none⟩ = some (.int .i64 (nv : Int)) ∧ W'.cell? ⟨bW, 0, none⟩ = some (.slice (some ad) M.length cw) ∧ W'.cell? (ad.add nv) = some (.int .i64 (m : Int))) (by kernel_rfl) (noDefer_spec (by kernel_rfl)) (fun h => by obtain ⟨_, _, h⟩ := h; exact h) ⟨cN, cW, hcell⟩ (fun hHeld => ?_)
                  refine' tkG (i := 0) (v := _) (by rfl) (by kernel_rfl) (by kernel_rfl) (by kernel_rfl) (fun _ _ _ h => h) (by rfl) ?hy93 (by assumption) ?rest93
                  case hy93 => (intro wq hSq; (try dsimp only at hSq); go_simp; try with_reducible rfl)
                  simp only [Act.put, List.setIfInBounds_toArray, List.set_cons_zero, List.set_cons_succ]
                  refine' tkG (i := 1) (v := _) (by rfl) (by kernel_rfl) (by kernel_rfl) (by kernel_rfl) (fun _ _ _ h => h) (by rfl) ?hy94 (by assumption) ?rest94
                  case hy94 => (intro wq hSq; (try dsimp only at hSq); go_simp; try with_reducible rfl)
                  simp only [Act.put, List.setIfInBounds_toArray, List.set_cons_zero, List.set_cons_succ]
                  refine' tkG (i := 2) (v := _) (by rfl) (by kernel_rfl) (by kernel_rfl) (by kernel_rfl) (fun _ _ _ h => h) (by rfl) ?hy95 (by assumption) ?rest95
                  case hy95 => (intro wq hSq; (try dsimp only at hSq); go_simp; try with_reducible rfl)
                  simp only [Act.put, List.setIfInBounds_toArray, List.set_cons_zero, List.set_cons_succ]
                  refine' tkG (i := 3) (v := _) (by rfl) (by kernel_rfl) (by kernel_rfl) (by kernel_rfl) (fun _ _ _ h => h) (by rfl) ?hy96 (by assumption) ?rest96
                  case hy96 => (intro wq hSq; (try dsimp only at hSq); go_simp; try with_reducible rfl)
                  simp only [Act.put, List.setIfInBounds_toArray, List.set_cons_zero, List.set_cons_succ]
                  refine' tkG (i := 4) (v := _) (by rfl) (by kernel_rfl) (by kernel_rfl) (by kernel_rfl) (fun _ _ _ h => h) (by rfl) ?hy97 (by assumption) ?rest97
                  case hy97 => (intro wq hSq; (try dsimp only at hSq); go_simp; try with_reducible rfl)
                  simp only [Act.put, List.setIfInBounds_toArray, List.set_cons_zero, List.set_cons_succ]
                  refine' tkG (i := 5) (v := _) (by rfl) (by kernel_rfl) (by kernel_rfl) (by kernel_rfl) (fun _ _ _ h => h) (by rfl) ?hy98 (by assumption) ?rest98
                  case hy98 => (intro wq hSq; (try dsimp only at hSq); go_simp; try with_reducible rfl)
                  simp only [Act.put, List.setIfInBounds_toArray, List.set_cons_zero, List.set_cons_succ]
                  refine' tkG (i := 6) (v := _) (by rfl) (by kernel_rfl) (by kernel_rfl) (by kernel_rfl) (fun _ _ _ h => h) (by rfl) ?hy99 (by assumption) ?rest99
                  case hy99 => (intro wq hSq; (try dsimp only at hSq); go_simp; try with_reducible rfl)
                  simp only [Act.put, List.setIfInBounds_toArray, List.set_cons_zero, List.set_cons_succ]
                  refine' tkG (i := 7) (v := _) (by rfl) (by kernel_rfl) (by kernel_rfl) (by kernel_rfl) (fun _ _ _ h => h) (by rfl) ?hy100 (by assumption) ?rest100
                  case hy100 => (intro wq hSq; (try dsimp only at hSq); go_simp; try with_reducible rfl)
                  simp only [Act.put, List.setIfInBounds_toArray, List.set_cons_zero, List.set_cons_succ]
                  refine' tkG (i := 8) (v := _) (by rfl) (by kernel_rfl) (by kernel_rfl) (by kernel_rfl) (fun _ _ _ h => h) (by rfl) ?hy101 (by assumption) ?rest101
                  case hy101 => (intro wq hSq; (try dsimp only at hSq); go_simp; try with_reducible rfl)
                  simp only [Act.put, List.setIfInBounds_toArray, List.set_cons_zero, List.set_cons_succ]
                  refine' tkG (i := 9) (v := _) (by rfl) (by kernel_rfl) (by kernel_rfl) (by kernel_rfl) (fun _ _ _ h => h) (by rfl) ?hy102 (by assumption) ?rest102
                  case hy102 => (intro wq hSq; (try dsimp only at hSq); go_simp; try with_reducible rfl)
                  simp only [Act.put, List.setIfInBounds_toArray, List.set_cons_zero, List.set_cons_succ]
                  refine' tkG (i := 10) (v := _) (by rfl) (by kernel_rfl) (by kernel_rfl) (by kernel_rfl) (fun _ _ _ h => h) (by rfl) ?hy103 (by assumption) ?rest103
                  case hy103 => (intro wq hSq; (try dsimp only at hSq); go_simp; try with_reducible rfl)
                  simp only [Act.put, List.setIfInBounds_toArray, List.set_cons_zero, List.set_cons_succ]
                  refine' tkG (i := 11) (v := _) (by rfl) (by kernel_rfl) (by kernel_rfl) (by kernel_rfl) (fun _ _ _ h => h) (by rfl) ?hy104 (by assumption) ?rest104
                  case hy104 => (intro wq hSq; (try dsimp only at hSq); go_simp; try with_reducible rfl)
                  simp only [Act.put, List.setIfInBounds_toArray, List.set_cons_zero, List.set_cons_succ]
                  refine' tkG (i := 12) (v := _) (by rfl) (by kernel_rfl) (by kernel_rfl) (by kernel_rfl) (fun _ _ _ h => h) (by rfl) ?hy105 (by assumption) ?rest105
                  case hy105 => (intro wq hSq; (try dsimp only at hSq); go_simp; try with_reducible rfl)
                  simp only [Act.put, List.setIfInBounds_toArray, List.set_cons_zero, List.set_cons_succ]
                  refine' tkU (i := 13) (by rfl) (by kernel_rfl) (by kernel_rfl) (by kernel_rfl) (fun _ _ _ h => h) (by rfl) (by assumption) ?rest106
                  simp only [Act.put, List.setIfInBounds_toArray, List.set_cons_zero, List.set_cons_succ]
                  refine' tkU (i := 14) (by rfl) (by kernel_rfl) (by kernel_rfl) (by kernel_rfl) (fun _ _ _ h => h) (by rfl) (by assumption) ?rest107
                  simp only [Act.put, List.setIfInBounds_toArray, List.set_cons_zero, List.set_cons_succ]
                  refine' tkU (i := 15) (by rfl) (by kernel_rfl) (by kernel_rfl) (by kernel_rfl) (fun _ _ _ h => h) (by rfl) (by assumption) ?rest108
                  simp only [Act.put, List.setIfInBounds_toArray, List.set_cons_zero, List.set_cons_succ]
                  refine' tkU (i := 16) (by rfl) (by kernel_rfl) (by kernel_rfl) (by kernel_rfl) (fun _ _ _ h => h) (by rfl) (by assumption) ?rest109
                  simp only [Act.put, List.setIfInBounds_toArray, List.set_cons_zero, List.set_cons_succ]
                  refine' tkU (i := 17) (by rfl) (by kernel_rfl) (by kernel_rfl) (by kernel_rfl) (fun _ _ _ h => h) (by rfl) (by assumption) ?rest110
                  simp only [Act.put, List.setIfInBounds_toArray, List.set_cons_zero, List.set_cons_succ]
                  refine' tkU (i := 18) (by rfl) (by kernel_rfl) (by kernel_rfl) (by kernel_rfl) (fun _ _ _ h => h) (by rfl) (by assumption) ?rest111
                  simp only [Act.put, List.setIfInBounds_toArray, List.set_cons_zero, List.set_cons_succ]
                  refine' tkU (i := 19) (by rfl) (by kernel_rfl) (by kernel_rfl) (by kernel_rfl) (fun _ _ _ h => h) (by rfl) (by assumption) ?rest112
                  simp only [Act.put, List.setIfInBounds_toArray, List.set_cons_zero, List.set_cons_succ]
                  refine' tkG (i := 20) (v := _) (by rfl) (by kernel_rfl) (by kernel_rfl) (by kernel_rfl) (fun _ _ _ h => h) (by rfl) ?hy113 (by assumption) ?rest113
                  case hy113 => (intro wq hSq; (try dsimp only at hSq); go_simp; try with_reducible rfl)
                  simp only [Act.put, List.setIfInBounds_toArray, List.set_cons_zero, List.set_cons_succ]
                  refine wpAnyH_done (by kernel_rfl) ?_ _
                  gi_wp2
                  refine ⟨(KeepsOthers.drew _).trans (KeepsOthers.setCell _ _ _) |>.from _, .inl ⟨rfl, fun hp => hb (HPR.out hp).symm⟩⟩
              · have g2 : decide ((M.length : Int) ≤ (nv : Int)) = true := decide_eq_true (by omega)
                have g4 : decide (M.length ≤ nv) = true := decide_eq_true (by omega)
                clear hAt
                gi_wp2
                refine wpIn_region_held_round (S := fun W' => W'.cell? ⟨bn2, 0, none⟩ = some (.int .i64 (nv : Int)) ∧ W'.cell? ⟨bW, 0, none⟩ = some (.slice Aw M.length cw)) (by kernel_rfl) (noDefer_spec (by kernel_rfl)) (fun h => by obtain ⟨_, _, h⟩ := h; exact h) ⟨cN, cW⟩ (fun hHeld => ?_)
                refine' tkG (i := 0) (v := _) (by rfl) (by kernel_rfl) (by kernel_rfl) (by kernel_rfl) (fun _ _ _ h => h) (by rfl) ?hy115 (by assumption) ?rest115
                case hy115 => (intro wq hSq; (try dsimp only at hSq); go_simp; try with_reducible rfl)
                simp only [Act.put, List.setIfInBounds_toArray, List.set_cons_zero, List.set_cons_succ]
                refine' tkG (i := 1) (v := _) (by rfl) (by kernel_rfl) (by kernel_rfl) (by kernel_rfl) (fun _ _ _ h => h) (by rfl) ?hy116 (by assumption) ?rest116
                case hy116 => (intro wq hSq; (try dsimp only at hSq); go_simp; try with_reducible rfl)
                simp only [Act.put, List.setIfInBounds_toArray, List.set_cons_zero, List.set_cons_succ]
                refine' tkG (i := 2) (v := _) (by rfl) (by kernel_rfl) (by kernel_rfl) (by kernel_rfl) (fun _ _ _ h => h) (by rfl) ?hy117 (by assumption) ?rest117
                case hy117 => (intro wq hSq; (try dsimp only at hSq); go_simp; try with_reducible rfl)
                simp only [Act.put, List.setIfInBounds_toArray, List.set_cons_zero, List.set_cons_succ]
                refine' tkG (i := 3) (v := _) (by rfl) (by kernel_rfl) (by kernel_rfl) (by kernel_rfl) (fun _ _ _ h => h) (by rfl) ?hy118 (by assumption) ?rest118
                case hy118 => (intro wq hSq; (try dsimp only at hSq); go_simp; try with_reducible rfl)
                simp only [Act.put, List.setIfInBounds_toArray, List.set_cons_zero, List.set_cons_succ]
                refine' tkG (i := 4) (v := _) (by rfl) (by kernel_rfl) (by kernel_rfl) (by kernel_rfl) (fun _ _ _ h => h) (by rfl) ?hy119 (by assumption) ?rest119
                case hy119 => (intro wq hSq; (try dsimp only at hSq); go_simp; try with_reducible rfl)
                simp only [Act.put, List.setIfInBounds_toArray, List.set_cons_zero, List.set_cons_succ]
                refine' tkU (i := 5) (by rfl) (by kernel_rfl) (by kernel_rfl) (by kernel_rfl) (fun _ _ _ h => h) (by rfl) (by assumption) ?rest120
                simp only [Act.put, List.setIfInBounds_toArray, List.set_cons_zero, List.set_cons_succ]
                refine' tkU (i := 6) (by rfl) (by kernel_rfl) (by kernel_rfl) (by kernel_rfl) (fun _ _ _ h => h) (by rfl) (by assumption) ?rest121
                simp only [Act.put, List.setIfInBounds_toArray, List.set_cons_zero, List.set_cons_succ]
                refine' tkU (i := 7) (by rfl) (by kernel_rfl) (by kernel_rfl) (by kernel_rfl) (fun _ _ _ h => h) (by rfl) (by assumption) ?rest122
                simp only [Act.put, List.setIfInBounds_toArray, List.set_cons_zero, List.set_cons_succ]
                refine' tkU (i := 8) (by rfl) (by kernel_rfl) (by kernel_rfl) (by kernel_rfl) (fun _ _ _ h => h) (by rfl) (by assumption) ?rest123
                simp only [Act.put, List.setIfInBounds_toArray, List.set_cons_zero, List.set_cons_succ]
                refine' tkU (i := 9) (by rfl) (by kernel_rfl) (by kernel_rfl) (by kernel_rfl) (fun _ _ _ h => h) (by rfl) (by assumption) ?rest124
                simp only [Act.put, List.setIfInBounds_toArray, List.set_cons_zero, List.set_cons_succ]
                refine' tkU (i := 10) (by rfl) (by kernel_rfl) (by kernel_rfl) (by kernel_rfl) (fun _ _ _ h => h) (by rfl) (by assumption) ?rest125
                simp only [Act.put, List.setIfInBounds_toArray, List.set_cons_zero, List.set_cons_succ]
                refine' tkG (i := 11) (v := _) (by rfl) (by kernel_rfl) (by kernel_rfl) (by kernel_rfl) (fun _ _ _ h => h) (by rfl) ?hy126 (by assumption) ?rest126
                case hy126 => (intro wq hSq; (try dsimp only at hSq); go_simp; try with_reducible rfl)
                simp only [Act.put, List.setIfInBounds_toArray, List.set_cons_zero, List.set_cons_succ]
                refine' tkG (i := 12) (v := _) (by rfl) (by kernel_rfl) (by kernel_rfl) (by kernel_rfl) (fun _ _ _ h => h) (by rfl) ?hy127 (by assumption) ?rest127
                case hy127 => (intro wq hSq; (try dsimp only at hSq); go_simp; try with_reducible rfl)
                simp only [Act.put, List.setIfInBounds_toArray, List.set_cons_zero, List.set_cons_succ]
                refine' tkU (i := 13) (by rfl) (by kernel_rfl) (by kernel_rfl) (by kernel_rfl) (fun _ _ _ h => h) (by rfl) (by assumption) ?rest128
                simp only [Act.put, List.setIfInBounds_toArray, List.set_cons_zero, List.set_cons_succ]
                refine' tkU (i := 14) (by rfl) (by kernel_rfl) (by kernel_rfl) (by kernel_rfl) (fun _ _ _ h => h) (by rfl) (by assumption) ?rest129
                simp only [Act.put, List.setIfInBounds_toArray, List.set_cons_zero, List.set_cons_succ]
                refine' tkU (i := 15) (by rfl) (by kernel_rfl) (by kernel_rfl) (by kernel_rfl) (fun _ _ _ h => h) (by rfl) (by assumption) ?rest130
                simp only [Act.put, List.setIfInBounds_toArray, List.set_cons_zero, List.set_cons_succ]
                refine' tkU (i := 16) (by rfl) (by kernel_rfl) (by kernel_rfl) (by kernel_rfl) (fun _ _ _ h => h) (by rfl) (by assumption) ?rest131
                simp only [Act.put, List.setIfInBounds_toArray, List.set_cons_zero, List.set_cons_succ]
                refine' tkU (i := 17) (by rfl) (by kernel_rfl) (by kernel_rfl) (by kernel_rfl) (fun _ _ _ h => h) (by rfl) (by assumption) ?rest132
                simp only [Act.put, List.setIfInBounds_toArray, List.set_cons_zero, List.set_cons_succ]
                refine' tkU (i := 18) (by rfl) (by kernel_rfl) (by kernel_rfl) (by kernel_rfl) (fun _ _ _ h => h) (by rfl) (by assumption) ?rest133
                simp only [Act.put, List.setIfInBounds_toArray, List.set_cons_zero, List.set_cons_succ]
                refine' tkU (i := 19) (by rfl) (by kernel_rfl) (by kernel_rfl) (by kernel_rfl) (fun _ _ _ h => h) (by rfl) (by assumption) ?rest134
                simp only [Act.put, List.setIfInBounds_toArray, List.set_cons_zero, List.set_cons_succ]
                refine' tkG (i := 20) (v := _) (by rfl) (by kernel_rfl) (by kernel_rfl) (by kernel_rfl) (fun _ _ _ h => h) (by rfl) ?hy135 (by assumption) ?rest135
                case hy135 => (intro wq hSq; (try dsimp only at hSq); go_simp; try with_reducible rfl)
                simp only [Act.put, List.setIfInBounds_toArray, List.set_cons_zero, List.set_cons_succ]
                refine wpAnyH_done (by kernel_rfl) ?_ _
                gi_wp2
                refine ⟨(KeepsOthers.drew _).trans (KeepsOthers.setCell _ _ _) |>.from _, .inl ⟨rfl, fun hp => ha (HPRE.out hp).1⟩⟩
          case rest2 =>
            rintro D2 V2 ⟨hK, hD, hF2, nv, bN, hnv⟩
            have HKD2 := Lib.hid hK
            have HDZ2 := Lib.hid hD
            have hz := LZ2.out
            have BV2 := Lib.hid (show Below wr.heap.size wr V2 from BL2.out.trans (hF2.below (B := wr.heap.size) (by omega) (fun k hk q => by have q2 : k = bn2 := q; omega)))
            have SV2 := Lib.hid (S8.out.step BV2.out)
            have HFV2 := Lib.hid hF2
            have AV2 := Lib.hid (show Boxed V2 ba2 3 (.int .i64 1) from (hF2.block ba2 AB2.out.lt (fun q => by have q2 : ba2 = bn2 := q; omega)).trans AB2.out)
            have cN := bN.cell
            have cW : V2.cell? ⟨bW, 0, none⟩ = some (.slice Aw M.length cw) := SV2.out.o.cell 0
            have cV : V2.cell? ⟨w.heap.size + 1, 0, none⟩ = some (.int .i64 lv) := SV2.out.p.v.cell 0
            have cA := AV2.out.cell
            clear hK hD hF2 hz bN
            have q1 : nv = (M.length : Int) := by
              rcases hnv with h | ⟨_, h⟩
              · exact h
              · exact absurd h (by decide)
            subst q1
            have HD2 := Lib.hid (show D1 < D2 ∧ V2.heap[D1]? = some (.deferred (some [])) from by
              have h1 := HD1.out
              have h2 := LZ2.out
              have h3 := HDZ2.out
              refine ⟨by omega, ?_⟩
              have h4 : D1 < W2.heap.size := (Array.getElem?_eq_some_iff.1 h1.2).1
              have h5 : WL2.heap[D1]? = W2.heap[D1]? := HWL2.out ▸ Below.heap_alloc W2 _ D1 h4
              exact ((HFV2.out.block D1 (by omega) (fun q => by have q2 : D1 = bn2 := q; omega)).trans h5).trans h1.2)
            clear hnv
            go_wp2_with fail
            obtain ⟨V3, hV3⟩ : ∃ V3, V3 = V2.alloc (.cells #[.int .i64 2] 3) := ⟨_, rfl⟩
            have hz2 := (Array.getElem?_eq_some_iff.1 HKD2.out).1
            have S3 := Lib.hid (show PlW w V3 _ lv bW Aw M cw from by rw [hV3]; exact SV2.out.step ((Below.refl _ V2).alloc (Nat.le_refl _) _))
            have DD := Lib.hid (show D1 < D2 ∧ V3.heap[D1]? = some (.deferred (some [])) ∧ V3.heap[D2]? = some (.deferred (some [])) from by
              rw [hV3]
              exact ⟨HD2.out.1, (Below.heap_alloc V2 _ D1 (by have := HD2.out.1; omega)).trans HD2.out.2, (Below.heap_alloc V2 _ D2 hz2).trans HKD2.out⟩)
            have cB : V3.cell? ⟨V2.heap.size, 0, none⟩ = some (.int .i64 2) := by rw [hV3]; exact (Boxed.new V2 _ _).cell
            have NV := Lib.hid (show w.heap.size + 3 ≤ V2.heap.size from by have := BV2.out.size; have := N8.out; omega)
            rw [← hV3]
            clear hz2 hV3 cA cN cW cV
            rw [rounds_succ]
            go_upto_region 29 with fail
            have F3 := Lib.hid ((FnAt.mk S3.out DD.out.2.1 DD.out.2.2).step (((Fr.refl No V3).drew).below (B := V3.heap.size) (Nat.le_refl _) (fun _ _ h => h)))
            refine wp_region_held_drew (S := fun W' => W'.cell? ⟨w.heap.size, 0, none⟩ = some (.int .u64 R) ∧ W'.cell? ⟨w.heap.size, 1, none⟩ = some (.int .u64 S) ∧ W'.cell? ⟨w.heap.size, 2, none⟩ = some (.slice A n c)) (by kernel_rfl) ⟨F3.out.q.p.c.cell 0, F3.out.q.p.c.cell 1, F3.out.q.p.c.cell 2⟩ (fun hHeld => ?_)
            refine' tkG (i := 0) (v := _) (by rfl) (by kernel_rfl) (by kernel_rfl) (by kernel_rfl) (fun _ _ _ h => h) (by rfl) ?hy137 (by assumption) ?rest137
            case hy137 => (intro wq hSq; (try dsimp only at hSq); go_simp; try with_reducible rfl)
            simp only [Act.put, List.setIfInBounds_toArray, List.set_cons_zero, List.set_cons_succ]
            refine' tkG (i := 1) (v := _) (by rfl) (by kernel_rfl) (by kernel_rfl) (by kernel_rfl) (fun _ _ _ h => h) (by rfl) ?hy138 (by assumption) ?rest138
            case hy138 => (intro wq hSq; (try dsimp only at hSq); go_simp; try with_reducible rfl)
            simp only [Act.put, List.setIfInBounds_toArray, List.set_cons_zero, List.set_cons_succ]
            refine' tkG (i := 3) (v := _) (by rfl) (by kernel_rfl) (by kernel_rfl) (by kernel_rfl) (fun _ _ _ h => h) (by rfl) ?hy139 (by assumption) ?rest139
            case hy139 => (intro wq hSq; (try dsimp only at hSq); go_simp; try with_reducible rfl)
            simp only [Act.put, List.setIfInBounds_toArray, List.set_cons_zero, List.set_cons_succ]
            refine' tkG (i := 4) (v := _) (by rfl) (by kernel_rfl) (by kernel_rfl) (by kernel_rfl) (fun _ _ _ h => h) (by rfl) ?hy140 (by assumption) ?rest140
            case hy140 => (intro wq hSq; (try dsimp only at hSq); go_simp; try with_reducible rfl)
            simp only [Act.put, List.setIfInBounds_toArray, List.set_cons_zero, List.set_cons_succ]
            refine wpAnyH_ready (rs := [2]) (by kernel_rfl) (by simp) ?_
            refine AllReadyH.cons rfl (fun K hK => ?_) AllReadyH.nil
            go_simp
            rw [HN.out]
            refine (conf_Whose.calls R S A c l av wz _ (Kd.C_below HR.out F3.out.q.p.b) HC.out HW1.out).mono ?_
            rintro e1 w31 ⟨rfl, hb141⟩
            rw [← HN.out]
            have F4 := Lib.hid (F3.out.step hb141)
            skip
            clear hb141
            go_simp
            refine hK.out _ _ ⟨F4.out.q.p.c.cell 0, F4.out.q.p.c.cell 1, F4.out.q.p.c.cell 2⟩ (fun hHeld => ?_)
            clear hK K
            try simp only [List.setIfInBounds_toArray, List.set_cons_zero, List.set_cons_succ]
            refine wpAnyH_ready (rs := [5]) (by kernel_rfl) (by simp) ?_
            refine AllReadyH.cons rfl (fun K hK => ?_) AllReadyH.nil
            go_simp
            rw [HN.out]
            refine (mezzanineref25_Whose.calls k R S A c l av wz _ (Kd.C_below HR.out F4.out.q.p.b) HC.out HW2.out).mono ?_
            rintro e1 w32 ⟨rfl, hb142⟩
            rw [← HN.out]
            have F5 := Lib.hid (F4.out.step hb142)
            skip
            clear hb142
            go_simp
            refine hK.out _ _ ⟨F5.out.q.p.c.cell 0, F5.out.q.p.c.cell 1, F5.out.q.p.c.cell 2⟩ (fun hHeld => ?_)
            clear hK K
            try simp only [List.setIfInBounds_toArray, List.set_cons_zero, List.set_cons_succ]
            refine' tkG (i := 6) (v := _) (by rfl) (by kernel_rfl) (by kernel_rfl) (by kernel_rfl) (fun _ _ _ h => h) (by rfl) ?hy143 (by assumption) ?rest143
            case hy143 => (intro wq hSq; (try dsimp only at hSq); go_simp; try with_reducible rfl)
            simp only [Act.put, List.setIfInBounds_toArray, List.set_cons_zero, List.set_cons_succ]
            refine' tkG (i := 7) (v := _) (by rfl) (by kernel_rfl) (by kernel_rfl) (by kernel_rfl) (fun _ _ _ h => h) (by rfl) ?hy144 (by assumption) ?rest144
            case hy144 => (intro wq hSq; (try dsimp only at hSq); go_simp; try with_reducible rfl)
            simp only [Act.put, List.setIfInBounds_toArray, List.set_cons_zero, List.set_cons_succ]
            refine' tkG (i := 8) (v := _) (by rfl) (by kernel_rfl) (by kernel_rfl) (by kernel_rfl) (fun _ _ _ h => h) (by rfl) ?hy145 (by assumption) ?rest145
            case hy145 => (intro wq hSq; (try dsimp only at hSq); go_simp; try with_reducible rfl)
            simp only [Act.put, List.setIfInBounds_toArray, List.set_cons_zero, List.set_cons_succ]
            refine' tkG (i := 10) (v := _) (by rfl) (by kernel_rfl) (by kernel_rfl) (by kernel_rfl) (fun _ _ _ h => h) (by rfl) ?hy146 (by assumption) ?rest146
            case hy146 => (intro wq hSq; (try dsimp only at hSq); go_simp; try with_reducible rfl)
            simp only [Act.put, List.setIfInBounds_toArray, List.set_cons_zero, List.set_cons_succ]
            refine wpAnyH_ready (rs := [9]) (by kernel_rfl) (by simp) ?_
            refine AllReadyH.cons rfl (fun K hK => ?_) AllReadyH.nil
            go_simp
            rw [HN.out]
            refine (conf_Free.calls k R S A c l fr _ (Kd.C_below HR.out F5.out.q.p.b) HC.out HF1.out).mono ?_
            rintro e1 w33 ⟨rfl, hb147⟩
            rw [← HN.out]
            have F6 := Lib.hid (F5.out.step hb147)
            skip
            clear hb147
            go_simp
            refine hK.out _ _ ⟨F6.out.q.p.c.cell 0, F6.out.q.p.c.cell 1, F6.out.q.p.c.cell 2⟩ (fun hHeld => ?_)
            clear hK K
            try simp only [List.setIfInBounds_toArray, List.set_cons_zero, List.set_cons_succ]
            refine wpAnyH_ready (rs := [11]) (by kernel_rfl) (by simp) ?_
            refine AllReadyH.cons rfl (fun K hK => ?_) AllReadyH.nil
            go_simp
            rw [HN.out]
            refine (mezzanineref25_Free.calls k R S A c l fr _ (Kd.C_below HR.out F6.out.q.p.b) HC.out HF2.out).mono ?_
            rintro e1 w34 ⟨rfl, hb148⟩
            rw [← HN.out]
            have F7 := Lib.hid (F6.out.step hb148)
            skip
            clear hb148
            go_simp
            refine hK.out _ _ ⟨F7.out.q.p.c.cell 0, F7.out.q.p.c.cell 1, F7.out.q.p.c.cell 2⟩ (fun hHeld => ?_)
            clear hK K
            try simp only [List.setIfInBounds_toArray, List.set_cons_zero, List.set_cons_succ]
            refine' tkG (i := 12) (v := _) (by rfl) (by kernel_rfl) (by kernel_rfl) (by kernel_rfl) (fun _ _ _ h => h) (by rfl) ?hy149 (by assumption) ?rest149
            case hy149 => (intro wq hSq; (try dsimp only at hSq); go_simp; try with_reducible rfl)
            simp only [Act.put, List.setIfInBounds_toArray, List.set_cons_zero, List.set_cons_succ]
            refine' tkG (i := 13) (v := _) (by rfl) (by kernel_rfl) (by kernel_rfl) (by kernel_rfl) (fun _ _ _ h => h) (by rfl) ?hy150 (by assumption) ?rest150
            case hy150 => (intro wq hSq; (try dsimp only at hSq); go_simp; try with_reducible rfl)
            simp only [Act.put, List.setIfInBounds_toArray, List.set_cons_zero, List.set_cons_succ]
            refine wpAnyH_ready (rs := [14]) (by kernel_rfl) (by simp) ?_
            have cR : w34.cell? ⟨w.heap.size + 1 + 1, 0, none⟩ = some (.bool false) := F7.out.q.p.r.cell 0
            have fR : ∀ j, w34.frozen? ⟨w.heap.size + 1 + 1, j, none⟩ = false := F7.out.q.p.r.free
            refine AllReadyH.cons rfl (fun K hK => ?_) AllReadyH.nil
            go_simp
            obtain ⟨WE, hWE⟩ : ∃ WE, WE = w34.setCell ⟨w.heap.size + 1 + 1, 0, none⟩ (.bool true) := ⟨_, rfl⟩
            have hE := Lib.hid (show Fr (One (w.heap.size + 2)) w34 WE from by rw [hWE]; exact (Fr.refl (One (w.heap.size + 2)) w34).setCell (a := ⟨w.heap.size + 1 + 1, 0, none⟩) (.inl (show w.heap.size + 1 + 1 = w.heap.size + 2 from rfl)) _)
            have hRE := Lib.hid (show Boxed WE (w.heap.size + 1 + 1) 4 (.bool true) from by rw [hWE]; exact F7.out.q.p.r.put 0 (.bool true))
            have hBE := Lib.hid (show Below w.heap.size w WE from by rw [hWE]; exact F7.out.q.p.b.setCell (p := ⟨w.heap.size + 1 + 1, 0, none⟩) (by show w.heap.size ≤ w.heap.size + 1 + 1; omega) _)
            rw [← hWE]
            have hcE := F7.out.q.p.c.fr hE.out (fun q => by have q2 : w.heap.size = w.heap.size + 2 := q; omega)
            refine hK.out _ _ ⟨hcE.cell 0, hcE.cell 1, hcE.cell 2⟩ (fun hHeld => ?_)
            clear hK K hcE hHeld cR fR hWE
            try simp only [Act.put, List.setIfInBounds_toArray, List.set_cons_zero, List.set_cons_succ]
            refine wpAnyH_done (by kernel_rfl) ?_ _
            go_wp2_with fail
            have hlo : wr.heap.size ≤ D1 ∧ D1 < D2 := ⟨by have := HDZ1.out; have := BL1.out.size; omega, HD2.out.1⟩
            have hn8 := N8.out
            have k2 : WE.heap[D2]? = some (.deferred (some [])) := (hE.out.block D2 (Array.getElem?_eq_some_iff.1 F7.out.d2).1 (fun q => by have q2 : D2 = w.heap.size + 2 := q; omega)).trans F7.out.d2
            have k1 : WE.heap[D1]? = some (.deferred (some [])) := (hE.out.block D1 (Array.getElem?_eq_some_iff.1 F7.out.d1).1 (fun q => by have q2 : D1 = w.heap.size + 2 := q; omega)).trans F7.out.d1
            refine ⟨by simp, .inl ⟨_, _, rfl, run_takeDeferred k2, ?_⟩⟩
            have k1' : (WE.putObj D2 (.deferred none)).heap[D1]? = some (.deferred (some [])) := ((grownBy_putObj' WE D2 (.deferred none)).block D1 (Array.getElem?_eq_some_iff.1 k1).1 (fun e => by cases e; omega)).trans k1
            have c1 := cell_kept hRE.out.cell (grownBy_putObj' WE D2 (.deferred none)) (fun r e => by cases e; exact ⟨_, k2, rfl⟩)
            refine ⟨by simp, .inl ⟨_, _, rfl, run_takeDeferred k1', ?_⟩⟩
            have c2 := cell_kept c1 (grownBy_putObj' (WE.putObj D2 (.deferred none)) D1 (.deferred none)) (fun r e => by cases e; exact ⟨_, k1', rfl⟩)
            exact ⟨.bool true, places_res _ (w.heap.size + 1 + 1) true _ rfl c2, rfl, (hBE.out.trans (belowK_b (w := w) (Nat.le_refl _) _ D2 _ _ (by omega) k2 rfl rfl)).trans (belowK_b (w := w) (Nat.le_refl _) _ D1 _ _ (by omega) k1' rfl rfl)⟩
end
set_option maxRecDepth 100000 in
set_option maxHeartbeats 8000000 in
theorem ConfPlaces_early (k : Nat) (ram slice : Nat) (A : Option Addr) (c : Nat) (l : GL) (a : Nat) (lv : Int) (w : World) (hc : l.length ≤ c) (hawake : mezzaninelaw25_awake.f k = some true) (h100 : ¬ l.length ≤ 100) :
    Calls Try.prog 6 #[.agg #[.int .u64 ram, .int .u64 slice, .slice A l.length c], .int .u64 a, .int .i64 lv] w fun e w' => e = .returned (.bool true) ∧ Below w.heap.size w w' := by
  have HA := Lib.hid hawake
  obtain ⟨R, hR⟩ : ∃ R : Int, R = (ram : Int) := ⟨_, rfl⟩
  obtain ⟨S, hS⟩ : ∃ S : Int, S = (slice : Int) := ⟨_, rfl⟩
  obtain ⟨av, hav⟩ : ∃ av : Int, av = (a : Int) := ⟨_, rfl⟩
  rw [← hR, ← hS, ← hav]
  obtain ⟨n, hn⟩ : ∃ n, n = l.length := ⟨_, rfl⟩
  have H100 := Lib.hid h100
  rw [← hn] at H100 ⊢
  clear hc hawake hR hS hav h100 hn
  have hro : Fence.wide.round = none := rfl
  obtain ⟨wA, hwA⟩ : ∃ wA, wA = ((w.alloc (.cells #[.int .u64 R, .int .u64 S, .slice A n c] 25)).alloc (.cells #[.int .i64 lv] 3)).alloc (.cells #[.bool false] 4) := ⟨_, rfl⟩
  have hpA : PlA w wA #[.int .u64 R, .int .u64 S, .slice A n c] lv false := by
    rw [hwA]
    refine ⟨((Blk.new w _ _).alloc _).alloc _, ?_, ?_, (((Below.refl _ w).alloc (Nat.le_refl _) _).alloc (by simp) _).alloc (by simp; omega) _⟩
    · have := Blk.new (w.alloc (.cells #[.int .u64 R, .int .u64 S, .slice A n c] 25)) 3 #[.int .i64 lv]
      rw [World.size_alloc] at this
      exact this.alloc _
    · have := Blk.new ((w.alloc (.cells #[.int .u64 R, .int .u64 S, .slice A n c] 25)).alloc (.cells #[.int .i64 lv] 3)) 4 #[.bool false]
      rw [World.size_alloc, World.size_alloc] at this
      exact this
  have PA := Lib.hid hpA
  have WA := Lib.hid hwA
  clear hpA hwA
  refine (callsIn_wide (n := 6)).1 ?_
  refine callsIn_of_wp_marks Try.func6 rfl trivial ?_ hro
  simp only [Try.ntmps6, List.size_toArray, List.length_cons, List.length_nil, Nat.reduceAdd, Nat.reduceSub, Array.replicate_succ, Array.replicate_zero, List.push_toArray, List.append_toArray, List.nil_append, List.cons_append]
  refine wpIn_wide.2 ?_
  go_wp2_with fail
  rw [← WA.out]
  refine (mezzaninelaw25_awake.calls k true _ HA.out).mono ?_
  rintro e1 w2 ⟨rfl, hb2⟩
  have P2 := Lib.hid (PA.out.step hb2)
  have c2 : w2.cell? ⟨w.heap.size, 2, none⟩ = some (.slice A n c) := P2.out.c.cell 2
  have cR : w2.cell? ⟨w.heap.size + 1 + 1, 0, none⟩ = some (.bool false) := P2.out.r.cell 0
  have fR : ∀ j, w2.frozen? ⟨w.heap.size + 1 + 1, j, none⟩ = false := P2.out.r.free
  have g1 : decide (100 < (n : Int)) = true := decide_eq_true (by have := H100.out; omega)
  have g2 : 100 < n := by have := H100.out; omega
  clear hb2 PA WA
  go_wp2_with fail
  exact ⟨.bool true, places_res _ (w.heap.size + 1 + 1) true _ rfl ((show Blk w2 (w.heap.size + 1 + 1) 4 #[.bool false] from P2.out.r).put 0 (.bool true) |>.cell 0), rfl, P2.out.b.setCell (p := ⟨w.heap.size + 1 + 1, 0, none⟩) (by show w.heap.size ≤ w.heap.size + 1 + 1; omega) _⟩
/-! ### ConfPlaces: the walk and the plain law -/
theorem order_one {l : GL} (ok : okL l) {ram slice : Nat} (h : (csOf ram slice l).check.2 = 0) {M : List Nat} (hp : M.Perm (List.range l.length)) (hr : M.Pairwise fun a b => baseOf l a < baseOf l b) {ord : List (Fin l.length)} (ho : OrdOk true l ord) : ord.map (·.val) = M := by
  have h1 := rising_strict ok h ho.1 ho.2
  have hb : ∀ i : Fin l.length, baseOf l i.val = (l[i.val]).f0 := fun i => by
    obtain ⟨x, y, e1, e2, _⟩ := acc_at ok h i.isLt
    unfold baseOf
    rw [e2, e1]
  refine rising_one (baseOf l) _ _ ?_ ?_ hr
  · refine ((ho.1.map (·.val)).trans ?_).trans hp.symm
    have e : (List.finRange l.length).map (·.val) = List.range l.length := by
      apply List.ext_getElem (by simp)
      intro i h1 h2
      simp
    rw [e]
  · rw [List.pairwise_map]
    exact h1.imp (fun {i k} q => by rw [hb, hb]; exact q)
theorem ConfPlaces_c (ram slice : Nat) (A : Option Addr) (c : Nat) (l : GL) (a : Nat) (lv : Int) (w : World) (hr : Kd.C k53 w A l.length l) (hc : l.length ≤ c) (ok : okL l) (hram : ram < 18446744073709551616) (hslice : slice < 18446744073709551616) (ha : a < 18446744073709551616) :
    Calls Try.prog 6 #[.agg #[.int .u64 ram, .int .u64 slice, .slice A l.length c], .int .u64 a, .int .i64 lv] w fun e w' => e = .returned (.bool true) ∧ Below w.heap.size w w' := by
  obtain ⟨k1, h1⟩ := awake25_true
  by_cases h100 : l.length ≤ 100
  case neg => exact ConfPlaces_early k1 ram slice A c l a lv w hc (h1 k1 (Nat.le_refl _)) h100
  obtain ⟨M, ⟨k2, h2⟩, m1, m2⟩ := all_ref ok ram slice
  obtain ⟨k3, h3⟩ := accepted_conf ok ram slice hram
  obtain ⟨k4, h4⟩ := whose_ref ok ram slice a ha
  obtain ⟨k5, h5⟩ := free_f ok ram slice hram
  obtain ⟨k6, h6⟩ := free_ref ok ram slice
  obtain ⟨k, e1, e2, e3, e4, e5, e6⟩ : ∃ k, k1 ≤ k ∧ k2 ≤ k ∧ k3 ≤ k ∧ k4 ≤ k ∧ k5 ≤ k ∧ k6 ≤ k := ⟨k1 + k2 + k3 + k4 + k5 + k6, by omega, by omega, by omega, by omega, by omega, by omega⟩
  refine ConfPlaces_main k ram slice A c l a lv w hr hc ok h100 M _ _ _ (h1 k e1) (h2 k e2) (h3 k e3) ?_ ?_ ?_ (whose_f ok ram slice a hram hslice ha h100) (h4 k e4) (h5 k e5) (h6 k e6)
  · intro h
    obtain ⟨_, _, _, q8, q0, _⟩ := check_zero (of_decide_eq_true h)
    omega
  · by_cases h : (csOf ram slice l).check.2 = 0
    · rw [(m1 h).1.length_eq, List.length_range]
      exact h100
    · rw [m2 h]
      simp
  · intro ord ho
    by_cases h : (csOf ram slice l).check.2 = 0
    · rw [decide_eq_true h] at ho
      exact order_one ok h (m1 h).1 (m1 h).2 ho
    · rw [decide_eq_false h] at ho
      rw [m2 h, show ord = [] from ho]
      rfl
end Go.Proofs.Ytacgjgmladbgeaa.PConfPlaces

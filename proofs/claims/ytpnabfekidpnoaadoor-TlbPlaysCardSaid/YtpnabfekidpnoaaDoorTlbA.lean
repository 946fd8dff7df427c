/-
  Grow, Concat, Entries.
-/
import Derived.Test.YtpnabfekidpnoaaDoorTlb9
namespace Go.Proofs.YtpnabfekidpnoaaDoor
open Go Go.RowKit

/-- append of zero entries onto a nil row. -/
theorem run_grow (w : World) (ty : TypeId) (m : Nat) (h0 : 0 < m) (hm : m ≤ 1000000) :
    ∃ K cur, (Builtin.append_ #[22, 3] ty #[.slice none 0 0, .int .i64 (m : Int)]).run Tryd.prog w = .ok (.slice (some ⟨w.heap.size, 0, none⟩) m K) (w.drew.alloc (.cells cur 25)) ∧ m ≤ K ∧ K ≤ maxLen ∧ cur.size = K * 11 := by
  obtain ⟨i, hi, hz, hs, hb⟩ := infoE2
  have hbb : m * i.bytes ≤ 1000000 * 100 := Nat.mul_le_mul hm hb
  have hw : IntKind.i64.wrap (m : Int) = m := by rw [IntKind.wrap_i64]; omega
  have hneg : ¬ ((m : Int) < 0) := by omega
  have hbig : ¬ (281474976710656 < (m : Int) * (i.bytes : Int)) := by
    rw [← Int.natCast_mul]
    omega
  have hmz : ¬ (m * i.size = 0) := Nat.mul_ne_zero (by omega) (by omega)
  have hn : ¬ (m ≤ 0) := by omega
  have h63 : ¬ (9223372036854775807 < (m : Int)) := by omega
  have hfit : Builtin.nextslicecap m 0 * i.bytes ≤ 281474976710656 := growslice_fits (by omega) (by omega)
  have h48 : ¬ (281474976710656 < Builtin.nextslicecap m 0 * i.bytes) := by omega
  have hge := grownCap_ge w m 0 25
  have hcm : grownCap w m 0 25 ≤ maxLen := grownCap_le_maxLen w m 0 25 (by unfold maxLen; omega)
  have hzs : (Value.agg TE.none_.cells.toArray).cells.size = i.size := by rw [hs]; rfl
  refine ⟨grownCap w m 0 25, (Builtin.zeroCells (Value.agg TE.none_.cells.toArray).cells m ++ Builtin.zeroCells (Value.agg TE.none_.cells.toArray).cells (grownCap w m 0 25 - m)), ?_, hge, hcm, ?_⟩
  · simp [Builtin.append_, run_underlying Tryd.underlying22, run_underlying Tryd.underlying3, sizeOf, typeInfo, zeroValue, hi, hz, asInt, asIntOf, hw, hneg, hbig, h63, h48, Question.forced, Builtin.firstCells, newRow, grownCap, hmz]
    omega
  · rw [Array.size_append, size_zeroCells, size_zeroCells, hzs, hs, ← Nat.add_mul]
    congr 1
    omega
theorem wpList_grow {w : World} {ops : Array Oper} {rest : List Oper} {o : Oper} {a : Act} {Q : Exit → Act → World → Prop} (hgd : o.guard = none) (s x : Operand)
    (ho : o.op = .call { callee := .builtin .append, args := #[s, x], argTypes := #[22, 3] }) (m : Nat) (h0 : 0 < m) (hm : m ≤ 1000000) (hs : a.eval s = .slice none 0 0) (hx : a.eval x = .int .i64 (m : Int))
    (hk : ∀ K cur, m ≤ K → K ≤ maxLen → cur.size = K * 11 → wpList Tryd.prog ops Q rest (a.put o.dst (.slice (some ⟨w.heap.size, 0, none⟩) m K)) (w.drew.alloc (.cells cur 25))) : wpList Tryd.prog ops Q (o :: rest) a w :=
  wpList_plain hgd fun K hK => by
    obtain ⟨c, cur, hrun, h1, h2, h3⟩ := run_grow w o.type m h0 hm
    unfold Oper.wp execOp
    simp only [ho, resolve, invoke, builtin, Sem.run_bind, Sem.run_pure, Result.andThen_ok, List.map_toArray, List.map_cons, List.map_nil, hs, hx, hrun]
    exact hK _ _ (hk c cur h1 h2 h3)
set_option maxRecDepth 100000 in
set_option maxHeartbeats 1000000 in
theorem grow_c (w : World) (m : Nat) (hm : m ≤ 1000000) :
    Calls Tryd.prog 46 #[.slice none 0 0, .int .i64 (m : Int)] w fun e w' => ∃ v, e = .returned v ∧ Row w' v [] (fun k => w.heap.size ≤ k ∧ k < w'.heap.size) ∧ Fr No w w' := by
  by_cases h0 : m = 0
  · subst h0
    go_enter Tryd.func46, Tryd.ntmps46
    go_wp2_with fail
    go_ret
    exact ⟨_, rfl, Row.nil_ _ _, Fr.refl _ _⟩
  · have hp : 0 < m := by omega
    have d1 : decide ((m : Int) < 0) = false := by rw [decide_eq_false_iff_not]; omega
    have d2 : decide (0 < (m : Int)) = true := by rw [decide_eq_true_iff]; omega
    have d3 : decide (0 < m) = true := by rw [decide_eq_true_iff]; omega
    go_enter Tryd.func46, Tryd.ntmps46
    go_wp2_with (at_builtin; refine wpList_grow rfl _ _ rfl m hp hm rfl rfl ?_; intro K cur hK1 hK2 hK3)
    go_ret
    refine ⟨_, rfl, .inr ⟨w.heap.size, K, cur, rfl, ⟨Nat.le_refl _, by simp [World.drew]⟩, Blk.new w.drew _ _, Nat.zero_le _, hK2, hK3, fun j hj => by simp at hj⟩, ((Fr.refl No w).drew).alloc _⟩
theorem flat_succ (L : TS) (i : Nat) (hi : i < L.length) : (List.take (i + 1) L).flatten = (List.take i L).flatten ++ L[i] := by
  rw [← List.take_append_getElem hi, List.flatten_append]
  simp
theorem flat_len (L : TS) (h : ∀ l ∈ L, l.length ≤ 8) : ∀ i, (List.take i L).flatten.length ≤ i * 8
  | 0 => by simp
  | i + 1 => by
    have := flat_len L h i
    by_cases hi : i < L.length
    · have h2 := h _ (List.getElem_mem hi)
      rw [flat_succ L i hi, List.length_append]
      omega
    · rw [List.take_of_length_le (by omega)] at this ⊢
      omega
theorem TIn.fr {w w' : World} {b s c ways : Nat} {L : TS} {F S : Nat → Prop} (h : TIn w b s c ways L F) (hf : Fr S w w') (hd : ∀ k, F k → ¬ S k) : TIn w' b s c ways L F := by
  obtain ⟨vs, G, h1, h2, h3, h4, h5, h6, h7, h8, h9, h10, h11⟩ := h
  refine ⟨vs, G, h1.fr hf (hd _ h8), h2.fr hf (hd _ h9), h3, h4, h5, fun i hi => ?_, h7, h8, h9, h10, h11⟩
  obtain ⟨v, hv, hr⟩ := h6 i hi
  exact ⟨v, hv, hr.fr hf (fun k hk => hd _ (h10 i k hk).1)⟩
/-- A set's row, as it is read. -/
theorem TIn.read {w : World} {b s c ways : Nat} {L : TS} {F : Nat → Prop} (h : TIn w b s c ways L F) (i : Nat) (hi : i < L.length) :
    ∃ a cc, w.cell? ⟨s, i, none⟩ = some (.slice a L[i].length cc) ∧ Row w (.slice a L[i].length cc) L[i] F ∧ (0 < L[i].length → ∃ ad, a = some ad ∧ ∀ j u, (tcells L[i])[j]? = some u → w.cell? (ad.add j) = some u) := by
  obtain ⟨vs, G, h1, h2, h3, h4, h5, h6, h7, h8, h9, h10, h11⟩ := h
  obtain ⟨v, hv, hr⟩ := h6 i hi
  obtain ⟨a, cc, rfl, _, _⟩ := hr.len
  refine ⟨a, cc, (h2.cell i).trans hv, hr.mono (fun k hk => (h10 i k hk).1), fun hp => ?_⟩
  obtain ⟨g, c', cur, hv', _, hB, _, _, _, hcs⟩ := hr.at_ hp
  injection hv' with e1 _ _
  refine ⟨_, e1, fun j u hu => ?_⟩
  have hj : j < (tcells L[i]).length := (List.getElem?_eq_some_iff.1 hu).1
  rw [tcells_len] at hj
  rw [addr_add, hB.cell, Nat.zero_add, hcs j hj, hu]
set_option maxRecDepth 100000 in
set_option maxHeartbeats 2000000 in
theorem concat_c (w : World) (b s c ways : Nat) (L : TS) (F : Nat → Prop) (h : TIn w b s c ways L F) (h64 : L.length ≤ 64) (h8 : ∀ l ∈ L, l.length ≤ 8) :
    Calls Tryd.prog 29 #[.slice (some ⟨s, 0, none⟩) L.length c] w fun e w' => ∃ v, e = .returned v ∧ Row w' v L.flatten (fun k => w.heap.size ≤ k ∧ k < w'.heap.size) ∧ Fr No w w' := by
  have HI := Lib.hid h
  have H8 := Lib.hid h8
  obtain ⟨n, hn⟩ : ∃ n, n = L.length := ⟨_, rfl⟩
  rw [← hn] at h64 ⊢
  have HN := Lib.hid hn
  clear h h8 hn
  go_enter Tryd.func29, Tryd.ntmps29
  go_wp2_with fail
  go_loopw [3, 11] (fun pt pi wr => ∃ i t : Nat, i ≤ n ∧ t ≤ i * 8 ∧ pt = .int .i64 (t : Int) ∧ pi = .int .i64 (i : Int) ∧ wr = w) (fun _ pi _ => n - (intOf pi).toNat)
  case atStart => exact ⟨0, 0, Nat.zero_le _, Nat.le_refl _, rfl, rfl, rfl⟩
  case round =>
    obtain ⟨i, t, hi, ht, rfl, rfl, hwr⟩ := hrel
    by_cases hlt : i < n
    · have hiL : i < L.length := by have := HN.out; omega
      obtain ⟨a, cc, hc, _, _⟩ := HI.out.read i hiL
      have hl8 := H8.out _ (List.getElem_mem hiL)
      obtain ⟨m, hm⟩ : ∃ m, m = L[i].length := ⟨_, rfl⟩
      rw [← hm] at hc hl8
      rw [← hwr] at hc
      have HWR := Lib.hid hwr
      clear hm hwr
      have e1 : IntKind.i64.wrap ((i : Int) + 1) = ((i + 1 : Nat) : Int) := by rw [IntKind.wrap_i64]; omega
      have e2 : IntKind.i64.wrap ((t : Int) + (m : Int)) = ((t + m : Nat) : Int) := by rw [IntKind.wrap_i64]; omega
      have d1 : decide (((t + m : Nat) : Int) < 0) = false := by rw [decide_eq_false_iff_not]; omega
      have d2 : ¬ ((t : Int) + (m : Int) < 0) := by omega
      go_wp2_with fail
      exact ⟨⟨i + 1, t + m, by omega, by omega, by simp, by simp, HWR.out⟩, by simp [intOf]; omega⟩
    · obtain rfl : i = n := by omega
      have HWR := Lib.hid hwr
      clear hwr
      have hG := grow_c wr t (by omega)
      have HG := Lib.hid hG
      clear hG
      go_wp2_with (go_at_call 46; refine HG.out.mono ?_; rintro e w2 ⟨v2, rfl, hr2, hf2⟩)
      have hf02 : Fr No w w2 := by rw [← HWR.out]; exact hf2
      have hr02 : Row w2 v2 [] (fun k => w.heap.size ≤ k ∧ k < w2.heap.size) := by rw [← HWR.out]; exact hr2
      have HF02 := Lib.hid hf02
      have HR02 := Lib.hid hr02
      have hi0 : TIn w b s c ways L (fun k => F k ∧ k < w.heap.size) := by
        obtain ⟨vs, G, h1, h2, h3, h4, h5, h6, h7, h8, h9, h10, h11⟩ := HI.out
        refine ⟨vs, fun i k => G i k ∧ k < w.heap.size, h1, h2, h3, h4, h5, fun i hi => ?_, h7, ⟨h8, h1.lt⟩, ⟨h9, h2.lt⟩, fun i k hk => ⟨⟨(h10 i k hk.1).1, hk.2⟩, (h10 i k hk.1).2⟩, fun i j k h h' => h11 i j k h.1 h'.1⟩
        obtain ⟨v, hv, hr⟩ := h6 i hi
        exact ⟨v, hv, hr.cut⟩
      have HI0 := Lib.hid hi0
      clear hf02 hr02 hi0 hr2 hf2
      go_loopw [6, 27] (fun pv pi wx => ∃ j : Nat, j ≤ i ∧ pi = .int .i64 (j : Int) ∧ Hid (Row wx pv (List.take j L).flatten (fun k => w.heap.size ≤ k ∧ k < wx.heap.size)) ∧ Hid (Fr No w wx)) (fun _ pi _ => i - (intOf pi).toNat)
      case atStart => exact ⟨0, Nat.zero_le _, rfl, Lib.hid (by rw [List.take_zero]; exact HR02.out), HF02⟩
      case round =>
        obtain ⟨j, hj, rfl, HR, HF⟩ := hrel
        by_cases hlt2 : j < i
        · have hjL : j < L.length := by have := HN.out; omega
          obtain ⟨a, cc, hc, _, hrd⟩ := (HI0.out.fr HF.out (fun _ _ q => q)).read j hjL
          have hl8 := H8.out _ (List.getElem_mem hjL)
          have hfl := flat_len L H8.out j
          have hsucc := flat_succ L j hjL
          obtain ⟨l, hl⟩ : ∃ l, l = L[j] := ⟨_, rfl⟩
          rw [← hl] at hc hl8 hrd hsucc
          have HRD := Lib.hid hrd
          have HS := Lib.hid hsucc
          have HFL := Lib.hid hfl
          clear hl hrd hsucc hfl
          have e1 : IntKind.i64.wrap ((j : Int) + 1) = ((j + 1 : Nat) : Int) := by rw [IntKind.wrap_i64]; omega
          go_wp2_with (at_builtin; refine wpList_append_te rfl (.tmp 31) (.tmp 32) rfl l a cc rfl rfl HR.out HRD.out (by have := HFL.out; omega) ?_; intro v4 w4 hr4 hf4)
          refine ⟨⟨j + 1, by omega, by simp, Lib.hid ?_, Lib.hid ?_⟩, by simp [intOf]; omega⟩
          · rw [HS.out]
            refine hr4.cut.mono (fun k hk => ⟨?_, hk.2⟩)
            rcases hk.1 with h | h
            · exact h.1
            · have := HF.out.size
              omega
          · exact HF.out.andThen hf4 (fun k hk h => (show False by have := h.1; omega))
        · obtain rfl : j = i := by omega
          go_wp2_with fail
          go_ret
          have h := HR.out
          rw [HN.out, List.take_length] at h
          exact ⟨_, rfl, h, HF.out⟩
end Go.Proofs.YtpnabfekidpnoaaDoor

/-
  A page is laid with bytes; a twin that is half made.
-/
import Derived.Test.YtpnabfekidpnoaaRamL
import Derived.Test.YtpnabfekidpnoaaRamE
import Derived.Test.YtpnabfekidpnoaaBs
namespace Go.Proofs.Ytpnabfekidpnoaa
open Go Go.RowKit

/-- A page that is not there is laid, with the bytes f. -/
theorem RIn.lay {w : World} {b base size mb : Nat} {D : DataW Unit} {pg : Nat → Option Nat} {m : Nat → Nat} {n : Nat} {F : Nat → Prop} (h : RIn w b base size mb D pg m n F) (p : Nat) (hp : p < 18446744073709551616) (hn : n < maxLen) (hpn : pg p = none) {B : Nat} {cs : Array Value} {f : Nat → Nat}
    (hB : Blk w B 71 cs) (hcs : PgCells cs f) (hf : ∀ i, f i < 256) (hFB : F B) (hbB : B ≠ b) (hmB : B ≠ mb) (hnew : ∀ q, pg q ≠ some B) :
    ∃ w', (Instr.mapUpdate 61 (.map (some mb)) (.int .u64 (p : Int)) (.pointer (some ⟨B, 0, none⟩))).run Try.prog w = .ok () w' ∧ RIn w' b base size mb (D.put (.int .u64 (p : Int)) (.lit (pgLit (some B)))) (fun q => if q = p then some B else pg q) (fun x => if x / 4096 = p then f (x % 4096) else m x) (n + 1) F ∧ Fr (One mb) w w' := by
  obtain ⟨h1, h2, h3, h4, h5, h6, h7, h8, h9, h10⟩ := h
  obtain ⟨w', hrun, hown, hg⟩ := h2.update lawU Try.underlying61 hn (keyU p hp) (pgElem_mk (some B))
  have hfr : Fr (One mb) w w' := (Fr.refl (One mb) w).grown hg (fun k hk => by cases hk; exact .inl rfl)
  have hkl : WideAt.IsKeyLit (.int .u64 (p : Int)) := trivial
  refine ⟨w', hrun, ⟨h1.fr hfr (fun e => h8 e), hown, fun q => ?_, fun q B' hq => ?_, fun q q' B' hq hq' => ?_, fun q i hq hi => ?_, fun a => ?_, h8, h9, h10⟩, hfr⟩
  · by_cases hqp : q = p
    · subst hqp
      simp only [if_true]
      exact ⟨Maps.atKey_put_same h2.isMap hkl _ _, Maps.has_put_same h2.isMap hkl _⟩
    · have hne : (Lit.int .u64 (q : Int)) ≠ .int .u64 (p : Int) := fun e => by
        simp only [Lit.int.injEq, true_and] at e
        omega
      simp only [if_neg hqp]
      rw [Maps.atKey_put_other hne, Maps.has_put_other hne]
      exact h3 q
  · by_cases hqp : q = p
    · subst hqp
      simp only [if_true, Option.some.injEq] at hq
      subst hq
      refine ⟨⟨cs, hB.fr hfr hmB, hcs.1, fun i hi => ?_⟩, hFB, hbB, hmB⟩
      rw [hcs.2 i hi]
      dsimp only
      rw [if_pos (by omega), show (q * 4096 + i) % 4096 = i by omega]
    · simp only [if_neg hqp] at hq
      obtain ⟨⟨cs', c1, c2, c3⟩, d2, d3, d4⟩ := h4 q B' hq
      refine ⟨⟨cs', c1.fr hfr d4, c2, fun i hi => ?_⟩, d2, d3, d4⟩
      rw [c3 i hi]
      dsimp only
      rw [if_neg (by omega)]
  · by_cases hqp : q = p
    · by_cases hqp' : q' = p
      · rw [hqp, hqp']
      · simp only [if_pos hqp, Option.some.injEq] at hq
        simp only [if_neg hqp'] at hq'
        exact absurd (hq ▸ hq') (hnew q')
    · by_cases hqp' : q' = p
      · simp only [if_pos hqp', Option.some.injEq] at hq'
        simp only [if_neg hqp] at hq
        exact absurd (hq' ▸ hq) (hnew q)
      · simp only [if_neg hqp] at hq
        simp only [if_neg hqp'] at hq'
        exact h5 _ _ _ hq hq'
  · by_cases hqp : q = p
    · simp only [if_pos hqp] at hq
      cases hq
    · simp only [if_neg hqp] at hq
      dsimp only
      rw [if_neg (by omega)]
      exact h6 q i hq hi
  · dsimp only
    split
    · exact hf _
    · exact h7 a
/-- What of a memory is copied already. -/
def halfM (left : Lit → Bool) (m : Nat → Nat) : Nat → Nat := fun y => if left (.int .u64 ((y / 4096 : Nat) : Int)) = true then 0 else m y
theorem halfM_none {left : Lit → Bool} (m : Nat → Nat) (h : ∀ kl, left kl = false) : halfM left m = m := by
  funext y
  unfold halfM
  rw [h]
  rfl
theorem halfM_step (left : Lit → Bool) (m : Nat → Nat) (x : Nat) : (fun y => if y / 4096 = x then (fun i => m (x * 4096 + i)) (y % 4096) else halfM left m y) = halfM (fun z => left z && !z.sameKey (.int .u64 (x : Int))) m := by
  funext y
  unfold halfM
  simp only [sameKey_u]
  by_cases h : y / 4096 = x
  · simp only [h, if_true, decide_true, Bool.not_true, Bool.and_false, Bool.false_eq_true, if_false]
    congr 1
    omega
  · simp [h]
theorem PgCells.one {cs : Array Value} {f : Nat → Nat} (h : PgCells cs f) : cs.all (·.oneCell') = true := by
  have e : cs = cs.toList.toArray := by simp
  rw [e]
  refine all_oneCell_toArray fun v hv => ?_
  rw [h.list] at hv
  obtain ⟨i, _, rfl⟩ := List.mem_map.1 hv
  rfl
theorem run_makeMap_hint (w : World) (t k e : TypeId) (ht : Try.prog.underlying t = some (.map k e)) (n : Int) : (Instr.makeMap t (some (.int .i64 n))).run Try.prog w = .ok (.map (some w.heap.size)) (w.alloc (.map #[] 0)) := by
  unfold Instr.makeMap
  simp [run_underlying ht, Result.andThen]
  rfl
/-- A twin that is half made. -/
def TwinAt (W : World) (bt base size mbt : Nat) (left : Lit → Bool) (m : Nat → Nat) (c R0 r : Nat) : Prop :=
  ∃ Dt pgt, RIn W bt base size mbt Dt pgt (halfM left m) c (fun k => R0 ≤ k ∧ k ≠ r) ∧ ∀ p : Nat, left (.int .u64 (p : Int)) = true → pgt p = none
theorem TwinAt.fr {W W' : World} {bt base size mbt c R0 r : Nat} {left : Lit → Bool} {m : Nat → Nat} {S : Nat → Prop} (h : TwinAt W bt base size mbt left m c R0 r) (hf : Fr S W W') (hs : ∀ k, R0 ≤ k → k ≠ r → k < W.heap.size → ¬ S k) : TwinAt W' bt base size mbt left m c R0 r := by
  obtain ⟨Dt, pgt, h1, h2⟩ := h
  exact ⟨Dt, pgt, (h1.cut.fr hf (fun k q => hs k q.1.1 q.1.2 q.2)).mono (fun k q => q.1), h2⟩
/-- A page is copied. -/
theorem TwinAt.step {W : World} {bt base size mbt c R0 r : Nat} {left : Lit → Bool} {m : Nat → Nat} (h : TwinAt W bt base size mbt left m c R0 r) (hm : ∀ x, m x < 256) (x : Nat) (hx : x < 18446744073709551616) (hl : left (.int .u64 (x : Int)) = true) (hc : c < maxLen)
    (B : Nat) (hB0 : B = W.heap.size) (hr : r < W.heap.size) (hR : R0 ≤ W.heap.size) (cs old : Array Value) (hcs : PgCells cs (fun i => m (x * 4096 + i))) :
    ∃ w', (Instr.mapUpdate 61 (.map (some mbt)) (.int .u64 (x : Int)) (.pointer (some ⟨B, 0, none⟩))).run Try.prog ((W.alloc (.cells old 71)).setRow B cs) = .ok () w' ∧
      TwinAt w' bt base size mbt (fun z => left z && !z.sameKey (.int .u64 (x : Int))) m (c + 1) R0 r ∧ Fr (One mbt) W w' ∧ ((W.alloc (.cells old 71)).setRow B cs).cell? ⟨bt, 2, none⟩ = some (.map (some mbt)) := by
  subst hB0
  obtain ⟨Dt, pgt, h1, h2⟩ := h
  have hf : Fr No W ((W.alloc (.cells old 71)).setRow W.heap.size cs) := setRow_fr2 W _ cs
  have hb : Blk ((W.alloc (.cells old 71)).setRow W.heap.size cs) W.heap.size 71 cs := setRow_heap _ _ _ _ _ _ (heap_alloc_new W _)
  have h3 := h1.fr hf (fun _ _ q => q)
  have hbt := h1.1.lt
  have hmb := h1.2.1.lt
  obtain ⟨w', q1, q2, q3⟩ := h3.lay x hx hc (h2 x hl) hb hcs (fun i => hm _) ⟨hR, by omega⟩ (by omega) (by omega) (fun q hq => by
    have := ((h1.2.2.2.1 q _ hq).1).lt
    omega)
  rw [halfM_step] at q2
  refine ⟨w', q1, ⟨_, _, q2, fun p hp => ?_⟩, (hf.mono (fun _ _ q => q.elim)).trans q3, (h3.1).cell 2⟩
  dsimp only at hp ⊢
  rw [Bool.and_eq_true, sameKey_u] at hp
  by_cases e : p = x
  · rw [decide_eq_true e] at hp
    cases hp.2
  · rw [if_neg e]
    exact h2 p hp.1
end Go.Proofs.Ytpnabfekidpnoaa

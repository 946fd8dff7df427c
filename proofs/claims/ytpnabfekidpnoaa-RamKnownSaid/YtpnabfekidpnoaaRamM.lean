/-
  A memory, as it lies: its header, the map of its pages, each page's block of bytes.
-/
import Derived.Test.YtpnabfekidpnoaaBase
import Derived.Test.YtpnabfekidpnoaaSeg
import Derived.Test.YtpnabfekidpnoaaChecked
import Derived.WalkArith
import Derived.Maps.Own
import Derived.Maps.OwnOps
import Derived.Maps.OwnSet
import Derived.Maps.RangeWalk
import Derived.Maps.Ext
namespace Go.Proofs.Ytpnabfekidpnoaa
open Go Go.RowKit

/-- A page's pointer; what it reads as: its block's number and one, or nought. -/
def pgVal : Option Nat → Value
  | none => .pointer none
  | some B => .pointer (some ⟨B, 0, none⟩)
def pgLit : Option Nat → Lit
  | none => .int .u64 0
  | some B => .int .u64 ((B : Int) + 1)
def pgElem : Value → Option (DataW Unit × List MemPlace)
  | .pointer none => some (.lit (pgLit none), [])
  | .pointer (some ⟨B, 0, none⟩) => some (.lit (pgLit (some B)), [])
  | _ => none
theorem pgElem_mk (o : Option Nat) : pgElem (pgVal o) = some (.lit (pgLit o), []) := by cases o <;> rfl
theorem pgElem_inv {v : Value} {z : DataW Unit × List MemPlace} (h : pgElem v = some z) : ∃ o, v = pgVal o ∧ z = (.lit (pgLit o), []) := by
  unfold pgElem at h
  split at h
  · cases h; exact ⟨none, rfl, rfl⟩
  · rename_i B
    cases h; exact ⟨some B, rfl, rfl⟩
  · cases h
theorem pgLit_inj {o o' : Option Nat} (h : pgLit o = pgLit o') : o = o' := by
  cases o with
  | none =>
    cases o' with
    | none => rfl
    | some B =>
      simp only [pgLit, Lit.int.injEq, true_and] at h
      omega
  | some B =>
    cases o' with
    | none =>
      simp only [pgLit, Lit.int.injEq, true_and] at h
      omega
    | some B' =>
      simp only [pgLit, Lit.int.injEq, true_and] at h
      congr 1
      omega
theorem lawU : Maps.Keyed Try.prog 22 := Maps.int_keyed Try.underlying22
theorem keyU (p : Nat) (h : p < 18446744073709551616) : keyOf Try.prog 22 (.int .u64 (p : Int)) = some (.int .u64 (p : Int)) := Maps.keyOf_int_mk Try.underlying22 (WalkArith.wf_u64 (by omega))
def upd (m : Nat → Nat) (a v : Nat) : Nat → Nat := fun x => if x = a then v else m x
/-- A page's block holds its bytes. -/
def PgBlk (w : World) (B p : Nat) (m : Nat → Nat) : Prop := ∃ cs : Array Value, Blk w B 71 cs ∧ cs.size = 4096 ∧ ∀ i, i < 4096 → cs[i]? = some (.int .u8 ((m (p * 4096 + i) : Nat) : Int))
/-- A memory: header b, map of at most n pages; its bytes are m, and all lies in blocks of F. -/
def RIn (w : World) (b base size mb : Nat) (D : DataW Unit) (pg : Nat → Option Nat) (m : Nat → Nat) (n : Nat) (F : Nat → Prop) : Prop :=
  Blk w b 63 #[.int .u64 (base : Int), .int .u64 (size : Int), .map (some mb)] ∧ w.ownsMap Try.prog 22 pgElem mb n D ∧
  (∀ p : Nat, D.atKey (.int .u64 (p : Int)) (.lit (pgLit none)) = .lit (pgLit (pg p)) ∧ Maps.has D (.int .u64 (p : Int)) = (pg p).isSome) ∧
  (∀ p B, pg p = some B → PgBlk w B p m ∧ F B ∧ B ≠ b ∧ B ≠ mb) ∧ (∀ p p' B, pg p = some B → pg p' = some B → p = p') ∧
  (∀ p i, pg p = none → i < 4096 → m (p * 4096 + i) = 0) ∧ (∀ a, m a < 256) ∧ b ≠ mb ∧ F b ∧ F mb
def RAt (w : World) (b base size : Nat) (m : Nat → Nat) (n : Nat) (F : Nat → Prop) : Prop := ∃ mb D pg, RIn w b base size mb D pg m n F
theorem ownsMap_fr {w w' : World} {S : Nat → Prop} {mb n : Nat} {D : DataW Unit} (h : w.ownsMap Try.prog 22 pgElem mb n D) (hf : Fr S w w') (hm : ¬ S mb) : w'.ownsMap Try.prog 22 pgElem mb n D := by
  have hlt := h.lt
  obtain ⟨es, clock, hb, hr⟩ := h
  exact ⟨es, clock, (hf.block mb hlt hm).trans hb, hr⟩
theorem PgBlk.fr {w w' : World} {S : Nat → Prop} {B p : Nat} {m : Nat → Nat} (h : PgBlk w B p m) (hf : Fr S w w') (hB : ¬ S B) : PgBlk w' B p m := by
  obtain ⟨cs, h1, h2⟩ := h
  exact ⟨cs, h1.fr hf hB, h2⟩
theorem PgBlk.lt {w : World} {B p : Nat} {m : Nat → Nat} (h : PgBlk w B p m) : B < w.heap.size := by obtain ⟨cs, h1, _⟩ := h; exact h1.lt
namespace RIn
variable {w w' : World} {b base size mb : Nat} {D : DataW Unit} {pg : Nat → Option Nat} {m : Nat → Nat} {n : Nat} {F S : Nat → Prop}
theorem fr (h : RIn w b base size mb D pg m n F) (hf : Fr S w w') (hd : ∀ k, F k → ¬ S k) : RIn w' b base size mb D pg m n F := by
  obtain ⟨h1, h2, h3, h4, h5, h6, h7, h8, h9, h10⟩ := h
  exact ⟨h1.fr hf (hd _ h9), ownsMap_fr h2 hf (hd _ h10), h3, fun p B hp => ⟨(h4 p B hp).1.fr hf (hd _ (h4 p B hp).2.1), (h4 p B hp).2⟩, h5, h6, h7, h8, h9, h10⟩
theorem mono {F' : Nat → Prop} (h : RIn w b base size mb D pg m n F) (hF : ∀ k, F k → F' k) : RIn w b base size mb D pg m n F' := by
  obtain ⟨h1, h2, h3, h4, h5, h6, h7, h8, h9, h10⟩ := h
  exact ⟨h1, h2, h3, fun p B hp => ⟨(h4 p B hp).1, hF _ (h4 p B hp).2.1, (h4 p B hp).2.2⟩, h5, h6, h7, h8, hF _ h9, hF _ h10⟩
theorem cut (h : RIn w b base size mb D pg m n F) : RIn w b base size mb D pg m n (fun k => F k ∧ k < w.heap.size) := by
  obtain ⟨h1, h2, h3, h4, h5, h6, h7, h8, h9, h10⟩ := h
  exact ⟨h1, h2, h3, fun p B hp => ⟨(h4 p B hp).1, ⟨(h4 p B hp).2.1, (h4 p B hp).1.lt⟩, (h4 p B hp).2.2⟩, h5, h6, h7, h8, ⟨h9, h1.lt⟩, ⟨h10, h2.lt⟩⟩
theorem more {n' : Nat} (h : RIn w b base size mb D pg m n F) (hn : n ≤ n') : RIn w b base size mb D pg m n' F := by
  obtain ⟨h1, h2, h3⟩ := h
  exact ⟨h1, h2.mono hn, h3⟩
theorem zeroP : ∀ w : World, (zeroValue 67).run Try.prog w = .ok (.pointer none) w := by
  intro w
  have h : (Try.prog.info? 67).map (·.zero) = some (some (.pointer none)) := by kernel_rfl
  obtain ⟨i, hi, hz⟩ := Option.map_eq_some_iff.1 h
  simp [zeroValue, typeInfo, hi, hz]
/-- What is found at a page's number. -/
theorem look (h : RIn w b base size mb D pg m n F) (p : Nat) (hp : p < 18446744073709551616) : (Instr.lookup 61 (.map (some mb)) (.int .u64 (p : Int)) false).run Try.prog w = .ok (pgVal (pg p)) w := by
  obtain ⟨h1, h2, h3, h4⟩ := h
  obtain ⟨v, ps, hrun, hv⟩ := h2.lookup lawU Try.underlying61 (zeroP w) (pgElem_mk none) (keyU p hp)
  rw [(h3 p).1] at hv
  obtain ⟨o, rfl, ho⟩ := pgElem_inv hv
  injection ho with h5 _
  injection h5 with h5
  rw [hrun, pgLit_inj h5]
/-- A byte of a page that is there is written. -/
theorem put (h : RIn w b base size mb D pg m n F) (a v : Nat) (hv : v < 256) {B : Nat} (hp : pg (a / 4096) = some B) : RIn (w.setCell ⟨B, a % 4096, none⟩ (.int .u8 (v : Int))) b base size mb D pg (upd m a v) n F ∧ Fr F w (w.setCell ⟨B, a % 4096, none⟩ (.int .u8 (v : Int))) := by
  obtain ⟨h1, h2, h3, h4, h5, h6, h7, h8, h9, h10⟩ := h
  obtain ⟨q1, q2, q3, q4⟩ := h4 _ _ hp
  have hf : Fr (One B) w (w.setCell ⟨B, a % 4096, none⟩ (.int .u8 (v : Int))) := Fr.put w B _ _
  refine ⟨⟨h1.fr hf (fun e => q3 e.symm), ownsMap_fr h2 hf (fun e => q4 e.symm), h3, fun p B' hp' => ⟨?_, (h4 p B' hp').2⟩, h5, fun p i hpn hi => ?_, fun x => ?_, h8, h9, h10⟩, hf.mono (fun k _ hk => by have e : k = B := hk; rw [e]; exact q2)⟩
  · by_cases hb : B' = B
    · subst hb
      have hpp := h5 _ _ _ hp' hp
      subst hpp
      obtain ⟨cs, c1, c2, c3⟩ := q1
      refine ⟨_, c1.put _ _, by rw [Array.size_setIfInBounds]; exact c2, fun i hi => ?_⟩
      rw [Array.getElem?_setIfInBounds]
      by_cases hia : a % 4096 = i
      · rw [if_pos hia, if_pos (by omega)]
        unfold upd
        rw [if_pos (by omega)]
      · rw [if_neg hia, c3 i hi]
        unfold upd
        rw [if_neg (by omega)]
    · obtain ⟨cs, c1, c2, c3⟩ := (h4 p B' hp').1
      refine ⟨cs, c1.fr hf hb, c2, fun i hi => ?_⟩
      rw [c3 i hi]
      unfold upd
      have hne : p * 4096 + i ≠ a := fun e => by
        have hpa : a / 4096 = p := by omega
        rw [hpa] at hp
        exact hb (Option.some.inj (hp'.symm.trans hp))
      rw [if_neg hne]
  · unfold upd
    have hne : p * 4096 + i ≠ a := fun e => by
      have hpa : a / 4096 = p := by omega
      rw [hpa, hpn] at hp
      cases hp
    rw [if_neg hne]
    exact h6 p i hpn hi
  · unfold upd
    split
    · exact hv
    · exact h7 x
/-- A page that is not there is laid, all noughts. -/
theorem page (h : RIn w b base size mb D pg m n F) (p : Nat) (hp : p < 18446744073709551616) (hn : n < maxLen) (hpn : pg p = none) {B : Nat} {cs : Array Value} (hB : Blk w B 71 cs) (hcs : cs.size = 4096) (hz : ∀ i, i < 4096 → cs[i]? = some (.int .u8 0)) (hFB : F B) (hbB : B ≠ b) (hmB : B ≠ mb) (hnew : ∀ q, pg q ≠ some B) :
    ∃ w', (Instr.mapUpdate 61 (.map (some mb)) (.int .u64 (p : Int)) (.pointer (some ⟨B, 0, none⟩))).run Try.prog w = .ok () w' ∧ RIn w' b base size mb (D.put (.int .u64 (p : Int)) (.lit (pgLit (some B)))) (fun q => if q = p then some B else pg q) m (n + 1) F ∧ Fr (One mb) w w' := by
  obtain ⟨h1, h2, h3, h4, h5, h6, h7, h8, h9, h10⟩ := h
  obtain ⟨w', hrun, hown, hg⟩ := h2.update lawU Try.underlying61 hn (keyU p hp) (pgElem_mk (some B))
  have hf : Fr (One mb) w w' := (Fr.refl (One mb) w).grown hg (fun k hk => by cases hk; exact .inl rfl)
  have hkl : WideAt.IsKeyLit (.int .u64 (p : Int)) := trivial
  refine ⟨w', hrun, ⟨h1.fr hf (fun e => h8 e), hown, fun q => ?_, fun q B' hq => ?_, fun q q' B' hq hq' => ?_, fun q i hq hi => ?_, h7, h8, h9, h10⟩, hf⟩
  · by_cases hqp : q = p
    · subst hqp
      simp only [if_true]
      exact ⟨Maps.atKey_put_same h2.isMap hkl _ _, Maps.has_put_same h2.isMap hkl _⟩
    · have hne : (Lit.int .u64 (q : Int)) ≠ .int .u64 (p : Int) := fun e => by
        simp only [Lit.int.injEq, true_and] at e
        omega
      simp only [if_neg hqp]
      rw [Maps.atKey_put_other hne, Maps.has_put_other hne]
      exact h3 q
  · by_cases hqp : q = p
    · subst hqp
      simp only [if_true, Option.some.injEq] at hq
      subst hq
      refine ⟨⟨cs, hB.fr hf hmB, hcs, fun i hi => ?_⟩, hFB, hbB, hmB⟩
      rw [hz i hi, h6 _ i hpn hi]
      rfl
    · simp only [if_neg hqp] at hq
      obtain ⟨c1, c2, c3, c4⟩ := h4 q B' hq
      exact ⟨c1.fr hf c4, c2, c3, c4⟩
  · by_cases hqp : q = p
    · by_cases hqp' : q' = p
      · rw [hqp, hqp']
      · simp only [if_pos hqp, Option.some.injEq] at hq
        simp only [if_neg hqp'] at hq'
        exact absurd (hq ▸ hq') (hnew q')
    · by_cases hqp' : q' = p
      · simp only [if_pos hqp', Option.some.injEq] at hq'
        simp only [if_neg hqp] at hq
        exact absurd (hq' ▸ hq) (hnew q)
      · simp only [if_neg hqp] at hq
        simp only [if_neg hqp'] at hq'
        exact h5 _ _ _ hq hq'
  · by_cases hqp : q = p
    · simp only [if_pos hqp] at hq
      cases hq
    · simp only [if_neg hqp] at hq
      exact h6 q i hq hi
end RIn
end Go.Proofs.Ytpnabfekidpnoaa

/-
  Same of two memories.
-/
import Derived.Test.YtpnabfekidpnoaaRamT2
namespace Go.Proofs.Ytpnabfekidpnoaa
open Go Go.RowKit

theorem sorted_unique : ∀ {l l' : List Nat}, l.Pairwise (· < ·) → l'.Pairwise (· < ·) → (∀ x, x ∈ l ↔ x ∈ l') → l = l'
  | [], [], _, _, _ => rfl
  | [], y :: l', _, _, h => by have := (h y).2 (List.mem_cons_self ..); cases this
  | x :: l, [], _, _, h => by have := (h x).1 (List.mem_cons_self ..); cases this
  | x :: l, y :: l', h1, h2, h => by
    have hx := List.pairwise_cons.1 h1
    have hy := List.pairwise_cons.1 h2
    have e : x = y := by
      have a := (h x).1 (List.mem_cons_self ..)
      have b := (h y).2 (List.mem_cons_self ..)
      rcases List.mem_cons.1 a with a | a
      · exact a
      · rcases List.mem_cons.1 b with b | b
        · exact b.symm
        · have h3 := hy.1 x a
          have h4 := hx.1 y b
          omega
    subst e
    congr 1
    refine sorted_unique hx.2 hy.2 (fun z => ⟨fun hz => ?_, fun hz => ?_⟩)
    · rcases List.mem_cons.1 ((h z).1 (List.mem_cons_of_mem _ hz)) with q | q
      · have := hx.1 z hz; omega
      · exact q
    · rcases List.mem_cons.1 ((h z).2 (List.mem_cons_of_mem _ hz)) with q | q
      · have := hy.1 z hz; omega
      · exact q
theorem PagesOf.unique {m : Nat → Nat} {l l' : List Nat} (h : PagesOf m l) (h' : PagesOf m l') : l = l' :=
  sorted_unique h.1 h'.1 (fun x => (h.2 x).trans (h'.2 x).symm)
/-- Equal pages make equal memories. -/
theorem pages_same {m m' : Nat → Nat} {l : List Nat} (h : PagesOf m l) (h' : PagesOf m' l) (hs : ∀ i (hi : i < l.length), samePg (fun j => m (l[i] / 4096 * 4096 + j)) (fun j => m' (l[i] / 4096 * 4096 + j)) = true) : m = m' := by
  funext a
  by_cases hm : (a / 4096 * 4096) ∈ l
  · obtain ⟨i, hi, e⟩ := List.getElem_of_mem hm
    have := samePg_iff.1 (hs i hi) (a % 4096) (by omega)
    rw [e] at this
    rw [show a / 4096 * 4096 / 4096 * 4096 + a % 4096 = a by omega] at this
    exact this
  · have h1 : ¬ NZ m (a / 4096) := fun hn => hm ((h.2 _).2 ⟨_, rfl, hn⟩)
    have h2 : ¬ NZ m' (a / 4096) := fun hn => hm ((h'.2 _).2 ⟨_, rfl, hn⟩)
    have e : a / 4096 * 4096 + a % 4096 = a := by omega
    have z1 : m a = 0 := Classical.byContradiction fun hn => h1 ⟨a % 4096, by omega, by rw [e]; exact hn⟩
    have z2 : m' a = 0 := Classical.byContradiction fun hn => h2 ⟨a % 4096, by omega, by rw [e]; exact hn⟩
    rw [z1, z2]
/-- A page that is not all noughts is there. -/
theorem RIn.there {w : World} {b base size mb : Nat} {D : DataW Unit} {pg : Nat → Option Nat} {m : Nat → Nat} {n : Nat} {F : Nat → Prop} (h : RIn w b base size mb D pg m n F) {p : Nat} (hp : NZ m p) (hp64 : p < 18446744073709551616) :
    ∃ B L, PgCells (L : List Value).toArray (fun i => m (p * 4096 + i)) ∧ (Try.prog.info? 71).map (·.size) = some L.length ∧ ∀ W, Fr No w W → Seg W B 0 L ∧ (Instr.lookup 61 (.map (some mb)) (.int .u64 (p : Int)) false).run Try.prog W = .ok (.pointer (some ⟨B, 0, none⟩)) W := by
  cases hq : pg p with
  | none =>
    obtain ⟨i, hi, hn⟩ := hp
    exact absurd (h.2.2.2.2.2.1 p i hq hi) hn
  | some B =>
    obtain ⟨cs, hBlk, hcells⟩ := (h.2.2.2.1 p B hq).1.cells
    have e : cs.toList.toArray = cs := by simp
    refine ⟨B, cs.toList, by rw [e]; exact hcells, by rw [Array.length_toList, hcells.1]; exact infoPage, fun W hW => ⟨Seg.of_blk (hBlk.fr hW (fun q => q)), ?_⟩⟩
    have := (h.fr hW (fun _ _ q => q)).look p hp64
    rw [hq] at this
    exact this
/-- It answers whether P. -/
def Tells (P : Prop) (e : Ending) : Prop := ∃ q : Bool, e = .returned (.bool q) ∧ (q = true ↔ P)
theorem Tells.no {P : Prop} (h : ¬ P) : Tells P (.returned (.bool false)) := ⟨false, rfl, by simpa using h⟩
theorem Tells.yes {P : Prop} (h : P) : Tells P (.returned (.bool true)) := ⟨true, rfl, by simpa using h⟩
set_option maxRecDepth 100000 in
set_option maxHeartbeats 4000000 in
theorem ramsame_c (w : World) (b base size : Nat) (m : Nat → Nat) (n : Nat) (F : Nat → Prop) (b' base' size' : Nat) (m' : Nat → Nat) (n' : Nat) (F' : Nat → Prop) (h : RAt w b base size m n F) (h' : RAt w b' base' size' m' n' F')
    (hsup : ∀ x, m x ≠ 0 → x < 18446744073709551616) (hsup' : ∀ x, m' x ≠ 0 → x < 18446744073709551616) (k0 kn : Nat) (hk : ∀ p, NZ m p → k0 ≤ p ∧ p < k0 + kn) (hkn : kn ≤ 12) (k0' kn' : Nat) (hk' : ∀ p, NZ m' p → k0' ≤ p ∧ p < k0' + kn') (hkn' : kn' ≤ 12) :
    Calls Try.prog 26 #[.pointer (some ⟨b, 0, none⟩), .pointer (some ⟨b', 0, none⟩)] w fun z w' => Tells (base = base' ∧ size = size' ∧ m = m') z ∧ Fr No w w' := by
  have HPA := Lib.hid (pages_c w b base size m n F h hsup k0 kn hk hkn)
  have HPB := Lib.hid (fun W (hW : Fr No w W) => pages_c W b' base' size' m' n' F' (h'.fr hW (fun _ _ q => q)) hsup' k0' kn' hk' hkn')
  obtain ⟨mb, D, pg, hin⟩ := h
  obtain ⟨mb', D', pg', hin'⟩ := h'
  have HI := Lib.hid hin
  have HI' := Lib.hid hin'
  have HSUP := Lib.hid hsup
  have HCE := Lib.hid (show ∀ W, Fr No w W → W.cell? ⟨b, 0, none⟩ = some (.int .u64 (base : Int)) ∧ W.cell? ⟨b, 1, none⟩ = some (.int .u64 (size : Int)) ∧ W.cell? ⟨b, 2, none⟩ = some (.map (some mb)) ∧ W.cell? ⟨b', 0, none⟩ = some (.int .u64 (base' : Int)) ∧ W.cell? ⟨b', 1, none⟩ = some (.int .u64 (size' : Int)) ∧ W.cell? ⟨b', 2, none⟩ = some (.map (some mb')) from fun W hW => by
    have h1 := hin.1.fr hW (fun q => q)
    have h2 := hin'.1.fr hW (fun q => q)
    exact ⟨h1.cell 0, h1.cell 1, h1.cell 2, h2.cell 0, h2.cell 1, h2.cell 2⟩)
  clear hin hin' hsup hsup' hk hkn hk' hkn'
  go_enter Try.func26, Try.ntmps26
  go_wp2_with fail
  refine HPA.out.mono ?_
  rintro z w1 ⟨v, l, rfl, hown, hpo, hf1⟩
  obtain ⟨a, c, rfl, hlc, hcm⟩ := hown.slice
  have HOWN := Lib.hid hown
  have HPO := Lib.hid hpo
  have HF1 := Lib.hid hf1
  clear hown hpo hf1 HPA
  by_cases hb : base = base'
  case neg =>
    obtain ⟨q0, q1, q2, q3, q4, q5⟩ := HCE.out w1 HF1.out
    have d1 : ((base : Int) != (base' : Int)) = true := by simp; omega
    have HB := Lib.hid hb
    clear hb
    go_upto_region 4 with fail
    go_quiet (fail)
    go_wp2_with fail
    go_ret
    exact ⟨Tells.no (fun e => HB.out e.1), HF1.out.drewN _⟩
  subst hb
  by_cases hs : size = size'
  case neg =>
    obtain ⟨q0, q1, q2, q3, q4, q5⟩ := HCE.out w1 HF1.out
    have d1 : ((size : Int) != (size' : Int)) = true := by simp; omega
    have HS := Lib.hid hs
    clear hs
    go_upto_region 4 with fail
    go_quiet (fail)
    go_wp2_with fail
    go_ret
    exact ⟨Tells.no (fun e => HS.out e.1), HF1.out.drewN _⟩
  subst hs
  go_upto_region 4 with fail
  refine wp_region_held_drew (S := fun W => Fr No w W) (by kernel_rfl) HF1.out.drew (fun hHeld => ?_)
  refine' tkG (i := 0) (v := _) rfl (by kernel_rfl) (by kernel_rfl) (by kernel_rfl) (fun _ _ _ h => h) (by rfl) ?hy1 (by assumption) ?rest1
  case hy1 => (intro wq hSq; obtain ⟨q0, q1, q2, q3, q4, q5⟩ := HCE.out wq hSq; go_simp; try with_reducible rfl)
  simp only [Act.put, List.setIfInBounds_toArray, List.set_cons_zero, List.set_cons_succ]
  refine' tkG (i := 1) (v := _) rfl (by kernel_rfl) (by kernel_rfl) (by kernel_rfl) (fun _ _ _ h => h) (by rfl) ?hy2 (by assumption) ?rest2
  case hy2 => (intro wq hSq; obtain ⟨q0, q1, q2, q3, q4, q5⟩ := HCE.out wq hSq; go_simp; try with_reducible rfl)
  simp only [Act.put, List.setIfInBounds_toArray, List.set_cons_zero, List.set_cons_succ]
  refine' tkG (i := 2) (v := _) rfl (by kernel_rfl) (by kernel_rfl) (by kernel_rfl) (fun _ _ _ h => h) (by rfl) ?hy3 (by assumption) ?rest3
  case hy3 => (intro wq hSq; obtain ⟨q0, q1, q2, q3, q4, q5⟩ := HCE.out wq hSq; go_simp; try with_reducible rfl)
  simp only [Act.put, List.setIfInBounds_toArray, List.set_cons_zero, List.set_cons_succ]
  refine' tkG (i := 3) (v := _) rfl (by kernel_rfl) (by kernel_rfl) (by kernel_rfl) (fun _ _ _ h => h) (by rfl) ?hy4 (by assumption) ?rest4
  case hy4 => (intro wq hSq; obtain ⟨q0, q1, q2, q3, q4, q5⟩ := HCE.out wq hSq; go_simp; try with_reducible rfl)
  simp only [Act.put, List.setIfInBounds_toArray, List.set_cons_zero, List.set_cons_succ]
  refine' tkG (i := 4) (v := _) rfl (by kernel_rfl) (by kernel_rfl) (by kernel_rfl) (fun _ _ _ h => h) (by rfl) ?hy5 (by assumption) ?rest5
  case hy5 => (intro wq hSq; obtain ⟨q0, q1, q2, q3, q4, q5⟩ := HCE.out wq hSq; go_simp; try with_reducible rfl)
  simp only [Act.put, List.setIfInBounds_toArray, List.set_cons_zero, List.set_cons_succ]
  refine' tkG (i := 5) (v := _) rfl (by kernel_rfl) (by kernel_rfl) (by kernel_rfl) (fun _ _ _ h => h) (by rfl) ?hy6 (by assumption) ?rest6
  case hy6 => (intro wq hSq; obtain ⟨q0, q1, q2, q3, q4, q5⟩ := HCE.out wq hSq; go_simp; try with_reducible rfl)
  simp only [Act.put, List.setIfInBounds_toArray, List.set_cons_zero, List.set_cons_succ]
  refine' tkG (i := 6) (v := _) rfl (by kernel_rfl) (by kernel_rfl) (by kernel_rfl) (fun _ _ _ h => h) (by rfl) ?hy7 (by assumption) ?rest7
  case hy7 => (intro wq hSq; obtain ⟨q0, q1, q2, q3, q4, q5⟩ := HCE.out wq hSq; go_simp; try with_reducible rfl)
  simp only [Act.put, List.setIfInBounds_toArray, List.set_cons_zero, List.set_cons_succ]
  refine' tkG (i := 7) (v := _) rfl (by kernel_rfl) (by kernel_rfl) (by kernel_rfl) (fun _ _ _ h => h) (by rfl) ?hy8 (by assumption) ?rest8
  case hy8 => (intro wq hSq; obtain ⟨q0, q1, q2, q3, q4, q5⟩ := HCE.out wq hSq; go_simp; try with_reducible rfl)
  simp only [Act.put, List.setIfInBounds_toArray, List.set_cons_zero, List.set_cons_succ]
  refine' tkG (i := 8) (v := _) rfl (by kernel_rfl) (by kernel_rfl) (by kernel_rfl) (fun _ _ _ h => h) (by rfl) ?hy9 (by assumption) ?rest9
  case hy9 => (intro wq hSq; obtain ⟨q0, q1, q2, q3, q4, q5⟩ := HCE.out wq hSq; go_simp; try with_reducible rfl)
  simp only [Act.put, List.setIfInBounds_toArray, List.set_cons_zero, List.set_cons_succ]
  refine' tkG (i := 9) (v := _) rfl (by kernel_rfl) (by kernel_rfl) (by kernel_rfl) (fun _ _ _ h => h) (by rfl) ?hy10 (by assumption) ?rest10
  case hy10 => (intro wq hSq; obtain ⟨q0, q1, q2, q3, q4, q5⟩ := HCE.out wq hSq; go_simp; try with_reducible rfl)
  simp only [Act.put, List.setIfInBounds_toArray, List.set_cons_zero, List.set_cons_succ]
  refine' tkG (i := 10) (v := _) rfl (by kernel_rfl) (by kernel_rfl) (by kernel_rfl) (fun _ _ _ h => h) (by rfl) ?hy11 (by assumption) ?rest11
  case hy11 => (intro wq hSq; obtain ⟨q0, q1, q2, q3, q4, q5⟩ := HCE.out wq hSq; go_simp; try with_reducible rfl)
  simp only [Act.put, List.setIfInBounds_toArray, List.set_cons_zero, List.set_cons_succ]
  refine' tkG (i := 11) (v := _) rfl (by kernel_rfl) (by kernel_rfl) (by kernel_rfl) (fun _ _ _ h => h) (by rfl) ?hy12 (by assumption) ?rest12
  case hy12 => (intro wq hSq; obtain ⟨q0, q1, q2, q3, q4, q5⟩ := HCE.out wq hSq; go_simp; try with_reducible rfl)
  simp only [Act.put, List.setIfInBounds_toArray, List.set_cons_zero, List.set_cons_succ]
  refine' tkG (i := 12) (v := _) rfl (by kernel_rfl) (by kernel_rfl) (by kernel_rfl) (fun _ _ _ h => h) (by rfl) ?hy13 (by assumption) ?rest13
  case hy13 => (intro wq hSq; obtain ⟨q0, q1, q2, q3, q4, q5⟩ := HCE.out wq hSq; go_simp; try with_reducible rfl)
  simp only [Act.put, List.setIfInBounds_toArray, List.set_cons_zero, List.set_cons_succ]
  refine' tkG (i := 13) (v := _) rfl (by kernel_rfl) (by kernel_rfl) (by kernel_rfl) (fun _ _ _ h => h) (by rfl) ?hy14 (by assumption) ?rest14
  case hy14 => (intro wq hSq; obtain ⟨q0, q1, q2, q3, q4, q5⟩ := HCE.out wq hSq; go_simp; try with_reducible rfl)
  simp only [Act.put, List.setIfInBounds_toArray, List.set_cons_zero, List.set_cons_succ]
  refine' tkG (i := 14) (v := _) rfl (by kernel_rfl) (by kernel_rfl) (by kernel_rfl) (fun _ _ _ h => h) (by rfl) ?hy15 (by assumption) ?rest15
  case hy15 => (intro wq hSq; obtain ⟨q0, q1, q2, q3, q4, q5⟩ := HCE.out wq hSq; go_simp; try with_reducible rfl)
  simp only [Act.put, List.setIfInBounds_toArray, List.set_cons_zero, List.set_cons_succ]
  refine' tkG (i := 15) (v := _) rfl (by kernel_rfl) (by kernel_rfl) (by kernel_rfl) (fun _ _ _ h => h) (by rfl) ?hy16 (by assumption) ?rest16
  case hy16 => (intro wq hSq; obtain ⟨q0, q1, q2, q3, q4, q5⟩ := HCE.out wq hSq; go_simp; try with_reducible rfl)
  simp only [Act.put, List.setIfInBounds_toArray, List.set_cons_zero, List.set_cons_succ]
  refine' tkG (i := 16) (v := _) rfl (by kernel_rfl) (by kernel_rfl) (by kernel_rfl) (fun _ _ _ h => h) (by rfl) ?hy17 (by assumption) ?rest17
  case hy17 => (intro wq hSq; obtain ⟨q0, q1, q2, q3, q4, q5⟩ := HCE.out wq hSq; go_simp; try with_reducible rfl)
  simp only [Act.put, List.setIfInBounds_toArray, List.set_cons_zero, List.set_cons_succ]
  refine' tkG (i := 17) (v := _) rfl (by kernel_rfl) (by kernel_rfl) (by kernel_rfl) (fun _ _ _ h => h) (by rfl) ?hy18 (by assumption) ?rest18
  case hy18 => (intro wq hSq; obtain ⟨q0, q1, q2, q3, q4, q5⟩ := HCE.out wq hSq; go_simp; try with_reducible rfl)
  simp only [Act.put, List.setIfInBounds_toArray, List.set_cons_zero, List.set_cons_succ]
  refine' tkG (i := 18) (v := _) rfl (by kernel_rfl) (by kernel_rfl) (by kernel_rfl) (fun _ _ _ h => h) (by rfl) ?hy19 (by assumption) ?rest19
  case hy19 => (intro wq hSq; obtain ⟨q0, q1, q2, q3, q4, q5⟩ := HCE.out wq hSq; go_simp; try with_reducible rfl)
  simp only [Act.put, List.setIfInBounds_toArray, List.set_cons_zero, List.set_cons_succ]
  refine' tkG (i := 19) (v := _) rfl (by kernel_rfl) (by kernel_rfl) (by kernel_rfl) (fun _ _ _ h => h) (by rfl) ?hy20 (by assumption) ?rest20
  case hy20 => (intro wq hSq; obtain ⟨q0, q1, q2, q3, q4, q5⟩ := HCE.out wq hSq; go_simp; try with_reducible rfl)
  simp only [Act.put, List.setIfInBounds_toArray, List.set_cons_zero, List.set_cons_succ]
  refine' tkG (i := 20) (v := _) rfl (by kernel_rfl) (by kernel_rfl) (by kernel_rfl) (fun _ _ _ h => h) (by rfl) ?hy21 (by assumption) ?rest21
  case hy21 => (intro wq hSq; obtain ⟨q0, q1, q2, q3, q4, q5⟩ := HCE.out wq hSq; go_simp; try with_reducible rfl)
  simp only [Act.put, List.setIfInBounds_toArray, List.set_cons_zero, List.set_cons_succ]
  refine' tkG (i := 21) (v := _) rfl (by kernel_rfl) (by kernel_rfl) (by kernel_rfl) (fun _ _ _ h => h) (by rfl) ?hy22 (by assumption) ?rest22
  case hy22 => (intro wq hSq; obtain ⟨q0, q1, q2, q3, q4, q5⟩ := HCE.out wq hSq; go_simp; try with_reducible rfl)
  simp only [Act.put, List.setIfInBounds_toArray, List.set_cons_zero, List.set_cons_succ]
  refine' tkG (i := 22) (v := _) rfl (by kernel_rfl) (by kernel_rfl) (by kernel_rfl) (fun _ _ _ h => h) (by rfl) ?hy23 (by assumption) ?rest23
  case hy23 => (intro wq hSq; obtain ⟨q0, q1, q2, q3, q4, q5⟩ := HCE.out wq hSq; go_simp; try with_reducible rfl)
  simp only [Act.put, List.setIfInBounds_toArray, List.set_cons_zero, List.set_cons_succ]
  refine wpAnyH_ready (rs := [23]) (by kernel_rfl) (by simp) ?_
  refine AllReadyH.cons rfl (fun K hK => ?_) AllReadyH.nil
  go_simp
  refine (HPB.out w1.drew hHeld).mono ?_
  rintro z w2 ⟨v2, l2, rfl, hown2, hpo2, hf2⟩
  obtain ⟨a2, c2, rfl, _, _⟩ := hown2.slice
  have HF2 := Lib.hid (hHeld.trans hf2)
  have HR1 := Lib.hid ((HOWN.out.rd).fr ((Fr.refl No w1).drew.trans hf2) (fun _ _ _ q => q))
  have HOWN2 := Lib.hid ((HOWN.out).fr ((Fr.refl No w1).drew.trans hf2) (fun _ _ q => q))
  have HR2 := Lib.hid hown2.rd
  have HPO2 := Lib.hid hpo2
  obtain ⟨n1, hn1⟩ : ∃ n1, n1 = l.length := ⟨_, rfl⟩
  obtain ⟨n2, hn2⟩ : ∃ n2, n2 = l2.length := ⟨_, rfl⟩
  rw [← hn1] at HR1 HOWN2 hlc ⊢
  rw [← hn2] at HR2 ⊢
  have HN1 := Lib.hid hn1
  have HN2 := Lib.hid hn2
  clear hown2 hpo2 hf2 hHeld hn1 hn2
  go_simp
  refine hK.out _ _ HF2.out (fun hHeld => ?_)
  clear hK K
  try simp only [List.setIfInBounds_toArray, List.set_cons_zero, List.set_cons_succ]
  refine wpAnyH_ready (rs := [24]) (by kernel_rfl) (by simp) ?_
  refine AllReadyH.cons rfl (fun K hK => ?_) AllReadyH.nil
  go_simp
  have heq : Calls Try.prog 39 #[.slice a n1 c, .slice a2 n2 c2] w2 fun r w' => r = .returned (.bool (decide (l = l2))) ∧ ∃ k, w' = w2.drewN k := by
    have hr1 := HR1.out
    have hr2 := HR2.out
    rw [HN1.out] at hr1 ⊢
    rw [HN2.out] at hr2 ⊢
    exact equal_c w2 _ _ l l2 hr1 hr2
  have HEQ := Lib.hid heq
  clear heq
  refine HEQ.out.mono ?_
  rintro z w3 ⟨rfl, k3, rfl⟩
  obtain ⟨q, hq⟩ : ∃ q, q = decide (l = l2) := ⟨_, rfl⟩
  rw [← hq]
  have HQ := Lib.hid hq
  clear hq
  go_simp
  refine hK.out _ _ (HF2.out.drewN k3) (fun hHeld => ?_)
  clear hK K
  try simp only [List.setIfInBounds_toArray, List.set_cons_zero, List.set_cons_succ]
  obtain ⟨W3, hW3⟩ : ∃ W3, W3 = w2.drewN k3 := ⟨_, rfl⟩
  have HOWN3 := Lib.hid (show Own W3 22 1 (.slice a n1 c) n1 (uV l) (fun k => w.heap.size ≤ k ∧ k < w1.heap.size) from by rw [hW3]; exact HOWN2.out.fr ((Fr.refl No w2).drewN k3) (fun _ _ q => q))
  rw [← hW3] at hHeld ⊢
  clear hW3
  refine' tkG (i := 25) (v := _) rfl (by kernel_rfl) (by kernel_rfl) (by kernel_rfl) (fun _ _ _ h => h) (by rfl) ?hy24 (by assumption) ?rest24
  case hy24 => (intro wq hSq; obtain ⟨q0, q1, q2, q3, q4, q5⟩ := HCE.out wq hSq; go_simp; try with_reducible rfl)
  simp only [Act.put, List.setIfInBounds_toArray, List.set_cons_zero, List.set_cons_succ]
  refine' tkG (i := 26) (v := _) rfl (by kernel_rfl) (by kernel_rfl) (by kernel_rfl) (fun _ _ _ h => h) (by rfl) ?hy25 (by assumption) ?rest25
  case hy25 => (intro wq hSq; obtain ⟨q0, q1, q2, q3, q4, q5⟩ := HCE.out wq hSq; go_simp; try with_reducible rfl)
  simp only [Act.put, List.setIfInBounds_toArray, List.set_cons_zero, List.set_cons_succ]
  refine wpAnyH_done (by kernel_rfl) ?_ _
  have HF3 := Lib.hid hHeld
  clear hHeld
  cases q with
  | false =>
    go_wp2_with fail
    go_ret
    refine ⟨Tells.no ?_, HF3.out⟩
    rintro ⟨_, _, rfl⟩
    have h1 := HQ.out
    have h2 := PagesOf.unique HPO.out HPO2.out
    rw [decide_eq_true h2] at h1
    cases h1
  | true =>
    have hll : l = l2 := by have := HQ.out; exact of_decide_eq_true this.symm
    have HPO3 := Lib.hid (show PagesOf m' l from by rw [hll]; exact HPO2.out)
    clear hll
    go_wp2_with fail
    go_loopw [48] (fun pi wr => ∃ i : Nat, i ≤ n1 ∧ pi = .int .i64 (i : Int) ∧ Hid (∀ j (hj : j < l.length), j < i → samePg (fun x => m (l[j] / 4096 * 4096 + x)) (fun x => m' (l[j] / 4096 * 4096 + x)) = true) ∧ Hid (Fr No W3 wr)) (fun pi _ => n1 - (intOf pi).toNat)
    case atStart => exact ⟨0, Nat.zero_le _, rfl, Lib.hid (fun j _ h => by omega), Lib.hid (Fr.refl _ _)⟩
    case round =>
      obtain ⟨i, hi, rfl, HS, HF⟩ := hrel
      by_cases hlt : i < n1
      · have hil : i < l.length := by have := HN1.out; omega
        have hR := HOWN3.out.rd
        rw [HN1.out] at hR
        obtain ⟨g, o, c3, hv, hcell⟩ := hR.uAt hil
        injection hv with e1 _ e3
        subst e1 e3
        obtain ⟨x, hx⟩ : ∃ x, x = l[i] := ⟨_, rfl⟩
        obtain ⟨p, hp, hnz⟩ := (HPO.out.2 x).1 (by rw [hx]; exact List.getElem_mem hil)
        have hnz' : NZ m' p := by
          obtain ⟨p', hp', hn'⟩ := (HPO3.out.2 x).1 (by rw [hx]; exact List.getElem_mem hil)
          obtain rfl : p = p' := by omega
          exact hn'
        have hxp : x / 4096 = p := by omega
        have hp64 : p < 18446744073709551616 := by
          obtain ⟨j, _, hj⟩ := hnz
          have := HSUP.out _ hj
          omega
        obtain ⟨B, L, hc1, hinfo1, hat1⟩ := HI.out.there hnz hp64
        obtain ⟨B', L', hc2, hinfo2, hat2⟩ := HI'.out.there hnz' hp64
        have hstep : ∀ j (hj : j < l.length), j < i + 1 → (j = i → samePg (fun x => m (p * 4096 + x)) (fun x => m' (p * 4096 + x)) = true) → samePg (fun x => m (l[j] / 4096 * 4096 + x)) (fun x => m' (l[j] / 4096 * 4096 + x)) = true := by
          intro j hj h1 h2
          by_cases e : j = i
          · subst e
            rw [← hx, hxp]
            exact h2 rfl
          · exact HS.out j hj (by omega)
        have HSTEP := Lib.hid hstep
        have hne := fun W => (page_eq_run hc1 hc2 W).2
        obtain ⟨q, hq⟩ : ∃ q, q = samePg (fun i => m (p * 4096 + i)) (fun i => m' (p * 4096 + i)) := ⟨_, rfl⟩
        rw [← hq] at hne hstep HSTEP
        have q1 := hcell wr HF.out
        rw [← hx] at q1
        have HINFO1 := Lib.hid hinfo1
        have HINFO2 := Lib.hid hinfo2
        have HFW := Lib.hid (HF3.out.trans HF.out)
        have HSEG1 := Lib.hid (show ∀ W, Fr No w W → Seg W B 0 L from fun W hW => (hat1 W hW).1)
        have HSEG2 := Lib.hid (show ∀ W, Fr No w W → Seg W B' 0 L' from fun W hW => (hat2 W hW).1)
        have HLK1 := Lib.hid (show ∀ W, Fr No w W → (Instr.lookup 61 (.map (some mb)) (.int .u64 (p : Int)) false).run Try.prog W = .ok (.pointer (some ⟨B, 0, none⟩)) W from fun W hW => (hat1 W hW).2)
        have HLK2 := Lib.hid (show ∀ W, Fr No w W → (Instr.lookup 61 (.map (some mb')) (.int .u64 (p : Int)) false).run Try.prog W = .ok (.pointer (some ⟨B', 0, none⟩)) W from fun W hW => (hat2 W hW).2)
        have e2 : (x : Int) / 4096 = (p : Int) := by omega
        have e4 : IntKind.u64.wrap (p : Int) = (p : Int) := by rw [IntKind.wrap_u64]; omega
        have e1 : IntKind.i64.wrap ((i : Int) + 1) = ((i + 1 : Nat) : Int) := by unfold maxLen at hcm; rw [IntKind.wrap_i64]; omega
        have HDIFF := Lib.hid (show q = false → ¬ (m = m') from fun hf e => by
          rw [hf, e] at hq
          have : samePg (fun i => m' (p * 4096 + i)) (fun i => m' (p * 4096 + i)) = true := samePg_iff.2 (fun _ _ => rfl)
          rw [this] at hq
          cases hq)
        clear hcell hR hx hp hnz hnz' hxp hp64 hc1 hc2 hinfo1 hinfo2 hat1 hat2 hstep hq
        go_upto_region 9 with fail
        refine wp_region_held_drew (S := fun W => Fr No w W) (by kernel_rfl) HFW.out.drew (fun hHeld => ?_)
        refine' tkG (i := 0) (v := _) rfl (by kernel_rfl) (by kernel_rfl) (by kernel_rfl) (fun _ _ _ h => h) (by rfl) ?hy26 (by assumption) ?rest26
        case hy26 => (intro wq hSq; obtain ⟨q0, q1, q2, q3, q4, q5⟩ := HCE.out wq hSq; go_simp; try with_reducible rfl)
        simp only [Act.put, List.setIfInBounds_toArray, List.set_cons_zero, List.set_cons_succ]
        refine' tkG (i := 1) (v := _) rfl (by kernel_rfl) (by kernel_rfl) (by kernel_rfl) (fun _ _ _ h => h) (by rfl) ?hy27 (by assumption) ?rest27
        case hy27 => (intro wq hSq; obtain ⟨q0, q1, q2, q3, q4, q5⟩ := HCE.out wq hSq; go_simp; try with_reducible rfl)
        simp only [Act.put, List.setIfInBounds_toArray, List.set_cons_zero, List.set_cons_succ]
        refine' tkG (i := 2) (v := _) rfl (by kernel_rfl) (by kernel_rfl) (by kernel_rfl) (fun _ _ _ h => h) (by rfl) ?hy28 (by assumption) ?rest28
        case hy28 => (intro wq hSq; obtain ⟨q0, q1, q2, q3, q4, q5⟩ := HCE.out wq hSq; go_simp; try with_reducible rfl)
        simp only [Act.put, List.setIfInBounds_toArray, List.set_cons_zero, List.set_cons_succ]
        refine' tkG (i := 3) (v := _) rfl (by kernel_rfl) (by kernel_rfl) (by kernel_rfl) (fun _ _ _ h => h) (by rfl) ?hy29 (by assumption) ?rest29
        case hy29 => (intro wq hSq; obtain ⟨q0, q1, q2, q3, q4, q5⟩ := HCE.out wq hSq; go_simp; try with_reducible rfl)
        simp only [Act.put, List.setIfInBounds_toArray, List.set_cons_zero, List.set_cons_succ]
        refine' tkG (i := 4) (v := _) rfl (by kernel_rfl) (by kernel_rfl) (by kernel_rfl) (fun _ _ _ h => h) (by rfl) ?hy30 (by assumption) ?rest30
        case hy30 => (intro wq hSq; obtain ⟨q0, q1, q2, q3, q4, q5⟩ := HCE.out wq hSq; go_simp; try with_reducible rfl)
        simp only [Act.put, List.setIfInBounds_toArray, List.set_cons_zero, List.set_cons_succ]
        refine' tkG (i := 5) (v := _) rfl (by kernel_rfl) (by kernel_rfl) (by kernel_rfl) (fun _ _ _ h => h) (by rfl) ?hy31 (by assumption) ?rest31
        case hy31 => (intro wq hSq; obtain ⟨q0, q1, q2, q3, q4, q5⟩ := HCE.out wq hSq; go_simp; try with_reducible rfl)
        simp only [Act.put, List.setIfInBounds_toArray, List.set_cons_zero, List.set_cons_succ]
        refine' tkG (i := 6) (v := (.pointer (some ⟨B, 0, none⟩))) rfl (by kernel_rfl) (by kernel_rfl) (by kernel_rfl) (fun _ _ _ h => h) (by rfl) ?hy32 (by assumption) ?rest32
        case hy32 => (intro wq hSq; have hl := HLK1.out wq hSq; go_simp; try with_reducible rfl)
        simp only [Act.put, List.setIfInBounds_toArray, List.set_cons_zero, List.set_cons_succ]
        refine' tkG (i := 7) (v := _) rfl (by kernel_rfl) (by kernel_rfl) (by kernel_rfl) (fun _ _ _ h => h) (by rfl) ?hy33 (by assumption) ?rest33
        case hy33 => (intro wq hSq; obtain ⟨q0, q1, q2, q3, q4, q5⟩ := HCE.out wq hSq; go_simp; try with_reducible rfl)
        simp only [Act.put, List.setIfInBounds_toArray, List.set_cons_zero, List.set_cons_succ]
        refine' tkG (i := 8) (v := .agg L.toArray) rfl (by kernel_rfl) (by kernel_rfl) (by kernel_rfl) (fun _ _ _ h => h) (by rfl) ?hy34 (by assumption) ?rest34
        case hy34 => (intro wq hSq; exact exec_load_seg 71 (.tmp 59) rfl B 0 rfl _ (HSEG1.out wq hSq) _ Try.underlying71 rfl HINFO1.out)
        simp only [Act.put, List.setIfInBounds_toArray, List.set_cons_zero, List.set_cons_succ]
        refine' tkG (i := 9) (v := _) rfl (by kernel_rfl) (by kernel_rfl) (by kernel_rfl) (fun _ _ _ h => h) (by rfl) ?hy35 (by assumption) ?rest35
        case hy35 => (intro wq hSq; obtain ⟨q0, q1, q2, q3, q4, q5⟩ := HCE.out wq hSq; go_simp; try with_reducible rfl)
        simp only [Act.put, List.setIfInBounds_toArray, List.set_cons_zero, List.set_cons_succ]
        refine' tkG (i := 10) (v := _) rfl (by kernel_rfl) (by kernel_rfl) (by kernel_rfl) (fun _ _ _ h => h) (by rfl) ?hy36 (by assumption) ?rest36
        case hy36 => (intro wq hSq; obtain ⟨q0, q1, q2, q3, q4, q5⟩ := HCE.out wq hSq; go_simp; try with_reducible rfl)
        simp only [Act.put, List.setIfInBounds_toArray, List.set_cons_zero, List.set_cons_succ]
        refine' tkG (i := 11) (v := _) rfl (by kernel_rfl) (by kernel_rfl) (by kernel_rfl) (fun _ _ _ h => h) (by rfl) ?hy37 (by assumption) ?rest37
        case hy37 => (intro wq hSq; obtain ⟨q0, q1, q2, q3, q4, q5⟩ := HCE.out wq hSq; go_simp; try with_reducible rfl)
        simp only [Act.put, List.setIfInBounds_toArray, List.set_cons_zero, List.set_cons_succ]
        refine' tkG (i := 12) (v := _) rfl (by kernel_rfl) (by kernel_rfl) (by kernel_rfl) (fun _ _ _ h => h) (by rfl) ?hy38 (by assumption) ?rest38
        case hy38 => (intro wq hSq; obtain ⟨q0, q1, q2, q3, q4, q5⟩ := HCE.out wq hSq; go_simp; try with_reducible rfl)
        simp only [Act.put, List.setIfInBounds_toArray, List.set_cons_zero, List.set_cons_succ]
        refine' tkG (i := 13) (v := _) rfl (by kernel_rfl) (by kernel_rfl) (by kernel_rfl) (fun _ _ _ h => h) (by rfl) ?hy39 (by assumption) ?rest39
        case hy39 => (intro wq hSq; obtain ⟨q0, q1, q2, q3, q4, q5⟩ := HCE.out wq hSq; go_simp; try with_reducible rfl)
        simp only [Act.put, List.setIfInBounds_toArray, List.set_cons_zero, List.set_cons_succ]
        refine' tkG (i := 14) (v := _) rfl (by kernel_rfl) (by kernel_rfl) (by kernel_rfl) (fun _ _ _ h => h) (by rfl) ?hy40 (by assumption) ?rest40
        case hy40 => (intro wq hSq; obtain ⟨q0, q1, q2, q3, q4, q5⟩ := HCE.out wq hSq; go_simp; try with_reducible rfl)
        simp only [Act.put, List.setIfInBounds_toArray, List.set_cons_zero, List.set_cons_succ]
        refine' tkG (i := 15) (v := (.pointer (some ⟨B', 0, none⟩))) rfl (by kernel_rfl) (by kernel_rfl) (by kernel_rfl) (fun _ _ _ h => h) (by rfl) ?hy41 (by assumption) ?rest41
        case hy41 => (intro wq hSq; have hl := HLK2.out wq hSq; go_simp; try with_reducible rfl)
        simp only [Act.put, List.setIfInBounds_toArray, List.set_cons_zero, List.set_cons_succ]
        refine' tkG (i := 16) (v := _) rfl (by kernel_rfl) (by kernel_rfl) (by kernel_rfl) (fun _ _ _ h => h) (by rfl) ?hy42 (by assumption) ?rest42
        case hy42 => (intro wq hSq; obtain ⟨q0, q1, q2, q3, q4, q5⟩ := HCE.out wq hSq; go_simp; try with_reducible rfl)
        simp only [Act.put, List.setIfInBounds_toArray, List.set_cons_zero, List.set_cons_succ]
        refine' tkG (i := 17) (v := .agg L'.toArray) rfl (by kernel_rfl) (by kernel_rfl) (by kernel_rfl) (fun _ _ _ h => h) (by rfl) ?hy43 (by assumption) ?rest43
        case hy43 => (intro wq hSq; exact exec_load_seg 71 (.tmp 68) rfl B' 0 rfl _ (HSEG2.out wq hSq) _ Try.underlying71 rfl HINFO2.out)
        simp only [Act.put, List.setIfInBounds_toArray, List.set_cons_zero, List.set_cons_succ]
        refine' tkG (i := 18) (v := _) rfl (by kernel_rfl) (by kernel_rfl) (by kernel_rfl) (fun _ _ _ h => h) (by rfl) ?hy44 (by assumption) ?rest44
        case hy44 => (intro wq hSq; obtain ⟨q0, q1, q2, q3, q4, q5⟩ := HCE.out wq hSq; go_simp; try with_reducible rfl)
        simp only [Act.put, List.setIfInBounds_toArray, List.set_cons_zero, List.set_cons_succ]
        have HH := Lib.hid (show Fr No W3 wr.drew from HF.out.drew)
        refine wpAnyH_done (by kernel_rfl) ?_ _
        clear hHeld
        cases q with
        | true =>
          go_wp2_with fail
          exact ⟨⟨i + 1, by omega, by simp, Lib.hid (fun j hj h => HSTEP.out j hj h (fun _ => rfl)), HH⟩, by simp [intOf]; omega⟩
        | false =>
          go_wp2_with fail
          go_ret
          exact ⟨Tells.no (fun e => HDIFF.out trivial e), HF3.out.trans HH.out⟩
      · obtain rfl : i = n1 := by omega
        go_wp2_with fail
        go_ret
        exact ⟨Tells.yes (pages_same HPO.out HPO3.out (fun j hj => HS.out j hj (by have := HN1.out; omega))), HF3.out.trans HF.out⟩
end Go.Proofs.Ytpnabfekidpnoaa

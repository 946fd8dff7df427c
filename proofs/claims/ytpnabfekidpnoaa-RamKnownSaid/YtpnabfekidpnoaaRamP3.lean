/-
  Pages, walked.
-/
import Derived.Test.YtpnabfekidpnoaaRamP2
namespace Go.Proofs.Ytpnabfekidpnoaa
open Go Go.RowKit

theorem info_u64 : ∃ i, Try.prog.info? 22 = some i ∧ i.zero = some (.int .u64 0) ∧ i.size = 1 ∧ i.bytes = 8 := by
  have h : (Try.prog.info? 22).map (fun i => (i.zero, i.size, i.bytes)) = some (some (.int .u64 0), 1, 8) := by kernel_rfl
  obtain ⟨i, hi, hz⟩ := Option.map_eq_some_iff.1 h
  injection hz with h1 h2
  injection h2 with h2 h3
  exact ⟨i, hi, h1, h2, h3⟩
theorem keyU_inv {key : Value} {kl : Lit} (h : keyOf Try.prog 22 key = some kl) : ∃ x : Nat, key = .int .u64 (x : Int) ∧ kl = .int .u64 (x : Int) := by
  obtain ⟨x, h1, h2, h3⟩ := Maps.keyOf_int_inv Try.underlying22 h
  have h4 : (Lit.int .u64 x).wf = true := h3
  have h5 : (decide (IntKind.u64.min ≤ x) && decide (x ≤ IntKind.u64.max)) = true := h4
  rw [Bool.and_eq_true, decide_eq_true_iff] at h5
  have h6 : IntKind.u64.min = 0 := by decide
  rw [h6] at h5
  have h7 := h5.1
  exact ⟨x.toNat, by rw [h1]; congr 1; omega, by rw [h2]; congr 1; omega⟩
theorem Coll.len {m : Nat → Nat} {D : DataW Unit} {left : Lit → Bool} {acc : List Nat} (h : Coll m D left acc) {k0 kn : Nat} (hk : ∀ p, NZ m p → k0 ≤ p ∧ p < k0 + kn) : acc.length ≤ kn := by
  have h1 := nodup_bound k0 kn (acc.map (· / 4096)) (by
    rw [List.Nodup, List.pairwise_map]
    exact h.nodup.imp_of_mem (fun {a b} ha hb hne e => by
      obtain ⟨p, hp, _⟩ := (h.mem a).1 ha
      obtain ⟨q, hq, _⟩ := (h.mem b).1 hb
      have e2 : a / 4096 = b / 4096 := e
      omega)) (fun x hx => by
    obtain ⟨a, ha, rfl⟩ := List.mem_map.1 hx
    obtain ⟨p, hp, hnz, _⟩ := (h.mem a).1 ha
    have := hk p hnz
    have e2 : a / 4096 = p := by omega
    rw [e2]
    exact this)
  rwa [List.length_map] at h1
theorem uV_snoc (l : List Nat) (x : Nat) : uV l ++ [.int .u64 ((x : Nat) : Int)] = uV (l ++ [x]) := by unfold uV; rw [List.map_append]; rfl
theorem uV_len (l : List Nat) : (uV l).length = l.length := by unfold uV; rw [List.length_map]
theorem sort_own (w : World) (v : Value) (l : List Nat) (G : Nat → Prop) (h : Own w 22 1 v l.length (uV l) G) (hn : l.length ≤ 12) :
    Calls Try.prog 33 #[v] w fun r w' => r = .returned (.tuple #[]) ∧ ∃ l', Own w' 22 1 v l'.length (uV l') G ∧ l'.Perm l ∧ l'.Pairwise (· ≤ ·) ∧ Fr G w w' := by
  rcases h.2 with ⟨rfl, h0⟩ | ⟨g, o, c, cur, rfl, hG, hB, h1, h2, h3, h4, h5⟩
  · have hl : l = [] := List.eq_nil_of_length_eq_zero h0
    subst hl
    refine (sort_nil w).mono ?_
    rintro r w' ⟨rfl, rfl⟩
    exact ⟨rfl, [], h, List.Perm.refl _, List.Pairwise.nil, Fr.refl _ _⟩
  · have hrow : URow w g o l cur.size := ⟨cur, hB, rfl, fun j hj => by
      rw [h5 j (by rw [uV_len]; exact hj)]
      unfold uV
      rw [List.getElem?_map, List.getElem?_eq_getElem hj]
      rfl⟩
    refine (sort_row w g o c cur.size l hrow hn h1).mono ?_
    rintro r w' ⟨rfl, l', ⟨cur', q1, q2, q3⟩, hp, hs, hf⟩
    have hlen := hp.length_eq
    refine ⟨rfl, l', ⟨by rw [uV_len, Nat.mul_one], .inr ⟨g, o, c, cur', by rw [hlen], hG, q1, by rw [hlen]; exact h1, h2, by rw [q2]; exact h3, by rw [q2, hlen]; exact h4, fun j hj => ?_⟩⟩, hp, hs, hf.mono (fun k _ e => by have e2 : k = g := e; rw [e2]; exact hG)⟩
    rw [uV_len] at hj
    rw [q3 j hj]
    unfold uV
    rw [List.getElem?_map, List.getElem?_eq_getElem hj]
    rfl
theorem strict_of {l : List Nat} (h1 : l.Pairwise (· ≤ ·)) (h2 : l.Nodup) : l.Pairwise (· < ·) := by
  have h3 := h1.and h2
  exact h3.imp (fun ⟨a, b⟩ => Nat.lt_of_le_of_ne a b)
set_option maxRecDepth 100000 in
set_option maxHeartbeats 2000000 in
theorem pages_c (w : World) (b base size : Nat) (m : Nat → Nat) (cnt0 : Nat) (F : Nat → Prop) (h : RAt w b base size m cnt0 F) (hsup : ∀ x, m x ≠ 0 → x < 18446744073709551616) (k0 kn : Nat) (hk : ∀ p, NZ m p → k0 ≤ p ∧ p < k0 + kn) (hkn : kn ≤ 12) :
    Calls Try.prog 16 #[.pointer (some ⟨b, 0, none⟩)] w fun r w' => ∃ v l, r = .returned v ∧ Own w' 22 1 v l.length (uV l) (fun k => w.heap.size ≤ k ∧ k < w'.heap.size) ∧ PagesOf m l ∧ Fr No w w' := by
  obtain ⟨mb, D, pg, hin⟩ := h
  have hz0 := zeroCells_ok
  obtain ⟨i0, hi0, hiz, his, hib⟩ := info_u64
  have c2 : w.cell? ⟨b, 2, none⟩ = some (.map (some mb)) := hin.1.cell 2
  have hown := hin.2.1
  obtain ⟨r, hr⟩ : ∃ r, r = w.heap.size := ⟨_, rfl⟩
  have HIN := Lib.hid (show RIn w b base size mb D pg m cnt0 (fun k => F k ∧ k < r) from by rw [hr]; exact hin.cut)
  have HOWN := Lib.hid hown
  have HZ0 := Lib.hid hz0
  have HI0 := Lib.hid hi0
  have HI1 := Lib.hid hiz
  have HI2 := Lib.hid his
  have HI3 := Lib.hid hib
  have HSUP := Lib.hid hsup
  have HK := Lib.hid (And.intro hk hkn)
  have HR := Lib.hid hr
  clear hin hz0 hi0 hiz his hib hown hsup hk hkn
  go_enter Try.func16, Try.ntmps16
  go_wp2_with (at_range; refine wpList_range_own _ rfl _ 61 rfl 22 67 lawU Try.underlying61 pgElem mb cnt0 _ rfl HOWN.out ?_; intro w0 hrg0 hg0 hs0)
  go_frame
  rw [← hr] at hrg0 hs0 ⊢
  have hf0 : Fr No w w0 := (Fr.refl No w).grown hg0 (fun k hk => by cases hk)
  have HRG0 := Lib.hid hrg0
  have HF0 := Lib.hid hf0
  have HC0 := Lib.hid (show Coll m D (Maps.has D) [] from ⟨List.nodup_nil, fun x => ⟨fun h => by simp at h, fun ⟨p, h1, h2, h3, h4⟩ => by rw [h3] at h4; cases h4⟩, fun kl h => h⟩)
  clear hrg0 hg0 hf0 hr
  go_loopw [3] (fun sv wr => ∃ (left : Lit → Bool) (cnt : Nat) (acc : List Nat), Hid (wr.ranges Try.prog 22 pgElem mb r cnt0 D left cnt) ∧ Hid (Coll m D left acc) ∧ Hid (Own wr 22 1 sv acc.length (uV acc) (fun k => r < k)) ∧ Hid (Fr No w wr)) (fun _ wr => wr.rangeLeft mb r)
  case atStart => exact ⟨_, _, [], HRG0, HC0, Lib.hid (Own.nil_ _ _ _ _), HF0⟩
  case round =>
    obtain ⟨left, cnt, acc, HRG, HC, HO, HF⟩ := hrel
    go_wp2_with (at_next; refine wpList_next_ranges _ rfl _ rfl 22 lawU pgElem (fun x : Nat => Value.int .u64 (x : Int)) pgVal (fun key kl hkey => by obtain ⟨x, h1, _⟩ := keyU_inv hkey; exact ⟨x, h1⟩) (fun v y hv => by obtain ⟨o, h1, _⟩ := pgElem_inv hv; exact ⟨o, h1⟩) mb r cnt0 D left cnt rfl HRG.out ?_ ?_)
    · intro hc0 hl0
      have HL0 := Lib.hid hl0
      clear hc0 hl0
      have hso := sort_own wr u3 acc (fun k => r < k) HO.out (Nat.le_trans (HC.out.len HK.out.1) HK.out.2)
      have HSO := Lib.hid hso
      clear hso
      go_wp2_with (go_at_call 33
                   refine HSO.out.mono ?_
                   rintro rr w5 ⟨rfl, l', hown5, hp5, hs5, hf5⟩
                   have HOWN5 := Lib.hid hown5
                   have HP5 := Lib.hid (And.intro hp5 hs5)
                   have HF5 := Lib.hid hf5
                   clear hown5 hp5 hs5 hf5)
      go_ret
      refine ⟨u3, l', rfl, HOWN5.out.cut.mono (fun k hk => ⟨by have h2 : r < k := hk.1; have := HR.out; omega, hk.2⟩), ⟨strict_of HP5.out.2 (HP5.out.1.nodup_iff.2 HC.out.nodup), fun x => ?_⟩, HF.out.andThen HF5.out (fun k hk q => by have h2 : r < k := q; have := HR.out; omega)⟩
      rw [HP5.out.1.mem_iff, HC.out.mem]
      constructor
      · rintro ⟨p, h1, h2, _⟩
        exact ⟨p, h1, h2⟩
      · rintro ⟨p, h1, h2⟩
        refine ⟨p, h1, h2, ?_, HL0.out _⟩
        rw [(HIN.out.2.2.1 p).2]
        cases hq : pg p with
        | some B => rfl
        | none =>
          obtain ⟨i, hi, hn⟩ := h2
          exact absurd (HIN.out.2.2.2.2.2.1 p i hq hi) hn
    · intro x c kl yd yp w1 cnt1 hkey hlk hv hat hrg1 hlt hg1 hs1 hen
      obtain ⟨x', ex, rfl⟩ := keyU_inv hkey
      obtain rfl : x = x' := by
        injection ex with _ ex
        omega
      rw [pgElem_mk] at hv
      have hat0 := hat (.lit (pgLit none))
      rw [(HIN.out.2.2.1 x).1] at hat0
      injection hv with hv
      injection hv with hv _
      rw [← hv] at hat0
      injection hat0 with hat0
      have hcp : pg x = c := pgLit_inj hat0
      have hhas := HC.out.left_has _ hlk
      rw [(HIN.out.2.2.1 x).2, hcp] at hhas
      cases c with
      | none => cases hhas
      | some B =>
        obtain ⟨cs, hBlk, hcells⟩ := (HIN.out.2.2.2.1 x B hcp).1.cells
        have hB := (HIN.out.2.2.2.1 x B hcp).2
        have hf1 : Fr (One r) wr w1 := (Fr.refl _ wr).grown hg1 (fun k hk => by cases hk; exact .inl rfl)
        have hBr : B < r := hB.1.2
        have hB1 : Blk w1 B 71 cs := (hBlk.fr HF.out (fun q => q)).fr hf1 (fun q => by have e : B = r := q; omega)
        obtain ⟨L, hL⟩ : ∃ L, L = cs.toList := ⟨_, rfl⟩
        have hcsL : cs = L.toArray := by rw [hL]
        rw [hcsL] at hB1 hcells
        have hseg : Seg w1 B 0 L := ⟨_, _, hB1, fun j u hu => by rw [Nat.zero_add, List.getElem?_toArray]; exact hu⟩
        have hneq := fun W => (page_eq_run hcells HZ0.out W).2
        have hlenL : L.length = 4096 := by have := hcells.1; simpa using this
        have HSEG := Lib.hid hseg
        have HNEQ := Lib.hid hneq
        have HINFO := Lib.hid (show (Try.prog.info? 71).map (·.size) = some L.length from by rw [hlenL]; exact infoPage)
        have HO1 := Lib.hid (HO.out.fr hf1 (fun k hk q => by have e : k = r := q; have h2 : r < k := hk; omega))
        have HF1 := Lib.hid (show Fr No w w1 from HF.out.andThen hf1 (fun k hk q => by have e : k = r := q; have := HR.out; omega))
        have HRG1 := Lib.hid hrg1
        have HLT := Lib.hid hlt
        have HLK := Lib.hid hlk
        have hcl := HC.out.len HK.out.1
        have hcl12 : acc.length ≤ 12 := Nat.le_trans hcl HK.out.2
        have hmbr : mb < r := by have := HOWN.out.lt; rw [HR.out]; exact this
        have HMB := Lib.hid hmbr
        unfold pgVal at hen ⊢
        clear hkey hv hat hat0 hhas hcells hBlk hf1 hB1 hL hcsL hseg hneq hlenL hrg1 hlt hg1 hlk hB hBr hcl hmbr hs1
        by_cases hnz : NZ m x
        · have hsm : samePg (fun i => m (x * 4096 + i)) (fun _ => 0) = false := by
            cases hs : samePg (fun i => m (x * 4096 + i)) (fun _ => 0) with
            | false => rfl
            | true => exact absurd hnz (samePg_nz.1 hs)
          have hneq : ∀ W : World, (binOp .neq 71 (.agg L.toArray) (.agg Try.zeroCells71)).run Try.prog W = .ok (.bool true) W := fun W => by rw [HNEQ.out W, hsm]; rfl
          have hy64 : x * 4096 < 18446744073709551616 := by
            obtain ⟨i, _, hi⟩ := hnz
            have := HSUP.out _ hi
            omega
          have hwrap : IntKind.u64.wrap ((x : Int) * 4096) = ((x * 4096 : Nat) : Int) := by rw [IntKind.wrap_u64]; omega
          obtain ⟨y, hy⟩ : ∃ y, y = x * 4096 := ⟨_, rfl⟩
          rw [← hy] at hwrap
          have HC2 := Lib.hid (HC.out.add x hnz HLK.out)
          rw [← hy] at HC2
          clear hnz hsm hy64 hy
          go_wp2_with (first
            | (refine wpList_load_seg rfl 71 (.tmp 19) rfl B 0 rfl L HSEG.out _ Try.underlying71 rfl HINFO.out ?_)
            | (at_builtin
               refine wpList_append_cells rfl (.tmp 23) (.tmp 26) _ rfl 22 i0 _ 1 8 Try.underlying42 HI0.out HI1.out HI2.out HI3.out rfl _ acc.length (uV acc) (fun k => r < k) rfl (HO1.out.fr ((Fr.refl No w1).alloc _) (fun _ _ q => q)) (some ⟨w1.heap.size, 0, none⟩) 1 1 [.int .u64 (y : Int)] rfl (fun _ => ⟨_, rfl, fun j u hu => by rw [addr_add, Nat.zero_add, (Blk.new w1 _ _).cell, List.getElem?_toArray]; exact hu⟩) rfl (by intro u hu; rw [List.mem_singleton.1 hu]; rfl) (by unfold maxLen; omega) (by omega) ?_
               intro v2 w2 hown2 hf2))
          rw [uV_snoc] at hown2
          have hl2 : (acc ++ [y]).length = acc.length + 1 := by simp
          have hf12 : Fr (fun k => r < k) w1 w2 := ((Fr.refl _ w1).alloc _).trans hf2
          have hrg2 := ranges_fr HRG1.out hf12 (fun q => by have h2 : r < mb := q; have := HMB.out; omega) (fun q => by have h2 : r < r := q; omega)
          refine ⟨⟨_, cnt1, acc ++ [y], Lib.hid hrg2, HC2, Lib.hid ?_, Lib.hid (HF1.out.andThen hf12 (fun k hk q => by have h2 : r < k := q; have := HR.out; omega))⟩, ?_⟩
          · rw [hl2]
            refine hown2.mono (fun k hk => hk.elim id (fun e => ?_))
            have h3 := HRG1.out.lt
            simp at e
            rw [e]
            omega
          · rw [hrg2.left_eq, HRG.out.left_eq]
            exact HLT.out
        · have hsm : samePg (fun i => m (x * 4096 + i)) (fun _ => 0) = true := samePg_nz.2 hnz
          have hneq : ∀ W : World, (binOp .neq 71 (.agg L.toArray) (.agg Try.zeroCells71)).run Try.prog W = .ok (.bool false) W := fun W => by rw [HNEQ.out W, hsm]; rfl
          have HC2 := Lib.hid (HC.out.skip x hnz)
          clear hnz hsm
          go_wp2_with (first
            | (refine wpList_load_seg rfl 71 (.tmp 19) rfl B 0 rfl L HSEG.out _ Try.underlying71 rfl HINFO.out ?_))
          exact ⟨⟨_, cnt1, acc, HRG1, HC2, HO1, HF1⟩, by rw [HRG1.out.left_eq, HRG.out.left_eq]; exact HLT.out⟩
end Go.Proofs.Ytpnabfekidpnoaa

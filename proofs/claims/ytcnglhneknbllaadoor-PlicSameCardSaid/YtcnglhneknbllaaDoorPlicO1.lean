/-
  The statement PlicOnce, the first part: its small functions.
-/
import Derived.Test.YtcnglhneknbllaaDoorPlicA
namespace Go.Proofs.YtcnglhneknbllaaDoor
open Go Go.RowKit

/-- Which sources have been told and not yet been completed. -/
def bzl (m : Nat) : List Value := (List.range 32).map fun k => .bool (m.testBit k)
theorem bzl_at (m k : Nat) (h : k < 32) : (bzl m)[k]? = some (.bool (m.testBit k)) := by
  unfold bzl
  rw [List.getElem?_map, List.getElem?_range h]
  rfl
/-- An interrupt controller, and beside it the row of what is busy. -/
structure Once (w0 w : World) (b bb : Nat) (s : PS) (m : Nat) : Prop where
  pic : Pic1 w0 w b s
  inv : s.Inv
  row : Seg w bb 0 (bzl m)
  ne : bb ≠ b
  new : w0.heap.size ≤ bb
namespace Once
variable {w0 w w' : World} {b bb m : Nat} {s s' : PS}
theorem keep (h : Once w0 w b bb s m) (hf : Fr No w w') : Once w0 w' b bb s m := ⟨h.pic.keep hf, h.inv, h.row.fr hf (fun h => h), h.ne, h.new⟩
theorem busyAt (h : Once w0 w b bb s m) {k : Nat} (hk : k < 32) : w.cell? ⟨bb, k, none⟩ = some (.bool (m.testBit k)) := by
  have := h.row.cell (bzl_at m k hk)
  rwa [Nat.zero_add] at this
/-- A step of the controller. -/
theorem step (h : Once w0 w b bb s m) (hi : s'.Inv) (hp : PicAt w' b 0 s') (hf : FrIn b 0 39 w w') : Once w0 w' b bb s' m :=
  ⟨h.pic.step hp hf, hi, h.row.fr hf.fr (fun q => h.ne q), h.ne, h.new⟩
theorem bzl_len (m : Nat) : (bzl m).length = 32 := by simp [bzl]
/-- One of the row's cells is written. -/
theorem mark (h : Once w0 w b bb s m) {k : Nat} (hk : k < 32) (v : Bool) : Once w0 (w.setCell ⟨bb, k, none⟩ (.bool v)) b bb s (setB m k v) := by
  have h1 := h.row.put (i := k) (by rw [bzl_len]; exact hk) (.bool v)
  rw [Nat.zero_add] at h1
  have e : (bzl m).set k (.bool v) = bzl (setB m k v) := by
    apply List.ext_getElem?
    intro j
    rw [List.getElem?_set, bzl_len]
    by_cases e1 : k = j
    · subst e1
      rw [if_pos rfl, if_pos hk, bzl_at _ _ hk, setB_at, if_pos rfl]
    · rw [if_neg e1]
      by_cases e2 : j < 32
      · rw [bzl_at _ _ e2, bzl_at _ _ e2, setB_at, if_neg (fun q => e1 q.symm)]
      · rw [List.getElem?_eq_none (by rw [bzl_len]; omega), List.getElem?_eq_none (by rw [bzl_len]; omega)]
  rw [e] at h1
  have hn := h.new
  have hl := h.pic.lt
  refine ⟨⟨h.pic.tz.fr h1.2.fr (fun q => ?_), h.pic.at_.fr h1.2.fr (fun q => h.ne q.symm), h.pic.new, h.pic.fr.andThen h1.2.fr (fun j hj q => ?_), h.pic.lt⟩, h.inv, h1.1, h.ne, h.new⟩
  · have : 1 = bb := q
    omega
  · have : j = bb := q
    omega
end Once
theorem bit_even (m k : Nat) : ((((m : Int) / 2 ^ k).tmod 2) == 1) = m.testBit k ∧ ((((m : Int) / 2 ^ k) % 2) == 1) = m.testBit k := by
  have h1 : ((m : Int) / 2 ^ k) = ((m / 2 ^ k : Nat) : Int) := by simp
  have h2 : m.testBit k = decide (m / 2 ^ k % 2 = 1) := by rw [Nat.testBit_eq_decide_div_mod_eq]
  rw [h1, h2]
  generalize m / 2 ^ k = x
  rw [Int.tmod_eq_emod_of_nonneg (by omega)]
  have key : (((x : Int) % 2) == 1) = decide (x % 2 = 1) := by
    rw [Bool.eq_iff_iff]
    simp only [beq_iff_eq, decide_eq_true_eq]
    omega
  exact ⟨key, key⟩
set_option maxRecDepth 100000 in
set_option maxHeartbeats 4000000 in
theorem stands_c (w0 w : World) (b bb : Nat) (s : PS) (h : Once w0 w b bb s s.busy) :
    Calls Tryd.prog 43 #[.pointer (some ⟨b, 0, none⟩), .pointer (some ⟨bb, 0, none⟩)] w fun e w' => e = .returned (.bool true) ∧ Once w0 w' b bb s s.busy := by
  have HO := Lib.hid h
  have hz := h.inv.ok.z0
  have hpl := h.inv.ok.pend
  have hz2 : ((s.pend : Int).tmod 2 == 0) = true ∧ ((s.pend : Int) % 2 == 0) = true := by
    have h2 : s.pend % 2 = 0 := by
      have := hz
      rw [Nat.testBit_eq_decide_div_mod_eq] at this
      have := of_decide_eq_false this
      simp at this
      omega
    refine ⟨?_, ?_⟩
    · rw [Int.tmod_eq_emod_of_nonneg (by omega), beq_iff_eq]; omega
    · rw [beq_iff_eq]; omega
  obtain ⟨z1, z2⟩ := hz2
  have hrd : s.read 4096 4 = (s, s.pend, true) := rfl
  have HR := Lib.hid hrd
  clear h hz hpl hrd
  go_enter Tryd.func43, Tryd.ntmps43
  go_wp2_with fail
  have hstep := PRead_c w b 0 s 4096 4 (by omega) HO.out.pic.at_ HO.out.pic.tz
  rw [HR.out] at hstep
  simp only [readV] at hstep
  refine hstep.mono ?_
  rintro e w1 ⟨rfl, hp, hf⟩
  have O1 := Lib.hid (HO.out.step HO.out.inv hp hf)
  clear hp hf hstep HR HO
  go_wp2_with fail
  go_loopw [7] (fun i wr => ∃ k : Nat, k ≤ 32 ∧ 1 ≤ k ∧ i = .int .i64 (k : Int) ∧ Hid (Once w0 wr b bb s s.busy)) (fun i _ => 32 - (intOf i).toNat)
  case atStart => exact ⟨1, by omega, by omega, rfl, O1⟩
  case round =>
    obtain ⟨k, hk, hk1, rfl, OK⟩ := hrel
    by_cases hlt : k < 32
    · obtain ⟨e1, e2⟩ := bit_even s.pend k
      have q := OK.out.busyAt hlt
      have hapart := OK.out.inv.apart k
      have hheld := OK.out.inv.held k
      have hq : s.upQ (k : Int) = s.up.testBit k := by unfold PS.upQ; rw [decide_eq_true (by omega), Int.toNat_natCast]; rfl
      cases hp : s.pend.testBit k
      · cases hb : s.busy.testBit k
        · cases hu : s.up.testBit k
          · rw [hp] at e1 e2
            rw [hb] at q
            rw [hu] at hq
            have HQ := Lib.hid hq
            have HB := Lib.hid hb
            clear hapart hheld hq hp hb hu
            go_wp2_with (first | refine wpList_load_seg rfl 48 _ rfl _ _ rfl _ OK.out.pic.at_.seg _ Tryd.underlying48 rfl (infoPl OK.out.pic.at_.ok) ?_ | refine wpList_load_seg_g rfl 48 _ rfl _ _ rfl _ OK.out.pic.at_.seg _ Tryd.underlying48 rfl (infoPl OK.out.pic.at_.ok) ?_)
            refine (Up_c _ s OK.out.inv.ok (k : Int)).mono ?_
            rw [HQ.out]
            rintro e w2 ⟨rfl, hf2⟩
            have O2 := Lib.hid (OK.out.keep hf2)
            have q2 := O2.out.busyAt hlt
            rw [HB.out] at q2
            clear hf2
            go_wp2_with fail
            exact ⟨⟨k + 1, by omega, by omega, rfl, O2⟩, by simp [intOf]; omega⟩
          · have := hheld hu
            rw [hp, hb] at this
            exact absurd this (by decide)
        · cases hu : s.up.testBit k
          · rw [hp] at e1 e2
            rw [hb] at q
            rw [hu] at hq
            have HQ := Lib.hid hq
            have HB := Lib.hid hb
            clear hapart hheld hq hp hb hu
            go_wp2_with (first | refine wpList_load_seg rfl 48 _ rfl _ _ rfl _ OK.out.pic.at_.seg _ Tryd.underlying48 rfl (infoPl OK.out.pic.at_.ok) ?_ | refine wpList_load_seg_g rfl 48 _ rfl _ _ rfl _ OK.out.pic.at_.seg _ Tryd.underlying48 rfl (infoPl OK.out.pic.at_.ok) ?_)
            refine (Up_c _ s OK.out.inv.ok (k : Int)).mono ?_
            rw [HQ.out]
            rintro e w2 ⟨rfl, hf2⟩
            have O2 := Lib.hid (OK.out.keep hf2)
            have q2 := O2.out.busyAt hlt
            rw [HB.out] at q2
            clear hf2
            go_wp2_with fail
            exact ⟨⟨k + 1, by omega, by omega, rfl, O2⟩, by simp [intOf]; omega⟩
          · rw [hp] at e1 e2
            rw [hb] at q
            rw [hu] at hq
            have HQ := Lib.hid hq
            have HB := Lib.hid hb
            clear hapart hheld hq hp hb hu
            go_wp2_with (first | refine wpList_load_seg rfl 48 _ rfl _ _ rfl _ OK.out.pic.at_.seg _ Tryd.underlying48 rfl (infoPl OK.out.pic.at_.ok) ?_ | refine wpList_load_seg_g rfl 48 _ rfl _ _ rfl _ OK.out.pic.at_.seg _ Tryd.underlying48 rfl (infoPl OK.out.pic.at_.ok) ?_)
            refine (Up_c _ s OK.out.inv.ok (k : Int)).mono ?_
            rw [HQ.out]
            rintro e w2 ⟨rfl, hf2⟩
            have O2 := Lib.hid (OK.out.keep hf2)
            have q2 := O2.out.busyAt hlt
            rw [HB.out] at q2
            clear hf2
            go_wp2_with fail
            exact ⟨⟨k + 1, by omega, by omega, rfl, O2⟩, by simp [intOf]; omega⟩
      · have hb := hapart hp
        cases hu : s.up.testBit k
        · rw [hp] at e1 e2
          rw [hb] at q
          rw [hu] at hq
          have HQ := Lib.hid hq
          have HB := Lib.hid hb
          clear hapart hheld hq hp hb hu
          go_wp2_with (first | refine wpList_load_seg rfl 48 _ rfl _ _ rfl _ OK.out.pic.at_.seg _ Tryd.underlying48 rfl (infoPl OK.out.pic.at_.ok) ?_ | refine wpList_load_seg_g rfl 48 _ rfl _ _ rfl _ OK.out.pic.at_.seg _ Tryd.underlying48 rfl (infoPl OK.out.pic.at_.ok) ?_)
          refine (Up_c _ s OK.out.inv.ok (k : Int)).mono ?_
          rw [HQ.out]
          rintro e w2 ⟨rfl, hf2⟩
          have O2 := Lib.hid (OK.out.keep hf2)
          have q2 := O2.out.busyAt hlt
          rw [HB.out] at q2
          clear hf2
          go_wp2_with fail
          exact ⟨⟨k + 1, by omega, by omega, rfl, O2⟩, by simp [intOf]; omega⟩
        · rw [hp] at e1 e2
          rw [hb] at q
          rw [hu] at hq
          have HQ := Lib.hid hq
          have HB := Lib.hid hb
          clear hapart hheld hq hp hb hu
          go_wp2_with (first | refine wpList_load_seg rfl 48 _ rfl _ _ rfl _ OK.out.pic.at_.seg _ Tryd.underlying48 rfl (infoPl OK.out.pic.at_.ok) ?_ | refine wpList_load_seg_g rfl 48 _ rfl _ _ rfl _ OK.out.pic.at_.seg _ Tryd.underlying48 rfl (infoPl OK.out.pic.at_.ok) ?_)
          refine (Up_c _ s OK.out.inv.ok (k : Int)).mono ?_
          rw [HQ.out]
          rintro e w2 ⟨rfl, hf2⟩
          have O2 := Lib.hid (OK.out.keep hf2)
          have q2 := O2.out.busyAt hlt
          rw [HB.out] at q2
          clear hf2
          go_wp2_with fail
          exact ⟨⟨k + 1, by omega, by omega, rfl, O2⟩, by simp [intOf]; omega⟩
    · go_wp2_with fail
      go_ret
      have h9 := OK.out.inv.ok.pend
      exact ⟨by simp; omega, OK.out⟩
end Go.Proofs.YtcnglhneknbllaaDoor

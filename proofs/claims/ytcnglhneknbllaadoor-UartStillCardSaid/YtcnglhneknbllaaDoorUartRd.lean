/-
  What the statements' function reads reads, one offset behind the other.
-/
import Derived.Test.YtcnglhneknbllaaDoorUart2
namespace Go.Proofs.YtcnglhneknbllaaDoor
open Go Go.RowKit

/-- What stands at offsets, one behind the other. -/
def US.reads (s : US) : List Nat → US × List Nat
  | [] => (s, [])
  | o :: r => (((s.get o).1.reads r).1, (s.get o).2 :: ((s.get o).1.reads r).2)
abbrev u64v (n : Nat) : Value := .int .u64 (n : Int)
/-- Where a row that can be read lies. -/
theorem Rd.place {w : World} {v : Value} {n : Nat} {xs : List Value} (h : Rd w v n xs) (hx : 0 < xs.length) :
    ∃ g o c, v = .slice (some ⟨g, o, none⟩) n c ∧ g < w.heap.size ∧ n ≤ c ∧ c ≤ maxLen ∧ ∀ j u, xs[j]? = some u → w.cell? ⟨g, o + j, none⟩ = some u := by
  obtain ⟨a, c, rfl, h2, h3, h4, h5⟩ := h
  cases a with
  | none => have := (h4 rfl).2.2; rw [this] at hx; exact absurd hx (Nat.lt_irrefl 0)
  | some ad =>
    obtain ⟨g, o, sp⟩ := ad
    have h0 := h5 _ rfl 0 xs[0] (List.getElem?_eq_getElem hx)
    cases sp with
    | none =>
      refine ⟨g, o, c, rfl, ?_, h2, h3, fun j u hu => ?_⟩
      · have := World.block_lt_of_cell? w _ h0
        rwa [addr_add] at this
      · have := h5 _ rfl j u hu
        rwa [addr_add] at this
    | some sp =>
      exfalso
      have hsp : (⟨g, o, some sp⟩ : Addr).add 0 = ⟨g, o, some sp⟩ := rfl
      rw [hsp] at h0
      unfold World.cell? at h0
      split at h0 <;> simp at h0

set_option maxRecDepth 100000 in
set_option maxHeartbeats 2000000 in
theorem reads_c (w : World) (b : Nat) (s : US) (F : Nat → Prop) (ls : List Nat) (v : Value) (hr : Rd w v ls.length (ls.map u64v)) (hF : ∀ a c, v = .slice (some a) ls.length c → ¬ F a.block) (h7 : ∀ o ∈ ls, o ≤ 7) (hl : ls.length ≤ 100) (h : UartAt w b s F) :
    Calls Tryd.prog 36 #[.pointer (some ⟨b, 0, none⟩), v] w fun e w' => ∃ v', e = .returned v' ∧ Own w' 5 1 v' ls.length (bytesV (s.reads ls).2) (fun k => w.heap.size ≤ k ∧ k < w'.heap.size) ∧ UartAt w' b (s.reads ls).1 F ∧ Fr F w w' := by
  have HR := Lib.hid hr
  have HFF := Lib.hid hF
  have H7 := Lib.hid h7
  have HU := Lib.hid h
  have HB := Lib.hid h.bound
  obtain ⟨i0, hi0, hz0, hz1, hz2⟩ := info_parts info_u8
  have HI := Lib.hid hi0
  have H0 := Lib.hid hz0
  have H1 := Lib.hid hz1
  have H2 := Lib.hid hz2
  obtain ⟨a, c, rfl, hnc, hcm, _, _⟩ := hr
  obtain ⟨n, hn⟩ : ∃ n, n = ls.length := ⟨_, rfl⟩
  rw [← hn] at HR hnc hl HFF ⊢
  have HN := Lib.hid hn
  unfold maxLen at hcm
  clear hF h7 h hi0 hz0 hz1 hz2 hn
  go_enter Tryd.func36, Tryd.ntmps36
  go_wp2_with fail
  go_loopw [5, 6] (fun u i wr => ∃ (k : Nat) (s1 : US) (acc : List Nat), k ≤ n ∧ i = .int .i64 (k : Int) ∧ Hid (UartAt wr b s1 F) ∧ Hid (Own wr 5 1 u k (bytesV acc) (fun k => w.heap.size ≤ k ∧ k < wr.heap.size)) ∧ Hid (Fr F w wr) ∧ Hid (s.reads ls = ((s1.reads (ls.drop k)).1, acc ++ (s1.reads (ls.drop k)).2))) (fun _ i _ => n - (intOf i).toNat)
  case atStart => exact ⟨0, s, [], Nat.zero_le _, rfl, HU, Lib.hid (Own.nil_ _ _ _ _), Lib.hid (Fr.refl _ _), Lib.hid rfl⟩
  case round =>
    obtain ⟨k, s1, acc, hkn, rfl, HA, HO, HW, HE⟩ := hrel
    by_cases hlt : k < n
    · have hlt' : k < ls.length := by rw [← HN.out]; exact hlt
      obtain ⟨x, hx⟩ : ∃ x, x = ls[k] := ⟨_, rfl⟩
      have hx7 := H7.out _ (List.getElem_mem hlt')
      obtain ⟨g, o, c', hv, _, _, _, hcell⟩ := (HR.out.fr HW.out HFF.out).place (by rw [List.length_map]; omega)
      cases hv
      have q0 := hcell k (u64v x) (by rw [List.getElem?_map, List.getElem?_eq_getElem hlt', hx]; rfl)
      have hdrop : ls.drop k = x :: ls.drop (k + 1) := by rw [hx]; exact List.drop_eq_getElem_cons hlt'
      rw [← hx] at hx7
      have HE2 : Hid (s.reads ls = (((s1.get x).1.reads (ls.drop (k + 1))).1, (acc ++ [(s1.get x).2]) ++ ((s1.get x).1.reads (ls.drop (k + 1))).2)) := by
        have := HE.out
        rw [hdrop] at this
        refine Lib.hid ?_
        rw [this, List.append_assoc]
        rfl
      have hrd : s1.read x 1 = ((s1.get x).1, (s1.get x).2, true) := by unfold US.read; rw [if_neg (by omega)]
      obtain ⟨y, hy⟩ : ∃ y, y = (s1.get x).2 := ⟨_, rfl⟩
      have hy8 : y < 256 := by rw [hy]; exact (HA.out.ok.get x).2
      have hyw : IntKind.u8.wrap (y : Int) = (y : Int) := by rw [IntKind.wrap_u8']; omega
      rw [← hy] at hrd HE2
      have HRD := Lib.hid hrd
      have HX7 := Lib.hid hx7
      clear hcell hx hdrop hx7 hrd HE hy
      go_wp2_with fail
      refine (Read_c _ b s1 F x 1 (by have := HX7.out; omega) HA.out).mono ?_
      rw [HRD.out]
      rintro e w2 ⟨rfl, hu2, hf2⟩
      have U2 := Lib.hid hu2
      have F2 := Lib.hid (HW.out.trans hf2)
      have O2 := Lib.hid ((HO.out.fr (hf2.alloc (.cells #[u8v y] 5)) (fun j hj hF => by have := HB.out j hF; omega)).mono (G' := fun k => w.heap.size ≤ k ∧ k < w2.heap.size) (fun j hj => ⟨hj.1, Nat.lt_of_lt_of_le hj.2 hf2.size⟩))
      have R2 := Lib.hid (Rd.new w2 5 [u8v y] 1 (by unfold maxLen; omega))
      clear hu2 hf2
      go_wp2_with
       (at_builtin
        refine wpList_append _ rfl (.tmp 30) (.tmp 33) _ rfl 5 i0 _ 1 1 Tryd.underlying27 HI.out H0.out H1.out H2.out rfl _ k (bytesV acc) _ rfl O2.out _ 1 [u8v y] rfl R2.out rfl (bytesV_one [y]) (by unfold maxLen; omega) (by omega) ?_
        intro v3 w3 hown3 hf3
        have O3 := Lib.hid hown3
        have F3 := Lib.hid hf3
        clear hown3 hf3)
      have F4 : Hid (Fr F w w3) := Lib.hid ((F2.out.alloc _).andThen F3.out (fun j hj hG => by exfalso; omega))
      refine ⟨⟨k + 1, (s1.get x).1, acc ++ [y], hlt, rfl, ?_, ?_, F4, HE2⟩, by simp [intOf]; omega⟩
      · exact Lib.hid ((U2.out.fr ((Fr.refl No w2).alloc _) (fun _ _ h => h)).fr F3.out (fun j hj hG => by have := HB.out j hj; omega))
      · refine Lib.hid ?_
        rw [bytesV_app]
        have hs := F3.out.size
        rw [World.size_alloc] at hs
        refine O3.out.cut.mono (fun j hj => ⟨?_, hj.2⟩)
        have h2 := F2.out.size
        rcases hj.1 with h | h
        · exact h.1
        · rw [h, World.size_alloc]; omega
    · obtain rfl : k = n := by omega
      have he := HE.out
      rw [HN.out, List.drop_length, show s1.reads [] = (s1, []) from rfl] at he
      simp only [List.append_nil] at he
      have HE2 := Lib.hid he
      clear he
      go_wp2_with fail
      go_ret
      refine ⟨_, rfl, ?_, ?_, HW.out⟩
      · rw [HE2.out]; exact HO.out
      · rw [HE2.out]; exact HA.out
end Go.Proofs.YtcnglhneknbllaaDoor

/-
  Two of the program's serial lines beside each other.
-/
import Derived.Test.YtcnglhneknbllaaDoorUartP
import Derived.Test.YtcnglhneknbllaaDoorUartS
import Derived.Test.YtcnglhneknbllaaDoorUartRd
namespace Go.Proofs.YtcnglhneknbllaaDoor
open Go Go.RowKit

/-- Two lines, apart. -/
structure Duo (X : Nat → Prop) (w : World) (bu : Nat) (su : US) (bt : Nat) (st : US) : Prop where
  gr : Ground X w
  lines : ∃ F T, UartAt w bu su F ∧ UartAt w bt st T ∧ (∀ k, F k → ¬ T k) ∧ (∀ k, F k → ¬ X k) ∧ (∀ k, T k → ¬ X k)
namespace Duo
variable {X : Nat → Prop} {w w' : World} {bu bt : Nat} {su st : US}
theorem fr (h : Duo X w bu su bt st) (hf : Fr No w w') : Duo X w' bu su bt st := by
  obtain ⟨h0, F, G, h1, h2, h3, h4, h5⟩ := h
  exact ⟨h0.keep (hf.keep (fun _ h => h.elim)), F, G, h1.fr hf (fun _ _ h => h), h2.fr hf (fun _ _ h => h), h3, h4, h5⟩
theorem of_twin {b' : Nat} (h : Alone X w bu su) (ht : UartAt w' b' su (fun k => w.heap.size ≤ k ∧ k < w'.heap.size)) (hf : Fr No w w') : Duo X w' bu su b' su := by
  obtain ⟨g, F, h1, h2⟩ := h
  exact ⟨g.keep (hf.keep (fun _ h => h.elim)), F, _, h1.fr hf (fun _ _ h => h), ht, fun k hk hg => by have := h1.bound k hk; omega, h2, fun k hk hx => by have := g.bound k hx; omega⟩
theorem left (h : Duo X w bu su bt st) : ∃ F, UartAt w bu su F ∧ KeptAt w ∧ ¬ F 0 ∧ ∀ w' s', UartAt w' bu s' (Plus F w w') → Fr F w w' → Duo X w' bu s' bt st ∧ Keep X w w' := by
  obtain ⟨h0, F, G, h1, h2, h3, h4, h5⟩ := h
  refine ⟨F, h1, h0.kept, fun hn => h4 _ hn h0.zero, fun w' s' hu hf => ⟨⟨h0.keep (hf.keep h4), Plus F w w', G, hu, h2.fr hf (fun k hk hk' => h3 k hk' hk), fun k hk => ?_, fun k hk hx => ?_, h5⟩, hf.keep h4⟩⟩
  · rcases hk with hk | hk
    · exact h3 k hk
    · intro hg; have := h2.bound k hg; omega
  · rcases hk with hk | hk
    · exact h4 k hk hx
    · have := h0.bound k hx; omega
theorem right (h : Duo X w bu su bt st) : ∃ T, UartAt w bt st T := by
  obtain ⟨h0, F, G, h1, h2, h3, h4, h5⟩ := h
  exact ⟨G, h2⟩
theorem alloc (h : Duo X w bu su bt st) (o : Obj) : Duo (And1 X w.heap.size) (w.alloc o) bu su bt st := by
  obtain ⟨h0, F, G, h1, h2, h3, h4, h5⟩ := h
  have hf := (Fr.refl No w).alloc o
  have hk := h0.keep (hf.keep (fun _ h => h.elim))
  refine ⟨⟨hk.kept, .inl hk.zero, fun k hk' => ?_⟩, F, G, h1.fr hf (fun _ _ h => h), h2.fr hf (fun _ _ h => h), h3, fun k hk hx => ?_, fun k hk hx => ?_⟩
  · rcases hk' with h | h
    · exact hk.bound k h
    · rw [h]; simp
  · rcases hx with h | h
    · exact h4 k hk h
    · have := h1.bound k hk; omega
  · rcases hx with h | h
    · exact h5 k hk h
    · have := h2.bound k hk; omega
end Duo
section
variable {X : Nat → Prop} {w : World} {bu bt : Nat} {su st : US}
theorem dWrite (off : Nat) (n : Int) (v : Nat) (hoff : off < 18446744073709551616) (h : Duo X w bu su bt st) :
    Calls Tryd.prog 16 #[.pointer (some ⟨bu, 0, none⟩), .int .u64 (off : Int), .int .i64 n, .int .u64 (v : Int)] w fun e w' => e = .returned (.bool (su.write off n v).2) ∧ Duo X w' bu (su.write off n v).1 bt st ∧ Keep X w w' := by
  obtain ⟨F, h1, h2, h3, h4⟩ := h.left
  exact (Write_c w bu su F off n v hoff h1 h2 h3).mono fun e w' ⟨he, hu, hf⟩ => ⟨he, h4 _ _ hu hf⟩
theorem dReads (ls : List Nat) (v : Value) (hr : Rd w v ls.length (ls.map u64v)) (h : Duo X w bu su bt st) (hv : ∀ a c, v = .slice (some a) ls.length c → X a.block) (h7 : ∀ o ∈ ls, o ≤ 7) (hl : ls.length ≤ 100) :
    Calls Tryd.prog 36 #[.pointer (some ⟨bu, 0, none⟩), v] w fun e w' => ∃ v', e = .returned v' ∧ Own w' 5 1 v' ls.length (bytesV (su.reads ls).2) (fun k => w.heap.size ≤ k ∧ k < w'.heap.size) ∧ Duo X w' bu (su.reads ls).1 bt st ∧ Keep X w w' := by
  obtain ⟨h0, F, G, h1, h2, h3, h4, h5⟩ := h
  have hd : Duo X w bu su bt st := ⟨h0, F, G, h1, h2, h3, h4, h5⟩
  exact (reads_c w bu su F ls v hr (fun a c hv' hF => h4 _ hF (hv a c hv')) h7 hl h1).mono fun e w' ⟨v', he, ho, hu, hf⟩ =>
    ⟨v', he, ho, ⟨h0.keep (hf.keep h4), Plus F w w', G, hu.plus, h2.fr hf (fun k hk hk' => h3 k hk' hk), fun k hk hg => by
      rcases hk with hk | hk
      · exact h3 k hk hg
      · have := h2.bound k hg; omega, fun k hk hx => by
      rcases hk with hk | hk
      · exact h4 k hk hx
      · have := h0.bound k hx; omega, h5⟩, hf.keep h4⟩
theorem dSame (h : Duo X w bu su bt st) : Calls Tryd.prog 34 #[.pointer (some ⟨bu, 0, none⟩), .pointer (some ⟨bt, 0, none⟩)] w fun e w' => e = .returned (.bool (decide (su = st))) ∧ ∃ n, w' = w.drewN n := by
  obtain ⟨F, h1, _⟩ := h.left
  obtain ⟨T, h2⟩ := h.right
  exact Same_c w bu bt su st F T h1 h2
theorem dOut (h : Duo X w bu su bt st) : Calls Tryd.prog 17 #[.pointer (some ⟨bu, 0, none⟩)] w fun e w' => ∃ v', e = .returned v' ∧ Own w' 5 1 v' su.out.length (bytesV su.out) (fun k => w.heap.size ≤ k ∧ k < w'.heap.size) ∧ Fr No w w' := by
  obtain ⟨F, h1, _⟩ := h.left
  exact Out_c w bu su F h1
theorem dOut2 (h : Duo X w bu su bt st) : Calls Tryd.prog 17 #[.pointer (some ⟨bt, 0, none⟩)] w fun e w' => ∃ v', e = .returned v' ∧ Own w' 5 1 v' st.out.length (bytesV st.out) (fun k => w.heap.size ≤ k ∧ k < w'.heap.size) ∧ Fr No w w' := by
  obtain ⟨T, h2⟩ := h.right
  exact Out_c w bt st T h2
theorem dWaiting (h : Duo X w bu su bt st) : Calls Tryd.prog 20 #[.pointer (some ⟨bu, 0, none⟩)] w fun e w' => e = .returned (.int .i64 (su.inn.length : Nat)) ∧ w = w' := by
  obtain ⟨F, h1, _⟩ := h.left
  exact Waiting_c w bu su F h1
theorem dWaiting2 (h : Duo X w bu su bt st) : Calls Tryd.prog 20 #[.pointer (some ⟨bt, 0, none⟩)] w fun e w' => e = .returned (.int .i64 (st.inn.length : Nat)) ∧ w = w' := by
  obtain ⟨T, h2⟩ := h.right
  exact Waiting_c w bt st T h2
end
/-- What is written at 7, 4, 3 and 1, and what is read there. -/
def US.wrote (s : US) (v : Nat) : US := ((((s.write 7 1 v).1.write 4 1 v).1.write 3 1 (v % 128)).1.write 1 1 v).1
theorem US.wrote_reads (s : US) (v : Nat) : (s.wrote v).reads [7, 4, 3, 1] = (s.wrote v, [v % 256, v % 256 % 32, v % 128, v % 256 % 16]) ∧ (s.wrote v).out = s.out ∧ (s.wrote v).inn = s.inn := by
  have h7 : (v % 128).testBit 7 = false := by
    rw [Nat.testBit, Nat.shiftRight_eq_div_pow, Nat.and_comm, Nat.and_one_is_mod]
    have : v % 128 / 2 ^ 7 = 0 := by omega
    rw [this]; rfl
  have h8 : v % 128 % 256 = v % 128 := by omega
  simp [US.wrote, US.write, US.put, US.reads, US.get, US.latch, h7, h8]
end Go.Proofs.YtcnglhneknbllaaDoor

/-
  A serial line beside two rows of bytes that a statement keeps of its own: what came in, and what was sent.
-/
import Derived.Test.YtcnglhneknbllaaDoorUartP
import Derived.Test.YtcnglhneknbllaaDoorOwo
namespace Go.Proofs.YtcnglhneknbllaaDoor
open Go Go.RowKit

/-- A line, and two rows of bytes, pairwise apart. -/
structure Desk (X : Nat → Prop) (w : World) (b : Nat) (s : US) (vi : Value) (li : List Nat) (vo : Value) (lo : List Nat) : Prop where
  gr : Ground X w
  parts : ∃ F Gi Go, UartAt w b s F ∧ Owo w 5 vi li.length (bytesV li) Gi ∧ Owo w 5 vo lo.length (bytesV lo) Go ∧
    (∀ k, F k → ¬ Gi k ∧ ¬ Go k) ∧ (∀ k, Gi k → ¬ Go k) ∧ (∀ k, F k → ¬ X k) ∧ (∀ k, Gi k → ¬ X k ∧ k < w.heap.size) ∧ (∀ k, Go k → ¬ X k ∧ k < w.heap.size)
theorem Owo.slice {w : World} {e : TypeId} {v : Value} {n : Nat} {xs : List Value} {G : Nat → Prop} (h : Owo w e v n xs G) : ∃ a c, v = .slice a n c ∧ n ≤ c ∧ c ≤ maxLen := by
  rcases h.2 with ⟨rfl, rfl⟩ | ⟨g, o, c, cur, rfl, h2, h3, h4, h5, h6⟩
  · exact ⟨none, 0, rfl, Nat.le_refl _, by unfold maxLen; omega⟩
  · exact ⟨_, c, rfl, h4, h5⟩
namespace Desk
variable {X : Nat → Prop} {w w' : World} {b : Nat} {s : US} {vi vo : Value} {li lo : List Nat}
theorem start (h : Alone X w b s) : Desk X w b s (.slice none 0 0) [] (.slice none 0 0) [] := by
  obtain ⟨g, F, h1, h2⟩ := h
  exact ⟨g, F, No, No, h1, Owo.nil_ _ _ _, Owo.nil_ _ _ _, fun _ _ => ⟨fun h => h, fun h => h⟩, fun _ h => h.elim, h2, fun _ h => h.elim, fun _ h => h.elim⟩
theorem fr (h : Desk X w b s vi li vo lo) (hf : Fr No w w') : Desk X w' b s vi li vo lo := by
  obtain ⟨g, F, Gi, Go, h1, h2, h3, h4, h5, h6, h7, h8⟩ := h
  exact ⟨g.keep (hf.keep (fun _ h => h.elim)), F, Gi, Go, h1.fr hf (fun _ _ h => h), h2.fr hf (fun _ _ h => h), h3.fr hf (fun _ _ h => h), h4, h5, h6,
    fun k hk => ⟨(h7 k hk).1, Nat.lt_of_lt_of_le (h7 k hk).2 hf.size⟩, fun k hk => ⟨(h8 k hk).1, Nat.lt_of_lt_of_le (h8 k hk).2 hf.size⟩⟩
theorem alloc (h : Desk X w b s vi li vo lo) (o : Obj) : Desk (And1 X w.heap.size) (w.alloc o) b s vi li vo lo := by
  obtain ⟨g, F, Gi, Go, h1, h2, h3, h4, h5, h6, h7, h8⟩ := h
  have hf := (Fr.refl No w).alloc o
  have hs := hf.size
  have hk := g.keep (hf.keep (fun _ h => h.elim))
  refine ⟨⟨hk.kept, .inl hk.zero, fun k hk' => ?_⟩, F, Gi, Go, h1.fr hf (fun _ _ h => h), h2.fr hf (fun _ _ h => h), h3.fr hf (fun _ _ h => h), h4, h5, fun k hk hx => ?_, fun k hk => ⟨fun hx => ?_, ?_⟩, fun k hk => ⟨fun hx => ?_, ?_⟩⟩
  · rcases hk' with h | h
    · exact hk.bound k h
    · rw [h]; simp
  · rcases hx with h | h
    · exact h6 k hk h
    · have := h1.bound k hk; omega
  · rcases hx with h | h
    · exact (h7 k hk).1 h
    · have := (h7 k hk).2; omega
  · have := (h7 k hk).2; omega
  · rcases hx with h | h
    · exact (h8 k hk).1 h
    · have := (h8 k hk).2; omega
  · have := (h8 k hk).2; omega
theorem weaken {Y : Nat → Prop} (h : Desk X w b s vi li vo lo) (hY : ∀ k, Y k → X k) (h0 : Y 0) : Desk Y w b s vi li vo lo := by
  obtain ⟨g, F, Gi, Go, h1, h2, h3, h4, h5, h6, h7, h8⟩ := h
  exact ⟨⟨g.kept, h0, fun k hk => g.bound k (hY k hk)⟩, F, Gi, Go, h1, h2, h3, h4, h5, fun k hk hy => h6 k hk (hY k hy), fun k hk => ⟨fun hy => (h7 k hk).1 (hY k hy), (h7 k hk).2⟩, fun k hk => ⟨fun hy => (h8 k hk).1 (hY k hy), (h8 k hk).2⟩⟩
/-- A step of the line. -/
theorem line (h : Desk X w b s vi li vo lo) : ∃ F, UartAt w b s F ∧ KeptAt w ∧ ¬ F 0 ∧ ∀ w' s', UartAt w' b s' (Plus F w w') → Fr F w w' → Desk X w' b s' vi li vo lo ∧ Keep X w w' := by
  obtain ⟨g, F, Gi, Go, h1, h2, h3, h4, h5, h6, h7, h8⟩ := h
  refine ⟨F, h1, g.kept, fun hn => h6 _ hn g.zero, fun w' s' hu hf => ⟨⟨g.keep (hf.keep h6), Plus F w w', Gi, Go, hu, h2.fr hf (fun k hk hk' => (h4 k hk').1 hk), h3.fr hf (fun k hk hk' => (h4 k hk').2 hk), fun k hk => ?_, h5, fun k hk hx => ?_,
    fun k hk => ⟨(h7 k hk).1, Nat.lt_of_lt_of_le (h7 k hk).2 hf.size⟩, fun k hk => ⟨(h8 k hk).1, Nat.lt_of_lt_of_le (h8 k hk).2 hf.size⟩⟩, hf.keep h6⟩⟩
  · rcases hk with hk | hk
    · exact h4 k hk
    · exact ⟨fun hg => by have := (h7 k hg).2; omega, fun hg => by have := (h8 k hg).2; omega⟩
  · rcases hk with hk | hk
    · exact h6 k hk hx
    · have := g.bound k hx; omega
/-- A step of what came in. -/
theorem inn (h : Desk X w b s vi li vo lo) : ∃ Gi, Owo w 5 vi li.length (bytesV li) Gi ∧ ∀ w' vi' li', Owo w' 5 vi' li'.length (bytesV li') (fun k => Gi k ∨ w.heap.size ≤ k) → Fr Gi w w' → Desk X w' b s vi' li' vo lo ∧ Keep X w w' := by
  obtain ⟨g, F, Gi, Go, h1, h2, h3, h4, h5, h6, h7, h8⟩ := h
  refine ⟨Gi, h2, fun w' vi' li' hu hf => ⟨⟨g.keep (hf.keep fun k hk => (h7 k hk).1), F, _, Go, h1.fr hf (fun k hk hk' => (h4 k hk).1 hk'), hu.cut, h3.fr hf (fun k hk hk' => h5 k hk' hk), fun k hk => ⟨?_, (h4 k hk).2⟩, fun k hk hg => ?_, h6, fun k hk => ⟨fun hx => ?_, hk.2⟩,
    fun k hk => ⟨(h8 k hk).1, Nat.lt_of_lt_of_le (h8 k hk).2 hf.size⟩⟩, hf.keep fun k hk => (h7 k hk).1⟩⟩
  · rintro ⟨hg | hg, _⟩
    · exact (h4 k hk).1 hg
    · have := h1.bound k hk; omega
  · rcases hk.1 with hk | hk
    · exact h5 k hk hg
    · have := (h8 k hg).2; omega
  · rcases hk.1 with hk | hk
    · exact (h7 k hk).1 hx
    · have := g.bound k hx; omega
/-- A step of what was sent. -/
theorem out (h : Desk X w b s vi li vo lo) : ∃ Go, Owo w 5 vo lo.length (bytesV lo) Go ∧ ∀ w' vo' lo', Owo w' 5 vo' lo'.length (bytesV lo') (fun k => Go k ∨ w.heap.size ≤ k) → Fr Go w w' → Desk X w' b s vi li vo' lo' ∧ Keep X w w' := by
  obtain ⟨g, F, Gi, Go, h1, h2, h3, h4, h5, h6, h7, h8⟩ := h
  refine ⟨Go, h3, fun w' vi' li' hu hf => ⟨⟨g.keep (hf.keep fun k hk => (h8 k hk).1), F, Gi, _, h1.fr hf (fun k hk hk' => (h4 k hk).2 hk'), h2.fr hf (fun k hk hk' => h5 k hk hk'), hu.cut, fun k hk => ⟨(h4 k hk).1, ?_⟩, fun k hk hg => ?_, h6, fun k hk => ⟨(h7 k hk).1, Nat.lt_of_lt_of_le (h7 k hk).2 hf.size⟩,
    fun k hk => ⟨fun hx => ?_, hk.2⟩⟩, hf.keep fun k hk => (h8 k hk).1⟩⟩
  · rintro ⟨hg | hg, _⟩
    · exact (h4 k hk).2 hg
    · have := h1.bound k hk; omega
  · rcases hg.1 with hg | hg
    · exact h5 k hk hg
    · have := (h7 k hk).2; omega
  · rcases hk.1 with hk | hk
    · exact (h8 k hk).1 hx
    · have := g.bound k hx; omega
/-- Nothing has come in. -/
theorem none_in (h : Desk X w b s vi li vo lo) : Desk X w b s (.slice none 0 0) [] vo lo := by
  obtain ⟨Gi, _, h2⟩ := h.inn
  exact (h2 w (.slice none 0 0) [] (Owo.nil_ _ _ _) (Fr.refl _ _)).1
/-- Where the first byte that came in lies, and the row without it. -/
theorem first {x : Nat} {r : List Nat} (h : Desk X w b s vi (x :: r) vo lo) : ∃ g o c, vi = .slice (some ⟨g, o, none⟩) (r.length + 1) c ∧ r.length + 1 ≤ c ∧ c ≤ maxLen ∧ w.cell? ⟨g, o, none⟩ = some (u8v x) ∧
    Desk X w b s (if c = 1 then .slice (some ⟨g, o, none⟩) 0 0 else .slice (some ⟨g, o + 1, none⟩) r.length (c - 1)) r vo lo := by
  obtain ⟨Gi, h1, h2⟩ := h.inn
  obtain ⟨g, o, c, rfl, hc, hm, _, _, hcell⟩ := h1.at_ (by simp)
  rw [List.length_cons] at hc h1
  have ht := Owo.tail h1
  refine ⟨g, o, c, by rw [List.length_cons], hc, hm, hcell 0 (u8v x) rfl, (h2 w _ r ?_ (Fr.refl _ _)).1⟩
  split
  · rename_i e
    obtain ⟨ht, hr⟩ := ht.2 e
    rw [hr]
    exact ht.mono fun _ h => .inl h
  · exact ht.1.mono fun _ h => .inl h
/-- Both rows can be read. -/
theorem rdo (h : Desk X w b s vi li vo lo) : Rd w vo lo.length (bytesV lo) := by
  obtain ⟨_, h1, _⟩ := h.out
  exact h1.rd
theorem slices (h : Desk X w b s vi li vo lo) : ∃ ai ci ao co, vi = .slice ai li.length ci ∧ vo = .slice ao lo.length co ∧ li.length ≤ ci ∧ ci ≤ maxLen ∧ lo.length ≤ co ∧ co ≤ maxLen := by
  obtain ⟨_, h1, _⟩ := h.inn
  obtain ⟨_, h2, _⟩ := h.out
  obtain ⟨ai, ci, h3, h4, h5⟩ := h1.slice
  obtain ⟨ao, co, h6, h7, h8⟩ := h2.slice
  exact ⟨ai, ci, ao, co, h3, h6, h4, h5, h7, h8⟩
end Desk
section
variable {X : Nat → Prop} {w : World} {b : Nat} {s : US} {vi vo : Value} {li lo : List Nat}
theorem kFeed (x : Nat) (hx : x < 256) (h : Desk X w b s vi li vo lo) :
    Calls Tryd.prog 19 #[.pointer (some ⟨b, 0, none⟩), .int .u8 (x : Int)] w fun e w' => e = .returned (.bool (s.feed x).2) ∧ Desk X w' b (s.feed x).1 vi li vo lo ∧ Keep X w w' := by
  obtain ⟨F, h1, h2, h3, h4⟩ := h.line
  exact (Feed_c w b s F x hx h1).mono fun e w' ⟨he, hu, hf⟩ => ⟨he, h4 _ _ hu hf⟩
theorem kWrite (off : Nat) (n : Int) (v : Nat) (hoff : off < 18446744073709551616) (h : Desk X w b s vi li vo lo) :
    Calls Tryd.prog 16 #[.pointer (some ⟨b, 0, none⟩), .int .u64 (off : Int), .int .i64 n, .int .u64 (v : Int)] w fun e w' => e = .returned (.bool (s.write off n v).2) ∧ Desk X w' b (s.write off n v).1 vi li vo lo ∧ Keep X w w' := by
  obtain ⟨F, h1, h2, h3, h4⟩ := h.line
  exact (Write_c w b s F off n v hoff h1 h2 h3).mono fun e w' ⟨he, hu, hf⟩ => ⟨he, h4 _ _ hu hf⟩
theorem kRead (off : Nat) (n : Int) (hoff : off < 18446744073709551616) (h : Desk X w b s vi li vo lo) :
    Calls Tryd.prog 18 #[.pointer (some ⟨b, 0, none⟩), .int .u64 (off : Int), .int .i64 n] w fun e w' => e = .returned (.tuple #[.int .u64 ((s.read off n).2.1 : Nat), .bool (s.read off n).2.2]) ∧ Desk X w' b (s.read off n).1 vi li vo lo ∧ Keep X w w' := by
  obtain ⟨F, h1, h2, h3, h4⟩ := h.line
  exact (Read_c w b s F off n hoff h1).mono fun e w' ⟨he, hu, hf⟩ => ⟨he, h4 _ _ hu.plus hf⟩
theorem kWaiting (h : Desk X w b s vi li vo lo) : Calls Tryd.prog 20 #[.pointer (some ⟨b, 0, none⟩)] w fun e w' => e = .returned (.int .i64 (s.inn.length : Nat)) ∧ w = w' := by
  obtain ⟨F, h1, _⟩ := h.line
  exact Waiting_c w b s F h1
theorem kOut (h : Desk X w b s vi li vo lo) : Calls Tryd.prog 17 #[.pointer (some ⟨b, 0, none⟩)] w fun e w' => ∃ v', e = .returned v' ∧ Own w' 5 1 v' s.out.length (bytesV s.out) (fun k => w.heap.size ≤ k ∧ k < w'.heap.size) ∧ Fr No w w' := by
  obtain ⟨F, h1, _⟩ := h.line
  exact Out_c w b s F h1
end
/-! ### What an act makes of what came in and what was sent. -/
theorem US.latch_ge {s : US} (h : s.Ok) : s.latch = decide (128 ≤ s.lcr) := by
  have := h.lcr
  unfold US.latch
  rw [Nat.testBit, Nat.shiftRight_eq_div_pow, Nat.and_comm, Nat.and_one_is_mod]
  by_cases h1 : 128 ≤ s.lcr
  · rw [decide_eq_true h1, show s.lcr / 2 ^ 7 % 2 = 1 by omega]; rfl
  · rw [decide_eq_false h1, show s.lcr / 2 ^ 7 % 2 = 0 by omega]; rfl
theorem bit1_iff (v : Nat) : (v % 256).testBit 1 = decide (v / 2 % 2 = 1) := by
  rw [Nat.testBit, Nat.shiftRight_eq_div_pow, Nat.and_comm, Nat.and_one_is_mod]
  by_cases h1 : v / 2 % 2 = 1
  · rw [decide_eq_true h1, show v % 256 / 2 ^ 1 % 2 = 1 by omega]; rfl
  · rw [decide_eq_false h1, show v % 256 / 2 ^ 1 % 2 = 0 by omega]; rfl
theorem US.put_keeps (s : US) (off b : Nat) (h0 : off ≠ 0 ∨ s.latch = true) (h2 : off ≠ 2 ∨ b.testBit 1 = false) : (s.put off b).inn = s.inn ∧ (s.put off b).out = s.out := by
  unfold US.put
  repeat' split
  all_goals first
    | exact ⟨rfl, rfl⟩
    | (exfalso; rcases h0 with h0 | h0 <;> simp_all; done)
    | (rcases h2 with h2 | h2 <;> simp_all)
theorem US.get_keeps (s : US) (off : Nat) (h0 : off ≠ 0 ∨ s.latch = true) : (s.get off).1.inn = s.inn ∧ (s.get off).1.out = s.out := by
  unfold US.get US.identity US.state
  repeat' split
  all_goals first
    | exact ⟨rfl, rfl⟩
    | (exfalso; rcases h0 with h0 | h0 <;> simp_all; done)
end Go.Proofs.YtcnglhneknbllaaDoor

/-
  A serial line and the document's beside each other; the statements' small functions awake and both.
-/
import Derived.Test.YtcnglhneknbllaaDoorUart7
import Derived.Test.YtcnglhneknbllaaDoorUart4
namespace Go.Proofs.YtcnglhneknbllaaDoor
open Go Go.RowKit

/-- Of the blocks of `X` none may change. -/
abbrev Keep (X : Nat → Prop) : World → World → Prop := Fr fun k => ¬ X k
theorem Fr.keep {X F : Nat → Prop} {w w' : World} (h : Fr F w w') (hF : ∀ k, F k → ¬ X k) : Keep X w w' := h.mono fun k _ hk => hF k hk
theorem Blk.keep {X : Nat → Prop} {w w' : World} {g : Nat} {t : TypeId} {cs : Array Value} (h : Blk w g t cs) (hf : Keep X w w') (hg : X g) : Blk w' g t cs := h.fr hf (fun h => h hg)
theorem Fr.after {X : Nat → Prop} {w0 w1 w2 : World} (h : Fr No w0 w1) (hf : Keep X w1 w2) (hX : ∀ k, k < w0.heap.size → X k) : Fr No w0 w2 :=
  h.andThen hf (fun k hk hk' => hk' (hX k hk))
/-- One block more. -/
def And1 (X : Nat → Prop) (b : Nat) : Nat → Prop := fun k => X k ∨ k = b

/-- What all walks over serial lines stand on: the table, and which blocks stay. -/
structure Ground (X : Nat → Prop) (w : World) : Prop where
  kept : KeptAt w
  zero : X 0
  bound : ∀ k, X k → k < w.heap.size
theorem Ground.keep {X : Nat → Prop} {w w' : World} (h : Ground X w) (hf : Keep X w w') : Ground X w' :=
  ⟨h.kept.fr hf (fun hn => hn h.zero), h.zero, fun k hk => Nat.lt_of_lt_of_le (h.bound k hk) hf.size⟩
theorem Ground.start {w : World} (h : KeptAt w) : Ground (fun k => k < w.heap.size) w :=
  ⟨h, World.block_lt_of_cell? w _ (h 0 0 rfl), fun _ h => h⟩

/-- A line alone. -/
structure Alone (X : Nat → Prop) (w : World) (b : Nat) (s : US) : Prop where
  gr : Ground X w
  line : ∃ F, UartAt w b s F ∧ ∀ k, F k → ¬ X k
theorem Alone.fr {X : Nat → Prop} {w w' : World} {b : Nat} {s : US} (h : Alone X w b s) (hf : Fr No w w') : Alone X w' b s := by
  obtain ⟨h1, F, h2, h3⟩ := h
  exact ⟨h1.keep (hf.keep (fun _ h => h.elim)), F, h2.fr hf (fun _ _ h => h), h3⟩
theorem Alone.turn {X : Nat → Prop} {w w' : World} {b : Nat} {s' : US} {F : Nat → Prop} (h : Ground X w) (hF : ∀ k, F k → ¬ X k) (hu : UartAt w' b s' (Plus F w w')) (hf : Fr F w w') : Alone X w' b s' ∧ Keep X w w' := by
  refine ⟨⟨h.keep (hf.keep hF), Plus F w w', hu, fun k hk => ?_⟩, hf.keep hF⟩
  rcases hk with hk | hk
  · exact hF k hk
  · intro hx; have := h.bound k hx; omega
theorem Alone.new {X : Nat → Prop} {w w' : World} (h : Ground X w) (hu : UartAt w' w.heap.size US.new (Plus No w w')) (hf : Fr No w w') : Alone X w' w.heap.size US.new ∧ Keep X w w' :=
  Alone.turn h (fun _ h => h.elim) hu hf

section
variable {X : Nat → Prop} {w : World} {b : Nat} {s : US}
theorem aNew (h : Ground X w) :
    Calls Tryd.prog 15 #[] w fun e w' => e = .returned (.pointer (some ⟨w.heap.size, 0, none⟩)) ∧ Alone X w' w.heap.size US.new ∧ Keep X w w' :=
  (New_c w).mono fun _ _ ⟨he, hu, hf⟩ => ⟨he, Alone.new h hu hf⟩
theorem aFeed (x : Nat) (hx : x < 256) (h : Alone X w b s) :
    Calls Tryd.prog 19 #[.pointer (some ⟨b, 0, none⟩), .int .u8 (x : Int)] w fun e w' => e = .returned (.bool (s.feed x).2) ∧ Alone X w' b (s.feed x).1 ∧ Keep X w w' := by
  obtain ⟨hg, F, h1, h2⟩ := h
  exact (Feed_c w b s F x hx h1).mono fun e w' ⟨he, hu, hf⟩ => ⟨he, Alone.turn hg h2 hu hf⟩
theorem aWrite (off : Nat) (n : Int) (v : Nat) (hoff : off < 18446744073709551616) (h : Alone X w b s) :
    Calls Tryd.prog 16 #[.pointer (some ⟨b, 0, none⟩), .int .u64 (off : Int), .int .i64 n, .int .u64 (v : Int)] w fun e w' => e = .returned (.bool (s.write off n v).2) ∧ Alone X w' b (s.write off n v).1 ∧ Keep X w w' := by
  obtain ⟨hg, F, h1, h2⟩ := h
  exact (Write_c w b s F off n v hoff h1 hg.kept (fun hn => h2 _ hn hg.zero)).mono fun e w' ⟨he, hu, hf⟩ => ⟨he, Alone.turn hg h2 hu hf⟩
theorem aRead (off : Nat) (n : Int) (hoff : off < 18446744073709551616) (h : Alone X w b s) :
    Calls Tryd.prog 18 #[.pointer (some ⟨b, 0, none⟩), .int .u64 (off : Int), .int .i64 n] w fun e w' => e = .returned (.tuple #[.int .u64 ((s.read off n).2.1 : Nat), .bool (s.read off n).2.2]) ∧ Alone X w' b (s.read off n).1 ∧ Keep X w w' := by
  obtain ⟨hg, F, h1, h2⟩ := h
  exact (Read_c w b s F off n hoff h1).mono fun e w' ⟨he, hu, hf⟩ => ⟨he, Alone.turn hg h2 hu.plus hf⟩
theorem aWaiting (h : Alone X w b s) : Calls Tryd.prog 20 #[.pointer (some ⟨b, 0, none⟩)] w fun e w' => e = .returned (.int .i64 (s.inn.length : Nat)) ∧ w = w' := by
  obtain ⟨hg, F, h1, h2⟩ := h
  exact Waiting_c w b s F h1
theorem aLine (h : Alone X w b s) : Calls Tryd.prog 25 #[.pointer (some ⟨b, 0, none⟩)] w fun e w' => e = .returned (.bool s.line) ∧ w = w' := by
  obtain ⟨hg, F, h1, h2⟩ := h
  exact Line_c w b s F h1
theorem aOut (h : Alone X w b s) : Calls Tryd.prog 17 #[.pointer (some ⟨b, 0, none⟩)] w fun e w' => ∃ v', e = .returned v' ∧ Own w' 5 1 v' s.out.length (bytesV s.out) (fun k => w.heap.size ≤ k ∧ k < w'.heap.size) ∧ Fr No w w' ∧ Alone X w' b s := by
  have h0 := h
  obtain ⟨hg, F, h1, h2⟩ := h
  exact (Out_c w b s F h1).mono fun e w' ⟨v', he, ho, hf⟩ => ⟨v', he, ho, hf, h0.fr hf⟩
end

set_option maxRecDepth 100000 in
set_option maxHeartbeats 2000000 in
theorem awake_c (w : World) (hk : KeptAt w) : Calls Tryd.prog 14 #[] w fun e w' => e = .returned (.bool true) ∧ Fr No w w' := by
  have H0 := Lib.hid (Ground.start hk)
  have HX := Lib.hid (fun k (h : k < w.heap.size) => h)
  clear hk
  have e1 : US.new.feed 65 = (⟨[65], [], 0, 0, 0, 0, 0, 0, 0, false, false⟩, true) := rfl
  have e2 : (⟨[65], [], 0, 0, 0, 0, 0, 0, 0, false, false⟩ : US).write 0 1 107 = (⟨[65], [107], 0, 0, 0, 0, 0, 0, 0, false, true⟩, true) := by decide
  have e3 : (⟨[65], [107], 0, 0, 0, 0, 0, 0, 0, false, true⟩ : US).read 0 1 = (⟨[], [107], 0, 0, 0, 0, 0, 0, 0, false, true⟩, 65, true) := by decide
  go_enter Tryd.func14, Tryd.ntmps14
  go_wp2_with fail
  refine (aNew H0.out).mono ?_
  rintro e w1 ⟨rfl, hu1, hf1⟩
  have h1 := Lib.hid hu1
  have f1 := Lib.hid ((Fr.refl No w).after hf1 HX.out)
  clear hu1 hf1
  go_wp2_with fail
  refine (aFeed 65 (by omega) h1.out).mono ?_
  rintro e w2 ⟨rfl, hu2, hf2⟩
  rw [e1] at hu2 ⊢
  have h2 := Lib.hid hu2
  have f2 := Lib.hid (f1.out.after hf2 HX.out)
  clear hu2 hf2
  go_wp2_with fail
  refine (aWrite 0 1 107 (by omega) h2.out).mono ?_
  rintro e w3 ⟨rfl, hu3, hf3⟩
  rw [e2] at hu3 ⊢
  have h3 := Lib.hid hu3
  have f3 := Lib.hid (f2.out.after hf3 HX.out)
  clear hu3 hf3
  go_wp2_with fail
  refine (aWaiting h3.out).mono ?_
  rintro e w4 ⟨rfl, rfl⟩
  go_wp2_with fail
  refine (aRead 0 1 (by omega) h3.out).mono ?_
  rintro e w5 ⟨rfl, hu5, hf5⟩
  rw [e3] at hu5 ⊢
  have h5 := Lib.hid hu5
  have f5 := Lib.hid (f3.out.after hf5 HX.out)
  clear hu5 hf5
  go_wp2_with fail
  refine (aOut h5.out).mono ?_
  rintro e w6 ⟨v6, rfl, ho6, hf6, hu6⟩
  have htx := ho6.rd.text (P := Tryd.prog) rfl 27 5 9 Tryd.underlying27 Tryd.underlying5 Tryd.underlying9
  have f6 := Lib.hid (f5.out.trans hf6)
  clear hu6 ho6 hf6
  go_wp2_with fail
  go_ret
  refine ⟨?_, f6.out⟩
  rw [txt_list]
  rfl

/-- The program's line in block `bu`, the document's in block `bw`, apart. -/
structure Pair (X : Nat → Prop) (w : World) (bu : Nat) (su : US) (bw : Nat) (sw : US) : Prop where
  gr : Ground X w
  lines : ∃ F G, UartAt w bu su F ∧ RefAt w bw sw G ∧ (∀ k, F k → ¬ G k) ∧ (∀ k, F k → ¬ X k) ∧ (∀ k, G k → ¬ X k)
namespace Pair
variable {X : Nat → Prop} {w w' : World} {bu bw : Nat} {su sw : US}
theorem fr (h : Pair X w bu su bw sw) (hf : Fr No w w') : Pair X w' bu su bw sw := by
  obtain ⟨h0, F, G, h1, h2, h3, h4, h5⟩ := h
  exact ⟨h0.keep (hf.keep (fun _ h => h.elim)), F, G, h1.fr hf (fun _ _ h => h), h2.fr hf (fun _ _ h => h), h3, h4, h5⟩
/-- A new block that is to stay. -/
theorem alloc (h : Pair X w bu su bw sw) (o : Obj) : Pair (And1 X w.heap.size) (w.alloc o) bu su bw sw := by
  obtain ⟨h0, F, G, h1, h2, h3, h4, h5⟩ := h
  have hf := (Fr.refl No w).alloc o
  have hk := h0.keep (hf.keep (fun _ h => h.elim))
  refine ⟨⟨hk.kept, .inl hk.zero, fun k hk' => ?_⟩, F, G, h1.fr hf (fun _ _ h => h), h2.fr hf (fun _ _ h => h), h3, fun k hk hx => ?_, fun k hk hx => ?_⟩
  · rcases hk' with h | h
    · exact hk.bound k h
    · rw [h]; simp
  · rcases hx with h | h
    · exact h4 k hk h
    · have := h1.bound k hk; omega
  · rcases hx with h | h
    · exact h5 k hk h
    · have := h2.bound k hk; omega
theorem weaken {Y : Nat → Prop} (h : Pair X w bu su bw sw) (hY : ∀ k, Y k → X k) (h0 : Y 0) : Pair Y w bu su bw sw := by
  obtain ⟨g, F, G, h1, h2, h3, h4, h5⟩ := h
  exact ⟨⟨g.kept, h0, fun k hk => g.bound k (hY k hk)⟩, F, G, h1, h2, h3, fun k hk hy => h4 k hk (hY k hy), fun k hk hy => h5 k hk (hY k hy)⟩
/-- A step of the program's line. -/
theorem left (h : Pair X w bu su bw sw) : ∃ F, UartAt w bu su F ∧ KeptAt w ∧ ¬ F 0 ∧ ∀ w' s', UartAt w' bu s' (Plus F w w') → Fr F w w' → Pair X w' bu s' bw sw ∧ Keep X w w' := by
  obtain ⟨h0, F, G, h1, h2, h3, h4, h5⟩ := h
  refine ⟨F, h1, h0.kept, fun hn => h4 _ hn h0.zero, fun w' s' hu hf => ⟨⟨h0.keep (hf.keep h4), Plus F w w', G, hu, h2.fr hf (fun k hk hk' => h3 k hk' hk), fun k hk hg => ?_, fun k hk hx => ?_, h5⟩, hf.keep h4⟩⟩
  · rcases hk with hk | hk
    · exact h3 k hk hg
    · have := h2.bound k hg; omega
  · rcases hk with hk | hk
    · exact h4 k hk hx
    · have := h0.bound k hx; omega
/-- A step of the document's. -/
theorem right (h : Pair X w bu su bw sw) : ∃ G, RefAt w bw sw G ∧ ∀ w' s', RefAt w' bw s' (Plus G w w') → Fr G w w' → Pair X w' bu su bw s' ∧ Keep X w w' := by
  obtain ⟨h0, F, G, h1, h2, h3, h4, h5⟩ := h
  refine ⟨G, h2, fun w' s' hu hf => ⟨⟨h0.keep (hf.keep h5), F, Plus G w w', h1.fr hf (fun k hk hk' => h3 k hk hk'), hu, fun k hk hg => ?_, h4, fun k hk hx => ?_⟩, hf.keep h5⟩⟩
  · rcases hg with hg | hg
    · exact h3 k hk hg
    · have := h1.bound k hk; omega
  · rcases hk with hk | hk
    · exact h5 k hk hx
    · have := h0.bound k hx; omega
end Pair

/-- What is done to a line. -/
structure UAct where
  act : Int
  off : Nat
  n : Int
  v : Nat
def UAct.Ok (x : UAct) : Prop := x.off < 18446744073709551616 ∧ x.v < 18446744073709551616
def UAct.cells (x : UAct) : List Value := [.int .i64 x.act, .int .u64 (x.off : Int), .int .i64 x.n, .int .u64 (x.v : Int)]
/-- What an act makes of a line, as far as both do it. -/
def US.act (s : US) (x : UAct) : US :=
  if x.act = 0 then (s.write x.off x.n x.v).1 else if x.act = 1 then (s.read x.off x.n).1 else if x.act = 2 then (s.feed (x.v % 256)).1 else s

section
variable {X : Nat → Prop} {w : World} {bu bw : Nat} {su sw : US}
theorem pFeed (x : Nat) (hx : x < 256) (h : Pair X w bu su bw sw) :
    Calls Tryd.prog 19 #[.pointer (some ⟨bu, 0, none⟩), .int .u8 (x : Int)] w fun e w' => e = .returned (.bool (su.feed x).2) ∧ Pair X w' bu (su.feed x).1 bw sw ∧ Keep X w w' := by
  obtain ⟨F, h1, h2, h3, h4⟩ := h.left
  exact (Feed_c w bu su F x hx h1).mono fun e w' ⟨he, hu, hf⟩ => ⟨he, h4 _ _ hu hf⟩
theorem pRFeed (x : Nat) (hx : x < 256) (h : Pair X w bu su bw sw) :
    Calls Tryd.prog 51 #[.pointer (some ⟨bw, 0, none⟩), .int .u8 (x : Int)] w fun e w' => e = .returned (.bool (sw.feed x).2) ∧ Pair X w' bu su bw (sw.feed x).1 ∧ Keep X w w' := by
  obtain ⟨F, h1, h4⟩ := h.right
  exact (RFeed_c w bw sw F x hx h1).mono fun e w' ⟨he, hu, hf⟩ => ⟨he, h4 _ _ hu hf⟩
theorem pWrite (off : Nat) (n : Int) (v : Nat) (hoff : off < 18446744073709551616) (h : Pair X w bu su bw sw) :
    Calls Tryd.prog 16 #[.pointer (some ⟨bu, 0, none⟩), .int .u64 (off : Int), .int .i64 n, .int .u64 (v : Int)] w fun e w' => e = .returned (.bool (su.write off n v).2) ∧ Pair X w' bu (su.write off n v).1 bw sw ∧ Keep X w w' := by
  obtain ⟨F, h1, h2, h3, h4⟩ := h.left
  exact (Write_c w bu su F off n v hoff h1 h2 h3).mono fun e w' ⟨he, hu, hf⟩ => ⟨he, h4 _ _ hu hf⟩
theorem pRWrite (off : Nat) (n : Int) (v : Nat) (hv : v < 18446744073709551616) (h : Pair X w bu su bw sw) :
    Calls Tryd.prog 24 #[.pointer (some ⟨bw, 0, none⟩), .int .u64 (off : Int), .int .i64 n, .int .u64 (v : Int)] w fun e w' => e = .returned (.bool (sw.write off n v).2) ∧ Pair X w' bu su bw (sw.write off n v).1 ∧ Keep X w w' := by
  obtain ⟨F, h1, h4⟩ := h.right
  exact (RWrite_c w bw sw F off n v hv h1).mono fun e w' ⟨he, hu, hf⟩ => ⟨he, h4 _ _ hu hf⟩
theorem pRead (off : Nat) (n : Int) (hoff : off < 18446744073709551616) (h : Pair X w bu su bw sw) :
    Calls Tryd.prog 18 #[.pointer (some ⟨bu, 0, none⟩), .int .u64 (off : Int), .int .i64 n] w fun e w' => e = .returned (.tuple #[.int .u64 ((su.read off n).2.1 : Nat), .bool (su.read off n).2.2]) ∧ Pair X w' bu (su.read off n).1 bw sw ∧ Keep X w w' := by
  obtain ⟨F, h1, h2, h3, h4⟩ := h.left
  exact (Read_c w bu su F off n hoff h1).mono fun e w' ⟨he, hu, hf⟩ => ⟨he, h4 _ _ hu.plus hf⟩
theorem pRRead (off : Nat) (n : Int) (hoff : off < 18446744073709551616) (h : Pair X w bu su bw sw) :
    Calls Tryd.prog 50 #[.pointer (some ⟨bw, 0, none⟩), .int .u64 (off : Int), .int .i64 n] w fun e w' => e = .returned (.tuple #[.int .u64 ((sw.read off n).2.1 : Nat), .bool (sw.read off n).2.2]) ∧ Pair X w' bu su bw (sw.read off n).1 ∧ Keep X w w' := by
  obtain ⟨F, h1, h4⟩ := h.right
  exact (RRead_c w bw sw F off n hoff h1).mono fun e w' ⟨he, hu, hf⟩ => ⟨he, h4 _ _ hu hf⟩
theorem pOut (h : Pair X w bu su bw sw) : Calls Tryd.prog 17 #[.pointer (some ⟨bu, 0, none⟩)] w fun e w' => ∃ v', e = .returned v' ∧ Own w' 5 1 v' su.out.length (bytesV su.out) (fun k => w.heap.size ≤ k ∧ k < w'.heap.size) ∧ Fr No w w' ∧ Pair X w' bu su bw sw := by
  obtain ⟨F, h1, h2, h4⟩ := h.left
  exact (Out_c w bu su F h1).mono fun e w' ⟨v', he, ho, hf⟩ => ⟨v', he, ho, hf, h.fr hf⟩
end
end Go.Proofs.YtcnglhneknbllaaDoor

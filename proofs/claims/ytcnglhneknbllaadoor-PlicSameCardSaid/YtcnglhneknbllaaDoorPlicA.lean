/-
  An interrupt controller of a statement's own, step by step; the statement's small function awake.
-/
import Derived.Test.YtcnglhneknbllaaDoorPlic5
import Derived.Test.YtcnglhneknbllaaDoorPlicL
namespace Go.Proofs.YtcnglhneknbllaaDoor
open Go Go.RowKit

/-- Since w0 an interrupt controller has been laid (block b), and nothing that was there has changed. -/
structure Pic1 (w0 w : World) (b : Nat) (s : PS) : Prop where
  tz : TzAt w
  at_ : PicAt w b 0 s
  new : w0.heap.size ≤ b
  fr : Fr No w0 w
  lt : 1 < w0.heap.size
theorem TzAt.lt {w : World} (h : TzAt w) : 1 < w.heap.size := World.block_lt_of_cell? w _ (h (j := 0) (by decide))
namespace Pic1
variable {w0 w w' : World} {b : Nat} {s s' : PS}
theorem keep (h : Pic1 w0 w b s) (hf : Fr No w w') : Pic1 w0 w' b s := ⟨h.tz.fr hf (fun h => h), h.at_.fr hf (fun h => h), h.new, h.fr.trans hf, h.lt⟩
theorem step (h : Pic1 w0 w b s) (hp : PicAt w' b 0 s') (hf : FrIn b 0 39 w w') : Pic1 w0 w' b s' := by
  have hb := h.new
  have hl := h.lt
  refine ⟨h.tz.fr hf.fr (fun q => ?_), hp, hb, h.fr.andThen hf.fr (fun k hk q => ?_), hl⟩
  · have : 1 = b := q
    omega
  · have : k = b := q
    omega
theorem laid {w1 : World} (hT : TzAt w) (hf : Fr No w w1) (t : TypeId) (old : Array Value) (s : PS) (hs : s.Ok) : Pic1 w ((w1.alloc (.cells old t)).setRow w1.heap.size (plist s).toArray) w1.heap.size s := by
  have h2 := setRow_fr w1 (.cells old t) (plist s).toArray
  have hb : Blk ((w1.alloc (.cells old t)).setRow w1.heap.size (plist s).toArray) w1.heap.size t (plist s).toArray := setRow_heap _ _ _ _ _ _ (heap_alloc_new w1 _)
  exact ⟨(hT.fr hf (fun h => h)).fr h2 (fun h => h), ⟨hs, Seg.of_blk hb⟩, hf.size, hf.trans h2, hT.lt⟩
end Pic1
section
variable {w0 w : World} {b : Nat} {s : PS}
theorem bLevel (i : Int) (up : Bool) (h : Pic1 w0 w b s) :
    Calls Tryd.prog 29 #[.pointer (some ⟨b, 0, none⟩), .int .i64 i, .bool up] w fun e w' => e = .returned (.bool (s.level i up).2) ∧ Pic1 w0 w' b (s.level i up).1 :=
  (Level_c w b 0 s i up h.at_).mono fun _ _ ⟨he, hp, hf⟩ => ⟨he, h.step hp hf⟩
theorem bWrite (off : Nat) (n : Int) (v : Nat) (ho : off < 18446744073709551616) (hv : v < 18446744073709551616) (h : Pic1 w0 w b s) :
    Calls Tryd.prog 28 #[.pointer (some ⟨b, 0, none⟩), .int .u64 (off : Int), .int .i64 n, .int .u64 (v : Int)] w fun e w' => e = .returned (.bool (s.write off n v).2) ∧ Pic1 w0 w' b (s.write off n v).1 :=
  (PWrite_c w b 0 s off n v ho hv h.at_).mono fun _ _ ⟨he, hp, hf⟩ => ⟨he, h.step hp hf⟩
theorem bRead (off : Nat) (n : Int) (ho : off < 18446744073709551616) (h : Pic1 w0 w b s) :
    Calls Tryd.prog 31 #[.pointer (some ⟨b, 0, none⟩), .int .u64 (off : Int), .int .i64 n] w fun e w' => e = .returned (.tuple #[.int .u64 ((s.read off n).2.1 : Nat), .bool (s.read off n).2.2]) ∧ Pic1 w0 w' b (s.read off n).1 :=
  (PRead_c w b 0 s off n ho h.at_ h.tz).mono fun _ _ ⟨he, hp, hf⟩ => ⟨he, h.step hp hf⟩
theorem bLine (c : Int) (h : Pic1 w0 w b s) :
    Calls Tryd.prog 30 #[.agg (plist s).toArray, .int .i64 c] w fun e w' => e = .returned (.bool (s.line c)) ∧ Pic1 w0 w' b s :=
  (Line_c5 w s h.at_.ok c h.tz).mono fun _ _ ⟨he, hf⟩ => ⟨he, h.keep hf⟩
theorem bBest (c : Int) (h : Pic1 w0 w b s) :
    Calls Tryd.prog 32 #[.agg (plist s).toArray, .int .i64 c] w fun e w' => e = .returned (.int .i64 ((s.best c : Nat) : Int)) ∧ Pic1 w0 w' b s :=
  (Best_c w s h.at_.ok c h.tz).mono fun _ _ ⟨he, hf⟩ => ⟨he, h.keep hf⟩
theorem bUp (i : Int) (h : Pic1 w0 w b s) :
    Calls Tryd.prog 40 #[.agg (plist s).toArray, .int .i64 i] w fun e w' => e = .returned (.bool (s.upQ i)) ∧ Pic1 w0 w' b s :=
  (Up_c w s h.at_.ok i).mono fun _ _ ⟨he, hf⟩ => ⟨he, h.keep hf⟩
end
theorem one_plist (s : PS) : (plist s).toArray.all (·.oneCell') = true := by
  refine all_oneCell_toArray fun v hv => ?_
  simp only [plist, List.mem_cons, List.mem_append, List.mem_map, List.not_mem_nil, or_false] at hv
  rcases hv with rfl | rfl | rfl | ⟨x, _, rfl⟩ | rfl | rfl | rfl | rfl <;> rfl
theorem awake_states : ∃ a1 a2 a3 a4 : PS, PS.new.write 12 4 5 = (a1, true) ∧ a1.write 8192 4 8 = (a2, true) ∧ a2.line 0 = false ∧ a2.level 3 true = (a3, true) ∧ a3.line 0 = true ∧ a3.line 1 = false ∧ a3.read 2097156 4 = (a4, 3, true) ∧ a4.line 0 = false :=
  ⟨(PS.new.write 12 4 5).1, ((PS.new.write 12 4 5).1.write 8192 4 8).1, (((PS.new.write 12 4 5).1.write 8192 4 8).1.level 3 true).1, ((((PS.new.write 12 4 5).1.write 8192 4 8).1.level 3 true).1.read 2097156 4).1,
    by kernel_rfl, by kernel_rfl, by kernel_rfl, by kernel_rfl, by kernel_rfl, by kernel_rfl, by kernel_rfl, by kernel_rfl⟩
set_option maxRecDepth 100000 in
set_option maxHeartbeats 2000000 in
theorem pawake_c (w : World) (hT : TzAt w) : Calls Tryd.prog 33 #[] w fun e w' => e = .returned (.bool true) ∧ Fr No w w' := by
  have HT := Lib.hid hT
  obtain ⟨a1, a2, a3, a4, h1, h2, h3, h4, h5, h6, h7, h8⟩ := awake_states
  have H1 := Lib.hid h1
  have H2 := Lib.hid h2
  have H3 := Lib.hid h3
  have H4 := Lib.hid h4
  have H5 := Lib.hid h5
  have H6 := Lib.hid h6
  have H7 := Lib.hid h7
  have H8 := Lib.hid h8
  clear hT h1 h2 h3 h4 h5 h6 h7 h8
  go_enter Tryd.func33, Tryd.ntmps33
  go_wp2_with fail
  refine (PNew_c w).mono ?_
  rintro e w1 ⟨rfl, hf1⟩
  have F1 := Lib.hid hf1
  clear hf1
  go_wp2_with (refine wpList_store_row rfl 48 _ _ rfl _ _ rfl rfl _ _ (heap_alloc_new _ _) infoPic rfl (one_plist _) ?_)
  have h2 := fun t old => Pic1.laid HT.out F1.out t old PS.new PS.ok_new
  generalize hW : (World.setRow _ _ _) = w2
  have Q2 := Lib.hid (by rw [← hW]; exact h2 _ _ : Pic1 w w2 w1.heap.size PS.new)
  clear h2 hW
  refine (bWrite 12 4 5 (by omega) (by omega) Q2.out).mono ?_
  rw [H1.out]
  rintro e w3 ⟨rfl, h_⟩
  have Qw3 := Lib.hid h_
  clear h_
  go_wp2_with (first | refine wpList_load_seg rfl 48 _ rfl _ _ rfl _ Qw3.out.at_.seg _ Tryd.underlying48 rfl (infoPl Qw3.out.at_.ok) ?_ | refine wpList_load_seg_g rfl 48 _ rfl _ _ rfl _ Qw3.out.at_.seg _ Tryd.underlying48 rfl (infoPl Qw3.out.at_.ok) ?_)
  refine (bWrite 8192 4 8 (by omega) (by omega) Qw3.out).mono ?_
  rw [H2.out]
  rintro e w4 ⟨rfl, h_⟩
  have Qw4 := Lib.hid h_
  clear h_
  go_wp2_with (first | refine wpList_load_seg rfl 48 _ rfl _ _ rfl _ Qw4.out.at_.seg _ Tryd.underlying48 rfl (infoPl Qw4.out.at_.ok) ?_ | refine wpList_load_seg_g rfl 48 _ rfl _ _ rfl _ Qw4.out.at_.seg _ Tryd.underlying48 rfl (infoPl Qw4.out.at_.ok) ?_)
  refine (bLine 0 Qw4.out).mono ?_
  rw [H3.out]
  rintro e w5 ⟨rfl, h_⟩
  have Qw5 := Lib.hid h_
  clear h_
  go_wp2_with (first | refine wpList_load_seg rfl 48 _ rfl _ _ rfl _ Qw5.out.at_.seg _ Tryd.underlying48 rfl (infoPl Qw5.out.at_.ok) ?_ | refine wpList_load_seg_g rfl 48 _ rfl _ _ rfl _ Qw5.out.at_.seg _ Tryd.underlying48 rfl (infoPl Qw5.out.at_.ok) ?_)
  refine (bLevel 3 true Qw5.out).mono ?_
  rw [H4.out]
  rintro e w6 ⟨rfl, h_⟩
  have Qw6 := Lib.hid h_
  clear h_
  go_wp2_with (first | refine wpList_load_seg rfl 48 _ rfl _ _ rfl _ Qw6.out.at_.seg _ Tryd.underlying48 rfl (infoPl Qw6.out.at_.ok) ?_ | refine wpList_load_seg_g rfl 48 _ rfl _ _ rfl _ Qw6.out.at_.seg _ Tryd.underlying48 rfl (infoPl Qw6.out.at_.ok) ?_)
  refine (bLine 0 Qw6.out).mono ?_
  rw [H5.out]
  rintro e w7 ⟨rfl, h_⟩
  have Qw7 := Lib.hid h_
  clear h_
  go_wp2_with (first | refine wpList_load_seg rfl 48 _ rfl _ _ rfl _ Qw7.out.at_.seg _ Tryd.underlying48 rfl (infoPl Qw7.out.at_.ok) ?_ | refine wpList_load_seg_g rfl 48 _ rfl _ _ rfl _ Qw7.out.at_.seg _ Tryd.underlying48 rfl (infoPl Qw7.out.at_.ok) ?_)
  refine (bLine 1 Qw7.out).mono ?_
  rw [H6.out]
  rintro e w8 ⟨rfl, h_⟩
  have Qw8 := Lib.hid h_
  clear h_
  go_wp2_with (first | refine wpList_load_seg rfl 48 _ rfl _ _ rfl _ Qw8.out.at_.seg _ Tryd.underlying48 rfl (infoPl Qw8.out.at_.ok) ?_ | refine wpList_load_seg_g rfl 48 _ rfl _ _ rfl _ Qw8.out.at_.seg _ Tryd.underlying48 rfl (infoPl Qw8.out.at_.ok) ?_)
  refine (bRead 2097156 4 (by omega) Qw8.out).mono ?_
  rw [H7.out]
  rintro e w9 ⟨rfl, h_⟩
  have Qw9 := Lib.hid h_
  clear h_
  go_wp2_with (first | refine wpList_load_seg rfl 48 _ rfl _ _ rfl _ Qw9.out.at_.seg _ Tryd.underlying48 rfl (infoPl Qw9.out.at_.ok) ?_ | refine wpList_load_seg_g rfl 48 _ rfl _ _ rfl _ Qw9.out.at_.seg _ Tryd.underlying48 rfl (infoPl Qw9.out.at_.ok) ?_)
  refine (bLine 0 Qw9.out).mono ?_
  rw [H8.out]
  rintro e wa ⟨rfl, h_⟩
  have Qwa := Lib.hid h_
  clear h_
  go_wp2_with (first | refine wpList_load_seg rfl 48 _ rfl _ _ rfl _ Qwa.out.at_.seg _ Tryd.underlying48 rfl (infoPl Qwa.out.at_.ok) ?_ | refine wpList_load_seg_g rfl 48 _ rfl _ _ rfl _ Qwa.out.at_.seg _ Tryd.underlying48 rfl (infoPl Qwa.out.at_.ok) ?_)
  go_ret
  exact ⟨rfl, Qwa.out.fr⟩
end Go.Proofs.YtcnglhneknbllaaDoor

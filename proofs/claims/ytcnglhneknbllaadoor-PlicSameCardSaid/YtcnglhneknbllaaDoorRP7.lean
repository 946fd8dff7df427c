/-
  Two interrupt controllers side by side, the program's and the document's: the statement's function 'both'.
-/
import Derived.Test.YtcnglhneknbllaaDoorRP6
import Derived.Test.YtcnglhneknbllaaDoorPlicO2
namespace Go.Proofs.YtcnglhneknbllaaDoor
open Go Go.RowKit PS

/-- What an act makes of a controller. -/
def PAct.step (x : PAct) (s : PS) : PS :=
  if x.act = 0 then (s.write x.off x.n x.v).1 else if x.act = 1 then (s.read x.off x.n).1 else if x.act = 2 then (s.level x.src x.up).1 else s
/-- Block b holds the program's controller, block r the document's, both in the state s. -/
structure Duo (w : World) (b r : Nat) (s : PS) : Prop where
  tz : TzAt w
  pic : PicAt w b 0 s
  ref : RAt w r 0 s
  ne : b ≠ r
  nb : 1 ≠ b
  nr : 1 ≠ r
namespace Duo
variable {w w' : World} {b r : Nat} {s s' : PS}
theorem keep (h : Duo w b r s) (hf : Fr No w w') : Duo w' b r s := ⟨h.tz.fr hf (fun h => h), h.pic.fr hf (fun h => h), h.ref.fr hf (fun h => h), h.ne, h.nb, h.nr⟩
/-- The program's goes on. -/
theorem go (h : Duo w b r s) (hp : PicAt w' b 0 s') (hf : FrIn b 0 39 w w') : TzAt w' ∧ PicAt w' b 0 s' ∧ RAt w' r 0 s ∧ Fr (Or2 (One b) (One r)) w w' :=
  ⟨h.tz.fr hf.fr (fun q => h.nb q), hp, h.ref.fr hf.fr (fun q => h.ne q.symm), hf.fr.mono fun _ _ q => .inl q⟩
/-- The document's goes behind it. -/
theorem behind (h : Duo w b r s) {w1 : World} (h1 : TzAt w1 ∧ PicAt w1 b 0 s' ∧ RAt w1 r 0 s ∧ Fr (Or2 (One b) (One r)) w w1) (hr : RAt w' r 0 s') (hf : FrIn r 0 194 w1 w') : Duo w' b r s' ∧ Fr (Or2 (One b) (One r)) w w' :=
  ⟨⟨h1.1.fr hf.fr (fun q => h.nr q), h1.2.1.fr hf.fr (fun q => h.ne q), hr, h.ne, h.nb, h.nr⟩, h1.2.2.2.trans (hf.fr.mono fun _ _ q => .inr q)⟩
end Duo
set_option maxRecDepth 100000 in
set_option maxHeartbeats 4000000 in
/-- An act that writes. -/
theorem both_write (w : World) (b r : Nat) (s : PS) (off : Nat) (n : Int) (v : Nat) (src : Int) (up : Bool) (ho : off < 18446744073709551616) (hv : v < 18446744073709551616) (hD : Duo w b r s) (act : Int) (ha : act = 0) :
    Calls Tryd.prog 37 #[.pointer (some ⟨b, 0, none⟩), .pointer (some ⟨r, 0, none⟩), .agg #[.int .i64 act, .int .u64 (off : Int), .int .i64 n, .int .u64 (v : Int), .int .i64 src, .bool up]] w fun e w' => e = .returned (.bool true) ∧ Duo w' b r (s.write off n v).1 ∧ Fr (Or2 (One b) (One r)) w w' := by
  have HO := Lib.hid ho
  have HV := Lib.hid hv
  have BA := Lib.hid (Blk.new w 68 #[.int .i64 act, .int .u64 (off : Int), .int .i64 n, .int .u64 (v : Int), .int .i64 src, .bool up])
  have DA := Lib.hid (hD.keep ((Fr.refl No w).alloc (.cells #[.int .i64 act, .int .u64 (off : Int), .int .i64 n, .int .u64 (v : Int), .int .i64 src, .bool up] 68)))
  have FA := Lib.hid ((Fr.refl No w).alloc (.cells #[.int .i64 act, .int .u64 (off : Int), .int .i64 n, .int .u64 (v : Int), .int .i64 src, .bool up] 68))
  have hxb : ¬ Or2 (One b) (One r) w.heap.size := fun q => by
    have h1 := hD.pic.seg.lt
    have h2 := hD.ref.seg.lt
    rcases q with q | q
    · have : w.heap.size = b := q
      omega
    · have : w.heap.size = r := q
      omega
  have HX := Lib.hid hxb
  clear hxb hD
  subst ha
  clear ho hv
  go_enter Tryd.func37, Tryd.ntmps37
  go_wp2_with fail
  refine (PWrite_c _ b 0 s off n v HO.out HV.out DA.out.pic).mono ?_
  rintro e w1 ⟨rfl, hp, hf⟩
  have H1 := Lib.hid (DA.out.go hp hf)
  have r1 := H1.out.2.2.2.cell (BA.out.cell 1) HX.out
  have r2 := H1.out.2.2.2.cell (BA.out.cell 2) HX.out
  have r3 := H1.out.2.2.2.cell (BA.out.cell 3) HX.out
  simp at r1 r2 r3
  clear hp hf
  go_wp2_with fail
  refine (rWrite_c _ r 0 s off n v HV.out H1.out.2.2.1).mono ?_
  rintro e w2 ⟨rfl, hp, hf⟩
  have H2 := Lib.hid (DA.out.behind H1.out hp hf)
  clear hp hf
  go_wp2_with fail
  go_ret
  exact ⟨by simp, H2.out.1, (FA.out.mono fun _ _ q => q.elim).trans H2.out.2⟩
set_option maxRecDepth 100000 in
set_option maxHeartbeats 4000000 in
/-- An act that reads. -/
theorem both_read (w : World) (b r : Nat) (s : PS) (off : Nat) (n : Int) (v : Nat) (src : Int) (up : Bool) (ho : off < 18446744073709551616) (hD : Duo w b r s) (act : Int) (ha : act = 1) :
    Calls Tryd.prog 37 #[.pointer (some ⟨b, 0, none⟩), .pointer (some ⟨r, 0, none⟩), .agg #[.int .i64 act, .int .u64 (off : Int), .int .i64 n, .int .u64 (v : Int), .int .i64 src, .bool up]] w fun e w' => e = .returned (.bool true) ∧ Duo w' b r (s.read off n).1 ∧ Fr (Or2 (One b) (One r)) w w' := by
  have HO := Lib.hid ho
  have BA := Lib.hid (Blk.new w 68 #[.int .i64 act, .int .u64 (off : Int), .int .i64 n, .int .u64 (v : Int), .int .i64 src, .bool up])
  have DA := Lib.hid (hD.keep ((Fr.refl No w).alloc (.cells #[.int .i64 act, .int .u64 (off : Int), .int .i64 n, .int .u64 (v : Int), .int .i64 src, .bool up] 68)))
  have FA := Lib.hid ((Fr.refl No w).alloc (.cells #[.int .i64 act, .int .u64 (off : Int), .int .i64 n, .int .u64 (v : Int), .int .i64 src, .bool up] 68))
  have hxb : ¬ Or2 (One b) (One r) w.heap.size := fun q => by
    have h1 := hD.pic.seg.lt
    have h2 := hD.ref.seg.lt
    rcases q with q | q
    · have : w.heap.size = b := q
      omega
    · have : w.heap.size = r := q
      omega
  have HX := Lib.hid hxb
  clear hxb hD
  subst ha
  clear ho
  go_enter Tryd.func37, Tryd.ntmps37
  go_wp2_with fail
  refine (PRead_c _ b 0 s off n HO.out DA.out.pic DA.out.tz).mono ?_
  rintro e w1 ⟨rfl, hp, hf⟩
  have H1 := Lib.hid (DA.out.go hp hf)
  have r1 := H1.out.2.2.2.cell (BA.out.cell 1) HX.out
  have r2 := H1.out.2.2.2.cell (BA.out.cell 2) HX.out
  simp at r1 r2
  clear hp hf
  simp only [readV]
  go_wp2_with fail
  refine (rRead_c _ r 0 s off n H1.out.2.2.1).mono ?_
  rintro e w2 ⟨rfl, hp, hf⟩
  have H2 := Lib.hid (DA.out.behind H1.out hp hf)
  clear hp hf
  simp only [readV]
  go_wp2_with fail
  go_ret
  exact ⟨by simp, H2.out.1, (FA.out.mono fun _ _ q => q.elim).trans H2.out.2⟩
end Go.Proofs.YtcnglhneknbllaaDoor

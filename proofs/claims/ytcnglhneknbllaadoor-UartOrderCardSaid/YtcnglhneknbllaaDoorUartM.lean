/-
  The serial line as plain data: its state, and what each act makes of it. No program in sight.
-/
import Derived.Test.YtcnglhneknbllaaDoorBase
namespace Go.Proofs.YtcnglhneknbllaaDoor
open Go Go.RowKit

/-- The state of a serial line. -/
structure US where
  inn : List Nat
  out : List Nat
  ier : Nat
  fcr : Nat
  lcr : Nat
  mcr : Nat
  scr : Nat
  dl : Nat
  dm : Nat
  lost : Bool
  sent : Bool
deriving DecidableEq

namespace US
/-- At first. -/
def new : US := ⟨[], [], 0, 0, 0, 0, 0, 0, 0, false, false⟩
/-- All is within its bounds. -/
structure Ok (s : US) : Prop where
  inn : ∀ x ∈ s.inn, x < 256
  out : ∀ x ∈ s.out, x < 256
  ier : s.ier < 16
  fcr : s.fcr < 2
  lcr : s.lcr < 256
  mcr : s.mcr < 32
  scr : s.scr < 256
  dl : s.dl < 256
  dm : s.dm < 256
  ilen : s.inn.length ≤ 16
  olen : s.out.length ≤ 65536
def feed (s : US) (b : Nat) : US × Bool := if 16 ≤ s.inn.length then ({ s with lost := true }, false) else ({ s with inn := s.inn ++ [b] }, true)
def reason (s : US) : Nat := if s.ier.testBit 0 = true ∧ 0 < s.inn.length then 4 else if s.ier.testBit 1 = true ∧ s.sent = true then 2 else 1
def line (s : US) : Bool := s.reason != 1
def latch (s : US) : Bool := s.lcr.testBit 7
/-- The first byte that came in is taken. -/
def first (s : US) : US × Nat := match s.inn with
  | [] => (s, 0)
  | x :: r => ({ s with inn := r }, x)
def identity (s : US) : US × Nat := (if s.reason = 2 then { s with sent := false } else s, s.reason + 192 * s.fcr)
def state (s : US) : US × Nat := ({ s with lost := false }, 96 + (if 0 < s.inn.length then 1 else 0) + (if s.lost = true then 2 else 0))
/-- What is read at an offset that is one (0 to 7). -/
def get (s : US) (off : Nat) : US × Nat :=
  if off = 0 then (if s.latch = true then (s, s.dl) else s.first)
  else if off = 1 then (if s.latch = true then (s, s.dm) else (s, s.ier))
  else if off = 2 then s.identity
  else if off = 3 then (s, s.lcr)
  else if off = 4 then (s, s.mcr)
  else if off = 5 then s.state
  else if off = 6 then (s, 176)
  else (s, s.scr)
def read (s : US) (off : Nat) (n : Int) : US × Nat × Bool := if n ≠ 1 ∨ 7 < off then (s, 0, false) else ((s.get off).1, (s.get off).2, true)
/-- What writing the byte `b` at an offset makes. -/
def put (s : US) (off : Nat) (b : Nat) : US :=
  if off = 0 then (if s.latch = true then { s with dl := b } else { s with out := if s.out.length < 65536 then s.out ++ [b] else s.out, sent := true })
  else if off = 1 then (if s.latch = true then { s with dm := b } else { s with ier := b % 16, sent := if s.ier.testBit 1 = false ∧ b.testBit 1 = true then true else s.sent })
  else if off = 2 then { s with fcr := b % 2, inn := if b.testBit 1 = true then [] else s.inn }
  else if off = 3 then { s with lcr := b }
  else if off = 4 then { s with mcr := b % 32 }
  else if off = 7 then { s with scr := b }
  else s
def write (s : US) (off : Nat) (n : Int) (v : Nat) : US × Bool := if n ≠ 1 ∨ 7 < off then (s, false) else (s.put off (v % 256), true)

theorem ok_new : new.Ok := by constructor <;> simp [new]
theorem reason_lt (s : US) : s.reason < 256 := by unfold reason; split <;> (try split) <;> omega
theorem Ok.feed {s : US} (h : s.Ok) (b : Nat) (hb : b < 256) : (s.feed b).1.Ok := by
  unfold US.feed
  split
  · exact ⟨h.inn, h.out, h.ier, h.fcr, h.lcr, h.mcr, h.scr, h.dl, h.dm, h.ilen, h.olen⟩
  · rename_i hl
    refine ⟨fun x hx => ?_, h.out, h.ier, h.fcr, h.lcr, h.mcr, h.scr, h.dl, h.dm, ?_, h.olen⟩
    · simp only [List.mem_append, List.mem_singleton] at hx
      rcases hx with hx | rfl
      · exact h.inn x hx
      · exact hb
    · simp only [List.length_append, List.length_singleton]; omega
theorem Ok.first {s : US} (h : s.Ok) : s.first.1.Ok ∧ s.first.2 < 256 := by
  unfold US.first
  split
  · exact ⟨h, by omega⟩
  · rename_i x r hr
    refine ⟨⟨fun y hy => h.inn y (by rw [hr]; exact List.mem_cons_of_mem _ hy), h.out, h.ier, h.fcr, h.lcr, h.mcr, h.scr, h.dl, h.dm, ?_, h.olen⟩, h.inn x (by rw [hr]; exact List.mem_cons_self)⟩
    have := h.ilen
    rw [hr] at this
    simp only [List.length_cons] at this
    show r.length ≤ 16
    omega
theorem Ok.get {s : US} (h : s.Ok) (off : Nat) : (s.get off).1.Ok ∧ (s.get off).2 < 256 := by
  have h1 := h.first
  have hr : s.reason ≤ 4 := by unfold US.reason; split <;> (try split) <;> omega
  have hi : s.identity.1.Ok ∧ s.identity.2 < 256 := by
    unfold US.identity
    refine ⟨?_, by have := h.fcr; dsimp only; omega⟩
    dsimp only
    split
    · exact ⟨h.inn, h.out, h.ier, h.fcr, h.lcr, h.mcr, h.scr, h.dl, h.dm, h.ilen, h.olen⟩
    · exact h
  have hs : s.state.1.Ok ∧ s.state.2 < 256 := by
    unfold US.state
    refine ⟨⟨h.inn, h.out, h.ier, h.fcr, h.lcr, h.mcr, h.scr, h.dl, h.dm, h.ilen, h.olen⟩, ?_⟩
    dsimp only
    split <;> split <;> omega
  unfold US.get
  have := h.ier; have := h.lcr; have := h.mcr; have := h.scr; have := h.dl; have := h.dm
  repeat' split
  all_goals first | exact h1 | exact hi | exact hs | exact ⟨h, by omega⟩
theorem Ok.put {s : US} (h : s.Ok) (off b : Nat) (hb : b < 256) : (s.put off b).Ok := by
  unfold US.put
  have h1 : ∀ x ∈ (if s.out.length < 65536 then s.out ++ [b] else s.out), x < 256 := by
    intro x hx
    split at hx
    · simp only [List.mem_append, List.mem_singleton] at hx
      rcases hx with hx | rfl
      · exact h.out x hx
      · exact hb
    · exact h.out x hx
  have h2 : (if s.out.length < 65536 then s.out ++ [b] else s.out).length ≤ 65536 := by
    have := h.olen
    split
    · simp only [List.length_append, List.length_singleton]; omega
    · omega
  have h3 : ∀ x ∈ (if b.testBit 1 = true then [] else s.inn), x < 256 := by
    intro x hx
    split at hx
    · cases hx
    · exact h.inn x hx
  have h4 : (if b.testBit 1 = true then [] else s.inn).length ≤ 16 := by
    have := h.ilen
    split
    · simp
    · omega
  generalize (if s.out.length < 65536 then s.out ++ [b] else s.out) = O at *
  generalize (if b.testBit 1 = true then [] else s.inn) = I at *
  repeat' split
  all_goals first
    | exact ⟨h.inn, h.out, h.ier, h.fcr, h.lcr, h.mcr, h.scr, hb, h.dm, h.ilen, h.olen⟩
    | exact ⟨h.inn, h1, h.ier, h.fcr, h.lcr, h.mcr, h.scr, h.dl, h.dm, h.ilen, h2⟩
    | exact ⟨h.inn, h.out, h.ier, h.fcr, h.lcr, h.mcr, h.scr, h.dl, hb, h.ilen, h.olen⟩
    | exact ⟨h.inn, h.out, by show b % 16 < 16; omega, h.fcr, h.lcr, h.mcr, h.scr, h.dl, h.dm, h.ilen, h.olen⟩
    | exact ⟨h3, h.out, h.ier, by show b % 2 < 2; omega, h.lcr, h.mcr, h.scr, h.dl, h.dm, h4, h.olen⟩
    | exact ⟨h.inn, h.out, h.ier, h.fcr, hb, h.mcr, h.scr, h.dl, h.dm, h.ilen, h.olen⟩
    | exact ⟨h.inn, h.out, h.ier, h.fcr, h.lcr, by show b % 32 < 32; omega, h.scr, h.dl, h.dm, h.ilen, h.olen⟩
    | exact ⟨h.inn, h.out, h.ier, h.fcr, h.lcr, h.mcr, hb, h.dl, h.dm, h.ilen, h.olen⟩
    | exact h
theorem Ok.write {s : US} (h : s.Ok) (off : Nat) (n : Int) (v : Nat) : (s.write off n v).1.Ok := by
  unfold US.write
  split
  · exact h
  · exact h.put off _ (by omega)
theorem Ok.read {s : US} (h : s.Ok) (off : Nat) (n : Int) : (s.read off n).1.Ok ∧ (s.read off n).2.1 < 256 := by
  unfold US.read
  split
  · exact ⟨h, by dsimp only; omega⟩
  · exact h.get off
/-- Where the register of an offset lies. -/
def reg (s : US) (off : Nat) : Nat := if off ≤ 1 ∧ s.latch = true then 8 + off else off
theorem reg_le (s : US) (off : Nat) (h : off ≤ 7) : s.reg off ≤ 9 := by unfold US.reg; split <;> omega
/-- What is read of a register. -/
def getR (s : US) (k : Nat) : US × Nat :=
  if k = 0 then s.first else if k = 1 then (s, s.ier) else if k = 2 then s.identity else if k = 3 then (s, s.lcr) else if k = 4 then (s, s.mcr)
  else if k = 5 then s.state else if k = 6 then (s, 176) else if k = 7 then (s, s.scr) else if k = 8 then (s, s.dl) else (s, s.dm)
theorem get_reg (s : US) (off : Nat) (h : off ≤ 7) : s.get off = s.getR (s.reg off) := by
  have h8 : off = 0 ∨ off = 1 ∨ off = 2 ∨ off = 3 ∨ off = 4 ∨ off = 5 ∨ off = 6 ∨ off = 7 := by omega
  rcases Bool.eq_false_or_eq_true s.latch with hl | hl <;> rcases h8 with rfl | rfl | rfl | rfl | rfl | rfl | rfl | rfl <;> simp [US.get, US.getR, US.reg, hl]
/-- What writing into a register makes. -/
def putR (s : US) (k : Nat) (b : Nat) : US :=
  if k = 0 then { s with out := if s.out.length < 65536 then s.out ++ [b] else s.out, sent := true }
  else if k = 1 then { s with ier := b % 16, sent := if s.ier.testBit 1 = false ∧ b.testBit 1 = true then true else s.sent }
  else if k = 2 then { s with fcr := b % 2, inn := if b.testBit 1 = true then [] else s.inn }
  else if k = 3 then { s with lcr := b } else if k = 4 then { s with mcr := b % 32 } else if k = 7 then { s with scr := b }
  else if k = 8 then { s with dl := b } else if k = 9 then { s with dm := b } else s
theorem put_reg (s : US) (off b : Nat) (h : off ≤ 7) : s.put off b = s.putR (s.reg off) b := by
  have h8 : off = 0 ∨ off = 1 ∨ off = 2 ∨ off = 3 ∨ off = 4 ∨ off = 5 ∨ off = 6 ∨ off = 7 := by omega
  rcases Bool.eq_false_or_eq_true s.latch with hl | hl <;> rcases h8 with rfl | rfl | rfl | rfl | rfl | rfl | rfl | rfl <;> simp [US.put, US.putR, US.reg, hl]
end US
end Go.Proofs.YtcnglhneknbllaaDoor

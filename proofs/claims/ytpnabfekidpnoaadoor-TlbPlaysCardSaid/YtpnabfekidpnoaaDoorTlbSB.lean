/-
  Acts of the law's argument; twins beside the document's.
-/
import Derived.Test.YtpnabfekidpnoaaDoorTlbSA
namespace Go.Proofs.YtpnabfekidpnoaaDoor
open Go Go.RowKit

def taCells (xs : List TA) : List Value := xs.flatMap TA.cells
theorem taCells_at (xs : List TA) : ∀ (k : Nat) (x : TA), xs[k]? = some x → ∀ j u, x.cells[j]? = some u → (taCells xs)[k * 14 + j]? = some u := by
  induction xs with
  | nil => intro k x h; simp at h
  | cons y xs ih =>
    intro k x h j u hu
    cases k with
    | zero =>
      simp at h
      subst h
      have hj : j < 14 := by rw [← TA.cells_len y]; exact (List.getElem?_eq_some_iff.1 hu).1
      simp only [taCells, List.flatMap_cons]
      rw [Nat.zero_mul, Nat.zero_add, List.getElem?_append_left (by rw [TA.cells_len]; exact hj)]
      exact hu
    | succ k =>
      simp only [taCells, List.flatMap_cons]
      rw [List.getElem?_append_right (by rw [TA.cells_len, Nat.add_mul]; omega), TA.cells_len]
      have := ih k x (by simpa using h) j u hu
      rw [← this]
      unfold taCells
      congr 1
      rw [Nat.add_mul]
      omega
/-- Where an act lies, at every world that keeps what was there. -/
theorem Rd.taAt {w : World} {v : Value} {xs : List TA} (h : Rd w v xs.length (taCells xs)) {k : Nat} (hk : k < xs.length) :
    ∃ g o c, v = .slice (some ⟨g, o, none⟩) xs.length c ∧ ∀ wz, Fr No w wz → ∀ j u, xs[k].cells[j]? = some u → wz.cell? ⟨g, o + k * 14 + j, none⟩ = some u := by
  obtain ⟨a, c, rfl, h2, h3, h4, h5⟩ := h
  cases a with
  | none => have := (h4 rfl).1; omega
  | some ad =>
    obtain ⟨g, o, sp⟩ := ad
    have hx := fun (j : Nat) (u : Value) (hu : xs[k].cells[j]? = some u) => h5 _ rfl _ u (taCells_at xs k xs[k] (List.getElem?_eq_getElem hk) j u hu)
    cases sp with
    | none => exact ⟨g, o, c, rfl, fun wz hz j u hu => hz.cell (by have := hx j u hu; rw [addr_add] at this; rw [Nat.add_assoc]; exact this) (fun h => h)⟩
    | some sp =>
      exfalso
      have h0 := h5 _ rfl _ _ (taCells_at xs 0 xs[0] (List.getElem?_eq_getElem (by omega)) 0 _ rfl)
      have hsp : (⟨g, o, some sp⟩ : Addr).add (0 * 14 + 0) = ⟨g, o, some sp⟩ := rfl
      rw [hsp] at h0
      unfold World.cell? at h0
      split at h0 <;> simp at h0
/-- Rows of an act's cells are acts. -/
theorem tas_of_rows : ∀ rows : List (List Value), (∀ r ∈ rows, WFits r [some .i64, none, some .u64, some .u64, none, some .u64, some .u64, some .u64, some .i64, some .i64, some .u64, some .u64, none, none]) → ∃ xs : List TA, xs.length = rows.length ∧ taCells xs = rows.flatten ∧ ∀ x ∈ xs, x.e.va < 18446744073709551616
  | [], _ => ⟨[], rfl, rfl, fun x h => by cases h⟩
  | r :: rows, h => by
    obtain ⟨xs, h1, h2, h3⟩ := tas_of_rows rows (fun r hr => h r (List.mem_cons_of_mem _ hr))
    have hr := h r (List.mem_cons_self ..)
    obtain ⟨act, _, rfl, _, hr⟩ := hr.int
    obtain ⟨a, r1, e1, hrb⟩ := hr.bool
    subst e1
    clear hr
    obtain ⟨b, _, rfl, hb, hr⟩ := hrb.int
    obtain ⟨c, _, rfl, hc, hr⟩ := hr.int
    obtain ⟨d, r2, e1, hr2⟩ := hr.bool
    subst e1
    clear hr
    obtain ⟨e, _, rfl, he, hr⟩ := hr2.int
    obtain ⟨f, _, rfl, hf, hr⟩ := hr.int
    obtain ⟨g, _, rfl, hg, hr⟩ := hr.int
    obtain ⟨i, _, rfl, _, hr⟩ := hr.int
    obtain ⟨j, _, rfl, _, hr⟩ := hr.int
    obtain ⟨k, _, rfl, hk, hr⟩ := hr.int
    obtain ⟨m, _, rfl, hm, hr⟩ := hr.int
    obtain ⟨p, r3, e1, hrp⟩ := hr.bool
    subst e1
    clear hr
    obtain ⟨q, r4, e1, hrq⟩ := hrp.bool
    subst e1
    clear hrp
    obtain rfl := hrq.nil
    obtain ⟨b, rfl, _⟩ := nat_u64 hb
    obtain ⟨c, rfl, _⟩ := nat_u64 hc
    obtain ⟨e, rfl, he'⟩ := nat_u64 he
    obtain ⟨f, rfl, _⟩ := nat_u64 hf
    obtain ⟨g, rfl, _⟩ := nat_u64 hg
    obtain ⟨k, rfl, _⟩ := nat_u64 hk
    obtain ⟨m, rfl, _⟩ := nat_u64 hm
    refine ⟨⟨act, ⟨a, b, c, d, e, f, g, i, j, k, m⟩, p, q⟩ :: xs, by rw [List.length_cons, List.length_cons, h1], ?_, fun x hx => ?_⟩
    · rw [List.flatten_cons, ← h2]
      rfl
    · rcases List.mem_cons.1 hx with rfl | hx
      · exact he'
      · exact h3 x hx
/-- It goes on as its twin; into the old one something is put, and it is fenced. -/
theorem Duo.twin {w0 w w5 w6 w7 : World} {t b2 r n ways : Nat} {L : TS} {R : List TE} {F G : Nat → Prop} (h : Duo w0 w t r n ways L R F G) (hF : ∀ k, F k → k < w.heap.size) (hG : ∀ k, G k → k < w.heap.size)
    (hu : TAt w5 b2 ways L (fun k => w.heap.size ≤ k)) (h5 : Fr No w w5) (h6 : Fr F w5 w6) (h7 : Fr (Plus F w5 w6) w6 w7) :
    Duo w0 w7 b2 r n ways L R (fun k => w.heap.size ≤ k ∧ k < w5.heap.size) G := by
  have hs := h.fr.size
  have hs5 := h5.size
  have hs6 := h6.size
  refine ⟨(hu.cut.fr h6 (fun k q q2 => ?_)).fr h7 (fun k q q2 => ?_), ((h.ra.fr h5 (fun _ _ q => q)).fr h6 (fun k q q2 => h.ne k q2 q)).fr h7 (fun k q q2 => ?_), fun k q q2 => ?_, fun k q => ?_, h.gn, ?_, h.rel, h.ok, h.len, h.va⟩
  · have := hF k q2; omega
  · rcases q2 with q2 | q2
    · have := hF k q2; omega
    · omega
  · rcases q2 with q2 | q2
    · exact h.ne k q2 q
    · have := hG k q; omega
  · have := hG k q2; omega
  · omega
  · refine ((h.fr.trans h5).andThen h6 (fun k hk q => ?_)).andThen h7 (fun k hk q => ?_)
    · have := h.fn k q; omega
    · rcases q with q | q
      · have := h.fn k q; omega
      · omega
theorem Duo.start {w0 w w1 w2 : World} {t n ways : Nat} (h0 : Fr No w0 w) (hn : 1 ≤ n ∧ n ≤ 64) (hw : 1 ≤ ways ∧ ways ≤ 8) (ht : TAt w1 t ways (List.replicate n []) (Plus No w w1)) (h1 : Fr No w w1) (hr : RTAt w2 w1.heap.size n ways [] (fun k => w1.heap.size ≤ k)) (h2 : Fr No w1 w2) :
    Duo w0 w2 t w1.heap.size n ways (List.replicate n []) [] (Plus No w w1) (fun k => w1.heap.size ≤ k) := by
  have hs := h0.size
  have hs1 := h1.size
  refine ⟨ht.fr h2 (fun _ _ q => q), hr, fun k q q2 => ?_, fun k q => ?_, fun k q => ?_, (h0.trans h1).trans h2, Rel.start n, Ok.new n ways hn hw, by simp, fun x hx => by cases hx⟩
  · rcases q with q | q
    · exact q
    · omega
  · rcases q with q | q
    · exact q.elim
    · omega
  · omega
end Go.Proofs.YtpnabfekidpnoaaDoor

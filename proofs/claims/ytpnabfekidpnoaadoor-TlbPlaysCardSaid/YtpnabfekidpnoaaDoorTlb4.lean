/-
  One that keeps translations, in memory; rows that are appended to.
-/
import Derived.Test.YtpnabfekidpnoaaDoorTlb3
namespace Go.Proofs.YtpnabfekidpnoaaDoor
open Go Go.RowKit

/-- A row that lies at the head of a block of its own, of elements of k cells. -/
def Head (w : World) (e : TypeId) (k : Nat) (v : Value) (n : Nat) (xs : List Value) (G : Nat → Prop) : Prop :=
  xs.length = n * k ∧ ((v = .slice none 0 0 ∧ n = 0) ∨ ∃ g c cur, v = .slice (some ⟨g, 0, none⟩) n c ∧ G g ∧ Blk w g e cur ∧ n ≤ c ∧ c ≤ maxLen ∧ cur.size = c * k ∧ ∀ j, j < xs.length → cur[j]? = xs[j]?)
namespace Head
variable {w w' : World} {e : TypeId} {k : Nat} {v : Value} {n : Nat} {xs : List Value} {G S : Nat → Prop}
theorem own (h : Head w e k v n xs G) : Own w e k v n xs G := by
  refine ⟨h.1, ?_⟩
  rcases h.2 with h1 | ⟨g, c, cur, h1, h2, h3, h4, h5, h6, h7⟩
  · exact .inl h1
  · exact .inr ⟨g, 0, c, cur, h1, h2, h3, h4, h5, by omega, .inl ⟨rfl, h6⟩, fun j hj => by rw [Nat.zero_add]; exact h7 j hj⟩
theorem nil_ (w : World) (e : TypeId) (k : Nat) (G : Nat → Prop) : Head w e k (.slice none 0 0) 0 [] G := ⟨by simp, .inl ⟨rfl, rfl⟩⟩
theorem mono {G' : Nat → Prop} (h : Head w e k v n xs G) (hG : ∀ k, G k → G' k) : Head w e k v n xs G' := by
  refine ⟨h.1, ?_⟩
  rcases h.2 with h1 | ⟨g, c, cur, h1, h2, h3⟩
  · exact .inl h1
  · exact .inr ⟨g, c, cur, h1, hG _ h2, h3⟩
theorem fr (h : Head w e k v n xs G) (hf : Fr S w w') (hd : ∀ k, G k → ¬ S k) : Head w' e k v n xs G := by
  refine ⟨h.1, ?_⟩
  rcases h.2 with h1 | ⟨g, c, cur, h1, h2, h3, h4⟩
  · exact .inl h1
  · exact .inr ⟨g, c, cur, h1, h2, h3.fr hf (hd _ h2), h4⟩
theorem cut (h : Head w e k v n xs G) : Head w e k v n xs (fun k => G k ∧ k < w.heap.size) := by
  refine ⟨h.1, ?_⟩
  rcases h.2 with h1 | ⟨g, c, cur, h1, h2, h3, h4⟩
  · exact .inl h1
  · exact .inr ⟨g, c, cur, h1, ⟨h2, h3.lt⟩, h3, h4⟩
end Head
theorem Head.row {w : World} {v : Value} {l : List TE} {G : Nat → Prop} (h : Head w 25 11 v l.length (tcells l) G) : Row w v l G := by
  rcases h.2 with ⟨h1, h2⟩ | ⟨g, c, cur, h1, h2, h3, h4, h5, h6, h7⟩
  · exact .inl ⟨h1, List.eq_nil_of_length_eq_zero h2⟩
  · exact .inr ⟨g, c, cur, h1, h2, h3, h4, h5, h6, fun j hj => h7 j (by rw [tcells_len]; exact hj)⟩
theorem Row.head {w : World} {v : Value} {l : List TE} {G : Nat → Prop} (h : Row w v l G) : Head w 25 11 v l.length (tcells l) G := by
  refine ⟨tcells_len l, ?_⟩
  rcases h with ⟨h1, h2⟩ | ⟨g, c, cur, h1, h2, h3, h4, h5, h6, h7⟩
  · exact .inl ⟨h1, by rw [h2]; rfl⟩
  · exact .inr ⟨g, c, cur, h1, h2, h3, h4, h5, h6, fun j hj => h7 j (by rw [← tcells_len]; exact hj)⟩
theorem Row.len {w : World} {v : Value} {l : List TE} {G : Nat → Prop} (h : Row w v l G) : ∃ a c, v = .slice a l.length c ∧ l.length ≤ c ∧ c ≤ maxLen := by
  rcases h with ⟨h1, h2⟩ | ⟨g, c, cur, h1, h2, h3, h4, h5, h6, h7⟩
  · exact ⟨none, 0, by rw [h1, h2]; rfl, by rw [h2]; simp, by unfold maxLen; omega⟩
  · exact ⟨_, c, h1, h4, h5⟩
section
variable {P : Program} (w : World)
theorem run_append_head (t ty e : TypeId) (i : TypeInfo) (z : Value) (size bytes : Nat) (ht : P.underlying t = some (.slice e)) (hi : P.info? e = some i) (hz : i.zero = some z)
    (hsize : i.size = size) (hby : i.bytes = bytes) (hzs : z.cells.size = size)
    (v : Value) (n : Nat) (xs : List Value) (G : Nat → Prop) (hown : Head w e size v n xs G)
    (ao : Option Addr) (m c : Nat) (news : List Value) (hrd : 0 < m → ∃ ad, ao = some ad ∧ ∀ j u, news[j]? = some u → w.cell? (ad.add j) = some u) (hl : news.length = m * size) (h1 : ∀ u ∈ news, u.oneCell' = true)
    (h63 : n + m ≤ maxLen) (hbytes : (n + m) * bytes ≤ 140737488355328) :
    ∃ v' w', (Builtin.append_ #[t, t] ty #[v, .slice ao m c]).run P w = .ok v' w' ∧ Head w' e size v' (n + m) (xs ++ news) (fun k => G k ∨ k = w.heap.size) ∧ Fr G w w' := by
  by_cases hm : m = 0
  · subst hm
    have hn : news = [] := List.eq_nil_of_length_eq_zero (by simpa using hl)
    subst hn
    exact ⟨v, w, run_append_zero w t ty e i size ht hi v n xs G hown.own ao c, by simpa using hown.mono (fun k hk => .inl hk), Fr.refl _ _⟩
  obtain ⟨a, rfl, hnews⟩ := hrd (by omega)
  subst hsize
  subst hby
  have h63' : n + m ≤ 9223372036854775807 := by simp only [maxLen] at h63; omega
  have hlen : (xs ++ news).length = (n + m) * i.size := by rw [List.length_append, hown.1, hl, Nat.add_mul]
  have grown : ∀ old : Nat, Head (w.drew.alloc (.cells (xs.toArray ++ news.toArray ++ Builtin.zeroCells z.cells (grownCap w (n + m) old e - (n + m))) e)) e i.size
        (.slice (some ⟨w.heap.size, 0, none⟩) (n + m) (grownCap w (n + m) old e)) (n + m) (xs ++ news) (fun k => G k ∨ k = w.heap.size) := by
    intro old
    have hge := grownCap_ge w (n + m) old e
    have hcm : grownCap w (n + m) old e ≤ maxLen := grownCap_le_maxLen w (n + m) old e h63
    have hsz : (xs.toArray ++ news.toArray ++ Builtin.zeroCells z.cells (grownCap w (n + m) old e - (n + m))).size = grownCap w (n + m) old e * i.size := by
      simp only [Array.size_append, List.size_toArray, size_zeroCells, hzs, hown.1, hl, ← Nat.add_mul]
      congr 1
      omega
    refine ⟨hlen, .inr ⟨w.heap.size, _, _, rfl, .inr rfl, Blk.new w.drew e _, hge, hcm, hsz, fun j hj => ?_⟩⟩
    have hj' : j < (xs.toArray ++ news.toArray).size := by simpa using hj
    rw [Array.getElem?_append_left hj']
    simp
  rcases hown.2 with ⟨rfl, rfl⟩ | ⟨g, c0, cur, rfl, hG, hb, hnc, hcm, hcs, hat⟩
  · have hx : xs = [] := List.eq_nil_of_length_eq_zero (by simpa using hown.1)
    subst hx
    have hr := run_append_nil (P := P) w t ty e i z ht hi hz a m c news hl hnews (by omega) (by omega) (by have hb := hbytes; simp only [Nat.zero_add] at hb; omega)
    have hgr := grown 0
    simp only [Nat.zero_add, List.nil_append, Array.empty_append] at hgr ⊢
    exact ⟨_, _, hr, hgr, ((Fr.refl G w).drew).alloc _⟩
  · have holds : ∀ j u, xs[j]? = some u → w.cell? ((⟨g, 0, none⟩ : Addr).add j) = some u := fun j u hu => by
      rw [addr_add, hb.cell, Nat.zero_add, hat j (List.getElem?_eq_some_iff.1 hu).1, hu]
    by_cases hroom : n + m ≤ c0
    · have hfit : n * i.size + news.length ≤ cur.size := by
        rw [hl, ← Nat.add_mul]
        exact Nat.le_trans (Nat.mul_le_mul_right _ hroom) (by omega)
      have hr := run_append_room (P := P) w t ty e i ht hi g n c0 cur hb a m c news hl hnews h1 hroom hfit
      have hxl := hown.1
      have hsz : (cur.toList.take (n * i.size) ++ news ++ cur.toList.drop (n * i.size + news.length)).length = cur.size := by
        simp only [List.length_append, List.length_take, List.length_drop, Array.length_toList]
        omega
      refine ⟨_, _, hr, ⟨hlen, .inr ⟨g, c0, _, rfl, .inl hG, setRow_heap w g cur _ e _ hb, hroom, hcm, by rw [List.size_toArray, hsz]; exact hcs, fun j hj => ?_⟩⟩,
        ⟨rfl, rfl, rfl, by simp, fun k _ hk => setRow_other w g k _ (fun e => hk (by rw [e]; exact hG))⟩⟩
      have hx : cur.toList.take (n * i.size) = xs := by
        apply List.ext_getElem?
        intro j
        rw [List.getElem?_take]
        by_cases hj : j < n * i.size
        · rw [if_pos hj]
          have := hat j (by omega)
          simpa using this
        · rw [if_neg hj, List.getElem?_eq_none (by omega)]
      rw [hx, List.getElem?_toArray, List.getElem?_append_left hj]
    · have hr := run_append_grow (P := P) w t ty e i z ht hi hz ⟨g, 0, none⟩ n c0 xs hown.1 holds a m c news hl hnews (by omega) (by omega) (growslice_fits (by omega) hbytes)
      exact ⟨_, _, hr, grown c0, ((Fr.refl G w).drew).alloc _⟩
end
theorem infoE2 : ∃ i, Tryd.prog.info? 25 = some i ∧ i.zero = some (.agg TE.none_.cells.toArray) ∧ i.size = 11 ∧ i.bytes ≤ 100 := by
  have h : (Tryd.prog.info? 25).map (fun i => (i.zero, i.size, decide (i.bytes ≤ 100))) = some (some (.agg TE.none_.cells.toArray), 11, true) := by kernel_rfl
  obtain ⟨i, hi, hz⟩ := Option.map_eq_some_iff.1 h
  injection hz with h1 h2
  injection h2 with h2 h3
  exact ⟨i, hi, h1, h2, of_decide_eq_true h3⟩
/-- One row behind another. -/
theorem Row.append {w : World} {v : Value} {l m : List TE} {G : Nat → Prop} (h : Row w v l G) (ty : TypeId) (ao : Option Addr) (c : Nat) (hrd : 0 < m.length → ∃ ad, ao = some ad ∧ ∀ j u, (tcells m)[j]? = some u → w.cell? (ad.add j) = some u) (hn : l.length + m.length ≤ 1000000) :
    ∃ v' w', (Builtin.append_ #[22, 22] ty #[v, .slice ao m.length c]).run Tryd.prog w = .ok v' w' ∧ Row w' v' (l ++ m) (fun k => G k ∨ k = w.heap.size) ∧ Fr G w w' := by
  obtain ⟨i, hi, hz, hs, hb⟩ := infoE2
  have hbb : (l.length + m.length) * i.bytes ≤ 1000000 * 100 := Nat.mul_le_mul hn hb
  obtain ⟨v', w', h1, h2, h3⟩ := run_append_head (P := Tryd.prog) w 22 ty 25 i _ 11 i.bytes Tryd.underlying22 hi hz hs rfl rfl v l.length (tcells l) G h.head ao m.length c (tcells m) hrd (tcells_len m) (tcells_one m) (by unfold maxLen; omega) (by omega)
  refine ⟨v', w', h1, Head.row ?_, h3⟩
  rw [tcells_app, List.length_append]
  exact h2
/-- What stands in memory of one: its block, the row of its sets, and each set's row; all lie in blocks of F. -/
def TIn (w : World) (b s c ways : Nat) (L : TS) (F : Nat → Prop) : Prop :=
  ∃ (vs : Array Value) (G : Nat → Nat → Prop), Blk w b 64 #[.int .i64 (ways : Int), .slice (some ⟨s, 0, none⟩) L.length c] ∧
    Blk w s 22 vs ∧ vs.size = c ∧ L.length ≤ c ∧ c ≤ maxLen ∧
    (∀ i (hi : i < L.length), ∃ v, vs[i]? = some v ∧ Row w v L[i] (G i)) ∧
    b ≠ s ∧ F b ∧ F s ∧ (∀ i k, G i k → F k ∧ k ≠ b ∧ k ≠ s) ∧ (∀ i j k, G i k → G j k → i = j)
def TAt (w : World) (b ways : Nat) (L : TS) (F : Nat → Prop) : Prop := ∃ s c, TIn w b s c ways L F
theorem TIn.at_ {w : World} {b s c ways : Nat} {L : TS} {F : Nat → Prop} (h : TIn w b s c ways L F) : TAt w b ways L F := ⟨s, c, h⟩
namespace TAt
variable {w w' : World} {b ways : Nat} {L : TS} {F S : Nat → Prop}
theorem fr (h : TAt w b ways L F) (hf : Fr S w w') (hd : ∀ k, F k → ¬ S k) : TAt w' b ways L F := by
  obtain ⟨s, c, vs, G, h1, h2, h3, h4, h5, h6, h7, h8, h9, h10, h11⟩ := h
  refine ⟨s, c, vs, G, h1.fr hf (hd _ h8), h2.fr hf (hd _ h9), h3, h4, h5, fun i hi => ?_, h7, h8, h9, h10, h11⟩
  obtain ⟨v, hv, hr⟩ := h6 i hi
  exact ⟨v, hv, hr.fr hf (fun k hk => hd _ (h10 i k hk).1)⟩
theorem mono {F' : Nat → Prop} (h : TAt w b ways L F) (hF : ∀ k, F k → F' k) : TAt w b ways L F' := by
  obtain ⟨s, c, vs, G, h1, h2, h3, h4, h5, h6, h7, h8, h9, h10, h11⟩ := h
  exact ⟨s, c, vs, G, h1, h2, h3, h4, h5, h6, h7, hF _ h8, hF _ h9, fun i k hk => ⟨hF _ (h10 i k hk).1, (h10 i k hk).2⟩, h11⟩
theorem cut (h : TAt w b ways L F) : TAt w b ways L (fun k => F k ∧ k < w.heap.size) := by
  obtain ⟨s, c, vs, G, h1, h2, h3, h4, h5, h6, h7, h8, h9, h10, h11⟩ := h
  refine ⟨s, c, vs, fun i k => G i k ∧ k < w.heap.size, h1, h2, h3, h4, h5, fun i hi => ?_, h7, ⟨h8, h1.lt⟩, ⟨h9, h2.lt⟩, fun i k hk => ⟨⟨(h10 i k hk.1).1, hk.2⟩, (h10 i k hk.1).2⟩, fun i j k h h' => h11 i j k h.1 h'.1⟩
  obtain ⟨v, hv, hr⟩ := h6 i hi
  exact ⟨v, hv, hr.cut⟩
theorem lt (h : TAt w b ways L F) : b < w.heap.size := by
  obtain ⟨s, c, vs, G, h1, _⟩ := h
  exact h1.lt
/-- One set's row is laid anew: all but that set is as it was. -/
theorem setRow {s c i : Nat} {vs : Array Value} {G : Nat → Nat → Prop} {v : Value} {l : List TE} {H F' : Nat → Prop} {w0 : World}
    (h1 : Blk w b 64 #[.int .i64 (ways : Int), .slice (some ⟨s, 0, none⟩) L.length c]) (h2 : Blk w s 22 vs) (h3 : vs.size = c) (h4 : L.length ≤ c) (h5 : c ≤ maxLen)
    (h6 : ∀ j (hj : j < L.length), j ≠ i → ∃ v, vs[j]? = some v ∧ Row w v L[j] (fun k => G j k ∧ k < w0.heap.size)) (h7 : b ≠ s) (h8 : F b) (h9 : F s) (h10 : ∀ i k, G i k → F k ∧ k ≠ b ∧ k ≠ s) (h11 : ∀ i j k, G i k → G j k → i = j)
    (hi : i < L.length) (hr : Row w v l H) (hH : ∀ k, H k → (G i k ∧ k < w0.heap.size) ∨ (w0.heap.size ≤ k ∧ F' k)) (hFF : ∀ k, F k → F' k) (hb : b < w0.heap.size) (hs : s < w0.heap.size) :
    TIn (w.setCell ⟨s, i, none⟩ v) b s c ways (L.set i l) F' := by
  have hf : Fr (One s) w (w.setCell ⟨s, i, none⟩ v) := Fr.put w s i v
  refine ⟨vs.setIfInBounds i v, fun j k => if j = i then H k else G j k ∧ k < w0.heap.size, by rw [List.length_set]; exact h1.fr hf (fun h => h7 h), h2.put i v, by rw [Array.size_setIfInBounds]; exact h3, by rw [List.length_set]; exact h4, h5, fun j hj => ?_, h7, hFF _ h8, hFF _ h9, fun j k hk => ?_, fun j j' k hj hj' => ?_⟩
  · rw [List.length_set] at hj
    by_cases hji : j = i
    · subst hji
      refine ⟨v, by rw [Array.getElem?_setIfInBounds]; simp; omega, ?_⟩
      simp only [List.getElem_set_self, if_true]
      exact hr.fr hf (fun k hk e => by
        have e1 : k = s := e
        subst e1
        rcases hH _ hk with q | q
        · exact (h10 _ _ q.1).2.2 rfl
        · omega)
    · obtain ⟨u, hu, hru⟩ := h6 j hj hji
      refine ⟨u, by rw [Array.getElem?_setIfInBounds, if_neg (fun e => hji e.symm)]; exact hu, ?_⟩
      rw [List.getElem_set_ne (fun e => hji e.symm)]
      simp only [if_neg hji]
      exact hru.fr hf (fun k hk e => by
        have e1 : k = s := e
        exact (h10 _ _ hk.1).2.2 e1)
  · by_cases hji : j = i
    · subst hji
      simp only [if_true] at hk
      rcases hH _ hk with q | q
      · exact ⟨hFF _ (h10 _ _ q.1).1, (h10 _ _ q.1).2⟩
      · exact ⟨q.2, by omega, by omega⟩
    · simp only [if_neg hji] at hk
      exact ⟨hFF _ (h10 _ _ hk.1).1, (h10 _ _ hk.1).2⟩
  · by_cases e1 : j = i
    · by_cases e2 : j' = i
      · rw [e1, e2]
      · simp only [if_pos e1] at hj
        simp only [if_neg e2] at hj'
        rcases hH _ hj with q | q
        · rw [e1]; exact h11 _ _ _ q.1 hj'.1
        · omega
    · by_cases e2 : j' = i
      · simp only [if_neg e1] at hj
        simp only [if_pos e2] at hj'
        rcases hH _ hj' with q | q
        · rw [e2]; exact h11 _ _ _ hj.1 q.1
        · omega
      · simp only [if_neg e1] at hj
        simp only [if_neg e2] at hj'
        exact h11 _ _ _ hj.1 hj'.1
end TAt
end Go.Proofs.YtpnabfekidpnoaaDoor

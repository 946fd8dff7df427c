/-
  drop, and the three fences: entries go.
-/
import Derived.Test.YtpnabfekidpnoaaDoorTlb5
namespace Go.Proofs.YtpnabfekidpnoaaDoor
open Go Go.RowKit

theorem Goes.sub {f : Nat} {lb : Array Value} {p : TE → Bool} {S T : Nat → Prop} {w : World} (h : Goes f lb p S w) (hs : ∀ k, T k → S k) : Goes f lb p T w := fun W x hW => h W x (hW.mono (fun k _ q => hs k q))
def dropTo (p : TE → Bool) (L : TS) (i : Nat) : TS := (List.take i L).map (keep p) ++ List.drop i L
def wentTo (p : TE → Bool) (L : TS) (i : Nat) : Nat := ((L.take i).map fun l => l.length - (keep p l).length).sum
theorem dropTo_len (p : TE → Bool) (L : TS) (i : Nat) (h : i ≤ L.length) : (dropTo p L i).length = L.length := by
  unfold dropTo
  rw [List.length_append, List.length_map, List.length_take, List.length_drop]
  omega
theorem dropTo_at (p : TE → Bool) (L : TS) (i : Nat) (h : i < L.length) (h' : i < (dropTo p L i).length) : (dropTo p L i)[i] = L[i] := by
  have : (dropTo p L i)[i]? = L[i]? := by
    unfold dropTo
    rw [List.getElem?_append_right (by rw [List.length_map, List.length_take]; omega), List.length_map, List.length_take, List.getElem?_drop]
    congr 1
    omega
  rw [List.getElem?_eq_getElem h', List.getElem?_eq_getElem h] at this
  exact Option.some.inj this
theorem dropTo_set (p : TE → Bool) (L : TS) (i : Nat) (h : i < L.length) : (dropTo p L i).set i (keep p L[i]) = dropTo p L (i + 1) := by
  have h1 : ((L.take i).map (keep p)).length = i := by rw [List.length_map, List.length_take]; omega
  unfold dropTo
  rw [List.set_append_right _ _ (by omega), h1, Nat.sub_self, List.drop_eq_getElem_cons h, List.set_cons_zero, ← List.take_append_getElem h, List.map_append, List.append_assoc]
  rfl
theorem wentTo_succ (p : TE → Bool) (L : TS) (i : Nat) (h : i < L.length) : wentTo p L (i + 1) = wentTo p L i + (L[i].length - (keep p L[i]).length) := by
  unfold wentTo
  rw [← List.take_append_getElem h, List.map_append, List.sum_append]
  simp
theorem keep_len (p : TE → Bool) (l : List TE) : (keep p l).length ≤ l.length := List.length_filter_le _ _
theorem wentTo_le (p : TE → Bool) (L : TS) (ways : Nat) (h : ∀ l ∈ L, l.length ≤ ways) : ∀ i, i ≤ L.length → wentTo p L i ≤ i * ways
  | 0, _ => by simp [wentTo]
  | i + 1, hi => by
    have h1 := wentTo_le p L ways h i (by omega)
    have h2 := h _ (List.getElem_mem (show i < L.length by omega))
    rw [wentTo_succ p L i (by omega), Nat.add_mul, Nat.one_mul]
    omega
theorem went_sum (p : TE → Bool) : ∀ L : TS, TS.count (TS.drop L p) ≤ TS.count L ∧ (L.map fun l => l.length - (keep p l).length).sum = TS.count L - TS.count (TS.drop L p)
  | [] => by simp [TS.count, TS.drop]
  | l :: L => by
    have h := went_sum p L
    have h1 := keep_len p l
    simp only [TS.count, TS.drop, List.map_cons, List.sum_cons, List.map_map] at h ⊢
    have h2 : (List.filter (fun x => !p x) l).length = (keep p l).length := rfl
    rw [h2]
    omega
theorem wentTo_all (p : TE → Bool) (L : TS) : wentTo p L L.length = L.went p := by
  unfold wentTo TS.went
  rw [List.take_length]
  exact (went_sum p L).2
theorem dropTo_all (p : TE → Bool) (L : TS) : dropTo p L L.length = L.drop p := by
  unfold dropTo
  show _ = L.map (keep p)
  rw [List.take_length, List.drop_length, List.append_nil]
theorem dropTo_zero (p : TE → Bool) (L : TS) : dropTo p L 0 = L := by simp [dropTo]
set_option maxRecDepth 100000 in
set_option maxHeartbeats 2000000 in
theorem drop_c (w : World) (b ways : Nat) (L : TS) (F : Nat → Prop) (f : Nat) (lb : Array Value) (p : TE → Bool) (h : TAt w b ways L F) (hok : TS.Ok ways L) (hgo : Goes f lb p F w)
    (eg : ∀ args w, (callFunc f args).run Tryd.prog w = .ok (.enter f args) w) :
    Calls Tryd.prog 31 #[.pointer (some ⟨b, 0, none⟩), .func (.func f) #[] lb] w fun r w' => r = .returned (.int .i64 ((L.went p : Nat) : Int)) ∧ TAt w' b ways (L.drop p) F ∧ Fr F w w' := by
  obtain ⟨s, c, hin⟩ := h
  obtain ⟨n, hn⟩ : ∃ n, n = L.length := ⟨_, rfl⟩
  have cb : w.cell? ⟨b, 1, none⟩ = some (.slice (some ⟨s, 0, none⟩) n c) := by obtain ⟨vs, G, h1, _⟩ := hin; rw [hn]; exact h1.cell 1
  have hin0 : TIn w b s c ways (dropTo p L 0) F := by rw [dropTo_zero]; exact hin
  have H0 := Lib.hid hin0
  have HG := Lib.hid hgo
  have HEG := Lib.hid eg
  have HN := Lib.hid hn
  have HOK := Lib.hid hok
  have h64 : n ≤ 64 := by rw [hn]; exact hok.n64
  have hw0 : wentTo p L 0 = 0 := by simp [wentTo]
  have HW0 := Lib.hid hw0
  clear hin hin0 hgo eg hn hok hw0
  go_enter Tryd.func31, Tryd.ntmps31
  go_wp2_with fail
  go_loopw [5, 16] (fun pn pi wr => ∃ i t : Nat, i ≤ n ∧ Hid (t = wentTo p L i) ∧ t ≤ 512 ∧ pn = .int .i64 (t : Int) ∧ pi = .int .i64 (i : Int) ∧ Hid (TIn wr b s c ways (dropTo p L i) F) ∧ Hid (Fr F w wr)) (fun _ pi _ => n - (intOf pi).toNat)
  case atStart => exact ⟨0, 0, Nat.zero_le _, Lib.hid HW0.out.symm, by omega, rfl, rfl, H0, Lib.hid (Fr.refl _ _)⟩
  case round =>
    obtain ⟨i, t, hi, HT, ht, rfl, rfl, HI, HF⟩ := hrel
    by_cases hlt : i < n
    · obtain ⟨vs, G, h1, h2, h3, h4, h5, h6, h7, h8, h9, h10, h11⟩ := HI.out
      have hlen := dropTo_len p L i (by have := HN.out; omega)
      have hiL : i < L.length := by have := HN.out; omega
      have hdL : i < (dropTo p L i).length := by omega
      obtain ⟨v, hv, hr⟩ := h6 i hdL
      rw [dropTo_at p L i hiL hdL] at hr
      obtain ⟨l, hl⟩ : ∃ l, l = L[i] := ⟨_, rfl⟩
      rw [← hl] at hr
      have hlw : l.length ≤ ways := by rw [hl]; exact HOK.out.r _ (List.getElem_mem _)
      have hw8 := HOK.out.w
      obtain ⟨a, cc, rfl, _, _⟩ := hr.len
      rw [hlen, ← HN.out] at h1
      have cb2 : wr.cell? ⟨b, 1, none⟩ = some (.slice (some ⟨s, 0, none⟩) n c) := h1.cell 1
      have cs2 : wr.cell? ⟨s, i, none⟩ = some (.slice a l.length cc) := (h2.cell i).trans hv
      have e1 : IntKind.i64.wrap ((i : Int) + 1) = ((i + 1 : Nat) : Int) := by rw [IntKind.wrap_i64]; omega
      have bs := h1.lt
      have ss := h2.lt
      have HB := Lib.hid h1
      have HS := Lib.hid h2
      have H3 := Lib.hid h3
      have H4 := Lib.hid h4
      have H5 := Lib.hid h5
      have H6 := Lib.hid h6
      have H7 := Lib.hid h7
      have H8 := Lib.hid (And.intro h8 h9)
      have H10 := Lib.hid h10
      have H11 := Lib.hid h11
      have HR := Lib.hid hr
      have HL := Lib.hid hl
      have HLW := Lib.hid (And.intro hlw hw8)
      have HLL := Lib.hid hlen
      have HBB := Lib.hid bs
      have HSS := Lib.hid ss
      clear h1 h2 h3 h4 h5 h6 h7 h8 h9 h10 h11 hr hl hlw hw8 hlen bs ss hv
      go_upto_region 7 with fail
      refine wp_region_held_drew (S := fun W => W.cell? ⟨b, 1, none⟩ = some (.slice (some ⟨s, 0, none⟩) n c)) (by kernel_rfl) cb2 (fun hHeld => ?_)
      refine' tkG (i := 0) (v := _) rfl (by kernel_rfl) (by kernel_rfl) (by kernel_rfl) (fun _ _ _ h => h) (by rfl) ?hy1 (by assumption) ?rest1
      case hy1 => (intro wq hSq; (try dsimp only at hSq); go_simp; try with_reducible rfl)
      simp only [Act.put, List.setIfInBounds_toArray, List.set_cons_zero, List.set_cons_succ]
      refine' tkG (i := 1) (v := _) rfl (by kernel_rfl) (by kernel_rfl) (by kernel_rfl) (fun _ _ _ h => h) (by rfl) ?hy2 (by assumption) ?rest2
      case hy2 => (intro wq hSq; (try dsimp only at hSq); go_simp; try with_reducible rfl)
      simp only [Act.put, List.setIfInBounds_toArray, List.set_cons_zero, List.set_cons_succ]
      refine' tkG (i := 2) (v := _) rfl (by kernel_rfl) (by kernel_rfl) (by kernel_rfl) (fun _ _ _ h => h) (by rfl) ?hy3 (by assumption) ?rest3
      case hy3 => (intro wq hSq; (try dsimp only at hSq); go_simp; try with_reducible rfl)
      simp only [Act.put, List.setIfInBounds_toArray, List.set_cons_zero, List.set_cons_succ]
      refine' tkG (i := 3) (v := _) rfl (by kernel_rfl) (by kernel_rfl) (by kernel_rfl) (fun _ _ _ h => h) (by rfl) ?hy4 (by assumption) ?rest4
      case hy4 => (intro wq hSq; (try dsimp only at hSq); go_simp; try with_reducible rfl)
      simp only [Act.put, List.setIfInBounds_toArray, List.set_cons_zero, List.set_cons_succ]
      refine' tkG (i := 4) (v := _) rfl (by kernel_rfl) (by kernel_rfl) (by kernel_rfl) (fun _ _ _ h => h) (by rfl) ?hy5 (by assumption) ?rest5
      case hy5 => (intro wq hSq; (try dsimp only at hSq); go_simp; try with_reducible rfl)
      simp only [Act.put, List.setIfInBounds_toArray, List.set_cons_zero, List.set_cons_succ]
      refine' tkG (i := 5) (v := _) rfl (by kernel_rfl) (by kernel_rfl) (by kernel_rfl) (fun _ _ _ h => h) (by rfl) ?hy6 (by assumption) ?rest6
      case hy6 => (intro wq hSq; (try dsimp only at hSq); go_simp; try with_reducible rfl)
      simp only [Act.put, List.setIfInBounds_toArray, List.set_cons_zero, List.set_cons_succ]
      refine' tkG (i := 6) (v := _) rfl (by kernel_rfl) (by kernel_rfl) (by kernel_rfl) (fun _ _ _ h => h) (by rfl) ?hy7 (by assumption) ?rest7
      case hy7 => (intro wq hSq; (try dsimp only at hSq); go_simp; try with_reducible rfl)
      simp only [Act.put, List.setIfInBounds_toArray, List.set_cons_zero, List.set_cons_succ]
      refine wpAnyH_ready (rs := [7]) (by kernel_rfl) (by simp) ?_
      refine AllReadyH.cons rfl (fun K hK => ?_) AllReadyH.nil
      go_simp
      have hFd : Fr (G i) wr wr.drew := (Fr.refl _ wr).drew
      refine (deleteFunc_c wr.drew _ l (G i) f lb p (HR.out.fr ((Fr.refl No wr).drew) (fun _ _ q => q)) (by have := HLW.out; omega) ((HG.out.step HF.out.drew).sub (fun k q => (H10.out _ _ q).1)) HEG.out).mono ?_
      rintro r w5 ⟨v5, rfl, hr5, hf5⟩
      obtain ⟨a5, c5, hv5, _, _⟩ := hr5.len
      obtain ⟨m5, hm5⟩ : ∃ m5, m5 = (keep p l).length := ⟨_, rfl⟩
      rw [← hm5] at hv5
      subst hv5
      have hle5 : m5 ≤ l.length := by rw [hm5]; exact keep_len _ _
      have hf15 : Fr (G i) wr w5 := ((Fr.refl (G i) wr).drew).trans hf5
      have hS5 : Blk w5 s 22 vs := HS.out.fr hf15 (fun q => (H10.out _ _ q).2.2 rfl)
      have hB5 : Blk w5 b 64 #[.int .i64 (ways : Int), .slice (some ⟨s, 0, none⟩) n c] := HB.out.fr hf15 (fun q => (H10.out _ _ q).2.1 rfl)
      have s5 : w5.cell? ⟨s, i, none⟩ = some (.slice a l.length cc) := (hf15.cell cs2 (fun q => (H10.out _ _ q).2.2 rfl))
      have f5 := hS5.free
      have hcb5 : w5.cell? ⟨b, 1, none⟩ = some (.slice (some ⟨s, 0, none⟩) n c) := hB5.cell 1
      have HS5 := Lib.hid hS5
      have HB5 := Lib.hid hB5
      have HF5 := Lib.hid hf15
      have HR5 := Lib.hid hr5
      have HM5 := Lib.hid hm5
      clear hS5 hB5 hf5 hr5 hm5 cs2
      go_simp
      refine hK.out _ _ hcb5 (fun hHeld => ?_)
      clear hK K hcb5
      try simp only [List.setIfInBounds_toArray, List.set_cons_zero, List.set_cons_succ]
      refine' tkG (i := 8) (v := _) rfl (by kernel_rfl) (by kernel_rfl) (by kernel_rfl) (fun _ _ _ h => h) (by rfl) ?hy8 (by assumption) ?rest8
      case hy8 => (intro wq hSq; (try dsimp only at hSq); go_simp; try with_reducible rfl)
      simp only [Act.put, List.setIfInBounds_toArray, List.set_cons_zero, List.set_cons_succ]
      refine wpAnyH_ready (rs := [9]) (by kernel_rfl) (by simp) ?_
      refine AllReadyH.cons rfl (fun K hK => ?_) AllReadyH.nil
      go_simp
      obtain ⟨X, hX⟩ : ∃ X, X = w5.setCell ⟨s, i, none⟩ (.slice a5 m5 c5) := ⟨_, rfl⟩
      rw [← hX]
      have hfX : Fr (One s) w5 X := by rw [hX]; exact Fr.put w5 s i _
      have hxb : X.cell? ⟨b, 1, none⟩ = some (.slice (some ⟨s, 0, none⟩) n c) := (HB5.out.fr hfX (fun q => H7.out q)).cell 1
      have hxs : X.cell? ⟨s, i, none⟩ = some (.slice a5 m5 c5) := by
        rw [hX, (HS5.out.put i _).cell, Array.getElem?_setIfInBounds]
        have := H3.out; have := H4.out; have := HLL.out
        simp; omega
      have hin : TIn X b s c ways (dropTo p L (i + 1)) F := by
        rw [hX, ← dropTo_set p L i (by have := HN.out; omega), ← HL.out]
        refine TAt.setRow (w0 := wr) (H := G i) (by rw [HLL.out, ← HN.out]; exact HB5.out) HS5.out H3.out H4.out H5.out (fun j hj hne => ?_) H7.out H8.out.1 H8.out.2 H10.out H11.out (by rw [HLL.out, ← HN.out]; exact hlt) ?_ (fun k h => ?_) (fun k h => h) HBB.out HSS.out
        · obtain ⟨v, hv, hr⟩ := H6.out j hj
          exact ⟨v, hv, hr.cut.fr HF5.out (fun k hk h => hne (H11.out _ _ _ hk.1 h))⟩
        · exact HR5.out
        · by_cases hk : k < wr.heap.size
          · exact .inl ⟨h, hk⟩
          · exact .inr ⟨by omega, (H10.out _ _ h).1⟩
      have hfw : Fr F w X := (HF.out.trans (HF5.out.mono (fun k _ q => (H10.out _ _ q).1))).trans (hfX.mono (fun k _ q => by have q2 : k = s := q; rw [q2]; exact H8.out.2))
      have HIN := Lib.hid hin
      have HFW := Lib.hid hfw
      clear hfX hin hfw s5 hX
      have hsucc : wentTo p L (i + 1) = t + (l.length - m5) := by rw [wentTo_succ p L i (by have := HN.out; omega), ← HL.out, ← HM5.out, HT.out]
      have hl8 : l.length ≤ 8 := by have := HLW.out; omega
      have ht2 : t + (l.length - m5) ≤ 512 := by
        have q := wentTo_le p L ways HOK.out.r (i + 1) (by have := HN.out; omega)
        rw [hsucc] at q
        have q2 : (i + 1) * ways ≤ 64 * 8 := Nat.mul_le_mul (by omega) (by have := HLW.out; omega)
        omega
      have HT2 := Lib.hid hsucc.symm
      obtain ⟨m, hm⟩ : ∃ m, m = l.length := ⟨_, rfl⟩
      rw [← hm] at hle5 ht2 hl8 HT2 ⊢
      clear HT HM5 HR5 HL HR HLW hsucc hm
      refine hK.out _ _ hxb (fun hHeld => ?_)
      clear hK K
      try simp only [List.setIfInBounds_toArray, List.set_cons_zero, List.set_cons_succ]
      refine wpAnyH_done (by kernel_rfl) ?_ _
      go_wp2_with fail
      refine ⟨⟨i + 1, t + (m - m5), by omega, HT2, ht2, ?_, by simp, HIN, HFW⟩, by simp [intOf]; omega⟩
      show Value.int IntKind.i64 _ = Value.int IntKind.i64 _
      congr 1
      omega
    · obtain rfl : i = n := by omega
      go_wp2_with fail
      go_ret
      have hT := HT.out
      have hI := HI.out
      rw [HN.out] at hT hI
      rw [wentTo_all] at hT
      rw [dropTo_all] at hI
      exact ⟨by rw [hT]; rfl, hI.at_, HF.out⟩
section
variable (w : World) (b ways : Nat) (L : TS) (F : Nat → Prop)
theorem clear_enters : ∀ args w, (callFunc 36 args).run Tryd.prog w = .ok (.enter 36 args) w := fun args w => enters_of Tryd.func36 (by kernel_rfl) rfl args w
theorem fence_enters : ∀ args w, (callFunc 32 args).run Tryd.prog w = .ok (.enter 32 args) w := fun args w => enters_of Tryd.func32 (by kernel_rfl) rfl args w
theorem fenceG_enters : ∀ args w, (callFunc 34 args).run Tryd.prog w = .ok (.enter 34 args) w := fun args w => enters_of Tryd.func34 (by kernel_rfl) rfl args w
set_option maxRecDepth 100000 in
theorem clear_c (h : TAt w b ways L F) (hok : TS.Ok ways L) :
    Calls Tryd.prog 17 #[.pointer (some ⟨b, 0, none⟩)] w fun r w' => r = .returned (.int .i64 ((L.went (fun _ => true) : Nat) : Int)) ∧ TAt w' b ways (L.drop (fun _ => true)) F ∧ Fr F w w' := by
  have hd := drop_c w b ways L F 36 #[] (fun _ => true) h hok (fun W x _ => clear1_c W x) clear_enters
  have HD := Lib.hid hd
  clear h hok hd
  go_enter Tryd.func17, Tryd.ntmps17
  go_wp2_with (go_at_call 31; refine HD.out.mono ?_; rintro r w2 ⟨rfl, h1, h2⟩)
  go_ret
  exact ⟨rfl, h1, h2⟩
set_option maxRecDepth 100000 in
theorem fenceG_c (vmid : Nat) (by_ : Bool) (h : TAt w b ways L F) (hok : TS.Ok ways L) :
    Calls Tryd.prog 15 #[.pointer (some ⟨b, 0, none⟩), .int .u64 (vmid : Int), .bool by_] w fun r w' => r = .returned (.int .i64 ((L.went (TS.fenceG vmid by_) : Nat) : Int)) ∧ TAt w' b ways (L.drop (TS.fenceG vmid by_)) F ∧ Fr F w w' := by
  have hf : Fr No w ((w.alloc (.cells #[.int .u64 (vmid : Int)] 23)).alloc (.cells #[.bool by_] 4)) := ((Fr.refl No w).alloc _).alloc _
  have h1 := (Blk.new w 23 #[.int .u64 (vmid : Int)]).alloc (.cells #[.bool by_] 4)
  have h2 := Blk.new (w.alloc (.cells #[.int .u64 (vmid : Int)] 23)) 4 #[.bool by_]
  rw [World.size_alloc] at h2
  have hc := h.cut.fr hf (fun _ _ q => q)
  have hd := drop_c _ b ways L _ 34 #[.pointer (some ⟨w.heap.size + 1, 0, none⟩), .pointer (some ⟨w.heap.size, 0, none⟩)] (TS.fenceG vmid by_) hc hok (fun W x hW => fenceG1_c W (w.heap.size + 1) w.heap.size vmid by_ x (hW.cell (h2.cell 0) (fun q => by have := q.2; have q3 : w.heap.size + 1 < w.heap.size := this; omega)) (hW.cell (h1.cell 0) (fun q => by have := q.2; have q3 : w.heap.size < w.heap.size := this; omega))) fenceG_enters
  have HD := Lib.hid hd
  have HF := Lib.hid hf
  clear h hok hd hc hf h1 h2
  go_enter Tryd.func15, Tryd.ntmps15
  go_wp2_with (go_at_call 31; refine HD.out.mono ?_; rintro r w2 ⟨rfl, h1, h2⟩)
  go_ret
  exact ⟨rfl, h1.mono (fun k h => h.1), (HF.out.mono (fun _ _ q => q.elim)).trans (h2.mono (fun k _ q => q.1))⟩
set_option maxRecDepth 100000 in
set_option maxHeartbeats 1000000 in
theorem fence_c (v : Bool) (vmid asid va : Nat) (byVa byAsid : Bool) (h : TAt w b ways L F) (hok : TS.Ok ways L) :
    Calls Tryd.prog 14 #[.pointer (some ⟨b, 0, none⟩), .bool v, .int .u64 (vmid : Int), .int .u64 (asid : Int), .int .u64 (va : Int), .bool byVa, .bool byAsid] w fun r w' => r = .returned (.int .i64 ((L.went (TS.fence v vmid asid va byVa byAsid) : Nat) : Int)) ∧ TAt w' b ways (L.drop (TS.fence v vmid asid va byVa byAsid)) F ∧ Fr F w w' := by
  obtain ⟨w6, hw6⟩ : ∃ w6, w6 = (((((w.alloc (.cells #[.bool v] 4)).alloc (.cells #[.int .u64 (vmid : Int)] 23)).alloc (.cells #[.int .u64 (asid : Int)] 23)).alloc (.cells #[.int .u64 (va : Int)] 23)).alloc (.cells #[.bool byVa] 4)).alloc (.cells #[.bool byAsid] 4) := ⟨_, rfl⟩
  have hf : Fr No w w6 := by rw [hw6]; exact ((((((Fr.refl No w).alloc _).alloc _).alloc _).alloc _).alloc _).alloc _
  have h1 : w6.cell? ⟨w.heap.size, 0, none⟩ = some (.bool v) := by rw [hw6]; exact ((((((Blk.new w _ _).alloc _).alloc _).alloc _).alloc _).alloc _).cell 0
  have h2 : w6.cell? ⟨w.heap.size + 1, 0, none⟩ = some (.int .u64 (vmid : Int)) := by
    have := (((((Blk.new (w.alloc (.cells #[.bool v] 4)) 23 #[.int .u64 (vmid : Int)]).alloc (.cells #[.int .u64 (asid : Int)] 23)).alloc (.cells #[.int .u64 (va : Int)] 23)).alloc (.cells #[.bool byVa] 4)).alloc (.cells #[.bool byAsid] 4)).cell 0
    simp only [World.size_alloc, ← hw6] at this
    exact this
  have h3 : w6.cell? ⟨w.heap.size + 2, 0, none⟩ = some (.int .u64 (asid : Int)) := by
    have := ((((Blk.new ((w.alloc (.cells #[.bool v] 4)).alloc (.cells #[.int .u64 (vmid : Int)] 23)) 23 #[.int .u64 (asid : Int)]).alloc (.cells #[.int .u64 (va : Int)] 23)).alloc (.cells #[.bool byVa] 4)).alloc (.cells #[.bool byAsid] 4)).cell 0
    simp only [World.size_alloc, ← hw6] at this
    exact this
  have h4 : w6.cell? ⟨w.heap.size + 3, 0, none⟩ = some (.int .u64 (va : Int)) := by
    have := (((Blk.new (((w.alloc (.cells #[.bool v] 4)).alloc (.cells #[.int .u64 (vmid : Int)] 23)).alloc (.cells #[.int .u64 (asid : Int)] 23)) 23 #[.int .u64 (va : Int)]).alloc (.cells #[.bool byVa] 4)).alloc (.cells #[.bool byAsid] 4)).cell 0
    simp only [World.size_alloc, ← hw6] at this
    exact this
  have h5 : w6.cell? ⟨w.heap.size + 4, 0, none⟩ = some (.bool byVa) := by
    have := ((Blk.new ((((w.alloc (.cells #[.bool v] 4)).alloc (.cells #[.int .u64 (vmid : Int)] 23)).alloc (.cells #[.int .u64 (asid : Int)] 23)).alloc (.cells #[.int .u64 (va : Int)] 23)) 4 #[.bool byVa]).alloc (.cells #[.bool byAsid] 4)).cell 0
    simp only [World.size_alloc, ← hw6] at this
    exact this
  have h6 : w6.cell? ⟨w.heap.size + 5, 0, none⟩ = some (.bool byAsid) := by
    have := (Blk.new (((((w.alloc (.cells #[.bool v] 4)).alloc (.cells #[.int .u64 (vmid : Int)] 23)).alloc (.cells #[.int .u64 (asid : Int)] 23)).alloc (.cells #[.int .u64 (va : Int)] 23)).alloc (.cells #[.bool byVa] 4)) 4 #[.bool byAsid]).cell 0
    simp only [World.size_alloc, ← hw6] at this
    exact this
  have hc := h.cut.fr hf (fun _ _ q => q)
  have hd := drop_c w6 b ways L _ 32 #[.pointer (some ⟨w.heap.size, 0, none⟩), .pointer (some ⟨w.heap.size + 1, 0, none⟩), .pointer (some ⟨w.heap.size + 4, 0, none⟩), .pointer (some ⟨w.heap.size + 3, 0, none⟩), .pointer (some ⟨w.heap.size + 5, 0, none⟩), .pointer (some ⟨w.heap.size + 2, 0, none⟩)] (TS.fence v vmid asid va byVa byAsid) hc hok
    (fun W x hW => fence1_c W _ _ _ _ _ _ v vmid asid va byVa byAsid x (hW.cell h1 (fun q => (show ¬ (w.heap.size < w.heap.size) by omega) q.2)) (hW.cell h2 (fun q => (show ¬ (w.heap.size + 1 < w.heap.size) by omega) q.2)) (hW.cell h5 (fun q => (show ¬ (w.heap.size + 4 < w.heap.size) by omega) q.2)) (hW.cell h4 (fun q => (show ¬ (w.heap.size + 3 < w.heap.size) by omega) q.2)) (hW.cell h6 (fun q => (show ¬ (w.heap.size + 5 < w.heap.size) by omega) q.2)) (hW.cell h3 (fun q => (show ¬ (w.heap.size + 2 < w.heap.size) by omega) q.2))) fence_enters
  have HD := Lib.hid hd
  have HF := Lib.hid hf
  have HW := Lib.hid hw6.symm
  clear h hok hd hc hf h1 h2 h3 h4 h5 h6 hw6
  go_enter Tryd.func14, Tryd.ntmps14
  go_wp2_with (go_at_call 31; rw [HW.out]; refine HD.out.mono ?_; rintro r w2 ⟨rfl, h1, h2⟩)
  go_ret
  exact ⟨rfl, h1.mono (fun k h => h.1), (HF.out.mono (fun _ _ q => q.elim)).trans (h2.mono (fun k _ q => q.1))⟩
end
end Go.Proofs.YtpnabfekidpnoaaDoor

/-
  TlbFenced, walked.
-/
import Derived.Test.YtpnabfekidpnoaaDoorTlbG
namespace Go.Proofs.YtpnabfekidpnoaaDoor
open Go Go.RowKit

/-- Blocks from a to b. -/
def Rg (a b : Nat) : Nat → Prop := fun k => a ≤ k ∧ k < b
theorem TAt.rg {w : World} {b ways lo : Nat} {L : TS} (h : TAt w b ways L (fun k => lo ≤ k)) {hi : Nat} (hh : hi = w.heap.size) : TAt w b ways L (Rg lo hi) := h.cut.mono (fun k q => ⟨q.1, by rw [hh]; exact q.2⟩)
theorem madeOf_four2 (l : List TE) : Four (madeOf l) := Four.all l Four.start
def acells (e : TE) : Array Value := #[.bool e.v, .int .u64 (e.vmid : Int), .int .u64 (e.asid : Int), .bool e.gl, .int .u64 (e.va : Int), .int .u64 (e.gpa : Int), .int .u64 (e.pa : Int), .int .i64 e.vl, .int .i64 e.gll, .int .u64 (e.vs : Int), .int .u64 (e.g : Int)]
theorem fence_weak {v : Bool} {vmid asid va : Nat} {byVa byAsid : Bool} {e : TE} (h : (e.v == v && (!v || e.vmid == vmid) && (!byAsid || !e.gl && e.asid == asid)) = false) : TS.fence v vmid asid va byVa byAsid e = false := by
  unfold TS.fence
  revert h
  cases (e.v == v && (!v || e.vmid == vmid)) <;> cases (!byAsid || !e.gl && e.asid == asid) <;> simp
set_option maxRecDepth 100000 in
set_option maxHeartbeats 4000000 in
theorem TlbFenced_main (w : World) (v : Value) (l : List TE) (f : TE) (byVa byAsid : Bool) (q : TE) (hr : Rd w v l.length (tcells l)) (h100 : l.length ≤ 100) (hT : TzAt w) :
    Calls Tryd.prog 6 #[v, .agg f.cells.toArray, .bool byVa, .bool byAsid, .agg q.cells.toArray] w fun r w' => r = .returned (.bool true) ∧ Fr No w w' := by
  obtain ⟨bf, hbf⟩ : ∃ bf, bf = w.heap.size := ⟨_, rfl⟩
  obtain ⟨bq, hbq⟩ : ∃ bq, bq = w.heap.size + 1 := ⟨_, rfl⟩
  obtain ⟨W0, hW0⟩ : ∃ W0, W0 = (w.alloc (.cells f.cells.toArray 25)).alloc (.cells q.cells.toArray 25) := ⟨_, rfl⟩
  have hf0 : Fr No w W0 := by rw [hW0]; exact ((Fr.refl No w).alloc _).alloc _
  have hBf : Blk W0 bf 25 f.cells.toArray := by rw [hW0, hbf]; exact (Blk.new w _ _).alloc _
  have hBq : Blk W0 bq 25 q.cells.toArray := by
    have := Blk.new (w.alloc (.cells f.cells.toArray 25)) 25 q.cells.toArray
    rw [World.size_alloc] at this
    rw [hW0, hbq]; exact this
  have hT0 := hT.fr hf0 (fun q => q)
  have HT := Lib.hid hT0
  have HR := Lib.hid (hr.fr hf0 (fun _ _ _ q => q))
  have HA := Lib.hid (awake_c W0 hT0)
  have HF0 := Lib.hid hf0
  have HBf := Lib.hid hBf
  have HBq := Lib.hid hBq
  have HBX := Lib.hid hbf
  have HBY := Lib.hid hbq
  have HW := Lib.hid (show (w.alloc (.cells (acells f) 25)).alloc (.cells (acells q) 25) = W0 from hW0.symm)
  have H100 := Lib.hid h100
  clear hT hT0 hf0 hW0 hBf hBq hr h100
  show Calls Tryd.prog 6 #[v, .agg (acells f), .bool byVa, .bool byAsid, .agg (acells q)] w _
  unfold acells at HW ⊢
  clear hbf hbq
  go_enter Tryd.func6, Tryd.ntmps6
  go_wp2_with fail
  rw [HW.out, ← HBY.out, ← HBX.out]
  refine HA.out.mono ?_
  rintro r w1 ⟨rfl, hf1⟩
  have HM := Lib.hid (made_c w1 v l (HR.out.fr hf1 (fun _ _ _ q => q)) H100.out (HT.out.fr hf1 (fun q => q)))
  have HF1 := Lib.hid hf1
  clear hf1
  go_wp2_with fail
  refine HM.out.mono ?_
  rintro r w2 ⟨b, rfl, hA2, hf2⟩
  obtain ⟨s0, hs0⟩ : ∃ s0, s0 = W0.heap.size := ⟨_, rfl⟩
  have hbs : bf < s0 ∧ bq < s0 := ⟨by rw [hs0]; exact HBf.out.lt, by rw [hs0]; exact HBq.out.lt⟩
  have HS0 := Lib.hid (And.intro hs0 hbs)
  have HF2 := Lib.hid (HF1.out.trans hf2)
  obtain ⟨s2, hs2⟩ : ∃ s2, s2 = w2.heap.size := ⟨_, rfl⟩
  have HS2 := Lib.hid hs2
  obtain ⟨L, hL⟩ : ∃ L, L = madeOf l := ⟨_, rfl⟩
  rw [← hL] at hA2
  have HOK := Lib.hid (show TS.Ok 3 L from by rw [hL]; exact madeOf_ok l)
  have HA2 := Lib.hid ((hA2.mono (F' := fun k => s0 ≤ k) (fun k h => by have h2 : w1.heap.size ≤ k := h; have := HF1.out.size; omega)).rg hs2)
  have H12 := Lib.hid (show L.flatten.length ≤ 12 from by rw [hL]; exact (madeOf_four2 l).len)
  clear hA2 hf2 hbs hs0 hs2 hL HM HF1 HA
  go_wp2_with fail
  refine (twin_c w2 b 3 L _ HA2.out HOK.out).mono ?_
  rintro r w3 ⟨bu, rfl, hU3, hf3⟩
  obtain ⟨s3, hs3⟩ : ∃ s3, s3 = w3.heap.size := ⟨_, rfl⟩
  have HS3 := Lib.hid hs3
  rw [← HS2.out] at hU3
  have HU3 := Lib.hid (hU3.rg hs3)
  have HA3 := Lib.hid (HA2.out.fr hf3 (fun _ _ q => q))
  have HF3 := Lib.hid (HF2.out.trans hf3)
  have HZ2 := Lib.hid (show s0 ≤ s2 from by have := HF2.out.size; have := HS0.out.1; have := HS2.out; omega)
  have HZ3 := Lib.hid (show s2 ≤ s3 from by rw [HS2.out, hs3]; exact hf3.size)
  clear hU3 hf3 hs3 HA2 HF2
  go_wp2_with fail
  refine (twin_c w3 b 3 L _ HA3.out HOK.out).mono ?_
  rintro r w4 ⟨bw, rfl, hW4, hf4⟩
  obtain ⟨s4, hs4⟩ : ∃ s4, s4 = w4.heap.size := ⟨_, rfl⟩
  rw [← HS3.out] at hW4
  have HW4 := Lib.hid (hW4.rg hs4)
  have HA4 := Lib.hid (HA3.out.fr hf4 (fun _ _ q => q))
  have HU4 := Lib.hid (HU3.out.fr hf4 (fun _ _ q => q))
  have HF4 := Lib.hid (HF3.out.trans hf4)
  have HS4 := Lib.hid hs4
  have HZ4 := Lib.hid (show s3 ≤ s4 from by rw [HS3.out, hs4]; exact hf4.size)
  clear hW4 hf4 hs4 HA3 HU3 HF3
  go_wp2_with fail
  refine (entries_c w4 b 3 L _ HA4.out HOK.out).mono ?_
  rintro r w5 ⟨va, rfl, hra, hf5⟩
  obtain ⟨aa, ca, rfl, _, _⟩ := hra.len
  obtain ⟨n, hn⟩ : ∃ n, n = L.flatten.length := ⟨_, rfl⟩
  rw [← hn]
  have HN := Lib.hid hn
  have HA5 := Lib.hid (HA4.out.fr hf5 (fun _ _ q => q))
  have HU5 := Lib.hid (HU4.out.fr hf5 (fun _ _ q => q))
  have HW5 := Lib.hid (HW4.out.fr hf5 (fun _ _ q => q))
  have HF5 := Lib.hid (HF4.out.trans hf5)
  clear hra hf5 hn HA4 HU4 HW4 HF4
  have hB := HBf.out.fr HF5.out (fun q => q)
  have y0 : w5.cell? ⟨bf, 0, none⟩ = some (.bool f.v) := hB.cell 0
  have y1 : w5.cell? ⟨bf, 1, none⟩ = some (.int .u64 (f.vmid : Int)) := hB.cell 1
  have y2 : w5.cell? ⟨bf, 2, none⟩ = some (.int .u64 (f.asid : Int)) := hB.cell 2
  have y4 : w5.cell? ⟨bf, 4, none⟩ = some (.int .u64 (f.va : Int)) := hB.cell 4
  clear hB
  go_wp2_with fail
  obtain ⟨p, hp⟩ : ∃ p, p = TS.fence f.v f.vmid f.asid f.va byVa byAsid := ⟨_, rfl⟩
  have hfc := fence_c w5 b 3 L _ f.v f.vmid f.asid f.va byVa byAsid HA5.out HOK.out
  rw [← hp] at hfc
  refine hfc.mono ?_
  rintro r w6 ⟨rfl, hA6, hf6⟩
  have HP := Lib.hid hp
  have hok2 : TS.Ok 3 (L.drop p) := HOK.out.drop p
  have hcnt := TS.drop_count p L
  have hwent : L.went p = n - (L.drop p).flatten.length := by rw [HN.out, TS.flat_count, TS.flat_count]; rfl
  obtain ⟨M, hM⟩ : ∃ M, M = L.drop p := ⟨_, rfl⟩
  rw [← hM] at hA6 hok2 hwent
  rw [← hM, ← TS.flat_count, ← TS.flat_count, ← HN.out] at hcnt
  have HM := Lib.hid hM
  have HOK2 := Lib.hid hok2
  have HA6 := Lib.hid hA6
  have HU6 := Lib.hid (HU5.out.fr hf6 (fun k h h' => by have h1 : s2 ≤ k := h.1; have h2 : k < s2 := h'.2; omega))
  have HW6 := Lib.hid (HW5.out.fr hf6 (fun k h h' => by have h1 : s3 ≤ k := h.1; have h2 : k < s2 := h'.2; have := HZ3.out; omega))
  have HF6 := Lib.hid (show Fr No W0 w6 from HF5.out.andThen hf6 (fun k hk h => by have h1 : s0 ≤ k := h.1; have := HS0.out.1; omega))
  clear hA6 hf6 hok2 hM hp hfc HA5 HU5 HW5 HF5 y0 y1 y2 y4
  obtain ⟨m, hm⟩ : ∃ m, m = M.flatten.length := ⟨_, rfl⟩
  rw [← hm] at hwent hcnt
  rw [hwent]
  have HMM := Lib.hid hm
  clear hwent hm
  go_wp2_with fail
  refine (entries_c w6 b 3 M _ HA6.out HOK2.out).mono ?_
  rintro r w7 ⟨vb, rfl, hrb, hf7⟩
  obtain ⟨ab, cb, rfl, _, _⟩ := hrb.len
  rw [← HMM.out] at hrb ⊢
  have HRB := Lib.hid hrb
  have HA7 := Lib.hid (HA6.out.fr hf7 (fun _ _ q => q))
  have HU7 := Lib.hid (HU6.out.fr hf7 (fun _ _ q => q))
  have HW7 := Lib.hid (HW6.out.fr hf7 (fun _ _ q => q))
  have HF7 := Lib.hid (HF6.out.trans hf7)
  clear hrb hf7 HA6 HU6 HW6 HF6
  have hn12 : n ≤ 12 := by rw [HN.out]; exact H12.out
  have h1 : ((n - m : Nat) : Int) = (n : Int) - (m : Int) := by omega
  go_wp2_with fail
  go_loopw [17] (fun pi wr => ∃ i : Nat, i ≤ m ∧ pi = .int .i64 (i : Int) ∧ Hid (Fr No w7 wr)) (fun pi _ => m - (intOf pi).toNat)
  case atStart => exact ⟨0, Nat.zero_le _, rfl, Lib.hid (Fr.refl _ _)⟩
  case round =>
    obtain ⟨i, hi, rfl, HF⟩ := hrel
    by_cases hlt : i < m
    · have hiL : i < M.flatten.length := by have := HMM.out; omega
      have hRB := HRB.out.fr HF.out (fun _ _ q => q)
      have hRB2 := hRB
      rw [HMM.out] at hRB2
      obtain ⟨g, c', cur, hv, hg, hBg, _, _, _, hcs⟩ := hRB2.at_ (by omega)
      injection hv with e1 _ e3
      subst e1 e3
      obtain ⟨x, hx⟩ : ∃ x, x = M.flatten[i] := ⟨_, rfl⟩
      obtain ⟨q0, q1, q2, q3, q4, q5, q6, q7, q8, q9, q10⟩ := (hRB2.own.elem hiL).te
      simp only [Nat.zero_add] at q0 q1 q2 q3 q4 q5 q6 q7 q8 q9 q10
      rw [← hx] at q0 q1 q2 q3 q4 q5 q6 q7 q8 q9 q10
      have hfp : p x = false := by
        have h : M.flatten[i] ∈ M.flatten := List.getElem_mem _
        rw [← hx, HM.out] at h
        exact TS.mem_drop h
      rw [HP.out] at hfp
      have HFP := Lib.hid (fence_page hfp)
      have e1 : IntKind.i64.wrap ((i : Int) + 1) = ((i + 1 : Nat) : Int) := by rw [IntKind.wrap_i64]; omega
      have hBW := (HBf.out.fr HF7.out (fun q => q)).fr HF.out (fun q => q)
      have HBW := Lib.hid hBW
      clear hRB hRB2 hg hBg hcs hx hfp hiL hBW
      go_upto_region 17 with fail
      obtain ⟨X, hX⟩ : ∃ X, X = wr.alloc (.cells (acells x) 25) := ⟨_, rfl⟩
      unfold acells at hX
      rw [← hX]
      have hBX : Blk X wr.heap.size 25 (acells x) := by rw [hX]; exact Blk.new wr _ _
      have hfx : Fr No wr X := by rw [hX]; exact (Fr.refl No wr).alloc _
      have HFX := Lib.hid (HF.out.trans hfx)
      have hBF := HBW.out.fr hfx (fun q => q)
      clear q0 q1 q2 q3 q4 q5 q6 q7 q8 q9 q10 hX hfx
      obtain ⟨bx, hbx⟩ : ∃ bx, bx = wr.heap.size := ⟨_, rfl⟩
      rw [← hbx] at hBX ⊢
      have y0 : X.cell? ⟨bf, 0, none⟩ = some (.bool f.v) := hBF.cell 0
      have y1 : X.cell? ⟨bf, 1, none⟩ = some (.int .u64 (f.vmid : Int)) := hBF.cell 1
      have y2 : X.cell? ⟨bf, 2, none⟩ = some (.int .u64 (f.asid : Int)) := hBF.cell 2
      have y4 : X.cell? ⟨bf, 4, none⟩ = some (.int .u64 (f.va : Int)) := hBF.cell 4
      have z0 : X.cell? ⟨bx, 0, none⟩ = some (.bool x.v) := hBX.cell 0
      have z1 : X.cell? ⟨bx, 1, none⟩ = some (.int .u64 (x.vmid : Int)) := hBX.cell 1
      have z2 : X.cell? ⟨bx, 2, none⟩ = some (.int .u64 (x.asid : Int)) := hBX.cell 2
      have z3 : X.cell? ⟨bx, 3, none⟩ = some (.bool x.gl) := hBX.cell 3
      have z4 : X.cell? ⟨bx, 4, none⟩ = some (.int .u64 (x.va : Int)) := hBX.cell 4
      have z5 : X.cell? ⟨bx, 5, none⟩ = some (.int .u64 (x.gpa : Int)) := hBX.cell 5
      have z6 : X.cell? ⟨bx, 6, none⟩ = some (.int .u64 (x.pa : Int)) := hBX.cell 6
      have z7 : X.cell? ⟨bx, 7, none⟩ = some (.int .i64 x.vl) := hBX.cell 7
      have z8 : X.cell? ⟨bx, 8, none⟩ = some (.int .i64 x.gll) := hBX.cell 8
      have z9 : X.cell? ⟨bx, 9, none⟩ = some (.int .u64 (x.vs : Int)) := hBX.cell 9
      have za : X.cell? ⟨bx, 10, none⟩ = some (.int .u64 (x.g : Int)) := hBX.cell 10
      clear hBX hBF hbx
      clear z5 z6 z7 z8 z9 za
      go_cut [117] from 62 to 117 (fun s wc => s = .bool false ∧ wc = X)
      case first =>
        clear HA7 HU7 HW7 HRB HP HM HOK HOK2 H12 HN HMM HBW HF7 HF HFX HBf HBq HT HR
        obtain ⟨f', hf'⟩ : ∃ f', f' = f := ⟨_, rfl⟩
        rw [← hf'] at y0 y1 y2 y4 HFP
        clear hf'
        cases byVa <;> cases byAsid
        all_goals as_aux_lemma =>
          go_wp2_with fail
          all_goals
            go_meet
            refine ⟨?_, rfl⟩
            first
              | rfl
              | (have h := HFP.out
                 clear HFP
                 have hpg := pgeq x.va f'.va
                 simp_all [Int.natCast_inj, nateq])
      case rest =>
        obtain ⟨rfl, rfl⟩ := hcut
        go_wp2_with fail
        exact ⟨⟨i + 1, by omega, by simp, HFX⟩, by simp [intOf]; omega⟩
    · obtain rfl : i = m := by omega
      have HF8 := Lib.hid (HF7.out.trans HF.out)
      have HA8 := Lib.hid (HA7.out.fr HF.out (fun _ _ q => q))
      have HU8 := Lib.hid (HU7.out.fr HF.out (fun _ _ q => q))
      have HW8 := Lib.hid (HW7.out.fr HF.out (fun _ _ q => q))
      clear HA7 HU7 HW7 HF7 HF HRB
      have hBQ := HBq.out.fr HF8.out (fun q => q)
      have y0 : wr.cell? ⟨bq, 0, none⟩ = some (.bool q.v) := hBQ.cell 0
      have y1 : wr.cell? ⟨bq, 1, none⟩ = some (.int .u64 (q.vmid : Int)) := hBQ.cell 1
      have y2 : wr.cell? ⟨bq, 2, none⟩ = some (.int .u64 (q.asid : Int)) := hBQ.cell 2
      have y4 : wr.cell? ⟨bq, 4, none⟩ = some (.int .u64 (q.va : Int)) := hBQ.cell 4
      clear hBQ
      go_wp2_with fail
      obtain ⟨gx, hgx⟩ : ∃ gx, gx = L.get q.v q.vmid q.asid q.va := ⟨_, rfl⟩
      obtain ⟨gy, hgy⟩ : ∃ gy, gy = M.get q.v q.vmid q.asid q.va := ⟨_, rfl⟩
      have hres : ∀ o : Option TE, getRes o = .tuple #[.agg (acells (o.getD TE.none_)), .bool o.isSome] := fun o => rfl
      have hg1 := get_c wr bu 3 L _ q.v q.vmid q.asid q.va HU8.out HOK.out
      rw [← hgx, hres] at hg1
      have hok2 : ∀ x, gx = some x → p x = false → gy = some x := fun x h1 h2 => by rw [hgy, HM.out]; exact TS.get_stays (hgx ▸ h1) h2
      have hax : gx.isSome = true → (gx.getD TE.none_).ans q.v q.vmid q.asid q.va = true := fun h => by
        cases hh : gx with
        | none => rw [hh] at h; cases h
        | some x => exact TS.get_ans (hgx ▸ hh)
      have hay : gy.isSome = true → (gy.getD TE.none_).ans q.v q.vmid q.asid q.va = true := fun h => by
        cases hh : gy with
        | none => rw [hh] at h; cases h
        | some x => exact TS.get_ans (hgy ▸ hh)
      have hnx : gx.isSome = false → gx.getD TE.none_ = TE.none_ := fun h => by
        cases hh : gx with
        | none => rfl
        | some x => rw [hh] at h; cases h
      have hst : gx.isSome = true → ((gx.getD TE.none_).v == f.v && (!f.v || (gx.getD TE.none_).vmid == f.vmid) && (!byAsid || !(gx.getD TE.none_).gl && (gx.getD TE.none_).asid == f.asid)) = false → gy.isSome = true ∧ gy.getD TE.none_ = gx.getD TE.none_ := fun h h2 => by
        cases hh : gx with
        | none => rw [hh] at h; cases h
        | some x =>
          rw [hh] at h2
          have h3 := hok2 x hh (by rw [HP.out]; exact fence_weak h2)
          rw [h3]
          exact ⟨rfl, rfl⟩
      obtain ⟨x, hx⟩ : ∃ x, x = gx.getD TE.none_ := ⟨_, rfl⟩
      obtain ⟨pb, hpb⟩ : ∃ pb, pb = gx.isSome := ⟨_, rfl⟩
      obtain ⟨y, hy⟩ : ∃ y, y = gy.getD TE.none_ := ⟨_, rfl⟩
      obtain ⟨rb, hrb⟩ : ∃ rb, rb = gy.isSome := ⟨_, rfl⟩
      rw [← hx, ← hpb] at hg1 hax hnx hst
      rw [← hy, ← hrb] at hay hst
      have HST := Lib.hid hst
      have HAX := Lib.hid hax
      have HAY := Lib.hid hay
      have HNX := Lib.hid hnx
      have hg2 := fun W (h : TAt W b 3 M (Rg s0 s2)) => get_c W b 3 M _ q.v q.vmid q.asid q.va h HOK2.out
      rw [← hgy] at hg2
      simp only [hres, ← hy, ← hrb] at hg2
      have HG2 := Lib.hid hg2
      clear hst hax hay hnx hok2 hx hpb hy hrb hgx hgy hres hg2
      unfold acells at hg1 HG2
      refine hg1.mono ?_
      rintro r w8 ⟨rfl, hb8⟩
      have hf8 : Fr No wr w8 := Fr.of_below hb8 No
      have HF9 := Lib.hid (HF8.out.trans hf8)
      have HA9 := Lib.hid (HA8.out.fr hf8 (fun _ _ q => q))
      have HU9 := Lib.hid (HU8.out.fr hf8 (fun _ _ q => q))
      have HW9 := Lib.hid (HW8.out.fr hf8 (fun _ _ q => q))
      clear HF8 HA8 HU8 HW8 hb8 hf8 hg1 y0 y1 y2 y4
      go_upto_region 20 with fail
      obtain ⟨X, hX⟩ : ∃ X, X = w8.alloc (.cells (acells x) 25) := ⟨_, rfl⟩
      have hX' := hX
      unfold acells at hX'
      rw [← hX']
      have hfX : Fr No w8 X := by rw [hX]; exact (Fr.refl No w8).alloc _
      have hbx : Blk X w8.heap.size 25 (acells x) := by rw [hX]; exact Blk.new _ _ _
      obtain ⟨bx, hbxe⟩ : ∃ bx, bx = w8.heap.size := ⟨_, rfl⟩
      rw [← hbxe] at hbx ⊢
      have HBXX := Lib.hid hbx
      have HF10 := Lib.hid (HF9.out.trans hfX)
      have HA10 := Lib.hid (HA9.out.fr hfX (fun _ _ q => q))
      have HU10 := Lib.hid (HU9.out.fr hfX (fun _ _ q => q))
      have HW10 := Lib.hid (HW9.out.fr hfX (fun _ _ q => q))
      clear HF9 HA9 HU9 HW9 hX hX' hfX hbx hbxe
      have hBQ := HBq.out.fr HF10.out (fun q => q)
      have y0 : X.cell? ⟨bq, 0, none⟩ = some (.bool q.v) := hBQ.cell 0
      have y1 : X.cell? ⟨bq, 1, none⟩ = some (.int .u64 (q.vmid : Int)) := hBQ.cell 1
      have y2 : X.cell? ⟨bq, 2, none⟩ = some (.int .u64 (q.asid : Int)) := hBQ.cell 2
      have y4 : X.cell? ⟨bq, 4, none⟩ = some (.int .u64 (q.va : Int)) := hBQ.cell 4
      clear hBQ
      go_upto_region 21 with (go_at_call 10; refine (HG2.out X HA10.out).mono ?_; rintro r w9 ⟨rfl, hb9⟩)
      obtain ⟨Y, hY⟩ : ∃ Y, Y = w9.alloc (.cells (acells y) 25) := ⟨_, rfl⟩
      have hY' := hY
      unfold acells at hY'
      rw [← hY']
      have hfY : Fr No X Y := by rw [hY]; exact (Fr.of_below hb9 No).alloc _
      have hbY : Blk Y w9.heap.size 25 (acells y) := by rw [hY]; exact Blk.new _ _ _
      obtain ⟨bY, hbYe⟩ : ∃ bY, bY = w9.heap.size := ⟨_, rfl⟩
      rw [← hbYe] at hbY ⊢
      have HBYY := Lib.hid hbY
      have HBX1 := Lib.hid (HBXX.out.fr hfY (fun q => q))
      have HF11 := Lib.hid (HF10.out.trans hfY)
      have HA11 := Lib.hid (HA10.out.fr hfY (fun _ _ q => q))
      have HU11 := Lib.hid (HU10.out.fr hfY (fun _ _ q => q))
      have HW11 := Lib.hid (HW10.out.fr hfY (fun _ _ q => q))
      clear HF10 HA10 HU10 HW10 hY hY' hfY hbY hbYe HBXX hb9 y0 y1 y2 y4
      go_cut [183] from 144 (fun s wc => s = .bool false ∧ Hid (Fr No Y wc))
      case first =>
        obtain ⟨q', hq'⟩ : ∃ q', q' = q := ⟨_, rfl⟩
        obtain ⟨x', hx'⟩ : ∃ x', x' = x := ⟨_, rfl⟩
        obtain ⟨y', hy'⟩ : ∃ y', y' = y := ⟨_, rfl⟩
        have hBQ := HBq.out.fr HF11.out (fun q => q)
        have hBX := HBX1.out
        have hBY := HBYY.out
        have hax := HAX.out
        have hay := HAY.out
        have hnx := HNX.out
        rw [← hq'] at hBQ hax hay
        rw [← hx'] at hBX hax hnx
        rw [← hy'] at hBY hay
        have HBQ1 := Lib.hid hBQ
        have HBX2 := Lib.hid hBX
        have HBY2 := Lib.hid hBY
        obtain ⟨ba, hba⟩ : ∃ ba, ba = x'.ans q'.v q'.vmid q'.asid q'.va := ⟨_, rfl⟩
        obtain ⟨bb, hbb⟩ : ∃ bb, bb = y'.ans q'.v q'.vmid q'.asid q'.va := ⟨_, rfl⟩
        have hix := fun W => is_c W x' q'.v q'.vmid q'.asid q'.va
        have hiy := fun W => is_c W y' q'.v q'.vmid q'.asid q'.va
        rw [← hba] at hix hax
        rw [← hbb] at hiy hay
        have HIX := Lib.hid (show ∀ W, Calls Tryd.prog 22 #[.agg (acells x'), .bool q'.v, .int .u64 (q'.vmid : Int), .int .u64 (q'.asid : Int), .int .u64 (q'.va : Int)] W fun r w' => r = .returned (.bool ba) ∧ Below W.heap.size W w' from hix)
        have HIY := Lib.hid (show ∀ W, Calls Tryd.prog 22 #[.agg (acells y'), .bool q'.v, .int .u64 (q'.vmid : Int), .int .u64 (q'.asid : Int), .int .u64 (q'.va : Int)] W fun r w' => r = .returned (.bool bb) ∧ Below W.heap.size W w' from hiy)
        unfold acells at HIX HIY
        have y0 : Y.cell? ⟨bq, 0, none⟩ = some (.bool q'.v) := hBQ.cell 0
        have y1 : Y.cell? ⟨bq, 1, none⟩ = some (.int .u64 (q'.vmid : Int)) := hBQ.cell 1
        have y2 : Y.cell? ⟨bq, 2, none⟩ = some (.int .u64 (q'.asid : Int)) := hBQ.cell 2
        have y4 : Y.cell? ⟨bq, 4, none⟩ = some (.int .u64 (q'.va : Int)) := hBQ.cell 4
        have z0 : Y.cell? ⟨bx, 0, none⟩ = some (.bool x'.v) := hBX.cell 0
        have z1 : Y.cell? ⟨bx, 1, none⟩ = some (.int .u64 (x'.vmid : Int)) := hBX.cell 1
        have z2 : Y.cell? ⟨bx, 2, none⟩ = some (.int .u64 (x'.asid : Int)) := hBX.cell 2
        have z3 : Y.cell? ⟨bx, 3, none⟩ = some (.bool x'.gl) := hBX.cell 3
        have z4 : Y.cell? ⟨bx, 4, none⟩ = some (.int .u64 (x'.va : Int)) := hBX.cell 4
        have z5 : Y.cell? ⟨bx, 5, none⟩ = some (.int .u64 (x'.gpa : Int)) := hBX.cell 5
        have z6 : Y.cell? ⟨bx, 6, none⟩ = some (.int .u64 (x'.pa : Int)) := hBX.cell 6
        have z7 : Y.cell? ⟨bx, 7, none⟩ = some (.int .i64 x'.vl) := hBX.cell 7
        have z8 : Y.cell? ⟨bx, 8, none⟩ = some (.int .i64 x'.gll) := hBX.cell 8
        have z9 : Y.cell? ⟨bx, 9, none⟩ = some (.int .u64 (x'.vs : Int)) := hBX.cell 9
        have za : Y.cell? ⟨bx, 10, none⟩ = some (.int .u64 (x'.g : Int)) := hBX.cell 10
        clear hq' hx' hy' hBQ hBX hBY hba hbb hix hiy HAX HAY HNX HST HA11 HU11 HW11 HP HM HOK HOK2 H12 HN HMM HBf HBq HT HR HG2 HW
        cases pb with
        | true =>
          obtain rfl : ba = true := hax rfl
          clear hax hnx
          cases rb with
          | true =>
            obtain rfl : bb = true := hay rfl
            clear hay
            as_aux_lemma =>
              go_wp2_with (first
                | (have hF12 := HF12.out
                   clear hF12
                   go_at_call 22
                   refine (HIY.out _).mono ?_
                   rintro r w11 ⟨rfl, hb11⟩
                   have HF13 := Lib.hid (HF12.out.trans (Fr.of_below hb11 No))
                   clear hb11 y0 y1 y2 y4 z0 z1 z2 z3 z4 z5 z6 z7 z8 z9 za k0 k1 k2 k3 k4 k5 k6 k7 k8 k9 ka HF12
                   have HF12 := HF13
                   clear HF13)
                | (go_at_call 22
                   refine (HIX.out _).mono ?_
                   rintro r w10 ⟨rfl, hb10⟩
                   have hfz := Fr.of_below hb10 No
                   have HF12 := Lib.hid hfz
                   clear hb10 y0 y1 y2 y4 z0 z1 z2 z3 z4 z5 z6 z7 z8 z9 za
                   have hQ := HBQ1.out.fr hfz (fun q => q)
                   have hX := HBX2.out.fr hfz (fun q => q)
                   have hY := HBY2.out.fr hfz (fun q => q)
                   have y0 : w10.cell? ⟨bq, 0, none⟩ = some (.bool q'.v) := hQ.cell 0
                   have y1 : w10.cell? ⟨bq, 1, none⟩ = some (.int .u64 (q'.vmid : Int)) := hQ.cell 1
                   have y2 : w10.cell? ⟨bq, 2, none⟩ = some (.int .u64 (q'.asid : Int)) := hQ.cell 2
                   have y4 : w10.cell? ⟨bq, 4, none⟩ = some (.int .u64 (q'.va : Int)) := hQ.cell 4
                   have z0 : w10.cell? ⟨bx, 0, none⟩ = some (.bool x'.v) := hX.cell 0
                   have z1 : w10.cell? ⟨bx, 1, none⟩ = some (.int .u64 (x'.vmid : Int)) := hX.cell 1
                   have z2 : w10.cell? ⟨bx, 2, none⟩ = some (.int .u64 (x'.asid : Int)) := hX.cell 2
                   have z3 : w10.cell? ⟨bx, 3, none⟩ = some (.bool x'.gl) := hX.cell 3
                   have z4 : w10.cell? ⟨bx, 4, none⟩ = some (.int .u64 (x'.va : Int)) := hX.cell 4
                   have z5 : w10.cell? ⟨bx, 5, none⟩ = some (.int .u64 (x'.gpa : Int)) := hX.cell 5
                   have z6 : w10.cell? ⟨bx, 6, none⟩ = some (.int .u64 (x'.pa : Int)) := hX.cell 6
                   have z7 : w10.cell? ⟨bx, 7, none⟩ = some (.int .i64 x'.vl) := hX.cell 7
                   have z8 : w10.cell? ⟨bx, 8, none⟩ = some (.int .i64 x'.gll) := hX.cell 8
                   have z9 : w10.cell? ⟨bx, 9, none⟩ = some (.int .u64 (x'.vs : Int)) := hX.cell 9
                   have za : w10.cell? ⟨bx, 10, none⟩ = some (.int .u64 (x'.g : Int)) := hX.cell 10
                   have k0 : w10.cell? ⟨bY, 0, none⟩ = some (.bool y'.v) := hY.cell 0
                   have k1 : w10.cell? ⟨bY, 1, none⟩ = some (.int .u64 (y'.vmid : Int)) := hY.cell 1
                   have k2 : w10.cell? ⟨bY, 2, none⟩ = some (.int .u64 (y'.asid : Int)) := hY.cell 2
                   have k3 : w10.cell? ⟨bY, 3, none⟩ = some (.bool y'.gl) := hY.cell 3
                   have k4 : w10.cell? ⟨bY, 4, none⟩ = some (.int .u64 (y'.va : Int)) := hY.cell 4
                   have k5 : w10.cell? ⟨bY, 5, none⟩ = some (.int .u64 (y'.gpa : Int)) := hY.cell 5
                   have k6 : w10.cell? ⟨bY, 6, none⟩ = some (.int .u64 (y'.pa : Int)) := hY.cell 6
                   have k7 : w10.cell? ⟨bY, 7, none⟩ = some (.int .i64 y'.vl) := hY.cell 7
                   have k8 : w10.cell? ⟨bY, 8, none⟩ = some (.int .i64 y'.gll) := hY.cell 8
                   have k9 : w10.cell? ⟨bY, 9, none⟩ = some (.int .u64 (y'.vs : Int)) := hY.cell 9
                   have ka : w10.cell? ⟨bY, 10, none⟩ = some (.int .u64 (y'.g : Int)) := hY.cell 10
                   clear hQ hX hY hfz))
              go_meet
              exact ⟨rfl, HF12⟩
          | false =>
            clear hay
            as_aux_lemma =>
              go_wp2_with (first
                | (have hF12 := HF12.out
                   clear hF12
                   go_at_call 22
                   refine (HIY.out _).mono ?_
                   rintro r w11 ⟨rfl, hb11⟩
                   have HF13 := Lib.hid (HF12.out.trans (Fr.of_below hb11 No))
                   clear hb11 y0 y1 y2 y4 z0 z1 z2 z3 z4 z5 z6 z7 z8 z9 za k0 k1 k2 k3 k4 k5 k6 k7 k8 k9 ka HF12
                   have HF12 := HF13
                   clear HF13)
                | (go_at_call 22
                   refine (HIX.out _).mono ?_
                   rintro r w10 ⟨rfl, hb10⟩
                   have hfz := Fr.of_below hb10 No
                   have HF12 := Lib.hid hfz
                   clear hb10 y0 y1 y2 y4 z0 z1 z2 z3 z4 z5 z6 z7 z8 z9 za
                   have hQ := HBQ1.out.fr hfz (fun q => q)
                   have hX := HBX2.out.fr hfz (fun q => q)
                   have hY := HBY2.out.fr hfz (fun q => q)
                   have y0 : w10.cell? ⟨bq, 0, none⟩ = some (.bool q'.v) := hQ.cell 0
                   have y1 : w10.cell? ⟨bq, 1, none⟩ = some (.int .u64 (q'.vmid : Int)) := hQ.cell 1
                   have y2 : w10.cell? ⟨bq, 2, none⟩ = some (.int .u64 (q'.asid : Int)) := hQ.cell 2
                   have y4 : w10.cell? ⟨bq, 4, none⟩ = some (.int .u64 (q'.va : Int)) := hQ.cell 4
                   have z0 : w10.cell? ⟨bx, 0, none⟩ = some (.bool x'.v) := hX.cell 0
                   have z1 : w10.cell? ⟨bx, 1, none⟩ = some (.int .u64 (x'.vmid : Int)) := hX.cell 1
                   have z2 : w10.cell? ⟨bx, 2, none⟩ = some (.int .u64 (x'.asid : Int)) := hX.cell 2
                   have z3 : w10.cell? ⟨bx, 3, none⟩ = some (.bool x'.gl) := hX.cell 3
                   have z4 : w10.cell? ⟨bx, 4, none⟩ = some (.int .u64 (x'.va : Int)) := hX.cell 4
                   have z5 : w10.cell? ⟨bx, 5, none⟩ = some (.int .u64 (x'.gpa : Int)) := hX.cell 5
                   have z6 : w10.cell? ⟨bx, 6, none⟩ = some (.int .u64 (x'.pa : Int)) := hX.cell 6
                   have z7 : w10.cell? ⟨bx, 7, none⟩ = some (.int .i64 x'.vl) := hX.cell 7
                   have z8 : w10.cell? ⟨bx, 8, none⟩ = some (.int .i64 x'.gll) := hX.cell 8
                   have z9 : w10.cell? ⟨bx, 9, none⟩ = some (.int .u64 (x'.vs : Int)) := hX.cell 9
                   have za : w10.cell? ⟨bx, 10, none⟩ = some (.int .u64 (x'.g : Int)) := hX.cell 10
                   have k0 : w10.cell? ⟨bY, 0, none⟩ = some (.bool y'.v) := hY.cell 0
                   have k1 : w10.cell? ⟨bY, 1, none⟩ = some (.int .u64 (y'.vmid : Int)) := hY.cell 1
                   have k2 : w10.cell? ⟨bY, 2, none⟩ = some (.int .u64 (y'.asid : Int)) := hY.cell 2
                   have k3 : w10.cell? ⟨bY, 3, none⟩ = some (.bool y'.gl) := hY.cell 3
                   have k4 : w10.cell? ⟨bY, 4, none⟩ = some (.int .u64 (y'.va : Int)) := hY.cell 4
                   have k5 : w10.cell? ⟨bY, 5, none⟩ = some (.int .u64 (y'.gpa : Int)) := hY.cell 5
                   have k6 : w10.cell? ⟨bY, 6, none⟩ = some (.int .u64 (y'.pa : Int)) := hY.cell 6
                   have k7 : w10.cell? ⟨bY, 7, none⟩ = some (.int .i64 y'.vl) := hY.cell 7
                   have k8 : w10.cell? ⟨bY, 8, none⟩ = some (.int .i64 y'.gll) := hY.cell 8
                   have k9 : w10.cell? ⟨bY, 9, none⟩ = some (.int .u64 (y'.vs : Int)) := hY.cell 9
                   have ka : w10.cell? ⟨bY, 10, none⟩ = some (.int .u64 (y'.g : Int)) := hY.cell 10
                   clear hQ hX hY hfz))
              go_meet
              exact ⟨rfl, HF12⟩
        | false =>
          have hxn := hnx rfl
          have heq : ∀ W, (binOp .neq 25 (.agg #[.bool x'.v, .int .u64 (x'.vmid : Int), .int .u64 (x'.asid : Int), .bool x'.gl, .int .u64 (x'.va : Int), .int .u64 (x'.gpa : Int), .int .u64 (x'.pa : Int), .int .i64 x'.vl, .int .i64 x'.gll, .int .u64 (x'.vs : Int), .int .u64 (x'.g : Int)]) (.agg #[.bool false, .int .u64 0, .int .u64 0, .bool false, .int .u64 0, .int .u64 0, .int .u64 0, .int .i64 0, .int .i64 0, .int .u64 0, .int .u64 0])).run Tryd.prog W = .ok (.bool false) W := fun W => (te_eq_run x' TE.none_ W).2.trans (by rw [decide_eq_true hxn]; rfl)
          clear hax hnx hxn
          cases ba with
          | true =>
            cases rb with
            | true =>
              obtain rfl : bb = true := hay rfl
              clear hay
              as_aux_lemma =>
                go_wp2_with (first
                  | (have hF12 := HF12.out
                     clear hF12
                     go_at_call 22
                     refine (HIY.out _).mono ?_
                     rintro r w11 ⟨rfl, hb11⟩
                     have HF13 := Lib.hid (HF12.out.trans (Fr.of_below hb11 No))
                     clear hb11 y0 y1 y2 y4 z0 z1 z2 z3 z4 z5 z6 z7 z8 z9 za k0 k1 k2 k3 k4 k5 k6 k7 k8 k9 ka HF12
                     have HF12 := HF13
                     clear HF13)
                  | (go_at_call 22
                     refine (HIX.out _).mono ?_
                     rintro r w10 ⟨rfl, hb10⟩
                     have hfz := Fr.of_below hb10 No
                     have HF12 := Lib.hid hfz
                     clear hb10 y0 y1 y2 y4 z0 z1 z2 z3 z4 z5 z6 z7 z8 z9 za
                     have hQ := HBQ1.out.fr hfz (fun q => q)
                     have hX := HBX2.out.fr hfz (fun q => q)
                     have hY := HBY2.out.fr hfz (fun q => q)
                     have y0 : w10.cell? ⟨bq, 0, none⟩ = some (.bool q'.v) := hQ.cell 0
                     have y1 : w10.cell? ⟨bq, 1, none⟩ = some (.int .u64 (q'.vmid : Int)) := hQ.cell 1
                     have y2 : w10.cell? ⟨bq, 2, none⟩ = some (.int .u64 (q'.asid : Int)) := hQ.cell 2
                     have y4 : w10.cell? ⟨bq, 4, none⟩ = some (.int .u64 (q'.va : Int)) := hQ.cell 4
                     have z0 : w10.cell? ⟨bx, 0, none⟩ = some (.bool x'.v) := hX.cell 0
                     have z1 : w10.cell? ⟨bx, 1, none⟩ = some (.int .u64 (x'.vmid : Int)) := hX.cell 1
                     have z2 : w10.cell? ⟨bx, 2, none⟩ = some (.int .u64 (x'.asid : Int)) := hX.cell 2
                     have z3 : w10.cell? ⟨bx, 3, none⟩ = some (.bool x'.gl) := hX.cell 3
                     have z4 : w10.cell? ⟨bx, 4, none⟩ = some (.int .u64 (x'.va : Int)) := hX.cell 4
                     have z5 : w10.cell? ⟨bx, 5, none⟩ = some (.int .u64 (x'.gpa : Int)) := hX.cell 5
                     have z6 : w10.cell? ⟨bx, 6, none⟩ = some (.int .u64 (x'.pa : Int)) := hX.cell 6
                     have z7 : w10.cell? ⟨bx, 7, none⟩ = some (.int .i64 x'.vl) := hX.cell 7
                     have z8 : w10.cell? ⟨bx, 8, none⟩ = some (.int .i64 x'.gll) := hX.cell 8
                     have z9 : w10.cell? ⟨bx, 9, none⟩ = some (.int .u64 (x'.vs : Int)) := hX.cell 9
                     have za : w10.cell? ⟨bx, 10, none⟩ = some (.int .u64 (x'.g : Int)) := hX.cell 10
                     have k0 : w10.cell? ⟨bY, 0, none⟩ = some (.bool y'.v) := hY.cell 0
                     have k1 : w10.cell? ⟨bY, 1, none⟩ = some (.int .u64 (y'.vmid : Int)) := hY.cell 1
                     have k2 : w10.cell? ⟨bY, 2, none⟩ = some (.int .u64 (y'.asid : Int)) := hY.cell 2
                     have k3 : w10.cell? ⟨bY, 3, none⟩ = some (.bool y'.gl) := hY.cell 3
                     have k4 : w10.cell? ⟨bY, 4, none⟩ = some (.int .u64 (y'.va : Int)) := hY.cell 4
                     have k5 : w10.cell? ⟨bY, 5, none⟩ = some (.int .u64 (y'.gpa : Int)) := hY.cell 5
                     have k6 : w10.cell? ⟨bY, 6, none⟩ = some (.int .u64 (y'.pa : Int)) := hY.cell 6
                     have k7 : w10.cell? ⟨bY, 7, none⟩ = some (.int .i64 y'.vl) := hY.cell 7
                     have k8 : w10.cell? ⟨bY, 8, none⟩ = some (.int .i64 y'.gll) := hY.cell 8
                     have k9 : w10.cell? ⟨bY, 9, none⟩ = some (.int .u64 (y'.vs : Int)) := hY.cell 9
                     have ka : w10.cell? ⟨bY, 10, none⟩ = some (.int .u64 (y'.g : Int)) := hY.cell 10
                     clear hQ hX hY hfz))
                go_meet
                exact ⟨rfl, HF12⟩
            | false =>
              clear hay
              as_aux_lemma =>
                go_wp2_with (first
                  | (have hF12 := HF12.out
                     clear hF12
                     go_at_call 22
                     refine (HIY.out _).mono ?_
                     rintro r w11 ⟨rfl, hb11⟩
                     have HF13 := Lib.hid (HF12.out.trans (Fr.of_below hb11 No))
                     clear hb11 y0 y1 y2 y4 z0 z1 z2 z3 z4 z5 z6 z7 z8 z9 za k0 k1 k2 k3 k4 k5 k6 k7 k8 k9 ka HF12
                     have HF12 := HF13
                     clear HF13)
                  | (go_at_call 22
                     refine (HIX.out _).mono ?_
                     rintro r w10 ⟨rfl, hb10⟩
                     have hfz := Fr.of_below hb10 No
                     have HF12 := Lib.hid hfz
                     clear hb10 y0 y1 y2 y4 z0 z1 z2 z3 z4 z5 z6 z7 z8 z9 za
                     have hQ := HBQ1.out.fr hfz (fun q => q)
                     have hX := HBX2.out.fr hfz (fun q => q)
                     have hY := HBY2.out.fr hfz (fun q => q)
                     have y0 : w10.cell? ⟨bq, 0, none⟩ = some (.bool q'.v) := hQ.cell 0
                     have y1 : w10.cell? ⟨bq, 1, none⟩ = some (.int .u64 (q'.vmid : Int)) := hQ.cell 1
                     have y2 : w10.cell? ⟨bq, 2, none⟩ = some (.int .u64 (q'.asid : Int)) := hQ.cell 2
                     have y4 : w10.cell? ⟨bq, 4, none⟩ = some (.int .u64 (q'.va : Int)) := hQ.cell 4
                     have z0 : w10.cell? ⟨bx, 0, none⟩ = some (.bool x'.v) := hX.cell 0
                     have z1 : w10.cell? ⟨bx, 1, none⟩ = some (.int .u64 (x'.vmid : Int)) := hX.cell 1
                     have z2 : w10.cell? ⟨bx, 2, none⟩ = some (.int .u64 (x'.asid : Int)) := hX.cell 2
                     have z3 : w10.cell? ⟨bx, 3, none⟩ = some (.bool x'.gl) := hX.cell 3
                     have z4 : w10.cell? ⟨bx, 4, none⟩ = some (.int .u64 (x'.va : Int)) := hX.cell 4
                     have z5 : w10.cell? ⟨bx, 5, none⟩ = some (.int .u64 (x'.gpa : Int)) := hX.cell 5
                     have z6 : w10.cell? ⟨bx, 6, none⟩ = some (.int .u64 (x'.pa : Int)) := hX.cell 6
                     have z7 : w10.cell? ⟨bx, 7, none⟩ = some (.int .i64 x'.vl) := hX.cell 7
                     have z8 : w10.cell? ⟨bx, 8, none⟩ = some (.int .i64 x'.gll) := hX.cell 8
                     have z9 : w10.cell? ⟨bx, 9, none⟩ = some (.int .u64 (x'.vs : Int)) := hX.cell 9
                     have za : w10.cell? ⟨bx, 10, none⟩ = some (.int .u64 (x'.g : Int)) := hX.cell 10
                     have k0 : w10.cell? ⟨bY, 0, none⟩ = some (.bool y'.v) := hY.cell 0
                     have k1 : w10.cell? ⟨bY, 1, none⟩ = some (.int .u64 (y'.vmid : Int)) := hY.cell 1
                     have k2 : w10.cell? ⟨bY, 2, none⟩ = some (.int .u64 (y'.asid : Int)) := hY.cell 2
                     have k3 : w10.cell? ⟨bY, 3, none⟩ = some (.bool y'.gl) := hY.cell 3
                     have k4 : w10.cell? ⟨bY, 4, none⟩ = some (.int .u64 (y'.va : Int)) := hY.cell 4
                     have k5 : w10.cell? ⟨bY, 5, none⟩ = some (.int .u64 (y'.gpa : Int)) := hY.cell 5
                     have k6 : w10.cell? ⟨bY, 6, none⟩ = some (.int .u64 (y'.pa : Int)) := hY.cell 6
                     have k7 : w10.cell? ⟨bY, 7, none⟩ = some (.int .i64 y'.vl) := hY.cell 7
                     have k8 : w10.cell? ⟨bY, 8, none⟩ = some (.int .i64 y'.gll) := hY.cell 8
                     have k9 : w10.cell? ⟨bY, 9, none⟩ = some (.int .u64 (y'.vs : Int)) := hY.cell 9
                     have ka : w10.cell? ⟨bY, 10, none⟩ = some (.int .u64 (y'.g : Int)) := hY.cell 10
                     clear hQ hX hY hfz))
                go_meet
                exact ⟨rfl, HF12⟩
          | false =>
            cases rb with
            | true =>
              obtain rfl : bb = true := hay rfl
              clear hay
              as_aux_lemma =>
                go_wp2_with (first
                  | (have hF12 := HF12.out
                     clear hF12
                     go_at_call 22
                     refine (HIY.out _).mono ?_
                     rintro r w11 ⟨rfl, hb11⟩
                     have HF13 := Lib.hid (HF12.out.trans (Fr.of_below hb11 No))
                     clear hb11 y0 y1 y2 y4 z0 z1 z2 z3 z4 z5 z6 z7 z8 z9 za k0 k1 k2 k3 k4 k5 k6 k7 k8 k9 ka HF12
                     have HF12 := HF13
                     clear HF13)
                  | (go_at_call 22
                     refine (HIX.out _).mono ?_
                     rintro r w10 ⟨rfl, hb10⟩
                     have hfz := Fr.of_below hb10 No
                     have HF12 := Lib.hid hfz
                     clear hb10 y0 y1 y2 y4 z0 z1 z2 z3 z4 z5 z6 z7 z8 z9 za
                     have hQ := HBQ1.out.fr hfz (fun q => q)
                     have hX := HBX2.out.fr hfz (fun q => q)
                     have hY := HBY2.out.fr hfz (fun q => q)
                     have y0 : w10.cell? ⟨bq, 0, none⟩ = some (.bool q'.v) := hQ.cell 0
                     have y1 : w10.cell? ⟨bq, 1, none⟩ = some (.int .u64 (q'.vmid : Int)) := hQ.cell 1
                     have y2 : w10.cell? ⟨bq, 2, none⟩ = some (.int .u64 (q'.asid : Int)) := hQ.cell 2
                     have y4 : w10.cell? ⟨bq, 4, none⟩ = some (.int .u64 (q'.va : Int)) := hQ.cell 4
                     have z0 : w10.cell? ⟨bx, 0, none⟩ = some (.bool x'.v) := hX.cell 0
                     have z1 : w10.cell? ⟨bx, 1, none⟩ = some (.int .u64 (x'.vmid : Int)) := hX.cell 1
                     have z2 : w10.cell? ⟨bx, 2, none⟩ = some (.int .u64 (x'.asid : Int)) := hX.cell 2
                     have z3 : w10.cell? ⟨bx, 3, none⟩ = some (.bool x'.gl) := hX.cell 3
                     have z4 : w10.cell? ⟨bx, 4, none⟩ = some (.int .u64 (x'.va : Int)) := hX.cell 4
                     have z5 : w10.cell? ⟨bx, 5, none⟩ = some (.int .u64 (x'.gpa : Int)) := hX.cell 5
                     have z6 : w10.cell? ⟨bx, 6, none⟩ = some (.int .u64 (x'.pa : Int)) := hX.cell 6
                     have z7 : w10.cell? ⟨bx, 7, none⟩ = some (.int .i64 x'.vl) := hX.cell 7
                     have z8 : w10.cell? ⟨bx, 8, none⟩ = some (.int .i64 x'.gll) := hX.cell 8
                     have z9 : w10.cell? ⟨bx, 9, none⟩ = some (.int .u64 (x'.vs : Int)) := hX.cell 9
                     have za : w10.cell? ⟨bx, 10, none⟩ = some (.int .u64 (x'.g : Int)) := hX.cell 10
                     have k0 : w10.cell? ⟨bY, 0, none⟩ = some (.bool y'.v) := hY.cell 0
                     have k1 : w10.cell? ⟨bY, 1, none⟩ = some (.int .u64 (y'.vmid : Int)) := hY.cell 1
                     have k2 : w10.cell? ⟨bY, 2, none⟩ = some (.int .u64 (y'.asid : Int)) := hY.cell 2
                     have k3 : w10.cell? ⟨bY, 3, none⟩ = some (.bool y'.gl) := hY.cell 3
                     have k4 : w10.cell? ⟨bY, 4, none⟩ = some (.int .u64 (y'.va : Int)) := hY.cell 4
                     have k5 : w10.cell? ⟨bY, 5, none⟩ = some (.int .u64 (y'.gpa : Int)) := hY.cell 5
                     have k6 : w10.cell? ⟨bY, 6, none⟩ = some (.int .u64 (y'.pa : Int)) := hY.cell 6
                     have k7 : w10.cell? ⟨bY, 7, none⟩ = some (.int .i64 y'.vl) := hY.cell 7
                     have k8 : w10.cell? ⟨bY, 8, none⟩ = some (.int .i64 y'.gll) := hY.cell 8
                     have k9 : w10.cell? ⟨bY, 9, none⟩ = some (.int .u64 (y'.vs : Int)) := hY.cell 9
                     have ka : w10.cell? ⟨bY, 10, none⟩ = some (.int .u64 (y'.g : Int)) := hY.cell 10
                     clear hQ hX hY hfz))
                go_meet
                exact ⟨rfl, HF12⟩
            | false =>
              clear hay
              as_aux_lemma =>
                go_wp2_with (first
                  | (have hF12 := HF12.out
                     clear hF12
                     go_at_call 22
                     refine (HIY.out _).mono ?_
                     rintro r w11 ⟨rfl, hb11⟩
                     have HF13 := Lib.hid (HF12.out.trans (Fr.of_below hb11 No))
                     clear hb11 y0 y1 y2 y4 z0 z1 z2 z3 z4 z5 z6 z7 z8 z9 za k0 k1 k2 k3 k4 k5 k6 k7 k8 k9 ka HF12
                     have HF12 := HF13
                     clear HF13)
                  | (go_at_call 22
                     refine (HIX.out _).mono ?_
                     rintro r w10 ⟨rfl, hb10⟩
                     have hfz := Fr.of_below hb10 No
                     have HF12 := Lib.hid hfz
                     clear hb10 y0 y1 y2 y4 z0 z1 z2 z3 z4 z5 z6 z7 z8 z9 za
                     have hQ := HBQ1.out.fr hfz (fun q => q)
                     have hX := HBX2.out.fr hfz (fun q => q)
                     have hY := HBY2.out.fr hfz (fun q => q)
                     have y0 : w10.cell? ⟨bq, 0, none⟩ = some (.bool q'.v) := hQ.cell 0
                     have y1 : w10.cell? ⟨bq, 1, none⟩ = some (.int .u64 (q'.vmid : Int)) := hQ.cell 1
                     have y2 : w10.cell? ⟨bq, 2, none⟩ = some (.int .u64 (q'.asid : Int)) := hQ.cell 2
                     have y4 : w10.cell? ⟨bq, 4, none⟩ = some (.int .u64 (q'.va : Int)) := hQ.cell 4
                     have z0 : w10.cell? ⟨bx, 0, none⟩ = some (.bool x'.v) := hX.cell 0
                     have z1 : w10.cell? ⟨bx, 1, none⟩ = some (.int .u64 (x'.vmid : Int)) := hX.cell 1
                     have z2 : w10.cell? ⟨bx, 2, none⟩ = some (.int .u64 (x'.asid : Int)) := hX.cell 2
                     have z3 : w10.cell? ⟨bx, 3, none⟩ = some (.bool x'.gl) := hX.cell 3
                     have z4 : w10.cell? ⟨bx, 4, none⟩ = some (.int .u64 (x'.va : Int)) := hX.cell 4
                     have z5 : w10.cell? ⟨bx, 5, none⟩ = some (.int .u64 (x'.gpa : Int)) := hX.cell 5
                     have z6 : w10.cell? ⟨bx, 6, none⟩ = some (.int .u64 (x'.pa : Int)) := hX.cell 6
                     have z7 : w10.cell? ⟨bx, 7, none⟩ = some (.int .i64 x'.vl) := hX.cell 7
                     have z8 : w10.cell? ⟨bx, 8, none⟩ = some (.int .i64 x'.gll) := hX.cell 8
                     have z9 : w10.cell? ⟨bx, 9, none⟩ = some (.int .u64 (x'.vs : Int)) := hX.cell 9
                     have za : w10.cell? ⟨bx, 10, none⟩ = some (.int .u64 (x'.g : Int)) := hX.cell 10
                     have k0 : w10.cell? ⟨bY, 0, none⟩ = some (.bool y'.v) := hY.cell 0
                     have k1 : w10.cell? ⟨bY, 1, none⟩ = some (.int .u64 (y'.vmid : Int)) := hY.cell 1
                     have k2 : w10.cell? ⟨bY, 2, none⟩ = some (.int .u64 (y'.asid : Int)) := hY.cell 2
                     have k3 : w10.cell? ⟨bY, 3, none⟩ = some (.bool y'.gl) := hY.cell 3
                     have k4 : w10.cell? ⟨bY, 4, none⟩ = some (.int .u64 (y'.va : Int)) := hY.cell 4
                     have k5 : w10.cell? ⟨bY, 5, none⟩ = some (.int .u64 (y'.gpa : Int)) := hY.cell 5
                     have k6 : w10.cell? ⟨bY, 6, none⟩ = some (.int .u64 (y'.pa : Int)) := hY.cell 6
                     have k7 : w10.cell? ⟨bY, 7, none⟩ = some (.int .i64 y'.vl) := hY.cell 7
                     have k8 : w10.cell? ⟨bY, 8, none⟩ = some (.int .i64 y'.gll) := hY.cell 8
                     have k9 : w10.cell? ⟨bY, 9, none⟩ = some (.int .u64 (y'.vs : Int)) := hY.cell 9
                     have ka : w10.cell? ⟨bY, 10, none⟩ = some (.int .u64 (y'.g : Int)) := hY.cell 10
                     clear hQ hX hY hfz))
                go_meet
                exact ⟨rfl, HF12⟩
      case rest =>
        obtain ⟨rfl, hfc⟩ := hcut
        have HF12 := Lib.hid (HF11.out.trans hfc.out)
        have HA12 := Lib.hid (HA11.out.fr hfc.out (fun _ _ q => q))
        have HU12 := Lib.hid (HU11.out.fr hfc.out (fun _ _ q => q))
        have HW12 := Lib.hid (HW11.out.fr hfc.out (fun _ _ q => q))
        have HBX3 := Lib.hid (HBX1.out.fr hfc.out (fun q => q))
        have HBY3 := Lib.hid (HBYY.out.fr hfc.out (fun q => q))
        clear HF11 HA11 HU11 HW11 HBX1 HBYY hfc HAX HAY HNX HG2
        go_upto_region 23 with fail
        go_cut [225] from 144 (fun s wd => s = .bool false ∧ wd = wc)
        case first =>
          obtain ⟨f', hf'⟩ : ∃ f', f' = f := ⟨_, rfl⟩
          obtain ⟨x', hx'⟩ : ∃ x', x' = x := ⟨_, rfl⟩
          obtain ⟨y', hy'⟩ : ∃ y', y' = y := ⟨_, rfl⟩
          have hBF := HBf.out.fr HF12.out (fun q => q)
          have hBX := HBX3.out
          have hBY := HBY3.out
          have hst := HST.out
          rw [← hf'] at hBF hst
          rw [← hx'] at hBX hst
          rw [← hy'] at hBY hst
          have y0 : wc.cell? ⟨bf, 0, none⟩ = some (.bool f'.v) := hBF.cell 0
          have y1 : wc.cell? ⟨bf, 1, none⟩ = some (.int .u64 (f'.vmid : Int)) := hBF.cell 1
          have y2 : wc.cell? ⟨bf, 2, none⟩ = some (.int .u64 (f'.asid : Int)) := hBF.cell 2
          have y4 : wc.cell? ⟨bf, 4, none⟩ = some (.int .u64 (f'.va : Int)) := hBF.cell 4
          have z0 : wc.cell? ⟨bx, 0, none⟩ = some (.bool x'.v) := hBX.cell 0
          have z1 : wc.cell? ⟨bx, 1, none⟩ = some (.int .u64 (x'.vmid : Int)) := hBX.cell 1
          have z2 : wc.cell? ⟨bx, 2, none⟩ = some (.int .u64 (x'.asid : Int)) := hBX.cell 2
          have z3 : wc.cell? ⟨bx, 3, none⟩ = some (.bool x'.gl) := hBX.cell 3
          have z4 : wc.cell? ⟨bx, 4, none⟩ = some (.int .u64 (x'.va : Int)) := hBX.cell 4
          have z5 : wc.cell? ⟨bx, 5, none⟩ = some (.int .u64 (x'.gpa : Int)) := hBX.cell 5
          have z6 : wc.cell? ⟨bx, 6, none⟩ = some (.int .u64 (x'.pa : Int)) := hBX.cell 6
          have z7 : wc.cell? ⟨bx, 7, none⟩ = some (.int .i64 x'.vl) := hBX.cell 7
          have z8 : wc.cell? ⟨bx, 8, none⟩ = some (.int .i64 x'.gll) := hBX.cell 8
          have z9 : wc.cell? ⟨bx, 9, none⟩ = some (.int .u64 (x'.vs : Int)) := hBX.cell 9
          have za : wc.cell? ⟨bx, 10, none⟩ = some (.int .u64 (x'.g : Int)) := hBX.cell 10
          have k0 : wc.cell? ⟨bY, 0, none⟩ = some (.bool y'.v) := hBY.cell 0
          have k1 : wc.cell? ⟨bY, 1, none⟩ = some (.int .u64 (y'.vmid : Int)) := hBY.cell 1
          have k2 : wc.cell? ⟨bY, 2, none⟩ = some (.int .u64 (y'.asid : Int)) := hBY.cell 2
          have k3 : wc.cell? ⟨bY, 3, none⟩ = some (.bool y'.gl) := hBY.cell 3
          have k4 : wc.cell? ⟨bY, 4, none⟩ = some (.int .u64 (y'.va : Int)) := hBY.cell 4
          have k5 : wc.cell? ⟨bY, 5, none⟩ = some (.int .u64 (y'.gpa : Int)) := hBY.cell 5
          have k6 : wc.cell? ⟨bY, 6, none⟩ = some (.int .u64 (y'.pa : Int)) := hBY.cell 6
          have k7 : wc.cell? ⟨bY, 7, none⟩ = some (.int .i64 y'.vl) := hBY.cell 7
          have k8 : wc.cell? ⟨bY, 8, none⟩ = some (.int .i64 y'.gll) := hBY.cell 8
          have k9 : wc.cell? ⟨bY, 9, none⟩ = some (.int .u64 (y'.vs : Int)) := hBY.cell 9
          have ka : wc.cell? ⟨bY, 10, none⟩ = some (.int .u64 (y'.g : Int)) := hBY.cell 10
          clear hf' hx' hy' hBF hBX hBY HA12 HU12 HW12 HP HM HOK HOK2 H12 HN HMM HBf HBq HT HR HW HST HBX3 HBY3 HF12
          cases pb with
          | false =>
            as_aux_lemma =>
              go_wp2_with fail
              go_meet
              exact ⟨rfl, rfl⟩
          | true =>
            have HST := Lib.hid (hst rfl)
            clear hst
            obtain ⟨xv, xvmid, xasid, xgl, xva, xgpa, xpa, xvl, xgll, xvs, xg⟩ := x'
            obtain ⟨fv, fvmid, fasid, fgl, fva, fgpa, fpa, fvl, fgll, fvs, fg⟩ := f'
            dsimp only at z0 z1 z2 z3 z4 z5 z6 z7 z8 z9 za y0 y1 y2 y4 HST
            by_cases hv : xv = fv
            · subst hv
              have hvv : (xv != xv) = false := by simp
              cases xv with
              | true =>
                by_cases hm : xvmid = fvmid
                · subst hm
                  have hmm : ((xvmid : Int) != (xvmid : Int)) = false := by simp
                  cases byAsid with
                  | false =>
                    as_aux_lemma =>
                      clear HST k0 k1 k2 k3 k4 k5 k6 k7 k8 k9 ka
                      go_wp2_with fail
                      go_meet
                      exact ⟨rfl, rfl⟩
                  | true =>
                    cases xgl with
                    | true =>
                      as_aux_lemma =>
                        obtain ⟨h1, h2⟩ := HST.out (by simp)
                        subst h1 h2
                        dsimp only at k0 k1 k2 k3 k4 k5 k6 k7 k8 k9 ka
                        have heq : ∀ W, (binOp .neq 25 (.agg #[.bool true, .int .u64 (xvmid : Int), .int .u64 (xasid : Int), .bool true, .int .u64 (xva : Int), .int .u64 (xgpa : Int), .int .u64 (xpa : Int), .int .i64 xvl, .int .i64 xgll, .int .u64 (xvs : Int), .int .u64 (xg : Int)]) (.agg #[.bool true, .int .u64 (xvmid : Int), .int .u64 (xasid : Int), .bool true, .int .u64 (xva : Int), .int .u64 (xgpa : Int), .int .u64 (xpa : Int), .int .i64 xvl, .int .i64 xgll, .int .u64 (xvs : Int), .int .u64 (xg : Int)])).run Tryd.prog W = .ok (.bool false) W := fun W => (te_eq_run ⟨true, xvmid, xasid, true, xva, xgpa, xpa, xvl, xgll, xvs, xg⟩ ⟨true, xvmid, xasid, true, xva, xgpa, xpa, xvl, xgll, xvs, xg⟩ W).2.trans (by rw [decide_eq_true rfl]; rfl)
                        clear HST
                        go_wp2_with fail
                        go_meet
                        exact ⟨rfl, rfl⟩
                    | false =>
                      by_cases ha : xasid = fasid
                      · subst ha
                        have haa : ((xasid : Int) != (xasid : Int)) = false := by simp
                        as_aux_lemma =>
                          clear HST k0 k1 k2 k3 k4 k5 k6 k7 k8 k9 ka
                          go_wp2_with fail
                          go_meet
                          exact ⟨rfl, rfl⟩
                      · have haa : ((xasid : Int) != (fasid : Int)) = true := by simp [ha, Int.natCast_inj]
                        have hcc : (xasid == fasid) = false := by simp [ha]
                        as_aux_lemma =>
                          obtain ⟨h1, h2⟩ := HST.out (by simp [hcc])
                          subst h1 h2
                          dsimp only at k0 k1 k2 k3 k4 k5 k6 k7 k8 k9 ka
                          have heq : ∀ W, (binOp .neq 25 (.agg #[.bool true, .int .u64 (xvmid : Int), .int .u64 (xasid : Int), .bool false, .int .u64 (xva : Int), .int .u64 (xgpa : Int), .int .u64 (xpa : Int), .int .i64 xvl, .int .i64 xgll, .int .u64 (xvs : Int), .int .u64 (xg : Int)]) (.agg #[.bool true, .int .u64 (xvmid : Int), .int .u64 (xasid : Int), .bool false, .int .u64 (xva : Int), .int .u64 (xgpa : Int), .int .u64 (xpa : Int), .int .i64 xvl, .int .i64 xgll, .int .u64 (xvs : Int), .int .u64 (xg : Int)])).run Tryd.prog W = .ok (.bool false) W := fun W => (te_eq_run ⟨true, xvmid, xasid, false, xva, xgpa, xpa, xvl, xgll, xvs, xg⟩ ⟨true, xvmid, xasid, false, xva, xgpa, xpa, xvl, xgll, xvs, xg⟩ W).2.trans (by rw [decide_eq_true rfl]; rfl)
                          clear HST
                          go_wp2_with fail
                          go_meet
                          exact ⟨rfl, rfl⟩
                · have hmm : ((xvmid : Int) != (fvmid : Int)) = true := by simp [hm, Int.natCast_inj]
                  have hcc : (xvmid == fvmid) = false := by simp [hm]
                  as_aux_lemma =>
                    obtain ⟨h1, h2⟩ := HST.out (by simp [hcc])
                    subst h1 h2
                    dsimp only at k0 k1 k2 k3 k4 k5 k6 k7 k8 k9 ka
                    have heq : ∀ W, (binOp .neq 25 (.agg #[.bool true, .int .u64 (xvmid : Int), .int .u64 (xasid : Int), .bool xgl, .int .u64 (xva : Int), .int .u64 (xgpa : Int), .int .u64 (xpa : Int), .int .i64 xvl, .int .i64 xgll, .int .u64 (xvs : Int), .int .u64 (xg : Int)]) (.agg #[.bool true, .int .u64 (xvmid : Int), .int .u64 (xasid : Int), .bool xgl, .int .u64 (xva : Int), .int .u64 (xgpa : Int), .int .u64 (xpa : Int), .int .i64 xvl, .int .i64 xgll, .int .u64 (xvs : Int), .int .u64 (xg : Int)])).run Tryd.prog W = .ok (.bool false) W := fun W => (te_eq_run ⟨true, xvmid, xasid, xgl, xva, xgpa, xpa, xvl, xgll, xvs, xg⟩ ⟨true, xvmid, xasid, xgl, xva, xgpa, xpa, xvl, xgll, xvs, xg⟩ W).2.trans (by rw [decide_eq_true rfl]; rfl)
                    clear HST
                    go_wp2_with fail
                    go_meet
                    exact ⟨rfl, rfl⟩
              | false =>
                cases byAsid with
                | false =>
                  as_aux_lemma =>
                    clear HST k0 k1 k2 k3 k4 k5 k6 k7 k8 k9 ka
                    go_wp2_with fail
                    go_meet
                    exact ⟨rfl, rfl⟩
                | true =>
                  cases xgl with
                  | true =>
                    as_aux_lemma =>
                      obtain ⟨h1, h2⟩ := HST.out (by simp)
                      subst h1 h2
                      dsimp only at k0 k1 k2 k3 k4 k5 k6 k7 k8 k9 ka
                      have heq : ∀ W, (binOp .neq 25 (.agg #[.bool false, .int .u64 (xvmid : Int), .int .u64 (xasid : Int), .bool true, .int .u64 (xva : Int), .int .u64 (xgpa : Int), .int .u64 (xpa : Int), .int .i64 xvl, .int .i64 xgll, .int .u64 (xvs : Int), .int .u64 (xg : Int)]) (.agg #[.bool false, .int .u64 (xvmid : Int), .int .u64 (xasid : Int), .bool true, .int .u64 (xva : Int), .int .u64 (xgpa : Int), .int .u64 (xpa : Int), .int .i64 xvl, .int .i64 xgll, .int .u64 (xvs : Int), .int .u64 (xg : Int)])).run Tryd.prog W = .ok (.bool false) W := fun W => (te_eq_run ⟨false, xvmid, xasid, true, xva, xgpa, xpa, xvl, xgll, xvs, xg⟩ ⟨false, xvmid, xasid, true, xva, xgpa, xpa, xvl, xgll, xvs, xg⟩ W).2.trans (by rw [decide_eq_true rfl]; rfl)
                      clear HST
                      go_wp2_with fail
                      go_meet
                      exact ⟨rfl, rfl⟩
                  | false =>
                    by_cases ha : xasid = fasid
                    · subst ha
                      have haa : ((xasid : Int) != (xasid : Int)) = false := by simp
                      as_aux_lemma =>
                        clear HST k0 k1 k2 k3 k4 k5 k6 k7 k8 k9 ka
                        go_wp2_with fail
                        go_meet
                        exact ⟨rfl, rfl⟩
                    · have haa : ((xasid : Int) != (fasid : Int)) = true := by simp [ha, Int.natCast_inj]
                      have hcc : (xasid == fasid) = false := by simp [ha]
                      as_aux_lemma =>
                        obtain ⟨h1, h2⟩ := HST.out (by simp [hcc])
                        subst h1 h2
                        dsimp only at k0 k1 k2 k3 k4 k5 k6 k7 k8 k9 ka
                        have heq : ∀ W, (binOp .neq 25 (.agg #[.bool false, .int .u64 (xvmid : Int), .int .u64 (xasid : Int), .bool false, .int .u64 (xva : Int), .int .u64 (xgpa : Int), .int .u64 (xpa : Int), .int .i64 xvl, .int .i64 xgll, .int .u64 (xvs : Int), .int .u64 (xg : Int)]) (.agg #[.bool false, .int .u64 (xvmid : Int), .int .u64 (xasid : Int), .bool false, .int .u64 (xva : Int), .int .u64 (xgpa : Int), .int .u64 (xpa : Int), .int .i64 xvl, .int .i64 xgll, .int .u64 (xvs : Int), .int .u64 (xg : Int)])).run Tryd.prog W = .ok (.bool false) W := fun W => (te_eq_run ⟨false, xvmid, xasid, false, xva, xgpa, xpa, xvl, xgll, xvs, xg⟩ ⟨false, xvmid, xasid, false, xva, xgpa, xpa, xvl, xgll, xvs, xg⟩ W).2.trans (by rw [decide_eq_true rfl]; rfl)
                        clear HST
                        go_wp2_with fail
                        go_meet
                        exact ⟨rfl, rfl⟩
            · have hvv : (xv != fv) = true := by simp [hv]
              have hcc : (xv == fv) = false := by simp [hv]
              as_aux_lemma =>
                obtain ⟨h1, h2⟩ := HST.out (by simp [hcc])
                subst h1 h2
                dsimp only at k0 k1 k2 k3 k4 k5 k6 k7 k8 k9 ka
                have heq : ∀ W, (binOp .neq 25 (.agg #[.bool xv, .int .u64 (xvmid : Int), .int .u64 (xasid : Int), .bool xgl, .int .u64 (xva : Int), .int .u64 (xgpa : Int), .int .u64 (xpa : Int), .int .i64 xvl, .int .i64 xgll, .int .u64 (xvs : Int), .int .u64 (xg : Int)]) (.agg #[.bool xv, .int .u64 (xvmid : Int), .int .u64 (xasid : Int), .bool xgl, .int .u64 (xva : Int), .int .u64 (xgpa : Int), .int .u64 (xpa : Int), .int .i64 xvl, .int .i64 xgll, .int .u64 (xvs : Int), .int .u64 (xg : Int)])).run Tryd.prog W = .ok (.bool false) W := fun W => (te_eq_run ⟨xv, xvmid, xasid, xgl, xva, xgpa, xpa, xvl, xgll, xvs, xg⟩ ⟨xv, xvmid, xasid, xgl, xva, xgpa, xpa, xvl, xgll, xvs, xg⟩ W).2.trans (by rw [decide_eq_true rfl]; rfl)
                clear HST
                go_wp2_with fail
                go_meet
                exact ⟨rfl, rfl⟩
        case rest =>
          obtain ⟨rfl, rfl⟩ := hcut
          have hBF := HBf.out.fr HF12.out (fun q => q)
          have y0 : wc.cell? ⟨bf, 0, none⟩ = some (.bool f.v) := hBF.cell 0
          have y1 : wc.cell? ⟨bf, 1, none⟩ = some (.int .u64 (f.vmid : Int)) := hBF.cell 1
          have y2 : wc.cell? ⟨bf, 2, none⟩ = some (.int .u64 (f.asid : Int)) := hBF.cell 2
          have y4 : wc.cell? ⟨bf, 4, none⟩ = some (.int .u64 (f.va : Int)) := hBF.cell 4
          clear hBF HST
          go_upto_region 25 with fail
          obtain ⟨pg, hpg⟩ : ∃ pg, pg = TS.fenceG f.vmid byVa := ⟨_, rfl⟩
          have hfc := fenceG_c wc bw 3 L _ f.vmid byVa HW12.out HOK.out
          rw [← hpg] at hfc
          have hok3 : TS.Ok 3 (L.drop pg) := HOK.out.drop pg
          have hcnt3 := TS.drop_count pg L
          have hwent : L.went pg = n - (L.drop pg).flatten.length := by rw [HN.out, TS.flat_count, TS.flat_count]; rfl
          rw [← TS.flat_count, ← TS.flat_count, ← HN.out] at hcnt3
          obtain ⟨K, hK⟩ : ∃ K, K = L.drop pg := ⟨_, rfl⟩
          rw [← hK] at hok3 hwent hcnt3 hfc
          obtain ⟨kn, hkn⟩ : ∃ kn, kn = K.flatten.length := ⟨_, rfl⟩
          rw [← hkn] at hwent hcnt3
          rw [hwent] at hfc
          have HKN := Lib.hid hkn
          have HK := Lib.hid hK
          have HPG := Lib.hid hpg
          have HOK3 := Lib.hid hok3
          clear hwent hkn hK hpg hok3
          go_wp2_with fail
          refine hfc.mono ?_
          rintro r w13 ⟨rfl, hW13, hf13⟩
          have HW13 := Lib.hid hW13
          have HU13 := Lib.hid (HU12.out.fr hf13 (fun k h h' => by have h1 : k < s3 := h.2; have h2 : s3 ≤ k := h'.1; omega))
          have HF13 := Lib.hid (show Fr No W0 w13 from HF12.out.andThen hf13 (fun k hk h => by have h1 : s3 ≤ k := h.1; have h3 := HZ3.out; have h4 := HZ2.out; have h5 := HS0.out.1; omega))
          clear hfc hW13 hf13 HA12 HU12 HW12 HF12 y0 y1 y2 y4
          go_wp2_with fail
          refine (entries_c w13 bw 3 K _ HW13.out HOK3.out).mono ?_
          rintro r w14 ⟨vk, rfl, hrk, hf14⟩
          obtain ⟨ak, ck, rfl, _, _⟩ := hrk.len
          rw [← HKN.out] at hrk ⊢
          have HRK := Lib.hid hrk
          have HU14 := Lib.hid (HU13.out.fr hf14 (fun _ _ q => q))
          have HF14 := Lib.hid (HF13.out.trans hf14)
          clear hrk hf14 HU13 HW13 HF13
          go_wp2_with fail
          go_loopw [25] (fun pi wr => ∃ i : Nat, i ≤ kn ∧ pi = .int .i64 (i : Int) ∧ Hid (Fr No w14 wr)) (fun pi _ => kn - (intOf pi).toNat)
          case atStart => exact ⟨0, Nat.zero_le _, rfl, Lib.hid (Fr.refl _ _)⟩
          case round =>
            obtain ⟨j, hj, rfl, HF⟩ := hrel
            by_cases hlt2 : j < kn
            · have hiL : j < K.flatten.length := by have := HKN.out; omega
              have hRB2 := HRK.out.fr HF.out (fun _ _ q => q)
              rw [HKN.out] at hRB2
              obtain ⟨g, c', cur, hv, hg, hBg, _, _, _, hcs⟩ := hRB2.at_ (by omega)
              injection hv with e1 _ e3
              subst e1 e3
              obtain ⟨x', hx'⟩ : ∃ x', x' = K.flatten[j] := ⟨_, rfl⟩
              obtain ⟨q0, q1, q2, q3, q4, q5, q6, q7, q8, q9, q10⟩ := (hRB2.own.elem hiL).te
              simp only [Nat.zero_add] at q0 q1 q2 q3 q4 q5 q6 q7 q8 q9 q10
              rw [← hx'] at q0 q1 q2 q3 q4 q5 q6 q7 q8 q9 q10
              have hfp : pg x' = false := by
                have h : K.flatten[j] ∈ K.flatten := List.getElem_mem _
                rw [← hx', HK.out] at h
                exact TS.mem_drop h
              rw [HPG.out] at hfp
              have hBW := (HBf.out.fr HF14.out (fun q => q)).fr HF.out (fun q => q)
              have y1 : wr.cell? ⟨bf, 1, none⟩ = some (.int .u64 (f.vmid : Int)) := hBW.cell 1
              have e1 : IntKind.i64.wrap ((j : Int) + 1) = ((j + 1 : Nat) : Int) := by rw [IntKind.wrap_i64]; omega
              have HFF := Lib.hid (fun n => HF.out.drewN n)
              clear hRB2 hg hBg hcs hx' hiL hBW HF
              go_upto_region 30 with fail
              cases hxv : x'.v with
              | false =>
                rw [hxv] at q0
                clear hfp
                go_quiet (fail)
                go_wp2_with fail
                exact ⟨⟨j + 1, by omega, by simp, Lib.hid (HFF.out _)⟩, by simp [intOf]; omega⟩
              | true =>
                rw [hxv] at q0
                cases byVa with
                | false =>
                  exfalso
                  unfold TS.fenceG at hfp
                  rw [hxv] at hfp
                  cases hfp
                | true =>
                  have hvm : ((x'.vmid : Int) == (f.vmid : Int)) = false := by
                    unfold TS.fenceG at hfp
                    rw [hxv] at hfp
                    rw [nateq]
                    simpa using hfp
                  clear hfp
                  go_quiet (fail)
                  go_wp2_with fail
                  exact ⟨⟨j + 1, by omega, by simp, Lib.hid (HFF.out _)⟩, by simp [intOf]; omega⟩
            · obtain rfl : j = kn := by omega
              have HF15 := Lib.hid (HF14.out.trans HF.out)
              have hck := clear_c wr bu 3 L _ (HU14.out.fr HF.out (fun _ _ q => q)) HOK.out
              have hwn : L.went (fun _ => true) = n := by unfold TS.went; rw [TS.drop_all_count, ← TS.flat_count, ← HN.out]; rfl
              rw [hwn] at hck
              have HCK := Lib.hid hck
              have h2 : ((n - j : Nat) : Int) = (n : Int) - (j : Int) := by omega
              clear hck hwn HU14 HF14 HF
              go_wp2_with (first
                | (go_at_call 17
                   refine HCK.out.mono ?_
                   rintro r w16 ⟨rfl, hU16, hf16⟩
                   have HE := Lib.hid (entries_c w16 bu 3 _ _ hU16 (HOK.out.drop _))
                   have HF16 := Lib.hid (show Fr No W0 w16 from HF15.out.andThen hf16 (fun k hk h => by have h1 : s2 ≤ k := h.1; have h4 := HZ2.out; have h5 := HS0.out.1; omega))
                   clear hU16 hf16)
                | (go_at_call 11
                   refine HE.out.mono ?_
                   rintro r w17 ⟨vz, rfl, hrz, hf17⟩
                   rw [TS.drop_all] at hrz
                   obtain ⟨az, cz, rfl, _, _⟩ := hrz.len
                   have HF17 := Lib.hid (HF16.out.trans hf17)
                   have hl0 : ([] : List TE).length = 0 := rfl
                   rw [hl0]
                   clear hrz hf17))
              go_ret
              exact ⟨rfl, HF0.out.trans HF17.out⟩
end Go.Proofs.YtpnabfekidpnoaaDoor

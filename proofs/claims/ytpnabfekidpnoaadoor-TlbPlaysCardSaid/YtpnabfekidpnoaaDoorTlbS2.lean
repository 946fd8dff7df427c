/-
  The document's New, Clear; what a nil one does.
-/
import Derived.Test.YtpnabfekidpnoaaDoorTlbS1
namespace Go.Proofs.YtpnabfekidpnoaaDoor
open Go Go.RowKit

theorem pw_not (n : Int) (x : Nat) (hx : Pw x) (h : x = 1 ∨ (x : Int) < 2 * n) (hne : ¬ (x : Int) = n) (hex : ¬ ((x : Int) < n ∧ x < 64)) : ¬ Pw n := by
  unfold Pw at *
  omega
set_option maxRecDepth 100000 in
set_option maxHeartbeats 1000000 in
theorem rnew_c (w : World) (n ways : Int) :
    Calls Tryd.prog 18 #[.int .i64 n, .int .i64 ways] w fun r w' =>
      (goodNew n ways ∧ r = .returned (.tuple #[.pointer (some ⟨w.heap.size, 0, none⟩), .int .i64 0]) ∧ RTAt w' w.heap.size n.toNat ways.toNat [] (fun k => w.heap.size ≤ k) ∧ Fr No w w') ∨
      (¬ goodNew n ways ∧ r = .returned (.tuple #[.pointer none, .int .i64 1]) ∧ Fr No w w') := by
  have hg := good_iff n ways
  obtain ⟨G, hG⟩ : ∃ G : Prop, (goodNew n ways) = G := ⟨_, rfl⟩
  rw [hG] at hg ⊢
  have HG := Lib.hid hg
  clear hG hg
  go_enter Tryd.func18, Tryd.ntmps18
  go_wp2_with fail
  go_loopw [6] (fun px wr => ∃ x : Nat, Hid (Pw x) ∧ Hid (x = 1 ∨ (x : Int) < 2 * n) ∧ x ≤ 64 ∧ px = .int .i64 (x : Int) ∧ wr = w) (fun px _ => 64 - (intOf px).toNat)
  case atStart => exact ⟨1, Lib.hid (.inl rfl), Lib.hid (.inl rfl), by omega, rfl, rfl⟩
  case round =>
    obtain ⟨x, HP, HL, h64, rfl, rfl⟩ := hrel
    by_cases h1 : (x : Int) < n
    · by_cases h2 : x < 64
      · have e1 : IntKind.i64.wrap (2 * (x : Int)) = ((2 * x : Nat) : Int) := by rw [IntKind.wrap_i64]; omega
        have hx0 : 0 < x := by have := HP.out; unfold Pw at this; omega
        go_wp2_with fail
        refine ⟨⟨2 * x, Lib.hid ?_, Lib.hid (.inr (by omega)), by have := HP.out; unfold Pw at this; omega, by simp, trivial⟩, by simp [intOf]; omega⟩
        have := HP.out
        unfold Pw at this ⊢
        omega
      · have hn := pw_not n x HP.out HL.out (by omega) (by omega)
        have hne : ((x : Int) != n) = true := by simp; omega
        have HN := Lib.hid hn
        clear hn
        go_wp2_with fail
        go_ret2
        exact .inr ⟨fun h => HN.out (HG.out.1 h).1, rfl, Fr.refl _ _⟩
    · by_cases he : (x : Int) = n
      · subst he
        by_cases h3 : ways < 1
        · go_wp2_with fail
          go_ret2
          exact .inr ⟨fun h => by have := HG.out.1 h; omega, rfl, Fr.refl _ _⟩
        · by_cases h4 : 8 < ways
          · go_wp2_with fail
            go_ret2
            exact .inr ⟨fun h => by have := HG.out.1 h; omega, rfl, Fr.refl _ _⟩
          · go_wp2_with fail
            go_ret2
            refine .inl ⟨HG.out.2 ⟨HP.out, by omega, by omega⟩, rfl, ⟨.slice none 0 0, fun _ => False, ?_, Head.nil_ _ _ _ _, Nat.le_refl _, fun k h => h.elim⟩, (Fr.refl No wr).alloc _⟩
            rw [Int.toNat_of_nonneg (show 0 ≤ ways by omega)]
            exact Blk.new wr _ _
      · have hn := pw_not n x HP.out HL.out he (fun h => h1 h.1)
        have hne : ((x : Int) != n) = true := by simp; omega
        have HN := Lib.hid hn
        clear hn
        go_wp2_with fail
        go_ret2
        exact .inr ⟨fun h => HN.out (HG.out.1 h).1, rfl, Fr.refl _ _⟩
set_option maxRecDepth 100000 in
theorem rclear_c (w : World) (b n ways : Nat) (R : List TE) (F : Nat → Prop) (h : RTAt w b n ways R F) :
    Calls Tryd.prog 41 #[.pointer (some ⟨b, 0, none⟩)] w fun r w' => r = .returned (.int .i64 (R.length : Int)) ∧ RTAt w' b n ways [] F ∧ Fr F w w' := by
  obtain ⟨v, G, h1, h2, h3, h4⟩ := h
  obtain ⟨a, c, rfl, _, _⟩ := h2.len
  have c2 : w.cell? ⟨b, 2, none⟩ = some (.slice a R.length c) := h1.cell 2
  have f2 := h1.free
  have HB := Lib.hid h1
  have H3 := Lib.hid h3
  obtain ⟨m, hm⟩ : ∃ m, m = R.length := ⟨_, rfl⟩
  rw [← hm] at HB c2 ⊢
  clear h1 h2 h3 h4 hm
  go_enter Tryd.func41, Tryd.ntmps41
  go_wp2_with fail
  go_ret
  exact ⟨rfl, ⟨.slice none 0 0, fun _ => False, HB.out.put 2 _, Head.nil_ _ _ _ _, H3.out, fun k h => h.elim⟩, (Fr.put w b 2 _).mono (fun k _ hk => by have e : k = b := hk; rw [e]; exact H3.out)⟩
section
variable (w : World)
set_option maxRecDepth 100000 in
theorem rclear_nil : Calls Tryd.prog 41 #[.pointer none] w fun r w' => r = .returned (.int .i64 0) ∧ Fr No w w' := by
  go_enter Tryd.func41, Tryd.ntmps41
  go_wp2_with fail
  go_ret
  exact ⟨rfl, Fr.refl _ _⟩
set_option maxRecDepth 100000 in
theorem rentries_nil : Calls Tryd.prog 21 #[.pointer none] w fun r w' => r = .returned (.slice none 0 0) ∧ Fr No w w' := by
  go_enter Tryd.func21, Tryd.ntmps21
  go_wp2_with fail
  go_ret
  exact ⟨rfl, Fr.refl _ _⟩
set_option maxRecDepth 100000 in
theorem rfence_nil (v : Bool) (vmid asid va : Nat) (byVa byAsid : Bool) : Calls Tryd.prog 39 #[.pointer none, .bool v, .int .u64 (vmid : Int), .int .u64 (asid : Int), .int .u64 (va : Int), .bool byVa, .bool byAsid] w fun r w' => r = .returned (.int .i64 0) ∧ Fr No w w' := by
  go_enter Tryd.func39, Tryd.ntmps39
  go_wp2_with fail
  go_ret
  exact ⟨rfl, Fr.refl _ _⟩
set_option maxRecDepth 100000 in
theorem rfenceG_nil (vmid : Nat) (by_ : Bool) : Calls Tryd.prog 40 #[.pointer none, .int .u64 (vmid : Int), .bool by_] w fun r w' => r = .returned (.int .i64 0) ∧ Fr No w w' := by
  go_enter Tryd.func40, Tryd.ntmps40
  go_wp2_with fail
  go_ret
  exact ⟨rfl, Fr.refl _ _⟩
set_option maxRecDepth 100000 in
theorem rput_nil (e : TE) : Calls Tryd.prog 37 #[.pointer none, .agg e.cells.toArray] w fun r w' => r = .returned (.tuple #[]) ∧ Fr No w w' := by
  show Calls Tryd.prog 37 #[.pointer none, .agg #[.bool e.v, .int .u64 (e.vmid : Int), .int .u64 (e.asid : Int), .bool e.gl, .int .u64 (e.va : Int), .int .u64 (e.gpa : Int), .int .u64 (e.pa : Int), .int .i64 e.vl, .int .i64 e.gll, .int .u64 (e.vs : Int), .int .u64 (e.g : Int)]] w _
  go_enter Tryd.func37, Tryd.ntmps37
  go_wp2_with fail
  refine bodyPost_ret (results_none rfl _ _ _) rfl ?_
  exact ⟨rfl, (Fr.refl No w).alloc _⟩
end
end Go.Proofs.YtpnabfekidpnoaaDoor

/- Turn of points. -/
import Derived.Test.YtbhkhabkkghapaaB
namespace Go.Proofs.Ytbhkhabkkghapaa.A
open Go.RowKit Go.Proofs.Ytbhkhabkkghapaa.K Go.Proofs.Ytbhkhabkkghapaa.F Go.Proofs.Ytbhkhabkkghapaa.N
set_option linter.unusedVariables false
set_option linter.unusedSimpArgs false

theorem mul_run (t : TypeId) {a b c d re im : Nat} (w : World) (h : cMulBits a b c d = some (re, im)) : (binOp .mul t (.complex .f64 a b) (.complex .f64 c d)).run Try.prog w = .ok (.complex .f64 re im) w := run_complex_mul w t a b c d re im h

set_option maxRecDepth 100000 in
set_option maxHeartbeats 2000000 in
theorem turn_ok (w : World) (A : Option Addr) (n c : Nat) (L : List Pt) (k : Int) (hL : L.length = n) (hn : n ≤ 100000) (h : RdC w A L) (h4 : ∀ p ∈ L, Four p) :
    Calls Try.prog 28 #[.slice A n c, .int .i64 k] w (HandC w (L.map (turnp (qn k)))) := by
  obtain ⟨i0, hi, hz0, hz1, hz2⟩ := info_parts info34
  have hm := mask3 k
  have hq := qn_lt k
  have hqk : ((qn k : Nat) : Int) = k % 4 := by unfold qn; omega
  obtain ⟨q, hqe⟩ : ∃ q, qn k = q := ⟨_, rfl⟩
  rw [← hqk] at hm
  rw [hqe] at hm hq ⊢
  go_enter Try.func28, Try.ntmps28
  go_wp2_with fail
  refine wp_scope_jumps 0 (fun a' w' => ∃ (j : Nat) (m : Int) (u7 u8 u9 u12 u13 u14 u15 u16 u17 u18 u19 u20 u21 u22 u23 u24 u25 u26 u27 u28 u29 u30 u31 : Value), a' = { tmps := #[.slice A n c, .int .i64 k, undef, undef, .slice none 0 0, .int .i64 m, .complex .f64 (byB j).1 (byB j).2, u7, u8, u9, .int .i64 k, .int .i64 q, u12, u13, u14, u15, u16, u17, u18, u19, u20, u21, u22, u23, u24, u25, u26, u27, u28, u29, u30, u31], defers := [] } ∧ 1 ≤ j ∧ j ≤ q ∧ m = (q : Int) - (j : Int) ∧ w = w') (fun a' _ => (intOf (a'.tmps.getD 5 undef)).toNat) rfl ?_ ?_
  · by_cases h0 : q = 0
    · subst h0
      have hmu : ∀ i, i < n → cMulBits (FI (L.getD i (0, 0)).1) (FI (L.getD i (0, 0)).2) 4607182418800017408 0 = some (FI (turnp 0 (L.getD i (0, 0))).1, FI (turnp 0 (L.getD i (0, 0))).2) := fun i hi => byB_turn 0 (by omega) _ (h4 _ (by
        rw [List.getD_eq_getElem?_getD, List.getElem?_eq_getElem (by omega)]; exact List.getElem_mem _))
      have H := Lib.hid h
      have HM := Lib.hid hmu
      clear h hmu
      go_wp2_with fail
      go_step3
      go_wp2_with fail
      go_loopw [7, 20] (fun vo vi wr => ∃ i : Nat, vi = .int .i64 i ∧ i ≤ n ∧ RowC wr w.heap.size vo ((L.map (turnp 0)).take i) ∧ Frm No w wr) (fun _ vi _ => n - (intOf vi).toNat)
      case atStart => exact ⟨0, rfl, by omega, World.ownsRow_nil _ _ _ _, Frm.refl _ _⟩
      case round =>
        obtain ⟨i, rfl, hin, hR, hF⟩ := hrel
        have i0' : (0 : Int) ≤ (i : Int) := Int.natCast_nonneg _
        by_cases hlt : i < n
        · have hw := (H.out.frmN hF) i (by omega)
          obtain ⟨ad, rfl, -, hcell⟩ := hw
          have hmp := HM.out i hlt
          have htk : (L.map (turnp 0)).take (i + 1) = (L.map (turnp 0)).take i ++ [turnp 0 (L.getD i (0, 0))] := by
            rw [List.take_succ_eq_append_getElem (by rw [List.length_map]; omega), List.getElem_map, List.getD_eq_getElem?_getD, List.getElem?_eq_getElem (by omega)]; rfl
          obtain ⟨⟨x, y⟩, hp⟩ : ∃ p, L.getD i (0, 0) = p := ⟨_, rfl⟩
          rw [hp] at hcell hmp htk
          obtain ⟨⟨x2, y2⟩, hp2⟩ : ∃ p, turnp 0 (x, y) = p := ⟨_, rfl⟩
          rw [hp2] at hmp htk
          have hcell' : wr.cell? (ad.add i) = some (.complex .f64 (FI x) (FI y)) := hcell
          have i1 : (i : Int) < (n : Int) := by omega
          have hml : ∀ w', (binOp .mul 53 (.complex .f64 (FI x) (FI y)) (.complex .f64 4607182418800017408 0)).run Try.prog w' = .ok (.complex .f64 (FI x2) (FI y2)) w' := fun w' => mul_run 53 w' hmp
          have hlen : ((L.map (turnp 0)).take i).length ≤ 100000 := by rw [List.length_take]; omega
          obtain ⟨R0, hRE⟩ : ∃ R0, (L.map (turnp 0)).take i = R0 := ⟨_, rfl⟩
          rw [hRE] at hR hlen htk
          have HTK := Lib.hid htk
          have hR0 := hR
          unfold RowC at hR0
          have hsz := hF.size
          clear hcell hmp htk hp hp2 hRE
          go_wp2_with (at_builtin; go_must (refine wpList_append_lies _ rfl _ _ 51 rfl w.heap.size 53 i0 _ 1 16 Try.underlying51 hi hz0 hz1 hz2 rfl (by omega) _ R0.length (R0.map cx) rfl (hR0.alloc _) ⟨wr.heap.size, 0, none⟩ 1 1 [.complex .f64 (FI x2) (FI y2)] rfl rfl (World.news_of_block (cs := #[.complex .f64 (FI x2) (FI y2)]) (t := 53) (fr := (0, 0)) (heap_alloc_new wr _)) (by simp [Value.oneCell', cx]) (by omega) (by unfold maxLen; omega) (by omega) (by simp; omega) (wr.heap.size + 1) (by simp) ?_; intro gg cap w3 hown3 hgrow3 hat3 hlt3; obtain ⟨r1, r2⟩ := rowC_push (p := (x2, y2)) hR hF hown3 hgrow3))
          go_roundw
          case rel => exact ⟨i + 1, by go_num, by omega, by rw [HTK.out]; exact r1, r2⟩
          case measure => simp [intOf]; omega
        · have i1 : ¬ (i : Int) < (n : Int) := by omega
          rw [List.take_of_length_le (by rw [List.length_map]; omega)] at hR
          go_wp2_with fail
          simp only [Exit.jump]
          go_ret
          exact ⟨_, rfl, hR, hF⟩
    · have q0 : (0 : Int) < (q : Int) := by omega
      have hb := byB_step 0 (by omega)
      have hml : ∀ w', (binOp .mul 53 (.complex .f64 4607182418800017408 0) (.complex .f64 0 4607182418800017408)).run Try.prog w' = .ok (.complex .f64 (byB 1).1 (byB 1).2) w' := fun w' => mul_run 53 w' hb
      go_wp2_with fail
      go_step3
      go_wp2_with fail
      try go_step3
      exact ⟨rfl, 1, _, _, _, _, _, _, _, _, _, _, _, _, _, _, _, _, _, _, _, _, _, _, _, _, rfl, by omega, by omega, by omega, rfl⟩
  · rintro a' wr ⟨j, m, u7, u8, u9, u12, u13, u14, u15, u16, u17, u18, u19, u20, u21, u22, u23, u24, u25, u26, u27, u28, u29, u30, u31, rfl, hj1, hjq, hmj, rfl⟩
    by_cases hlt : j < q
    · have hb := byB_step j (by omega)
      have hml : ∀ w', (binOp .mul 53 (.complex .f64 (byB j).1 (byB j).2) (.complex .f64 0 4607182418800017408)).run Try.prog w' = .ok (.complex .f64 (byB (j + 1)).1 (byB (j + 1)).2) w' := fun w' => mul_run 53 w' hb
      have q0 : (0 : Int) < m := by omega
      obtain ⟨b1, hb1⟩ : ∃ b, (byB j).1 = b := ⟨_, rfl⟩
      obtain ⟨b2, hb2⟩ : ∃ b, (byB j).2 = b := ⟨_, rfl⟩
      rw [hb1, hb2] at hml ⊢
      clear hb hb1 hb2
      go_wp2_with fail
      try go_step3
      exact ⟨rfl, ⟨j + 1, _, _, _, _, _, _, _, _, _, _, _, _, _, _, _, _, _, _, _, _, _, _, _, _, rfl, by omega, by omega, by omega, rfl⟩, by simp [intOf]; omega⟩
    · have hqj : q = j := by omega
      subst hqj
      have q0 : ¬ (0 : Int) < m := by omega
      obtain ⟨b1, hb1⟩ : ∃ b, (byB q).1 = b := ⟨_, rfl⟩
      obtain ⟨b2, hb2⟩ : ∃ b, (byB q).2 = b := ⟨_, rfl⟩
      have hmu : ∀ i, i < n → cMulBits (FI (L.getD i (0, 0)).1) (FI (L.getD i (0, 0)).2) b1 b2 = some (FI (turnp q (L.getD i (0, 0))).1, FI (turnp q (L.getD i (0, 0))).2) := fun i hi => hb1 ▸ hb2 ▸ byB_turn q hq _ (h4 _ (by
        rw [List.getD_eq_getElem?_getD, List.getElem?_eq_getElem (by omega)]; exact List.getElem_mem _))
      rw [hb1, hb2]
      clear hb1 hb2
      have H := Lib.hid h
      have HM := Lib.hid hmu
      clear h hmu
      go_wp2_with fail
      go_loopw [7, 20] (fun vo vi wr => ∃ i : Nat, vi = .int .i64 i ∧ i ≤ n ∧ RowC wr w.heap.size vo ((L.map (turnp q)).take i) ∧ Frm No w wr) (fun _ vi _ => n - (intOf vi).toNat)
      case atStart => exact ⟨0, rfl, by omega, World.ownsRow_nil _ _ _ _, Frm.refl _ _⟩
      case round =>
        obtain ⟨i, rfl, hin, hR, hF⟩ := hrel
        have i0' : (0 : Int) ≤ (i : Int) := Int.natCast_nonneg _
        by_cases hlt : i < n
        · have hw := (H.out.frmN hF) i (by omega)
          obtain ⟨ad, rfl, -, hcell⟩ := hw
          have hmp := HM.out i hlt
          have htk : (L.map (turnp q)).take (i + 1) = (L.map (turnp q)).take i ++ [turnp q (L.getD i (0, 0))] := by
            rw [List.take_succ_eq_append_getElem (by rw [List.length_map]; omega), List.getElem_map, List.getD_eq_getElem?_getD, List.getElem?_eq_getElem (by omega)]; rfl
          obtain ⟨⟨x, y⟩, hp⟩ : ∃ p, L.getD i (0, 0) = p := ⟨_, rfl⟩
          rw [hp] at hcell hmp htk
          obtain ⟨⟨x2, y2⟩, hp2⟩ : ∃ p, turnp q (x, y) = p := ⟨_, rfl⟩
          rw [hp2] at hmp htk
          have hcell' : wr.cell? (ad.add i) = some (.complex .f64 (FI x) (FI y)) := hcell
          have i1 : (i : Int) < (n : Int) := by omega
          have hml : ∀ w', (binOp .mul 53 (.complex .f64 (FI x) (FI y)) (.complex .f64 b1 b2)).run Try.prog w' = .ok (.complex .f64 (FI x2) (FI y2)) w' := fun w' => mul_run 53 w' hmp
          have hlen : ((L.map (turnp q)).take i).length ≤ 100000 := by rw [List.length_take]; omega
          obtain ⟨R0, hRE⟩ : ∃ R0, (L.map (turnp q)).take i = R0 := ⟨_, rfl⟩
          rw [hRE] at hR hlen htk
          have HTK := Lib.hid htk
          have hR0 := hR
          unfold RowC at hR0
          have hsz := hF.size
          clear hcell hmp htk hp hp2 hRE
          go_wp2_with (at_builtin; go_must (refine wpList_append_lies _ rfl _ _ 51 rfl w.heap.size 53 i0 _ 1 16 Try.underlying51 hi hz0 hz1 hz2 rfl (by omega) _ R0.length (R0.map cx) rfl (hR0.alloc _) ⟨wr.heap.size, 0, none⟩ 1 1 [.complex .f64 (FI x2) (FI y2)] rfl rfl (World.news_of_block (cs := #[.complex .f64 (FI x2) (FI y2)]) (t := 53) (fr := (0, 0)) (heap_alloc_new wr _)) (by simp [Value.oneCell', cx]) (by omega) (by unfold maxLen; omega) (by omega) (by simp; omega) (wr.heap.size + 1) (by simp) ?_; intro gg cap w3 hown3 hgrow3 hat3 hlt3; obtain ⟨r1, r2⟩ := rowC_push (p := (x2, y2)) hR hF hown3 hgrow3))
          go_roundw
          case rel => exact ⟨i + 1, by go_num, by omega, by rw [HTK.out]; exact r1, r2⟩
          case measure => simp [intOf]; omega
        · have i1 : ¬ (i : Int) < (n : Int) := by omega
          rw [List.take_of_length_le (by rw [List.length_map]; omega)] at hR
          go_wp2_with fail
          simp only [Exit.jump]
          go_ret
          exact ⟨_, rfl, hR, hF⟩
end Go.Proofs.Ytbhkhabkkghapaa.A

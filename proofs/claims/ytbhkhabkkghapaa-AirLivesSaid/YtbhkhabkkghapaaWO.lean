/- The document's way: Lose, Move. -/
import Derived.Test.YtbhkhabkkghapaaWN
import Derived.Test.YtbhkhabkkghapaaWM
namespace Go.Proofs.Ytbhkhabkkghapaa.A
open Go.RowKit Go.Proofs.Ytbhkhabkkghapaa.K Go.Proofs.Ytbhkhabkkghapaa.N Go.Proofs.Ytbhkhabkkghapaa.F
set_option linter.unusedVariables false
set_option linter.unusedSimpArgs false

theorem IsR.put2 {w : World} {B g : Nat} {k : Option Nat} {L : List (List Nat)} {se lo : Int} (h : IsR w B g k L se lo) (v : Int) : w.cell? ⟨g, 2, none⟩ = some (.int .i64 lo) ∧ w.frozen? ⟨g, 2, none⟩ = false ∧ IsR (w.setCell ⟨g, 2, none⟩ (.int .i64 v)) B g k L se v ∧ Frm (fun x => x = g) w (w.setCell ⟨g, 2, none⟩ (.int .i64 v)) := by
  obtain ⟨h0, u, S, hb, hr⟩ := h
  have G : Frm (fun x => x = g) w (w.setCell ⟨g, 2, none⟩ (.int .i64 v)) := (Frm.refl (fun x => x = g) w).self 2 _
  refine ⟨hb.cell 2, hb.free 2, ⟨h0, u, S, by simpa using hb.set 2 (.int .i64 v), hr.frm G (fun x hx e => ?_) (fun x cs hx e => ?_)⟩, G⟩
  · obtain ⟨_, cs, hc⟩ := hr.blk hx
    subst e
    exact Blk.ne hc hb (by decide) rfl
  · subst e
    exact Blk.ne hx hb (by decide) rfl
theorem rlose_any (w : World) (B g : Nat) (k : Option Nat) (L : List (List Nat)) (se lo i : Int) (h : IsR w B g k L se lo) (hB : B ≤ w.heap.size) (hb1 : -1000000000 ≤ lo) (hb2 : lo ≤ 1000000000) : Calls Try.prog 18 #[.pointer (some ⟨g, 0, none⟩), .int .i64 i] w fun e w' =>
    e = .returned (.int .i64 (askI L i)) ∧ (∃ k', IsR w' B g k' (if askI L i = 0 then cutL L i.toNat else L) se (if askI L i = 0 then lo + 1 else lo) ∧ Anew w k k') ∧ Frm (fun x => x = g) w w' := by
  have ht := rtake_any w B g k L se lo i h hB
  obtain ⟨E, hE⟩ : ∃ E, askI L i = E := ⟨_, rfl⟩
  rw [hE] at ht ⊢
  have hE2 : E = 0 ∨ E = 1 := by rw [← hE]; unfold askI; split <;> simp
  clear hE
  rcases hE2 with rfl | rfl
  · rw [if_pos rfl, if_pos rfl] at ht
    rw [if_pos rfl, if_pos rfl]
    go_enter Try.func18, Try.ntmps18
    go_wp2_with fail
    refine ht.mono ?_
    rintro e w1 ⟨b, rfl, -, ⟨k', hW, hA⟩, F1⟩
    obtain ⟨c3, z3, hW3, F3⟩ := hW.put2 (lo + 1)
    go_wp2_with fail
    go_ret
    exact ⟨rfl, ⟨k', hW3, hA⟩, F1.then F3 (fun x hx => .inl hx)⟩
  · rw [if_neg (by decide), if_neg (by decide)] at ht
    rw [if_neg (by decide), if_neg (by decide)]
    go_enter Try.func18, Try.ntmps18
    go_wp2_with fail
    refine ht.mono ?_
    rintro e w1 ⟨b, rfl, -, hW, F1⟩
    go_wp2_with fail
    go_ret
    exact ⟨rfl, hW, F1⟩

/-- What is put together of M and a, which shall stand at t, by round j. -/
def movP {α : Type} (M : List α) (a : α) (t j : Nat) : List α := if j ≤ t then M.take j else M.take t ++ ([a] ++ (M.drop t).take (j - t))
theorem take_one {α : Type} {l : List α} {j : Nat} (d : α) (h : j < l.length) : l.take (j + 1) = l.take j ++ [l.getD j d] := by
  rw [List.take_succ_eq_append_getElem h, List.getD_eq_getElem?_getD, List.getElem?_eq_getElem h]; rfl
theorem movP_low {α : Type} {M : List α} {a : α} {t j : Nat} (d : α) (h : j < t) (hj : j < M.length) : movP M a t (j + 1) = movP M a t j ++ [M.getD j d] := by
  unfold movP; rw [if_pos (by omega), if_pos (by omega), take_one d hj]
theorem movP_here {α : Type} {M : List α} {a : α} {t : Nat} (d : α) (hj : t < M.length) : movP M a t (t + 1) = (movP M a t t ++ [a]) ++ [M.getD t d] := by
  unfold movP; rw [if_neg (by omega), if_pos (by omega), show t + 1 - t = 0 + 1 by omega, take_one d (by rw [List.length_drop]; omega), List.take_zero, List.nil_append, List.getD_eq_getElem?_getD, List.getElem?_drop, ← List.getD_eq_getElem?_getD, Nat.add_zero]
  simp
theorem movP_last {α : Type} {M : List α} {a : α} {t : Nat} (hj : M.length ≤ t) : movP M a t (t + 1) = movP M a t t ++ [a] := by
  unfold movP; rw [if_neg (by omega), if_pos (by omega), List.drop_of_length_le hj]; simp
theorem movP_high {α : Type} {M : List α} {a : α} {t j : Nat} (d : α) (h : t < j) (hj : j < M.length) : movP M a t (j + 1) = movP M a t j ++ [M.getD j d] := by
  unfold movP
  rw [if_neg (by omega), if_neg (by omega), show j + 1 - t = (j - t) + 1 by omega, take_one d (by rw [List.length_drop]; omega), List.getD_eq_getElem?_getD, List.getElem?_drop, show t + (j - t) = j by omega, ← List.getD_eq_getElem?_getD]
  simp
theorem movP_end {α : Type} {M : List α} {a : α} {t j : Nat} (h : t < j) (hj : M.length ≤ j) : movP M a t (j + 1) = movP M a t j := by
  unfold movP
  rw [if_neg (by omega), if_neg (by omega), List.take_of_length_le (l := M.drop t) (by rw [List.length_drop]; omega), List.take_of_length_le (l := M.drop t) (by rw [List.length_drop]; omega)]
theorem movP_all {α : Type} {M : List α} {a : α} {t j : Nat} (h : t < j) (hj : M.length ≤ j) : movP M a t j = M.take t ++ ([a] ++ M.drop t) := by
  unfold movP
  rw [if_neg (by omega), List.take_of_length_le (l := M.drop t) (by rw [List.length_drop]; omega)]
theorem movP_len {α : Type} (M : List α) (a : α) (t j : Nat) : (movP M a t j).length ≤ M.length + 1 := by
  unfold movP
  split
  · rw [List.length_take]; omega
  · simp only [List.length_append, List.length_take, List.length_drop, List.length_singleton]; omega
theorem movP_zero {α : Type} (M : List α) (a : α) (t : Nat) : movP M a t 0 = [] := by unfold movP; rw [if_pos (by omega), List.take_zero]
/-- What is put together so far. -/
def MV (w wr : World) (P : List Bl) (v : Value) : Prop := wr.ownsRow w.heap.size 22 1 v P.length (P.map Bl.val) ∧ Frm No w wr
set_option maxRecDepth 100000 in
set_option maxHeartbeats 8000000 in
theorem rmove_core (w : World) (B g : Nat) (k : Option Nat) (L : List (List Nat)) (se lo : Int) (i t : Nat) (h : IsR w B g k L se lo) (hB : B ≤ w.heap.size) (hi : i < L.length) (ht : t < L.length) : Calls Try.prog 19 #[.pointer (some ⟨g, 0, none⟩), .int .i64 (i : Int), .int .i64 (t : Int)] w fun e w' =>
    e = .returned (.int .i64 0) ∧ (∃ k', IsR w' B g k' (moveL L i t) se lo ∧ Anew w k k') ∧ Frm (fun x => x = g) w w' := by
  have htk := rtake_any w B g k L se lo (i : Int) h hB
  have hE : askI L (i : Int) = 0 := if_pos ⟨by omega, by omega⟩
  rw [hE, if_pos rfl, if_pos rfl, Int.toNat_natCast] at htk
  have hgl : g < w.heap.size := by obtain ⟨_, v, S, hb, _⟩ := h; exact hb.lt
  have hcl := cutL_len hi
  obtain ⟨M, hM⟩ : ∃ M, cutL L i = M := ⟨_, rfl⟩
  have hml : moveL L i t = M.take t ++ ([L.getD i []] ++ M.drop t) := by unfold moveL; rw [hM]
  rw [hml]
  rw [hM] at htk hcl
  obtain ⟨a, ha⟩ : ∃ a, L.getD i [] = a := ⟨_, rfl⟩
  rw [ha] at htk ⊢
  obtain ⟨A, c, S, hb, hlc, hr⟩ := h.cells
  obtain ⟨n, hn⟩ : ∃ n, L.length = n := ⟨_, rfl⟩
  rw [hn] at hb hi ht hcl
  have hn2 : n ≤ 256 := by rw [← hn]; exact h.1
  have k0 : w.cell? ⟨g, 0, none⟩ = some (.slice A n c) := hb.cell 0
  have i1 : (i : Int) < (n : Int) := by omega
  have i0 : (0 : Int) ≤ (i : Int) := by omega
  have t1 : (t : Int) < (n : Int) := by omega
  have t0 : (0 : Int) ≤ (t : Int) := by omega
  have ni : ¬ n ≤ i := by omega
  have nt : ¬ n ≤ t := by omega
  obtain ⟨j0, hi9, hz0, hz1, hz2⟩ := info_parts info22
  clear hb hr hlc hM hml ha hE hn h
  go_enter Try.func19, Try.ntmps19
  go_wp2_with fail
  refine htk.mono ?_
  rintro e w1 ⟨⟨bA, bn, bc⟩, rfl, hbB, ⟨k1, hR, hA⟩, F1⟩
  obtain ⟨A1, c1, S1, hb1, hlc1, hr1⟩ := hR.cells
  have hS1 : S1.length = M.length := hr1.2.2.1
  obtain ⟨m, hm⟩ : ∃ m, M.length = m := ⟨_, rfl⟩
  rw [hm] at hb1 hr1 hcl hS1
  have hB1 : B ≤ w1.heap.size := Nat.le_trans hB F1.size
  have kk : ∀ w', Frm No w1 w' → w'.cell? ⟨g, 0, none⟩ = some (.slice A1 m c1) := fun w' f => (f.blk hb1 (fun h => h)).cell 0
  have HX := Lib.hid (And.intro hr1 (And.intro hb1 (And.intro hbB (And.intro kk (And.intro hm (And.intro hA (And.intro F1 hS1)))))))
  clear hr1 hb1 hbB kk hm hA F1 hR hlc1 htk hS1 k0
  have HT := Lib.hid (And.intro hi ht)
  have htm : t ≤ m := by omega
  clear hi ht
  simp only [Bl.val]
  go_wp2_with fail
  go_loopw [9, 10] (fun vl vk wr => ∃ j : Nat, vk = .int .i64 j ∧ j ≤ m + 1 ∧ MV w1 wr (movP S1 ⟨bA, bn, bc⟩ t j) vl) (fun _ vk _ => m + 1 - (intOf vk).toNat)
  case atStart => exact ⟨0, rfl, by omega, by rw [movP_zero]; exact World.ownsRow_nil _ _ _ _, Frm.refl _ _⟩
  case round =>
    obtain ⟨j, rfl, hj, own, F⟩ := hrel
    have c0 := HX.out.2.2.2.1 _ F
    have hln := movP_len S1 ⟨bA, bn, bc⟩ t j
    rw [HX.out.2.2.2.2.2.2.2] at hln
    obtain ⟨R, hR⟩ : ∃ R, movP S1 ⟨bA, bn, bc⟩ t j = R := ⟨_, rfl⟩
    rw [hR] at own hln
    by_cases hjn : j ≤ m
    · have j1 : (j : Int) ≤ (m : Int) := by omega
      have jj : (0 : Int) ≤ (j : Int) := by omega
      obtain ⟨r, hr⟩ : ∃ r, R.length = r := ⟨_, rfl⟩
      rw [hr] at own hln
      have hr2 : r ≤ 256 := by omega
      obtain ⟨A5, c5, rfl, -, -⟩ := own_is own
      by_cases hjt : j = t
      · subst hjt
        have own1 := own.alloc (.cells #[.slice bA bn bc] 22)
        have hrd := new_rds wr (.slice bA bn bc) 22
        have F1 := F.alloc (.cells #[.slice bA bn bc] 22)
        have hsz : w1.heap.size ≤ (wr.alloc (.cells #[.slice bA bn bc] 22)).heap.size := F1.size
        clear own
        have HM := Lib.hid (And.intro hR hr)
        clear hR hr hln
        by_cases hjm : j < m
        · have j2 : (j : Int) < (m : Int) := by omega
          go_upto_region 10 with (at_builtin; go_must (refine wpList_append_rds _ rfl _ _ 32 rfl w1.heap.size 22 j0 _ 1 24 Try.underlying32 hi9 hz0 hz1 hz2 rfl (by omega) (.slice A5 r c5) r (R.map Bl.val) rfl own1 (some ⟨wr.heap.size, 0, none⟩) 1 1 [.slice bA bn bc] rfl hrd (by simp [Value.oneCell']) (by unfold maxLen; omega) (by omega) hsz ?_; intro v3 w3 own3 hg3))
          have F3 := own_grown own1 F1 (Nat.le_refl _) hg3
          obtain ⟨A6, c6, rfl, -, -⟩ := own_is own3
          obtain ⟨ad, rfl, hc, _⟩ := (HX.out.1.frmN F3).at_ (j := j) (by rw [HX.out.2.2.2.2.1]; exact hjm)
          have c3 := HX.out.2.2.2.1 _ F3
          have hstep : movP S1 ⟨bA, bn, bc⟩ j (j + 1) = (R ++ [⟨bA, bn, bc⟩]) ++ [S1.getD j bl0] := by
            rw [← HM.out.1]; exact movP_here bl0 (by rw [HX.out.2.2.2.2.2.2.2]; exact hjm)
          obtain ⟨⟨dA, dn, dc⟩, hd⟩ : ∃ b, S1.getD j bl0 = b := ⟨_, rfl⟩
          rw [hd] at hc hstep
          simp only [Bl.val] at hc
          have own4 := own3.alloc (.cells #[.slice dA dn dc] 22)
          have hrd4 := new_rds w3 (.slice dA dn dc) 22
          have F4 := F3.alloc (.cells #[.slice dA dn dc] 22)
          have hsz4 : w1.heap.size ≤ (w3.alloc (.cells #[.slice dA dn dc] 22)).heap.size := F4.size
          have HM2 := Lib.hid (And.intro hstep HM.out.2)
          clear hstep hd own1 hrd F1 hsz hg3 own3 F3
          go_wp2_with (at_builtin; go_must (refine wpList_append_rds _ rfl _ _ 32 rfl w1.heap.size 22 j0 _ 1 24 Try.underlying32 hi9 hz0 hz1 hz2 rfl (by omega) (.slice A6 (r + 1) c6) (r + 1) (R.map Bl.val ++ [.slice bA bn bc]) rfl own4 (some ⟨w3.heap.size, 0, none⟩) 1 1 [.slice dA dn dc] rfl hrd4 (by simp [Value.oneCell']) (by unfold maxLen; omega) (by omega) hsz4 ?_; intro v5 w5 own5 hg5))
          have F5 := own_grown own4 F4 (Nat.le_refl _) hg5
          go_wp2_with fail
          go_roundw
          case rel => exact ⟨j + 1, by go_num, by omega, by rw [HM2.out.1]; simpa [HM2.out.2, Bl.val] using own5, F5⟩
          case measure => simp [intOf]; omega
        · have j2 : ¬ (j : Int) < (m : Int) := by omega
          go_upto_region 10 with (at_builtin; go_must (refine wpList_append_rds _ rfl _ _ 32 rfl w1.heap.size 22 j0 _ 1 24 Try.underlying32 hi9 hz0 hz1 hz2 rfl (by omega) (.slice A5 r c5) r (R.map Bl.val) rfl own1 (some ⟨wr.heap.size, 0, none⟩) 1 1 [.slice bA bn bc] rfl hrd (by simp [Value.oneCell']) (by unfold maxLen; omega) (by omega) hsz ?_; intro v3 w3 own3 hg3))
          have F3 := own_grown own1 F1 (Nat.le_refl _) hg3
          have c3 := HX.out.2.2.2.1 _ F3
          have hstep : movP S1 ⟨bA, bn, bc⟩ j (j + 1) = R ++ [⟨bA, bn, bc⟩] := by
            rw [← HM.out.1]; exact movP_last (by rw [HX.out.2.2.2.2.2.2.2]; omega)
          have HM2 := Lib.hid (And.intro hstep HM.out.2)
          clear hstep
          go_wp2_with fail
          go_roundw
          case rel => exact ⟨j + 1, by go_num, by omega, by rw [HM2.out.1]; simpa [HM2.out.2, Bl.val] using own3, F3⟩
          case measure => simp [intOf]; omega
      · have hjt' : ¬ (j : Int) = (t : Int) := by omega
        by_cases hjm : j < m
        · have j2 : (j : Int) < (m : Int) := by omega
          obtain ⟨ad, rfl, hc, _⟩ := (HX.out.1.frmN F).at_ (j := j) (by rw [HX.out.2.2.2.2.1]; exact hjm)
          have hstep : movP S1 ⟨bA, bn, bc⟩ t (j + 1) = R ++ [S1.getD j bl0] := by
            rw [← hR]
            rcases Nat.lt_or_gt_of_ne hjt with h | h
            · exact movP_low bl0 h (by rw [HX.out.2.2.2.2.2.2.2]; exact hjm)
            · exact movP_high bl0 h (by rw [HX.out.2.2.2.2.2.2.2]; exact hjm)
          obtain ⟨⟨dA, dn, dc⟩, hd⟩ : ∃ b, S1.getD j bl0 = b := ⟨_, rfl⟩
          rw [hd] at hc hstep
          simp only [Bl.val] at hc
          have own1 := own.alloc (.cells #[.slice dA dn dc] 22)
          have hrd := new_rds wr (.slice dA dn dc) 22
          have F1 := F.alloc (.cells #[.slice dA dn dc] 22)
          have hsz : w1.heap.size ≤ (wr.alloc (.cells #[.slice dA dn dc] 22)).heap.size := F1.size
          have HM := Lib.hid (And.intro hstep hr)
          clear hstep hln hr hR hd own
          go_wp2_with (at_builtin; go_must (refine wpList_append_rds _ rfl _ _ 32 rfl w1.heap.size 22 j0 _ 1 24 Try.underlying32 hi9 hz0 hz1 hz2 rfl (by omega) (.slice A5 r c5) r (R.map Bl.val) rfl own1 (some ⟨wr.heap.size, 0, none⟩) 1 1 [.slice dA dn dc] rfl hrd (by simp [Value.oneCell']) (by unfold maxLen; omega) (by omega) hsz ?_; intro v3 w3 own3 hg3))
          have F3 := own_grown own1 F1 (Nat.le_refl _) hg3
          go_wp2_with fail
          go_roundw
          case rel => exact ⟨j + 1, by go_num, by omega, by rw [HM.out.1]; simpa [HM.out.2, Bl.val] using own3, F3⟩
          case measure => simp [intOf]; omega
        · have j2 : ¬ (j : Int) < (m : Int) := by omega
          have hstep : movP S1 ⟨bA, bn, bc⟩ t (j + 1) = R := by rw [← hR]; exact movP_end (by omega) (by rw [HX.out.2.2.2.2.2.2.2]; omega)
          have OWN := Lib.hid (And.intro own (And.intro hstep hr))
          clear own hstep hr hR
          go_wp2_with fail
          go_roundw
          case rel => exact ⟨j + 1, by go_num, by omega, by rw [OWN.out.2.1, OWN.out.2.2]; exact OWN.out.1, F⟩
          case measure => simp [intOf]; omega
    · have j1 : ¬ (j : Int) ≤ (m : Int) := by omega
      have hall : movP S1 ⟨bA, bn, bc⟩ t j = S1.take t ++ ([⟨bA, bn, bc⟩] ++ S1.drop t) := movP_all (by omega) (by rw [HX.out.2.2.2.2.2.2.2]; omega)
      rw [← hR, hall] at own
      obtain ⟨ct, hct⟩ : ∃ ct, (S1.take t ++ (([⟨bA, bn, bc⟩] : List Bl) ++ S1.drop t)).length = ct := ⟨_, rfl⟩
      have hS := HX.out.2.2.2.2.2.2.2
      have hMm := HX.out.2.2.2.2.1
      have hct2 : ct = m + 1 := by rw [← hct]; simp only [List.length_append, List.length_take, List.length_drop, List.length_singleton, hS]; omega
      have hMl : (M.take t ++ ([a] ++ M.drop t)).length = ct := by rw [hct2]; simp only [List.length_append, List.length_take, List.length_drop, List.length_singleton, hMm]; omega
      have hcm : ct ≤ 256 := by omega
      rw [hct] at own
      obtain ⟨A5, c5, rfl, -, -⟩ := own_is own
      have RD : RdL wr (S1.take t ++ (([⟨bA, bn, bc⟩] : List Bl) ++ S1.drop t)) (M.take t ++ ([a] ++ M.drop t)) := by
        have hrd := (HX.out.1.frmN F).2.2
        exact RdL.both (RdL.take hrd t) (RdL.both (one_rd (HX.out.2.2.1.frmN F)) (RdL.drop hrd t))
      obtain ⟨r1, r2, r3⟩ := rway_row (B := B) (k := k) HX.out.2.1 F own hMl hcm hB1 (Nat.le_refl _) RD
      have z0 : wr.frozen? ⟨g, 0, none⟩ = false := (F.blk HX.out.2.1 (fun h => h)).free 0
      have r4 : Anew w k (Value.slice A5 ct c5).ownBlock := .inr fun x hx => Nat.le_trans HX.out.2.2.2.2.2.2.1.size (own_blk own hx).1
      have DONE := Lib.hid (And.intro r1 (And.intro r3 r4))
      have FW := HX.out.2.2.2.2.2.2.1
      clear r1 r2 r3 r4 RD own F hMl hct hct2 hall hR hln hS hMm
      go_wp2_with fail
      go_ret
      exact ⟨rfl, ⟨_, DONE.out.1, DONE.out.2.2⟩, FW.then DONE.out.2.1 (fun x hx => .inl hx)⟩
theorem rmove_any (w : World) (B g : Nat) (k : Option Nat) (L : List (List Nat)) (se lo i t : Int) (h : IsR w B g k L se lo) (hB : B ≤ w.heap.size) : Calls Try.prog 19 #[.pointer (some ⟨g, 0, none⟩), .int .i64 i, .int .i64 t] w fun e w' =>
    e = .returned (.int .i64 (moveE L i t)) ∧ (∃ k', IsR w' B g k' (if moveE L i t = 0 then moveL L i.toNat t.toNat else L) se lo ∧ Anew w k k') ∧ Frm (fun x => x = g) w w' := by
  by_cases hin : (0 ≤ i ∧ i < (L.length : Int)) ∧ (0 ≤ t ∧ t < (L.length : Int))
  · obtain ⟨⟨i0, i1⟩, t0, t1⟩ := hin
    obtain ⟨a, rfl⟩ := Int.eq_ofNat_of_zero_le i0
    obtain ⟨b, rfl⟩ := Int.eq_ofNat_of_zero_le t0
    rw [moveE_in (by omega) (by omega), if_pos rfl, Int.toNat_natCast, Int.toNat_natCast]
    exact rmove_core w B g k L se lo a b h hB (by omega) (by omega)
  · rw [moveE_out rfl hin, if_neg (by decide)]
    obtain ⟨A, c, S, hb, hlc, hr⟩ := h.cells
    obtain ⟨n, hn⟩ : ∃ n, L.length = n := ⟨_, rfl⟩
    rw [hn] at hb hin
    have k0 : w.cell? ⟨g, 0, none⟩ = some (.slice A n c) := hb.cell 0
    have hn2 : n ≤ 256 := by rw [← hn]; exact h.1
    have H := Lib.hid h
    clear hb hr hlc hn h
    by_cases i0 : i < 0
    · go_enter Try.func19, Try.ntmps19
      go_wp2_with fail
      go_ret
      exact ⟨rfl, ⟨k, H.out, .inl rfl⟩, Frm.refl _ _⟩
    · by_cases i1 : (n : Int) ≤ i
      · go_enter Try.func19, Try.ntmps19
        go_wp2_with fail
        go_ret
        exact ⟨rfl, ⟨k, H.out, .inl rfl⟩, Frm.refl _ _⟩
      · by_cases t0 : t < 0
        · go_enter Try.func19, Try.ntmps19
          go_wp2_with fail
          go_ret
          exact ⟨rfl, ⟨k, H.out, .inl rfl⟩, Frm.refl _ _⟩
        · have t1 : (n : Int) ≤ t := by omega
          go_enter Try.func19, Try.ntmps19
          go_wp2_with fail
          go_ret
          exact ⟨rfl, ⟨k, H.out, .inl rfl⟩, Frm.refl _ _⟩
end Go.Proofs.Ytbhkhabkkghapaa.A

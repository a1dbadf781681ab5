/- The law's words: wants as the document's. -/
import Derived.Test.YtiifepajnhdfjaaZE
namespace Go.Proofs.Ytiifepajnhdfjaa.A
open Go.RowKit Go.Proofs.Ytiifepajnhdfjaa.K
set_option linter.unusedVariables false
set_option linter.unusedSimpArgs false

set_option maxRecDepth 100000 in
set_option maxHeartbeats 8000000 in
theorem as_ok (w : World) (A : Option Addr) (n c : Nat) (W : List Wn) (hW : RdW w A W) (hn : W.length = n) (hn2 : n ≤ 1000) :
    Calls Try.prog 15 #[.slice A n c] w fun e w' => ∃ v, e = .returned v ∧ RowX w' w.heap.size v W ∧ Frm No w w' := by
  obtain ⟨i5, hi5, hy0, hy1, hy2⟩ := info_parts info51
  have HW := Lib.hid hW
  have HN := Lib.hid hn
  have n9 : (n : Int) ≤ 1000 := by omega
  clear hW hn
  go_enter Try.func15, Try.ntmps15
  go_wp2_with fail
  go_loopw [3, 4] (fun vo vi wr => ∃ j : Nat, vi = .int .i64 j ∧ j ≤ n ∧ RowX wr w.heap.size vo (W.take j) ∧ Frm No w wr) (fun _ vi _ => n - (intOf vi).toNat)
  case atStart => exact ⟨0, rfl, by omega, World.ownsRow_nil _ _ _ _, Frm.refl _ _⟩
  case round =>
    obtain ⟨j, rfl, hj, hX, F⟩ := hrel
    have j0 : (0 : Int) ≤ (j : Int) := Int.natCast_nonneg _
    by_cases hlt : j < n
    · have j1 : (j : Int) < (n : Int) := by omega
      obtain ⟨⟨p, q⟩, hp⟩ : ∃ u, W.getD j (0, 0) = u := ⟨_, rfl⟩
      obtain ⟨ad, rfl, k0, k1⟩ := (HW.out.frmN F).at_ (j := j) (by rw [HN.out]; exact hlt) hp
      have hstep : W.take (j + 1) = W.take j ++ [(p, q)] := by
        rw [List.take_succ_eq_append_getElem (by rw [HN.out]; exact hlt)]
        rw [List.getD_eq_getElem?_getD, List.getElem?_eq_getElem (by rw [HN.out]; exact hlt)] at hp
        have hp2 : W[j]'(by rw [HN.out]; exact hlt) = (p, q) := hp
        rw [hp2]
      have hol : (W.take j).length = j := by rw [List.length_take, HN.out]; omega
      obtain ⟨R0, hRE⟩ : ∃ R0, W.take j = R0 := ⟨_, rfl⟩
      rw [hRE] at hX hol hstep
      obtain ⟨A5, c5, rfl, -, -⟩ := rdX_of hX
      have hX0 := hX
      unfold RowX at hX0
      rw [hol] at hX0 hX ⊢
      have HL := Lib.hid (And.intro hol (And.intro hstep (And.intro hX F)))
      have hsz := F.size
      clear hol hstep hRE hp hX F
      go_wp2_with fail
      go_region_law (refine step_append_lies _ (by rfl) _ _ _ (by rfl) w.heap.size 51 i5 _ 2 16 Try.underlying47 hi5 hy0 hy1 hy2 zero_cells (by omega) _ j (R0.flatMap wc) (by rfl) ((hX0.alloc _).drew) ⟨wr.heap.size, 0, none⟩ 1 1 [.int .i64 p, .int .i64 q] (by rfl) (by rfl) (World.news_of_block (cs := #[.int .i64 p, .int .i64 q]) (t := 51) (fr := (0, 0)) (heap_alloc_new wr _)) (by simp [Value.oneCell']) (by omega) (by unfold maxLen; omega) (by omega) (by simp; omega) (wr.heap.size + 1) (by simp) ?_; intro gn cap w9 hown1 hgrow hat hlt3)
      all_goals
        go_wp2_with fail
        go_roundw
        case rel =>
          obtain ⟨r1, r2⟩ := rowX_push (o := .cells #[.int .i64 p, .int .i64 q] 51) (p := (p, q)) HL.out.2.2.1 (Nat.le_refl _) HL.out.2.2.2 HL.out.1 (by exact hown1) ⟨hgrow.os, hgrow.tape, hgrow.output, hgrow.size, hgrow.block⟩
          exact ⟨j + 1, by go_num, by omega, by rw [HL.out.2.1]; exact r1, r2⟩
        case measure => simp [intOf]; omega
    · have j1 : ¬ (j : Int) < (n : Int) := by omega
      have hjn : j = n := by omega
      have hal : W.take j = W := by rw [hjn, ← HN.out, List.take_length]
      rw [hal] at hX
      clear hal
      go_wp2_with fail
      go_ret
      exact ⟨_, rfl, hX, F⟩
end Go.Proofs.Ytiifepajnhdfjaa.A

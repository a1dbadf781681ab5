/- Move. -/
import Derived.Test.YtbhkhabkkghapaaWE
namespace Go.Proofs.Ytbhkhabkkghapaa.A
open Go.RowKit Go.Proofs.Ytbhkhabkkghapaa.K Go.Proofs.Ytbhkhabkkghapaa.N Go.Proofs.Ytbhkhabkkghapaa.F
set_option linter.unusedVariables false
set_option linter.unusedSimpArgs false

theorem one_rd {w : World} {b : Bl} {l : List Nat} (h : IsB w b l) : RdL w [b] [l] := ⟨rfl, fun j hj => by
  have hj0 : j = 0 := by simpa using hj
  subst hj0
  exact h⟩
def moveE (L : List (List Nat)) (i to : Int) : Int := if askI L i = 0 ∧ askI L to = 0 then 0 else 1
def moveL (L : List (List Nat)) (i to : Nat) : List (List Nat) := (cutL L i).take to ++ ([L.getD i []] ++ (cutL L i).drop to)
theorem askI_two (L : List (List Nat)) (i : Int) : askI L i = 0 ∨ askI L i = 1 := by unfold askI; split <;> simp
theorem cutL_len {L : List (List Nat)} {i : Nat} (h : i < L.length) : (cutL L i).length = L.length - 1 := by
  unfold cutL; rw [List.length_append, List.length_take, List.length_drop]; omega
set_option maxRecDepth 100000 in
set_option maxHeartbeats 4000000 in
theorem move_core (w : World) (B g : Nat) (k : Option Nat) (L : List (List Nat)) (se lo : Int) (i to : Nat) (h : IsW w B g k L se lo) (hF : Fits L) (hB : B ≤ w.heap.size) (hi : i < L.length) (hto : to < L.length) : Calls Try.prog 13 #[.pointer (some ⟨g, 0, none⟩), .int .i64 (i : Int), .int .i64 (to : Int)] w fun e w' =>
    e = .returned (.int .i64 0) ∧ (∃ k', IsW w' B g k' (moveL L i to) se lo ∧ Anew w k k') ∧ Frm (fun x => x = g) w w' := by
  have ha := ask_any w B g k L se lo (i : Int) h
  have hb := ask_any w B g k L se lo (to : Int) h
  have ht := take_any w B g k L se lo (i : Int) h hF hB
  have e1 : askI L (i : Int) = 0 := if_pos ⟨by omega, by omega⟩
  have e2 : askI L (to : Int) = 0 := if_pos ⟨by omega, by omega⟩
  rw [e1] at ha ht
  rw [e2] at hb
  rw [if_pos rfl, if_pos rfl, Int.toNat_natCast] at ht
  have hcl := cutL_len hi
  have hL := h.1
  obtain ⟨m, hm⟩ : ∃ m, L.length - 1 = m := ⟨_, rfl⟩
  rw [hm] at hcl
  have htm : to ≤ m := by omega
  have hm256 : m ≤ 255 := by omega
  obtain ⟨M, hM⟩ : ∃ M, cutL L i = M := ⟨_, rfl⟩
  have hml : moveL L i to = M.take to ++ ([L.getD i []] ++ M.drop to) := by unfold moveL; rw [hM]
  rw [hM] at ht hcl
  rw [hml]
  have HB := Lib.hid hB
  clear e1 e2 hM hml hm h hi hto
  go_enter Try.func13, Try.ntmps13
  go_wp2_with fail
  refine ha.mono ?_
  rintro e w1 ⟨rfl, rfl⟩
  go_wp2_with fail
  refine hb.mono ?_
  rintro e w1 ⟨rfl, rfl⟩
  go_wp2_with fail
  refine ht.mono ?_
  rintro e w2 ⟨⟨bA, bn, bc⟩, rfl, hb2, ⟨k2, hW2, hA2⟩, F2⟩
  simp only [Bl.val]
  obtain ⟨A, c, S, hbk, hlc, hr⟩ := hW2.cells
  have hrd : Rds w2 1 A M.length (S.map Bl.val) := by
    obtain ⟨A', c', e, -, hrd⟩ := hr.slice
    injection e with e1 e2 e3
    subst e1
    exact hrd
  rw [hcl] at hrd hlc hbk
  have r1 := hrd.take (k := to) htm
  have r2 := hrd.drop (k := to) htm hlc
  rw [Nat.mul_one, ← List.map_take] at r1
  rw [Nat.mul_one, ← List.map_drop] at r2
  have k1 : w2.cell? ⟨g, 1, none⟩ = some (.slice A m c) := hbk.cell 1
  have hgl := hbk.lt
  have i0 : (0 : Int) ≤ (to : Int) := Int.natCast_nonneg _
  have i2 : (m : Int) ≤ (c : Int) := by omega
  have i3 : (to : Int) ≤ (m : Int) := by omega
  have i4 : (to : Int) ≤ (c : Int) := by omega
  have j1 : to ≤ c := by omega
  have j2 : to ≤ m := htm
  have j3 : m ≤ c := hlc
  obtain ⟨A2, hAe⟩ : ∃ A2, (if c = to then A else A.map (·.add to)) = A2 := ⟨_, rfl⟩
  rw [hAe] at r2
  have X := Lib.hid (And.intro hbk (And.intro hr.2.2 (And.intro hcl (And.intro F2 hA2))))
  have hcc : ∀ o1 o2, o1 = Obj.cells #[Value.slice bA bn bc] 22 → o2 = Obj.cells #[Value.slice A to c, .slice (some ⟨w2.heap.size, 0, none⟩) 1 1, .slice A2 (m - to) (c - to)] 32 → Calls Try.prog 31 #[.slice (some ⟨w2.heap.size + 1, 0, none⟩) 3 3] ((w2.alloc o1).alloc o2).drew fun e w' => ∃ A3 c3, e = .returned (.slice A3 (m + 1) c3) ∧ w'.ownsRow w2.heap.size 22 1 (.slice A3 (m + 1) c3) (m + 1) ((S.take to ++ ([(⟨bA, bn, bc⟩ : Bl)] ++ S.drop to)).map Bl.val) ∧ Frm No w2 w' ∧ w'.cell? ⟨g, 1, none⟩ = some (.slice A m c) ∧ w'.frozen? ⟨g, 1, none⟩ = false := fun o1 o2 ho1 ho2 => by
    subst ho1 ho2
    have FA := (((Frm.refl No w2).alloc (.cells #[Value.slice bA bn bc] 22)).alloc (.cells #[Value.slice A to c, .slice (some ⟨w2.heap.size, 0, none⟩) 1 1, .slice A2 (m - to) (c - to)] 32)).drew
    have hb1 : Blk ((w2.alloc (.cells #[Value.slice bA bn bc] 22)).alloc (.cells #[Value.slice A to c, .slice (some ⟨w2.heap.size, 0, none⟩) 1 1, .slice A2 (m - to) (c - to)] 32)).drew w2.heap.size #[Value.slice bA bn bc] 22 := ((Blk.new w2 _ 22).alloc _).drew
    have hb3 : Blk ((w2.alloc (.cells #[Value.slice bA bn bc] 22)).alloc (.cells #[Value.slice A to c, .slice (some ⟨w2.heap.size, 0, none⟩) 1 1, .slice A2 (m - to) (c - to)] 32)).drew (w2.heap.size + 1) #[Value.slice A to c, .slice (some ⟨w2.heap.size, 0, none⟩) 1 1, .slice A2 (m - to) (c - to)] 32 := by
      have := (Blk.new (w2.alloc (.cells #[Value.slice bA bn bc] 22)) #[Value.slice A to c, .slice (some ⟨w2.heap.size, 0, none⟩) 1 1, .slice A2 (m - to) (c - to)] 32).drew
      simpa using this
    refine (concat_ok _ (w2.heap.size + 1) 3 3 [⟨A, to, c, (S.take to).map Bl.val⟩, ⟨some ⟨w2.heap.size, 0, none⟩, 1, 1, [.slice bA bn bc]⟩, ⟨A2, m - to, c - to, (S.drop to).map Bl.val⟩] rfl hb3 (fun q hq => ?_) (fun q hq => ?_) ?_ (by omega)).mono ?_
    · match q, hq with
      | 0, _ => exact r1.frmN FA
      | 1, _ => exact ⟨rfl, fun _ => ⟨_, rfl, hb1.lt, fun j u hu => by
          match j, hu with
          | 0, hu => exact (hb1.cell 0).trans hu
          | j + 1, hu => simp at hu⟩⟩
      | 2, _ => exact r2.frmN FA
    · match q, hq with
      | 0, _ => exact vals_one _
      | 1, _ => exact fun u hu => by simp at hu; subst hu; rfl
      | 2, _ => exact vals_one _
    · show to + (1 + (m - to + 0)) ≤ 100000; omega
    · rintro e w' ⟨v, rfl, own, F⟩
      have F3 := FA.thenN F
      have hbz := F3.blk hbk (fun h => h)
      have e1 : slN [⟨A, to, c, (S.take to).map Bl.val⟩, ⟨some ⟨w2.heap.size, 0, none⟩, 1, 1, [.slice bA bn bc]⟩, ⟨A2, m - to, c - to, (S.drop to).map Bl.val⟩] 3 = m + 1 := by show to + (1 + (m - to + 0)) = m + 1; omega
      have e2 : slX [⟨A, to, c, (S.take to).map Bl.val⟩, ⟨some ⟨w2.heap.size, 0, none⟩, 1, 1, [.slice bA bn bc]⟩, ⟨A2, m - to, c - to, (S.drop to).map Bl.val⟩] 3 = (S.take to ++ ([(⟨bA, bn, bc⟩ : Bl)] ++ S.drop to)).map Bl.val := by
        rw [List.map_append, List.map_append]; simp [slX, Bl.val]
      rw [e1, e2] at own
      obtain ⟨A3, c3, rfl, -, -⟩ := own_is own
      exact ⟨A3, c3, rfl, own_lower own (by simp; omega), F3, hbz.cell 1, hbz.free 1⟩
  have HCC := Lib.hid hcc
  clear hcc hr hrd r1 r2 hbk hW2
  by_cases hci : c = to
  · rw [if_pos hci] at hAe
    subst hAe
    subst hci
    obtain rfl : m = c := by omega
    go_wp2_with fail
    go_region_law ((go_simp; go_at_call 31; refine (HCC.out _ _ rfl (by simp)).mono ?_; rintro e w3 ⟨A3, c3, rfl, own, F3, kc, kz⟩))
    all_goals go_wp2_with fail
    all_goals go_ret
    all_goals have hrd3 : RdL w3 (S.take m ++ ([(⟨bA, bn, bc⟩ : Bl)] ++ S.drop m)) (M.take m ++ ([L.getD i []] ++ M.drop m)) := ((X.out.2.1.take m).frm F3 (fun _ _ _ h => h)).both ((one_rd (hb2.frmN F3)).both ((X.out.2.1.drop m).frm F3 (fun _ _ _ h => h)))
    all_goals obtain ⟨q1, q2, q3⟩ := way_row (k := k2) (B := B) (L' := M.take m ++ ([L.getD i []] ++ M.drop m)) X.out.1 F3 own (by simp; rw [X.out.2.2.1]; omega) (by omega) (by have := X.out.2.2.2.1.size; have := HB.out; omega) (Nat.le_refl _) hrd3
    all_goals refine ⟨rfl, ⟨_, q1, .inr fun x hx => ?_⟩, X.out.2.2.2.1.then q3 (fun x hx => .inl hx)⟩
    all_goals exact Nat.le_trans X.out.2.2.2.1.size (own_blk own hx).1
  · rw [if_neg hci] at hAe
    go_wp2_with fail
    go_region_law ((go_simp; go_at_call 31; refine (HCC.out _ _ rfl (by rw [← hAe])).mono ?_; rintro e w3 ⟨A3, c3, rfl, own, F3, kc, kz⟩))
    all_goals go_wp2_with fail
    all_goals go_ret
    all_goals have hrd3 : RdL w3 (S.take to ++ ([(⟨bA, bn, bc⟩ : Bl)] ++ S.drop to)) (M.take to ++ ([L.getD i []] ++ M.drop to)) := ((X.out.2.1.take to).frm F3 (fun _ _ _ h => h)).both ((one_rd (hb2.frmN F3)).both ((X.out.2.1.drop to).frm F3 (fun _ _ _ h => h)))
    all_goals obtain ⟨q1, q2, q3⟩ := way_row (k := k2) (B := B) (L' := M.take to ++ ([L.getD i []] ++ M.drop to)) X.out.1 F3 own (by simp; rw [X.out.2.2.1]; omega) (by omega) (by have := X.out.2.2.2.1.size; have := HB.out; omega) (Nat.le_refl _) hrd3
    all_goals refine ⟨rfl, ⟨_, q1, .inr fun x hx => ?_⟩, X.out.2.2.2.1.then q3 (fun x hx => .inl hx)⟩
    all_goals exact Nat.le_trans X.out.2.2.2.1.size (own_blk own hx).1
end Go.Proofs.Ytbhkhabkkghapaa.A

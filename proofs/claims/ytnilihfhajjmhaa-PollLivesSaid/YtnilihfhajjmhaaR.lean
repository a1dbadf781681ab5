/- What the document's poller does: Sum, Ask. -/
import Derived.Test.YtnilihfhajjmhaaG
import Derived.Test.YtnilihfhajjmhaaL
import Derived.Deep.QuietTactic
namespace Go.Proofs.Ytnilihfhajjmhaa.A
open Go.RowKit Go.Proofs.Ytnilihfhajjmhaa.K
set_option linter.unusedVariables false
set_option linter.unusedSimpArgs false

/-- The document's poller: two limits, what was sent since in a list, whether it was told. -/
def IsR (base : Nat) (w : World) (g : Nat) (P B : Int) (L : List Int) (t : Bool) : Prop :=
  ∃ v, Blk w g #[.int .i64 P, .int .i64 B, v, .bool t] 40 ∧ w.ownsRow base 3 1 v L.length (L.map (Value.int .i64))

def sumL : List Int → Int
  | [] => 0
  | x :: l => x + sumL l
theorem sumL_snoc (l : List Int) (x : Int) : sumL (l ++ [x]) = sumL l + x := by
  induction l with
  | nil => simp [sumL]
  | cons y l ih => simp only [List.cons_append, sumL, ih]; omega
theorem sumL_take (l : List Int) (k : Nat) (h : k < l.length) : sumL (l.take (k + 1)) = sumL (l.take k) + l.getD k 0 := by
  rw [List.take_succ_eq_append_getElem h, sumL_snoc, List.getD_eq_getElem?_getD, List.getElem?_eq_getElem h]; rfl
/-- All between 0 and 4000. -/
def Small (L : List Int) : Prop := ∀ x ∈ L, 0 ≤ x ∧ x ≤ 4000
theorem small_sum (L : List Int) (h : Small L) : 0 ≤ sumL L ∧ sumL L ≤ 4000 * L.length := by
  induction L with
  | nil => simp [sumL]
  | cons x l ih =>
    have := ih (fun y hy => h y (by simp [hy]))
    have := h x (by simp)
    simp only [sumL, List.length_cons]; omega
theorem small_take (L : List Int) (k : Nat) (h : Small L) : Small (L.take k) := fun x hx => h x (List.mem_of_mem_take hx)

set_option maxHeartbeats 1000000 in
theorem sum_any (base : Nat) (w : World) (g : Nat) (P B : Int) (L : List Int) (t : Bool) (h : IsR base w g P B L t) (hs : Small L) (hl : L.length ≤ 1000) :
    Calls Try.prog 14 #[.pointer (some ⟨g, 0, none⟩)] w fun e w' => e = .returned (.int .i64 (sumL L)) ∧ w' = w := by
  obtain ⟨v, hb, ho⟩ := h
  obtain ⟨A, c, rfl, hmx, hc⟩ := own_cells ho
  have h2 : w.cell? ⟨g, 2, none⟩ = some (.slice A L.length c) := hb.cell 2
  clear hb ho
  go_enter Try.func14, Try.ntmps14
  go_wp2
  go_loop [3, 4] (fun s i => ∃ k : Nat, k ≤ L.length ∧ i = .int .i64 k ∧ s = .int .i64 (sumL (L.take k))) (fun _ i => L.length - (intOf i).toNat)
  case atStart => exact ⟨0, Nat.zero_le _, rfl, rfl⟩
  case round =>
    obtain ⟨k, hk, rfl, rfl⟩ := hrel
    by_cases hlt : k < L.length
    · obtain ⟨ad, rfl, hcell⟩ := hc k hlt
      have hsum := sumL_take L k hlt
      have hb1 := small_sum _ (small_take L k hs)
      have hlen : (L.take k).length ≤ k := List.length_take_le _ _
      have hx : 0 ≤ L.getD k 0 ∧ L.getD k 0 ≤ 4000 := by
        rw [List.getD_eq_getElem?_getD, List.getElem?_eq_getElem hlt]
        exact hs _ (List.getElem_mem _)
      generalize hz : L.getD k 0 = z at *
      have HZ := Lib.hid hz
      have HS := Lib.hid hsum
      clear hz hsum hc
      generalize sumL (L.take k) = s0 at *
      go_wp2
      go_round
      case rel => exact ⟨k + 1, by omega, by go_num, by rw [HS.out]⟩
      case measure => simp [intOf]; omega
    · have hkk : k = L.length := by omega
      go_wp2
      go_ret
      exact ⟨rfl, rfl⟩

theorem IsR.drewN {base : Nat} {w : World} {g : Nat} {P B : Int} {L : List Int} {t : Bool} (h : IsR base w g P B L t) (n : Nat) : IsR base (w.drewN n) g P B L t := by
  obtain ⟨v, hb, ho⟩ := h
  exact ⟨v, hb, ho⟩
theorem IsR.alloc {base : Nat} {w : World} {g : Nat} {P B : Int} {L : List Int} {t : Bool} (h : IsR base w g P B L t) (o : Obj) : IsR base (w.alloc o) g P B L t := by
  obtain ⟨v, hb, ho⟩ := h
  exact ⟨v, hb.alloc o, ho.alloc o⟩
theorem IsR.frm {base : Nat} {w w' : World} {g : Nat} {P B : Int} {L : List Int} {t : Bool} {S : Nat → Prop} (h : IsR base w g P B L t) (hf : Frm S w w') (hS : ∀ k cs, (Blk w k cs 40 ∨ Blk w k cs 3) → ¬ S k) : IsR base w' g P B L t := by
  obtain ⟨v, hb, ho⟩ := h
  exact ⟨v, hf.blk hb (hS g _ (.inl hb)), own_frm ho hf (fun k cs hk => hS k cs (.inr hk))⟩

set_option maxHeartbeats 1000000 in
/-- It does not ask. -/
theorem rask_no (base : Nat) (w : World) (g : Nat) (P B : Int) (L : List Int) (h : IsR base w g P B L false) (hs : Small L) (hl : L.length ≤ 1000) (h1 : (L.length : Int) < P) (h2 : sumL L < B) :
    Calls Try.prog 12 #[.pointer (some ⟨g, 0, none⟩), .bool false, .bool false] w fun e w' => e = .returned (.bool false) ∧ IsR base w' g P B L false ∧ Frm No w w' := by
  obtain ⟨v, hb, ho⟩ := id h
  obtain ⟨A, c, rfl, hmx, hc⟩ := own_cells ho
  have c0 : w.cell? ⟨g, 0, none⟩ = _ := hb.cell 0
  have c1 : w.cell? ⟨g, 1, none⟩ = _ := hb.cell 1
  have c2 : w.cell? ⟨g, 2, none⟩ = _ := hb.cell 2
  have c3 : w.cell? ⟨g, 3, none⟩ = _ := hb.cell 3
  simp at c0 c1 c2 c3
  have d1 : decide (P ≤ (L.length : Int)) = false := by simp; omega
  have d2 : decide (B ≤ sumL L) = false := by simp; omega
  clear hb ho hc
  go_enter Try.func12, Try.ntmps12
  go_wp2_with fail
  go_quiet ((go_at_call 14; exact Calls.quiet_of_same (sum_any base _ g P B L false (by exact h) hs hl)))
  go_wp2
  go_ret
  exact ⟨rfl, h.drewN _, (Frm.refl _ _).drewN _⟩

set_option maxHeartbeats 4000000 in
/-- It asks. -/
theorem rask_yes (base : Nat) (w : World) (g : Nat) (P B : Int) (L : List Int) (em st t : Bool) (h : IsR base w g P B L t) (hs : Small L) (hl : L.length ≤ 1000) (hy : em = true ∨ st = true ∨ t = true ∨ P ≤ L.length ∨ B ≤ sumL L) :
    Calls Try.prog 12 #[.pointer (some ⟨g, 0, none⟩), .bool em, .bool st] w fun e w' => e = .returned (.bool true) ∧ IsR base w' g P B [] false ∧ Frm (· = g) w w' := by
  obtain ⟨v, hb, ho⟩ := id h
  obtain ⟨A, c, rfl, hmx, hc⟩ := own_cells ho
  have c0 : w.cell? ⟨g, 0, none⟩ = _ := hb.cell 0
  have c1 : w.cell? ⟨g, 1, none⟩ = _ := hb.cell 1
  have c2 : w.cell? ⟨g, 2, none⟩ = _ := hb.cell 2
  have c3 : w.cell? ⟨g, 3, none⟩ = _ := hb.cell 3
  have f2 := Blk.free hb 2
  have f3 := Blk.free hb 3
  simp at c0 c1 c2 c3
  clear hc
  have fin : ∀ nq, IsR base (((w.setCell ⟨g, 2, none⟩ (.slice none 0 0)).setCell ⟨g, 3, none⟩ (.bool false)).drewN nq) g P B [] false := fun nq => ⟨.slice none 0 0, (Blk.set (Blk.set hb 2 _) 3 _).drewN nq, World.ownsRow_nil _ _ _ _⟩
  clear hb ho
  by_cases h1 : (L.length : Int) < P
  · have d1 : decide (P ≤ (L.length : Int)) = false := by simp; omega
    by_cases h2 : sumL L < B
    · cases em <;> cases st <;> cases t <;> first | (exfalso; simp at hy; omega) | skip
      all_goals clear hy
      all_goals go_enter Try.func12, Try.ntmps12
      all_goals go_wp2_with fail
      all_goals go_quiet ((go_at_call 14; exact Calls.quiet_of_same (sum_any base _ g P B L _ (by exact h) hs hl)))
      all_goals go_wp2
      all_goals go_ret
      all_goals exact ⟨rfl, fin _, (((Frm.refl _ _).self _ _).self _ _).drewN _⟩
    · have d2 : decide (B ≤ sumL L) = true := by simp; omega
      cases em <;> cases st <;> cases t
      all_goals clear hy
      all_goals go_enter Try.func12, Try.ntmps12
      all_goals go_wp2_with fail
      all_goals go_quiet ((go_at_call 14; exact Calls.quiet_of_same (sum_any base _ g P B L _ (by exact h) hs hl)))
      all_goals go_wp2
      all_goals go_ret
      all_goals exact ⟨rfl, fin _, (((Frm.refl _ _).self _ _).self _ _).drewN _⟩
  · have d1 : decide (P ≤ (L.length : Int)) = true := by simp; omega
    cases em <;> cases st <;> cases t
    all_goals clear hy
    all_goals go_enter Try.func12, Try.ntmps12
    all_goals go_wp2_with fail
    all_goals go_quiet ((go_at_call 14; exact Calls.quiet_of_same (sum_any base _ g P B L _ (by exact h) hs hl)))
    all_goals go_wp2
    all_goals go_ret
    all_goals exact ⟨rfl, fin _, (((Frm.refl _ _).self _ _).self _ _).drewN _⟩
end Go.Proofs.Ytnilihfhajjmhaa.A

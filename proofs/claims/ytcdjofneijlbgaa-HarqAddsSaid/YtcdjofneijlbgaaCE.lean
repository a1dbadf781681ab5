/- A box in memory; what only asks it; Drop. -/
import Derived.Test.YtcdjofneijlbgaaCD
namespace Go.Proofs.Ytcdjofneijlbgaa.A
open Go.RowKit Go.Proofs.Ytcdjofneijlbgaa.K Go.Proofs.Ytcdjofneijlbgaa.F Go.Proofs.Ytcdjofneijlbgaa.N
set_option linter.unusedVariables false
set_option linter.unusedSimpArgs false

/-- What a process holds: points that were added up, of so many signals. -/
abbrev Held := List Pt × Nat
/-- A box: block g. -/
def IsBox (w : World) (g : Nat) (tries heard gone : Int) (st : Nat → Held) : Prop := ∃ cs : Array Value, Blk w g cs 52 ∧ cs.size = 19 ∧ cs[0]? = some (.int .i64 tries) ∧ cs[17]? = some (.int .i64 heard) ∧ cs[18]? = some (.int .i64 gone) ∧
  ∀ p, p < 8 → ∃ A c, cs[1 + p * 2]? = some (.slice A (st p).1.length c) ∧ cs[2 + p * 2]? = some (.int .i64 (st p).2) ∧ RdC w A (st p).1
theorem IsBox.frm {w w' : World} {S : Nat → Prop} {g : Nat} {tries heard gone : Int} {st : Nat → Held} (h : IsBox w g tries heard gone st) (f : Frm S w w') (hg : ¬ S g) (hS : ∀ x cs, Blk w x cs 61 → ¬ S x) : IsBox w' g tries heard gone st := by
  obtain ⟨cs, hb, h1, h2, h3, h4, h5⟩ := h
  refine ⟨cs, f.blk hb hg, h1, h2, h3, h4, fun p hp => ?_⟩
  obtain ⟨A, c, e1, e2, e3⟩ := h5 p hp
  exact ⟨A, c, e1, e2, e3.frm f hS⟩
theorem IsBox.frmN {w w' : World} {g : Nat} {tries heard gone : Int} {st : Nat → Held} (h : IsBox w g tries heard gone st) (f : Frm No w w') : IsBox w' g tries heard gone st := h.frm f (fun h => h) (fun _ _ _ h => h)
theorem IsBox.lt {w : World} {g : Nat} {tries heard gone : Int} {st : Nat → Held} (h : IsBox w g tries heard gone st) : g < w.heap.size := by
  obtain ⟨cs, hb, _⟩ := h
  exact hb.lt
/-- The cells, as a walk spells them. -/
theorem IsBox.cells {w : World} {g : Nat} {tries heard gone : Int} {st : Nat → Held} (h : IsBox w g tries heard gone st) {p : Nat} (hp : p < 8) : ∃ A c, RdC w A (st p).1 ∧
    w.cell? ⟨g, 1 + p * 2, none⟩ = some (.slice A (st p).1.length c) ∧ w.cell? ⟨g, 1 + p * 2 + 1, none⟩ = some (.int .i64 (st p).2) ∧
    w.frozen? ⟨g, 1 + p * 2, none⟩ = false ∧ w.frozen? ⟨g, 1 + p * 2 + 1, none⟩ = false := by
  obtain ⟨cs, hb, h1, h2, h3, h4, h5⟩ := h
  obtain ⟨A, c, e1, e2, e3⟩ := h5 p hp
  refine ⟨A, c, e3, by rw [hb.cell]; exact e1, ?_, hb.free _, hb.free _⟩
  rw [show (1 + p * 2 + 1) = 2 + p * 2 by omega, hb.cell]; exact e2
theorem IsBox.nums {w : World} {g : Nat} {tries heard gone : Int} {st : Nat → Held} (h : IsBox w g tries heard gone st) : w.cell? ⟨g, 0, none⟩ = some (.int .i64 tries) ∧ w.cell? ⟨g, 17, none⟩ = some (.int .i64 heard) ∧ w.cell? ⟨g, 18, none⟩ = some (.int .i64 gone) ∧ w.frozen? ⟨g, 17, none⟩ = false ∧ w.frozen? ⟨g, 18, none⟩ = false := by
  obtain ⟨cs, hb, h1, h2, h3, h4, h5⟩ := h
  exact ⟨by rw [hb.cell]; exact h2, by rw [hb.cell]; exact h3, by rw [hb.cell]; exact h4, hb.free _, hb.free _⟩
/-- One process holds something else. -/
def upd (st : Nat → Held) (p : Nat) (h : Held) : Nat → Held := fun q => if q = p then h else st q
theorem IsBox.put {w : World} {g : Nat} {tries heard gone : Int} {st : Nat → Held} (h : IsBox w g tries heard gone st) {p : Nat} (hp : p < 8) (A : Option Addr) (c m : Nat) (L : List Pt) (hL : RdC w A L) :
    IsBox ((w.setCell ⟨g, 1 + p * 2, none⟩ (.slice A L.length c)).setCell ⟨g, 1 + p * 2 + 1, none⟩ (.int .i64 m)) g tries heard gone (upd st p (L, m)) ∧
    Frm (fun x => x = g) w ((w.setCell ⟨g, 1 + p * 2, none⟩ (.slice A L.length c)).setCell ⟨g, 1 + p * 2 + 1, none⟩ (.int .i64 m)) := by
  obtain ⟨cs, hb, h1, h2, h3, h4, h5⟩ := h
  have F : Frm (fun x => x = g) w ((w.setCell ⟨g, 1 + p * 2, none⟩ (.slice A L.length c)).setCell ⟨g, 1 + p * 2 + 1, none⟩ (.int .i64 m)) := ((Frm.refl (fun x => x = g) w).self (1 + p * 2) _).self (1 + p * 2 + 1) _
  have hS : ∀ x cs, Blk w x cs 61 → ¬ (x = g) := fun x cs hx e => by
    subst e
    exact Blk.ne hx hb (by decide) rfl
  refine ⟨⟨_, (hb.set (1 + p * 2) _).set (1 + p * 2 + 1) _, by simp [h1], ?_, ?_, ?_, fun q hq => ?_⟩, F⟩
  · rw [Array.getElem?_setIfInBounds, Array.getElem?_setIfInBounds, if_neg (by omega), if_neg (by omega)]; exact h2
  · rw [Array.getElem?_setIfInBounds, Array.getElem?_setIfInBounds, if_neg (by omega), if_neg (by omega)]; exact h3
  · rw [Array.getElem?_setIfInBounds, Array.getElem?_setIfInBounds, if_neg (by omega), if_neg (by omega)]; exact h4
  · by_cases hqp : q = p
    · subst hqp
      refine ⟨A, c, ?_, ?_, ?_⟩
      · rw [Array.getElem?_setIfInBounds, if_neg (by omega), Array.getElem?_setIfInBounds, if_pos rfl, if_pos (by omega)]
        unfold upd; rw [if_pos rfl]
      · rw [Array.getElem?_setIfInBounds, if_pos (by omega), if_pos (by simp [h1]; omega)]
        unfold upd; rw [if_pos rfl]
      · unfold upd; rw [if_pos rfl]
        exact hL.frm F hS
    · obtain ⟨A2, c2, e1, e2, e3⟩ := h5 q hq
      refine ⟨A2, c2, ?_, ?_, ?_⟩
      · rw [Array.getElem?_setIfInBounds, if_neg (by omega), Array.getElem?_setIfInBounds, if_neg (by omega), e1]
        unfold upd; rw [if_neg hqp]
      · rw [Array.getElem?_setIfInBounds, if_neg (by omega), Array.getElem?_setIfInBounds, if_neg (by omega), e2]
        unfold upd; rw [if_neg hqp]
      · unfold upd; rw [if_neg hqp]
        exact e3.frm F hS
theorem IsBox.heard {w : World} {g : Nat} {tries heard gone : Int} {st : Nat → Held} (h : IsBox w g tries heard gone st) (v : Int) :
    IsBox (w.setCell ⟨g, 17, none⟩ (.int .i64 v)) g tries v gone st ∧ Frm (fun x => x = g) w (w.setCell ⟨g, 17, none⟩ (.int .i64 v)) := by
  obtain ⟨cs, hb, h1, h2, h3, h4, h5⟩ := h
  have F : Frm (fun x => x = g) w (w.setCell ⟨g, 17, none⟩ (.int .i64 v)) := (Frm.refl (fun x => x = g) w).self 17 _
  refine ⟨⟨_, hb.set 17 _, by simp [h1], ?_, ?_, ?_, fun q hq => ?_⟩, F⟩
  · rw [Array.getElem?_setIfInBounds, if_neg (by omega)]; exact h2
  · rw [Array.getElem?_setIfInBounds, if_pos rfl, if_pos (by omega)]
  · rw [Array.getElem?_setIfInBounds, if_neg (by omega)]; exact h4
  · obtain ⟨A2, c2, e1, e2, e3⟩ := h5 q hq
    refine ⟨A2, c2, ?_, ?_, e3.frm F fun x cs hx e => by subst e; exact Blk.ne hx hb (by decide) rfl⟩
    · rw [Array.getElem?_setIfInBounds, if_neg (by omega)]; exact e1
    · rw [Array.getElem?_setIfInBounds, if_neg (by omega)]; exact e2
theorem IsBox.gone {w : World} {g : Nat} {tries heard gone : Int} {st : Nat → Held} (h : IsBox w g tries heard gone st) (v : Int) :
    IsBox (w.setCell ⟨g, 18, none⟩ (.int .i64 v)) g tries heard v st ∧ Frm (fun x => x = g) w (w.setCell ⟨g, 18, none⟩ (.int .i64 v)) := by
  obtain ⟨cs, hb, h1, h2, h3, h4, h5⟩ := h
  have F : Frm (fun x => x = g) w (w.setCell ⟨g, 18, none⟩ (.int .i64 v)) := (Frm.refl (fun x => x = g) w).self 18 _
  refine ⟨⟨_, hb.set 18 _, by simp [h1], ?_, ?_, ?_, fun q hq => ?_⟩, F⟩
  · rw [Array.getElem?_setIfInBounds, if_neg (by omega)]; exact h2
  · rw [Array.getElem?_setIfInBounds, if_neg (by omega)]; exact h3
  · rw [Array.getElem?_setIfInBounds, if_pos rfl, if_pos (by omega)]
  · obtain ⟨A2, c2, e1, e2, e3⟩ := h5 q hq
    refine ⟨A2, c2, ?_, ?_, e3.frm F fun x cs hx e => by subst e; exact Blk.ne hx hb (by decide) rfl⟩
    · rw [Array.getElem?_setIfInBounds, if_neg (by omega)]; exact e1
    · rw [Array.getElem?_setIfInBounds, if_neg (by omega)]; exact e2
def st0 : Nat → Held := fun _ => ([], 0)
theorem RdC.nil (w : World) (A : Option Addr) : RdC w A [] := fun j hj => absurd hj (by simp)
/-- New. -/
theorem new_out (w : World) (t : Int) (ht : t < 1 ∨ 16 < t) : Calls Try.prog 7 #[.int .i64 t] w fun e w' => e = .returned (.tuple #[.pointer none, .int .i64 1]) ∧ w' = w := by
  go_enter Try.func7, Try.ntmps7
  rcases ht with ht | ht
  · go_wp2_with fail
    go_ret2
    exact ⟨rfl, rfl⟩
  · go_wp2_with fail
    go_ret2
    exact ⟨rfl, rfl⟩
theorem new_ok (w : World) (t : Int) (h1 : 1 ≤ t) (h2 : t ≤ 16) : Calls Try.prog 7 #[.int .i64 t] w fun e w' => e = .returned (.tuple #[.pointer (some ⟨w.heap.size, 0, none⟩), .int .i64 0]) ∧ IsBox w' w.heap.size t 0 0 st0 ∧ Frm No w w' := by
  go_enter Try.func7, Try.ntmps7
  go_wp2_with fail
  go_ret2
  refine ⟨rfl, ⟨_, Blk.new _ _ _, rfl, rfl, rfl, rfl, fun p hp => ⟨none, 0, ?_, ?_, RdC.nil _ _⟩⟩, (Frm.refl No w).alloc _⟩
  · obtain rfl | rfl | rfl | rfl | rfl | rfl | rfl | rfl : p = 0 ∨ p = 1 ∨ p = 2 ∨ p = 3 ∨ p = 4 ∨ p = 5 ∨ p = 6 ∨ p = 7 := by omega
    all_goals rfl
  · obtain rfl | rfl | rfl | rfl | rfl | rfl | rfl | rfl : p = 0 ∨ p = 1 ∨ p = 2 ∨ p = 3 ∨ p = 4 ∨ p = 5 ∨ p = 6 ∨ p = 7 := by omega
    all_goals rfl
def askE (p : Int) : Int := if p < 0 ∨ 8 ≤ p then 1 else 0
theorem ask_ok (w : World) (g : Nat) (tries heard gone : Int) (st : Nat → Held) (p : Int) (h : IsBox w g tries heard gone st) (ht : tries ≠ 0) : Calls Try.prog 18 #[.pointer (some ⟨g, 0, none⟩), .int .i64 p] w fun e w' => e = .returned (.int .i64 (askE p)) ∧ w' = w := by
  obtain ⟨k0, -, -, -, -⟩ := h.nums
  have h0 : (tries == 0) = false := by simpa using ht
  by_cases h1 : p < 0
  · have hE : askE p = 1 := if_pos (.inl h1)
    rw [hE]
    clear hE h ht
    go_enter Try.func18, Try.ntmps18
    go_wp2_with fail
    go_ret
    exact ⟨rfl, rfl⟩
  · by_cases h2 : 8 ≤ p
    · have hE : askE p = 1 := if_pos (.inr h2)
      rw [hE]
      clear hE h ht
      go_enter Try.func18, Try.ntmps18
      go_wp2_with fail
      go_ret
      exact ⟨rfl, rfl⟩
    · have hE : askE p = 0 := if_neg (by omega)
      rw [hE]
      clear hE h ht
      go_enter Try.func18, Try.ntmps18
      go_wp2_with fail
      go_ret
      exact ⟨rfl, rfl⟩
theorem ask_nil (w : World) (p : Int) : Calls Try.prog 18 #[.pointer none, .int .i64 p] w fun e w' => e = .returned (.int .i64 6) ∧ w' = w := by
  go_enter Try.func18, Try.ntmps18
  go_wp2_with fail
  go_ret
  exact ⟨rfl, rfl⟩
theorem ask_zero (w : World) (g : Nat) (heard gone : Int) (st : Nat → Held) (p : Int) (h : IsBox w g 0 heard gone st) : Calls Try.prog 18 #[.pointer (some ⟨g, 0, none⟩), .int .i64 p] w fun e w' => e = .returned (.int .i64 6) ∧ w' = w := by
  obtain ⟨k0, -, -, -, -⟩ := h.nums
  clear h
  go_enter Try.func18, Try.ntmps18
  go_wp2_with fail
  go_ret
  exact ⟨rfl, rfl⟩
/-- Tries. -/
theorem tries_in (w : World) (g : Nat) (tries heard gone : Int) (st : Nat → Held) (p : Nat) (h : IsBox w g tries heard gone st) (ht : tries ≠ 0) (hp : p < 8) : Calls Try.prog 14 #[.pointer (some ⟨g, 0, none⟩), .int .i64 (p : Int)] w fun e w' => e = .returned (.int .i64 (st p).2) ∧ w' = w := by
  have ha := ask_ok w g tries heard gone st (p : Int) h ht
  have hE : askE (p : Int) = 0 := if_neg (by omega)
  rw [hE] at ha
  obtain ⟨A, c, -, c0, c1, -, -⟩ := h.cells hp
  obtain ⟨m, hm⟩ : ∃ m, (st p).2 = m := ⟨_, rfl⟩
  rw [hm] at c1 ⊢
  have hl := h.lt
  have p0 : (0 : Int) ≤ (p : Int) := by omega
  have p1 : (p : Int) < 8 := by omega
  clear h hE c0 hm
  go_enter Try.func14, Try.ntmps14
  go_wp2_with fail
  refine ha.mono ?_
  rintro e w1 ⟨rfl, rfl⟩
  go_wp2_with fail
  go_ret
  exact ⟨rfl, rfl⟩
theorem tries_out (w : World) (q : Option Addr) (p E : Int) (h : Calls Try.prog 18 #[.pointer q, .int .i64 p] w fun e w' => e = .returned (.int .i64 E) ∧ w' = w) (hE : E ≠ 0) : Calls Try.prog 14 #[.pointer q, .int .i64 p] w fun e w' => e = .returned (.int .i64 0) ∧ w' = w := by
  have hb : (E != 0) = true := by simpa using hE
  go_enter Try.func14, Try.ntmps14
  go_wp2_with fail
  refine h.mono ?_
  rintro e w1 ⟨rfl, rfl⟩
  go_wp2_with fail
  go_ret
  exact ⟨rfl, rfl⟩
/-- Counts. -/
theorem counts_ok (w : World) (g : Nat) (tries heard gone : Int) (st : Nat → Held) (h : IsBox w g tries heard gone st) : Calls Try.prog 13 #[.pointer (some ⟨g, 0, none⟩)] w fun e w' => e = .returned (.tuple #[.int .i64 heard, .int .i64 gone]) ∧ Frm No w w' := by
  obtain ⟨-, k1, k2, -, -⟩ := h.nums
  have hl := h.lt
  clear h
  go_enter Try.func13, Try.ntmps13
  go_wp2_with fail
  go_quiet (fail)
  go_wp2_with fail
  go_ret2
  exact ⟨rfl, (Frm.refl _ _).drewN _⟩
theorem counts_nil (w : World) : Calls Try.prog 13 #[.pointer none] w fun e w' => e = .returned (.tuple #[.int .i64 0, .int .i64 0]) ∧ w' = w := by
  go_enter Try.func13, Try.ntmps13
  go_wp2_with fail
  go_ret2
  exact ⟨rfl, rfl⟩
/-- Drop. -/
theorem drop_in (w : World) (g : Nat) (tries heard gone : Int) (st : Nat → Held) (p : Nat) (h : IsBox w g tries heard gone st) (ht : tries ≠ 0) (hp : p < 8) : Calls Try.prog 9 #[.pointer (some ⟨g, 0, none⟩), .int .i64 (p : Int)] w fun e w' => e = .returned (.int .i64 0) ∧ IsBox w' g tries heard gone (upd st p ([], 0)) ∧ Frm (fun x => x = g) w w' := by
  have ha := ask_ok w g tries heard gone st (p : Int) h ht
  have hE : askE (p : Int) = 0 := if_neg (by omega)
  rw [hE] at ha
  obtain ⟨A, c, -, c0, c1, z0, z1⟩ := h.cells hp
  obtain ⟨m, hm⟩ : ∃ m, (st p).2 = m := ⟨_, rfl⟩
  obtain ⟨n, hn⟩ : ∃ n, (st p).1.length = n := ⟨_, rfl⟩
  rw [hm] at c1
  rw [hn] at c0
  have hl := h.lt
  have hput := h.put hp none 0 0 [] (RdC.nil _ _)
  have H := Lib.hid hput
  have p0 : (0 : Int) ≤ (p : Int) := by omega
  have p1 : (p : Int) < 8 := by omega
  have d3 : ∃ u, (w.setCell ⟨g, 1 + p * 2, none⟩ (.slice none 0 0)).cell? ⟨g, 1 + p * 2 + 1, none⟩ = some u := ⟨_, (World.cell?_setCell_other _ _ _ _ (by intro e; have := congrArg Addr.off e; simp at this)).trans c1⟩
  obtain ⟨u3, d3⟩ := d3
  have d2 : (w.setCell ⟨g, 1 + p * 2, none⟩ (.slice none 0 0)).frozen? ⟨g, 1 + p * 2 + 1, none⟩ = false := by simpa using z1
  clear h hE hm hput hn
  go_enter Try.func9, Try.ntmps9
  go_wp2_with fail
  refine ha.mono ?_
  rintro e w1 ⟨rfl, rfl⟩
  go_wp2_with fail
  go_ret
  exact ⟨rfl, H.out.1, H.out.2⟩
theorem drop_out (w : World) (q : Option Addr) (p E : Int) (h : Calls Try.prog 18 #[.pointer q, .int .i64 p] w fun e w' => e = .returned (.int .i64 E) ∧ w' = w) (hE : E ≠ 0) : Calls Try.prog 9 #[.pointer q, .int .i64 p] w fun e w' => e = .returned (.int .i64 E) ∧ w' = w := by
  have hb : (E == 0) = false := by simpa using hE
  go_enter Try.func9, Try.ntmps9
  go_wp2_with fail
  refine h.mono ?_
  rintro e w1 ⟨rfl, rfl⟩
  go_wp2_with fail
  go_ret
  exact ⟨rfl, rfl⟩
end Go.Proofs.Ytcdjofneijlbgaa.A

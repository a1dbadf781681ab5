/- Build: what lies in memory, step by step. -/
import Derived.Test.YtccaaldfccgncaaBP
namespace Go.Proofs.Ytccaaldfccgncaa.A
open Go.RowKit Go.Proofs.Ytccaaldfccgncaa.K
set_option linter.unusedVariables false
set_option linter.unusedSimpArgs false

/-- The piece, and the cell of the result. -/
structure PM (w wr : World) (g gr gp : Nat) (fi : Int) (vF vD : Value) (jD : Nat) (O : List (List Nat)) : Prop where
  p : Blk wr gp #[.int .i64 fi, vF, vD] 42
  r : Blk wr gr #[.int .i64 0, .slice none 0 0, .slice none 0 0] 42
  f : RowF wr w.heap.size vF O
  d : ∃ xs, wr.ownsRow w.heap.size 34 1 vD jD xs
  frm : Frm (fun x => x = g) w wr
  ne : gr ≠ gp
  lp : w.heap.size ≤ gp
  lr : w.heap.size ≤ gr
theorem PM.keep {w wr w' : World} {g gr gp jD : Nat} {fi : Int} {vF vD : Value} {O : List (List Nat)} {S : Nat → Prop} (h : PM w wr g gr gp fi vF vD jD O) (f : Frm S wr w') (hS : ∀ t, (t = 42 ∨ t = 24 ∨ t = 5 ∨ t = 34) → ∀ x cs, Blk wr x cs t → ¬ S x) (hl : ∀ x, S x → x = g ∨ w.heap.size ≤ x) : PM w w' g gr gp fi vF vD jD O := by
  obtain ⟨xs, hx⟩ := h.d
  exact ⟨f.blk h.p (hS 42 (by decide) _ _ h.p), f.blk h.r (hS 42 (by decide) _ _ h.r), h.f.frm f (hS 24 (by decide)) (hS 5 (by decide)), ⟨xs, own_frm hx f (hS 34 (by decide))⟩, h.frm.then f hl, h.ne, h.lp, h.lr⟩
theorem PM.keepN {w wr w' : World} {g gr gp jD : Nat} {fi : Int} {vF vD : Value} {O : List (List Nat)} (h : PM w wr g gr gp fi vF vD jD O) (f : Frm No wr w') : PM w w' g gr gp fi vF vD jD O := h.keep f (fun _ _ _ _ _ h => h) (fun _ h => h.elim)
/-- Behind a call that turned the queue alone. -/
theorem PM.keepQ {w wr w' : World} {g gr gp jD : Nat} {fi : Int} {vF vD : Value} {O : List (List Nat)} (h : PM w wr g gr gp fi vF vD jD O) (hg : ∃ cs, Blk wr g cs 64) (f : Frm (fun x => x = g) wr w') : PM w w' g gr gp fi vF vD jD O := by
  obtain ⟨cs', hb⟩ := hg
  refine h.keep f (fun t ht x cs hx e => ?_) (fun x hx => .inl hx)
  subst e
  exact Blk.ne hx hb (by rcases ht with rfl | rfl | rfl | rfl <;> decide) rfl
/-- The cell FI is stored. -/
theorem PM.setfi {w wr : World} {g gr gp jD : Nat} {fi : Int} {vF vD : Value} {O : List (List Nat)} (h : PM w wr g gr gp fi vF vD jD O) (fi' : Int) : PM w (wr.setCell ⟨gp, 0, none⟩ (.int .i64 fi')) g gr gp fi' vF vD jD O ∧ Frm (fun x => x = gp) wr (wr.setCell ⟨gp, 0, none⟩ (.int .i64 fi')) := by
  have F : Frm (fun x => x = gp) wr (wr.setCell ⟨gp, 0, none⟩ (.int .i64 fi')) := (Frm.refl (fun x => x = gp) wr).self 0 _
  obtain ⟨xs, hx⟩ := h.d
  have n : ∀ t, t ≠ 42 → ∀ x cs, Blk wr x cs t → ¬ (x = gp) := fun t ht x cs hx e => by subst e; exact Blk.ne hx h.p ht rfl
  exact ⟨⟨h.p.set 0 _, F.blk h.r h.ne, h.f.frm F (n 24 (by decide)) (n 5 (by decide)), ⟨xs, own_frm hx F (n 34 (by decide))⟩, h.frm.then F (fun x hx => .inr (by subst hx; exact h.lp)), h.ne, h.lp, h.lr⟩, F⟩
/-- A slice of bytes is appended to a row of them. -/
theorem rowF_told {w3 w4 : World} {B k6 c6 m : Nat} {F0 : List Fl} {A6 : Option Addr} {vo v4 : Value} {b : List Nat} (hm : F0.length = m) (own3 : (w3.alloc (.cells #[.slice A6 k6 c6] 24)).ownsRow B 24 1 vo m (F0.map Fl.val))
    (own4 : w4.ownsRow B 24 1 v4 (m + 1) (F0.map Fl.val ++ [.slice A6 k6 c6])) (hg : (w3.alloc (.cells #[.slice A6 k6 c6] 24)).grownBy w4 vo.ownBlock) (R : RowB w3 0 (.slice A6 k6 c6) b) (hk : b.length = k6) (rr : ∀ f ∈ F0, RowB w3 0 f.val f.bs) :
    RowF w4 B v4 (F0.map Fl.bs ++ [b]) ∧ Frm (fun x => vo.ownBlock = some x) w3 w4 ∧ (∀ t, t ≠ 24 → ∀ x cs, Blk w3 x cs t → ¬ (vo.ownBlock = some x)) ∧ ∀ x, vo.ownBlock = some x → B ≤ x := by
  subst hm
  have FA : Frm (fun x => vo.ownBlock = some x) w3 w4 := ((Frm.refl (fun x => vo.ownBlock = some x) w3).alloc _).grown hg (fun k e => .inl e)
  have nb : ∀ t, t ≠ 24 → ∀ x cs, Blk w3 x cs t → ¬ (vo.ownBlock = some x) := fun t ht x cs hx e => by
    obtain ⟨_, cs', hb⟩ := own_blk own3 e
    have hx' : Blk (w3.alloc (.cells #[.slice A6 k6 c6] 24)) x cs t := hx.alloc _
    exact Blk.ne hx' hb ht rfl
  refine ⟨⟨F0 ++ [⟨A6, c6, b⟩], by rw [List.map_append]; rfl, ?_, fun y hy => ?_⟩, FA, nb, fun x hx => (own_blk own3 hx).1⟩
  · rw [List.length_append, List.map_append]
    subst hk
    exact own4
  · rcases List.mem_append.1 hy with hy | hy
    · exact own_frm (rr y hy) FA (nb 5 (by decide))
    · rcases List.mem_singleton.1 hy with rfl
      subst hk
      exact own_frm R FA (nb 5 (by decide))
/-- A field is laid behind the fields. -/
theorem PM.field {w w3 w4 : World} {g gr gp jD k6 c6 m : Nat} {fi : Int} {vD vo v4 : Value} {O : List (List Nat)} {F0 : List Fl} {A6 : Option Addr} {b : List Nat} (h : PM w w3 g gr gp fi vo vD jD O)
    (hm : F0.length = m) (own3 : (w3.alloc (.cells #[.slice A6 k6 c6] 24)).ownsRow w.heap.size 24 1 vo m (F0.map Fl.val))
    (own4 : w4.ownsRow w.heap.size 24 1 v4 (m + 1) (F0.map Fl.val ++ [.slice A6 k6 c6])) (hg : (w3.alloc (.cells #[.slice A6 k6 c6] 24)).grownBy w4 vo.ownBlock) (R : RowB w3 0 (.slice A6 k6 c6) b) (hk : b.length = k6) (rr : ∀ f ∈ F0, RowB w3 0 f.val f.bs) (hO : F0.map Fl.bs = O) :
    PM w (w4.setCell ⟨gp, 1, none⟩ v4) g gr gp fi v4 vD jD (O ++ [b]) ∧ Frm (fun x => x = gp ∨ vo.ownBlock = some x) w3 (w4.setCell ⟨gp, 1, none⟩ v4) ∧ (∀ t, t ≠ 24 → t ≠ 42 → ∀ x cs, Blk w3 x cs t → ¬ (x = gp ∨ vo.ownBlock = some x)) ∧ Blk w4 gp #[.int .i64 fi, vo, vD] 42 := by
  obtain ⟨rf, FA, nb, hB⟩ := rowF_told hm own3 own4 hg R hk rr
  have p4 := FA.blk h.p (nb 42 (by decide) _ _ h.p)
  have F5 : Frm (fun x => x = gp) w4 (w4.setCell ⟨gp, 1, none⟩ v4) := (Frm.refl (fun x => x = gp) w4).self 1 _
  have n4 : ∀ t, t ≠ 42 → ∀ x cs, Blk w4 x cs t → ¬ (x = gp) := fun t ht x cs hx e => by subst e; exact Blk.ne hx p4 ht rfl
  obtain ⟨xs, hx⟩ := h.d
  have FF : Frm (fun x => x = gp ∨ vo.ownBlock = some x) w3 (w4.setCell ⟨gp, 1, none⟩ v4) := (FA.mono (fun _ h => .inr h) : Frm (fun x => x = gp ∨ vo.ownBlock = some x) w3 w4).trans (F5.mono (fun _ h => .inl h))
  refine ⟨⟨p4.set 1 _, F5.blk (FA.blk h.r (nb 42 (by decide) _ _ h.r)) h.ne, by rw [← hO]; exact rf.frm F5 (n4 24 (by decide)) (n4 5 (by decide)), ⟨xs, own_frm (own_frm hx FA (nb 34 (by decide))) F5 (n4 34 (by decide))⟩, h.frm.then FF (fun x hx => .inr ?_), h.ne, h.lp, h.lr⟩, FF, fun t h1 h2 x cs hx e => ?_, p4⟩
  · rcases hx with rfl | hx
    · exact h.lp
    · exact hB x hx
  · rcases e with rfl | e
    · exact Blk.ne hx h.p h2 rfl
    · exact nb t h1 x cs hx e
/-- A number is laid behind the numbers. -/
theorem PM.num {w w3 w4 : World} {g gr gp jD : Nat} {fi id : Int} {vF vD v4 : Value} {O : List (List Nat)} {xs : List Value} (h : PM w w3 g gr gp fi vF vD jD O)
    (own3 : (w3.alloc (.cells #[.int .u64 id] 34)).ownsRow w.heap.size 34 1 vD jD xs) (own4 : w4.ownsRow w.heap.size 34 1 v4 (jD + 1) (xs ++ [.int .u64 id])) (hg : (w3.alloc (.cells #[.int .u64 id] 34)).grownBy w4 vD.ownBlock) :
    PM w (w4.setCell ⟨gp, 2, none⟩ v4) g gr gp fi vF v4 (jD + 1) O ∧ Frm (fun x => x = gp ∨ vD.ownBlock = some x) w3 (w4.setCell ⟨gp, 2, none⟩ v4) ∧ (∀ t, t ≠ 34 → t ≠ 42 → ∀ x cs, Blk w3 x cs t → ¬ (x = gp ∨ vD.ownBlock = some x)) ∧ Blk w4 gp #[.int .i64 fi, vF, vD] 42 := by
  have FA : Frm (fun x => vD.ownBlock = some x) w3 w4 := ((Frm.refl (fun x => vD.ownBlock = some x) w3).alloc _).grown hg (fun k e => .inl e)
  have nb : ∀ t, t ≠ 34 → ∀ x cs, Blk w3 x cs t → ¬ (vD.ownBlock = some x) := fun t ht x cs hx e => by
    obtain ⟨_, cs', hb⟩ := own_blk own3 e
    have hx' : Blk (w3.alloc (.cells #[.int .u64 id] 34)) x cs t := hx.alloc _
    exact Blk.ne hx' hb ht rfl
  have p4 := FA.blk h.p (nb 42 (by decide) _ _ h.p)
  have F5 : Frm (fun x => x = gp) w4 (w4.setCell ⟨gp, 2, none⟩ v4) := (Frm.refl (fun x => x = gp) w4).self 2 _
  have n4 : ∀ t, t ≠ 42 → ∀ x cs, Blk w4 x cs t → ¬ (x = gp) := fun t ht x cs hx e => by subst e; exact Blk.ne hx p4 ht rfl
  have FF : Frm (fun x => x = gp ∨ vD.ownBlock = some x) w3 (w4.setCell ⟨gp, 2, none⟩ v4) := (FA.mono (fun _ h => .inr h) : Frm (fun x => x = gp ∨ vD.ownBlock = some x) w3 w4).trans (F5.mono (fun _ h => .inl h))
  refine ⟨⟨p4.set 2 _, F5.blk (FA.blk h.r (nb 42 (by decide) _ _ h.r)) h.ne, (h.f.frm FA (nb 24 (by decide)) (nb 5 (by decide))).frm F5 (n4 24 (by decide)) (n4 5 (by decide)), ⟨_, own_frm own4 F5 (n4 34 (by decide))⟩, h.frm.then FF (fun x hx => .inr ?_), h.ne, h.lp, h.lr⟩, FF, fun t h1 h2 x cs hx e => ?_, p4⟩
  · rcases hx with rfl | hx
    · exact h.lp
    · exact (own_blk own3 hx).1
  · rcases e with rfl | e
    · exact Blk.ne hx h.p h2 rfl
    · exact nb t h1 x cs hx e
theorem fi_stays {tk j : Nat} (h : ¬ 0 < tkj tk j) : fiOf tk j = fiOf tk (j + 1) := by
  unfold fiOf tkj at *
  by_cases h0 : j = 0
  · rw [if_pos h0] at h
    simp [h0, h]
  · simp [h0]
theorem fi_turns {tk j : Nat} (h : 0 < tkj tk j) : fiOf tk j = 0 ∧ fiOf tk (j + 1) = 2 ∧ j = 0 := by
  unfold fiOf tkj at *
  by_cases h0 : j = 0
  · rw [if_pos h0] at h
    simp [h0, h]
  · rw [if_neg h0] at h
    omega
theorem PB.pm {w wr : World} {g gr gp : Nat} {rm : Int} {T : List Tx} {tk : Nat} {ls byt : Int} {room j used : Nat} {vF vD : Value} (h : PB w wr g gr gp rm T tk ls byt room j used vF vD) : PM w wr g gr gp (fiOf tk j : Nat) vF vD j (pre T tk j) := ⟨h.p, h.r, h.f, h.d, h.frm, h.ne, h.lp, h.lr⟩
/-- One text more was taken whole. -/
theorem PB.next {w wr w' : World} {g gr gp : Nat} {rm : Int} {T : List Tx} {tk : Nat} {ls byt : Int} {room j used k : Nat} {vF vD vF' vD' : Value} (h : PB w wr g gr gp rm T tk ls byt room j used vF vD)
    (m : PM w w' g gr gp (fiOf tk (j + 1) : Nat) vF' vD' (j + 1) (pre T tk j ++ [chk T tk j])) (q : IsQ w' g rm (T.drop (j + 1)) 0 ls (byt - used - k)) (hk : (chk T tk j).length = k) (hj : j < T.length) (h23 : j ≤ 23) (hL : used + sizeL j + k ≤ room) :
    PB w w' g gr gp rm T tk ls byt room (j + 1) (used + k) vF' vD' :=
  ⟨by rw [show byt - ((used + k : Nat) : Int) = byt - used - k by push_cast; omega]; exact q, m.p, m.r, by rw [pre_succ]; exact m.f, m.d, m.frm, by rw [pre_succ, tot_push, hk, h.u], by omega, fun _ => by rw [Nat.add_sub_cancel]; omega, by omega, by omega, h.ne, h.lp, h.lr⟩
/-- The last one was cut. -/
theorem PB.last {w wr w' : World} {g gr gp : Nat} {rm : Int} {T : List Tx} {tk : Nat} {ls byt : Int} {room j used k : Nat} {vF vD vF' vD' : Value} (h : PB w wr g gr gp rm T tk ls byt room j used vF vD) (jD : Nat)
    (m : PM w w' g gr gp ((fiOf tk (j + 1) + 1 : Nat) : Int) vF' vD' jD (pre T tk j ++ [(chk T tk j).take k])) (q : IsQ w' g rm (T.drop j) (tkj tk j + k) ls (byt - used - k)) (k1 : 1 ≤ k) (hk : k < (chk T tk j).length) (hj : j < T.length) (h23 : j ≤ 23) (hL : used + sizeL j + k = room) :
    PZ w w' g gr gp rm T tk ls byt room (fiOf tk (j + 1) + 1) vF' vD' (pre T tk j ++ [(chk T tk j).take k]) (T.drop j) (tkj tk j + k) := by
  have ht : tot (pre T tk j ++ [(chk T tk j).take k]) = used + k := by rw [tot_push, List.length_take, h.u]; omega
  obtain ⟨xs, hx⟩ := m.d
  refine ⟨by rw [ht, show byt - ((used + k : Nat) : Int) = byt - used - k by push_cast; omega]; exact q, m.p, m.r, m.f, ⟨_, xs, hx⟩, m.frm, ?_, h.ne, h.lp, h.lr⟩
  have := Cut.cut (room := room) hj (by omega) k1 hk (by rw [← h.u]; omega)
  exact this
end Go.Proofs.Ytccaaldfccgncaa.A

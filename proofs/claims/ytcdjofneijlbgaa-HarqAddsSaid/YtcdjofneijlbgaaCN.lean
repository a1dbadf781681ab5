/- The document's box in memory; sums of signals. -/
import Derived.Test.YtcdjofneijlbgaaCM
namespace Go.Proofs.Ytcdjofneijlbgaa.A
open Go.RowKit Go.Proofs.Ytcdjofneijlbgaa.K Go.Proofs.Ytcdjofneijlbgaa.F Go.Proofs.Ytcdjofneijlbgaa.N
set_option linter.unusedVariables false
set_option linter.unusedSimpArgs false

theorem ext_getD {L M : List Pt} (h : L.length = M.length) (he : ∀ i, i < L.length → L.getD i (0, 0) = M.getD i (0, 0)) : L = M := by
  refine List.ext_getElem h fun i h1 h2 => ?_
  have := he i h1
  rwa [List.getD_eq_getElem?_getD, List.getD_eq_getElem?_getD, List.getElem?_eq_getElem h1, List.getElem?_eq_getElem h2] at this
theorem mixL_at (L M : List Pt) : ∀ n i, i < n → (mixL L M n).getD i (0, 0) = ((L.getD i (0, 0)).1 + (M.getD i (0, 0)).1, (L.getD i (0, 0)).2 + (M.getD i (0, 0)).2)
  | 0, i, h => absurd h (by omega)
  | n + 1, i, h => by
    have hl := mixL_len L M n
    unfold mixL
    rw [List.getD_eq_getElem?_getD]
    by_cases hi : i < n
    · rw [List.getElem?_append_left (by omega), ← List.getD_eq_getElem?_getD]; exact mixL_at L M n i hi
    · have : i = n := by omega
      subst this
      rw [List.getElem?_append_right (by omega), hl, Nat.sub_self]; rfl
theorem ptS_app (l : List (List Pt)) (L : List Pt) (i : Nat) : ∀ k, k ≤ l.length → ptS (l ++ [L]) i k = ptS l i k
  | 0, _ => rfl
  | k + 1, h => by
    unfold ptS
    rw [ptS_app l L i k (by omega)]
    have : (l ++ [L]).getD k [] = l.getD k [] := by rw [List.getD_eq_getElem?_getD, List.getElem?_append_left (by omega), ← List.getD_eq_getElem?_getD]
    rw [this]
theorem app_last (l : List (List Pt)) (L : List Pt) : (l ++ [L]).getD l.length [] = L := by
  rw [List.getD_eq_getElem?_getD, List.getElem?_append_right (Nat.le_refl _), Nat.sub_self]; rfl
theorem sumP_snoc (l : List (List Pt)) (L : List Pt) (K : Nat) : sumP (l ++ [L]) K = mixL (sumP l K) L K := by
  refine ext_getD (by rw [sumP_len, mixL_len]) fun i hi => ?_
  rw [sumP_len] at hi
  rw [sumP_at _ _ _ hi, mixL_at _ _ _ _ hi, sumP_at _ _ _ hi, List.length_append, List.length_singleton]
  show ((ptS (l ++ [L]) i l.length).1 + (((l ++ [L]).getD l.length []).getD i (0, 0)).1, (ptS (l ++ [L]) i l.length).2 + (((l ++ [L]).getD l.length []).getD i (0, 0)).2) = _
  rw [ptS_app l L i _ (Nat.le_refl _), app_last]
theorem sumP_one (L : List Pt) : sumP [L] L.length = L := by
  refine ext_getD (sumP_len _ _) fun i hi => ?_
  rw [sumP_len] at hi
  rw [sumP_at _ _ _ hi]
  show ((0 : Int) + (L.getD i (0, 0)).1, (0 : Int) + (L.getD i (0, 0)).2) = _
  rw [Int.zero_add, Int.zero_add]
/-- What is added up, and the signals of which it is the sum. -/
def Link (h : Held) (l : List (List Pt)) : Prop := h.2 = l.length ∧ Lim1 l ∧ (∀ j, j < l.length → (l.getD j []).length = h.1.length) ∧ (l = [] → h.1 = []) ∧ (l ≠ [] → h.1 = sumP l h.1.length) ∧ h.1.length ≤ 16392
theorem link0 : Link ([], 0) [] := ⟨rfl, fun l hl => by simp at hl, fun j hj => absurd hj (by simp), fun _ => rfl, fun h => absurd rfl h, by simp⟩
theorem lim1_app {l : List (List Pt)} {L : List Pt} (h : Lim1 l) (hL : Low L) : Lim1 (l ++ [L]) := fun x hx => by
  rcases List.mem_append.1 hx with hx | hx
  · exact h x hx
  · rw [List.mem_singleton.1 hx]; exact fun q hq => hL q hq
/-- The signals that would be held. -/
def nextL (l : List (List Pt)) (f : Bool) (L : List Pt) : List (List Pt) := (if f = true then [] else l) ++ [L]
theorem nextL_ne (l : List (List Pt)) (f : Bool) (L : List Pt) : nextL l f L ≠ [] := by unfold nextL; simp
theorem link_next {h : Held} {l : List (List Pt)} {f : Bool} {L : List Pt} (hl : Link h l) (hW : Whole L) (hs : ¬ isSt h f L) : Link (nextH h f L) (nextL l f L) := by
  obtain ⟨h1, h2, h3, h4, h5, h6⟩ := hl
  unfold nextH nextL
  by_cases hf : f = true
  · rw [if_pos hf, if_pos hf]
    refine ⟨rfl, lim1_app (fun x hx => by simp at hx) hW.2, fun j hj => ?_, fun e => by simp at e, fun _ => ?_, hW.1⟩
    · have : j = 0 := by simp at hj; omega
      subst this; rfl
    · exact (sumP_one L).symm
  · rw [if_neg hf, if_neg hf]
    have hff : f = false := by simpa using hf
    have hS : h.2 ≠ 0 ∧ h.1.length = L.length := by
      constructor
      · exact fun e => hs ⟨hff, .inl e⟩
      · exact Classical.byContradiction fun e => hs ⟨hff, .inr e⟩
    have hne : l ≠ [] := fun e => hS.1 (by rw [h1, e]; rfl)
    refine ⟨by simp [h1], lim1_app h2 hW.2, fun j hj => ?_, fun e => by simp at e, fun _ => ?_, by rw [mixL_len]; exact hW.1⟩
    · rw [mixL_len]
      by_cases hj2 : j < l.length
      · rw [List.getD_eq_getElem?_getD, List.getElem?_append_left hj2, ← List.getD_eq_getElem?_getD, h3 j hj2]; exact hS.2
      · have : j = l.length := by rw [List.length_append, List.length_singleton] at hj; omega
        subst this
        rw [app_last]
    · show mixL h.1 L L.length = sumP (l ++ [L]) (mixL h.1 L L.length).length
      rw [mixL_len, sumP_snoc, ← hS.2, ← h5 hne]
/-- The document's box: block g. -/
def IsRB (w : World) (g : Nat) (tries heard gone : Int) (ls : Nat → List (List Pt)) : Prop := ∃ cs : Array Value, Blk w g cs 32 ∧ cs.size = 11 ∧ cs[0]? = some (.int .i64 tries) ∧ cs[9]? = some (.int .i64 heard) ∧ cs[10]? = some (.int .i64 gone) ∧
  ∀ p, p < 8 → ∃ A c S, cs[1 + p]? = some (.slice A (ls p).length c) ∧ Rds w 1 A (ls p).length (S.map Sl.val) ∧ RdLP w S (ls p) ∧ (∀ ad, A = some ad → 0 < (ls p).length → ∃ cs, Blk w ad.block cs 39)
theorem IsRB.frm {w w' : World} {Q : Nat → Prop} {g : Nat} {tries heard gone : Int} {ls : Nat → List (List Pt)} (h : IsRB w g tries heard gone ls) (f : Frm Q w w') (hg : ¬ Q g) (h60 : ∀ x cs, Blk w x cs 60 → ¬ Q x) (h39 : ∀ x cs, Blk w x cs 39 → ¬ Q x) : IsRB w' g tries heard gone ls := by
  obtain ⟨cs, hb, h1, h2, h3, h4, h5⟩ := h
  refine ⟨cs, f.blk hb hg, h1, h2, h3, h4, fun p hp => ?_⟩
  obtain ⟨A, c, S, e1, e2, e3, e4⟩ := h5 p hp
  refine ⟨A, c, S, e1, e2.frm f (fun ad e h0 => ?_), e3.frm f h60, fun ad e h0 => ?_⟩
  · obtain ⟨cs, hc⟩ := e4 ad e h0
    exact h39 _ _ hc
  · obtain ⟨cs, hc⟩ := e4 ad e h0
    exact ⟨cs, f.blk hc (h39 _ _ hc)⟩
theorem IsRB.frmN {w w' : World} {g : Nat} {tries heard gone : Int} {ls : Nat → List (List Pt)} (h : IsRB w g tries heard gone ls) (f : Frm No w w') : IsRB w' g tries heard gone ls := h.frm f (fun h => h) (fun _ _ _ h => h) (fun _ _ _ h => h)
theorem IsRB.lt {w : World} {g : Nat} {tries heard gone : Int} {ls : Nat → List (List Pt)} (h : IsRB w g tries heard gone ls) : g < w.heap.size := by
  obtain ⟨cs, hb, _⟩ := h
  exact hb.lt
theorem IsRB.ne60 {w : World} {g : Nat} {tries heard gone : Int} {ls : Nat → List (List Pt)} (h : IsRB w g tries heard gone ls) : ∀ x cs t, t ≠ 32 → Blk w x cs t → ¬ (x = g) := fun x cs t ht hx e => by
  obtain ⟨cs', hb, _⟩ := h
  subst e
  exact Blk.ne hx hb ht rfl
theorem IsRB.cells {w : World} {g : Nat} {tries heard gone : Int} {ls : Nat → List (List Pt)} (h : IsRB w g tries heard gone ls) {p : Nat} (hp : p < 8) : ∃ A c S, w.cell? ⟨g, 1 + p, none⟩ = some (.slice A (ls p).length c) ∧ w.frozen? ⟨g, 1 + p, none⟩ = false ∧
    Rds w 1 A (ls p).length (S.map Sl.val) ∧ RdLP w S (ls p) ∧ (∀ ad, A = some ad → 0 < (ls p).length → ∃ cs, Blk w ad.block cs 39) := by
  obtain ⟨cs, hb, h1, h2, h3, h4, h5⟩ := h
  obtain ⟨A, c, S, e1, e2, e3, e4⟩ := h5 p hp
  exact ⟨A, c, S, by rw [hb.cell]; exact e1, hb.free _, e2, e3, e4⟩
theorem IsRB.nums {w : World} {g : Nat} {tries heard gone : Int} {ls : Nat → List (List Pt)} (h : IsRB w g tries heard gone ls) : w.cell? ⟨g, 0, none⟩ = some (.int .i64 tries) ∧ w.cell? ⟨g, 9, none⟩ = some (.int .i64 heard) ∧ w.cell? ⟨g, 10, none⟩ = some (.int .i64 gone) ∧ w.frozen? ⟨g, 9, none⟩ = false ∧ w.frozen? ⟨g, 10, none⟩ = false := by
  obtain ⟨cs, hb, h1, h2, h3, h4, h5⟩ := h
  exact ⟨by rw [hb.cell]; exact h2, by rw [hb.cell]; exact h3, by rw [hb.cell]; exact h4, hb.free _, hb.free _⟩
def updL (ls : Nat → List (List Pt)) (p : Nat) (l : List (List Pt)) : Nat → List (List Pt) := fun q => if q = p then l else ls q
theorem IsRB.put {w : World} {g : Nat} {tries heard gone : Int} {ls : Nat → List (List Pt)} (h : IsRB w g tries heard gone ls) {p : Nat} (hp : p < 8) (A : Option Addr) (c : Nat) (S : List Sl) (l : List (List Pt)) (e2 : Rds w 1 A l.length (S.map Sl.val)) (e3 : RdLP w S l) (e4 : ∀ ad, A = some ad → 0 < l.length → ∃ cs, Blk w ad.block cs 39) :
    IsRB (w.setCell ⟨g, 1 + p, none⟩ (.slice A l.length c)) g tries heard gone (updL ls p l) ∧ Frm (fun x => x = g) w (w.setCell ⟨g, 1 + p, none⟩ (.slice A l.length c)) := by
  have hne := h.ne60
  obtain ⟨cs, hb, h1, h2, h3, h4, h5⟩ := h
  have F : Frm (fun x => x = g) w (w.setCell ⟨g, 1 + p, none⟩ (.slice A l.length c)) := (Frm.refl (fun x => x = g) w).self (1 + p) _
  refine ⟨⟨_, hb.set (1 + p) _, by simp [h1], ?_, ?_, ?_, fun q hq => ?_⟩, F⟩
  · rw [Array.getElem?_setIfInBounds, if_neg (by omega)]; exact h2
  · rw [Array.getElem?_setIfInBounds, if_neg (by omega)]; exact h3
  · rw [Array.getElem?_setIfInBounds, if_neg (by omega)]; exact h4
  · by_cases hqp : q = p
    · subst hqp
      refine ⟨A, c, S, ?_, ?_, ?_, ?_⟩
      · rw [Array.getElem?_setIfInBounds, if_pos rfl, if_pos (by omega)]
        unfold updL; rw [if_pos rfl]
      · unfold updL; rw [if_pos rfl]
        exact e2.frm F fun ad e h0 => by obtain ⟨cs, hc⟩ := e4 ad e h0; exact hne _ _ 39 (by decide) hc
      · unfold updL; rw [if_pos rfl]
        exact e3.frm F fun x cs hx => hne _ _ 60 (by decide) hx
      · unfold updL; rw [if_pos rfl]
        intro ad e h0
        obtain ⟨cs, hc⟩ := e4 ad e h0
        exact ⟨cs, F.blk hc (hne _ _ 39 (by decide) hc)⟩
    · obtain ⟨A2, c2, S2, x1, x2, x3, x4⟩ := h5 q hq
      refine ⟨A2, c2, S2, ?_, ?_, ?_, ?_⟩
      · rw [Array.getElem?_setIfInBounds, if_neg (by omega), x1]
        unfold updL; rw [if_neg hqp]
      · unfold updL; rw [if_neg hqp]
        exact x2.frm F fun ad e h0 => by obtain ⟨cs, hc⟩ := x4 ad e h0; exact hne _ _ 39 (by decide) hc
      · unfold updL; rw [if_neg hqp]
        exact x3.frm F fun x cs hx => hne _ _ 60 (by decide) hx
      · unfold updL; rw [if_neg hqp]
        intro ad e h0
        obtain ⟨cs, hc⟩ := x4 ad e h0
        exact ⟨cs, F.blk hc (hne _ _ 39 (by decide) hc)⟩
theorem IsRB.num {w : World} {g : Nat} {tries heard gone : Int} {ls : Nat → List (List Pt)} (h : IsRB w g tries heard gone ls) (i : Nat) (hi : i = 9 ∨ i = 10) (v : Int) :
    IsRB (w.setCell ⟨g, i, none⟩ (.int .i64 v)) g tries (if i = 9 then v else heard) (if i = 10 then v else gone) ls ∧ Frm (fun x => x = g) w (w.setCell ⟨g, i, none⟩ (.int .i64 v)) := by
  have hne := h.ne60
  obtain ⟨cs, hb, h1, h2, h3, h4, h5⟩ := h
  have F : Frm (fun x => x = g) w (w.setCell ⟨g, i, none⟩ (.int .i64 v)) := (Frm.refl (fun x => x = g) w).self i _
  refine ⟨⟨_, hb.set i _, by simp [h1], ?_, ?_, ?_, fun q hq => ?_⟩, F⟩
  · rw [Array.getElem?_setIfInBounds, if_neg (by omega)]; exact h2
  · rw [Array.getElem?_setIfInBounds]
    by_cases h9 : i = 9
    · subst h9; rw [if_pos rfl, if_pos (by omega), if_pos rfl]
    · rw [if_neg h9, if_neg h9]; exact h3
  · rw [Array.getElem?_setIfInBounds]
    by_cases h9 : i = 10
    · subst h9; rw [if_pos rfl, if_pos (by omega), if_pos rfl]
    · rw [if_neg h9, if_neg h9]; exact h4
  · obtain ⟨A2, c2, S2, x1, x2, x3, x4⟩ := h5 q hq
    refine ⟨A2, c2, S2, ?_, ?_, ?_, ?_⟩
    · rw [Array.getElem?_setIfInBounds, if_neg (by omega), x1]
    · exact x2.frm F fun ad e h0 => by obtain ⟨cs, hc⟩ := x4 ad e h0; exact hne _ _ 39 (by decide) hc
    · exact x3.frm F fun x cs hx => hne _ _ 60 (by decide) hx
    · intro ad e h0
      obtain ⟨cs, hc⟩ := x4 ad e h0
      exact ⟨cs, F.blk hc (hne _ _ 39 (by decide) hc)⟩
end Go.Proofs.Ytcdjofneijlbgaa.A

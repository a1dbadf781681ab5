/- What the glue makes of what Build took, in plain lists. -/
import Derived.Test.YtccaaldfccgncaaBP
namespace Go.Proofs.Ytccaaldfccgncaa.A
open Go.RowKit Go.Proofs.Ytccaaldfccgncaa.K
set_option linter.unusedVariables false
set_option linter.unusedSimpArgs false

/-- What the whole glue holds while these texts wait. -/
def hOf (T : List Tx) (tk : Nat) : Option (List Nat) := if tk = 0 then none else some ((T.getD 0 tx0).bs.take tk)
/-- What is held ahead of field i. -/
def hAt (T : List Tx) (tk i : Nat) : Option (List Nat) := if i = 0 then hOf T tk else none
theorem fi_begins {tk x : Nat} (hx : x ≤ 1) : ((if 0 < tk then 2 else 0) + x) / 2 % 2 = if 0 < tk then 1 else 0 := by
  split <;> omega
theorem fH_at (T : List Tx) (tk i x k : Nat) (hx : x ≤ 1) : fH (hAt T tk i) ((chk T tk i).take k) (bgOf ((if 0 < tk then 2 else 0) + x) i) = some ((T.getD i tx0).bs.take (tkj tk i + k)) := by
  unfold bgOf hAt
  rw [fi_begins hx]
  by_cases h0 : i = 0
  · subst h0
    by_cases ht : tk = 0
    · subst ht
      have e : chk T 0 0 = (T.getD 0 tx0).bs := by unfold chk tkj; simp
      have e2 : tkj 0 0 = 0 := rfl
      rw [e, e2, Nat.zero_add]
      simp [fH]
    · have e2 : tkj tk 0 = tk := rfl
      have e : chk T tk 0 = (T.getD 0 tx0).bs.drop tk := rfl
      rw [e, e2]
      have h1 : hOf T tk = some ((T.getD 0 tx0).bs.take tk) := by unfold hOf; rw [if_neg ht]
      rw [h1]
      rw [if_pos rfl, if_pos (by omega)]
      simp [fH, List.take_add]
  · have e2 : tkj tk i = 0 := by unfold tkj; rw [if_neg h0]
    have e : chk T tk i = (T.getD i tx0).bs := by unfold chk; rw [e2, List.drop_zero]
    rw [e, e2, Nat.zero_add]
    have : 0 < i := by omega
    simp [fH, this]
theorem fL_at (T : List Tx) (tk i x : Nat) (hx : x ≤ 1) (lost : Int) (en : Bool) : fL (hAt T tk i) lost (bgOf ((if 0 < tk then 2 else 0) + x) i) en = lost := by
  unfold bgOf hAt fL
  rw [fi_begins hx]
  by_cases h0 : i = 0
  · subst h0
    by_cases ht : tk = 0
    · subst ht
      simp [hOf, someI]
    · have ht0 : 0 < tk := by omega
      simp [hOf, ht, ht0]
  · have : 0 < i := by omega
    simp [h0, this, someI]
theorem take_full (T : List Tx) (tk i : Nat) (h : tkj tk i ≤ (T.getD i tx0).bs.length) : (T.getD i tx0).bs.take (tkj tk i + (chk T tk i).length) = (T.getD i tx0).bs := by
  rw [List.take_of_length_le]
  unfold chk
  rw [List.length_drop]
  omega
theorem gStep_at (T : List Tx) (tk i x k : Nat) (hx : x ≤ 1) (lost : Int) (en : Bool) (o : List (List Nat)) :
    gStep ⟨hAt T tk i, lost, o⟩ ((chk T tk i).take k) (bgOf ((if 0 < tk then 2 else 0) + x) i) en = ⟨if en = true then none else some ((T.getD i tx0).bs.take (tkj tk i + k)), lost, if en = true then o ++ [(T.getD i tx0).bs.take (tkj tk i + k)] else o⟩ := by
  unfold gStep
  rw [fH_at T tk i x k hx, fL_at T tk i x hx]
  simp
theorem pre_getD (T : List Tx) (tk m i : Nat) (z : List Nat) (h : i < m) : (pre T tk m ++ [z]).getD i [] = chk T tk i := by
  rw [List.getD_eq_getElem?_getD, List.getElem?_append_left (by rw [pre_len]; exact h)]
  unfold pre
  rw [List.getElem?_map, List.getElem?_range h]
  rfl
theorem pre_last (T : List Tx) (tk m : Nat) (z : List Nat) : (pre T tk m ++ [z]).getD m [] = z := by
  rw [List.getD_eq_getElem?_getD, List.getElem?_append_right (by rw [pre_len]; exact Nat.le_refl _), pre_len, Nat.sub_self]
  rfl
theorem map_take_succ (T : List Tx) (i : Nat) (h : i < T.length) : (T.take (i + 1)).map Tx.bs = (T.take i).map Tx.bs ++ [(T.getD i tx0).bs] := by
  rw [List.take_succ_eq_append_getElem h, List.map_append, List.getD_eq_getElem?_getD, List.getElem?_eq_getElem h]
  rfl
/-- The fields that end a text, one behind the other. -/
theorem gPut_at {T : List Tx} {tk m x : Nat} {z : List Nat} (hw : Waits T tk) (hm : m < T.length) (hx : x ≤ 1) (lost : Int) (i : Nat) (hi : i ≤ m) :
    gPut ((if 0 < tk then 2 else 0) + x) (pre T tk m ++ [z]) ⟨hOf T tk, lost, []⟩ i = ⟨hAt T tk i, lost, (T.take i).map Tx.bs⟩ := by
  induction i with
  | zero => simp [gPut, hAt]
  | succ i ih =>
    have hl : (pre T tk m ++ [z]).length - 1 = m := by rw [List.length_append, pre_len, List.length_singleton, Nat.add_sub_cancel]
    have hen : enOf ((if 0 < tk then 2 else 0) + x) m i = true := by unfold enOf; rw [decide_eq_true]; exact .inl (by omega)
    unfold gPut
    rw [ih (by omega), hl, hen, pre_getD T tk m i z (by omega)]
    obtain ⟨t, R, -, -, e1, h1, -, -, -⟩ := hw.at_ (show i < T.length by omega)
    have hf := take_full T tk i (by rw [e1]; omega)
    have hs := gStep_at T tk i x (chk T tk i).length hx lost true ((T.take i).map Tx.bs)
    rw [List.take_length, hf] at hs
    rw [hs, map_take_succ T i (by omega)]
    simp [hAt]
/-- The same with what is held lost. -/
theorem gPut_at' {T : List Tx} {tk m x : Nat} {z : List Nat} (hw : Waits T tk) (hm : m < T.length) (hx : x ≤ 1) (ht : 0 < tk) (lost : Int) (i : Nat) (hi : i ≤ m) :
    (gPut ((if 0 < tk then 2 else 0) + x) (pre T tk m ++ [z]) ⟨none, lost, []⟩ i).h = none ∧ (gPut ((if 0 < tk then 2 else 0) + x) (pre T tk m ++ [z]) ⟨none, lost, []⟩ i).o = ((T.take i).map Tx.bs).drop 1 := by
  induction i with
  | zero => simp [gPut]
  | succ i ih =>
    have hl : (pre T tk m ++ [z]).length - 1 = m := by rw [List.length_append, pre_len, List.length_singleton, Nat.add_sub_cancel]
    have hen : enOf ((if 0 < tk then 2 else 0) + x) m i = true := by unfold enOf; rw [decide_eq_true]; exact .inl (by omega)
    obtain ⟨h1, h2⟩ := ih (by omega)
    obtain ⟨s, hs⟩ : ∃ s, gPut ((if 0 < tk then 2 else 0) + x) (pre T tk m ++ [z]) ⟨none, lost, []⟩ i = s := ⟨_, rfl⟩
    rw [hs] at h1 h2
    have e : gPut ((if 0 < tk then 2 else 0) + x) (pre T tk m ++ [z]) ⟨none, lost, []⟩ (i + 1) = gStep s (chk T tk i) (bgOf ((if 0 < tk then 2 else 0) + x) i) true := by
      show gStep (gPut _ _ _ i) _ _ (enOf _ _ i) = _
      rw [hs, hl, hen, pre_getD T tk m i z (by omega)]
    rw [e]
    refine ⟨rfl, ?_⟩
    by_cases h0 : i = 0
    · subst h0
      have hb : bgOf ((if 0 < tk then 2 else 0) + x) 0 = false := by unfold bgOf; rw [fi_begins hx, if_pos ht]; rfl
      rw [hb]
      unfold gStep
      rw [h1, fH_none]
      simp only [Option.isSome_none, Bool.and_false, Bool.false_eq_true, if_false]
      rw [h2, map_take_succ T 0 (by omega)]
      simp
    · have hh : hAt T tk i = none := by unfold hAt; rw [if_neg h0]
      obtain ⟨t, R, -, -, e1, h3, -, -, -⟩ := hw.at_ (show i < T.length by omega)
      have hf := take_full T tk i (by rw [e1]; omega)
      have hg := fH_at T tk i x (chk T tk i).length hx
      rw [hh, List.take_length, hf] at hg
      unfold gStep
      rw [h1, hg]
      simp only [Option.isSome_some, Bool.and_true, if_true, Option.getD_some]
      rw [h2, map_take_succ T i (by omega), List.drop_append_of_le_length (by rw [List.length_map, List.length_take]; omega)]
/-- The state behind the last field. -/
theorem gPut_end (fi : Nat) (T : List Tx) (tk m : Nat) (z : List Nat) (s0 s : GS) (h : gPut fi (pre T tk m ++ [z]) s0 m = s) : gPut fi (pre T tk m ++ [z]) s0 (pre T tk m ++ [z]).length = gStep s z (bgOf fi m) (enOf fi m m) := by
  have hl : (pre T tk m ++ [z]).length = m + 1 := by rw [List.length_append, pre_len, List.length_singleton]
  rw [hl]
  show gStep (gPut _ _ _ m) _ _ (enOf _ _ m) = _
  rw [h, pre_last, hl, Nat.add_sub_cancel]
theorem hOf_zero (T : List Tx) : hOf T 0 = none := rfl
theorem Cut.ends {m fi tk x : Nat} (hx : x ≤ 1) : enOf ((if 0 < tk then 2 else 0) + x) m m = decide (x = 0) := by
  unfold enOf
  have : ((if 0 < tk then 2 else 0) + x) % 2 = x := by split <;> omega
  rw [this]
  simp
/-- The whole glue. -/
theorem glue_whole {T : List Tx} {tk room : Nat} {O : List (List Nat)} {fi : Nat} {T' : List Tx} {tk' : Nat} (hw : Waits T tk) (h : Cut T tk room O fi T' tk') (lost : Int) :
    (gPut fi O ⟨hOf T tk, lost, []⟩ O.length).h = hOf T' tk' ∧ (gPut fi O ⟨hOf T tk, lost, []⟩ O.length).lost = lost ∧ T.map Tx.bs = (gPut fi O ⟨hOf T tk, lost, []⟩ O.length).o ++ T'.map Tx.bs ∧
      (∀ i, i < O.length → ((fH (gPut fi O ⟨hOf T tk, lost, []⟩ i).h (O.getD i []) (bgOf fi i)).getD []).length ≤ 1000) ∧
      ∀ L : Int, (gPut fi O ⟨hOf T tk, L, []⟩ O.length).o = (gPut fi O ⟨hOf T tk, lost, []⟩ O.length).o := by
  obtain ⟨m, k, h24, hm, k1, k2, rfl, rfl, rfl, rfl, hr, hmax⟩ := h
  obtain ⟨x, hx⟩ : ∃ x, (if k < (chk T tk m).length then 1 else 0) = x := ⟨_, rfl⟩
  have hx1 : x ≤ 1 := by rw [← hx]; split <;> omega
  rw [hx]
  have key : ∀ L : Int, gPut ((if 0 < tk then 2 else 0) + x) (pre T tk m ++ [(chk T tk m).take k]) ⟨hOf T tk, L, []⟩ (pre T tk m ++ [(chk T tk m).take k]).length = ⟨if decide (x = 0) = true then none else some ((T.getD m tx0).bs.take (tkj tk m + k)), L, if decide (x = 0) = true then (T.take m).map Tx.bs ++ [(T.getD m tx0).bs.take (tkj tk m + k)] else (T.take m).map Tx.bs⟩ := fun L => by
    rw [gPut_end _ T tk m _ _ _ (gPut_at hw hm hx1 L m (Nat.le_refl _)), Cut.ends (fi := 0) hx1, gStep_at T tk m x k hx1]
  obtain ⟨t, R, e0, -, e1, h1, h2, h3, h4⟩ := hw.at_ hm
  have hbs : (T.getD m tx0).bs.length ≤ 1000 := by rw [e1]; exact h2
  refine ⟨?_, by rw [key], ?_, fun i hi => ?_, fun L => by rw [key, key]⟩
  · rw [key]
    by_cases hc : k < (chk T tk m).length
    · rw [if_pos hc] at hx
      subst hx
      rw [if_pos hc, if_pos hc]
      simp only [show decide ((1 : Nat) = 0) = false from rfl, Bool.false_eq_true, if_false]
      unfold hOf
      rw [if_neg (by omega), e0, List.getD_cons_zero, e1]
    · rw [if_neg hc] at hx
      subst hx
      rw [if_neg hc, if_neg hc]
      simp [hOf]
  · rw [key]
    by_cases hc : k < (chk T tk m).length
    · rw [if_pos hc] at hx
      subst hx
      rw [if_pos hc]
      simp only [show decide ((1 : Nat) = 0) = false from rfl, Bool.false_eq_true, if_false]
      rw [← List.map_append, List.take_append_drop]
    · rw [if_neg hc] at hx
      subst hx
      rw [if_neg hc]
      simp only [decide_true, if_true]
      have hk : k = (chk T tk m).length := by omega
      rw [hk, take_full T tk m (by rw [e1]; omega), ← map_take_succ T m hm, ← List.map_append, List.take_append_drop]
  · have hl : (pre T tk m ++ [(chk T tk m).take k]).length = m + 1 := by rw [List.length_append, pre_len, List.length_singleton]
    rw [gPut_at hw hm hx1 lost i (by omega)]
    by_cases him : i = m
    · subst him
      rw [pre_last, fH_at T tk i x k hx1, Option.getD_some, List.length_take]
      omega
    · rw [pre_getD T tk m i _ (by omega)]
      have hg := fH_at T tk i x (chk T tk i).length hx1
      rw [List.take_length] at hg
      rw [hg, Option.getD_some, List.length_take]
      obtain ⟨t', R', -, -, e1', -, h2', -, -⟩ := hw.at_ (show i < T.length by omega)
      rw [e1']
      omega
/-- The glue that lost some. -/
theorem glue_part {T : List Tx} {tk room : Nat} {O : List (List Nat)} {fi : Nat} {T' : List Tx} {tk' : Nat} (hw : Waits T tk) (h : Cut T tk room O fi T' tk') (lost : Int) (hp : Option (List Nat)) (hh : hp = none ∨ hp = hOf T tk) :
    ((gPut fi O ⟨hp, lost, []⟩ O.length).h = none ∨ (gPut fi O ⟨hp, lost, []⟩ O.length).h = hOf T' tk') ∧ (∃ d, (gPut fi O ⟨hp, lost, []⟩ O.length).o = (gPut fi O ⟨hOf T tk, 0, []⟩ O.length).o.drop d) ∧
      ∀ i, i < O.length → ((fH (gPut fi O ⟨hp, lost, []⟩ i).h (O.getD i []) (bgOf fi i)).getD []).length ≤ 1000 := by
  obtain ⟨a1, a2, a3, a4, a5⟩ := glue_whole hw h lost
  by_cases he : hp = hOf T tk
  · subst he
    exact ⟨.inr a1, ⟨0, by rw [List.drop_zero, a5 0]⟩, a4⟩
  · have hn : hp = none := hh.resolve_right he
    subst hn
    have ht : 0 < tk := by
      by_cases h0 : tk = 0
      · subst h0; exact absurd rfl he
      · omega
    obtain ⟨b1, b2, b3, b4, b5⟩ := glue_whole hw h 0
    obtain ⟨m, k, h24, hm, k1, k2, rfl, rfl, rfl, rfl, hr, hmax⟩ := h
    obtain ⟨x, hx⟩ : ∃ x, (if k < (chk T tk m).length then 1 else 0) = x := ⟨_, rfl⟩
    have hx1 : x ≤ 1 := by rw [← hx]; split <;> omega
    rw [hx] at a1 a2 a3 a4 a5 b1 b2 b3 b4 b5 ⊢
    obtain ⟨c1, c2⟩ := gPut_at' (z := (chk T tk m).take k) hw hm hx1 ht lost m (Nat.le_refl _)
    obtain ⟨s, hs⟩ : ∃ s, gPut ((if 0 < tk then 2 else 0) + x) (pre T tk m ++ [(chk T tk m).take k]) ⟨none, lost, []⟩ m = s := ⟨_, rfl⟩
    rw [hs] at c1 c2
    have hl : (pre T tk m ++ [(chk T tk m).take k]).length = m + 1 := by rw [List.length_append, pre_len, List.length_singleton]
    have e1 := gPut_end _ T tk m _ _ _ hs
    have e2 := gPut_end _ T tk m ((chk T tk m).take k) _ _ (gPut_at hw hm hx1 0 m (Nat.le_refl _))
    rw [gStep_at T tk m x k hx1] at e2
    have hbz : bgOf ((if 0 < tk then 2 else 0) + x) 0 = false := by unfold bgOf; rw [fi_begins hx1, if_pos ht]; rfl
    rw [e2] at b1 b3 ⊢
    rw [e1]
    refine ⟨?_, ⟨1, ?_⟩, fun i hi => ?_⟩
    · by_cases h0 : m = 0
      · subst h0
        left
        unfold gStep
        rw [hbz, c1, fH_none]
        simp
      · right
        have hh : hAt T tk m = none := by unfold hAt; rw [if_neg h0]
        have hg := fH_at T tk m x k hx1
        rw [hh] at hg
        rw [← b1]
        unfold gStep
        rw [c1, hg]
    · by_cases h0 : m = 0
      · subst h0
        unfold gStep
        rw [hbz, c1, fH_none, c2]
        simp only [Option.isSome_none, Bool.and_false, Bool.false_eq_true, if_false, List.take_zero, List.map_nil, List.drop_nil]
        obtain ⟨eb, heb⟩ : ∃ eb, enOf ((if 0 < tk then 2 else 0) + x) 0 0 = eb := ⟨_, rfl⟩
        rw [heb]
        cases eb <;> rfl
      · have hh : hAt T tk m = none := by unfold hAt; rw [if_neg h0]
        have hg := fH_at T tk m x k hx1
        rw [hh] at hg
        unfold gStep
        rw [c1, hg, c2]
        simp only [Option.isSome_some, Bool.and_true, Option.getD_some]
        by_cases hE : enOf ((if 0 < tk then 2 else 0) + x) m m = true
        · rw [if_pos hE, if_pos hE, List.drop_append_of_le_length (by rw [List.length_map, List.length_take]; omega)]
        · rw [if_neg hE, if_neg hE]
    · by_cases h0 : i = 0
      · subst h0
        rw [hbz]
        show ((fH none _ false).getD []).length ≤ 1000
        rw [fH_none]
        simp
      · have hh : hAt T tk i = none := by unfold hAt; rw [if_neg h0]
        have h4 := b4 i hi
        rw [gPut_at hw hm hx1 0 i (by omega), hh] at h4
        rw [(gPut_at' hw hm hx1 ht lost i (by omega)).1]
        exact h4
end Go.Proofs.Ytccaaldfccgncaa.A

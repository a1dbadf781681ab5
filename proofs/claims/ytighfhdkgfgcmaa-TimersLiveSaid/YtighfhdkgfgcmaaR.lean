/- The timers and the document's are told alike. -/
import Derived.Test.YtighfhdkgfgcmaaQ
import Derived.Deep.DeepCutAuto
import Derived.Deep.CutBlock
namespace Go.Proofs.Ytighfhdkgfgcmaa.A
open Go.RowKit Go.Proofs.Ytighfhdkgfgcmaa.K Go.Proofs.Ytighfhdkgfgcmaa.N
set_option linter.unusedVariables false
set_option linter.unusedSimpArgs false

/-- What has so many ticks left is what ends at that time. -/
def Paired (N : Int) (L E : List Int) : Prop :=
  Fit L ∧ E.length = 8 ∧ ∀ k, (E.getD k 0 = 0 ∧ L.getD k 0 = 0) ∨ (N < E.getD k 0 ∧ E.getD k 0 ≤ N + 1000 ∧ L.getD k 0 = E.getD k 0 - N)
theorem paired_zero (N : Int) : Paired N [0, 0, 0, 0, 0, 0, 0, 0] [0, 0, 0, 0, 0, 0, 0, 0] := by
  refine ⟨fit_zero, rfl, fun k => .inl ?_⟩
  have : ([0, 0, 0, 0, 0, 0, 0, 0] : List Int).getD k 0 = 0 := by
    match k with
    | 0 | 1 | 2 | 3 | 4 | 5 | 6 | 7 => rfl
    | n + 8 => rfl
  exact ⟨this, this⟩
theorem paired_end {N : Int} {L E : List Int} (h : Paired N L E) (hN : 0 ≤ N) (hN2 : N ≤ 1000000) : ∀ k, 0 ≤ E.getD k 0 ∧ E.getD k 0 ≤ 2000000 := fun k => by
  rcases h.2.2 k with h | h <;> omega
theorem paired_set {N : Int} {L E : List Int} (h : Paired N L E) (k : Nat) (hk : k < 8) (v e : Int) (h0 : 0 ≤ v) (h1 : v ≤ 1000)
    (he : (e = 0 ∧ v = 0) ∨ (N < e ∧ e ≤ N + 1000 ∧ v = e - N)) : Paired N (L.set k v) (E.set k e) := by
  refine ⟨fit_set h.1 _ _ h0 h1, by rw [List.length_set]; exact h.2.1, fun q => ?_⟩
  rw [getD_set L _ _ _ (by rw [h.1.1]; exact hk), getD_set E _ _ _ (by rw [h.2.1]; exact hk)]
  split
  · exact he
  · exact h.2.2 q
theorem paired_start {N : Int} {L E : List Int} (h : Paired N L E) (i n : Int) : Paired N (startL L i n) (rstartL N E i n) := by
  unfold startL rstartL
  split
  · rename_i hc
    obtain ⟨⟨h0, h8⟩, h1, h2⟩ := hc
    exact paired_set h _ (by omega) _ _ (by omega) (by omega) (.inr (by omega))
  · exact h
theorem paired_stop {N : Int} {L E : List Int} (h : Paired N L E) (i : Int) : Paired N (stopL L i) (rstopL E i) := by
  unfold stopL rstopL
  split
  · rename_i hc
    obtain ⟨h0, h8⟩ := hc
    exact paired_set h _ (by omega) _ _ (by omega) (by omega) (.inl (by omega))
  · exact h
theorem paired_left {N : Int} {L E : List Int} (hN : 0 ≤ N) (h : Paired N L E) (i : Int) : rleftN N E i = leftN L i := by
  unfold rleftN leftN
  split
  · rcases h.2.2 i.toNat with ⟨h1, h2⟩ | ⟨h1, h2, h3⟩
    · rw [if_pos h1, h2]
    · by_cases hz : E.getD i.toNat 0 = 0
      · omega
      · rw [if_neg hz, h3]
  · rfl
theorem paired_tick {N : Int} {L E : List Int} (hN : 0 ≤ N) (h : Paired N L E) : Paired (N + 1) (tickL L) (rtickE (N + 1) E 8) ∧ rtickO (N + 1) E 8 = tickO L := by
  have hh : ∀ q, hit (N + 1) E q = decide (L.getD q 0 = 1) := fun q => by
    unfold hit
    rcases h.2.2 q with ⟨h1, h2⟩ | ⟨h1, h2, h3⟩ <;> (rw [decide_eq_decide]; omega)
  refine ⟨⟨fit_tick h.1, rtickE_len _ _ _, fun q => ?_⟩, ?_⟩
  · rw [rtickE_getD _ _ h.2.1, tickL_getD, hh]
    have h8 : 8 ≤ q → L.getD q 0 = 0 := fun hq => by rw [List.getD_eq_getElem?_getD, List.getElem?_eq_none (by have := h.1.1; omega)]; rfl
    simp only [decide_eq_true_eq]
    rcases h.2.2 q with ⟨h1, h2⟩ | ⟨h1, h2, h3⟩
    · rw [if_neg (by omega), if_neg (by omega)]; omega
    · by_cases hc : q < 8 ∧ L.getD q 0 = 1
      · rw [if_pos hc, if_pos (by omega)]; omega
      · rw [if_neg hc, if_pos (by omega)]
        have : ¬ L.getD q 0 = 1 := fun e => hc ⟨by
          by_cases h9 : q < 8
          · exact h9
          · have := h8 (by omega); omega, e⟩
        omega
  · unfold rtickO tickO
    exact List.filter_congr fun q _ => hh q

theorem rd_grow {w0 w w' : World} {S : Nat → Prop} {B : Nat} {v : Value} {l : List Nat} (h : w.ownsRow B 3 1 v (ints l).length ((ints l).map (Value.int .i64))) (f : Frm S w w') (hS : ∀ k cs, Blk w k cs 3 → ¬ S k) : Rd w' v l :=
  rd_of (own_frm h f hS)
/-- In a round, after the call. -/
def LiveMid (w : World) (g gx go : Nat) (j : Nat) (kd oi on : Int) (wx : World) : Prop :=
  ∃ (N : Nat) (L E : List Int), N ≤ j + 1 ∧ IsT wx g true L ∧ IsE wx gx N E ∧ Paired N L E ∧ Blk wx go #[.int .i64 kd, .int .i64 oi, .int .i64 on] 28 ∧ Frm No w wx
/-- Between the rounds. -/
def LiveRel (w : World) (g gx : Nat) (vi : Value) (wr : World) : Prop :=
  ∃ (j N : Nat) (L E : List Int), vi = .int .i64 j ∧ j ≤ 300 ∧ N ≤ j ∧ IsT wr g true L ∧ IsE wr gx N E ∧ Paired N L E ∧ Frm No w wr
/-- In the loop over the eight. -/
def LiveRun (w wb : World) (g gx go : Nat) (N : Nat) (L E : List Int) (kd oi on : Int) (vf vr vk : Value) (wx : World) : Prop :=
  ∃ k : Nat, vf = .bool true ∧ vk = .int .i64 k ∧ k ≤ 8 ∧ Row wb vr (runTo (fun q => L.getD q 0) k) wx ∧ IsT wx g true L ∧ IsE wx gx N E ∧ Blk wx go #[.int .i64 kd, .int .i64 oi, .int .i64 on] 28 ∧ Frm No wb wx
theorem runlive_push {w W w3 : World} {g gx go gg cap i N : Nat} {L E : List Int} {l : List Nat} {vo : Value} {o : Obj} {kd oi on : Int} (hT : IsT W g true L) (hX : IsE W gx N E) (hO : Blk W go #[.int .i64 kd, .int .i64 oi, .int .i64 on] 28)
    (hR : Row w vo l W) (hF : Frm No w W)
    (hown : w3.ownsRow w.heap.size 3 1 (.slice (some ⟨gg, 0, none⟩) (l.length + 1) cap) (l.length + 1) ((ints l).map (Value.int .i64) ++ [.int .i64 i])) (hg : (W.alloc o).grownBy w3 vo.ownBlock) :
    IsT w3 g true L ∧ IsE w3 gx N E ∧ Blk w3 go #[.int .i64 kd, .int .i64 oi, .int .i64 on] 28 ∧ Row w (.slice (some ⟨gg, 0, none⟩) (l.length + 1) cap) (l ++ [i]) w3 ∧ Frm No w w3 := by
  obtain ⟨r1, r2⟩ := row_push hF hR hown hg
  have hR' : (W.alloc o).ownsRow w.heap.size 3 1 vo l.length ((ints l).map (Value.int .i64)) := World.ownsRow.alloc hR o
  refine ⟨⟨(hT.1.alloc o).grown hg (fun e => ?_), hT.2⟩, ⟨(hX.1.alloc o).grown hg (fun e => ?_), hX.2⟩, (hO.alloc o).grown hg (fun e => ?_), r1, r2⟩
  · obtain ⟨_, cs, hb⟩ := own_blk hR' e
    exact Blk.ne hb (hT.1.alloc o) (by decide) rfl
  · obtain ⟨_, cs, hb⟩ := own_blk hR' e
    exact Blk.ne hb (hX.1.alloc o) (by decide) rfl
  · obtain ⟨_, cs, hb⟩ := own_blk hR' e
    exact Blk.ne hb (hO.alloc o) (by decide) rfl
end Go.Proofs.Ytighfhdkgfgcmaa.A

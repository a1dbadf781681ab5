/- Add. -/
import Derived.Test.YtiifepajnhdfjaaJ
namespace Go.Proofs.Ytiifepajnhdfjaa.A
open Go.RowKit Go.Proofs.Ytiifepajnhdfjaa.K
set_option linter.unusedVariables false
set_option linter.unusedSimpArgs false

theorem info60 : (Try.prog.info? 60).map (fun i => (i.zero, i.size, i.bytes)) = some (some (.agg #[.int .i64 0, .int .i64 0, .int .i64 0]), 3, 24) := by kernel_rfl
theorem zero_three : (Value.agg #[.int .i64 0, .int .i64 0, .int .i64 0]).cells.size = 3 := by kernel_rfl
def addE (U : List US) (x wt : Int) : Int := if wt < 1 ∨ 16 < wt then 1 else if fi U x < U.length then 12 else if 16 ≤ U.length then 5 else 0
/-- What the calls turn: the scheduler's block, and its row. -/
def SG (w : World) (B g : Nat) : Nat → Prop := fun x => x = g ∨ SU w B x

theorem add_push {w W w3 : World} {B g gg cap : Nat} {U : List US} {v : Value} {o : Obj} {x wt : Int} {n : Nat} (hn : U.length = n) (h16 : n < 16) (hf : Frm No w W) (hb : Blk W g #[.bool true, v] 57) (ho : RowU W B v U) (ho0 : RowU w B v U)
    (hown : w3.ownsRow B 60 3 (.slice (some ⟨gg, 0, none⟩) (n + 1) cap) (n + 1) (U.flatMap uc ++ [.int .i64 x, .int .i64 wt, .int .i64 0])) (hg : (W.alloc o).grownBy w3 v.ownBlock) :
    Blk w3 g #[.bool true, v] 57 ∧ IsS (w3.setCell ⟨g, 1, none⟩ (.slice (some ⟨gg, 0, none⟩) (n + 1) cap)) B g (U ++ [⟨x, wt, 0⟩]) ∧ Frm (SG w B g) w (w3.setCell ⟨g, 1, none⟩ (.slice (some ⟨gg, 0, none⟩) (n + 1) cap)) := by
  have hoA : (W.alloc o).ownsRow B 60 3 v U.length (U.flatMap uc) := World.ownsRow.alloc ho o
  have hb3 : Blk w3 g #[.bool true, v] 57 := (hb.alloc o).grown hg (fun e => by
    obtain ⟨_, cs, hc⟩ := own_blk hoA e
    exact Blk.ne hc (hb.alloc o) (by decide) rfl)
  refine ⟨hb3, ⟨by simp; omega, _, hb3.set 1 _, ?_⟩, ?_⟩
  · unfold RowU
    have h := own_set hown hb3 (by decide) 1 (.slice (some ⟨gg, 0, none⟩) (n + 1) cap)
    rw [List.length_append, List.length_singleton, List.flatMap_append, hn]
    simpa [uc] using h
  · have h1 : Frm (SG w B g) w W := hf.mono fun _ h => h.elim
    refine ((h1.alloc o).grown hg (fun k e => .inl (.inr ?_))).set (.inl (.inl rfl)) _
    exact own_blk ho0 e

set_option maxRecDepth 100000 in
set_option maxHeartbeats 4000000 in
theorem add_any (w : World) (B g : Nat) (U : List US) (x wt : Int) (h : IsS w B g U) (hB : B ≤ w.heap.size) :
    Calls Try.prog 7 #[.pointer (some ⟨g, 0, none⟩), .int .i64 x, .int .i64 wt] w fun e w' => e = .returned (.int .i64 (addE U x wt)) ∧ IsS w' B g (if addE U x wt = 0 then U ++ [⟨x, wt, 0⟩] else U) ∧ Frm (SG w B g) w w' := by
  have hs := h
  obtain ⟨h16, v, hb, ho⟩ := h
  obtain ⟨A, c, rfl, hr⟩ := rdU_of ho
  have k0 : w.cell? ⟨g, 0, none⟩ = some (.bool true) := hb.cell 0
  have hc := find_any w B g U x hs
  have FN : Frm (SG w B g) w w := Frm.refl _ _
  obtain ⟨E, hE⟩ : ∃ E, addE U x wt = E := ⟨_, rfl⟩
  rw [hE]
  unfold addE at hE
  by_cases hw : wt < 1 ∨ 16 < wt
  · rw [if_pos hw] at hE
    subst hE
    rw [if_neg (by decide)]
    clear hb ho hr hc
    by_cases h1 : wt < 1
    · go_enter Try.func7, Try.ntmps7
      go_wp2_with fail
      go_ret
      exact ⟨rfl, hs, FN⟩
    · have h2 : 16 < wt := by omega
      go_enter Try.func7, Try.ntmps7
      go_wp2_with fail
      go_ret
      exact ⟨rfl, hs, FN⟩
  · rw [if_neg hw] at hE
    have h1 : ¬ wt < 1 := by omega
    have h2 : ¬ 16 < wt := by omega
    by_cases hf : fi U x < U.length
    · rw [if_pos hf] at hE
      subst hE
      rw [if_neg (by decide)]
      rw [show fiV U x = (fi U x : Int) by unfold fiV; rw [if_pos hf]] at hc
      obtain ⟨f, hfe⟩ : ∃ f, fi U x = f := ⟨_, rfl⟩
      rw [hfe] at hc
      have f0 : (0 : Int) ≤ (f : Int) := Int.natCast_nonneg _
      clear hb ho hr hf hfe hw
      go_enter Try.func7, Try.ntmps7
      go_wp2_with fail
      refine hc.mono ?_
      rintro e w1 ⟨rfl, rfl⟩
      go_wp2_with fail
      go_ret
      exact ⟨rfl, hs, FN⟩
    · rw [if_neg hf] at hE
      rw [show fiV U x = -1 by unfold fiV; rw [if_neg hf]] at hc
      obtain ⟨n, hn⟩ : ∃ n, U.length = n := ⟨_, rfl⟩
      have k1 : w.cell? ⟨g, 1, none⟩ = some (.slice A U.length c) := hb.cell 1
      rw [hn] at hE k1
      by_cases hfull : 16 ≤ n
      · rw [if_pos hfull] at hE
        subst hE
        rw [if_neg (by decide)]
        have hfi : (16 : Int) ≤ (n : Int) := by omega
        clear hb ho hr hf hw hn
        go_enter Try.func7, Try.ntmps7
        go_wp2_with fail
        refine hc.mono ?_
        rintro e w1 ⟨rfl, rfl⟩
        go_wp2_with fail
        go_ret
        exact ⟨rfl, hs, FN⟩
      · rw [if_neg hfull] at hE
        subst hE
        rw [if_pos rfl]
        obtain ⟨i0, hi, hz0, hz1, hz2⟩ := info_parts info60
        have hfi : ¬ (16 : Int) ≤ (n : Int) := by omega
        have hgx : g < w.heap.size := hb.lt
        have ho1 := ho
        unfold RowU at ho1
        rw [hn] at ho1 hb ho
        have X1 := Lib.hid (And.intro hb ho)
        have HN := Lib.hid hn
        clear hb hr hf hw hn ho
        go_enter Try.func7, Try.ntmps7
        go_wp2_with fail
        refine hc.mono ?_
        rintro e w1 ⟨rfl, rfl⟩
        go_wp2_with (at_builtin; go_must (refine wpList_append_lies _ rfl _ _ 55 rfl B 60 i0 _ 3 24 Try.underlying55 hi hz0 hz1 hz2 zero_three (by omega) _ n (U.flatMap uc) rfl (ho1.alloc _) ⟨w1.heap.size, 0, none⟩ 1 1 [.int .i64 x, .int .i64 wt, .int .i64 0] rfl rfl (World.news_of_block (cs := #[.int .i64 x, .int .i64 wt, .int .i64 0]) (t := 60) (fr := (0, 0)) (heap_alloc_new w1 _)) (by simp [Value.oneCell']) (by omega) (by unfold maxLen; omega) (by omega) (by simp; omega) (w1.heap.size + 1) (by simp) ?_; intro gg cap w3 hown3 hgrow3 hat3 hlt3; obtain ⟨r0, r1, r2⟩ := add_push HN.out (by omega) (Frm.refl _ _) X1.out.1 X1.out.2 X1.out.2 hown3 hgrow3; have z3 : w3.frozen? ⟨g, 1, none⟩ = false := r0.free 1; have x3 : w3.cell? ⟨g, 1, none⟩ = some (.slice A n c) := r0.cell 1))
        go_ret
        exact ⟨rfl, r1, r2⟩
end Go.Proofs.Ytiifepajnhdfjaa.A

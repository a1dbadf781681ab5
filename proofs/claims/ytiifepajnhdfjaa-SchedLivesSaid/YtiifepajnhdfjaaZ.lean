/- The document's scheduler in memory; Find, Add, Remove. -/
import Derived.Test.YtiifepajnhdfjaaY
namespace Go.Proofs.Ytiifepajnhdfjaa.A
open Go.RowKit Go.Proofs.Ytiifepajnhdfjaa.K
set_option linter.unusedVariables false
set_option linter.unusedSimpArgs false

def RdR (w : World) (A : Option Addr) (L : List US) : Prop := ∀ j, j < L.length → ∃ ad, A = some ad ∧ (∃ cs, Blk w ad.block cs 54) ∧ w.cell? (ad.add (j * 3)) = some (.int .i64 (L.getD j u0).id) ∧
  w.cell? ⟨(ad.add (j * 3)).block, (ad.add (j * 3)).off + 1, none⟩ = some (.int .i64 (L.getD j u0).wt) ∧ w.cell? ⟨(ad.add (j * 3)).block, (ad.add (j * 3)).off + 2, none⟩ = some (.int .i64 (L.getD j u0).sv)
def RowR (w : World) (B : Nat) (v : Value) (L : List US) : Prop := w.ownsRow B 54 3 v L.length (L.flatMap uc)
theorem rdR_of {w : World} {B : Nat} {v : Value} {L : List US} (h : RowR w B v L) : ∃ A c, v = .slice A L.length c ∧ RdR w A L := by
  rcases h.2 with ⟨rfl, h0⟩ | ⟨g, cap, cur, rfl, hg, hh, h1, h2, h3⟩
  · have hL : L = [] := List.eq_nil_of_length_eq_zero h0
    subst hL
    exact ⟨none, 0, rfl, fun j hj => absurd hj (by simp)⟩
  · refine ⟨_, cap, rfl, fun j hj => ⟨_, rfl, ⟨cur, hh⟩, ?_, ?_, ?_⟩⟩
    · exact World.ownsRow.cells h (g := g) rfl (j * 3) _ (uc_at L j hj).1
    · have := World.ownsRow.cells h (g := g) rfl (j * 3 + 1) _ (uc_at L j hj).2.1
      rwa [add_more] at this
    · have := World.ownsRow.cells h (g := g) rfl (j * 3 + 2) _ (uc_at L j hj).2.2
      rwa [add_more] at this
def IsR (w : World) (B g : Nat) (U : List US) : Prop := U.length ≤ 16 ∧ ∃ v, Blk w g #[v] 45 ∧ RowR w B v U
theorem IsR.frm {w w' : World} {S : Nat → Prop} {B g : Nat} {U : List US} (h : IsR w B g U) (f : Frm S w w') (hS : ∀ k cs t, (t = 45 ∨ t = 54) → Blk w k cs t → ¬ S k) : IsR w' B g U := by
  obtain ⟨h1, v, hb, ho⟩ := h
  exact ⟨h1, v, f.blk hb (hS _ _ _ (.inl rfl) hb), own_frm ho f (fun k cs hk => hS k cs _ (.inr rfl) hk)⟩
theorem IsR.frmN {w w' : World} {B g : Nat} {U : List US} (h : IsR w B g U) (f : Frm No w w') : IsR w' B g U := h.frm f (fun _ _ _ _ _ h => h)
theorem IsR.alloc {w : World} {B g : Nat} {U : List US} (h : IsR w B g U) (o : Obj) : IsR (w.alloc o) B g U := by
  obtain ⟨h1, v, hb, ho⟩ := h
  exact ⟨h1, v, hb.alloc o, World.ownsRow.alloc ho o⟩

set_option maxRecDepth 100000 in
set_option maxHeartbeats 2000000 in
theorem rfind_any (w : World) (B g : Nat) (U : List US) (x : Int) (h : IsR w B g U) : Calls Try.prog 22 #[.pointer (some ⟨g, 0, none⟩), .int .i64 x] w fun e w' => e = .returned (.int .i64 (fiV U x)) ∧ w' = w := by
  obtain ⟨h16, v, hb, ho⟩ := h
  obtain ⟨A, c, rfl, hr⟩ := rdR_of ho
  have c0 : w.cell? ⟨g, 0, none⟩ = some (.slice A U.length c) := hb.cell 0
  have HR := Lib.hid hr
  have hle := fi_le U x
  have HN := Lib.hid (fun j => fi_lt_not (U := U) (x := x) (j := j))
  have HA := Lib.hid (fi_at (U := U) (x := x))
  have hv : fiV U x = if fi U x < U.length then (fi U x : Int) else -1 := rfl
  obtain ⟨r, hre⟩ : ∃ r, fiV U x = r := ⟨_, rfl⟩
  obtain ⟨f, hf⟩ : ∃ f, fi U x = f := ⟨_, rfl⟩
  obtain ⟨n, hn⟩ : ∃ n, U.length = n := ⟨_, rfl⟩
  rw [hre, hf, hn] at hv
  rw [hre]
  rw [hf] at hle HN HA
  rw [hn] at hle h16 c0 HA
  have HLN := Lib.hid hn
  have HV := Lib.hid hv
  clear hb ho hr hf hn hre hv
  go_enter Try.func22, Try.ntmps22
  go_wp2_with fail
  go_loop [5] (fun vi => ∃ k : Nat, vi = .int .i64 k ∧ k ≤ f) (fun vi => n - (intOf vi).toNat)
  case atStart => exact ⟨0, rfl, by omega⟩
  case round =>
    obtain ⟨k, rfl, hk⟩ := hrel
    have i0 : (0 : Int) ≤ (k : Int) := Int.natCast_nonneg _
    by_cases hlt : k < f
    · have hid := HN.out k hlt
      obtain ⟨ad, rfl, -, k0, -, -⟩ := HR.out k (by rw [HLN.out]; omega)
      obtain ⟨y, hy⟩ : ∃ y, (U.getD k u0).id = y := ⟨_, rfl⟩
      rw [hy] at k0 hid
      have d1 : (y == x) = false := beq_eq_false_iff_ne.2 hid
      have i1 : (k : Int) < (n : Int) := by omega
      clear hy hid
      go_wp2_with fail
      go_round
      case rel => exact ⟨k + 1, by go_num, by omega⟩
      case measure => simp [intOf]; omega
    · have hkf : f = k := by omega
      by_cases hfn : f < n
      · have hid := HA.out hfn
        subst hkf
        obtain ⟨ad, rfl, -, k0, -, -⟩ := HR.out f (by rw [HLN.out]; omega)
        rw [hid] at k0
        have i1 : (f : Int) < (n : Int) := by omega
        have hr2 : r = (f : Int) := by rw [HV.out, if_pos hfn]
        have HR2 := Lib.hid hr2
        clear hid hr2
        go_wp2_with fail
        go_ret
        exact ⟨congrArg (fun (y : Int) => Ending.returned (.int .i64 y)) HR2.out.symm, rfl⟩
      · have hr2 : r = -1 := by rw [HV.out, if_neg hfn]
        have HR2 := Lib.hid hr2
        have i1 : ¬ (k : Int) < (n : Int) := by omega
        clear hr2
        go_wp2_with fail
        go_ret
        exact ⟨congrArg (fun (y : Int) => Ending.returned (.int .i64 y)) HR2.out.symm, rfl⟩

theorem info54 : (Try.prog.info? 54).map (fun i => (i.zero, i.size, i.bytes)) = some (some (.agg #[.int .i64 0, .int .i64 0, .int .i64 0]), 3, 24) := by kernel_rfl
/-- What the document's calls turn: its row; and its block. -/
def RU (w : World) (B : Nat) : Nat → Prop := fun x => B ≤ x ∧ ∃ cs, Blk w x cs 54
def RG (w : World) (B g : Nat) : Nat → Prop := fun x => x = g ∨ RU w B x
theorem radd_push {w W w3 : World} {B g gg cap : Nat} {U : List US} {v : Value} {o : Obj} {x wt : Int} {n : Nat} (hn : U.length = n) (h16 : n < 16) (hf : Frm No w W) (hb : Blk W g #[v] 45) (ho : RowR W B v U) (ho0 : RowR w B v U)
    (hown : w3.ownsRow B 54 3 (.slice (some ⟨gg, 0, none⟩) (n + 1) cap) (n + 1) (U.flatMap uc ++ [.int .i64 x, .int .i64 wt, .int .i64 0])) (hg : (W.alloc o).grownBy w3 v.ownBlock) :
    Blk w3 g #[v] 45 ∧ IsR (w3.setCell ⟨g, 0, none⟩ (.slice (some ⟨gg, 0, none⟩) (n + 1) cap)) B g (U ++ [⟨x, wt, 0⟩]) ∧ Frm (RG w B g) w (w3.setCell ⟨g, 0, none⟩ (.slice (some ⟨gg, 0, none⟩) (n + 1) cap)) := by
  have hoA : (W.alloc o).ownsRow B 54 3 v U.length (U.flatMap uc) := World.ownsRow.alloc ho o
  have hb3 : Blk w3 g #[v] 45 := (hb.alloc o).grown hg (fun e => by
    obtain ⟨_, cs, hc⟩ := own_blk hoA e
    exact Blk.ne hc (hb.alloc o) (by decide) rfl)
  refine ⟨hb3, ⟨by simp; omega, _, hb3.set 0 _, ?_⟩, ?_⟩
  · unfold RowR
    have h := own_set hown hb3 (by decide) 0 (.slice (some ⟨gg, 0, none⟩) (n + 1) cap)
    rw [List.length_append, List.length_singleton, List.flatMap_append, hn]
    simpa [uc] using h
  · have h1 : Frm (RG w B g) w W := hf.mono fun _ h => h.elim
    refine ((h1.alloc o).grown hg (fun k e => .inl (.inr ?_))).set (.inl (.inl rfl)) _
    exact own_blk ho0 e
set_option maxRecDepth 100000 in
set_option maxHeartbeats 4000000 in
theorem radd_any (w : World) (B g : Nat) (U : List US) (x wt : Int) (h : IsR w B g U) (hB : B ≤ w.heap.size) :
    Calls Try.prog 11 #[.pointer (some ⟨g, 0, none⟩), .int .i64 x, .int .i64 wt] w fun e w' => e = .returned (.int .i64 (addE U x wt)) ∧ IsR w' B g (if addE U x wt = 0 then U ++ [⟨x, wt, 0⟩] else U) ∧ Frm (RG w B g) w w' := by
  have hs := h
  obtain ⟨h16, v, hb, ho⟩ := h
  obtain ⟨A, c, rfl, hr⟩ := rdR_of ho
  have hc := rfind_any w B g U x hs
  have FN : Frm (RG w B g) w w := Frm.refl _ _
  obtain ⟨E, hE⟩ : ∃ E, addE U x wt = E := ⟨_, rfl⟩
  rw [hE]
  unfold addE at hE
  by_cases hw : wt < 1 ∨ 16 < wt
  · rw [if_pos hw] at hE
    subst hE
    rw [if_neg (by decide)]
    clear hb ho hr hc
    by_cases h1 : wt < 1
    · go_enter Try.func11, Try.ntmps11
      go_wp2_with fail
      go_ret
      exact ⟨rfl, hs, FN⟩
    · have h2 : 16 < wt := by omega
      go_enter Try.func11, Try.ntmps11
      go_wp2_with fail
      go_ret
      exact ⟨rfl, hs, FN⟩
  · rw [if_neg hw] at hE
    have h1 : ¬ wt < 1 := by omega
    have h2 : ¬ 16 < wt := by omega
    by_cases hf : fi U x < U.length
    · rw [if_pos hf] at hE
      subst hE
      rw [if_neg (by decide)]
      rw [show fiV U x = (fi U x : Int) by unfold fiV; rw [if_pos hf]] at hc
      obtain ⟨f, hfe⟩ : ∃ f, fi U x = f := ⟨_, rfl⟩
      rw [hfe] at hc
      have f0 : (0 : Int) ≤ (f : Int) := Int.natCast_nonneg _
      clear hb ho hr hf hfe hw
      go_enter Try.func11, Try.ntmps11
      go_wp2_with fail
      refine hc.mono ?_
      rintro e w1 ⟨rfl, rfl⟩
      go_wp2_with fail
      go_ret
      exact ⟨rfl, hs, FN⟩
    · rw [if_neg hf] at hE
      rw [show fiV U x = -1 by unfold fiV; rw [if_neg hf]] at hc
      obtain ⟨n, hn⟩ : ∃ n, U.length = n := ⟨_, rfl⟩
      have k1 : w.cell? ⟨g, 0, none⟩ = some (.slice A U.length c) := hb.cell 0
      rw [hn] at hE k1
      by_cases hfull : 16 ≤ n
      · rw [if_pos hfull] at hE
        subst hE
        rw [if_neg (by decide)]
        have hfi : (16 : Int) ≤ (n : Int) := by omega
        clear hb ho hr hf hw hn
        go_enter Try.func11, Try.ntmps11
        go_wp2_with fail
        refine hc.mono ?_
        rintro e w1 ⟨rfl, rfl⟩
        go_wp2_with fail
        go_ret
        exact ⟨rfl, hs, FN⟩
      · rw [if_neg hfull] at hE
        subst hE
        rw [if_pos rfl]
        obtain ⟨i0, hi, hz0, hz1, hz2⟩ := info_parts info54
        have hfi : ¬ (16 : Int) ≤ (n : Int) := by omega
        have hgx : g < w.heap.size := hb.lt
        have ho1 := ho
        unfold RowR at ho1
        rw [hn] at ho1 hb ho
        have X1 := Lib.hid (And.intro hb ho)
        have HN := Lib.hid hn
        clear hb hr hf hw hn ho
        go_enter Try.func11, Try.ntmps11
        go_wp2_with fail
        refine hc.mono ?_
        rintro e w1 ⟨rfl, rfl⟩
        go_wp2_with (at_builtin; go_must (refine wpList_append_lies _ rfl _ _ 43 rfl B 54 i0 _ 3 24 Try.underlying43 hi hz0 hz1 hz2 zero_three (by omega) _ n (U.flatMap uc) rfl (ho1.alloc _) ⟨w1.heap.size, 0, none⟩ 1 1 [.int .i64 x, .int .i64 wt, .int .i64 0] rfl rfl (World.news_of_block (cs := #[.int .i64 x, .int .i64 wt, .int .i64 0]) (t := 54) (fr := (0, 0)) (heap_alloc_new w1 _)) (by simp [Value.oneCell']) (by omega) (by unfold maxLen; omega) (by omega) (by simp; omega) (w1.heap.size + 1) (by simp) ?_; intro gg cap w3 hown3 hgrow3 hat3 hlt3; obtain ⟨r0, r1, r2⟩ := radd_push HN.out (by omega) (Frm.refl _ _) X1.out.1 X1.out.2 X1.out.2 hown3 hgrow3; have z3 : w3.frozen? ⟨g, 0, none⟩ = false := r0.free 0; have x3 : w3.cell? ⟨g, 0, none⟩ = some (.slice A n c) := r0.cell 0))
        go_ret
        exact ⟨rfl, r1, r2⟩
end Go.Proofs.Ytiifepajnhdfjaa.A

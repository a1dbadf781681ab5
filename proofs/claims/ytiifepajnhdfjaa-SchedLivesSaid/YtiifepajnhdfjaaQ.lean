/- IDs; what Give hands out, read; alive. -/
import Derived.Test.YtiifepajnhdfjaaP
namespace Go.Proofs.Ytiifepajnhdfjaa.A
open Go.RowKit Go.Proofs.Ytiifepajnhdfjaa.K
set_option linter.unusedVariables false
set_option linter.unusedSimpArgs false

/-- A row of ints that calls have made. -/
def RowL (w : World) (B : Nat) (v : Value) (L : List Int) : Prop := w.ownsRow B 3 1 v L.length (L.map (Value.int .i64))
def idsTo (U : List US) (k : Nat) : List Int := (U.take k).map (·.id)
theorem idsTo_step {U : List US} {k : Nat} (h : k < U.length) : idsTo U (k + 1) = idsTo U k ++ [(U.getD k u0).id] := by
  unfold idsTo
  rw [List.take_succ_eq_append_getElem h, List.map_append, List.getD_eq_getElem?_getD, List.getElem?_eq_getElem h]
  rfl
theorem idsTo_len {U : List US} {k : Nat} (h : k ≤ U.length) : (idsTo U k).length = k := by
  unfold idsTo; rw [List.length_map, List.length_take]; omega
theorem idsTo_all (U : List US) : idsTo U U.length = U.map (·.id) := by unfold idsTo; rw [List.take_length]
theorem rowL_push {w W w3 : World} {gg cap : Nat} {i : Int} {l : List Int} {vo : Value} {o : Obj} {B : Nat} (hR : RowL W B vo l) (hB : w.heap.size ≤ B) (hF : Frm No w W)
    (hown : w3.ownsRow B 3 1 (.slice (some ⟨gg, 0, none⟩) (l.length + 1) cap) (l.length + 1) (l.map (Value.int .i64) ++ [.int .i64 i])) (hg : (W.alloc o).grownBy w3 vo.ownBlock) :
    RowL w3 B (.slice (some ⟨gg, 0, none⟩) (l.length + 1) cap) (l ++ [i]) ∧ Frm No w w3 := by
  have hR' : (W.alloc o).ownsRow B 3 1 vo l.length (l.map (Value.int .i64)) := World.ownsRow.alloc hR o
  refine ⟨?_, (hF.alloc o).grown hg (fun q e => .inr (Nat.le_trans hB (own_blk hR' e).1))⟩
  unfold RowL
  rw [List.map_append, List.length_append, List.length_singleton]
  exact hown
theorem info3' : (Try.prog.info? 3).map (fun i => (i.zero, i.size, i.bytes)) = some (some (.int .i64 0), 1, 8) := by kernel_rfl

set_option maxRecDepth 100000 in
set_option maxHeartbeats 4000000 in
theorem ids_any (w : World) (B g : Nat) (U : List US) (h : IsS w B g U) : Calls Try.prog 16 #[.pointer (some ⟨g, 0, none⟩)] w fun e w' => ∃ v, e = .returned v ∧ RowL w' w.heap.size v (U.map (·.id)) ∧ Frm No w w' := by
  obtain ⟨i0, hi, hz0, hz1, hz2⟩ := info_parts info3'
  have HS := Lib.hid h
  obtain ⟨h16, v, hb, ho⟩ := h
  obtain ⟨A, c, rfl, hr⟩ := rdU_of ho
  obtain ⟨m, hm⟩ : ∃ m, U.length = m := ⟨_, rfl⟩
  rw [hm] at hb h16
  have k1 : w.cell? ⟨g, 1, none⟩ = some (.slice A m c) := hb.cell 1
  have HM := Lib.hid hm
  have HR := Lib.hid hr
  have HAL := Lib.hid (idsTo_all U)
  clear hb ho hr hm
  go_enter Try.func16, Try.ntmps16
  go_wp2_with fail
  go_loopw [3, 13] (fun vo vi wr => ∃ i : Nat, vi = .int .i64 i ∧ i ≤ m ∧ RowL wr w.heap.size vo (idsTo U i) ∧ Frm No w wr) (fun _ vi _ => m - (intOf vi).toNat)
  case atStart => exact ⟨0, rfl, by omega, World.ownsRow_nil _ _ _ _, Frm.refl _ _⟩
  case round =>
    clear k1
    obtain ⟨i, rfl, hi', hR, F⟩ := hrel
    have i0' : (0 : Int) ≤ (i : Int) := Int.natCast_nonneg _
    by_cases hlt : i < m
    · have i1 : (i : Int) < (m : Int) := by omega
      obtain ⟨ad, rfl, -, ka, kb, kc⟩ := HR.out i (by rw [HM.out]; exact hlt)
      have ka := (World.cell?_of_block (F.block _ (World.block_lt_of_cell? w _ ka) (fun h => h))).trans ka
      have kb := (World.cell?_of_block (F.block _ (World.block_lt_of_cell? w _ kb) (fun h => h))).trans kb
      have kc := (World.cell?_of_block (F.block _ (World.block_lt_of_cell? w _ kc) (fun h => h))).trans kc
      have hstep := idsTo_step (U := U) (k := i) (by rw [HM.out]; exact hlt)
      obtain ⟨⟨xi, xw, xs⟩, hx⟩ : ∃ u, U.getD i u0 = u := ⟨_, rfl⟩
      rw [hx] at ka kb kc hstep
      simp only at ka kb kc hstep
      have hol := idsTo_len (U := U) (k := i) (by rw [HM.out]; omega)
      obtain ⟨R0, hRE⟩ : ∃ R0, idsTo U i = R0 := ⟨_, rfl⟩
      rw [hRE] at hR hol hstep
      have HSTEP := Lib.hid hstep
      have hR1 : RowL (wr.alloc (.cells #[.int .i64 xi, .int .i64 xw, .int .i64 xs] 60)) w.heap.size _ R0 := World.ownsRow.alloc hR _
      have F1 := F.alloc (.cells #[.int .i64 xi, .int .i64 xw, .int .i64 xs] 60)
      have hszW := F.size
      have hR10 := hR1
      unfold RowL at hR10
      clear hR F hx hRE hstep
      go_wp2_with (at_builtin; go_must (refine wpList_append_lies _ rfl _ _ 22 rfl w.heap.size 3 i0 _ 1 8 Try.underlying22 hi hz0 hz1 hz2 rfl (by omega) _ R0.length (R0.map (Value.int .i64)) rfl (hR10.alloc _) ⟨wr.heap.size + 1, 0, none⟩ 1 1 [.int .i64 xi] rfl rfl (World.news_of_block (cs := #[.int .i64 xi]) (t := 3) (fr := (0, 0)) (by have h := heap_alloc_new (wr.alloc (.cells #[.int .i64 xi, .int .i64 xw, .int .i64 xs] 60)) (.cells #[.int .i64 xi] 3); simpa using h)) (by simp [Value.oneCell']) (by omega) (by unfold maxLen; omega) (by omega) (by simp; omega) (wr.heap.size + 2) (by simp) ?_; intro gg cap w3 hown3 hgrow3 hat3 hlt3))
      go_roundw
      case rel =>
        obtain ⟨r1, r2⟩ := rowL_push hR1 (Nat.le_refl _) F1 hown3 hgrow3
        rw [hol] at r1
        exact ⟨i + 1, by go_num, by omega, by rw [HSTEP.out]; exact r1, r2⟩
      case measure => simp [intOf]; omega
    · have i1 : ¬ (i : Int) < (m : Int) := by omega
      have him : i = m := by omega
      subst him
      go_wp2_with fail
      go_ret
      exact ⟨_, rfl, by rw [← HAL.out, HM.out]; exact hR, F⟩
theorem ids_nil (w : World) : Calls Try.prog 16 #[.pointer none] w fun e w' => e = .returned (.slice none 0 0) ∧ Frm No w w' := by
  go_enter Try.func16, Try.ntmps16
  go_wp2_with fail
  go_ret
  exact ⟨rfl, Frm.refl No _⟩

theorem wc_at : ∀ (L : List Wn) (j : Nat), j < L.length → (L.flatMap wc)[j * 2]? = some (.int .i64 (L.getD j (0, 0)).1) ∧ (L.flatMap wc)[j * 2 + 1]? = some (.int .i64 (L.getD j (0, 0)).2)
  | [], j, h => absurd h (by simp)
  | p :: L, 0, _ => ⟨rfl, rfl⟩
  | p :: L, j + 1, h => by
    have ih := wc_at L j (by simpa using h)
    have e : (p :: L).flatMap wc = .int .i64 p.1 :: .int .i64 p.2 :: L.flatMap wc := rfl
    rw [e, show (j + 1) * 2 = j * 2 + 1 + 1 by omega]
    simpa [Nat.add_assoc] using ih
theorem rdW_of {w : World} {B : Nat} {v : Value} {L : List Wn} (h : RowW w B v L) : ∃ A c, v = .slice A L.length c ∧ L.length ≤ c ∧ RdW w A L := by
  rcases h.2 with ⟨rfl, h0⟩ | ⟨g, cap, cur, rfl, hg, hh, h1, h2, h3⟩
  · have hL : L = [] := List.eq_nil_of_length_eq_zero h0
    subst hL
    exact ⟨none, 0, rfl, Nat.le_refl _, fun j hj => absurd hj (by simp)⟩
  · refine ⟨_, cap, rfl, by omega, fun j hj => ⟨_, rfl, Blk.lt hh, ?_, ?_⟩⟩
    · exact World.ownsRow.cells h (g := g) rfl (j * 2) _ (wc_at L j hj).1
    · have := World.ownsRow.cells h (g := g) rfl (j * 2 + 1) _ (wc_at L j hj).2
      rwa [add_more] at this
theorem rdW_blk {w : World} {g : Nat} {L : List Wn} {cs : Array Value} {t : TypeId} (h : Blk w g cs t) (hc : cs.toList = L.flatMap wc) : RdW w (some ⟨g, 0, none⟩) L := fun j hj => by
  have h1 := wc_at L j hj
  rw [← hc, Array.getElem?_toList, Array.getElem?_toList] at h1
  have e1 : (⟨g, 0, none⟩ : Addr).add (j * 2) = ⟨g, j * 2, none⟩ := by unfold Addr.add; by_cases h0 : j * 2 = 0 <;> simp [h0]
  refine ⟨_, rfl, h.lt, ?_, ?_⟩
  · rw [e1, h.cell]; exact h1.1
  · rw [e1]; show w.cell? ⟨g, j * 2 + 1, none⟩ = _; rw [h.cell]; exact h1.2
theorem RdW.su {w w' : World} {A : Option Addr} {L : List Wn} {S : Nat → Prop} (h : RdW w A L) (f : Frm S w w') (hS : ∀ ad, A = some ad → ¬ S ad.block) : RdW w' A L := fun j hj => by
  obtain ⟨ad, e, hb, hc, hd⟩ := h j hj
  have hn := hS ad e
  exact ⟨ad, e, Nat.lt_of_lt_of_le hb f.size, (World.cell?_of_block (f.block _ (by rw [block_add]; exact hb) (by rw [block_add]; exact hn))).trans hc, (World.cell?_of_block (f.block _ (by show (ad.add (j * 2)).block < _; rw [block_add]; exact hb) (by show ¬ S (ad.add (j * 2)).block; rw [block_add]; exact hn))).trans hd⟩
end Go.Proofs.Ytiifepajnhdfjaa.A

/- Give's walk. -/
import Derived.Test.YtiifepajnhdfjaaH
namespace Go.Proofs.Ytiifepajnhdfjaa.A
open Go.RowKit Go.Proofs.Ytiifepajnhdfjaa.K
set_option linter.unusedVariables false
set_option linter.unusedSimpArgs false

theorem next_o (w : World) (B g gl : Nat) (U : List US) (L : List Int) (m : Nat) (o : Option Nat) (h : IsS w B g U) (hf : Fit U) (hL : RowI w gl L) (hl : L.length = m) (hm : U.length = m) (ho : bestTo U L m = o) :
    Calls Try.prog 21 #[.pointer (some ⟨g, 0, none⟩), .slice (some ⟨gl, 0, none⟩) m m] w fun e w' => e = .returned (.int .i64 (oV o)) ∧ Frm No w w' := by
  subst hm; subst ho
  exact next_ok w B g gl U L h hf hL hl
/-- In the course of a Give, in memory. -/
structure GI (w : World) (B g gl gg m : Nat) (ids : List Int) (R t : Int) (E : GS) (s : GS) (wr : World) : Prop where
  S : IsS wr B g s.U
  l : RowI wr gl s.L
  gt : RowI wr gg s.G
  mu : s.U.length = m
  ml : s.L.length = m
  mg : s.G.length = m
  ra : Rat s.U (R + (t - s.t))
  t0 : 0 ≤ s.t
  t1 : s.t ≤ t
  lb : ∀ j, 0 ≤ s.L.getD j 0 ∧ s.L.getD j 0 ≤ 1048576
  gb : ∀ j, 0 ≤ s.G.getD j 0 ∧ s.G.getD j 0 ≤ t - s.t
  fin : fin s = E
  ids : s.U.map (·.id) = ids
  fr : Frm (SU w B) w wr
theorem getD_setI (L : List Int) (i j : Nat) (v : Int) : (L.set i v).getD j 0 = if i = j ∧ j < L.length then v else L.getD j 0 := by
  rw [List.getD_eq_getElem?_getD, List.getElem?_set, List.getD_eq_getElem?_getD]
  by_cases h : i = j
  · subst h
    by_cases h2 : i < L.length
    · simp [h2]
    · simp [h2]
  · simp [h]

theorem rest_ids (U : List US) (L : List Int) (q : Int) : ∀ i, i ≤ U.length → (restTo U L q i).map (·.id) = U.map (·.id)
  | 0, _ => rfl
  | i + 1, hi => by
    unfold restTo
    split
    · rw [List.map_set, rest_ids U L q i (by omega)]
      have : (lift q (U.getD i u0)).id = (U.map (·.id)).getD i 0 := by
        show (U.getD i u0).id = _
        rw [List.getD_eq_getElem?_getD, List.getD_eq_getElem?_getD, List.getElem?_map, List.getElem?_eq_getElem (show i < U.length by omega)]; rfl
      rw [this, List.getD_eq_getElem?_getD, List.getElem?_eq_getElem (by rw [List.length_map]; omega)]
      exact List.set_getElem_self (by rw [List.length_map]; omega)
    · exact rest_ids U L q i (by omega)
theorem fi_ids : ∀ {U V : List US}, U.map (·.id) = V.map (·.id) → ∀ x, fi U x = fi V x
  | [], [], _, _ => rfl
  | [], _ :: _, h, _ => by cases h
  | _ :: _, [], h, _ => by cases h
  | a :: U, b :: V, h, x => by
    injection h with h1 h2
    have ih := fi_ids h2 x
    unfold fi at ih ⊢
    rw [List.findIdx_cons, List.findIdx_cons, show a.id = b.id from h1, ih]

theorem RowI.put {w : World} {g : Nat} {L : List Int} (h : RowI w g L) (i : Nat) (v : Int) : RowI (w.setCell ⟨g, i, none⟩ (.int .i64 v)) g (L.set i v) := by
  have := Blk.set h i (.int .i64 v)
  unfold RowI
  rw [List.map_set]
  simpa using this
theorem gi_step {w wr w5 : World} {B g gl gg m i : Nat} {ids : List Int} {R t n : Int} {E s : GS} (I : GI w B g gl gg m ids R t E s wr) (f5 : Frm No wr w5) (hne : gl < gg) (hgl : w.heap.size ≤ gl) (him : i < m)
    (hst : stepG s = some (stepAt s i)) (hn : piece (s.L.getD i 0) s.t = n) (hn0 : 0 < n ∧ n ≤ s.L.getD i 0 ∧ n ≤ s.t) (hRt : R + t ≤ 10000000000) :
    ∃ ad c x, g ≠ gl ∧ g ≠ gg ∧ ¬ (ad.add (i * 3)).block = gl ∧ ¬ (ad.add (i * 3)).block = gg ∧ w5.cell? ⟨g, 1, none⟩ = some (.slice (some ad) m c) ∧ w5.cell? ⟨(ad.add (i * 3)).block, (ad.add (i * 3)).off + 2, none⟩ = some (.int .i64 x) ∧
      (0 ≤ x ∧ x ≤ 1000000000000) ∧ w5.frozen? ⟨(ad.add (i * 3)).block, (ad.add (i * 3)).off + 2, none⟩ = false ∧
      GI w B g gl gg m ids R t E (stepAt s i) (((w5.setCell ⟨gl, i, none⟩ (.int .i64 (s.L.getD i 0 - n))).setCell ⟨gg, i, none⟩ (.int .i64 (s.G.getD i 0 + n))).setCell ⟨(ad.add (i * 3)).block, (ad.add (i * 3)).off + 2, none⟩ (.int .i64 (x + n))) := by
  have S5 := I.S.frmN f5
  have l5 := I.l.frm f5 (fun h => h)
  have g5 := I.gt.frm f5 (fun h => h)
  have hU : stepAt s i = ⟨s.U.set i (addS n (s.U.getD i u0)), s.L.set i (s.L.getD i 0 - n), s.G.set i (s.G.getD i 0 + n), s.t - n⟩ := by unfold stepAt; rw [hn]
  have l6 := l5.put i (s.L.getD i 0 - n)
  have g6 : RowI (w5.setCell ⟨gl, i, none⟩ (.int .i64 (s.L.getD i 0 - n))) gg s.G := Blk.other g5 (a := ⟨gl, i, none⟩) (by show gg ≠ gl; omega) _
  have g7 := g6.put i (s.G.getD i 0 + n)
  have l7 : RowI ((w5.setCell ⟨gl, i, none⟩ (.int .i64 (s.L.getD i 0 - n))).setCell ⟨gg, i, none⟩ (.int .i64 (s.G.getD i 0 + n))) gl (s.L.set i (s.L.getD i 0 - n)) := Blk.other l6 (a := ⟨gg, i, none⟩) (by show gl ≠ gg; omega) _
  have F7 : Frm (fun x => x = gl ∨ x = gg) w5 ((w5.setCell ⟨gl, i, none⟩ (.int .i64 (s.L.getD i 0 - n))).setCell ⟨gg, i, none⟩ (.int .i64 (s.G.getD i 0 + n))) := ((Frm.refl _ w5).set (p := ⟨gl, i, none⟩) (.inl (.inl rfl)) _).set (p := ⟨gg, i, none⟩) (.inl (.inr rfl)) _
  have S7 : IsS ((w5.setCell ⟨gl, i, none⟩ (.int .i64 (s.L.getD i 0 - n))).setCell ⟨gg, i, none⟩ (.int .i64 (s.G.getD i 0 + n))) B g s.U := S5.frm F7 (fun k cs ty hty hb e => by
    rcases e with rfl | rfl
    · exact Blk.ne hb l5 (by rcases hty with rfl | rfl <;> decide) rfl
    · exact Blk.ne hb g5 (by rcases hty with rfl | rfl <;> decide) rfl)
  have hiU : i < s.U.length := by rw [I.mu]; exact him
  obtain ⟨ad, c, kk, rd, kz, kS, kF⟩ := S7.put hiU ((s.U.getD i u0).sv + n)
  obtain ⟨ad', e, ⟨cs, hbk⟩, -, -, ks⟩ := rd i hiU
  injection e with e
  subst e
  obtain ⟨_, v, hb5, _⟩ := id S5
  have n1 : g ≠ gl := Blk.ne hb5 l5 (by decide)
  have n2 : g ≠ gg := Blk.ne hb5 g5 (by decide)
  have q1 : ¬ ad.block = gl := fun e => by subst e; exact Blk.ne hbk l7 (by decide) rfl
  have q2 : ¬ ad.block = gg := fun e => by subst e; exact Blk.ne hbk g7 (by decide) rfl
  have hfit := I.ra.fit (by have := I.t0; omega)
  have hbl : ad.block < w5.heap.size := by have := hbk.lt; simpa using this
  have e1 : ∀ o, ((w5.setCell ⟨gl, i, none⟩ (.int .i64 (s.L.getD i 0 - n))).setCell ⟨gg, i, none⟩ (.int .i64 (s.G.getD i 0 + n))).cell? ⟨(ad.add (i * 3)).block, o, none⟩ = w5.cell? ⟨(ad.add (i * 3)).block, o, none⟩ := fun o =>
    World.cell?_of_block (F7.block _ (by show (ad.add (i * 3)).block < _; rw [block_add]; exact hbl) (by show ¬ ((ad.add (i * 3)).block = gl ∨ (ad.add (i * 3)).block = gg); rw [block_add]; exact fun e => e.elim q1 q2))
  have e2 : ((w5.setCell ⟨gl, i, none⟩ (.int .i64 (s.L.getD i 0 - n))).setCell ⟨gg, i, none⟩ (.int .i64 (s.G.getD i 0 + n))).cell? ⟨g, 1, none⟩ = w5.cell? ⟨g, 1, none⟩ :=
    World.cell?_of_block (F7.block _ hb5.lt (fun e => e.elim n1 n2))
  obtain ⟨w1, w2, w3, w4⟩ := hfit _ (memU hiU)
  refine ⟨ad, c, (s.U.getD i u0).sv, n1, n2, by rw [block_add]; exact q1, by rw [block_add]; exact q2, by rw [← e2, kk, I.mu], by rw [← e1]; exact ks, ⟨w3, w4⟩, ?_, ?_⟩
  · have hbq := F7.block (ad.add (i * 3)).block (by rw [block_add]; exact hbl) (by rw [block_add]; exact fun e => e.elim q1 q2)
    unfold World.frozen? at kz ⊢
    rw [show ((w5.setCell ⟨gl, i, none⟩ (.int .i64 (s.L.getD i 0 - n))).setCell ⟨gg, i, none⟩ (.int .i64 (s.G.getD i 0 + n))).heap[(ad.add (i * 3)).block]? = w5.heap[(ad.add (i * 3)).block]? from hbq] at kz
    exact kz
  · obtain ⟨a1, a2, a3⟩ := step_t hst
    have hra := step_rat I.ra hst
    rw [hU] at hra a2 a3 ⊢
    refine ⟨kS, RowI.su l7 kF, RowI.su g7 kF, by simp [I.mu], by simp [I.ml], by simp [I.mg], ?_, a2, by have := I.t1; show s.t - n ≤ t; omega, fun j => ?_, fun j => ?_, ?_, ?_, ?_⟩
    · show Rat _ (R + (t - (s.t - n)))
      rw [show R + (t - (s.t - n)) = R + (t - s.t) + (s.t - (s.t - n)) by omega]
      exact hra
    · show 0 ≤ (s.L.set i _).getD j 0 ∧ _
      rw [getD_setI]
      have := I.lb j
      have := I.lb i
      split <;> omega
    · show 0 ≤ (s.G.set i _).getD j 0 ∧ (s.G.set i _).getD j 0 ≤ t - (s.t - n)
      rw [getD_setI]
      have := I.gb j
      have := I.gb i
      split <;> omega
    · rw [← I.fin, fin_step hst, hU]
    · rw [← I.ids]
      show (s.U.set i (addS n (s.U.getD i u0))).map (·.id) = _
      rw [List.map_set]
      have : (addS n (s.U.getD i u0)).id = (s.U.map (·.id))[i]'(by rw [List.length_map]; exact hiU) := by
        show (s.U.getD i u0).id = _
        rw [List.getElem_map, List.getD_eq_getElem?_getD, List.getElem?_eq_getElem hiU]; rfl
      rw [this]
      exact List.set_getElem_self (by rw [List.length_map]; exact hiU)
    · have A1 : Frm (SU w B) w w5 := I.fr.thenN f5
      have A2 := A1.then F7 (fun k hk => .inr (by rcases hk with rfl | rfl <;> omega))
      exact Frm.thenS A2 kF

theorem info35 : (Try.prog.info? 35).map (fun i => (i.zero, i.size, i.bytes)) = some (some (.agg #[.int .i64 0, .int .i64 0]), 2, 16) := by kernel_rfl
theorem zero_cells : (Value.agg #[.int .i64 0, .int .i64 0]).cells.size = 2 := by kernel_rfl
def wc (x : Wn) : List Value := [.int .i64 x.1, .int .i64 x.2]
def RowW (w : World) (B : Nat) (v : Value) (L : List Wn) : Prop := w.ownsRow B 35 2 v L.length (L.flatMap wc)
/-- What comes of a Give, user by user. -/
def outTo (W : List Wn) (U : List US) (G : List Int) : Nat → List Wn
  | 0 => []
  | j + 1 => outTo W U G j ++ [((W.getD j (0, 0)).1, G.getD (fi U (W.getD j (0, 0)).1) 0)]
theorem outTo_len (W : List Wn) (U : List US) (G : List Int) : ∀ j, (outTo W U G j).length = j
  | 0 => rfl
  | j + 1 => by unfold outTo; rw [List.length_append, outTo_len W U G j]; rfl
theorem rowW_push {w W w3 : World} {gg cap : Nat} {p : Wn} {l : List Wn} {vo : Value} {o : Obj} (hR : RowW W w.heap.size vo l) (hF : Frm No w W)
    (hown : w3.ownsRow w.heap.size 35 2 (.slice (some ⟨gg, 0, none⟩) (l.length + 1) cap) (l.length + 1) (l.flatMap wc ++ wc p)) (hg : (W.alloc o).grownBy w3 vo.ownBlock) :
    RowW w3 w.heap.size (.slice (some ⟨gg, 0, none⟩) (l.length + 1) cap) (l ++ [p]) ∧ Frm No w w3 := by
  have hR' : (W.alloc o).ownsRow w.heap.size 35 2 vo l.length (l.flatMap wc) := World.ownsRow.alloc hR o
  refine ⟨?_, (hF.alloc o).grown hg (fun q e => .inr (own_blk hR' e).1)⟩
  unfold RowW
  rw [List.flatMap_append, List.length_append, List.length_singleton]
  simpa using hown
theorem own_le {w : World} {b base e size n : Nat} {v : Value} {xs : List Value} (h : w.ownsRow base e size v n xs) (hb : b ≤ base) : w.ownsRow b e size v n xs := by
  obtain ⟨h1, h2⟩ := h
  refine ⟨h1, ?_⟩
  rcases h2 with h2 | ⟨g, cap, cur, hv, hg, r⟩
  · exact .inl h2
  · exact .inr ⟨g, cap, cur, hv, Nat.le_trans hb hg, r⟩

set_option maxRecDepth 100000 in
set_option maxHeartbeats 8000000 in
theorem give_no (w : World) (B g : Nat) (U : List US) (t : Int) (A : Option Addr) (n c : Nat) (W : List Wn) (E : Int) (h : IsS w B g U) (hW : RdW w A W) (hn : W.length = n) (hn2 : n ≤ 1000) (hcap : n ≤ c) (hE : askE U t W = E) (hE0 : E ≠ 0) :
    Calls Try.prog 9 #[.pointer (some ⟨g, 0, none⟩), .int .i64 t, .slice A n c] w fun e w' => e = .returned (.tuple #[.slice none 0 0, .int .i64 E]) ∧ Frm No w w' := by
  have ha := ask_any w B g U t A n c W h hW hn hn2 hcap
  rw [hE] at ha
  obtain ⟨_, v, hb, _⟩ := h
  have k0 : w.cell? ⟨g, 0, none⟩ = some (.bool true) := hb.cell 0
  have hd : (E != 0) = true := by rw [bne_iff_ne]; exact hE0
  go_enter Try.func9, Try.ntmps9
  go_wp2_with fail
  refine ha.mono ?_
  rintro e w1 ⟨rfl, f1⟩
  go_wp2_with fail
  go_ret2
  exact ⟨rfl, f1⟩

set_option maxRecDepth 100000 in
set_option maxHeartbeats 8000000 in
theorem give_ok (w : World) (B g : Nat) (U : List US) (t : Int) (A : Option Addr) (n c : Nat) (W : List Wn) (R : Int) (h : IsS w B g U) (hWS : ∀ w', Frm (SU w B) w w' → RdW w' A W) (hn : W.length = n) (hn2 : n ≤ 1000) (hcap : n ≤ c) (hE : askE U t W = 0) (hR : Rat U R) (hR2 : R ≤ 1000000000) (hB : B ≤ w.heap.size)
    (ht0 : 0 ≤ t) (ht1 : t ≤ 65536) (hin : ∀ j, j < n → fi U (W.getD j (0, 0)).1 < U.length) (hwb : ∀ j, 0 ≤ (leftTo U W n).getD j 0 ∧ (leftTo U W n).getD j 0 ≤ 1048576) (E : GS) (hEq : fin ⟨restTo U (leftTo U W n) (leastTo U (leftTo U W n) U.length) U.length, leftTo U W n, List.replicate U.length 0, t⟩ = E) :
    Calls Try.prog 9 #[.pointer (some ⟨g, 0, none⟩), .int .i64 t, .slice A n c] w fun e w' => ∃ v : Value, e = .returned (.tuple #[v, .int .i64 0]) ∧ RowW w' w.heap.size v (outTo W E.U E.G n) ∧ IsS w' B g E.U ∧ Rat E.U (R + t) ∧ Frm (SU w B) w w' := by
  have hW := hWS w (Frm.refl _ _)
  have HWS := Lib.hid hWS
  clear hWS
  have ha := ask_any w B g U t A n c W h hW hn hn2 hcap
  rw [hE] at ha
  have hS0 := h
  obtain ⟨h16, v, hb, ho⟩ := h
  obtain ⟨A1, c1, rfl, hr⟩ := rdU_of ho
  have k0 : w.cell? ⟨g, 0, none⟩ = some (.bool true) := hb.cell 0
  have info3 : (Try.prog.info? 3).map (fun i => (i.zero, i.size, i.bytes)) = some (some (.int .i64 0), 1, 8) := by kernel_rfl
  obtain ⟨i0, hi, hz0, hz1, hz2⟩ := info_parts info3
  obtain ⟨m, hm⟩ : ∃ m, U.length = m := ⟨_, rfl⟩
  have hmk : ∀ w', (Instr.makeSlice 22 (.int .i64 (m : Int)) (.int .i64 (m : Int))).run Try.prog w' = .ok (.slice (some ⟨w'.heap.size, 0, none⟩) m m) (w'.alloc (.cells ((List.replicate m (0 : Int)).map (Value.int .i64)).toArray 3)) := fun w' => by
    have := run_make (P := Try.prog) w' 22 3 i0 _ Try.underlying22 hi hz0 .i64 .i64 (m : Int) (m : Int) (by omega) (by omega) (by rw [hz2]; omega) (by omega)
    rw [hz1, Int.toNat_natCast, made_zero] at this
    exact this
  have HEQ := Lib.hid hEq
  have HMm0 := Lib.hid hm
  clear hEq
  go_enter Try.func9, Try.ntmps9
  go_wp2_with fail
  refine ha.mono ?_
  rintro e w1 ⟨rfl, f1⟩
  have hS1 := hS0.frmN f1
  have hW1 := hW.frmN f1
  have hb1 := f1.blk hb (fun h => h)
  clear ha k0 hS0 hW hb ho hr
  go_wp2_with fail
  refine (left_ok _ B g U A n c W hS1 hW1 hn hn2 hin).mono ?_
  rintro e w2 ⟨rfl, l2, f2⟩
  have F2 := f1.thenN f2
  have hS2 := hS1.frmN f2
  have hW2 := hW1.frmN f2
  have hb2 := f2.blk hb1 (fun h => h)
  have k1 : w2.cell? ⟨g, 1, none⟩ = some (.slice A1 U.length c1) := hb2.cell 1
  obtain ⟨gl, hgl⟩ : ∃ gl, w1.heap.size = gl := ⟨_, rfl⟩
  rw [hgl] at l2
  rw [hgl, hm]
  rw [hm] at k1
  have hglw : w.heap.size ≤ gl := by have := f1.size; omega
  have r3 : RowI (w2.alloc (.cells ((List.replicate m (0 : Int)).map (Value.int .i64)).toArray 3)) w2.heap.size (List.replicate m 0) := Blk.new _ _ _
  have hl2 := Blk.lt l2
  have l3 : RowI (w2.alloc (.cells ((List.replicate m (0 : Int)).map (Value.int .i64)).toArray 3)) gl (leftTo U W n) := Blk.alloc l2 _
  have hS3 := hS2.alloc (.cells ((List.replicate m (0 : Int)).map (Value.int .i64)).toArray 3)
  have F3 := F2.alloc (.cells ((List.replicate m (0 : Int)).map (Value.int .i64)).toArray 3)
  have hll := leftTo_len U W n
  obtain ⟨gg, hgg⟩ : ∃ gg, w2.heap.size = gg := ⟨_, rfl⟩
  rw [hgg] at r3 hl2
  clear l2 hS2 hW1 hb1 hS1 f1 f2 F2 hgl hb2
  generalize ((List.replicate m (0 : Int)).map (Value.int .i64)).toArray = z0 at *
  go_wp2_with fail
  try rw [hgg]
  generalize w2.alloc (.cells z0 3) = w3 at *
  have hrest := rest_ok w3 B g gl U (leftTo U W n) hS3 (hR.fit (by omega)) l3 hll (fun j => (hwb j).1)
  rw [hm] at hrest
  refine hrest.mono ?_
  rintro e w4 ⟨rfl, hS4, f4⟩
  go_wp2_with fail
  obtain ⟨U4, hU4⟩ : ∃ V, restTo U (leftTo U W n) (leastTo U (leftTo U W n) m) m = V := ⟨_, rfl⟩
  have hEf : fin ⟨U4, leftTo U W n, List.replicate m 0, t⟩ = E := by rw [← HEQ.out, HMm0.out, hU4]
  rw [hU4] at hS4
  have hra : Rat U4 R := by rw [← hU4]; exact rest_rat hR (least_rat hR m (by omega)) m (by omega)
  have hid4 : U4.map (·.id) = U.map (·.id) := by rw [← hU4]; exact rest_ids _ _ _ _ (by omega)
  have hl4 : U4.length = m := by rw [← hU4, restTo_len]; exact hm
  have G4 := Frm.thenS (Frm.su (B := B) F3) f4
  have HI0 : GI w B g gl gg m (U.map (·.id)) R t E ⟨U4, leftTo U W n, List.replicate m 0, t⟩ w4 :=
    ⟨hS4, RowI.su l3 f4, RowI.su r3 f4, hl4, by rw [hll]; exact hm, by simp, by show Rat U4 (R + (t - t)); rw [show R + (t - t) = R by omega]; exact hra, ht0, Int.le_refl _, hwb, fun j => by
      show 0 ≤ (List.replicate m (0 : Int)).getD j 0 ∧ _
      rw [List.getD_eq_getElem?_getD, List.getElem?_replicate]
      split <;> simp, hEf, hid4, G4⟩
  have HW2 := Lib.hid hW2
  have HIN := Lib.hid hin
  have HEF := Lib.hid hEf
  have HU4 := Lib.hid hU4
  have HMm := Lib.hid hm
  clear hS4 hra hid4 hl4 G4 l3 r3 f4 F3 hS3 hrest hwb hin hU4 hEf hW2 hR k1 hE
  go_loopw [1] (fun vt wr => ∃ s : GS, vt = .int .i64 s.t ∧ GI w B g gl gg m (U.map (·.id)) R t E s wr) (fun vt _ => (intOf vt).toNat)
  case atStart => exact ⟨_, rfl, HI0⟩
  case round =>
    clear HI0
    obtain ⟨s, rfl, I⟩ := hrel
    by_cases hpos : 0 < s.t
    · have hnext := fun o ho => next_o wr B g gl s.U s.L m o I.S (I.ra.fit (by have := I.t0; omega)) I.l I.ml I.mu ho
      cases ho : bestTo s.U s.L m with
      | none =>
        have hend : stepG s = none := by unfold stepG; rw [if_pos hpos, I.mu, ho]; rfl
        have hnx := hnext _ ho
        have hov : oV none = -1 := rfl
        rw [hov] at hnx
        clear hnext ho
        go_wp2_with fail
        refine hnx.mono ?_
        rintro e w5 ⟨rfl, f5⟩
        have I : GI w B g gl gg m (U.map (·.id)) R t E s w5 := ⟨I.S.frmN f5, I.l.frm f5 (fun h => h), I.gt.frm f5 (fun h => h), I.mu, I.ml, I.mg, I.ra, I.t0, I.t1, I.lb, I.gb, I.fin, I.ids, I.fr.thenN f5⟩
        clear hnx f5
        obtain rfl : s = E := by rw [← I.fin]; exact (fin_none hend).symm
        obtain ⟨i5, hi5, hy0, hy1, hy2⟩ := info_parts info35
        have hG := I.gt
        have hS := I.S
        have F0 := I.fr
        have hidq := I.ids
        have hmg := I.mg
        have hmu := I.mu
        have hra : Rat s.U (R + t) := fun u hu => by
          obtain ⟨a1, a2, a3, a4⟩ := I.ra u hu
          have h1 := I.t0
          have : u.wt * (R + (t - s.t)) ≤ u.wt * (R + t) := Int.mul_le_mul_of_nonneg_left (by omega) (by omega)
          exact ⟨a1, a2, a3, by omega⟩
        have hsz0 := F0.size
        have HRA := Lib.hid hra
        have HFI := Lib.hid (fi_ids hidq)
        have HG := Lib.hid hG
        have HSS := Lib.hid hS
        have HF0 := Lib.hid F0
        clear hend I hra hidq hG hS F0
        go_wp2_with fail
        go_loopw [13, 88] (fun vo vj wr => ∃ j : Nat, vj = .int .i64 j ∧ j ≤ n ∧ RowW wr w5.heap.size vo (outTo W s.U s.G j) ∧ Frm No w5 wr) (fun _ vj _ => n - (intOf vj).toNat)
        case atStart => exact ⟨0, rfl, by omega, World.ownsRow_nil _ _ _ _, Frm.refl _ _⟩
        case round =>
          obtain ⟨j, rfl, hj, hR, F⟩ := hrel
          have j0 : (0 : Int) ≤ (j : Int) := Int.natCast_nonneg _
          by_cases hlt : j < n
          · have j1 : (j : Int) < (n : Int) := by omega
            obtain ⟨ad, rfl, -, k0, k2⟩ := (HWS.out wr (HF0.out.thenN F)) j (by omega)
            have hfl := HIN.out j hlt
            have hstep : outTo W s.U s.G (j + 1) = outTo W s.U s.G j ++ [((W.getD j (0, 0)).1, s.G.getD (fi s.U (W.getD j (0, 0)).1) 0)] := rfl
            have hol := outTo_len W s.U s.G j
            obtain ⟨⟨p, q⟩, hp⟩ : ∃ u, W.getD j (0, 0) = u := ⟨_, rfl⟩
            rw [hp] at k0 k2 hfl hstep
            simp only at k0 k2 hfl hstep
            rw [← HFI.out p] at hfl
            obtain ⟨f, hf⟩ : ∃ f, fi s.U p = f := ⟨_, rfl⟩
            rw [hf] at hfl hstep
            rw [HMm.out] at hfl
            obtain ⟨R0, hRE⟩ : ∃ R0, outTo W s.U s.G j = R0 := ⟨_, rfl⟩
            rw [hRE] at hR hol hstep
            obtain ⟨x, hx⟩ : ∃ x, s.G.getD f 0 = x := ⟨_, rfl⟩
            rw [hx] at hstep
            have HSTEP := Lib.hid hstep
            have HFF := Lib.hid (And.intro hf (show f < s.U.length by rw [hmu]; exact hfl))
            have hS1 := (HSS.out.frmN F).alloc (.cells #[.int .i64 p, .int .i64 q] 35)
            have hG1 : RowI (wr.alloc (.cells #[.int .i64 p, .int .i64 q] 35)) gg s.G := Blk.alloc (HG.out.frm F (fun h => h)) _
            have hR1 : RowW (wr.alloc (.cells #[.int .i64 p, .int .i64 q] 35)) w5.heap.size _ R0 := World.ownsRow.alloc hR _
            have F1 := F.alloc (.cells #[.int .i64 p, .int .i64 q] 35)
            have b15 : Blk (wr.alloc (.cells #[.int .i64 p, .int .i64 q] 35)) wr.heap.size #[.int .i64 p, .int .i64 q] 35 := Blk.new _ _ _
            have hl2 : R0.length ≤ 1000 := by omega
            clear hR hp hRE hstep hf hol F
            go_wp2_with fail
            generalize wr.alloc (.cells #[.int .i64 p, .int .i64 q] 35) = W1 at *
            obtain ⟨g15, hg15⟩ : ∃ x, wr.heap.size = x := ⟨_, rfl⟩
            rw [hg15] at b15
            rw [hg15]
            have c15 : W1.cell? ⟨g15, 0, none⟩ = some (.int .i64 p) := b15.cell 0
            have h15 := b15.lt
            have cgf : W1.cell? ⟨gg, f, none⟩ = some (.int .i64 x) := by
              rw [Blk.cell hG1, ← hx]
              simp [List.getElem?_eq_getElem (show f < s.G.length by rw [hmg]; exact hfl), List.getD_eq_getElem?_getD]
            have hgg := Blk.lt hG1
            have f0 : (0 : Int) ≤ (f : Int) := Int.natCast_nonneg _
            have f1 : (f : Int) < (m : Int) := by omega
            have hR10 := hR1
            unfold RowW at hR10
            have hszW := F1.size
            clear hx hG1 b15 k0 k2 hg15 hfl
            go_region_law
              (first
                | (refine step_append_lies _ (by rfl) _ _ _ (by rfl) w5.heap.size 35 i5 _ 2 16 Try.underlying28 hi5 hy0 hy1 hy2 zero_cells (by omega) _ R0.length (R0.flatMap wc) (by rfl) ((hR10.alloc _).drew) ⟨W1.heap.size, 0, none⟩ 1 1 [.int .i64 p, .int .i64 x] (by rfl) (by rfl) (World.news_of_block (cs := #[.int .i64 p, .int .i64 x]) (t := 35) (fr := (0, 0)) (heap_alloc_new W1 _)) (by simp [Value.oneCell']) (by omega) (by unfold maxLen; omega) (by omega) (by simp; omega) (W1.heap.size + 1) (by simp) ?_; intro gn cap w9 hown1 hgrow hat hlt3)
                | (go_simp; go_at_call 17; refine (find_is _ B g s.U p f (by exact hS1) HFF.out.1 HFF.out.2).mono ?_; rintro e w8 ⟨rfl, rfl⟩))
            all_goals
              go_wp2_with fail
              go_roundw
              case rel =>
                obtain ⟨r1, r2⟩ := rowW_push (o := .cells #[.int .i64 p, .int .i64 x] 35) (p := (p, x)) hR1 F1 (by exact hown1) ⟨hgrow.os, hgrow.tape, hgrow.output, hgrow.size, hgrow.block⟩
                exact ⟨j + 1, by go_num, by omega, by rw [HSTEP.out]; exact r1, r2⟩
              case measure => simp [intOf]; omega
          · have j1 : ¬ (j : Int) < (n : Int) := by omega
            have hjn : j = n := by omega
            subst hjn
            go_wp2_with fail
            go_ret2
            exact ⟨_, rfl, own_le hR hsz0, HSS.out.frmN F, HRA.out, HF0.out.thenN F⟩
      | some i =>
        have him := bestTo_lt _ _ _ _ ho
        have hlp := bestTo_pos _ _ _ _ ho
        have hst : stepG s = some (stepAt s i) := by unfold stepG; rw [if_pos hpos, I.mu, ho]; rfl
        have hnx := hnext _ ho
        have hov : oV (some i) = (i : Int) := rfl
        rw [hov] at hnx
        have i0 : (0 : Int) ≤ (i : Int) := Int.natCast_nonneg _
        have i1 : (i : Int) < (m : Int) := by omega
        have hpc := piece_pos hlp hpos
        have hlb := I.lb i
        have hgb := I.gb i
        have ht1 := I.t1
        obtain ⟨st, hste⟩ : ∃ x, s.t = x := ⟨_, rfl⟩
        have HI := Lib.hid I
        rw [hste] at hpos hpc ht1 hgb ⊢
        clear hnext I
        go_wp2_with fail
        refine hnx.mono ?_
        rintro e w5 ⟨rfl, f5⟩
        have hL5 := HI.out.l.frm f5 (fun h => h)
        have hG5 := HI.out.gt.frm f5 (fun h => h)
        have cl : w5.cell? ⟨gl, i, none⟩ = some (.int .i64 (s.L.getD i 0)) := by
          rw [Blk.cell hL5]
          simp [List.getElem?_eq_getElem (show i < s.L.length by rw [HI.out.ml]; exact him), List.getD_eq_getElem?_getD]
        have zl := Blk.free hL5 i
        have cg : w5.cell? ⟨gg, i, none⟩ = some (.int .i64 (s.G.getD i 0)) := by
          rw [Blk.cell hG5]
          simp [List.getElem?_eq_getElem (show i < s.G.length by rw [HI.out.mg]; exact him), List.getD_eq_getElem?_getD]
        have zg := Blk.free hG5 i
        obtain ⟨l, hl⟩ : ∃ l, s.L.getD i 0 = l := ⟨_, rfl⟩
        obtain ⟨gv, hgv⟩ : ∃ x, s.G.getD i 0 = x := ⟨_, rfl⟩
        rw [hl] at cl hpc hlp hlb
        rw [hgv] at cg hgb
        have hlg : gl < gg := hl2
        clear hL5 hG5 hnx
        by_cases h64 : l < 64
        · by_cases hts : st < l
          · have hts' : st < 64 := by omega
            have hn : piece (s.L.getD i 0) s.t = st := by unfold piece; rw [hl, hste, if_pos h64, if_pos hts]
            obtain ⟨ad, c', x, n1, n2, q1, q2, kk, ks, ⟨x0, x1⟩, kz, I9⟩ := gi_step HI.out f5 hlg hglw him hst hn (by rw [hl, hste]; omega) (by omega)
            rw [hl, hgv] at I9
            have I10 := Lib.hid I9
            have hst' : (stepAt s i).t = st - st := by show s.t - piece (s.L.getD i 0) s.t = _; rw [hn, hste]
            have HST := Lib.hid hst'
            clear I9 hst' hn hst hste hl hgv
            go_wp2_with fail
            go_roundw
            case rel => exact ⟨stepAt s i, by rw [HST.out] <;> simp, I10.out⟩
            case measure => simp [intOf]; omega
          · have hxx : True := trivial
            have hn : piece (s.L.getD i 0) s.t = l := by unfold piece; rw [hl, hste, if_pos h64, if_neg hts]
            obtain ⟨ad, c', x, n1, n2, q1, q2, kk, ks, ⟨x0, x1⟩, kz, I9⟩ := gi_step HI.out f5 hlg hglw him hst hn (by rw [hl, hste]; omega) (by omega)
            rw [hl, hgv, Int.sub_self] at I9
            have I10 := Lib.hid I9
            have hst' : (stepAt s i).t = st - l := by show s.t - piece (s.L.getD i 0) s.t = _; rw [hn, hste]
            have HST := Lib.hid hst'
            clear I9 hst' hn hst hste hl hgv
            go_wp2_with fail
            go_roundw
            case rel => exact ⟨stepAt s i, by rw [HST.out] <;> simp, I10.out⟩
            case measure => simp [intOf]; omega
        · by_cases hts : st < 64
          · have hts' : st < l := by omega
            have hn : piece (s.L.getD i 0) s.t = st := by unfold piece; rw [hl, hste, if_neg h64, if_pos hts]
            obtain ⟨ad, c', x, n1, n2, q1, q2, kk, ks, ⟨x0, x1⟩, kz, I9⟩ := gi_step HI.out f5 hlg hglw him hst hn (by rw [hl, hste]; omega) (by omega)
            rw [hl, hgv] at I9
            have I10 := Lib.hid I9
            have hst' : (stepAt s i).t = st - st := by show s.t - piece (s.L.getD i 0) s.t = _; rw [hn, hste]
            have HST := Lib.hid hst'
            clear I9 hst' hn hst hste hl hgv
            go_wp2_with fail
            go_roundw
            case rel => exact ⟨stepAt s i, by rw [HST.out] <;> simp, I10.out⟩
            case measure => simp [intOf]; omega
          · have hxx : True := trivial
            have hn : piece (s.L.getD i 0) s.t = 64 := by unfold piece; rw [hl, hste, if_neg h64, if_neg hts]
            obtain ⟨ad, c', x, n1, n2, q1, q2, kk, ks, ⟨x0, x1⟩, kz, I9⟩ := gi_step HI.out f5 hlg hglw him hst hn (by rw [hl, hste]; omega) (by omega)
            rw [hl, hgv] at I9
            have I10 := Lib.hid I9
            have hst' : (stepAt s i).t = st - 64 := by show s.t - piece (s.L.getD i 0) s.t = _; rw [hn, hste]
            have HST := Lib.hid hst'
            clear I9 hst' hn hst hste hl hgv
            go_wp2_with fail
            go_roundw
            case rel => exact ⟨stepAt s i, by rw [HST.out] <;> simp, I10.out⟩
            case measure => simp [intOf]; omega
    · have hend : stepG s = none := by unfold stepG; rw [if_neg hpos]
      obtain ⟨w6, rfl⟩ : ∃ w6, w6 = wr := ⟨_, rfl⟩
      obtain rfl : s = E := by rw [← I.fin]; exact (fin_none hend).symm
      obtain ⟨i5, hi5, hy0, hy1, hy2⟩ := info_parts info35
      have hG := I.gt
      have hS := I.S
      have F0 := I.fr
      have hidq := I.ids
      have hmg := I.mg
      have hmu := I.mu
      have hra : Rat s.U (R + t) := fun u hu => by
        obtain ⟨a1, a2, a3, a4⟩ := I.ra u hu
        have h1 := I.t0
        have : u.wt * (R + (t - s.t)) ≤ u.wt * (R + t) := Int.mul_le_mul_of_nonneg_left (by omega) (by omega)
        exact ⟨a1, a2, a3, by omega⟩
      have hsz0 := F0.size
      have HRA := Lib.hid hra
      have HFI := Lib.hid (fi_ids hidq)
      have HG := Lib.hid hG
      have HSS := Lib.hid hS
      have HF0 := Lib.hid F0
      clear hend I hra hidq hG hS F0
      go_wp2_with fail
      go_loopw [13, 88] (fun vo vj wr => ∃ j : Nat, vj = .int .i64 j ∧ j ≤ n ∧ RowW wr w6.heap.size vo (outTo W s.U s.G j) ∧ Frm No w6 wr) (fun _ vj _ => n - (intOf vj).toNat)
      case atStart => exact ⟨0, rfl, by omega, World.ownsRow_nil _ _ _ _, Frm.refl _ _⟩
      case round =>
        obtain ⟨j, rfl, hj, hR, F⟩ := hrel
        have j0 : (0 : Int) ≤ (j : Int) := Int.natCast_nonneg _
        by_cases hlt : j < n
        · have j1 : (j : Int) < (n : Int) := by omega
          obtain ⟨ad, rfl, -, k0, k2⟩ := (HWS.out wr (HF0.out.thenN F)) j (by omega)
          have hfl := HIN.out j hlt
          have hstep : outTo W s.U s.G (j + 1) = outTo W s.U s.G j ++ [((W.getD j (0, 0)).1, s.G.getD (fi s.U (W.getD j (0, 0)).1) 0)] := rfl
          have hol := outTo_len W s.U s.G j
          obtain ⟨⟨p, q⟩, hp⟩ : ∃ u, W.getD j (0, 0) = u := ⟨_, rfl⟩
          rw [hp] at k0 k2 hfl hstep
          simp only at k0 k2 hfl hstep
          rw [← HFI.out p] at hfl
          obtain ⟨f, hf⟩ : ∃ f, fi s.U p = f := ⟨_, rfl⟩
          rw [hf] at hfl hstep
          rw [HMm.out] at hfl
          obtain ⟨R0, hRE⟩ : ∃ R0, outTo W s.U s.G j = R0 := ⟨_, rfl⟩
          rw [hRE] at hR hol hstep
          obtain ⟨x, hx⟩ : ∃ x, s.G.getD f 0 = x := ⟨_, rfl⟩
          rw [hx] at hstep
          have HSTEP := Lib.hid hstep
          have HFF := Lib.hid (And.intro hf (show f < s.U.length by rw [hmu]; exact hfl))
          have hS1 := (HSS.out.frmN F).alloc (.cells #[.int .i64 p, .int .i64 q] 35)
          have hG1 : RowI (wr.alloc (.cells #[.int .i64 p, .int .i64 q] 35)) gg s.G := Blk.alloc (HG.out.frm F (fun h => h)) _
          have hR1 : RowW (wr.alloc (.cells #[.int .i64 p, .int .i64 q] 35)) w6.heap.size _ R0 := World.ownsRow.alloc hR _
          have F1 := F.alloc (.cells #[.int .i64 p, .int .i64 q] 35)
          have b15 : Blk (wr.alloc (.cells #[.int .i64 p, .int .i64 q] 35)) wr.heap.size #[.int .i64 p, .int .i64 q] 35 := Blk.new _ _ _
          have hl2 : R0.length ≤ 1000 := by omega
          clear hR hp hRE hstep hf hol F
          go_wp2_with fail
          generalize wr.alloc (.cells #[.int .i64 p, .int .i64 q] 35) = W1 at *
          obtain ⟨g15, hg15⟩ : ∃ x, wr.heap.size = x := ⟨_, rfl⟩
          rw [hg15] at b15
          rw [hg15]
          have c15 : W1.cell? ⟨g15, 0, none⟩ = some (.int .i64 p) := b15.cell 0
          have h15 := b15.lt
          have cgf : W1.cell? ⟨gg, f, none⟩ = some (.int .i64 x) := by
            rw [Blk.cell hG1, ← hx]
            simp [List.getElem?_eq_getElem (show f < s.G.length by rw [hmg]; exact hfl), List.getD_eq_getElem?_getD]
          have hgg := Blk.lt hG1
          have f0 : (0 : Int) ≤ (f : Int) := Int.natCast_nonneg _
          have f1 : (f : Int) < (m : Int) := by omega
          have hR10 := hR1
          unfold RowW at hR10
          have hszW := F1.size
          clear hx hG1 b15 k0 k2 hg15 hfl
          go_region_law
            (first
              | (refine step_append_lies _ (by rfl) _ _ _ (by rfl) w6.heap.size 35 i5 _ 2 16 Try.underlying28 hi5 hy0 hy1 hy2 zero_cells (by omega) _ R0.length (R0.flatMap wc) (by rfl) ((hR10.alloc _).drew) ⟨W1.heap.size, 0, none⟩ 1 1 [.int .i64 p, .int .i64 x] (by rfl) (by rfl) (World.news_of_block (cs := #[.int .i64 p, .int .i64 x]) (t := 35) (fr := (0, 0)) (heap_alloc_new W1 _)) (by simp [Value.oneCell']) (by omega) (by unfold maxLen; omega) (by omega) (by simp; omega) (W1.heap.size + 1) (by simp) ?_; intro gn cap w9 hown1 hgrow hat hlt3)
              | (go_simp; go_at_call 17; refine (find_is _ B g s.U p f (by exact hS1) HFF.out.1 HFF.out.2).mono ?_; rintro e w8 ⟨rfl, rfl⟩))
          all_goals
            go_wp2_with fail
            go_roundw
            case rel =>
              obtain ⟨r1, r2⟩ := rowW_push (o := .cells #[.int .i64 p, .int .i64 x] 35) (p := (p, x)) hR1 F1 (by exact hown1) ⟨hgrow.os, hgrow.tape, hgrow.output, hgrow.size, hgrow.block⟩
              exact ⟨j + 1, by go_num, by omega, by rw [HSTEP.out]; exact r1, r2⟩
            case measure => simp [intOf]; omega
        · have j1 : ¬ (j : Int) < (n : Int) := by omega
          have hjn : j = n := by omega
          subst hjn
          go_wp2_with fail
          go_ret2
          exact ⟨_, rfl, own_le hR hsz0, HSS.out.frmN F, HRA.out, HF0.out.thenN F⟩
end Go.Proofs.Ytiifepajnhdfjaa.A

/- The document's Give: what its steps leave. -/
import Derived.Test.YtiifepajnhdfjaaZC
namespace Go.Proofs.Ytiifepajnhdfjaa.A
open Go.RowKit Go.Proofs.Ytiifepajnhdfjaa.K
set_option linter.unusedVariables false
set_option linter.unusedSimpArgs false

theorem info51 : (Try.prog.info? 51).map (fun i => (i.zero, i.size, i.bytes)) = some (some (.agg #[.int .i64 0, .int .i64 0]), 2, 16) := by kernel_rfl
/-- The document's wants, in a row of their own. -/
def RowX (w : World) (B : Nat) (v : Value) (L : List Wn) : Prop := w.ownsRow B 51 2 v L.length (L.flatMap wc)
theorem rdX_of {w : World} {B : Nat} {v : Value} {L : List Wn} (h : RowX w B v L) : ∃ A c, v = .slice A L.length c ∧ L.length ≤ c ∧ RdW w A L := by
  rcases h.2 with ⟨rfl, h0⟩ | ⟨g, cap, cur, rfl, hg, hh, h1, h2, h3⟩
  · have hL : L = [] := List.eq_nil_of_length_eq_zero h0
    subst hL
    exact ⟨none, 0, rfl, Nat.le_refl _, fun j hj => absurd hj (by simp)⟩
  · refine ⟨_, cap, rfl, by omega, fun j hj => ⟨_, rfl, Blk.lt hh, ?_, ?_⟩⟩
    · exact World.ownsRow.cells h (g := g) rfl (j * 2) _ (wc_at L j hj).1
    · have := World.ownsRow.cells h (g := g) rfl (j * 2 + 1) _ (wc_at L j hj).2
      rwa [add_more] at this
theorem rdX_slice {w : World} {B n c : Nat} {A : Option Addr} {L : List Wn} (h : RowX w B (.slice A n c) L) : n = L.length ∧ n ≤ c ∧ RdW w A L := by
  obtain ⟨A', c', e, h1, h2⟩ := rdX_of h
  injection e with e1 e2 e3
  subst e1 e2 e3
  exact ⟨rfl, h1, h2⟩
theorem RowX.frm {w w' : World} {S : Nat → Prop} {B : Nat} {v : Value} {L : List Wn} (h : RowX w B v L) (f : Frm S w w') (hS : ∀ k cs, Blk w k cs 51 → ¬ S k) : RowX w' B v L := own_frm h f hS
theorem RowX.ru {w w' : World} {B B' : Nat} {v : Value} {L : List Wn} (h : RowX w B v L) (f : Frm (RU w B') w w') : RowX w' B v L := h.frm f fun k cs hb e => by
  obtain ⟨_, cs2, hb2⟩ := e
  exact Blk.ne hb2 hb (by decide) rfl
theorem rowX_push {w W w3 : World} {gg cap B : Nat} {p : Wn} {l : List Wn} {vo : Value} {o : Obj} (hR : RowX W B vo l) (hB : w.heap.size ≤ B) (hF : Frm No w W) {n : Nat} (hn : l.length = n)
    (hown : w3.ownsRow B 51 2 (.slice (some ⟨gg, 0, none⟩) (n + 1) cap) (n + 1) (l.flatMap wc ++ wc p)) (hg : (W.alloc o).grownBy w3 vo.ownBlock) :
    RowX w3 B (.slice (some ⟨gg, 0, none⟩) (n + 1) cap) (l ++ [p]) ∧ Frm No w w3 := by
  subst hn
  have hR' : (W.alloc o).ownsRow B 51 2 vo l.length (l.flatMap wc) := World.ownsRow.alloc hR o
  refine ⟨?_, (hF.alloc o).grown hg (fun q e => .inr (Nat.le_trans hB (own_blk hR' e).1))⟩
  unfold RowX
  rw [List.flatMap_append, List.length_append, List.length_singleton]
  simpa using hown
theorem wc_set : ∀ (L : List Wn) (i : Nat) (v : Int), i < L.length → (L.flatMap wc).set (i * 2 + 1) (.int .i64 v) = (L.set i ((L.getD i (0, 0)).1, v)).flatMap wc
  | [], i, v, h => absurd h (by simp)
  | p :: L, 0, v, _ => rfl
  | p :: L, i + 1, v, h => by
    have ih := wc_set L i v (by simpa using h)
    have e : (p :: L).flatMap wc = .int .i64 p.1 :: .int .i64 p.2 :: L.flatMap wc := rfl
    rw [e, show (i + 1) * 2 + 1 = (i * 2 + 1) + 1 + 1 by omega]
    simp only [List.set_cons_succ]
    rw [ih]
    rfl
theorem RowX.put {w : World} {B n c : Nat} {A : Option Addr} {L : List Wn} (h : RowX w B (.slice A n c) L) {i : Nat} (hi : i < L.length) (v : Int) :
    ∃ ad cs, A = some ad ∧ B ≤ ad.block ∧ Blk w ad.block cs 51 ∧ w.frozen? ⟨(ad.add (i * 2)).block, (ad.add (i * 2)).off + 1, none⟩ = false ∧
      RowX (w.setCell ⟨(ad.add (i * 2)).block, (ad.add (i * 2)).off + 1, none⟩ (.int .i64 v)) B (.slice A n c) (L.set i ((L.getD i (0, 0)).1, v)) ∧
      Frm (fun x => x = ad.block) w (w.setCell ⟨(ad.add (i * 2)).block, (ad.add (i * 2)).off + 1, none⟩ (.int .i64 v)) := by
  have hn := (rdX_slice h).1
  subst hn
  obtain ⟨gk, rfl, hB, ⟨cs, hk⟩, hz, hp⟩ := own_putN h (j := i * 2 + 1) (by omega) (.int .i64 v)
  have ea : (⟨((⟨gk, 0, none⟩ : Addr).add (i * 2)).block, ((⟨gk, 0, none⟩ : Addr).add (i * 2)).off + 1, none⟩ : Addr) = ⟨gk, i * 2 + 1, none⟩ := by
    unfold Addr.add; by_cases h : i * 2 = 0 <;> simp [h]
  refine ⟨_, cs, rfl, hB, hk, by rw [ea]; exact hz, ?_, ?_⟩
  · rw [ea]
    unfold RowX
    rw [List.length_set, ← wc_set L i v hi]
    exact hp
  · rw [ea]
    exact (Frm.refl (fun x => x = gk) w).set (p := ⟨gk, i * 2 + 1, none⟩) (.inl rfl) _

theorem leftTo_ids {U V : List US} (h : U.map (·.id) = V.map (·.id)) (W : List Wn) : ∀ n, leftTo U W n = leftTo V W n
  | 0 => by
    have : U.length = V.length := by have := congrArg List.length h; simpa using this
    unfold leftTo; rw [this]
  | n + 1 => by unfold leftTo; rw [leftTo_ids h W n, fi_ids h]
theorem outTo_ids {U V : List US} (h : U.map (·.id) = V.map (·.id)) (W : List Wn) (G : List Int) : ∀ n, outTo W U G n = outTo W V G n
  | 0 => rfl
  | n + 1 => by unfold outTo; rw [outTo_ids h W G n, fi_ids h]
theorem id_at {U V : List US} (h : U.map (·.id) = V.map (·.id)) {i : Nat} (hi : i < U.length) : (U.getD i u0).id = (V.getD i u0).id := by
  have hl : U.length = V.length := by have := congrArg List.length h; simpa using this
  have h1 := congrArg (fun l : List Int => l.getD i 0) h
  simp only [List.getD_eq_getElem?_getD, List.getElem?_map, List.getElem?_eq_getElem hi, List.getElem?_eq_getElem (show i < V.length by omega), Option.map_some, Option.getD_some] at h1
  rw [List.getD_eq_getElem?_getD, List.getD_eq_getElem?_getD, List.getElem?_eq_getElem hi, List.getElem?_eq_getElem (show i < V.length by omega)]
  exact h1
theorem Dis.ids {U V : List US} (h : U.map (·.id) = V.map (·.id)) (hD : Dis V) : Dis U := fun i hi => by
  have hl : U.length = V.length := by have := congrArg List.length h; simpa using this
  rw [fi_ids h, id_at h hi]
  exact hD i (by omega)
theorem WOk.ids {U V : List US} {W : List Wn} {n : Nat} (h : U.map (·.id) = V.map (·.id)) (hW : WOk V W n) : WOk U W n := by
  have hl : U.length = V.length := by have := congrArg List.length h; simpa using this
  exact ⟨hW.len, fun j hj => by rw [fi_ids h, hl]; exact hW.inn j hj, hW.dis, hW.bd⟩
theorem outTo_set {U : List US} {W : List Wn} {n k : Nat} {G : List Int} (hW : WOk U W n) (hk : k < n) {v : Int} (hG : G.length = U.length) :
    ∀ j, j ≤ n → outTo W U (G.set (fi U (W.getD k (0, 0)).1) v) j = if k < j then (outTo W U G j).set k ((W.getD k (0, 0)).1, v) else outTo W U G j
  | 0, _ => by rw [if_neg (by omega)]; rfl
  | j + 1, hj => by
    have ih := outTo_set hW hk hG j (v := v) (by omega)
    have hl := outTo_len W U G j
    have hin := hW.inn k hk
    have hgd : (G.set (fi U (W.getD k (0, 0)).1) v).getD (fi U (W.getD j (0, 0)).1) 0 = if k = j then v else G.getD (fi U (W.getD j (0, 0)).1) 0 := by
      rw [getD_setI]
      by_cases h2 : k = j
      · subst h2
        rw [if_pos ⟨rfl, by rw [hG]; exact hin⟩, if_pos rfl]
      · rw [if_neg (fun e => h2 (hW.dis k j hk (by omega) (fi_inj hin e.1))), if_neg h2]
    unfold outTo
    rw [ih, hgd]
    by_cases h1 : k < j
    · rw [if_pos h1, if_pos (show k < j + 1 by omega), if_neg (show ¬ k = j by omega), List.set_append_left _ _ (by omega)]
    · rw [if_neg h1]
      by_cases h2 : k = j
      · subst h2
        rw [if_pos rfl, if_pos (show k < k + 1 by omega), List.set_append_right _ _ (by omega), hl, Nat.sub_self]
        rfl
      · rw [if_neg h2, if_neg (show ¬ k < j + 1 by omega)]

/-- In the course of the document's Give, in memory. -/
structure GR (w : World) (B g m n : Nat) (W : List Wn) (L0 : List Int) (ids : List Int) (R t : Int) (E : GS) (A9 : Option Addr) (c9 : Nat) (s : GS) (wr : World) : Prop where
  S : IsR wr B g s.U
  X : RowX wr w.heap.size (.slice A9 n c9) (outTo W s.U s.G n)
  ga : GA m L0 t ids s
  ra : Rat s.U (R + (t - s.t))
  t1 : s.t ≤ t
  fin : fin s = E
  fr : Frm (RU w B) w wr
theorem GR.frmN {w : World} {B g m n : Nat} {W : List Wn} {L0 ids : List Int} {R t : Int} {E : GS} {A9 : Option Addr} {c9 : Nat} {s : GS} {wr wx : World} (h : GR w B g m n W L0 ids R t E A9 c9 s wr) (f : Frm No wr wx) : GR w B g m n W L0 ids R t E A9 c9 s wx :=
  ⟨h.S.frmN f, h.X.frm f (fun _ _ _ h => h), h.ga, h.ra, h.t1, h.fin, h.fr.thenN f⟩
theorem rgi_step {w wr : World} {B g m n i k : Nat} {W : List Wn} {L0 ids : List Int} {U : List US} {R t nn : Int} {E s : GS} {A9 : Option Addr} {c9 : Nat} (I : GR w B g m n W L0 ids R t E A9 c9 s wr) (hB : B ≤ w.heap.size) (him : i < m) (hkn : k < n)
    (hids : U.map (·.id) = ids) (hW : WOk U W n) (hf : fi s.U (W.getD k (0, 0)).1 = i) (hst : stepG s = some (stepAt s i)) (hn : piece (s.L.getD i 0) s.t = nn) :
    ∃ a9 ad c x, A9 = some a9 ∧ ¬ (ad.add (i * 3)).block = a9.block ∧ ¬ g = a9.block ∧ wr.cell? ⟨g, 0, none⟩ = some (.slice (some ad) m c) ∧ wr.cell? ⟨(ad.add (i * 3)).block, (ad.add (i * 3)).off + 2, none⟩ = some (.int .i64 x) ∧
      wr.cell? ⟨(a9.add (k * 2)).block, (a9.add (k * 2)).off + 1, none⟩ = some (.int .i64 (s.G.getD i 0)) ∧ wr.frozen? ⟨(a9.add (k * 2)).block, (a9.add (k * 2)).off + 1, none⟩ = false ∧
      (0 ≤ x ∧ x ≤ 16 * (R + (t - s.t))) ∧ wr.frozen? ⟨(ad.add (i * 3)).block, (ad.add (i * 3)).off + 2, none⟩ = false ∧
      GR w B g m n W L0 ids R t E A9 c9 (stepAt s i) ((wr.setCell ⟨(a9.add (k * 2)).block, (a9.add (k * 2)).off + 1, none⟩ (.int .i64 (s.G.getD i 0 + nn))).setCell ⟨(ad.add (i * 3)).block, (ad.add (i * 3)).off + 2, none⟩ (.int .i64 (x + nn))) := by
  have hU : stepAt s i = ⟨s.U.set i (addS nn (s.U.getD i u0)), s.L.set i (s.L.getD i 0 - nn), s.G.set i (s.G.getD i 0 + nn), s.t - nn⟩ := by unfold stepAt; rw [hn]
  have hiU : i < s.U.length := by rw [I.ga.ul]; exact him
  have hol := outTo_len W s.U s.G n
  have hoa := outTo_at W s.U s.G n k hkn
  rw [hf] at hoa
  obtain ⟨-, -, hrd⟩ := rdX_slice I.X
  obtain ⟨a9', e9, hb9, -, hc9⟩ := hrd k (by rw [hol]; exact hkn)
  rw [hoa] at hc9
  obtain ⟨a9, cs9, rfl, hbk9, hblk9, hz9, hX9, hF9⟩ := I.X.put (i := k) (by rw [hol]; exact hkn) (s.G.getD i 0 + nn)
  injection e9 with e9
  subst e9
  have hblk9' := hblk9
  rw [hoa] at hX9
  have S5 : IsR (wr.setCell ⟨(a9.add (k * 2)).block, (a9.add (k * 2)).off + 1, none⟩ (.int .i64 (s.G.getD i 0 + nn))) B g s.U := I.S.frm hF9 (fun q cs ty hty hb e => by
    subst e
    exact Blk.ne hb hblk9' (by rcases hty with rfl | rfl <;> decide) rfl)
  obtain ⟨ad, c, kk, rd, kz, kS, kF⟩ := S5.put hiU ((s.U.getD i u0).sv + nn)
  obtain ⟨ad', e, ⟨cs, hbk⟩, -, -, ks⟩ := rd i hiU
  injection e with e
  subst e
  obtain ⟨_, v, hbg, _⟩ := id I.S
  have n1 : g ≠ a9.block := Blk.ne hbg hblk9' (by decide)
  have hblk9s : Blk (wr.setCell ⟨(a9.add (k * 2)).block, (a9.add (k * 2)).off + 1, none⟩ (.int .i64 (s.G.getD i 0 + nn))) a9.block (cs9.setIfInBounds ((a9.add (k * 2)).off + 1) (.int .i64 (s.G.getD i 0 + nn))) 51 := by
    have := hblk9'.set ((a9.add (k * 2)).off + 1) (.int .i64 (s.G.getD i 0 + nn))
    rw [block_add]
    exact this
  have q1 : ¬ ad.block = a9.block := fun e => by rw [e] at hbk; exact Blk.ne hbk hblk9s (by decide) rfl
  have hbl : ad.block < wr.heap.size := by have := hbk.lt; simpa using this
  have e1 : ∀ o, (wr.setCell ⟨(a9.add (k * 2)).block, (a9.add (k * 2)).off + 1, none⟩ (.int .i64 (s.G.getD i 0 + nn))).cell? ⟨(ad.add (i * 3)).block, o, none⟩ = wr.cell? ⟨(ad.add (i * 3)).block, o, none⟩ := fun o =>
    World.cell?_of_block (hF9.block _ (by show (ad.add (i * 3)).block < _; rw [block_add]; exact hbl) (by show ¬ (ad.add (i * 3)).block = _; rw [block_add]; exact q1))
  have e2 : (wr.setCell ⟨(a9.add (k * 2)).block, (a9.add (k * 2)).off + 1, none⟩ (.int .i64 (s.G.getD i 0 + nn))).cell? ⟨g, 0, none⟩ = wr.cell? ⟨g, 0, none⟩ :=
    World.cell?_of_block (hF9.block _ hbg.lt n1)
  obtain ⟨r1, r2, r3, r4⟩ := I.ra _ (memU hiU)
  have hR0 : 0 ≤ R + (t - s.t) := by
    by_cases h : 0 ≤ R + (t - s.t)
    · exact h
    · have : (s.U.getD i u0).wt * (R + (t - s.t)) ≤ 1 * (R + (t - s.t)) := Int.mul_le_mul_of_nonpos_right r1 (by omega)
      omega
  have hx : (s.U.getD i u0).sv ≤ 16 * (R + (t - s.t)) := by
    have : (s.U.getD i u0).wt * (R + (t - s.t)) ≤ 16 * (R + (t - s.t)) := Int.mul_le_mul_of_nonneg_right r2 hR0
    omega
  refine ⟨a9, ad, c, (s.U.getD i u0).sv, rfl, by rw [block_add]; exact q1, n1, by rw [← e2, kk, I.ga.ul], by rw [← e1]; exact ks, hc9, hz9, ⟨r3, hx⟩, ?_, ?_⟩
  · have hbq := hF9.block (ad.add (i * 3)).block (by rw [block_add]; exact hbl) (by rw [block_add]; exact q1)
    unfold World.frozen? at kz ⊢
    rw [show (wr.setCell ⟨(a9.add (k * 2)).block, (a9.add (k * 2)).off + 1, none⟩ (.int .i64 (s.G.getD i 0 + nn))).heap[(ad.add (i * 3)).block]? = wr.heap[(ad.add (i * 3)).block]? from hbq] at kz
    exact kz
  · have hga := ga_step _ _ I.ga hst
    have hra := step_rat I.ra hst
    obtain ⟨a1, a2, a3⟩ := step_t hst
    have hidq : (stepAt s i).U.map (·.id) = s.U.map (·.id) := by rw [hga.ids, I.ga.ids]
    have hout : outTo W (stepAt s i).U (stepAt s i).G n = (outTo W s.U s.G n).set k ((W.getD k (0, 0)).1, s.G.getD i 0 + nn) := by
      rw [outTo_ids hidq]
      have hWs : WOk s.U W n := WOk.ids (by rw [I.ga.ids, hids]) hW
      have := outTo_set hWs hkn (v := s.G.getD i 0 + nn) (G := s.G) (by rw [I.ga.gl, I.ga.ul]) n (Nat.le_refl _)
      rw [hf, if_pos hkn] at this
      rw [hU]
      exact this
    have hUU : (stepAt s i).U = s.U.set i (addS nn (s.U.getD i u0)) := by rw [hU]
    refine ⟨by rw [hUU]; exact kS, by rw [hout]; exact hX9.ru kF, hga, ?_, by have := I.t1; omega, by rw [← I.fin]; exact (fin_step hst).symm, ?_⟩
    · rw [show R + (t - (stepAt s i).t) = R + (t - s.t) + (s.t - (stepAt s i).t) by omega]
      exact hra
    · exact Frm.thenR (I.fr.then hF9 (fun x hx => .inr (by subst hx; exact hbk9))) kF
end Go.Proofs.Ytiifepajnhdfjaa.A

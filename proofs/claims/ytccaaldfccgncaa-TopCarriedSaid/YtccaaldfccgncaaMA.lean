/- TopCarried: what holds in the great loop. -/
import Derived.Test.YtccaaldfccgncaaTW
namespace Go.Proofs.Ytccaaldfccgncaa.A
open Go.RowKit Go.Proofs.Ytccaaldfccgncaa.K
set_option linter.unusedVariables false
set_option linter.unusedSimpArgs false

theorem tot_app (O P : List (List Nat)) : tot (O ++ P) = tot O + tot P := by unfold tot; simp
theorem tl_app (T R : List Tx) : tl (T ++ R) = tl T + tl R := by unfold tl; rw [List.map_append, tot_app]
theorem tl_one (t : Tx) : tl [t] = t.bs.length := by unfold tl tot; simp
theorem Cut.fi3 {T : List Tx} {tk room : Nat} {O : List (List Nat)} {fi : Nat} {T' : List Tx} {tk' : Nat} (h : Cut T tk room O fi T' tk') : fi ≤ 3 := by
  obtain ⟨m, k, -, -, -, -, -, rfl, -⟩ := h
  split <;> split <;> omega
theorem mem_pre {T : List Tx} {tk m : Nat} {b : List Nat} (h : b ∈ pre T tk m) : ∃ j, j < m ∧ b = chk T tk j := by
  obtain ⟨j, hj, rfl⟩ := List.mem_map.1 h
  exact ⟨j, List.mem_range.1 hj, rfl⟩
theorem Cut.fld {T : List Tx} {tk room : Nat} {O : List (List Nat)} {fi : Nat} {T' : List Tx} {tk' : Nat} (hw : Waits T tk) (h : Cut T tk room O fi T' tk') : FldOk O := by
  have hp := h.pos
  refine ⟨hp.1, hp.2, fun b hb => ?_⟩
  obtain ⟨m, k, -, hm, k1, k2, rfl, -⟩ := h
  rcases List.mem_append.1 hb with hb | hb
  · obtain ⟨j, hj, rfl⟩ := mem_pre hb
    obtain ⟨t, R, -, -, -, h1, h2, h3, h4⟩ := hw.at_ (show j < T.length by omega)
    omega
  · rcases List.mem_singleton.1 hb with rfl
    obtain ⟨t, R, -, -, -, h1, h2, h3, h4⟩ := hw.at_ hm
    rw [List.length_take]
    omega
theorem chk_mem {T : List Tx} {tk j : Nat} (hj : j < T.length) {x : Nat} (hx : x ∈ chk T tk j) : ∃ t ∈ T, x ∈ t.bs := by
  refine ⟨T[j], List.getElem_mem _, ?_⟩
  unfold chk at hx
  rw [List.getD_eq_getElem?_getD, List.getElem?_eq_getElem hj] at hx
  exact List.mem_of_mem_drop hx
theorem Cut.lt {T : List Tx} {tk room : Nat} {O : List (List Nat)} {fi : Nat} {T' : List Tx} {tk' : Nat} (h : Cut T tk room O fi T' tk') (h256 : ∀ t ∈ T, ∀ x ∈ t.bs, x < 256) : ∀ f ∈ O, ∀ x ∈ f, x < 256 := by
  intro f hf x hx
  obtain ⟨m, k, -, hm, k1, k2, rfl, -⟩ := h
  rcases List.mem_append.1 hf with hf | hf
  · obtain ⟨j, hj, rfl⟩ := mem_pre hf
    obtain ⟨t, ht, hxt⟩ := chk_mem (by omega) hx
    exact h256 t ht x hxt
  · rcases List.mem_singleton.1 hf with rfl
    obtain ⟨t, ht, hxt⟩ := chk_mem hm (List.mem_of_mem_take hx)
    exact h256 t ht x hxt
theorem Cut.waits {T : List Tx} {tk room : Nat} {O : List (List Nat)} {fi : Nat} {T' : List Tx} {tk' : Nat} (hw : Waits T tk) (h : Cut T tk room O fi T' tk') : Waits T' tk' ∧ (T' = [] → tk' = 0) := by
  obtain ⟨m, k, -, hm, k1, k2, -, -, rfl, rfl, -⟩ := h
  obtain ⟨t, R, e0, -, e1, h1, h2, h3, h4⟩ := hw.at_ hm
  by_cases hc : k < (chk T tk m).length
  · rw [if_pos hc, if_pos hc]
    refine ⟨⟨by rw [List.length_drop]; have := hw.1; omega, fun t ht => hw.2.1 t (List.mem_of_mem_drop ht), fun t' R' e => ?_⟩, fun e => ?_⟩
    · rw [e0] at e
      injection e with e2 e3
      subst e2
      omega
    · rw [e0] at e; cases e
  · rw [if_neg hc, if_neg hc]
    refine ⟨⟨by rw [List.length_drop]; have := hw.1; omega, fun t ht => hw.2.1 t (List.mem_of_mem_drop ht), fun t' R' e => ?_⟩, fun _ => rfl⟩
    have := hw.2.1 t' (List.mem_of_mem_drop (i := m + 1) (by rw [e]; exact List.mem_cons_self ..))
    omega
/-- How many bytes the whole fields have. -/
theorem pre_tot {T : List Tx} {tk : Nat} (hw : Waits T tk) (m : Nat) (hm : m ≤ T.length) : tot (pre T tk m) + tk = tl (T.take m) + tkj tk m := by
  induction m with
  | zero => simp [pre, tot, tl, tkj]
  | succ m ih =>
    have h := ih (by omega)
    obtain ⟨t, R, e0, -, e1, h1, h2, h3, h4⟩ := hw.at_ (show m < T.length by omega)
    rw [pre_succ, tot_push, List.take_succ_eq_append_getElem (show m < T.length by omega), tl_app, tl_one]
    have e2 : T[m] = t := by rw [← e1, List.getD_eq_getElem?_getD, List.getElem?_eq_getElem (show m < T.length by omega)]; rfl
    have e3 : tkj tk (m + 1) = 0 := by unfold tkj; rw [if_neg (by omega)]
    rw [e2, e3]
    omega
theorem Cut.byt {T : List Tx} {tk room : Nat} {O : List (List Nat)} {fi : Nat} {T' : List Tx} {tk' : Nat} (hw : Waits T tk) (h : Cut T tk room O fi T' tk') : tl T' + tot O + tk = tl T + tk' := by
  obtain ⟨m, k, -, hm, k1, k2, rfl, -, rfl, rfl, -⟩ := h
  obtain ⟨t, R, e0, e5, e1, h1, h2, h3, h4⟩ := hw.at_ hm
  have hp := pre_tot hw m (by omega)
  have hs : tl T = tl (T.take m) + (t.bs.length + tl (T.drop (m + 1))) := by
    conv => lhs; rw [← List.take_append_drop m T, e0, e5]
    rw [tl_app, show t :: List.drop (m + 1) T = [t] ++ List.drop (m + 1) T from rfl, tl_app, tl_one]
  rw [tot_push, List.length_take]
  by_cases hc : k < (chk T tk m).length
  · rw [if_pos hc, if_pos hc]
    have hd : tl (T.drop m) = t.bs.length + tl (T.drop (m + 1)) := by
      rw [e0, e5, show t :: List.drop (m + 1) T = [t] ++ List.drop (m + 1) T from rfl, tl_app, tl_one]
    omega
  · rw [if_neg hc, if_neg hc]
    omega
/-- What lies there in the great loop. -/
structure MC (w wr : World) (g9 : Nat) (b : Int) (gq gw : Nat) (v : Value) (F : List Fl) (T : List Tx) (tk : Nat) (ls : Int) (h : Option (List Nat)) : Prop where
  q : IsQ wr gq 20000 T tk ls (((tl T : Nat) : Int) - (tk : Nat))
  c : Blk wr g9 (cfg b) 26
  k : Kept w wr v F
  g : IsG wr gw h 0
  frm : Frm No w wr
  lq : w.heap.size ≤ gq
  lw : w.heap.size ≤ gw
theorem MC.frmN {w wr w' : World} {g9 : Nat} {b : Int} {gq gw : Nat} {v : Value} {F : List Fl} {T : List Tx} {tk : Nat} {ls : Int} {h : Option (List Nat)} (m : MC w wr g9 b gq gw v F T tk ls h) (f : Frm No wr w') : MC w w' g9 b gq gw v F T tk ls h :=
  ⟨m.q.frmN f, f.blk m.c (fun h => h), m.k.frmN f, m.g.frmN f, m.frm.thenN f, m.lq, m.lw⟩
/-- Behind a call that turned the queue. -/
theorem MC.built {w wr w' : World} {g9 : Nat} {b : Int} {gq gw : Nat} {v : Value} {F : List Fl} {T T' : List Tx} {tk tk' : Nat} {ls byt : Int} {h : Option (List Nat)} (m : MC w wr g9 b gq gw v F T tk ls h) (q : IsQ w' gq 20000 T' tk' ls byt) (hb : byt = ((tl T' : Nat) : Int) - (tk' : Nat)) (f : Frm (fun x => x = gq) wr w') : MC w w' g9 b gq gw v F T' tk' ls h := by
  have nt : ∀ t, t ≠ 64 → ∀ x cs, Blk wr x cs t → ¬ (x = gq) := fun t ht x cs hx e => by
    subst e
    obtain ⟨cs', hb⟩ := m.q.blk
    exact Blk.ne hx hb ht rfl
  exact ⟨by rw [← hb]; exact q, f.blk m.c (nt 26 (by decide) _ _ m.c), m.k.frm f (nt 24 (by decide)), m.g.frm f (by obtain ⟨cs, hg⟩ := m.g.blk; exact nt 72 (by decide) _ _ hg) (nt 5 (by decide)), m.frm.then f (fun x hx => .inr (by subst hx; exact m.lq)), m.lq, m.lw⟩
/-- Behind a call that turned a glue. -/
theorem MC.glued {w wr w' : World} {g9 : Nat} {b : Int} {gq gw g : Nat} {v : Value} {F : List Fl} {T : List Tx} {tk : Nat} {ls : Int} {h h' : Option (List Nat)} (m : MC w wr g9 b gq gw v F T tk ls h) (hg : ∃ cs, Blk wr g cs 72) (lg : w.heap.size ≤ g) (f : Frm (fun x => x = g) wr w') (g' : IsG w' gw h' 0) : MC w w' g9 b gq gw v F T tk ls h' := by
  have nt : ∀ t, t ≠ 72 → ∀ x cs, Blk wr x cs t → ¬ (x = g) := fun t ht x cs hx e => by
    subst e
    obtain ⟨cs', hb⟩ := hg
    exact Blk.ne hx hb ht rfl
  exact ⟨m.q.frm f (by obtain ⟨cs, hq⟩ := m.q.blk; exact nt 64 (by decide) _ _ hq) (nt 70 (by decide)) (nt 5 (by decide)), f.blk m.c (nt 26 (by decide) _ _ m.c), m.k.frm f (nt 24 (by decide)), g', m.frm.then f (fun x hx => .inr (by subst hx; exact lg)), m.lq, m.lw⟩
/-- The texts of a row of the call's own. -/
theorem str_drew {w : World} {A : Option Addr} {n c : Nat} {L : List Nat} (h : Bin w A L) (hn : L.length = n) (q : Nat) : (convert 24 9 (.slice A n c)).run Try.prog (w.drewN q) = .ok (.string (bytesS L)) (w.drewN q) := (h.frmN ((Frm.refl No w).drewN q)).str hn
theorem RowF.reads {w : World} {B n c i : Nat} {A : Option Addr} {O : List (List Nat)} (h : RowF w B (.slice A n c) O) (hi : i < O.length) : Reads w A i (O.getD i []) := by
  obtain ⟨ad, A2, c2, rfl, hc, hb, -, -⟩ := h.at_ hi
  exact ⟨ad, A2, _, c2, rfl, hc, fun q => str_drew (RowB.bin hb).1 rfl q⟩
theorem Kept.reads {w wr : World} {n c q : Nat} {A : Option Addr} {F : List Fl} (h : Kept w wr (.slice A n c) F) (f : Frm No w wr) (hq : q < F.length) : Reads wr A q ((F.map Fl.bs).getD q []) := by
  have e : (F.map Fl.bs).getD q [] = F[q].bs := by rw [List.getD_eq_getElem?_getD, List.getElem?_map, List.getElem?_eq_getElem hq]; rfl
  rw [e]
  have o := h.own
  rcases o.2 with ⟨hv, h0⟩ | ⟨g, cap, cur, hv, hg, hh, h1, _⟩
  · omega
  · injection hv with hA
    subst hA
    refine ⟨_, F[q].A, F[q].bs.length, F[q].c, rfl, ?_, fun z => str_drew ((h.rd _ (List.getElem_mem _)).1.frmN f) rfl z⟩
    exact o.cells (g := g) rfl q _ (by rw [List.getElem?_map, List.getElem?_eq_getElem hq]; rfl)
/-- What is known of the texts that wait, and of those that were kept. -/
structure PL (F : List Fl) (T : List Tx) (tk n : Nat) : Prop where
  wt : Waits T tk
  z : T = [] → tk = 0
  e : (F.map Fl.bs).drop n = T.map Tx.bs
  n1 : n ≤ F.length
  f20 : F.length ≤ 20
theorem PL.lt {F : List Fl} {T : List Tx} {tk n : Nat} (p : PL F T tk n) (h : ∀ f ∈ F, ∀ x ∈ f.bs, x < 256) : ∀ t ∈ T, ∀ x ∈ t.bs, x < 256 := fun t ht x hx => by
  have : t.bs ∈ (F.map Fl.bs).drop n := by rw [p.e]; exact List.mem_map_of_mem ht
  obtain ⟨f, hf, e⟩ := List.mem_map.1 (List.mem_of_mem_drop this)
  exact h f hf x (by rw [e]; exact hx)
/-- Behind a round. -/
theorem PL.next {F : List Fl} {T : List Tx} {tk n room : Nat} {O : List (List Nat)} {fi : Nat} {T' : List Tx} {tk' : Nat} (p : PL F T tk n) (h : Cut T tk room O fi T' tk') {o : List (List Nat)} {l : Nat} (ho : T.map Tx.bs = o ++ T'.map Tx.bs) (hl : o.length = l) :
    PL F T' tk' (n + l) ∧ n + l ≤ F.length ∧ ∀ k, k < l → (F.map Fl.bs).getD (n + k) [] = o.getD k [] := by
  have hw := h.waits p.wt
  have he : (F.map Fl.bs).drop n = o ++ T'.map Tx.bs := by rw [p.e, ho]
  have hlen := congrArg List.length he
  rw [List.length_drop, List.length_append, List.length_map, List.length_map, hl] at hlen
  have hn := p.n1
  refine ⟨⟨hw.1, hw.2, ?_, by omega, p.f20⟩, by omega, fun k hk => ?_⟩
  · rw [← List.drop_drop, he, List.drop_left' hl]
  · rw [List.getD_eq_getElem?_getD, List.getD_eq_getElem?_getD, ← List.getElem?_drop, he, List.getElem?_append_left (by omega)]
end Go.Proofs.Ytccaaldfccgncaa.A

/- What Build takes, in plain lists. -/
import Derived.Test.YtccaaldfccgncaaU
import Derived.Test.YtccaaldfccgncaaBL
namespace Go.Proofs.Ytccaaldfccgncaa.A
open Go.RowKit Go.Proofs.Ytccaaldfccgncaa.K
set_option linter.unusedVariables false
set_option linter.unusedSimpArgs false

def cL : Code → Code | .seq a _ => a | .block _ b => b | .loop b => b | .cond _ a _ => a | c => c
def cR : Code → Code | .seq _ b => b | .cond _ _ b => b | c => c
def cS : Code → Code | .scope b => b | c => c
theorem f11_l0 : findLabel (cS (cR (Try.f11.body.getD .skip))) 0 = some (Code.skip.seq (cR (cR (cR (cR (cR (cS (cR (Try.f11.body.getD .skip))))))))) := by kernel_rfl
theorem f11_l1 : findLabel (cS (cR (Try.f11.body.getD .skip))) 1 = some (Code.skip.seq (cR (cR (cR (cR (cR (cR (cR (cR (cR (cR (cR (cS (cR (Try.f11.body.getD .skip))))))))))))))) := by kernel_rfl
theorem act_frame (a : Act) (n : Nat) (hs : a.tmps.size = n) (hd : a.defers = []) : a = ⟨((List.range n).map fun i => a.tmps.getD i undef).toArray, []⟩ := by
  obtain ⟨tmps, defers⟩ := a
  simp only at hs hd
  subst hd
  congr 1
  apply Array.ext
  · simp [hs]
  · intro i h1 h2
    simp [Array.getD_eq_getD_getElem?, Array.getElem?_eq_getElem h1]
def tx0 : Tx := ⟨0, none, 0, []⟩
def tkj (tk j : Nat) : Nat := if j = 0 then tk else 0
/-- What is left of text j. -/
def chk (T : List Tx) (tk j : Nat) : List Nat := (T.getD j tx0).bs.drop (tkj tk j)
def pre (T : List Tx) (tk j : Nat) : List (List Nat) := (List.range j).map (chk T tk)
def tot (O : List (List Nat)) : Nat := (O.map List.length).sum
def fiOf (tk j : Nat) : Nat := if j = 0 then 0 else if 0 < tk then 2 else 0
theorem pre_succ (T : List Tx) (tk j : Nat) : pre T tk (j + 1) = pre T tk j ++ [chk T tk j] := by
  unfold pre
  rw [List.range_succ, List.map_append]; rfl
theorem pre_len (T : List Tx) (tk j : Nat) : (pre T tk j).length = j := by unfold pre; rw [List.length_map, List.length_range]
theorem tot_push (O : List (List Nat)) (b : List Nat) : tot (O ++ [b]) = tot O + b.length := by unfold tot; simp
/-- What Build made of the texts that waited. -/
def Cut (T : List Tx) (tk room : Nat) (O : List (List Nat)) (fi : Nat) (T' : List Tx) (tk' : Nat) : Prop := ∃ m k, m + 1 ≤ 24 ∧ m < T.length ∧ 1 ≤ k ∧ k ≤ (chk T tk m).length ∧ O = pre T tk m ++ [(chk T tk m).take k] ∧
  fi = (if 0 < tk then 2 else 0) + (if k < (chk T tk m).length then 1 else 0) ∧ T' = (if k < (chk T tk m).length then T.drop m else T.drop (m + 1)) ∧ tk' = (if k < (chk T tk m).length then tkj tk m + k else 0) ∧ tot O + sizeL m ≤ room ∧ (k < (chk T tk m).length → tot O + sizeL m = room)
/-- Texts that may wait. -/
def Waits (T : List Tx) (tk : Nat) : Prop := T.length ≤ 64 ∧ (∀ t ∈ T, 1 ≤ t.bs.length ∧ t.bs.length ≤ 1000) ∧ ∀ t R, T = t :: R → tk < t.bs.length
theorem Waits.at_ {T : List Tx} {tk j : Nat} (h : Waits T tk) (hj : j < T.length) : ∃ t R, T.drop j = t :: R ∧ R = T.drop (j + 1) ∧ T.getD j tx0 = t ∧ tkj tk j < t.bs.length ∧ t.bs.length ≤ 1000 ∧ 1 ≤ (chk T tk j).length ∧ (chk T tk j).length = t.bs.length - tkj tk j := by
  have e : T.drop j = T[j] :: T.drop (j + 1) := List.drop_eq_getElem_cons hj
  have eg : T.getD j tx0 = T[j] := by rw [List.getD_eq_getElem?_getD, List.getElem?_eq_getElem hj]; rfl
  have h2 := h.2.1 T[j] (List.getElem_mem _)
  have hk : tkj tk j < T[j].bs.length := by
    unfold tkj
    split
    · next h0 => subst h0; exact h.2.2 _ _ (by rw [List.drop_zero] at e; exact e)
    · omega
  have hl : (chk T tk j).length = T[j].bs.length - tkj tk j := by unfold chk; rw [List.length_drop, eg]
  exact ⟨_, _, e, rfl, eg, hk, h2.2, by rw [hl]; omega, hl⟩
/-- All the fields are whole texts. -/
theorem Cut.whole {T : List Tx} {tk room j : Nat} (h : Waits T tk) (hj0 : 1 ≤ j) (hj : j ≤ T.length) (h24 : j ≤ 24) (hr : tot (pre T tk j) + sizeL (j - 1) ≤ room) : Cut T tk room (pre T tk j) (fiOf tk j) (T.drop j) (tkj tk j) := by
  obtain ⟨i, rfl⟩ : ∃ i, j = i + 1 := ⟨j - 1, by omega⟩
  obtain ⟨t, R, -, -, -, -, -, h1, -⟩ := h.at_ (show i < T.length by omega)
  refine ⟨i, (chk T tk i).length, by omega, by omega, h1, Nat.le_refl _, ?_, ?_, ?_, ?_, hr, fun h => absurd h (Nat.lt_irrefl _)⟩
  · rw [List.take_length, pre_succ]
  · rw [if_neg (Nat.lt_irrefl _)]; unfold fiOf; rw [if_neg (show ¬ i + 1 = 0 by omega), Nat.add_zero]
  · rw [if_neg (Nat.lt_irrefl _)]
  · rw [if_neg (Nat.lt_irrefl _)]; unfold tkj; rw [if_neg (show ¬ i + 1 = 0 by omega)]
/-- The last field is cut. -/
theorem Cut.cut {T : List Tx} {tk room j k : Nat} (hj : j < T.length) (h24 : j + 1 ≤ 24) (k1 : 1 ≤ k) (k2 : k < (chk T tk j).length) (hr : tot (pre T tk j) + k + sizeL j = room) :
    Cut T tk room (pre T tk j ++ [(chk T tk j).take k]) ((if 0 < tk then 2 else 0) + 1) (T.drop j) (tkj tk j + k) := by
  refine ⟨j, k, h24, hj, k1, by omega, rfl, ?_, ?_, ?_, ?_, fun _ => ?_⟩
  · rw [if_pos k2]
  · rw [if_pos k2]
  · rw [if_pos k2]
  · rw [tot_push, List.length_take]; omega
  · rw [tot_push, List.length_take]; omega
theorem info34 : (Try.prog.info? 34).map (fun i => (i.zero, i.size, i.bytes)) = some (some (.int .u64 0), 1, 8) := by kernel_rfl
theorem tot_le {O : List (List Nat)} {k : Nat} (h : ∀ b ∈ O, b.length ≤ k) : tot O ≤ k * O.length := by
  induction O with
  | nil => exact Nat.zero_le _
  | cons b O ih =>
    have h1 := h b (List.mem_cons_self ..)
    have h2 := ih fun x hx => h x (List.mem_cons_of_mem _ hx)
    show (b.length + (O.map List.length).sum) ≤ _
    rw [List.length_cons, Nat.mul_add, Nat.mul_one]
    unfold tot at h2
    omega
/-- What lies there when j texts were taken whole. -/
structure PB (w wr : World) (g gr gp : Nat) (rm : Int) (T : List Tx) (tk : Nat) (ls byt : Int) (room j used : Nat) (vF vD : Value) : Prop where
  q : IsQ wr g rm (T.drop j) (tkj tk j) ls (byt - used)
  p : Blk wr gp #[.int .i64 (fiOf tk j : Nat), vF, vD] 42
  r : Blk wr gr #[.int .i64 0, .slice none 0 0, .slice none 0 0] 42
  f : RowF wr w.heap.size vF (pre T tk j)
  d : ∃ xs, wr.ownsRow w.heap.size 34 1 vD j xs
  frm : Frm (fun x => x = g) w wr
  u : used = tot (pre T tk j)
  us : used ≤ room
  sz : 1 ≤ j → used + sizeL (j - 1) ≤ room
  j1 : j ≤ T.length
  j2 : j ≤ 24
  ne : gr ≠ gp
  lp : w.heap.size ≤ gp
  lr : w.heap.size ≤ gr
/-- What lies there at the end. -/
structure PZ (w wr : World) (g gr gp : Nat) (rm : Int) (T : List Tx) (tk : Nat) (ls byt : Int) (room : Nat) (fi : Nat) (vF vD : Value) (O : List (List Nat)) (T' : List Tx) (tk' : Nat) : Prop where
  q : IsQ wr g rm T' tk' ls (byt - tot O)
  p : Blk wr gp #[.int .i64 (fi : Int), vF, vD] 42
  r : Blk wr gr #[.int .i64 0, .slice none 0 0, .slice none 0 0] 42
  f : RowF wr w.heap.size vF O
  d : ∃ n xs, wr.ownsRow w.heap.size 34 1 vD n xs
  frm : Frm (fun x => x = g) w wr
  c : Cut T tk room O fi T' tk'
  ne : gr ≠ gp
  lp : w.heap.size ≤ gp
  lr : w.heap.size ≤ gr
theorem Cut.pos {T : List Tx} {tk room : Nat} {O : List (List Nat)} {fi : Nat} {T' : List Tx} {tk' : Nat} (h : Cut T tk room O fi T' tk') : 1 ≤ O.length ∧ O.length ≤ 24 := by
  obtain ⟨m, k, h1, -, -, -, rfl, -⟩ := h
  rw [List.length_append, pre_len, List.length_singleton]
  omega
theorem PB.done {w wr : World} {g gr gp : Nat} {rm : Int} {T : List Tx} {tk : Nat} {ls byt : Int} {room j used : Nat} {vF vD : Value} (h : PB w wr g gr gp rm T tk ls byt room j used vF vD) (hw : Waits T tk) (hj : 1 ≤ j) {w' : World} (f : Frm No wr w') :
    PZ w w' g gr gp rm T tk ls byt room (fiOf tk j) vF vD (pre T tk j) (T.drop j) (tkj tk j) :=
  ⟨by rw [← h.u]; exact h.q.frmN f, f.blk h.p (fun h => h), f.blk h.r (fun h => h), h.f.frmN f, by obtain ⟨xs, hx⟩ := h.d; exact ⟨j, xs, own_frm hx f (fun _ _ _ h => h)⟩, h.frm.thenN f, Cut.whole hw hj h.j1 h.j2 (by rw [← h.u]; exact h.sz hj), h.ne, h.lp, h.lr⟩
end Go.Proofs.Ytccaaldfccgncaa.A

/- TxwinLives: what the walk carries. -/
import Derived.Test.YthefmklblfjfeaaI
import Derived.Test.YthefmklblfjfeaaO
namespace Go.Proofs.Ythefmklblfjfeaa.A
open Go.RowKit Go.Proofs.Ythefmklblfjfeaa.K Go.Proofs.Ythefmklblfjfeaa.N
set_option linter.unusedVariables false
set_option linter.unusedSimpArgs false

set_option maxHeartbeats 2000000 in
theorem open_nil (w : World) (q : Int) : Calls Try.prog 21 #[.pointer none, .int .i64 q] w fun e w' => e = .returned (.bool false) ∧ Frm No w w' := by
  go_enter Try.func21, Try.ntmps21
  go_wp2_with fail
  refine wp_region_held_drew (S := fun _ => True) (by kernel_rfl) (by trivial) (fun hHeld => ?_)
  refine wpAnyH_take (i := 0) (v := ?rhv211f2_8_20_0) rfl (by kernel_rfl) (by kernel_rfl) (by kernel_rfl) (fun _ _ _ h => h) (Or.inl ⟨by rfl, ?rhy211f2_8_20_0⟩) (by assumption) ?rhr211f2_8_20_0
  case rhy211f2_8_20_0 => (intro w hSw; (try dsimp only at hSw); go_simp; try with_reducible rfl)
  try simp only [Act.put, List.setIfInBounds_toArray, List.set_cons_zero, List.set_cons_succ, List.getElem_toArray, List.getElem_cons_zero, List.getElem_cons_succ]
  refine wpAnyH_ready (rs := [1]) (by kernel_rfl) (by simp) (AllReadyH.cons rfl (fun K hK => ?_) AllReadyH.nil)
  go_simp
  refine (made_nil _).mono ?_
  rintro e w1 ⟨rfl, rfl⟩
  go_wp2_with fail
  refine hK.out _ _ ?_ (fun hHeld => ?_)
  · trivial
  clear hK K
  try simp only [Act.put, List.setIfInBounds_toArray, List.set_cons_zero, List.set_cons_succ, List.getElem_toArray, List.getElem_cons_zero, List.getElem_cons_succ]
  refine wpAnyH_take (i := 2) (v := ?rhv211f2_8_20_2) rfl (by kernel_rfl) (by kernel_rfl) (by kernel_rfl) (fun _ _ _ h => h) (Or.inl ⟨by rfl, ?rhy211f2_8_20_2⟩) (by assumption) ?rhr211f2_8_20_2
  case rhy211f2_8_20_2 => (intro w hSw; (try dsimp only at hSw); go_simp; try with_reducible rfl)
  try simp only [Act.put, List.setIfInBounds_toArray, List.set_cons_zero, List.set_cons_succ, List.getElem_toArray, List.getElem_cons_zero, List.getElem_cons_succ]
  refine wpAnyH_take (i := 3) (v := undef) rfl (by kernel_rfl) (by kernel_rfl) (by kernel_rfl) (fun _ _ _ h => h) (Or.inr ⟨by rfl, rfl⟩) (by assumption) ?_
  try simp only [Act.put, List.setIfInBounds_toArray, List.set_cons_zero, List.set_cons_succ, List.getElem_toArray, List.getElem_cons_zero, List.getElem_cons_succ]
  refine wpAnyH_take (i := 4) (v := undef) rfl (by kernel_rfl) (by kernel_rfl) (by kernel_rfl) (fun _ _ _ h => h) (Or.inr ⟨by rfl, rfl⟩) (by assumption) ?_
  try simp only [Act.put, List.setIfInBounds_toArray, List.set_cons_zero, List.set_cons_succ, List.getElem_toArray, List.getElem_cons_zero, List.getElem_cons_succ]
  refine wpAnyH_take (i := 5) (v := undef) rfl (by kernel_rfl) (by kernel_rfl) (by kernel_rfl) (fun _ _ _ h => h) (Or.inr ⟨by rfl, rfl⟩) (by assumption) ?_
  try simp only [Act.put, List.setIfInBounds_toArray, List.set_cons_zero, List.set_cons_succ, List.getElem_toArray, List.getElem_cons_zero, List.getElem_cons_succ]
  refine wpAnyH_take (i := 6) (v := undef) rfl (by kernel_rfl) (by kernel_rfl) (by kernel_rfl) (fun _ _ _ h => h) (Or.inr ⟨by rfl, rfl⟩) (by assumption) ?_
  try simp only [Act.put, List.setIfInBounds_toArray, List.set_cons_zero, List.set_cons_succ, List.getElem_toArray, List.getElem_cons_zero, List.getElem_cons_succ]
  refine wpAnyH_take (i := 7) (v := ?rhv211f2_8_20_7) rfl (by kernel_rfl) (by kernel_rfl) (by kernel_rfl) (fun _ _ _ h => h) (Or.inl ⟨by rfl, ?rhy211f2_8_20_7⟩) (by assumption) ?rhr211f2_8_20_7
  case rhy211f2_8_20_7 => (intro w hSw; (try dsimp only at hSw); go_simp; try with_reducible rfl)
  try simp only [Act.put, List.setIfInBounds_toArray, List.set_cons_zero, List.set_cons_succ, List.getElem_toArray, List.getElem_cons_zero, List.getElem_cons_succ]
  refine wpAnyH_take (i := 8) (v := ?rhv211f2_8_20_8) rfl (by kernel_rfl) (by kernel_rfl) (by kernel_rfl) (fun _ _ _ h => h) (Or.inl ⟨by rfl, ?rhy211f2_8_20_8⟩) (by assumption) ?rhr211f2_8_20_8
  case rhy211f2_8_20_8 => (intro w hSw; (try dsimp only at hSw); go_simp; try with_reducible rfl)
  try simp only [Act.put, List.setIfInBounds_toArray, List.set_cons_zero, List.set_cons_succ, List.getElem_toArray, List.getElem_cons_zero, List.getElem_cons_succ]
  refine wpAnyH_take (i := 9) (v := undef) rfl (by kernel_rfl) (by kernel_rfl) (by kernel_rfl) (fun _ _ _ h => h) (Or.inr ⟨by rfl, rfl⟩) (by assumption) ?_
  try simp only [Act.put, List.setIfInBounds_toArray, List.set_cons_zero, List.set_cons_succ, List.getElem_toArray, List.getElem_cons_zero, List.getElem_cons_succ]
  refine wpAnyH_take (i := 10) (v := undef) rfl (by kernel_rfl) (by kernel_rfl) (by kernel_rfl) (fun _ _ _ h => h) (Or.inr ⟨by rfl, rfl⟩) (by assumption) ?_
  try simp only [Act.put, List.setIfInBounds_toArray, List.set_cons_zero, List.set_cons_succ, List.getElem_toArray, List.getElem_cons_zero, List.getElem_cons_succ]
  refine wpAnyH_take (i := 11) (v := undef) rfl (by kernel_rfl) (by kernel_rfl) (by kernel_rfl) (fun _ _ _ h => h) (Or.inr ⟨by rfl, rfl⟩) (by assumption) ?_
  try simp only [Act.put, List.setIfInBounds_toArray, List.set_cons_zero, List.set_cons_succ, List.getElem_toArray, List.getElem_cons_zero, List.getElem_cons_succ]
  refine wpAnyH_take (i := 12) (v := undef) rfl (by kernel_rfl) (by kernel_rfl) (by kernel_rfl) (fun _ _ _ h => h) (Or.inr ⟨by rfl, rfl⟩) (by assumption) ?_
  try simp only [Act.put, List.setIfInBounds_toArray, List.set_cons_zero, List.set_cons_succ, List.getElem_toArray, List.getElem_cons_zero, List.getElem_cons_succ]
  refine wpAnyH_take (i := 13) (v := undef) rfl (by kernel_rfl) (by kernel_rfl) (by kernel_rfl) (fun _ _ _ h => h) (Or.inr ⟨by rfl, rfl⟩) (by assumption) ?_
  try simp only [Act.put, List.setIfInBounds_toArray, List.set_cons_zero, List.set_cons_succ, List.getElem_toArray, List.getElem_cons_zero, List.getElem_cons_succ]
  refine wpAnyH_take (i := 14) (v := undef) rfl (by kernel_rfl) (by kernel_rfl) (by kernel_rfl) (fun _ _ _ h => h) (Or.inr ⟨by rfl, rfl⟩) (by assumption) ?_
  try simp only [Act.put, List.setIfInBounds_toArray, List.set_cons_zero, List.set_cons_succ, List.getElem_toArray, List.getElem_cons_zero, List.getElem_cons_succ]
  refine wpAnyH_take (i := 15) (v := undef) rfl (by kernel_rfl) (by kernel_rfl) (by kernel_rfl) (fun _ _ _ h => h) (Or.inr ⟨by rfl, rfl⟩) (by assumption) ?_
  try simp only [Act.put, List.setIfInBounds_toArray, List.set_cons_zero, List.set_cons_succ, List.getElem_toArray, List.getElem_cons_zero, List.getElem_cons_succ]
  refine wpAnyH_take (i := 16) (v := undef) rfl (by kernel_rfl) (by kernel_rfl) (by kernel_rfl) (fun _ _ _ h => h) (Or.inr ⟨by rfl, rfl⟩) (by assumption) ?_
  try simp only [Act.put, List.setIfInBounds_toArray, List.set_cons_zero, List.set_cons_succ, List.getElem_toArray, List.getElem_cons_zero, List.getElem_cons_succ]
  refine wpAnyH_take (i := 17) (v := undef) rfl (by kernel_rfl) (by kernel_rfl) (by kernel_rfl) (fun _ _ _ h => h) (Or.inr ⟨by rfl, rfl⟩) (by assumption) ?_
  try simp only [Act.put, List.setIfInBounds_toArray, List.set_cons_zero, List.set_cons_succ, List.getElem_toArray, List.getElem_cons_zero, List.getElem_cons_succ]
  refine wpAnyH_take (i := 18) (v := undef) rfl (by kernel_rfl) (by kernel_rfl) (by kernel_rfl) (fun _ _ _ h => h) (Or.inr ⟨by rfl, rfl⟩) (by assumption) ?_
  try simp only [Act.put, List.setIfInBounds_toArray, List.set_cons_zero, List.set_cons_succ, List.getElem_toArray, List.getElem_cons_zero, List.getElem_cons_succ]
  refine wpAnyH_take (i := 19) (v := ?rhv211f2_8_20_19) rfl (by kernel_rfl) (by kernel_rfl) (by kernel_rfl) (fun _ _ _ h => h) (Or.inl ⟨by rfl, ?rhy211f2_8_20_19⟩) (by assumption) ?rhr211f2_8_20_19
  case rhy211f2_8_20_19 => (intro w hSw; (try dsimp only at hSw); go_simp; try with_reducible rfl)
  try simp only [Act.put, List.setIfInBounds_toArray, List.set_cons_zero, List.set_cons_succ, List.getElem_toArray, List.getElem_cons_zero, List.getElem_cons_succ]
  refine wpAnyH_take (i := 20) (v := ?rhv211f2_8_20_20) rfl (by kernel_rfl) (by kernel_rfl) (by kernel_rfl) (fun _ _ _ h => h) (Or.inl ⟨by rfl, ?rhy211f2_8_20_20⟩) (by assumption) ?rhr211f2_8_20_20
  case rhy211f2_8_20_20 => (intro w hSw; (try dsimp only at hSw); go_simp; try with_reducible rfl)
  try simp only [Act.put, List.setIfInBounds_toArray, List.set_cons_zero, List.set_cons_succ, List.getElem_toArray, List.getElem_cons_zero, List.getElem_cons_succ]
  refine wpAnyH_take (i := 21) (v := undef) rfl (by kernel_rfl) (by kernel_rfl) (by kernel_rfl) (fun _ _ _ h => h) (Or.inr ⟨by rfl, rfl⟩) (by assumption) ?_
  try simp only [Act.put, List.setIfInBounds_toArray, List.set_cons_zero, List.set_cons_succ, List.getElem_toArray, List.getElem_cons_zero, List.getElem_cons_succ]
  refine wpAnyH_take (i := 22) (v := undef) rfl (by kernel_rfl) (by kernel_rfl) (by kernel_rfl) (fun _ _ _ h => h) (Or.inr ⟨by rfl, rfl⟩) (by assumption) ?_
  try simp only [Act.put, List.setIfInBounds_toArray, List.set_cons_zero, List.set_cons_succ, List.getElem_toArray, List.getElem_cons_zero, List.getElem_cons_succ]
  refine wpAnyH_take (i := 23) (v := undef) rfl (by kernel_rfl) (by kernel_rfl) (by kernel_rfl) (fun _ _ _ h => h) (Or.inr ⟨by rfl, rfl⟩) (by assumption) ?_
  try simp only [Act.put, List.setIfInBounds_toArray, List.set_cons_zero, List.set_cons_succ, List.getElem_toArray, List.getElem_cons_zero, List.getElem_cons_succ]
  refine wpAnyH_take (i := 24) (v := undef) rfl (by kernel_rfl) (by kernel_rfl) (by kernel_rfl) (fun _ _ _ h => h) (Or.inr ⟨by rfl, rfl⟩) (by assumption) ?_
  try simp only [Act.put, List.setIfInBounds_toArray, List.set_cons_zero, List.set_cons_succ, List.getElem_toArray, List.getElem_cons_zero, List.getElem_cons_succ]
  refine wpAnyH_take (i := 25) (v := undef) rfl (by kernel_rfl) (by kernel_rfl) (by kernel_rfl) (fun _ _ _ h => h) (Or.inr ⟨by rfl, rfl⟩) (by assumption) ?_
  try simp only [Act.put, List.setIfInBounds_toArray, List.set_cons_zero, List.set_cons_succ, List.getElem_toArray, List.getElem_cons_zero, List.getElem_cons_succ]
  refine wpAnyH_take (i := 26) (v := undef) rfl (by kernel_rfl) (by kernel_rfl) (by kernel_rfl) (fun _ _ _ h => h) (Or.inr ⟨by rfl, rfl⟩) (by assumption) ?_
  try simp only [Act.put, List.setIfInBounds_toArray, List.set_cons_zero, List.set_cons_succ, List.getElem_toArray, List.getElem_cons_zero, List.getElem_cons_succ]
  refine wpAnyH_take (i := 27) (v := undef) rfl (by kernel_rfl) (by kernel_rfl) (by kernel_rfl) (fun _ _ _ h => h) (Or.inr ⟨by rfl, rfl⟩) (by assumption) ?_
  try simp only [Act.put, List.setIfInBounds_toArray, List.set_cons_zero, List.set_cons_succ, List.getElem_toArray, List.getElem_cons_zero, List.getElem_cons_succ]
  refine wpAnyH_take (i := 28) (v := ?rhv211f2_8_20_28) rfl (by kernel_rfl) (by kernel_rfl) (by kernel_rfl) (fun _ _ _ h => h) (Or.inl ⟨by rfl, ?rhy211f2_8_20_28⟩) (by assumption) ?rhr211f2_8_20_28
  case rhy211f2_8_20_28 => (intro w hSw; (try dsimp only at hSw); go_simp; try with_reducible rfl)
  try simp only [Act.put, List.setIfInBounds_toArray, List.set_cons_zero, List.set_cons_succ, List.getElem_toArray, List.getElem_cons_zero, List.getElem_cons_succ]
  refine wpAnyH_take (i := 29) (v := ?rhv211f2_8_20_29) rfl (by kernel_rfl) (by kernel_rfl) (by kernel_rfl) (fun _ _ _ h => h) (Or.inl ⟨by rfl, ?rhy211f2_8_20_29⟩) (by assumption) ?rhr211f2_8_20_29
  case rhy211f2_8_20_29 => (intro w hSw; (try dsimp only at hSw); go_simp; try with_reducible rfl)
  try simp only [Act.put, List.setIfInBounds_toArray, List.set_cons_zero, List.set_cons_succ, List.getElem_toArray, List.getElem_cons_zero, List.getElem_cons_succ]
  refine wpAnyH_done (by kernel_rfl) ?_ _
  go_wp2_with fail
  go_ret
  exact ⟨rfl, (Frm.refl _ _).drew⟩

theorem fD_nil (M : Nat) (q : Int) : fD M [] q = false := rfl
theorem reset_D (w : World) (g : Nat) (b z : Int) (mb n : Nat) (D : List Bool) (h : IsW w g b z mb n D) :
    Calls Try.prog 16 #[.pointer (some ⟨g, 0, none⟩)] w fun e w' => e = .returned (.tuple #[]) ∧ ∃ mb', w.heap.size ≤ mb' ∧ IsW w' g b z mb' 0 [] ∧ Frm (fun x => x = g) w w' := by
  refine (reset_ok w g b z _ _ mb h.2.2.2.2.1).mono ?_
  rintro e w' ⟨rfl, mb', h1, h2, h3, h4⟩
  refine ⟨rfl, mb', h1, ⟨h.1, h.2.1, h.2.2.1, by rw [fst_nil]; simp; have := h.2.1; omega, ?_, h3.congr fun _ => rfl⟩, h4⟩
  rw [fst_nil, List.length_nil, nm_zero h.1]; exact h2

/-! ### The calls that come in -/
structure TOp where
  kind : Int
  n : Int
  times : Int

def IsOps (w : World) (A : Option Addr) (n : Nat) (ops : List TOp) : Prop :=
  ops.length = n ∧ n ≤ 9223372036854775807 ∧ ∀ i o, ops[i]? = some o → ∃ ad, A = some ad ∧ ad.block < w.heap.size ∧
    w.cell? (ad.add (i * 3)) = some (.int .i64 o.kind) ∧ w.cell? (ad.add (i * 3 + 1)) = some (.int .i64 o.n) ∧ w.cell? (ad.add (i * 3 + 2)) = some (.int .i64 o.times)

open Go.ChangeShapes Go.WideShapes in
theorem open_ops {H : Type} {enc : TypeId × Value → H} {w : World} {A : Option Addr} {len cap : Nat} {d : DataW H} {p : List MemPlace}
    (h : DataW.Trod enc Try.prog w 0 (fun _ => true) true 39 (.slice A len cap) d p) : ∃ ops, IsOps w A len ops := by
  obtain ⟨hm, he⟩ := open_elems (C := 3) Try.underlying39 (by kernel_rfl) (by omega) h
  obtain ⟨l, hl, hp⟩ := list_of (α := TOp) (n := len) (p := fun i o => ∃ ad, A = some ad ∧ ad.block < w.heap.size ∧
    w.cell? (ad.add (i * 3)) = some (.int .i64 o.kind) ∧ w.cell? (ad.add (i * 3 + 1)) = some (.int .i64 o.n) ∧ w.cell? (ad.add (i * 3 + 2)) = some (.int .i64 o.times)) (fun i hi => by
      obtain ⟨ad, cs, y, m, e, hb, hlen, hc, ht⟩ := he i hi
      have hf := open_field Try.underlying46 (by kernel_rfl) (by kernel_rfl) ht
      obtain ⟨v0, z0, n0, c0, t0⟩ := hf 0 _ rfl
      obtain ⟨v1, z1, n1, c1, t1⟩ := hf 1 _ rfl
      obtain ⟨v2, z2, n2, c2, t2⟩ := hf 2 _ rfl
      obtain ⟨k, rfl, _⟩ := open_int_cell Try.underlying3 t0
      obtain ⟨ii, rfl, _⟩ := open_int_cell Try.underlying3 t1
      obtain ⟨nn, rfl, _⟩ := open_int_cell Try.underlying3 t2
      exact ⟨⟨k, ii, nn⟩, ad, e, hb, (hc 0 (by omega)).trans c0, (hc 1 (by omega)).trans c1, (hc 2 (by omega)).trans c2⟩)
  exact ⟨l, hl, hm, hp⟩

/-- Both windows, told by the same list. -/
def Both (w : World) (B g gx : Nat) (b z : Int) (N : Nat) (wr : World) : Prop :=
  ∃ (mb n : Nat) (D : List Bool), n ≤ N ∧ D.length ≤ N ∧ B ≤ mb ∧ IsW wr g b z mb n D ∧ IsX wr B gx b z D ∧ Frm No w wr
def LvO (w : World) (B g gx : Nat) (b z : Int) (vi : Value) (wr : World) : Prop := ∃ i : Nat, vi = .int .i64 i ∧ i ≤ 60 ∧ Both w B g gx b z (40 * i) wr
def LvI (w : World) (B g gx go : Nat) (b z : Int) (os : Array Value) (i : Nat) (vk : Value) (wr : World) : Prop := ∃ k : Nat, vk = .int .i64 k ∧ k ≤ 40 ∧ Blk wr go os 46 ∧ Both w B g gx b z (40 * i + k) wr
def LvM (w : World) (B g gx go : Nat) (b z : Int) (os : Array Value) (N : Nat) (v : Value) (wr : World) : Prop := v = .bool true ∧ Blk wr go os 46 ∧ Both w B g gx b z N wr

theorem IsW.xs {w w' : World} {B g gx : Nat} {b z : Int} {mb n : Nat} {D : List Bool} (h : IsW w g b z mb n D) (f : Frm (XS w B gx) w w') (hg : g ≠ gx) (hx : ∃ cs, Blk w gx cs 44) : IsW w' g b z mb n D :=
  h.frm f (fun e => by
    rcases e with e | ⟨_, cs, hb⟩
    · exact hg e
    · exact Blk.ne hb h.2.2.2.2.1 (by decide) rfl) (fun e => by
    rcases e with e | ⟨_, cs, hb⟩
    · obtain ⟨cs, hb⟩ := hx
      subst e
      exact h.2.2.2.2.2.ne hb rfl
    · exact h.2.2.2.2.2.ne hb rfl)
theorem Blk.xs {w w' : World} {B gx go : Nat} {os : Array Value} (h : Blk w go os 46) (f : Frm (XS w B gx) w w') (hx : ∃ cs, Blk w gx cs 44) : Blk w' go os 46 :=
  f.blk h (fun e => by
    rcases e with rfl | ⟨_, cs, hb⟩
    · obtain ⟨cs, hb⟩ := hx
      exact Blk.ne hb h (by decide) rfl
    · exact Blk.ne hb h (by decide) rfl)
theorem xack_is (w : World) (B gx : Nat) (b z : Int) (D : List Bool) (q : Int) (h : IsX w B gx b z D) (hw : D.length < fst D + szN b) (i0 : Nat) (h1 : fst D ≤ i0) (h2 : i0 < D.length) (h3 : D.getD i0 false = false) (hq : nm b i0 = q) :
    Calls Try.prog 15 #[.pointer (some ⟨gx, 0, none⟩), .int .i64 q] w fun e w' => e = .returned (.int .i64 0) ∧ IsX w' B gx b z (D.set i0 true) ∧ Frm (XS w B gx) w w' := hq ▸ xack w B gx b z D h hw i0 h1 h2 h3
theorem IsX.blk {w : World} {B gx : Nat} {b z : Int} {D : List Bool} (h : IsX w B gx b z D) : ∃ cs, Blk w gx cs 44 := by
  obtain ⟨_, _, v, hb, _⟩ := h
  exact ⟨_, hb⟩
theorem Frm.thenX {a w w' : World} {B gx : Nat} (h : Frm No a w) (k : Frm (XS w B gx) w w') (hB : a.heap.size ≤ B) (hgx : a.heap.size ≤ gx) : Frm No a w' :=
  h.then k fun i hi => .inr (by rcases hi with rfl | ⟨h, _⟩ <;> omega)
theorem IsX.gm {w w' : World} {B gx g mb : Nat} {b z : Int} {n : Nat} {D D' : List Bool} (h : IsX w B gx b z D) (t : IsW w g b z mb n D') (f : Frm (fun x => x = g ∨ x = mb) w w') : IsX w' B gx b z D :=
  h.frm f (fun k cs ty hty hb e => by
    rcases e with rfl | rfl
    · exact Blk.ne hb t.2.2.2.2.1 (by rcases hty with rfl | rfl <;> decide) rfl
    · exact t.2.2.2.2.2.ne hb rfl)
theorem IsX.g1 {w w' : World} {B gx g mb : Nat} {b z : Int} {n : Nat} {D D' : List Bool} (h : IsX w B gx b z D) (t : IsW w g b z mb n D') (f : Frm (fun x => x = g) w w') : IsX w' B gx b z D :=
  h.gm t (f.mono fun _ h => .inl h)
theorem Blk.gm {w w' : World} {go g mb : Nat} {b z : Int} {n : Nat} {D' : List Bool} {os : Array Value} (h : Blk w go os 46) (t : IsW w g b z mb n D') (f : Frm (fun x => x = g ∨ x = mb) w w') : Blk w' go os 46 :=
  f.blk h (fun e => by
    rcases e with rfl | rfl
    · exact Blk.ne h t.2.2.2.2.1 (by decide) rfl
    · exact t.2.2.2.2.2.ne h rfl)
theorem Blk.g1 {w w' : World} {go g mb : Nat} {b z : Int} {n : Nat} {D' : List Bool} {os : Array Value} (h : Blk w go os 46) (t : IsW w g b z mb n D') (f : Frm (fun x => x = g) w w') : Blk w' go os 46 :=
  Blk.gm (mb := mb) h t (f.mono fun _ h => .inl h)
end Go.Proofs.Ythefmklblfjfeaa.A

/- Ways in memory: blocks of bytes in a row. -/
import Derived.Test.YtbhkhabkkghapaaPB
import Derived.Test.YtbhkhabkkghapaaM
import Derived.ArgAppend
namespace Go.Proofs.Ytbhkhabkkghapaa.A
open Go.RowKit Go.Proofs.Ytbhkhabkkghapaa.K Go.Proofs.Ytbhkhabkkghapaa.N Go.Proofs.Ytbhkhabkkghapaa.F
set_option linter.unusedVariables false
set_option linter.unusedSimpArgs false

theorem by8_one (L : List Nat) : ∀ u ∈ L.map by8, u.oneCell' = true := fun u hu => by
  obtain ⟨n, _, rfl⟩ := List.mem_map.1 hu
  rfl
/-- The bytes that a slice has. -/
def Bin (w : World) (A : Option Addr) (L : List Nat) : Prop := Rds w 1 A L.length (L.map by8)
/-- .. in a block of bytes. -/
def Bys (w : World) (A : Option Addr) (L : List Nat) : Prop := Bin w A L ∧ (0 < L.length → ∃ ad cs, A = some ad ∧ Blk w ad.block cs 5)
theorem Bys.frm {w w' : World} {S : Nat → Prop} {A : Option Addr} {L : List Nat} (h : Bys w A L) (f : Frm S w w') (hS : ∀ x cs, Blk w x cs 5 → ¬ S x) : Bys w' A L := by
  obtain ⟨h1, h2⟩ := h
  refine ⟨h1.frm f (fun ad e h0 => ?_), fun h0 => ?_⟩
  · obtain ⟨ad', cs, e', hb⟩ := h2 h0
    rw [e] at e'
    injection e' with e'
    subst e'
    exact hS _ _ hb
  · obtain ⟨ad, cs, e, hb⟩ := h2 h0
    exact ⟨ad, cs, e, f.blk hb (hS _ _ hb)⟩
theorem Bys.frmN {w w' : World} {A : Option Addr} {L : List Nat} (h : Bys w A L) (f : Frm No w w') : Bys w' A L := h.frm f fun _ _ _ h => h
theorem Bin.frmN {w w' : World} {A : Option Addr} {L : List Nat} (h : Bin w A L) (f : Frm No w w') : Bin w' A L := Rds.frmN h f
theorem Bys.nil (w : World) (A : Option Addr) : Bys w A [] := ⟨Rds.nil _ _ _, fun h => absurd h (by simp)⟩
theorem Bys.of_own {w : World} {B : Nat} {n c : Nat} {A : Option Addr} {L : List Nat} (h : w.ownsRow B 5 1 (.slice A n c) n (L.map by8)) : Bys w A L ∧ n = L.length := by
  have hn : n = L.length := by have := h.1; simp at this; omega
  subst hn
  refine ⟨⟨Rds.of_own h, fun h0 => ?_⟩, rfl⟩
  rcases h.2 with ⟨_, h0'⟩ | ⟨g, cap, cur, hv, hg, hh, _⟩
  · omega
  · injection hv with hA
    exact ⟨_, cur, hA, hh⟩
/-- A slice of bytes. -/
structure Bl where
  A : Option Addr
  n : Nat
  c : Nat
def Bl.val (b : Bl) : Value := .slice b.A b.n b.c
def bl0 : Bl := ⟨none, 0, 0⟩
/-- It reads as these bytes. -/
def IsB (w : World) (b : Bl) (L : List Nat) : Prop := b.n = L.length ∧ b.n ≤ b.c ∧ Bys w b.A L
theorem IsB.frm {w w' : World} {S : Nat → Prop} {b : Bl} {L : List Nat} (h : IsB w b L) (f : Frm S w w') (hS : ∀ x cs, Blk w x cs 5 → ¬ S x) : IsB w' b L := ⟨h.1, h.2.1, h.2.2.frm f hS⟩
theorem IsB.frmN {w w' : World} {b : Bl} {L : List Nat} (h : IsB w b L) (f : Frm No w w') : IsB w' b L := h.frm f fun _ _ _ h => h
/-- A row of such slices. -/
def RdL (w : World) (S : List Bl) (L : List (List Nat)) : Prop := S.length = L.length ∧ ∀ j, j < L.length → IsB w (S.getD j bl0) (L.getD j [])
theorem RdL.frm {w w' : World} {Q : Nat → Prop} {S : List Bl} {L : List (List Nat)} (h : RdL w S L) (f : Frm Q w w') (hQ : ∀ x cs, Blk w x cs 5 → ¬ Q x) : RdL w' S L := ⟨h.1, fun j hj => (h.2 j hj).frm f hQ⟩
def RowS (w : World) (B : Nat) (v : Value) (k : Option Nat) (S : List Bl) (L : List (List Nat)) : Prop := w.ownsRow B 22 1 v L.length (S.map Bl.val) ∧ v.ownBlock = k ∧ RdL w S L
theorem RowS.frm {w w' : World} {Q : Nat → Prop} {B : Nat} {v : Value} {k : Option Nat} {S : List Bl} {L : List (List Nat)} (h : RowS w B v k S L) (f : Frm Q w w') (hk : ∀ x, k = some x → ¬ Q x) (h5 : ∀ x cs, Blk w x cs 5 → ¬ Q x) : RowS w' B v k S L := by
  obtain ⟨h1, h2, h3⟩ := h
  refine ⟨own_keep h1 (fun x hx => ?_), h2, h3.frm f h5⟩
  obtain ⟨_, cs, hb⟩ := own_blk h1 hx
  exact f.block x hb.lt (hk x (by rw [← h2]; exact hx))
theorem RowS.frmN {w w' : World} {B : Nat} {v : Value} {k : Option Nat} {S : List Bl} {L : List (List Nat)} (h : RowS w B v k S L) (f : Frm No w w') : RowS w' B v k S L := h.frm f (fun _ _ h => h) (fun _ _ _ h => h)
theorem RowS.nil (w : World) (B : Nat) : RowS w B (.slice none 0 0) none [] [] := ⟨World.ownsRow_nil _ _ _ _, rfl, rfl, fun j hj => absurd hj (by simp)⟩
theorem RowS.slice {w : World} {B : Nat} {v : Value} {k : Option Nat} {S : List Bl} {L : List (List Nat)} (h : RowS w B v k S L) : ∃ A c, v = .slice A L.length c ∧ L.length ≤ c ∧ Rds w 1 A L.length (S.map Bl.val) := own_is h.1
/-- The cell of a row. -/
theorem RowS.at_ {w : World} {B n c : Nat} {A : Option Addr} {k : Option Nat} {S : List Bl} {L : List (List Nat)} (h : RowS w B (.slice A n c) k S L) {j : Nat} (hj : j < L.length) :
    ∃ ad, A = some ad ∧ w.cell? (ad.add j) = some (S.getD j bl0).val ∧ IsB w (S.getD j bl0) (L.getD j []) := by
  obtain ⟨A', c', e, h1, h2⟩ := h.slice
  injection e with e1 e2 e3
  subst e1
  obtain ⟨ad, e, hb, hc⟩ := h2.2 (by omega)
  refine ⟨ad, e, hc j _ ?_, h.2.2.2 j hj⟩
  have hl := h.2.2.1
  rw [List.getElem?_map, List.getD_eq_getElem?_getD, List.getElem?_eq_getElem (by omega)]
  rfl
theorem RowS.blk {w : World} {B : Nat} {v : Value} {k : Option Nat} {S : List Bl} {L : List (List Nat)} (h : RowS w B v k S L) {x : Nat} (hx : k = some x) : B ≤ x ∧ ∃ cs, Blk w x cs 22 := own_blk h.1 (by rw [h.2.1]; exact hx)
/-- A way. -/
def IsW (w : World) (B g : Nat) (k : Option Nat) (L : List (List Nat)) (se lo : Int) : Prop := L.length ≤ 256 ∧ ∃ v S, Blk w g #[.bool true, v, .int .i64 se, .int .i64 lo] 48 ∧ RowS w B v k S L
theorem IsW.frm {w w' : World} {Q : Nat → Prop} {B g : Nat} {k : Option Nat} {L : List (List Nat)} {se lo : Int} (h : IsW w B g k L se lo) (f : Frm Q w w') (hg : ¬ Q g) (hk : ∀ x, k = some x → ¬ Q x) (h5 : ∀ x cs, Blk w x cs 5 → ¬ Q x) : IsW w' B g k L se lo := by
  obtain ⟨h0, v, S, h1, h2⟩ := h
  exact ⟨h0, v, S, f.blk h1 hg, h2.frm f hk h5⟩
theorem IsW.frmN {w w' : World} {B g : Nat} {k : Option Nat} {L : List (List Nat)} {se lo : Int} (h : IsW w B g k L se lo) (f : Frm No w w') : IsW w' B g k L se lo := h.frm f (fun h => h) (fun _ _ h => h) (fun _ _ _ h => h)

theorem run_append_zero {P : Program} (w : World) (t ty e : TypeId) (i : TypeInfo) (ht : P.underlying t = some (.slice e)) (hi : P.info? e = some i) (A A' : Option Addr) (c : Nat) : (Builtin.append_ #[t, t] ty #[.slice A 0 0, .slice A' 0 c]).run P w = .ok (.slice A 0 0) w := by
  have hl : ∀ b : Addr, (loadCells b 0).run P w = .ok #[] w := fun b => run_loadCells_list (P := P) w b [] (by simp)
  cases A <;> cases A' <;> simp [Builtin.append_, run_underlying ht, sizeOf, typeInfo, hi, Builtin.lenOf, Builtin.firstCells, storeCells, hl]
end Go.Proofs.Ytbhkhabkkghapaa.A

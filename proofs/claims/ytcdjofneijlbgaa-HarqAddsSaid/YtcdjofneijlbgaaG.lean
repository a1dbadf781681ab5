/- Bytes as strings; points made of small numbers; the fixed calls. -/
import Derived.Test.YtcdjofneijlbgaaE
import Derived.Laws.BytesString
namespace Go.Proofs.Ytcdjofneijlbgaa.A
open Go.RowKit Go.Proofs.Ytcdjofneijlbgaa.K Go.Proofs.Ytcdjofneijlbgaa.F Go.Proofs.Ytcdjofneijlbgaa.N
set_option linter.unusedVariables false
set_option linter.unusedSimpArgs false

/-- The text of bytes. -/
def bytesS (l : List Nat) : ByteArray := (l.map fun (n : Nat) => (n : Int)).foldl (fun r n => r.push (UInt8.ofNat n.toNat)) ByteArray.empty

theorem string_is {w : World} {A : Option Addr} {n c : Nat} (l : List Nat) (hl : l.length = n) (h : ∀ j, j < n → ∃ ad, A = some ad ∧ w.cell? (ad.add j) = some (by8 (l.getD j 0))) :
    (convert 33 9 (.slice A n c)).run Try.prog w = .ok (.string (bytesS l)) w := by
  rw [run_convert_bytes_string w 33 9 5 A n c Try.underlying33 Try.underlying5 Try.underlying9]
  cases A with
  | none =>
    have : n = 0 := by
      rcases Nat.eq_zero_or_pos n with h0 | h0
      · exact h0
      · obtain ⟨ad, e, _⟩ := h 0 h0; cases e
    subst this
    have : l = [] := List.eq_nil_of_length_eq_zero hl
    subst this
    rfl
  | some a =>
    have hc := run_loadCells_list (P := Try.prog) w a ((l.map fun (n : Nat) => (n : Int)).map (Value.int .u8)) (fun j v hv => by
      rw [List.map_map, List.getElem?_map] at hv
      cases hj : l[j]? with
      | none => rw [hj] at hv; cases hv
      | some x =>
        rw [hj] at hv
        simp only [Option.map_some, Option.some.injEq] at hv
        have hjl := (List.getElem?_eq_some_iff.1 hj).1
        obtain ⟨ad, e, hcell⟩ := h j (by omega)
        injection e with e
        subst e
        rw [hcell, ← hv, List.getD_eq_getElem?_getD, hj]
        rfl)
    rw [List.length_map, List.length_map, hl] at hc
    exact run_bytesToString w a n c _ hc

def RdB (w : World) (A : Option Addr) (L : List Nat) : Prop := ∀ j, j < L.length → ∃ ad, A = some ad ∧ (∃ cs, Blk w ad.block cs 5) ∧ w.cell? (ad.add j) = some (by8 (L.getD j 0))
theorem rdB_of {w : World} {B : Nat} {v : Value} {L : List Nat} (h : RowB w B v L) : ∃ A c, v = .slice A L.length c ∧ RdB w A L := by
  rcases h.2 with ⟨rfl, h0⟩ | ⟨g, cap, cur, rfl, hg, hh, h1, h2, h3⟩
  · have hL : L = [] := by simpa using h0
    subst hL
    exact ⟨none, 0, rfl, fun j hj => absurd hj (by simp)⟩
  · refine ⟨_, cap, rfl, fun j hj => ⟨_, rfl, ⟨cur, hh⟩, ?_⟩⟩
    refine World.ownsRow.cells h (g := g) rfl j _ ?_
    simp [List.getElem?_eq_getElem hj, List.getD_eq_getElem?_getD]
theorem RdB.frm {w w' : World} {S : Nat → Prop} {A : Option Addr} {L : List Nat} (h : RdB w A L) (f : Frm S w w') (hS : ∀ k cs, Blk w k cs 5 → ¬ S k) : RdB w' A L := fun j hj => by
  obtain ⟨ad, e, ⟨cs, hb⟩, hc⟩ := h j hj
  refine ⟨ad, e, ⟨cs, f.blk hb (hS _ _ hb)⟩, ?_⟩
  exact (World.cell?_of_block (f.block _ (by rw [block_add]; exact hb.lt) (by rw [block_add]; exact hS _ _ hb))).trans hc
theorem RdB.frmN {w w' : World} {A : Option Addr} {L : List Nat} (h : RdB w A L) (f : Frm No w w') : RdB w' A L := h.frm f (fun _ _ _ h => h)
theorem RdB.str {w : World} {A : Option Addr} {L : List Nat} {n c : Nat} (h : RdB w A L) (hn : L.length = n) : (convert 33 9 (.slice A n c)).run Try.prog w = .ok (.string (bytesS L)) w :=
  string_is L hn (fun j hj => by
    obtain ⟨ad, e, _, hc⟩ := h j (by omega)
    exact ⟨ad, e, hc⟩)
/-- A slice of bytes that came in, as a text. -/
theorem ints_str {w : World} {A : Option Addr} {n c : Nat} {zs : List Int} (h : Ints w .u8 A n zs) : (convert 33 9 (.slice A n c)).run Try.prog w = .ok (.string (bytesS (zs.map Int.toNat))) w :=
  string_is _ (by rw [List.length_map]; exact h.1) (fun j hj => by
    obtain ⟨ad, e, _, hc, hw⟩ := h.at_ hj
    refine ⟨ad, e, ?_⟩
    rw [hc]
    have h0 := (u8_of hw).1
    unfold by8
    have hjl : j < zs.length := by rw [h.1]; exact hj
    rw [List.getD_eq_getElem?_getD, List.getElem?_eq_getElem hjl] at h0 ⊢
    rw [List.getD_eq_getElem?_getD, List.getElem?_map, List.getElem?_eq_getElem hjl]
    simp only [Option.getD_some, Option.map_some] at h0 ⊢
    rw [Int.toNat_of_nonneg h0])
theorem Ints.frmN {w w' : World} {k : IntKind} {A : Option Addr} {n : Nat} {zs : List Int} (h : Ints w k A n zs) (f : Frm No w w') : Ints w' k A n zs := by
  obtain ⟨h1, h2, h3, h4⟩ := h
  refine ⟨h1, h2, h3, fun hn => ?_⟩
  obtain ⟨ad, e, hb, hc⟩ := h4 hn
  exact ⟨ad, e, Nat.lt_of_lt_of_le hb f.size, fun j hj => (World.cell?_of_block (f.block _ (by rw [block_add]; exact hb) (fun h => h))).trans (hc j hj)⟩

end Go.Proofs.Ytcdjofneijlbgaa.A

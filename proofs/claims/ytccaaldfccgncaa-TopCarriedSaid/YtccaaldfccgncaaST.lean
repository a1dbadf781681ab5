/- Bytes as strings. -/
import Derived.Test.YtccaaldfccgncaaPR
import Derived.Test.YtccaaldfccgncaaBW
import Derived.Test.YtccaaldfccgncaaGL
import Derived.Laws.BytesString
namespace Go.Proofs.Ytccaaldfccgncaa.A
open Go.RowKit Go.Proofs.Ytccaaldfccgncaa.K
set_option linter.unusedVariables false
set_option linter.unusedSimpArgs false

/-- The text of bytes. -/
def bytesS (l : List Nat) : ByteArray := (l.map fun (n : Nat) => (n : Int)).foldl (fun r n => r.push (UInt8.ofNat n.toNat)) ByteArray.empty

theorem string_is {w : World} {A : Option Addr} {n c : Nat} (l : List Nat) (hl : l.length = n) (h : ∀ j, j < n → ∃ ad, A = some ad ∧ w.cell? (ad.add j) = some (by8 (l.getD j 0))) :
    (convert 24 9 (.slice A n c)).run Try.prog w = .ok (.string (bytesS l)) w := by
  rw [run_convert_bytes_string w 24 9 5 A n c Try.underlying24 Try.underlying5 Try.underlying9]
  cases A with
  | none =>
    have : n = 0 := by
      rcases Nat.eq_zero_or_pos n with h0 | h0
      · exact h0
      · obtain ⟨ad, e, _⟩ := h 0 h0; cases e
    subst this
    have : l = [] := List.eq_nil_of_length_eq_zero hl
    subst this
    rfl
  | some a =>
    have hc := run_loadCells_list (P := Try.prog) w a ((l.map fun (n : Nat) => (n : Int)).map (Value.int .u8)) (fun j v hv => by
      rw [List.map_map, List.getElem?_map] at hv
      cases hj : l[j]? with
      | none => rw [hj] at hv; cases hv
      | some x =>
        rw [hj] at hv
        simp only [Option.map_some, Option.some.injEq] at hv
        have hjl := (List.getElem?_eq_some_iff.1 hj).1
        obtain ⟨ad, e, hcell⟩ := h j (by omega)
        injection e with e
        subst e
        rw [hcell, ← hv, List.getD_eq_getElem?_getD, hj]
        rfl)
    rw [List.length_map, List.length_map, hl] at hc
    exact run_bytesToString w a n c _ hc

theorem Bin.str {w : World} {A : Option Addr} {n c : Nat} {L : List Nat} (h : Bin w A L) (hn : L.length = n) : (convert 24 9 (.slice A n c)).run Try.prog w = .ok (.string (bytesS L)) w :=
  string_is L hn fun j hj => by
    obtain ⟨ad, e, -, hc⟩ := h.at_ (i := j) (by omega)
    exact ⟨ad, e, hc⟩
end Go.Proofs.Ytccaaldfccgncaa.A

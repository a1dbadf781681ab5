/- What umd.Read reads off the head. -/
import Derived.Test.YtccaaldfccgncaaUF
namespace Go.Proofs.Ytccaaldfccgncaa.A
open Go.RowKit Go.Proofs.Ytccaaldfccgncaa.K
set_option linter.unusedVariables false
theorem Bits.app {a b : List Nat} (ha : Bits a) (hb : Bits b) : Bits (a ++ b) := fun x hx => by
  rcases List.mem_append.1 hx with hx | hx
  · exact ha x hx
  · exact hb x hx
theorem Bits.nil' : Bits [] := fun x hx => by cases hx
theorem hd_read {b fi mo sn : Nat} (rest : List Nat) (hb : b = 5 ∨ b = 10) (hfi : fi ≤ 3) (hmo : mo ≤ 1) (hsn : sn ≤ 31) {pd : Nat} (hpd : 8 * (b / 5) - 3 - b = pd) :
    valB (pk (hdOf b fi mo sn) ++ rest) 0 pd = 0 ∧ valB (pk (hdOf b fi mo sn) ++ rest) pd 2 = fi ∧ valB (pk (hdOf b fi mo sn) ++ rest) (pd + 2) 1 = mo ∧ valB (pk (hdOf b fi mo sn) ++ rest) (pd + 3) b = sn := by
  have h0 : hdOf b fi mo sn = bitsOf 0 pd ++ bitsOf fi 2 ++ bitsOf mo 1 ++ bitsOf sn b := by unfold hdOf; rw [hpd]
  have z := bitsOf_bits 0 pd
  have f := bitsOf_bits fi 2
  have m := bitsOf_bits mo 1
  have s := bitsOf_bits sn b
  have hsb : sn < 2 ^ b := by rcases hb with rfl | rfl <;> omega
  refine ⟨?_, ?_, ?_, ?_⟩
  · have := valB_pk (rest := rest) (v := 0) (n := pd) Bits.nil' ((f.app m).app s) (Nat.pow_pos (by omega))
    rw [h0]
    simpa [List.append_assoc] using this
  · have := valB_pk (rest := rest) (v := fi) (n := 2) z (m.app s) (by omega)
    rw [bitsOf_len] at this
    rw [h0]
    simpa [List.append_assoc] using this
  · have := valB_pk (rest := rest) (v := mo) (n := 1) (z.app f) s (by omega)
    rw [List.length_append, bitsOf_len, bitsOf_len] at this
    rw [h0]
    simpa [List.append_assoc] using this
  · have := valB_pk (rest := rest) (v := sn) (n := b) ((z.app f).app m) Bits.nil' hsb
    rw [List.length_append, List.length_append, bitsOf_len, bitsOf_len, bitsOf_len] at this
    rw [h0]
    simpa [List.append_assoc] using this
end Go.Proofs.Ytccaaldfccgncaa.A

/- A packet's bytes: how many, how big, what lies behind the head. -/
import Derived.Test.YtccaaldfccgncaaUV
namespace Go.Proofs.Ytccaaldfccgncaa.A
open Go.RowKit Go.Proofs.Ytccaaldfccgncaa.K
set_option linter.unusedVariables false
def moOf (O : List (List Nat)) : Nat := if O.length = 1 then 0 else 1
/-- What lies behind the head. -/
def bodyOf (O : List (List Nat)) : List Nat := (if O.length = 1 then [] else pk (lb (lensOf O (O.length - 1)) (O.length - 1))) ++ O.flatten
theorem wire_is (b fi sn : Nat) (O : List (List Nat)) : wireOf b fi sn O = pk (hdOf b fi (moOf O) sn) ++ bodyOf O := by
  unfold wireOf bodyOf moOf
  rw [List.append_assoc]
theorem hd_bits (b fi mo sn : Nat) : Bits (hdOf b fi mo sn) := by
  unfold hdOf
  exact (((bitsOf_bits 0 _).app (bitsOf_bits fi 2)).app (bitsOf_bits mo 1)).app (bitsOf_bits sn b)
theorem hd_len (b fi mo sn : Nat) (hb : b = 5 ∨ b = 10) : (pk (hdOf b fi mo sn)).length = b / 5 := by
  rw [pk_len, hdOf_len b fi mo sn hb]
  omega
theorem pk_lt {bs : List Nat} (h : Bits bs) : ∀ x ∈ pk bs, x < 256 := fun x hx => by
  unfold pk at hx
  obtain ⟨j, _, rfl⟩ := List.mem_map.1 hx
  exact pkB_lt h j
theorem body_lt {O : List (List Nat)} (h256 : ∀ f ∈ O, ∀ x ∈ f, x < 256) : ∀ x ∈ bodyOf O, x < 256 := fun x hx => by
  unfold bodyOf at hx
  rcases List.mem_append.1 hx with hx | hx
  · split at hx
    · cases hx
    · exact pk_lt (lb_bits _ _) x hx
  · obtain ⟨f, hf, hx⟩ := List.mem_flatten.1 hx
    exact h256 f hf x hx
theorem wire_lt (b fi sn : Nat) {O : List (List Nat)} (h256 : ∀ f ∈ O, ∀ x ∈ f, x < 256) : ∀ x ∈ wireOf b fi sn O, x < 256 := fun x hx => by
  rw [wire_is] at hx
  rcases List.mem_append.1 hx with hx | hx
  · exact pk_lt (hd_bits _ _ _ _) x hx
  · exact body_lt h256 x hx
theorem wire_drop (b fi sn : Nat) (O : List (List Nat)) (hb : b = 5 ∨ b = 10) : (wireOf b fi sn O).drop (b / 5) = bodyOf O := by
  rw [wire_is, List.drop_left' (hd_len _ _ _ _ hb)]
theorem body_len (O : List (List Nat)) : (bodyOf O).length = (if O.length = 1 then 0 else (12 * (O.length - 1) + 7) / 8) + tot O := by
  unfold bodyOf
  rw [List.length_append, flat_len]
  split
  · rfl
  · rw [pk_len, lb_len]
theorem wire_len (b fi sn : Nat) (O : List (List Nat)) (hb : b = 5 ∨ b = 10) : (wireOf b fi sn O).length = b / 5 + (bodyOf O).length := by
  rw [wire_is, List.length_append, hd_len _ _ _ _ hb]
theorem wire_len_le (b fi sn : Nat) (O : List (List Nat)) (hb : b = 5 ∨ b = 10) (hok : FldOk O) (ht : tot O ≤ 3000) : (wireOf b fi sn O).length ≤ 3040 := by
  rw [wire_len _ _ _ _ hb, body_len]
  have := hok.2.1
  split <;> rcases hb with rfl | rfl <;> omega
end Go.Proofs.Ytccaaldfccgncaa.A

/- Bits and bytes, in plain numbers. -/
import Derived.Test.YtccaaldfccgncaaBP
import Derived.Laws.BitsAllLaws
import Derived.Laws.BitsLemmas
namespace Go.Proofs.Ytccaaldfccgncaa.A
open Go.RowKit Go.Proofs.Ytccaaldfccgncaa.K
set_option linter.unusedVariables false
set_option linter.unusedSimpArgs false

/-- Byte j of bits. -/
def pkB (bs : List Nat) (j : Nat) : Nat := bs.getD (8 * j) 0 * 128 + bs.getD (8 * j + 1) 0 * 64 + bs.getD (8 * j + 2) 0 * 32 + bs.getD (8 * j + 3) 0 * 16 + bs.getD (8 * j + 4) 0 * 8 + bs.getD (8 * j + 5) 0 * 4 + bs.getD (8 * j + 6) 0 * 2 + bs.getD (8 * j + 7) 0
def pk (bs : List Nat) : List Nat := (List.range ((bs.length + 7) / 8)).map (pkB bs)
def Bits (bs : List Nat) : Prop := ∀ b ∈ bs, b ≤ 1
theorem Bits.getD {bs : List Nat} (h : Bits bs) (i : Nat) : bs.getD i 0 ≤ 1 := by
  rw [List.getD_eq_getElem?_getD]
  by_cases hi : i < bs.length
  · rw [List.getElem?_eq_getElem hi]; exact h _ (List.getElem_mem _)
  · rw [List.getElem?_eq_none (by omega)]; exact Nat.zero_le _
theorem Bits.push {bs : List Nat} {b : Nat} (h : Bits bs) (hb : b ≤ 1) : Bits (bs ++ [b]) := fun x hx => by
  rcases List.mem_append.1 hx with hx | hx
  · exact h x hx
  · rcases List.mem_singleton.1 hx with rfl
    exact hb
theorem pk_len (bs : List Nat) : (pk bs).length = (bs.length + 7) / 8 := by unfold pk; rw [List.length_map, List.length_range]
theorem pkB_lt {bs : List Nat} (h : Bits bs) (j : Nat) : pkB bs j < 256 := by
  have h0 := h.getD (8 * j)
  have h1 := h.getD (8 * j + 1)
  have h2 := h.getD (8 * j + 2)
  have h3 := h.getD (8 * j + 3)
  have h4 := h.getD (8 * j + 4)
  have h5 := h.getD (8 * j + 5)
  have h6 := h.getD (8 * j + 6)
  have h7 := h.getD (8 * j + 7)
  unfold pkB
  omega
theorem getD_push (bs : List Nat) (b i : Nat) : (bs ++ [b]).getD i 0 = if i = bs.length then b else bs.getD i 0 := by
  rw [List.getD_eq_getElem?_getD, List.getD_eq_getElem?_getD]
  by_cases h1 : i < bs.length
  · rw [List.getElem?_append_left h1, if_neg (by omega)]
  · rw [List.getElem?_append_right (by omega)]
    by_cases h2 : i = bs.length
    · rw [if_pos h2, h2, Nat.sub_self]; rfl
    · rw [if_neg h2, List.getElem?_eq_none (by rw [List.length_singleton]; omega), List.getElem?_eq_none (by omega)]
theorem getD_out {bs : List Nat} {i : Nat} (h : bs.length ≤ i) : bs.getD i 0 = 0 := by
  rw [List.getD_eq_getElem?_getD, List.getElem?_eq_none h]; rfl
theorem pkB_push (bs : List Nat) (b j : Nat) : pkB (bs ++ [b]) j = pkB bs j + if j = bs.length / 8 then b * 2 ^ (7 - bs.length % 8) else 0 := by
  obtain ⟨n, hn⟩ : ∃ n, bs.length = n := ⟨_, rfl⟩
  unfold pkB
  simp only [getD_push, hn]
  have hz : ∀ i, n ≤ i → bs.getD i 0 = 0 := fun i hi => getD_out (by omega)
  by_cases hj : j = n / 8
  · rw [if_pos hj]
    have hr : n % 8 < 8 := Nat.mod_lt _ (by omega)
    have hd : n = 8 * j + n % 8 := by omega
    generalize n % 8 = r at hr hd ⊢
    have e0 := hz (8 * j + r) (by omega)
    match r, hr with
    | 0, _ => rw [if_pos (by omega), if_neg (by omega), if_neg (by omega), if_neg (by omega), if_neg (by omega), if_neg (by omega), if_neg (by omega), if_neg (by omega)]; rw [Nat.add_zero] at e0; omega
    | 1, _ => rw [if_neg (by omega), if_pos (by omega), if_neg (by omega), if_neg (by omega), if_neg (by omega), if_neg (by omega), if_neg (by omega), if_neg (by omega)]; omega
    | 2, _ => rw [if_neg (by omega), if_neg (by omega), if_pos (by omega), if_neg (by omega), if_neg (by omega), if_neg (by omega), if_neg (by omega), if_neg (by omega)]; omega
    | 3, _ => rw [if_neg (by omega), if_neg (by omega), if_neg (by omega), if_pos (by omega), if_neg (by omega), if_neg (by omega), if_neg (by omega), if_neg (by omega)]; omega
    | 4, _ => rw [if_neg (by omega), if_neg (by omega), if_neg (by omega), if_neg (by omega), if_pos (by omega), if_neg (by omega), if_neg (by omega), if_neg (by omega)]; omega
    | 5, _ => rw [if_neg (by omega), if_neg (by omega), if_neg (by omega), if_neg (by omega), if_neg (by omega), if_pos (by omega), if_neg (by omega), if_neg (by omega)]; omega
    | 6, _ => rw [if_neg (by omega), if_neg (by omega), if_neg (by omega), if_neg (by omega), if_neg (by omega), if_neg (by omega), if_pos (by omega), if_neg (by omega)]; omega
    | 7, _ => rw [if_neg (by omega), if_neg (by omega), if_neg (by omega), if_neg (by omega), if_neg (by omega), if_neg (by omega), if_neg (by omega), if_pos (by omega)]; omega
  · rw [if_neg hj, if_neg (by omega), if_neg (by omega), if_neg (by omega), if_neg (by omega), if_neg (by omega), if_neg (by omega), if_neg (by omega), if_neg (by omega)]; omega
/-- The row ahead of the store. -/
def pkr (bs : List Nat) : List Nat := if bs.length % 8 = 0 then pk bs ++ [0] else pk bs
theorem pkr_len (bs : List Nat) : (pkr bs).length = bs.length / 8 + 1 := by
  unfold pkr
  split
  · rw [List.length_append, pk_len, List.length_singleton]; omega
  · rw [pk_len]; omega
theorem pk_getD (bs : List Nat) {j : Nat} (h : j < (bs.length + 7) / 8) : (pk bs).getD j 0 = pkB bs j := by
  unfold pk
  rw [List.getD_eq_getElem?_getD, List.getElem?_map, List.getElem?_range h]; rfl
theorem pkB_out {bs : List Nat} {j : Nat} (h : bs.length ≤ 8 * j) : pkB bs j = 0 := by
  unfold pkB
  rw [getD_out h, getD_out (by omega), getD_out (by omega), getD_out (by omega), getD_out (by omega), getD_out (by omega), getD_out (by omega), getD_out (by omega)]
theorem pkr_getD (bs : List Nat) {j : Nat} (h : j < bs.length / 8 + 1) : (pkr bs).getD j 0 = pkB bs j := by
  unfold pkr
  split
  · next h0 =>
    rw [getD_push, pk_len]
    split
    · next h1 => rw [pkB_out (by omega)]
    · exact pk_getD bs (by omega)
  · exact pk_getD bs (by omega)
theorem pk_push (bs : List Nat) (b : Nat) : pk (bs ++ [b]) = (pkr bs).set (bs.length / 8) (pkB bs (bs.length / 8) + b * 2 ^ (7 - bs.length % 8)) := by
  have hl : (pk (bs ++ [b])).length = bs.length / 8 + 1 := by rw [pk_len, List.length_append, List.length_singleton]; omega
  apply List.ext_getElem
  · rw [hl, List.length_set, pkr_len]
  · intro j h1 h2
    have hj : j < bs.length / 8 + 1 := by rw [hl] at h1; exact h1
    have e1 : (pk (bs ++ [b]))[j] = pkB (bs ++ [b]) j := by
      have := pk_getD (bs ++ [b]) (j := j) (by rw [List.length_append, List.length_singleton]; omega)
      rw [List.getD_eq_getElem?_getD, List.getElem?_eq_getElem h1] at this
      exact this
    have e2 := pkr_getD bs hj
    rw [List.getD_eq_getElem?_getD, List.getElem?_eq_getElem (by rw [pkr_len]; exact hj)] at e2
    have e2 : (pkr bs)[j]'(by rw [pkr_len]; exact hj) = pkB bs j := e2
    rw [e1, pkB_push, List.getElem_set]
    by_cases h : bs.length / 8 = j
    · rw [if_pos h, if_pos h.symm, h]
    · rw [if_neg h, if_neg (fun e => h e.symm), Nat.add_zero, e2]
/-- What is laid in a byte is laid where nothing lies. -/
theorem pkB_mod (bs : List Nat) : pkB bs (bs.length / 8) % 2 ^ (7 - bs.length % 8 + 1) = 0 := by
  obtain ⟨n, hn⟩ : ∃ n, bs.length = n := ⟨_, rfl⟩
  rw [hn]
  have hz : ∀ i, n ≤ i → bs.getD i 0 = 0 := fun i hi => getD_out (by omega)
  obtain ⟨j, hj⟩ : ∃ j, n / 8 = j := ⟨_, rfl⟩
  rw [hj]
  have hr : n % 8 < 8 := Nat.mod_lt _ (by omega)
  have hd : n = 8 * j + n % 8 := by omega
  generalize n % 8 = r at hr hd ⊢
  unfold pkB
  match r, hr with
  | 0, _ => rw [hz _ (by omega), hz _ (by omega), hz _ (by omega), hz _ (by omega), hz _ (by omega), hz _ (by omega), hz _ (by omega), hz _ (by omega)]
  | 1, _ => rw [hz (8 * j + 1) (by omega), hz (8 * j + 2) (by omega), hz (8 * j + 3) (by omega), hz (8 * j + 4) (by omega), hz (8 * j + 5) (by omega), hz (8 * j + 6) (by omega), hz (8 * j + 7) (by omega)]; show _ % 128 = 0; omega
  | 2, _ => rw [hz (8 * j + 2) (by omega), hz (8 * j + 3) (by omega), hz (8 * j + 4) (by omega), hz (8 * j + 5) (by omega), hz (8 * j + 6) (by omega), hz (8 * j + 7) (by omega)]; show _ % 64 = 0; omega
  | 3, _ => rw [hz (8 * j + 3) (by omega), hz (8 * j + 4) (by omega), hz (8 * j + 5) (by omega), hz (8 * j + 6) (by omega), hz (8 * j + 7) (by omega)]; show _ % 32 = 0; omega
  | 4, _ => rw [hz (8 * j + 4) (by omega), hz (8 * j + 5) (by omega), hz (8 * j + 6) (by omega), hz (8 * j + 7) (by omega)]; show _ % 16 = 0; omega
  | 5, _ => rw [hz (8 * j + 5) (by omega), hz (8 * j + 6) (by omega), hz (8 * j + 7) (by omega)]; show _ % 8 = 0; omega
  | 6, _ => rw [hz (8 * j + 6) (by omega), hz (8 * j + 7) (by omega)]; show _ % 4 = 0; omega
  | 7, _ => rw [hz (8 * j + 7) (by omega)]; show _ % 2 = 0; omega
theorem or8_all : ((List.range 256).all fun x => (List.range 8).all fun s => (List.range 2).all fun b => x % 2 ^ (s + 1) != 0 || (bits .or .u8 (x : Int) ((b * 2 ^ s : Nat) : Int) == ((x + b * 2 ^ s : Nat) : Int))) = true := by decide +kernel
theorem or8 {x s b : Nat} (hx : x < 256) (hs : s < 8) (hb : b ≤ 1) (hm : x % 2 ^ (s + 1) = 0) : bits .or .u8 (x : Int) ((b * 2 ^ s : Nat) : Int) = ((x + b * 2 ^ s : Nat) : Int) := by
  have h := List.all_eq_true.1 or8_all x (List.mem_range.2 hx)
  have h := List.all_eq_true.1 h s (List.mem_range.2 hs)
  have h := List.all_eq_true.1 h b (List.mem_range.2 (by omega))
  rw [hm] at h
  simpa using h
/-- A number's bits, the highest first. -/
def bitsOf (v n : Nat) : List Nat := (List.range n).map fun i => v / 2 ^ (n - 1 - i) % 2
theorem bitsOf_len (v n : Nat) : (bitsOf v n).length = n := by unfold bitsOf; rw [List.length_map, List.length_range]
theorem bitsOf_bits (v n : Nat) : Bits (bitsOf v n) := fun x hx => by
  unfold bitsOf at hx
  obtain ⟨i, _, rfl⟩ := List.mem_map.1 hx
  omega
theorem bitsOf_take (v n i : Nat) (h : i < n) : (bitsOf v n).take (i + 1) = (bitsOf v n).take i ++ [v / 2 ^ (n - 1 - i) % 2] := by
  rw [List.take_succ_eq_append_getElem (by rw [bitsOf_len]; exact h)]
  congr 2
  unfold bitsOf
  rw [List.getElem_map, List.getElem_range]
theorem and64_all : ((List.range 4096).all fun x => bits .and .u64 (x : Int) 1 == ((x % 2 : Nat) : Int)) = true := by decide +kernel
theorem and64 {x : Nat} (h : x < 4096) : bits .and .u64 (x : Int) 1 = ((x % 2 : Nat) : Int) := by
  simpa using List.all_eq_true.1 and64_all x (List.mem_range.2 h)
theorem and8_all : ((List.range 256).all fun x => bits .and .u8 (x : Int) 1 == ((x % 2 : Nat) : Int)) = true := by decide +kernel
theorem and8 {x : Nat} (h : x < 256) : bits .and .u8 (x : Int) 1 = ((x % 2 : Nat) : Int) := by
  simpa using List.all_eq_true.1 and8_all x (List.mem_range.2 h)
theorem or64_all : ((List.range 2048).all fun x => bits .or .u64 ((2 * x : Nat) : Int) 1 == ((2 * x + 1 : Nat) : Int) && (bits .or .u64 ((2 * x : Nat) : Int) 0 == ((2 * x : Nat) : Int))) = true := by decide +kernel
theorem or64 {x b : Nat} (h : x < 2048) (hb : b ≤ 1) : bits .or .u64 ((2 * x : Nat) : Int) (b : Int) = ((2 * x + b : Nat) : Int) := by
  have h := List.all_eq_true.1 or64_all x (List.mem_range.2 h)
  rw [Bool.and_eq_true, beq_iff_eq, beq_iff_eq] at h
  match b, hb with
  | 0, _ => exact h.2
  | 1, _ => exact h.1
end Go.Proofs.Ytccaaldfccgncaa.A

/- Quarters in plain numbers. -/
import Derived.Test.YtbhkhabkkghapaaG
import Derived.Test.YtbhkhabkkghapaaO
namespace Go.Proofs.Ytbhkhabkkghapaa.A
open Go.RowKit Go.ChangeShapes Go.WideShapes Go.Proofs.Ytbhkhabkkghapaa.K Go.Proofs.Ytbhkhabkkghapaa.F Go.Proofs.Ytbhkhabkkghapaa.N
set_option linter.unusedVariables false
set_option linter.unusedSimpArgs false

def nearp (p : Pt) : Pt := (sg p.1, sg p.2)
theorem mem_getD {L : List Pt} {i : Nat} (h : i < L.length) : L.getD i (0, 0) ∈ L := by
  rw [List.getD_eq_getElem?_getD, List.getElem?_eq_getElem h]; exact List.getElem_mem _
theorem sml_at {L : List Pt} (h : Sml L) {i : Nat} (hi : i < L.length) : (L.getD i (0, 0)).1.natAbs < 2 ^ 51 ∧ (L.getD i (0, 0)).2.natAbs < 2 ^ 51 := by
  have := h _ (mem_getD hi); omega
theorem qt4 (p : Pt) : qt (qt (qt (qt p))) = p := by obtain ⟨x, y⟩ := p; simp [qt]
theorem turnp_qt : ∀ (k : Nat) (p : Pt), turnp k (qt p) = qt (turnp k p)
  | 0, _ => rfl
  | k + 1, p => by unfold turnp; rw [turnp_qt k]
theorem turnp_add : ∀ (k m : Nat) (p : Pt), turnp k (turnp m p) = turnp (k + m) p
  | 0, m, p => by rw [Nat.zero_add]; rfl
  | k + 1, m, p => by
    rw [show k + 1 + m = (k + m) + 1 by omega]
    unfold turnp
    rw [← turnp_qt, turnp_add k m]
theorem turnp_four4 (p : Pt) : turnp 4 p = p := by unfold turnp turnp turnp turnp turnp; exact qt4 p
theorem turnp_mod (k : Nat) (p : Pt) : turnp (k % 4) p = turnp k p := by
  have key : ∀ q r : Nat, turnp (r + 4 * q) p = turnp r p := by
    intro q
    induction q with
    | zero => intro r; rfl
    | succ q ih =>
      intro r
      rw [show r + 4 * (q + 1) = (r + 4 * q) + 4 by omega, ← turnp_add, turnp_four4, ih]
  conv => rhs; rw [← Nat.mod_add_div k 4]
  exact (key _ _).symm
theorem turn_two (k m : Int) (p : Pt) : turnp (qn m) (turnp (qn k) p) = turnp (qn (k + m)) p := by
  rw [turnp_add, ← turnp_mod]
  congr 1
  unfold qn; omega
theorem turn_zero (k : Int) (h : k % 4 = 0) (p : Pt) : turnp (qn k) p = p := by
  have : qn k = 0 := by unfold qn; omega
  rw [this]; rfl
theorem maps_two (L : List Pt) (k m : Int) : (L.map (turnp (qn k))).map (turnp (qn m)) = L.map (turnp (qn (k + m))) := by
  rw [List.map_map]; exact List.map_congr_left fun p _ => turn_two k m p
theorem maps_zero (L : List Pt) (k : Int) (h : k % 4 = 0) : L.map (turnp (qn k)) = L := by
  conv => rhs; rw [← List.map_id L]
  exact List.map_congr_left fun p _ => turn_zero k h p
theorem four_map {L : List Pt} (h : ∀ p ∈ L, Four p) (k : Int) : ∀ p ∈ L.map (turnp (qn k)), Four p := fun p hp => by
  obtain ⟨q, hq, rfl⟩ := List.mem_map.1 hp
  exact turn_four _ (h q hq)
theorem sml_of {L : List Pt} (h : ∀ p ∈ L, Four p) : Sml L := fun p hp => (h p hp).sml
theorem bytes_lt {zs : List Int} (h : ∀ z ∈ zs, (Lit.int .u8 z).wf = true) : ∀ c ∈ zs.map Int.toNat, c < 256 := fun c hc => by
  obtain ⟨z, hz, rfl⟩ := List.mem_map.1 hc
  have := u8_of (h z hz)
  omega
theorem i8_of {a : Int} (h : (Lit.int .i8 a).wf = true) : -128 ≤ a ∧ a ≤ 127 := by
  simp only [Lit.wf, Bool.and_eq_true, decide_eq_true_eq] at h
  exact h
/-- Equal points, as floats. -/
theorem eq_pt (p : Pt) (h : Four p) : (FloatKind.f64.format.order (FI p.1) (FI p.1) == some .eq) = true ∧ (FloatKind.f64.format.order (FI p.2) (FI p.2) == some .eq) = true := by
  have := h.sml
  exact ⟨by rw [cmp_eq _ _ (by omega) (by omega)]; simp, by rw [cmp_eq _ _ (by omega) (by omega)]; simp⟩

end Go.Proofs.Ytbhkhabkkghapaa.A

/- TimersOnce's walk, whole. -/
import Derived.Test.YtighfhdkgfgcmaaG
namespace Go.Proofs.Ytighfhdkgfgcmaa.A
open Go.RowKit Go.Proofs.Ytighfhdkgfgcmaa.K Go.Proofs.Ytighfhdkgfgcmaa.N

theorem u8_of {a : Int} (h : (Lit.int .u8 a).wf = true) : 0 ≤ a ∧ a ≤ 255 := by
  simp only [Lit.wf, Bool.and_eq_true, decide_eq_true_eq] at h
  exact h
theorem and7 {a : Int} (h : (Lit.int .u8 a).wf = true) : ∃ k : Nat, k < 8 ∧ bits .and .u8 a 7 = k := by
  obtain ⟨h0, h1⟩ := u8_of h
  have e : bits .and .u8 a 7 = a % 8 := by
    rw [u8_and a 7 h0 (by omega) (by omega) (by omega), show (7 : Int).toNat = 7 from rfl, nat_mask3]; omega
  exact ⟨(a % 8).toNat, by omega, by rw [e]; omega⟩
theorem and31 {a : Int} (h : (Lit.int .u8 a).wf = true) : ∃ k : Nat, k < 32 ∧ bits .and .u8 a 31 = k := by
  obtain ⟨h0, h1⟩ := u8_of h
  have e : bits .and .u8 a 31 = a % 32 := by
    rw [u8_and a 31 h0 (by omega) (by omega) (by omega), show (31 : Int).toNat = 31 from rfl, nat_mask5]; omega
  exact ⟨(a % 32).toNat, by omega, by rw [e]; omega⟩
theorem and63 {a : Int} (h : (Lit.int .u8 a).wf = true) : ∃ k : Nat, k < 64 ∧ bits .and .u8 a 63 = k := by
  obtain ⟨h0, h1⟩ := u8_of h
  have e : bits .and .u8 a 63 = a % 64 := by
    rw [u8_and a 63 h0 (by omega) (by omega) (by omega), show (63 : Int).toNat = 63 from rfl, nat_mask6]; omega
  exact ⟨(a % 64).toNat, by omega, by rw [e]; omega⟩

theorem once_walk (a b : Int) (A : Option Addr) (n c : Nat) (ops : List TOp) (w : World) (ha : (Lit.int .u8 a).wf = true) (hb : (Lit.int .u8 b).wf = true) (hI : IsOps w A n ops) :
    Calls Try.prog 3 #[.int .u8 a, .int .u8 b, .slice A n c] w fun e w' => e = .returned (.bool true) ∧ Frm No w w' := by
  obtain ⟨k, hk, e1⟩ := and7 ha
  obtain ⟨q, hq, e2⟩ := and63 hb
  exact once_core (q + 1) k (by omega) (by omega) hk a b e1 (by rw [e2]; omega) A n c ops w hI
end Go.Proofs.Ytighfhdkgfgcmaa.A

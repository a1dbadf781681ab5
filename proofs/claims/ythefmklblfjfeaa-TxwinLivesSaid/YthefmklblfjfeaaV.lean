/- txwin's methods on the list of what was sent. -/
import Derived.Test.YthefmklblfjfeaaT
import Derived.Test.YthefmklblfjfeaaU
namespace Go.Proofs.Ythefmklblfjfeaa.A
open Go.RowKit Go.Proofs.Ythefmklblfjfeaa.K Go.Proofs.Ythefmklblfjfeaa.N
set_option linter.unusedVariables false
set_option linter.unusedSimpArgs false

def szN (b : Int) : Nat := (sz b).toNat
def nm (b : Int) (i : Nat) : Int := ((i % szN b : Nat) : Int)
theorem szN_eq (b : Int) : ((szN b : Nat) : Int) = sz b := by unfold szN; have := (sz_le b).1; omega
theorem szN_two {b : Int} (hb : 1 ≤ b ∧ b ≤ 16) : 2 ≤ szN b ∧ szN b ≤ 65536 := by have := sz_range hb; have := szN_eq b; omega
theorem nm_eq (b : Int) (i : Nat) : nm b i = (i : Int) % sz b := by unfold nm; rw [Int.natCast_emod, szN_eq]
theorem nm_range {b : Int} (hb : 1 ≤ b ∧ b ≤ 16) (i : Nat) : 0 ≤ nm b i ∧ nm b i < sz b := by
  have := szN_two hb
  have := Nat.mod_lt i (show 0 < szN b by omega)
  have := szN_eq b
  unfold nm; omega
theorem nm_add (b : Int) (i k : Nat) : (nm b i + (k : Int)) % sz b = nm b (i + k) := by
  rw [nm_eq, nm_eq, Int.add_emod, Int.emod_emod, ← Int.add_emod]; simp
theorem nm_zero {b : Int} (hb : 1 ≤ b ∧ b ≤ 16) : nm b 0 = 0 := by unfold nm; simp
theorem fv_nm {b : Int} (hb : 1 ≤ b ∧ b ≤ 16) {i k : Nat} (h1 : i ≤ k) (h2 : k < i + szN b) : fv b (nm b i) (nm b k) = (k : Int) - i := by
  unfold fv
  rw [if_pos (nm_range hb k), nm_eq, nm_eq, ← Int.sub_emod, Int.emod_eq_of_lt (by omega) (by have := szN_eq b; omega)]

def IsW (w : World) (g : Nat) (b z : Int) (mb n : Nat) (D : List Bool) : Prop :=
  (1 ≤ b ∧ b ≤ 16) ∧ 1 ≤ z ∧ 2 * z ≤ sz b ∧ (D.length : Int) ≤ fst D + z ∧ Blk w g (winA b z (nm b (fst D)) (nm b D.length) mb) 53 ∧ MapB w mb n (fD (szN b) D)
theorem IsW.lt {w : World} {g : Nat} {b z : Int} {mb n : Nat} {D : List Bool} (h : IsW w g b z mb n D) : D.length < fst D + szN b := by
  have := szN_eq b
  obtain ⟨_, _, h3, h4, _⟩ := h
  omega
theorem IsW.frm {w w' : World} {S : Nat → Prop} {g : Nat} {b z : Int} {mb n : Nat} {D : List Bool} (h : IsW w g b z mb n D) (f : Frm S w w') (h1 : ¬ S g) (h2 : ¬ S mb) : IsW w' g b z mb n D :=
  ⟨h.1, h.2.1, h.2.2.1, h.2.2.2.1, f.blk h.2.2.2.2.1 h1, h.2.2.2.2.2.frm f h2⟩
theorem IsW.drewN {w : World} {g : Nat} {b z : Int} {mb n : Nat} {D : List Bool} (h : IsW w g b z mb n D) (k : Nat) : IsW (w.drewN k) g b z mb n D := h
theorem IsW.alloc {w : World} {g : Nat} {b z : Int} {mb n : Nat} {D : List Bool} (h : IsW w g b z mb n D) (o : Obj) : IsW (w.alloc o) g b z mb n D :=
  ⟨h.1, h.2.1, h.2.2.1, h.2.2.2.1, h.2.2.2.2.1.alloc o, h.2.2.2.2.2.alloc o⟩

theorem ends_D (w : World) (g : Nat) (b z : Int) (mb n : Nat) (D : List Bool) (h : IsW w g b z mb n D) :
    Calls Try.prog 10 #[.pointer (some ⟨g, 0, none⟩)] w fun e w' => e = .returned (.tuple #[.int .i64 (nm b (fst D)), .int .i64 (nm b D.length)]) ∧ Frm No w w' :=
  ends_ok w g b z _ _ mb h.2.2.2.2.1
/-- As many are there as may be. -/
def full (z : Int) (D : List Bool) : Bool := decide (z ≤ (D.length : Int) - fst D)
theorem stalled_D (w : World) (g : Nat) (b z : Int) (mb n : Nat) (D : List Bool) (h : IsW w g b z mb n D) :
    Calls Try.prog 12 #[.pointer (some ⟨g, 0, none⟩)] w fun e w' => e = .returned (.bool (full z D)) ∧ Frm No w w' := by
  refine stalled_is w g b z _ _ mb _ h.2.2.2.2.1 h.1 (nm_range h.1 _) ?_
  rw [fv_nm h.1 (fst_le D) h.lt]; rfl
def farD (b : Int) (D : List Bool) (q : Int) : Int := fv b (nm b (fst D)) q
theorem far_D (w : World) (g : Nat) (b z : Int) (mb n : Nat) (D : List Bool) (q : Int) (h : IsW w g b z mb n D) :
    Calls Try.prog 23 #[.pointer (some ⟨g, 0, none⟩), .int .i64 q] w fun e w' => e = .returned (.int .i64 (farD b D q)) ∧ Frm No w w' :=
  far_win w g b z _ _ mb q h.2.2.2.2.1 h.1 (nm_range h.1 _)
theorem next_D_full (w : World) (g : Nat) (b z : Int) (mb n : Nat) (D : List Bool) (h : IsW w g b z mb n D) (hf : full z D = true) :
    Calls Try.prog 8 #[.pointer (some ⟨g, 0, none⟩)] w fun e w' => e = .returned (.tuple #[.int .i64 0, .int .i64 11]) ∧ Frm No w w' := by
  refine next_full w g b z _ _ mb h.2.2.2.2.1 h.1 (nm_range h.1 _) ?_
  rw [fv_nm h.1 (fst_le D) h.lt]
  simpa [full] using hf
theorem next_D (w : World) (g : Nat) (b z : Int) (mb n : Nat) (D : List Bool) (h : IsW w g b z mb n D) (hf : full z D = false) :
    Calls Try.prog 8 #[.pointer (some ⟨g, 0, none⟩)] w fun e w' => e = .returned (.tuple #[.int .i64 (nm b D.length), .int .i64 0]) ∧ IsW w' g b z mb n (D ++ [false]) ∧ Frm (fun x => x = g) w w' := by
  have hf' : ¬ z ≤ (D.length : Int) - fst D := by simpa [full] using hf
  refine (next_ok w g b z _ _ mb h.2.2.2.2.1 h.1 (nm_range h.1 _) (nm_range h.1 _) ?_).mono ?_
  · rw [fv_nm h.1 (fst_le D) h.lt]; exact hf'
  · rintro e w' ⟨rfl, h2, f2⟩
    refine ⟨rfl, ⟨h.1, h.2.1, h.2.2.1, by rw [fst_app]; simp; omega, ?_, ?_⟩, f2⟩
    · rw [fst_app, List.length_append, List.length_singleton, ← nm_add]; exact h2
    · exact (h.2.2.2.2.2.frm f2 (h.2.2.2.2.2.ne h.2.2.2.2.1)).congr fun q => (fD_app _ D q).symm

/-- Is q open? -/
def opD (b : Int) (D : List Bool) (q : Int) : Bool := openB b (nm b (fst D)) (nm b D.length) (fD (szN b) D) q
theorem opD_at {w : World} {g : Nat} {b z : Int} {mb n : Nat} {D : List Bool} (h : IsW w g b z mb n D) {i : Nat} (h1 : fst D ≤ i) (h2 : i < D.length) (h3 : D.getD i false = false) : opD b D (nm b i) = true := by
  have hlt := h.lt
  unfold opD openB
  rw [fv_nm h.1 h1 (by omega), fv_nm h.1 (fst_le D) hlt, show fD (szN b) D (nm b i) = D.getD i false from fD_at hlt h1 (by omega), h3]
  simp; omega
theorem opD_iff {w : World} {g : Nat} {b z : Int} {mb n : Nat} {D : List Bool} (h : IsW w g b z mb n D) (q : Int) : opD b D q = true ↔ ∃ i, fst D ≤ i ∧ i < D.length ∧ D.getD i false = false ∧ q = nm b i := by
  constructor
  · intro ho
    have hlt := h.lt
    unfold opD openB at ho
    rw [fv_nm h.1 (fst_le D) hlt] at ho
    simp only [Bool.and_eq_true, decide_eq_true_eq, Bool.not_eq_true'] at ho
    obtain ⟨⟨h0, h1⟩, h2⟩ := ho
    have hq : 0 ≤ q ∧ q < sz b := by
      by_cases hc : 0 ≤ q ∧ q < sz b
      · exact hc
      · unfold fv at h0; rw [if_neg hc] at h0; omega
    obtain ⟨d, hd⟩ := Int.eq_ofNat_of_zero_le h0
    have hn := nm_add b (fst D) d
    have hqe : nm b (fst D + d) = q := by
      rw [← hn, ← hd]
      unfold fv
      rw [if_pos hq, Int.add_emod, Int.emod_emod, ← Int.add_emod, show nm b (fst D) + (q - nm b (fst D)) = q by omega]
      exact Int.emod_eq_of_lt hq.1 hq.2
    refine ⟨fst D + d, by omega, by omega, ?_, hqe.symm⟩
    rw [← hqe] at h2
    rw [← fD_at hlt (show fst D ≤ fst D + d by omega) (by omega)]
    exact h2
  · rintro ⟨i, h1, h2, h3, rfl⟩
    exact opD_at h h1 h2 h3
theorem open_D (w : World) (g : Nat) (b z : Int) (mb n : Nat) (D : List Bool) (q : Int) (h : IsW w g b z mb n D) (hq : (Lit.int .i64 q).wf = true) :
    Calls Try.prog 21 #[.pointer (some ⟨g, 0, none⟩), .int .i64 q] w fun e w' => e = .returned (.bool (opD b D q)) ∧ Frm No w w' :=
  open_win w g b z _ _ mb n _ q h.2.2.2.2.1 h.2.2.2.2.2 h.1 (nm_range h.1 _) hq

theorem ack_D (w : World) (g : Nat) (b z : Int) (mb n : Nat) (D : List Bool) (h : IsW w g b z mb n D) (hn : n < 1000000) (i0 : Nat) (h1 : fst D ≤ i0) (h2 : i0 < D.length) (h3 : D.getD i0 false = false) :
    Calls Try.prog 11 #[.pointer (some ⟨g, 0, none⟩), .int .i64 (nm b i0)] w fun e w' => e = .returned (.int .i64 0) ∧ IsW w' g b z mb (n + 1) (D.set i0 true) ∧ Frm (fun x => x = g ∨ x = mb) w w' := by
  have hlt := h.lt
  obtain ⟨k1, k2, k3, k4⟩ := ack_step hlt h1 h2
  have hle : fst (D.set i0 true) ≤ D.length := by have := fst_le (D.set i0 true); rwa [List.length_set] at this
  have hz := h.2.2.2.1
  have hz2 := h.2.2.1
  have hz1 := h.2.1
  have hsz := szN_eq b
  have e1 : nm b (fst D) + ((fst (D.set i0 true) - fst D : Nat) : Int) = nm b (fst D) + ((fst (D.set i0 true) - fst D : Nat) : Int) := rfl
  refine (ack_ok w g b z (nm b (fst D)) (nm b D.length) mb n (fD (szN b) D) (fun y => if y = nm b i0 then true else fD (szN b) D y) (nm b i0) h.2.2.2.2.1 h.2.2.2.2.2 hn h.1 (nm_range h.1 _) (nm_range h.1 _)
    (opD_at h h1 h2 h3) (fst (D.set i0 true) - fst D) (by omega) (fun _ => rfl) ?_ ?_).mono ?_
  · intro i hi
    rw [nm_add]
    exact k2 i hi
  · rw [nm_add, show fst D + (fst (D.set i0 true) - fst D) = fst (D.set i0 true) by omega]
    exact k3
  · rintro e w' ⟨rfl, t2, m2, f2⟩
    refine ⟨rfl, ⟨h.1, h.2.1, h.2.2.1, by rw [List.length_set]; omega, ?_, ?_⟩, f2⟩
    · rw [nm_add, show fst D + (fst (D.set i0 true) - fst D) = fst (D.set i0 true) by omega] at t2
      rw [List.length_set]; exact t2
    · refine m2.congr fun y => ?_
      rw [← k4 y]
      unfold gone
      congr 1
      refine List.all_congr rfl fun i => ?_
      rw [nm_add]; rfl
end Go.Proofs.Ythefmklblfjfeaa.A

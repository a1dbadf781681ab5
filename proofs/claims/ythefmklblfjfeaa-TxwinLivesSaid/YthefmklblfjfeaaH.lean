/- What the document's window does: find, Open, All, Next, Ack; and two lists that are the same. -/
import Derived.Test.YthefmklblfjfeaaG
namespace Go.Proofs.Ythefmklblfjfeaa.A
open Go.RowKit Go.Proofs.Ythefmklblfjfeaa.K Go.Proofs.Ythefmklblfjfeaa.N
set_option linter.unusedVariables false
set_option linter.unusedSimpArgs false

/-- What find answers. -/
def Found (b : Int) (D : List Bool) (q r : Int) : Prop :=
  (r = -1 ∧ ∀ i, fst D ≤ i → i < D.length → D.getD i false = false → q ≠ nm b i) ∨ (∃ i : Nat, r = i ∧ fst D ≤ i ∧ i < D.length ∧ D.getD i false = false ∧ q = nm b i)

set_option maxHeartbeats 1000000 in
theorem xfind (w : World) (B gx : Nat) (b z : Int) (D : List Bool) (q : Int) (h : IsX w B gx b z D) : Calls Try.prog 31 #[.pointer (some ⟨gx, 0, none⟩), .int .i64 q] w fun e w' => (∃ r, e = .returned (.int .i64 r) ∧ Found b D q r) ∧ w' = w := by
  have h' := h
  obtain ⟨-, hl, v, hb, ho⟩ := h'
  obtain ⟨A, c, rfl, hc⟩ := own_bools ho
  have h2 : w.cell? ⟨gx, 2, none⟩ = some (.slice A D.length c) := hb.cell 2
  have HC := Lib.hid hc
  have hle := fst_le D
  have H := Lib.hid h
  clear hb ho hc h
  obtain ⟨m, hm⟩ : ∃ m, D.length = m := ⟨_, rfl⟩
  have HM := Lib.hid hm
  rw [hm] at hl h2 hle
  clear hm
  go_enter Try.func31, Try.ntmps31
  go_wp2_with fail
  refine (xfirst _ B gx b z D H.out).mono ?_
  rintro e w1 ⟨rfl, rfl⟩
  go_wp2_with fail
  go_loopw [5] (fun vi wr => ∃ k : Nat, vi = .int .i64 k ∧ fst D ≤ k ∧ k ≤ m ∧ wr = w1 ∧ ∀ i, fst D ≤ i → i < k → D.getD i false = false → q ≠ nm b i) (fun vi _ => m - (intOf vi).toNat)
  case atStart => exact ⟨fst D, rfl, by omega, hle, rfl, fun i h1 h2 => by omega⟩
  case round =>
    obtain ⟨k, rfl, hk, hkm, rfl, hno⟩ := hrel
    have k0 : (0 : Int) ≤ (k : Int) := Int.natCast_nonneg _
    have HN := Lib.hid hno
    clear hno
    by_cases hlt : k < m
    · obtain ⟨ad, rfl, hcell⟩ := HC.out k (by have := HM.out; omega)
      have hki : (k : Int) < (m : Int) := by omega
      obtain ⟨x, hx⟩ : ∃ x, nm b k = x := ⟨_, rfl⟩
      obtain ⟨t, ht⟩ : ∃ t, D.getD k false = t := ⟨_, rfl⟩
      rw [ht] at hcell
      by_cases hxq : x = q
      · have d1 : (x == q) = true := by simpa using hxq
        have HXQ := Lib.hid hxq
        have HX := Lib.hid hx
        have HT := Lib.hid ht
        clear hxq hx ht
        cases t with
        | false =>
          go_wp2_with fail
          refine (xnumber_is _ B gx b z D H.out k x (by omega) HX.out).mono ?_
          rintro e w2 ⟨rfl, rfl⟩
          go_wp2_with fail
          go_ret
          exact ⟨⟨_, rfl, .inr ⟨k, rfl, hk, by have := HM.out; omega, HT.out, by rw [HX.out, HXQ.out]⟩⟩, rfl⟩
        | true =>
          go_wp2_with fail
          refine (xnumber_is _ B gx b z D H.out k x (by omega) HX.out).mono ?_
          rintro e w2 ⟨rfl, rfl⟩
          go_wp2_with fail
          go_roundw
          case rel =>
            refine ⟨k + 1, by go_num, by omega, by omega, (by first | rfl | trivial), fun i h1 h2 h3 => ?_⟩
            by_cases hik : i = k
            · subst hik; rw [HT.out] at h3; cases h3
            · exact HN.out i h1 (by omega) h3
          case measure => simp [intOf]; omega
      · have d1 : (x == q) = false := by simpa using hxq
        have HXQ := Lib.hid hxq
        have HX := Lib.hid hx
        clear hxq hx ht
        go_wp2_with fail
        refine (xnumber_is _ B gx b z D H.out k x (by omega) HX.out).mono ?_
        rintro e w2 ⟨rfl, rfl⟩
        go_wp2_with fail
        go_roundw
        case rel =>
          refine ⟨k + 1, by go_num, by omega, by omega, (by first | rfl | trivial), fun i h1 h2 h3 => ?_⟩
          by_cases hik : i = k
          · subst hik; rw [HX.out]; exact fun e => HXQ.out e.symm
          · exact HN.out i h1 (by omega) h3
        case measure => simp [intOf]; omega
    · have hki : ¬ (k : Int) < (m : Int) := by omega
      go_wp2_with fail
      go_ret
      exact ⟨⟨_, rfl, .inl ⟨rfl, fun i h1 h2 => HN.out i h1 (by have := HM.out; omega)⟩⟩, rfl⟩

theorem xopen (w : World) (B gx : Nat) (b z : Int) (D : List Bool) (q : Int) (h : IsX w B gx b z D) :
    Calls Try.prog 22 #[.pointer (some ⟨gx, 0, none⟩), .int .i64 q] w fun e w' => (∃ t, e = .returned (.bool t) ∧ (t = true ↔ ∃ i, fst D ≤ i ∧ i < D.length ∧ D.getD i false = false ∧ q = nm b i)) ∧ w' = w := by
  go_enter Try.func22, Try.ntmps22
  go_wp2_with fail
  refine (xfind _ B gx b z D q h).mono ?_
  rintro e w1 ⟨⟨r, rfl, hf⟩, rfl⟩
  rcases hf with ⟨rfl, hno⟩ | ⟨i, rfl, h1, h2, h3, h4⟩
  · go_wp2_with fail
    go_ret
    exact ⟨⟨_, rfl, ⟨fun e => absurd e (by decide), fun ⟨i, h1, h2, h3, h4⟩ => absurd h4 (hno i h1 h2 h3)⟩⟩, rfl⟩
  · have k0 : (0 : Int) ≤ (i : Int) := Int.natCast_nonneg _
    go_wp2_with fail
    go_ret
    exact ⟨⟨_, rfl, ⟨fun _ => ⟨i, h1, h2, h3, h4⟩, fun _ => rfl⟩⟩, rfl⟩
end Go.Proofs.Ythefmklblfjfeaa.A

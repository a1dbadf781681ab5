/- The document's Spoil, at any place. -/
import Derived.Test.YtbhkhabkkghapaaWQ
namespace Go.Proofs.Ytbhkhabkkghapaa.A
open Go.RowKit Go.Proofs.Ytbhkhabkkghapaa.K Go.Proofs.Ytbhkhabkkghapaa.N Go.Proofs.Ytbhkhabkkghapaa.F
set_option linter.unusedVariables false
set_option linter.unusedSimpArgs false

theorem rspoil_far (w : World) (B g : Nat) (k : Option Nat) (L : List (List Nat)) (se lo : Int) (i : Nat) (a q : Int) (h : IsR w B g k L se lo) (hF : Fits L) (hi : i < L.length) (ha : a < 0 ∨ 4 * ((L.getD i []).length : Int) ≤ a) : Calls Try.prog 20 #[.pointer (some ⟨g, 0, none⟩), .int .i64 (i : Int), .int .i64 a, .int .i64 q] w fun e w' =>
    e = .returned (.int .i64 1) ∧ Frm No w w' := by
  have hat := rat_any w B g k L se lo (i : Int) h
  have e1 : askI L (i : Int) = 0 := if_pos ⟨by omega, by omega⟩
  rw [e1, if_pos rfl, Int.toNat_natCast] at hat
  obtain ⟨f1, f2⟩ := fits_all hF hi
  obtain ⟨bs, hbs⟩ : ∃ bs, L.getD i [] = bs := ⟨_, rfl⟩
  rw [hbs] at f1 f2 ha hat
  have hplen := ofL_len bs
  by_cases ha0 : a < 0
  · clear ha
    go_enter Try.func20, Try.ntmps20
    go_wp2_with fail
    refine hat.mono ?_
    rintro e w1 ⟨⟨bA, bn, bc⟩, rfl, hbB, rfl⟩
    obtain ⟨b1, b2, b3⟩ := hbB
    simp only at b1 b2 b3
    simp only [Bl.val]
    have hof := rof_bin w1 bA bn bc bs b3.1 b1.symm (by omega) f2
    have hn4 : (ofL bs).length = 4 * bn := by omega
    have n9 : bn ≤ 4096 := by omega
    have HX := Lib.hid (And.intro hn4 (And.intro b1 (And.intro hbs hplen)))
    clear hat b1 hbs hplen hn4 f1
    go_wp2_with fail
    refine hof.mono ?_
    rintro e w2 ⟨v, rfl, R2, F2⟩
    obtain ⟨A2, c2, rfl, hrd2⟩ := rdP_of R2
    rw [HX.out.1] at R2 ⊢
    clear hof R2 hrd2
    go_wp2_with fail
    go_ret
    exact ⟨rfl, F2⟩
  · go_enter Try.func20, Try.ntmps20
    go_wp2_with fail
    refine hat.mono ?_
    rintro e w1 ⟨⟨bA, bn, bc⟩, rfl, hbB, rfl⟩
    obtain ⟨b1, b2, b3⟩ := hbB
    simp only at b1 b2 b3
    simp only [Bl.val]
    have hof := rof_bin w1 bA bn bc bs b3.1 b1.symm (by omega) f2
    have hn4 : (ofL bs).length = 4 * bn := by omega
    have n9 : bn ≤ 4096 := by omega
    have ha1 : 4 * (bn : Int) ≤ a := by omega
    have HX := Lib.hid (And.intro hn4 (And.intro b1 (And.intro hbs hplen)))
    clear hat b1 hbs hplen hn4 f1 ha
    go_wp2_with fail
    refine hof.mono ?_
    rintro e w2 ⟨v, rfl, R2, F2⟩
    obtain ⟨A2, c2, rfl, hrd2⟩ := rdP_of R2
    rw [HX.out.1] at R2 ⊢
    clear hof R2 hrd2
    go_wp2_with fail
    go_ret
    exact ⟨rfl, F2⟩
theorem rspoil_any (w : World) (B g : Nat) (k : Option Nat) (L : List (List Nat)) (se lo i a q : Int) (h : IsR w B g k L se lo) (hF : Fits L) (hB : B ≤ w.heap.size) : Calls Try.prog 20 #[.pointer (some ⟨g, 0, none⟩), .int .i64 i, .int .i64 a, .int .i64 q] w fun e w' =>
    e = .returned (.int .i64 (spE L i a)) ∧ (∃ k', IsR w' B g k' (if spE L i a = 0 then L.set i.toNat (spoilB (L.getD i.toNat []) a.toNat q) else L) se lo ∧ Anew w k k') ∧ Frm (fun x => x = g) w w' := by
  by_cases hin : 0 ≤ i ∧ i < L.length
  · obtain ⟨h0, h1⟩ := hin
    obtain ⟨j, rfl⟩ := Int.eq_ofNat_of_zero_le h0
    have e1 : askI L (j : Int) = 0 := if_pos ⟨h0, h1⟩
    rw [Int.toNat_natCast]
    by_cases ha : 0 ≤ a ∧ a < 4 * ((L.getD j []).length : Int)
    · have hE : spE L (j : Int) a = 0 := if_pos ⟨e1, by rw [Int.toNat_natCast]; exact ha⟩
      rw [hE, if_pos rfl]
      obtain ⟨a0, a1⟩ := ha
      obtain ⟨b, rfl⟩ := Int.eq_ofNat_of_zero_le a0
      rw [Int.toNat_natCast]
      exact rspoil_core w B g k L se lo j b q h hF hB (by omega) (by omega)
    · have hE : spE L (j : Int) a = 1 := if_neg (fun e => ha (by have := e.2; rwa [Int.toNat_natCast] at this))
      rw [hE, if_neg (by decide)]
      refine (rspoil_far w B g k L se lo j a q h hF (by omega) (by omega)).mono ?_
      rintro e w' ⟨he, f⟩
      exact ⟨he, ⟨k, h.frmN f, .inl rfl⟩, f.mono fun _ h => h.elim⟩
  · have e1 : askI L i = 1 := if_neg hin
    have hE : spE L i a = 1 := if_neg (fun e => by rw [e1] at e; cases e.1)
    rw [hE, if_neg (by decide)]
    have hat := rat_any w B g k L se lo i h
    rw [e1, if_neg (by decide)] at hat
    have H := Lib.hid h
    clear hin e1 hE h
    go_enter Try.func20, Try.ntmps20
    go_wp2_with fail
    refine hat.mono ?_
    rintro e w1 ⟨⟨bA, bn, bc⟩, rfl, hbB, rfl⟩
    simp only [Bl.val]
    clear hat hbB
    go_wp2_with fail
    go_ret
    exact ⟨rfl, ⟨k, H.out, .inl rfl⟩, Frm.refl _ _⟩
end Go.Proofs.Ytbhkhabkkghapaa.A

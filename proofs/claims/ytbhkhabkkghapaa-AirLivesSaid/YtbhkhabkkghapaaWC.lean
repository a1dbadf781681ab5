/- New, Len, Counts, ask, At, Clear, Send. -/
import Derived.Test.YtbhkhabkkghapaaWB
namespace Go.Proofs.Ytbhkhabkkghapaa.A
open Go.RowKit Go.Proofs.Ytbhkhabkkghapaa.K Go.Proofs.Ytbhkhabkkghapaa.N Go.Proofs.Ytbhkhabkkghapaa.F
set_option linter.unusedVariables false
set_option linter.unusedSimpArgs false

theorem new_ok (w : World) (B : Nat) : Calls Try.prog 7 #[] w fun e w' => e = .returned (.pointer (some ⟨w.heap.size, 0, none⟩)) ∧ IsW w' B w.heap.size none [] 0 0 ∧ Frm No w w' := by
  have hb : Blk (w.alloc (.cells #[.bool true, .slice none 0 0, .int .i64 0, .int .i64 0] 48)) w.heap.size #[.bool true, .slice none 0 0, .int .i64 0, .int .i64 0] 48 := Blk.new _ _ _
  have F := (Frm.refl No w).alloc (.cells #[.bool true, .slice none 0 0, .int .i64 0, .int .i64 0] 48)
  go_enter Try.func7, Try.ntmps7
  go_wp2_with fail
  go_ret
  exact ⟨rfl, ⟨by simp, _, [], hb, RowS.nil _ _⟩, F⟩
theorem IsW.cells {w : World} {B g : Nat} {k : Option Nat} {L : List (List Nat)} {se lo : Int} (h : IsW w B g k L se lo) :
    ∃ A c S, Blk w g #[.bool true, .slice A L.length c, .int .i64 se, .int .i64 lo] 48 ∧ L.length ≤ c ∧ RowS w B (.slice A L.length c) k S L := by
  obtain ⟨h0, v, S, h1, h2⟩ := h
  obtain ⟨A, c, rfl, hc, -⟩ := h2.slice
  exact ⟨A, c, S, h1, hc, h2⟩
theorem len_ok (w : World) (B g : Nat) (k : Option Nat) (L : List (List Nat)) (se lo : Int) (h : IsW w B g k L se lo) : Calls Try.prog 12 #[.pointer (some ⟨g, 0, none⟩)] w fun e w' => e = .returned (.int .i64 L.length) ∧ w' = w := by
  obtain ⟨A, c, S, hb, -, -⟩ := h.cells
  have k1 : w.cell? ⟨g, 1, none⟩ = some (.slice A L.length c) := hb.cell 1
  clear hb
  go_enter Try.func12, Try.ntmps12
  go_wp2_with fail
  go_ret
  exact ⟨rfl, rfl⟩
theorem counts_ok (w : World) (B g : Nat) (k : Option Nat) (L : List (List Nat)) (se lo : Int) (h : IsW w B g k L se lo) : Calls Try.prog 22 #[.pointer (some ⟨g, 0, none⟩)] w fun e w' => e = .returned (.tuple #[.int .i64 se, .int .i64 lo]) ∧ Frm No w w' := by
  obtain ⟨A, c, S, hb, -, -⟩ := h.cells
  have k2 : w.cell? ⟨g, 2, none⟩ = some (.int .i64 se) := hb.cell 2
  have k3 : w.cell? ⟨g, 3, none⟩ = some (.int .i64 lo) := hb.cell 3
  have hl := hb.lt
  clear hb
  go_enter Try.func22, Try.ntmps22
  go_wp2_with fail
  go_quiet (fail)
  go_wp2_with fail
  go_ret2
  exact ⟨rfl, (Frm.refl _ _).drewN _⟩
def askI (L : List (List Nat)) (i : Int) : Int := if 0 ≤ i ∧ i < L.length then 0 else 1
theorem ask_any (w : World) (B g : Nat) (k : Option Nat) (L : List (List Nat)) (se lo i : Int) (h : IsW w B g k L se lo) : Calls Try.prog 26 #[.pointer (some ⟨g, 0, none⟩), .int .i64 i] w fun e w' => e = .returned (.int .i64 (askI L i)) ∧ w' = w := by
  obtain ⟨A, c, S, hb, -, -⟩ := h.cells
  have k0 : w.cell? ⟨g, 0, none⟩ = some (.bool true) := hb.cell 0
  have k1 : w.cell? ⟨g, 1, none⟩ = some (.slice A L.length c) := hb.cell 1
  obtain ⟨n, hn⟩ : ∃ n, L.length = n := ⟨_, rfl⟩
  rw [hn] at k1
  obtain ⟨E, hE⟩ : ∃ E, askI L i = E := ⟨_, rfl⟩
  rw [hE]
  unfold askI at hE
  rw [hn] at hE
  clear hb hn
  by_cases h1 : i < 0
  · rw [if_neg (by omega)] at hE
    subst hE
    go_enter Try.func26, Try.ntmps26
    go_wp2_with fail
    go_ret
    exact ⟨rfl, rfl⟩
  · by_cases h2 : i < (n : Int)
    · rw [if_pos ⟨by omega, h2⟩] at hE
      subst hE
      go_enter Try.func26, Try.ntmps26
      go_wp2_with fail
      go_ret
      exact ⟨rfl, rfl⟩
    · rw [if_neg (by omega)] at hE
      subst hE
      go_enter Try.func26, Try.ntmps26
      go_wp2_with fail
      go_ret
      exact ⟨rfl, rfl⟩
/-- What blocks may be. -/
def Fits (L : List (List Nat)) : Prop := ∀ l ∈ L, l.length ≤ 4096 ∧ ∀ c ∈ l, c < 256
theorem fits_all {L : List (List Nat)} (h : Fits L) {j : Nat} (hj : j < L.length) : (L.getD j []).length ≤ 4096 ∧ ∀ c ∈ L.getD j [], c < 256 := by
  rw [List.getD_eq_getElem?_getD, List.getElem?_eq_getElem hj]; exact h _ (List.getElem_mem _)
theorem fits_at {L : List (List Nat)} (h : Fits L) {j : Nat} (hj : j < L.length) : (L.getD j []).length ≤ 4096 := (fits_all h hj).1
set_option maxRecDepth 100000 in
set_option maxHeartbeats 2000000 in
theorem at_any (w : World) (B g : Nat) (k : Option Nat) (L : List (List Nat)) (se lo i : Int) (h : IsW w B g k L se lo) (hF : Fits L) : Calls Try.prog 11 #[.pointer (some ⟨g, 0, none⟩), .int .i64 i] w fun e w' =>
    ∃ b : Bl, e = .returned (.tuple #[b.val, .int .i64 (askI L i)]) ∧ IsB w' b (if askI L i = 0 then L.getD i.toNat [] else []) ∧ Frm No w w' := by
  have hc := ask_any w B g k L se lo i h
  obtain ⟨A, c, S, hb, hlc, hr⟩ := h.cells
  have k1 : w.cell? ⟨g, 1, none⟩ = some (.slice A L.length c) := hb.cell 1
  by_cases hin : 0 ≤ i ∧ i < L.length
  · have hE : askI L i = 0 := if_pos hin
    rw [hE] at hc ⊢
    rw [if_pos rfl]
    obtain ⟨h0, h1⟩ := hin
    obtain ⟨j, rfl⟩ := Int.eq_ofNat_of_zero_le h0
    have hj : j < L.length := by omega
    rw [Int.toNat_natCast]
    obtain ⟨ad, rfl, ca, hB⟩ := hr.at_ hj
    obtain ⟨⟨bA, bn, bc⟩, hbl⟩ : ∃ b, S.getD j bl0 = b := ⟨_, rfl⟩
    rw [hbl] at ca hB
    have ca' : w.cell? (ad.add j) = some (.slice bA bn bc) := ca
    obtain ⟨b1, b2, b3⟩ := hB
    have b1' : (L.getD j []).length = bn := b1.symm
    have hfl := fits_at hF hj
    have hcl := clone_ok w bA bn bc (L.getD j []) b3.1 b1' (by omega)
    obtain ⟨n, hn⟩ : ∃ n, L.length = n := ⟨_, rfl⟩
    rw [hn] at k1 h1
    clear hb hr ca hE b1 b1' b2 b3 hbl hfl hn
    go_enter Try.func11, Try.ntmps11
    go_wp2_with fail
    refine hc.mono ?_
    rintro e w1 ⟨rfl, rfl⟩
    go_wp2_with fail
    refine hcl.mono ?_
    rintro e w2 ⟨b, rfl, hb2, F2⟩
    go_wp2_with fail
    go_ret2
    exact ⟨b, rfl, hb2, F2⟩
  · have hE : askI L i = 1 := if_neg hin
    rw [hE] at hc ⊢
    rw [if_neg (by decide)]
    clear hb hr hin hE
    go_enter Try.func11, Try.ntmps11
    go_wp2_with fail
    refine hc.mono ?_
    rintro e w1 ⟨rfl, rfl⟩
    go_wp2_with fail
    go_ret2
    exact ⟨bl0, rfl, ⟨rfl, Nat.le_refl _, Bys.nil _ _⟩, Frm.refl _ _⟩
/-- A row that is another one, or as it was. -/
def Anew (w : World) (k k' : Option Nat) : Prop := k' = k ∨ ∀ x, k' = some x → w.heap.size ≤ x
theorem clear_ok (w : World) (B g : Nat) (k : Option Nat) (L : List (List Nat)) (se lo : Int) (h : IsW w B g k L se lo) (hb1 : -1000000000 ≤ lo) (hb2 : lo ≤ 1000000000) : Calls Try.prog 21 #[.pointer (some ⟨g, 0, none⟩)] w fun e w' =>
    e = .returned (.tuple #[]) ∧ IsW w' B g none [] se (lo + L.length) ∧ Frm (fun x => x = g) w w' := by
  have hL := h.1
  obtain ⟨A, c, S, hb, hlc, hr⟩ := h.cells
  obtain ⟨n, hn⟩ : ∃ n, L.length = n := ⟨_, rfl⟩
  rw [hn] at hb hL ⊢
  have k1 : w.cell? ⟨g, 1, none⟩ = some (.slice A n c) := hb.cell 1
  have k3 : w.cell? ⟨g, 3, none⟩ = some (.int .i64 lo) := hb.cell 3
  have z1 := hb.free 1
  have z3 := hb.free 3
  have hl := hb.lt
  have n0 : (0 : Int) ≤ (n : Int) := Int.natCast_nonneg _
  have n9 : (n : Int) ≤ 256 := by omega
  have pw : IntKind.i64.wrap (lo + (n : Int)) = lo + (n : Int) := IntWalk.i64_in _ ⟨by omega, by omega⟩
  have fin := (hb.set 3 (.int .i64 (lo + (n : Int)))).set 1 (.slice none 0 0)
  have F := ((Frm.refl (fun x => x = g) w).self 3 (.int .i64 (lo + (n : Int)))).self 1 (.slice none 0 0)
  have FIN := Lib.hid (And.intro fin F)
  have HP := Lib.hid pw
  clear hb hr hn fin F pw
  go_enter Try.func21, Try.ntmps21
  go_wp2_with fail
  have pw := HP.out
  go_region
  clear pw
  go_wp2_with fail
  go_end0
  refine ⟨rfl, ⟨by simp, _, [], ?_, RowS.nil _ _⟩, ?_⟩
  · have := FIN.out.1
    simp at this
    exact this
  · exact ⟨FIN.out.2.os, FIN.out.2.tape, FIN.out.2.output, FIN.out.2.size, FIN.out.2.block⟩
end Go.Proofs.Ytbhkhabkkghapaa.A

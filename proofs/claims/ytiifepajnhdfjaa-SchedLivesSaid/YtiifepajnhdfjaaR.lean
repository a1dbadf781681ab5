/- alive. -/
import Derived.Test.YtiifepajnhdfjaaQ
namespace Go.Proofs.Ytiifepajnhdfjaa.A
open Go.RowKit Go.Proofs.Ytiifepajnhdfjaa.K
set_option linter.unusedVariables false
set_option linter.unusedSimpArgs false

theorem add_is (w : World) (B g : Nat) (U U' : List US) (x wt E : Int) (h : IsS w B g U) (hB : B ≤ w.heap.size) (hE : addE U x wt = E) (hU : (if E = 0 then U ++ [⟨x, wt, 0⟩] else U) = U') :
    Calls Try.prog 7 #[.pointer (some ⟨g, 0, none⟩), .int .i64 x, .int .i64 wt] w fun e w' => e = .returned (.int .i64 E) ∧ IsS w' B g U' ∧ Frm (SG w B g) w w' := by
  have := add_any w B g U x wt h hB
  rw [hE, hU] at this
  exact this
theorem Frm.thenSG {w0 w w' : World} {B g : Nat} (h : Frm No w0 w) (k : Frm (SG w B g) w w') (hB : w0.heap.size ≤ B) (hg : w0.heap.size ≤ g) : Frm No w0 w' := h.then k fun i hi => .inr (by
  rcases hi with rfl | ⟨h1, _⟩ <;> omega)
theorem Frm.thenSU {w0 w w' : World} {B : Nat} (h : Frm No w0 w) (k : Frm (SU w B) w w') (hB : w0.heap.size ≤ B) : Frm No w0 w' := h.then k fun i hi => .inr (by
  obtain ⟨h1, _⟩ := hi; omega)
/-- Wants in a block of their own are not turned by the calls. -/
theorem rdW_keep {w w' : World} {B g : Nat} {L : List Wn} {cs : Array Value} (h : Blk w g cs 35) (hc : cs.toList = L.flatMap wc) (f : Frm (SU w B) w w') : RdW w' (some ⟨g, 0, none⟩) L :=
  rdW_blk (f.blk h (fun hs => by obtain ⟨_, cs2, hb⟩ := hs; exact Blk.ne hb h (by decide) rfl)) hc

theorem give_is (w : World) (B g : Nat) (U U' : List US) (t : Int) (A : Option Addr) (n c : Nat) (W O : List Wn) (R : Int) (h : IsS w B g U) (hWS : ∀ w', Frm (SU w B) w w' → RdW w' A W) (hn : W.length = n) (hn2 : n ≤ 1000) (hcap : n ≤ c) (hE : askE U t W = 0) (hR : Rat U R) (hR2 : R ≤ 1000000000) (hB : B ≤ w.heap.size)
    (ht0 : 0 ≤ t) (ht1 : t ≤ 65536) (hin : ∀ j, j < n → fi U (W.getD j (0, 0)).1 < U.length) (hwb : ∀ j, 0 ≤ (leftTo U W n).getD j 0 ∧ (leftTo U W n).getD j 0 ≤ 1048576) (E : GS) (hEq : fin ⟨restTo U (leftTo U W n) (leastTo U (leftTo U W n) U.length) U.length, leftTo U W n, List.replicate U.length 0, t⟩ = E)
    (hU' : E.U = U') (hO : outTo W E.U E.G n = O) :
    Calls Try.prog 9 #[.pointer (some ⟨g, 0, none⟩), .int .i64 t, .slice A n c] w fun e w' => ∃ A' c', e = .returned (.tuple #[.slice A' n c', .int .i64 0]) ∧ RdW w' A' O ∧ IsS w' B g U' ∧ Rat U' (R + t) ∧ Frm (SU w B) w w' := by
  refine (give_ok w B g U t A n c W R h hWS hn hn2 hcap hE hR hR2 hB ht0 ht1 hin hwb E hEq).mono ?_
  rintro e w' ⟨v, rfl, r1, r2, r3, r4⟩
  obtain ⟨A', c', rfl, -, r5⟩ := rdW_of r1
  rw [outTo_len] at *
  rw [hU'] at r2 r3
  rw [hO] at r5
  exact ⟨A', c', rfl, r5, r2, r3, r4⟩

def U56 : List US := [⟨5, 1, 0⟩, ⟨6, 2, 0⟩]
def V56 : List US := [⟨5, 1, 64⟩, ⟨6, 2, 128⟩]
def W56 : List Wn := [(5, 1000), (6, 1000)]
theorem fin56 : fin ⟨restTo U56 (leftTo U56 W56 2) (leastTo U56 (leftTo U56 W56 2) U56.length) U56.length, leftTo U56 W56 2, List.replicate U56.length 0, 192⟩ = ⟨V56, [936, 872], [64, 128], 0⟩ := by
  refine (fin_step (s' := ⟨[⟨5, 1, 64⟩, ⟨6, 2, 0⟩], [936, 1000], [64, 0], 128⟩) (by rfl)).trans ?_
  refine (fin_step (s' := ⟨[⟨5, 1, 64⟩, ⟨6, 2, 64⟩], [936, 936], [64, 64], 64⟩) (by rfl)).trans ?_
  refine (fin_step (s' := ⟨V56, [936, 872], [64, 128], 0⟩) (by rfl)).trans ?_
  exact fin_none (by rfl)

set_option maxRecDepth 100000 in
set_option maxHeartbeats 4000000 in
theorem alive_yes (w : World) : Calls Try.prog 8 #[] w fun e w' => e = .returned (.bool true) ∧ Frm No w w' := by
  go_enter Try.func8, Try.ntmps8
  go_wp2_with fail
  refine (new_ok w).mono ?_
  rintro e w1 ⟨rfl, hs, F1⟩
  have S1 := hs w.heap.size
  obtain ⟨g, hg⟩ : ∃ g, w.heap.size = g := ⟨_, rfl⟩
  rw [hg] at S1
  rw [hg]
  have hgl : w.heap.size ≤ g := by omega
  have hz1 := F1.size
  have B1 : g ≤ w1.heap.size := by omega
  clear hs
  go_wp2_with fail
  refine (add_is w1 g g [] [⟨5, 1, 0⟩] 5 1 0 S1 B1 (by rfl) (by rfl)).mono ?_
  rintro e w2 ⟨rfl, S2, f2⟩
  have F2 := Frm.thenSG F1 f2 hgl hgl
  have B2 : g ≤ w2.heap.size := by have := f2.size; omega
  clear S1 f2 F1 B1 hz1
  go_wp2_with fail
  refine (add_is w2 g g [⟨5, 1, 0⟩] U56 6 2 0 S2 B2 (by rfl) (by rfl)).mono ?_
  rintro e w3 ⟨rfl, S3, f3⟩
  have F3 := Frm.thenSG F2 f3 hgl hgl
  have B3 : g ≤ w3.heap.size := by have := f3.size; omega
  clear S2 f3 F2 B2
  have b4 : Blk (w3.alloc (.cells #[.int .i64 5, .int .i64 1000, .int .i64 6, .int .i64 1000] 35)) w3.heap.size #[.int .i64 5, .int .i64 1000, .int .i64 6, .int .i64 1000] 35 := Blk.new _ _ _
  have S4 := S3.alloc (.cells #[.int .i64 5, .int .i64 1000, .int .i64 6, .int .i64 1000] 35)
  have F4 := F3.alloc (.cells #[.int .i64 5, .int .i64 1000, .int .i64 6, .int .i64 1000] 35)
  have B4 : g ≤ (w3.alloc (.cells #[.int .i64 5, .int .i64 1000, .int .i64 6, .int .i64 1000] 35)).heap.size := by simp; omega
  clear S3 F3
  go_wp2_with fail
  refine (give_is _ g g U56 V56 192 _ 2 2 W56 [(5, 64), (6, 128)] 0 S4 (fun w' f => rdW_keep b4 (by rfl) f) (by rfl) (by omega) (by omega) (by rfl) (fun u hu => by
    simp [U56] at hu
    rcases hu with rfl | rfl <;> decide) (by omega) B4 (by omega) (by omega) (fun j hj => by
      have : j = 0 ∨ j = 1 := by omega
      rcases this with rfl | rfl <;> decide) (fun j => by
      have e : leftTo U56 W56 2 = [1000, 1000] := by rfl
      rw [e]
      match j with
      | 0 => decide
      | 1 => decide
      | j + 2 => simp) _ fin56 (by rfl) (by rfl)).mono ?_
  rintro e w5 ⟨A5, c5, rfl, hW5, S5, -, f5⟩
  have F5 := Frm.thenSU F4 f5 hgl
  have B5 : g ≤ w5.heap.size := by have := f5.size; omega
  clear S4 F4 B4 f5 b4
  have b6 : Blk (w5.alloc (.cells #[.int .i64 7, .int .i64 1000] 35)) w5.heap.size #[.int .i64 7, .int .i64 1000] 35 := Blk.new _ _ _
  have S6 := S5.alloc (.cells #[.int .i64 7, .int .i64 1000] 35)
  have F6 := F5.alloc (.cells #[.int .i64 7, .int .i64 1000] 35)
  have hW6 := hW5.frmN ((Frm.refl No w5).alloc (.cells #[.int .i64 7, .int .i64 1000] 35))
  have B6 : g ≤ (w5.alloc (.cells #[.int .i64 7, .int .i64 1000] 35)).heap.size := by simp; omega
  clear S5 F5 hW5
  go_wp2_with fail
  refine (give_no _ g g V56 192 _ 1 1 [(7, 1000)] 4 S6 (rdW_blk b6 (by rfl)) (by rfl) (by omega) (by omega) (by rfl) (by omega)).mono ?_
  rintro e w7 ⟨rfl, f7⟩
  have F7 := F6.thenN f7
  have S7 := S6.frmN f7
  have hW7 := hW6.frmN f7
  have B7 : g ≤ w7.heap.size := by have := f7.size; omega
  obtain ⟨ad, rfl, -, -, k0⟩ := hW7 0 (by decide)
  obtain ⟨ad', e, -, -, k1⟩ := hW7 1 (by decide)
  injection e with e
  subst e
  have k0' : w7.cell? ⟨ad.block, ad.off + 1, none⟩ = some (.int .i64 64) := k0
  have k1' : w7.cell? ⟨ad.block, ad.off + 2 + 1, none⟩ = some (.int .i64 128) := k1
  clear S6 F6 hW6 B6 f7 b6 hW7
  go_wp2_with fail
  refine (served_any w7 g g V56 6 S7).mono ?_
  rintro e w8 ⟨rfl, f8⟩
  have F8 := F7.thenN f8
  have S8 := S7.frmN f8
  have B8 : g ≤ w8.heap.size := by have := f8.size; omega
  rw [show svV V56 6 = 128 by rfl]
  go_wp2_with fail
  refine (add_is w8 g g V56 V56 5 1 12 S8 B8 (by rfl) (by rfl)).mono ?_
  rintro e w9 ⟨rfl, S9, f9⟩
  have F9 := Frm.thenSG F8 f9 hgl hgl
  go_wp2_with fail
  refine (ids_any w9 g g V56 S9).mono ?_
  rintro e w10 ⟨v, rfl, hr, f10⟩
  obtain ⟨A9, c9, rfl, -⟩ := own_cells hr
  go_wp2_with fail
  go_ret
  exact ⟨rfl, F9.thenN f10⟩
end Go.Proofs.Ytiifepajnhdfjaa.A

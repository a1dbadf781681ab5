/- The fixed calls of layer 18. -/
import Derived.Test.YthefmklblfjfeaaX
namespace Go.Proofs.Ythefmklblfjfeaa.A
open Go.RowKit Go.Proofs.Ythefmklblfjfeaa.K Go.Proofs.Ythefmklblfjfeaa.N
set_option linter.unusedVariables false
set_option linter.unusedSimpArgs false

theorem ack_D_bad (w : World) (g : Nat) (b z : Int) (mb n : Nat) (D : List Bool) (q : Int) (h : IsW w g b z mb n D) (hq : ¬ (0 ≤ q ∧ q < sz b)) :
    Calls Try.prog 11 #[.pointer (some ⟨g, 0, none⟩), .int .i64 q] w fun e w' => e = .returned (.int .i64 1) ∧ Frm No w w' :=
  ack_arg w g b z _ _ mb q h.2.2.2.2.1 h.1 (nm_range h.1 _) hq
theorem ack_D_old (w : World) (g : Nat) (b z : Int) (mb n : Nat) (D : List Bool) (q : Int) (h : IsW w g b z mb n D) (hq : 0 ≤ q ∧ q < sz b) (ho : opD b D q = false) :
    Calls Try.prog 11 #[.pointer (some ⟨g, 0, none⟩), .int .i64 q] w fun e w' => e = .returned (.int .i64 10) ∧ Frm No w w' :=
  ack_old w g b z _ _ mb n _ q h.2.2.2.2.1 h.2.2.2.2.2 h.1 (nm_range h.1 _) hq ho
theorem open_D_is (w : World) (g : Nat) (b z : Int) (mb n : Nat) (D : List Bool) (q : Int) (t : Bool) (h : IsW w g b z mb n D) (hq : (Lit.int .i64 q).wf = true) (ht : opD b D q = t) :
    Calls Try.prog 21 #[.pointer (some ⟨g, 0, none⟩), .int .i64 q] w fun e w' => e = .returned (.bool t) ∧ Frm No w w' := ht ▸ open_D w g b z mb n D q h hq
theorem next_D_is (w : World) (g : Nat) (b z : Int) (mb n : Nat) (D D' : List Bool) (v : Int) (h : IsW w g b z mb n D) (hf : full z D = false) (hv : nm b D.length = v) (hD : D ++ [false] = D') :
    Calls Try.prog 8 #[.pointer (some ⟨g, 0, none⟩)] w fun e w' => e = .returned (.tuple #[.int .i64 v, .int .i64 0]) ∧ IsW w' g b z mb n D' ∧ Frm (fun x => x = g) w w' := hv ▸ hD ▸ next_D w g b z mb n D h hf
theorem ack_D_is (w : World) (g : Nat) (b z : Int) (mb n : Nat) (D D' : List Bool) (v : Int) (h : IsW w g b z mb n D) (hn : n < 1000000) (i0 : Nat) (h1 : fst D ≤ i0) (h2 : i0 < D.length) (h3 : D.getD i0 false = false) (hv : nm b i0 = v) (hD : D.set i0 true = D') :
    Calls Try.prog 11 #[.pointer (some ⟨g, 0, none⟩), .int .i64 v] w fun e w' => e = .returned (.int .i64 0) ∧ IsW w' g b z mb (n + 1) D' ∧ Frm (fun x => x = g ∨ x = mb) w w' := hv ▸ hD ▸ ack_D w g b z mb n D h hn i0 h1 h2 h3
theorem ends_D_is (w : World) (g : Nat) (b z : Int) (mb n : Nat) (D : List Bool) (x y : Int) (h : IsW w g b z mb n D) (hx : nm b (fst D) = x) (hy : nm b D.length = y) :
    Calls Try.prog 10 #[.pointer (some ⟨g, 0, none⟩)] w fun e w' => e = .returned (.tuple #[.int .i64 x, .int .i64 y]) ∧ Frm No w w' := hx ▸ hy ▸ ends_D w g b z mb n D h

theorem Frm.thenA {S : Nat → Prop} {g mb : Nat} {a w w' : World} (h : Frm S a w) (k : Frm (fun x => x = g ∨ x = mb) w w') (hg : a.heap.size ≤ g) (hm : a.heap.size ≤ mb) : Frm S a w' :=
  h.then k fun i hi => hi.elim (fun e => by subst e; exact .inr hg) (fun e => by subst e; exact .inr hm)

set_option maxRecDepth 100000 in
set_option maxHeartbeats 4000000 in
theorem alive_yes (w : World) : Calls Try.prog 7 #[] w fun e w' => e = .returned (.bool true) ∧ Frm No w w' := by
  go_enter Try.func7, Try.ntmps7
  go_wp2_with fail
  refine (new_ok 3 3 _ (by decide)).mono ?_
  rintro e w1 ⟨g, mb, rfl, hg, hmb, t1, F1⟩
  go_wp2_with fail
  refine (next_D_is _ g 3 3 mb 0 [] [false] 0 t1 (by decide) (by decide) rfl).mono ?_
  rintro e w2 ⟨rfl, t2, f2⟩
  have F2 := F1.thenG f2 (.inr hg)
  clear t1 F1 f2
  go_wp2_with fail
  refine (next_D_is _ g 3 3 mb 0 [false] [false, false] 1 t2 (by decide) (by decide) rfl).mono ?_
  rintro e w3 ⟨rfl, t3, f3⟩
  have F3 := F2.thenG f3 (.inr hg)
  clear t2 F2 f3
  go_wp2_with fail
  refine (next_D_is _ g 3 3 mb 0 [false, false] [false, false, false] 2 t3 (by decide) (by decide) rfl).mono ?_
  rintro e w4 ⟨rfl, t4, f4⟩
  have F4 := F3.thenG f4 (.inr hg)
  clear t3 F3 f4
  go_wp2_with fail
  refine (next_D_full _ g 3 3 mb 0 _ t4 (by decide)).mono ?_
  rintro e w5 ⟨rfl, f5⟩
  have F5 := F4.thenN f5
  have t5 := t4.frm f5 (fun h => h) (fun h => h)
  clear t4 F4 f5
  go_wp2_with fail
  refine (ack_D_is _ g 3 3 mb 0 _ [false, true, false] 1 t5 (by omega) 1 (by decide) (by decide) rfl (by decide) rfl).mono ?_
  rintro e w6 ⟨rfl, t6, f6⟩
  have F6 := Frm.thenA F5 f6 hg hmb
  clear t5 F5 f6
  go_wp2_with fail
  refine (ack_D_is _ g 3 3 mb 1 _ [true, true, false] 0 t6 (by omega) 0 (by decide) (by decide) rfl (by decide) rfl).mono ?_
  rintro e w7 ⟨rfl, t7, f7⟩
  have F7 := Frm.thenA F6 f7 hg hmb
  clear t6 F6 f7
  go_wp2_with fail
  refine (ends_D_is _ g 3 3 mb 2 _ 2 3 t7 (by decide) (by decide)).mono ?_
  rintro e w8 ⟨rfl, f8⟩
  have F8 := F7.thenN f8
  have t8 := t7.frm f8 (fun h => h) (fun h => h)
  clear t7 F7 f8
  go_wp2_with fail
  refine (new_bad 3 5 _ (by decide)).mono ?_
  rintro e w9 ⟨rfl, f9⟩
  have F9 := F8.thenN f9
  have t9 := t8.frm f9 (fun h => h) (fun h => h)
  clear t8 F8 f9
  go_wp2_with fail
  refine (ack_D_old _ g 3 3 mb 2 _ 1 t9 (by decide) (by decide)).mono ?_
  rintro e w10 ⟨rfl, f10⟩
  have F10 := F9.thenN f10
  have t10 := t9.frm f10 (fun h => h) (fun h => h)
  clear t9 F9 f10
  go_wp2_with fail
  refine (open_D_is _ g 3 3 mb 2 _ 2 true t10 (by decide) (by decide)).mono ?_
  rintro e w11 ⟨rfl, f11⟩
  have F11 := F10.thenN f11
  have t11 := t10.frm f11 (fun h => h) (fun h => h)
  clear t10 F10 f11
  go_wp2_with fail
  refine (open_D_is _ g 3 3 mb 2 _ 1 false t11 (by decide) (by decide)).mono ?_
  rintro e w12 ⟨rfl, f12⟩
  have F12 := F11.thenN f12
  clear t11 F11 f12
  go_wp2_with fail
  go_ret
  exact ⟨rfl, F12⟩
end Go.Proofs.Ythefmklblfjfeaa.A

/- The calls that come in, opened; PollLives where the limits may not be. -/
import Derived.Test.YtnilihfhajjmhaaR
import Derived.Test.YtnilihfhajjmhaaO
namespace Go.Proofs.Ytnilihfhajjmhaa.A
open Go.RowKit Go.Proofs.Ytnilihfhajjmhaa.K Go.ChangeShapes Go.WideShapes
set_option linter.unusedVariables false
set_option linter.unusedSimpArgs false

structure POp where
  kind : Int
  n : Int
  em : Bool
  st : Bool

def IsOps (w : World) (A : Option Addr) (n : Nat) (ops : List POp) : Prop :=
  ops.length = n ∧ n ≤ 9223372036854775807 ∧ ∀ i o, ops[i]? = some o → ∃ ad, A = some ad ∧ ad.block < w.heap.size ∧
    w.cell? (ad.add (i * 4)) = some (.int .i64 o.kind) ∧ w.cell? (ad.add (i * 4 + 1)) = some (.int .i64 o.n) ∧ w.cell? (ad.add (i * 4 + 2)) = some (.bool o.em) ∧ w.cell? (ad.add (i * 4 + 3)) = some (.bool o.st)

theorem open_ops {H : Type} {enc : TypeId × Value → H} {w : World} {A : Option Addr} {len cap : Nat} {d : DataW H} {p : List MemPlace}
    (h : DataW.Trod enc Try.prog w 0 (fun _ => true) true 36 (.slice A len cap) d p) : ∃ ops, IsOps w A len ops := by
  obtain ⟨hm, he⟩ := open_elems (C := 4) Try.underlying36 (by kernel_rfl) (by omega) h
  obtain ⟨l, hl, hp⟩ := list_of (α := POp) (n := len) (p := fun i o => ∃ ad, A = some ad ∧ ad.block < w.heap.size ∧
    w.cell? (ad.add (i * 4)) = some (.int .i64 o.kind) ∧ w.cell? (ad.add (i * 4 + 1)) = some (.int .i64 o.n) ∧ w.cell? (ad.add (i * 4 + 2)) = some (.bool o.em) ∧ w.cell? (ad.add (i * 4 + 3)) = some (.bool o.st)) (fun i hi => by
      obtain ⟨ad, cs, y, m, e, hb, hlen, hc, ht⟩ := he i hi
      have hf := open_field Try.underlying42 (by kernel_rfl) (by kernel_rfl) ht
      obtain ⟨v0, z0, n0, c0, t0⟩ := hf 0 _ rfl
      obtain ⟨v1, z1, n1, c1, t1⟩ := hf 1 _ rfl
      obtain ⟨v2, z2, n2, c2, t2⟩ := hf 2 _ rfl
      obtain ⟨v3, z3, n3, c3, t3⟩ := hf 3 _ rfl
      obtain ⟨k, rfl, _⟩ := open_int_cell Try.underlying3 t0
      obtain ⟨nn, rfl, _⟩ := open_int_cell Try.underlying3 t1
      obtain ⟨b2, rfl⟩ := open_bool_cell Try.underlying4 t2
      obtain ⟨b3, rfl⟩ := open_bool_cell Try.underlying4 t3
      exact ⟨⟨k, nn, b2, b3⟩, ad, e, hb, (hc 0 (by omega)).trans c0, (hc 1 (by omega)).trans c1, (hc 2 (by omega)).trans c2, (hc 3 (by omega)).trans c3⟩)
  exact ⟨l, hl, hm, hp⟩

set_option maxRecDepth 100000 in
set_option maxHeartbeats 1000000 in
theorem lives_bad (a0 a1 : Int) (A : Option Addr) (n c : Nat) (w : World) (h : a0 < 1 ∨ 1000 < a0 ∨ a1 < 1 ∨ 20000 < a1) :
    Calls Try.prog 5 #[.int .i64 a0, .int .i64 a1, .slice A n c] w fun e w' => e = .returned (.bool true) ∧ Frm No w w' := by
  have key : ∀ (h1 : Bool) (h2 : Bool) (h3 : Bool) (h4 : Bool), h1 = decide (a0 < 1) → h2 = decide (1000 < a0) → h3 = decide (a1 < 1) → h4 = decide (20000 < a1) →
    Calls Try.prog 5 #[.int .i64 a0, .int .i64 a1, .slice A n c] w fun e w' => e = .returned (.bool true) ∧ Frm No w w' := by
    intro h1 h2 h3 h4 e1 e2 e3 e4
    have H := Lib.hid h
    clear h
    cases h1 <;> cases h2 <;> cases h3 <;> cases h4 <;> first | (exfalso; have := H.out; simp at e1 e2 e3 e4; omega) | skip
    all_goals simp only [eq_comm (a := true), eq_comm (a := false), decide_eq_true_eq, decide_eq_false_iff_not] at e1 e2 e3 e4
    all_goals go_enter Try.func5, Try.ntmps5
    all_goals go_wp2_with (first | (go_at_call 6; refine (new_bad a0 a1 _ H.out).mono ?_; rintro e w' ⟨rfl, rfl⟩) | (go_at_call 7; refine (alive_yes _).mono ?_; rintro e w' ⟨rfl, f1⟩))
    all_goals go_ret
    all_goals exact ⟨rfl, f1⟩
  exact key _ _ _ _ rfl rfl rfl rfl
end Go.Proofs.Ytnilihfhajjmhaa.A

/- TxwinMeets' walk, whole. -/
import Derived.Test.YthefmklblfjfeaaMB
import Derived.Test.YthefmklblfjfeaaO
namespace Go.Proofs.Ythefmklblfjfeaa.A
open Go.RowKit Go.ChangeShapes Go.WideShapes Go.Proofs.Ythefmklblfjfeaa.K Go.Proofs.Ythefmklblfjfeaa.N
set_option linter.unusedVariables false
set_option linter.unusedSimpArgs false

theorem pow_half {b : Int} (h : 1 ≤ b ∧ b ≤ 16) : 2 * (2 ^ (b - 1).toNat) = sz b ∧ 1 ≤ (b - 1).toNat + 1 ∧ (b - 1).toNat ≤ 15 := by
  rw [sz_pos h, show b.toNat = (b - 1).toNat + 1 by omega, Int.pow_succ]
  refine ⟨by omega, by omega, by omega⟩

set_option maxRecDepth 100000 in
set_option maxHeartbeats 4000000 in
theorem meets_walk (b z : Int) (A1 : Option Addr) (n1 c1 : Nat) (many : List Int) (A2 : Option Addr) (n2 c2 : Nat) (order : List Int) (w : World) (_ : (Lit.int .i64 b).wf = true) (_ : (Lit.int .i64 z).wf = true)
    (hI1 : Ints w .u8 A1 n1 many) (hI2 : Ints w .u16 A2 n2 order) :
    Calls Try.prog 3 #[.int .i64 b, .int .i64 z, .slice A1 n1 c1, .slice A2 n2 c2] w fun e w' => e = .returned (.bool true) ∧ Frm No w w' := by
  cases hmay : mayW b z with
  | true => exact meets_core b z A1 A2 n1 n2 c1 c2 many order w hmay hI1 hI2
  | false =>
    have hm : ¬ ((1 ≤ b ∧ b ≤ 16) ∧ 1 ≤ z ∧ 2 * z ≤ sz b) := of_decide_eq_false hmay
    by_cases hb1 : b < 1
    · go_enter Try.func3, Try.ntmps3
      go_wp2_with fail
      refine (new_bad b z _ hmay).mono ?_
      rintro e w1 ⟨rfl, f1⟩
      go_wp2_with fail
      refine (alive_yes _).mono ?_
      rintro e w2 ⟨rfl, f2⟩
      go_wp2_with fail
      go_ret
      exact ⟨rfl, f1.trans f2⟩
    · by_cases hb2 : b > 16
      · have d1 : ¬ b < 1 := hb1
        go_enter Try.func3, Try.ntmps3
        go_wp2_with fail
        refine (new_bad b z _ hmay).mono ?_
        rintro e w1 ⟨rfl, f1⟩
        go_wp2_with fail
        refine (alive_yes _).mono ?_
        rintro e w2 ⟨rfl, f2⟩
        go_wp2_with fail
        go_ret
        exact ⟨rfl, f1.trans f2⟩
      · by_cases hz1 : z < 1
        · go_enter Try.func3, Try.ntmps3
          go_wp2_with fail
          refine (new_bad b z _ hmay).mono ?_
          rintro e w1 ⟨rfl, f1⟩
          go_wp2_with fail
          refine (alive_yes _).mono ?_
          rintro e w2 ⟨rfl, f2⟩
          go_wp2_with fail
          go_ret
          exact ⟨rfl, f1.trans f2⟩
        · have hb : 1 ≤ b ∧ b ≤ 16 := ⟨by omega, by omega⟩
          obtain ⟨h1, -, h2⟩ := pow_half hb
          have hS := sz_range hb
          obtain ⟨p, hp⟩ : ∃ p : Int, 2 ^ (b - 1).toNat = p := ⟨_, rfl⟩
          rw [hp] at h1
          have hzp : p < z := by omega
          have hW : wrap64 (2 ^ (b.toNat - 1)) < z := by
            rw [show b.toNat - 1 = (b - 1).toNat by omega, hp, IntWalk.wrap64_in _ ⟨by omega, by omega⟩]; exact hzp
          go_enter Try.func3, Try.ntmps3
          go_wp2_with fail
          refine (new_bad b z _ hmay).mono ?_
          rintro e w1 ⟨rfl, f1⟩
          go_wp2_with fail
          refine (alive_yes _).mono ?_
          rintro e w2 ⟨rfl, f2⟩
          go_wp2_with fail
          go_ret
          exact ⟨rfl, f1.trans f2⟩

theorem open_u8 {H : Type} {enc : TypeId × Value → H} {w : World} {A : Option Addr} {len cap : Nat} {d : DataW H} {p : List MemPlace}
    (h : DataW.Trod enc Try.prog w 0 (fun _ => true) true 22 (.slice A len cap) d p) : ∃ xs, Ints w .u8 A len xs :=
  open_Ints Try.underlying22 Try.underlying5 (by kernel_rfl) h
theorem open_u16 {H : Type} {enc : TypeId × Value → H} {w : World} {A : Option Addr} {len cap : Nat} {d : DataW H} {p : List MemPlace}
    (h : DataW.Trod enc Try.prog w 0 (fun _ => true) true 23 (.slice A len cap) d p) : ∃ xs, Ints w .u16 A len xs :=
  open_Ints Try.underlying23 Try.underlying36 (by kernel_rfl) h
end Go.Proofs.Ythefmklblfjfeaa.A

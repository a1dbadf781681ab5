/- within. -/
import Derived.Test.YtccaaldfccgncaaUW
namespace Go.Proofs.Ytccaaldfccgncaa.A
open Go.RowKit Go.Proofs.Ytccaaldfccgncaa.K
set_option linter.unusedVariables false
set_option linter.unusedSimpArgs false
set_option maxRecDepth 100000 in
set_option maxHeartbeats 2000000 in
theorem in_one (w : World) (a lo hi : Int) (h1 : lo ≤ a) (h2 : a ≤ hi) : Calls Try.prog 39 #[.agg #[.int .i64 a, .int .i64 lo, .int .i64 hi]] w fun e w' => e = .returned (.bool false) ∧ Frm No w w' := by
  have F0 := (Frm.refl No w).alloc (.cells #[.int .i64 a, .int .i64 lo, .int .i64 hi] 67)
  have B0 := Blk.new w #[.int .i64 a, .int .i64 lo, .int .i64 hi] 67
  obtain ⟨w0, hw0⟩ : ∃ w0, w.alloc (.cells #[.int .i64 a, .int .i64 lo, .int .i64 hi] 67) = w0 := ⟨_, rfl⟩
  obtain ⟨g, hg⟩ : ∃ g, w.heap.size = g := ⟨_, rfl⟩
  rw [hw0] at F0 B0
  rw [hg] at B0
  have k0 : w0.cell? ⟨g, 0, none⟩ = some (.int .i64 a) := B0.cell 0
  have k1 : w0.cell? ⟨g, 1, none⟩ = some (.int .i64 lo) := B0.cell 1
  have k2 : w0.cell? ⟨g, 2, none⟩ = some (.int .i64 hi) := B0.cell 2
  have l1 : ¬ a < lo := by omega
  have l2 : ¬ hi < a := by omega
  have H := Lib.hid F0
  clear F0 B0 h1 h2
  go_enter Try.func39, Try.ntmps39
  go_wp2_with fail
  go_ret
  exact ⟨rfl, H.out⟩
set_option maxRecDepth 100000 in
set_option maxHeartbeats 2000000 in
theorem index_within (w : World) (b n c : Nat) (T : Nat → Int × Int × Int) (cs : Array Value) (hb : Blk w b cs 67) (hn2 : n ≤ 1000) (hc : ∀ i, i < n → w.cell? ⟨b, i * 3, none⟩ = some (.int .i64 (T i).1) ∧ w.cell? ⟨b, i * 3 + 1, none⟩ = some (.int .i64 (T i).2.1) ∧ w.cell? ⟨b, i * 3 + 2, none⟩ = some (.int .i64 (T i).2.2)) (hT : ∀ i, i < n → (T i).2.1 ≤ (T i).1 ∧ (T i).1 ≤ (T i).2.2) :
    Calls Try.prog 74 #[.slice (some ⟨b, 0, none⟩) n c, .func (.func 39) #[] #[]] w fun e w' => e = .returned (.int .i64 (-1)) ∧ Frm No w w' := by
  have HF := Lib.hid (And.intro hb (And.intro hc hT))
  clear hc hT hb
  go_enter Try.func74, Try.ntmps74
  go_wp2_with fail
  go_loopw [8] (fun vi wr => ∃ i : Nat, vi = .int .i64 i ∧ i ≤ n ∧ Frm No w wr) (fun vi _ => n - (intOf vi).toNat)
  case atStart => exact ⟨0, rfl, by omega, Frm.refl _ _⟩
  case round =>
    obtain ⟨i, rfl, hi, hF⟩ := hrel
    have i0 : (0 : Int) ≤ (i : Int) := Int.natCast_nonneg _
    by_cases hlt : i < n
    · have i1 : (i : Int) < (n : Int) := by omega
      have hbb := hF.blk HF.out.1 (fun h => h)
      have hsame : ∀ o, wr.cell? ⟨b, o, none⟩ = w.cell? ⟨b, o, none⟩ := fun o => World.cell?_of_block (w := w) (hF.block b HF.out.1.lt (fun h => h))
      obtain ⟨k0, k1, k2⟩ := HF.out.2.1 i hlt
      have kt := HF.out.2.2 i hlt
      rw [← hsame] at k0 k1 k2
      obtain ⟨a, ha⟩ : ∃ a, (T i).1 = a := ⟨_, rfl⟩
      obtain ⟨lo, hlo⟩ : ∃ a, (T i).2.1 = a := ⟨_, rfl⟩
      obtain ⟨hi2, hhi⟩ : ∃ a, (T i).2.2 = a := ⟨_, rfl⟩
      rw [ha] at k0 kt
      rw [hlo] at k1 kt
      rw [hhi] at k2 kt
      clear ha hlo hhi
      have he := fun W => in_one W a lo hi2 kt.1 kt.2
      have HH := Lib.hid hF
      clear hF hbb hsame kt
      go_wp2_with fail
      refine (he wr).mono ?_
      rintro e w2 ⟨rfl, F2⟩
      have H2 := Lib.hid (HH.out.thenN F2)
      clear F2 he
      go_wp2_with fail
      go_roundw
      case rel => exact ⟨i + 1, by go_num, by omega, H2.out⟩
      case measure => simp [intOf]; omega
    · have i1 : ¬ (i : Int) < (n : Int) := by omega
      have HH := Lib.hid hF
      clear hF
      go_wp2_with fail
      go_ret
      exact ⟨rfl, HH.out⟩
set_option maxRecDepth 100000 in
set_option maxHeartbeats 2000000 in
theorem within_is (w : World) (b n c : Nat) (T : Nat → Int × Int × Int) (cs : Array Value) (hb : Blk w b cs 67) (hn2 : n ≤ 1000) (hc : ∀ i, i < n → w.cell? ⟨b, i * 3, none⟩ = some (.int .i64 (T i).1) ∧ w.cell? ⟨b, i * 3 + 1, none⟩ = some (.int .i64 (T i).2.1) ∧ w.cell? ⟨b, i * 3 + 2, none⟩ = some (.int .i64 (T i).2.2)) (hT : ∀ i, i < n → (T i).2.1 ≤ (T i).1 ∧ (T i).1 ≤ (T i).2.2) :
    Calls Try.prog 20 #[.slice (some ⟨b, 0, none⟩) n c] w fun e w' => e = .returned (.bool true) ∧ Frm No w w' := by
  have h := index_within w b n c T cs hb hn2 hc hT
  clear hc hT hb
  have h38 : Calls Try.prog 38 #[.slice (some ⟨b, 0, none⟩) n c, .func (.func 39) #[] #[]] w fun e w' => e = .returned (.bool false) ∧ Frm No w w' := by
    go_enter Try.func38, Try.ntmps38
    go_wp2_with fail
    refine h.mono ?_
    rintro e w1 ⟨rfl, F1⟩
    have H1 := Lib.hid F1
    clear F1
    go_wp2_with fail
    go_ret
    exact ⟨rfl, H1.out⟩
  clear h
  go_enter Try.func20, Try.ntmps20
  go_wp2_with fail
  refine h38.mono ?_
  rintro e w1 ⟨rfl, F1⟩
  have H1 := Lib.hid F1
  clear F1
  go_wp2_with fail
  go_ret
  exact ⟨rfl, H1.out⟩
end Go.Proofs.Ytccaaldfccgncaa.A

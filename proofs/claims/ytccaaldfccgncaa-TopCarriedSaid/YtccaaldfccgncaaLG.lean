/- lengths. -/
import Derived.Test.YtccaaldfccgncaaJM
namespace Go.Proofs.Ytccaaldfccgncaa.A
open Go.RowKit Go.Proofs.Ytccaaldfccgncaa.K
set_option linter.unusedVariables false
set_option linter.unusedSimpArgs false
theorem size24 : ∀ w, (Go.sizeOf 24).run Try.prog w = .ok 1 w := fun w => by kernel_rfl
def lensOf (O : List (List Nat)) (i : Nat) : List Nat := (O.take i).map List.length
theorem lensOf_len (O : List (List Nat)) {i : Nat} (h : i ≤ O.length) : (lensOf O i).length = i := by unfold lensOf; simp; omega
theorem lensOf_succ (O : List (List Nat)) {i : Nat} (h : i < O.length) : lensOf O (i + 1) = lensOf O i ++ [(O.getD i []).length] := by
  unfold lensOf
  rw [take_one [] h, List.map_append]
  rfl
set_option maxRecDepth 100000 in
set_option maxHeartbeats 4000000 in
theorem lengths_is (w : World) (A : Option Addr) (n c B : Nat) (O : List (List Nat)) (h : RowF w B (.slice A n c) O) (hn : O.length = n) (hok : FldOk O) :
    Calls Try.prog 50 #[.slice A n c] w fun e w' => ∃ v, e = .returned v ∧ RowN w' w.heap.size v (lensOf O (n - 1)) ∧ Frm No w w' := by
  have hnc : n ≤ c := by
    obtain ⟨A1, c1, e, h1⟩ := h.out hn
    injection e with e1 e2 e3
    omega
  have hn1 : 1 ≤ n := by rw [← hn]; exact hok.1
  have hn24 : n ≤ 24 := by rw [← hn]; exact hok.2.1
  obtain ⟨m, hm⟩ : ∃ m, n - 1 = m := ⟨_, rfl⟩
  have pwm : IntKind.i64.wrap ((n : Int) - 1) = (m : Int) := by rw [IntWalk.i64_in _ ⟨by omega, by omega⟩]; omega
  have hsl := fun W => slice_h Try.underlying22 size24 A n c m (by omega) W
  rw [hm]
  have m23 : m ≤ 23 := by omega
  have H := Lib.hid (And.intro h (And.intro hn (And.intro hok hm)))
  clear h hn hok hm hn1 hn24 hnc
  go_enter Try.func50, Try.ntmps50
  go_wp2_with fail
  go_loopw [12, 3] (fun vi vo wr => ∃ i : Nat, vi = .int .i64 i ∧ i ≤ m ∧ RowN wr w.heap.size vo (lensOf O i) ∧ Frm No w wr) (fun vi _ _ => m - (intOf vi).toNat)
  case atStart => exact ⟨0, rfl, by omega, World.ownsRow_nil _ _ _ _, Frm.refl _ _⟩
  case round =>
    obtain ⟨i, rfl, hi, hO, hF⟩ := hrel
    have i0 : (0 : Int) ≤ (i : Int) := Int.natCast_nonneg _
    have hlen : (lensOf O i).length = i := lensOf_len O (by rw [H.out.2.1]; have := H.out.2.2.2; omega)
    by_cases hin : i < m
    · have i1 : (i : Int) < (m : Int) := by omega
      have iO : i < O.length := by rw [H.out.2.1]; have := H.out.2.2.2; omega
      obtain ⟨ad, A2, c2, rfl, k0, -, -⟩ := (H.out.1.frmN hF).at_ (i := i) iO
      have hl := H.out.2.2.1.2.2 (O.getD i []) (by rw [List.getD_eq_getElem?_getD, List.getElem?_eq_getElem iO]; exact List.getElem_mem _)
      have hsu := lensOf_succ O iO
      obtain ⟨x, hxx⟩ : ∃ x, (O.getD i []).length = x := ⟨_, rfl⟩
      rw [hxx] at k0 hl hsu
      obtain ⟨A0, c0, rfl, -, -⟩ := hO.out hlen
      have own1 := World.ownsRow.alloc hO (.cells #[.int .i64 (x : Int)] 3)
      rw [hlen] at own1
      have hrd3 := one_rds3 wr (x : Int)
      obtain ⟨j0, hi0, hz0, hz1, hz2⟩ := info_parts info3
      have hsz : w.heap.size ≤ (wr.alloc (.cells #[.int .i64 (x : Int)] 3)).heap.size := (hF.alloc _).size
      have F04 := hF.alloc (.cells #[.int .i64 (x : Int)] 3)
      have H3 := Lib.hid (And.intro F04 (And.intro hsu hlen))
      clear hF hO hsu hlen F04 hl iO hxx
      go_upto_region 6 with (at_builtin; go_must (refine wpList_append_rds _ rfl _ _ 105 rfl w.heap.size 3 j0 _ 1 8 Try.underlying105 hi0 hz0 hz1 hz2 rfl (by omega) (.slice A0 i c0) i ((lensOf O i).map nv) rfl own1 (some ⟨wr.heap.size, 0, none⟩) 1 1 [.int .i64 (x : Int)] rfl hrd3 (by simp [Value.oneCell']) (by unfold maxLen; omega) (by omega) hsz ?_; intro v4 w4 own4 hg4; obtain ⟨A4, c4, rfl, -, -⟩ := own_is own4))
      have F4 := own_grown own1 H3.out.1 (Nat.le_refl _) hg4
      have O4 : RowN w4 w.heap.size (.slice A4 (i + 1) c4) (lensOf O (i + 1)) := by
        rw [H3.out.2.1]
        unfold RowN
        rw [List.length_append, H3.out.2.2, List.map_append]
        exact own4
      have H4 := Lib.hid (And.intro F4 O4)
      clear F4 O4 own4 hg4 own1 hrd3 hsz hi0 hz0 hz1 hz2
      go_wp2_with fail
      go_roundw
      case rel => exact ⟨i + 1, by go_num, by omega, H4.out.2, H4.out.1⟩
      case measure => simp [intOf]; omega
    · have i1 : ¬ (i : Int) < (m : Int) := by omega
      have hin2 : RowKit.Hid (i = m) := (show i = m by omega)
      have HO := Lib.hid (And.intro hO hF)
      clear hin hO hF
      go_wp2_with fail
      go_ret
      exact ⟨_, rfl, by rw [← hin2.out]; exact HO.out.1, HO.out.2⟩
end Go.Proofs.Ytccaaldfccgncaa.A

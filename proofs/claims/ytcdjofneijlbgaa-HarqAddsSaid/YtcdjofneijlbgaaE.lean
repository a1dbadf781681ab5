/- Errors, Length, Mix of points. -/
import Derived.Test.YtcdjofneijlbgaaD
import Derived.Deep.RegionHeld3
import Derived.Deep.RegionLaw
namespace Go.Proofs.Ytcdjofneijlbgaa.A
open Go.RowKit Go.Proofs.Ytcdjofneijlbgaa.K Go.Proofs.Ytcdjofneijlbgaa.F Go.Proofs.Ytcdjofneijlbgaa.N
set_option linter.unusedVariables false
set_option linter.unusedSimpArgs false

def nearp (p : Pt) : Pt := (sg p.1, sg p.2)
theorem mem_getD {L : List Pt} {i : Nat} (h : i < L.length) : L.getD i (0, 0) ∈ L := by
  rw [List.getD_eq_getElem?_getD, List.getElem?_eq_getElem h]; exact List.getElem_mem _
theorem sml_at {L : List Pt} (h : Sml L) {i : Nat} (hi : i < L.length) : (L.getD i (0, 0)).1.natAbs < 2 ^ 51 ∧ (L.getD i (0, 0)).2.natAbs < 2 ^ 51 := by
  have := h _ (mem_getD hi); omega

/-- All lengths together, of the first i. -/
def lenN (L : List Pt) : Nat → Int
  | 0 => 0
  | i + 1 => lenN L i + ((L.getD i (0, 0)).1 * (L.getD i (0, 0)).1 + (L.getD i (0, 0)).2 * (L.getD i (0, 0)).2)
/-- All parts are small enough. -/
def Low (L : List Pt) : Prop := ∀ p ∈ L, p.1.natAbs ≤ 1000 ∧ p.2.natAbs ≤ 1000
theorem sq_le {x : Int} (h : x.natAbs ≤ 1000) : 0 ≤ x * x ∧ x * x ≤ 1000000 := by
  have e : x * x = ((x.natAbs * x.natAbs : Nat) : Int) := by rw [Int.natCast_mul]; exact (Int.natAbs_mul_self' x).symm
  have := Nat.mul_le_mul h h
  rw [e]; omega
theorem lenN_le {L : List Pt} (h : Low L) : ∀ i, i ≤ L.length → 0 ≤ lenN L i ∧ lenN L i ≤ 2000000 * i
  | 0, _ => by simp [lenN]
  | i + 1, hi => by
    unfold lenN
    have ih := lenN_le h i (by omega)
    have := h _ (mem_getD (L := L) (i := i) (by omega))
    have h1 := sq_le this.1
    have h2 := sq_le this.2
    omega
theorem int_run (x : Int) (h : x.natAbs < 2 ^ 53) (w : World) : (convert 58 3 (.float .f64 (FI x))).run Try.prog w = .ok (.int .i64 x) w :=
  run_convert_float_int w 58 3 .f64 .i64 (FI x) x (by rw [Try.underlying58]; rfl) Try.underlying3 (int_FI x h)
theorem whole_t (n : Int) (w : World) (t : Bool) (h : n.natAbs < 2 ^ 53) (ht : decide (-1000 ≤ n ∧ n ≤ 1000) = t) : Calls Try.prog 39 #[.float .f64 (FI n)] w fun e w' => e = .returned (.bool t) ∧ w' = w := ht ▸ whole_is n w h

set_option maxRecDepth 100000 in
set_option maxHeartbeats 2000000 in
/-- Length, be all small or not. -/
theorem length_any (w : World) (A : Option Addr) (n c : Nat) (L : List Pt) (hL : L.length = n) (hn : n ≤ 100000) (h1 : RdC w A L) (s1 : Sml L) :
    Calls Try.prog 28 #[.slice A n c] w fun e w' => ((Low L ∧ e = .returned (.tuple #[.int .i64 (lenN L n), .int .i64 0])) ∨ (¬ Low L ∧ e = .returned (.tuple #[.int .i64 0, .int .i64 1]))) ∧ Frm No w w' := by
  have n9 : (n : Int) ≤ 100000 := by omega
  have H1 := Lib.hid h1
  have S1 := Lib.hid s1
  clear h1 s1
  go_enter Try.func28, Try.ntmps28
  go_wp2_with fail
  go_loopw [4, 14] (fun vc vi wr => ∃ i : Nat, vi = .int .i64 i ∧ i ≤ n ∧ vc = .int .i64 (lenN L i) ∧ (∀ j, j < i → (L.getD j (0, 0)).1.natAbs ≤ 1000 ∧ (L.getD j (0, 0)).2.natAbs ≤ 1000) ∧ (0 ≤ lenN L i ∧ lenN L i ≤ 2000000 * i) ∧ Frm No w wr) (fun _ vi _ => n - (intOf vi).toNat)
  case atStart => exact ⟨0, rfl, by omega, rfl, fun j hj => absurd hj (by omega), ⟨by simp [lenN], by simp [lenN]⟩, Frm.refl _ _⟩
  case round =>
    obtain ⟨i, rfl, hin, rfl, hlo, ⟨hl0, hl1⟩, hF⟩ := hrel
    have i0' : (0 : Int) ≤ (i : Int) := Int.natCast_nonneg _
    have HLO := Lib.hid hlo
    clear hlo
    by_cases hlt : i < n
    · obtain ⟨ad, rfl, -, k1⟩ := (H1.out.frmN hF) i (by omega)
      obtain ⟨b1, b2⟩ := sml_at S1.out (i := i) (by omega)
      have hen : lenN L (i + 1) = lenN L i + ((L.getD i (0, 0)).1 * (L.getD i (0, 0)).1 + (L.getD i (0, 0)).2 * (L.getD i (0, 0)).2) := rfl
      have hmem := mem_getD (L := L) (i := i) (by omega)
      obtain ⟨⟨x, y⟩, hp⟩ : ∃ p, L.getD i (0, 0) = p := ⟨_, rfl⟩
      have HP := Lib.hid hp
      rw [hp] at k1 b1 b2 hen hmem
      have HME := Lib.hid hmem
      have k1' : wr.cell? (ad.add i) = some (.complex .f64 (FI x) (FI y)) := k1
      simp only at b1 b2 hen
      have i1 : (i : Int) < (n : Int) := by omega
      have v1 := fun w => int_run x (by omega) w
      have v2 := fun w => int_run y (by omega) w
      clear k1 hp hmem
      by_cases hx : x.natAbs ≤ 1000
      · have wx := fun w => whole_t x w true (by omega) (decide_eq_true (by omega))
        by_cases hy : y.natAbs ≤ 1000
        · have wy := fun w => whole_t y w true (by omega) (decide_eq_true (by omega))
          obtain ⟨q1, q2⟩ := sq_le hx
          obtain ⟨q3, q4⟩ := sq_le hy
          have HB := Lib.hid (And.intro hx hy)
          have hi5 : (i : Int) < 100000 := by omega
          generalize FI x = fx at *
          generalize FI y = fy at *
          obtain ⟨l, hle⟩ : ∃ l, lenN L i = l := ⟨_, rfl⟩
          rw [hle] at hen hl0 hl1 ⊢
          have HEN := Lib.hid hen
          clear hle hen b1 b2 hx hy
          go_wp2_with fail
          refine (wx _).mono ?_
          rintro e w2 ⟨rfl, rfl⟩
          go_wp2_with fail
          refine (wy _).mono ?_
          rintro e w2 ⟨rfl, rfl⟩
          go_wp2_with fail
          go_roundw
          case rel =>
            refine ⟨i + 1, by go_num, by omega, by rw [HEN.out], fun j hj => ?_, ?_, hF⟩
            · by_cases hji : j = i
              · rw [hji, HP.out]; exact HB.out
              · exact HLO.out j (by omega)
            · rw [HEN.out]; omega
          case measure => simp [intOf]; omega
        · have wy := fun w => whole_t y w false (by omega) (decide_eq_false (by omega))
          have HNL := Lib.hid (show ¬ Low L from fun h => hy (h _ HME.out).2)
          generalize FI x = fx at *
          generalize FI y = fy at *
          clear hen b1 b2 hx hy
          go_wp2_with fail
          refine (wx _).mono ?_
          rintro e w2 ⟨rfl, rfl⟩
          go_wp2_with fail
          refine (wy _).mono ?_
          rintro e w2 ⟨rfl, rfl⟩
          go_wp2_with fail
          go_ret2
          exact ⟨.inr ⟨HNL.out, rfl⟩, hF⟩
      · have wx := fun w => whole_t x w false (by omega) (decide_eq_false (by omega))
        have HNL := Lib.hid (show ¬ Low L from fun h => hx (h _ HME.out).1)
        generalize FI x = fx at *
        generalize FI y = fy at *
        clear hen b1 b2 hx
        go_wp2_with fail
        refine (wx _).mono ?_
        rintro e w2 ⟨rfl, rfl⟩
        go_wp2_with fail
        go_ret2
        exact ⟨.inr ⟨HNL.out, rfl⟩, hF⟩
    · have i1 : ¬ (i : Int) < (n : Int) := by omega
      have hii : i = n := by omega
      subst hii
      go_wp2_with fail
      go_ret2
      refine ⟨.inl ⟨fun p hp => ?_, rfl⟩, hF⟩
      obtain ⟨j, hj, rfl⟩ := List.getElem_of_mem hp
      have := HLO.out j (by omega)
      rwa [List.getD_eq_getElem?_getD, List.getElem?_eq_getElem hj] at this
theorem length_ok (w : World) (A : Option Addr) (n c : Nat) (L : List Pt) (hL : L.length = n) (hn : n ≤ 100000) (h1 : RdC w A L) (hlo : Low L) :
    Calls Try.prog 28 #[.slice A n c] w fun e w' => e = .returned (.tuple #[.int .i64 (lenN L n), .int .i64 0]) ∧ Frm No w w' := by
  refine (length_any w A n c L hL hn h1 (fun p hp => by have := hlo p hp; omega)).mono ?_
  rintro e w' ⟨h | h, hF⟩
  · exact ⟨h.2, hF⟩
  · exact absurd hlo h.1

/-! Mix. -/
def mixL (L M : List Pt) : Nat → List Pt
  | 0 => []
  | i + 1 => mixL L M i ++ [((L.getD i (0, 0)).1 + (M.getD i (0, 0)).1, (L.getD i (0, 0)).2 + (M.getD i (0, 0)).2)]
theorem mixL_len (L M : List Pt) : ∀ i, (mixL L M i).length = i
  | 0 => rfl
  | i + 1 => by unfold mixL; rw [List.length_append, mixL_len L M i]; rfl
theorem add_run (a b c d : Int) (ha : a.natAbs < 2 ^ 51) (hb : b.natAbs < 2 ^ 51) (hc : c.natAbs < 2 ^ 51) (hd : d.natAbs < 2 ^ 51) (t : TypeId) (w : World) :
    (binOp .add t (.complex .f64 (FI a) (FI b)) (.complex .f64 (FI c) (FI d))).run Try.prog w = .ok (.complex .f64 (FI (a + c)) (FI (b + d))) w :=
  run_complex_sum w .add (.inl rfl) t .f64 _ _ _ _ _ _ (by unfold cSumBits; rw [sum_FI a c ha hc, sum_FI b d hb hd]; rfl)
theorem mix_no (w : World) (A B : Option Addr) (n m c d : Nat) (hnm : n ≠ m) :
    Calls Try.prog 21 #[.slice A n c, .slice B m d] w fun e w' => e = .returned (.tuple #[.slice none 0 0, .int .i64 1]) ∧ Frm No w w' := by
  have d0 : ((n : Int) != (m : Int)) = true := by rw [bne_iff_ne]; omega
  go_enter Try.func21, Try.ntmps21
  go_wp2_with fail
  go_ret2
  exact ⟨rfl, Frm.refl _ _⟩
set_option maxRecDepth 100000 in
set_option maxHeartbeats 2000000 in
theorem mix_ok (w : World) (A B : Option Addr) (n c d : Nat) (L M : List Pt) (hL : L.length = n) (hM : M.length = n) (hn : n ≤ 100000) (h1 : RdC w A L) (h2 : RdC w B M) (s1 : Sml L) (s2 : Sml M) :
    Calls Try.prog 21 #[.slice A n c, .slice B n d] w fun e w' => ∃ v, e = .returned (.tuple #[v, .int .i64 0]) ∧ RowC w' w.heap.size v (mixL L M n) ∧ Frm No w w' := by
  obtain ⟨i0, hi, hz0, hz1, hz2⟩ := info_parts info34
  have d0 : ((n : Int) != (n : Int)) = false := by simp
  have H1 := Lib.hid h1
  have H2 := Lib.hid h2
  have S1 := Lib.hid s1
  have S2 := Lib.hid s2
  clear h1 h2 s1 s2
  go_enter Try.func21, Try.ntmps21
  go_wp2_with fail
  go_loopw [6, 15] (fun vo vi wr => ∃ i : Nat, vi = .int .i64 i ∧ i ≤ n ∧ RowC wr w.heap.size vo (mixL L M i) ∧ Frm No w wr) (fun _ vi _ => n - (intOf vi).toNat)
  case atStart => exact ⟨0, rfl, by omega, World.ownsRow_nil _ _ _ _, Frm.refl _ _⟩
  case round =>
    obtain ⟨i, rfl, hin, hR, hF⟩ := hrel
    have i0' : (0 : Int) ≤ (i : Int) := Int.natCast_nonneg _
    by_cases hlt : i < n
    · obtain ⟨ad, rfl, -, k1⟩ := (H1.out.frmN hF) i (by omega)
      obtain ⟨ad2, rfl, -, k2⟩ := (H2.out.frmN hF) i (by omega)
      obtain ⟨b1, b2⟩ := sml_at S1.out (i := i) (by omega)
      obtain ⟨b3, b4⟩ := sml_at S2.out (i := i) (by omega)
      have hen : mixL L M (i + 1) = mixL L M i ++ [((L.getD i (0, 0)).1 + (M.getD i (0, 0)).1, (L.getD i (0, 0)).2 + (M.getD i (0, 0)).2)] := rfl
      have hlen := mixL_len L M i
      obtain ⟨⟨x, y⟩, hp⟩ : ∃ p, L.getD i (0, 0) = p := ⟨_, rfl⟩
      obtain ⟨⟨x2, y2⟩, hp2⟩ : ∃ p, M.getD i (0, 0) = p := ⟨_, rfl⟩
      rw [hp] at k1 b1 b2
      rw [hp2] at k2 b3 b4
      rw [hp, hp2] at hen
      have k1' : wr.cell? (ad.add i) = some (.complex .f64 (FI x) (FI y)) := k1
      have k2' : wr.cell? (ad2.add i) = some (.complex .f64 (FI x2) (FI y2)) := k2
      simp only at b1 b2 b3 b4 hen
      have i1 : (i : Int) < (n : Int) := by omega
      have hadd := fun w => add_run x y x2 y2 b1 b2 b3 b4 61 w
      obtain ⟨sx, hsx⟩ : ∃ s, x + x2 = s := ⟨_, rfl⟩
      obtain ⟨sy, hsy⟩ : ∃ s, y + y2 = s := ⟨_, rfl⟩
      rw [hsx, hsy] at hadd hen
      obtain ⟨R0, hRE⟩ : ∃ R0, mixL L M i = R0 := ⟨_, rfl⟩
      rw [hRE] at hR hlen hen
      have HEN := Lib.hid hen
      have hR0 := hR
      unfold RowC at hR0
      have hsz := hF.size
      have hl2 : R0.length ≤ 100000 := by omega
      clear k1 k2 hp hp2 hen hsx hsy hRE hlen b1 b2 b3 b4
      go_wp2_with fail
      go_region_law
        ((refine step_append_lies _ (by rfl) _ _ _ (by rfl) w.heap.size 61 i0 _ 1 16 Try.underlying38 hi hz0 hz1 hz2 rfl (by omega) _ R0.length (R0.map cx) (by rfl) ((hR0.alloc _).drew)
            ⟨wr.heap.size, 0, none⟩ 1 1 [.complex .f64 (FI sx) (FI sy)] (by rfl) (by rfl) (World.news_of_block (cs := #[.complex .f64 (FI sx) (FI sy)]) (t := 61) (fr := (0, 0)) (heap_alloc_new wr _)) (by simp [Value.oneCell']) (by omega) (by unfold maxLen; omega) (by omega) (by simp; omega) (wr.heap.size + 1) (by simp) ?_; intro gg cap w3 hown1 hgrow hat hlt3))
      all_goals
        go_wp2_with fail
        go_roundw
        case rel =>
          obtain ⟨r1, r2⟩ := rowC_push (o := .cells #[.complex .f64 (FI sx) (FI sy)] 61) (p := (sx, sy)) hR hF (by exact hown1) ⟨hgrow.os, hgrow.tape, hgrow.output, hgrow.size, hgrow.block⟩
          exact ⟨i + 1, by go_num, by omega, by rw [HEN.out]; exact r1, r2⟩
        case measure => simp [intOf]; omega
    · have i1 : ¬ (i : Int) < (n : Int) := by omega
      have hii : i = n := by omega
      subst hii
      go_wp2_with fail
      go_ret2
      exact ⟨_, rfl, hR, hF⟩
end Go.Proofs.Ytcdjofneijlbgaa.A


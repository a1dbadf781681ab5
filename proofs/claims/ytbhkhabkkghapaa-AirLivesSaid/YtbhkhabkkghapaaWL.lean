/- AirTurns' walk. -/
import Derived.Test.YtbhkhabkkghapaaWJ
import Derived.Test.YtbhkhabkkghapaaWK
import Derived.Deep.CutBlock
import Derived.Deep.DeepCutAuto
namespace Go.Proofs.Ytbhkhabkkghapaa.A
open Go.RowKit Go.Proofs.Ytbhkhabkkghapaa.K Go.Proofs.Ytbhkhabkkghapaa.N Go.Proofs.Ytbhkhabkkghapaa.F
set_option linter.unusedVariables false
set_option linter.unusedSimpArgs false

theorem open_bins {H : Type} {enc : TypeId × Value → H} {w : World} {A : Option Addr} {len cap : Nat} {d : DataW H} {p : List MemPlace}
    (h : DataW.Trod enc Try.prog w 0 (fun _ => true) true 22 (.slice A len cap) d p) : ∃ bs, Bin w A bs ∧ bs.length = len ∧ (∀ c ∈ bs, c < 256) ∧ len ≤ 9223372036854775807 := by
  obtain ⟨m, h⟩ := h
  obtain ⟨A', l', c', bs, e, h1, h2, h3, h4⟩ := open_bytes h
  injection e with e1 e2 e3
  subst e1 e2 e3
  exact ⟨bs, h1, h2, h3, h4⟩
theorem Bin.at_ {w : World} {A : Option Addr} {L : List Nat} (h : Bin w A L) {i : Nat} (hi : i < L.length) : ∃ ad, A = some ad ∧ w.cell? (ad.add i) = some (.int .u8 (L.getD i 0 : Nat)) := by
  obtain ⟨h1, h2⟩ := h
  obtain ⟨ad, e, hb, hc⟩ := h2 (by omega)
  refine ⟨ad, e, hc i _ ?_⟩
  rw [List.getElem?_map, List.getElem?_eq_getElem hi, List.getD_eq_getElem?_getD, List.getElem?_eq_getElem hi]; rfl
theorem bin_str {w : World} {A : Option Addr} {n c : Nat} {L : List Nat} (h : Bin w A L) (hn : L.length = n) : (convert 22 9 (.slice A n c)).run Try.prog w = .ok (.string (bytesS L)) w :=
  string_is L hn fun j hj => by
    obtain ⟨ad, e, hc⟩ := h.at_ (i := j) (by omega)
    exact ⟨ad, e, hc⟩

set_option maxRecDepth 100000 in
set_option maxHeartbeats 8000000 in
theorem turns_walk (A : Option Addr) (n c : Nat) (bs : List Nat) (at_ qu : Int) (w : World) (hI : Bin w A bs ∧ bs.length = n ∧ (∀ c ∈ bs, c < 256) ∧ n ≤ 9223372036854775807) (wa : (Lit.int .i64 at_).wf = true) (wq : (Lit.int .u8 qu).wf = true) :
    Calls Try.prog 3 #[.slice A n c, .int .i64 at_, .int .u8 qu] w fun e w' => e = .returned (.bool true) ∧ Frm No w w' := by
  obtain ⟨hb, hlen, h256, h63⟩ := hI
  obtain ⟨q0, q1⟩ := u8_of wq
  obtain ⟨x, rfl⟩ := Int.eq_ofNat_of_zero_le q0
  have hm : bits .and .u8 (x : Int) 3 = ((x % 4 : Nat) : Int) := u8_mask3 (by omega)
  obtain ⟨q, hq⟩ : ∃ q : Nat, x % 4 = q := ⟨_, rfl⟩
  have hq4 : q < 4 := by omega
  have hq0 : (0 : Int) ≤ (q : Int) := by omega
  have hq3 : (q : Int) ≤ 3 := by omega
  rw [hq] at hm
  clear hq wq
  go_enter Try.func3, Try.ntmps3
  go_wp2_with fail
  refine (new_ok w w.heap.size).mono ?_
  rintro e w1 ⟨rfl, W1, F1⟩
  obtain ⟨g, hg⟩ : ∃ g, w.heap.size = g := ⟨_, rfl⟩
  rw [hg] at W1
  rw [hg]
  have hgl : w.heap.size ≤ g := by omega
  have hgl2 : g ≤ w.heap.size := by omega
  by_cases hl : n ≤ 500
  · have l1 : (n : Int) ≤ 500 := by omega
    have hm4 : wrap64 (4 * (n : Int)) = 4 * (n : Int) := IntWalk.wrap64_in _ ⟨by omega, by omega⟩
    have hs : sendE [] n = 0 := by unfold sendE; rw [if_neg (by omega), if_neg (by simp)]
    have B1 : g ≤ w1.heap.size := by have := F1.size; omega
    have hb1 := hb.frmN F1
    clear hg
    go_wp2_with fail
    refine (send_is _ g g none [] [bs] 0 1 0 0 A n c bs W1 hb1 hlen (by omega) B1 (by omega) (by omega) hs (by rfl) (by rfl)).mono ?_
    rintro e w2 ⟨rfl, ⟨k2, W2, -⟩, f2⟩
    have F2 := Frm.thenW F1 f2 hgl
    have hfit : Fits [bs] := fun l hl' => by
      have : l = bs := by simpa using hl'
      subst this; exact ⟨by omega, h256⟩
    clear W1 F1 B1 hb1 f2 hs
    go_wp2_with fail
    refine (spoil_any _ g g k2 [bs] 1 0 0 at_ (q : Int) W2 hfit).mono ?_
    rintro e w3 ⟨rfl, W3, f3⟩
    have F3 := Frm.thenK F2 f3 (fun x hx => Nat.le_trans hgl (W2.kb hx))
    have e0 : askI [bs] 0 = 0 := by rfl
    have g0 : ([bs] : List (List Nat)).getD (0 : Int).toNat [] = bs := by rfl
    by_cases hat : 0 ≤ at_ ∧ at_ < 4 * (n : Int)
    · have hsp : spE [bs] 0 at_ = 0 := by
        unfold spE; rw [g0, hlen, if_pos ⟨e0, hat.1, hat.2⟩]
      obtain ⟨ha0, ha1⟩ := hat
      obtain ⟨a, rfl⟩ := Int.eq_ofNat_of_zero_le ha0
      rw [hsp, if_pos rfl, g0, show (0 : Int).toNat = 0 by rfl, Int.toNat_natCast] at W3
      rw [hsp]
      have haN : a < 4 * bs.length := by omega
      obtain ⟨X, hX⟩ : ∃ X, spoilB bs a (q : Int) = X := ⟨_, rfl⟩
      have hXl : X.length = n := by rw [← hX, spoilB_len _ _ _ haN, hlen]
      have hX256 : ∀ c ∈ X, c < 256 := by rw [← hX]; exact outB_lt _
      have hXat : ∀ i, i < n → ((X.getD i 0 ≠ bs.getD i 0) ↔ ((q : Int) ≠ 0 ∧ i = a / 4)) := fun i hi => by
        rw [← hX]; exact spoil_at h256 haN hq0 (by omega) (by omega)
      have hXb : spoilB X a (4 - (q : Int)) = bs := by rw [← hX]; exact spoil_back h256 haN (by omega)
      rw [show ([bs] : List (List Nat)).set 0 (spoilB bs a (q : Int)) = [X] by rw [hX]; rfl] at W3
      have hfitX : Fits [X] := fun l hl' => by
        have : l = X := by simpa using hl'
        subst this; exact ⟨by omega, hX256⟩
      clear hX W2 F2 f3 hsp e0 g0
      go_wp2_with fail
      refine (at_any _ g g k2 [X] 1 0 0 W3 hfitX).mono ?_
      rintro e w4 ⟨⟨bA, bn, bc⟩, rfl, hb4, f4⟩
      rw [show askI [X] 0 = 0 by rfl, if_pos rfl, show ([X] : List (List Nat)).getD (0 : Int).toNat [] = X by rfl] at hb4
      rw [show askI [X] 0 = 0 by rfl]
      have F4 := F3.thenN f4
      have W4 := W3.frmN f4
      obtain ⟨hbn, _, ⟨hbx, _⟩⟩ := hb4
      simp only at hbn hbx
      obtain rfl : bn = n := by omega
      have hbb := hb.frmN F4
      simp only [Bl.val]
      clear W3 F3 f4 hbn
      go_wp2_with fail
      go_loopw [12] (fun vi wr => ∃ j : Nat, vi = .int .i64 j ∧ j ≤ bn ∧ Frm No w4 wr) (fun vi _ => bn - (intOf vi).toNat)
      case atStart => exact ⟨0, rfl, by omega, Frm.refl _ _⟩
      case round =>
        obtain ⟨j, rfl, hj, Fr⟩ := hrel
        have F4 := F4.thenN Fr
        have W4 := W4.frmN Fr
        have hbx := hbx.frmN Fr
        have hbb := hbb.frmN Fr
        by_cases hj2 : j < bn
        · obtain ⟨ad1, rfl, c1⟩ := hbx.at_ (i := j) (by omega)
          obtain ⟨ad2, rfl, c2⟩ := hbb.at_ (i := j) (by omega)
          have hiff := hXat j hj2
          obtain ⟨u, hu⟩ : ∃ u, X.getD j 0 = u := ⟨_, rfl⟩
          obtain ⟨v, hv⟩ : ∃ v, bs.getD j 0 = v := ⟨_, rfl⟩
          rw [hu, hv] at hiff
          rw [hu] at c1
          rw [hv] at c2
          have j1 : (j : Int) < (bn : Int) := by omega
          have hdv : (a : Int).tdiv 4 = ((a / 4 : Nat) : Int) := by rw [Int.tdiv_eq_ediv_of_nonneg (by omega)]; simp
          obtain ⟨a4, ha4⟩ : ∃ a4, a / 4 = a4 := ⟨_, rfl⟩
          rw [ha4] at hdv hiff
          clear hXat hXb hu hv hb hbb hbx W4 F4 hfit hfitX
          by_cases hk : q = 0
          · subst hk
            obtain rfl : u = v := Classical.byContradiction fun h => (hiff.1 h).1 rfl
            go_wp2_with fail
            go_quiet (fail)
            go_wp2_with fail
            go_roundw
            case rel => exact ⟨j + 1, by go_num, by omega, Fr.drewN _⟩
            case measure => simp [intOf]; omega
          · have hk1 : ¬ (q : Int) = 0 := by omega
            by_cases hja : j = a4
            · subst hja
              have huv : ¬ u = v := hiff.2 ⟨hk1, rfl⟩
              have huv1 : ((u : Int) != (v : Int)) = true := by simp; omega
              have hk2 : ((q : Int) != 0) = true := by simp; omega
              have hj3 : ((j : Int) == IntKind.i64.wrap (j : Int)) = true := by
                rw [IntKind.wrap_i64, show ((j : Int) + 9223372036854775808) % 18446744073709551616 - 9223372036854775808 = (j : Int) by omega]; simp
              clear hk1
              clear hiff
              go_wp2_with fail
              go_quiet (fail)
              go_wp2_with fail
              go_roundw
              case rel => exact ⟨j + 1, by go_num, by omega, Fr.drewN _⟩
              case measure => simp [intOf]; omega
            · obtain rfl : u = v := Classical.byContradiction fun h => hja (hiff.1 h).2
              have hk2 : ((q : Int) != 0) = true := by simp; omega
              have huv1 : ((u : Int) != (u : Int)) = false := by simp
              have hj3 : ((j : Int) == IntKind.i64.wrap (a4 : Int)) = false := by
                rw [IntKind.wrap_i64, show ((a4 : Int) + 9223372036854775808) % 18446744073709551616 - 9223372036854775808 = (a4 : Int) by omega]; simp; omega
              clear hk1
              clear hiff
              go_wp2_with fail
              go_quiet (fail)
              go_wp2_with fail
              go_roundw
              case rel => exact ⟨j + 1, by go_num, by omega, Fr.drewN _⟩
              case measure => simp [intOf]; omega
        · have j1 : ¬ (j : Int) < (bn : Int) := by omega
          have h4q : wrap64 (4 - (q : Int)) = 4 - (q : Int) := IntWalk.wrap64_in _ ⟨by omega, by omega⟩
          clear hXat hbx
          go_wp2_with fail
          refine (spoil_any _ g g k2 [X] 1 0 0 (a : Int) (4 - (q : Int)) W4 hfitX).mono ?_
          rintro e w5 ⟨rfl, W5, f5⟩
          have hsp : spE [X] 0 (a : Int) = 0 := by
            unfold spE
            rw [show ([X] : List (List Nat)).getD (0 : Int).toNat [] = X by rfl, hXl]
            exact if_pos ⟨by rfl, by omega, ha1⟩
          rw [hsp, if_pos rfl, show ([X] : List (List Nat)).getD (0 : Int).toNat [] = X by rfl, show (0 : Int).toNat = 0 by rfl, Int.toNat_natCast, hXb, show ([X] : List (List Nat)).set 0 bs = [bs] by rfl] at W5
          rw [hsp]
          have F5 := Frm.thenK F4 f5 (fun x hx => Nat.le_trans hgl (W4.kb hx))
          clear hbb W4 F4 f5 hsp
          go_wp2_with fail
          refine (at_any _ g g k2 [bs] 1 0 0 W5 hfit).mono ?_
          rintro e w6 ⟨⟨cA, cn, cc⟩, rfl, hb6, f6⟩
          rw [show askI [bs] 0 = 0 by rfl, if_pos rfl, show ([bs] : List (List Nat)).getD (0 : Int).toNat [] = bs by rfl] at hb6
          rw [show askI [bs] 0 = 0 by rfl]
          have F6 := F5.thenN f6
          simp only [Bl.val]
          clear W5 F5 f6
          go_wp2_with fail
          refine (alive_yes _).mono ?_
          rintro e w7 ⟨rfl, f7⟩
          have F7 := F6.thenN f7
          have s1 := (hb6.frmN f7).str
          have s2 := bin_str (c := c) (hb.frmN F7) hlen
          simp only [Bl.val] at s1
          clear hb6 F6 f7 hb
          go_wp2_with fail
          go_ret
          exact ⟨rfl, F7⟩
    · have hsp : spE [bs] 0 at_ = 1 := by
        unfold spE; rw [g0, hlen, if_neg (fun h => hat ⟨h.2.1, h.2.2⟩)]
      rw [hsp]
      clear W2 F2 f3 W3 hsp g0 e0
      by_cases h0 : at_ < 0
      · go_wp2_with fail
        refine (alive_yes _).mono ?_
        rintro e w7 ⟨rfl, f7⟩
        go_wp2_with fail
        go_ret
        exact ⟨rfl, F3.thenN f7⟩
      · have h1 : 4 * (n : Int) ≤ at_ := by omega
        have h0' : ¬ at_ < 0 := h0
        clear hat
        go_wp2_with fail
        refine (alive_yes _).mono ?_
        rintro e w7 ⟨rfl, f7⟩
        go_wp2_with fail
        go_ret
        exact ⟨rfl, F3.thenN f7⟩
  · have l1 : ¬ (n : Int) ≤ 500 := by omega
    clear hg
    go_wp2_with fail
    refine (alive_yes _).mono ?_
    rintro e w7 ⟨rfl, f7⟩
    go_wp2_with fail
    go_ret
    exact ⟨rfl, F1.thenN f7⟩
end Go.Proofs.Ytbhkhabkkghapaa.A

/- Blocks that come in; moved there and back, in plain numbers; AirMoves' walk. -/
import Derived.Test.YtbhkhabkkghapaaWL
namespace Go.Proofs.Ytbhkhabkkghapaa.A
open Go.RowKit Go.Proofs.Ytbhkhabkkghapaa.K Go.Proofs.Ytbhkhabkkghapaa.N Go.Proofs.Ytbhkhabkkghapaa.F
set_option linter.unusedVariables false
set_option linter.unusedSimpArgs false

theorem moveL_eq {L : List (List Nat)} {i : Nat} (h : i < L.length) : ∃ M, cutL L i = M ∧ M.length = L.length - 1 ∧ M.take i = L.take i ∧ M.drop i = L.drop (i + 1) := by
  refine ⟨_, rfl, cutL_len h, ?_, ?_⟩
  · unfold cutL
    rw [List.take_append_of_le_length (by rw [List.length_take]; omega), List.take_take, Nat.min_self]
  · unfold cutL
    rw [List.drop_append, List.drop_of_length_le (by rw [List.length_take]; omega), List.length_take, Nat.min_eq_left (by omega), Nat.sub_self]
    simp
theorem moveL_at {L : List (List Nat)} {i t : Nat} (h : i < L.length) (ht : t < L.length) : (moveL L i t).getD t [] = L.getD i [] := by
  have hl := cutL_len h
  unfold moveL
  rw [List.getD_eq_getElem?_getD, List.getElem?_append_right (by rw [List.length_take]; omega), List.length_take, Nat.min_eq_left (by omega), Nat.sub_self]
  rfl
theorem moveL_back {L : List (List Nat)} {i t : Nat} (h : i < L.length) (ht : t < L.length) : moveL (moveL L i t) t i = L := by
  obtain ⟨M, hM, hl, h1, h2⟩ := moveL_eq h
  have e1 : (moveL L i t).getD t [] = L.getD i [] := moveL_at h ht
  have e2 : cutL (moveL L i t) t = M := by
    unfold moveL
    rw [hM]
    unfold cutL
    rw [List.take_append_of_le_length (by rw [List.length_take]; omega), List.take_take, Nat.min_self, List.drop_append, List.drop_of_length_le (by rw [List.length_take]; omega), List.length_take, Nat.min_eq_left (by omega), show t + 1 - t = 1 by omega]
    simp
  have e3 : moveL (moveL L i t) t i = (cutL (moveL L i t) t).take i ++ ([(moveL L i t).getD t []] ++ (cutL (moveL L i t) t).drop i) := rfl
  rw [e3, e2, e1, h1, h2, List.getD_eq_getElem?_getD, List.getElem?_eq_getElem h, Option.getD_some, List.singleton_append, List.getElem_cons_drop, List.take_append_drop]
/-- A row of blocks of bytes. -/
structure AB where
  A : Option Addr
  l : Nat
  c : Nat
  bs : List Nat
def IsBk (w : World) (A : Option Addr) (i : Nat) (o : AB) : Prop := ∃ ad, A = some ad ∧ ad.block < w.heap.size ∧ w.cell? (ad.add i) = some (.slice o.A o.l o.c) ∧ Bin w o.A o.bs ∧ o.bs.length = o.l ∧ (∀ c ∈ o.bs, c < 256) ∧ o.l ≤ 9223372036854775807
def IsBks (w : World) (A : Option Addr) (len : Nat) (bs : List AB) : Prop := bs.length = len ∧ len ≤ 9223372036854775807 ∧ ∀ i o, bs[i]? = some o → IsBk w A i o
theorem open_blocks {H : Type} {enc : TypeId × Value → H} {w : World} {A : Option Addr} {len cap : Nat} {d : DataW H} {p : List MemPlace}
    (h : DataW.Trod enc Try.prog w 0 (fun _ => true) true 32 (.slice A len cap) d p) : ∃ bs, IsBks w A len bs := by
  obtain ⟨hm, he⟩ := open_elems (C := 1) Try.underlying32 (by kernel_rfl) (by omega) h
  obtain ⟨l, hl, hp⟩ := list_of (α := AB) (n := len) (p := fun i o => IsBk w A i o) (fun i hi => by
      obtain ⟨ad, cs, y, m, e, hb, hlen, hc, ht⟩ := he i hi
      match cs, hlen with
      | [v], _ =>
        obtain ⟨A', l', c', bs, rfl, r1, r2, r3, r4⟩ := open_bytes ht
        have := hc 0 (by omega)
        rw [Nat.mul_one, Nat.add_zero] at this
        exact ⟨⟨A', l', c', bs⟩, ad, e, hb, this, r1, r2, r3, r4⟩)
  exact ⟨l, hl, hm, hp⟩
theorem IsBks.at_ {w wr : World} {A : Option Addr} {len i : Nat} {bs : List AB} (h : IsBks w A len bs) (F : Frm No w wr) (hi : i < len) : ∃ (ad A' : _) (l c : Nat), A = some ad ∧ (bs.map AB.bs).getD i [] = (bs.map AB.bs).getD i [] ∧ Bin w A' ((bs.map AB.bs).getD i []) ∧ ((bs.map AB.bs).getD i []).length = l ∧ (∀ c ∈ (bs.map AB.bs).getD i [], c < 256) ∧ l ≤ 9223372036854775807 ∧
    wr.cell? (ad.add i) = some (.slice A' l c) := by
  have hi' : i < bs.length := by rw [h.1]; exact hi
  obtain ⟨ad, e, hb, c0, r1, r2, r3, r4⟩ := h.2.2 i _ (List.getElem?_eq_getElem hi')
  have eg : (bs.map AB.bs).getD i [] = bs[i].bs := by rw [List.getD_eq_getElem?_getD, List.getElem?_map, List.getElem?_eq_getElem hi']; rfl
  refine ⟨ad, _, _, bs[i].c, e, rfl, by rw [eg]; exact r1, by rw [eg]; exact r2, by rw [eg]; exact r3, r4, ?_⟩
  rw [← c0]; exact World.cell?_of_block (F.block _ (by rw [block_add]; exact hb) (fun h => h))
theorem take_getD {D : List (List Nat)} {j i : Nat} (h : i < j) : (D.take j).getD i [] = D.getD i [] := by
  rw [List.getD_eq_getElem?_getD, List.getElem?_take_of_lt h, ← List.getD_eq_getElem?_getD]

theorem moveE_in {L : List (List Nat)} {i t : Nat} (h : i < L.length) (ht : t < L.length) : moveE L (i : Int) (t : Int) = 0 := if_pos ⟨if_pos ⟨by omega, by omega⟩, if_pos ⟨by omega, by omega⟩⟩
theorem moveE_out {L : List (List Nat)} {j : Nat} {i t : Int} (hl : L.length = j) (h : ¬ ((0 ≤ i ∧ i < (j : Int)) ∧ (0 ≤ t ∧ t < (j : Int)))) : moveE L i t = 1 := if_neg fun ⟨h1, h2⟩ => h ⟨by have := askI_in h1; omega, by have := askI_in h2; omega⟩
def MM (w wr : World) (g : Nat) (D : List (List Nat)) (j : Nat) : Prop :=
  ∃ k : Option Nat, IsW wr g g k (D.take j) (j : Int) 0 ∧ (∀ l ∈ D.take j, l.length ≤ 4096 ∧ ∀ c ∈ l, c < 256) ∧ Frm No w wr

set_option maxRecDepth 100000 in
set_option maxHeartbeats 8000000 in
theorem moves_walk (A : Option Addr) (n c : Nat) (bl : List AB) (i t : Int) (w : World) (hI : IsBks w A n bl) (wi : (Lit.int .i64 i).wf = true) (wt : (Lit.int .i64 t).wf = true) :
    Calls Try.prog 4 #[.slice A n c, .int .i64 i, .int .i64 t] w fun e w' => e = .returned (.bool true) ∧ Frm No w w' := by
  have hn9 : n ≤ 9223372036854775807 := hI.2.1
  obtain ⟨D, hD⟩ : ∃ D, bl.map AB.bs = D := ⟨_, rfl⟩
  have hDl : D.length = n := by rw [← hD, List.length_map, hI.1]
  have HI := Lib.hid (And.intro hI hD)
  clear hI
  go_enter Try.func4, Try.ntmps4
  go_wp2_with fail
  refine (new_ok w w.heap.size).mono ?_
  rintro e w1 ⟨rfl, W1, F1⟩
  obtain ⟨g, hg⟩ : ∃ g, w.heap.size = g := ⟨_, rfl⟩
  rw [hg] at W1
  rw [hg]
  have hgl : w.heap.size ≤ g := by omega
  have hgl2 : g ≤ w.heap.size := by omega
  have H0 := Lib.hid (show MM w w1 g D 0 from ⟨none, W1, fun l hl => by simp at hl, F1⟩)
  clear hg W1 F1
  go_wp2_with fail
  go_loopw [8] (fun vi wr => ∃ j : Nat, vi = .int .i64 j ∧ j ≤ 40 ∧ j ≤ n ∧ MM w wr g D j) (fun vi _ => 40 - (intOf vi).toNat)
  case atStart => exact ⟨0, rfl, by omega, by omega, H0.out⟩
  case round =>
    clear H0
    obtain ⟨j, rfl, hj, hjn, k, W, hfit, F⟩ := hrel
    have hLl : (D.take j).length = j := by rw [List.length_take]; omega
    by_cases hgo : j < n ∧ j < 40
    · obtain ⟨h1, h2⟩ := hgo
      have j1 : (j : Int) < (n : Int) := by omega
      have j2 : (j : Int) < 40 := by omega
      obtain ⟨ad, A', l, c', rfl, -, r1, r2, r3, r4, c0⟩ := HI.out.1.at_ F h1
      rw [HI.out.2] at r1 r2 r3
      have B1 : g ≤ wr.heap.size := by have := F.size; omega
      by_cases hl : l ≤ 100
      · have l1 : ¬ 100 < (l : Int) := by omega
        have hs : sendE (D.take j) l = 0 := by unfold sendE; rw [if_neg (by omega), if_neg (by omega)]
        have e1 : D.take j ++ [D.getD j []] = D.take (j + 1) := by
          rw [List.take_succ_eq_append_getElem (by omega), List.getD_eq_getElem?_getD, List.getElem?_eq_getElem (by omega)]; rfl
        have FIT := Lib.hid hfit
        clear hfit
        go_wp2_with fail
        refine (send_is wr g g k (D.take j) (D.take (j + 1)) j ((j : Int) + 1) 0 0 A' l c' (D.getD j []) W (r1.frmN F) r2 r4 B1 (by omega) (by omega) hs (by rw [if_pos rfl, e1]) (by rw [if_pos rfl])).mono ?_
        rintro e w3 ⟨rfl, ⟨k3, W3, -⟩, f3⟩
        have F3 := Frm.thenW F f3 hgl
        go_wp2_with fail
        go_roundw
        case rel =>
          refine ⟨j + 1, by go_num, by omega, by omega, k3, by exact_mod_cast W3, ?_, F3⟩
          rw [← e1]
          exact fits_app FIT.out (by rw [r2]; omega) r3
        case measure => simp [intOf]; omega
      · have l1 : 100 < (l : Int) := by omega
        go_wp2_with fail
        refine (alive_yes _).mono ?_
        rintro e w7 ⟨rfl, f7⟩
        go_wp2_with fail
        go_ret
        exact ⟨rfl, F.thenN f7⟩
    · obtain ⟨L, hL⟩ : ∃ L, D.take j = L := ⟨_, rfl⟩
      rw [hL] at W hfit hLl
      have hD2 : ∀ a, a < j → L.getD a [] = D.getD a [] := fun a ha => by rw [← hL]; exact take_getD ha
      have HFIT := Lib.hid (show Fits L from hfit)
      clear hL hfit
      have B : g ≤ wr.heap.size := by have := F.size; omega
      by_cases hj2 : j < n
      · have j1 : (j : Int) < (n : Int) := by omega
        have j2 : ¬ (j : Int) < 40 := by omega
        go_wp2_with fail
        refine (len_ok _ g g k L (j : Int) 0 W).mono ?_
        rintro e w2 ⟨rfl, rfl⟩
        rw [hLl]
        go_wp2_with fail
        refine (move_any _ g g k L (j : Int) 0 i t W HFIT.out B).mono ?_
        rintro e w3 ⟨rfl, ⟨k3, W3, -⟩, f3⟩
        have F3 := Frm.thenW F f3 hgl
        by_cases hin : (0 ≤ i ∧ i < (j : Int)) ∧ (0 ≤ t ∧ t < (j : Int))
        · obtain ⟨⟨i0, i1⟩, t0, t1⟩ := hin
          obtain ⟨a, rfl⟩ := Int.eq_ofNat_of_zero_le i0
          obtain ⟨b, rfl⟩ := Int.eq_ofNat_of_zero_le t0
          have hE := moveE_in (L := L) (i := a) (t := b) (by omega) (by omega)
          rw [hE, if_pos rfl, Int.toNat_natCast, Int.toNat_natCast] at W3
          rw [hE]
          obtain ⟨M, hM⟩ : ∃ M, moveL L a b = M := ⟨_, rfl⟩
          have hMl : M.length = j := by rw [← hM, moveL_len (by omega), hLl]
          have hMf : Fits M := by rw [← hM]; exact fits_move HFIT.out
          have hMa : M.getD b [] = L.getD a [] := by rw [← hM]; exact moveL_at (by omega) (by omega)
          have hMb : moveL M b a = L := by rw [← hM]; exact moveL_back (by omega) (by omega)
          rw [hM] at W3
          have B3 : g ≤ w3.heap.size := by have := F3.size; omega
          have X3 := Lib.hid (And.intro hMf (And.intro hMa (And.intro hMb hMl)))
          clear hM hE f3 W F B hMf hMa hMb hMl
          go_wp2_with fail
          refine (at_any _ g g k3 M (j : Int) 0 (b : Int) W3 X3.out.1).mono ?_
          rintro e w4 ⟨⟨bA, bn, bc⟩, rfl, hb4, f4⟩
          have hask : askI M (b : Int) = 0 := if_pos ⟨by omega, by rw [X3.out.2.2.2]; omega⟩
          rw [hask, if_pos rfl, Int.toNat_natCast, X3.out.2.1] at hb4
          rw [hask]
          have F4 := F3.thenN f4
          have W4 := W3.frmN f4
          have B4 : g ≤ w4.heap.size := by have := F4.size; omega
          simp only [Bl.val]
          clear hask W3 F3 f4 B3
          go_wp2_with fail
          refine (move_any _ g g k3 M (j : Int) 0 (b : Int) (a : Int) W4 X3.out.1 B4).mono ?_
          rintro e w5 ⟨rfl, ⟨k5, W5, -⟩, f5⟩
          have hE := moveE_in (L := M) (i := b) (t := a) (by rw [X3.out.2.2.2]; omega) (by rw [X3.out.2.2.2]; omega)
          rw [hE, if_pos rfl, Int.toNat_natCast, Int.toNat_natCast, X3.out.2.2.1] at W5
          rw [hE]
          have F5 := Frm.thenW F4 f5 hgl
          have hb5 := hb4.frm f5 (fun x cs hx e => by
            subst e
            obtain ⟨_, _, _, hbk, _⟩ := W4
            exact Blk.ne hx hbk (by decide) rfl)
          have s1 := fun n => (hb5.frmN ((Frm.refl No w5).drewN n)).str
          simp only [Bl.val] at s1
          obtain ⟨ad, A', l, c', rfl, -, r1, r2, r3, r4, c0⟩ := HI.out.1.at_ F5 (i := a) (by omega)
          rw [HI.out.2] at r1 r2 r3
          have s2 := fun n => bin_str (c := c') (r1.frmN (F5.drewN n)) r2
          rw [hD2 a (by omega)] at s1
          have hai : (a : Int) < (n : Int) := by omega
          have hli : L.length = j := hLl
          clear hE f5 W4 F4 B4 hb4 hb5 r1 r2 r3 r4
          have LEN := Lib.hid (And.intro W5 hli)
          clear W5 hli
          go_wp2_with fail
          go_quiet (first | (go_at_call 12; exact Calls.quiet_of_same (len_ok _ g g k5 L (j : Int) 0 LEN.out.1)))
          go_wp2_with fail
          go_loopw [14] (fun vi wr => ∃ q : Nat, vi = .int .i64 q ∧ q ≤ j ∧ Frm No w5 wr) (fun vi _ => j - (intOf vi).toNat)
          case atStart => exact ⟨0, rfl, by omega, (Frm.refl No w5).drewN _⟩
          case round =>
            obtain ⟨q, rfl, hq, Fr⟩ := hrel
            have W6 := LEN.out.1.frmN Fr
            have F6 := F5.thenN Fr
            by_cases hq2 : q < j
            · have q1 : (q : Int) < (j : Int) := by omega
              have q2 : (q : Int) < (n : Int) := by omega
              obtain ⟨ad, A', l, c', e', -, r1, r2, r3, r4, c0⟩ := HI.out.1.at_ F6 (i := q) (by omega)
              injection e' with e'
              subst e'
              rw [HI.out.2] at r1 r2 r3
              clear s1 s2
              go_wp2_with fail
              refine (at_any _ g g k5 L (j : Int) 0 (q : Int) W6 HFIT.out).mono ?_
              rintro e w7 ⟨⟨dA, dn, dc⟩, rfl, hb7, f7⟩
              have hask : askI L (q : Int) = 0 := if_pos ⟨by omega, by rw [LEN.out.2]; omega⟩
              rw [hask, if_pos rfl, Int.toNat_natCast, hD2 q hq2] at hb7
              rw [hask]
              have F7 := F6.thenN f7
              have Fr7 := Fr.thenN f7
              have s1 := fun n => (hb7.frmN ((Frm.refl No w7).drewN n)).str
              simp only [Bl.val] at s1
              have s2 := fun n => bin_str (c := c') (r1.frmN (F7.drewN n)) r2
              obtain ⟨_, A2, _, c2, e2, -, _, _, _, _, c7⟩ := HI.out.1.at_ F7 (i := q) (by omega)
              injection e2 with e2
              subst e2
              have c8 : w7.cell? (ad.add q) = some (.slice A' l c') := by
                obtain ⟨ad', e, hb, c1, _⟩ := HI.out.1.2.2 q _ (List.getElem?_eq_getElem (by rw [HI.out.1.1]; omega))
                injection e with e
                subst e
                rw [← c0, World.cell?_of_block (F7.block _ (by rw [block_add]; exact hb) (fun h => h)), World.cell?_of_block (F6.block _ (by rw [block_add]; exact hb) (fun h => h))]
              simp only [Bl.val]
              clear hask hb7 r1 r2 r3 r4 c0 c7 W6 F6 f7 Fr
              go_wp2_with fail
              go_quiet (fail)
              go_wp2_with fail
              go_roundw
              case rel => exact ⟨q + 1, by go_num, by omega, Fr7.drewN _⟩
              case measure => simp [intOf]; omega
            · have q1 : ¬ (q : Int) < (j : Int) := by omega
              clear s1 s2
              go_wp2_with fail
              refine (alive_yes _).mono ?_
              rintro e w7 ⟨rfl, f7⟩
              go_wp2_with fail
              go_ret
              exact ⟨rfl, F6.thenN f7⟩
        · have hE := moveE_out hLl hin
          rw [hE, if_neg (by decide)] at W3
          rw [hE]
          clear hE f3 W F B
          by_cases i0 : i < 0
          · go_wp2_with fail
            refine (alive_yes _).mono ?_
            rintro e w7 ⟨rfl, f7⟩
            have W7 := W3.frmN f7
            go_wp2_with fail
            refine (len_ok _ g g k3 L (j : Int) 0 W7).mono ?_
            rintro e w8 ⟨rfl, rfl⟩
            rw [hLl]
            go_wp2_with fail
            go_ret
            exact ⟨rfl, F3.thenN f7⟩
          · by_cases i1 : (j : Int) ≤ i
            · go_wp2_with fail
              refine (alive_yes _).mono ?_
              rintro e w7 ⟨rfl, f7⟩
              have W7 := W3.frmN f7
              go_wp2_with fail
              refine (len_ok _ g g k3 L (j : Int) 0 W7).mono ?_
              rintro e w8 ⟨rfl, rfl⟩
              rw [hLl]
              go_wp2_with fail
              go_ret
              exact ⟨rfl, F3.thenN f7⟩
            · by_cases t0 : t < 0
              · go_wp2_with fail
                refine (alive_yes _).mono ?_
                rintro e w7 ⟨rfl, f7⟩
                have W7 := W3.frmN f7
                go_wp2_with fail
                refine (len_ok _ g g k3 L (j : Int) 0 W7).mono ?_
                rintro e w8 ⟨rfl, rfl⟩
                rw [hLl]
                go_wp2_with fail
                go_ret
                exact ⟨rfl, F3.thenN f7⟩
              · have t1 : (j : Int) ≤ t := by omega
                go_wp2_with fail
                refine (alive_yes _).mono ?_
                rintro e w7 ⟨rfl, f7⟩
                have W7 := W3.frmN f7
                go_wp2_with fail
                refine (len_ok _ g g k3 L (j : Int) 0 W7).mono ?_
                rintro e w8 ⟨rfl, rfl⟩
                rw [hLl]
                go_wp2_with fail
                go_ret
                exact ⟨rfl, F3.thenN f7⟩
      · have j1 : ¬ (j : Int) < (n : Int) := by omega
        go_wp2_with fail
        refine (len_ok _ g g k L (j : Int) 0 W).mono ?_
        rintro e w2 ⟨rfl, rfl⟩
        rw [hLl]
        go_wp2_with fail
        refine (move_any _ g g k L (j : Int) 0 i t W HFIT.out B).mono ?_
        rintro e w3 ⟨rfl, ⟨k3, W3, -⟩, f3⟩
        have F3 := Frm.thenW F f3 hgl
        by_cases hin : (0 ≤ i ∧ i < (j : Int)) ∧ (0 ≤ t ∧ t < (j : Int))
        · obtain ⟨⟨i0, i1⟩, t0, t1⟩ := hin
          obtain ⟨a, rfl⟩ := Int.eq_ofNat_of_zero_le i0
          obtain ⟨b, rfl⟩ := Int.eq_ofNat_of_zero_le t0
          have hE := moveE_in (L := L) (i := a) (t := b) (by omega) (by omega)
          rw [hE, if_pos rfl, Int.toNat_natCast, Int.toNat_natCast] at W3
          rw [hE]
          obtain ⟨M, hM⟩ : ∃ M, moveL L a b = M := ⟨_, rfl⟩
          have hMl : M.length = j := by rw [← hM, moveL_len (by omega), hLl]
          have hMf : Fits M := by rw [← hM]; exact fits_move HFIT.out
          have hMa : M.getD b [] = L.getD a [] := by rw [← hM]; exact moveL_at (by omega) (by omega)
          have hMb : moveL M b a = L := by rw [← hM]; exact moveL_back (by omega) (by omega)
          rw [hM] at W3
          have B3 : g ≤ w3.heap.size := by have := F3.size; omega
          have X3 := Lib.hid (And.intro hMf (And.intro hMa (And.intro hMb hMl)))
          clear hM hE f3 W F B hMf hMa hMb hMl
          go_wp2_with fail
          refine (at_any _ g g k3 M (j : Int) 0 (b : Int) W3 X3.out.1).mono ?_
          rintro e w4 ⟨⟨bA, bn, bc⟩, rfl, hb4, f4⟩
          have hask : askI M (b : Int) = 0 := if_pos ⟨by omega, by rw [X3.out.2.2.2]; omega⟩
          rw [hask, if_pos rfl, Int.toNat_natCast, X3.out.2.1] at hb4
          rw [hask]
          have F4 := F3.thenN f4
          have W4 := W3.frmN f4
          have B4 : g ≤ w4.heap.size := by have := F4.size; omega
          simp only [Bl.val]
          clear hask W3 F3 f4 B3
          go_wp2_with fail
          refine (move_any _ g g k3 M (j : Int) 0 (b : Int) (a : Int) W4 X3.out.1 B4).mono ?_
          rintro e w5 ⟨rfl, ⟨k5, W5, -⟩, f5⟩
          have hE := moveE_in (L := M) (i := b) (t := a) (by rw [X3.out.2.2.2]; omega) (by rw [X3.out.2.2.2]; omega)
          rw [hE, if_pos rfl, Int.toNat_natCast, Int.toNat_natCast, X3.out.2.2.1] at W5
          rw [hE]
          have F5 := Frm.thenW F4 f5 hgl
          have hb5 := hb4.frm f5 (fun x cs hx e => by
            subst e
            obtain ⟨_, _, _, hbk, _⟩ := W4
            exact Blk.ne hx hbk (by decide) rfl)
          have s1 := fun n => (hb5.frmN ((Frm.refl No w5).drewN n)).str
          simp only [Bl.val] at s1
          obtain ⟨ad, A', l, c', rfl, -, r1, r2, r3, r4, c0⟩ := HI.out.1.at_ F5 (i := a) (by omega)
          rw [HI.out.2] at r1 r2 r3
          have s2 := fun n => bin_str (c := c') (r1.frmN (F5.drewN n)) r2
          rw [hD2 a (by omega)] at s1
          have hai : (a : Int) < (n : Int) := by omega
          have hli : L.length = j := hLl
          clear hE f5 W4 F4 B4 hb4 hb5 r1 r2 r3 r4
          have LEN := Lib.hid (And.intro W5 hli)
          clear W5 hli
          go_wp2_with fail
          go_quiet (first | (go_at_call 12; exact Calls.quiet_of_same (len_ok _ g g k5 L (j : Int) 0 LEN.out.1)))
          go_wp2_with fail
          go_loopw [14] (fun vi wr => ∃ q : Nat, vi = .int .i64 q ∧ q ≤ j ∧ Frm No w5 wr) (fun vi _ => j - (intOf vi).toNat)
          case atStart => exact ⟨0, rfl, by omega, (Frm.refl No w5).drewN _⟩
          case round =>
            obtain ⟨q, rfl, hq, Fr⟩ := hrel
            have W6 := LEN.out.1.frmN Fr
            have F6 := F5.thenN Fr
            by_cases hq2 : q < j
            · have q1 : (q : Int) < (j : Int) := by omega
              have q2 : (q : Int) < (n : Int) := by omega
              obtain ⟨ad, A', l, c', e', -, r1, r2, r3, r4, c0⟩ := HI.out.1.at_ F6 (i := q) (by omega)
              injection e' with e'
              subst e'
              rw [HI.out.2] at r1 r2 r3
              clear s1 s2
              go_wp2_with fail
              refine (at_any _ g g k5 L (j : Int) 0 (q : Int) W6 HFIT.out).mono ?_
              rintro e w7 ⟨⟨dA, dn, dc⟩, rfl, hb7, f7⟩
              have hask : askI L (q : Int) = 0 := if_pos ⟨by omega, by rw [LEN.out.2]; omega⟩
              rw [hask, if_pos rfl, Int.toNat_natCast, hD2 q hq2] at hb7
              rw [hask]
              have F7 := F6.thenN f7
              have Fr7 := Fr.thenN f7
              have s1 := fun n => (hb7.frmN ((Frm.refl No w7).drewN n)).str
              simp only [Bl.val] at s1
              have s2 := fun n => bin_str (c := c') (r1.frmN (F7.drewN n)) r2
              obtain ⟨_, A2, _, c2, e2, -, _, _, _, _, c7⟩ := HI.out.1.at_ F7 (i := q) (by omega)
              injection e2 with e2
              subst e2
              have c8 : w7.cell? (ad.add q) = some (.slice A' l c') := by
                obtain ⟨ad', e, hb, c1, _⟩ := HI.out.1.2.2 q _ (List.getElem?_eq_getElem (by rw [HI.out.1.1]; omega))
                injection e with e
                subst e
                rw [← c0, World.cell?_of_block (F7.block _ (by rw [block_add]; exact hb) (fun h => h)), World.cell?_of_block (F6.block _ (by rw [block_add]; exact hb) (fun h => h))]
              simp only [Bl.val]
              clear hask hb7 r1 r2 r3 r4 c0 c7 W6 F6 f7 Fr
              go_wp2_with fail
              go_quiet (fail)
              go_wp2_with fail
              go_roundw
              case rel => exact ⟨q + 1, by go_num, by omega, Fr7.drewN _⟩
              case measure => simp [intOf]; omega
            · have q1 : ¬ (q : Int) < (j : Int) := by omega
              clear s1 s2
              go_wp2_with fail
              refine (alive_yes _).mono ?_
              rintro e w7 ⟨rfl, f7⟩
              go_wp2_with fail
              go_ret
              exact ⟨rfl, F6.thenN f7⟩
        · have hE := moveE_out hLl hin
          rw [hE, if_neg (by decide)] at W3
          rw [hE]
          clear hE f3 W F B
          by_cases i0 : i < 0
          · go_wp2_with fail
            refine (alive_yes _).mono ?_
            rintro e w7 ⟨rfl, f7⟩
            have W7 := W3.frmN f7
            go_wp2_with fail
            refine (len_ok _ g g k3 L (j : Int) 0 W7).mono ?_
            rintro e w8 ⟨rfl, rfl⟩
            rw [hLl]
            go_wp2_with fail
            go_ret
            exact ⟨rfl, F3.thenN f7⟩
          · by_cases i1 : (j : Int) ≤ i
            · go_wp2_with fail
              refine (alive_yes _).mono ?_
              rintro e w7 ⟨rfl, f7⟩
              have W7 := W3.frmN f7
              go_wp2_with fail
              refine (len_ok _ g g k3 L (j : Int) 0 W7).mono ?_
              rintro e w8 ⟨rfl, rfl⟩
              rw [hLl]
              go_wp2_with fail
              go_ret
              exact ⟨rfl, F3.thenN f7⟩
            · by_cases t0 : t < 0
              · go_wp2_with fail
                refine (alive_yes _).mono ?_
                rintro e w7 ⟨rfl, f7⟩
                have W7 := W3.frmN f7
                go_wp2_with fail
                refine (len_ok _ g g k3 L (j : Int) 0 W7).mono ?_
                rintro e w8 ⟨rfl, rfl⟩
                rw [hLl]
                go_wp2_with fail
                go_ret
                exact ⟨rfl, F3.thenN f7⟩
              · have t1 : (j : Int) ≤ t := by omega
                go_wp2_with fail
                refine (alive_yes _).mono ?_
                rintro e w7 ⟨rfl, f7⟩
                have W7 := W3.frmN f7
                go_wp2_with fail
                refine (len_ok _ g g k3 L (j : Int) 0 W7).mono ?_
                rintro e w8 ⟨rfl, rfl⟩
                rw [hLl]
                go_wp2_with fail
                go_ret
                exact ⟨rfl, F3.thenN f7⟩
end Go.Proofs.Ytbhkhabkkghapaa.A

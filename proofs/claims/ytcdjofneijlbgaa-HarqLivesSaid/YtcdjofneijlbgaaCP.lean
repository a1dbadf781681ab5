/- The document's Hear, whatever comes. -/
import Derived.Test.YtcdjofneijlbgaaCO
namespace Go.Proofs.Ytcdjofneijlbgaa.A
open Go.RowKit Go.Proofs.Ytcdjofneijlbgaa.K Go.Proofs.Ytcdjofneijlbgaa.F Go.Proofs.Ytcdjofneijlbgaa.N
set_option linter.unusedVariables false
set_option linter.unusedSimpArgs false

set_option maxRecDepth 100000 in
set_option maxHeartbeats 4000000 in
theorem rh_state (w : World) (g : Nat) (tries heard gone : Int) (ls : Nat → List (List Pt)) (p : Nat) (A : Option Addr) (n c : Nat) (L : List Pt) (hp : p < 8) (hr : RdP w A L) (hn : L.length = n) (hn9 : n ≤ 16392) (hs : Lim 2433 L) (h : IsRB w g tries heard gone ls) (hW : Low L) (st : Nat → Held) (hl : Link (st p) (ls p)) (hst : (st p).2 = 0 ∨ (st p).1.length ≠ L.length) :
    Calls Try.prog 12 #[.pointer (some ⟨g, 0, none⟩), .int .i64 (p : Int), .bool false, .slice A n c] w fun e w' => e = .returned (.tuple #[.slice none 0 0, .bool false, .int .i64 7]) ∧ w' = w := by
  have p0 : (0 : Int) ≤ (p : Int) := by omega
  have p1 : ¬ (7 : Int) < (p : Int) := by omega
  have n1 : ¬ (16392 : Int) < (n : Int) := by omega
  have HR := Lib.hid (And.intro hr (And.intro hn hs))
  have HG := Lib.hid (And.intro h (And.intro hl hst))
  have HW := Lib.hid hW
  clear hr hn hs h hl hst hW
  go_enter Try.func12, Try.ntmps12
  go_wp2_with fail
  go_loopw [11] (fun vi wr => ∃ i : Nat, vi = .int .i64 i ∧ i ≤ n ∧ (∀ q, q < i → (L.getD q (0, 0)).1.natAbs ≤ 1000 ∧ (L.getD q (0, 0)).2.natAbs ≤ 1000) ∧ wr = w) (fun vi _ => n - (intOf vi).toNat)
  case atStart => exact ⟨0, rfl, by omega, fun q hq => absurd hq (by omega), rfl⟩
  case round =>
    obtain ⟨i, rfl, hin, hq, rfl⟩ := hrel
    have HQ := Lib.hid hq
    clear hq
    have i0' : (0 : Int) ≤ (i : Int) := Int.natCast_nonneg _
    by_cases hlt : i < n
    · have i1 : (i : Int) < (n : Int) := by omega
      obtain ⟨ad, rfl, -, k1, k2⟩ := HR.out.1 i (by rw [HR.out.2.1]; exact hlt)
      have hsm := HR.out.2.2.at_ i
      have hlow : (L.getD i (0, 0)).1.natAbs ≤ 1000 ∧ (L.getD i (0, 0)).2.natAbs ≤ 1000 → ∀ q, q < i + 1 → (L.getD q (0, 0)).1.natAbs ≤ 1000 ∧ (L.getD q (0, 0)).2.natAbs ≤ 1000 := fun h q hq => by
        rcases Nat.lt_or_ge q i with h1 | h1
        · exact HQ.out q h1
        · have : q = i := by omega
          subst this; exact h
      have hbad : ¬ ((L.getD i (0, 0)).1.natAbs ≤ 1000 ∧ (L.getD i (0, 0)).2.natAbs ≤ 1000) → ¬ Low L := fun h hl => h (hl _ (mem_getD (by rw [HR.out.2.1]; exact hlt)))
      obtain ⟨⟨x, y⟩, hxy⟩ : ∃ p, L.getD i (0, 0) = p := ⟨_, rfl⟩
      rw [hxy] at k1 k2 hsm hlow hbad
      simp only at k1 k2 hsm hlow hbad
      have c1 := cmp_lt x (-1000) (by omega) (by decide)
      have c2 := cmp_gt x 1000 (by omega) (by decide)
      have c3 := cmp_lt y (-1000) (by omega) (by decide)
      have c4 := cmp_gt y 1000 (by omega) (by decide)
      rw [FI_lim.2] at c1 c3
      rw [FI_lim.1] at c2 c4
      have HL := Lib.hid (And.intro hlow hbad)
      clear hlow hbad hxy
      by_cases e1 : x < -1000
      · rw [decide_eq_true e1] at c1
        clear c2 c3 c4
        exact absurd HW.out (HL.out.2 (by omega))
      · rw [decide_eq_false e1] at c1
        by_cases e2 : 1000 < x
        · rw [decide_eq_true e2] at c2
          clear c3 c4
          exact absurd HW.out (HL.out.2 (by omega))
        · rw [decide_eq_false e2] at c2
          by_cases e3 : y < -1000
          · rw [decide_eq_true e3] at c3
            clear c4
            exact absurd HW.out (HL.out.2 (by omega))
          · rw [decide_eq_false e3] at c3
            by_cases e4 : 1000 < y
            · rw [decide_eq_true e4] at c4
              exact absurd HW.out (HL.out.2 (by omega))
            · rw [decide_eq_false e4] at c4
              have hok : x.natAbs ≤ 1000 ∧ y.natAbs ≤ 1000 := by omega
              have HO := Lib.hid hok
              clear e1 e2 e3 e4 hok hsm
              go_wp2_with fail
              go_roundw
              case rel => exact ⟨i + 1, by go_num, by omega, HL.out.1 HO.out, by first | rfl | trivial⟩
              case measure => simp [intOf]; omega
    · have i1 : ¬ (i : Int) < (n : Int) := by omega
      have hlow : Low L := fun q hq => by
        obtain ⟨j, hj, rfl⟩ := List.getElem_of_mem hq
        have := HQ.out j (by have := HR.out.2.1; omega)
        rwa [List.getD_eq_getElem?_getD, List.getElem?_eq_getElem hj] at this
      clear hlow HQ
      obtain ⟨A9, c9, S9, k1, z1, e2, e3, e4⟩ := HG.out.1.cells hp
      obtain ⟨m9, hm9⟩ : ∃ m9, (ls p).length = m9 := ⟨_, rfl⟩
      rw [hm9] at k1 e2
      have hgl := HG.out.1.lt
      have hm91 : (st p).2 = m9 := by rw [← hm9]; exact HG.out.2.1.1
      by_cases hm0 : m9 = 0
      · subst hm0
        clear e2 e3 e4 hm9 hm91
        go_wp2_with fail
        go_ret3
        exact ⟨rfl, rfl⟩
      · have hm90 : 0 < m9 := by omega
        have hlen : (st p).1.length ≠ n := by
          have hs := HG.out.2.2
          rw [hm91] at hs
          rcases hs with hs | hs
          · exact absurd hs hm0
          · rw [HR.out.2.1] at hs; exact hs
        have hl0 : ((ls p).getD 0 []).length = (st p).1.length := HG.out.2.1.2.2.1 0 (by omega)
        obtain ⟨ad9, ead, hb9, hc9⟩ := e2.2 hm90
        subst ead
        have hS9 : 0 < S9.length := by rw [e3.1, hm9]; exact hm90
        have hc90 := hc9 0 _ (by rw [List.getElem?_map, List.getElem?_eq_getElem hS9]; rfl)
        obtain ⟨q1, q2⟩ := e3.2 0 (by omega)
        rw [List.getD_eq_getElem?_getD, List.getElem?_eq_getElem hS9] at q1 q2
        obtain ⟨⟨A0, n0, c0⟩, hb0⟩ : ∃ b, S9[0] = b := ⟨_, rfl⟩
        simp only [Option.getD_some] at q1 q2
        rw [hb0] at q1 q2 hc90
        simp only at q1 q2
        rw [hl0] at q1
        have k0 : wr.cell? ad9 = some (.slice A0 n0 c0) := by simpa [Addr.add, Sl.val] using hc90
        have m90 : (0 : Int) < (m9 : Int) := by omega
        have m91 : ((m9 : Int) == 0) = false := by simp; omega
        have hne : ((n0 : Int) != (n : Int)) = true := by rw [bne_iff_ne]; omega
        clear e2 e3 e4 hm91 hm90 hl0 hb9 hc9 hS9 hc90 q1 q2 hb0 hlen hm0 hm9
        go_wp2_with fail
        go_ret3
        exact ⟨rfl, rfl⟩

def Linked (st : Nat → Held) (ls : Nat → List (List Pt)) : Prop := ∀ p, p < 8 → Link (st p) (ls p)
theorem linked0 : Linked st0 (fun _ => []) := fun p hp => link0
theorem Linked.upd {st : Nat → Held} {ls : Nat → List (List Pt)} (h : Linked st ls) (p : Nat) {x : Held} {l : List (List Pt)} (hx : Link x l) : Linked (upd st p x) (updL ls p l) := fun q hq => by
  unfold A.upd updL
  by_cases hqp : q = p
  · rw [if_pos hqp, if_pos hqp]; exact hx
  · rw [if_neg hqp, if_neg hqp]; exact h q hq
theorem rhear_any (w : World) (g : Nat) (tries heard gone : Int) (st : Nat → Held) (ls : Nat → List (List Pt)) (p : Int) (f : Bool) (A : Option Addr) (n c : Nat) (L : List Pt) (r : Told) (h : IsRB w g tries heard gone ls) (h16 : tries ≤ 16) (hg : Good tries st) (hk : Linked st ls) (hr : RdP w A L) (hn : L.length = n) (hs : Lim 2433 L)
    (hR : Hears tries heard gone st p f L r) (b1 : 0 ≤ heard) (b2 : heard ≤ 1000000000) (b3 : 0 ≤ gone) (b4 : gone ≤ 1000000000) :
    Calls Try.prog 12 #[.pointer (some ⟨g, 0, none⟩), .int .i64 p, .bool f, .slice A n c] w fun e w' => ∃ A' c' ls', e = .returned (.tuple #[.slice A' r.B.length c', .bool r.T, .int .i64 r.E]) ∧ Bin w' A' r.B ∧ IsRB w' g tries r.heard r.gone ls' ∧ Linked r.st ls' ∧ Frm (fun x => x = g) w w' := by
  rcases hR with ⟨ho, rfl⟩ | ⟨ho, hW, rfl⟩ | ⟨ho, hW, hS, rfl⟩ | ⟨ho, hW, hS, rfl⟩
  · refine (rh_out w _ p f A n c (.inl ho)).mono ?_
    rintro e w' ⟨rfl, rfl⟩
    exact ⟨none, 0, ls, rfl, Bin.nil _ _, h, hk, Frm.refl _ _⟩
  · obtain ⟨q, rfl⟩ := Int.eq_ofNat_of_zero_le (show 0 ≤ p by unfold isOut at ho; omega)
    by_cases hn9 : 16392 < n
    · refine (rh_out w _ (q : Int) f A n c (.inr hn9)).mono ?_
      rintro e w' ⟨rfl, rfl⟩
      exact ⟨none, 0, ls, rfl, Bin.nil _ _, h, hk, Frm.refl _ _⟩
    · refine (rh_arg w g tries heard gone ls q f A n c L (by unfold isOut at ho; omega) hr hn (by omega) hs (fun hl => hW ⟨by omega, hl⟩)).mono ?_
      rintro e w' ⟨rfl, rfl⟩
      exact ⟨none, 0, ls, rfl, Bin.nil _ _, h, hk, Frm.refl _ _⟩
  · obtain ⟨q, rfl⟩ := Int.eq_ofNat_of_zero_le (show 0 ≤ p by unfold isOut at ho; omega)
    rw [Int.toNat_natCast] at hS
    obtain ⟨rfl, hS⟩ := hS
    refine (rh_state w g tries heard gone ls q A n c L (by unfold isOut at ho; omega) hr hn (by have := hW.1; omega) hs h hW.2 st (hk q (by unfold isOut at ho; omega)) hS).mono ?_
    rintro e w' ⟨rfl, rfl⟩
    exact ⟨none, 0, ls, rfl, Bin.nil _ _, h, hk, Frm.refl _ _⟩
  · obtain ⟨q, rfl⟩ := Int.eq_ofNat_of_zero_le (show 0 ≤ p by unfold isOut at ho; omega)
    rw [Int.toNat_natCast] at hS ⊢
    have hq : q < 8 := by unfold isOut at ho; omega
    have hlk := link_next (hk q hq) hW hS
    obtain ⟨⟨X, m⟩, hX⟩ : ∃ X, nextH (st q) f L = X := ⟨_, rfl⟩
    rw [hX] at hlk ⊢
    have hgq := (hg q).1
    refine (rh_go w g tries heard gone ls q f A n c L hq hr hn (by have := hW.1; omega) hs h hW.2 st (hk q hq) hS (by omega) b1 b2 b3 b4 X m hX).mono ?_
    rintro e w' ⟨A', c', rfl, hb, hB, F⟩
    refine ⟨A', c', _, rfl, hb, hB, ?_, F⟩
    show Linked (hearG tries heard gone st q X m).1 (lsG tries ls q X m (nextL (ls q) f L))
    unfold hearG lsG
    split
    · exact hk.upd q link0
    · split
      · exact hk.upd q link0
      · exact hk.upd q hlk
end Go.Proofs.Ytcdjofneijlbgaa.A

/- The document's Hear. -/
import Derived.Test.YtcdjofneijlbgaaCN
namespace Go.Proofs.Ytcdjofneijlbgaa.A
open Go.RowKit Go.Proofs.Ytcdjofneijlbgaa.K Go.Proofs.Ytcdjofneijlbgaa.F Go.Proofs.Ytcdjofneijlbgaa.N
set_option linter.unusedVariables false
set_option linter.unusedSimpArgs false

theorem rh_out (w : World) (q : Option Addr) (p : Int) (f : Bool) (A : Option Addr) (n c : Nat) (hp : isOut p ∨ 16392 < n) : Calls Try.prog 12 #[.pointer q, .int .i64 p, .bool f, .slice A n c] w fun e w' => e = .returned (.tuple #[.slice none 0 0, .bool false, .int .i64 1]) ∧ w' = w := by
  go_enter Try.func12, Try.ntmps12
  by_cases h1 : p < 0
  · clear hp
    go_wp2_with fail
    go_ret3
    exact ⟨rfl, rfl⟩
  · by_cases h2 : 7 < p
    · clear hp
      go_wp2_with fail
      go_ret3
      exact ⟨rfl, rfl⟩
    · have h3 : (16392 : Int) < (n : Int) := by unfold isOut at hp; omega
      clear hp
      go_wp2_with fail
      go_ret3
      exact ⟨rfl, rfl⟩
set_option maxRecDepth 100000 in
set_option maxHeartbeats 4000000 in
theorem rh_arg (w : World) (g : Nat) (tries heard gone : Int) (ls : Nat → List (List Pt)) (p : Nat) (f : Bool) (A : Option Addr) (n c : Nat) (L : List Pt) (hp : p < 8) (hr : RdP w A L) (hn : L.length = n) (hn9 : n ≤ 16392) (hs : Lim 2433 L) (hno : ¬ Low L) :
    Calls Try.prog 12 #[.pointer (some ⟨g, 0, none⟩), .int .i64 (p : Int), .bool f, .slice A n c] w fun e w' => e = .returned (.tuple #[.slice none 0 0, .bool false, .int .i64 1]) ∧ w' = w := by
  have p0 : (0 : Int) ≤ (p : Int) := by omega
  have p1 : ¬ (7 : Int) < (p : Int) := by omega
  have n1 : ¬ (16392 : Int) < (n : Int) := by omega
  have HR := Lib.hid (And.intro hr (And.intro hn hs))
  have HN := Lib.hid hno
  clear hr hn hs hno
  go_enter Try.func12, Try.ntmps12
  go_wp2_with fail
  go_loopw [11] (fun vi wr => ∃ i : Nat, vi = .int .i64 i ∧ i ≤ n ∧ (∀ q, q < i → (L.getD q (0, 0)).1.natAbs ≤ 1000 ∧ (L.getD q (0, 0)).2.natAbs ≤ 1000) ∧ wr = w) (fun vi _ => n - (intOf vi).toNat)
  case atStart => exact ⟨0, rfl, by omega, fun q hq => absurd hq (by omega), rfl⟩
  case round =>
    obtain ⟨i, rfl, hin, hq, rfl⟩ := hrel
    have HQ := Lib.hid hq
    clear hq
    have i0' : (0 : Int) ≤ (i : Int) := Int.natCast_nonneg _
    by_cases hlt : i < n
    · have i1 : (i : Int) < (n : Int) := by omega
      obtain ⟨ad, rfl, -, k1, k2⟩ := HR.out.1 i (by rw [HR.out.2.1]; exact hlt)
      have hsm := HR.out.2.2.at_ i
      have hlow : (L.getD i (0, 0)).1.natAbs ≤ 1000 ∧ (L.getD i (0, 0)).2.natAbs ≤ 1000 → ∀ q, q < i + 1 → (L.getD q (0, 0)).1.natAbs ≤ 1000 ∧ (L.getD q (0, 0)).2.natAbs ≤ 1000 := fun h q hq => by
        rcases Nat.lt_or_ge q i with h1 | h1
        · exact HQ.out q h1
        · have : q = i := by omega
          subst this; exact h
      have hbad : ¬ ((L.getD i (0, 0)).1.natAbs ≤ 1000 ∧ (L.getD i (0, 0)).2.natAbs ≤ 1000) → ¬ Low L := fun h hl => h (hl _ (mem_getD (by rw [HR.out.2.1]; exact hlt)))
      obtain ⟨⟨x, y⟩, hxy⟩ : ∃ p, L.getD i (0, 0) = p := ⟨_, rfl⟩
      rw [hxy] at k1 k2 hsm hlow hbad
      simp only at k1 k2 hsm hlow hbad
      have c1 := cmp_lt x (-1000) (by omega) (by decide)
      have c2 := cmp_gt x 1000 (by omega) (by decide)
      have c3 := cmp_lt y (-1000) (by omega) (by decide)
      have c4 := cmp_gt y 1000 (by omega) (by decide)
      rw [FI_lim.2] at c1 c3
      rw [FI_lim.1] at c2 c4
      have HL := Lib.hid (And.intro hlow hbad)
      clear hlow hbad hxy
      by_cases e1 : x < -1000
      · rw [decide_eq_true e1] at c1
        clear c2 c3 c4
        clear hsm
        go_wp2_with fail
        go_ret3
        exact ⟨rfl, rfl⟩
      · rw [decide_eq_false e1] at c1
        by_cases e2 : 1000 < x
        · rw [decide_eq_true e2] at c2
          clear c3 c4
          clear hsm
          go_wp2_with fail
          go_ret3
          exact ⟨rfl, rfl⟩
        · rw [decide_eq_false e2] at c2
          by_cases e3 : y < -1000
          · rw [decide_eq_true e3] at c3
            clear c4
            clear hsm
            go_wp2_with fail
            go_ret3
            exact ⟨rfl, rfl⟩
          · rw [decide_eq_false e3] at c3
            by_cases e4 : 1000 < y
            · rw [decide_eq_true e4] at c4
              clear hsm
              go_wp2_with fail
              go_ret3
              exact ⟨rfl, rfl⟩
            · rw [decide_eq_false e4] at c4
              have hok : x.natAbs ≤ 1000 ∧ y.natAbs ≤ 1000 := by omega
              have HO := Lib.hid hok
              clear e1 e2 e3 e4 hok hsm
              go_wp2_with fail
              go_roundw
              case rel => exact ⟨i + 1, by go_num, by omega, HL.out.1 HO.out, by first | rfl | trivial⟩
              case measure => simp [intOf]; omega
    · have i1 : ¬ (i : Int) < (n : Int) := by omega
      have hlow : Low L := fun q hq => by
        obtain ⟨j, hj, rfl⟩ := List.getElem_of_mem hq
        have := HQ.out j (by have := HR.out.2.1; omega)
        rwa [List.getD_eq_getElem?_getD, List.getElem?_eq_getElem hj] at this
      exact absurd hlow HN.out

/-- The signals that a box holds then. -/
def lsG (tries : Int) (ls : Nat → List (List Pt)) (p : Nat) (X : List Pt) (m : Nat) (nl : List (List Pt)) : Nat → List (List Pt) :=
  if hearT X = true then updL ls p [] else if tries ≤ (m : Int) then updL ls p [] else updL ls p nl
theorem updL_updL (ls : Nat → List (List Pt)) (p : Nat) (l l' : List (List Pt)) : updL (updL ls p l) p l' = updL ls p l' := by
  funext q
  unfold updL
  by_cases hq : q = p
  · rw [if_pos hq, if_pos hq]
  · rw [if_neg hq, if_neg hq, if_neg hq]
/-- Bytes do not lie in a box. -/
theorem IsRB.nobin {w : World} {g : Nat} {tries heard gone : Int} {ls : Nat → List (List Pt)} (h : IsRB w g tries heard gone ls) {A : Option Addr} {O : List Nat} (hb : Bin w A O) (h0 : 0 < O.length) {ad : Addr} (e : A = some ad) : ¬ ad.block = g := fun eb => by
  obtain ⟨ad', e', hlt, hc⟩ := hb.at_ h0
  rw [e] at e'
  injection e' with e'
  subst e'
  have e0 : ad.add 0 = ad := by simp [Addr.add]
  rw [e0] at hc
  obtain ⟨b, o, t⟩ := ad
  simp only at eb
  subst eb
  obtain ⟨cs, hk, h1, h2, h3, h4, h5⟩ := h
  cases t with
  | some t =>
    unfold World.cell? at hc
    rw [hk] at hc
    simp at hc
  | none =>
    rw [hk.cell] at hc
    have ho : o < 11 := by rw [← h1]; exact (Array.getElem?_eq_some_iff.1 hc).1
    by_cases e9 : o = 0
    · subst e9; rw [h2] at hc; cases hc
    · by_cases e8 : o = 9
      · subst e8; rw [h3] at hc; cases hc
      · by_cases e7 : o = 10
        · subst e7; rw [h4] at hc; cases hc
        · obtain ⟨A2, c2, S2, x1, -⟩ := h5 (o - 1) (by omega)
          rw [show 1 + (o - 1) = o by omega, hc] at x1
          cases x1
def PostR (w : World) (g : Nat) (tries heard gone : Int) (st : Nat → Held) (ls : Nat → List (List Pt)) (p : Nat) (X : List Pt) (m : Nat) (nl : List (List Pt)) (e : Ending) (w' : World) : Prop :=
  ∃ A' c', e = .returned (.tuple #[.slice A' (if hearT X = true then hearB X else []).length c', .bool (hearT X), .int .i64 0]) ∧ Bin w' A' (if hearT X = true then hearB X else []) ∧
      IsRB w' g tries (hearG tries heard gone st p X m).2.1 (hearG tries heard gone st p X m).2.2 (lsG tries ls p X m nl) ∧ Frm (fun x => x = g) w w'
theorem info39 : (Try.prog.info? 39).map (fun i => (i.zero, i.size, i.bytes)) = some (some (.slice none 0 0), 1, 24) := by kernel_rfl
set_option maxRecDepth 100000 in
set_option maxHeartbeats 8000000 in
theorem rh_go (w : World) (g : Nat) (tries heard gone : Int) (ls : Nat → List (List Pt)) (p : Nat) (f : Bool) (A : Option Addr) (n c : Nat) (L : List Pt) (hp : p < 8) (hr : RdP w A L) (hn : L.length = n) (hn9 : n ≤ 16392) (hs : Lim 2433 L) (h : IsRB w g tries heard gone ls) (hW : Low L) (st : Nat → Held) (hl : Link (st p) (ls p)) (hst : ¬ isSt (st p) f L) (hm15 : (st p).2 ≤ 16)
    (h1 : 0 ≤ heard) (h2 : heard ≤ 1000000000) (h3 : 0 ≤ gone) (h4 : gone ≤ 1000000000) (X : List Pt) (m : Nat) (hX : nextH (st p) f L = (X, m)) :
    Calls Try.prog 12 #[.pointer (some ⟨g, 0, none⟩), .int .i64 (p : Int), .bool f, .slice A n c] w (PostR w g tries heard gone st ls p X m (nextL (ls p) f L)) := by
  obtain ⟨j0, hi9, hz0, hz1, hz2⟩ := info_parts info39
  have p0 : (0 : Int) ≤ (p : Int) := by omega
  have p1 : ¬ (7 : Int) < (p : Int) := by omega
  have n1 : ¬ (16392 : Int) < (n : Int) := by omega
  have HR := Lib.hid (And.intro hr (And.intro hn hs))
  have hlk := link_next hl ⟨by omega, hW⟩ hst
  rw [hX] at hlk
  have hXL : X.length = n := by
    have : X = (nextH (st p) f L).1 := by rw [hX]
    rw [this]
    unfold nextH
    split
    · exact hn
    · show (mixL (st p).1 L L.length).length = n
      rw [mixL_len, hn]
  have hm2 : m = (nextH (st p) f L).2 := by rw [hX]
  have hmm : 1 ≤ m ∧ m ≤ 20 := by
    rw [hm2]
    unfold nextH
    split
    · exact ⟨by show 1 ≤ 1; omega, by show 1 ≤ 20; omega⟩
    · exact ⟨by show 1 ≤ (st p).2 + 1; omega, by show (st p).2 + 1 ≤ 20; omega⟩
  have HXL := Lib.hid hXL
  have HM1 := Lib.hid hmm
  have HG := Lib.hid (And.intro h (And.intro hl (And.intro hst (And.intro hlk hW))))
  clear hXL hmm hm2
  clear hr hn hs h hl hst hlk hW hX
  go_enter Try.func12, Try.ntmps12
  go_wp2_with fail
  go_loopw [11] (fun vi wr => ∃ i : Nat, vi = .int .i64 i ∧ i ≤ n ∧ (∀ q, q < i → (L.getD q (0, 0)).1.natAbs ≤ 1000 ∧ (L.getD q (0, 0)).2.natAbs ≤ 1000) ∧ wr = w) (fun vi _ => n - (intOf vi).toNat)
  case atStart => exact ⟨0, rfl, by omega, fun q hq => absurd hq (by omega), rfl⟩
  case round =>
    obtain ⟨i, rfl, hin, hq, rfl⟩ := hrel
    have HQ := Lib.hid hq
    clear hq
    have i0' : (0 : Int) ≤ (i : Int) := Int.natCast_nonneg _
    by_cases hlt : i < n
    · have i1 : (i : Int) < (n : Int) := by omega
      obtain ⟨ad, rfl, -, k1, k2⟩ := HR.out.1 i (by rw [HR.out.2.1]; exact hlt)
      have hsm := HR.out.2.2.at_ i
      have hlow : (L.getD i (0, 0)).1.natAbs ≤ 1000 ∧ (L.getD i (0, 0)).2.natAbs ≤ 1000 → ∀ q, q < i + 1 → (L.getD q (0, 0)).1.natAbs ≤ 1000 ∧ (L.getD q (0, 0)).2.natAbs ≤ 1000 := fun h q hq => by
        rcases Nat.lt_or_ge q i with h1 | h1
        · exact HQ.out q h1
        · have : q = i := by omega
          subst this; exact h
      have hbad : ¬ ((L.getD i (0, 0)).1.natAbs ≤ 1000 ∧ (L.getD i (0, 0)).2.natAbs ≤ 1000) → ¬ Low L := fun h hl => h (hl _ (mem_getD (by rw [HR.out.2.1]; exact hlt)))
      obtain ⟨⟨x, y⟩, hxy⟩ : ∃ p, L.getD i (0, 0) = p := ⟨_, rfl⟩
      rw [hxy] at k1 k2 hsm hlow hbad
      simp only at k1 k2 hsm hlow hbad
      have c1 := cmp_lt x (-1000) (by omega) (by decide)
      have c2 := cmp_gt x 1000 (by omega) (by decide)
      have c3 := cmp_lt y (-1000) (by omega) (by decide)
      have c4 := cmp_gt y 1000 (by omega) (by decide)
      rw [FI_lim.2] at c1 c3
      rw [FI_lim.1] at c2 c4
      have HL := Lib.hid (And.intro hlow hbad)
      clear hlow hbad hxy
      by_cases e1 : x < -1000
      · rw [decide_eq_true e1] at c1
        clear c2 c3 c4
        exact absurd HG.out.2.2.2.2 (HL.out.2 (by omega))
      · rw [decide_eq_false e1] at c1
        by_cases e2 : 1000 < x
        · rw [decide_eq_true e2] at c2
          clear c3 c4
          exact absurd HG.out.2.2.2.2 (HL.out.2 (by omega))
        · rw [decide_eq_false e2] at c2
          by_cases e3 : y < -1000
          · rw [decide_eq_true e3] at c3
            clear c4
            exact absurd HG.out.2.2.2.2 (HL.out.2 (by omega))
          · rw [decide_eq_false e3] at c3
            by_cases e4 : 1000 < y
            · rw [decide_eq_true e4] at c4
              exact absurd HG.out.2.2.2.2 (HL.out.2 (by omega))
            · rw [decide_eq_false e4] at c4
              have hok : x.natAbs ≤ 1000 ∧ y.natAbs ≤ 1000 := by omega
              have HO := Lib.hid hok
              clear e1 e2 e3 e4 hok hsm
              go_wp2_with fail
              go_roundw
              case rel => exact ⟨i + 1, by go_num, by omega, HL.out.1 HO.out, by first | rfl | trivial⟩
              case measure => simp [intOf]; omega
    · have i1 : ¬ (i : Int) < (n : Int) := by omega
      have hlow : Low L := fun q hq => by
        obtain ⟨j, hj, rfl⟩ := List.getElem_of_mem hq
        have := HQ.out j (by have := HR.out.2.1; omega)
        rwa [List.getD_eq_getElem?_getD, List.getElem?_eq_getElem hj] at this
      clear hlow HQ
      obtain ⟨A9, c9, S9, k1, z1, e2, e3, e4⟩ := HG.out.1.cells hp
      obtain ⟨m9, hm9⟩ : ∃ m9, (ls p).length = m9 := ⟨_, rfl⟩
      rw [hm9] at k1 e2
      have hgl := HG.out.1.lt
      cases f with
      | true =>
        have own0 : wr.ownsRow wr.heap.size 39 1 (.slice none 0 0) 0 [] := World.ownsRow_nil _ _ _ _
        have own1 := own0.alloc (.cells #[.slice A n c] 39)
        have hrd := new_rds wr (.slice A n c) 39
        have F1 := (Frm.refl No wr).alloc (.cells #[.slice A n c] 39)
        have hsz : wr.heap.size ≤ (wr.alloc (.cells #[.slice A n c] 39)).heap.size := F1.size
        clear own0 e2 e3 e4
        go_upto_region 15 with (at_builtin; go_must (refine wpList_append_rds _ rfl _ _ 29 rfl wr.heap.size 39 j0 _ 1 24 Try.underlying29 hi9 hz0 hz1 hz2 rfl (by omega) (.slice none 0 0) 0 [] rfl own1 (some ⟨wr.heap.size, 0, none⟩) 1 1 [.slice A n c] rfl hrd (by simp [Value.oneCell']) (by unfold maxLen; omega) (by omega) hsz ?_; intro v3 w3 own3 hg3))
        have F3 := own_grown own1 F1 (Nat.le_refl _) hg3
        have hm : (nextL (ls p) true L).length = m := HG.out.2.2.2.1.1.symm
        have hm1 : m = 0 + 1 := by rw [← hm]; rfl
        have own5 : w3.ownsRow wr.heap.size 39 1 v3 m (([] ++ [⟨A, n, c⟩] : List Sl).map Sl.val) := by rw [hm1]; exact own3
        have hRD : RdLP w3 ([] ++ [⟨A, n, c⟩] : List Sl) (nextL (ls p) true L) := ⟨rfl, fun j hj => by
          have : j = 0 := by have : (nextL (ls p) true L).length = 1 := rfl; omega
          subst this
          exact ⟨HR.out.2.1.symm, RdP.frmN HR.out.1 F3⟩⟩
        have HC := Lib.hid (And.intro own5 (And.intro hRD (And.intro F3 hm)))
        clear own1 hrd F1 hsz hg3 own3 own5 hRD F3 hm hm1 k1 z1 hm9
        obtain ⟨A6, c6, rfl, hc6, hrd6⟩ := own_is HC.out.1
        have hNL := HC.out.2.2.2
        have B3 := HG.out.1.frmN HC.out.2.2.1
        have e4' : ∀ ad, A6 = some ad → 0 < (nextL (ls p) true L).length → ∃ cs, Blk w3 ad.block cs 39 := fun ad e h0 => by subst e; exact (own_blk HC.out.1 rfl).2
        obtain ⟨A7, c7, S7, k3, z3, -, -, -⟩ := B3.cells hp
        have HP := Lib.hid (B3.put hp A6 c6 ([] ++ [⟨A, n, c⟩] : List Sl) (nextL (ls p) true L) (by rw [hNL]; exact hrd6) HC.out.2.1 e4')
        have hg3 := B3.lt
        obtain ⟨r7, hr7⟩ : ∃ r7, (ls p).length = r7 := ⟨_, rfl⟩
        rw [hr7] at k3
        have HE4 := Lib.hid (And.intro e4' (And.intro hrd6 (And.intro B3 hNL)))
        clear e4' hrd6 B3 hNL hr7 hc6
        go_upto_region 16 with fail
        obtain ⟨w4, hw4⟩ : ∃ w4, w3.setCell ⟨g, 1 + p, none⟩ (.slice A6 m c6) = w4 := ⟨_, rfl⟩
        have HQ := HP.out
        rw [HE4.out.2.2.2] at HQ
        have hne3 := HE4.out.2.2.1.ne60
        have HX := Lib.hid (show IsRB w4 g tries heard gone (updL ls p (nextL (ls p) true L)) ∧ Frm (fun x => x = g) wr w4 ∧ Rds w4 1 A6 m ((([] ++ [⟨A, n, c⟩] : List Sl)).map Sl.val) ∧ RdLP w4 ([] ++ [⟨A, n, c⟩] : List Sl) (nextL (ls p) true L) from by
          rw [← hw4]
          refine ⟨HQ.1, (HC.out.2.2.1.mono fun _ h => h.elim).then HQ.2 (fun x hx => .inl hx), HE4.out.2.1.frm HQ.2 (fun ad e h0 => ?_), HC.out.2.1.frm HQ.2 (fun x cs hx => hne3 _ _ 60 (by decide) hx)⟩
          obtain ⟨cs, hc⟩ := HE4.out.1 ad e (by rw [HE4.out.2.2.2]; exact h0)
          exact hne3 _ _ 39 (by decide) hc)
        rw [hw4]
        have hlk := HG.out.2.2.2.1
        have hXl := HXL.out
        have hsum : sumP (nextL (ls p) true L) n = X := by
          have := hlk.2.2.2.2.1 (nextL_ne _ _ _)
          simp only at this
          rw [hXl] at this
          exact this.symm
        have hh := rhear_is w4 A6 m c6 n ([] ++ [⟨A, n, c⟩] : List Sl) (nextL (ls p) true L) HX.out.2.2.1 HX.out.2.2.2 HE4.out.2.2.2 HM1.out.1 HM1.out.2 (fun j hj => by have := hlk.2.2.1 j (by rw [HE4.out.2.2.2]; exact hj); simp only at this; rw [this]; exact hXl) hn9 hlk.2.1
        rw [hsum] at hh
        obtain ⟨TT, hT⟩ : ∃ TT, hearT X = TT := ⟨_, rfl⟩
        obtain ⟨O, hO⟩ : ∃ O, hearB X = O := ⟨_, rfl⟩
        obtain ⟨nO, hnO⟩ : ∃ nO, O.length = nO := ⟨_, rfl⟩
        rw [hT, hO, hnO] at hh
        have HTO := Lib.hid (And.intro hT (And.intro hO hnO))
        clear HQ hw4 hne3 hlk hXl hsum hT hO hnO k3 z3 HP
        go_wp2_with fail
        refine hh.mono ?_
        rintro e w7 ⟨A8, c8, rfl, hb8, F7⟩
        have B7 := HX.out.1.frmN F7
        obtain ⟨A9', c9', S9', k4, z4, -, -, -⟩ := B7.cells hp
        obtain ⟨kt, -, -, -, -⟩ := B7.nums
        have hul : (updL ls p (nextL (ls p) true L) p).length = m := by unfold updL; rw [if_pos rfl]; exact HE4.out.2.2.2
        rw [hul] at k4
        have hg7 := B7.lt
        have HB7 := Lib.hid (And.intro B7 (And.intro hb8 (HX.out.2.1.thenN F7)))
        clear hh B7 hb8 F7 hul
        cases TT with
        | true =>
          have HP2 := Lib.hid (HB7.out.1.put hp none 0 [] [] (Rds.nil _ _ _) ⟨rfl, fun j hj => absurd hj (by simp)⟩ (fun ad e => by cases e))
          go_upto_region 19 with fail
          obtain ⟨w8, hw8⟩ : ∃ w8, w7.setCell ⟨g, 1 + p, none⟩ (.slice none 0 0) = w8 := ⟨_, rfl⟩
          have HQ := HP2.out
          simp only [List.length_nil] at HQ
          rw [hw8] at HQ ⊢
          obtain ⟨-, kh, -, zh, -⟩ := HQ.1.nums
          have hg8 := HQ.1.lt
          have HQ9 := Lib.hid (And.intro HQ (HQ.1.num 9 (.inl rfl) (heard + 1)))
          clear HQ HP2 hw8 k4 z4 kt
          go_wp2_with fail
          go_ret3
          have hfr := HQ9.out.1.2.then HQ9.out.2.2 (fun x hx => .inl hx)
          have hbO : Bin (w8.setCell ⟨g, 9, none⟩ (.int .i64 (heard + 1))) A8 O := Rds.frm HB7.out.2.1 hfr (fun ad e h0 => HB7.out.1.nobin HB7.out.2.1 h0 e)
          refine ⟨A8, c8, by rw [HTO.out.1, if_pos rfl, HTO.out.2.1, HTO.out.2.2]; rfl, by rw [HTO.out.1, if_pos rfl, HTO.out.2.1]; exact hbO, ?_, HB7.out.2.2.then hfr (fun x hx => .inl hx)⟩
          have h1 : hearG tries heard gone st p X m = (upd st p ([], 0), heard + 1, gone) := by unfold hearG; rw [HTO.out.1, if_pos rfl]
          have h2 : lsG tries ls p X m (nextL (ls p) true L) = updL ls p [] := by unfold lsG; rw [HTO.out.1, if_pos rfl]
          rw [h1, h2]
          have := HQ9.out.2.1
          rw [updL_updL] at this
          simpa using this
        | false =>
          by_cases ht9 : tries ≤ (m : Int)
          · have HP2 := Lib.hid (HB7.out.1.put hp none 0 [] [] (Rds.nil _ _ _) ⟨rfl, fun j hj => absurd hj (by simp)⟩ (fun ad e => by cases e))
            go_upto_region 23 with fail
            obtain ⟨w8, hw8⟩ : ∃ w8, w7.setCell ⟨g, 1 + p, none⟩ (.slice none 0 0) = w8 := ⟨_, rfl⟩
            have HQ := HP2.out
            simp only [List.length_nil] at HQ
            rw [hw8] at HQ ⊢
            obtain ⟨-, -, kh, -, zh⟩ := HQ.1.nums
            have hg8 := HQ.1.lt
            have HQ9 := Lib.hid (And.intro HQ (HQ.1.num 10 (.inr rfl) (gone + 1)))
            clear HQ HP2 hw8 k4 z4 kt
            go_wp2_with fail
            go_ret3
            have hfr := HQ9.out.1.2.then HQ9.out.2.2 (fun x hx => .inl hx)
            refine ⟨none, 0, by rw [HTO.out.1, if_neg (by decide)]; rfl, by rw [HTO.out.1, if_neg (by decide)]; exact Bin.nil _ _, ?_, HB7.out.2.2.then hfr (fun x hx => .inl hx)⟩
            have h1 : hearG tries heard gone st p X m = (upd st p ([], 0), heard, gone + 1) := by unfold hearG; rw [HTO.out.1, if_neg (by decide), if_pos (by omega)]
            have h2 : lsG tries ls p X m (nextL (ls p) true L) = updL ls p [] := by unfold lsG; rw [HTO.out.1, if_neg (by decide), if_pos (by omega)]
            rw [h1, h2]
            have := HQ9.out.2.1
            rw [updL_updL] at this
            simpa using this
          · go_wp2_with fail
            go_ret3
            refine ⟨none, 0, by rw [HTO.out.1, if_neg (by decide)]; rfl, by rw [HTO.out.1, if_neg (by decide)]; exact Bin.nil _ _, ?_, HB7.out.2.2⟩
            have h1 : hearG tries heard gone st p X m = (upd st p (X, m), heard, gone) := by unfold hearG; rw [HTO.out.1, if_neg (by decide), if_neg (by omega)]
            have h2 : lsG tries ls p X m (nextL (ls p) true L) = updL ls p (nextL (ls p) true L) := by unfold lsG; rw [HTO.out.1, if_neg (by decide), if_neg (by omega)]
            rw [h1, h2]
            exact HB7.out.1
      | false =>
        have hS2 : (st p).2 ≠ 0 ∧ (st p).1.length = L.length := by
          have hs := HG.out.2.2.1
          unfold isSt at hs
          constructor
          · exact fun e => hs ⟨rfl, .inl e⟩
          · exact Classical.byContradiction fun e => hs ⟨rfl, .inr e⟩
        have hm91 : (st p).2 = m9 := by rw [← hm9]; exact HG.out.2.1.1
        have hm90 : 0 < m9 := by omega
        have hl0 : ((ls p).getD 0 []).length = n := by rw [HG.out.2.1.2.2.1 0 (by omega), hS2.2, HR.out.2.1]
        obtain ⟨ad9, ead, hb9, hc9⟩ := e2.2 hm90
        subst ead
        have hS9 : 0 < S9.length := by rw [e3.1, hm9]; exact hm90
        have hc90 := hc9 0 _ (by rw [List.getElem?_map, List.getElem?_eq_getElem hS9]; rfl)
        obtain ⟨q1, q2⟩ := e3.2 0 (by omega)
        rw [List.getD_eq_getElem?_getD, List.getElem?_eq_getElem hS9] at q1 q2
        obtain ⟨⟨A0, n0, c0⟩, hb0⟩ : ∃ b, S9[0] = b := ⟨_, rfl⟩
        simp only [Option.getD_some] at q1 q2
        rw [hb0] at q1 q2 hc90
        simp only at q1 q2
        rw [hl0] at q1
        have q1' := q1.symm
        clear q1
        subst q1'
        have k0 : wr.cell? ad9 = some (.slice A0 n c0) := by simpa [Addr.add, Sl.val] using hc90
        have m90 : (0 : Int) < (m9 : Int) := by omega
        have m91 : ((m9 : Int) == 0) = false := by simp; omega
        have m92 : m9 ≤ 16 := by omega
        have hval1 : ∀ u ∈ S9.map Sl.val, u.oneCell' = true := fun u hu => by obtain ⟨b, -, rfl⟩ := List.mem_map.1 hu; rfl
        have own0 : wr.ownsRow wr.heap.size 39 1 (.slice none 0 0) 0 [] := World.ownsRow_nil _ _ _ _
        have HE := Lib.hid (And.intro e3 hm9)
        clear e3 e4 hS2 hm91 hm90 hl0 hb9 hc9 hS9 hc90 q2 hb0
        go_upto_region 14 with (at_builtin; go_must (refine wpList_append_rds _ rfl _ _ 29 rfl wr.heap.size 39 j0 _ 1 24 Try.underlying29 hi9 hz0 hz1 hz2 rfl (by omega) (.slice none 0 0) 0 [] rfl own0 (some ad9) m9 c9 (S9.map Sl.val) rfl e2 hval1 (by unfold maxLen; omega) (by omega) (Nat.le_refl _) ?_; intro v2 w2 own2 hg2))
        have F2 := own_grown own0 (Frm.refl No wr) (Nat.le_refl _) hg2
        rw [Nat.zero_add, List.nil_append] at own2
        obtain ⟨A2, c2, rfl, -, -⟩ := own_is own2
        have own1 := own2.alloc (.cells #[.slice A n c] 39)
        have hrd := new_rds w2 (.slice A n c) 39
        have F1 := F2.alloc (.cells #[.slice A n c] 39)
        have hsz : wr.heap.size ≤ (w2.alloc (.cells #[.slice A n c] 39)).heap.size := F1.size
        clear own0 own2 hg2 F2
        go_upto_region 15 with (at_builtin; go_must (refine wpList_append_rds _ rfl _ _ 29 rfl wr.heap.size 39 j0 _ 1 24 Try.underlying29 hi9 hz0 hz1 hz2 rfl (by omega) (.slice A2 m9 c2) m9 (S9.map Sl.val) rfl own1 (some ⟨w2.heap.size, 0, none⟩) 1 1 [.slice A n c] rfl hrd (by simp [Value.oneCell']) (by unfold maxLen; omega) (by omega) hsz ?_; intro v3 w3 own3 hg3))
        have F3 := own_grown own1 F1 (Nat.le_refl _) hg3
        have hm : (nextL (ls p) false L).length = m := HG.out.2.2.2.1.1.symm
        have hm1 : m = m9 + 1 := by rw [← hm, ← HE.out.2]; unfold nextL; simp
        have own5 : w3.ownsRow wr.heap.size 39 1 v3 m ((S9 ++ [⟨A, n, c⟩] : List Sl).map Sl.val) := by rw [hm1, List.map_append]; exact own3
        have hRD : RdLP w3 (S9 ++ [⟨A, n, c⟩] : List Sl) (nextL (ls p) false L) := by
          have e3' := HE.out.1.frm F3 (fun _ _ _ h => h)
          have hn0 : nextL (ls p) false L = ls p ++ [L] := by unfold nextL; rw [if_neg (by decide)]
          rw [hn0]
          refine ⟨by simp [e3'.1], fun j hj => ?_⟩
          rw [List.length_append, List.length_singleton] at hj
          rw [List.getD_eq_getElem?_getD, List.getD_eq_getElem?_getD]
          by_cases hjl : j < (ls p).length
          · rw [List.getElem?_append_left (by rw [e3'.1]; exact hjl), List.getElem?_append_left hjl, ← List.getD_eq_getElem?_getD, ← List.getD_eq_getElem?_getD]
            exact e3'.2 j hjl
          · obtain rfl : j = (ls p).length := by omega
            rw [List.getElem?_append_right (by rw [e3'.1]; exact Nat.le_refl _), List.getElem?_append_right (Nat.le_refl _), e3'.1, Nat.sub_self]
            exact ⟨HR.out.2.1.symm, RdP.frmN HR.out.1 F3⟩
        have HC := Lib.hid (And.intro own5 (And.intro hRD (And.intro F3 hm)))
        clear own1 hrd F1 hsz hg3 own3 own5 hRD F3 hm hm1 k1 z1 k0 e2 hval1
        obtain ⟨A6, c6, rfl, hc6, hrd6⟩ := own_is HC.out.1
        have hNL := HC.out.2.2.2
        have B3 := HG.out.1.frmN HC.out.2.2.1
        have e4' : ∀ ad, A6 = some ad → 0 < (nextL (ls p) false L).length → ∃ cs, Blk w3 ad.block cs 39 := fun ad e h0 => by subst e; exact (own_blk HC.out.1 rfl).2
        obtain ⟨A7, c7, S7, k3, z3, -, -, -⟩ := B3.cells hp
        have HP := Lib.hid (B3.put hp A6 c6 (S9 ++ [⟨A, n, c⟩] : List Sl) (nextL (ls p) false L) (by rw [hNL]; exact hrd6) HC.out.2.1 e4')
        have hg3 := B3.lt
        obtain ⟨r7, hr7⟩ : ∃ r7, (ls p).length = r7 := ⟨_, rfl⟩
        rw [hr7] at k3
        have HE4 := Lib.hid (And.intro e4' (And.intro hrd6 (And.intro B3 hNL)))
        clear e4' hrd6 B3 hNL hr7 hc6
        go_upto_region 16 with fail
        obtain ⟨w4, hw4⟩ : ∃ w4, w3.setCell ⟨g, 1 + p, none⟩ (.slice A6 m c6) = w4 := ⟨_, rfl⟩
        have HQ := HP.out
        rw [HE4.out.2.2.2] at HQ
        have hne3 := HE4.out.2.2.1.ne60
        have HX := Lib.hid (show IsRB w4 g tries heard gone (updL ls p (nextL (ls p) false L)) ∧ Frm (fun x => x = g) wr w4 ∧ Rds w4 1 A6 m (((S9 ++ [⟨A, n, c⟩] : List Sl)).map Sl.val) ∧ RdLP w4 (S9 ++ [⟨A, n, c⟩] : List Sl) (nextL (ls p) false L) from by
          rw [← hw4]
          refine ⟨HQ.1, (HC.out.2.2.1.mono fun _ h => h.elim).then HQ.2 (fun x hx => .inl hx), HE4.out.2.1.frm HQ.2 (fun ad e h0 => ?_), HC.out.2.1.frm HQ.2 (fun x cs hx => hne3 _ _ 60 (by decide) hx)⟩
          obtain ⟨cs, hc⟩ := HE4.out.1 ad e (by rw [HE4.out.2.2.2]; exact h0)
          exact hne3 _ _ 39 (by decide) hc)
        rw [hw4]
        have hlk := HG.out.2.2.2.1
        have hXl := HXL.out
        have hsum : sumP (nextL (ls p) false L) n = X := by
          have := hlk.2.2.2.2.1 (nextL_ne _ _ _)
          simp only at this
          rw [hXl] at this
          exact this.symm
        have hh := rhear_is w4 A6 m c6 n (S9 ++ [⟨A, n, c⟩] : List Sl) (nextL (ls p) false L) HX.out.2.2.1 HX.out.2.2.2 HE4.out.2.2.2 HM1.out.1 HM1.out.2 (fun j hj => by have := hlk.2.2.1 j (by rw [HE4.out.2.2.2]; exact hj); simp only at this; rw [this]; exact hXl) hn9 hlk.2.1
        rw [hsum] at hh
        obtain ⟨TT, hT⟩ : ∃ TT, hearT X = TT := ⟨_, rfl⟩
        obtain ⟨O, hO⟩ : ∃ O, hearB X = O := ⟨_, rfl⟩
        obtain ⟨nO, hnO⟩ : ∃ nO, O.length = nO := ⟨_, rfl⟩
        rw [hT, hO, hnO] at hh
        have HTO := Lib.hid (And.intro hT (And.intro hO hnO))
        clear HQ hw4 hne3 hlk hXl hsum hT hO hnO k3 z3 HP
        go_wp2_with fail
        refine hh.mono ?_
        rintro e w7 ⟨A8, c8, rfl, hb8, F7⟩
        have B7 := HX.out.1.frmN F7
        obtain ⟨A9', c9', S9', k4, z4, -, -, -⟩ := B7.cells hp
        obtain ⟨kt, -, -, -, -⟩ := B7.nums
        have hul : (updL ls p (nextL (ls p) false L) p).length = m := by unfold updL; rw [if_pos rfl]; exact HE4.out.2.2.2
        rw [hul] at k4
        have hg7 := B7.lt
        have HB7 := Lib.hid (And.intro B7 (And.intro hb8 (HX.out.2.1.thenN F7)))
        clear hh B7 hb8 F7 hul
        cases TT with
        | true =>
          have HP2 := Lib.hid (HB7.out.1.put hp none 0 [] [] (Rds.nil _ _ _) ⟨rfl, fun j hj => absurd hj (by simp)⟩ (fun ad e => by cases e))
          go_upto_region 19 with fail
          obtain ⟨w8, hw8⟩ : ∃ w8, w7.setCell ⟨g, 1 + p, none⟩ (.slice none 0 0) = w8 := ⟨_, rfl⟩
          have HQ := HP2.out
          simp only [List.length_nil] at HQ
          rw [hw8] at HQ ⊢
          obtain ⟨-, kh, -, zh, -⟩ := HQ.1.nums
          have hg8 := HQ.1.lt
          have HQ9 := Lib.hid (And.intro HQ (HQ.1.num 9 (.inl rfl) (heard + 1)))
          clear HQ HP2 hw8 k4 z4 kt
          go_wp2_with fail
          go_ret3
          have hfr := HQ9.out.1.2.then HQ9.out.2.2 (fun x hx => .inl hx)
          have hbO : Bin (w8.setCell ⟨g, 9, none⟩ (.int .i64 (heard + 1))) A8 O := Rds.frm HB7.out.2.1 hfr (fun ad e h0 => HB7.out.1.nobin HB7.out.2.1 h0 e)
          refine ⟨A8, c8, by rw [HTO.out.1, if_pos rfl, HTO.out.2.1, HTO.out.2.2]; rfl, by rw [HTO.out.1, if_pos rfl, HTO.out.2.1]; exact hbO, ?_, HB7.out.2.2.then hfr (fun x hx => .inl hx)⟩
          have h1 : hearG tries heard gone st p X m = (upd st p ([], 0), heard + 1, gone) := by unfold hearG; rw [HTO.out.1, if_pos rfl]
          have h2 : lsG tries ls p X m (nextL (ls p) false L) = updL ls p [] := by unfold lsG; rw [HTO.out.1, if_pos rfl]
          rw [h1, h2]
          have := HQ9.out.2.1
          rw [updL_updL] at this
          simpa using this
        | false =>
          by_cases ht9 : tries ≤ (m : Int)
          · have HP2 := Lib.hid (HB7.out.1.put hp none 0 [] [] (Rds.nil _ _ _) ⟨rfl, fun j hj => absurd hj (by simp)⟩ (fun ad e => by cases e))
            go_upto_region 23 with fail
            obtain ⟨w8, hw8⟩ : ∃ w8, w7.setCell ⟨g, 1 + p, none⟩ (.slice none 0 0) = w8 := ⟨_, rfl⟩
            have HQ := HP2.out
            simp only [List.length_nil] at HQ
            rw [hw8] at HQ ⊢
            obtain ⟨-, -, kh, -, zh⟩ := HQ.1.nums
            have hg8 := HQ.1.lt
            have HQ9 := Lib.hid (And.intro HQ (HQ.1.num 10 (.inr rfl) (gone + 1)))
            clear HQ HP2 hw8 k4 z4 kt
            go_wp2_with fail
            go_ret3
            have hfr := HQ9.out.1.2.then HQ9.out.2.2 (fun x hx => .inl hx)
            refine ⟨none, 0, by rw [HTO.out.1, if_neg (by decide)]; rfl, by rw [HTO.out.1, if_neg (by decide)]; exact Bin.nil _ _, ?_, HB7.out.2.2.then hfr (fun x hx => .inl hx)⟩
            have h1 : hearG tries heard gone st p X m = (upd st p ([], 0), heard, gone + 1) := by unfold hearG; rw [HTO.out.1, if_neg (by decide), if_pos (by omega)]
            have h2 : lsG tries ls p X m (nextL (ls p) false L) = updL ls p [] := by unfold lsG; rw [HTO.out.1, if_neg (by decide), if_pos (by omega)]
            rw [h1, h2]
            have := HQ9.out.2.1
            rw [updL_updL] at this
            simpa using this
          · go_wp2_with fail
            go_ret3
            refine ⟨none, 0, by rw [HTO.out.1, if_neg (by decide)]; rfl, by rw [HTO.out.1, if_neg (by decide)]; exact Bin.nil _ _, ?_, HB7.out.2.2⟩
            have h1 : hearG tries heard gone st p X m = (upd st p (X, m), heard, gone) := by unfold hearG; rw [HTO.out.1, if_neg (by decide), if_neg (by omega)]
            have h2 : lsG tries ls p X m (nextL (ls p) false L) = updL ls p (nextL (ls p) false L) := by unfold lsG; rw [HTO.out.1, if_neg (by decide), if_neg (by omega)]
            rw [h1, h2]
            exact HB7.out.1
end Go.Proofs.Ytcdjofneijlbgaa.A

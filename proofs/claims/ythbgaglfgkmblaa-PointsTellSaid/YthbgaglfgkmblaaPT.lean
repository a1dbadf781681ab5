/- PointsTell's walk. -/
import Derived.Test.YthbgaglfgkmblaaRB
namespace Go.Proofs.Ythbgaglfgkmblaa.A
open Go.RowKit Go.ChangeShapes Go.WideShapes Go.Proofs.Ythbgaglfgkmblaa.K Go.Proofs.Ythbgaglfgkmblaa.F Go.Proofs.Ythbgaglfgkmblaa.N
set_option linter.unusedVariables false
set_option linter.unusedSimpArgs false

theorem eq_self (x : Int) (h : x.natAbs < 2 ^ 53) : (FloatKind.f64.format.order (FI x) (FI x) == some .eq) = true := by
  rw [cmp_eq _ _ h h]; simp
theorem RowP.frmN {w w' : World} {B : Nat} {v : Value} {L : List Pt} (h : RowP w B v L) (f : Frm No w w') : RowP w' B v L := own_frm h f (fun _ _ _ h => h)
theorem rowP_push' {w w5 W w3 : World} {gg cap : Nat} {p : Pt} {l : List Pt} {vo : Value} {o : Obj} (hR : RowP W w5.heap.size vo l) (hF : Frm No w W) (hG : Frm No w5 W) (hB : w.heap.size ≤ w5.heap.size)
    (hown : w3.ownsRow w5.heap.size 32 2 (.slice (some ⟨gg, 0, none⟩) (l.length + 1) cap) (l.length + 1) (l.flatMap px ++ px p)) (hg : (W.alloc o).grownBy w3 vo.ownBlock) :
    RowP w3 w5.heap.size (.slice (some ⟨gg, 0, none⟩) (l.length + 1) cap) (l ++ [p]) ∧ Frm No w w3 ∧ Frm No w5 w3 := by
  have hR' : (W.alloc o).ownsRow w5.heap.size 32 2 vo l.length (l.flatMap px) := World.ownsRow.alloc hR o
  refine ⟨?_, (hF.alloc o).grown hg (fun q e => .inr (Nat.le_trans hB (own_blk hR' e).1)), (hG.alloc o).grown hg (fun q e => .inr (own_blk hR' e).1)⟩
  unfold RowP
  rw [List.flatMap_append, List.length_append, List.length_singleton]
  simpa using hown

set_option maxRecDepth 100000 in
set_option maxHeartbeats 8000000 in
theorem tell_core (A B : Option Addr) (n m c d : Nat) (zs zp : List Int) (k : Int) (w : World) (hn : n ≤ 1000) (hm : m ≤ 1000) (hA : Ints w .u8 A n zs) (hB : Ints w .i8 B m zp) :
    Calls Try.prog 3 #[.slice A n c, .int .i64 k, .slice B m d] w fun e w' => e = .returned (.bool true) ∧ Frm No w w' := by
  obtain ⟨i0, hi, hz0, hz1, hz2⟩ := info_parts info32
  have heq := eq_fl'
  have hn' : ¬ (1000 : Int) < (n : Int) := by omega
  have hm' : ¬ (1000 : Int) < (m : Int) := by omega
  have h4 := ofL_four (zs.map Int.toNat)
  have hlen : (ofL (zs.map Int.toNat)).length = 4 * n := by rw [ofL_len, List.length_map, hA.1]
  obtain ⟨L, hL⟩ : ∃ L, ofL (zs.map Int.toNat) = L := ⟨_, rfl⟩
  rw [hL] at h4 hlen
  obtain ⟨T, hT⟩ : ∃ T, L.map (turnp (qn k)) = T := ⟨_, rfl⟩
  have lt : T.length = 4 * n := by rw [← hT, List.length_map, hlen]
  have hTat : ∀ i, i < L.length → T.getD i (0, 0) = turnp (qn k) (L.getD i (0, 0)) := fun i hi => by
    rw [← hT, List.getD_eq_getElem?_getD, List.getD_eq_getElem?_getD, List.getElem?_map, List.getElem?_eq_getElem hi]; rfl
  have lowP := madeL_low hB.2.2.1 (m / 2)
  have lenP := madeL_len zp (m / 2)
  obtain ⟨P, hP⟩ : ∃ P, madeL zp (m / 2) = P := ⟨_, rfl⟩
  rw [hP] at lowP lenP
  obtain ⟨K, hK⟩ : ∃ K, m / 2 = K := ⟨_, rfl⟩
  rw [hK] at lenP
  have hK5 : K ≤ 500 := by omega
  obtain ⟨N4, hN4⟩ : ∃ N4, 4 * n = N4 := ⟨_, rfl⟩
  rw [hN4] at hlen lt
  have hN5 : N4 ≤ 4000 := by omega
  have O1 := Lib.hid hL
  have O2 := Lib.hid hT
  have O3 := Lib.hid hP
  have Q0 := Lib.hid h4
  have LL := Lib.hid hlen
  have LT := Lib.hid lt
  have TA := Lib.hid hTat
  have LP := Lib.hid lowP
  have NP := Lib.hid lenP
  have eN : ((N4 : Int) != (N4 : Int)) = false := bne_self_eq_false _
  clear hL hT hP h4 hlen lt hTat lowP lenP hN4 hK
  go_enter Try.func3, Try.ntmps3
  go_wp2_with fail
  refine (of_ok _ A n c zs hA (by omega)).mono ?_
  rintro e w1 ⟨v1, rfl, r1, f1⟩
  rw [O1.out] at r1
  obtain ⟨A1, c1, rfl, d1⟩ := rdC_of r1
  rw [LL.out]
  have IA := Ints.frmN hA f1
  have IB := Ints.frmN hB f1
  clear r1 hA hB
  go_wp2_with fail
  refine (rof_ok _ A n c zs IA (by omega)).mono ?_
  rintro e w2 ⟨v2, rfl, r2, f2⟩
  rw [O1.out] at r2
  obtain ⟨A2, c2, rfl, d2⟩ := rdP_of r2
  rw [LL.out]
  have F2 := f1.thenN f2
  have IB := Ints.frmN IB f2
  have d1 := d1.frmN f2
  clear r2 f1 f2 IA
  go_wp2_with fail
  refine (turn_ok _ A1 N4 c1 L k LL.out (by omega) d1 Q0.out).mono ?_
  rintro e w3 ⟨v3, rfl, r3, f3⟩
  rw [O2.out] at r3
  obtain ⟨A3, c3, rfl, d3⟩ := rdC_of r3
  rw [LT.out]
  have F3 := F2.thenN f3
  have IB := Ints.frmN IB f3
  have d1 := d1.frmN f3
  have d2 := d2.frmN f3
  clear r3 F2 f3
  go_wp2_with fail
  go_loopw [10] (fun vi wr => ∃ i : Nat, vi = .int .i64 i ∧ i ≤ N4 ∧ Frm No w wr ∧ Frm No w3 wr) (fun vi _ => N4 - (intOf vi).toNat)
  case atStart => exact ⟨0, rfl, by omega, F3, Frm.refl _ _⟩
  case round =>
    obtain ⟨i, rfl, hin, F, G⟩ := hrel
    have i0' : (0 : Int) ≤ (i : Int) := Int.natCast_nonneg _
    by_cases hlt : i < N4
    · have i1 : (i : Int) < (N4 : Int) := by omega
      obtain ⟨ad1, rfl, -, k1⟩ := (d1.frmN G) i (by rw [LL.out]; exact hlt)
      obtain ⟨ad2, rfl, -, k2, k3⟩ := (d2.frmN G) i (by rw [LL.out]; exact hlt)
      obtain ⟨ad3, rfl, -, k4⟩ := (d3.frmN G) i (by rw [LT.out]; exact hlt)
      rw [TA.out i (by rw [LL.out]; exact hlt)] at k4
      have hp4 := Q0.out _ (mem_getD (L := L) (i := i) (by rw [LL.out]; exact hlt))
      obtain ⟨⟨x, y⟩, hp⟩ : ∃ p, L.getD i (0, 0) = p := ⟨_, rfl⟩
      rw [hp] at k1 k2 k3 k4 hp4
      have ht := fun w => rturn_is (x, y) k w hp4
      have hq4 := turn_four (qn k) hp4
      obtain ⟨⟨x2, y2⟩, hp2⟩ : ∃ p, turnp (qn k) (x, y) = p := ⟨_, rfl⟩
      rw [hp2] at k4 ht hq4
      simp only [cx] at k1 k2 k3 k4 ht
      have s1 := hp4.sml
      have s2 := hq4.sml
      simp only at s1 s2
      have q1 := eq_self x (by omega)
      have q2 := eq_self y (by omega)
      have q3 := eq_self x2 (by omega)
      have q4 := eq_self y2 (by omega)
      have F := F.drew
      have G := G.drew
      clear hp hp2 s1 s2 hp4 hq4
      go_wp2_with fail
      go_region_held3 (fun w' => w'.cell? (ad1.add i) = some (.complex .f64 (FI x) (FI y)) ∧ w'.cell? (ad2.add (i * 2)) = some (.float .f64 (FI x)) ∧ w'.cell? ⟨(ad2.add (i * 2)).block, (ad2.add (i * 2)).off + 1, none⟩ = some (.float .f64 (FI y)) ∧ w'.cell? (ad3.add i) = some (.complex .f64 (FI x2) (FI y2)))
        (first | exact ⟨k1, k2, k3, k4⟩)
        (first
          | (go_at_call 11; refine (as_is _ _ _).mono ?_; rintro e w8 ⟨rfl, f8⟩; have F := Frm.thenN F f8; have G := Frm.thenN G f8; have k1 := cell_keep' f8 (by exact k1); have k2 := cell_keep' f8 (by exact k2); have k3 := cell_keep' f8 (by exact k3); have k4 := cell_keep' f8 (by exact k4))
          | (go_at_call 12; refine (ht _).mono ?_; rintro e w8 ⟨rfl, f8⟩; have F := Frm.thenN F f8; have G := Frm.thenN G f8; have k1 := cell_keep' f8 (by exact k1); have k2 := cell_keep' f8 (by exact k2); have k3 := cell_keep' f8 (by exact k3); have k4 := cell_keep' f8 (by exact k4)))
      go_wp2_with fail
      go_roundw
      case rel => exact ⟨i + 1, by go_num, by omega, F, G⟩
      case measure => simp [intOf]; omega
    · have i1 : ¬ (i : Int) < (N4 : Int) := by omega
      have IB := Ints.frmN IB G
      clear d1 d2 d3 G F3
      obtain ⟨w0, rfl⟩ : ∃ w0, w0 = wr := ⟨_, rfl⟩
      go_wp2_with fail
      refine (made_ok _ B m d zp IB (by omega)).mono ?_
      rintro e w5 ⟨v5, rfl, r5, f5⟩
      rw [O3.out] at r5
      obtain ⟨A5, c5, rfl, d5⟩ := rdC_of r5
      rw [NP.out]
      have F5 := F.thenN f5
      clear r5 F f5 IB
      go_wp2_with fail
      go_loopw [12, 13] (fun vq vi wr => ∃ i : Nat, vi = .int .i64 i ∧ i ≤ K ∧ RowP wr w5.heap.size vq (P.take i) ∧ Frm No w wr ∧ Frm No w5 wr) (fun _ vi _ => K - (intOf vi).toNat)
      case atStart => exact ⟨0, rfl, by omega, World.ownsRow_nil _ _ _ _, F5, Frm.refl _ _⟩
      case round =>
        obtain ⟨i, rfl, hin, hR, F, G⟩ := hrel
        have i0' : (0 : Int) ≤ (i : Int) := Int.natCast_nonneg _
        by_cases hlt : i < K
        · have i1 : (i : Int) < (K : Int) := by omega
          obtain ⟨ad, rfl, -, k1⟩ := (d5.frmN G) i (by rw [NP.out]; exact hlt)
          have hsm := LP.out _ (mem_getD (L := P) (i := i) (by rw [NP.out]; exact hlt))
          have htk : P.take (i + 1) = P.take i ++ [P.getD i (0, 0)] := by
            rw [List.take_succ_eq_append_getElem (by rw [NP.out]; exact hlt), List.getD_eq_getElem?_getD, List.getElem?_eq_getElem (by rw [NP.out]; exact hlt)]; rfl
          have hgd : (P.take (i + 1)).getD i (0, 0) = P.getD i (0, 0) := by
            rw [List.getD_eq_getElem?_getD, List.getD_eq_getElem?_getD, List.getElem?_take]; simp
          have hl1 : (P.take (i + 1)).length = i + 1 := by rw [List.length_take, NP.out]; omega
          have hl0 : (P.take i).length ≤ 500 := by rw [List.length_take]; omega
          obtain ⟨⟨x, y⟩, hp⟩ : ∃ p, P.getD i (0, 0) = p := ⟨_, rfl⟩
          rw [hp] at k1 hsm htk hgd
          simp only [cx] at k1
          simp only at hsm
          have SZ := Lib.hid (And.intro (show x.natAbs < 2 ^ 53 by omega) (show y.natAbs < 2 ^ 53 by omega))
          obtain ⟨Q1, hQ1⟩ : ∃ Q1, P.take (i + 1) = Q1 := ⟨_, rfl⟩
          have HQ1 := Lib.hid hQ1
          rw [hQ1] at htk hgd hl1
          obtain ⟨R0, hR0e⟩ : ∃ R0, P.take i = R0 := ⟨_, rfl⟩
          rw [hR0e] at htk hR hl0
          have HTK := Lib.hid htk
          have HGD := Lib.hid hgd
          have HL1 := Lib.hid hl1
          clear hp hQ1 hR0e htk hgd hl1
          have hR0 := hR
          unfold RowP at hR0
          have hw5 := F5.size
          have hsz := G.size
          go_wp2_with (first
            | (go_at_call 11; refine (as_is _ _ _).mono ?_; rintro e w8 ⟨rfl, f8⟩; have hR8 := RowP.frmN hR f8; have hR80 := hR8; unfold RowP at hR80; have F8 := F.thenN f8; have G8 := G.thenN f8; have hsz8 := G8.size)
            | (at_builtin; go_must (refine wpList_append_lies _ rfl _ _ 27 rfl w5.heap.size 32 i0 _ 2 16 Try.underlying27 hi hz0 hz1 hz2 zero_cells (by omega) _ R0.length (R0.flatMap px) rfl (hR80.alloc _) ⟨w8.heap.size, 0, none⟩ 1 1 [.float .f64 (FI x), .float .f64 (FI y)] rfl rfl (World.news_of_block (cs := #[.float .f64 (FI x), .float .f64 (FI y)]) (t := 32) (fr := (0, 0)) (heap_alloc_new w8 _)) (by simp [Value.oneCell']) (by omega) (by unfold maxLen; omega) (by omega) (by simp; omega) (w8.heap.size + 1) (by simp) ?_; intro gg cap w3' hown3 hgrow3 hat3 hlt3; obtain ⟨r1, F9, G9⟩ := rowP_push' (p := (x, y)) hR8 F8 G8 hw5 hown3 hgrow3)))
          rw [← HTK.out] at r1
          obtain ⟨adq, hadq⟩ : ∃ ad : Addr, ad = ⟨gg, 0, none⟩ := ⟨_, rfl⟩
          have hlq : R0.length + 1 = i + 1 := by
            have h1 := HL1.out
            rw [HTK.out, List.length_append, List.length_singleton] at h1
            exact h1
          rw [hlq] at r1
          rw [hlq, ← hadq]
          rw [← hadq] at r1
          have rd := rdP_of r1
          obtain ⟨Aq, cq, hq, dq⟩ := rd
          simp only [Value.slice.injEq] at hq
          obtain ⟨rfl, -, rfl⟩ := hq
          obtain ⟨adq', e0, -, b1, b2⟩ := dq i (by rw [HL1.out]; omega)
          injection e0 with e0
          subst e0
          rw [HGD.out] at b1 b2
          simp only at b1 b2
          have k1 : w3'.cell? (ad.add i) = some (.complex .f64 (FI x) (FI y)) := by
            obtain ⟨adk, ek, -, kk⟩ := (d5.frmN G9) i (by rw [NP.out]; exact hlt)
            injection ek with ek
            subst ek
            have hgP : P.getD i (0, 0) = (x, y) := by
              have := HGD.out
              rw [← HQ1.out, List.getD_eq_getElem?_getD, List.getElem?_take] at this
              rw [List.getD_eq_getElem?_getD]
              simpa using this
            rw [hgP] at kk
            exact kk
          have n1 := fun w => near_is x y w SZ.out.1 SZ.out.2
          have q1 := eq_self (sg x) (by rw [sg_small]; decide)
          have q2 := eq_self (sg y) (by rw [sg_small]; decide)
          have F := F9.drew
          have G := G9.drew
          have j1 : (i : Int) < (i : Int) + 1 := by omega
          have R1 := Lib.hid r1
          have HH := Frm.drew (Frm.refl No w3')
          clear hown3 hgrow3 hat3 hlt3 r1 hR hR0 hR8 hR80 hlq dq hadq
          go_wp2_with fail
          go_region_held3 (fun w' => w'.cell? (ad.add i) = some (.complex .f64 (FI x) (FI y)) ∧ w'.cell? (adq.add (i * 2)) = some (.float .f64 (FI x)) ∧ w'.cell? ⟨(adq.add (i * 2)).block, (adq.add (i * 2)).off + 1, none⟩ = some (.float .f64 (FI y)))
            (first | exact ⟨k1, b1, b2⟩)
            (first
              | (go_at_call 14; refine (n1 _).mono ?_; rintro e w8 ⟨rfl, rfl⟩)
              | (go_at_call 11; refine (as_is _ _ _).mono ?_; rintro e w8 ⟨rfl, f8⟩; have F := Frm.thenN F f8; have G := Frm.thenN G f8; have HH := Frm.thenN HH f8; have k1 := cell_keep' f8 (by exact k1); have b1 := cell_keep' f8 (by exact b1); have b2 := cell_keep' f8 (by exact b2))
              | (go_at_call 15; refine (rnear_is _ _ _ SZ.out.1 SZ.out.2).mono ?_; rintro e w8 ⟨rfl, f8⟩; have F := Frm.thenN F f8; have G := Frm.thenN G f8; have HH := Frm.thenN HH f8; have k1 := cell_keep' f8 (by exact k1); have b1 := cell_keep' f8 (by exact b1); have b2 := cell_keep' f8 (by exact b2)))
          go_wp2_with fail
          go_roundw
          case rel => exact ⟨i + 1, by go_num, by omega, by rw [HQ1.out]; exact RowP.frmN R1.out HH, F, G⟩
          case measure => simp [intOf]; omega
        · have i1 : ¬ (i : Int) < (K : Int) := by omega
          rw [List.take_of_length_le (by rw [NP.out]; omega)] at hR
          obtain ⟨Aq, cq, rfl, dq⟩ := rdP_of hR
          rw [NP.out]
          have d5 := d5.frmN G
          have hsm := low_sml LP.out
          clear hR G F5
          obtain ⟨w0, rfl⟩ : ∃ w0, w0 = wr := ⟨_, rfl⟩
          go_wp2_with fail
          refine (back_ok _ A5 K c5 P NP.out (by omega) d5 hsm).mono ?_
          rintro e w6 ⟨v6, rfl, r6, f6⟩
          obtain ⟨A6, c6, rfl, d6⟩ := rdB_of r6
          obtain ⟨E0, hE0⟩ : ∃ E0 : Int, (if okB P = true then (0 : Int) else 3) = E0 := ⟨_, rfl⟩
          rw [hE0]
          have HE0 := Lib.hid hE0
          clear hE0
          have F6 := F.thenN f6
          have dq := dq.frmN f6
          clear F r6 f6 d5
          go_wp2_with fail
          refine (rback_ok _ Aq K cq P NP.out (by omega) dq hsm).mono ?_
          rintro e w7 ⟨v7, rfl, r7, f7⟩
          obtain ⟨A7, c7, rfl, d7⟩ := rdB_of r7
          have F7 := F6.thenN f7
          have d6 := d6.frmN f7
          obtain ⟨m7, hm7⟩ : ∃ m7, (outB P).length = m7 := ⟨_, rfl⟩
          rw [hm7]
          clear F6 r7 f7 dq
          obtain ⟨E, hE⟩ : ∃ E, okB P = E := ⟨_, rfl⟩
          rw [hE]
          have h0 := HE0.out
          rw [hE] at h0
          cases E with
          | true =>
            rw [if_pos rfl] at h0
            subst h0
            go_wp2_with fail
            refine (alive_yes _).mono ?_
            rintro e w8 ⟨rfl, f8⟩
            have F8 := F7.thenN f8
            have t1 := (d6.frmN f8).str (c := c6) hm7
            have t2 := (d7.frmN f8).str (c := c7) hm7
            go_wp2_with fail
            go_ret
            exact ⟨rfl, F8⟩
          | false =>
            rw [if_neg (by decide)] at h0
            subst h0
            go_wp2_with fail
            refine (alive_yes _).mono ?_
            rintro e w8 ⟨rfl, f8⟩
            have F8 := F7.thenN f8
            have t1 := (d6.frmN f8).str (c := c6) hm7
            have t2 := (d7.frmN f8).str (c := c7) hm7
            go_wp2_with fail
            go_ret
            exact ⟨rfl, F8⟩

set_option maxRecDepth 100000 in
set_option maxHeartbeats 4000000 in
theorem tell_walk (A : Option Addr) (n c : Nat) (zs : List Int) (k : Int) (B : Option Addr) (m d : Nat) (zp : List Int) (w : World) (hA : Ints w .u8 A n zs) (_ : (Lit.int .i64 k).wf = true) (hB : Ints w .i8 B m zp) :
    Calls Try.prog 3 #[.slice A n c, .int .i64 k, .slice B m d] w fun e w' => e = .returned (.bool true) ∧ Frm No w w' := by
  have hn9 : n ≤ 9223372036854775807 := hA.2.1
  have hm9 : m ≤ 9223372036854775807 := hB.2.1
  by_cases hn : n ≤ 1000
  · by_cases hm : m ≤ 1000
    · exact tell_core A B n m c d zs zp k w hn hm hA hB
    · have hn' : ¬ (1000 : Int) < (n : Int) := by omega
      have hm' : (1000 : Int) < (m : Int) := by omega
      clear hA hB
      go_enter Try.func3, Try.ntmps3
      go_wp2_with fail
      refine (alive_yes _).mono ?_
      rintro e w1 ⟨rfl, f1⟩
      go_wp2_with fail
      go_ret
      exact ⟨rfl, f1⟩
  · have hn' : (1000 : Int) < (n : Int) := by omega
    clear hA hB
    go_enter Try.func3, Try.ntmps3
    go_wp2_with fail
    refine (alive_yes _).mono ?_
    rintro e w1 ⟨rfl, f1⟩
    go_wp2_with fail
    go_ret
    exact ⟨rfl, f1⟩
end Go.Proofs.Ythbgaglfgkmblaa.A

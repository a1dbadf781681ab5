/- HarqAdds' walk. -/
import Derived.Test.YtcdjofneijlbgaaCW
namespace Go.Proofs.Ytcdjofneijlbgaa.A
open Go.RowKit Go.Proofs.Ytcdjofneijlbgaa.K Go.Proofs.Ytcdjofneijlbgaa.F Go.Proofs.Ytcdjofneijlbgaa.N
set_option linter.unusedVariables false
set_option linter.unusedSimpArgs false

set_option maxRecDepth 100000 in
set_option maxHeartbeats 16000000 in
theorem adds_walk (A : Option Addr) (n c : Nat) (bs : List Nat) (A2 : Option Addr) (n2 c2 : Nat) (NS : List NB) (w : World) (hI : Bin w A bs ∧ bs.length = n ∧ (∀ c ∈ bs, c < 256) ∧ n ≤ 9223372036854775807) (hN : IsNs w A2 n2 NS) :
    Calls Try.prog 5 #[.slice A n c, .slice A2 n2 c2] w fun e w' => e = .returned (.bool true) ∧ Frm No w w' := by
  obtain ⟨hbi, hlen, h256, h63⟩ := hI
  have hn63 := hN.2.1
  go_enter Try.func5, Try.ntmps5
  go_wp2_with fail
  refine (new_ok w 16 (by decide) (by decide)).mono ?_
  rintro e w1 ⟨rfl, B1, F1⟩
  obtain ⟨g, hg⟩ : ∃ g, w.heap.size = g := ⟨_, rfl⟩
  rw [hg] at B1
  rw [hg]
  have hgl : w.heap.size ≤ g := by omega
  have H1 := Lib.hid (And.intro B1 F1)
  clear B1 F1 hg
  by_cases hgd : (n : Int) ≤ 100 ∧ 1 ≤ (n2 : Int) ∧ (n2 : Int) ≤ 16
  · obtain ⟨g1, g2, g3⟩ := hgd
    obtain ⟨K, hK⟩ : ∃ K, (sgl bs).length = K := ⟨_, rfl⟩
    have hK2 : K = 4 * n + 8 := by rw [← hK, sgl_len, hlen]; omega
    have hsg := signal_is w1 A n c bs (hbi.frmN H1.out.2) hlen h256 h63
    rw [show sgE n = 0 from if_neg (by omega), if_neg (by omega)] at hsg
    obtain ⟨S, hS⟩ : ∃ S, sgl bs = S := ⟨_, rfl⟩
    rw [hS] at hsg hK
    have HS := Lib.hid (And.intro hS (And.intro hK (And.intro hK2 (And.intro hbi (And.intro hlen (And.intro h256 hN))))))
    have hKn : 4 * (n : Int) + 8 = (K : Int) := by omega
    have hK9 : K ≤ 408 := by omega
    clear hbi hlen h256 hK hS hN hK2
    go_wp2_with fail
    refine hsg.mono ?_
    rintro e w2 ⟨v2, rfl, R2, f2⟩
    obtain ⟨A3, c3, rfl, rd2⟩ := rdC_of R2
    rw [HS.out.2.1]
    have H2 := Lib.hid (And.intro (H1.out.1.frmN f2) (And.intro (H1.out.2.thenN f2) rd2))
    clear hsg R2 f2 rd2
    obtain ⟨i0, hi, hz0, hz1, hz2⟩ := info_parts info3
    have hmk : ∀ w', (Instr.makeSlice 64 (.int .i64 (K : Int)) (.int .i64 (K : Int))).run Try.prog w' = .ok (.slice (some ⟨w'.heap.size, 0, none⟩) K K) (w'.alloc (.cells (Array.replicate K (Value.int .i64 0)) 3)) := fun w' => by
      have := run_make (P := Try.prog) w' 64 3 i0 _ Try.underlying64 hi hz0 .i64 .i64 (K : Int) (K : Int) (by omega) (by omega) (by rw [hz2]; omega) (by omega)
      rw [hz1, Int.toNat_natCast, made_zero, List.map_replicate, List.toArray_replicate] at this
      exact this
    go_upto_region 7 with fail
    go_cut [9, 10] (fun a b wx => ∃ ga gb : Nat, a = .slice (some ⟨ga, 0, none⟩) K K ∧ b = .slice (some ⟨gb, 0, none⟩) K K ∧ Two w wx g ga gb A3 S (List.replicate K 0) (List.replicate K 0))
    case first =>
      go_region
      all_goals (go_wp2_with fail)
      all_goals (go_meet)
      · exact ⟨_, _, rfl, rfl, Two.new H2.out.1 H2.out.2.2 H2.out.2.1⟩
      · exact ⟨_, _, rfl, rfl, (Two.new H2.out.1 H2.out.2.2 H2.out.2.1).swap⟩
    case rest =>
      obtain ⟨ga, gb, rfl, rfl, T0⟩ := hcut
      rw [sumL_zero Prod.fst rfl (nsOf NS) K] at T0
      obtain ⟨ws, hws⟩ : ∃ ws : List Int, sumL Prod.fst (nsOf NS) K 0 0 = ws := ⟨_, rfl⟩
      have e2 := sumL_zero Prod.snd rfl (nsOf NS) K
      rw [sumL_zero Prod.fst rfl (nsOf NS) K] at e2
      have T1 : Two w wc g ga gb A3 S (sumL Prod.fst (nsOf NS) K 0 0) (sumL Prod.snd (nsOf NS) K 0 0) := by
        have := T0
        rw [← e2]; exact this
      have HT := Lib.hid T1
      clear T0 T1 e2 hws hmk hi hz0 hz1 hz2 H2 H1
      go_upto_block 0 with fail
      refine sums_walk (HS := HS.out.2.2.2.2.2.2) (g3 := g3) (hK9 := hK9) (HT := HT) (hP := ?hP) (hQ := ?hQ)
      case hP => exact fun _ _ _ _ _ h => h
      intros
      rename_i T2
      clear HT
      have HT := Lib.hid T2
      clear T2
      obtain ⟨i, rfl⟩ : ∃ i, i = n2 := ⟨_, rfl⟩
      have i0' : (0 : Int) ≤ (i : Int) := Int.natCast_nonneg _
      have i16 : (i : Int) ≤ 16 := by omega
      have lm : ∀ q, (nzS (nsOf NS) q i).1.natAbs ≤ 128 * i ∧ (nzS (nsOf NS) q i).2.natAbs ≤ 128 * i := fun q => nzS_lim q i (fun j hj => HS.out.2.2.2.2.2.2.wf j)
      have HLm := Lib.hid lm
      clear lm
      go_wp2_with fail
      go_loopw [13] (fun vk wk => ∃ k : Nat, vk = .int .i64 k ∧ k ≤ K ∧ (∀ q, q < k → ((nzS (nsOf NS) q i).1 < (i : Int) ∧ -(i : Int) < (nzS (nsOf NS) q i).1) ∧ ((nzS (nsOf NS) q i).2 < (i : Int) ∧ -(i : Int) < (nzS (nsOf NS) q i).2)) ∧ Two w wk g ga gb A3 S (sumL Prod.fst (nsOf NS) K i 0) (sumL Prod.snd (nsOf NS) K i 0)) (fun vk _ => K - (intOf vk).toNat)
      case atStart => exact ⟨0, rfl, by omega, fun q hq => by omega, HT.out⟩
      case round =>
        clear HT
        obtain ⟨k, rfl, hk, hall, T⟩ := hrel
        have HT := Lib.hid (And.intro hall T)
        clear T hall
        have k0 : (0 : Int) ≤ (k : Int) := Int.natCast_nonneg _
        have k9 : (k : Int) ≤ 408 := by omega
        by_cases hkK : k < K
        · have k1 : (k : Int) < (K : Int) := by omega
          have c4 := HT.out.2.ra.cell (j := k) (by rw [sumL_len]; exact hkK)
          have c5 := HT.out.2.rb.cell (j := k) (by rw [sumL_len]; exact hkK)
          rw [sumL_at _ _ _ _ _ hkK, if_neg (by omega)] at c4 c5
          have hlim := HLm.out k
          obtain ⟨⟨p, q⟩, hpq⟩ : ∃ p, nzS (nsOf NS) k i = p := ⟨_, rfl⟩
          rw [hpq] at c4 c5 hlim
          simp only at c4 c5 hlim
          have HP := Lib.hid hpq
          clear hpq
          have pw1 : IntKind.i64.wrap (-(i : Int)) = -(i : Int) := IntWalk.i64_in _ ⟨by omega, by omega⟩
          have pw2 : IntKind.i64.wrap (0 - (i : Int)) = -(i : Int) := by rw [Int.zero_sub]; exact pw1
          have ea : (⟨ga, 0, none⟩ : Addr).add k = ⟨ga, k, none⟩ := by unfold Addr.add; by_cases h0 : k = 0 <;> simp [h0]
          have eb : (⟨gb, 0, none⟩ : Addr).add k = ⟨gb, k, none⟩ := by unfold Addr.add; by_cases h0 : k = 0 <;> simp [h0]
          by_cases h1 : p < (i : Int) ∧ -(i : Int) < p ∧ q < (i : Int) ∧ -(i : Int) < q
          · obtain ⟨a1, a2, a3, a4⟩ := h1
            clear hlim
            go_wp2_with fail
            go_roundw
            case rel =>
              refine ⟨k + 1, by go_num, by omega, fun q' hq' => ?_, HT.out.2⟩
              by_cases e : q' = k
              · subst e
                rw [HP.out]
                exact ⟨⟨a1, a2⟩, a3, a4⟩
              · exact HT.out.1 q' (by omega)
            case measure => simp [intOf]; omega
          · have F1 := HT.out.2.frm
            by_cases a1 : p < (i : Int)
            · by_cases a2 : -(i : Int) < p
              · by_cases a3 : q < (i : Int)
                · have a4 : ¬ -(i : Int) < q := fun h => h1 ⟨a1, a2, a3, h⟩
                  clear h1 hlim
                  go_wp2_with fail
                  refine (alive_yes _).mono ?_
                  rintro e w7 ⟨rfl, f7⟩
                  go_wp2_with fail
                  go_ret
                  exact ⟨rfl, F1.thenN f7⟩
                · clear h1 hlim
                  go_wp2_with fail
                  refine (alive_yes _).mono ?_
                  rintro e w7 ⟨rfl, f7⟩
                  go_wp2_with fail
                  go_ret
                  exact ⟨rfl, F1.thenN f7⟩
              · clear h1 hlim
                go_wp2_with fail
                refine (alive_yes _).mono ?_
                rintro e w7 ⟨rfl, f7⟩
                go_wp2_with fail
                go_ret
                exact ⟨rfl, F1.thenN f7⟩
            · clear h1 hlim
              go_wp2_with fail
              refine (alive_yes _).mono ?_
              rintro e w7 ⟨rfl, f7⟩
              go_wp2_with fail
              go_ret
              exact ⟨rfl, F1.thenN f7⟩
        · have k1 : ¬ (k : Int) < (K : Int) := by omega
          have hall : ∀ q, q < K → ((nzS (nsOf NS) q i).1 < (i : Int) ∧ -(i : Int) < (nzS (nsOf NS) q i).1) ∧ ((nzS (nsOf NS) q i).2 < (i : Int) ∧ -(i : Int) < (nzS (nsOf NS) q i).2) := fun q hq => HT.out.1 q (by omega)
          have HA := Lib.hid hall
          have H0 := Lib.hid (show Hd w wr g A3 S (nsOf NS) st0 0 from ⟨HT.out.2.box, good0 (by decide), .inl rfl, HT.out.2.rd, HT.out.2.frm⟩)
          have hgk : K ≤ 16392 := by omega
          clear hall HT hkK hk k9 k0 HLm
          go_wp2_with fail
          go_loopw [15] (fun vj wq => ∃ (j : Nat) (st : Nat → Held), vj = .int .i64 j ∧ j < i ∧ Hd w wq g A3 S (nsOf NS) st j) (fun vj _ => i - (intOf vj).toNat)
          case atStart => exact ⟨0, st0, rfl, by omega, H0.out⟩
          case round =>
            clear H0 k1
            rename World => wR
            obtain ⟨j, st, rfl, hj, HH⟩ := hrel
            have HD := Lib.hid HH
            clear HH
            have j0 : (0 : Int) ≤ (j : Int) := Int.natCast_nonneg _
            have j1 : (j : Int) < (i : Int) := by omega
            have j16 : (j : Int) ≤ 16 := by omega
            obtain ⟨ad, B, m, d, rfl, cB, hB⟩ := HS.out.2.2.2.2.2.2.at_ HD.out.frm hj
            have hml := hB.1
            obtain ⟨i0, hi0, hz0, hz1, hz2⟩ := info_parts info34
            have F0 := (Frm.refl No wR).alloc (.cells #[] 61)
            have own0 := own_empty wR 61
            have hrd := HD.out.rd.rds
            rw [HS.out.2.1] at hrd
            have hr2 := hrd.frmN F0
            have hsz : wR.heap.size ≤ (wR.alloc (.cells #[] 61)).heap.size := F0.size
            go_wp2_with (at_builtin; go_must (refine wpList_append_rds _ rfl _ _ 38 rfl wR.heap.size 61 i0 _ 1 16 Try.underlying38 hi0 hz0 hz1 hz2 rfl (by omega) (.slice (some ⟨wR.heap.size, 0, none⟩) 0 0) 0 [] rfl own0 A3 K c3 (S.map cx) rfl hr2 (cx_one S) (by unfold maxLen; omega) (by omega) hsz ?_; intro v3 w3 own3 hg3))
            have F3 := own_grown own0 F0 (Nat.le_refl _) hg3
            rw [Nat.zero_add, List.nil_append] at own3
            have R3 : RowC w3 wR.heap.size v3 S := by unfold RowC; rw [HS.out.2.1]; exact own3
            obtain ⟨A5, c5, rfl, -⟩ := rdC_of R3
            rw [HS.out.2.1] at R3 ⊢
            obtain ⟨J, hJ⟩ : ∃ J, min K (m / 2) = J := ⟨_, rfl⟩
            have hJ2 : ∀ q : Nat, q < J ↔ (q < K ∧ 2 * q + 1 < m) := fun q => by rw [← hJ, Nat.lt_min]; omega
            have HJ := Lib.hid (And.intro hJ hJ2)
            obtain ⟨ns, hns⟩ : ∃ ns, (nsOf NS).getD j [] = ns := ⟨_, rfl⟩
            rw [hns] at hB hml
            have HB := Lib.hid (And.intro hns hB)
            have H3 := Lib.hid (And.intro R3 F3)
            clear hJ hJ2 hns hB R3 F3 own3 hg3 hsz hr2 hrd own0 F0 hi0 hz0 hz1 hz2
            go_wp2_with fail
            go_loopw [17] (fun vk wk => ∃ k : Nat, vk = .int .i64 k ∧ k ≤ J ∧ RowC wk wR.heap.size (.slice A5 K c5) (nzL S ns 1 k) ∧ Frm No wR wk) (fun vk _ => J - (intOf vk).toNat)
            case atStart => exact ⟨0, rfl, by omega, H3.out⟩
            case round =>
              clear H3
              obtain ⟨k, rfl, hk, R4, F4⟩ := hrel
              have H4 := Lib.hid (And.intro R4 F4)
              clear R4 F4
              have k0 : (0 : Int) ≤ (k : Int) := Int.natCast_nonneg _
              have hkK9 : k ≤ K := by have := HJ.out.1; omega
              have k9 : (k : Int) ≤ 408 := by omega
              have pw1 : IntKind.i64.wrap (2 * (k : Int)) = 2 * (k : Int) := IntWalk.i64_in _ ⟨by omega, by omega⟩
              have pw2 : IntKind.i64.wrap (2 * (k : Int) + 1) = 2 * (k : Int) + 1 := IntWalk.i64_in _ ⟨by omega, by omega⟩
              have cB' : wr.cell? (ad.add j) = some (.slice B m d) := by
                have hlt : (ad.add j).block < wR.heap.size := by
                  rw [block_add]
                  have := HS.out.2.2.2.2.2.2.lt hj
                  have := HD.out.frm.size
                  omega
                rw [← cB]
                exact World.cell?_of_block (H4.out.2.block _ hlt (fun h => h))
              by_cases hkJ : k < J
              · obtain ⟨hkK, hkm⟩ := (HJ.out.2 k).1 hkJ
                have hB := Ints.frmN HB.out.2 H4.out.2
                have k1 : (k : Int) < (K : Int) := by omega
                have k2 : 2 * (k : Int) + 1 < (m : Int) := by omega
                obtain ⟨bd, rfl, -, x1, -⟩ := hB.at_ (j := 2 * k) (by omega)
                obtain ⟨bd', e', -, x2, -⟩ := hB.at_ (j := 2 * k + 1) (by omega)
                injection e' with e'
                subst e'
                have x2' : wr.cell? ⟨bd.block, bd.off + (2 * k + 1), none⟩ = some (.int .i8 (ns.getD (2 * k + 1) 0)) := by rw [← x2]; congr 1
                have b1 := i8_getD hB.2.2.1 (2 * k)
                have b2 := i8_getD hB.2.2.1 (2 * k + 1)
                have h4 : ∀ p ∈ S, Four p := by rw [← HS.out.1]; exact ofL_four _
                have hlm := (nzL_lim (k := 1) (four_lim h4) hB.2.2.1 (by omega) (by omega) k).at_ k
                have hlN := nzL_len S ns 1 k
                rw [HS.out.2.1] at hlN
                obtain ⟨a5, rfl, ⟨cs5, hb5⟩, c5', z5, R5, hB5⟩ := H4.out.1.put hlN (j := k) hkK (((nzL S ns 1 k).getD k (0, 0)).1 + ns.getD (2 * k) 0, ((nzL S ns 1 k).getD k (0, 0)).2 + ns.getD (2 * k + 1) 0)
                have hnz : nzL S ns 1 (k + 1) = (nzL S ns 1 k).set k (((nzL S ns 1 k).getD k (0, 0)).1 + ns.getD (2 * k) 0, ((nzL S ns 1 k).getD k (0, 0)).2 + ns.getD (2 * k + 1) 0) := by
                  show (nzL S ns 1 k).set k (((nzL S ns 1 k).getD k (0, 0)).1 + ns.getD (2 * k) 0 * 1, ((nzL S ns 1 k).getD k (0, 0)).2 + ns.getD (2 * k + 1) 0 * 1) = _
                  rw [Int.mul_one, Int.mul_one]
                rw [← hnz] at R5
                obtain ⟨x, hx⟩ : ∃ x, ns.getD (2 * k) 0 = x := ⟨_, rfl⟩
                obtain ⟨y, hy⟩ : ∃ y, ns.getD (2 * k + 1) 0 = y := ⟨_, rfl⟩
                obtain ⟨⟨p, q⟩, hpq⟩ : ∃ p, (nzL S ns 1 k).getD k (0, 0) = p := ⟨_, rfl⟩
                rw [hx] at x1 b1 R5
                rw [hy] at x2' b2 R5
                rw [hpq] at c5' hlm R5
                simp only at hlm R5
                have c5'' : wr.cell? (a5.add k) = some (.complex .f64 (FI p) (FI q)) := c5'
                have F5 : Frm No wR (wr.setCell (a5.add k) (cx (p + x, q + y))) := H4.out.2.set (.inr (by rw [block_add]; exact hB5)) _
                have H5 := Lib.hid (And.intro R5 F5)
                have hl5 := hb5.lt
                clear R5 F5 hnz hx hy hpq x2 hlN h4 hB c5' H4
                go_upto_region 28 with fail
                refine re28 (hK := by omega) (hk := hkK) (hi := hj) (hm := hkm) (hx := b1) (hy := b2) (hp := by omega) (hq := by omega) (h1 := cB') (h2 := x1) (h3 := x2') (h4 := c5'') (z4 := z5) (hlt := hl5) (hP := fun _ _ _ _ _ h => h) ?_
                intros
                clear cB' x1 x2' c5'' z5 b1 b2 hlm
                go_wp2_with fail
                go_roundw
                case rel => exact ⟨k + 1, by go_num, by omega, own_frm H5.out.1 (Frm.refl No _).drew (fun _ _ _ h => h), H5.out.2.drew⟩
                case measure => simp [intOf]; omega
              · obtain rfl : k = J := by omega
                have hkt : ¬ (k < K ∧ 2 * k + 1 < m) := fun h => hkJ ((HJ.out.2 k).2 h)
                go_upto_region 26 with fail
                go_cut [199] (fun v wx => v = .bool false ∧ wx = wr)
                case first =>
                  by_cases hkK : k < K
                  · have k1 : (k : Int) < (K : Int) := by omega
                    have k2 : ¬ 2 * (k : Int) + 1 < (m : Int) := by omega
                    clear hkt hkK
                    go_wp2_with fail
                    go_meet
                    exact ⟨rfl, rfl⟩
                  · have k1 : ¬ (k : Int) < (K : Int) := by omega
                    clear hkt hkK
                    go_wp2_with fail
                    go_meet
                    exact ⟨rfl, rfl⟩
                case rest =>
                  obtain ⟨rfl, hwx⟩ := hcut
                  have hwx2 := hwx.symm
                  clear hwx
                  subst hwx2
                  have hsg : nzL S ns 1 k = sigN S ((nsOf NS).getD j []) := by
                    unfold sigN
                    rw [HB.out.1, HS.out.2.1, hml, HJ.out.1]
                  have R4 := H4.out.1
                  have F4 := H4.out.2
                  rw [hsg] at R4
                  obtain ⟨A6, c6, e6, rd4⟩ := rdC_of R4
                  injection e6 with e61 e62 e63
                  subst e61
                  clear e62 e63
                  have h4 : ∀ p ∈ S, Four p := by rw [← HS.out.1]; exact ofL_four _
                  have hz : ∀ z ∈ (nsOf NS).getD j [], (Lit.int .i8 z).wf = true := HS.out.2.2.2.2.2.2.wf j
                  have hR := hears_held HD.out.at_ h4 hz (by rw [HS.out.2.1]; omega)
                  obtain ⟨fr, hfr'⟩ : ∃ fr, ((j : Int) == 0) = fr := ⟨_, rfl⟩
                  have hfr : decide (j = 0) = fr := by rw [← hfr']; exact Bool.eq_iff_iff.2 (by rw [decide_eq_true_iff, beq_iff_eq]; omega)
                  have hhe := hear_any wr g 16 0 0 st 3 fr A5 K c5 (sigN S ((nsOf NS).getD j [])) (toldI S (nsOf NS) st j) (HD.out.box.frmN F4) (by decide) (by decide) HD.out.good rd4 (by rw [sigN_len]; exact HS.out.2.1) (by omega) ((sigN_lim h4 hz).sml (by omega)) (by rw [← hfr]; exact hR) (by decide) (by decide) (by decide) (by decide)
                  have hG := HD.out.good.hears (by decide) hR
                  have hlaw : j + 1 = i → hearT (heldN S (nsOf NS) j) = true ∧ hearB (heldN S (nsOf NS) j) = bs := fun e => by
                    have := adds_law (bs := bs) HS.out.2.2.2.2.2.1 (nsOf NS) j (fun q hq => by
                      have := HA.out q (by rw [HS.out.1, HS.out.2.1] at hq; exact hq)
                      rw [← e] at this
                      push_cast at this
                      exact this)
                    rw [HS.out.1] at this
                    exact this
                  have hnx : hearT (heldN S (nsOf NS) j) = false → j + 1 < 16 → _ := fun h1 h2 => told_next (st := st) h1 h2
                  obtain ⟨X, hX⟩ : ∃ X, heldN S (nsOf NS) j = X := ⟨_, rfl⟩
                  have eE : (toldI S (nsOf NS) st j).E = 0 := rfl
                  have eT : (toldI S (nsOf NS) st j).T = hearT X := by rw [← hX]; rfl
                  have eB : (toldI S (nsOf NS) st j).B = if hearT X = true then hearB X else [] := by rw [← hX]; rfl
                  rw [hX] at hlaw hnx
                  obtain ⟨r, hr⟩ : ∃ r, toldI S (nsOf NS) st j = r := ⟨_, rfl⟩
                  rw [hr] at hhe hG hnx eE eT eB
                  rw [eE, eT, eB] at hhe
                  have HL := Lib.hid (And.intro hlaw (And.intro hnx (And.intro hG (And.intro (HD.out.frm.thenN F4) (And.intro (HD.out.rd.frmN F4) (HD.out.box.frmN F4).ne61)))))
                  clear hlaw hnx hG eE eT eB hr hX hR hz h4 rd4 R4 F4 hsg H4 HD cB' hfr hkt hkJ hk
                  obtain ⟨T, hT⟩ : ∃ T, hearT X = T := ⟨_, rfl⟩
                  rw [hT] at hhe
                  go_wp2_with fail
                  refine hhe.mono ?_
                  rintro e w6 ⟨v6, rfl, R6, B6, f6⟩
                  have F6 := HL.out.2.2.2.1.then f6 (fun x hx => .inr (by subst hx; exact hgl))
                  clear hhe
                  cases T with
                  | true =>
                    rw [if_pos rfl] at R6
                    by_cases hl : j + 1 = i
                    · have hB := (HL.out.1 hl).2
                      rw [hB] at R6
                      obtain ⟨A7, c7, rfl, hb7⟩ := Bin.of_row R6
                      rw [HS.out.2.2.2.2.1]
                      have s1 := hb7.str (c := c7) HS.out.2.2.2.2.1
                      have s2 := (HS.out.2.2.2.1.frmN F6).str (c := c) HS.out.2.2.2.2.1
                      have i9 : (j : Int) = (i : Int) - 1 := by omega
                      have H6 := Lib.hid (And.intro F6 hB)
                      clear F6 hB R6 hb7 f6 B6 hl
                      go_wp2_with fail
                      refine (alive_yes _).mono ?_
                      rintro e w7 ⟨rfl, f7⟩
                      go_wp2_with fail
                      go_ret
                      exact ⟨rfl, H6.out.1.thenN f7⟩
                    · have i9 : ¬ (j : Int) = (i : Int) - 1 := by omega
                      obtain ⟨A7, c7, rfl, hb7⟩ := Bin.of_row R6
                      have H6 := Lib.hid F6
                      clear F6 R6 hb7 f6 B6 hl
                      go_wp2_with fail
                      refine (alive_yes _).mono ?_
                      rintro e w7 ⟨rfl, f7⟩
                      go_wp2_with fail
                      go_ret
                      exact ⟨rfl, H6.out.thenN f7⟩
                  | false =>
                    rw [if_neg (by decide)] at R6
                    have hl : j + 1 ≠ i := fun e => by have := (HL.out.1 e).1; rw [hT] at this; cases this
                    have hl2 : j + 1 < i := by omega
                    obtain ⟨hat, hh, hg⟩ := HL.out.2.1 hT (by omega)
                    rw [hh, hg] at B6
                    have H6 := Lib.hid (show Hd w w6 g A3 S (nsOf NS) r.st (j + 1) from ⟨B6, HL.out.2.2.1, hat, HL.out.2.2.2.2.1.frm f6 HL.out.2.2.2.2.2, F6⟩)
                    clear F6 R6 f6 B6 hl hat hh hg
                    go_wp2_with fail
                    go_roundw
                    case rel => exact ⟨j + 1, r.st, by go_num, by omega, H6.out⟩
                    case measure => simp [intOf]; omega
  · have F1 := H1.out.2
    clear hbi hlen h256 hN
    by_cases a1 : (100 : Int) < (n : Int)
    · clear hgd
      go_wp2_with fail
      refine (alive_yes _).mono ?_
      rintro e w7 ⟨rfl, f7⟩
      go_wp2_with fail
      go_ret
      exact ⟨rfl, F1.thenN f7⟩
    · by_cases a2 : (n2 : Int) < 1
      · clear hgd
        go_wp2_with fail
        refine (alive_yes _).mono ?_
        rintro e w7 ⟨rfl, f7⟩
        go_wp2_with fail
        go_ret
        exact ⟨rfl, F1.thenN f7⟩
      · have a3 : (16 : Int) < (n2 : Int) := by omega
        clear hgd
        go_wp2_with fail
        refine (alive_yes _).mono ?_
        rintro e w7 ⟨rfl, f7⟩
        go_wp2_with fail
        go_ret
        exact ⟨rfl, F1.thenN f7⟩
end Go.Proofs.Ytcdjofneijlbgaa.A

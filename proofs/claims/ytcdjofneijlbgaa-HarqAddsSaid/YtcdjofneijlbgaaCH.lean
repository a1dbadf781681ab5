/- alive. -/
import Derived.Test.YtcdjofneijlbgaaCG
import Derived.Lib.SlBytesConst
namespace Go.Proofs.Ytcdjofneijlbgaa.A
open Go.RowKit Go.Proofs.Ytcdjofneijlbgaa.K Go.Proofs.Ytcdjofneijlbgaa.F Go.Proofs.Ytcdjofneijlbgaa.N
set_option linter.unusedVariables false
set_option linter.unusedSimpArgs false

theorem ab_1 : hearT (sgl [97, 98]) = true ∧ hearB (sgl [97, 98]) = [97, 98] ∧ (sgl [97, 98]).length = 16 := by decide +kernel
theorem ab_2 : hearT (noL (sgl [97, 98]) 3 (-5) 2) = false ∧ noE 16 3 (-5) 2 = 0 ∧ (noL (sgl [97, 98]) 3 (-5) 2).length = 16 := by decide +kernel
theorem ab_3 : Whole (sgl [97, 98]) := by
  show (sgl [97, 98]).length ≤ 16392 ∧ ∀ p ∈ sgl [97, 98], p.1.natAbs ≤ 1000 ∧ p.2.natAbs ≤ 1000
  decide +kernel
theorem ab_4 : Whole (noL (sgl [97, 98]) 3 (-5) 2) := by
  show (noL (sgl [97, 98]) 3 (-5) 2).length ≤ 16392 ∧ ∀ p ∈ noL (sgl [97, 98]) 3 (-5) 2, p.1.natAbs ≤ 1000 ∧ p.2.natAbs ≤ 1000
  decide +kernel
theorem ab_5 : bytesS [97, 98] = ⟨#[97, 98]⟩ := by decide +kernel
theorem thenG {w0 w w' : World} {g : Nat} (h : Frm No w0 w) (f : Frm (fun x => x = g) w w') (hg : w0.heap.size ≤ g) : Frm No w0 w' := h.then f fun x hx => .inr (by subst hx; exact hg)
theorem IsBox.ne61 {w : World} {g : Nat} {tries heard gone : Int} {st : Nat → Held} (h : IsBox w g tries heard gone st) : ∀ x cs, Blk w x cs 61 → ¬ (x = g) := fun x cs hx e => by
  obtain ⟨cs', hb, _⟩ := h
  subst e
  exact Blk.ne hx hb (by decide) rfl
set_option maxRecDepth 100000 in
set_option maxHeartbeats 8000000 in
theorem alive_yes (w : World) : Calls Try.prog 8 #[] w fun e w' => e = .returned (.bool true) ∧ Frm No w w' := by
  obtain ⟨S, hS⟩ : ∃ S, sgl [97, 98] = S := ⟨_, rfl⟩
  obtain ⟨N, hN⟩ : ∃ N, noL S 3 (-5) 2 = N := ⟨_, rfl⟩
  have a1 := ab_1
  have a2 := ab_2
  have a3 := ab_3
  have a4 := ab_4
  rw [hS] at a1 a2 a3 a4
  rw [hN] at a2 a4
  have HS := Lib.hid (And.intro hS (And.intro hN (And.intro a1 (And.intro a2 (And.intro a3 a4)))))
  clear hS hN a1 a2 a3 a4
  go_enter Try.func8, Try.ntmps8
  go_wp2_with fail
  refine (new_ok w 2 (by decide) (by decide)).mono ?_
  rintro e w1 ⟨rfl, B1, F1⟩
  obtain ⟨g, hg⟩ : ∃ g, w.heap.size = g := ⟨_, rfl⟩
  rw [hg] at B1
  rw [hg]
  have hgl : w.heap.size ≤ g := by omega
  have F2 := F1.alloc (.cells #[.int .u8 97, .int .u8 98] 5 (2, 3))
  have B2 := B1.frmN ((Frm.refl No w1).alloc (.cells #[.int .u8 97, .int .u8 98] 5 (2, 3)))
  have hb2 : Bin (w1.alloc (.cells #[.int .u8 97, .int .u8 98] 5 (2, 3))) (some ⟨w1.heap.size, 0, none⟩) [97, 98] := by
    refine ⟨rfl, fun _ => ⟨_, rfl, by show w1.heap.size < (w1.heap.push _).size; rw [Array.size_push]; exact Nat.lt_succ_self _, fun j u hu => ?_⟩⟩
    have ea : (⟨w1.heap.size, 0, none⟩ : Addr).add j = ⟨w1.heap.size, j, none⟩ := by unfold Addr.add; by_cases h0 : j = 0 <;> simp [h0]
    rw [ea]
    have hw : (w1.alloc (.cells #[.int .u8 97, .int .u8 98] 5 (2, 3))).heap[w1.heap.size]? = some (.cells #[.int .u8 97, .int .u8 98] 5 (2, 3)) := by
      show (w1.heap.push _)[w1.heap.size]? = _
      rw [Array.getElem?_push_size]
    unfold World.cell?
    simp only [hw]
    rw [if_neg (by simp), List.getElem?_toArray]
    exact hu
  have hcv := Lib.run_convert_bytes_const (P := Try.prog) w1 33 5 #[.int .u8 97, .int .u8 98] 2 2 Try.underlying33 Try.underlying5
  have hsg := signal_is _ _ 2 2 [97, 98] hb2 rfl (by decide) (by omega)
  rw [show sgE 2 = 0 from rfl, if_neg (by decide), HS.out.1] at hsg
  have H2 := Lib.hid (And.intro B2 F2)
  clear hg B1 F1 B2 F2 hb2
  go_wp2_with fail
  refine hsg.mono ?_
  rintro e w3 ⟨v3, rfl, R3, f3⟩
  obtain ⟨A3, c3, rfl, rd3⟩ := rdC_of R3
  have hlS : S.length = 16 := HS.out.2.2.1.2.2
  have hno := noise_is w3 A3 16 c3 S 3 (-5) 2 rd3 hlS (by omega) (low_sml HS.out.2.2.2.2.1.2)
  rw [HS.out.2.2.2.1.2.1, HS.out.2.1] at hno
  rw [hlS]
  have H3 := Lib.hid (And.intro (H2.out.1.frmN f3) (And.intro (H2.out.2.thenN f3) (And.intro rd3 hlS)))
  clear hsg R3 rd3 f3 hlS
  go_wp2_with fail
  refine hno.mono ?_
  rintro e w4 ⟨v4, rfl, R4, f4⟩
  obtain ⟨A4, c4, rfl, rd4⟩ := rdC_of R4
  have hlN : N.length = 16 := HS.out.2.2.2.1.2.2
  rw [hlN]
  have hh := hear_fresh w4 g 2 0 0 st0 0 A4 16 c4 N (H3.out.1.frmN f4) (by decide) (by decide) rd4 hlN HS.out.2.2.2.2.2 (by omega) (by omega) (by omega) (by omega)
  have H4 := Lib.hid (And.intro (H3.out.2.1.thenN f4) (And.intro (H3.out.1.frmN f4) (H3.out.2.2.1.frmN f4)))
  clear hno R4 rd4 f4 hlN
  go_wp2_with fail
  refine hh.mono ?_
  rintro e w5 ⟨v5, rfl, R5, B5, f5⟩
  rw [HS.out.2.2.2.1.1] at R5 ⊢
  rw [if_neg (by decide)] at R5
  obtain ⟨A5, c5, rfl, -⟩ := Bin.of_row R5
  have hG : hearG 2 0 0 st0 0 N 1 = (upd st0 0 (N, 1), 0, 0) := by unfold hearG; rw [HS.out.2.2.2.1.1, if_neg (by decide), if_neg (by decide)]
  rw [hG] at B5
  have F5 := thenG H4.out.1 f5 hgl
  have rd5 : RdC w5 A3 S := H4.out.2.2.frm f5 (H4.out.2.1.ne61)
  have hh6 := hear_fresh w5 g 2 0 0 (upd st0 0 (N, 1)) 1 A3 16 c3 S B5 (by decide) (by decide) rd5 H3.out.2.2.2 HS.out.2.2.2.2.1 (by omega) (by omega) (by omega) (by omega)
  have H5 := Lib.hid (And.intro F5 (And.intro B5 rd5))
  clear hh R5 B5 f5 hG F5 rd5
  simp only [List.length_nil]
  go_wp2_with fail
  refine hh6.mono ?_
  rintro e w6 ⟨v6, rfl, R6, B6, f6⟩
  rw [HS.out.2.2.1.1] at R6 ⊢
  rw [if_pos rfl, HS.out.2.2.1.2.1] at R6
  obtain ⟨A6, c6, rfl, hb6⟩ := Bin.of_row R6
  have hG : hearG 2 0 0 (upd st0 0 (N, 1)) 1 S 1 = (upd (upd st0 0 (N, 1)) 1 ([], 0), 1, 0) := by unfold hearG; rw [HS.out.2.2.1.1, if_pos rfl]; rfl
  rw [hG] at B6
  have F6 := thenG H5.out.1 f6 hgl
  have rd6 : RdC w6 A3 S := H5.out.2.2.frm f6 (H5.out.2.1.ne61)
  have ht := tries_in w6 g 2 1 0 _ 0 B6 (by decide) (by decide)
  have ht2 : (upd (upd st0 0 (N, 1)) 1 ([], 0) 0).2 = 1 := rfl
  rw [ht2] at ht
  have hst : upd (upd st0 0 (N, 1)) 1 ([], 0) 2 = ([], 0) := rfl
  have hstt := hear_state w6 g 2 1 0 _ 2 A3 16 c3 0 [] S B6 (by decide) (by decide) rd6 H3.out.2.2.2 HS.out.2.2.2.2.1 hst (.inl rfl)
  have hct := counts_ok w6 g 2 1 0 _ B6
  have H6 := Lib.hid (And.intro F6 (And.intro B6 (And.intro hb6 rd6)))
  simp only [List.length_cons, List.length_nil] 
  clear hh6 R6 B6 f6 hG F6 rd6 hb6 hst ht2 hstt hct
  go_wp2_with fail
  refine ht.mono ?_
  rintro e w7 ⟨rfl, rfl⟩
  clear ht
  go_wp2_with fail
  refine (counts_ok w7 g 2 1 0 _ H6.out.2.1).mono ?_
  rintro e w8 ⟨rfl, f8⟩
  have B8 := H6.out.2.1.frmN f8
  have hst8 := hear_state w8 g 2 1 0 _ 2 A3 16 c3 0 [] S B8 (by decide) (by decide) (H6.out.2.2.2.frmN f8) H3.out.2.2.2 HS.out.2.2.2.2.1 rfl (.inl rfl)
  have H8 := Lib.hid (And.intro B8 f8)
  clear B8 f8
  go_wp2_with fail
  refine hst8.mono ?_
  rintro e w9 ⟨rfl, f9⟩
  have B9 := H8.out.1.frmN f9
  have F9 := (H6.out.1.thenN H8.out.2).thenN f9
  have hs := (H6.out.2.2.1.frmN (H8.out.2.thenN f9)).str (c := c6) (n := 2) rfl
  rw [ab_5] at hs
  have hdr := drop_out w9 (some ⟨g, 0, none⟩) 8 1 (ask_ok w9 g 2 1 0 _ 8 B9 (by decide)) (by decide)
  have H9 := Lib.hid (And.intro F9 hdr)
  clear B9 F9 hst8 f9 hdr
  go_wp2_with fail
  refine H9.out.2.mono ?_
  rintro e w10 ⟨rfl, rfl⟩
  go_wp2_with fail
  go_ret
  exact ⟨rfl, H9.out.1⟩
end Go.Proofs.Ytcdjofneijlbgaa.A

/- PointsHalf's walk. -/
import Derived.Test.YthbgaglfgkmblaaPB
namespace Go.Proofs.Ythbgaglfgkmblaa.A
open Go.RowKit Go.ChangeShapes Go.WideShapes Go.Proofs.Ythbgaglfgkmblaa.K Go.Proofs.Ythbgaglfgkmblaa.F Go.Proofs.Ythbgaglfgkmblaa.N
set_option linter.unusedVariables false
set_option linter.unusedSimpArgs false

theorem qn_two : qn 2 = 2 := by decide
theorem half_pt {v : Nat} (h : v < 4) : turnp 2 (pt v) = pt (3 - v) := by
  have : v = 0 ∨ v = 1 ∨ v = 2 ∨ v = 3 := by omega
  rcases this with rfl | rfl | rfl | rfl <;> decide
theorem half_two {c k : Nat} (hc : c < 256) (hk : k < 4) : two (255 - c) k = 3 - two c k := by
  have : k = 0 ∨ k = 1 ∨ k = 2 ∨ k = 3 := by omega
  unfold two
  rcases this with rfl | rfl | rfl | rfl <;> simp <;> omega
theorem half_byte {c : Nat} (hc : c < 256) : (byte4 c).map (turnp 2) = byte4 (255 - c) := by
  unfold byte4
  rw [List.map_map]
  refine List.map_congr_left fun k hk => ?_
  have := List.mem_range.1 hk
  show turnp 2 (pt (two c k)) = pt (two (255 - c) k)
  rw [half_pt (two_lt c k), half_two hc this]
theorem half_ofL : ∀ (bs : List Nat), (∀ c ∈ bs, c < 256) → (ofL bs).map (turnp (qn 2)) = ofL (bs.map fun c => 255 - c) := by
  intro bs
  rw [qn_two]
  induction bs with
  | nil => intro _; rfl
  | cons c l ih =>
    intro h
    have e1 : ofL (c :: l) = byte4 c ++ ofL l := rfl
    have e2 : ofL ((c :: l).map fun c => 255 - c) = byte4 (255 - c) ++ ofL (l.map fun c => 255 - c) := rfl
    rw [e1, e2, List.map_append, ih (fun c hc => h c (by simp [hc])), half_byte (h c (by simp))]
theorem len_four {L : List Pt} (h : ∀ p ∈ L, Four p) : ∀ i, i ≤ L.length → lenN L i = 2 * i
  | 0, _ => rfl
  | i + 1, hi => by
    unfold lenN
    rw [len_four h i (by omega)]
    have h4 := h _ (mem_getD (L := L) (i := i) (by omega))
    obtain ⟨h1, h2⟩ := h4
    rcases h1 with h1 | h1 <;> rcases h2 with h2 | h2 <;> rw [h1, h2] <;> omega
theorem near_four {p : Pt} (h : Four p) : nearp p = p := by
  obtain ⟨x, y⟩ := p
  obtain ⟨h1, h2⟩ := h
  simp only at h1 h2
  rcases h1 with rfl | rfl <;> rcases h2 with rfl | rfl <;> rfl
theorem half_ne {p : Pt} (h : Four p) : nearp p ≠ nearp (turnp 2 p) := by
  rw [near_four h, near_four (turn_four 2 h)]
  obtain ⟨x, y⟩ := p
  obtain ⟨h1, h2⟩ := h
  simp only at h1 h2
  rcases h1 with rfl | rfl <;> rcases h2 with rfl | rfl <;> decide
theorem getD_map {L : List Pt} {f : Pt → Pt} {i : Nat} (h : i < L.length) : (L.map f).getD i (0, 0) = f (L.getD i (0, 0)) := by
  rw [List.getD_eq_getElem?_getD, List.getD_eq_getElem?_getD, List.getElem?_map, List.getElem?_eq_getElem h]; rfl
theorem en_half {L : List Pt} (h : ∀ p ∈ L, Four p) : ∀ i, i ≤ L.length → en L (L.map (turnp (qn 2))) i = i
  | 0, _ => rfl
  | i + 1, hi => by
    unfold en
    rw [en_half h i (by omega), getD_map (by omega), qn_two, if_neg (half_ne (h _ (mem_getD (by omega))))]
theorem xor_all : ((List.range 256).all fun x => bits .xor .u8 ((255 - x : Nat) : Int) (x : Int) == 255) = true := by decide +kernel
theorem xor_is {x : Nat} (h : x < 256) : bits .xor .u8 ((255 - x : Nat) : Int) (x : Int) = 255 := by
  have := List.all_eq_true.1 xor_all x (List.mem_range.2 h)
  simpa using this
theorem low_of {L : List Pt} (h : ∀ p ∈ L, Four p) : Low L := fun p hp => by
  have := h p hp
  unfold Four at this; omega

set_option maxRecDepth 100000 in
set_option maxHeartbeats 4000000 in
theorem half_walk (A : Option Addr) (n c : Nat) (zs : List Int) (k : Int) (w : World) (hI : Ints w .u8 A n zs) (hk : (Lit.int .i8 k).wf = true) :
    Calls Try.prog 6 #[.slice A n c, .int .i8 k] w fun e w' => e = .returned (.bool true) ∧ Frm No w w' := by
  have hn9 : n ≤ 9223372036854775807 := hI.2.1
  obtain ⟨k1, k2⟩ := i8_of hk
  by_cases hn : n ≤ 1000
  · have hn' : ¬ (1000 : Int) < (n : Int) := by omega
    have hbl := bytes_lt hI.2.2.1
    have h4 := ofL_four (zs.map Int.toNat)
    have hlen : (ofL (zs.map Int.toNat)).length = 4 * n := by rw [ofL_len, List.length_map, hI.1]
    have hh := half_ofL (zs.map Int.toNat) hbl
    have hout := outB_ofL ((zs.map Int.toNat).map fun c => 255 - c) (fun c hc => by
      obtain ⟨d, _, rfl⟩ := List.mem_map.1 hc; omega)
    have hok := okB_ofL ((zs.map Int.toNat).map fun c => 255 - c)
    rw [← hh] at hout hok
    obtain ⟨L, hL⟩ : ∃ L, ofL (zs.map Int.toNat) = L := ⟨_, rfl⟩
    rw [hL] at h4 hlen hout hok
    have hen := en_half h4 (4 * n) (by omega)
    have q1 := four_map h4 k
    have q2 := four_map h4 2
    obtain ⟨H, hH⟩ : ∃ H, L.map (turnp (qn 2)) = H := ⟨_, rfl⟩
    obtain ⟨X1, hX1⟩ : ∃ X, L.map (turnp (qn k)) = X := ⟨_, rfl⟩
    have ly : H.length = 4 * n := by rw [← hH, List.length_map, hlen]
    have lx : X1.length = 4 * n := by rw [← hX1, List.length_map, hlen]
    rw [hH] at q2 hout hok hen
    rw [hX1] at q1
    have hln := len_four q1 (4 * n) (by omega)
    have hol : (outB H).length = n := by rw [hout, List.length_map, List.length_map, hI.1]
    have O1 := Lib.hid hX1
    have O5 := Lib.hid hH
    have O6 := Lib.hid hL
    have Q0 := Lib.hid h4
    have Q1 := Lib.hid q1
    have Q2 := Lib.hid q2
    have OK := Lib.hid hok
    have OT := Lib.hid hout
    have LL := Lib.hid hlen
    have LX := Lib.hid lx
    have LY := Lib.hid ly
    have EN := Lib.hid hen
    have LN := Lib.hid hln
    have OL := Lib.hid hol
    have BL := Lib.hid hbl
    obtain ⟨N4, hN4⟩ : ∃ N4, 4 * n = N4 := ⟨_, rfl⟩
    rw [hN4] at LL LX LY EN LN
    have hN5 : N4 ≤ 4000 := by omega
    have e8 : (2 * (N4 : Int) != 8 * (n : Int)) = false := by
      have : 2 * (N4 : Int) = 8 * (n : Int) := by omega
      rw [this]; exact bne_self_eq_false _
    have e4 : ((N4 : Int) != 4 * (n : Int)) = false := by
      have : (N4 : Int) = 4 * (n : Int) := by omega
      rw [this]; exact bne_self_eq_false _
    have en0 : ((n : Int) != (n : Int)) = false := bne_self_eq_false _
    clear hX1 hH hL h4 q1 q2 hok hout hlen lx ly hen hln hol hbl hh
    go_enter Try.func6, Try.ntmps6
    go_wp2_with fail
    refine (of_ok _ A n c zs hI (by omega)).mono ?_
    rintro e w1 ⟨v1, rfl, r1, f1⟩
    rw [O6.out] at r1
    obtain ⟨A1, c1, rfl, d1⟩ := rdC_of r1
    rw [LL.out]
    have I1 := Ints.frmN hI f1
    clear r1 hI
    go_wp2_with fail
    refine (turn_ok _ A1 N4 c1 L k LL.out (by omega) d1 Q0.out).mono ?_
    rintro e w2 ⟨v2, rfl, r2, f2⟩
    rw [O1.out] at r2
    obtain ⟨A2, c2, rfl, d2⟩ := rdC_of r2
    rw [LX.out]
    have F2 := f1.thenN f2
    have I2 := Ints.frmN I1 f2
    have d1 := d1.frmN f2
    clear r2 I1 f1 f2
    go_wp2_with fail
    refine (length_ok _ A2 N4 c2 X1 LX.out (by omega) d2 (low_of Q1.out)).mono ?_
    rintro e w3 ⟨rfl, f3⟩
    rw [LN.out]
    have F3 := F2.thenN f3
    have I3 := Ints.frmN I2 f3
    have d1 := d1.frmN f3
    clear I2 F2 f3 d2
    go_wp2_with fail
    refine (turn_ok _ A1 N4 c1 L 2 LL.out (by omega) d1 Q0.out).mono ?_
    rintro e w4 ⟨v4, rfl, r4, f4⟩
    rw [O5.out] at r4
    obtain ⟨A4, c4, rfl, d4⟩ := rdC_of r4
    rw [LY.out]
    have F4 := F3.thenN f4
    have I4 := Ints.frmN I3 f4
    have d1 := d1.frmN f4
    clear r4 I3 F3 f4
    go_wp2_with fail
    refine (back_ok _ A4 N4 c4 H LY.out (by omega) d4 (sml_of Q2.out)).mono ?_
    rintro e w5 ⟨v5, rfl, r5, f5⟩
    rw [if_pos OK.out]
    obtain ⟨A5, c5, rfl, d5⟩ := rdB_of r5
    rw [OL.out]
    have F5 := F4.thenN f5
    have I5 := Ints.frmN I4 f5
    have d1 := d1.frmN f5
    have d4 := d4.frmN f5
    clear r5 I4 F4 f5
    go_wp2_with fail
    refine (errors_ok _ A1 A4 N4 c1 c4 L H LL.out LY.out (by omega) d1 d4 (sml_of Q0.out) (sml_of Q2.out)).mono ?_
    rintro e w6 ⟨rfl, f6⟩
    rw [EN.out]
    have F6 := F5.thenN f6
    have I6 := Ints.frmN I5 f6
    have d5 := d5.frmN f6
    clear I5 F5 f6 d1 d4
    go_wp2_with fail
    go_loopw [13] (fun vi wr => ∃ i : Nat, vi = .int .i64 i ∧ i ≤ n ∧ Frm No w6 wr) (fun vi _ => n - (intOf vi).toNat)
    case atStart => exact ⟨0, rfl, by omega, Frm.refl _ _⟩
    case round =>
      obtain ⟨i, rfl, hin, hF⟩ := hrel
      have D5 := d5.frmN hF
      have i0' : (0 : Int) ≤ (i : Int) := Int.natCast_nonneg _
      by_cases hlt : i < n
      · obtain ⟨ad5, rfl, -, k5⟩ := D5 i (by rw [OL.out]; exact hlt)
        obtain ⟨ad, rfl, hbk, k6, hwf⟩ := (Ints.frmN I6 hF).at_ hlt
        obtain ⟨z0, z1⟩ := u8_of hwf
        have hg : (outB H).getD i 0 = 255 - (zs.getD i 0).toNat := by
          have hil : i < zs.length := by rw [I6.1]; exact hlt
          rw [OT.out]
          simp [List.getD_eq_getElem?_getD, List.getElem?_eq_getElem hil]
        rw [hg] at k5
        obtain ⟨z, hz⟩ : ∃ z, zs.getD i 0 = z := ⟨_, rfl⟩
        rw [hz] at k5 k6 z0 z1
        obtain ⟨u, rfl⟩ := Int.eq_ofNat_of_zero_le z0
        rw [Int.toNat_natCast] at k5
        unfold by8 at k5
        have hx := xor_is (x := u) (by omega)
        obtain ⟨v, hv⟩ : ∃ v, 255 - u = v := ⟨_, rfl⟩
        rw [hv] at k5 hx
        have i1 : (i : Int) < (n : Int) := by omega
        clear D5 hg hwf hz hv
        go_wp2_with fail
        go_quiet (fail)
        go_wp2_with fail
        go_roundw
        case rel => exact ⟨i + 1, by go_num, by omega, hF.drewN _⟩
        case measure => simp [intOf]; omega
      · have i1 : ¬ (i : Int) < (n : Int) := by omega
        clear D5
        go_wp2_with fail
        refine (alive_yes _).mono ?_
        rintro e w8 ⟨rfl, f8⟩
        go_wp2_with fail
        go_ret
        exact ⟨rfl, (F6.thenN hF).thenN f8⟩
  · have hn' : (1000 : Int) < (n : Int) := by omega
    clear hI
    go_enter Try.func6, Try.ntmps6
    go_wp2_with fail
    refine (alive_yes _).mono ?_
    rintro e w1 ⟨rfl, f1⟩
    go_wp2_with fail
    go_ret
    exact ⟨rfl, f1⟩
end Go.Proofs.Ythbgaglfgkmblaa.A

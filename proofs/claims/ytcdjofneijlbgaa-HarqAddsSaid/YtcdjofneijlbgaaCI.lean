/- HarqSignals' walk. -/
import Derived.Test.YtcdjofneijlbgaaCH
import Derived.Deep.CutBlock
import Derived.Deep.DeepCutAuto
namespace Go.Proofs.Ytcdjofneijlbgaa.A
open Go.RowKit Go.Proofs.Ytcdjofneijlbgaa.K Go.Proofs.Ytcdjofneijlbgaa.F Go.Proofs.Ytcdjofneijlbgaa.N
set_option linter.unusedVariables false
set_option linter.unusedSimpArgs false

theorem ints_bin {w : World} {A : Option Addr} {n : Nat} {zs : List Int} (h : Ints w .u8 A n zs) : Bin w A (zs.map Int.toNat) ∧ (zs.map Int.toNat).length = n ∧ ∀ c ∈ zs.map Int.toNat, c < 256 := by
  obtain ⟨h1, h2, h3, h4⟩ := h
  refine ⟨⟨by simp, fun h0 => ?_⟩, by simp [h1], bytes_lt h3⟩
  rw [List.length_map, h1] at h0
  obtain ⟨ad, e, hb, hc⟩ := h4 h0
  refine ⟨ad, e, hb, fun j u hu => ?_⟩
  rw [List.getElem?_map, List.getElem?_map] at hu
  by_cases hj : j < zs.length
  · rw [List.getElem?_eq_getElem hj] at hu
    simp only [Option.map_some, Option.some.injEq] at hu
    have h5 := hc j (by omega)
    rw [List.getD_eq_getElem?_getD, List.getElem?_eq_getElem hj] at h5
    rw [h5, ← hu]
    have h6 := (u8_of (h3 _ (List.getElem_mem hj))).1
    show some (Value.int .u8 zs[j]) = some (Value.int .u8 ((zs[j].toNat : Nat) : Int))
    rw [Int.toNat_of_nonneg h6]
  · rw [List.getElem?_eq_none (by omega)] at hu; simp at hu
theorem open_bytes {H : Type} {enc : TypeId × Value → H} {w : World} {m : Nat} {v : Value} {y : DataW H × List MemPlace} (h : DataW.trod enc Try.prog w 0 (fun _ => true) true m 33 [v] = some y) :
    ∃ A l c bs, v = .slice A l c ∧ Bin w A bs ∧ bs.length = l ∧ (∀ c ∈ bs, c < 256) ∧ l ≤ 9223372036854775807 := by
  obtain ⟨A, l, c, rfl⟩ : ∃ A l c, v = .slice A l c := by
    rcases DataW.trod_slice Try.underlying33 h with ⟨hcs, _⟩ | ⟨a, l, c, elems, rest, n, _, hcs, _, _, hl, _⟩
    · simp at hcs
      exact ⟨none, 0, 0, hcs⟩
    · simp at hcs
      exact ⟨_, _, _, hcs⟩
  obtain ⟨zs, hz⟩ := open_Ints (k := .u8) (A := A) (len := l) (cap := c) Try.underlying33 Try.underlying5 (by kernel_rfl) ⟨m, h⟩
  obtain ⟨h1, h2, h3⟩ := ints_bin hz
  exact ⟨A, l, c, _, rfl, h1, h2, h3, hz.2.1⟩
theorem open_bins {H : Type} {enc : TypeId × Value → H} {w : World} {A : Option Addr} {len cap : Nat} {d : DataW H} {p : List MemPlace}
    (h : DataW.Trod enc Try.prog w 0 (fun _ => true) true 33 (.slice A len cap) d p) : ∃ bs, Bin w A bs ∧ bs.length = len ∧ (∀ c ∈ bs, c < 256) ∧ len ≤ 9223372036854775807 := by
  obtain ⟨m, h⟩ := h
  obtain ⟨A', l', c', bs, e, h1, h2, h3, h4⟩ := open_bytes h
  injection e with e1 e2 e3
  subst e1 e2 e3
  exact ⟨bs, h1, h2, h3, h4⟩
theorem sgl_len (L : List Nat) : (sgl L).length = 4 * (L.length + 2) := by unfold sgl; rw [ofL_len, clo_len]
theorem eq_self (x : Int) (h : x.natAbs < 2 ^ 53) : (FloatKind.f64.format.order (FI x) (FI x) == some .eq) = true := by rw [cmp_eq _ _ h h]; simp
set_option maxRecDepth 100000 in
set_option maxHeartbeats 8000000 in
theorem signals_walk (A : Option Addr) (n c : Nat) (bs : List Nat) (at_ re im : Int) (w : World) (hI : Bin w A bs ∧ bs.length = n ∧ (∀ c ∈ bs, c < 256) ∧ n ≤ 9223372036854775807) (wa : (Lit.int .i64 at_).wf = true) (wr : (Lit.int .i64 re).wf = true) (wi : (Lit.int .i64 im).wf = true) :
    Calls Try.prog 4 #[.slice A n c, .int .i64 at_, .int .i64 re, .int .i64 im] w fun e w' => e = .returned (.bool true) ∧ Frm No w w' := by
  clear wa wr wi
  obtain ⟨hbi, hlen, h256, h63⟩ := hI
  by_cases h1 : 4200 < n
  · have i1 : (4200 : Int) < (n : Int) := by omega
    clear hbi hlen h256
    go_enter Try.func4, Try.ntmps4
    go_wp2_with fail
    refine (alive_yes _).mono ?_
    rintro e w7 ⟨rfl, f7⟩
    go_wp2_with fail
    go_ret
    exact ⟨rfl, f7⟩
  · have i1 : ¬ (4200 : Int) < (n : Int) := by omega
    have hsg := signal_is w A n c bs hbi hlen h256 (by omega)
    by_cases h2 : 4096 < n
    · have i2 : (4096 : Int) < (n : Int) := by omega
      rw [show sgE n = 2 from if_pos h2, if_pos h2] at hsg
      clear hbi hlen h256
      go_enter Try.func4, Try.ntmps4
      go_wp2_with fail
      refine hsg.mono ?_
      rintro e w3 ⟨v3, rfl, R3, F3⟩
      obtain ⟨A3, c3, rfl, -⟩ := rdC_of R3
      simp only [List.length_nil]
      clear hsg R3
      go_wp2_with fail
      refine (alive_yes _).mono ?_
      rintro e w7 ⟨rfl, f7⟩
      go_wp2_with fail
      go_ret
      exact ⟨rfl, F3.thenN f7⟩
    · have i2 : ¬ (4096 : Int) < (n : Int) := by omega
      rw [show sgE n = 0 from if_neg h2, if_neg h2] at hsg
      have hrs := fun w' (f : Frm No w w') => rsignal_is w' A n c bs (hbi.frmN f) hlen h256 (by omega)
      obtain ⟨S, hS⟩ : ∃ S, sgl bs = S := ⟨_, rfl⟩
      obtain ⟨K, hK⟩ : ∃ K, S.length = K := ⟨_, rfl⟩
      have hK2 : K ≤ 16392 := by rw [← hK, ← hS, sgl_len]; omega
      have h4 : ∀ p ∈ S, Four p := by rw [← hS]; exact ofL_four _
      have hsm : Sml S := sml_of h4
      have HS := Lib.hid (And.intro hK (And.intro hsm h4))
      rw [hS] at hsg hrs
      have HR := Lib.hid hrs
      clear hbi hlen h256 hrs hK h4 hsm hS
      go_enter Try.func4, Try.ntmps4
      go_wp2_with fail
      refine hsg.mono ?_
      rintro e w3 ⟨v3, rfl, R3, F3⟩
      obtain ⟨A3, c3, rfl, rd3⟩ := rdC_of R3
      rw [HS.out.1]
      have H3 := Lib.hid (And.intro F3 rd3)
      clear hsg R3 F3 rd3
      go_wp2_with fail
      refine (HR.out w3 H3.out.1).mono ?_
      rintro e w4 ⟨v4, rfl, R4, F4⟩
      obtain ⟨A4, c4, rfl, rd4⟩ := rdP_of R4
      rw [HS.out.1]
      have hno := noise_is w4 A3 K c3 S at_ re im (H3.out.2.frmN F4) HS.out.1 (by omega) HS.out.2.1
      have H4 := Lib.hid (And.intro (H3.out.1.thenN F4) (And.intro (H3.out.2.frmN F4) rd4))
      clear R4 F4 rd4
      by_cases hb : at_ < 0 ∨ (K : Int) ≤ at_ ∨ re < -100 ∨ 100 < re ∨ im < -100 ∨ 100 < im
      · have hE : noE K at_ re im = 1 := if_pos hb
        have hL : noL S at_ re im = [] := by unfold noL; rw [HS.out.1, hE, if_neg (by decide)]
        rw [hE, hL] at hno
        clear hE hL
        have HB := Lib.hid hb
        clear hb
        go_wp2_with fail
        refine hno.mono ?_
        rintro e w5 ⟨v5, rfl, R5, F5⟩
        obtain ⟨A5, c5, rfl, rd5⟩ := rdC_of R5
        simp only [List.length_nil]
        have H5 := Lib.hid (And.intro (H4.out.1.thenN F5) (And.intro (RdC.frmN H4.out.2.1 F5) (RdP.frmN H4.out.2.2 F5)))
        clear hno R5 F5 rd5
        go_upto_region 8 with fail
        go_cut [14] (fun v14 wx => v14 = .bool true ∧ wx = w5)
        case first =>
          have hb := HB.out
          rcases hb with hb | hb
          · go_wp2_with fail
            go_meet
            exact ⟨rfl, rfl⟩
          by_cases a0 : at_ < 0
          · go_wp2_with fail
            go_meet
            exact ⟨rfl, rfl⟩
          rcases hb with hb | hb
          · go_wp2_with fail
            go_meet
            exact ⟨rfl, rfl⟩
          by_cases a1 : (K : Int) ≤ at_
          · go_wp2_with fail
            go_meet
            exact ⟨rfl, rfl⟩
          rcases hb with hb | hb
          · go_wp2_with fail
            go_meet
            exact ⟨rfl, rfl⟩
          by_cases a2 : re < -100
          · go_wp2_with fail
            go_meet
            exact ⟨rfl, rfl⟩
          rcases hb with hb | hb
          · go_wp2_with fail
            go_meet
            exact ⟨rfl, rfl⟩
          by_cases a3 : 100 < re
          · go_wp2_with fail
            go_meet
            exact ⟨rfl, rfl⟩
          rcases hb with hb | hb
          · go_wp2_with fail
            go_meet
            exact ⟨rfl, rfl⟩
          by_cases a4 : im < -100
          · go_wp2_with fail
            go_meet
            exact ⟨rfl, rfl⟩
          go_wp2_with fail
          go_meet
          exact ⟨rfl, rfl⟩
        case rest =>
          obtain ⟨rfl, hwx⟩ := hcut
          have hwx2 := hwx.symm
          clear hwx
          subst hwx2
          go_wp2_with fail
          go_loopw [15] (fun vi wr => ∃ i : Nat, vi = .int .i64 i ∧ i ≤ K ∧ Frm No w5 wr) (fun vi _ => K - (intOf vi).toNat)
          case atStart => exact ⟨0, rfl, by omega, Frm.refl _ _⟩
          case round =>
            obtain ⟨i, rfl, hin, F⟩ := hrel
            have i0' : (0 : Int) ≤ (i : Int) := Int.natCast_nonneg _
            by_cases hlt : i < K
            · have i1 : (i : Int) < (K : Int) := by omega
              obtain ⟨ad1, rfl, -, d1⟩ := (RdC.frmN H5.out.2.1 F) i (by rw [HS.out.1]; exact hlt)
              obtain ⟨ad2, rfl, -, d2, d3⟩ := (RdP.frmN H5.out.2.2 F) i (by rw [HS.out.1]; exact hlt)
              have h4 := HS.out.2.2 _ (mem_getD (L := S) (i := i) (by rw [HS.out.1]; exact hlt))
              obtain ⟨⟨x, y⟩, hxy⟩ : ∃ p, S.getD i (0, 0) = p := ⟨_, rfl⟩
              rw [hxy] at d1 d2 d3 h4
              have hs4 := h4.sml
              simp only at hs4 d2 d3
              have d1' : wr.cell? (ad1.add i) = some (.complex .f64 (FI x) (FI y)) := d1
              have q1 := eq_self x (by omega)
              have q2 := eq_self y (by omega)
              obtain ⟨gp, hgp⟩ : ∃ gp, wr.heap.size = gp := ⟨_, rfl⟩
              have hgpl : w5.heap.size ≤ gp := by have := F.size; omega
              obtain ⟨wp, hwp⟩ : ∃ wp, wr.alloc (.cells #[.float .f64 (FI x), .float .f64 (FI y)] 60) = wp := ⟨_, rfl⟩
              have hO : Blk wp gp #[.float .f64 (FI x), .float .f64 (FI y)] 60 := by rw [← hgp, ← hwp]; exact Blk.new _ _ _
              have G1 : Frm No wr wp := by rw [← hwp]; exact (Frm.refl No wr).alloc _
              have e1 : wp.cell? (ad1.add i) = some (.complex .f64 (FI x) (FI y)) := cell_keep' G1 d1'
              have p0 : wp.cell? ⟨gp, 0, none⟩ = some (.float .f64 (FI x)) := hO.cell 0
              have p1 : wp.cell? ⟨gp, 1, none⟩ = some (.float .f64 (FI y)) := hO.cell 1
              have HXY := Lib.hid (And.intro hxy (And.intro hs4 hO))
              have HG := Lib.hid (And.intro (F.thenN G1) hgpl)
              have hst := store_fl
              clear d1 h4 hs4 hxy hO hgpl
              go_upto_region 15 with fail
              clear hwp hgp d1' d2 d3 G1 F
              refine wp_region_N (S := fun w' => w'.cell? (ad1.add i) = some (.complex .f64 (FI x) (FI y)) ∧ w'.cell? ⟨gp, 0, none⟩ = some (.float .f64 (FI x)) ∧ w'.cell? ⟨gp, 1, none⟩ = some (.float .f64 (FI y))) 99 (by kernel_rfl) ⟨e1, p0, p1⟩ (fun hHeld => ?_)
              refine wpAnyN_take (i := 0) (v := ?rnv4r15x1_0) rfl (by kernel_rfl) (by kernel_rfl) (by kernel_rfl) (fun _ _ _ h => h) (by decide) (by kernel_rfl) (Or.inl ⟨by rfl, ?rny4r15x1_0⟩) (by assumption) ?rnr4r15x1_0
              case rny4r15x1_0 => (intro w hSw; (try dsimp only at hSw); go_simp; try with_reducible rfl)
              try simp only [Act.put, List.setIfInBounds_toArray, List.set_cons_zero, List.set_cons_succ, List.getElem_toArray, List.getElem_cons_zero, List.getElem_cons_succ]
              refine wpAnyN_take (i := 1) (v := ?rnv4r15x1_1) rfl (by kernel_rfl) (by kernel_rfl) (by kernel_rfl) (fun _ _ _ h => h) (by decide) (by kernel_rfl) (Or.inl ⟨by rfl, ?rny4r15x1_1⟩) (by assumption) ?rnr4r15x1_1
              case rny4r15x1_1 => (intro w hSw; (try dsimp only at hSw); go_simp; try with_reducible rfl)
              try simp only [Act.put, List.setIfInBounds_toArray, List.set_cons_zero, List.set_cons_succ, List.getElem_toArray, List.getElem_cons_zero, List.getElem_cons_succ]
              refine wpAnyN_take (i := 2) (v := ?rnv4r15x1_2) rfl (by kernel_rfl) (by kernel_rfl) (by kernel_rfl) (fun _ _ _ h => h) (by decide) (by kernel_rfl) (Or.inl ⟨by rfl, ?rny4r15x1_2⟩) (by assumption) ?rnr4r15x1_2
              case rny4r15x1_2 => (intro w hSw; (try dsimp only at hSw); go_simp; try with_reducible rfl)
              try simp only [Act.put, List.setIfInBounds_toArray, List.set_cons_zero, List.set_cons_succ, List.getElem_toArray, List.getElem_cons_zero, List.getElem_cons_succ]
              refine wpAnyN_take (i := 3) (v := ?rnv4r15x1_3) rfl (by kernel_rfl) (by kernel_rfl) (by kernel_rfl) (fun _ _ _ h => h) (by decide) (by kernel_rfl) (Or.inl ⟨by rfl, ?rny4r15x1_3⟩) (by assumption) ?rnr4r15x1_3
              case rny4r15x1_3 => (intro w hSw; (try dsimp only at hSw); go_simp; try with_reducible rfl)
              try simp only [Act.put, List.setIfInBounds_toArray, List.set_cons_zero, List.set_cons_succ, List.getElem_toArray, List.getElem_cons_zero, List.getElem_cons_succ]
              refine wpAnyN_take (i := 4) (v := ?rnv4r15x1_4) rfl (by kernel_rfl) (by kernel_rfl) (by kernel_rfl) (fun _ _ _ h => h) (by decide) (by kernel_rfl) (Or.inl ⟨by rfl, ?rny4r15x1_4⟩) (by assumption) ?rnr4r15x1_4
              case rny4r15x1_4 => (intro w hSw; (try dsimp only at hSw); go_simp; try with_reducible rfl)
              try simp only [Act.put, List.setIfInBounds_toArray, List.set_cons_zero, List.set_cons_succ, List.getElem_toArray, List.getElem_cons_zero, List.getElem_cons_succ]
              refine wpAnyN_take (i := 5) (v := ?rnv4r15x1_5) rfl (by kernel_rfl) (by kernel_rfl) (by kernel_rfl) (fun _ _ _ h => h) (by decide) (by kernel_rfl) (Or.inl ⟨by rfl, ?rny4r15x1_5⟩) (by assumption) ?rnr4r15x1_5
              case rny4r15x1_5 => (intro w hSw; (try dsimp only at hSw); go_simp; try with_reducible rfl)
              try simp only [Act.put, List.setIfInBounds_toArray, List.set_cons_zero, List.set_cons_succ, List.getElem_toArray, List.getElem_cons_zero, List.getElem_cons_succ]
              refine wpAnyN_take (i := 6) (v := ?rnv4r15x1_6) rfl (by kernel_rfl) (by kernel_rfl) (by kernel_rfl) (fun _ _ _ h => h) (by decide) (by kernel_rfl) (Or.inl ⟨by rfl, ?rny4r15x1_6⟩) (by assumption) ?rnr4r15x1_6
              case rny4r15x1_6 => (intro w hSw; (try dsimp only at hSw); go_simp; try with_reducible rfl)
              try simp only [Act.put, List.setIfInBounds_toArray, List.set_cons_zero, List.set_cons_succ, List.getElem_toArray, List.getElem_cons_zero, List.getElem_cons_succ]
              refine wpAnyN_take (i := 7) (v := ?rnv4r15x1_7) rfl (by kernel_rfl) (by kernel_rfl) (by kernel_rfl) (fun _ _ _ h => h) (by decide) (by kernel_rfl) (Or.inl ⟨by rfl, ?rny4r15x1_7⟩) (by assumption) ?rnr4r15x1_7
              case rny4r15x1_7 => (intro w hSw; (try dsimp only at hSw); go_simp; try with_reducible rfl)
              try simp only [Act.put, List.setIfInBounds_toArray, List.set_cons_zero, List.set_cons_succ, List.getElem_toArray, List.getElem_cons_zero, List.getElem_cons_succ]
              refine wpAnyN_take (i := 8) (v := ?rnv4r15x1_8) rfl (by kernel_rfl) (by kernel_rfl) (by kernel_rfl) (fun _ _ _ h => h) (by decide) (by kernel_rfl) (Or.inl ⟨by rfl, ?rny4r15x1_8⟩) (by assumption) ?rnr4r15x1_8
              case rny4r15x1_8 => (intro w hSw; (try dsimp only at hSw); go_simp; try with_reducible rfl)
              try simp only [Act.put, List.setIfInBounds_toArray, List.set_cons_zero, List.set_cons_succ, List.getElem_toArray, List.getElem_cons_zero, List.getElem_cons_succ]
              refine wpAnyN_take (i := 9) (v := ?rnv4r15x1_9) rfl (by kernel_rfl) (by kernel_rfl) (by kernel_rfl) (fun _ _ _ h => h) (by decide) (by kernel_rfl) (Or.inl ⟨by rfl, ?rny4r15x1_9⟩) (by assumption) ?rnr4r15x1_9
              case rny4r15x1_9 => (intro w hSw; (try dsimp only at hSw); go_simp; try with_reducible rfl)
              try simp only [Act.put, List.setIfInBounds_toArray, List.set_cons_zero, List.set_cons_succ, List.getElem_toArray, List.getElem_cons_zero, List.getElem_cons_succ]
              refine wpAnyN_done (by kernel_rfl) ?_ _
              obtain ⟨wd, hwd⟩ : ∃ wd, wp.drew = wd := ⟨_, rfl⟩
              have HD := Lib.hid (show Blk wd gp #[.float .f64 (FI x), .float .f64 (FI y)] 60 ∧ Frm No w5 wd from by rw [← hwd]; exact ⟨HXY.out.2.2, HG.out.1.drew⟩)
              rw [hwd]
              clear e1 p0 p1 hHeld hwd
              by_cases hia : (i : Int) = at_
              · go_wp2_with fail
                go_quiet (fail)
                go_wp2_with fail
                go_roundw
                case rel => exact ⟨i + 1, by go_num, by omega, (HD.out.2).drewN _⟩
                case measure => simp [intOf]; omega
              · go_wp2_with fail
                go_quiet (fail)
                go_wp2_with fail
                go_roundw
                case rel => exact ⟨i + 1, by go_num, by omega, (HD.out.2).drewN _⟩
                case measure => simp [intOf]; omega
            · have i1 : ¬ (i : Int) < (K : Int) := by omega
              go_wp2_with fail
              refine (alive_yes _).mono ?_
              rintro e w7 ⟨rfl, f7⟩
              go_wp2_with fail
              go_ret
              exact ⟨rfl, (H5.out.1.thenN F).thenN f7⟩
      · have hE : noE K at_ re im = 0 := if_neg hb
        obtain ⟨b1, b2, b3, b4, b5, b6⟩ : 0 ≤ at_ ∧ at_ < (K : Int) ∧ -100 ≤ re ∧ re ≤ 100 ∧ -100 ≤ im ∧ im ≤ 100 := by omega
        obtain ⟨a, rfl⟩ := Int.eq_ofNat_of_zero_le b1
        have haK : a < K := by omega
        have hL : noL S (a : Int) re im = S.set a ((S.getD a (0, 0)).1 + re, (S.getD a (0, 0)).2 + im) := by unfold noL; rw [HS.out.1, hE, if_pos rfl, Int.toNat_natCast]
        have hLl : (noL S (a : Int) re im).length = K := by rw [hL, List.length_set]; exact HS.out.1
        rw [hE] at hno
        have HL := Lib.hid (And.intro hL hLl)
        clear hE hL hb hLl
        go_wp2_with fail
        refine hno.mono ?_
        rintro e w5 ⟨v5, rfl, R5, F5⟩
        obtain ⟨A5, c5, rfl, rd5⟩ := rdC_of R5
        rw [HL.out.2]
        have H5 := Lib.hid (And.intro (H4.out.1.thenN F5) (And.intro (RdC.frmN H4.out.2.1 F5) (RdP.frmN H4.out.2.2 F5)))
        have HN := Lib.hid (And.intro HL.out.1 (And.intro HL.out.2 rd5))
        clear hno R5 F5 rd5
        go_upto_region 8 with fail
        go_cut [14] (fun v14 wx => v14 = .bool false ∧ wx = w5)
        case first =>
          go_wp2_with fail
          go_meet
          exact ⟨by simp; omega, rfl⟩
        case rest =>
          obtain ⟨rfl, hwx⟩ := hcut
          have hwx2 := hwx.symm
          clear hwx
          subst hwx2
          go_wp2_with fail
          go_loopw [15] (fun vi wr => ∃ i : Nat, vi = .int .i64 i ∧ i ≤ K ∧ Frm No w5 wr) (fun vi _ => K - (intOf vi).toNat)
          case atStart => exact ⟨0, rfl, by omega, Frm.refl _ _⟩
          case round =>
            obtain ⟨i, rfl, hin, F⟩ := hrel
            have i0' : (0 : Int) ≤ (i : Int) := Int.natCast_nonneg _
            by_cases hlt : i < K
            · have i1 : (i : Int) < (K : Int) := by omega
              obtain ⟨ad1, rfl, -, d1⟩ := (RdC.frmN H5.out.2.1 F) i (by rw [HS.out.1]; exact hlt)
              obtain ⟨ad2, rfl, -, d2, d3⟩ := (RdP.frmN H5.out.2.2 F) i (by rw [HS.out.1]; exact hlt)
              have h4 := HS.out.2.2 _ (mem_getD (L := S) (i := i) (by rw [HS.out.1]; exact hlt))
              obtain ⟨⟨x, y⟩, hxy⟩ : ∃ p, S.getD i (0, 0) = p := ⟨_, rfl⟩
              rw [hxy] at d1 d2 d3 h4
              have hs4 := h4.sml
              simp only at hs4 d2 d3
              have d1' : wr.cell? (ad1.add i) = some (.complex .f64 (FI x) (FI y)) := d1
              have q1 := eq_self x (by omega)
              have q2 := eq_self y (by omega)
              obtain ⟨gp, hgp⟩ : ∃ gp, wr.heap.size = gp := ⟨_, rfl⟩
              have hgpl : w5.heap.size ≤ gp := by have := F.size; omega
              obtain ⟨wp, hwp⟩ : ∃ wp, wr.alloc (.cells #[.float .f64 (FI x), .float .f64 (FI y)] 60) = wp := ⟨_, rfl⟩
              have hO : Blk wp gp #[.float .f64 (FI x), .float .f64 (FI y)] 60 := by rw [← hgp, ← hwp]; exact Blk.new _ _ _
              have G1 : Frm No wr wp := by rw [← hwp]; exact (Frm.refl No wr).alloc _
              have e1 : wp.cell? (ad1.add i) = some (.complex .f64 (FI x) (FI y)) := cell_keep' G1 d1'
              have p0 : wp.cell? ⟨gp, 0, none⟩ = some (.float .f64 (FI x)) := hO.cell 0
              have p1 : wp.cell? ⟨gp, 1, none⟩ = some (.float .f64 (FI y)) := hO.cell 1
              have HXY := Lib.hid (And.intro hxy (And.intro hs4 hO))
              have HG := Lib.hid (And.intro (F.thenN G1) hgpl)
              have hst := store_fl
              clear d1 h4 hs4 hxy hO hgpl
              go_upto_region 15 with fail
              clear hwp hgp d1' d2 d3 G1 F
              refine wp_region_N (S := fun w' => w'.cell? (ad1.add i) = some (.complex .f64 (FI x) (FI y)) ∧ w'.cell? ⟨gp, 0, none⟩ = some (.float .f64 (FI x)) ∧ w'.cell? ⟨gp, 1, none⟩ = some (.float .f64 (FI y))) 99 (by kernel_rfl) ⟨e1, p0, p1⟩ (fun hHeld => ?_)
              refine wpAnyN_take (i := 0) (v := ?rnv4r15x2_0) rfl (by kernel_rfl) (by kernel_rfl) (by kernel_rfl) (fun _ _ _ h => h) (by decide) (by kernel_rfl) (Or.inl ⟨by rfl, ?rny4r15x2_0⟩) (by assumption) ?rnr4r15x2_0
              case rny4r15x2_0 => (intro w hSw; (try dsimp only at hSw); go_simp; try with_reducible rfl)
              try simp only [Act.put, List.setIfInBounds_toArray, List.set_cons_zero, List.set_cons_succ, List.getElem_toArray, List.getElem_cons_zero, List.getElem_cons_succ]
              refine wpAnyN_take (i := 1) (v := ?rnv4r15x2_1) rfl (by kernel_rfl) (by kernel_rfl) (by kernel_rfl) (fun _ _ _ h => h) (by decide) (by kernel_rfl) (Or.inl ⟨by rfl, ?rny4r15x2_1⟩) (by assumption) ?rnr4r15x2_1
              case rny4r15x2_1 => (intro w hSw; (try dsimp only at hSw); go_simp; try with_reducible rfl)
              try simp only [Act.put, List.setIfInBounds_toArray, List.set_cons_zero, List.set_cons_succ, List.getElem_toArray, List.getElem_cons_zero, List.getElem_cons_succ]
              refine wpAnyN_take (i := 2) (v := ?rnv4r15x2_2) rfl (by kernel_rfl) (by kernel_rfl) (by kernel_rfl) (fun _ _ _ h => h) (by decide) (by kernel_rfl) (Or.inl ⟨by rfl, ?rny4r15x2_2⟩) (by assumption) ?rnr4r15x2_2
              case rny4r15x2_2 => (intro w hSw; (try dsimp only at hSw); go_simp; try with_reducible rfl)
              try simp only [Act.put, List.setIfInBounds_toArray, List.set_cons_zero, List.set_cons_succ, List.getElem_toArray, List.getElem_cons_zero, List.getElem_cons_succ]
              refine wpAnyN_take (i := 3) (v := ?rnv4r15x2_3) rfl (by kernel_rfl) (by kernel_rfl) (by kernel_rfl) (fun _ _ _ h => h) (by decide) (by kernel_rfl) (Or.inl ⟨by rfl, ?rny4r15x2_3⟩) (by assumption) ?rnr4r15x2_3
              case rny4r15x2_3 => (intro w hSw; (try dsimp only at hSw); go_simp; try with_reducible rfl)
              try simp only [Act.put, List.setIfInBounds_toArray, List.set_cons_zero, List.set_cons_succ, List.getElem_toArray, List.getElem_cons_zero, List.getElem_cons_succ]
              refine wpAnyN_take (i := 4) (v := ?rnv4r15x2_4) rfl (by kernel_rfl) (by kernel_rfl) (by kernel_rfl) (fun _ _ _ h => h) (by decide) (by kernel_rfl) (Or.inl ⟨by rfl, ?rny4r15x2_4⟩) (by assumption) ?rnr4r15x2_4
              case rny4r15x2_4 => (intro w hSw; (try dsimp only at hSw); go_simp; try with_reducible rfl)
              try simp only [Act.put, List.setIfInBounds_toArray, List.set_cons_zero, List.set_cons_succ, List.getElem_toArray, List.getElem_cons_zero, List.getElem_cons_succ]
              refine wpAnyN_take (i := 5) (v := ?rnv4r15x2_5) rfl (by kernel_rfl) (by kernel_rfl) (by kernel_rfl) (fun _ _ _ h => h) (by decide) (by kernel_rfl) (Or.inl ⟨by rfl, ?rny4r15x2_5⟩) (by assumption) ?rnr4r15x2_5
              case rny4r15x2_5 => (intro w hSw; (try dsimp only at hSw); go_simp; try with_reducible rfl)
              try simp only [Act.put, List.setIfInBounds_toArray, List.set_cons_zero, List.set_cons_succ, List.getElem_toArray, List.getElem_cons_zero, List.getElem_cons_succ]
              refine wpAnyN_take (i := 6) (v := ?rnv4r15x2_6) rfl (by kernel_rfl) (by kernel_rfl) (by kernel_rfl) (fun _ _ _ h => h) (by decide) (by kernel_rfl) (Or.inl ⟨by rfl, ?rny4r15x2_6⟩) (by assumption) ?rnr4r15x2_6
              case rny4r15x2_6 => (intro w hSw; (try dsimp only at hSw); go_simp; try with_reducible rfl)
              try simp only [Act.put, List.setIfInBounds_toArray, List.set_cons_zero, List.set_cons_succ, List.getElem_toArray, List.getElem_cons_zero, List.getElem_cons_succ]
              refine wpAnyN_take (i := 7) (v := ?rnv4r15x2_7) rfl (by kernel_rfl) (by kernel_rfl) (by kernel_rfl) (fun _ _ _ h => h) (by decide) (by kernel_rfl) (Or.inl ⟨by rfl, ?rny4r15x2_7⟩) (by assumption) ?rnr4r15x2_7
              case rny4r15x2_7 => (intro w hSw; (try dsimp only at hSw); go_simp; try with_reducible rfl)
              try simp only [Act.put, List.setIfInBounds_toArray, List.set_cons_zero, List.set_cons_succ, List.getElem_toArray, List.getElem_cons_zero, List.getElem_cons_succ]
              refine wpAnyN_take (i := 8) (v := ?rnv4r15x2_8) rfl (by kernel_rfl) (by kernel_rfl) (by kernel_rfl) (fun _ _ _ h => h) (by decide) (by kernel_rfl) (Or.inl ⟨by rfl, ?rny4r15x2_8⟩) (by assumption) ?rnr4r15x2_8
              case rny4r15x2_8 => (intro w hSw; (try dsimp only at hSw); go_simp; try with_reducible rfl)
              try simp only [Act.put, List.setIfInBounds_toArray, List.set_cons_zero, List.set_cons_succ, List.getElem_toArray, List.getElem_cons_zero, List.getElem_cons_succ]
              refine wpAnyN_take (i := 9) (v := ?rnv4r15x2_9) rfl (by kernel_rfl) (by kernel_rfl) (by kernel_rfl) (fun _ _ _ h => h) (by decide) (by kernel_rfl) (Or.inl ⟨by rfl, ?rny4r15x2_9⟩) (by assumption) ?rnr4r15x2_9
              case rny4r15x2_9 => (intro w hSw; (try dsimp only at hSw); go_simp; try with_reducible rfl)
              try simp only [Act.put, List.setIfInBounds_toArray, List.set_cons_zero, List.set_cons_succ, List.getElem_toArray, List.getElem_cons_zero, List.getElem_cons_succ]
              refine wpAnyN_done (by kernel_rfl) ?_ _
              obtain ⟨wd, hwd⟩ : ∃ wd, wp.drew = wd := ⟨_, rfl⟩
              have HD := Lib.hid (show Blk wd gp #[.float .f64 (FI x), .float .f64 (FI y)] 60 ∧ Frm No w5 wd from by rw [← hwd]; exact ⟨HXY.out.2.2, HG.out.1.drew⟩)
              rw [hwd]
              clear e1 p0 p1 hHeld hwd
              by_cases hia : i = a
              · subst hia
                have hnl : (noL S (i : Int) re im).getD i (0, 0) = (x + re, y + im) := by
                  rw [HN.out.1, List.getD_eq_getElem?_getD, List.getElem?_set, if_pos rfl, if_pos (by rw [HS.out.1]; exact hlt), HXY.out.1]; rfl
                have hadd1 : ∀ w', (binOp .add 58 (.float .f64 (FI x)) (.float .f64 (floatOfInt .f64 re))).run Try.prog w' = .ok (.float .f64 (FI (x + re))) w' := fun w' => run_float_arith w' .add 58 .f64 _ _ _ (sum_FI x re (by have := HXY.out.2.1; omega) (by omega))
                have hadd2 : ∀ w', (binOp .add 58 (.float .f64 (FI y)) (.float .f64 (floatOfInt .f64 im))).run Try.prog w' = .ok (.float .f64 (FI (y + im))) w' := fun w' => run_float_arith w' .add 58 .f64 _ _ _ (sum_FI y im (by have := HXY.out.2.1; omega) (by omega))
                have z0 : wd.frozen? ⟨gp, 0, none⟩ = false := HD.out.1.free 0
                have p0 : wd.cell? ⟨gp, 0, none⟩ = some (.float .f64 (FI x)) := HD.out.1.cell 0
                have p1 : wd.cell? ⟨gp, 1, none⟩ = some (.float .f64 (FI y)) := HD.out.1.cell 1
                have z1 : wd.frozen? ⟨gp, 1, none⟩ = false := HD.out.1.free 1
                have hgpl := HD.out.1.lt
                have HNL := Lib.hid hnl
                obtain ⟨x2, hx2⟩ : ∃ x2, x + re = x2 := ⟨_, rfl⟩
                obtain ⟨y2, hy2⟩ : ∃ y2, y + im = y2 := ⟨_, rfl⟩
                rw [hx2] at hadd1
                rw [hy2] at hadd2
                have HX2 := Lib.hid (And.intro hx2 hy2)
                have d3 : (wd.setCell ⟨gp, 0, none⟩ (.float .f64 (FI x2))).cell? ⟨gp, 1, none⟩ = some (.float .f64 (FI y)) := (World.cell?_setCell_other _ _ _ _ (by intro e; have := congrArg Addr.off e; simp at this)).trans p1
                have d2 : (wd.setCell ⟨gp, 0, none⟩ (.float .f64 (FI x2))).frozen? ⟨gp, 1, none⟩ = false := by simpa using z1
                clear hnl q1 q2 hx2 hy2
                go_upto_region 19 with fail
                obtain ⟨wq, hwq⟩ : ∃ wq, (wd.setCell ⟨gp, 0, none⟩ (.float .f64 (FI x2))).setCell ⟨gp, 1, none⟩ (.float .f64 (FI y2)) = wq := ⟨_, rfl⟩
                have hOq : Blk wq gp #[.float .f64 (FI x2), .float .f64 (FI y2)] 60 := by
                  rw [← hwq]
                  simpa using (HD.out.1.set 0 (.float .f64 (FI x2))).set 1 (.float .f64 (FI y2))
                have Fq : Frm No w5 wq := by
                  rw [← hwq]
                  exact ((HD.out.2).set (.inr HG.out.2) _).set (.inr HG.out.2) _
                rw [hwq]
                obtain ⟨ad5, rfl, -, e5⟩ := (RdC.frmN HN.out.2.2 Fq) i (by rw [HN.out.2.1]; exact hlt)
                rw [HNL.out, HX2.out.1, HX2.out.2] at e5
                have e5' : wq.cell? (ad5.add i) = some (.complex .f64 (FI x2) (FI y2)) := e5
                have p0 : wq.cell? ⟨gp, 0, none⟩ = some (.float .f64 (FI x2)) := hOq.cell 0
                have p1 : wq.cell? ⟨gp, 1, none⟩ = some (.float .f64 (FI y2)) := hOq.cell 1
                have q1 := eq_self x2 (by have := HX2.out.1; have := HXY.out.2.1; omega)
                have q2 := eq_self y2 (by have := HX2.out.2; have := HXY.out.2.1; omega)
                have HFQ := Lib.hid Fq
                clear e5 hwq hOq Fq hadd1 hadd2 z0 z1 d3 d2
                refine wp_region_N (S := fun w' => w'.cell? (ad5.add i) = some (.complex .f64 (FI x2) (FI y2)) ∧ w'.cell? ⟨gp, 0, none⟩ = some (.float .f64 (FI x2)) ∧ w'.cell? ⟨gp, 1, none⟩ = some (.float .f64 (FI y2))) 99 (by kernel_rfl) ⟨e5', p0, p1⟩ (fun hHeld => ?_)
                refine wpAnyN_take (i := 0) (v := ?rnv4r19x4_0) rfl (by kernel_rfl) (by kernel_rfl) (by kernel_rfl) (fun _ _ _ h => h) (by decide) (by kernel_rfl) (Or.inl ⟨by rfl, ?rny4r19x4_0⟩) (by assumption) ?rnr4r19x4_0
                case rny4r19x4_0 => (intro w hSw; (try dsimp only at hSw); go_simp; try with_reducible rfl)
                try simp only [Act.put, List.setIfInBounds_toArray, List.set_cons_zero, List.set_cons_succ, List.getElem_toArray, List.getElem_cons_zero, List.getElem_cons_succ]
                refine wpAnyN_take (i := 1) (v := ?rnv4r19x4_1) rfl (by kernel_rfl) (by kernel_rfl) (by kernel_rfl) (fun _ _ _ h => h) (by decide) (by kernel_rfl) (Or.inl ⟨by rfl, ?rny4r19x4_1⟩) (by assumption) ?rnr4r19x4_1
                case rny4r19x4_1 => (intro w hSw; (try dsimp only at hSw); go_simp; try with_reducible rfl)
                try simp only [Act.put, List.setIfInBounds_toArray, List.set_cons_zero, List.set_cons_succ, List.getElem_toArray, List.getElem_cons_zero, List.getElem_cons_succ]
                refine wpAnyN_take (i := 2) (v := ?rnv4r19x4_2) rfl (by kernel_rfl) (by kernel_rfl) (by kernel_rfl) (fun _ _ _ h => h) (by decide) (by kernel_rfl) (Or.inl ⟨by rfl, ?rny4r19x4_2⟩) (by assumption) ?rnr4r19x4_2
                case rny4r19x4_2 => (intro w hSw; (try dsimp only at hSw); go_simp; try with_reducible rfl)
                try simp only [Act.put, List.setIfInBounds_toArray, List.set_cons_zero, List.set_cons_succ, List.getElem_toArray, List.getElem_cons_zero, List.getElem_cons_succ]
                refine wpAnyN_take (i := 3) (v := ?rnv4r19x4_3) rfl (by kernel_rfl) (by kernel_rfl) (by kernel_rfl) (fun _ _ _ h => h) (by decide) (by kernel_rfl) (Or.inl ⟨by rfl, ?rny4r19x4_3⟩) (by assumption) ?rnr4r19x4_3
                case rny4r19x4_3 => (intro w hSw; (try dsimp only at hSw); go_simp; try with_reducible rfl)
                try simp only [Act.put, List.setIfInBounds_toArray, List.set_cons_zero, List.set_cons_succ, List.getElem_toArray, List.getElem_cons_zero, List.getElem_cons_succ]
                refine wpAnyN_take (i := 4) (v := ?rnv4r19x4_4) rfl (by kernel_rfl) (by kernel_rfl) (by kernel_rfl) (fun _ _ _ h => h) (by decide) (by kernel_rfl) (Or.inl ⟨by rfl, ?rny4r19x4_4⟩) (by assumption) ?rnr4r19x4_4
                case rny4r19x4_4 => (intro w hSw; (try dsimp only at hSw); go_simp; try with_reducible rfl)
                try simp only [Act.put, List.setIfInBounds_toArray, List.set_cons_zero, List.set_cons_succ, List.getElem_toArray, List.getElem_cons_zero, List.getElem_cons_succ]
                refine wpAnyN_take (i := 5) (v := ?rnv4r19x4_5) rfl (by kernel_rfl) (by kernel_rfl) (by kernel_rfl) (fun _ _ _ h => h) (by decide) (by kernel_rfl) (Or.inl ⟨by rfl, ?rny4r19x4_5⟩) (by assumption) ?rnr4r19x4_5
                case rny4r19x4_5 => (intro w hSw; (try dsimp only at hSw); go_simp; try with_reducible rfl)
                try simp only [Act.put, List.setIfInBounds_toArray, List.set_cons_zero, List.set_cons_succ, List.getElem_toArray, List.getElem_cons_zero, List.getElem_cons_succ]
                refine wpAnyN_take (i := 6) (v := ?rnv4r19x4_6) rfl (by kernel_rfl) (by kernel_rfl) (by kernel_rfl) (fun _ _ _ h => h) (by decide) (by kernel_rfl) (Or.inl ⟨by rfl, ?rny4r19x4_6⟩) (by assumption) ?rnr4r19x4_6
                case rny4r19x4_6 => (intro w hSw; (try dsimp only at hSw); go_simp; try with_reducible rfl)
                try simp only [Act.put, List.setIfInBounds_toArray, List.set_cons_zero, List.set_cons_succ, List.getElem_toArray, List.getElem_cons_zero, List.getElem_cons_succ]
                refine wpAnyN_take (i := 7) (v := ?rnv4r19x4_7) rfl (by kernel_rfl) (by kernel_rfl) (by kernel_rfl) (fun _ _ _ h => h) (by decide) (by kernel_rfl) (Or.inl ⟨by rfl, ?rny4r19x4_7⟩) (by assumption) ?rnr4r19x4_7
                case rny4r19x4_7 => (intro w hSw; (try dsimp only at hSw); go_simp; try with_reducible rfl)
                try simp only [Act.put, List.setIfInBounds_toArray, List.set_cons_zero, List.set_cons_succ, List.getElem_toArray, List.getElem_cons_zero, List.getElem_cons_succ]
                refine wpAnyN_take (i := 8) (v := ?rnv4r19x4_8) rfl (by kernel_rfl) (by kernel_rfl) (by kernel_rfl) (fun _ _ _ h => h) (by decide) (by kernel_rfl) (Or.inl ⟨by rfl, ?rny4r19x4_8⟩) (by assumption) ?rnr4r19x4_8
                case rny4r19x4_8 => (intro w hSw; (try dsimp only at hSw); go_simp; try with_reducible rfl)
                try simp only [Act.put, List.setIfInBounds_toArray, List.set_cons_zero, List.set_cons_succ, List.getElem_toArray, List.getElem_cons_zero, List.getElem_cons_succ]
                refine wpAnyN_take (i := 9) (v := ?rnv4r19x4_9) rfl (by kernel_rfl) (by kernel_rfl) (by kernel_rfl) (fun _ _ _ h => h) (by decide) (by kernel_rfl) (Or.inl ⟨by rfl, ?rny4r19x4_9⟩) (by assumption) ?rnr4r19x4_9
                case rny4r19x4_9 => (intro w hSw; (try dsimp only at hSw); go_simp; try with_reducible rfl)
                try simp only [Act.put, List.setIfInBounds_toArray, List.set_cons_zero, List.set_cons_succ, List.getElem_toArray, List.getElem_cons_zero, List.getElem_cons_succ]
                refine wpAnyN_take (i := 10) (v := ?rnv4r19x4_10) rfl (by kernel_rfl) (by kernel_rfl) (by kernel_rfl) (fun _ _ _ h => h) (by decide) (by kernel_rfl) (Or.inl ⟨by rfl, ?rny4r19x4_10⟩) (by assumption) ?rnr4r19x4_10
                case rny4r19x4_10 => (intro w hSw; (try dsimp only at hSw); go_simp; try with_reducible rfl)
                try simp only [Act.put, List.setIfInBounds_toArray, List.set_cons_zero, List.set_cons_succ, List.getElem_toArray, List.getElem_cons_zero, List.getElem_cons_succ]
                refine wpAnyN_take (i := 11) (v := ?rnv4r19x4_11) rfl (by kernel_rfl) (by kernel_rfl) (by kernel_rfl) (fun _ _ _ h => h) (by decide) (by kernel_rfl) (Or.inl ⟨by rfl, ?rny4r19x4_11⟩) (by assumption) ?rnr4r19x4_11
                case rny4r19x4_11 => (intro w hSw; (try dsimp only at hSw); go_simp; try with_reducible rfl)
                try simp only [Act.put, List.setIfInBounds_toArray, List.set_cons_zero, List.set_cons_succ, List.getElem_toArray, List.getElem_cons_zero, List.getElem_cons_succ]
                refine wpAnyN_take (i := 12) (v := ?rnv4r19x4_12) rfl (by kernel_rfl) (by kernel_rfl) (by kernel_rfl) (fun _ _ _ h => h) (by decide) (by kernel_rfl) (Or.inl ⟨by rfl, ?rny4r19x4_12⟩) (by assumption) ?rnr4r19x4_12
                case rny4r19x4_12 => (intro w hSw; (try dsimp only at hSw); go_simp; try with_reducible rfl)
                try simp only [Act.put, List.setIfInBounds_toArray, List.set_cons_zero, List.set_cons_succ, List.getElem_toArray, List.getElem_cons_zero, List.getElem_cons_succ]
                refine wpAnyN_take (i := 13) (v := ?rnv4r19x4_13) rfl (by kernel_rfl) (by kernel_rfl) (by kernel_rfl) (fun _ _ _ h => h) (by decide) (by kernel_rfl) (Or.inl ⟨by rfl, ?rny4r19x4_13⟩) (by assumption) ?rnr4r19x4_13
                case rny4r19x4_13 => (intro w hSw; (try dsimp only at hSw); go_simp; try with_reducible rfl)
                try simp only [Act.put, List.setIfInBounds_toArray, List.set_cons_zero, List.set_cons_succ, List.getElem_toArray, List.getElem_cons_zero, List.getElem_cons_succ]
                refine wpAnyN_done (by kernel_rfl) ?_ _
                go_wp2_with fail
                go_roundw
                case rel => exact ⟨i + 1, by go_num, by omega, HFQ.out.drew⟩
                case measure => simp [intOf]; omega
              · have hia' : ¬ (i : Int) = (a : Int) := by omega
                have hnl : (noL S (a : Int) re im).getD i (0, 0) = (x, y) := by
                  rw [HN.out.1, List.getD_eq_getElem?_getD, List.getElem?_set, if_neg (by omega), ← List.getD_eq_getElem?_getD, HXY.out.1]
                obtain ⟨ad5, rfl, -, e5⟩ := (RdC.frmN HN.out.2.2 HD.out.2) i (by rw [HN.out.2.1]; exact hlt)
                rw [hnl] at e5
                have e5' : wd.cell? (ad5.add i) = some (.complex .f64 (FI x) (FI y)) := e5
                have p0 : wd.cell? ⟨gp, 0, none⟩ = some (.float .f64 (FI x)) := HD.out.1.cell 0
                have p1 : wd.cell? ⟨gp, 1, none⟩ = some (.float .f64 (FI y)) := HD.out.1.cell 1
                clear e5 hnl hia
                go_upto_region 19 with fail
                refine wp_region_N (S := fun w' => w'.cell? (ad5.add i) = some (.complex .f64 (FI x) (FI y)) ∧ w'.cell? ⟨gp, 0, none⟩ = some (.float .f64 (FI x)) ∧ w'.cell? ⟨gp, 1, none⟩ = some (.float .f64 (FI y))) 99 (by kernel_rfl) ⟨e5', p0, p1⟩ (fun hHeld => ?_)
                refine wpAnyN_take (i := 0) (v := ?rnv4r19x3_0) rfl (by kernel_rfl) (by kernel_rfl) (by kernel_rfl) (fun _ _ _ h => h) (by decide) (by kernel_rfl) (Or.inl ⟨by rfl, ?rny4r19x3_0⟩) (by assumption) ?rnr4r19x3_0
                case rny4r19x3_0 => (intro w hSw; (try dsimp only at hSw); go_simp; try with_reducible rfl)
                try simp only [Act.put, List.setIfInBounds_toArray, List.set_cons_zero, List.set_cons_succ, List.getElem_toArray, List.getElem_cons_zero, List.getElem_cons_succ]
                refine wpAnyN_take (i := 1) (v := ?rnv4r19x3_1) rfl (by kernel_rfl) (by kernel_rfl) (by kernel_rfl) (fun _ _ _ h => h) (by decide) (by kernel_rfl) (Or.inl ⟨by rfl, ?rny4r19x3_1⟩) (by assumption) ?rnr4r19x3_1
                case rny4r19x3_1 => (intro w hSw; (try dsimp only at hSw); go_simp; try with_reducible rfl)
                try simp only [Act.put, List.setIfInBounds_toArray, List.set_cons_zero, List.set_cons_succ, List.getElem_toArray, List.getElem_cons_zero, List.getElem_cons_succ]
                refine wpAnyN_take (i := 2) (v := ?rnv4r19x3_2) rfl (by kernel_rfl) (by kernel_rfl) (by kernel_rfl) (fun _ _ _ h => h) (by decide) (by kernel_rfl) (Or.inl ⟨by rfl, ?rny4r19x3_2⟩) (by assumption) ?rnr4r19x3_2
                case rny4r19x3_2 => (intro w hSw; (try dsimp only at hSw); go_simp; try with_reducible rfl)
                try simp only [Act.put, List.setIfInBounds_toArray, List.set_cons_zero, List.set_cons_succ, List.getElem_toArray, List.getElem_cons_zero, List.getElem_cons_succ]
                refine wpAnyN_take (i := 3) (v := ?rnv4r19x3_3) rfl (by kernel_rfl) (by kernel_rfl) (by kernel_rfl) (fun _ _ _ h => h) (by decide) (by kernel_rfl) (Or.inl ⟨by rfl, ?rny4r19x3_3⟩) (by assumption) ?rnr4r19x3_3
                case rny4r19x3_3 => (intro w hSw; (try dsimp only at hSw); go_simp; try with_reducible rfl)
                try simp only [Act.put, List.setIfInBounds_toArray, List.set_cons_zero, List.set_cons_succ, List.getElem_toArray, List.getElem_cons_zero, List.getElem_cons_succ]
                refine wpAnyN_take (i := 4) (v := ?rnv4r19x3_4) rfl (by kernel_rfl) (by kernel_rfl) (by kernel_rfl) (fun _ _ _ h => h) (by decide) (by kernel_rfl) (Or.inl ⟨by rfl, ?rny4r19x3_4⟩) (by assumption) ?rnr4r19x3_4
                case rny4r19x3_4 => (intro w hSw; (try dsimp only at hSw); go_simp; try with_reducible rfl)
                try simp only [Act.put, List.setIfInBounds_toArray, List.set_cons_zero, List.set_cons_succ, List.getElem_toArray, List.getElem_cons_zero, List.getElem_cons_succ]
                refine wpAnyN_take (i := 5) (v := ?rnv4r19x3_5) rfl (by kernel_rfl) (by kernel_rfl) (by kernel_rfl) (fun _ _ _ h => h) (by decide) (by kernel_rfl) (Or.inl ⟨by rfl, ?rny4r19x3_5⟩) (by assumption) ?rnr4r19x3_5
                case rny4r19x3_5 => (intro w hSw; (try dsimp only at hSw); go_simp; try with_reducible rfl)
                try simp only [Act.put, List.setIfInBounds_toArray, List.set_cons_zero, List.set_cons_succ, List.getElem_toArray, List.getElem_cons_zero, List.getElem_cons_succ]
                refine wpAnyN_take (i := 6) (v := ?rnv4r19x3_6) rfl (by kernel_rfl) (by kernel_rfl) (by kernel_rfl) (fun _ _ _ h => h) (by decide) (by kernel_rfl) (Or.inl ⟨by rfl, ?rny4r19x3_6⟩) (by assumption) ?rnr4r19x3_6
                case rny4r19x3_6 => (intro w hSw; (try dsimp only at hSw); go_simp; try with_reducible rfl)
                try simp only [Act.put, List.setIfInBounds_toArray, List.set_cons_zero, List.set_cons_succ, List.getElem_toArray, List.getElem_cons_zero, List.getElem_cons_succ]
                refine wpAnyN_take (i := 7) (v := ?rnv4r19x3_7) rfl (by kernel_rfl) (by kernel_rfl) (by kernel_rfl) (fun _ _ _ h => h) (by decide) (by kernel_rfl) (Or.inl ⟨by rfl, ?rny4r19x3_7⟩) (by assumption) ?rnr4r19x3_7
                case rny4r19x3_7 => (intro w hSw; (try dsimp only at hSw); go_simp; try with_reducible rfl)
                try simp only [Act.put, List.setIfInBounds_toArray, List.set_cons_zero, List.set_cons_succ, List.getElem_toArray, List.getElem_cons_zero, List.getElem_cons_succ]
                refine wpAnyN_take (i := 8) (v := ?rnv4r19x3_8) rfl (by kernel_rfl) (by kernel_rfl) (by kernel_rfl) (fun _ _ _ h => h) (by decide) (by kernel_rfl) (Or.inl ⟨by rfl, ?rny4r19x3_8⟩) (by assumption) ?rnr4r19x3_8
                case rny4r19x3_8 => (intro w hSw; (try dsimp only at hSw); go_simp; try with_reducible rfl)
                try simp only [Act.put, List.setIfInBounds_toArray, List.set_cons_zero, List.set_cons_succ, List.getElem_toArray, List.getElem_cons_zero, List.getElem_cons_succ]
                refine wpAnyN_take (i := 9) (v := ?rnv4r19x3_9) rfl (by kernel_rfl) (by kernel_rfl) (by kernel_rfl) (fun _ _ _ h => h) (by decide) (by kernel_rfl) (Or.inl ⟨by rfl, ?rny4r19x3_9⟩) (by assumption) ?rnr4r19x3_9
                case rny4r19x3_9 => (intro w hSw; (try dsimp only at hSw); go_simp; try with_reducible rfl)
                try simp only [Act.put, List.setIfInBounds_toArray, List.set_cons_zero, List.set_cons_succ, List.getElem_toArray, List.getElem_cons_zero, List.getElem_cons_succ]
                refine wpAnyN_take (i := 10) (v := ?rnv4r19x3_10) rfl (by kernel_rfl) (by kernel_rfl) (by kernel_rfl) (fun _ _ _ h => h) (by decide) (by kernel_rfl) (Or.inl ⟨by rfl, ?rny4r19x3_10⟩) (by assumption) ?rnr4r19x3_10
                case rny4r19x3_10 => (intro w hSw; (try dsimp only at hSw); go_simp; try with_reducible rfl)
                try simp only [Act.put, List.setIfInBounds_toArray, List.set_cons_zero, List.set_cons_succ, List.getElem_toArray, List.getElem_cons_zero, List.getElem_cons_succ]
                refine wpAnyN_take (i := 11) (v := ?rnv4r19x3_11) rfl (by kernel_rfl) (by kernel_rfl) (by kernel_rfl) (fun _ _ _ h => h) (by decide) (by kernel_rfl) (Or.inl ⟨by rfl, ?rny4r19x3_11⟩) (by assumption) ?rnr4r19x3_11
                case rny4r19x3_11 => (intro w hSw; (try dsimp only at hSw); go_simp; try with_reducible rfl)
                try simp only [Act.put, List.setIfInBounds_toArray, List.set_cons_zero, List.set_cons_succ, List.getElem_toArray, List.getElem_cons_zero, List.getElem_cons_succ]
                refine wpAnyN_take (i := 12) (v := ?rnv4r19x3_12) rfl (by kernel_rfl) (by kernel_rfl) (by kernel_rfl) (fun _ _ _ h => h) (by decide) (by kernel_rfl) (Or.inl ⟨by rfl, ?rny4r19x3_12⟩) (by assumption) ?rnr4r19x3_12
                case rny4r19x3_12 => (intro w hSw; (try dsimp only at hSw); go_simp; try with_reducible rfl)
                try simp only [Act.put, List.setIfInBounds_toArray, List.set_cons_zero, List.set_cons_succ, List.getElem_toArray, List.getElem_cons_zero, List.getElem_cons_succ]
                refine wpAnyN_take (i := 13) (v := ?rnv4r19x3_13) rfl (by kernel_rfl) (by kernel_rfl) (by kernel_rfl) (fun _ _ _ h => h) (by decide) (by kernel_rfl) (Or.inl ⟨by rfl, ?rny4r19x3_13⟩) (by assumption) ?rnr4r19x3_13
                case rny4r19x3_13 => (intro w hSw; (try dsimp only at hSw); go_simp; try with_reducible rfl)
                try simp only [Act.put, List.setIfInBounds_toArray, List.set_cons_zero, List.set_cons_succ, List.getElem_toArray, List.getElem_cons_zero, List.getElem_cons_succ]
                refine wpAnyN_done (by kernel_rfl) ?_ _
                go_wp2_with fail
                go_roundw
                case rel => exact ⟨i + 1, by go_num, by omega, HD.out.2.drew⟩
                case measure => simp [intOf]; omega
            · have i1 : ¬ (i : Int) < (K : Int) := by omega
              go_wp2_with fail
              refine (alive_yes _).mono ?_
              rintro e w7 ⟨rfl, f7⟩
              go_wp2_with fail
              go_ret
              exact ⟨rfl, (H5.out.1.thenN F).thenN f7⟩
end Go.Proofs.Ytcdjofneijlbgaa.A

/- The law's 'signal': of an op, and as the document's. -/
import Derived.Test.YtcdjofneijlbgaaCJ
import Derived.Test.YtcdjofneijlbgaaCI
import Derived.Deep.CutBlock
import Derived.Deep.DeepCutAuto
namespace Go.Proofs.Ytcdjofneijlbgaa.A
open Go.RowKit Go.Proofs.Ytcdjofneijlbgaa.K Go.Proofs.Ytcdjofneijlbgaa.F Go.Proofs.Ytcdjofneijlbgaa.N
set_option linter.unusedVariables false
set_option linter.unusedSimpArgs false

theorem own_putq {w : World} {B e n sz c : Nat} {A : Option Addr} {xs : List Value} (h : w.ownsRow B e sz (.slice A n c) n xs) {j : Nat} (hj : j < n * sz) (u : Value) :
    ∃ ad, A = some ad ∧ (∃ cs, Blk w ad.block cs e) ∧ w.cell? (ad.add j) = xs[j]? ∧ w.frozen? (ad.add j) = false ∧ (w.setCell (ad.add j) u).ownsRow B e sz (.slice A n c) n (xs.set j u) := by
  obtain ⟨hl, h2⟩ := h
  rcases h2 with ⟨h0, h1⟩ | ⟨gk, cap, cur, hv, hg, hh, h3, h4, h5, h6⟩
  · subst h1; omega
  · simp only [Value.slice.injEq] at hv
    obtain ⟨rfl, -, rfl⟩ := hv
    have hb : Blk w gk cur e := hh
    have ea : (⟨gk, 0, none⟩ : Addr).add j = ⟨gk, j, none⟩ := by unfold Addr.add; by_cases h0 : j = 0 <;> simp [h0]
    refine ⟨_, rfl, ⟨cur, hb⟩, ?_, by rw [ea]; exact hb.free j, ?_⟩
    · rw [ea, hb.cell, ← h6, List.getElem?_take_of_lt (by omega), Array.getElem?_toList]
    · rw [ea]
      refine ⟨by rw [List.length_set]; exact hl, .inr ⟨gk, c, cur.setIfInBounds j u, rfl, hg, hb.set j u, h3, h4, by rw [Array.size_setIfInBounds]; exact h5, ?_⟩⟩
      rw [Array.toList_setIfInBounds, List.take_set, h6]
theorem px_set : ∀ (L : List Pt) (j : Nat) (p : Pt), j < L.length → (L.set j p).flatMap px = ((L.flatMap px).set (j * 2) (.float .f64 (FI p.1))).set (j * 2 + 1) (.float .f64 (FI p.2))
  | [], j, p, h => absurd h (by simp)
  | q :: L, 0, p, _ => rfl
  | q :: L, j + 1, p, h => by
    have ih := px_set L j p (by simpa using h)
    show px q ++ (L.set j p).flatMap px = _
    rw [ih]
    show _ = ((px q ++ L.flatMap px).set ((j + 1) * 2) _).set ((j + 1) * 2 + 1) _
    have hp : (px q).length = 2 := rfl
    rw [List.set_append_right _ _ (by rw [hp]; omega), List.set_append_right _ _ (by rw [hp]; omega), hp, show (j + 1) * 2 - 2 = j * 2 by omega, show (j + 1) * 2 + 1 - 2 = j * 2 + 1 by omega]
theorem RowP.put {w : World} {B n c : Nat} {A : Option Addr} {L : List Pt} (h : RowP w B (.slice A n c) L) (hn : L.length = n) {j : Nat} (hj : j < n) (p : Pt) :
    ∃ ad, A = some ad ∧ (∃ cs, Blk w ad.block cs 60) ∧ B ≤ ad.block ∧ w.cell? (ad.add (j * 2)) = some (.float .f64 (FI (L.getD j (0, 0)).1)) ∧ w.cell? (ad.add (j * 2 + 1)) = some (.float .f64 (FI (L.getD j (0, 0)).2)) ∧ w.frozen? (ad.add (j * 2)) = false ∧ w.frozen? (ad.add (j * 2 + 1)) = false ∧
    RowP ((w.setCell (ad.add (j * 2)) (.float .f64 (FI p.1))).setCell (ad.add (j * 2 + 1)) (.float .f64 (FI p.2))) B (.slice A n c) (L.set j p) := by
  unfold RowP at h
  rw [hn] at h
  obtain ⟨ad, rfl, hb, hc, hz, ho⟩ := own_putq h (j := j * 2) (by omega) (.float .f64 (FI p.1))
  obtain ⟨ad', e', hb', hc', hz', _⟩ := own_putq h (j := j * 2 + 1) (by omega) (.float .f64 (FI p.1))
  injection e' with e'
  subst e'
  obtain ⟨ad', e', _, _, _, ho2⟩ := own_putq ho (j := j * 2 + 1) (by omega) (.float .f64 (FI p.2))
  injection e' with e'
  subst e'
  have hB := (own_blk h rfl).1
  obtain ⟨x1, x2⟩ := px_at L j (by omega)
  refine ⟨ad, rfl, hb, hB, hc.trans x1, hc'.trans x2, hz, hz', ?_⟩
  unfold RowP
  rw [List.length_set, hn, px_set L j p (by omega)]
  exact ho2

/-- Noise, times k, added to the first i points. -/
def nzL (S : List Pt) (ns : List Int) (k : Int) : Nat → List Pt
  | 0 => S
  | i + 1 => (nzL S ns k i).set i (((nzL S ns k i).getD i (0, 0)).1 + ns.getD (2 * i) 0 * k, ((nzL S ns k i).getD i (0, 0)).2 + ns.getD (2 * i + 1) 0 * k)
theorem nzL_len (S : List Pt) (ns : List Int) (k : Int) : ∀ i, (nzL S ns k i).length = S.length
  | 0 => rfl
  | i + 1 => by unfold nzL; rw [List.length_set, nzL_len S ns k i]
theorem nzL_late (S : List Pt) (ns : List Int) (k : Int) : ∀ i q, i ≤ q → (nzL S ns k i).getD q (0, 0) = S.getD q (0, 0)
  | 0, _, _ => rfl
  | i + 1, q, h => by
    unfold nzL
    rw [List.getD_eq_getElem?_getD, List.getElem?_set, if_neg (by omega), ← List.getD_eq_getElem?_getD, nzL_late S ns k i q (by omega)]
theorem nz_mul {z k : Int} (h1 : -128 ≤ z) (h2 : z ≤ 127) (k0 : 0 ≤ k) (k1 : k < 20) : -2432 ≤ z * k ∧ z * k ≤ 2413 := by
  constructor
  · have : -128 * k ≤ z * k := Int.mul_le_mul_of_nonneg_right h1 k0
    omega
  · have : z * k ≤ 127 * k := Int.mul_le_mul_of_nonneg_right h2 k0
    omega
theorem nzL_lim {S : List Pt} {ns : List Int} {k : Int} (hS : Lim 1 S) (hz : ∀ z ∈ ns, (Lit.int .i8 z).wf = true) (k0 : 0 ≤ k) (k1 : k < 20) : ∀ i, Lim 2433 (nzL S ns k i)
  | 0 => fun q hq => by have := hS q hq; exact ⟨by omega, by omega⟩
  | i + 1 => fun q hq => by
    unfold nzL at hq
    rcases List.mem_or_eq_of_mem_set hq with hq | rfl
    · exact nzL_lim hS hz k0 k1 i q hq
    · have h0 := nzL_late S ns k i i (Nat.le_refl _)
      rw [h0]
      have h1 := hS.at_ i
      have h2 := i8_getD hz (2 * i)
      have h3 := i8_getD hz (2 * i + 1)
      have h4 := nz_mul h2.1 h2.2 k0 k1
      have h5 := nz_mul h3.1 h3.2 k0 k1
      exact ⟨by simp only; omega, by simp only; omega⟩
theorem four_lim {S : List Pt} (h : ∀ p ∈ S, Four p) : Lim 1 S := fun q hq => by have := h q hq; unfold Four at this; omega
set_option maxRecDepth 100000 in
set_option maxHeartbeats 8000000 in
theorem sig_ok (w : World) (pr : Int) (fr dr : Bool) (A : Option Addr) (n c : Nat) (bs : List Nat) (B : Option Addr) (m d : Nat) (ns : List Int) (t N4 J : Nat) (h : Bin w A bs) (hn : bs.length = n) (h256 : ∀ c ∈ bs, c < 256) (hn9 : n ≤ 4096) (hI : Ints w .i8 B m ns) (hm9 : m ≤ 100000) (ht : t < 256)
    (hK : (sgl bs).length = N4) (hJ : ∀ i : Nat, i < J ↔ (i < N4 ∧ 2 * i + 1 < m)) :
    Calls Try.prog 10 #[.agg #[.int .i64 pr, .bool fr, .bool dr, .slice A n c, .slice B m d, .int .u8 t]] w fun e w' => ∃ A1 c1 A2 c2, e = .returned (.tuple #[.slice A1 N4 c1, .slice A2 N4 c2, .bool true]) ∧ RowC w' w.heap.size (.slice A1 N4 c1) (nzL (sgl bs) ns ((t % 20 : Nat) : Int) J) ∧ RowP w' w.heap.size (.slice A2 N4 c2) (nzL (sgl bs) ns ((t % 20 : Nat) : Int) J) ∧ Frm No w w' := by
  have hz := hI.2.2.1
  have hml := hI.1
  have h4 : ∀ p ∈ sgl bs, Four p := ofL_four _
  have hKn : N4 = 4 * (n + 2) := by rw [← hK, sgl_len, hn]
  obtain ⟨S, hS⟩ : ∃ S, sgl bs = S := ⟨_, rfl⟩
  obtain ⟨k, hk⟩ : ∃ k : Nat, t % 20 = k := ⟨_, rfl⟩
  have hsg := fun w' (f : Frm No w w') => signal_is w' A n c bs (h.frmN f) hn h256 (by omega)
  have hrs := fun w' (f : Frm No w w') => rsignal_is w' A n c bs (h.frmN f) hn h256 (by omega)
  rw [show sgE n = 0 from if_neg (by omega), if_neg (by omega), hS] at hsg
  rw [hS] at hrs hK h4
  rw [hS, hk]
  have k20 : k < 20 := by omega
  have hlim := fun i => nzL_lim (k := (k : Int)) (four_lim h4) hz (by omega) (by omega) i
  have hlen := nzL_len S ns (k : Int)
  rw [hK] at hlen
  have H := Lib.hid (And.intro hI (And.intro hsg (And.intro hrs (And.intro hlim (And.intro hlen (And.intro hJ hz))))))
  have n1 : (n : Int) ≤ 4096 := by omega
  have hN9 : N4 ≤ 16392 := by omega
  have t0 : (0 : Int) ≤ (t : Int) := by omega
  have t1 : (t : Int) ≤ 255 := by omega
  have hkt : (t : Int) % 20 = (k : Int) := by omega
  have F0 := (Frm.refl No w).alloc (.cells #[.int .i64 pr, .bool fr, .bool dr, .slice A n c, .slice B m d, .int .u8 t] 36)
  obtain ⟨w0, hw0⟩ : ∃ w0, w.alloc (.cells #[.int .i64 pr, .bool fr, .bool dr, .slice A n c, .slice B m d, .int .u8 t] 36) = w0 := ⟨_, rfl⟩
  obtain ⟨gb, hgb⟩ : ∃ gb, w.heap.size = gb := ⟨_, rfl⟩
  have hO : Blk w0 gb #[.int .i64 pr, .bool fr, .bool dr, .slice A n c, .slice B m d, .int .u8 t] 36 := by rw [← hgb, ← hw0]; exact Blk.new _ _ _
  rw [hw0] at F0
  have HO := Lib.hid (And.intro hO F0)
  have o3 : w0.cell? ⟨gb, 3, none⟩ = some (.slice A n c) := hO.cell 3
  clear h hn h256 hI hK hS hk hsg hrs hlim hlen hJ hz h4 hO F0 hKn ht hml
  go_enter Try.func10, Try.ntmps10
  go_wp2_with fail
  refine (H.out.2.1 w0 HO.out.2).mono ?_
  rintro e w1 ⟨v1, rfl, R1, F1⟩
  have hv1 := rdC_of R1
  obtain ⟨A1, c1, rfl, -⟩ := hv1
  have hSK : S.length = N4 := H.out.2.2.2.2.1 0
  rw [hSK]
  have H1 := Lib.hid (And.intro (own_lower R1 HO.out.2.size) (And.intro (HO.out.2.thenN F1) (F1.blk HO.out.1 (fun h => h))))
  have o31 : w1.cell? ⟨gb, 3, none⟩ = some (.slice A n c) := H1.out.2.2.cell 3
  clear o3 R1 F1 hSK
  go_wp2_with fail
  refine (H.out.2.2.1 w1 H1.out.2.1).mono ?_
  rintro e w2 ⟨v2, rfl, R2, F2⟩
  have hv2 := rdP_of R2
  obtain ⟨A2, c2, rfl, -⟩ := hv2
  have hSK : S.length = N4 := H.out.2.2.2.2.1 0
  rw [hSK] at R2 ⊢
  have R1 : RowC w2 w.heap.size (.slice A1 N4 c1) S := by
    have := own_frm H1.out.1 F2 (fun _ _ _ h => h)
    rw [hSK] at this
    unfold RowC
    rw [hSK]; exact this
  have R2' : RowP w2 w.heap.size (.slice A2 N4 c2) S := own_lower R2 H1.out.2.1.size
  have H2 := Lib.hid (And.intro R1 (And.intro R2' (And.intro (H1.out.2.1.thenN F2) (F2.blk H1.out.2.2 (fun h => h)))))
  clear o31 R1 R2 R2' F2 hSK
  go_wp2_with fail
  go_loopw [8] (fun vi wr => ∃ i : Nat, vi = .int .i64 i ∧ i ≤ J ∧ RowC wr w.heap.size (.slice A1 N4 c1) (nzL S ns (k : Int) i) ∧ RowP wr w.heap.size (.slice A2 N4 c2) (nzL S ns (k : Int) i) ∧ Blk wr gb #[.int .i64 pr, .bool fr, .bool dr, .slice A n c, .slice B m d, .int .u8 t] 36 ∧ Frm No w wr) (fun vi _ => J - (intOf vi).toNat)
  case atStart => exact ⟨0, rfl, by omega, H2.out.1, H2.out.2.1, H2.out.2.2.2, H2.out.2.2.1⟩
  case round =>
    obtain ⟨i, rfl, hi, R1, R2, hO, F⟩ := hrel
    have i0' : (0 : Int) ≤ (i : Int) := Int.natCast_nonneg _
    have o4 : wr.cell? ⟨gb, 4, none⟩ = some (.slice B m d) := hO.cell 4
    have o5 : wr.cell? ⟨gb, 5, none⟩ = some (.int .u8 t) := hO.cell 5
    by_cases hiJ : i < J
    · obtain ⟨hiK, him⟩ := (H.out.2.2.2.2.2.1 i).1 hiJ
      have i1 : (i : Int) < (N4 : Int) := by omega
      have i2 : 2 * (i : Int) + 1 < (m : Int) := by omega
      have i3 : 2 * (i : Int) < (m : Int) := by omega
      have im : (i : Int) ≤ 100000 := by omega
      have pw1 : IntKind.i64.wrap (2 * (i : Int)) = 2 * (i : Int) := IntWalk.i64_in _ ⟨by omega, by omega⟩
      have pw2 : IntKind.i64.wrap (2 * (i : Int) + 1) = 2 * (i : Int) + 1 := IntWalk.i64_in _ ⟨by omega, by omega⟩
      have II := Ints.frmN H.out.1 F
      obtain ⟨ad, rfl, -, x1, y1⟩ := II.at_ (j := 2 * i) (by omega)
      obtain ⟨ad', e', -, x2, y2⟩ := II.at_ (j := 2 * i + 1) (by omega)
      injection e' with e'
      subst e'
      have b1 := i8_getD H.out.2.2.2.2.2.2 (2 * i)
      have b2 := i8_getD H.out.2.2.2.2.2.2 (2 * i + 1)
      have hnz : nzL S ns (k : Int) (i + 1) = (nzL S ns (k : Int) i).set i (((nzL S ns (k : Int) i).getD i (0, 0)).1 + ns.getD (2 * i) 0 * (k : Int), ((nzL S ns (k : Int) i).getD i (0, 0)).2 + ns.getD (2 * i + 1) 0 * (k : Int)) := rfl
      obtain ⟨r1, hz1⟩ : ∃ z, ns.getD (2 * i) 0 = z := ⟨_, rfl⟩
      obtain ⟨r2, hz2⟩ : ∃ z, ns.getD (2 * i + 1) 0 = z := ⟨_, rfl⟩
      rw [hz1] at x1 b1 hnz
      rw [hz2] at x2 b2 hnz
      have m1 := nz_mul b1.1 b1.2 (show (0 : Int) ≤ (k : Int) by omega) (by omega)
      have m2 := nz_mul b2.1 b2.2 (show (0 : Int) ≤ (k : Int) by omega) (by omega)
      have pw3 : IntKind.i64.wrap (r1 * (k : Int)) = r1 * (k : Int) := IntWalk.i64_in _ ⟨by omega, by omega⟩
      have pw4 : IntKind.i64.wrap (r2 * (k : Int)) = r2 * (k : Int) := IntWalk.i64_in _ ⟨by omega, by omega⟩
      obtain ⟨zx, hzx⟩ : ∃ z, r1 * (k : Int) = z := ⟨_, rfl⟩
      obtain ⟨zy, hzy⟩ : ∃ z, r2 * (k : Int) = z := ⟨_, rfl⟩
      rw [hzx] at pw3 hnz m1
      rw [hzy] at pw4 hnz m2
      have x2' : wr.cell? ⟨ad.block, ad.off + (2 * i + 1), none⟩ = some (.int .i8 r2) := by rw [← x2]; congr 1
      have tn1 : (2 * (i : Int)).toNat = 2 * i := by omega
      have tn2 : (2 * (i : Int) + 1).toNat = 2 * i + 1 := by omega
      have i4 : (0 : Int) ≤ 2 * (i : Int) := by omega
      have i5 : (0 : Int) ≤ 2 * (i : Int) + 1 := by omega
      have hwx : wrap64 (wrap64 r1 * (k : Int)) = zx := by rw [IntWalk.wrap64_in r1 ⟨by omega, by omega⟩, hzx]; exact IntWalk.wrap64_in _ ⟨by omega, by omega⟩
      have hwy : wrap64 (wrap64 r2 * (k : Int)) = zy := by rw [IntWalk.wrap64_in r2 ⟨by omega, by omega⟩, hzy]; exact IntWalk.wrap64_in _ ⟨by omega, by omega⟩
      have HW := Lib.hid (And.intro hwx hwy)
      have HJ := Lib.hid hiJ
      have HM := Lib.hid (And.intro R1 (And.intro R2 (And.intro hO (And.intro F (And.intro hnz (And.intro m1 m2))))))
      clear R1 R2 hO F hnz II y1 y2 hz1 hz2 b1 b2 m1 m2 hiJ him hwx hwy hzx hzy pw3 pw4
      go_upto_region 9 with fail
      go_quiet (fail)
      rw [HW.out.1, HW.out.2]
      obtain ⟨wd, hwd⟩ : ∃ wd, wr.drewN nq = wd := ⟨_, rfl⟩
      have Fd : Frm No wr wd := by rw [← hwd]; exact (Frm.refl No wr).drewN nq
      rw [hwd]
      have R1 : RowC wd w.heap.size (.slice A1 N4 c1) (nzL S ns (k : Int) i) := own_frm HM.out.1 Fd (fun _ _ _ h => h)
      have R2 : RowP wd w.heap.size (.slice A2 N4 c2) (nzL S ns (k : Int) i) := own_frm HM.out.2.1 Fd (fun _ _ _ h => h)
      have Od := Fd.blk HM.out.2.2.1 (fun h => h)
      have FW := HM.out.2.2.2.1.thenN Fd
      have hlN := H.out.2.2.2.2.1 i
      have hiK2 : i < N4 := by omega
      have hlm := (H.out.2.2.2.1 i).at_ i
      obtain ⟨a1, rfl, ⟨cs1, hb1⟩, hc1, hz1, R1', hB1⟩ := R1.put hlN (j := i) hiK2 (((nzL S ns (k : Int) i).getD i (0, 0)).1 + zx, ((nzL S ns (k : Int) i).getD i (0, 0)).2 + zy)
      rw [← HM.out.2.2.2.2.1] at R1'
      obtain ⟨⟨x, y⟩, hxy⟩ : ∃ p, (nzL S ns (k : Int) i).getD i (0, 0) = p := ⟨_, rfl⟩
      rw [hxy] at hc1 R1' hlm
      simp only at R1' hlm
      have hc1' : wd.cell? (a1.add i) = some (.complex .f64 (FI x) (FI y)) := hc1
      have hadd : ∀ w', (binOp .add 61 (.complex .f64 (FI x) (FI y)) (.complex .f64 (floatOfInt .f64 zx) (floatOfInt .f64 zy))).run Try.prog w' = .ok (.complex .f64 (FI (x + zx)) (FI (y + zy))) w' := fun w' => add_run x y zx zy (by omega) (by omega) (by have := HM.out.2.2.2.2.2.1; omega) (by have := HM.out.2.2.2.2.2.2; omega) 61 w'
      have hst := store_cx
      have F3 : Frm (fun x => x = a1.block) wd (wd.setCell (a1.add i) (cx (x + zx, y + zy))) := (Frm.refl (fun x => x = a1.block) wd).set (.inl (by rw [block_add])) _
      obtain ⟨w3, hw3⟩ : ∃ w3, wd.setCell (a1.add i) (cx (x + zx, y + zy)) = w3 := ⟨_, rfl⟩
      have hw3' : wd.setCell (a1.add i) (.complex .f64 (FI (x + zx)) (FI (y + zy))) = w3 := hw3
      rw [hw3] at R1' F3
      have n60 : ∀ x cs, Blk wd x cs 60 → ¬ (x = a1.block) := fun x cs hx e => by subst e; exact Blk.ne hx hb1 (by decide) rfl
      have n36 : ∀ x cs, Blk wd x cs 36 → ¬ (x = a1.block) := fun x cs hx e => by subst e; exact Blk.ne hx hb1 (by decide) rfl
      have R2' : RowP w3 w.heap.size (.slice A2 N4 c2) (nzL S ns (k : Int) i) := own_frm R2 F3 n60
      have HN := Lib.hid (And.intro R1' (And.intro R2' (And.intro (F3.blk Od (n36 _ _ Od)) (And.intro ((FW.mono (fun _ h => h.elim) : Frm No w wd).then F3 (fun x hx => .inr (by subst hx; exact hB1))) (And.intro hxy hlm)))))
      have hl1 := hb1.lt
      clear R1 R2 R1' R2' Od FW hc1 hw3 hwd Fd F3 n60 n36 hxy hlm o4 o5 x1 x2 x2'
      go_upto_region 11 with fail
      try simp only [hw3']
      clear hc1' hz1 hadd hst hw3'
      have hlN := H.out.2.2.2.2.1 i
      obtain ⟨a2, rfl, ⟨cs2, hb2⟩, hB2, c0, c1', z0, z1, R5⟩ := HN.out.2.1.put hlN (j := i) hiK2 (x + zx, y + zy)
      rw [HN.out.2.2.2.2.1] at c0 c1'
      rw [add_spell _ _ _ (by omega)] at c1' z1 R5
      simp only at c0 c1' R5
      have e1 := HN.out.2.2.2.2.2
      have hadd1 : ∀ w', (binOp .add 58 (.float .f64 (FI x)) (.float .f64 (floatOfInt .f64 zx))).run Try.prog w' = .ok (.float .f64 (FI (x + zx))) w' := fun w' => run_float_arith w' .add 58 .f64 _ _ _ (sum_FI x zx (by omega) (by have := HM.out.2.2.2.2.2.1; omega))
      have hadd2 : ∀ w', (binOp .add 58 (.float .f64 (FI y)) (.float .f64 (floatOfInt .f64 zy))).run Try.prog w' = .ok (.float .f64 (FI (y + zy))) w' := fun w' => run_float_arith w' .add 58 .f64 _ _ _ (sum_FI y zy (by omega) (by have := HM.out.2.2.2.2.2.2; omega))
      obtain ⟨x9, hx9⟩ : ∃ x9, x + zx = x9 := ⟨_, rfl⟩
      obtain ⟨y9, hy9⟩ : ∃ y9, y + zy = y9 := ⟨_, rfl⟩
      have hgoal : nzL S ns (k : Int) (i + 1) = (nzL S ns (k : Int) i).set i (x9, y9) := by rw [HM.out.2.2.2.2.1, HN.out.2.2.2.2.1, hx9, hy9]
      rw [hx9] at hadd1 R5
      rw [hy9] at hadd2 R5
      rw [← hgoal] at R5
      have hst := store_fl
      have d3 : (w3.drew.setCell (a2.add (i * 2)) (.float .f64 (FI x9))).cell? ⟨(a2.add (i * 2)).block, (a2.add (i * 2)).off + 1, none⟩ = some (.float .f64 (FI y)) := (World.cell?_setCell_other _ _ _ _ (by intro e; have := congrArg Addr.off e; simp at this)).trans c1'
      have d2 : (w3.drew.setCell (a2.add (i * 2)) (.float .f64 (FI x9))).frozen? ⟨(a2.add (i * 2)).block, (a2.add (i * 2)).off + 1, none⟩ = false := by simpa using z1
      have d3' : (w3.setCell (a2.add (i * 2)) (.float .f64 (FI x9))).cell? ⟨(a2.add (i * 2)).block, (a2.add (i * 2)).off + 1, none⟩ = some (.float .f64 (FI y)) := (World.cell?_setCell_other _ _ _ _ (by intro e; have := congrArg Addr.off e; simp at this)).trans c1'
      have d2' : (w3.setCell (a2.add (i * 2)) (.float .f64 (FI x9))).frozen? ⟨(a2.add (i * 2)).block, (a2.add (i * 2)).off + 1, none⟩ = false := by simpa using z1
      have hl2 := hb2.lt
      have HQ := Lib.hid (And.intro R5 hb2)
      clear R5 hb2 hx9 hy9 hgoal e1 hlN
      refine wp_region_N (S := fun w' => w'.cell? (a2.add (i * 2)) = some (.float .f64 (FI x)) ∧ w'.cell? ⟨(a2.add (i * 2)).block, (a2.add (i * 2)).off + 1, none⟩ = some (.float .f64 (FI y))) 20 (by kernel_rfl) ⟨c0, c1'⟩ (fun hHeld => ?_)
      refine wpAnyN_take (i := 0) (v := ?rnv10r11_0) rfl (by kernel_rfl) (by kernel_rfl) (by kernel_rfl) (fun _ _ _ h => h) (by decide) (by kernel_rfl) (Or.inl ⟨by rfl, ?rny10r11_0⟩) (by assumption) ?rnr10r11_0
      case rny10r11_0 => (intro w hSw; (try dsimp only at hSw); go_simp; try with_reducible rfl)
      try simp only [Act.put, List.setIfInBounds_toArray, List.set_cons_zero, List.set_cons_succ, List.getElem_toArray, List.getElem_cons_zero, List.getElem_cons_succ]
      refine wpAnyN_take (i := 1) (v := ?rnv10r11_1) rfl (by kernel_rfl) (by kernel_rfl) (by kernel_rfl) (fun _ _ _ h => h) (by decide) (by kernel_rfl) (Or.inl ⟨by rfl, ?rny10r11_1⟩) (by assumption) ?rnr10r11_1
      case rny10r11_1 => (intro w hSw; (try dsimp only at hSw); go_simp; try with_reducible rfl)
      try simp only [Act.put, List.setIfInBounds_toArray, List.set_cons_zero, List.set_cons_succ, List.getElem_toArray, List.getElem_cons_zero, List.getElem_cons_succ]
      refine wpAnyN_take (i := 2) (v := ?rnv10r11_2) rfl (by kernel_rfl) (by kernel_rfl) (by kernel_rfl) (fun _ _ _ h => h) (by decide) (by kernel_rfl) (Or.inl ⟨by rfl, ?rny10r11_2⟩) (by assumption) ?rnr10r11_2
      case rny10r11_2 => (intro w hSw; (try dsimp only at hSw); go_simp; try with_reducible rfl)
      try simp only [Act.put, List.setIfInBounds_toArray, List.set_cons_zero, List.set_cons_succ, List.getElem_toArray, List.getElem_cons_zero, List.getElem_cons_succ]
      refine wpAnyN_take (i := 3) (v := ?rnv10r11_3) rfl (by kernel_rfl) (by kernel_rfl) (by kernel_rfl) (fun _ _ _ h => h) (by decide) (by kernel_rfl) (Or.inl ⟨by rfl, ?rny10r11_3⟩) (by assumption) ?rnr10r11_3
      case rny10r11_3 => (intro w hSw; (try dsimp only at hSw); go_simp; try with_reducible rfl)
      try simp only [Act.put, List.setIfInBounds_toArray, List.set_cons_zero, List.set_cons_succ, List.getElem_toArray, List.getElem_cons_zero, List.getElem_cons_succ]
      refine wpAnyN_take (i := 4) (v := ?rnv10r11_4) rfl (by kernel_rfl) (by kernel_rfl) (by kernel_rfl) (fun _ _ _ h => h) (by decide) (by kernel_rfl) (Or.inl ⟨by rfl, ?rny10r11_4⟩) (by assumption) ?rnr10r11_4
      case rny10r11_4 => (intro w hSw; (try dsimp only at hSw); go_simp; try with_reducible rfl)
      try simp only [Act.put, List.setIfInBounds_toArray, List.set_cons_zero, List.set_cons_succ, List.getElem_toArray, List.getElem_cons_zero, List.getElem_cons_succ]
      refine wpAnyN_take (i := 5) (v := ?rnv10r11_5) rfl (by kernel_rfl) (by kernel_rfl) (by kernel_rfl) (fun _ _ _ h => h) (by decide) (by kernel_rfl) (Or.inl ⟨by rfl, ?rny10r11_5⟩) (by assumption) ?rnr10r11_5
      case rny10r11_5 => (intro w hSw; (try dsimp only at hSw); go_simp; try with_reducible rfl)
      try simp only [Act.put, List.setIfInBounds_toArray, List.set_cons_zero, List.set_cons_succ, List.getElem_toArray, List.getElem_cons_zero, List.getElem_cons_succ]
      refine wpAnyN_take (i := 6) (v := ?rnv10r11_6) rfl (by kernel_rfl) (by kernel_rfl) (by kernel_rfl) (fun _ _ _ h => h) (by decide) (by kernel_rfl) (Or.inl ⟨by rfl, ?rny10r11_6⟩) (by assumption) ?rnr10r11_6
      case rny10r11_6 => (intro w hSw; (try dsimp only at hSw); go_simp; try with_reducible rfl)
      try simp only [Act.put, List.setIfInBounds_toArray, List.set_cons_zero, List.set_cons_succ, List.getElem_toArray, List.getElem_cons_zero, List.getElem_cons_succ]
      refine wpAnyN_take (i := 7) (v := ?rnv10r11_7) rfl (by kernel_rfl) (by kernel_rfl) (by kernel_rfl) (fun _ _ _ h => h) (by decide) (by kernel_rfl) (Or.inl ⟨by rfl, ?rny10r11_7⟩) (by assumption) ?rnr10r11_7
      case rny10r11_7 => (intro w hSw; (try dsimp only at hSw); go_simp; try with_reducible rfl)
      try simp only [Act.put, List.setIfInBounds_toArray, List.set_cons_zero, List.set_cons_succ, List.getElem_toArray, List.getElem_cons_zero, List.getElem_cons_succ]
      refine wpAnyN_take (i := 8) (v := ?rnv10r11_8) rfl (by kernel_rfl) (by kernel_rfl) (by kernel_rfl) (fun _ _ _ h => h) (by decide) (by kernel_rfl) (Or.inl ⟨by rfl, ?rny10r11_8⟩) (by assumption) ?rnr10r11_8
      case rny10r11_8 => (intro w hSw; (try dsimp only at hSw); go_simp; try with_reducible rfl)
      try simp only [Act.put, List.setIfInBounds_toArray, List.set_cons_zero, List.set_cons_succ, List.getElem_toArray, List.getElem_cons_zero, List.getElem_cons_succ]
      refine wpAnyN_take (i := 9) (v := ?rnv10r11_9) rfl (by kernel_rfl) (by kernel_rfl) (by kernel_rfl) (fun _ _ _ h => h) (by decide) (by kernel_rfl) (Or.inl ⟨by rfl, ?rny10r11_9⟩) (by assumption) ?rnr10r11_9
      case rny10r11_9 => (intro w hSw; (try dsimp only at hSw); go_simp; try with_reducible rfl)
      try simp only [Act.put, List.setIfInBounds_toArray, List.set_cons_zero, List.set_cons_succ, List.getElem_toArray, List.getElem_cons_zero, List.getElem_cons_succ]
      refine wpAnyN_take (i := 10) (v := ?rnv10r11_10) rfl (by kernel_rfl) (by kernel_rfl) (by kernel_rfl) (fun _ _ _ h => h) (by decide) (by kernel_rfl) (Or.inl ⟨by rfl, ?rny10r11_10⟩) (by assumption) ?rnr10r11_10
      case rny10r11_10 => (intro w hSw; (try dsimp only at hSw); go_simp; try with_reducible rfl)
      try simp only [Act.put, List.setIfInBounds_toArray, List.set_cons_zero, List.set_cons_succ, List.getElem_toArray, List.getElem_cons_zero, List.getElem_cons_succ]
      refine wpAnyN_take (i := 11) (v := ?rnv10r11_11) rfl (by kernel_rfl) (by kernel_rfl) (by kernel_rfl) (fun _ _ _ h => h) (by decide) (by kernel_rfl) (Or.inl ⟨by rfl, ?rny10r11_11⟩) (by assumption) ?rnr10r11_11
      case rny10r11_11 => (intro w hSw; (try dsimp only at hSw); go_simp; try with_reducible rfl)
      try simp only [Act.put, List.setIfInBounds_toArray, List.set_cons_zero, List.set_cons_succ, List.getElem_toArray, List.getElem_cons_zero, List.getElem_cons_succ]
      refine wpAnyN_take (i := 12) (v := ?rnv10r11_12) rfl (by kernel_rfl) (by kernel_rfl) (by kernel_rfl) (fun _ _ _ h => h) (by decide) (by kernel_rfl) (Or.inl ⟨by rfl, ?rny10r11_12⟩) (by assumption) ?rnr10r11_12
      case rny10r11_12 => (intro w hSw; (try dsimp only at hSw); go_simp; try with_reducible rfl)
      try simp only [Act.put, List.setIfInBounds_toArray, List.set_cons_zero, List.set_cons_succ, List.getElem_toArray, List.getElem_cons_zero, List.getElem_cons_succ]
      refine wpAnyN_take (i := 13) (v := ?rnv10r11_13) rfl (by kernel_rfl) (by kernel_rfl) (by kernel_rfl) (fun _ _ _ h => h) (by decide) (by kernel_rfl) (Or.inl ⟨by rfl, ?rny10r11_13⟩) (by assumption) ?rnr10r11_13
      case rny10r11_13 => (intro w hSw; (try dsimp only at hSw); go_simp; try with_reducible rfl)
      try simp only [Act.put, List.setIfInBounds_toArray, List.set_cons_zero, List.set_cons_succ, List.getElem_toArray, List.getElem_cons_zero, List.getElem_cons_succ]
      refine wpAnyN_take (i := 14) (v := ?rnv10r11_14) rfl (by kernel_rfl) (by kernel_rfl) (by kernel_rfl) (fun _ _ _ h => h) (by decide) (by kernel_rfl) (Or.inl ⟨by rfl, ?rny10r11_14⟩) (by assumption) ?rnr10r11_14
      case rny10r11_14 => (intro w hSw; (try dsimp only at hSw); go_simp; try with_reducible rfl)
      try simp only [Act.put, List.setIfInBounds_toArray, List.set_cons_zero, List.set_cons_succ, List.getElem_toArray, List.getElem_cons_zero, List.getElem_cons_succ]
      refine wpAnyN_take (i := 15) (v := ?rnv10r11_15) rfl (by kernel_rfl) (by kernel_rfl) (by kernel_rfl) (fun _ _ _ h => h) (by decide) (by kernel_rfl) (Or.inl ⟨by rfl, ?rny10r11_15⟩) (by assumption) ?rnr10r11_15
      case rny10r11_15 => (intro w hSw; (try dsimp only at hSw); go_simp; try with_reducible rfl)
      try simp only [Act.put, List.setIfInBounds_toArray, List.set_cons_zero, List.set_cons_succ, List.getElem_toArray, List.getElem_cons_zero, List.getElem_cons_succ]
      refine wpAnyN_take (i := 16) (v := ?rnv10r11_16) rfl (by kernel_rfl) (by kernel_rfl) (by kernel_rfl) (fun _ _ _ h => h) (by decide) (by kernel_rfl) (Or.inl ⟨by rfl, ?rny10r11_16⟩) (by assumption) ?rnr10r11_16
      case rny10r11_16 => (intro w hSw; (try dsimp only at hSw); go_simp; try with_reducible rfl)
      try simp only [Act.put, List.setIfInBounds_toArray, List.set_cons_zero, List.set_cons_succ, List.getElem_toArray, List.getElem_cons_zero, List.getElem_cons_succ]
      refine wpAnyN_take (i := 17) (v := ?rnv10r11_17) rfl (by kernel_rfl) (by kernel_rfl) (by kernel_rfl) (fun _ _ _ h => h) (by decide) (by kernel_rfl) (Or.inl ⟨by rfl, ?rny10r11_17⟩) (by assumption) ?rnr10r11_17
      case rny10r11_17 => (intro w hSw; (try dsimp only at hSw); go_simp; try with_reducible rfl)
      try simp only [Act.put, List.setIfInBounds_toArray, List.set_cons_zero, List.set_cons_succ, List.getElem_toArray, List.getElem_cons_zero, List.getElem_cons_succ]
      refine wpAnyN_take (i := 18) (v := ?rnv10r11_18) rfl (by kernel_rfl) (by kernel_rfl) (by kernel_rfl) (fun _ _ _ h => h) (by decide) (by kernel_rfl) (Or.inl ⟨by rfl, ?rny10r11_18⟩) (by assumption) ?rnr10r11_18
      case rny10r11_18 => (intro w hSw; (try dsimp only at hSw); go_simp; try with_reducible rfl)
      try simp only [Act.put, List.setIfInBounds_toArray, List.set_cons_zero, List.set_cons_succ, List.getElem_toArray, List.getElem_cons_zero, List.getElem_cons_succ]
      refine wpAnyN_take (i := 19) (v := ?rnv10r11_19) rfl (by kernel_rfl) (by kernel_rfl) (by kernel_rfl) (fun _ _ _ h => h) (by decide) (by kernel_rfl) (Or.inl ⟨by rfl, ?rny10r11_19⟩) (by assumption) ?rnr10r11_19
      case rny10r11_19 => (intro w hSw; (try dsimp only at hSw); go_simp; try with_reducible rfl)
      try simp only [Act.put, List.setIfInBounds_toArray, List.set_cons_zero, List.set_cons_succ, List.getElem_toArray, List.getElem_cons_zero, List.getElem_cons_succ]
      refine wpAnyN_one (i := 20) (by kernel_rfl) rfl (fun K hK => ?_)
      go_simp
      refine hK.out _ _ (fun h => absurd rfl h) (fun _ => ?_)
      clear hK K
      try simp only [Act.put, List.setIfInBounds_toArray, List.set_cons_zero, List.set_cons_succ, List.getElem_toArray, List.getElem_cons_zero, List.getElem_cons_succ]
      refine wpAnyN_done (by kernel_rfl) ?_ _
      go_wp2_with fail
      have F6 : Frm (fun x => x = a2.block) w3 (((w3.setCell (a2.add (i * 2)) (.float .f64 (FI x9))).setCell ⟨(a2.add (i * 2)).block, (a2.add (i * 2)).off + 1, none⟩ (.float .f64 (FI y9))).drew) := (((Frm.refl (fun x => x = a2.block) w3).set (.inl (by rw [block_add])) _).set (.inl (by show (a2.add (i * 2)).block = _; rw [block_add])) _).drew
      have n61 : ∀ x cs, Blk w3 x cs 61 → ¬ (x = a2.block) := fun x cs hx e => by subst e; exact Blk.ne hx HQ.out.2 (by decide) rfl
      have n36 : ∀ x cs, Blk w3 x cs 36 → ¬ (x = a2.block) := fun x cs hx e => by subst e; exact Blk.ne hx HQ.out.2 (by decide) rfl
      have Q1 := own_frm HN.out.1 F6 n61
      have Q3 := F6.blk HN.out.2.2.1 (n36 _ _ HN.out.2.2.1)
      have Q4 := HN.out.2.2.2.1.then F6 (fun x hx => .inr (by subst hx; exact hB2))
      have HZ := Lib.hid (And.intro Q1 (And.intro Q3 Q4))
      clear F6 n61 n36 Q1 Q3 Q4
      go_roundw
      case rel => exact ⟨i + 1, by go_num, by have := HJ.out; omega, HZ.out.1, HQ.out.1, HZ.out.2.1, HZ.out.2.2⟩
      case measure => have := HJ.out; simp [intOf]; omega
    · have hiJ2 : i = J := by omega
      have HM := Lib.hid (And.intro R1 (And.intro R2 F))
      clear R1 R2 F hO
      by_cases hiK : i < N4
      · have him : ¬ 2 * i + 1 < m := fun h => hiJ ((H.out.2.2.2.2.2.1 i).2 ⟨hiK, h⟩)
        have i1 : (i : Int) < (N4 : Int) := by omega
        have i2 : ¬ 2 * (i : Int) + 1 < (m : Int) := by omega
        have im : (i : Int) ≤ 100000 := by have := H.out.2.2.2.2.2.1; omega
        clear him hiJ hiK
        go_wp2_with fail
        go_ret3
        subst hiJ2
        have u1 := HM.out.1
        have u2 := HM.out.2.1
        rw [hgb] at u1 u2
        exact ⟨_, _, _, _, rfl, u1, u2, HM.out.2.2⟩
      · have i1 : ¬ (i : Int) < (N4 : Int) := by omega
        clear hiJ hiK
        go_wp2_with fail
        go_ret3
        subst hiJ2
        have u1 := HM.out.1
        have u2 := HM.out.2.1
        rw [hgb] at u1 u2
        exact ⟨_, _, _, _, rfl, u1, u2, HM.out.2.2⟩
end Go.Proofs.Ytcdjofneijlbgaa.A

/- What the document hears of signals. -/
import Derived.Test.YtcdjofneijlbgaaCK
namespace Go.Proofs.Ytcdjofneijlbgaa.A
open Go.RowKit Go.Proofs.Ytcdjofneijlbgaa.K Go.Proofs.Ytcdjofneijlbgaa.F Go.Proofs.Ytcdjofneijlbgaa.N
set_option linter.unusedVariables false
set_option linter.unusedSimpArgs false

/-- A slice of the document's points. -/
structure Sl where
  A : Option Addr
  n : Nat
  c : Nat
def Sl.val (b : Sl) : Value := .slice b.A b.n b.c
def sl0 : Sl := ⟨none, 0, 0⟩
/-- Such slices read as these lists. -/
def RdLP (w : World) (S : List Sl) (LL : List (List Pt)) : Prop := S.length = LL.length ∧ ∀ j, j < LL.length → (S.getD j sl0).n = (LL.getD j []).length ∧ RdP w (S.getD j sl0).A (LL.getD j [])
theorem RdP.frm {w w' : World} {Q : Nat → Prop} {A : Option Addr} {L : List Pt} (h : RdP w A L) (f : Frm Q w w') (hQ : ∀ x cs, Blk w x cs 60 → ¬ Q x) : RdP w' A L := fun j hj => by
  obtain ⟨ad, e, ⟨cs, hb⟩, hc, hd⟩ := h j hj
  exact ⟨ad, e, ⟨cs, f.blk hb (hQ _ _ hb)⟩, (World.cell?_of_block (f.block _ (by rw [block_add]; exact hb.lt) (by rw [block_add]; exact hQ _ _ hb))).trans hc, (World.cell?_of_block (f.block _ (by show (ad.add (j * 2)).block < _; rw [block_add]; exact hb.lt) (by show ¬ Q (ad.add (j * 2)).block; rw [block_add]; exact hQ _ _ hb))).trans hd⟩
theorem RdLP.frm {w w' : World} {Q : Nat → Prop} {S : List Sl} {LL : List (List Pt)} (h : RdLP w S LL) (f : Frm Q w w') (hQ : ∀ x cs, Blk w x cs 60 → ¬ Q x) : RdLP w' S LL := ⟨h.1, fun j hj => ⟨(h.2 j hj).1, (h.2 j hj).2.frm f hQ⟩⟩
/-- The sum at place i of the first k. -/
def ptS (LL : List (List Pt)) (i : Nat) : Nat → Pt
  | 0 => (0, 0)
  | k + 1 => ((ptS LL i k).1 + ((LL.getD k []).getD i (0, 0)).1, (ptS LL i k).2 + ((LL.getD k []).getD i (0, 0)).2)
def sumP (LL : List (List Pt)) (K : Nat) : List Pt := (List.range K).map fun i => ptS LL i LL.length
theorem sumP_len (LL : List (List Pt)) (K : Nat) : (sumP LL K).length = K := by unfold sumP; simp
theorem sumP_at (LL : List (List Pt)) (K i : Nat) (h : i < K) : (sumP LL K).getD i (0, 0) = ptS LL i LL.length := by
  unfold sumP
  rw [List.getD_eq_getElem?_getD, List.getElem?_map, List.getElem?_range h]; rfl
def Lim1 (LL : List (List Pt)) : Prop := ∀ l ∈ LL, Lim 1000 l
theorem Lim1.at_ {LL : List (List Pt)} (h : Lim1 LL) (k : Nat) : Lim 1000 (LL.getD k []) := by
  rw [List.getD_eq_getElem?_getD]
  by_cases hk : k < LL.length
  · rw [List.getElem?_eq_getElem hk]; exact h _ (List.getElem_mem _)
  · rw [List.getElem?_eq_none (by omega)]; exact fun q hq => by simp at hq
theorem ptS_le {LL : List (List Pt)} (h : Lim1 LL) (i : Nat) : ∀ k, (ptS LL i k).1.natAbs ≤ 1000 * k ∧ (ptS LL i k).2.natAbs ≤ 1000 * k
  | 0 => by simp [ptS]
  | k + 1 => by
    have ih := ptS_le h i k
    have h1 := (h.at_ k).at_ i
    unfold ptS
    simp only
    omega
theorem new_rdsP (w : World) (a b : Value) (t : TypeId) : Rds (w.alloc (.cells #[a, b] t)) 2 (some ⟨w.heap.size, 0, none⟩) 1 [a, b] := by
  obtain ⟨h1, h2⟩ := new_rds2 w a b t
  exact ⟨rfl, fun _ => h2 (by omega)⟩
set_option maxRecDepth 100000 in
set_option maxHeartbeats 8000000 in
theorem rhear_is (w : World) (A : Option Addr) (n c K : Nat) (S : List Sl) (LL : List (List Pt)) (hr : Rds w 1 A n (S.map Sl.val)) (hS : RdLP w S LL) (hn : LL.length = n) (h1 : 1 ≤ n) (h17 : n ≤ 20) (hK : ∀ j, j < n → (LL.getD j []).length = K) (hK9 : K ≤ 16392) (hl : Lim1 LL) :
    Calls Try.prog 23 #[.slice A n c] w fun e w' => ∃ A' c', e = .returned (.tuple #[.slice A' (hearB (sumP LL K)).length c', .bool (hearT (sumP LL K))]) ∧ Bin w' A' (hearB (sumP LL K)) ∧ Frm No w w' := by
  obtain ⟨i0, hi, hz0, hz1, hz2⟩ := info_parts info32
  have hXl := sumP_len LL K
  have hXat := sumP_at LL K
  have hple := fun i => ptS_le hl i
  obtain ⟨X, hX⟩ : ∃ X, sumP LL K = X := ⟨_, rfl⟩
  rw [hX] at hXl hXat ⊢
  obtain ⟨T, hT⟩ : ∃ T, hearT X = T := ⟨_, rfl⟩
  obtain ⟨O, hO⟩ : ∃ O, hearB X = O := ⟨_, rfl⟩
  rw [hT, hO]
  obtain ⟨nO, hnO⟩ : ∃ nO, O.length = nO := ⟨_, rfl⟩
  rw [hnO]
  have at_ : ∀ w', Frm No w w' → ∀ j, j < n → ∃ ad A2 c2, A = some ad ∧ w'.cell? (ad.add j) = some (.slice A2 K c2) ∧ RdP w' A2 (LL.getD j []) := fun w' f j hj => by
    obtain ⟨ad, e, hb, hc⟩ := hr.2 (by omega)
    have hj2 : j < S.length := by rw [hS.1, hn]; exact hj
    have hcj := hc j _ (by rw [List.getElem?_map, List.getElem?_eq_getElem hj2]; rfl)
    obtain ⟨q1, q2⟩ := hS.2 j (by omega)
    rw [List.getD_eq_getElem?_getD, List.getElem?_eq_getElem hj2] at q1 q2
    obtain ⟨⟨A2, n2, c2⟩, hb2⟩ : ∃ b, S[j] = b := ⟨_, rfl⟩
    simp only [Option.getD_some] at q1 q2
    rw [hb2] at q1 q2 hcj
    simp only at q1 q2
    rw [hK j hj] at q1
    subst q1
    refine ⟨ad, A2, c2, e, ?_, RdP.frmN q2 f⟩
    exact (World.cell?_of_block (f.block _ (by rw [block_add]; exact hb) (fun h => h))).trans hcj
  have H := Lib.hid (And.intro at_ (And.intro hXl (And.intro hXat (And.intro hple (And.intro hT (And.intro hO (And.intro hnO (And.intro hn (And.intro hK hl)))))))))
  obtain ⟨ad0, rfl⟩ : ∃ ad0, A = some ad0 := by obtain ⟨ad, _, _, e, _⟩ := at_ w (Frm.refl _ _) 0 (by omega); exact ⟨ad, e⟩
  have n0 : (0 : Int) < (n : Int) := by omega
  clear hr hS hn hK hl hX hXl hXat hple hT hO hnO at_
  go_enter Try.func23, Try.ntmps23
  go_wp2_with fail
  go_loopw [4, 5] (fun vo vi wr => ∃ i : Nat, vi = .int .i64 i ∧ i ≤ K ∧ wr.ownsRow w.heap.size 60 2 vo i (((hearN X).take i).flatMap px) ∧ Frm No w wr) (fun _ vi _ => K - (intOf vi).toNat)
  case atStart => exact ⟨0, rfl, by omega, by rw [List.take_zero]; exact World.ownsRow_nil _ _ _ _, Frm.refl _ _⟩
  case round =>
    obtain ⟨i, rfl, hiK, own, F⟩ := hrel
    obtain ⟨ad, A2, c2, e0, k0, -⟩ := H.out.1 wr F 0 (by omega)
    injection e0 with e0
    subst e0
    have k0' : wr.cell? ad0 = some (.slice A2 K c2) := by simpa [Addr.add] using k0
    clear k0
    have i0' : (0 : Int) ≤ (i : Int) := Int.natCast_nonneg _
    by_cases hlt : i < K
    · have i1 : (i : Int) < (K : Int) := by omega
      have hst := store_fl
      have HF := Lib.hid (And.intro F own)
      clear F own
      go_upto_region 6 with fail
      obtain ⟨gp, hgp⟩ : ∃ gp, wr.heap.size = gp := ⟨_, rfl⟩
      rw [hgp]
      obtain ⟨wp, hwp⟩ : ∃ wp, wr.alloc (.cells #[.float .f64 0, .float .f64 0] 60) = wp := ⟨_, rfl⟩
      have hO : Blk wp gp #[.float .f64 0, .float .f64 0] 60 := by rw [← hgp, ← hwp]; exact Blk.new _ _ _
      have G1 : Frm No wr wp := by rw [← hwp]; exact (Frm.refl No wr).alloc _
      have hgpl : w.heap.size ≤ gp := by have := HF.out.1.size; omega
      have z0 : FI 0 = 0 := by decide
      have hO' : Blk wp gp #[.float .f64 (FI (ptS LL i 0).1), .float .f64 (FI (ptS LL i 0).2)] 60 := by
        show Blk wp gp #[.float .f64 (FI 0), .float .f64 (FI 0)] 60
        rw [z0]; exact hO
      have HO := Lib.hid (And.intro hO' (And.intro (HF.out.1.thenN G1) (And.intro hgpl (And.intro (own_frm HF.out.2 G1 (fun _ _ _ h => h)) (fun k hk => (show k ≠ gp by have := (own_blk HF.out.2 (k := k) hk).2.choose_spec.lt; omega))))))
      rw [hwp]
      clear hO G1 hO' z0 hwp hgp k0' hgpl hst
      go_wp2_with fail
      go_loopw [7] (fun vq wr => ∃ q : Nat, vq = .int .i64 q ∧ q ≤ n ∧ Blk wr gp #[.float .f64 (FI (ptS LL i q).1), .float .f64 (FI (ptS LL i q).2)] 60 ∧ Frm No w wr ∧ Frm (fun x => x = gp) wp wr) (fun vq _ => n - (intOf vq).toNat)
      case atStart => exact ⟨0, rfl, by omega, HO.out.1, HO.out.2.1, Frm.refl _ _⟩
      case round =>
        obtain ⟨q, rfl, hqn, hb, F, Fg⟩ := hrel
        have q0 : (0 : Int) ≤ (q : Int) := Int.natCast_nonneg _
        by_cases hq : q < n
        · have q1 : (q : Int) < (n : Int) := by omega
          obtain ⟨ad, A3, c3, e0, k1, rd⟩ := H.out.1 wr F q hq
          injection e0 with e0
          subst e0
          obtain ⟨ad2, rfl, -, k2, k3⟩ := rd i (by rw [H.out.2.2.2.2.2.2.2.2.1 q hq]; exact hlt)
          have p0 : wr.cell? ⟨gp, 0, none⟩ = some (.float .f64 (FI (ptS LL i q).1)) := hb.cell 0
          have p1 : wr.cell? ⟨gp, 1, none⟩ = some (.float .f64 (FI (ptS LL i q).2)) := hb.cell 1
          have s1 := H.out.2.2.2.1 i q
          have s2 := (H.out.2.2.2.2.2.2.2.2.2.at_ q).at_ i
          have hpt : ptS LL i (q + 1) = ((ptS LL i q).1 + ((LL.getD q []).getD i (0, 0)).1, (ptS LL i q).2 + ((LL.getD q []).getD i (0, 0)).2) := rfl
          obtain ⟨⟨x, y⟩, hxy⟩ : ∃ p, ptS LL i q = p := ⟨_, rfl⟩
          obtain ⟨⟨u, v⟩, huv⟩ : ∃ p, (LL.getD q []).getD i (0, 0) = p := ⟨_, rfl⟩
          rw [hxy] at p0 p1 s1 hpt hb
          rw [huv] at k2 k3 s2 hpt
          simp only at p0 p1 s1 k2 k3 s2 hpt hb
          have hadd1 : ∀ w', (binOp .add 58 (.float .f64 (FI x)) (.float .f64 (FI u))).run Try.prog w' = .ok (.float .f64 (FI (x + u))) w' := fun w' => run_float_arith w' .add 58 .f64 _ _ _ (sum_FI x u (by omega) (by omega))
          have hadd2 : ∀ w', (binOp .add 58 (.float .f64 (FI y)) (.float .f64 (FI v))).run Try.prog w' = .ok (.float .f64 (FI (y + v))) w' := fun w' => run_float_arith w' .add 58 .f64 _ _ _ (sum_FI y v (by omega) (by omega))
          obtain ⟨x9, hx9⟩ : ∃ x9, x + u = x9 := ⟨_, rfl⟩
          obtain ⟨y9, hy9⟩ : ∃ y9, y + v = y9 := ⟨_, rfl⟩
          rw [hx9, hy9] at hpt
          rw [hx9] at hadd1
          rw [hy9] at hadd2
          have hst := store_fl
          have z0 : wr.frozen? ⟨gp, 0, none⟩ = false := hb.free 0
          have z1 : wr.frozen? ⟨gp, 1, none⟩ = false := hb.free 1
          have d3 : (wr.setCell ⟨gp, 0, none⟩ (.float .f64 (FI x9))).cell? ⟨gp, 1, none⟩ = some (.float .f64 (FI y)) := (World.cell?_setCell_other _ _ _ _ (by intro e; have := congrArg Addr.off e; simp at this)).trans p1
          have d2 : (wr.setCell ⟨gp, 0, none⟩ (.float .f64 (FI x9))).frozen? ⟨gp, 1, none⟩ = false := by simpa using z1
          have hgl := hb.lt
          have HB := Lib.hid (And.intro hb (And.intro F (And.intro Fg hpt)))
          clear hb F Fg hpt hxy huv hx9 hy9 s1 s2 rd
          go_wp2_with fail
          refine wp_region_N (S := fun w' => w'.cell? ⟨gp, 0, none⟩ = some (.float .f64 (FI x)) ∧ w'.cell? ⟨gp, 1, none⟩ = some (.float .f64 (FI y)) ∧ w'.cell? (ad0.add q) = some (.slice (some ad2) K c3) ∧ w'.cell? (ad2.add (i * 2)) = some (.float .f64 (FI u)) ∧ w'.cell? ⟨(ad2.add (i * 2)).block, (ad2.add (i * 2)).off + 1, none⟩ = some (.float .f64 (FI v))) 23 (by kernel_rfl) ⟨p0, p1, k1, k2, k3⟩ (fun hHeld => ?_)
          refine wpAnyN_take (i := 0) (v := ?rnv23r9_0) rfl (by kernel_rfl) (by kernel_rfl) (by kernel_rfl) (fun _ _ _ h => h) (by decide) (by kernel_rfl) (Or.inl ⟨by rfl, ?rny23r9_0⟩) (by assumption) ?rnr23r9_0
          case rny23r9_0 => (intro w hSw; (try dsimp only at hSw); go_simp; try with_reducible rfl)
          try simp only [Act.put, List.setIfInBounds_toArray, List.set_cons_zero, List.set_cons_succ, List.getElem_toArray, List.getElem_cons_zero, List.getElem_cons_succ]
          refine wpAnyN_take (i := 1) (v := ?rnv23r9_1) rfl (by kernel_rfl) (by kernel_rfl) (by kernel_rfl) (fun _ _ _ h => h) (by decide) (by kernel_rfl) (Or.inl ⟨by rfl, ?rny23r9_1⟩) (by assumption) ?rnr23r9_1
          case rny23r9_1 => (intro w hSw; (try dsimp only at hSw); go_simp; try with_reducible rfl)
          try simp only [Act.put, List.setIfInBounds_toArray, List.set_cons_zero, List.set_cons_succ, List.getElem_toArray, List.getElem_cons_zero, List.getElem_cons_succ]
          refine wpAnyN_take (i := 2) (v := ?rnv23r9_2) rfl (by kernel_rfl) (by kernel_rfl) (by kernel_rfl) (fun _ _ _ h => h) (by decide) (by kernel_rfl) (Or.inl ⟨by rfl, ?rny23r9_2⟩) (by assumption) ?rnr23r9_2
          case rny23r9_2 => (intro w hSw; (try dsimp only at hSw); go_simp; try with_reducible rfl)
          try simp only [Act.put, List.setIfInBounds_toArray, List.set_cons_zero, List.set_cons_succ, List.getElem_toArray, List.getElem_cons_zero, List.getElem_cons_succ]
          refine wpAnyN_take (i := 3) (v := ?rnv23r9_3) rfl (by kernel_rfl) (by kernel_rfl) (by kernel_rfl) (fun _ _ _ h => h) (by decide) (by kernel_rfl) (Or.inl ⟨by rfl, ?rny23r9_3⟩) (by assumption) ?rnr23r9_3
          case rny23r9_3 => (intro w hSw; (try dsimp only at hSw); go_simp; try with_reducible rfl)
          try simp only [Act.put, List.setIfInBounds_toArray, List.set_cons_zero, List.set_cons_succ, List.getElem_toArray, List.getElem_cons_zero, List.getElem_cons_succ]
          refine wpAnyN_take (i := 4) (v := ?rnv23r9_4) rfl (by kernel_rfl) (by kernel_rfl) (by kernel_rfl) (fun _ _ _ h => h) (by decide) (by kernel_rfl) (Or.inl ⟨by rfl, ?rny23r9_4⟩) (by assumption) ?rnr23r9_4
          case rny23r9_4 => (intro w hSw; (try dsimp only at hSw); go_simp; try with_reducible rfl)
          try simp only [Act.put, List.setIfInBounds_toArray, List.set_cons_zero, List.set_cons_succ, List.getElem_toArray, List.getElem_cons_zero, List.getElem_cons_succ]
          refine wpAnyN_take (i := 5) (v := ?rnv23r9_5) rfl (by kernel_rfl) (by kernel_rfl) (by kernel_rfl) (fun _ _ _ h => h) (by decide) (by kernel_rfl) (Or.inl ⟨by rfl, ?rny23r9_5⟩) (by assumption) ?rnr23r9_5
          case rny23r9_5 => (intro w hSw; (try dsimp only at hSw); go_simp; try with_reducible rfl)
          try simp only [Act.put, List.setIfInBounds_toArray, List.set_cons_zero, List.set_cons_succ, List.getElem_toArray, List.getElem_cons_zero, List.getElem_cons_succ]
          refine wpAnyN_take (i := 6) (v := ?rnv23r9_6) rfl (by kernel_rfl) (by kernel_rfl) (by kernel_rfl) (fun _ _ _ h => h) (by decide) (by kernel_rfl) (Or.inl ⟨by rfl, ?rny23r9_6⟩) (by assumption) ?rnr23r9_6
          case rny23r9_6 => (intro w hSw; (try dsimp only at hSw); go_simp; try with_reducible rfl)
          try simp only [Act.put, List.setIfInBounds_toArray, List.set_cons_zero, List.set_cons_succ, List.getElem_toArray, List.getElem_cons_zero, List.getElem_cons_succ]
          refine wpAnyN_take (i := 7) (v := ?rnv23r9_7) rfl (by kernel_rfl) (by kernel_rfl) (by kernel_rfl) (fun _ _ _ h => h) (by decide) (by kernel_rfl) (Or.inl ⟨by rfl, ?rny23r9_7⟩) (by assumption) ?rnr23r9_7
          case rny23r9_7 => (intro w hSw; (try dsimp only at hSw); go_simp; try with_reducible rfl)
          try simp only [Act.put, List.setIfInBounds_toArray, List.set_cons_zero, List.set_cons_succ, List.getElem_toArray, List.getElem_cons_zero, List.getElem_cons_succ]
          refine wpAnyN_take (i := 8) (v := ?rnv23r9_8) rfl (by kernel_rfl) (by kernel_rfl) (by kernel_rfl) (fun _ _ _ h => h) (by decide) (by kernel_rfl) (Or.inl ⟨by rfl, ?rny23r9_8⟩) (by assumption) ?rnr23r9_8
          case rny23r9_8 => (intro w hSw; (try dsimp only at hSw); go_simp; try with_reducible rfl)
          try simp only [Act.put, List.setIfInBounds_toArray, List.set_cons_zero, List.set_cons_succ, List.getElem_toArray, List.getElem_cons_zero, List.getElem_cons_succ]
          refine wpAnyN_take (i := 9) (v := ?rnv23r9_9) rfl (by kernel_rfl) (by kernel_rfl) (by kernel_rfl) (fun _ _ _ h => h) (by decide) (by kernel_rfl) (Or.inl ⟨by rfl, ?rny23r9_9⟩) (by assumption) ?rnr23r9_9
          case rny23r9_9 => (intro w hSw; (try dsimp only at hSw); go_simp; try with_reducible rfl)
          try simp only [Act.put, List.setIfInBounds_toArray, List.set_cons_zero, List.set_cons_succ, List.getElem_toArray, List.getElem_cons_zero, List.getElem_cons_succ]
          refine wpAnyN_take (i := 10) (v := ?rnv23r9_10) rfl (by kernel_rfl) (by kernel_rfl) (by kernel_rfl) (fun _ _ _ h => h) (by decide) (by kernel_rfl) (Or.inl ⟨by rfl, ?rny23r9_10⟩) (by assumption) ?rnr23r9_10
          case rny23r9_10 => (intro w hSw; (try dsimp only at hSw); go_simp; try with_reducible rfl)
          try simp only [Act.put, List.setIfInBounds_toArray, List.set_cons_zero, List.set_cons_succ, List.getElem_toArray, List.getElem_cons_zero, List.getElem_cons_succ]
          refine wpAnyN_take (i := 11) (v := ?rnv23r9_11) rfl (by kernel_rfl) (by kernel_rfl) (by kernel_rfl) (fun _ _ _ h => h) (by decide) (by kernel_rfl) (Or.inl ⟨by rfl, ?rny23r9_11⟩) (by assumption) ?rnr23r9_11
          case rny23r9_11 => (intro w hSw; (try dsimp only at hSw); go_simp; try with_reducible rfl)
          try simp only [Act.put, List.setIfInBounds_toArray, List.set_cons_zero, List.set_cons_succ, List.getElem_toArray, List.getElem_cons_zero, List.getElem_cons_succ]
          refine wpAnyN_take (i := 12) (v := ?rnv23r9_12) rfl (by kernel_rfl) (by kernel_rfl) (by kernel_rfl) (fun _ _ _ h => h) (by decide) (by kernel_rfl) (Or.inl ⟨by rfl, ?rny23r9_12⟩) (by assumption) ?rnr23r9_12
          case rny23r9_12 => (intro w hSw; (try dsimp only at hSw); go_simp; try with_reducible rfl)
          try simp only [Act.put, List.setIfInBounds_toArray, List.set_cons_zero, List.set_cons_succ, List.getElem_toArray, List.getElem_cons_zero, List.getElem_cons_succ]
          refine wpAnyN_take (i := 13) (v := ?rnv23r9_13) rfl (by kernel_rfl) (by kernel_rfl) (by kernel_rfl) (fun _ _ _ h => h) (by decide) (by kernel_rfl) (Or.inl ⟨by rfl, ?rny23r9_13⟩) (by assumption) ?rnr23r9_13
          case rny23r9_13 => (intro w hSw; (try dsimp only at hSw); go_simp; try with_reducible rfl)
          try simp only [Act.put, List.setIfInBounds_toArray, List.set_cons_zero, List.set_cons_succ, List.getElem_toArray, List.getElem_cons_zero, List.getElem_cons_succ]
          refine wpAnyN_take (i := 14) (v := ?rnv23r9_14) rfl (by kernel_rfl) (by kernel_rfl) (by kernel_rfl) (fun _ _ _ h => h) (by decide) (by kernel_rfl) (Or.inl ⟨by rfl, ?rny23r9_14⟩) (by assumption) ?rnr23r9_14
          case rny23r9_14 => (intro w hSw; (try dsimp only at hSw); go_simp; try with_reducible rfl)
          try simp only [Act.put, List.setIfInBounds_toArray, List.set_cons_zero, List.set_cons_succ, List.getElem_toArray, List.getElem_cons_zero, List.getElem_cons_succ]
          refine wpAnyN_take (i := 15) (v := ?rnv23r9_15) rfl (by kernel_rfl) (by kernel_rfl) (by kernel_rfl) (fun _ _ _ h => h) (by decide) (by kernel_rfl) (Or.inl ⟨by rfl, ?rny23r9_15⟩) (by assumption) ?rnr23r9_15
          case rny23r9_15 => (intro w hSw; (try dsimp only at hSw); go_simp; try with_reducible rfl)
          try simp only [Act.put, List.setIfInBounds_toArray, List.set_cons_zero, List.set_cons_succ, List.getElem_toArray, List.getElem_cons_zero, List.getElem_cons_succ]
          refine wpAnyN_take (i := 16) (v := ?rnv23r9_16) rfl (by kernel_rfl) (by kernel_rfl) (by kernel_rfl) (fun _ _ _ h => h) (by decide) (by kernel_rfl) (Or.inl ⟨by rfl, ?rny23r9_16⟩) (by assumption) ?rnr23r9_16
          case rny23r9_16 => (intro w hSw; (try dsimp only at hSw); go_simp; try with_reducible rfl)
          try simp only [Act.put, List.setIfInBounds_toArray, List.set_cons_zero, List.set_cons_succ, List.getElem_toArray, List.getElem_cons_zero, List.getElem_cons_succ]
          refine wpAnyN_take (i := 17) (v := ?rnv23r9_17) rfl (by kernel_rfl) (by kernel_rfl) (by kernel_rfl) (fun _ _ _ h => h) (by decide) (by kernel_rfl) (Or.inl ⟨by rfl, ?rny23r9_17⟩) (by assumption) ?rnr23r9_17
          case rny23r9_17 => (intro w hSw; (try dsimp only at hSw); go_simp; try with_reducible rfl)
          try simp only [Act.put, List.setIfInBounds_toArray, List.set_cons_zero, List.set_cons_succ, List.getElem_toArray, List.getElem_cons_zero, List.getElem_cons_succ]
          refine wpAnyN_take (i := 18) (v := ?rnv23r9_18) rfl (by kernel_rfl) (by kernel_rfl) (by kernel_rfl) (fun _ _ _ h => h) (by decide) (by kernel_rfl) (Or.inl ⟨by rfl, ?rny23r9_18⟩) (by assumption) ?rnr23r9_18
          case rny23r9_18 => (intro w hSw; (try dsimp only at hSw); go_simp; try with_reducible rfl)
          try simp only [Act.put, List.setIfInBounds_toArray, List.set_cons_zero, List.set_cons_succ, List.getElem_toArray, List.getElem_cons_zero, List.getElem_cons_succ]
          refine wpAnyN_take (i := 19) (v := ?rnv23r9_19) rfl (by kernel_rfl) (by kernel_rfl) (by kernel_rfl) (fun _ _ _ h => h) (by decide) (by kernel_rfl) (Or.inl ⟨by rfl, ?rny23r9_19⟩) (by assumption) ?rnr23r9_19
          case rny23r9_19 => (intro w hSw; (try dsimp only at hSw); go_simp; try with_reducible rfl)
          try simp only [Act.put, List.setIfInBounds_toArray, List.set_cons_zero, List.set_cons_succ, List.getElem_toArray, List.getElem_cons_zero, List.getElem_cons_succ]
          refine wpAnyN_take (i := 20) (v := ?rnv23r9_20) rfl (by kernel_rfl) (by kernel_rfl) (by kernel_rfl) (fun _ _ _ h => h) (by decide) (by kernel_rfl) (Or.inl ⟨by rfl, ?rny23r9_20⟩) (by assumption) ?rnr23r9_20
          case rny23r9_20 => (intro w hSw; (try dsimp only at hSw); go_simp; try with_reducible rfl)
          try simp only [Act.put, List.setIfInBounds_toArray, List.set_cons_zero, List.set_cons_succ, List.getElem_toArray, List.getElem_cons_zero, List.getElem_cons_succ]
          refine wpAnyN_take (i := 21) (v := ?rnv23r9_21) rfl (by kernel_rfl) (by kernel_rfl) (by kernel_rfl) (fun _ _ _ h => h) (by decide) (by kernel_rfl) (Or.inl ⟨by rfl, ?rny23r9_21⟩) (by assumption) ?rnr23r9_21
          case rny23r9_21 => (intro w hSw; (try dsimp only at hSw); go_simp; try with_reducible rfl)
          try simp only [Act.put, List.setIfInBounds_toArray, List.set_cons_zero, List.set_cons_succ, List.getElem_toArray, List.getElem_cons_zero, List.getElem_cons_succ]
          refine wpAnyN_take (i := 22) (v := ?rnv23r9_22) rfl (by kernel_rfl) (by kernel_rfl) (by kernel_rfl) (fun _ _ _ h => h) (by decide) (by kernel_rfl) (Or.inl ⟨by rfl, ?rny23r9_22⟩) (by assumption) ?rnr23r9_22
          case rny23r9_22 => (intro w hSw; (try dsimp only at hSw); go_simp; try with_reducible rfl)
          try simp only [Act.put, List.setIfInBounds_toArray, List.set_cons_zero, List.set_cons_succ, List.getElem_toArray, List.getElem_cons_zero, List.getElem_cons_succ]
          refine wpAnyN_one (i := 23) (by kernel_rfl) rfl (fun K hK => ?_)
          go_simp
          refine hK.out _ _ (fun h => absurd rfl h) (fun _ => ?_)
          clear hK K
          try simp only [Act.put, List.setIfInBounds_toArray, List.set_cons_zero, List.set_cons_succ, List.getElem_toArray, List.getElem_cons_zero, List.getElem_cons_succ]
          refine wpAnyN_done (by kernel_rfl) ?_ _
          go_wp2_with fail
          have hb9 : Blk (((wr.setCell ⟨gp, 0, none⟩ (.float .f64 (FI x9))).setCell ⟨gp, 1, none⟩ (.float .f64 (FI y9))).drew) gp #[.float .f64 (FI x9), .float .f64 (FI y9)] 60 := by
            have := (HB.out.1.set 0 (.float .f64 (FI x9))).set 1 (.float .f64 (FI y9))
            simp at this
            exact this
          have F9 : Frm (fun x => x = gp) wr (((wr.setCell ⟨gp, 0, none⟩ (.float .f64 (FI x9))).setCell ⟨gp, 1, none⟩ (.float .f64 (FI y9))).drew) := (((Frm.refl (fun x => x = gp) wr).self 0 _).self 1 _).drew
          have HZ := Lib.hid (And.intro hb9 F9)
          clear hb9 F9
          go_roundw
          case rel => exact ⟨q + 1, by go_num, by omega, by rw [HB.out.2.2.2]; exact HZ.out.1, HB.out.2.1.then HZ.out.2 (fun x hx => .inr (by subst hx; exact HO.out.2.2.1)), HB.out.2.2.1.then HZ.out.2 (fun x hx => .inl hx)⟩
          case measure => simp [intOf]; omega
        · have q1 : ¬ (q : Int) < (n : Int) := by omega
          have hqn2 : q = n := by omega
          subst hqn2
          have hx := H.out.2.2.1 i hlt
          rw [H.out.2.2.2.2.2.2.2.1] at hx
          have hbd := H.out.2.2.2.1 i q
          rw [← hx] at hb hbd
          have htk : (hearN X).take (i + 1) = (hearN X).take i ++ [nearp (X.getD i (0, 0))] := by
            have hl : i < (hearN X).length := by unfold hearN; rw [List.length_map, H.out.2.1]; exact hlt
            rw [take_one (0, 0) hl]
            congr 1
            unfold hearN
            rw [List.getD_eq_getElem?_getD, List.getElem?_map, List.getD_eq_getElem?_getD, List.getElem?_eq_getElem (by rw [H.out.2.1]; exact hlt)]; rfl
          obtain ⟨⟨x, y⟩, hxy⟩ : ∃ p, X.getD i (0, 0) = p := ⟨_, rfl⟩
          rw [hxy] at hb hbd htk
          simp only at hb hbd
          have p0 : wr.cell? ⟨gp, 0, none⟩ = some (.float .f64 (FI x)) := hb.cell 0
          have p1 : wr.cell? ⟨gp, 1, none⟩ = some (.float .f64 (FI y)) := hb.cell 1
          have hne := rnear_is x y wr (by omega) (by omega)
          obtain ⟨s1, hs1⟩ : ∃ s, sg x = s := ⟨_, rfl⟩
          obtain ⟨s2, hs2⟩ : ∃ s, sg y = s := ⟨_, rfl⟩
          have hnp : nearp (x, y) = (s1, s2) := by unfold nearp; rw [hs1, hs2]
          rw [hnp] at htk
          rw [hs1, hs2] at hne
          obtain ⟨R, hR⟩ : ∃ R, ((hearN X).take i).flatMap px = R := ⟨_, rfl⟩
          have htk2 : ((hearN X).take (i + 1)).flatMap px = R ++ [.float .f64 (FI s1), .float .f64 (FI s2)] := by rw [htk, List.flatMap_append, hR]; rfl
          have own := own_keep HO.out.2.2.2.1 (fun k hk => Fg.block k (own_blk HO.out.2.2.2.1 hk).2.choose_spec.lt (HO.out.2.2.2.2 k hk))
          rw [hR] at own
          have HTK := Lib.hid (And.intro htk2 (And.intro own F))
          clear hx hbd hxy htk hs1 hs2 hnp htk2 hR own hb F Fg
          go_wp2_with fail
          refine hne.mono ?_
          rintro e w2 ⟨rfl, f2⟩
          have own1 := (own_frm HTK.out.2.1 f2 (fun _ _ _ h => h)).alloc (.cells #[.float .f64 (FI s1), .float .f64 (FI s2)] 60)
          have hrd := new_rdsP w2 (.float .f64 (FI s1)) (.float .f64 (FI s2)) 60
          have F1 := (HTK.out.2.2.thenN f2).alloc (.cells #[.float .f64 (FI s1), .float .f64 (FI s2)] 60)
          have hsz : w.heap.size ≤ (w2.alloc (.cells #[.float .f64 (FI s1), .float .f64 (FI s2)] 60)).heap.size := F1.size
          obtain ⟨A5, c5, rfl, -, -⟩ := own_is own1
          go_wp2_with (at_builtin; go_must (refine wpList_append_rds _ rfl _ _ 39 rfl w.heap.size 60 i0 _ 2 16 Try.underlying39 hi hz0 hz1 hz2 zero_cells (by omega) (.slice A5 i c5) i R rfl own1 (some ⟨w2.heap.size, 0, none⟩) 1 1 [.float .f64 (FI s1), .float .f64 (FI s2)] rfl hrd (by simp [Value.oneCell']) (by unfold maxLen; omega) (by omega) hsz ?_; intro v3 w3 own3 hg3))
          have F3 := own_grown own1 F1 (Nat.le_refl _) hg3
          go_wp2_with fail
          go_roundw
          case rel => exact ⟨i + 1, by go_num, by omega, by rw [HTK.out.1]; exact own3, F3⟩
          case measure => simp [intOf]; omega
    · have i1 : ¬ (i : Int) < (K : Int) := by omega
      have hiK2 : i = K := by omega
      subst hiK2
      have hll : (hearN X).length = i := by unfold hearN; rw [List.length_map, H.out.2.1]
      rw [List.take_of_length_le (by omega)] at own
      obtain ⟨A5, c5, rfl, -, -⟩ := own_is own
      have R5 : RowP wr w.heap.size (.slice A5 i c5) (hearN X) := by unfold RowP; rw [hll]; exact own
      obtain ⟨A6, c6, e6, hrd⟩ := rdP_of R5
      injection e6 with e61 e62 e63
      subst e61
      clear e62 e63
      have hbk := rback_ok wr A5 i c5 (hearN X) hll (by omega) hrd (near_sml X)
      have hol := outB_len (hearN X)
      rw [hll] at hol
      have hT2 : T = decide (okB (hearN X) = true ∧ opE (outB (hearN X)) = 0) := H.out.2.2.2.2.1.symm
      have hO2 : O = if okB (hearN X) = true then opL (outB (hearN X)) else [] := H.out.2.2.2.2.2.1.symm
      have hOl := H.out.2.2.2.2.2.2.1
      have hlt2 := outB_lt (hearN X)
      obtain ⟨Y, hY⟩ : ∃ Y, outB (hearN X) = Y := ⟨_, rfl⟩
      obtain ⟨M, hM⟩ : ∃ M, okB (hearN X) = M := ⟨_, rfl⟩
      rw [hY, hM] at hbk hT2 hO2
      rw [hY] at hol hlt2
      cases M with
      | true =>
        rw [if_pos rfl] at hO2
        have HT := Lib.hid (And.intro hT2 (And.intro hO2 (And.intro hlt2 hOl)))
        obtain ⟨m, hm⟩ : ∃ m, Y.length = m := ⟨_, rfl⟩
        have HM := Lib.hid hm
        rw [hm] at hol
        clear own R5 hrd hY hM hT2 hO2 hlt2 hm hll hOl
        go_wp2_with fail
        refine hbk.mono ?_
        rintro e w2 ⟨v2, rfl, R2, F2⟩
        obtain ⟨A2', c2', rfl, hb2⟩ := Bin.of_row R2
        have hc2 : Y.length ≤ c2' := by
          obtain ⟨_, _, e9, h9, -⟩ := own_is R2
          injection e9 with _ _ e93
          omega
        rw [HM.out]
        have hop := ropen_is w2 A2' m c2' Y hb2 HM.out (by rw [← HM.out]; exact hc2) HT.out.2.2.1 (by omega)
        rw [← HT.out.2.1, HT.out.2.2.2] at hop
        obtain ⟨E, hE⟩ : ∃ E, opE Y = E := ⟨_, rfl⟩
        rw [hE] at hop
        have HE := Lib.hid hE
        clear hbk R2 hb2 hc2 hE
        go_wp2_with fail
        refine hop.mono ?_
        rintro e w3 ⟨A9, c9, rfl, hb9, hc9, F3⟩
        by_cases hE0 : E = 0
        · subst hE0
          have hTT : T = true := by rw [HT.out.1]; exact decide_eq_true ⟨by first | rfl | trivial, HE.out⟩
          have HTT := Lib.hid hTT
          clear hop hTT
          go_wp2_with fail
          go_ret2
          exact ⟨A9, c9, by rw [HTT.out]; rfl, hb9, (F.thenN F2).thenN F3⟩
        · have hb : (E == 0) = false := by simpa using hE0
          have hTT : T = false := by rw [HT.out.1]; exact decide_eq_false (fun h => hE0 (by rw [← HE.out]; exact h.2))
          have HTT := Lib.hid hTT
          clear hop hTT
          go_wp2_with fail
          go_ret2
          exact ⟨A9, c9, by rw [HTT.out]; rfl, hb9, (F.thenN F2).thenN F3⟩
      | false =>
        rw [if_neg (by decide)] at hO2
        have hTT : T = false := by rw [hT2]; exact decide_eq_false (fun h => by have := h.1; simp at this)
        have hn0 : nO = 0 := by rw [← hOl, hO2]; rfl
        have HT := Lib.hid (And.intro hTT (And.intro hO2 hn0))
        clear own R5 hrd hY hM hT2 hO2 hlt2 hll hTT hn0 hOl
        go_wp2_with fail
        refine hbk.mono ?_
        rintro e w2 ⟨v2, rfl, R2, F2⟩
        clear hbk R2
        go_wp2_with fail
        go_ret2
        exact ⟨none, 0, by rw [HT.out.1, HT.out.2.2]; rfl, by rw [HT.out.2.1]; exact Bin.nil _ _, F.thenN F2⟩
end Go.Proofs.Ytcdjofneijlbgaa.A

/- A block's signal; noise. -/
import Derived.Test.YtcdjofneijlbgaaCC
namespace Go.Proofs.Ytcdjofneijlbgaa.A
open Go.RowKit Go.Proofs.Ytcdjofneijlbgaa.K Go.Proofs.Ytcdjofneijlbgaa.F Go.Proofs.Ytcdjofneijlbgaa.N
set_option linter.unusedVariables false
set_option linter.unusedSimpArgs false

theorem Bin.ints {w : World} {A : Option Addr} {L : List Nat} {n : Nat} (h : Bin w A L) (hn : L.length = n) (hn9 : n ≤ 100000) (h256 : ∀ c ∈ L, c < 256) : Ints w .u8 A n (L.map fun (c : Nat) => (c : Int)) := by
  obtain ⟨h1, h2⟩ := h
  refine ⟨by rw [List.length_map, hn], by omega, fun z hz => ?_, fun h0 => ?_⟩
  · obtain ⟨c, hc, rfl⟩ := List.mem_map.1 hz
    have := h256 c hc
    simp only [Lit.wf, Bool.and_eq_true, decide_eq_true_eq]
    exact ⟨by show (0 : Int) ≤ _; omega, by show _ ≤ (255 : Int); omega⟩
  · obtain ⟨ad, e, hb, hc⟩ := h2 (by omega)
    refine ⟨ad, e, hb, fun j hj => hc j _ ?_⟩
    rw [List.getD_eq_getElem?_getD, List.getElem?_map, List.getElem?_map, List.getElem?_eq_getElem (by omega)]; rfl
theorem toNat_map (L : List Nat) : (L.map fun (c : Nat) => (c : Int)).map Int.toNat = L := by
  rw [List.map_map]; exact List.map_id'' (fun c => Int.toNat_natCast c) L
theorem of_bin (w : World) (A : Option Addr) (n c : Nat) (L : List Nat) (h : Bin w A L) (hn : L.length = n) (hn9 : n ≤ 100000) (h256 : ∀ c ∈ L, c < 256) : Calls Try.prog 24 #[.slice A n c] w (HandC w (ofL L)) := by
  have := of_ok w A n c _ (h.ints hn hn9 h256) hn9
  rwa [toNat_map] at this
theorem rof_bin (w : World) (A : Option Addr) (n c : Nat) (L : List Nat) (h : Bin w A L) (hn : L.length = n) (hn9 : n ≤ 100000) (h256 : ∀ c ∈ L, c < 256) : Calls Try.prog 26 #[.slice A n c] w (HandP w (ofL L)) := by
  have := rof_ok w A n c _ (h.ints hn hn9 h256) hn9
  rwa [toNat_map] at this
/-- A block's signal. -/
def sgl (L : List Nat) : List Pt := ofL (clo L)
def sgE (n : Nat) : Int := if 4096 < n then 2 else 0
set_option maxRecDepth 100000 in
set_option maxHeartbeats 2000000 in
theorem signal_is (w : World) (A : Option Addr) (n c : Nat) (L : List Nat) (h : Bin w A L) (hn : L.length = n) (h256 : ∀ c ∈ L, c < 256) (hn9 : n ≤ 9223372036854775807) : Calls Try.prog 15 #[.slice A n c] w fun e w' => ∃ v, e = .returned (.tuple #[v, .int .i64 (sgE n)]) ∧ RowC w' w.heap.size v (if 4096 < n then [] else sgl L) ∧ Frm No w w' := by
  by_cases h1 : 4096 < n
  · have hE : sgE n = 2 := if_pos h1
    rw [hE, if_pos h1]
    have i1 : (4096 : Int) < (n : Int) := by omega
    clear h h256
    go_enter Try.func15, Try.ntmps15
    go_wp2_with fail
    go_ret2
    exact ⟨_, rfl, World.ownsRow_nil _ _ _ _, Frm.refl _ _⟩
  · have hE : sgE n = 0 := if_neg h1
    rw [hE, if_neg h1]
    have i1 : ¬ (4096 : Int) < (n : Int) := by omega
    have hcl := close_is w A n c L h hn h256 (by omega)
    have hlen := clo_len L
    rw [hn] at hlen
    have H := Lib.hid (And.intro h (And.intro hn (And.intro h256 hlen)))
    clear h hn h256 hE hlen
    go_enter Try.func15, Try.ntmps15
    go_wp2_with fail
    refine hcl.mono ?_
    rintro e w1 ⟨v1, rfl, R1, F1⟩
    obtain ⟨A1, c1, rfl, hb1⟩ := Bin.of_row R1
    have hof := of_bin w1 A1 (n + 2) c1 (clo L) hb1 H.out.2.2.2 (by omega) (clo_lt H.out.2.2.1)
    rw [H.out.2.2.2]
    clear R1 hcl hb1
    go_wp2_with fail
    refine hof.mono ?_
    rintro e w2 ⟨v2, rfl, R2, F2⟩
    go_wp2_with fail
    go_ret2
    exact ⟨v2, rfl, own_lower R2 F1.size, F1.thenN F2⟩
set_option maxRecDepth 100000 in
set_option maxHeartbeats 2000000 in
theorem rsignal_is (w : World) (A : Option Addr) (n c : Nat) (L : List Nat) (h : Bin w A L) (hn : L.length = n) (h256 : ∀ c ∈ L, c < 256) (hn9 : n ≤ 80000) : Calls Try.prog 16 #[.slice A n c] w (HandP w (sgl L)) := by
  have hcl := rclose_is w A n c L h hn h256 (by omega)
  have hlen := clo_len L
  rw [hn] at hlen
  have H := Lib.hid (And.intro h (And.intro hn (And.intro h256 hlen)))
  clear h hn h256 hlen
  go_enter Try.func16, Try.ntmps16
  go_wp2_with fail
  refine hcl.mono ?_
  rintro e w1 ⟨v1, rfl, R1, F1⟩
  obtain ⟨A1, c1, rfl, hb1⟩ := Bin.of_row R1
  have hof := rof_bin w1 A1 (n + 2) c1 (clo L) hb1 H.out.2.2.2 (by omega) (clo_lt H.out.2.2.1)
  rw [H.out.2.2.2]
  clear R1 hcl hb1
  go_wp2_with fail
  refine hof.mono ?_
  rintro e w2 ⟨v2, rfl, R2, F2⟩
  go_wp2_with fail
  go_ret
  exact ⟨v2, rfl, own_lower R2 F1.size, F1.thenN F2⟩
/-- A store into a row of one's own, one cell an element. -/
theorem own_put1 {w : World} {B e n c : Nat} {A : Option Addr} {xs : List Value} (h : w.ownsRow B e 1 (.slice A n c) n xs) {j : Nat} (hj : j < n) (u : Value) :
    ∃ ad, A = some ad ∧ (∃ cs, Blk w ad.block cs e) ∧ w.cell? (ad.add j) = xs[j]? ∧ w.frozen? (ad.add j) = false ∧ (w.setCell (ad.add j) u).ownsRow B e 1 (.slice A n c) n (xs.set j u) := by
  obtain ⟨hl, h2⟩ := h
  rcases h2 with ⟨h0, h1⟩ | ⟨gk, cap, cur, hv, hg, hh, h3, h4, h5, h6⟩
  · subst h1; omega
  · simp only [Value.slice.injEq] at hv
    obtain ⟨rfl, -, rfl⟩ := hv
    have hb : Blk w gk cur e := hh
    have ea : (⟨gk, 0, none⟩ : Addr).add j = ⟨gk, j, none⟩ := by unfold Addr.add; by_cases h0 : j = 0 <;> simp [h0]
    refine ⟨_, rfl, ⟨cur, hb⟩, ?_, by rw [ea]; exact hb.free j, ?_⟩
    · rw [ea, hb.cell, ← h6, List.getElem?_take_of_lt (by omega), Array.getElem?_toList]
    · rw [ea]
      refine ⟨by rw [List.length_set]; exact hl, .inr ⟨gk, c, cur.setIfInBounds j u, rfl, hg, hb.set j u, h3, h4, by rw [Array.size_setIfInBounds]; exact h5, ?_⟩⟩
      rw [Array.toList_setIfInBounds, List.take_set, h6]
theorem RowC.put {w : World} {B n c : Nat} {A : Option Addr} {L : List Pt} (h : RowC w B (.slice A n c) L) (hn : L.length = n) {j : Nat} (hj : j < n) (p : Pt) :
    ∃ ad, A = some ad ∧ (∃ cs, Blk w ad.block cs 61) ∧ w.cell? (ad.add j) = some (cx (L.getD j (0, 0))) ∧ w.frozen? (ad.add j) = false ∧ RowC (w.setCell (ad.add j) (cx p)) B (.slice A n c) (L.set j p) ∧ B ≤ ad.block := by
  unfold RowC at h
  rw [hn] at h
  obtain ⟨ad, rfl, hb, hc, hz, ho⟩ := own_put1 h hj (cx p)
  have hB := (own_blk h rfl).1
  refine ⟨ad, rfl, hb, ?_, hz, ?_, hB⟩
  · rw [hc, List.getElem?_map, List.getElem?_eq_getElem (by omega), List.getD_eq_getElem?_getD, List.getElem?_eq_getElem (by omega)]; rfl
  · unfold RowC
    rw [List.length_set, hn, List.map_set]
    exact ho
theorem store_cx (a : Addr) (k : FloatKind) (x y : Nat) (m : Mode) (w : World) : (store a (.complex k x y) m).run Try.prog w = stored Try.prog w a (.complex k x y) m := rfl
theorem cx_one (L : List Pt) : ∀ u ∈ L.map cx, u.oneCell' = true := fun u hu => by
  obtain ⟨n, _, rfl⟩ := List.mem_map.1 hu
  rfl
theorem RdC.rds {w : World} {A : Option Addr} {L : List Pt} (h : RdC w A L) : Rds w 1 A L.length (L.map cx) := by
  refine ⟨by simp, fun h0 => ?_⟩
  obtain ⟨ad, e, ⟨cs, hb⟩, -⟩ := h 0 h0
  refine ⟨ad, e, hb.lt, fun j u hu => ?_⟩
  rw [List.getElem?_map] at hu
  by_cases hj : j < L.length
  · obtain ⟨ad', e', -, hc⟩ := h j hj
    rw [e] at e'
    injection e' with e'
    subst e'
    rw [hc, ← hu, List.getElem?_eq_getElem hj, List.getD_eq_getElem?_getD, List.getElem?_eq_getElem hj]; rfl
  · rw [List.getElem?_eq_none (by omega)] at hu; simp at hu
/-- Clone of points. -/
theorem clone_pts (w : World) (A : Option Addr) (n c : Nat) (L : List Pt) (h : RdC w A L) (hn : L.length = n) (hn9 : n ≤ 100000) : Calls Try.prog 20 #[.slice A n c] w (HandC w L) := by
  have := cloneC w A n c (L.map cx) (by rw [← hn]; exact h.rds) (cx_one L) hn9
  refine this.mono ?_
  rintro e w' ⟨v, rfl, own, f⟩
  refine ⟨v, rfl, ?_, f⟩
  unfold RowC
  rw [hn]; exact own
/-- Noise: what is told, and what comes of it. -/
def noE (n : Nat) (at_ re im : Int) : Int := if at_ < 0 ∨ (n : Int) ≤ at_ ∨ re < -100 ∨ 100 < re ∨ im < -100 ∨ 100 < im then 1 else 0
def noL (L : List Pt) (at_ re im : Int) : List Pt := if noE L.length at_ re im = 0 then L.set at_.toNat ((L.getD at_.toNat (0, 0)).1 + re, (L.getD at_.toNat (0, 0)).2 + im) else []
set_option maxRecDepth 100000 in
set_option maxHeartbeats 4000000 in
theorem noise_is (w : World) (A : Option Addr) (n c : Nat) (L : List Pt) (at_ re im : Int) (h : RdC w A L) (hn : L.length = n) (hn9 : n ≤ 100000) (hs : Sml L) : Calls Try.prog 17 #[.slice A n c, .int .i64 at_, .int .i64 re, .int .i64 im] w fun e w' => ∃ v, e = .returned (.tuple #[v, .int .i64 (noE n at_ re im)]) ∧ RowC w' w.heap.size v (noL L at_ re im) ∧ Frm No w w' := by
  by_cases hb : at_ < 0 ∨ (n : Int) ≤ at_ ∨ re < -100 ∨ 100 < re ∨ im < -100 ∨ 100 < im
  · have hE : noE n at_ re im = 1 := if_pos hb
    have hL : noL L at_ re im = [] := by unfold noL; rw [hn, hE, if_neg (by decide)]
    rw [hE, hL]
    clear h hs hE hL
    go_enter Try.func17, Try.ntmps17
    rcases hb with hb | hb
    · go_wp2_with fail
      go_ret2
      exact ⟨_, rfl, World.ownsRow_nil _ _ _ _, Frm.refl _ _⟩
    by_cases a0 : at_ < 0
    · go_wp2_with fail
      go_ret2
      exact ⟨_, rfl, World.ownsRow_nil _ _ _ _, Frm.refl _ _⟩
    rcases hb with hb | hb
    · go_wp2_with fail
      go_ret2
      exact ⟨_, rfl, World.ownsRow_nil _ _ _ _, Frm.refl _ _⟩
    by_cases a1 : (n : Int) ≤ at_
    · go_wp2_with fail
      go_ret2
      exact ⟨_, rfl, World.ownsRow_nil _ _ _ _, Frm.refl _ _⟩
    rcases hb with hb | hb
    · go_wp2_with fail
      go_ret2
      exact ⟨_, rfl, World.ownsRow_nil _ _ _ _, Frm.refl _ _⟩
    by_cases a2 : re < -100
    · go_wp2_with fail
      go_ret2
      exact ⟨_, rfl, World.ownsRow_nil _ _ _ _, Frm.refl _ _⟩
    rcases hb with hb | hb
    · go_wp2_with fail
      go_ret2
      exact ⟨_, rfl, World.ownsRow_nil _ _ _ _, Frm.refl _ _⟩
    by_cases a3 : 100 < re
    · go_wp2_with fail
      go_ret2
      exact ⟨_, rfl, World.ownsRow_nil _ _ _ _, Frm.refl _ _⟩
    rcases hb with hb | hb
    · go_wp2_with fail
      go_ret2
      exact ⟨_, rfl, World.ownsRow_nil _ _ _ _, Frm.refl _ _⟩
    by_cases a4 : im < -100
    · go_wp2_with fail
      go_ret2
      exact ⟨_, rfl, World.ownsRow_nil _ _ _ _, Frm.refl _ _⟩
    go_wp2_with fail
    go_ret2
    exact ⟨_, rfl, World.ownsRow_nil _ _ _ _, Frm.refl _ _⟩
  · have hE : noE n at_ re im = 0 := if_neg hb
    obtain ⟨b1, b2, b3, b4, b5, b6⟩ : 0 ≤ at_ ∧ at_ < (n : Int) ∧ -100 ≤ re ∧ re ≤ 100 ∧ -100 ≤ im ∧ im ≤ 100 := by omega
    obtain ⟨a, rfl⟩ := Int.eq_ofNat_of_zero_le b1
    have han : a < n := by omega
    have hL : noL L (a : Int) re im = L.set a ((L.getD a (0, 0)).1 + re, (L.getD a (0, 0)).2 + im) := by unfold noL; rw [hn, hE, if_pos rfl, Int.toNat_natCast]
    rw [hE, hL]
    have hcl := clone_pts w A n c L h hn hn9
    have hsm := sml_at hs (i := a) (by omega)
    obtain ⟨⟨x, y⟩, hxy⟩ : ∃ p, L.getD a (0, 0) = p := ⟨_, rfl⟩
    rw [hxy] at hsm ⊢
    have hadd : ∀ w', (binOp .add 61 (.complex .f64 (FI x) (FI y)) (.complex .f64 (floatOfInt .f64 re) (floatOfInt .f64 im))).run Try.prog w' = .ok (.complex .f64 (FI (x + re)) (FI (y + im))) w' := fun w' => add_run x y re im hsm.1 hsm.2 (by omega) (by omega) 61 w'
    have hst := store_cx
    have H := Lib.hid (And.intro hn hxy)
    clear h hs hE hL hb hn hxy hsm
    go_enter Try.func17, Try.ntmps17
    go_wp2_with fail
    refine hcl.mono ?_
    rintro e w1 ⟨v1, rfl, R1, F1⟩
    obtain ⟨A1, c1, rfl, -⟩ := rdC_of R1
    rw [H.out.1] at R1 ⊢
    obtain ⟨ad, rfl, ⟨cs, hb1⟩, hc, hz, R2, hB2⟩ := R1.put H.out.1 (j := a) han (x + re, y + im)
    rw [H.out.2] at hc
    have hc' : w1.cell? (ad.add a) = some (.complex .f64 (FI x) (FI y)) := hc
    have F2 : Frm No w (w1.setCell (ad.add a) (cx (x + re, y + im))) := F1.set (.inr (by rw [block_add]; exact hB2)) _
    have HR := Lib.hid (And.intro R2 F2)
    have hgl := hb1.lt
    clear R1 R2 F2 hcl hc
    go_wp2_with fail
    go_ret2
    exact ⟨_, rfl, HR.out.1, HR.out.2⟩
end Go.Proofs.Ytcdjofneijlbgaa.A

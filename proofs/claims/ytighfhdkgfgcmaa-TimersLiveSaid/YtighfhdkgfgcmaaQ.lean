/- What the document's Tick does; two slices that read as one list are the same. -/
import Derived.Test.YtighfhdkgfgcmaaJ
namespace Go.Proofs.Ytighfhdkgfgcmaa.A
open Go.RowKit Go.Proofs.Ytighfhdkgfgcmaa.K Go.Proofs.Ytighfhdkgfgcmaa.N
set_option linter.unusedVariables false
set_option linter.unusedSimpArgs false

/-- A slice reads as a list of small numbers. -/
def Rd (w : World) (v : Value) (l : List Nat) : Prop := ∃ A c, v = .slice A l.length c ∧ ∀ j, j < l.length → ∃ ad, A = some ad ∧ ad.block < w.heap.size ∧ w.cell? (ad.add j) = some (.int .i64 (l.getD j 0 : Nat))
theorem rd_of {w1 : World} {B : Nat} {v : Value} {l : List Nat} (h : w1.ownsRow B 3 1 v (ints l).length ((ints l).map (Value.int .i64))) : Rd w1 v l := by
  obtain ⟨A, c, e, hc⟩ := handed_cells h
  exact ⟨A, c, e, fun j hj => by
    obtain ⟨ad, ea, ⟨cs, hb⟩, hx⟩ := hc j hj
    exact ⟨ad, ea, hb.lt, hx⟩⟩
theorem Rd.frm {w w' : World} {v : Value} {l : List Nat} (h : Rd w v l) (f : Frm No w w') : Rd w' v l := by
  obtain ⟨A, c, e, hc⟩ := h
  exact ⟨A, c, e, fun j hj => by
    obtain ⟨ad, ea, hb, hx⟩ := hc j hj
    exact ⟨ad, ea, Nat.lt_of_lt_of_le hb f.size, (World.cell?_of_block (f.block _ (by rw [block_add]; exact hb) (fun h => h))).trans hx⟩⟩

set_option maxRecDepth 100000 in
set_option maxHeartbeats 2000000 in
theorem same_yes (w : World) (v1 v2 : Value) (l : List Nat) (h1 : Rd w v1 l) (h2 : Rd w v2 l) (hl : l.length ≤ 1000) : Calls Try.prog 14 #[v1, v2] w fun e w' => e = .returned (.bool true) ∧ Frm No w w' := by
  obtain ⟨A1, c1, rfl, hc1⟩ := h1
  obtain ⟨A2, c2, rfl, hc2⟩ := h2
  have H1 := Lib.hid hc1
  have H2 := Lib.hid hc2
  clear hc1 hc2
  go_enter Try.func14, Try.ntmps14
  go_wp2_with fail
  go_loopw [5] (fun vi wr => ∃ k : Nat, vi = .int .i64 k ∧ k ≤ l.length ∧ (∀ p : Addr, wr.cell? p = w.cell? p) ∧ Frm No w wr) (fun vi _ => l.length - (intOf vi).toNat)
  case atStart => exact ⟨0, rfl, by omega, fun _ => rfl, Frm.refl _ _⟩
  case round =>
    obtain ⟨k, rfl, hk, hsame, hF⟩ := hrel
    have HS := Lib.hid hsame
    clear hsame
    by_cases hlt : k < l.length
    · obtain ⟨ad1, rfl, -, k1⟩ := H1.out k hlt
      obtain ⟨ad2, rfl, -, k2⟩ := H2.out k hlt
      have m1 := (HS.out (ad1.add k)).trans k1
      have m2 := (HS.out (ad2.add k)).trans k2
      generalize l.getD k 0 = z at m1 m2
      have i0 : (0 : Int) ≤ (k : Int) := Int.natCast_nonneg _
      have i1 : (k : Int) < (l.length : Int) := by omega
      clear k1 k2
      go_wp2_with fail
      go_quiet (fail)
      go_wp2_with fail
      go_roundw
      case rel => exact ⟨k + 1, by go_num, by omega, HS.out, hF.drewN _⟩
      case measure => simp [intOf]; omega
    · go_wp2_with fail
      go_ret
      exact ⟨rfl, hF⟩

/-! ### The document's Tick -/
def hit (N : Int) (E : List Int) (q : Nat) : Bool := decide (E.getD q 0 ≠ 0 ∧ E.getD q 0 = N)
def rtickE (N : Int) (E : List Int) (k : Nat) : List Int := (List.range 8).map fun q => if q < k ∧ hit N E q = true then 0 else E.getD q 0
def rtickO (N : Int) (E : List Int) (k : Nat) : List Nat := (List.range k).filter (hit N E)

theorem rtickE_len (N : Int) (E : List Int) (k : Nat) : (rtickE N E k).length = 8 := by simp [rtickE]
theorem rtickE_getD (N : Int) (E : List Int) (hl : E.length = 8) (k q : Nat) : (rtickE N E k).getD q 0 = if q < k ∧ hit N E q = true then 0 else E.getD q 0 := by
  by_cases hq : q < 8
  · simp only [rtickE, List.getD_eq_getElem?_getD, List.getElem?_map, List.getElem?_range hq]; rfl
  · rw [List.getD_eq_getElem?_getD, List.getElem?_eq_none (by simp [rtickE]; omega), List.getD_eq_getElem?_getD, List.getElem?_eq_none (by omega)]; simp
theorem rtickE_zero (N : Int) (E : List Int) (hl : E.length = 8) : rtickE N E 0 = E :=
  ext_getD (by rw [rtickE_len, hl]) fun q => by rw [rtickE_getD N E hl, if_neg (by omega)]
theorem rtickE_succ (N : Int) (E : List Int) (hl : E.length = 8) (k : Nat) (hk : k < 8) : rtickE N E (k + 1) = if hit N E k = true then (rtickE N E k).set k 0 else rtickE N E k := by
  refine ext_getD (by split <;> simp [rtickE]) fun q => ?_
  by_cases hh : hit N E k = true
  · rw [if_pos hh, getD_set _ _ _ _ (by rw [rtickE_len]; exact hk), rtickE_getD N E hl, rtickE_getD N E hl]
    by_cases hq : q = k
    · subst hq; rw [if_pos rfl, if_pos ⟨by omega, hh⟩]
    · rw [if_neg hq]
      by_cases h2 : q < k ∧ hit N E q = true
      · rw [if_pos h2, if_pos ⟨by omega, h2.2⟩]
      · rw [if_neg h2, if_neg (fun h => h2 ⟨by omega, h.2⟩)]
  · rw [if_neg hh, rtickE_getD N E hl, rtickE_getD N E hl]
    by_cases h2 : q < k ∧ hit N E q = true
    · rw [if_pos h2, if_pos ⟨by omega, h2.2⟩]
    · rw [if_neg h2, if_neg (fun h => h2 ⟨by
        have : q ≠ k := fun e => hh (e ▸ h.2)
        omega, h.2⟩)]
theorem rtickO_succ (N : Int) (E : List Int) (k : Nat) : rtickO N E (k + 1) = if hit N E k = true then rtickO N E k ++ [k] else rtickO N E k := by
  simp only [rtickO, List.range_succ, List.filter_append]
  by_cases h : hit N E k = true <;> simp [h]
theorem rtickO_le (N : Int) (E : List Int) (k : Nat) : (rtickO N E k).length ≤ k := by
  have := List.length_filter_le (hit N E) (List.range k)
  simpa [rtickO] using this

theorem rtick_push {w W w3 : World} {g gg cap i : Nat} {N : Int} {E2 : List Int} {l : List Nat} {vo : Value} {o : Obj} (hT : IsE W g N E2) (hR : Row w vo l W) (hF : Frm (fun x => x = g) w W)
    (hown : w3.ownsRow w.heap.size 3 1 (.slice (some ⟨gg, 0, none⟩) (l.length + 1) cap) (l.length + 1) ((ints l).map (Value.int .i64) ++ [.int .i64 i])) (hg : (W.alloc o).grownBy w3 vo.ownBlock) :
    IsE w3 g N E2 ∧ Row w (.slice (some ⟨gg, 0, none⟩) (l.length + 1) cap) (l ++ [i]) w3 ∧ Frm (fun x => x = g) w w3 := by
  obtain ⟨r1, r2⟩ := row_push hF hR hown hg
  refine ⟨⟨(hT.1.alloc o).grown hg (fun e => ?_), hT.2⟩, r1, r2⟩
  have hR' : (W.alloc o).ownsRow w.heap.size 3 1 vo l.length ((ints l).map (Value.int .i64)) := World.ownsRow.alloc hR o
  obtain ⟨_, cs, hb⟩ := own_blk hR' e
  exact Blk.ne hb (hT.1.alloc o) (by decide) rfl

set_option maxRecDepth 100000 in
set_option maxHeartbeats 8000000 in
theorem rtick_ok (w : World) (g : Nat) (N : Int) (E : List Int) (h : IsE w g N E) (hN : 0 ≤ N) (hN2 : N ≤ 1000000) :
    Calls Try.prog 15 #[.pointer (some ⟨g, 0, none⟩)] w (Handed (fun x => x = g) (fun w' => IsE w' g (N + 1) (rtickE (N + 1) E 8)) w (ints (rtickO (N + 1) E 8))) := by
  obtain ⟨i0, hi, hz0, hz1, hz2⟩ := info_parts info3
  have hl8 := h.2
  have c0 := h.cell0
  have f0 := h.1.free 0
  have hgl := h.1.lt
  have h1 := h.set0 (N + 1)
  rw [← rtickE_zero (N + 1) E hl8] at h1
  have hF1 := (Frm.refl (fun x => x = g) w).self 0 (.int .i64 (N + 1))
  have HL := Lib.hid hl8
  have HH1 := Lib.hid h1
  have HF1 := Lib.hid hF1
  clear hl8 h1 hF1 h
  go_enter Try.func15, Try.ntmps15
  go_wp2_with fail
  go_loopw [3, 4] (fun vo vi wr => ∃ k : Nat, vi = .int .i64 k ∧ k ≤ 8 ∧ IsE wr g (N + 1) (rtickE (N + 1) E k) ∧ Row w vo (rtickO (N + 1) E k) wr ∧ Frm (fun x => x = g) w wr) (fun _ vi _ => 8 - (intOf vi).toNat)
  case atStart => exact ⟨0, rfl, by omega, HH1.out, World.ownsRow_nil _ _ _ _, HF1.out⟩
  case round =>
    clear HH1 HF1 c0 f0
    obtain ⟨k, rfl, hk, ht, ho, hF⟩ := hrel
    by_cases hlt : k < 8
    · have s1 := rtickE_succ (N + 1) E HL.out k hlt
      have s2 := rtickO_succ (N + 1) E k
      have hle := rtickO_le (N + 1) E k
      have hv := rtickE_getD (N + 1) E HL.out k k
      rw [if_neg (by omega)] at hv
      have hhit : hit (N + 1) E k = decide (E.getD k 0 ≠ 0 ∧ E.getD k 0 = N + 1) := rfl
      have c0 := ht.cell0
      have ck := ht.cell hlt
      rw [hv] at ck
      have fk := ht.1.free (1 + k)
      have j0 : (0 : Int) ≤ (k : Int) := Int.natCast_nonneg _
      have j8 : (k : Int) < 8 := by omega
      generalize E.getD k 0 = z at *
      generalize rtickE (N + 1) E k = E1 at *
      generalize rtickO (N + 1) E k = O1 at *
      have hsz := hF.size
      by_cases hz : z = 0
      · have hh : hit (N + 1) E k = false := by rw [hhit, decide_eq_false (fun h => h.1 hz)]
        rw [hh] at s1 s2
        simp only [Bool.false_eq_true, if_false] at s1 s2
        have S1 := Lib.hid s1
        have S2 := Lib.hid s2
        subst hz
        clear s1 s2 hhit hh hv
        go_wp2_with fail
        go_quiet (fail)
        go_wp2_with fail
        go_roundw
        case rel => exact ⟨k + 1, by go_num, by omega, by rw [S1.out]; exact ht.drewN _, by rw [S2.out]; exact ho, hF.drewN _⟩
        case measure => simp [intOf]; omega
      · have dz : (z != 0) = true := by simpa using hz
        by_cases hzN : z = N + 1
        · have hh : hit (N + 1) E k = true := by rw [hhit, decide_eq_true ⟨hz, hzN⟩]
          rw [hh] at s1 s2
          simp only [if_true] at s1 s2
          have S1 := Lib.hid s1
          have S2 := Lib.hid s2
          subst hzN
          clear s1 s2 hhit hh hv
          have dz2 : (N + 1 == N + 1) = true := by simp
          go_wp2_with fail
          go_quiet (fail)
          go_wp2_with (at_builtin; go_must (refine wpList_append_lies _ rfl _ _ 30 rfl w.heap.size 3 i0 _ 1 8 Try.underlying30 hi hz0 hz1 hz2 rfl (by omega) _ O1.length ((ints O1).map (Value.int .i64)) rfl (ho.alloc _) ⟨wr.heap.size, 0, none⟩ 1 1 [.int .i64 k] rfl rfl (World.news_of_block (cs := #[.int .i64 k]) (t := 3) (fr := (0, 0)) (heap_alloc_new _ _)) (by simp [Value.oneCell']) (by omega) (by unfold maxLen; omega) (by omega) (by simp; omega) (wr.heap.size + 1) (by simp) ?_); intro gg cap w3 hown3 hgrow3 hat3 hlt3; obtain ⟨r0, r1, r2⟩ := rtick_push (ht.drewN nq) (W := wr.drewN nq) (by exact ho) (hF.drewN nq) hown3 hgrow3; have c3 := r0.cell hlt; have f3 := r0.1.free (1 + k))
          go_roundw
          case rel =>
            refine ⟨k + 1, by go_num, by omega, ?_, ?_, ?_⟩
            · rw [S1.out]; exact r0.set k 0
            · rw [S2.out]; exact own_set r1 r0.1 (by decide) _ _
            · exact r2.self _ _
          case measure => simp [intOf]; omega
        · have hh : hit (N + 1) E k = false := by rw [hhit, decide_eq_false (fun h => hzN h.2)]
          rw [hh] at s1 s2
          simp only [Bool.false_eq_true, if_false] at s1 s2
          have S1 := Lib.hid s1
          have S2 := Lib.hid s2
          have dn : (z == N + 1) = false := by simpa using hzN
          clear s1 s2 hhit hh hv
          go_wp2_with fail
          go_quiet (fail)
          go_wp2_with fail
          go_roundw
          case rel => exact ⟨k + 1, by go_num, by omega, by rw [S1.out]; exact ht.drewN _, by rw [S2.out]; exact ho, hF.drewN _⟩
          case measure => simp [intOf]; omega
    · have hk8 : k = 8 := by omega
      subst hk8
      go_wp2_with fail
      go_ret
      exact ⟨_, rfl, by rw [ints_length]; exact ho, hF, ht⟩
end Go.Proofs.Ytighfhdkgfgcmaa.A

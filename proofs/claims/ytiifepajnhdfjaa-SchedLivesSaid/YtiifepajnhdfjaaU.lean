/- SchedFair's walk: its loops. -/
import Derived.Test.YtiifepajnhdfjaaT
import Derived.Laws.BitsAllLaws
import Derived.Laws.BitsLemmas
import Derived.Test.YtiifepajnhdfjaaO
namespace Go.Proofs.Ytiifepajnhdfjaa.A
open Go.RowKit Go.Proofs.Ytiifepajnhdfjaa.K
set_option linter.unusedVariables false
set_option linter.unusedSimpArgs false

theorem and15n : ∀ n : Fin 256, bits .and .u8 ((n.1 : Nat) : Int) 15 = ((n.1 % 16 : Nat) : Int) := by decide +kernel
theorem and15 {z : Int} (h : (Lit.int .u8 z).wf = true) : bits .and .u8 z 15 = z % 16 := by
  have hb : 0 ≤ z ∧ z ≤ 255 := by
    simp only [Lit.wf, Bool.and_eq_true, decide_eq_true_eq] at h
    have h1 : 0 ≤ z := h.1
    have h2 : z ≤ 255 := h.2
    omega
  obtain ⟨n, rfl⟩ := Int.eq_ofNat_of_zero_le hb.1
  have := and15n ⟨n, by omega⟩
  simpa using this
/-- The weights. -/
def wtsOf (zs : List Int) : List Int := (zs.take 16).map fun z => 1 + z % 16
theorem wtsOf_len (zs : List Int) : (wtsOf zs).length = min 16 zs.length := by unfold wtsOf; simp
theorem wtsOf_at {zs : List Int} {j : Nat} (h : j < (wtsOf zs).length) : (wtsOf zs).getD j 0 = 1 + zs.getD j 0 % 16 := by
  have hl := wtsOf_len zs
  unfold wtsOf
  rw [List.getD_eq_getElem?_getD, List.getD_eq_getElem?_getD, List.getElem?_map, List.getElem?_take_of_lt (by omega), List.getElem?_eq_getElem (by omega)]
  rfl
theorem wtsOf_bd (zs : List Int) {j : Nat} (h : j < (wtsOf zs).length) : 1 ≤ (wtsOf zs).getD j 0 ∧ (wtsOf zs).getD j 0 ≤ 16 := by
  rw [wtsOf_at h]; omega
theorem rdW_slice {w : World} {B n c : Nat} {A : Option Addr} {L : List Wn} (h : RowW w B (.slice A n c) L) : n = L.length ∧ n ≤ c ∧ RdW w A L := by
  obtain ⟨A', c', e, h1, h2⟩ := rdW_of h
  injection e with e1 e2 e3
  subst e1 e2 e3
  exact ⟨rfl, h1, h2⟩
theorem RowW.frm {w w' : World} {S : Nat → Prop} {B : Nat} {v : Value} {L : List Wn} (h : RowW w B v L) (f : Frm S w w') (hS : ∀ k cs, Blk w k cs 35 → ¬ S k) : RowW w' B v L := own_frm h f hS
theorem RowW.sg {w w' : World} {B g : Nat} {v : Value} {L : List Wn} {U : List US} (h : RowW w B v L) (hs : IsS w B g U) (f : Frm (SG w B g) w w') : RowW w' B v L := h.frm f fun k cs hb e => by
  obtain ⟨_, v, hb57, _⟩ := hs
  rcases e with rfl | ⟨_, cs2, hb2⟩
  · exact Blk.ne hb57 hb (by decide) rfl
  · exact Blk.ne hb2 hb (by decide) rfl
theorem RowW.su {w w' : World} {B : Nat} {v : Value} {L : List Wn} (h : RowW w B v L) (f : Frm (SU w B) w w') : RowW w' B v L := h.frm f fun k cs hb e => by
  obtain ⟨_, cs2, hb2⟩ := e
  exact Blk.ne hb2 hb (by decide) rfl
/-- A push to wants leaves the scheduler as it is. -/
theorem IsS.push {w w3 : World} {B g : Nat} {U : List US} {v : Value} {l : List Wn} {o : Obj} (h : IsS w B g U) (hR : RowW w B v l) (hg : (w.alloc o).grownBy w3 v.ownBlock) : IsS w3 B g U := by
  have hR' : (w.alloc o).ownsRow B 35 2 v l.length (l.flatMap wc) := World.ownsRow.alloc hR o
  have f : Frm (fun x => v.ownBlock = some x) (w.alloc o) w3 := (Frm.refl _ _).grown hg (fun q e => .inl e)
  refine (h.alloc o).frm f (fun k cs t ht hb e => ?_)
  obtain ⟨_, cs2, hb2⟩ := own_blk hR' e
  exact Blk.ne hb hb2 (by rcases ht with rfl | rfl <;> decide) rfl

theorem wants_push {w W w3 : World} {gg cap B g : Nat} {p : Wn} {l : List Wn} {vo : Value} {o : Obj} {U : List US} (hs : IsS W B g U) (hR : RowW W B vo l) (hB : w.heap.size ≤ B) (hF : Frm No w W) {n : Nat} (hn : l.length = n)
    (hown : w3.ownsRow B 35 2 (.slice (some ⟨gg, 0, none⟩) (n + 1) cap) (n + 1) (l.flatMap wc ++ wc p)) (hg : (W.alloc o).grownBy w3 vo.ownBlock) :
    IsS w3 B g U ∧ RowW w3 B (.slice (some ⟨gg, 0, none⟩) (n + 1) cap) (l ++ [p]) ∧ Frm No w w3 := by
  subst hn
  have hR' : (W.alloc o).ownsRow B 35 2 vo l.length (l.flatMap wc) := World.ownsRow.alloc hR o
  refine ⟨hs.push hR hg, ?_, (hF.alloc o).grown hg (fun q e => .inr (Nat.le_trans hB (own_blk hR' e).1))⟩
  unfold RowW
  rw [List.flatMap_append, List.length_append, List.length_singleton]
  simpa using hown

theorem Rat.mono {U : List US} {R R' : Int} (h : Rat U R) (hR : R ≤ R') : Rat U R' := fun u hu => by
  obtain ⟨a1, a2, a3, a4⟩ := h u hu
  have : u.wt * R ≤ u.wt * R' := Int.mul_le_mul_of_nonneg_left hR (by omega)
  exact ⟨a1, a2, a3, by omega⟩
theorem served_is (w : World) (B g : Nat) (U : List US) (x s : Int) (h : IsS w B g U) (hs : svV U x = s) : Calls Try.prog 10 #[.pointer (some ⟨g, 0, none⟩), .int .i64 x] w fun e w' => e = .returned (.int .i64 s) ∧ Frm No w w' := by
  subst hs; exact served_any w B g U x h
theorem fair_test {sa sb y1 y2 R : Int} (h : sa * (1 + y2) - sb * (1 + y1) ≤ 64 * ((1 + y1) * (1 + y2))) (ha : 1 ≤ 1 + y1 ∧ 1 + y1 ≤ 16 ∧ 0 ≤ sa ∧ sa ≤ (1 + y1) * R) (hb : 1 ≤ 1 + y2 ∧ 1 + y2 ≤ 16 ∧ 0 ≤ sb ∧ sb ≤ (1 + y2) * R) (hR : R ≤ 1000000000) :
    wrap64 (wrap64 (sa * (1 + y2)) - wrap64 (sb * (1 + y1))) ≤ wrap64 (64 * (1 + y1) * (1 + y2)) := by
  obtain ⟨a1, a2, a3, a4⟩ := ha
  obtain ⟨b1, b2, b3, b4⟩ := hb
  have h1 : (1 + y1) * R ≤ (1 + y1) * 1000000000 := Int.mul_le_mul_of_nonneg_left hR (by omega)
  have h2 : (1 + y2) * R ≤ (1 + y2) * 1000000000 := Int.mul_le_mul_of_nonneg_left hR (by omega)
  have p1 := prod_le a3 (by omega) b1 b2
  have p2 := prod_le b3 (by omega) a1 a2
  have p3 := prod_le (s := 1 + y1) (by omega) (by omega) b1 b2
  have e : 64 * (1 + y1) * (1 + y2) = 64 * ((1 + y1) * (1 + y2)) := Int.mul_assoc _ _ _
  rw [IntWalk.wrap64_in (sa * (1 + y2)) ⟨by omega, by omega⟩, IntWalk.wrap64_in (sb * (1 + y1)) ⟨by omega, by omega⟩, IntWalk.wrap64_in (64 * (1 + y1) * (1 + y2)) ⟨by omega, by omega⟩, IntWalk.wrap64_in _ ⟨by omega, by omega⟩]
  omega
/-- Ahead of a round of totals. -/
def FO (w wr : World) (g : Nat) (ws : List Int) (v : Value) (vi : Value) : Prop :=
  ∃ (j : Nat) (U : List US), vi = .int .i64 j ∧ j ≤ 30 ∧ IsS wr g g U ∧ Shp U ws ∧ Fair U ∧ Rat U (65536 * (j : Int)) ∧ RowW wr g v (wsTo ws.length) ∧ Frm No w wr
theorem usTo_rat (ws : List Int) (h : ∀ j, j < ws.length → 1 ≤ ws.getD j 0 ∧ ws.getD j 0 ≤ 16) : Rat (usTo ws ws.length) 0 := fun u hu => by
  obtain ⟨i, hi, rfl⟩ := List.mem_iff_getElem.1 hu
  rw [usTo_len] at hi
  have h1 := usTo_at ws ws.length i hi
  rw [List.getD_eq_getElem?_getD, List.getElem?_eq_getElem (by rw [usTo_len]; exact hi)] at h1
  have h2 : (usTo ws ws.length)[i]'(by rw [usTo_len]; exact hi) = ⟨i, ws.getD i 0, 0⟩ := h1
  rw [h2]
  exact ⟨(h i hi).1, (h i hi).2, by show (0 : Int) ≤ 0; omega, by show (0 : Int) ≤ _ * 0; omega⟩

set_option maxRecDepth 100000 in
set_option maxHeartbeats 4000000 in
theorem fair_walk (A : Option Addr) (n c : Nat) (zs : List Int) (A2 : Option Addr) (n2 c2 : Nat) (ts : List Int) (w : World) (hI : Ints w .u8 A n zs) (hI2 : Ints w .u16 A2 n2 ts) :
    Calls Try.prog 4 #[.slice A n c, .slice A2 n2 c2] w fun e w' => e = .returned (.bool true) ∧ Frm No w w' := by
  have hn9 : n ≤ 9223372036854775807 := hI.2.1
  have hn29 : n2 ≤ 9223372036854775807 := hI2.2.1
  have hlen := wtsOf_len zs
  rw [hI.1] at hlen
  obtain ⟨m, hm⟩ : ∃ m, (wtsOf zs).length = m := ⟨_, rfl⟩
  rw [hm] at hlen
  have hm16 : m ≤ 16 := by omega
  have hmn : m ≤ n := by omega
  obtain ⟨i0, hi, hz0, hz1, hz2⟩ := info_parts info35
  have HM := Lib.hid (And.intro hm hlen)
  clear hm hlen
  go_enter Try.func4, Try.ntmps4
  go_wp2_with fail
  refine (new_ok w).mono ?_
  rintro e w1 ⟨rfl, hs, F1⟩
  have S1 := hs w.heap.size
  obtain ⟨g, hg⟩ : ∃ g, w.heap.size = g := ⟨_, rfl⟩
  rw [hg] at S1
  rw [hg]
  have hgl : w.heap.size ≤ g := by omega
  have hz1' := F1.size
  have B1 : g ≤ w1.heap.size := by omega
  have HG := Lib.hid hg
  clear hs hg
  go_wp2_with fail
  go_loopw [6, 7] (fun vw vi wr => ∃ k : Nat, vi = .int .i64 k ∧ k ≤ m ∧ IsS wr g g (usTo (wtsOf zs) k) ∧ RowW wr g vw (wsTo k) ∧ Frm No w wr) (fun _ vi _ => m - (intOf vi).toNat)
  case atStart => exact ⟨0, rfl, by omega, S1, World.ownsRow_nil _ _ _ _, F1⟩
  case round =>
    clear S1 F1 B1 hz1'
    obtain ⟨k, rfl, hk, hS, hR, F⟩ := hrel
    have k0 : (0 : Int) ≤ (k : Int) := Int.natCast_nonneg _
    by_cases hlt : k < m
    · have k1 : (k : Int) < (n : Int) := by omega
      have k2 : (k : Int) < 16 := by omega
      obtain ⟨ad, rfl, hb, hc, hwf⟩ := hI.at_ (j := k) (by omega)
      have hc' : wr.cell? (ad.add k) = some (.int .u8 (zs.getD k 0)) := by
        rw [← hc]; exact World.cell?_of_block (F.block _ (by rw [block_add]; exact hb) (fun h => h))
      have hwt := wtsOf_at (zs := zs) (j := k) (by rw [HM.out.1]; exact hlt)
      have hand := and15 hwf
      have hadd := usTo_add (wtsOf zs) k (by omega) (wtsOf_bd zs (by rw [HM.out.1]; exact hlt)).1 (wtsOf_bd zs (by rw [HM.out.1]; exact hlt)).2
      obtain ⟨z, hz⟩ : ∃ z, zs.getD k 0 = z := ⟨_, rfl⟩
      rw [hz] at hc' hwt hand
      have y0 : 0 ≤ z % 16 := by omega
      have y1 : z % 16 ≤ 15 := by omega
      obtain ⟨y, hy⟩ : ∃ y, z % 16 = y := ⟨_, rfl⟩
      rw [hy] at hwt hand y0 y1
      have hus : usTo (wtsOf zs) (k + 1) = usTo (wtsOf zs) k ++ [⟨k, (wtsOf zs).getD k 0, 0⟩] := rfl
      rw [hwt] at hadd hus
      have HADD := Lib.hid hadd
      have HUS := Lib.hid hus
      have B1 : g ≤ wr.heap.size := by have := F.size; have := HG.out; omega
      clear hc hwf hwt hz hy hadd hus hb
      go_wp2_with fail
      refine (add_is _ g g _ _ _ _ 0 hS B1 HADD.out rfl).mono ?_
      rintro e w5 ⟨rfl, S5, f5⟩
      rw [if_pos rfl, ← HUS.out] at S5
      have R5 := hR.sg hS f5
      have F5 := Frm.thenSG F f5 hgl hgl
      have hl := wsTo_len k
      have hst := wsTo_step k
      obtain ⟨R0, hRE⟩ : ∃ R0, wsTo k = R0 := ⟨_, rfl⟩
      rw [hRE] at R5 hl hst
      have HST := Lib.hid hst
      have hl2 : R0.length ≤ 1000 := by omega
      have hB5 : g ≤ w5.heap.size := by have := F5.size; have := HG.out; omega
      obtain ⟨A5, c5, rfl, -, -⟩ := rdW_of R5
      have R50 := R5
      unfold RowW at R50
      rw [hl] at R50 R5 ⊢
      have HLL := Lib.hid hl
      have HX := Lib.hid (And.intro S5 (And.intro R5 F5))
      clear hl hst hRE S5 R5 F5 F hS hR f5
      go_wp2_with (at_builtin; go_must (refine wpList_append_lies _ rfl _ _ 28 rfl g 35 i0 _ 2 16 Try.underlying28 hi hz0 hz1 hz2 zero_cells (by omega) _ k (R0.flatMap wc) rfl (R50.alloc _) ⟨w5.heap.size, 0, none⟩ 1 1 [.int .i64 k, .int .i64 1048576] rfl rfl (World.news_of_block (cs := #[.int .i64 k, .int .i64 1048576]) (t := 35) (fr := (0, 0)) (heap_alloc_new w5 _)) (by simp [Value.oneCell']) (by omega) (by unfold maxLen; omega) (by omega) (by simp; omega) (w5.heap.size + 1) (by simp) ?_; intro gg cap w6 hown6 hgrow6 hat6 hlt6))
      go_roundw
      case rel =>
        obtain ⟨r0, r1, r2⟩ := wants_push (p := (k, 1048576)) HX.out.1 HX.out.2.1 hgl HX.out.2.2 HLL.out hown6 hgrow6
        exact ⟨k + 1, by go_num, by omega, r0, by rw [HST.out]; exact r1, r2⟩
      case measure => simp [intOf]; omega
    · obtain rfl : k = m := by omega
      have hmm := HM.out.1
      obtain ⟨A5, c5, rfl, hc5, -⟩ := rdW_of hR
      have hl := wsTo_len k
      rw [hl] at hR hc5 ⊢
      have h0 : FO w wr g (wtsOf zs) (.slice A5 k c5) (.int .i64 (0 : Nat)) := ⟨0, usTo (wtsOf zs) k, rfl, by omega, hS, by rw [← hmm]; exact usTo_shp _, by rw [← hmm]; exact usTo_fair _ (fun j hj => (wtsOf_bd zs hj).1), by rw [← hmm]; exact usTo_rat _ (fun j hj => wtsOf_bd zs hj), by rw [hmm]; exact hR, F⟩
      obtain ⟨ws, hws⟩ : ∃ ws, wtsOf zs = ws := ⟨_, rfl⟩
      rw [hws] at h0 hmm
      have HMM := Lib.hid hmm
      have HBD := Lib.hid (fun j (hj : j < (wtsOf zs).length) => wtsOf_bd zs hj)
      have HWA := Lib.hid (fun j (hj : j < (wtsOf zs).length) => wtsOf_at hj)
      rw [hws] at HBD HWA
      have FF := Lib.hid h0
      clear hl hmm hS hR F h0 hws
      by_cases hkn : k < n
      · have k1 : (k : Int) < (n : Int) := by omega
        have k2 : ¬ (k : Int) < 16 := by have := HM.out; omega
        go_wp2_with fail
        go_loopw [8] (fun vi wr => FO w wr g ws (.slice A5 k c5) vi) (fun vi _ => 30 - (intOf vi).toNat)
        case atStart => exact FF.out
        case round =>
          obtain ⟨j, U, rfl, hj, hS, hSh, hFa, hRa, hR, F⟩ := hrel
          by_cases hj2 : j < n2
          · by_cases hj3 : j < 30
            · have j0 : (0 : Int) ≤ (j : Int) := Int.natCast_nonneg _
              have j1 : (j : Int) < (n2 : Int) := by omega
              have j2 : (j : Int) < 30 := by omega
              obtain ⟨ad2, rfl, hb, hc, hwf⟩ := hI2.at_ (j := j) (by omega)
              have hc' : wr.cell? (ad2.add j) = some (.int .u16 (ts.getD j 0)) := by
                rw [← hc]; exact World.cell?_of_block (F.block _ (by rw [block_add]; exact hb) (fun h => h))
              obtain ⟨t, ht⟩ : ∃ t, ts.getD j 0 = t := ⟨_, rfl⟩
              rw [ht] at hc' hwf
              have ⟨t0, t1⟩ : 0 ≤ t ∧ t ≤ 65535 := by
                simp only [Lit.wf, Bool.and_eq_true, decide_eq_true_eq] at hwf
                exact hwf
              clear hc hb hwf ht
              obtain ⟨E, hE⟩ : ∃ E, fin ⟨restTo U (leftTo U (wsTo ws.length) ws.length) (leastTo U (leftTo U (wsTo ws.length) ws.length) U.length) U.length, leftTo U (wsTo ws.length) ws.length, List.replicate U.length 0, t⟩ = E := ⟨_, rfl⟩
              have hFI : FI ws E := by rw [← hE]; exact give_fair (fun j hj => (HBD.out j hj).1) hSh hFa (by omega)
              rw [HMM.out] at hE
              have hRow := hR
              rw [HMM.out] at hRow
              obtain ⟨-, hk5, hRd⟩ := rdW_slice hRow
              have hgv := give_is wr g g U E.U t A5 k c5 (wsTo k) (outTo (wsTo k) E.U E.G k) (65536 * (j : Int)) hS (fun w' f => (rdW_slice (hRow.su f)).2.2) (wsTo_len k) (by omega) hk5 (by
                have := ask_fair hSh t0 (show t ≤ 65536 by omega)
                rw [HMM.out] at this
                exact this) hRa (by omega) (by have := F.size; have := HG.out; omega) t0 (by omega) (fun j hj => by
                rw [wsTo_at hj, hSh.place (by rw [HMM.out]; exact hj), hSh.1, HMM.out]; exact hj) (fun j => by
                have := left_fair2 hSh j
                rw [HMM.out] at this
                exact this) E hE rfl rfl
              have X := Lib.hid (And.intro hFI (And.intro hR F))
              clear hE hFI hR F hRow hRd hSh hFa hRa hS
              go_wp2_with fail
              refine hgv.mono ?_
              rintro e w5 ⟨A6, c6, rfl, -, S5, R5, f5⟩
              have F5 := Frm.thenSU X.out.2.2 f5 hgl
              have W5 := X.out.2.1.su f5
              clear hgv f5
              go_wp2_with fail
              have HFI := X.out.1
              obtain ⟨hSh, hFa, -⟩ := HFI
              obtain ⟨U5, hU5⟩ : ∃ V, E.U = V := ⟨_, rfl⟩
              rw [hU5] at hSh hFa S5 R5
              have HSh := Lib.hid hSh
              have HFa := Lib.hid hFa
              have HRa := Lib.hid R5
              have HS5 := Lib.hid S5
              have HF5 := Lib.hid F5
              have HW5 := Lib.hid W5
              clear hSh hFa R5 S5 F5 W5 X hU5
              go_loopw [11] (fun va wa => ∃ a : Nat, va = .int .i64 a ∧ a ≤ k ∧ Frm No w5 wa) (fun va _ => k - (intOf va).toNat)
              case atStart => exact ⟨0, rfl, by omega, Frm.refl _ _⟩
              case round =>
                obtain ⟨a, rfl, hak, Fa⟩ := hrel
                have a0 : (0 : Int) ≤ (a : Int) := Int.natCast_nonneg _
                by_cases hal : a < k
                · have a1 : (a : Int) < (k : Int) := by omega
                  obtain ⟨wa0, rfl⟩ : ∃ wa0, wa0 = wr := ⟨_, rfl⟩
                  go_wp2_with fail
                  go_loopw [12] (fun vb wb => ∃ b : Nat, vb = .int .i64 b ∧ b ≤ k ∧ Frm No w5 wb) (fun vb _ => k - (intOf vb).toNat)
                  case atStart => exact ⟨0, rfl, by omega, Fa⟩
                  case round =>
                    obtain ⟨b, rfl, hbk, Fb⟩ := hrel
                    have b0 : (0 : Int) ≤ (b : Int) := Int.natCast_nonneg _
                    by_cases hbl : b < k
                    · have b1 : (b : Int) < (k : Int) := by omega
                      obtain ⟨ad, rfl, hb1, hc1, hwf1⟩ := hI.at_ (j := a) (by omega)
                      obtain ⟨ad', e, hb2, hc2, hwf2⟩ := hI.at_ (j := b) (by omega)
                      injection e with e
                      subst e
                      have hal' : a < ws.length := by rw [HMM.out]; exact hal
                      have hbl' : b < ws.length := by rw [HMM.out]; exact hbl
                      have FW := HF5.out.thenN Fb
                      have q1 := (World.cell?_of_block (FW.block _ (by rw [block_add]; exact hb1) (fun h => h))).trans hc1
                      have q2 := (World.cell?_of_block (FW.block _ (by rw [block_add]; exact hb2) (fun h => h))).trans hc2
                      have e1 := HWA.out a hal'
                      have e2 := HWA.out b hbl'
                      have n1 := and15 hwf1
                      have n2' := and15 hwf2
                      have hm1 := Int.emod_nonneg (zs.getD a 0) (show (16 : Int) ≠ 0 by omega)
                      have hm2 := Int.emod_nonneg (zs.getD b 0) (show (16 : Int) ≠ 0 by omega)
                      have hm3 := Int.emod_lt_of_pos (zs.getD a 0) (show (0 : Int) < 16 by omega)
                      have hm4 := Int.emod_lt_of_pos (zs.getD b 0) (show (0 : Int) < 16 by omega)
                      have hS9 := HS5.out.frmN Fb
                      have hfa := HFa.out a b (by rw [HSh.out.1]; exact hal') (by rw [HSh.out.1]; exact hbl')
                      have va : svV U5 a = (U5.getD a u0).sv := by unfold svV; rw [HSh.out.place hal', if_pos (by rw [HSh.out.1]; exact hal')]
                      have vb : svV U5 b = (U5.getD b u0).sv := by unfold svV; rw [HSh.out.place hbl', if_pos (by rw [HSh.out.1]; exact hbl')]
                      have ra := HRa.out _ (memU (U := U5) (i := a) (by rw [HSh.out.1]; exact hal'))
                      have rb := HRa.out _ (memU (U := U5) (i := b) (by rw [HSh.out.1]; exact hbl'))
                      rw [← va, ← vb, (HSh.out.2 a hal').2, (HSh.out.2 b hbl').2, e1, e2] at hfa
                      rw [← va, (HSh.out.2 a hal').2, e1] at ra
                      rw [← vb, (HSh.out.2 b hbl').2, e2] at rb
                      obtain ⟨z1, hz1'⟩ : ∃ z, zs.getD a 0 = z := ⟨_, rfl⟩
                      obtain ⟨z2, hz2'⟩ : ∃ z, zs.getD b 0 = z := ⟨_, rfl⟩
                      rw [hz1'] at q1 n1 hm1 hm3 hfa ra
                      rw [hz2'] at q2 n2' hm2 hm4 hfa rb
                      obtain ⟨y1, hy1⟩ : ∃ y, z1 % 16 = y := ⟨_, rfl⟩
                      obtain ⟨y2, hy2⟩ : ∃ y, z2 % 16 = y := ⟨_, rfl⟩
                      rw [hy1] at n1 hm1 hm3 hfa ra
                      rw [hy2] at n2' hm2 hm4 hfa rb
                      obtain ⟨sa, hsa⟩ : ∃ s, svV U5 a = s := ⟨_, rfl⟩
                      obtain ⟨sb, hsb⟩ : ∃ s, svV U5 b = s := ⟨_, rfl⟩
                      rw [hsa] at hfa ra
                      rw [hsb] at hfa rb
                      have X := Lib.hid (And.intro hsa (And.intro hsb (And.intro Fb hS9)))
                      have T := fair_test hfa ra rb (by omega)
                      clear hal' hbl' hfa ra rb hsa hsb hy1 hy2 hz1' hz2' va vb e1 e2 hwf1 hwf2 hb1 hb2 hc1 hc2 FW hS9 Fb
                      go_wp2_with fail
                      go_quiet (fail)
                      go_wp2_with fail
                      refine (served_is _ g g U5 a sa (by exact X.out.2.2.2) X.out.1).mono ?_
                      rintro e w8 ⟨rfl, f8⟩
                      go_wp2_with fail
                      refine (served_is _ g g U5 b sb (by exact (show IsS _ g g U5 from X.out.2.2.2.frmN ((Frm.refl No _).drewN _)).frmN f8) X.out.2.1).mono ?_
                      rintro e w9 ⟨rfl, f9⟩
                      go_wp2_with fail
                      go_roundw
                      case rel => exact ⟨b + 1, by go_num, by omega, ((X.out.2.2.1.drewN _).thenN f8).thenN f9⟩
                      case measure => simp [intOf]; omega
                    · have b1 : ¬ (b : Int) < (k : Int) := by omega
                      go_wp2_with fail
                      go_roundw
                      case rel => exact ⟨a + 1, by go_num, by omega, Fb⟩
                      case measure => simp [intOf]; omega
                · have a1 : ¬ (a : Int) < (k : Int) := by omega
                  go_wp2_with fail
                  go_roundw
                  case rel => exact ⟨j + 1, U5, by go_num, by omega, HS5.out.frmN Fa, HSh.out, HFa.out, by have := HRa.out; rw [show 65536 * ((j + 1 : Nat) : Int) = 65536 * (j : Int) + 65536 by omega]; exact this.mono (by omega), HW5.out.frm Fa (fun _ _ _ h => h), HF5.out.thenN Fa⟩
                  case measure => simp [intOf]; omega
            · have j1 : (j : Int) < (n2 : Int) := by omega
              have j2 : ¬ (j : Int) < 30 := by omega
              go_wp2_with fail
              refine (alive_yes _).mono ?_
              rintro e w7 ⟨rfl, f7⟩
              go_wp2_with fail
              go_ret
              exact ⟨rfl, F.thenN f7⟩
          · have j1 : ¬ (j : Int) < (n2 : Int) := by omega
            go_wp2_with fail
            refine (alive_yes _).mono ?_
            rintro e w7 ⟨rfl, f7⟩
            go_wp2_with fail
            go_ret
            exact ⟨rfl, F.thenN f7⟩
      · have k1 : ¬ (k : Int) < (n : Int) := by omega
        go_wp2_with fail
        go_loopw [8] (fun vi wr => FO w wr g ws (.slice A5 k c5) vi) (fun vi _ => 30 - (intOf vi).toNat)
        case atStart => exact FF.out
        case round =>
          obtain ⟨j, U, rfl, hj, hS, hSh, hFa, hRa, hR, F⟩ := hrel
          by_cases hj2 : j < n2
          · by_cases hj3 : j < 30
            · have j0 : (0 : Int) ≤ (j : Int) := Int.natCast_nonneg _
              have j1 : (j : Int) < (n2 : Int) := by omega
              have j2 : (j : Int) < 30 := by omega
              obtain ⟨ad2, rfl, hb, hc, hwf⟩ := hI2.at_ (j := j) (by omega)
              have hc' : wr.cell? (ad2.add j) = some (.int .u16 (ts.getD j 0)) := by
                rw [← hc]; exact World.cell?_of_block (F.block _ (by rw [block_add]; exact hb) (fun h => h))
              obtain ⟨t, ht⟩ : ∃ t, ts.getD j 0 = t := ⟨_, rfl⟩
              rw [ht] at hc' hwf
              have ⟨t0, t1⟩ : 0 ≤ t ∧ t ≤ 65535 := by
                simp only [Lit.wf, Bool.and_eq_true, decide_eq_true_eq] at hwf
                exact hwf
              clear hc hb hwf ht
              obtain ⟨E, hE⟩ : ∃ E, fin ⟨restTo U (leftTo U (wsTo ws.length) ws.length) (leastTo U (leftTo U (wsTo ws.length) ws.length) U.length) U.length, leftTo U (wsTo ws.length) ws.length, List.replicate U.length 0, t⟩ = E := ⟨_, rfl⟩
              have hFI : FI ws E := by rw [← hE]; exact give_fair (fun j hj => (HBD.out j hj).1) hSh hFa (by omega)
              rw [HMM.out] at hE
              have hRow := hR
              rw [HMM.out] at hRow
              obtain ⟨-, hk5, hRd⟩ := rdW_slice hRow
              have hgv := give_is wr g g U E.U t A5 k c5 (wsTo k) (outTo (wsTo k) E.U E.G k) (65536 * (j : Int)) hS (fun w' f => (rdW_slice (hRow.su f)).2.2) (wsTo_len k) (by omega) hk5 (by
                have := ask_fair hSh t0 (show t ≤ 65536 by omega)
                rw [HMM.out] at this
                exact this) hRa (by omega) (by have := F.size; have := HG.out; omega) t0 (by omega) (fun j hj => by
                rw [wsTo_at hj, hSh.place (by rw [HMM.out]; exact hj), hSh.1, HMM.out]; exact hj) (fun j => by
                have := left_fair2 hSh j
                rw [HMM.out] at this
                exact this) E hE rfl rfl
              have X := Lib.hid (And.intro hFI (And.intro hR F))
              clear hE hFI hR F hRow hRd hSh hFa hRa hS
              go_wp2_with fail
              refine hgv.mono ?_
              rintro e w5 ⟨A6, c6, rfl, -, S5, R5, f5⟩
              have F5 := Frm.thenSU X.out.2.2 f5 hgl
              have W5 := X.out.2.1.su f5
              clear hgv f5
              go_wp2_with fail
              have HFI := X.out.1
              obtain ⟨hSh, hFa, -⟩ := HFI
              obtain ⟨U5, hU5⟩ : ∃ V, E.U = V := ⟨_, rfl⟩
              rw [hU5] at hSh hFa S5 R5
              have HSh := Lib.hid hSh
              have HFa := Lib.hid hFa
              have HRa := Lib.hid R5
              have HS5 := Lib.hid S5
              have HF5 := Lib.hid F5
              have HW5 := Lib.hid W5
              clear hSh hFa R5 S5 F5 W5 X hU5
              go_loopw [11] (fun va wa => ∃ a : Nat, va = .int .i64 a ∧ a ≤ k ∧ Frm No w5 wa) (fun va _ => k - (intOf va).toNat)
              case atStart => exact ⟨0, rfl, by omega, Frm.refl _ _⟩
              case round =>
                obtain ⟨a, rfl, hak, Fa⟩ := hrel
                have a0 : (0 : Int) ≤ (a : Int) := Int.natCast_nonneg _
                by_cases hal : a < k
                · have a1 : (a : Int) < (k : Int) := by omega
                  obtain ⟨wa0, rfl⟩ : ∃ wa0, wa0 = wr := ⟨_, rfl⟩
                  go_wp2_with fail
                  go_loopw [12] (fun vb wb => ∃ b : Nat, vb = .int .i64 b ∧ b ≤ k ∧ Frm No w5 wb) (fun vb _ => k - (intOf vb).toNat)
                  case atStart => exact ⟨0, rfl, by omega, Fa⟩
                  case round =>
                    obtain ⟨b, rfl, hbk, Fb⟩ := hrel
                    have b0 : (0 : Int) ≤ (b : Int) := Int.natCast_nonneg _
                    by_cases hbl : b < k
                    · have b1 : (b : Int) < (k : Int) := by omega
                      obtain ⟨ad, rfl, hb1, hc1, hwf1⟩ := hI.at_ (j := a) (by omega)
                      obtain ⟨ad', e, hb2, hc2, hwf2⟩ := hI.at_ (j := b) (by omega)
                      injection e with e
                      subst e
                      have hal' : a < ws.length := by rw [HMM.out]; exact hal
                      have hbl' : b < ws.length := by rw [HMM.out]; exact hbl
                      have FW := HF5.out.thenN Fb
                      have q1 := (World.cell?_of_block (FW.block _ (by rw [block_add]; exact hb1) (fun h => h))).trans hc1
                      have q2 := (World.cell?_of_block (FW.block _ (by rw [block_add]; exact hb2) (fun h => h))).trans hc2
                      have e1 := HWA.out a hal'
                      have e2 := HWA.out b hbl'
                      have n1 := and15 hwf1
                      have n2' := and15 hwf2
                      have hm1 := Int.emod_nonneg (zs.getD a 0) (show (16 : Int) ≠ 0 by omega)
                      have hm2 := Int.emod_nonneg (zs.getD b 0) (show (16 : Int) ≠ 0 by omega)
                      have hm3 := Int.emod_lt_of_pos (zs.getD a 0) (show (0 : Int) < 16 by omega)
                      have hm4 := Int.emod_lt_of_pos (zs.getD b 0) (show (0 : Int) < 16 by omega)
                      have hS9 := HS5.out.frmN Fb
                      have hfa := HFa.out a b (by rw [HSh.out.1]; exact hal') (by rw [HSh.out.1]; exact hbl')
                      have va : svV U5 a = (U5.getD a u0).sv := by unfold svV; rw [HSh.out.place hal', if_pos (by rw [HSh.out.1]; exact hal')]
                      have vb : svV U5 b = (U5.getD b u0).sv := by unfold svV; rw [HSh.out.place hbl', if_pos (by rw [HSh.out.1]; exact hbl')]
                      have ra := HRa.out _ (memU (U := U5) (i := a) (by rw [HSh.out.1]; exact hal'))
                      have rb := HRa.out _ (memU (U := U5) (i := b) (by rw [HSh.out.1]; exact hbl'))
                      rw [← va, ← vb, (HSh.out.2 a hal').2, (HSh.out.2 b hbl').2, e1, e2] at hfa
                      rw [← va, (HSh.out.2 a hal').2, e1] at ra
                      rw [← vb, (HSh.out.2 b hbl').2, e2] at rb
                      obtain ⟨z1, hz1'⟩ : ∃ z, zs.getD a 0 = z := ⟨_, rfl⟩
                      obtain ⟨z2, hz2'⟩ : ∃ z, zs.getD b 0 = z := ⟨_, rfl⟩
                      rw [hz1'] at q1 n1 hm1 hm3 hfa ra
                      rw [hz2'] at q2 n2' hm2 hm4 hfa rb
                      obtain ⟨y1, hy1⟩ : ∃ y, z1 % 16 = y := ⟨_, rfl⟩
                      obtain ⟨y2, hy2⟩ : ∃ y, z2 % 16 = y := ⟨_, rfl⟩
                      rw [hy1] at n1 hm1 hm3 hfa ra
                      rw [hy2] at n2' hm2 hm4 hfa rb
                      obtain ⟨sa, hsa⟩ : ∃ s, svV U5 a = s := ⟨_, rfl⟩
                      obtain ⟨sb, hsb⟩ : ∃ s, svV U5 b = s := ⟨_, rfl⟩
                      rw [hsa] at hfa ra
                      rw [hsb] at hfa rb
                      have X := Lib.hid (And.intro hsa (And.intro hsb (And.intro Fb hS9)))
                      have T := fair_test hfa ra rb (by omega)
                      clear hal' hbl' hfa ra rb hsa hsb hy1 hy2 hz1' hz2' va vb e1 e2 hwf1 hwf2 hb1 hb2 hc1 hc2 FW hS9 Fb
                      go_wp2_with fail
                      go_quiet (fail)
                      go_wp2_with fail
                      refine (served_is _ g g U5 a sa (by exact X.out.2.2.2) X.out.1).mono ?_
                      rintro e w8 ⟨rfl, f8⟩
                      go_wp2_with fail
                      refine (served_is _ g g U5 b sb (by exact (show IsS _ g g U5 from X.out.2.2.2.frmN ((Frm.refl No _).drewN _)).frmN f8) X.out.2.1).mono ?_
                      rintro e w9 ⟨rfl, f9⟩
                      go_wp2_with fail
                      go_roundw
                      case rel => exact ⟨b + 1, by go_num, by omega, ((X.out.2.2.1.drewN _).thenN f8).thenN f9⟩
                      case measure => simp [intOf]; omega
                    · have b1 : ¬ (b : Int) < (k : Int) := by omega
                      go_wp2_with fail
                      go_roundw
                      case rel => exact ⟨a + 1, by go_num, by omega, Fb⟩
                      case measure => simp [intOf]; omega
                · have a1 : ¬ (a : Int) < (k : Int) := by omega
                  go_wp2_with fail
                  go_roundw
                  case rel => exact ⟨j + 1, U5, by go_num, by omega, HS5.out.frmN Fa, HSh.out, HFa.out, by have := HRa.out; rw [show 65536 * ((j + 1 : Nat) : Int) = 65536 * (j : Int) + 65536 by omega]; exact this.mono (by omega), HW5.out.frm Fa (fun _ _ _ h => h), HF5.out.thenN Fa⟩
                  case measure => simp [intOf]; omega
            · have j1 : (j : Int) < (n2 : Int) := by omega
              have j2 : ¬ (j : Int) < 30 := by omega
              go_wp2_with fail
              refine (alive_yes _).mono ?_
              rintro e w7 ⟨rfl, f7⟩
              go_wp2_with fail
              go_ret
              exact ⟨rfl, F.thenN f7⟩
          · have j1 : ¬ (j : Int) < (n2 : Int) := by omega
            go_wp2_with fail
            refine (alive_yes _).mono ?_
            rintro e w7 ⟨rfl, f7⟩
            go_wp2_with fail
            go_ret
            exact ⟨rfl, F.thenN f7⟩

open Go.ChangeShapes Go.WideShapes
theorem open_u8 {H : Type} {enc : TypeId × Value → H} {w : World} {A : Option Addr} {len cap : Nat} {d : DataW H} {p : List MemPlace}
    (h : DataW.Trod enc Try.prog w 0 (fun _ => true) true 37 (.slice A len cap) d p) : ∃ xs, Ints w .u8 A len xs :=
  open_Ints Try.underlying37 Try.underlying5 (by kernel_rfl) h
theorem open_u16 {H : Type} {enc : TypeId × Value → H} {w : World} {A : Option Addr} {len cap : Nat} {d : DataW H} {p : List MemPlace}
    (h : DataW.Trod enc Try.prog w 0 (fun _ => true) true 38 (.slice A len cap) d p) : ∃ xs, Ints w .u16 A len xs :=
  open_Ints Try.underlying38 Try.underlying39 (by kernel_rfl) h
end Go.Proofs.Ytiifepajnhdfjaa.A

/- The document's Of. -/
import Derived.Test.YtcdjofneijlbgaaRM
import Derived.Deep.DeepCutAuto
import Derived.Deep.CutBlock
namespace Go.Proofs.Ytcdjofneijlbgaa.A
open Go.RowKit Go.Proofs.Ytcdjofneijlbgaa.K Go.Proofs.Ytcdjofneijlbgaa.F Go.Proofs.Ytcdjofneijlbgaa.N
set_option linter.unusedVariables false
set_option linter.unusedSimpArgs false

def px (p : Pt) : List Value := [.float .f64 (FI p.1), .float .f64 (FI p.2)]
theorem info32 : (Try.prog.info? 60).map (fun i => (i.zero, i.size, i.bytes)) = some (some (.agg #[.float .f64 0, .float .f64 0]), 2, 16) := by kernel_rfl
theorem zero_cells : (Value.agg #[.float .f64 0, .float .f64 0]).cells.size = 2 := by kernel_rfl
def RowP (w : World) (B : Nat) (v : Value) (L : List Pt) : Prop := w.ownsRow B 60 2 v L.length (L.flatMap px)
theorem px_at : ∀ (L : List Pt) (j : Nat), j < L.length → (L.flatMap px)[j * 2]? = some (.float .f64 (FI (L.getD j (0, 0)).1)) ∧ (L.flatMap px)[j * 2 + 1]? = some (.float .f64 (FI (L.getD j (0, 0)).2))
  | [], j, h => absurd h (by simp)
  | p :: L, 0, _ => ⟨rfl, rfl⟩
  | p :: L, j + 1, h => by
    have ih := px_at L j (by simpa using h)
    have e : (p :: L).flatMap px = .float .f64 (FI p.1) :: .float .f64 (FI p.2) :: L.flatMap px := rfl
    rw [e, show (j + 1) * 2 = j * 2 + 1 + 1 by omega, show j * 2 + 1 + 1 + 1 = (j * 2 + 1) + 1 + 1 by omega]
    simpa using ih
/-- A slice that reads as the document's points. -/
def RdP (w : World) (A : Option Addr) (L : List Pt) : Prop := ∀ j, j < L.length → ∃ ad, A = some ad ∧ (∃ cs, Blk w ad.block cs 60) ∧ w.cell? (ad.add (j * 2)) = some (.float .f64 (FI (L.getD j (0, 0)).1)) ∧ w.cell? ⟨(ad.add (j * 2)).block, (ad.add (j * 2)).off + 1, none⟩ = some (.float .f64 (FI (L.getD j (0, 0)).2))
theorem add_two (g m : Nat) : (⟨g, 0, none⟩ : Addr).add (m + 1) = ⟨((⟨g, 0, none⟩ : Addr).add m).block, ((⟨g, 0, none⟩ : Addr).add m).off + 1, none⟩ := by
  unfold Addr.add
  by_cases h : m = 0 <;> simp [h]
theorem rdP_of {w : World} {B : Nat} {v : Value} {L : List Pt} (h : RowP w B v L) : ∃ A c, v = .slice A L.length c ∧ RdP w A L := by
  rcases h.2 with ⟨rfl, h0⟩ | ⟨g, cap, cur, rfl, hg, hh, h1, h2, h3⟩
  · have hL : L = [] := List.eq_nil_of_length_eq_zero h0
    subst hL
    exact ⟨none, 0, rfl, fun j hj => absurd hj (by simp)⟩
  · refine ⟨_, cap, rfl, fun j hj => ⟨_, rfl, ⟨cur, hh⟩, ?_, ?_⟩⟩
    · exact World.ownsRow.cells h (g := g) rfl (j * 2) _ (px_at L j hj).1
    · have := World.ownsRow.cells h (g := g) rfl (j * 2 + 1) _ (px_at L j hj).2
      rwa [add_two] at this
theorem RdP.frmN {w w' : World} {A : Option Addr} {L : List Pt} (h : RdP w A L) (f : Frm No w w') : RdP w' A L := fun j hj => by
  obtain ⟨ad, e, ⟨cs, hb⟩, hc, hd⟩ := h j hj
  exact ⟨ad, e, ⟨cs, f.blk hb (fun h => h)⟩, (World.cell?_of_block (f.block _ (by rw [block_add]; exact hb.lt) (fun h => h))).trans hc, (World.cell?_of_block (f.block _ (by show (ad.add (j * 2)).block < _; rw [block_add]; exact hb.lt) (fun h => h))).trans hd⟩
def HandP (w : World) (L : List Pt) (e : Ending) (w' : World) : Prop := ∃ v, e = .returned v ∧ RowP w' w.heap.size v L ∧ Frm No w w'
theorem rowP_push {w W w3 : World} {gg cap : Nat} {p : Pt} {l : List Pt} {vo : Value} {o : Obj} (hR : RowP W w.heap.size vo l) (hF : Frm No w W)
    (hown : w3.ownsRow w.heap.size 60 2 (.slice (some ⟨gg, 0, none⟩) (l.length + 1) cap) (l.length + 1) (l.flatMap px ++ px p)) (hg : (W.alloc o).grownBy w3 vo.ownBlock) :
    RowP w3 w.heap.size (.slice (some ⟨gg, 0, none⟩) (l.length + 1) cap) (l ++ [p]) ∧ Frm No w w3 := by
  have hR' : (W.alloc o).ownsRow w.heap.size 60 2 vo l.length (l.flatMap px) := World.ownsRow.alloc hR o
  refine ⟨?_, (hF.alloc o).grown hg (fun q e => .inr (own_blk hR' e).1)⟩
  unfold RowP
  rw [List.flatMap_append, List.length_append, List.length_singleton]
  simpa using hown

/-- What is divided by: 64, 16, 4, 1; nought behind them. -/
def wv (k : Nat) : Nat := 64 / 4 ^ k
theorem wv_next (k : Nat) : wv (k + 1) = wv k / 4 := by unfold wv; rw [Nat.div_div_eq_div_mul, Nat.pow_succ]
theorem wv_pos {k : Nat} (h : k < 4) : 0 < wv k ∧ wv k ≤ 64 := by
  have : k = 0 ∨ k = 1 ∨ k = 2 ∨ k = 3 := by omega
  rcases this with rfl | rfl | rfl | rfl <;> decide
theorem wv_two {c k : Nat} (h : k < 4) : two c k = c / wv k % 4 := by
  have : k = 0 ∨ k = 1 ∨ k = 2 ∨ k = 3 := by omega
  rcases this with rfl | rfl | rfl | rfl <;> rfl

theorem px_11 : px (-1, -1) = [.float .f64 13830554455654793216, .float .f64 13830554455654793216] := by
  show [Value.float .f64 (FI (-1)), Value.float .f64 (FI (-1))] = _
  rw [FI_neg]
theorem px_10 : px (-1, 1) = [.float .f64 13830554455654793216, .float .f64 4607182418800017408] := by
  show [Value.float .f64 (FI (-1)), Value.float .f64 (FI (1))] = _
  rw [FI_neg, FI_one]
theorem px_01 : px (1, -1) = [.float .f64 4607182418800017408, .float .f64 13830554455654793216] := by
  show [Value.float .f64 (FI (1)), Value.float .f64 (FI (-1))] = _
  rw [FI_neg, FI_one]
theorem px_00 : px (1, 1) = [.float .f64 4607182418800017408, .float .f64 4607182418800017408] := by
  show [Value.float .f64 (FI (1)), Value.float .f64 (FI (1))] = _
  rw [FI_one]

set_option maxRecDepth 100000 in
set_option maxHeartbeats 4000000 in
theorem rof_ok (w : World) (A : Option Addr) (n c : Nat) (zs : List Int) (hI : Ints w .u8 A n zs) (hn : n ≤ 100000) : Calls Try.prog 26 #[.slice A n c] w (HandP w (ofL (zs.map Int.toNat))) := by
  obtain ⟨i0, hi, hz0, hz1, hz2⟩ := info_parts info32
  have hst := store_fl
  have II := Lib.hid hI
  go_enter Try.func26, Try.ntmps26
  go_wp2_with fail
  go_loopw [3, 4] (fun vo vi wr => ∃ i : Nat, vi = .int .i64 i ∧ i ≤ n ∧ RowP wr w.heap.size vo (ofL ((zs.map Int.toNat).take i)) ∧ Frm No w wr) (fun _ vi _ => n - (intOf vi).toNat)
  case atStart => exact ⟨0, rfl, by omega, World.ownsRow_nil _ _ _ _, Frm.refl _ _⟩
  case round =>
    clear hI
    obtain ⟨i, rfl, hin, hR, hF⟩ := hrel
    have i0' : (0 : Int) ≤ (i : Int) := Int.natCast_nonneg _
    by_cases hlt : i < n
    · have i1 : (i : Int) < (n : Int) := by omega
      obtain ⟨wo, rfl⟩ : ∃ wo, wo = wr := ⟨_, rfl⟩
      go_wp2_with fail
      go_loopw [3, 5] (fun vo vk wr => ∃ k : Nat, vk = .int .u8 (wv k : Nat) ∧ k ≤ 4 ∧ RowP wr w.heap.size vo (ofL ((zs.map Int.toNat).take i) ++ (byte4 (zs.getD i 0).toNat).take k) ∧ Frm No w wr) (fun _ vk _ => (intOf vk).toNat)
      case atStart => exact ⟨0, rfl, by omega, by simpa using hR, hF⟩
      case round =>
        clear hR hF
        obtain ⟨k, rfl, hk4, hR, hF⟩ := hrel
        have hnext := wv_next k
        by_cases hk : k < 4
        · obtain ⟨ad, rfl, hbk, hcell, hwf⟩ := (Ints.frmN II.out hF).at_ hlt
          obtain ⟨z0, z1⟩ := u8_of hwf
          obtain ⟨v0, v1⟩ := wv_pos hk
          have htk := byte4_take (c := (zs.getD i 0).toNat) hk
          have htw := wv_two (c := (zs.getD i 0).toNat) hk
          obtain ⟨z, hz⟩ : ∃ z, zs.getD i 0 = z := ⟨_, rfl⟩
          rw [hz] at hcell z0 z1 htk htw hR
          obtain ⟨V, hV⟩ : ∃ V, wv k = V := ⟨_, rfl⟩
          rw [hV] at hnext v0 v1 htw ⊢
          obtain ⟨zn, rfl⟩ := Int.eq_ofNat_of_zero_le z0
          rw [Int.toNat_natCast] at htk htw hR
          obtain ⟨a, ha⟩ : ∃ a, zn / V = a := ⟨_, rfl⟩
          have hdv : (zn : Int).tdiv (V : Int) = (a : Int) := by rw [Int.tdiv_eq_ediv_of_nonneg (by omega)]; rw [← ha]; simp
          have hale : a ≤ zn := by rw [← ha]; exact Nat.div_le_self _ _
          have V0 : (0 : Int) < (V : Int) := by omega
          have V1 : ((V : Int) == 0) = false := beq_eq_false_iff_ne.2 (by omega)
          have a0 : (0 : Int) ≤ (a : Int) := Int.natCast_nonneg _
          have a1 : (a : Int) ≤ 255 := by omega
          have hcA : ∀ o, (wr.alloc o).cell? (ad.add i) = some (.int .u8 (zn : Int)) := fun o => (World.cell?_alloc_lt wr o (ad.add i) (by rw [block_add]; exact hbk)).trans hcell
          have HZ := Lib.hid hz
          clear hz hV
          have e1 := FI_one
          have e2 := FI_neg
          have hlen : (ofL ((zs.map Int.toNat).take i) ++ (byte4 zn).take k).length ≤ 400004 := by
            rw [List.length_append, ofL_len, List.length_take, List.length_take, byte4_len]
            omega
          obtain ⟨R0, hRE⟩ : ∃ R0, ofL ((zs.map Int.toNat).take i) ++ (byte4 zn).take k = R0 := ⟨_, rfl⟩
          have HRE := Lib.hid hRE
          rw [hRE] at hR hlen
          have hR0 := hR
          unfold RowP at hR0
          have hsz := hF.size
          have hpt : pt (two zn k) = (if a / 2 % 2 = 1 then -1 else 1, if a % 2 = 1 then -1 else 1) := by
            rw [htw, ha]
            unfold pt
            congr 1
            · congr 1; rw [eq_iff_iff]; omega
            · congr 1; rw [eq_iff_iff]; omega
          rw [hpt] at htk
          clear hRE hpt htw
          by_cases h1 : a / 2 % 2 = 1
          · by_cases h2 : a % 2 = 1
            · rw [if_pos h1, if_pos h2] at htk
              have d1 : ((a : Int) / 2 % 2 == 1) = true := beq_iff_eq.2 (by omega)
              have d2 : ((a : Int) % 2 == 1) = true := beq_iff_eq.2 (by omega)
              have HTK := Lib.hid htk
              clear htk h1 h2 e1 e2
              have hnb : ((wr.alloc (.cells #[.float .f64 13830554455654793216, .float .f64 13830554455654793216] 60)).alloc (.cells #[.float .f64 13830554455654793216, .float .f64 13830554455654793216] 60)).heap[wr.heap.size + 1]? = some (.cells #[.float .f64 13830554455654793216, .float .f64 13830554455654793216] 60 (0, 0)) := by
                have := heap_alloc_new (wr.alloc (.cells #[.float .f64 13830554455654793216, .float .f64 13830554455654793216] 60)) (.cells #[.float .f64 13830554455654793216, .float .f64 13830554455654793216] 60)
                rwa [show (wr.alloc (.cells #[.float .f64 13830554455654793216, .float .f64 13830554455654793216] 60)).heap.size = wr.heap.size + 1 by simp] at this
              have HNB := Lib.hid hnb
              clear hnb
              go_wp2_with (at_builtin; go_must (refine wpList_append_lies _ rfl _ _ 39 rfl w.heap.size 60 i0 _ 2 16 Try.underlying39 hi hz0 hz1 hz2 zero_cells (by omega) _ R0.length (R0.flatMap px) rfl ((hR0.alloc _).alloc _) ⟨wr.heap.size + 1, 0, none⟩ 1 1 [.float .f64 13830554455654793216, .float .f64 13830554455654793216] rfl rfl (World.news_of_block (cs := #[.float .f64 13830554455654793216, .float .f64 13830554455654793216]) (t := 60) (fr := (0, 0)) HNB.out) (by simp [Value.oneCell']) (by omega) (by unfold maxLen; omega) (by omega) (by simp; omega) (wr.heap.size + 1 + 1) (by simp) ?_; intro gg cap w3 hown3 hgrow3 hat3 hlt3; obtain ⟨r1, r2⟩ := rowP_push (p := (-1, -1)) (World.ownsRow.alloc hR0 _) (hF.alloc _) (by rw [px_11]; exact hown3) hgrow3))
              go_roundw
              case rel => exact ⟨k + 1, by rw [hnext]; go_num, by omega, by rw [HZ.out, Int.toNat_natCast, HTK.out, ← List.append_assoc, HRE.out]; exact r1, r2⟩
              case measure => simp [intOf]; omega
            · rw [if_pos h1, if_neg h2] at htk
              have d1 : ((a : Int) / 2 % 2 == 1) = true := beq_iff_eq.2 (by omega)
              have d2 : ((a : Int) % 2 == 1) = false := beq_eq_false_iff_ne.2 (by omega)
              have HTK := Lib.hid htk
              clear htk h1 h2 e1 e2
              have hnb : ((wr.alloc (.cells #[.float .f64 13830554455654793216, .float .f64 4607182418800017408] 60)).alloc (.cells #[.float .f64 13830554455654793216, .float .f64 4607182418800017408] 60)).heap[wr.heap.size + 1]? = some (.cells #[.float .f64 13830554455654793216, .float .f64 4607182418800017408] 60 (0, 0)) := by
                have := heap_alloc_new (wr.alloc (.cells #[.float .f64 13830554455654793216, .float .f64 4607182418800017408] 60)) (.cells #[.float .f64 13830554455654793216, .float .f64 4607182418800017408] 60)
                rwa [show (wr.alloc (.cells #[.float .f64 13830554455654793216, .float .f64 4607182418800017408] 60)).heap.size = wr.heap.size + 1 by simp] at this
              have HNB := Lib.hid hnb
              clear hnb
              go_wp2_with (at_builtin; go_must (refine wpList_append_lies _ rfl _ _ 39 rfl w.heap.size 60 i0 _ 2 16 Try.underlying39 hi hz0 hz1 hz2 zero_cells (by omega) _ R0.length (R0.flatMap px) rfl ((hR0.alloc _).alloc _) ⟨wr.heap.size + 1, 0, none⟩ 1 1 [.float .f64 13830554455654793216, .float .f64 4607182418800017408] rfl rfl (World.news_of_block (cs := #[.float .f64 13830554455654793216, .float .f64 4607182418800017408]) (t := 60) (fr := (0, 0)) HNB.out) (by simp [Value.oneCell']) (by omega) (by unfold maxLen; omega) (by omega) (by simp; omega) (wr.heap.size + 1 + 1) (by simp) ?_; intro gg cap w3 hown3 hgrow3 hat3 hlt3; obtain ⟨r1, r2⟩ := rowP_push (p := (-1, 1)) (World.ownsRow.alloc hR0 _) (hF.alloc _) (by rw [px_10]; exact hown3) hgrow3))
              go_roundw
              case rel => exact ⟨k + 1, by rw [hnext]; go_num, by omega, by rw [HZ.out, Int.toNat_natCast, HTK.out, ← List.append_assoc, HRE.out]; exact r1, r2⟩
              case measure => simp [intOf]; omega
          · by_cases h2 : a % 2 = 1
            · rw [if_neg h1, if_pos h2] at htk
              have d1 : ((a : Int) / 2 % 2 == 1) = false := beq_eq_false_iff_ne.2 (by omega)
              have d2 : ((a : Int) % 2 == 1) = true := beq_iff_eq.2 (by omega)
              have HTK := Lib.hid htk
              clear htk h1 h2 e1 e2
              have hnb : ((wr.alloc (.cells #[.float .f64 4607182418800017408, .float .f64 13830554455654793216] 60)).alloc (.cells #[.float .f64 4607182418800017408, .float .f64 13830554455654793216] 60)).heap[wr.heap.size + 1]? = some (.cells #[.float .f64 4607182418800017408, .float .f64 13830554455654793216] 60 (0, 0)) := by
                have := heap_alloc_new (wr.alloc (.cells #[.float .f64 4607182418800017408, .float .f64 13830554455654793216] 60)) (.cells #[.float .f64 4607182418800017408, .float .f64 13830554455654793216] 60)
                rwa [show (wr.alloc (.cells #[.float .f64 4607182418800017408, .float .f64 13830554455654793216] 60)).heap.size = wr.heap.size + 1 by simp] at this
              have HNB := Lib.hid hnb
              clear hnb
              go_wp2_with (at_builtin; go_must (refine wpList_append_lies _ rfl _ _ 39 rfl w.heap.size 60 i0 _ 2 16 Try.underlying39 hi hz0 hz1 hz2 zero_cells (by omega) _ R0.length (R0.flatMap px) rfl ((hR0.alloc _).alloc _) ⟨wr.heap.size + 1, 0, none⟩ 1 1 [.float .f64 4607182418800017408, .float .f64 13830554455654793216] rfl rfl (World.news_of_block (cs := #[.float .f64 4607182418800017408, .float .f64 13830554455654793216]) (t := 60) (fr := (0, 0)) HNB.out) (by simp [Value.oneCell']) (by omega) (by unfold maxLen; omega) (by omega) (by simp; omega) (wr.heap.size + 1 + 1) (by simp) ?_; intro gg cap w3 hown3 hgrow3 hat3 hlt3; obtain ⟨r1, r2⟩ := rowP_push (p := (1, -1)) (World.ownsRow.alloc hR0 _) (hF.alloc _) (by rw [px_01]; exact hown3) hgrow3))
              go_roundw
              case rel => exact ⟨k + 1, by rw [hnext]; go_num, by omega, by rw [HZ.out, Int.toNat_natCast, HTK.out, ← List.append_assoc, HRE.out]; exact r1, r2⟩
              case measure => simp [intOf]; omega
            · rw [if_neg h1, if_neg h2] at htk
              have d1 : ((a : Int) / 2 % 2 == 1) = false := beq_eq_false_iff_ne.2 (by omega)
              have d2 : ((a : Int) % 2 == 1) = false := beq_eq_false_iff_ne.2 (by omega)
              have HTK := Lib.hid htk
              clear htk h1 h2 e1 e2
              have hnb : ((wr.alloc (.cells #[.float .f64 4607182418800017408, .float .f64 4607182418800017408] 60)).alloc (.cells #[.float .f64 4607182418800017408, .float .f64 4607182418800017408] 60)).heap[wr.heap.size + 1]? = some (.cells #[.float .f64 4607182418800017408, .float .f64 4607182418800017408] 60 (0, 0)) := by
                have := heap_alloc_new (wr.alloc (.cells #[.float .f64 4607182418800017408, .float .f64 4607182418800017408] 60)) (.cells #[.float .f64 4607182418800017408, .float .f64 4607182418800017408] 60)
                rwa [show (wr.alloc (.cells #[.float .f64 4607182418800017408, .float .f64 4607182418800017408] 60)).heap.size = wr.heap.size + 1 by simp] at this
              have HNB := Lib.hid hnb
              clear hnb
              go_wp2_with (at_builtin; go_must (refine wpList_append_lies _ rfl _ _ 39 rfl w.heap.size 60 i0 _ 2 16 Try.underlying39 hi hz0 hz1 hz2 zero_cells (by omega) _ R0.length (R0.flatMap px) rfl ((hR0.alloc _).alloc _) ⟨wr.heap.size + 1, 0, none⟩ 1 1 [.float .f64 4607182418800017408, .float .f64 4607182418800017408] rfl rfl (World.news_of_block (cs := #[.float .f64 4607182418800017408, .float .f64 4607182418800017408]) (t := 60) (fr := (0, 0)) HNB.out) (by simp [Value.oneCell']) (by omega) (by unfold maxLen; omega) (by omega) (by simp; omega) (wr.heap.size + 1 + 1) (by simp) ?_; intro gg cap w3 hown3 hgrow3 hat3 hlt3; obtain ⟨r1, r2⟩ := rowP_push (p := (1, 1)) (World.ownsRow.alloc hR0 _) (hF.alloc _) (by rw [px_00]; exact hown3) hgrow3))
              go_roundw
              case rel => exact ⟨k + 1, by rw [hnext]; go_num, by omega, by rw [HZ.out, Int.toNat_natCast, HTK.out, ← List.append_assoc, HRE.out]; exact r1, r2⟩
              case measure => simp [intOf]; omega
        · have hk44 : k = 4 := by omega
          subst hk44
          have hfull : ofL ((zs.map Int.toNat).take i) ++ (byte4 (zs.getD i 0).toNat).take 4 = ofL ((zs.map Int.toNat).take (i + 1)) := by
            rw [ofL_take (by rw [List.length_map]; have := II.out.1; omega), List.take_of_length_le (l := byte4 (zs.getD i 0).toNat) (by rw [byte4_len]; omega)]
            congr 2
            simp only [List.getD_eq_getElem?_getD, List.getElem?_map]
            cases zs[i]? <;> rfl
          rw [hfull] at hR
          have hw0 : wv 4 = 0 := by decide
          rw [hw0]
          clear hfull
          go_wp2_with fail
          go_roundw
          case rel => exact ⟨i + 1, by go_num, by omega, hR, hF⟩
          case measure => simp [intOf]; omega
    · have i1 : ¬ (i : Int) < (n : Int) := by omega
      go_wp2_with fail
      go_ret
      refine ⟨_, rfl, ?_, hF⟩
      rw [List.take_of_length_le (by rw [List.length_map]; have := II.out.1; omega)] at hR
      exact hR
end Go.Proofs.Ytcdjofneijlbgaa.A

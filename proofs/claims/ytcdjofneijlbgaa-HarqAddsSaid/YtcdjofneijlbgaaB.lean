/- Slices of points; point, Of. -/
import Derived.Test.YtcdjofneijlbgaaA
import Derived.Test.YtcdjofneijlbgaaN
import Derived.Test.YtcdjofneijlbgaaL
namespace Go.Proofs.Ytcdjofneijlbgaa.A
open Go.RowKit Go.Proofs.Ytcdjofneijlbgaa.K Go.Proofs.Ytcdjofneijlbgaa.F Go.Proofs.Ytcdjofneijlbgaa.N
set_option linter.unusedVariables false
set_option linter.unusedSimpArgs false

/-- A point as a complex number. -/
def cx (p : Pt) : Value := .complex .f64 (FI p.1) (FI p.2)
theorem info34 : (Try.prog.info? 61).map (fun i => (i.zero, i.size, i.bytes)) = some (some (.complex .f64 0 0), 1, 16) := by kernel_rfl

/-- A slice that reads as points. -/
def RdC (w : World) (A : Option Addr) (L : List Pt) : Prop := ∀ j, j < L.length → ∃ ad, A = some ad ∧ (∃ cs, Blk w ad.block cs 61) ∧ w.cell? (ad.add j) = some (cx (L.getD j (0, 0)))
def RowC (w : World) (B : Nat) (v : Value) (L : List Pt) : Prop := w.ownsRow B 61 1 v L.length (L.map cx)
theorem rdC_of {w : World} {B : Nat} {v : Value} {L : List Pt} (h : RowC w B v L) : ∃ A c, v = .slice A L.length c ∧ RdC w A L := by
  rcases h.2 with ⟨rfl, h0⟩ | ⟨g, cap, cur, rfl, hg, hh, h1, h2, h3⟩
  · have hL : L = [] := by simpa using h0
    subst hL
    exact ⟨none, 0, rfl, fun j hj => absurd hj (by simp)⟩
  · refine ⟨_, cap, rfl, fun j hj => ⟨_, rfl, ⟨cur, hh⟩, ?_⟩⟩
    refine World.ownsRow.cells h (g := g) rfl j _ ?_
    simp [List.getElem?_eq_getElem hj, List.getD_eq_getElem?_getD]
theorem RdC.frm {w w' : World} {S : Nat → Prop} {A : Option Addr} {L : List Pt} (h : RdC w A L) (f : Frm S w w') (hS : ∀ k cs, Blk w k cs 61 → ¬ S k) : RdC w' A L := fun j hj => by
  obtain ⟨ad, e, ⟨cs, hb⟩, hc⟩ := h j hj
  refine ⟨ad, e, ⟨cs, f.blk hb (hS _ _ hb)⟩, ?_⟩
  exact (World.cell?_of_block (f.block _ (by rw [block_add]; exact hb.lt) (by rw [block_add]; exact hS _ _ hb))).trans hc
theorem RdC.frmN {w w' : World} {A : Option Addr} {L : List Pt} (h : RdC w A L) (f : Frm No w w') : RdC w' A L := h.frm f (fun _ _ _ h => h)
def HandC (w : World) (L : List Pt) (e : Ending) (w' : World) : Prop := ∃ v, e = .returned v ∧ RowC w' w.heap.size v L ∧ Frm No w w'

theorem rowC_push {w W w3 : World} {gg cap : Nat} {p : Pt} {l : List Pt} {vo : Value} {o : Obj} (hR : RowC W w.heap.size vo l) (hF : Frm No w W)
    (hown : w3.ownsRow w.heap.size 61 1 (.slice (some ⟨gg, 0, none⟩) (l.length + 1) cap) (l.length + 1) (l.map cx ++ [cx p])) (hg : (W.alloc o).grownBy w3 vo.ownBlock) :
    RowC w3 w.heap.size (.slice (some ⟨gg, 0, none⟩) (l.length + 1) cap) (l ++ [p]) ∧ Frm No w w3 := by
  have hR' : (W.alloc o).ownsRow w.heap.size 61 1 vo l.length (l.map cx) := World.ownsRow.alloc hR o
  refine ⟨?_, (hF.alloc o).grown hg (fun q e => .inr (own_blk hR' e).1)⟩
  unfold RowC
  rw [List.map_append, List.length_append, List.length_singleton]; exact hown

theorem point_is (v : Nat) (w : World) (h : v < 4) : Calls Try.prog 35 #[.int .u8 v] w fun e w' => e = .returned (.complex .f64 (FI (pt v).1) (FI (pt v).2)) ∧ w' = w := by
  have e1 := FI_one
  have e2 := FI_neg
  have : v = 0 ∨ v = 1 ∨ v = 2 ∨ v = 3 := by omega
  rcases this with rfl | rfl | rfl | rfl
  all_goals
    simp only [cx, pt]
    go_enter Try.func35, Try.ntmps35
    go_wp2_with fail
    go_ret
    refine ⟨?_, rfl⟩
    simp [e1, e2]

theorem u8_mask3_all : ((List.range 256).all fun x => bits .and .u8 (x : Int) 3 == ((x % 4 : Nat) : Int)) = true := by decide +kernel
theorem u8_mask3 {x : Nat} (h : x < 256) : bits .and .u8 (x : Int) 3 = ((x % 4 : Nat) : Int) := by
  have := List.all_eq_true.1 u8_mask3_all x (List.mem_range.2 h)
  simpa using this
theorem u8_of {a : Int} (h : (Lit.int .u8 a).wf = true) : 0 ≤ a ∧ a ≤ 255 := by
  simp only [Lit.wf, Bool.and_eq_true, decide_eq_true_eq] at h
  exact h
theorem two_spell {z : Int} (h0 : 0 ≤ z) (h1 : z ≤ 255) {k : Nat} (hk : k < 4) : bits .and .u8 (z / 2 ^ (6 - 2 * k)) 3 = (two z.toNat k : Int) := by
  obtain ⟨c, rfl⟩ := Int.eq_ofNat_of_zero_le h0
  have e : ((c : Int) / 2 ^ (6 - 2 * k)) = ((c / 4 ^ (3 - k) : Nat) : Int) := by
    have : k = 0 ∨ k = 1 ∨ k = 2 ∨ k = 3 := by omega
    rcases this with rfl | rfl | rfl | rfl <;> simp
  rw [e, u8_mask3 (by have := Nat.div_le_self c (4 ^ (3 - k)); omega)]
  rfl
theorem byte4_take {c k : Nat} (hk : k < 4) : (byte4 c).take (k + 1) = (byte4 c).take k ++ [pt (two c k)] := by
  rw [List.take_succ_eq_append_getElem (by rw [byte4_len]; exact hk)]
  simp [byte4]
theorem ofL_take {bs : List Nat} {i : Nat} (h : i < bs.length) : ofL (bs.take (i + 1)) = ofL (bs.take i) ++ byte4 (bs.getD i 0) := by
  rw [List.take_succ_eq_append_getElem h]
  unfold ofL
  rw [List.flatMap_append, List.getD_eq_getElem?_getD, List.getElem?_eq_getElem h]
  simp
theorem two_lt (c k : Nat) : two c k < 4 := Nat.mod_lt _ (by omega)

set_option maxRecDepth 100000 in
set_option maxHeartbeats 2000000 in
theorem of_ok (w : World) (A : Option Addr) (n c : Nat) (zs : List Int) (hI : Ints w .u8 A n zs) (hn : n ≤ 100000) : Calls Try.prog 24 #[.slice A n c] w (HandC w (ofL (zs.map Int.toNat))) := by
  obtain ⟨i0, hi, hz0, hz1, hz2⟩ := info_parts info34
  go_enter Try.func24, Try.ntmps24
  go_wp2_with fail
  go_loopw [3, 9] (fun vo vi wr => ∃ i : Nat, vi = .int .i64 i ∧ i ≤ n ∧ RowC wr w.heap.size vo (ofL ((zs.map Int.toNat).take i)) ∧ Frm No w wr) (fun _ vi _ => n - (intOf vi).toNat)
  case atStart => exact ⟨0, rfl, by omega, World.ownsRow_nil _ _ _ _, Frm.refl _ _⟩
  case round =>
    obtain ⟨i, rfl, hin, hR, hF⟩ := hrel
    by_cases hlt : i < n
    · obtain ⟨ad, rfl, hbk, hcell, hwf⟩ := hI.at_ hlt
      have hcell' : wr.cell? (ad.add i) = some (.int .u8 (zs.getD i 0)) := by
        rw [← hcell]; exact World.cell?_of_block (hF.block _ (by rw [block_add]; exact hbk) (fun h => h))
      obtain ⟨z, hz⟩ : ∃ z, zs.getD i 0 = z := ⟨_, rfl⟩
      rw [hz] at hcell' hwf
      have i0' : (0 : Int) ≤ (i : Int) := Int.natCast_nonneg _
      have i1 : (i : Int) < (n : Int) := by omega
      clear hcell
      obtain ⟨wo, rfl⟩ : ∃ wo, wo = wr := ⟨_, rfl⟩
      go_wp2_with fail
      go_loopw [3, 13] (fun vo vk wr => ∃ k : Nat, vk = .int .i64 k ∧ k ≤ 4 ∧ RowC wr w.heap.size vo (ofL ((zs.map Int.toNat).take i) ++ (byte4 z.toNat).take k) ∧ Frm No w wr) (fun _ vk _ => 4 - (intOf vk).toNat)
      case atStart => exact ⟨0, rfl, by omega, by simpa using hR, hF⟩
      case round =>
        clear hR hF hcell'
        obtain ⟨k, rfl, hk4, hR, hF⟩ := hrel
        have k0 : (0 : Int) ≤ (k : Int) := Int.natCast_nonneg _
        by_cases hk : k < 4
        · have k4 : (k : Int) < 4 := by omega
          obtain ⟨z0, z1⟩ := u8_of hwf
          have hsp := two_spell z0 z1 hk
          have htk := byte4_take (c := z.toNat) hk
          have h2 := two_lt z.toNat k
          obtain ⟨v, hv⟩ : ∃ v, two z.toNat k = v := ⟨_, rfl⟩
          obtain ⟨V, hV⟩ : ∃ V, bits .and .u8 (z / 2 ^ (6 - 2 * k)) 3 = V := ⟨_, rfl⟩
          rw [hv] at h2 htk
          rw [hV, hv] at hsp
          have hlen : (ofL ((zs.map Int.toNat).take i) ++ (byte4 z.toNat).take k).length ≤ 400004 := by
            rw [List.length_append, ofL_len, List.length_take, List.length_take, byte4_len]
            omega
          obtain ⟨R0, hRE⟩ : ∃ R0, ofL ((zs.map Int.toNat).take i) ++ (byte4 z.toNat).take k = R0 := ⟨_, rfl⟩
          have HRE := Lib.hid hRE
          rw [hRE] at hR hlen
          clear hRE
          have hR0 := hR
          unfold RowC at hR0
          have HTK := Lib.hid htk
          have HSP := Lib.hid hsp
          have hsz := hF.size
          clear htk hsp
          go_wp2_with fail
          rw [HSP.out]
          refine (point_is v _ h2).mono ?_
          rintro e w2 ⟨rfl, rfl⟩
          go_wp2_with (at_builtin; go_must (refine wpList_append_lies _ rfl _ _ 38 rfl w.heap.size 61 i0 _ 1 16 Try.underlying38 hi hz0 hz1 hz2 rfl (by omega) _ R0.length (R0.map cx) rfl (hR0.alloc _) ⟨w2.heap.size, 0, none⟩ 1 1 [.complex .f64 (FI (pt v).1) (FI (pt v).2)] rfl rfl (World.news_of_block (cs := #[.complex .f64 (FI (pt v).1) (FI (pt v).2)]) (t := 61) (fr := (0, 0)) (heap_alloc_new w2 _)) (by simp [Value.oneCell', cx]) (by omega) (by unfold maxLen; omega) (by omega) (by simp; omega) (w2.heap.size + 1) (by simp) ?_; intro gg cap w3 hown3 hgrow3 hat3 hlt3; obtain ⟨r1, r2⟩ := rowC_push (p := pt v) hR hF hown3 hgrow3))
          go_roundw
          case rel => exact ⟨k + 1, by go_num, by omega, by rw [HTK.out, ← List.append_assoc, HRE.out]; exact r1, r2⟩
          case measure => simp [intOf]; omega
        · have k4 : ¬ (k : Int) < 4 := by omega
          have hk44 : k = 4 := by omega
          subst hk44
          have hfull : ofL ((zs.map Int.toNat).take i) ++ (byte4 z.toNat).take 4 = ofL ((zs.map Int.toNat).take (i + 1)) := by
            rw [ofL_take (by rw [List.length_map]; have := hI.1; omega), List.take_of_length_le (l := byte4 z.toNat) (by rw [byte4_len]; omega)]
            congr 2
            rw [← hz]
            simp only [List.getD_eq_getElem?_getD, List.getElem?_map]
            cases zs[i]? <;> rfl
          rw [hfull] at hR
          clear hfull
          go_wp2_with fail
          go_roundw
          case rel => exact ⟨i + 1, by go_num, by omega, hR, hF⟩
          case measure => simp [intOf]; omega
    · go_wp2_with fail
      go_ret
      refine ⟨_, rfl, ?_, hF⟩
      rw [List.take_of_length_le (by rw [List.length_map]; have := hI.1; omega)] at hR
      exact hR
end Go.Proofs.Ytcdjofneijlbgaa.A

/- The document's Remove. -/
import Derived.Test.YtiifepajnhdfjaaZ
namespace Go.Proofs.Ytiifepajnhdfjaa.A
open Go.RowKit Go.Proofs.Ytiifepajnhdfjaa.K
set_option linter.unusedVariables false
set_option linter.unusedSimpArgs false

theorem rrem_fin {w W2 : World} {B g m : Nat} {u v : Value} {U' : List US} (hb : Blk w g #[u] 45) (F : Frm No w W2) (own : W2.ownsRow B 54 3 v m (U'.flatMap uc)) (hm : U'.length = m) (h16 : m ≤ 16) :
    IsR (W2.setCell ⟨g, 0, none⟩ v) B g U' ∧ Frm (RG w B g) w (W2.setCell ⟨g, 0, none⟩ v) := by
  have hb2 := F.blk hb (fun h => h)
  refine ⟨⟨by omega, _, hb2.set 0 v, ?_⟩, (F.mono fun _ h => h.elim).set (.inl (.inl rfl)) _⟩
  unfold RowR
  rw [hm]
  exact own_set own hb2 (by decide) 0 v
set_option maxRecDepth 100000 in
set_option maxHeartbeats 4000000 in
theorem rremove_any (w : World) (B g : Nat) (U : List US) (x : Int) (h : IsR w B g U) (hB : B ≤ w.heap.size) :
    Calls Try.prog 13 #[.pointer (some ⟨g, 0, none⟩), .int .i64 x] w fun e w' => e = .returned (.int .i64 (remE U x)) ∧ IsR w' B g (remU U x) ∧ Frm (RG w B g) w w' := by
  have hs := h
  have h16 := h.1
  obtain ⟨h16, v, hb, ho⟩ := h
  have hc := rfind_any w B g U x hs
  by_cases hf : fi U x < U.length
  · have hE : remE U x = 0 := by unfold remE; rw [if_pos hf]
    have hU : remU U x = U.take (fi U x) ++ U.drop (fi U x + 1) := by unfold remU; rw [if_pos hf]
    rw [show fiV U x = (fi U x : Int) by unfold fiV; rw [if_pos hf]] at hc
    rw [hE]
    obtain ⟨i, hi⟩ : ∃ i, fi U x = i := ⟨_, rfl⟩
    rw [hi] at hc hf hU
    obtain ⟨n, hn⟩ : ∃ n, U.length = n := ⟨_, rfl⟩
    unfold RowR at ho
    rw [hn] at hf h16 ho
    obtain ⟨A, c, rfl, hnc, hrd⟩ := own_is ho
    have k1 : w.cell? ⟨g, 0, none⟩ = some (.slice A n c) := hb.cell 0
    obtain ⟨ad, rfl, -, -⟩ := hrd.2 (by omega)
    have r1 := hrd.take (k := i) (by omega)
    have r2 := hrd.drop (k := i + 1) (by omega) hnc
    rw [uc_take] at r1
    rw [uc_drop] at r2
    have i0 : (0 : Int) ≤ (i : Int) := Int.natCast_nonneg _
    have i1 : (i : Int) < (n : Int) := by omega
    have i2 : (n : Int) ≤ (c : Int) := by omega
    have i3 : (i : Int) + 1 ≤ (n : Int) := by omega
    have hgl := hb.lt
    have j1 : i ≤ c := by omega
    have j2 : i + 1 ≤ n := by omega
    obtain ⟨A2, hA2⟩ : ∃ A2, (if c = i + 1 then some ad else some (ad.add ((i + 1) * 3))) = A2 := ⟨_, rfl⟩
    have r2' : Rds w 3 A2 (n - (i + 1)) ((U.drop (i + 1)).flatMap uc) := by rw [← hA2]; exact r2
    have HU := Lib.hid (And.intro hU (And.intro r1 (And.intro r2' (And.intro hb hn))))
    have o1 := uc_one (U.take i)
    have o2 := uc_one (U.drop (i + 1))
    have e2 : (U.take i).flatMap uc ++ (U.drop (i + 1)).flatMap uc = (U.take i ++ U.drop (i + 1)).flatMap uc := by rw [List.flatMap_append]
    have HEE := Lib.hid e2
    obtain ⟨xs, hxs⟩ : ∃ xs, (U.take i).flatMap uc = xs := ⟨_, rfl⟩
    obtain ⟨ys, hys⟩ : ∃ ys, (U.drop (i + 1)).flatMap uc = ys := ⟨_, rfl⟩
    rw [hxs] at o1 r1 HEE
    rw [hys] at o2 r2' HEE
    obtain ⟨i0', hi', hz0, hz1, hz2⟩ := info_parts info54
    have O1 := Lib.hid o1
    have O2 := Lib.hid o2
    clear hU r2 hrd ho hE hi hs hb hn e2 hxs hys o1 o2
    by_cases hci : c = i + 1
    · rw [if_pos hci] at hA2
      subst hA2
      subst hci
      obtain rfl : n = i + 1 := by omega
      clear hnc
      have p4 : (i : Int) ≤ (i : Int) + 1 := by omega
      go_enter Try.func13, Try.ntmps13
      go_wp2_with fail
      refine hc.mono ?_
      rintro e w1 ⟨rfl, rfl⟩
      rw [Nat.sub_self] at r2'
      go_wp2_with (first
        | (at_builtin; refine wpList_append_rds _ rfl (.tmp 12) (.tmp 18) 43 rfl w1.heap.size 54 i0' _ 3 24 Try.underlying43 hi' hz0 hz1 hz2 zero_three (by omega) (.slice none 0 0) 0 [] rfl (World.ownsRow_nil _ _ _ _) (some ad) i (i + 1) xs rfl r1 O1.out (by unfold maxLen; omega) (by omega) (Nat.le_refl _) ?_; intro v3 w3 own3 hg3; rw [Nat.zero_add, List.nil_append] at own3; have F3 := own_grown (World.ownsRow_nil w1 w1.heap.size 54 3) (Frm.refl No w1) (Nat.le_refl _) hg3; have kb := F3.blk HU.out.2.2.2.1 (fun h => h); have kc := kb.cell 0; simp only [List.getElem?_toArray] at kc; obtain ⟨A4, c4, rfl, -, -⟩ := own_is own3; have hsz := F3.size)
        | (at_builtin; refine wpList_append_rds _ rfl (.tmp 21) (.tmp 28) 43 rfl w1.heap.size 54 i0' _ 3 24 Try.underlying43 hi' hz0 hz1 hz2 zero_three (by omega) (.slice A4 i c4) i xs rfl own3 (some ad) 0 0 ys rfl (r2'.frmN F3) O2.out (by unfold maxLen; omega) (by omega) hsz ?_; intro v5 w5 own5 hg5; have F5 := own_grown own3 F3 (Nat.le_refl _) hg5; have kb5 := F5.blk HU.out.2.2.2.1 (fun h => h); have kz5 : w5.frozen? ⟨g, 0, none⟩ = false := kb5.free 0; have kc5 := kb5.cell 0; simp only [List.getElem?_toArray] at kc5; obtain ⟨A6, c6, rfl, -, -⟩ := own_is own5))
      go_ret
      rw [HU.out.1]
      rw [HEE.out] at own5
      obtain ⟨q1, q2⟩ := rrem_fin HU.out.2.2.2.1 F5 (own_lower own5 hB) (by rw [List.length_append, List.length_take, List.length_drop, HU.out.2.2.2.2]; omega) (by omega)
      exact ⟨rfl, q1, q2⟩
    · rw [if_neg hci] at hA2
      subst hA2
      go_enter Try.func13, Try.ntmps13
      go_wp2_with fail
      refine hc.mono ?_
      rintro e w1 ⟨rfl, rfl⟩
      go_wp2_with (first
        | (at_builtin; refine wpList_append_rds _ rfl (.tmp 12) (.tmp 18) 43 rfl w1.heap.size 54 i0' _ 3 24 Try.underlying43 hi' hz0 hz1 hz2 zero_three (by omega) (.slice none 0 0) 0 [] rfl (World.ownsRow_nil _ _ _ _) (some ad) i (c) xs rfl r1 O1.out (by unfold maxLen; omega) (by omega) (Nat.le_refl _) ?_; intro v3 w3 own3 hg3; rw [Nat.zero_add, List.nil_append] at own3; have F3 := own_grown (World.ownsRow_nil w1 w1.heap.size 54 3) (Frm.refl No w1) (Nat.le_refl _) hg3; have kb := F3.blk HU.out.2.2.2.1 (fun h => h); have kc := kb.cell 0; simp only [List.getElem?_toArray] at kc; obtain ⟨A4, c4, rfl, -, -⟩ := own_is own3; have hsz := F3.size)
        | (at_builtin; refine wpList_append_rds _ rfl (.tmp 21) (.tmp 28) 43 rfl w1.heap.size 54 i0' _ 3 24 Try.underlying43 hi' hz0 hz1 hz2 zero_three (by omega) (.slice A4 i c4) i xs rfl own3 (some (ad.add ((i + 1) * 3))) (n - (i + 1)) (c - (i + 1)) ys rfl (r2'.frmN F3) O2.out (by unfold maxLen; omega) (by omega) hsz ?_; intro v5 w5 own5 hg5; have F5 := own_grown own3 F3 (Nat.le_refl _) hg5; have kb5 := F5.blk HU.out.2.2.2.1 (fun h => h); have kz5 : w5.frozen? ⟨g, 0, none⟩ = false := kb5.free 0; have kc5 := kb5.cell 0; simp only [List.getElem?_toArray] at kc5; obtain ⟨A6, c6, rfl, -, -⟩ := own_is own5))
      go_ret
      rw [HU.out.1]
      rw [HEE.out] at own5
      obtain ⟨q1, q2⟩ := rrem_fin HU.out.2.2.2.1 F5 (own_lower own5 hB) (by rw [List.length_append, List.length_take, List.length_drop, HU.out.2.2.2.2]; omega) (by omega)
      exact ⟨rfl, q1, q2⟩
  · have hE : remE U x = 4 := by unfold remE; rw [if_neg hf]
    have hU : remU U x = U := by unfold remU; rw [if_neg hf]
    rw [show fiV U x = -1 by unfold fiV; rw [if_neg hf]] at hc
    rw [hE, hU]
    clear hE hU hf hb ho
    go_enter Try.func13, Try.ntmps13
    go_wp2_with fail
    refine hc.mono ?_
    rintro e w1 ⟨rfl, rfl⟩
    go_wp2_with fail
    go_ret
    exact ⟨rfl, hs, Frm.refl _ _⟩
end Go.Proofs.Ytiifepajnhdfjaa.A

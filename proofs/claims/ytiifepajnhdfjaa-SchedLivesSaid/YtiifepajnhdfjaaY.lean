/- Remove. -/
import Derived.Test.YtiifepajnhdfjaaX
namespace Go.Proofs.Ytiifepajnhdfjaa.A
open Go.RowKit Go.Proofs.Ytiifepajnhdfjaa.K
set_option linter.unusedVariables false
set_option linter.unusedSimpArgs false

theorem uc_take : ∀ (U : List US) (k : Nat), (U.flatMap uc).take (k * 3) = (U.take k).flatMap uc
  | [], k => by simp
  | a :: U, 0 => by simp
  | a :: U, k + 1 => by
    have e : (a :: U).flatMap uc = .int .i64 a.id :: .int .i64 a.wt :: .int .i64 a.sv :: U.flatMap uc := rfl
    rw [e, show (k + 1) * 3 = k * 3 + 1 + 1 + 1 by omega]
    simp only [List.take_succ_cons]
    rw [uc_take U k]; rfl
theorem uc_drop : ∀ (U : List US) (k : Nat), (U.flatMap uc).drop (k * 3) = (U.drop k).flatMap uc
  | [], k => by simp
  | a :: U, 0 => by simp
  | a :: U, k + 1 => by
    have e : (a :: U).flatMap uc = .int .i64 a.id :: .int .i64 a.wt :: .int .i64 a.sv :: U.flatMap uc := rfl
    rw [e, show (k + 1) * 3 = k * 3 + 1 + 1 + 1 by omega]
    simp only [List.drop_succ_cons]
    rw [uc_drop U k]
theorem uc_one (U : List US) : ∀ u ∈ U.flatMap uc, u.oneCell' = true := fun u hu => by
  obtain ⟨p, _, hp⟩ := List.mem_flatMap.1 hu
  simp [uc] at hp
  rcases hp with rfl | rfl | rfl <;> rfl
def remE (U : List US) (x : Int) : Int := if fi U x < U.length then 0 else 4
def remU (U : List US) (x : Int) : List US := if fi U x < U.length then U.take (fi U x) ++ U.drop (fi U x + 1) else U

theorem rem_fin {w W2 : World} {B g n m : Nat} {A : Option Addr} {c : Nat} {v : Value} {U' : List US} (hb : Blk w g #[.bool true, .slice A n c] 57) (F : Frm No w W2) (own : W2.ownsRow B 60 3 v m (U'.flatMap uc)) (hm : U'.length = m) (h16 : m ≤ 16) :
    IsS (W2.setCell ⟨g, 1, none⟩ v) B g U' ∧ Frm (SG w B g) w (W2.setCell ⟨g, 1, none⟩ v) := by
  have hb2 := F.blk hb (fun h => h)
  refine ⟨⟨by omega, _, hb2.set 1 v, ?_⟩, (F.mono fun _ h => h.elim).set (.inl (.inl rfl)) _⟩
  unfold RowU
  rw [hm]
  exact own_set own hb2 (by decide) 1 v
set_option maxRecDepth 100000 in
set_option maxHeartbeats 4000000 in
theorem remove_any (w : World) (B g : Nat) (U : List US) (x : Int) (h : IsS w B g U) (hB : B ≤ w.heap.size) :
    Calls Try.prog 12 #[.pointer (some ⟨g, 0, none⟩), .int .i64 x] w fun e w' => e = .returned (.int .i64 (remE U x)) ∧ IsS w' B g (remU U x) ∧ Frm (SG w B g) w w' := by
  have hs := h
  have h16 := h.1
  obtain ⟨h16, v, hb, ho⟩ := h
  have k0 : w.cell? ⟨g, 0, none⟩ = some (.bool true) := hb.cell 0
  have hc := find_any w B g U x hs
  by_cases hf : fi U x < U.length
  · have hE : remE U x = 0 := by unfold remE; rw [if_pos hf]
    have hU : remU U x = U.take (fi U x) ++ U.drop (fi U x + 1) := by unfold remU; rw [if_pos hf]
    rw [show fiV U x = (fi U x : Int) by unfold fiV; rw [if_pos hf]] at hc
    rw [hE]
    obtain ⟨i, hi⟩ : ∃ i, fi U x = i := ⟨_, rfl⟩
    rw [hi] at hc hf hU
    obtain ⟨n, hn⟩ : ∃ n, U.length = n := ⟨_, rfl⟩
    unfold RowU at ho
    rw [hn] at hf h16 ho
    obtain ⟨A, c, rfl, hnc, hrd⟩ := own_is ho
    have k1 : w.cell? ⟨g, 1, none⟩ = some (.slice A n c) := hb.cell 1
    obtain ⟨ad, rfl, -, -⟩ := hrd.2 (by omega)
    have r1 := hrd.take (k := i) (by omega)
    have r2 := hrd.drop (k := i + 1) (by omega) hnc
    rw [uc_take] at r1
    rw [uc_drop] at r2
    have i0 : (0 : Int) ≤ (i : Int) := Int.natCast_nonneg _
    have i1 : (i : Int) < (n : Int) := by omega
    have i2 : (n : Int) ≤ (c : Int) := by omega
    have i3 : (i : Int) + 1 ≤ (n : Int) := by omega
    have z1 : w.frozen? ⟨g, 1, none⟩ = false := hb.free 1
    have hgl := hb.lt
    have HU := Lib.hid (And.intro hU (And.intro r1 (And.intro r2 (And.intro hb hn))))
    clear hU r1 r2 hrd ho hE hi hs hb hn
    have j1 : i ≤ c := by omega
    have j2 : i + 1 ≤ n := by omega
    have p1 : (0 : Int) ≤ (i : Int) + 1 := by omega
    have p2 : IntKind.i64.wrap ((i : Int) + 1) = (i : Int) + 1 := IntWalk.i64_in _ ⟨by omega, by omega⟩
    have p3 : ((i : Int) + 1).toNat = i + 1 := by omega
    obtain ⟨A2, hA2⟩ : ∃ A2, (if c = i + 1 then some ad else some (ad.add ((i + 1) * 3))) = A2 := ⟨_, rfl⟩
    have hcc : ∀ cs, cs = #[Value.slice (some ad) i c, .slice A2 (n - (i + 1)) (c - (i + 1))] → Calls Try.prog 23 #[.slice (some ⟨w.heap.size, 0, none⟩) 2 2] (w.alloc (.cells cs 55)).drew fun e w' => ∃ A3 c3, e = .returned (.slice A3 (n - 1) c3) ∧ w'.ownsRow B 60 3 (.slice A3 (n - 1) c3) (n - 1) ((U.take i ++ U.drop (i + 1)).flatMap uc) ∧ Frm No w w' ∧ w'.cell? ⟨g, 1, none⟩ = some (.slice (some ad) n c) ∧ w'.frozen? ⟨g, 1, none⟩ = false := fun cs hcs => by
      subst hcs
      have FA := ((Frm.refl No w).alloc (.cells #[Value.slice (some ad) i c, .slice A2 (n - (i + 1)) (c - (i + 1))] 55)).drew
      have hr2 := HU.out.2.2.1
      rw [show (if c = i + 1 then some ad else (some ad).map (·.add ((i + 1) * 3))) = A2 from hA2] at hr2
      refine (concat_ok _ w.heap.size 2 2 [⟨some ad, i, c, (U.take i).flatMap uc⟩, ⟨A2, n - (i + 1), c - (i + 1), (U.drop (i + 1)).flatMap uc⟩] rfl (Blk.new w _ 55).drew (fun k hk => ?_) (fun k hk => ?_) ?_ (by omega)).mono ?_
      · match k, hk with
        | 0, _ => exact HU.out.2.1.frmN FA
        | 1, _ => exact hr2.frmN FA
      · match k, hk with
        | 0, _ => exact uc_one _
        | 1, _ => exact uc_one _
      · show i + (n - (i + 1) + 0) ≤ 100000; omega
      · rintro e w' ⟨v, rfl, own, F⟩
        have F2 := FA.thenN F
        have hb2 := F2.blk HU.out.2.2.2.1 (fun h => h)
        have e1 : slN [⟨some ad, i, c, (U.take i).flatMap uc⟩, ⟨A2, n - (i + 1), c - (i + 1), (U.drop (i + 1)).flatMap uc⟩] 2 = n - 1 := by show i + (n - (i + 1) + 0) = n - 1; omega
        have e2 : slX [⟨some ad, i, c, (U.take i).flatMap uc⟩, ⟨A2, n - (i + 1), c - (i + 1), (U.drop (i + 1)).flatMap uc⟩] 2 = (U.take i ++ U.drop (i + 1)).flatMap uc := by
          rw [List.flatMap_append]; simp [slX]
        rw [e1, e2] at own
        obtain ⟨A3, c3, rfl, -, -⟩ := own_is own
        exact ⟨A3, c3, rfl, own_lower own (by simp; omega), F2, hb2.cell 1, hb2.free 1⟩
    have HCC := Lib.hid hcc
    clear hcc
    have HJ := Lib.hid hnc
    by_cases hci : c = i + 1
    · rw [if_pos hci] at hA2
      subst hA2
      subst hci
      obtain rfl : n = i + 1 := by omega
      clear hnc
      have p4 : (i : Int) ≤ (i : Int) + 1 := by omega
      go_enter Try.func12, Try.ntmps12
      go_wp2_with fail
      refine hc.mono ?_
      rintro e w1 ⟨rfl, rfl⟩
      go_wp2_with fail
      go_region_law ((go_simp; go_at_call 23; refine (HCC.out _ (by simp)).mono ?_; rintro e w2 ⟨A3, c3, rfl, own, F, kc, kz⟩))
      all_goals go_wp2_with fail
      all_goals go_ret
      all_goals rw [HU.out.1]
      all_goals obtain ⟨q1, q2⟩ := rem_fin HU.out.2.2.2.1 F own (by rw [List.length_append, List.length_take, List.length_drop, HU.out.2.2.2.2]; omega) (by omega)
      all_goals exact ⟨rfl, q1, q2⟩
    · rw [if_neg hci] at hA2
      subst hA2
      go_enter Try.func12, Try.ntmps12
      go_wp2_with fail
      refine hc.mono ?_
      rintro e w1 ⟨rfl, rfl⟩
      go_wp2_with fail
      go_region_law ((go_simp; go_at_call 23; refine (HCC.out _ rfl).mono ?_; rintro e w2 ⟨A3, c3, rfl, own, F, kc, kz⟩))
      all_goals go_wp2_with fail
      all_goals go_ret
      all_goals rw [HU.out.1]
      all_goals obtain ⟨q1, q2⟩ := rem_fin HU.out.2.2.2.1 F own (by rw [List.length_append, List.length_take, List.length_drop, HU.out.2.2.2.2]; omega) (by omega)
      all_goals exact ⟨rfl, q1, q2⟩
  · have hE : remE U x = 4 := by unfold remE; rw [if_neg hf]
    have hU : remU U x = U := by unfold remU; rw [if_neg hf]
    rw [show fiV U x = -1 by unfold fiV; rw [if_neg hf]] at hc
    rw [hE, hU]
    clear hE hU hf hb ho
    go_enter Try.func12, Try.ntmps12
    go_wp2_with fail
    refine hc.mono ?_
    rintro e w1 ⟨rfl, rfl⟩
    go_wp2_with fail
    go_ret
    exact ⟨rfl, hs, Frm.refl _ _⟩
end Go.Proofs.Ytiifepajnhdfjaa.A

/- What the document's window does: first, number, Ends, Stalled, find, Open, Far. -/
import Derived.Test.YthefmklblfjfeaaMB
import Derived.Deep.QuietTactic
namespace Go.Proofs.Ythefmklblfjfeaa.A
open Go.RowKit Go.Proofs.Ythefmklblfjfeaa.K Go.Proofs.Ythefmklblfjfeaa.N
set_option linter.unusedVariables false
set_option linter.unusedSimpArgs false

/-- The document's window: its list is the same list. -/
def IsX (w : World) (B gx : Nat) (b z : Int) (D : List Bool) : Prop :=
  (1 ≤ b ∧ b ≤ 16) ∧ D.length ≤ 100000 ∧ ∃ v, Blk w gx #[.int .i64 b, .int .i64 z, v] 44 ∧ w.ownsRow B 4 1 v D.length (D.map Value.bool)
theorem IsX.frm {w w' : World} {S : Nat → Prop} {B gx : Nat} {b z : Int} {D : List Bool} (h : IsX w B gx b z D) (f : Frm S w w') (hS : ∀ k cs t, (t = 4 ∨ t = 44) → Blk w k cs t → ¬ S k) : IsX w' B gx b z D := by
  obtain ⟨h1, h2, v, hb, ho⟩ := h
  exact ⟨h1, h2, v, f.blk hb (hS _ _ _ (.inr rfl) hb), own_frm ho f (fun k cs hk => hS k cs _ (.inl rfl) hk)⟩
theorem IsX.frmN {w w' : World} {B gx : Nat} {b z : Int} {D : List Bool} (h : IsX w B gx b z D) (f : Frm No w w') : IsX w' B gx b z D := h.frm f (fun _ _ _ _ _ h => h)
theorem IsX.alloc {w : World} {B gx : Nat} {b z : Int} {D : List Bool} (h : IsX w B gx b z D) (o : Obj) : IsX (w.alloc o) B gx b z D := by
  obtain ⟨h1, h2, v, hb, ho⟩ := h
  exact ⟨h1, h2, v, hb.alloc o, World.ownsRow.alloc ho o⟩

/-- The cells of the list. -/
theorem own_bools {w : World} {B : Nat} {v : Value} {D : List Bool} (h : w.ownsRow B 4 1 v D.length (D.map Value.bool)) :
    ∃ A c, v = .slice A D.length c ∧ ∀ j, j < D.length → ∃ ad, A = some ad ∧ w.cell? (ad.add j) = some (.bool (D.getD j false)) := by
  rcases h.2 with ⟨rfl, h0⟩ | ⟨g, cap, cur, rfl, hg, hh, h1, h2, h3⟩
  · have hL : D = [] := by simpa using h0
    subst hL
    exact ⟨none, 0, rfl, fun j hj => absurd hj (by simp)⟩
  · refine ⟨_, cap, rfl, fun j hj => ⟨_, rfl, ?_⟩⟩
    refine h.cells (g := g) rfl j _ ?_
    simp [List.getElem?_eq_getElem hj, List.getD_eq_getElem?_getD]

set_option maxHeartbeats 1000000 in
theorem xfirst (w : World) (B gx : Nat) (b z : Int) (D : List Bool) (h : IsX w B gx b z D) : Calls Try.prog 32 #[.pointer (some ⟨gx, 0, none⟩)] w fun e w' => e = .returned (.int .i64 (fst D)) ∧ w' = w := by
  obtain ⟨-, hl, v, hb, ho⟩ := h
  obtain ⟨A, c, rfl, hc⟩ := own_bools ho
  have h2 : w.cell? ⟨gx, 2, none⟩ = some (.slice A D.length c) := hb.cell 2
  have HC := Lib.hid hc
  have hle := fst_le D
  have hbel := Lib.hid (fst_below D)
  have hat := Lib.hid (fst_at D)
  clear hb ho hc
  obtain ⟨m, hm⟩ : ∃ m, D.length = m := ⟨_, rfl⟩
  have HM := Lib.hid hm
  rw [hm] at hl h2 hle
  go_enter Try.func32, Try.ntmps32
  go_wp2
  go_loop [3] (fun i => ∃ k : Nat, k ≤ fst D ∧ i = .int .i64 k) (fun i => fst D - (intOf i).toNat)
  case atStart => exact ⟨0, Nat.zero_le _, rfl⟩
  case round =>
    obtain ⟨k, hk, rfl⟩ := hrel
    have k0 : (0 : Int) ≤ (k : Int) := Int.natCast_nonneg _
    by_cases hlt : k < fst D
    · obtain ⟨ad, rfl, hcell⟩ := HC.out k (by have := HM.out; omega)
      rw [hbel.out k hlt] at hcell
      have hkm : (k : Int) < (m : Int) := by omega
      go_wp2
      go_round
      case rel => exact ⟨k + 1, by omega, by go_num⟩
      case measure => simp [intOf]; omega
    · have hkf : k = fst D := by omega
      by_cases hlt2 : k < m
      · obtain ⟨ad, rfl, hcell⟩ := HC.out k (by have := HM.out; omega)
        rw [hkf, hat.out, ← hkf] at hcell
        have hkm : (k : Int) < (m : Int) := by omega
        have HK := Lib.hid hkf
        clear hkf
        go_wp2
        go_ret
        obtain rfl := HK.out
        exact ⟨rfl, rfl⟩
      · have hkm : ¬ (k : Int) < (m : Int) := by omega
        have HK := Lib.hid hkf
        clear hkf
        go_wp2
        go_ret
        obtain rfl := HK.out
        exact ⟨rfl, rfl⟩

theorem xnumber (w : World) (B gx : Nat) (b z : Int) (D : List Bool) (h : IsX w B gx b z D) (i : Nat) (hi : i ≤ 100000) : Calls Try.prog 29 #[.pointer (some ⟨gx, 0, none⟩), .int .i64 i] w fun e w' => e = .returned (.int .i64 (nm b i)) ∧ w' = w := by
  obtain ⟨hb, hl, v, hx, ho⟩ := h
  have h0 : w.cell? ⟨gx, 0, none⟩ = some (.int .i64 b) := hx.cell 0
  have hS := szN_two hb
  have e : (i : Int).tmod (szN b : Int) = nm b i := by unfold nm; rw [Int.tmod_eq_emod_of_nonneg (by omega)]; simp
  obtain ⟨r0, r1⟩ := nm_range hb i
  have hsz := szN_eq b
  obtain ⟨S, hSe⟩ : ∃ S, szN b = S := ⟨_, rfl⟩
  rw [hSe] at e hS hsz
  have hne : ((S : Int) == 0) = false := beq_eq_false_iff_ne.2 (by omega)
  obtain ⟨x, hx⟩ : ∃ x, nm b i = x := ⟨_, rfl⟩
  rw [hx] at e r0 r1 ⊢
  have hs0 : sz b = S := hsz.symm
  rw [hs0] at r1
  clear hx hSe hsz ho hl hb
  go_enter Try.func29, Try.ntmps29
  go_wp2_with fail
  refine (rsize_is b S _ hs0).mono ?_
  rintro e w1 ⟨rfl, rfl⟩
  go_wp2_with fail
  go_ret
  exact ⟨rfl, rfl⟩
theorem xnumber_is (w : World) (B gx : Nat) (b z : Int) (D : List Bool) (h : IsX w B gx b z D) (i : Nat) (x : Int) (hi : i ≤ 100000) (hx : nm b i = x) : Calls Try.prog 29 #[.pointer (some ⟨gx, 0, none⟩), .int .i64 i] w fun e w' => e = .returned (.int .i64 x) ∧ w' = w :=
  hx ▸ xnumber w B gx b z D h i hi

theorem xfirst_is (w : World) (B gx : Nat) (b z : Int) (D : List Bool) (k : Nat) (h : IsX w B gx b z D) (hk : fst D = k) : Calls Try.prog 32 #[.pointer (some ⟨gx, 0, none⟩)] w fun e w' => e = .returned (.int .i64 k) ∧ w' = w := hk ▸ xfirst w B gx b z D h

set_option maxHeartbeats 400000 in
theorem xends (w : World) (B gx : Nat) (b z : Int) (D : List Bool) (h : IsX w B gx b z D) : Calls Try.prog 17 #[.pointer (some ⟨gx, 0, none⟩)] w fun e w' => e = .returned (.tuple #[.int .i64 (nm b (fst D)), .int .i64 (nm b D.length)]) ∧ Frm No w w' := by
  have h' := h
  obtain ⟨hb, hl, v, hx, ho⟩ := h'
  obtain ⟨A, c, rfl, hc⟩ := own_bools ho
  have h2 : w.cell? ⟨gx, 2, none⟩ = some (.slice A D.length c) := hx.cell 2
  have hle := fst_le D
  obtain ⟨f, hf⟩ : ∃ f, fst D = f := ⟨_, rfl⟩
  obtain ⟨m, hm⟩ : ∃ m, D.length = m := ⟨_, rfl⟩
  have hv : ∀ i, i = f ∨ i = m → i ≤ 100000 := fun i hi => by rcases hi with rfl | rfl <;> omega
  rw [hf, hm]
  rw [hm] at h2
  have HF := Lib.hid hf
  have HV := Lib.hid hv
  clear hx ho hc hm hf hv
  go_enter Try.func17, Try.ntmps17
  go_wp2_with fail
  go_quiet ((first | (go_at_call 32; exact Calls.quiet_of_same (xfirst_is _ B gx b z D f (by exact h) HF.out)) | (go_at_call 29; refine Calls.quiet_of_same (xnumber _ B gx b z D ?_ _ ?_); exact h; exact HV.out _ (by first | exact .inl rfl | exact .inr rfl))))
  go_wp2_with fail
  go_ret2
  exact ⟨rfl, (Frm.refl No w).drewN _⟩

theorem xstalled (w : World) (B gx : Nat) (b z : Int) (D : List Bool) (h : IsX w B gx b z D) : Calls Try.prog 18 #[.pointer (some ⟨gx, 0, none⟩)] w fun e w' => e = .returned (.bool (full z D)) ∧ Frm No w w' := by
  have h' := h
  obtain ⟨hb, hl, v, hx, ho⟩ := h'
  obtain ⟨A, c, rfl, hc⟩ := own_bools ho
  have h1 : w.cell? ⟨gx, 1, none⟩ = some (.int .i64 z) := hx.cell 1
  have h2 : w.cell? ⟨gx, 2, none⟩ = some (.slice A D.length c) := hx.cell 2
  have hle := fst_le D
  obtain ⟨t, ht⟩ : ∃ t, full z D = t := ⟨_, rfl⟩
  have ht' := ht
  unfold full at ht'
  rw [ht]
  obtain ⟨f, hf⟩ : ∃ f, fst D = f := ⟨_, rfl⟩
  obtain ⟨m, hm⟩ : ∃ m, D.length = m := ⟨_, rfl⟩
  rw [hf] at hle ht'
  rw [hm] at hle hl h2 ht'
  have HF := Lib.hid hf
  clear hx ho hc hm hf ht
  go_enter Try.func18, Try.ntmps18
  go_wp2_with fail
  go_quiet ((go_at_call 32; exact Calls.quiet_of_same (xfirst_is _ B gx b z D f (by exact h) HF.out)))
  go_wp2_with fail
  go_ret
  exact ⟨rfl, (Frm.refl No w).drewN _⟩

set_option maxHeartbeats 400000 in
theorem xfar (w : World) (B gx : Nat) (b z : Int) (D : List Bool) (q : Int) (h : IsX w B gx b z D) : Calls Try.prog 24 #[.pointer (some ⟨gx, 0, none⟩), .int .i64 q] w fun e w' => e = .returned (.int .i64 (farD b D q)) ∧ Frm No w w' := by
  have hr := nm_range h.1 (fst D)
  have hb := h.1
  unfold farD
  obtain ⟨x1, hx1⟩ : ∃ x, nm b (fst D) = x := ⟨_, rfl⟩
  obtain ⟨x2, hx2⟩ : ∃ x, nm b D.length = x := ⟨_, rfl⟩
  have he := xends w B gx b z D h
  rw [hx1, hx2] at he
  rw [hx1] at hr ⊢
  obtain ⟨hb', hl, v, hx, ho⟩ := h
  by_cases hq : 0 ≤ q ∧ q < sz b
  · have e1 : farE b x1 q = 0 := by unfold farE; rw [askS_two, if_pos hb, if_pos ⟨hr, hq⟩]
    have e2 : farN b x1 q = fv b x1 q := by unfold farN fv; rw [if_pos e1, if_pos hq]
    generalize fv b x1 q = N at *
    go_enter Try.func24, Try.ntmps24
    go_wp2_with fail
    refine he.mono ?_
    rintro e w1 ⟨rfl, f1⟩
    have h1 := f1.blk hx (fun h => h)
    have k1 : w1.cell? ⟨gx, 0, none⟩ = some (.int .i64 b) := h1.cell 0
    go_wp2_with fail
    refine (rfar_is b x1 q 0 N _ e1 e2).mono ?_
    rintro e w2 ⟨rfl, rfl⟩
    go_wp2_with fail
    go_ret
    exact ⟨rfl, f1⟩
  · have e1 : farE b x1 q ≠ 0 := by unfold farE; rw [askS_two, if_pos hb, if_neg (fun h => hq h.2)]; decide
    have e2 : fv b x1 q = -1 := by unfold fv; rw [if_neg hq]
    rw [e2]
    obtain ⟨E, hE⟩ : ∃ E, farE b x1 q = E := ⟨_, rfl⟩
    obtain ⟨N, hN⟩ : ∃ N, farN b x1 q = N := ⟨_, rfl⟩
    rw [hE] at e1
    have e3 : (E != 0) = true := by simpa using e1
    go_enter Try.func24, Try.ntmps24
    go_wp2_with fail
    refine he.mono ?_
    rintro e w1 ⟨rfl, f1⟩
    have h1 := f1.blk hx (fun h => h)
    have k1 : w1.cell? ⟨gx, 0, none⟩ = some (.int .i64 b) := h1.cell 0
    go_wp2_with fail
    refine (rfar_is b x1 q E N _ hE hN).mono ?_
    rintro e w2 ⟨rfl, rfl⟩
    go_wp2_with fail
    go_ret
    exact ⟨rfl, f1⟩
end Go.Proofs.Ythefmklblfjfeaa.A

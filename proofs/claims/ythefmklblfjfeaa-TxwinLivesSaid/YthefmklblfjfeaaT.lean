/- Ack of txwin. -/
import Derived.Test.YthefmklblfjfeaaS
import Derived.Deep.RegionWith
namespace Go.Proofs.Ythefmklblfjfeaa.A
open Go.RowKit Go.Proofs.Ythefmklblfjfeaa.K Go.Proofs.Ythefmklblfjfeaa.N
set_option linter.unusedVariables false
set_option linter.unusedSimpArgs false

theorem far_is2 (w : World) (g : Nat) (b z a s : Int) (mb : Nat) (q r : Int) (h : Blk w g (winA b z a s mb) 53) (hb : 1 ≤ b ∧ b ≤ 16) (ha : 0 ≤ a ∧ a < sz b) (hr : fv b a q = r) :
    Calls Try.prog 23 #[.pointer (some ⟨g, 0, none⟩), .int .i64 q] w fun e w' => e = .returned (.int .i64 r) ∧ Frm No w w' := hr ▸ far_win w g b z a s mb q h hb ha
theorem open_is (w : World) (g : Nat) (b z a s : Int) (mb n : Nat) (f : Int → Bool) (q : Int) (t : Bool) (h : Blk w g (winA b z a s mb) 53) (hm : MapB w mb n f) (hb : 1 ≤ b ∧ b ≤ 16) (ha : 0 ≤ a ∧ a < sz b) (hq : (Lit.int .i64 q).wf = true)
    (ht : openB b a s f q = t) : Calls Try.prog 21 #[.pointer (some ⟨g, 0, none⟩), .int .i64 q] w fun e w' => e = .returned (.bool t) ∧ Frm No w w' := ht ▸ open_win w g b z a s mb n f q h hm hb ha hq

theorem ack_nil (w : World) (q : Int) : Calls Try.prog 11 #[.pointer none, .int .i64 q] w fun e w' => e = .returned (.int .i64 6) ∧ w = w' := by
  go_enter Try.func11, Try.ntmps11
  go_wp2_with (go_at_call 27; refine (made_nil _).mono ?_; rintro e w' ⟨rfl, rfl⟩)
  go_ret
  exact ⟨rfl, rfl⟩
theorem ack_zero (w : World) (g : Nat) (q : Int) (h : Blk w g zeroA 53) : Calls Try.prog 11 #[.pointer (some ⟨g, 0, none⟩), .int .i64 q] w fun e w' => e = .returned (.int .i64 6) ∧ w = w' := by
  go_enter Try.func11, Try.ntmps11
  go_wp2_with (go_at_call 27; refine (made_zero _ g h).mono ?_; rintro e w' ⟨rfl, rfl⟩)
  go_ret
  exact ⟨rfl, rfl⟩
theorem ack_arg (w : World) (g : Nat) (b z a s : Int) (mb : Nat) (q : Int) (h : Blk w g (winA b z a s mb) 53) (hb : 1 ≤ b ∧ b ≤ 16) (ha : 0 ≤ a ∧ a < sz b) (hq : ¬ (0 ≤ q ∧ q < sz b)) :
    Calls Try.prog 11 #[.pointer (some ⟨g, 0, none⟩), .int .i64 q] w fun e w' => e = .returned (.int .i64 1) ∧ Frm No w w' := by
  have hv : fv b a q = -1 := by unfold fv; rw [if_neg hq]
  go_enter Try.func11, Try.ntmps11
  go_wp2_with (first | (go_at_call 27; refine (made_ok _ g _ _ _ _ _ h).mono ?_; rintro e w' ⟨rfl, rfl⟩) | (go_at_call 23; refine (far_is2 _ g b z a s mb q _ h hb ha hv).mono ?_; rintro e w1 ⟨rfl, f1⟩))
  go_ret
  exact ⟨rfl, f1⟩
theorem ack_old (w : World) (g : Nat) (b z a s : Int) (mb n : Nat) (f : Int → Bool) (q : Int) (h : Blk w g (winA b z a s mb) 53) (hm : MapB w mb n f) (hb : 1 ≤ b ∧ b ≤ 16) (ha : 0 ≤ a ∧ a < sz b) (hq : 0 ≤ q ∧ q < sz b) (ho : openB b a s f q = false) :
    Calls Try.prog 11 #[.pointer (some ⟨g, 0, none⟩), .int .i64 q] w fun e w' => e = .returned (.int .i64 10) ∧ Frm No w w' := by
  obtain ⟨r, hr⟩ : ∃ r, fv b a q = r := ⟨_, rfl⟩
  have hr0 : ¬ r < 0 := by
    rw [← hr]; unfold fv; rw [if_pos hq]
    have := Int.emod_nonneg (q - a) (show sz b ≠ 0 by omega)
    omega
  go_enter Try.func11, Try.ntmps11
  go_wp2_with fail
  refine (made_ok _ g _ _ _ _ _ h).mono ?_
  rintro e w' ⟨rfl, rfl⟩
  go_wp2_with fail
  refine (far_is2 _ g b z a s mb q r h hb ha hr).mono ?_
  rintro e w1 ⟨rfl, f1⟩
  go_wp2_with fail
  refine (open_is _ g b z a s mb n f q false (f1.blk h (fun h => h)) (hm.frm f1 (fun h => h)) hb ha (small_wf hq) ho).mono ?_
  rintro e w2 ⟨rfl, f2⟩
  go_wp2_with fail
  go_ret
  exact ⟨rfl, f1.trans f2⟩

/-- The map behind k rounds of Ack's loop. -/
def gone (b a : Int) (f : Int → Bool) (k : Nat) (y : Int) : Bool := f y && (List.range k).all fun (i : Nat) => y != (a + i) % sz b
theorem gone_zero (b a : Int) (f : Int → Bool) (y : Int) : gone b a f 0 y = f y := by simp [gone]
theorem gone_succ (b a : Int) (f : Int → Bool) (k : Nat) (y : Int) : gone b a f (k + 1) y = if y = (a + k) % sz b then false else gone b a f k y := by
  unfold gone
  rw [List.range_succ, List.all_append]
  by_cases h : y = (a + k) % sz b
  · rw [if_pos h]; simp [h]
  · have : (y != (a + k) % sz b) = true := by simpa using h
    rw [if_neg h]; simp [this]
theorem mod_apart {N a : Int} {i k : Nat} (hik : i < k) (hk : (k : Int) < N + i) : (a + k) % N ≠ (a + i) % N := by
  intro h
  have h2 := Int.emod_emod_of_dvd
  have : ((a + k) - (a + i)) % N = 0 := by rw [Int.sub_emod, h]; simp
  rw [show (a + k) - (a + i) = (k : Int) - i by omega, Int.emod_eq_of_lt (by omega) (by omega)] at this
  omega
theorem gone_at (b a : Int) (f : Int → Bool) (k : Nat) (hk : (k : Int) < sz b) : gone b a f k ((a + k) % sz b) = f ((a + k) % sz b) := by
  unfold gone
  have : ((List.range k).all fun (i : Nat) => (a + k) % sz b != (a + i) % sz b) = true := by
    rw [List.all_eq_true]
    intro i hi
    have := List.mem_range.1 hi
    by_cases h0 : (k : Int) < sz b + i
    · simpa using mod_apart this h0
    · omega
  rw [this, Bool.and_true]

def AckRel (w : World) (g : Nat) (b z a s : Int) (mb n K : Nat) (f : Int → Bool) (q : Nat) (wr : World) : Prop :=
  ∃ k : Nat, q + k = K ∧ Blk wr g (winA b z ((a + k) % sz b) s mb) 53 ∧ MapB wr mb n (gone b a f k) ∧ Frm (fun x => x = g ∨ x = mb) w wr

set_option maxRecDepth 100000 in
set_option maxHeartbeats 4000000 in
theorem ack_ok (w : World) (g : Nat) (b z a s : Int) (mb n : Nat) (f f' : Int → Bool) (q : Int) (h : Blk w g (winA b z a s mb) 53) (hm : MapB w mb n f) (hn : n < 1000000) (hb : 1 ≤ b ∧ b ≤ 16) (ha : 0 ≤ a ∧ a < sz b) (hq : 0 ≤ q ∧ q < sz b)
    (ho : openB b a s f q = true) (K : Nat) (hK : (K : Int) < sz b) (hf' : ∀ y, f' y = if y = q then true else f y) (hK1 : ∀ i, i < K → f' ((a + (i : Nat)) % sz b) = true) (hK2 : f' ((a + K) % sz b) = false) :
    Calls Try.prog 11 #[.pointer (some ⟨g, 0, none⟩), .int .i64 q] w fun e w' => e = .returned (.int .i64 0) ∧ Blk w' g (winA b z ((a + K) % sz b) s mb) 53 ∧ MapB w' mb (n + 1) (gone b a f' K) ∧ Frm (fun x => x = g ∨ x = mb) w w' := by
  have hb0 := (sz_range hb).1
  obtain ⟨r, hr⟩ : ∃ r, fv b a q = r := ⟨_, rfl⟩
  have hr0 : ¬ r < 0 := by
    rw [← hr]; unfold fv; rw [if_pos hq]
    have := Int.emod_nonneg (q - a) (show sz b ≠ 0 by omega)
    omega
  have hmg := hm.ne h
  have HK1 := Lib.hid hK1
  have HK2 := Lib.hid hK2
  have HF := Lib.hid hf'
  have ea : a = (a + (0 : Nat)) % sz b := by rw [Int.emod_eq_of_lt (by omega) (by omega)]; omega
  have EA := Lib.hid ea
  clear hK1 hK2 hf' ea
  go_enter Try.func11, Try.ntmps11
  go_wp2_with fail
  refine (made_ok _ g _ _ _ _ _ h).mono ?_
  rintro e w' ⟨rfl, rfl⟩
  go_wp2_with fail
  refine (far_is2 _ g b z a s mb q r h hb ha hr).mono ?_
  rintro e w1 ⟨rfl, f1⟩
  go_wp2_with fail
  refine (open_is _ g b z a s mb n f q true (f1.blk h (fun h => h)) (hm.frm f1 (fun h => h)) hb ha (small_wf hq) ho).mono ?_
  rintro e w2 ⟨rfl, f2⟩
  have h2 := f2.blk (f1.blk h (fun h => h)) (fun h => h)
  have m2 := (hm.frm f1 (fun h => h)).frm f2 (fun h => h)
  have F2 := (f1.trans f2).mono (S' := fun x => x = g ∨ x = mb) (fun _ h => h.elim)
  have c4 : w2.cell? ⟨g, 4, none⟩ = some (.map (some mb)) := h2.cell 4
  obtain ⟨w3, hrun, m3, f3⟩ := m2.put (by unfold maxLen; omega) q (small_wf hq) true
  have h3 := f3.blk h2 (fun e => hmg e.symm)
  have F3 := F2.trans (f3.mono (fun x e => .inr e))
  clear h hm f1 f2 h2 m2 F2 f3
  go_wp2_with fail
  go_loopg [] K (fun k wr => AckRel w g b z a s mb (n + 1) K f' k wr)
  case atStart => exact ⟨0, by omega, by rw [← EA.out]; exact h3, m3.congr fun y => by rw [gone_zero, HF.out], F3⟩
  case round =>
    clear h3 m3 F3 hrun c4
    obtain ⟨k, hqk, ht, hm, hF⟩ := hrel
    have hr0 : 0 ≤ (a + k) % sz b := Int.emod_nonneg _ (by omega)
    have hr1 : (a + k) % sz b < sz b := Int.emod_lt_of_pos _ (by omega)
    have hnx : ((a + k) % sz b + 1) % sz b = (a + (k + 1 : Nat)) % sz b := by rw [Int.add_emod, Int.emod_emod, ← Int.add_emod]; congr 1; omega
    obtain ⟨hE, hN⟩ := go_one hb ⟨hr0, hr1⟩
    rw [hnx] at hN
    have hat := gone_at b a f' k (by omega)
    have c0 : wr.cell? ⟨g, 0, none⟩ = some (.int .i64 b) := ht.cell 0
    have c2 : wr.cell? ⟨g, 2, none⟩ = some (.int .i64 ((a + k) % sz b)) := ht.cell 2
    have c4 : wr.cell? ⟨g, 4, none⟩ = some (.map (some mb)) := ht.cell 4
    have hlook := hm.drew.look _ (small_wf ⟨hr0, hr1⟩)
    rw [hat] at hlook
    have HQ := Lib.hid hqk
    have GS := Lib.hid (gone_succ b a f' k)
    by_cases hlt : k < K
    · rw [HK1.out k hlt] at hlook
      obtain ⟨w5, hdel, m5, f5⟩ := hm.drew.drew.del _ (small_wf ⟨hr0, hr1⟩) 0
      obtain ⟨v, hv⟩ : ∃ v, (a + k) % sz b = v := ⟨_, rfl⟩
      obtain ⟨v', hv'⟩ : ∃ v', (a + (k + 1 : Nat)) % sz b = v' := ⟨_, rfl⟩
      rw [hv] at hlook hE hN ht c2 hdel m5
      rw [hv'] at hN
      have h5 := f5.blk ht (fun e => hmg e.symm)
      have F5 := hF.drew.drew.trans (f5.mono (S' := fun x => x = g ∨ x = mb) (fun x e => Or.inr e))
      have d0 : w5.cell? ⟨g, 0, none⟩ = some (.int .i64 b) := h5.cell 0
      have d2 : w5.cell? ⟨g, 2, none⟩ = some (.int .i64 v) := h5.cell 2
      have HV := Lib.hid hv
      have HV' := Lib.hid hv'
      have M5 := Lib.hid m5
      clear hv hv' hqk hnx hat m5 f5 ht hm hF
      go_wp2_with fail
      go_region
      go_wp2_with fail
      go_region
      go_wp2_with fail
      go_region_with (go_at_call 28; refine (go_is b v 1 0 v' _ hE hN).mono ?_; rintro e w6 ⟨rfl, f6⟩; have h6 := f6.blk (by exact h5) (fun h => h); have k2 : w6.cell? ⟨g, 2, none⟩ = some (.int .i64 v) := h6.cell 2; have z2 := h6.free 2)
      all_goals
        go_wp2_with fail
        go_roundg (K - (k + 1))
        case rel =>
          refine ⟨k + 1, by have := HQ.out; omega, ?_, ?_, ?_⟩
          · rw [HV'.out]; exact h6.set 2 _
          · refine MapB.set (a := ⟨g, 2, none⟩) ?_ hmg _
            exact (MapB.frm (S := No) (w := w5.drew) (MapB.drew M5.out) f6 (fun h => h)).congr fun y => by rw [GS.out, HV.out]
          · exact (Frm.thenN (F5.drew) f6).set (p := ⟨g, 2, none⟩) (.inl (.inl rfl)) _
        case measure => have := HQ.out; omega
    · have hkK : k = K := by omega
      subst hkK
      rw [HK2.out] at hlook
      clear hqk hnx hat hE hN
      go_wp2_with fail
      go_region
      go_wp2_with fail
      go_ret
      exact ⟨rfl, ht, hm, hF.drew⟩
end Go.Proofs.Ythefmklblfjfeaa.A

/- SchedLives in numbers; of nil, and of one that no call made. -/
import Derived.Test.YtiifepajnhdfjaaZF
import Derived.Test.YtiifepajnhdfjaaW
namespace Go.Proofs.Ytiifepajnhdfjaa.A
open Go.RowKit Go.Proofs.Ytiifepajnhdfjaa.K
set_option linter.unusedVariables false
set_option linter.unusedSimpArgs false

theorem step_ids {s s' : GS} (hs : stepG s = some s') : s'.U.map (·.id) = s.U.map (·.id) := by
  obtain ⟨ht, ht2, ht3⟩ := step_t hs
  unfold stepG at hs
  rw [if_pos ht] at hs
  obtain ⟨b, hb, rfl⟩ := Option.map_eq_some_iff.1 hs
  have hbl := bestTo_lt _ _ _ _ hb
  show (s.U.set b (addS _ (s.U.getD b u0))).map (·.id) = _
  rw [List.map_set]
  have : ∀ n, (addS n (s.U.getD b u0)).id = (s.U.map (·.id))[b]'(by rw [List.length_map]; exact hbl) := fun n => by
    show (s.U.getD b u0).id = _
    rw [List.getElem_map, List.getD_eq_getElem?_getD, List.getElem?_eq_getElem hbl]; rfl
  rw [this]
  exact List.set_getElem_self (by rw [List.length_map]; exact hbl)
theorem fin_ids (s : GS) : (fin s).U.map (·.id) = s.U.map (·.id) :=
  fin_inv (P := fun s' => s'.U.map (·.id) = s.U.map (·.id)) (fun a b h hs => (step_ids hs).trans h) rfl
theorem give_ids {U : List US} {W : List Wn} {n : Nat} {t q : Int} {E : GS} (hE : fin ⟨restTo U (leftTo U W n) q U.length, leftTo U W n, List.replicate U.length 0, t⟩ = E) : E.U.map (·.id) = U.map (·.id) := by
  rw [← hE, fin_ids]
  exact rest_ids U _ _ _ (Nat.le_refl _)

theorem fi_app {U : List US} {u : US} {x : Int} : fi (U ++ [u]) x = if fi U x < U.length then fi U x else if u.id = x then U.length else U.length + 1 := by
  unfold fi
  rw [List.findIdx_append]
  split
  · rfl
  · rw [List.findIdx_cons]
    have hl := fi_le U x
    by_cases h : u.id = x
    · have h2 : (u.id == x) = true := beq_iff_eq.2 h
      rw [h2, if_pos h]; simp
    · have h2 : (u.id == x) = false := beq_eq_false_iff_ne.2 h
      rw [h2, if_neg h]; simp; omega
theorem dis_add {U : List US} {x wt : Int} (h : Dis U) : Dis (if addE U x wt = 0 then U ++ [⟨x, wt, 0⟩] else U) := by
  by_cases hE : addE U x wt = 0
  · rw [if_pos hE]
    have hf : ¬ fi U x < U.length := by
      intro hc
      unfold addE at hE
      split at hE
      · cases hE
      · first | cases hE | (rw [if_pos hc] at hE; cases hE)
    intro i hi
    rw [List.length_append, List.length_singleton] at hi
    rw [fi_app]
    by_cases hiU : i < U.length
    · have e : ((U ++ [(⟨x, wt, 0⟩ : US)]).getD i u0) = U.getD i u0 := by
        rw [List.getD_eq_getElem?_getD, List.getElem?_append_left hiU, ← List.getD_eq_getElem?_getD]
      rw [e, if_pos (by rw [h i hiU]; exact hiU)]
      exact h i hiU
    · obtain rfl : i = U.length := by omega
      have e : ((U ++ [(⟨x, wt, 0⟩ : US)]).getD U.length u0) = ⟨x, wt, 0⟩ := by
        rw [List.getD_eq_getElem?_getD, List.getElem?_append_right (Nat.le_refl _), Nat.sub_self]; rfl
      rw [e, if_neg hf, if_pos rfl]
  · rw [if_neg hE]; exact h
theorem rat_add {U : List US} {x wt R : Int} (h : Rat U R) (hR : 0 ≤ R) : Rat (if addE U x wt = 0 then U ++ [⟨x, wt, 0⟩] else U) R := by
  split
  · rename_i hE
    intro u hu
    rcases List.mem_append.1 hu with hu | hu
    · exact h u hu
    · obtain rfl : u = ⟨x, wt, 0⟩ := by simpa using hu
      unfold addE at hE
      split at hE
      · cases hE
      · exact ⟨by show 1 ≤ wt; omega, by show wt ≤ 16; omega, by show (0 : Int) ≤ 0; omega, Int.mul_nonneg (show 0 ≤ wt by omega) hR⟩
  · exact h
theorem rat_rem {U : List US} {x R : Int} (h : Rat U R) : Rat (remU U x) R := by
  unfold remU
  split
  · intro u hu
    rcases List.mem_append.1 hu with hu | hu
    · exact h u (List.mem_of_mem_take hu)
    · exact h u (List.mem_of_mem_drop hu)
  · exact h
/-- Told apart: no two users have one number. -/
theorem dis_iff {U : List US} : Dis U ↔ ∀ i j, i < U.length → j < U.length → (U.getD i u0).id = (U.getD j u0).id → i = j := by
  constructor
  · intro h i j hi hj e
    have h1 := h i hi
    rw [e, h j hj] at h1
    omega
  · intro h i hi
    have hlt : fi U (U.getD i u0).id < U.length := by
      by_cases hc : fi U (U.getD i u0).id < U.length
      · exact hc
      · exact absurd rfl (fi_lt_not (U := U) (x := (U.getD i u0).id) (j := i) (by omega))
    exact h _ _ hlt hi (fi_at hlt)
theorem dis_rem {U : List US} {x : Int} (h : Dis U) : Dis (remU U x) := by
  unfold remU
  split
  · rename_i hf
    obtain ⟨f, hfe⟩ : ∃ f, fi U x = f := ⟨_, rfl⟩
    rw [hfe] at hf ⊢
    rw [dis_iff] at h ⊢
    have key : ∀ i, i < (U.take f ++ U.drop (f + 1)).length → (U.take f ++ U.drop (f + 1)).getD i u0 = U.getD (if i < f then i else i + 1) u0 := fun i hi => by
      rw [List.getD_eq_getElem?_getD, List.getD_eq_getElem?_getD]
      by_cases hif : i < f
      · rw [if_pos hif, List.getElem?_append_left (by rw [List.length_take]; omega), List.getElem?_take_of_lt hif]
      · rw [if_neg hif, List.getElem?_append_right (by rw [List.length_take]; omega), List.length_take, List.getElem?_drop]
        congr 2
        omega
    intro i j hi hj e
    rw [key i hi, key j hj] at e
    rw [List.length_append, List.length_take, List.length_drop] at hi hj
    have := h (if i < f then i else i + 1) (if j < f then j else j + 1) (by split <;> omega) (by split <;> omega) e
    split at this <;> split at this <;> omega
  · exact h

set_option maxRecDepth 100000 in
set_option maxHeartbeats 2000000 in
theorem served_q (w : World) (B g : Nat) (U : List US) (x s : Int) (h : IsS w B g U) (hs : svV U x = s) : Calls Try.prog 10 #[.pointer (some ⟨g, 0, none⟩), .int .i64 x] w fun e w' => e = .returned (.int .i64 s) ∧ ∃ m, w' = w.drewN m := by
  subst hs
  by_cases hf : fi U x < U.length
  · have hv : svV U x = (U.getD (fi U x) u0).sv := by unfold svV; rw [if_pos hf]
    obtain ⟨f, hfe⟩ : ∃ f, fi U x = f := ⟨_, rfl⟩
    have h0 := h
    obtain ⟨h16, v, hb, ho⟩ := h
    obtain ⟨A, c, rfl, hr⟩ := rdU_of ho
    have k1 : w.cell? ⟨g, 1, none⟩ = some (.slice A U.length c) := hb.cell 1
    obtain ⟨ad, rfl, -, -, -, ks⟩ := hr (fi U x) hf
    rw [hfe] at hv hf ks
    rw [← hv] at ks
    have HF := Lib.hid (And.intro hfe hf)
    obtain ⟨n, hn⟩ : ∃ n, U.length = n := ⟨_, rfl⟩
    rw [hn] at k1 hf
    obtain ⟨r, hre⟩ : ∃ r, svV U x = r := ⟨_, rfl⟩
    rw [hre] at ks
    rw [hre]
    have f0 : (0 : Int) ≤ (f : Int) := Int.natCast_nonneg _
    have f1 : (f : Int) < (n : Int) := by omega
    clear hfe hn hb ho hr hv hre
    go_enter Try.func10, Try.ntmps10
    go_wp2_with fail
    refine (find_is _ B g U x f h0 HF.out.1 HF.out.2).mono ?_
    rintro e w1 ⟨rfl, rfl⟩
    go_wp2_with fail
    go_quiet ((go_at_call 17; exact Calls.quiet_of_same (find_is _ B g U x f (by exact h0) HF.out.1 HF.out.2)))
    go_wp2_with fail
    go_ret
    exact ⟨rfl, _, rfl⟩
  · have hv : svV U x = 0 := by unfold svV; rw [if_neg hf]
    have hm : fiV U x = -1 := by unfold fiV; rw [if_neg hf]
    have hc := find_any w B g U x h
    rw [hm] at hc
    rw [hv]
    clear hf hv hm
    go_enter Try.func10, Try.ntmps10
    go_wp2_with fail
    refine hc.mono ?_
    rintro e w1 ⟨rfl, rfl⟩
    go_wp2_with fail
    go_ret
    exact ⟨rfl, 0, rfl⟩

theorem give_nil (w : World) (t : Int) (v : Value) : Calls Try.prog 9 #[.pointer none, .int .i64 t, v] w fun e w' => e = .returned (.tuple #[.slice none 0 0, .int .i64 6]) ∧ Frm No w w' := by
  go_enter Try.func9, Try.ntmps9
  go_wp2_with fail
  go_ret2
  exact ⟨rfl, Frm.refl _ _⟩
theorem give_zero (w : World) (g : Nat) (t : Int) (v : Value) (h : Blk w g #[.bool false, .slice none 0 0] 57) : Calls Try.prog 9 #[.pointer (some ⟨g, 0, none⟩), .int .i64 t, v] w fun e w' => e = .returned (.tuple #[.slice none 0 0, .int .i64 6]) ∧ Frm No w w' := by
  have k0 : w.cell? ⟨g, 0, none⟩ = some (.bool false) := h.cell 0
  go_enter Try.func9, Try.ntmps9
  go_wp2_with fail
  go_ret2
  exact ⟨rfl, Frm.refl _ _⟩
theorem add_nil (w : World) (a b : Int) : Calls Try.prog 7 #[.pointer none, .int .i64 a, .int .i64 b] w fun e w' => e = .returned (.int .i64 6) ∧ Frm No w w' := by
  go_enter Try.func7, Try.ntmps7
  go_wp2_with fail
  go_ret
  exact ⟨rfl, Frm.refl _ _⟩
theorem rem_zero (w : World) (g : Nat) (x : Int) (h : Blk w g #[.bool false, .slice none 0 0] 57) : Calls Try.prog 12 #[.pointer (some ⟨g, 0, none⟩), .int .i64 x] w fun e w' => e = .returned (.int .i64 6) ∧ Frm No w w' := by
  have k0 : w.cell? ⟨g, 0, none⟩ = some (.bool false) := h.cell 0
  go_enter Try.func12, Try.ntmps12
  go_wp2_with fail
  go_ret
  exact ⟨rfl, Frm.refl _ _⟩
theorem served_nil (w : World) (x : Int) : Calls Try.prog 10 #[.pointer none, .int .i64 x] w fun e w' => e = .returned (.int .i64 0) ∧ Frm No w w' := by
  go_enter Try.func10, Try.ntmps10
  go_wp2_with fail
  go_ret
  exact ⟨rfl, Frm.refl _ _⟩
set_option maxRecDepth 100000 in
theorem find_zero (w : World) (g : Nat) (x : Int) (h : Blk w g #[.bool false, .slice none 0 0] 57) : Calls Try.prog 17 #[.pointer (some ⟨g, 0, none⟩), .int .i64 x] w fun e w' => e = .returned (.int .i64 (-1)) ∧ w' = w := by
  have k1 : w.cell? ⟨g, 1, none⟩ = some (.slice none 0 0) := h.cell 1
  go_enter Try.func17, Try.ntmps17
  go_wp2_with fail
  refine wp_scope_jumps 0 (fun a' w' => False) (fun a' _ => 0) rfl ?_ ?_
  · go_wp2_with fail
    go_step3
    go_wp2_with fail
    simp only [Exit.jump]
    go_ret
    exact ⟨rfl, rfl⟩
  · intro a' w' h
    exact h.elim
theorem served_zero (w : World) (g : Nat) (x : Int) (h : Blk w g #[.bool false, .slice none 0 0] 57) : Calls Try.prog 10 #[.pointer (some ⟨g, 0, none⟩), .int .i64 x] w fun e w' => e = .returned (.int .i64 0) ∧ Frm No w w' := by
  go_enter Try.func10, Try.ntmps10
  go_wp2_with fail
  refine (find_zero _ g x h).mono ?_
  rintro e w1 ⟨rfl, rfl⟩
  go_wp2_with fail
  go_ret
  exact ⟨rfl, Frm.refl _ _⟩
end Go.Proofs.Ytiifepajnhdfjaa.A

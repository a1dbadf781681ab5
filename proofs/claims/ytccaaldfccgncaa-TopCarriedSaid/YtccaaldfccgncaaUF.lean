/- umd.fields. -/
import Derived.Test.YtccaaldfccgncaaPD
import Derived.Deep.RegionLawGrows
namespace Go.Proofs.Ytccaaldfccgncaa.A
open Go.RowKit Go.Proofs.Ytccaaldfccgncaa.K
set_option linter.unusedVariables false
set_option linter.unusedSimpArgs false
set_option maxRecDepth 100000 in
theorem fr64 {a : Act} {x0 x1 x6 x7 : Value} (hs : a.tmps.size = 49) (hd : a.defers = []) (h0 : a.tmps.getD 0 undef = x0) (h1 : a.tmps.getD 1 undef = x1) (h6 : a.tmps.getD 6 undef = x6) (h7 : a.tmps.getD 7 undef = x7) : ∃ U : Nat → Value, a = ⟨#[x0, x1, U 2, U 3, U 4, U 5, x6, x7, U 8, U 9, U 10, U 11, U 12, U 13, U 14, U 15, U 16, U 17, U 18, U 19, U 20, U 21, U 22, U 23, U 24, U 25, U 26, U 27, U 28, U 29, U 30, U 31, U 32, U 33, U 34, U 35, U 36, U 37, U 38, U 39, U 40, U 41, U 42, U 43, U 44, U 45, U 46, U 47, U 48], []⟩ := by
  have e := act_frame a 49 hs hd
  obtain ⟨f, hf⟩ : ∃ f : Nat → Value, (fun i => a.tmps.getD i undef) = f := ⟨_, rfl⟩
  rw [hf, show ((List.range 49).map f).toArray = #[f 0, f 1, f 2, f 3, f 4, f 5, f 6, f 7, f 8, f 9, f 10, f 11, f 12, f 13, f 14, f 15, f 16, f 17, f 18, f 19, f 20, f 21, f 22, f 23, f 24, f 25, f 26, f 27, f 28, f 29, f 30, f 31, f 32, f 33, f 34, f 35, f 36, f 37, f 38, f 39, f 40, f 41, f 42, f 43, f 44, f 45, f 46, f 47, f 48] from rfl] at e
  refine ⟨f, ?_⟩
  have hi : ∀ i, f i = a.tmps.getD i undef := fun i => by rw [← hf]
  rw [e]
  simp only [show f 0 = x0 from (hi 0).trans h0, show f 1 = x1 from (hi 1).trans h1, show f 6 = x6 from (hi 6).trans h6, show f 7 = x7 from (hi 7).trans h7]

/-- What holds at the loop's head: what is left of the bytes, what has been read. -/
def FI (w wr : World) (O : List (List Nat)) (A0 : Option Addr) (l0 c0 : Nat) (vo : Value) (j : Nat) : Prop :=
  Bin w A0 (O.drop j).flatten ∧ (O.drop j).flatten.length = l0 ∧ l0 ≤ c0 ∧ RowF wr w.heap.size vo (O.take j) ∧ Frm No w wr
set_option maxRecDepth 100000 in
set_option maxHeartbeats 8000000 in
theorem um_fields (w : World) (A AN : Option Addr) (l c m cN B : Nat) (O : List (List Nat)) (h : Bin w A O.flatten) (hl : O.flatten.length = l) (hlc : l ≤ c) (hr : RowN w B (.slice AN m cN) (lensOf O m)) (hm : m + 1 = O.length) (hok : FldOk O) (ht : tot O ≤ 3000) :
    Calls Try.prog 64 #[.slice A l c, .slice AN m cN] w fun e w' => ∃ v, e = .returned (.tuple #[v, .int .i64 0]) ∧ RowF w' w.heap.size v O ∧ Frm No w w' := by
  have H := Lib.hid (And.intro h (And.intro hl (And.intro hlc (And.intro hr (And.intro hm (And.intro hok ht))))))
  have m24 : (m : Int) ≤ 23 := by have := hok.2.1; omega
  clear h hl hlc hr hm hok ht
  go_enter Try.func64, Try.ntmps64
  go_wp2_with fail
  refine wp_scope_pass 0 (fun a' wr => ∃ (j : Nat) (A0 : Option Addr) (l0 c0 : Nat) (vo : Value), a'.tmps.size = 49 ∧ a'.defers = [] ∧ a'.tmps.getD 0 undef = (.slice A0 l0 c0) ∧ a'.tmps.getD 1 undef = (.slice AN m cN) ∧ a'.tmps.getD 6 undef = vo ∧ a'.tmps.getD 7 undef = (.int .i64 j) ∧ FI w wr O A0 l0 c0 vo j ∧ j + 1 ≤ O.length) (fun a wr => O.length - (intOf (a.tmps.getD 7 undef)).toNat) rfl ?_ ?_
  · rintro a' wr ⟨j, A0, l0, c0, vo, hs', hd', e0', e1', e6', e7', hI, hj⟩
    obtain ⟨U, rfl⟩ := fr64 hs' hd' e0' e1' e6' e7'
    clear hs' hd' e0' e1' e6' e7'
    have HI := Lib.hid hI
    clear hI
    have j0 : (0 : Int) ≤ (j : Int) := Int.natCast_nonneg _
    by_cases hlt : j < m
    · have j1 : (j : Int) < (m : Int) := by omega
      have jO : j < O.length := by have := H.out.2.2.2.2.1; omega
      have hlen : (lensOf O m).length = m := lensOf_len O (by have := H.out.2.2.2.2.1; omega)
      have hgd : (lensOf O m).getD j 0 = (O.getD j []).length := by
        unfold lensOf
        rw [List.getD_eq_getElem?_getD, List.getElem?_map, List.getElem?_take, if_pos hlt, List.getElem?_eq_getElem jO, List.getD_eq_getElem?_getD, List.getElem?_eq_getElem jO]
        rfl
      have hfl : (O.drop j).flatten = O.getD j [] ++ (O.drop (j + 1)).flatten := by
        rw [List.drop_eq_getElem_cons jO, List.flatten_cons, List.getD_eq_getElem?_getD, List.getElem?_eq_getElem jO]
        rfl
      have hpos := H.out.2.2.2.2.2.1.2.2 (O.getD j []) (by rw [List.getD_eq_getElem?_getD, List.getElem?_eq_getElem jO]; exact List.getElem_mem _)
      obtain ⟨A', c', e', -, hcell⟩ := (H.out.2.2.2.1.frmN HI.out.2.2.2.2).out hlen
      injection e' with e1 e2 e3
      subst e1
      obtain ⟨ad, rfl, ⟨cs, hbk⟩, hk⟩ := hcell j hlt
      rw [hgd] at hk
      obtain ⟨x, hx⟩ : ∃ x, (O.getD j []).length = x := ⟨_, rfl⟩
      rw [hx] at hk hpos
      have hl0 := HI.out.2.1
      rw [hfl, List.length_append, hx] at hl0
      have hab : (ad.add j).block = ad.block := by unfold Addr.add; split <;> rfl
      have hkc : ∀ (S0 : Nat → Prop) (w' : World), Frm S0 wr w' → ¬ S0 ad.block → w'.cell? (ad.add j) = some (.int .i64 (x : Int)) := fun S0 w' f hs => by
        rw [← hk]
        exact World.cell?_of_block (by rw [hab]; exact f.block _ hbk.lt hs)
      have hxl : x ≤ l0 := by omega
      have hxg : ¬ (l0 : Int) < (x : Int) := by omega
      have hl9 : l0 ≤ c0 := HI.out.2.2.1
      have hsl := fun W => slice_hm Try.underlying24 size5 A0 l0 c0 x (by omega) W
      have hsl2 := fun W => slice_l Try.underlying24 size5 A0 l0 c0 x hxl W
      obtain ⟨F0, hF0, own0, rows⟩ := HI.out.2.2.2.1
      have jl : F0.length = j := by
        have := congrArg List.length hF0
        rw [List.length_map, List.length_take] at this
        omega
      rw [jl] at own0
      obtain ⟨Av, cv, rfl, -, -⟩ := own_is own0
      have hbx : Bin wr A0 (O.getD j []) := by
        have := (HI.out.1.frmN HI.out.2.2.2.2).take x
        rwa [hfl, List.take_left' hx] at this
      have hnb : ¬ ((Value.slice Av j cv).ownBlock = some ad.block) := fun e => by
        obtain ⟨_, cs', hb⟩ := own_blk own0 e
        exact Blk.ne hbk hb (by decide) rfl
      have HX := Lib.hid (And.intro hbx (And.intro hx (And.intro hkc hnb)))
      have HO := Lib.hid (And.intro own0 (And.intro hF0 (And.intro rows (And.intro jl (And.intro hfl hl0)))))
      obtain ⟨i0, hi0, hz0, hz1, hz2⟩ := info_parts info24
      have j23 : j ≤ 23 := by omega
      clear hbx hkc hnb own0 hF0 rows jl hfl hl0 hcell hbk hgd hlen hab e2 e3 hx
      go_upto_region 6 with fail
      refine wp_region_N (S := fun w' => w'.cell? (ad.add j) = some (.int .i64 (x : Int))) 99 (by kernel_rfl) hk (fun hHeld => ?_)
      refine wpAnyN_take (i := 0) (v := ?rnv64r6_0) rfl (by kernel_rfl) (by kernel_rfl) (by kernel_rfl) (fun _ _ _ h => h) (by decide) (by kernel_rfl) (Or.inl ⟨by rfl, ?rny64r6_0⟩) (by assumption) ?rnr64r6_0
      case rny64r6_0 => (intro w hSw; (try dsimp only at hSw); go_simp; try with_reducible rfl)
      try simp only [Act.put, List.setIfInBounds_toArray, List.set_cons_zero, List.set_cons_succ, List.getElem_toArray, List.getElem_cons_zero, List.getElem_cons_succ]
      refine wpAnyN_take (i := 1) (v := ?rnv64r6_1) rfl (by kernel_rfl) (by kernel_rfl) (by kernel_rfl) (fun _ _ _ h => h) (by decide) (by kernel_rfl) (Or.inl ⟨by rfl, ?rny64r6_1⟩) (by assumption) ?rnr64r6_1
      case rny64r6_1 => (intro w hSw; (try dsimp only at hSw); go_simp; try with_reducible rfl)
      try simp only [Act.put, List.setIfInBounds_toArray, List.set_cons_zero, List.set_cons_succ, List.getElem_toArray, List.getElem_cons_zero, List.getElem_cons_succ]
      refine wpAnyN_take (i := 2) (v := ?rnv64r6_2) rfl (by kernel_rfl) (by kernel_rfl) (by kernel_rfl) (fun _ _ _ h => h) (by decide) (by kernel_rfl) (Or.inl ⟨by rfl, ?rny64r6_2⟩) (by assumption) ?rnr64r6_2
      case rny64r6_2 => (intro w hSw; (try dsimp only at hSw); go_simp; try with_reducible rfl)
      try simp only [Act.put, List.setIfInBounds_toArray, List.set_cons_zero, List.set_cons_succ, List.getElem_toArray, List.getElem_cons_zero, List.getElem_cons_succ]
      refine wpAnyN_take (i := 3) (v := ?rnv64r6_3) rfl (by kernel_rfl) (by kernel_rfl) (by kernel_rfl) (fun _ _ _ h => h) (by decide) (by kernel_rfl) (Or.inl ⟨by rfl, ?rny64r6_3⟩) (by assumption) ?rnr64r6_3
      case rny64r6_3 => (intro w hSw; (try dsimp only at hSw); go_simp; try with_reducible rfl)
      try simp only [Act.put, List.setIfInBounds_toArray, List.set_cons_zero, List.set_cons_succ, List.getElem_toArray, List.getElem_cons_zero, List.getElem_cons_succ]
      refine wpAnyN_take (i := 4) (v := ?rnv64r6_4) rfl (by kernel_rfl) (by kernel_rfl) (by kernel_rfl) (fun _ _ _ h => h) (by decide) (by kernel_rfl) (Or.inl ⟨by rfl, ?rny64r6_4⟩) (by assumption) ?rnr64r6_4
      case rny64r6_4 => (intro w hSw; (try dsimp only at hSw); go_simp; try with_reducible rfl)
      try simp only [Act.put, List.setIfInBounds_toArray, List.set_cons_zero, List.set_cons_succ, List.getElem_toArray, List.getElem_cons_zero, List.getElem_cons_succ]
      refine wpAnyN_take (i := 5) (v := ?rnv64r6_5) rfl (by kernel_rfl) (by kernel_rfl) (by kernel_rfl) (fun _ _ _ h => h) (by decide) (by kernel_rfl) (Or.inl ⟨by rfl, ?rny64r6_5⟩) (by assumption) ?rnr64r6_5
      case rny64r6_5 => (intro w hSw; (try dsimp only at hSw); go_simp; try with_reducible rfl)
      try simp only [Act.put, List.setIfInBounds_toArray, List.set_cons_zero, List.set_cons_succ, List.getElem_toArray, List.getElem_cons_zero, List.getElem_cons_succ]
      refine wpAnyN_take (i := 6) (v := ?rnv64r6_6) rfl (by kernel_rfl) (by kernel_rfl) (by kernel_rfl) (fun _ _ _ h => h) (by decide) (by kernel_rfl) (Or.inl ⟨by rfl, ?rny64r6_6⟩) (by assumption) ?rnr64r6_6
      case rny64r6_6 => (intro w hSw; (try dsimp only at hSw); go_simp; try with_reducible rfl)
      try simp only [Act.put, List.setIfInBounds_toArray, List.set_cons_zero, List.set_cons_succ, List.getElem_toArray, List.getElem_cons_zero, List.getElem_cons_succ]
      refine wpAnyN_take (i := 7) (v := ?rnv64r6_7) rfl (by kernel_rfl) (by kernel_rfl) (by kernel_rfl) (fun _ _ _ h => h) (by decide) (by kernel_rfl) (Or.inl ⟨by rfl, ?rny64r6_7⟩) (by assumption) ?rnr64r6_7
      case rny64r6_7 => (intro w hSw; (try dsimp only at hSw); go_simp; try with_reducible rfl)
      try simp only [Act.put, List.setIfInBounds_toArray, List.set_cons_zero, List.set_cons_succ, List.getElem_toArray, List.getElem_cons_zero, List.getElem_cons_succ]
      refine wpAnyN_take (i := 8) (v := ?rnv64r6_8) rfl (by kernel_rfl) (by kernel_rfl) (by kernel_rfl) (fun _ _ _ h => h) (by decide) (by kernel_rfl) (Or.inl ⟨by rfl, ?rny64r6_8⟩) (by assumption) ?rnr64r6_8
      case rny64r6_8 => (intro w hSw; (try dsimp only at hSw); go_simp; try with_reducible rfl)
      try simp only [Act.put, List.setIfInBounds_toArray, List.set_cons_zero, List.set_cons_succ, List.getElem_toArray, List.getElem_cons_zero, List.getElem_cons_succ]
      refine wpAnyN_take (i := 9) (v := ?rnv64r6_9) rfl (by kernel_rfl) (by kernel_rfl) (by kernel_rfl) (fun _ _ _ h => h) (by decide) (by kernel_rfl) (Or.inl ⟨by rfl, ?rny64r6_9⟩) (by assumption) ?rnr64r6_9
      case rny64r6_9 => (intro w hSw; (try dsimp only at hSw); go_simp; try with_reducible rfl)
      try simp only [Act.put, List.setIfInBounds_toArray, List.set_cons_zero, List.set_cons_succ, List.getElem_toArray, List.getElem_cons_zero, List.getElem_cons_succ]
      refine wpAnyN_take (i := 10) (v := ?rnv64r6_10) rfl (by kernel_rfl) (by kernel_rfl) (by kernel_rfl) (fun _ _ _ h => h) (by decide) (by kernel_rfl) (Or.inl ⟨by rfl, ?rny64r6_10⟩) (by assumption) ?rnr64r6_10
      case rny64r6_10 => (intro w hSw; (try dsimp only at hSw); go_simp; try with_reducible rfl)
      try simp only [Act.put, List.setIfInBounds_toArray, List.set_cons_zero, List.set_cons_succ, List.getElem_toArray, List.getElem_cons_zero, List.getElem_cons_succ]
      refine wpAnyN_one (i := 11) (by kernel_rfl) rfl (fun K hK => ?_)
      go_simp
      refine (cloneB _ A0 x x (O.getD j []) (HX.out.1.frmN (Frm.refl No _).drew) HX.out.2.1 (by omega)).mono ?_
      rintro e w3 ⟨v3, rfl, R3, F3⟩
      have F3' := (Frm.refl No wr).drew.thenN F3
      have e3 := HX.out.2.2.1 _ _ F3' (fun h => h)
      obtain ⟨A3, c3, rfl, -, -⟩ := R3.outn HX.out.2.1
      go_wp2_with fail
      refine hK.out _ _ (fun _ => ?_) (fun hHeld => ?_)
      · exact e3
      have hHeld := hHeld (by decide)
      clear hK K
      try simp only [Act.put, List.setIfInBounds_toArray, List.set_cons_zero, List.set_cons_succ, List.getElem_toArray, List.getElem_cons_zero, List.getElem_cons_succ]
      refine wpAnyN_one (i := 12) (by kernel_rfl) rfl (fun K hK => ?_)
      go_simp
      have own1 := World.ownsRow.alloc (own_frm HO.out.1 F3' (fun _ _ _ h => h)) (.cells #[.slice A3 x c3] 24)
      have hrd := one_rds w3 (.slice A3 x c3) 24
      have e4 := HX.out.2.2.1 _ _ (F3'.alloc (.cells #[.slice A3 x c3] 24)) (fun h => h)
      have hsz : w.heap.size ≤ (w3.alloc (.cells #[.slice A3 x c3] 24)).heap.size := ((HI.out.2.2.2.2.thenN F3').alloc _).size
      refine hK.out _ _ (fun _ => ?_) (fun hHeld => ?_)
      · exact e4
      have hHeld := hHeld (by decide)
      clear hK K
      try simp only [Act.put, List.setIfInBounds_toArray, List.set_cons_zero, List.set_cons_succ, List.getElem_toArray, List.getElem_cons_zero, List.getElem_cons_succ]
      refine wpAnyN_one (i := 13) (by kernel_rfl) rfl (fun K hK => ?_)
      refine step_append_rds _ (by rfl) _ _ 22 (by rfl) w.heap.size 24 i0 _ 1 24 Try.underlying22 hi0 hz0 hz1 hz2 rfl (by omega) (.slice Av j cv) j (F0.map Fl.val) (by rfl) own1 (some ⟨w3.heap.size, 0, none⟩) 1 1 [.slice A3 x c3] (by rfl) hrd (by simp [Value.oneCell']) (by unfold maxLen; omega) (by omega) hsz ?_
      intro v4 w4 own4 hg4
      have FA := (((Frm.refl (fun y => (Value.slice Av j cv).ownBlock = some y) wr).thenN F3').alloc (.cells #[.slice A3 x c3] 24)).grown hg4 (fun q e => .inl e)
      have FB := ((Frm.refl (fun y => (Value.slice Av j cv).ownBlock = some y) w3).alloc (.cells #[.slice A3 x c3] 24)).grown hg4 (fun q e => .inl e)
      have FG := own_grown own1 ((HI.out.2.2.2.2.thenN F3').alloc (.cells #[.slice A3 x c3] 24)) (Nat.le_refl _) hg4
      have e5 := HX.out.2.2.1 _ _ FA HX.out.2.2.2
      obtain ⟨A4, c4, rfl, -, -⟩ := own_is own4
      refine hK.out _ _ (fun _ => ?_) (fun hHeld => ?_)
      · exact e5
      have hHeld := hHeld (by decide)
      clear hK K
      try simp only [Act.put, List.setIfInBounds_toArray, List.set_cons_zero, List.set_cons_succ, List.getElem_toArray, List.getElem_cons_zero, List.getElem_cons_succ]
      refine wpAnyN_take (i := 14) (v := ?rnv64r6_14) rfl (by kernel_rfl) (by kernel_rfl) (by kernel_rfl) (fun _ _ _ h => h) (by decide) (by kernel_rfl) (Or.inl ⟨by rfl, ?rny64r6_14⟩) (by assumption) ?rnr64r6_14
      case rny64r6_14 => (intro w hSw; (try dsimp only at hSw); go_simp; try with_reducible rfl)
      try simp only [Act.put, List.setIfInBounds_toArray, List.set_cons_zero, List.set_cons_succ, List.getElem_toArray, List.getElem_cons_zero, List.getElem_cons_succ]
      refine wpAnyN_done (by kernel_rfl) ?_ _

      have nbr : ∀ y cs, Blk wr y cs 5 → ¬ ((Value.slice Av j cv).ownBlock = some y) := fun y cs hy e => by
        obtain ⟨_, cs', hb⟩ := own_blk HO.out.1 e
        exact Blk.ne hy hb (by decide) rfl
      have nb3 : ∀ y cs, Blk w3 y cs 5 → ¬ ((Value.slice Av j cv).ownBlock = some y) := fun y cs hy e => by
        obtain ⟨_, cs', hb⟩ := own_blk own1 e
        exact Blk.ne (hy.alloc (.cells #[.slice A3 x c3] 24)) hb (by decide) rfl
      have hrow : RowF w4 w.heap.size (.slice A4 (j + 1) c4) (O.take (j + 1)) := by
        refine ⟨F0 ++ [⟨A3, c3, O.getD j []⟩], ?_, ?_, fun f hf => ?_⟩
        · rw [List.map_append, HO.out.2.1, take_one [] jO]
          rfl
        · rw [List.length_append, HO.out.2.2.2.1, List.map_append]
          show w4.ownsRow _ 24 1 _ (j + 1) (F0.map Fl.val ++ [.slice A3 (O.getD j []).length c3])
          rw [HX.out.2.1]
          exact own4
        · rcases List.mem_append.1 hf with hf | hf
          · exact own_frm (HO.out.2.2.1 f hf) FA nbr
          · rw [List.mem_singleton] at hf
            subst hf
            show RowB w4 0 (.slice A3 (O.getD j []).length c3) (O.getD j [])
            rw [HX.out.2.1]
            exact own_frm (R3.lower (Nat.zero_le _)) FB nb3
      have hcut : Bin w (cutA A0 x 1 c0) (O.drop (j + 1)).flatten := by
        have := HI.out.1.cut (k := x) (cap := c0) (by rw [HI.out.2.1]; exact hxl) (by rw [HI.out.2.1]; exact hl9)
        rwa [HO.out.2.2.2.2.1, List.drop_left' HX.out.2.1] at this
      have HG := Lib.hid (show FI w w4 O (cutA A0 x 1 c0) (l0 - x) (c0 - x) (.slice A4 (j + 1) c4) (j + 1) ∧ j + 1 + 1 ≤ O.length from ⟨⟨hcut, by have := HO.out.2.2.2.2.2; omega, by omega, hrow, FG⟩, by have := H.out.2.2.2.2.1; omega⟩)
      clear own4 FG FB FA R3 hg4 F3 F3' e3 e4 e5 own1 hrd hsz nbr nb3 hrow hcut
      go_wp2_with fail
      try go_step3
      refine ⟨rfl, ⟨j + 1, cutA A0 x 1 c0, l0 - x, c0 - x, _, rfl, rfl, rfl, rfl, rfl, rfl, HG.out.1, HG.out.2⟩, ?_⟩
      show O.length - ((j : Int) + 1).toNat < O.length - ((j : Int)).toNat
      omega
    · have j1 : ¬ (j : Int) < (m : Int) := by omega
      have HJ := Lib.hid (show j = m by have := H.out.2.2.2.2.1; omega)
      have hlast : (O.drop j).flatten = O.getD j [] := by
        have hjl : j < O.length := by have := H.out.2.2.2.2.1; have := HJ.out; omega
        rw [List.drop_eq_getElem_cons hjl, List.drop_of_length_le (by have := H.out.2.2.2.2.1; have := HJ.out; omega), List.getD_eq_getElem?_getD, List.getElem?_eq_getElem hjl]
        simp
      have HL := Lib.hid hlast
      have hpos := H.out.2.2.2.2.2.1.2.2 (O.getD j []) (by rw [List.getD_eq_getElem?_getD, List.getElem?_eq_getElem (show j < O.length by have := H.out.2.2.2.2.1; have := HJ.out; omega)]; exact List.getElem_mem _)
      have hl0 := HI.out.2.1
      rw [hlast] at hl0
      rw [hl0] at hpos
      have lz : ((l0 : Int) == 0) = false := by rw [beq_eq_false_iff_ne]; omega
      have hb0 : Bin wr A0 (O.getD j []) := by have := HI.out.1.frmN HI.out.2.2.2.2; rw [hlast] at this; exact this
      have hcl := cloneB wr A0 l0 c0 (O.getD j []) hb0 hl0 (by have := H.out.2.2.2.2.2.1.2.2 (O.getD j []) (by rw [List.getD_eq_getElem?_getD, List.getElem?_eq_getElem (show j < O.length by have := H.out.2.2.2.2.1; have := HJ.out; omega)]; exact List.getElem_mem _); omega)
      have HQ := Lib.hid (And.intro hl0 hpos)
      have j23 : j ≤ 23 := by have := HJ.out; omega
      clear hlt hlast hl0 hb0 hpos
      go_wp2_with fail
      refine hcl.mono ?_
      rintro e w1 ⟨v1, rfl, R1, F1⟩
      obtain ⟨F0, hF0, own0, rows⟩ := HI.out.2.2.2.1.frmN F1
      have jl : F0.length = j := by
        have := congrArg List.length hF0
        rw [List.length_map, List.length_take] at this
        have := H.out.2.2.2.2.1
        omega
      rw [jl] at own0
      obtain ⟨A1, c1, rfl, -, -⟩ := R1.outn HQ.out.1
      obtain ⟨Av, cv, rfl, -, -⟩ := own_is own0
      have own1 := World.ownsRow.alloc own0 (.cells #[.slice A1 l0 c1] 24)
      have hrd := one_rds w1 (.slice A1 l0 c1) 24
      obtain ⟨i0, hi0, hz0, hz1, hz2⟩ := info_parts info24
      have F01 := (HI.out.2.2.2.2.thenN F1).alloc (.cells #[.slice A1 l0 c1] 24)
      have hsz : w.heap.size ≤ (w1.alloc (.cells #[.slice A1 l0 c1] 24)).heap.size := F01.size
      have H1 := Lib.hid (And.intro F01 (And.intro R1 (And.intro hF0 (And.intro rows jl))))
      clear F1 R1 hF0 rows F01 jl hcl own0
      go_wp2_with (at_builtin; go_must (refine wpList_append_rds _ rfl _ _ 22 rfl w.heap.size 24 i0 _ 1 24 Try.underlying22 hi0 hz0 hz1 hz2 rfl (by omega) (.slice Av j cv) j (F0.map Fl.val) rfl own1 (some ⟨w1.heap.size, 0, none⟩) 1 1 [.slice A1 l0 c1] rfl hrd (by simp [Value.oneCell']) (by unfold maxLen; omega) (by omega) hsz ?_; intro v2 w2 own2 hg2))
      have FG := own_grown own1 H1.out.1 (Nat.le_refl _) hg2
      have FA : Frm (fun y => (Value.slice Av j cv).ownBlock = some y) w1 w2 := ((Frm.refl (fun y => (Value.slice Av j cv).ownBlock = some y) w1).alloc _).grown hg2 (fun q e => .inl e)
      have nb : ∀ y cs, Blk w1 y cs 5 → ¬ ((Value.slice Av j cv).ownBlock = some y) := fun y cs hy e => by
        obtain ⟨_, cs', hb⟩ := own_blk own1 e
        exact Blk.ne (hy.alloc (.cells #[.slice A1 l0 c1] 24)) hb (by decide) rfl
      have hrow : RowF w2 w.heap.size v2 O := by
        refine ⟨F0 ++ [⟨A1, c1, O.getD j []⟩], ?_, ?_, fun f hf => ?_⟩
        · rw [List.map_append, H1.out.2.2.1]
          show O.take j ++ [O.getD j []] = O
          rw [← take_one [] (by have := H.out.2.2.2.2.1; have := HJ.out; omega), List.take_of_length_le (by have := H.out.2.2.2.2.1; have := HJ.out; omega)]
        · rw [List.length_append, H1.out.2.2.2.2, List.map_append]
          show w2.ownsRow _ 24 1 v2 (j + 1) (F0.map Fl.val ++ [.slice A1 (O.getD j []).length c1])
          rw [HQ.out.1]
          exact own2
        · rcases List.mem_append.1 hf with hf | hf
          · exact own_frm (H1.out.2.2.2.1 f hf) FA nb
          · rw [List.mem_singleton] at hf
            subst hf
            show RowB w2 0 (.slice A1 (O.getD j []).length c1) (O.getD j [])
            rw [HQ.out.1]
            exact own_frm (H1.out.2.1.lower (Nat.zero_le _)) FA nb
      have H2 := Lib.hid (And.intro hrow FG)
      clear hrow FG FA nb own2 own1 hg2 hrd hsz
      go_wp2_with fail
      try simp only [Exit.jump]
      first | go_ret2 | go_ret3
      exact ⟨_, rfl, H2.out.1, H2.out.2⟩
  · intro hpass
    go_wp2_with fail
    go_step3
    refine (by assumption : ∀ (a : Act) (w : World), Code.wp Try.prog _ _ a w → _) _ _ (hpass _ _ ?_)
    exact ⟨0, A, l, c, _, rfl, rfl, rfl, rfl, rfl, rfl, ⟨H.out.1, H.out.2.1, H.out.2.2.1, RowF.nil _ _, Frm.refl _ _⟩, by have := H.out.2.2.2.2.1; omega⟩
end Go.Proofs.Ytccaaldfccgncaa.A

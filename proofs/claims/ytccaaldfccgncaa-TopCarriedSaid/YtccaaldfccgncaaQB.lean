/- The queue: Front, Take, Push. -/
import Derived.Test.YtccaaldfccgncaaQ
import Derived.Deep.RegionLawGrows
namespace Go.Proofs.Ytccaaldfccgncaa.A
open Go.RowKit Go.Proofs.Ytccaaldfccgncaa.K
set_option linter.unusedVariables false
set_option linter.unusedSimpArgs false

theorem slice_hm {t e : TypeId} (ht : Try.prog.underlying t = some (.slice e)) {s : Nat} (hz : ∀ w, (Go.sizeOf e).run Try.prog w = .ok s w) (A : Option Addr) (n c k : Nat) (hk : k ≤ c) (w : World) :
    (Instr.slice t (.slice A n c) none (some (.int .i64 (k : Int))) (some (.int .i64 (k : Int)))).run Try.prog w = .ok (.slice A k k) w := by
  have he : Try.prog.elem t = e := by simp [Program.elem, ht]
  have ht' : Try.prog.underlying t = some (.slice (Try.prog.elem t)) := by rw [he]; exact ht
  rw [run_slice_hm w t A n c ht' .i64 .i64 (k : Int) (k : Int) (by omega) (by omega) (by omega), he, hz]
  have ea : A.map (·.add 0) = A := by cases A <;> simp [Addr.add]
  simp only [Result.andThen, sliced, Nat.zero_mul, Int.toNat_natCast, Nat.sub_zero, ea, ite_self]
set_option maxRecDepth 100000 in
set_option maxHeartbeats 2000000 in
theorem front_some (w : World) (g : Nat) (rm : Int) (t : Tx) (R : List Tx) (tk : Nat) (ls byt : Int) (h : IsQ w g rm (t :: R) tk ls byt) (h1 : 0 < rm) (hk : tk ≤ t.bs.length) (hm9 : R.length ≤ 1000) (hn9 : t.bs.length ≤ 10000) :
    Calls Try.prog 25 #[.pointer (some ⟨g, 0, none⟩)] w fun e w' => ∃ v, e = .returned (.tuple #[.int .u64 t.id, v, .bool (decide (0 < tk))]) ∧ RowB w' w.heap.size v (t.bs.drop tk) ∧ Frm No w w' := by
  have hmd := made_is w g rm (t :: R) tk ls byt h h1
  obtain ⟨v, hb, ho, ht⟩ := h
  obtain ⟨k, c, rfl, hc, x0, x1, cs, hbk⟩ := first_tx ho
  obtain ⟨A, cA, hv, hcA, hbin⟩ := (ht t (List.mem_cons_self ..)).out
  rw [hv] at x1
  obtain ⟨n, hnn⟩ : ∃ n, t.bs.length = n := ⟨_, rfl⟩
  have hcut := hbin.bin.cut hk hcA
  have hln : (t.bs.drop tk).length = n - tk := by rw [List.length_drop, hnn]
  rw [hnn] at hk x1 hn9 hcA
  have hsl := fun W => slice_l Try.underlying24 size5 A n cA tk hk W
  obtain ⟨A2, hA2⟩ : ∃ A2, cutA A tk 1 cA = A2 := ⟨_, rfl⟩
  rw [hA2] at hsl hcut
  obtain ⟨m, hmm⟩ : ∃ m, R.length + 1 = m := ⟨_, rfl⟩
  have m1 : (1 : Int) ≤ (m : Int) := by omega
  have m2 : (m : Int) ≤ 1001 := by omega
  have m0 : ¬ m = 0 := by omega
  have m3 : 0 < m := by omega
  have hcells : ∀ w', Frm No w w' → w'.cell? ⟨k, 0, none⟩ = some (.int .u64 t.id) ∧ w'.cell? ⟨k, 1, none⟩ = some (.slice A n cA) := fun w' f => by
    rw [← x0, ← x1]
    exact ⟨World.cell?_of_block (f.block _ hbk.lt (fun h => h)), World.cell?_of_block (f.block _ hbk.lt (fun h => h))⟩
  rw [hmm] at hb hc
  have hb0 := hb
  have c1 : w.cell? ⟨g, 1, none⟩ = some (.slice (some ⟨k, 0, none⟩) m c) := hb.cell 1
  have c2 : w.cell? ⟨g, 2, none⟩ = some (.int .i64 tk) := hb.cell 2
  have H := Lib.hid (And.intro hb (And.intro ho (And.intro hcells (And.intro hnn (And.intro hcut hln)))))
  clear hb hb0 ho ht hv hbin hbk hA2 hnn hmm hcut hcells hln
  go_enter Try.func25, Try.ntmps25
  go_wp2_with fail
  refine hmd.mono ?_
  rintro e w1 ⟨rfl, hwx⟩
  have hwx2 := hwx.symm
  clear hwx
  subst hwx2
  go_upto_region 3 with fail
  refine wp_region_N (S := fun w' => w'.cell? ⟨g, 1, none⟩ = some (.slice (some ⟨k, 0, none⟩) m c) ∧ w'.cell? ⟨g, 2, none⟩ = some (.int .i64 tk) ∧ w'.cell? ⟨k, 0, none⟩ = some (.int .u64 t.id) ∧ w'.cell? ⟨k, 1, none⟩ = some (.slice A n cA)) 99 (by kernel_rfl) ⟨c1, c2, x0, x1⟩ (fun hHeld => ?_)
  refine wpAnyN_take (i := 0) (v := ?rnv25r3_0) rfl (by kernel_rfl) (by kernel_rfl) (by kernel_rfl) (fun _ _ _ h => h) (by decide) (by kernel_rfl) (Or.inl ⟨by rfl, ?rny25r3_0⟩) (by assumption) ?rnr25r3_0
  case rny25r3_0 => (intro w hSw; (try dsimp only at hSw); go_simp; try with_reducible rfl)
  try simp only [Act.put, List.setIfInBounds_toArray, List.set_cons_zero, List.set_cons_succ, List.getElem_toArray, List.getElem_cons_zero, List.getElem_cons_succ]
  refine wpAnyN_take (i := 1) (v := ?rnv25r3_1) rfl (by kernel_rfl) (by kernel_rfl) (by kernel_rfl) (fun _ _ _ h => h) (by decide) (by kernel_rfl) (Or.inl ⟨by rfl, ?rny25r3_1⟩) (by assumption) ?rnr25r3_1
  case rny25r3_1 => (intro w hSw; (try dsimp only at hSw); go_simp; try with_reducible rfl)
  try simp only [Act.put, List.setIfInBounds_toArray, List.set_cons_zero, List.set_cons_succ, List.getElem_toArray, List.getElem_cons_zero, List.getElem_cons_succ]
  refine wpAnyN_take (i := 2) (v := ?rnv25r3_2) rfl (by kernel_rfl) (by kernel_rfl) (by kernel_rfl) (fun _ _ _ h => h) (by decide) (by kernel_rfl) (Or.inl ⟨by rfl, ?rny25r3_2⟩) (by assumption) ?rnr25r3_2
  case rny25r3_2 => (intro w hSw; (try dsimp only at hSw); go_simp; try with_reducible rfl)
  try simp only [Act.put, List.setIfInBounds_toArray, List.set_cons_zero, List.set_cons_succ, List.getElem_toArray, List.getElem_cons_zero, List.getElem_cons_succ]
  refine wpAnyN_take (i := 3) (v := ?rnv25r3_3) rfl (by kernel_rfl) (by kernel_rfl) (by kernel_rfl) (fun _ _ _ h => h) (by decide) (by kernel_rfl) (Or.inl ⟨by rfl, ?rny25r3_3⟩) (by assumption) ?rnr25r3_3
  case rny25r3_3 => (intro w hSw; (try dsimp only at hSw); go_simp; try with_reducible rfl)
  try simp only [Act.put, List.setIfInBounds_toArray, List.set_cons_zero, List.set_cons_succ, List.getElem_toArray, List.getElem_cons_zero, List.getElem_cons_succ]
  refine wpAnyN_take (i := 4) (v := ?rnv25r3_4) rfl (by kernel_rfl) (by kernel_rfl) (by kernel_rfl) (fun _ _ _ h => h) (by decide) (by kernel_rfl) (Or.inl ⟨by rfl, ?rny25r3_4⟩) (by assumption) ?rnr25r3_4
  case rny25r3_4 => (intro w hSw; (try dsimp only at hSw); go_simp; try with_reducible rfl)
  try simp only [Act.put, List.setIfInBounds_toArray, List.set_cons_zero, List.set_cons_succ, List.getElem_toArray, List.getElem_cons_zero, List.getElem_cons_succ]
  refine wpAnyN_take (i := 5) (v := ?rnv25r3_5) rfl (by kernel_rfl) (by kernel_rfl) (by kernel_rfl) (fun _ _ _ h => h) (by decide) (by kernel_rfl) (Or.inl ⟨by rfl, ?rny25r3_5⟩) (by assumption) ?rnr25r3_5
  case rny25r3_5 => (intro w hSw; (try dsimp only at hSw); go_simp; try with_reducible rfl)
  try simp only [Act.put, List.setIfInBounds_toArray, List.set_cons_zero, List.set_cons_succ, List.getElem_toArray, List.getElem_cons_zero, List.getElem_cons_succ]
  refine wpAnyN_take (i := 6) (v := ?rnv25r3_6) rfl (by kernel_rfl) (by kernel_rfl) (by kernel_rfl) (fun _ _ _ h => h) (by decide) (by kernel_rfl) (Or.inl ⟨by rfl, ?rny25r3_6⟩) (by assumption) ?rnr25r3_6
  case rny25r3_6 => (intro w hSw; (try dsimp only at hSw); go_simp; try with_reducible rfl)
  try simp only [Act.put, List.setIfInBounds_toArray, List.set_cons_zero, List.set_cons_succ, List.getElem_toArray, List.getElem_cons_zero, List.getElem_cons_succ]
  refine wpAnyN_take (i := 7) (v := ?rnv25r3_7) rfl (by kernel_rfl) (by kernel_rfl) (by kernel_rfl) (fun _ _ _ h => h) (by decide) (by kernel_rfl) (Or.inl ⟨by rfl, ?rny25r3_7⟩) (by assumption) ?rnr25r3_7
  case rny25r3_7 => (intro w hSw; (try dsimp only at hSw); go_simp; try with_reducible rfl)
  try simp only [Act.put, List.setIfInBounds_toArray, List.set_cons_zero, List.set_cons_succ, List.getElem_toArray, List.getElem_cons_zero, List.getElem_cons_succ]
  refine wpAnyN_take (i := 8) (v := ?rnv25r3_8) rfl (by kernel_rfl) (by kernel_rfl) (by kernel_rfl) (fun _ _ _ h => h) (by decide) (by kernel_rfl) (Or.inl ⟨by rfl, ?rny25r3_8⟩) (by assumption) ?rnr25r3_8
  case rny25r3_8 => (intro w hSw; (try dsimp only at hSw); go_simp; try with_reducible rfl)
  try simp only [Act.put, List.setIfInBounds_toArray, List.set_cons_zero, List.set_cons_succ, List.getElem_toArray, List.getElem_cons_zero, List.getElem_cons_succ]
  refine wpAnyN_take (i := 9) (v := ?rnv25r3_9) rfl (by kernel_rfl) (by kernel_rfl) (by kernel_rfl) (fun _ _ _ h => h) (by decide) (by kernel_rfl) (Or.inl ⟨by rfl, ?rny25r3_9⟩) (by assumption) ?rnr25r3_9
  case rny25r3_9 => (intro w hSw; (try dsimp only at hSw); go_simp; try with_reducible rfl)
  try simp only [Act.put, List.setIfInBounds_toArray, List.set_cons_zero, List.set_cons_succ, List.getElem_toArray, List.getElem_cons_zero, List.getElem_cons_succ]
  refine wpAnyN_take (i := 10) (v := ?rnv25r3_10) rfl (by kernel_rfl) (by kernel_rfl) (by kernel_rfl) (fun _ _ _ h => h) (by decide) (by kernel_rfl) (Or.inl ⟨by rfl, ?rny25r3_10⟩) (by assumption) ?rnr25r3_10
  case rny25r3_10 => (intro w hSw; (try dsimp only at hSw); go_simp; try with_reducible rfl)
  try simp only [Act.put, List.setIfInBounds_toArray, List.set_cons_zero, List.set_cons_succ, List.getElem_toArray, List.getElem_cons_zero, List.getElem_cons_succ]
  refine wpAnyN_take (i := 11) (v := ?rnv25r3_11) rfl (by kernel_rfl) (by kernel_rfl) (by kernel_rfl) (fun _ _ _ h => h) (by decide) (by kernel_rfl) (Or.inl ⟨by rfl, ?rny25r3_11⟩) (by assumption) ?rnr25r3_11
  case rny25r3_11 => (intro w hSw; (try dsimp only at hSw); go_simp; try with_reducible rfl)
  try simp only [Act.put, List.setIfInBounds_toArray, List.set_cons_zero, List.set_cons_succ, List.getElem_toArray, List.getElem_cons_zero, List.getElem_cons_succ]
  refine wpAnyN_take (i := 12) (v := ?rnv25r3_12) rfl (by kernel_rfl) (by kernel_rfl) (by kernel_rfl) (fun _ _ _ h => h) (by decide) (by kernel_rfl) (Or.inl ⟨by rfl, ?rny25r3_12⟩) (by assumption) ?rnr25r3_12
  case rny25r3_12 => (intro w hSw; (try dsimp only at hSw); go_simp; try with_reducible rfl)
  try simp only [Act.put, List.setIfInBounds_toArray, List.set_cons_zero, List.set_cons_succ, List.getElem_toArray, List.getElem_cons_zero, List.getElem_cons_succ]
  refine wpAnyN_take (i := 13) (v := ?rnv25r3_13) rfl (by kernel_rfl) (by kernel_rfl) (by kernel_rfl) (fun _ _ _ h => h) (by decide) (by kernel_rfl) (Or.inl ⟨by rfl, ?rny25r3_13⟩) (by assumption) ?rnr25r3_13
  case rny25r3_13 => (intro w hSw; (try dsimp only at hSw); go_simp; try with_reducible rfl)
  try simp only [Act.put, List.setIfInBounds_toArray, List.set_cons_zero, List.set_cons_succ, List.getElem_toArray, List.getElem_cons_zero, List.getElem_cons_succ]
  refine wpAnyN_take (i := 14) (v := ?rnv25r3_14) rfl (by kernel_rfl) (by kernel_rfl) (by kernel_rfl) (fun _ _ _ h => h) (by decide) (by kernel_rfl) (Or.inl ⟨by rfl, ?rny25r3_14⟩) (by assumption) ?rnr25r3_14
  case rny25r3_14 => (intro w hSw; (try dsimp only at hSw); go_simp; try with_reducible rfl)
  try simp only [Act.put, List.setIfInBounds_toArray, List.set_cons_zero, List.set_cons_succ, List.getElem_toArray, List.getElem_cons_zero, List.getElem_cons_succ]
  refine wpAnyN_take (i := 15) (v := ?rnv25r3_15) rfl (by kernel_rfl) (by kernel_rfl) (by kernel_rfl) (fun _ _ _ h => h) (by decide) (by kernel_rfl) (Or.inl ⟨by rfl, ?rny25r3_15⟩) (by assumption) ?rnr25r3_15
  case rny25r3_15 => (intro w hSw; (try dsimp only at hSw); go_simp; try with_reducible rfl)
  try simp only [Act.put, List.setIfInBounds_toArray, List.set_cons_zero, List.set_cons_succ, List.getElem_toArray, List.getElem_cons_zero, List.getElem_cons_succ]
  refine wpAnyN_take (i := 16) (v := ?rnv25r3_16) rfl (by kernel_rfl) (by kernel_rfl) (by kernel_rfl) (fun _ _ _ h => h) (by decide) (by kernel_rfl) (Or.inl ⟨by rfl, ?rny25r3_16⟩) (by assumption) ?rnr25r3_16
  case rny25r3_16 => (intro w hSw; (try dsimp only at hSw); go_simp; try with_reducible rfl)
  try simp only [Act.put, List.setIfInBounds_toArray, List.set_cons_zero, List.set_cons_succ, List.getElem_toArray, List.getElem_cons_zero, List.getElem_cons_succ]
  refine wpAnyN_take (i := 17) (v := ?rnv25r3_17) rfl (by kernel_rfl) (by kernel_rfl) (by kernel_rfl) (fun _ _ _ h => h) (by decide) (by kernel_rfl) (Or.inl ⟨by rfl, ?rny25r3_17⟩) (by assumption) ?rnr25r3_17
  case rny25r3_17 => (intro w hSw; (try dsimp only at hSw); go_simp; try with_reducible rfl)
  try simp only [Act.put, List.setIfInBounds_toArray, List.set_cons_zero, List.set_cons_succ, List.getElem_toArray, List.getElem_cons_zero, List.getElem_cons_succ]
  refine wpAnyN_take (i := 18) (v := ?rnv25r3_18) rfl (by kernel_rfl) (by kernel_rfl) (by kernel_rfl) (fun _ _ _ h => h) (by decide) (by kernel_rfl) (Or.inl ⟨by rfl, ?rny25r3_18⟩) (by assumption) ?rnr25r3_18
  case rny25r3_18 => (intro w hSw; (try dsimp only at hSw); go_simp; try with_reducible rfl)
  try simp only [Act.put, List.setIfInBounds_toArray, List.set_cons_zero, List.set_cons_succ, List.getElem_toArray, List.getElem_cons_zero, List.getElem_cons_succ]
  refine wpAnyN_take (i := 20) (v := ?rnv25r3_20) rfl (by kernel_rfl) (by kernel_rfl) (by kernel_rfl) (fun _ _ _ h => h) (by decide) (by kernel_rfl) (Or.inl ⟨by rfl, ?rny25r3_20⟩) (by assumption) ?rnr25r3_20
  case rny25r3_20 => (intro w hSw; (try dsimp only at hSw); go_simp; try with_reducible rfl)
  try simp only [Act.put, List.setIfInBounds_toArray, List.set_cons_zero, List.set_cons_succ, List.getElem_toArray, List.getElem_cons_zero, List.getElem_cons_succ]
  refine wpAnyN_take (i := 21) (v := ?rnv25r3_21) rfl (by kernel_rfl) (by kernel_rfl) (by kernel_rfl) (fun _ _ _ h => h) (by decide) (by kernel_rfl) (Or.inl ⟨by rfl, ?rny25r3_21⟩) (by assumption) ?rnr25r3_21
  case rny25r3_21 => (intro w hSw; (try dsimp only at hSw); go_simp; try with_reducible rfl)
  try simp only [Act.put, List.setIfInBounds_toArray, List.set_cons_zero, List.set_cons_succ, List.getElem_toArray, List.getElem_cons_zero, List.getElem_cons_succ]
  refine wpAnyN_take (i := 22) (v := ?rnv25r3_22) rfl (by kernel_rfl) (by kernel_rfl) (by kernel_rfl) (fun _ _ _ h => h) (by decide) (by kernel_rfl) (Or.inl ⟨by rfl, ?rny25r3_22⟩) (by assumption) ?rnr25r3_22
  case rny25r3_22 => (intro w hSw; (try dsimp only at hSw); go_simp; try with_reducible rfl)
  try simp only [Act.put, List.setIfInBounds_toArray, List.set_cons_zero, List.set_cons_succ, List.getElem_toArray, List.getElem_cons_zero, List.getElem_cons_succ]
  refine wpAnyN_take (i := 23) (v := ?rnv25r3_23) rfl (by kernel_rfl) (by kernel_rfl) (by kernel_rfl) (fun _ _ _ h => h) (by decide) (by kernel_rfl) (Or.inl ⟨by rfl, ?rny25r3_23⟩) (by assumption) ?rnr25r3_23
  case rny25r3_23 => (intro w hSw; (try dsimp only at hSw); go_simp; try with_reducible rfl)
  try simp only [Act.put, List.setIfInBounds_toArray, List.set_cons_zero, List.set_cons_succ, List.getElem_toArray, List.getElem_cons_zero, List.getElem_cons_succ]
  refine wpAnyN_take (i := 24) (v := ?rnv25r3_24) rfl (by kernel_rfl) (by kernel_rfl) (by kernel_rfl) (fun _ _ _ h => h) (by decide) (by kernel_rfl) (Or.inl ⟨by rfl, ?rny25r3_24⟩) (by assumption) ?rnr25r3_24
  case rny25r3_24 => (intro w hSw; (try dsimp only at hSw); go_simp; try with_reducible rfl)
  try simp only [Act.put, List.setIfInBounds_toArray, List.set_cons_zero, List.set_cons_succ, List.getElem_toArray, List.getElem_cons_zero, List.getElem_cons_succ]
  refine wpAnyN_one (i := 19) (by kernel_rfl) rfl (fun K hK => ?_)
  go_simp
  refine (cloneB _ A2 (n - tk) (cA - tk) (t.bs.drop tk) (H.out.2.2.2.2.1.frmN (Frm.refl No _).drew) H.out.2.2.2.2.2 (by omega)).mono ?_
  rintro e w1 ⟨v1, rfl, R1, F1⟩
  have F1' := (Frm.refl No w).drew.thenN F1
  have e1 := (F1'.blk H.out.1 (fun h => h)).cell 1
  have e2 := (F1'.blk H.out.1 (fun h => h)).cell 2
  have e3 := (own_frm H.out.2.1 F1' (fun _ _ _ h => h))
  have e4 := H.out.2.2.1 _ F1'
  go_wp2_with fail
  refine hK.out _ _ (fun _ => ?_) (fun hHeld => ?_)
  · exact ⟨e1, e2, e4⟩
  have hHeld := hHeld (by decide)
  clear hK K
  try simp only [Act.put, List.setIfInBounds_toArray, List.set_cons_zero, List.set_cons_succ, List.getElem_toArray, List.getElem_cons_zero, List.getElem_cons_succ]
  refine wpAnyN_take (i := 25) (v := ?rnv25r3_25) rfl (by kernel_rfl) (by kernel_rfl) (by kernel_rfl) (fun _ _ _ h => h) (by decide) (by kernel_rfl) (Or.inl ⟨by rfl, ?rny25r3_25⟩) (by assumption) ?rnr25r3_25
  case rny25r3_25 => (intro w hSw; (try dsimp only at hSw); go_simp; try with_reducible rfl)
  try simp only [Act.put, List.setIfInBounds_toArray, List.set_cons_zero, List.set_cons_succ, List.getElem_toArray, List.getElem_cons_zero, List.getElem_cons_succ]
  refine wpAnyN_take (i := 26) (v := ?rnv25r3_26) rfl (by kernel_rfl) (by kernel_rfl) (by kernel_rfl) (fun _ _ _ h => h) (by decide) (by kernel_rfl) (Or.inl ⟨by rfl, ?rny25r3_26⟩) (by assumption) ?rnr25r3_26
  case rny25r3_26 => (intro w hSw; (try dsimp only at hSw); go_simp; try with_reducible rfl)
  try simp only [Act.put, List.setIfInBounds_toArray, List.set_cons_zero, List.set_cons_succ, List.getElem_toArray, List.getElem_cons_zero, List.getElem_cons_succ]
  refine wpAnyN_take (i := 27) (v := ?rnv25r3_27) rfl (by kernel_rfl) (by kernel_rfl) (by kernel_rfl) (fun _ _ _ h => h) (by decide) (by kernel_rfl) (Or.inl ⟨by rfl, ?rny25r3_27⟩) (by assumption) ?rnr25r3_27
  case rny25r3_27 => (intro w hSw; (try dsimp only at hSw); go_simp; try with_reducible rfl)
  try simp only [Act.put, List.setIfInBounds_toArray, List.set_cons_zero, List.set_cons_succ, List.getElem_toArray, List.getElem_cons_zero, List.getElem_cons_succ]
  refine wpAnyN_done (by kernel_rfl) ?_ _
  go_wp2_with fail
  go_ret3
  exact ⟨v1, rfl, R1, F1'⟩
theorem tx_cells (ls : Int) (A : Option Addr) (c n : Nat) (bs : List Nat) (h : bs.length = n) : [Value.int .u64 ls, .slice A n c] = Tx.cells ⟨ls, A, c, bs⟩ := by subst h; rfl
set_option maxRecDepth 100000 in
set_option maxHeartbeats 4000000 in
theorem push_ok (w : World) (g : Nat) (rm : Int) (T : List Tx) (tk : Nat) (ls byt : Int) (A : Option Addr) (n c : Nat) (bs : List Nat) (h : IsQ w g rm T tk ls byt) (h1 : 0 < rm) (hbn : Bin w A bs) (hn : bs.length = n) (hne : ∀ ad, A = some ad → ad.block ≠ g)
    (n1 : 1 ≤ n) (n2 : n ≤ 1000) (hT : T.length < 64) (hr : (n : Int) ≤ rm - byt) (l0 : 0 ≤ ls) (l1 : ls ≤ 1000000000) (b0 : 0 ≤ byt) (b1 : byt ≤ 20000) (h2 : rm ≤ 20000) :
    Calls Try.prog 8 #[.pointer (some ⟨g, 0, none⟩), .slice A n c] w fun e w' => e = .returned (.tuple #[.int .u64 (ls + 1), .int .i64 0]) ∧ (∃ A' c', IsQ w' g rm (T ++ [⟨ls + 1, A', c', bs⟩]) tk (ls + 1) (byt + n)) ∧ Frm (fun x => x = g) w w' := by
  have hmd := made_is w g rm T tk ls byt h h1
  obtain ⟨v, hb, ho, ht⟩ := h
  obtain ⟨A1, c1, rfl, hc1, hrd⟩ := own_is ho
  have holds : ∀ w', Frm (fun x => x = g) w w' → ∀ b, A1 = some b → ∀ j u, (T.flatMap Tx.cells)[j]? = some u → w'.cell? (b.add j) = some u := fun w' f b e j u hu => by
    subst e
    have : w'.ownsRow 0 70 2 (.slice (some b) T.length c1) T.length (T.flatMap Tx.cells) := own_frm ho f (fun x cs hx e => by subst e; exact Blk.ne hx hb (by decide) rfl)
    obtain ⟨h3, h4⟩ := Rds.of_own this
    rcases Nat.eq_zero_or_pos T.length with h0 | h0
    · have : T = [] := List.eq_nil_of_length_eq_zero h0
      subst this
      cases hu
    · obtain ⟨ad, e, _, hcc⟩ := h4 h0
      injection e with e
      subst e
      exact hcc j u hu
  have hnone : A1 = none → T.length = 0 ∧ T.length = 0 := fun e => by
    subst e
    rcases Nat.eq_zero_or_pos T.length with h0 | h0
    · exact ⟨h0, h0⟩
    · obtain ⟨ad, e, _⟩ := hrd.2 h0
      cases e
  obtain ⟨m, hmm⟩ : ∃ m, T.length = m := ⟨_, rfl⟩
  rw [hmm] at hb ho hc1 hT hnone
  have hsl := fun W => slice_hm Try.underlying62 size70 A1 m c1 m hc1 W
  obtain ⟨i0, hi, hz0, hz1, hz2⟩ := info_parts info70
  have k0 : w.cell? ⟨g, 0, none⟩ = some (.int .i64 rm) := hb.cell 0
  have k1 : w.cell? ⟨g, 1, none⟩ = some (.slice A1 m c1) := hb.cell 1
  have k3 : w.cell? ⟨g, 3, none⟩ = some (.int .u64 ls) := hb.cell 3
  have k4 : w.cell? ⟨g, 4, none⟩ = some (.int .i64 byt) := hb.cell 4
  have z3 : w.frozen? ⟨g, 3, none⟩ = false := hb.free 3
  have hgl := hb.lt
  have m1 : ¬ (64 : Int) ≤ (m : Int) := by omega
  have n3 : (1 : Int) ≤ (n : Int) := by omega
  have n4 : (n : Int) ≤ 1000 := by omega
  have n5 : ¬ rm - byt < (n : Int) := by omega
  have n6 : ¬ n = 0 := by omega
  have pw1 : IntKind.i64.wrap (rm - byt) = rm - byt := IntWalk.i64_in _ ⟨by omega, by omega⟩
  have pw2 : IntKind.u64.wrap (ls + 1) = ls + 1 := IntWalk.u64_in _ ⟨by omega, by omega⟩
  have pw3 : IntKind.i64.wrap (byt + n) = byt + n := IntWalk.i64_in _ ⟨by omega, by omega⟩
  have HB0 := Lib.hid hbn
  have H := Lib.hid (And.intro hb (And.intro ho (And.intro ht (And.intro hnone (And.intro hmm (And.intro holds hn))))))
  have HN := Lib.hid hne
  clear hb ho ht hrd hmm holds hnone hne hbn hn
  go_enter Try.func8, Try.ntmps8
  go_wp2_with fail
  refine hmd.mono ?_
  rintro e w1 ⟨rfl, hwx⟩
  have hwx2 := hwx.symm
  clear hwx
  subst hwx2
  go_wp2_with fail
  go_quiet (fail)
  go_upto_region 10 with fail
  obtain ⟨w2, hw2⟩ : ∃ w2, (w.drewN nq).setCell ⟨g, 3, none⟩ (.int .u64 (ls + 1)) = w2 := ⟨_, rfl⟩
  have F2 : Frm (fun x => x = g) w w2 := by rw [← hw2]; exact ((Frm.refl (fun x => x = g) w).drewN nq).self 3 _
  have B2 : Blk w2 g #[.int .i64 rm, .slice A1 m c1, .int .i64 tk, .int .u64 (ls + 1), .int .i64 byt] 64 := by rw [← hw2]; exact (H.out.1.drewN nq).set 3 _
  have H2 := Lib.hid (And.intro B2 F2)
  have HB : RowKit.Hid (Bin w2 A bs) := HB0.out.frm F2 (fun ad e _ => HN.out ad e)
  rw [hw2]
  have y1 : w2.cell? ⟨g, 1, none⟩ = some (.slice A1 m c1) := B2.cell 1
  have y3 : w2.cell? ⟨g, 3, none⟩ = some (.int .u64 (ls + 1)) := B2.cell 3
  clear hw2 B2 F2 k0 k1 k3 k4 z3 hgl
  refine wp_region_N (S := fun w' => w'.cell? ⟨g, 1, none⟩ = some (.slice A1 m c1) ∧ w'.cell? ⟨g, 3, none⟩ = some (.int .u64 (ls + 1))) 27 (by kernel_rfl) ⟨y1, y3⟩ (fun hHeld => ?_)
  refine wpAnyN_take (i := 0) (v := ?rnv8r10_0) rfl (by kernel_rfl) (by kernel_rfl) (by kernel_rfl) (fun _ _ _ h => h) (by decide) (by kernel_rfl) (Or.inl ⟨by rfl, ?rny8r10_0⟩) (by assumption) ?rnr8r10_0
  case rny8r10_0 => (intro w hSw; (try dsimp only at hSw); go_simp; try with_reducible rfl)
  try simp only [Act.put, List.setIfInBounds_toArray, List.set_cons_zero, List.set_cons_succ, List.getElem_toArray, List.getElem_cons_zero, List.getElem_cons_succ]
  refine wpAnyN_take (i := 1) (v := ?rnv8r10_1) rfl (by kernel_rfl) (by kernel_rfl) (by kernel_rfl) (fun _ _ _ h => h) (by decide) (by kernel_rfl) (Or.inl ⟨by rfl, ?rny8r10_1⟩) (by assumption) ?rnr8r10_1
  case rny8r10_1 => (intro w hSw; (try dsimp only at hSw); go_simp; try with_reducible rfl)
  try simp only [Act.put, List.setIfInBounds_toArray, List.set_cons_zero, List.set_cons_succ, List.getElem_toArray, List.getElem_cons_zero, List.getElem_cons_succ]
  refine wpAnyN_take (i := 2) (v := ?rnv8r10_2) rfl (by kernel_rfl) (by kernel_rfl) (by kernel_rfl) (fun _ _ _ h => h) (by decide) (by kernel_rfl) (Or.inl ⟨by rfl, ?rny8r10_2⟩) (by assumption) ?rnr8r10_2
  case rny8r10_2 => (intro w hSw; (try dsimp only at hSw); go_simp; try with_reducible rfl)
  try simp only [Act.put, List.setIfInBounds_toArray, List.set_cons_zero, List.set_cons_succ, List.getElem_toArray, List.getElem_cons_zero, List.getElem_cons_succ]
  refine wpAnyN_take (i := 3) (v := ?rnv8r10_3) rfl (by kernel_rfl) (by kernel_rfl) (by kernel_rfl) (fun _ _ _ h => h) (by decide) (by kernel_rfl) (Or.inl ⟨by rfl, ?rny8r10_3⟩) (by assumption) ?rnr8r10_3
  case rny8r10_3 => (intro w hSw; (try dsimp only at hSw); go_simp; try with_reducible rfl)
  try simp only [Act.put, List.setIfInBounds_toArray, List.set_cons_zero, List.set_cons_succ, List.getElem_toArray, List.getElem_cons_zero, List.getElem_cons_succ]
  refine wpAnyN_take (i := 4) (v := ?rnv8r10_4) rfl (by kernel_rfl) (by kernel_rfl) (by kernel_rfl) (fun _ _ _ h => h) (by decide) (by kernel_rfl) (Or.inl ⟨by rfl, ?rny8r10_4⟩) (by assumption) ?rnr8r10_4
  case rny8r10_4 => (intro w hSw; (try dsimp only at hSw); go_simp; try with_reducible rfl)
  try simp only [Act.put, List.setIfInBounds_toArray, List.set_cons_zero, List.set_cons_succ, List.getElem_toArray, List.getElem_cons_zero, List.getElem_cons_succ]
  refine wpAnyN_take (i := 5) (v := ?rnv8r10_5) rfl (by kernel_rfl) (by kernel_rfl) (by kernel_rfl) (fun _ _ _ h => h) (by decide) (by kernel_rfl) (Or.inl ⟨by rfl, ?rny8r10_5⟩) (by assumption) ?rnr8r10_5
  case rny8r10_5 => (intro w hSw; (try dsimp only at hSw); go_simp; try with_reducible rfl)
  try simp only [Act.put, List.setIfInBounds_toArray, List.set_cons_zero, List.set_cons_succ, List.getElem_toArray, List.getElem_cons_zero, List.getElem_cons_succ]
  refine wpAnyN_take (i := 6) (v := ?rnv8r10_6) rfl (by kernel_rfl) (by kernel_rfl) (by kernel_rfl) (fun _ _ _ h => h) (by decide) (by kernel_rfl) (Or.inl ⟨by rfl, ?rny8r10_6⟩) (by assumption) ?rnr8r10_6
  case rny8r10_6 => (intro w hSw; (try dsimp only at hSw); go_simp; try with_reducible rfl)
  try simp only [Act.put, List.setIfInBounds_toArray, List.set_cons_zero, List.set_cons_succ, List.getElem_toArray, List.getElem_cons_zero, List.getElem_cons_succ]
  refine wpAnyN_take (i := 7) (v := ?rnv8r10_7) rfl (by kernel_rfl) (by kernel_rfl) (by kernel_rfl) (fun _ _ _ h => h) (by decide) (by kernel_rfl) (Or.inl ⟨by rfl, ?rny8r10_7⟩) (by assumption) ?rnr8r10_7
  case rny8r10_7 => (intro w hSw; (try dsimp only at hSw); go_simp; try with_reducible rfl)
  try simp only [Act.put, List.setIfInBounds_toArray, List.set_cons_zero, List.set_cons_succ, List.getElem_toArray, List.getElem_cons_zero, List.getElem_cons_succ]
  refine wpAnyN_take (i := 8) (v := ?rnv8r10_8) rfl (by kernel_rfl) (by kernel_rfl) (by kernel_rfl) (fun _ _ _ h => h) (by decide) (by kernel_rfl) (Or.inl ⟨by rfl, ?rny8r10_8⟩) (by assumption) ?rnr8r10_8
  case rny8r10_8 => (intro w hSw; (try dsimp only at hSw); go_simp; try with_reducible rfl)
  try simp only [Act.put, List.setIfInBounds_toArray, List.set_cons_zero, List.set_cons_succ, List.getElem_toArray, List.getElem_cons_zero, List.getElem_cons_succ]
  refine wpAnyN_take (i := 9) (v := ?rnv8r10_9) rfl (by kernel_rfl) (by kernel_rfl) (by kernel_rfl) (fun _ _ _ h => h) (by decide) (by kernel_rfl) (Or.inl ⟨by rfl, ?rny8r10_9⟩) (by assumption) ?rnr8r10_9
  case rny8r10_9 => (intro w hSw; (try dsimp only at hSw); go_simp; try with_reducible rfl)
  try simp only [Act.put, List.setIfInBounds_toArray, List.set_cons_zero, List.set_cons_succ, List.getElem_toArray, List.getElem_cons_zero, List.getElem_cons_succ]
  refine wpAnyN_take (i := 10) (v := ?rnv8r10_10) rfl (by kernel_rfl) (by kernel_rfl) (by kernel_rfl) (fun _ _ _ h => h) (by decide) (by kernel_rfl) (Or.inl ⟨by rfl, ?rny8r10_10⟩) (by assumption) ?rnr8r10_10
  case rny8r10_10 => (intro w hSw; (try dsimp only at hSw); go_simp; try with_reducible rfl)
  try simp only [Act.put, List.setIfInBounds_toArray, List.set_cons_zero, List.set_cons_succ, List.getElem_toArray, List.getElem_cons_zero, List.getElem_cons_succ]
  refine wpAnyN_take (i := 11) (v := ?rnv8r10_11) rfl (by kernel_rfl) (by kernel_rfl) (by kernel_rfl) (fun _ _ _ h => h) (by decide) (by kernel_rfl) (Or.inl ⟨by rfl, ?rny8r10_11⟩) (by assumption) ?rnr8r10_11
  case rny8r10_11 => (intro w hSw; (try dsimp only at hSw); go_simp; try with_reducible rfl)
  try simp only [Act.put, List.setIfInBounds_toArray, List.set_cons_zero, List.set_cons_succ, List.getElem_toArray, List.getElem_cons_zero, List.getElem_cons_succ]
  refine wpAnyN_take (i := 12) (v := ?rnv8r10_12) rfl (by kernel_rfl) (by kernel_rfl) (by kernel_rfl) (fun _ _ _ h => h) (by decide) (by kernel_rfl) (Or.inl ⟨by rfl, ?rny8r10_12⟩) (by assumption) ?rnr8r10_12
  case rny8r10_12 => (intro w hSw; (try dsimp only at hSw); go_simp; try with_reducible rfl)
  try simp only [Act.put, List.setIfInBounds_toArray, List.set_cons_zero, List.set_cons_succ, List.getElem_toArray, List.getElem_cons_zero, List.getElem_cons_succ]
  refine wpAnyN_take (i := 13) (v := ?rnv8r10_13) rfl (by kernel_rfl) (by kernel_rfl) (by kernel_rfl) (fun _ _ _ h => h) (by decide) (by kernel_rfl) (Or.inl ⟨by rfl, ?rny8r10_13⟩) (by assumption) ?rnr8r10_13
  case rny8r10_13 => (intro w hSw; (try dsimp only at hSw); go_simp; try with_reducible rfl)
  try simp only [Act.put, List.setIfInBounds_toArray, List.set_cons_zero, List.set_cons_succ, List.getElem_toArray, List.getElem_cons_zero, List.getElem_cons_succ]
  refine wpAnyN_take (i := 14) (v := ?rnv8r10_14) rfl (by kernel_rfl) (by kernel_rfl) (by kernel_rfl) (fun _ _ _ h => h) (by decide) (by kernel_rfl) (Or.inl ⟨by rfl, ?rny8r10_14⟩) (by assumption) ?rnr8r10_14
  case rny8r10_14 => (intro w hSw; (try dsimp only at hSw); go_simp; try with_reducible rfl)
  try simp only [Act.put, List.setIfInBounds_toArray, List.set_cons_zero, List.set_cons_succ, List.getElem_toArray, List.getElem_cons_zero, List.getElem_cons_succ]
  refine wpAnyN_take (i := 15) (v := ?rnv8r10_15) rfl (by kernel_rfl) (by kernel_rfl) (by kernel_rfl) (fun _ _ _ h => h) (by decide) (by kernel_rfl) (Or.inl ⟨by rfl, ?rny8r10_15⟩) (by assumption) ?rnr8r10_15
  case rny8r10_15 => (intro w hSw; (try dsimp only at hSw); go_simp; try with_reducible rfl)
  try simp only [Act.put, List.setIfInBounds_toArray, List.set_cons_zero, List.set_cons_succ, List.getElem_toArray, List.getElem_cons_zero, List.getElem_cons_succ]
  refine wpAnyN_take (i := 16) (v := ?rnv8r10_16) rfl (by kernel_rfl) (by kernel_rfl) (by kernel_rfl) (fun _ _ _ h => h) (by decide) (by kernel_rfl) (Or.inl ⟨by rfl, ?rny8r10_16⟩) (by assumption) ?rnr8r10_16
  case rny8r10_16 => (intro w hSw; (try dsimp only at hSw); go_simp; try with_reducible rfl)
  try simp only [Act.put, List.setIfInBounds_toArray, List.set_cons_zero, List.set_cons_succ, List.getElem_toArray, List.getElem_cons_zero, List.getElem_cons_succ]
  refine wpAnyN_take (i := 17) (v := ?rnv8r10_17) rfl (by kernel_rfl) (by kernel_rfl) (by kernel_rfl) (fun _ _ _ h => h) (by decide) (by kernel_rfl) (Or.inl ⟨by rfl, ?rny8r10_17⟩) (by assumption) ?rnr8r10_17
  case rny8r10_17 => (intro w hSw; (try dsimp only at hSw); go_simp; try with_reducible rfl)
  try simp only [Act.put, List.setIfInBounds_toArray, List.set_cons_zero, List.set_cons_succ, List.getElem_toArray, List.getElem_cons_zero, List.getElem_cons_succ]
  refine wpAnyN_take (i := 18) (v := ?rnv8r10_18) rfl (by kernel_rfl) (by kernel_rfl) (by kernel_rfl) (fun _ _ _ h => h) (by decide) (by kernel_rfl) (Or.inl ⟨by rfl, ?rny8r10_18⟩) (by assumption) ?rnr8r10_18
  case rny8r10_18 => (intro w hSw; (try dsimp only at hSw); go_simp; try with_reducible rfl)
  try simp only [Act.put, List.setIfInBounds_toArray, List.set_cons_zero, List.set_cons_succ, List.getElem_toArray, List.getElem_cons_zero, List.getElem_cons_succ]
  refine wpAnyN_take (i := 19) (v := ?rnv8r10_19) rfl (by kernel_rfl) (by kernel_rfl) (by kernel_rfl) (fun _ _ _ h => h) (by decide) (by kernel_rfl) (Or.inl ⟨by rfl, ?rny8r10_19⟩) (by assumption) ?rnr8r10_19
  case rny8r10_19 => (intro w hSw; (try dsimp only at hSw); go_simp; try with_reducible rfl)
  try simp only [Act.put, List.setIfInBounds_toArray, List.set_cons_zero, List.set_cons_succ, List.getElem_toArray, List.getElem_cons_zero, List.getElem_cons_succ]
  refine wpAnyN_take (i := 20) (v := ?rnv8r10_20) rfl (by kernel_rfl) (by kernel_rfl) (by kernel_rfl) (fun _ _ _ h => h) (by decide) (by kernel_rfl) (Or.inl ⟨by rfl, ?rny8r10_20⟩) (by assumption) ?rnr8r10_20
  case rny8r10_20 => (intro w hSw; (try dsimp only at hSw); go_simp; try with_reducible rfl)
  try simp only [Act.put, List.setIfInBounds_toArray, List.set_cons_zero, List.set_cons_succ, List.getElem_toArray, List.getElem_cons_zero, List.getElem_cons_succ]
  refine wpAnyN_one (i := 21) (by kernel_rfl) rfl (fun K hK => ?_)
  go_simp
  refine (cloneB _ A n c bs (HB.out.frmN (Frm.refl No _).drew) H.out.2.2.2.2.2.2 (by omega)).mono ?_
  rintro e w3 ⟨v3, rfl, R3, F3⟩
  have F3' := (Frm.refl No w2).drew.thenN F3
  have hb3 := F3'.blk H2.out.1 (fun h => h)
  have e1 : w3.cell? ⟨g, 1, none⟩ = some (.slice A1 m c1) := hb3.cell 1
  have e2 : w3.cell? ⟨g, 3, none⟩ = some (.int .u64 (ls + 1)) := hb3.cell 3
  obtain ⟨A3, c3, rfl, hc3, -⟩ := R3.out
  rw [H.out.2.2.2.2.2.2]
  have hgl3 := hb3.lt
  go_wp2_with fail
  refine hK.out _ _ (fun _ => ?_) (fun hHeld => ?_)
  · exact ⟨e1, e2⟩
  have hHeld := hHeld (by decide)
  clear hK K
  try simp only [Act.put, List.setIfInBounds_toArray, List.set_cons_zero, List.set_cons_succ, List.getElem_toArray, List.getElem_cons_zero, List.getElem_cons_succ]
  refine wpAnyN_take (i := 22) (v := ?rnv8r10_22) rfl (by kernel_rfl) (by kernel_rfl) (by kernel_rfl) (fun _ _ _ h => h) (by decide) (by kernel_rfl) (Or.inl ⟨by rfl, ?rny8r10_22⟩) (by assumption) ?rnr8r10_22
  case rny8r10_22 => (intro w hSw; (try dsimp only at hSw); go_simp; try with_reducible rfl)
  try simp only [Act.put, List.setIfInBounds_toArray, List.set_cons_zero, List.set_cons_succ, List.getElem_toArray, List.getElem_cons_zero, List.getElem_cons_succ]
  refine wpAnyN_one (i := 23) (by kernel_rfl) rfl (fun K hK => ?_)
  go_simp
  have F4 := F3'.alloc (.cells #[.int .u64 (ls + 1), .slice A3 n c3] 70)
  refine hK.out _ _ (fun _ => ?_) (fun hHeld => ?_)
  · exact ⟨(hb3.alloc _).cell 1, (hb3.alloc _).cell 3⟩
  have hHeld := hHeld (by decide)
  clear hK K
  try simp only [Act.put, List.setIfInBounds_toArray, List.set_cons_zero, List.set_cons_succ, List.getElem_toArray, List.getElem_cons_zero, List.getElem_cons_succ]
  refine wpAnyN_one (i := 24) (by kernel_rfl) rfl (fun K hK => ?_)
  refine step_append_grows (by rfl) _ _ 62 (by rfl) 70 i0 _ 2 32 Try.underlying62 hi hz0 hz1 hz2 zero70 (by omega) A1 m m (T.flatMap Tx.cells) (by rfl) H.out.2.2.2.1 (by rw [tx_len, H.out.2.2.2.2.1]) (H.out.2.2.2.2.2.1 _ (by exact H2.out.2.thenN F4)) ⟨w3.heap.size, 0, none⟩ 1 1 [.int .u64 (ls + 1), .slice A3 n c3] (by rfl) (by rfl) (World.news_of_block (cs := #[.int .u64 (ls + 1), .slice A3 n c3]) (t := 70) (fr := (0, 0)) (heap_alloc_new w3 _)) (by simp [Value.oneCell']) (by omega) (by unfold maxLen; omega) (by omega) ?_
  intro v4 w4 own4 hg4
  have G4 := ((Frm.refl No w3).alloc (.cells #[.int .u64 (ls + 1), .slice A3 n c3] 70)).grown (w' := w4) (by exact hg4) (fun q e => by cases e)
  have F5 := F3'.thenN G4
  have hb5 := F5.blk H2.out.1 (fun h => h)
  have k5 : w4.cell? ⟨g, 1, none⟩ = some (.slice A1 m c1) := hb5.cell 1
  have k3 : w4.cell? ⟨g, 3, none⟩ = some (.int .u64 (ls + 1)) := hb5.cell 3
  have k4 : w4.cell? ⟨g, 4, none⟩ = some (.int .i64 byt) := hb5.cell 4
  have z5 : w4.frozen? ⟨g, 1, none⟩ = false := hb5.free 1
  have z4 : w4.frozen? ⟨g, 4, none⟩ = false := hb5.free 4
  have hgl4 := hb5.lt
  obtain ⟨A4, c4, rfl, hc4, -⟩ := own_is own4
  refine hK.out _ _ (fun _ => ?_) (fun hHeld => ?_)
  · exact ⟨k5, k3⟩
  have hHeld := hHeld (by decide)
  clear hK K
  try simp only [Act.put, List.setIfInBounds_toArray, List.set_cons_zero, List.set_cons_succ, List.getElem_toArray, List.getElem_cons_zero, List.getElem_cons_succ]
  have hHeldO := hHeld
  refine wpAnyN_one (i := 25) (by kernel_rfl) rfl (fun K hK => ?_)
  go_simp
  refine hK.out _ _ (fun _ => hHeldO) (fun hHeld => ?_)
  have hHeld := hHeld (by decide)
  clear hK K hHeldO
  try simp only [Act.put, List.setIfInBounds_toArray, List.set_cons_zero, List.set_cons_succ, List.getElem_toArray, List.getElem_cons_zero, List.getElem_cons_succ]
  refine wpAnyN_take (i := 26) (v := ?rnv8r10_26) rfl (by kernel_rfl) (by kernel_rfl) (by kernel_rfl) (fun _ _ _ h => h) (by decide) (by kernel_rfl) (Or.inl ⟨by rfl, ?rny8r10_26⟩) (by assumption) ?rnr8r10_26
  case rny8r10_26 => (intro w hSw; (try dsimp only at hSw); go_simp; try with_reducible rfl)
  try simp only [Act.put, List.setIfInBounds_toArray, List.set_cons_zero, List.set_cons_succ, List.getElem_toArray, List.getElem_cons_zero, List.getElem_cons_succ]
  refine wpAnyN_one (i := 27) (by kernel_rfl) rfl (fun K hK => ?_)
  go_simp
  refine hK.out _ _ (fun h => absurd rfl h) (fun _ => ?_)
  clear hK K
  try simp only [Act.put, List.setIfInBounds_toArray, List.set_cons_zero, List.set_cons_succ, List.getElem_toArray, List.getElem_cons_zero, List.getElem_cons_succ]
  refine wpAnyN_done (by kernel_rfl) ?_ _
  go_wp2_with fail
  go_ret2
  have FS : Frm (fun x => x = g) w4 ((w4.setCell ⟨g, 1, none⟩ (.slice A4 (m + 1) c4)).setCell ⟨g, 4, none⟩ (.int .i64 (byt + n))) := ((Frm.refl (fun x => x = g) w4).self 1 _).self 4 _
  have FA := (H2.out.2.thenN F5).thenG FS (.inl rfl)
  have x70 : ∀ x cs, Blk w x cs 70 → ¬ (x = g) := fun x cs hx e => by subst e; exact Blk.ne hx H.out.1 (by decide) rfl
  have x5 : ∀ x cs, Blk w x cs 5 → ¬ (x = g) := fun x cs hx e => by subst e; exact Blk.ne hx H.out.1 (by decide) rfl
  have x70' : ∀ x cs, Blk w4 x cs 70 → ¬ (x = g) := fun x cs hx e => by subst e; exact Blk.ne hx hb5 (by decide) rfl
  have x5' : ∀ x cs, Blk w4 x cs 5 → ¬ (x = g) := fun x cs hx e => by subst e; exact Blk.ne hx hb5 (by decide) rfl
  refine ⟨rfl, ⟨A3, c3, ⟨_, (hb5.set 1 _).set 4 _, ?_, fun t ht => ?_⟩⟩, FA⟩
  · have o := own_frm (own_lower own4 (Nat.zero_le _)) FS x70'
    rw [tx_cells (ls + 1) A3 c3 n bs H.out.2.2.2.2.2.2] at o
    rw [List.length_append, H.out.2.2.2.2.1, List.flatMap_append, List.flatMap_cons, List.flatMap_nil, List.append_nil]
    exact o
  · rcases List.mem_append.1 ht with ht | ht
    · exact own_frm (H.out.2.2.1 t ht) FA x5
    · rcases List.mem_singleton.1 ht with rfl
      have o := own_frm (own_frm (own_lower R3 (Nat.zero_le _)) G4 (fun _ _ _ h => h)) FS x5'
      show RowB _ 0 (.slice A3 bs.length c3) bs
      exact o
set_option maxRecDepth 100000 in
set_option maxHeartbeats 4000000 in
theorem push_no (w : World) (g : Nat) (rm : Int) (T : List Tx) (tk : Nat) (ls byt : Int) (A : Option Addr) (n c : Nat) (h : IsQ w g rm T tk ls byt) (h1 : 0 < rm) (b0 : 0 ≤ byt) (b1 : byt ≤ 20000) (h2 : rm ≤ 20000) (hT : T.length ≤ 1000) (hn : n ≤ 9223372036854775807)
    (hno : n = 0 ∨ 1000 < n ∨ 64 ≤ T.length ∨ rm - byt < (n : Int)) :
    Calls Try.prog 8 #[.pointer (some ⟨g, 0, none⟩), .slice A n c] w fun e w' => (∃ E : Int, e = .returned (.tuple #[.int .u64 0, .int .i64 E]) ∧ E ≠ 0) ∧ Frm No w w' := by
  have hmd := made_is w g rm T tk ls byt h h1
  obtain ⟨v, hb, ho, ht⟩ := h
  obtain ⟨A1, c1, rfl, hc1, hrd⟩ := own_is ho
  obtain ⟨m, hmm⟩ : ∃ m, T.length = m := ⟨_, rfl⟩
  rw [hmm] at hb ho hc1 hT hno
  have k0 : w.cell? ⟨g, 0, none⟩ = some (.int .i64 rm) := hb.cell 0
  have k1 : w.cell? ⟨g, 1, none⟩ = some (.slice A1 m c1) := hb.cell 1
  have k4 : w.cell? ⟨g, 4, none⟩ = some (.int .i64 byt) := hb.cell 4
  have hgl := hb.lt
  have m9 : (m : Int) ≤ 1000 := by omega
  have pw1 : IntKind.i64.wrap (rm - byt) = rm - byt := IntWalk.i64_in _ ⟨by omega, by omega⟩
  clear hb ho ht hrd hmm
  by_cases q1 : n = 0
  · subst q1
    clear hno
    go_enter Try.func8, Try.ntmps8
    go_wp2_with fail
    refine hmd.mono ?_
    rintro e w1 ⟨rfl, rfl⟩
    go_wp2_with fail
    go_ret2
    exact ⟨⟨1, rfl, by decide⟩, Frm.refl _ _⟩
  have q1' : ¬ (n : Int) = 0 := by omega
  by_cases q2 : 1000 < n
  · have q2' : (1000 : Int) < (n : Int) := by omega
    clear hno
    go_enter Try.func8, Try.ntmps8
    go_wp2_with fail
    refine hmd.mono ?_
    rintro e w1 ⟨rfl, rfl⟩
    go_wp2_with fail
    go_ret2
    exact ⟨⟨2, rfl, by decide⟩, Frm.refl _ _⟩
  have q2' : ¬ (1000 : Int) < (n : Int) := by omega
  by_cases q3 : 64 ≤ m
  · have q3' : (64 : Int) ≤ (m : Int) := by omega
    clear hno
    go_enter Try.func8, Try.ntmps8
    go_wp2_with fail
    refine hmd.mono ?_
    rintro e w1 ⟨rfl, hwx⟩
    have hwx2 := hwx.symm
    clear hwx
    subst hwx2
    go_wp2_with fail
    go_quiet (fail)
    go_wp2_with fail
    go_ret2
    exact ⟨⟨5, rfl, by decide⟩, (Frm.refl _ _).drewN _⟩
  have q3' : ¬ (64 : Int) ≤ (m : Int) := by omega
  have q4 : rm - byt < (n : Int) := by omega
  clear hno q1 q2 q3
  go_enter Try.func8, Try.ntmps8
  go_wp2_with fail
  refine hmd.mono ?_
  rintro e w1 ⟨rfl, hwx⟩
  have hwx2 := hwx.symm
  clear hwx
  subst hwx2
  go_wp2_with fail
  go_quiet (fail)
  go_wp2_with fail
  go_ret2
  exact ⟨⟨5, rfl, by decide⟩, (Frm.refl _ _).drewN _⟩
end Go.Proofs.Ytccaaldfccgncaa.A

/- Putting fields together: New, Held, Lost, Drop, lose, field. -/
import Derived.Test.YtccaaldfccgncaaQ
import Derived.Deep.RegionLawGrows
namespace Go.Proofs.Ytccaaldfccgncaa.A
open Go.RowKit Go.Proofs.Ytccaaldfccgncaa.K
set_option linter.unusedVariables false
set_option linter.unusedSimpArgs false

theorem slice_hm' {t e : TypeId} (ht : Try.prog.underlying t = some (.slice e)) {s : Nat} (hz : ∀ w, (Go.sizeOf e).run Try.prog w = .ok s w) (A : Option Addr) (n c k : Nat) (hk : k ≤ c) (w : World) :
    (Instr.slice t (.slice A n c) none (some (.int .i64 (k : Int))) (some (.int .i64 (k : Int)))).run Try.prog w = .ok (.slice A k k) w := by
  have he : Try.prog.elem t = e := by simp [Program.elem, ht]
  have ht' : Try.prog.underlying t = some (.slice (Try.prog.elem t)) := by rw [he]; exact ht
  rw [run_slice_hm w t A n c ht' .i64 .i64 (k : Int) (k : Int) (by omega) (by omega) (by omega), he, hz]
  have ea : A.map (·.add 0) = A := by cases A <;> simp [Addr.add]
  simp only [Result.andThen, sliced, Nat.zero_mul, Int.toNat_natCast, Nat.sub_zero, ea, ite_self]
/-- What a glue is: what it holds, if it does; how many were lost. -/
def IsG (w : World) (g : Nat) (h : Option (List Nat)) (lost : Int) : Prop := ∃ v, Blk w g #[.bool true, v, .bool h.isSome, .int .i64 lost] 72 ∧ RowB w 0 v (h.getD [])
theorem IsG.frm {w w' : World} {S : Nat → Prop} {g : Nat} {h : Option (List Nat)} {lost : Int} (H : IsG w g h lost) (f : Frm S w w') (hg : ¬ S g) (h5 : ∀ k cs, Blk w k cs 5 → ¬ S k) : IsG w' g h lost := by
  obtain ⟨v, hb, hr⟩ := H
  exact ⟨v, f.blk hb hg, own_frm hr f h5⟩
theorem IsG.frmN {w w' : World} {g : Nat} {h : Option (List Nat)} {lost : Int} (H : IsG w g h lost) (f : Frm No w w') : IsG w' g h lost := H.frm f (fun h => h) (fun _ _ _ h => h)
theorem IsG.blk {w : World} {g : Nat} {h : Option (List Nat)} {lost : Int} (H : IsG w g h lost) : ∃ cs, Blk w g cs 72 := by
  obtain ⟨v, hb, _⟩ := H
  exact ⟨_, hb⟩
theorem RowB.nil (w : World) (B c : Nat) (A : Option Addr) (h : A = none) (hc : c = 0) : RowB w B (.slice A 0 c) [] := by
  subst h hc
  exact World.ownsRow_nil _ _ _ _
set_option maxRecDepth 100000 in
set_option maxHeartbeats 2000000 in
theorem glue_new (w : World) : Calls Try.prog 9 #[] w fun e w' => e = .returned (.pointer (some ⟨w.heap.size, 0, none⟩)) ∧ IsG w' w.heap.size none 0 ∧ Frm No w w' := by
  go_enter Try.func9, Try.ntmps9
  go_wp2_with fail
  go_ret
  exact ⟨rfl, ⟨_, Blk.new _ _ _, World.ownsRow_nil _ _ _ _⟩, (Frm.refl No w).alloc _⟩
set_option maxRecDepth 100000 in
set_option maxHeartbeats 2000000 in
theorem held_is (w : World) (g : Nat) (h : Option (List Nat)) (lost : Int) (H : IsG w g h lost) : Calls Try.prog 15 #[.pointer (some ⟨g, 0, none⟩)] w fun e w' => e = .returned (.int .i64 ((h.getD []).length : Int)) ∧ w' = w := by
  obtain ⟨v, hb, hr⟩ := H
  obtain ⟨A, c, rfl, -, -⟩ := hr.out
  have c0 : w.cell? ⟨g, 1, none⟩ = some (.slice A (h.getD []).length c) := hb.cell 1
  clear hb hr
  go_enter Try.func15, Try.ntmps15
  go_wp2_with fail
  go_ret
  exact ⟨rfl, rfl⟩
set_option maxRecDepth 100000 in
set_option maxHeartbeats 2000000 in
theorem lost_is (w : World) (g : Nat) (h : Option (List Nat)) (lost : Int) (H : IsG w g h lost) : Calls Try.prog 16 #[.pointer (some ⟨g, 0, none⟩)] w fun e w' => e = .returned (.int .i64 lost) ∧ w' = w := by
  obtain ⟨v, hb, hr⟩ := H
  have c0 : w.cell? ⟨g, 3, none⟩ = some (.int .i64 lost) := hb.cell 3
  clear hb hr
  go_enter Try.func16, Try.ntmps16
  go_wp2_with fail
  go_ret
  exact ⟨rfl, rfl⟩
set_option maxRecDepth 100000 in
set_option maxHeartbeats 2000000 in
theorem drop_is (w : World) (g : Nat) (h : Option (List Nat)) (lost : Int) (H : IsG w g h lost) : Calls Try.prog 73 #[.pointer (some ⟨g, 0, none⟩)] w fun e w' => e = .returned (.tuple #[]) ∧ IsG w' g none lost ∧ Frm (fun x => x = g) w w' := by
  obtain ⟨v, hb, hr⟩ := H
  have z1 : w.frozen? ⟨g, 1, none⟩ = false := hb.free 1
  have z2 : w.frozen? ⟨g, 2, none⟩ = false := hb.free 2
  have y1 : w.cell? ⟨g, 1, none⟩ = some v := hb.cell 1
  have y2 : w.cell? ⟨g, 2, none⟩ = some (.bool h.isSome) := hb.cell 2
  have hgl := hb.lt
  have H := Lib.hid hb
  clear hb hr
  go_enter Try.func73, Try.ntmps73
  go_wp2_with fail
  go_end0
  exact ⟨rfl, ⟨_, (H.out.set 1 _).set 2 _, World.ownsRow_nil _ _ _ _⟩, ((Frm.refl (fun x => x = g) w).self 1 _).self 2 _⟩
def someI (h : Option (List Nat)) : Int := if h.isSome = true then 1 else 0
set_option maxRecDepth 100000 in
set_option maxHeartbeats 2000000 in
theorem lose_is (w : World) (g : Nat) (h : Option (List Nat)) (lost : Int) (H : IsG w g h lost) (l0 : 0 ≤ lost) (l1 : lost ≤ 1000000000) : Calls Try.prog 36 #[.pointer (some ⟨g, 0, none⟩)] w fun e w' => e = .returned (.tuple #[]) ∧ IsG w' g none (lost + someI h) ∧ Frm (fun x => x = g) w w' := by
  have hd := fun w' => drop_is w' g h (lost + 1)
  have hd0 := drop_is w g h lost H
  have HG := Lib.hid H
  obtain ⟨v, hb, hr⟩ := H
  obtain ⟨t, ht⟩ : ∃ t, h.isSome = t := ⟨_, rfl⟩
  have hs : someI h = if t = true then 1 else 0 := by unfold someI; rw [ht]
  rw [hs]
  have y2 : w.cell? ⟨g, 2, none⟩ = some (.bool t) := by rw [← ht]; exact hb.cell 2
  have y3 : w.cell? ⟨g, 3, none⟩ = some (.int .i64 lost) := hb.cell 3
  have z3 : w.frozen? ⟨g, 3, none⟩ = false := hb.free 3
  have hgl := hb.lt
  have pw : IntKind.i64.wrap (lost + 1) = lost + 1 := IntWalk.i64_in _ ⟨by omega, by omega⟩
  have HB := Lib.hid (And.intro hb hr)
  clear hb hr hs ht
  cases t with
  | true =>
    rw [if_pos rfl]
    go_enter Try.func36, Try.ntmps36
    go_wp2_with fail
    have F1 : Frm (fun x => x = g) w (w.setCell ⟨g, 3, none⟩ (.int .i64 (lost + 1))) := (Frm.refl (fun x => x = g) w).self 3 _
    refine (hd _ ⟨v, HB.out.1.set 3 _, own_set HB.out.2 HB.out.1 (by decide) 3 _⟩).mono ?_
    rintro e w1 ⟨rfl, G1, F2⟩
    have H2 := Lib.hid (And.intro G1 (F1.trans F2))
    clear G1 F1 F2
    go_wp2_with fail
    go_end0
    exact ⟨rfl, H2.out.1, H2.out.2⟩
  | false =>
    rw [if_neg (by decide), Int.add_zero]
    go_enter Try.func36, Try.ntmps36
    go_wp2_with fail
    refine hd0.mono ?_
    rintro e w1 ⟨rfl, G1, F2⟩
    have H2 := Lib.hid (And.intro G1 F2)
    clear G1 F2
    go_wp2_with fail
    go_end0
    exact ⟨rfl, H2.out.1, H2.out.2⟩
/-- What is held behind a field, what comes out, what was lost. -/
def fH (h : Option (List Nat)) (b : List Nat) (bg : Bool) : Option (List Nat) := if bg = true then some b else h.map (· ++ b)
def fL (h : Option (List Nat)) (lost : Int) (bg en : Bool) : Int := lost + (if bg = true then someI h else if h.isSome = false ∧ en = true then 1 else 0)
set_option maxRecDepth 100000 in
set_option maxHeartbeats 4000000 in
theorem field_begins (w : World) (g : Nat) (h : Option (List Nat)) (lost : Int) (A : Option Addr) (n c : Nat) (b : List Nat) (en : Bool) (H : IsG w g h lost) (l0 : 0 ≤ lost) (l1 : lost ≤ 100000000) (hb : BinT w A b) (hn : b.length = n) (n1 : n ≤ 1000) :
    Calls Try.prog 37 #[.pointer (some ⟨g, 0, none⟩), .slice A n c, .bool true, .bool en] w fun e w' => ∃ v, e = .returned (.tuple #[v, .bool en]) ∧ RowB w' 0 v (if en = true then b else []) ∧ IsG w' g (if en = true then none else some b) (lost + someI h) ∧ Frm (fun x => x = g) w w' := by
  have hl := lose_is w g h lost H l0 (by omega)
  have hg64 : ∀ x cs, Blk w x cs 5 → ¬ (x = g) := fun x cs hx e => by subst e; obtain ⟨cs', hh⟩ := H.blk; exact Blk.ne hx hh (by decide) rfl
  have HB := Lib.hid (And.intro hb (And.intro hn hg64))
  have n2 : (n : Int) ≤ 1000 := by omega
  clear hb hn H hg64
  go_enter Try.func37, Try.ntmps37
  go_wp2_with fail
  refine hl.mono ?_
  rintro e w1 ⟨rfl, G1, F1⟩
  have H1 := Lib.hid (And.intro G1 (And.intro F1 (HB.out.1.frm F1 HB.out.2.2)))
  clear G1 F1
  go_wp2_with fail
  refine (cloneB w1 A n c b H1.out.2.2.bin HB.out.2.1 (by omega)).mono ?_
  rintro e w2 ⟨v2, rfl, R2, F2⟩
  obtain ⟨A2, c2, rfl, hc2, -⟩ := R2.outn HB.out.2.1
  obtain ⟨v1, hb1, hr1⟩ := H1.out.1
  have hb2 := F2.blk hb1 (fun h => h)
  have y1 : w2.cell? ⟨g, 1, none⟩ = some v1 := hb2.cell 1
  have y2 : w2.cell? ⟨g, 2, none⟩ = some (.bool false) := hb2.cell 2
  have z1 : w2.frozen? ⟨g, 1, none⟩ = false := hb2.free 1
  have z2 : w2.frozen? ⟨g, 2, none⟩ = false := hb2.free 2
  have hgl := hb2.lt
  have F3 : Frm (fun x => x = g) w2 ((w2.setCell ⟨g, 1, none⟩ (.slice A2 n c2)).setCell ⟨g, 2, none⟩ (.bool true)) := ((Frm.refl (fun x => x = g) w2).self 1 _).self 2 _
  have R3 : RowB ((w2.setCell ⟨g, 1, none⟩ (.slice A2 n c2)).setCell ⟨g, 2, none⟩ (.bool true)) 0 (.slice A2 n c2) b := own_frm (R2.lower (Nat.zero_le _)) F3 (fun x cs hx e => by subst e; exact Blk.ne hx hb2 (by decide) rfl)
  have hb3 := (hb2.set 1 (.slice A2 n c2)).set 2 (.bool true)
  have H3 := Lib.hid (And.intro hb3 (And.intro R3 (H1.out.2.1.thenN F2 |>.trans F3)))
  clear hb1 hr1 R2 F2 hb2 F3 R3 hb3
  cases en with
  | false =>
    go_wp2_with fail
    go_ret2
    exact ⟨_, rfl, World.ownsRow_nil _ _ _ _, ⟨_, H3.out.1, H3.out.2.1⟩, H3.out.2.2⟩
  | true =>
    obtain ⟨w3, hw3⟩ : ∃ w3, (w2.setCell ⟨g, 1, none⟩ (.slice A2 n c2)).setCell ⟨g, 2, none⟩ (.bool true) = w3 := ⟨_, rfl⟩
    rw [hw3] at H3
    have y31 : w3.cell? ⟨g, 1, none⟩ = some (.slice A2 n c2) := H3.out.1.cell 1
    have y32 : w3.cell? ⟨g, 2, none⟩ = some (.bool true) := H3.out.1.cell 2
    go_upto_region 8 with fail
    try rw [hw3]
    clear hw3 y1 y2 z1 z2 hgl
    go_wp2_with fail
    refine (drop_is w3 g (some b) (lost + someI h) ⟨_, H3.out.1, H3.out.2.1⟩).mono ?_
    rintro e w4 ⟨rfl, G4, F4⟩
    have R4 : RowB w4 0 (.slice A2 n c2) b := own_frm H3.out.2.1 F4 (fun x cs hx e => by subst e; exact Blk.ne hx H3.out.1 (by decide) rfl)
    have H4 := Lib.hid (And.intro G4 (And.intro R4 (H3.out.2.2.trans F4)))
    clear G4 R4 F4
    go_wp2_with fail
    go_ret2
    exact ⟨_, rfl, H4.out.2.1, H4.out.1, H4.out.2.2⟩
set_option maxRecDepth 100000 in
set_option maxHeartbeats 4000000 in
theorem field_none (w : World) (g : Nat) (h : Option (List Nat)) (lost : Int) (A : Option Addr) (n c : Nat) (b : List Nat) (en : Bool) (H : IsG w g none lost) (l0 : 0 ≤ lost) (l1 : lost ≤ 100000000) :
    Calls Try.prog 37 #[.pointer (some ⟨g, 0, none⟩), .slice A n c, .bool false, .bool en] w fun e w' => ∃ v, e = .returned (.tuple #[v, .bool false]) ∧ IsG w' g none (lost + if en = true then 1 else 0) ∧ Frm (fun x => x = g) w w' := by
  obtain ⟨v, hb, hr⟩ := H
  obtain ⟨A0, c0, rfl, -, -⟩ := hr.out
  have y1 : w.cell? ⟨g, 1, none⟩ = some (.slice A0 0 c0) := hb.cell 1
  have y2 : w.cell? ⟨g, 2, none⟩ = some (.bool false) := hb.cell 2
  have y3 : w.cell? ⟨g, 3, none⟩ = some (.int .i64 lost) := hb.cell 3
  have z3 : w.frozen? ⟨g, 3, none⟩ = false := hb.free 3
  have hgl := hb.lt
  have pw : IntKind.i64.wrap (lost + 1) = lost + 1 := IntWalk.i64_in _ ⟨by omega, by omega⟩
  have HB := Lib.hid (And.intro hb hr)
  clear hb hr
  cases en with
  | false =>
    rw [if_neg (by decide), Int.add_zero]
    go_enter Try.func37, Try.ntmps37
    go_wp2_with fail
    go_ret2
    exact ⟨_, rfl, ⟨_, HB.out.1, HB.out.2⟩, Frm.refl _ _⟩
  | true =>
    rw [if_pos rfl]
    go_enter Try.func37, Try.ntmps37
    go_wp2_with fail
    go_ret2
    exact ⟨_, rfl, ⟨_, HB.out.1.set 3 _, own_set HB.out.2 HB.out.1 (by decide) 3 _⟩, (Frm.refl (fun x => x = g) w).self 3 _⟩
set_option maxRecDepth 100000 in
set_option maxHeartbeats 4000000 in
theorem field_goes (w : World) (g : Nat) (held : List Nat) (lost : Int) (A : Option Addr) (n c : Nat) (b : List Nat) (en : Bool) (H : IsG w g (some held) lost) (l0 : 0 ≤ lost) (l1 : lost ≤ 100000000) (hb : BinT w A b) (hn : b.length = n) (n0 : 1 ≤ n) (n1 : held.length + n ≤ 1000) :
    Calls Try.prog 37 #[.pointer (some ⟨g, 0, none⟩), .slice A n c, .bool false, .bool en] w fun e w' => ∃ v, e = .returned (.tuple #[v, .bool en]) ∧ RowB w' 0 v (if en = true then held ++ b else []) ∧ IsG w' g (if en = true then none else some (held ++ b)) lost ∧ Frm (fun x => x = g) w w' := by
  have hg5 : ∀ x cs, Blk w x cs 5 → ¬ (x = g) := fun x cs hx e => by subst e; obtain ⟨cs', hh⟩ := H.blk; exact Blk.ne hx hh (by decide) rfl
  obtain ⟨v, hbk, hr⟩ := H
  have hr : RowB w 0 v held := hr
  obtain ⟨m, hm⟩ : ∃ m, held.length = m := ⟨_, rfl⟩
  obtain ⟨A1, c1, rfl, hc1, hbt⟩ := hr.outn hm
  rw [hm] at n1
  have hsl := fun W => slice_hm' Try.underlying24 size5 A1 m c1 m hc1 W
  have holds : ∀ w', Frm No w w' → ∀ q, A1 = some q → ∀ j u, (held.map by8)[j]? = some u → w'.cell? (q.add j) = some u := fun w' f q e j u hu => by
    subst e
    rcases Nat.eq_zero_or_pos m with h0 | h0
    · have : held = [] := List.eq_nil_of_length_eq_zero (by omega)
      subst this
      cases hu
    · obtain ⟨ad, e, _, hcc⟩ := (hbt.frmN f).1.2 (by omega)
      injection e with e
      subst e
      exact hcc j u hu
  have hnone : A1 = none → m = 0 ∧ m = 0 := fun e => by
    subst e
    rcases Nat.eq_zero_or_pos m with h0 | h0
    · exact ⟨h0, h0⟩
    · obtain ⟨ad, e, _⟩ := hbt.1.2 (by omega)
      cases e
  obtain ⟨ad, rfl, -, -⟩ := hb.1.2 (by omega)
  have news : ∀ w', Frm No w w' → ∀ j u, (b.map by8)[j]? = some u → w'.cell? (ad.add j) = some u := fun w' f j u hu => by
    obtain ⟨ad', e, _, hcc⟩ := (hb.frmN f).1.2 (by omega)
    injection e with e
    subst e
    exact hcc j u hu
  obtain ⟨i0, hi, hz0, hz1, hz2⟩ := info_parts info5
  have k1 : w.cell? ⟨g, 1, none⟩ = some (.slice A1 m c1) := hbk.cell 1
  have k2 : w.cell? ⟨g, 2, none⟩ = some (.bool true) := hbk.cell 2
  have n2 : (m : Int) + (n : Int) ≤ 1000 := by omega
  have H := Lib.hid (And.intro hbk (And.intro holds (And.intro hnone (And.intro news (And.intro hm (And.intro hn hg5))))))
  clear hbk holds hnone news hr hbt hb hg5 hm hn
  go_enter Try.func37, Try.ntmps37
  go_upto_region 5 with fail
  refine wp_region_N (S := fun w' => w'.cell? ⟨g, 1, none⟩ = some (.slice A1 m c1)) 20 (by kernel_rfl) k1 (fun hHeld => ?_)
  refine wpAnyN_take (i := 0) (v := ?rnv37r5_0) rfl (by kernel_rfl) (by kernel_rfl) (by kernel_rfl) (fun _ _ _ h => h) (by decide) (by kernel_rfl) (Or.inl ⟨by rfl, ?rny37r5_0⟩) (by assumption) ?rnr37r5_0
  case rny37r5_0 => (intro w hSw; (try dsimp only at hSw); go_simp; try with_reducible rfl)
  try simp only [Act.put, List.setIfInBounds_toArray, List.set_cons_zero, List.set_cons_succ, List.getElem_toArray, List.getElem_cons_zero, List.getElem_cons_succ]
  refine wpAnyN_take (i := 1) (v := ?rnv37r5_1) rfl (by kernel_rfl) (by kernel_rfl) (by kernel_rfl) (fun _ _ _ h => h) (by decide) (by kernel_rfl) (Or.inl ⟨by rfl, ?rny37r5_1⟩) (by assumption) ?rnr37r5_1
  case rny37r5_1 => (intro w hSw; (try dsimp only at hSw); go_simp; try with_reducible rfl)
  try simp only [Act.put, List.setIfInBounds_toArray, List.set_cons_zero, List.set_cons_succ, List.getElem_toArray, List.getElem_cons_zero, List.getElem_cons_succ]
  refine wpAnyN_take (i := 2) (v := ?rnv37r5_2) rfl (by kernel_rfl) (by kernel_rfl) (by kernel_rfl) (fun _ _ _ h => h) (by decide) (by kernel_rfl) (Or.inl ⟨by rfl, ?rny37r5_2⟩) (by assumption) ?rnr37r5_2
  case rny37r5_2 => (intro w hSw; (try dsimp only at hSw); go_simp; try with_reducible rfl)
  try simp only [Act.put, List.setIfInBounds_toArray, List.set_cons_zero, List.set_cons_succ, List.getElem_toArray, List.getElem_cons_zero, List.getElem_cons_succ]
  refine wpAnyN_take (i := 3) (v := ?rnv37r5_3) rfl (by kernel_rfl) (by kernel_rfl) (by kernel_rfl) (fun _ _ _ h => h) (by decide) (by kernel_rfl) (Or.inl ⟨by rfl, ?rny37r5_3⟩) (by assumption) ?rnr37r5_3
  case rny37r5_3 => (intro w hSw; (try dsimp only at hSw); go_simp; try with_reducible rfl)
  try simp only [Act.put, List.setIfInBounds_toArray, List.set_cons_zero, List.set_cons_succ, List.getElem_toArray, List.getElem_cons_zero, List.getElem_cons_succ]
  refine wpAnyN_take (i := 4) (v := ?rnv37r5_4) rfl (by kernel_rfl) (by kernel_rfl) (by kernel_rfl) (fun _ _ _ h => h) (by decide) (by kernel_rfl) (Or.inl ⟨by rfl, ?rny37r5_4⟩) (by assumption) ?rnr37r5_4
  case rny37r5_4 => (intro w hSw; (try dsimp only at hSw); go_simp; try with_reducible rfl)
  try simp only [Act.put, List.setIfInBounds_toArray, List.set_cons_zero, List.set_cons_succ, List.getElem_toArray, List.getElem_cons_zero, List.getElem_cons_succ]
  refine wpAnyN_take (i := 5) (v := ?rnv37r5_5) rfl (by kernel_rfl) (by kernel_rfl) (by kernel_rfl) (fun _ _ _ h => h) (by decide) (by kernel_rfl) (Or.inl ⟨by rfl, ?rny37r5_5⟩) (by assumption) ?rnr37r5_5
  case rny37r5_5 => (intro w hSw; (try dsimp only at hSw); go_simp; try with_reducible rfl)
  try simp only [Act.put, List.setIfInBounds_toArray, List.set_cons_zero, List.set_cons_succ, List.getElem_toArray, List.getElem_cons_zero, List.getElem_cons_succ]
  refine wpAnyN_take (i := 6) (v := ?rnv37r5_6) rfl (by kernel_rfl) (by kernel_rfl) (by kernel_rfl) (fun _ _ _ h => h) (by decide) (by kernel_rfl) (Or.inl ⟨by rfl, ?rny37r5_6⟩) (by assumption) ?rnr37r5_6
  case rny37r5_6 => (intro w hSw; (try dsimp only at hSw); go_simp; try with_reducible rfl)
  try simp only [Act.put, List.setIfInBounds_toArray, List.set_cons_zero, List.set_cons_succ, List.getElem_toArray, List.getElem_cons_zero, List.getElem_cons_succ]
  refine wpAnyN_take (i := 7) (v := ?rnv37r5_7) rfl (by kernel_rfl) (by kernel_rfl) (by kernel_rfl) (fun _ _ _ h => h) (by decide) (by kernel_rfl) (Or.inl ⟨by rfl, ?rny37r5_7⟩) (by assumption) ?rnr37r5_7
  case rny37r5_7 => (intro w hSw; (try dsimp only at hSw); go_simp; try with_reducible rfl)
  try simp only [Act.put, List.setIfInBounds_toArray, List.set_cons_zero, List.set_cons_succ, List.getElem_toArray, List.getElem_cons_zero, List.getElem_cons_succ]
  refine wpAnyN_take (i := 8) (v := ?rnv37r5_8) rfl (by kernel_rfl) (by kernel_rfl) (by kernel_rfl) (fun _ _ _ h => h) (by decide) (by kernel_rfl) (Or.inl ⟨by rfl, ?rny37r5_8⟩) (by assumption) ?rnr37r5_8
  case rny37r5_8 => (intro w hSw; (try dsimp only at hSw); go_simp; try with_reducible rfl)
  try simp only [Act.put, List.setIfInBounds_toArray, List.set_cons_zero, List.set_cons_succ, List.getElem_toArray, List.getElem_cons_zero, List.getElem_cons_succ]
  refine wpAnyN_take (i := 9) (v := ?rnv37r5_9) rfl (by kernel_rfl) (by kernel_rfl) (by kernel_rfl) (fun _ _ _ h => h) (by decide) (by kernel_rfl) (Or.inl ⟨by rfl, ?rny37r5_9⟩) (by assumption) ?rnr37r5_9
  case rny37r5_9 => (intro w hSw; (try dsimp only at hSw); go_simp; try with_reducible rfl)
  try simp only [Act.put, List.setIfInBounds_toArray, List.set_cons_zero, List.set_cons_succ, List.getElem_toArray, List.getElem_cons_zero, List.getElem_cons_succ]
  refine wpAnyN_take (i := 10) (v := ?rnv37r5_10) rfl (by kernel_rfl) (by kernel_rfl) (by kernel_rfl) (fun _ _ _ h => h) (by decide) (by kernel_rfl) (Or.inl ⟨by rfl, ?rny37r5_10⟩) (by assumption) ?rnr37r5_10
  case rny37r5_10 => (intro w hSw; (try dsimp only at hSw); go_simp; try with_reducible rfl)
  try simp only [Act.put, List.setIfInBounds_toArray, List.set_cons_zero, List.set_cons_succ, List.getElem_toArray, List.getElem_cons_zero, List.getElem_cons_succ]
  refine wpAnyN_take (i := 11) (v := ?rnv37r5_11) rfl (by kernel_rfl) (by kernel_rfl) (by kernel_rfl) (fun _ _ _ h => h) (by decide) (by kernel_rfl) (Or.inl ⟨by rfl, ?rny37r5_11⟩) (by assumption) ?rnr37r5_11
  case rny37r5_11 => (intro w hSw; (try dsimp only at hSw); go_simp; try with_reducible rfl)
  try simp only [Act.put, List.setIfInBounds_toArray, List.set_cons_zero, List.set_cons_succ, List.getElem_toArray, List.getElem_cons_zero, List.getElem_cons_succ]
  refine wpAnyN_take (i := 12) (v := ?rnv37r5_12) rfl (by kernel_rfl) (by kernel_rfl) (by kernel_rfl) (fun _ _ _ h => h) (by decide) (by kernel_rfl) (Or.inl ⟨by rfl, ?rny37r5_12⟩) (by assumption) ?rnr37r5_12
  case rny37r5_12 => (intro w hSw; (try dsimp only at hSw); go_simp; try with_reducible rfl)
  try simp only [Act.put, List.setIfInBounds_toArray, List.set_cons_zero, List.set_cons_succ, List.getElem_toArray, List.getElem_cons_zero, List.getElem_cons_succ]
  refine wpAnyN_take (i := 13) (v := ?rnv37r5_13) rfl (by kernel_rfl) (by kernel_rfl) (by kernel_rfl) (fun _ _ _ h => h) (by decide) (by kernel_rfl) (Or.inl ⟨by rfl, ?rny37r5_13⟩) (by assumption) ?rnr37r5_13
  case rny37r5_13 => (intro w hSw; (try dsimp only at hSw); go_simp; try with_reducible rfl)
  try simp only [Act.put, List.setIfInBounds_toArray, List.set_cons_zero, List.set_cons_succ, List.getElem_toArray, List.getElem_cons_zero, List.getElem_cons_succ]
  refine wpAnyN_take (i := 14) (v := ?rnv37r5_14) rfl (by kernel_rfl) (by kernel_rfl) (by kernel_rfl) (fun _ _ _ h => h) (by decide) (by kernel_rfl) (Or.inl ⟨by rfl, ?rny37r5_14⟩) (by assumption) ?rnr37r5_14
  case rny37r5_14 => (intro w hSw; (try dsimp only at hSw); go_simp; try with_reducible rfl)
  try simp only [Act.put, List.setIfInBounds_toArray, List.set_cons_zero, List.set_cons_succ, List.getElem_toArray, List.getElem_cons_zero, List.getElem_cons_succ]
  refine wpAnyN_take (i := 15) (v := ?rnv37r5_15) rfl (by kernel_rfl) (by kernel_rfl) (by kernel_rfl) (fun _ _ _ h => h) (by decide) (by kernel_rfl) (Or.inl ⟨by rfl, ?rny37r5_15⟩) (by assumption) ?rnr37r5_15
  case rny37r5_15 => (intro w hSw; (try dsimp only at hSw); go_simp; try with_reducible rfl)
  try simp only [Act.put, List.setIfInBounds_toArray, List.set_cons_zero, List.set_cons_succ, List.getElem_toArray, List.getElem_cons_zero, List.getElem_cons_succ]
  refine wpAnyN_take (i := 16) (v := ?rnv37r5_16) rfl (by kernel_rfl) (by kernel_rfl) (by kernel_rfl) (fun _ _ _ h => h) (by decide) (by kernel_rfl) (Or.inl ⟨by rfl, ?rny37r5_16⟩) (by assumption) ?rnr37r5_16
  case rny37r5_16 => (intro w hSw; (try dsimp only at hSw); go_simp; try with_reducible rfl)
  try simp only [Act.put, List.setIfInBounds_toArray, List.set_cons_zero, List.set_cons_succ, List.getElem_toArray, List.getElem_cons_zero, List.getElem_cons_succ]
  refine wpAnyN_one (i := 17) (by kernel_rfl) rfl (fun K hK => ?_)
  refine step_append_grows (by rfl) _ _ 24 (by rfl) 5 i0 _ 1 1 Try.underlying24 hi hz0 hz1 hz2 rfl (by omega) A1 m m (held.map by8) (by rfl) H.out.2.2.1 (by rw [List.length_map, H.out.2.2.2.2.1, Nat.mul_one]) (H.out.2.1 _ (by exact (Frm.refl No w).drew)) ad n c (b.map by8) (by rfl) (by rw [List.length_map, H.out.2.2.2.2.2.1, Nat.mul_one]) (H.out.2.2.2.1 _ (by exact (Frm.refl No w).drew)) (by8_one b) (by omega) (by unfold maxLen; omega) (by omega) ?_
  intro v4 w4 own4 hg4
  have G4 := ((Frm.refl No w).drew).grown (w' := w4) (by exact hg4) (fun q e => by cases e)
  have hb4 := G4.blk H.out.1 (fun h => h)
  have k4 : w4.cell? ⟨g, 1, none⟩ = some (.slice A1 m c1) := hb4.cell 1
  have k42 : w4.cell? ⟨g, 2, none⟩ = some (.bool true) := hb4.cell 2
  have z1 : w4.frozen? ⟨g, 1, none⟩ = false := hb4.free 1
  have hgl4 := hb4.lt
  obtain ⟨A4, c4, rfl, hc4, -⟩ := own_is own4
  refine hK.out _ _ (fun _ => ?_) (fun hHeld => ?_)
  · exact k4
  have hHeld := hHeld (by decide)
  clear hK K
  try simp only [Act.put, List.setIfInBounds_toArray, List.set_cons_zero, List.set_cons_succ, List.getElem_toArray, List.getElem_cons_zero, List.getElem_cons_succ]
  have hHeldO := hHeld
  refine wpAnyN_one (i := 18) (by kernel_rfl) rfl (fun K hK => ?_)
  go_simp
  refine hK.out _ _ (fun _ => hHeldO) (fun hHeld => ?_)
  have hHeld := hHeld (by decide)
  clear hK K hHeldO
  try simp only [Act.put, List.setIfInBounds_toArray, List.set_cons_zero, List.set_cons_succ, List.getElem_toArray, List.getElem_cons_zero, List.getElem_cons_succ]
  refine wpAnyN_take (i := 19) (v := ?rnv37r5_19) rfl (by kernel_rfl) (by kernel_rfl) (by kernel_rfl) (fun _ _ _ h => h) (by decide) (by kernel_rfl) (Or.inl ⟨by rfl, ?rny37r5_19⟩) (by assumption) ?rnr37r5_19
  case rny37r5_19 => (intro w hSw; (try dsimp only at hSw); go_simp; try with_reducible rfl)
  try simp only [Act.put, List.setIfInBounds_toArray, List.set_cons_zero, List.set_cons_succ, List.getElem_toArray, List.getElem_cons_zero, List.getElem_cons_succ]
  refine wpAnyN_one (i := 20) (by kernel_rfl) rfl (fun K hK => ?_)
  go_simp
  refine hK.out _ _ (fun h => absurd rfl h) (fun _ => ?_)
  clear hK K
  try simp only [Act.put, List.setIfInBounds_toArray, List.set_cons_zero, List.set_cons_succ, List.getElem_toArray, List.getElem_cons_zero, List.getElem_cons_succ]
  refine wpAnyN_done (by kernel_rfl) ?_ _
  have F5 : Frm (fun x => x = g) w4 (w4.setCell ⟨g, 1, none⟩ (.slice A4 (m + n) c4)) := (Frm.refl (fun x => x = g) w4).self 1 _
  have R5 : RowB (w4.setCell ⟨g, 1, none⟩ (.slice A4 (m + n) c4)) 0 (.slice A4 (m + n) c4) (held ++ b) := by
    have := own_frm (own_lower own4 (Nat.zero_le _)) F5 (fun x cs hx e => by subst e; exact Blk.ne hx hb4 (by decide) rfl)
    unfold RowB
    rw [List.length_append, H.out.2.2.2.2.1, H.out.2.2.2.2.2.1, List.map_append]
    exact this
  have B5 := hb4.set 1 (.slice A4 (m + n) c4)
  have FA := (G4.mono (fun _ h => h.elim) : Frm (fun x => x = g) w w4).trans F5
  obtain ⟨w5, hw5⟩ : ∃ w5, w4.setCell ⟨g, 1, none⟩ (.slice A4 (m + n) c4) = w5 := ⟨_, rfl⟩
  have hw5' : w4.drew.setCell ⟨g, 1, none⟩ (.slice A4 (m + n) c4) = w5.drew := by rw [← hw5]; rfl
  rw [hw5] at R5 B5 FA
  have y1 : w5.cell? ⟨g, 1, none⟩ = some (.slice A4 (m + n) c4) := B5.cell 1
  have y2 : w5.cell? ⟨g, 2, none⟩ = some (.bool true) := B5.cell 2
  have H5 := Lib.hid (And.intro B5 (And.intro R5 FA))
  have hmn : ¬ (1000 : Int) < ((m + n : Nat) : Int) := by omega
  clear R5 B5 FA F5 own4 hg4 hb4 G4 k4 k42
  try rw [hw5]
  try rw [hw5']
  clear hw5 hw5' z1 hgl4
  cases en with
  | false =>
    go_wp2_with fail
    go_ret2
    exact ⟨_, rfl, World.ownsRow_nil _ _ _ _, ⟨_, H5.out.1, H5.out.2.1⟩, H5.out.2.2⟩
  | true =>
    go_wp2_with fail
    refine (drop_is w5 g (some (held ++ b)) lost ⟨_, H5.out.1, H5.out.2.1⟩).mono ?_
    rintro e w6 ⟨rfl, G6, F6⟩
    have R6 : RowB w6 0 (.slice A4 (m + n) c4) (held ++ b) := own_frm H5.out.2.1 F6 (fun x cs hx e => by subst e; exact Blk.ne hx H5.out.1 (by decide) rfl)
    have H6 := Lib.hid (And.intro G6 (And.intro R6 (H5.out.2.2.trans F6)))
    clear G6 R6 F6
    go_wp2_with fail
    go_ret2
    exact ⟨_, rfl, H6.out.2.1, H6.out.1, H6.out.2.2⟩
end Go.Proofs.Ytccaaldfccgncaa.A

/- The queue: New, made, Bytes, Front, Take. -/
import Derived.Test.YtccaaldfccgncaaP
import Derived.Test.YtccaaldfccgncaaRP
namespace Go.Proofs.Ytccaaldfccgncaa.A
open Go.RowKit Go.Proofs.Ytccaaldfccgncaa.K
set_option linter.unusedVariables false
set_option linter.unusedSimpArgs false

theorem size_of {e : TypeId} {i : TypeInfo} {s : Nat} (hi : Try.prog.info? e = some i) (hs : i.size = s) (w : World) : (Go.sizeOf e).run Try.prog w = .ok s w := by
  simp [Go.sizeOf, Go.typeInfo, hi, hs]
/-- b[k:], by one name. -/
def cutA (A : Option Addr) (k s cap : Nat) : Option Addr := if cap = k then A else A.map (·.add (k * s))
theorem slice_l {t e : TypeId} {s : Nat} (ht : Try.prog.underlying t = some (.slice e)) (hz : ∀ w, (Go.sizeOf e).run Try.prog w = .ok s w) (A : Option Addr) (n c k : Nat) (hk : k ≤ n) (w : World) :
    (Instr.slice t (.slice A n c) (some (.int .i64 (k : Int))) none none).run Try.prog w = .ok (.slice (cutA A k s c) (n - k) (c - k)) w := by
  have he : Try.prog.elem t = e := by simp [Program.elem, ht]
  have ht' : Try.prog.underlying t = some (.slice (Try.prog.elem t)) := by rw [he]; exact ht
  rw [run_slice_l w t A n c ht' .i64 (k : Int) (by omega) (by omega), he, hz]
  simp [Result.andThen, sliced, cutA]
theorem size5 (w : World) : (Go.sizeOf 5).run Try.prog w = .ok 1 w := by
  obtain ⟨i0, hi, hz0, hz1, hz2⟩ := info_parts info5
  exact size_of hi hz1 w
theorem size70 (w : World) : (Go.sizeOf 70).run Try.prog w = .ok 2 w := by
  obtain ⟨i0, hi, hz0, hz1, hz2⟩ := info_parts info70
  exact size_of hi hz1 w
theorem Bin.cut {w : World} {A : Option Addr} {L : List Nat} (h : Bin w A L) {k cap : Nat} (hk : k ≤ L.length) (hc : L.length ≤ cap) : Bin w (cutA A k 1 cap) (L.drop k) := by
  have := h.drop hk hc
  unfold cutA
  rwa [Nat.mul_one]
/-- What a queue is. -/
def IsQ (w : World) (g : Nat) (rm : Int) (T : List Tx) (tk : Nat) (ls byt : Int) : Prop := ∃ v, Blk w g #[.int .i64 rm, v, .int .i64 tk, .int .u64 ls, .int .i64 byt] 64 ∧ w.ownsRow 0 70 2 v T.length (T.flatMap Tx.cells) ∧ ∀ t ∈ T, RowB w 0 t.val t.bs
theorem IsQ.frm {w w' : World} {S : Nat → Prop} {g : Nat} {rm : Int} {T : List Tx} {tk : Nat} {ls byt : Int} (h : IsQ w g rm T tk ls byt) (f : Frm S w w') (hg : ¬ S g) (h70 : ∀ k cs, Blk w k cs 70 → ¬ S k) (h5 : ∀ k cs, Blk w k cs 5 → ¬ S k) : IsQ w' g rm T tk ls byt := by
  obtain ⟨v, hb, ho, ht⟩ := h
  exact ⟨v, f.blk hb hg, own_frm ho f h70, fun t h => own_frm (ht t h) f h5⟩
theorem IsQ.frmN {w w' : World} {g : Nat} {rm : Int} {T : List Tx} {tk : Nat} {ls byt : Int} (h : IsQ w g rm T tk ls byt) (f : Frm No w w') : IsQ w' g rm T tk ls byt := h.frm f (fun h => h) (fun _ _ _ h => h) (fun _ _ _ h => h)
theorem IsQ.blk {w : World} {g : Nat} {rm : Int} {T : List Tx} {tk : Nat} {ls byt : Int} (h : IsQ w g rm T tk ls byt) : ∃ cs, Blk w g cs 64 := by
  obtain ⟨v, hb, _⟩ := h
  exact ⟨_, hb⟩
/-- The first text's cells. -/
theorem first_tx {w : World} {v : Value} {t : Tx} {R : List Tx} (h : w.ownsRow 0 70 2 v (t :: R).length ((t :: R).flatMap Tx.cells)) :
    ∃ k c, v = .slice (some ⟨k, 0, none⟩) (R.length + 1) c ∧ R.length + 1 ≤ c ∧ w.cell? ⟨k, 0, none⟩ = some (.int .u64 t.id) ∧ w.cell? ⟨k, 1, none⟩ = some t.val ∧ ∃ cs, Blk w k cs 70 := by
  have h' := h
  rcases h.2 with ⟨hv, h0⟩ | ⟨g, cap, cur, rfl, hg, hh, h1, _⟩
  · rw [List.length_cons] at h0; omega
  · have hc := h'.cells (g := g) rfl
    refine ⟨g, cap, rfl, h1, ?_, ?_, ⟨cur, hh⟩⟩
    · exact hc 0 _ (by rw [List.flatMap_cons]; rfl)
    · exact hc 1 _ (by rw [List.flatMap_cons]; rfl)
set_option maxRecDepth 100000 in
set_option maxHeartbeats 2000000 in
theorem queue_new (w : World) (rm : Int) (h1 : 1 ≤ rm) (h2 : rm ≤ 20000) : Calls Try.prog 5 #[.int .i64 rm] w fun e w' => e = .returned (.tuple #[.pointer (some ⟨w.heap.size, 0, none⟩), .int .i64 0]) ∧ IsQ w' w.heap.size rm [] 0 0 0 ∧ Frm No w w' := by
  go_enter Try.func5, Try.ntmps5
  go_wp2_with fail
  go_ret2
  exact ⟨rfl, ⟨_, Blk.new _ _ _, World.ownsRow_nil _ _ _ _, fun t h => by cases h⟩, (Frm.refl No w).alloc _⟩
set_option maxRecDepth 100000 in
set_option maxHeartbeats 2000000 in
theorem made_is (w : World) (g : Nat) (rm : Int) (T : List Tx) (tk : Nat) (ls byt : Int) (h : IsQ w g rm T tk ls byt) (h1 : 0 < rm) : Calls Try.prog 21 #[.pointer (some ⟨g, 0, none⟩)] w fun e w' => e = .returned (.bool true) ∧ w' = w := by
  obtain ⟨v, hb, ho, ht⟩ := h
  have c0 : w.cell? ⟨g, 0, none⟩ = some (.int .i64 rm) := hb.cell 0
  clear hb ho ht
  go_enter Try.func21, Try.ntmps21
  go_wp2_with fail
  go_ret
  exact ⟨rfl, rfl⟩
set_option maxRecDepth 100000 in
set_option maxHeartbeats 2000000 in
theorem bytes_is (w : World) (g : Nat) (rm : Int) (T : List Tx) (tk : Nat) (ls byt : Int) (h : IsQ w g rm T tk ls byt) : Calls Try.prog 10 #[.pointer (some ⟨g, 0, none⟩)] w fun e w' => e = .returned (.int .i64 byt) ∧ w' = w := by
  obtain ⟨v, hb, ho, ht⟩ := h
  have c0 : w.cell? ⟨g, 4, none⟩ = some (.int .i64 byt) := hb.cell 4
  clear hb ho ht
  go_enter Try.func10, Try.ntmps10
  go_wp2_with fail
  go_ret
  exact ⟨rfl, rfl⟩
set_option maxRecDepth 100000 in
set_option maxHeartbeats 2000000 in
theorem front_none (w : World) (g : Nat) (rm : Int) (tk : Nat) (ls byt : Int) (h : IsQ w g rm [] tk ls byt) (h1 : 0 < rm) : Calls Try.prog 25 #[.pointer (some ⟨g, 0, none⟩)] w fun e w' => e = .returned (.tuple #[.int .u64 0, .slice none 0 0, .bool false]) ∧ w' = w := by
  have hm := made_is w g rm [] tk ls byt h h1
  obtain ⟨v, hb, ho, ht⟩ := h
  obtain ⟨A, c, rfl, -, -⟩ := own_is ho
  have c1 : w.cell? ⟨g, 1, none⟩ = some (.slice A 0 c) := hb.cell 1
  clear hb ho ht
  go_enter Try.func25, Try.ntmps25
  go_wp2_with fail
  refine hm.mono ?_
  rintro e w1 ⟨rfl, rfl⟩
  go_wp2_with fail
  go_ret3
  exact ⟨rfl, rfl⟩
set_option maxRecDepth 100000 in
set_option maxHeartbeats 2000000 in
/-- Take of no byte. -/
theorem take_zero (w : World) (g : Nat) (rm : Int) (T : List Tx) (tk : Nat) (ls byt : Int) (h : IsQ w g rm T tk ls byt) (h1 : 0 < rm) (hT : ∀ t R, T = t :: R → tk ≤ t.bs.length) (hn : T.length ≤ 1000) :
    Calls Try.prog 24 #[.pointer (some ⟨g, 0, none⟩), .int .i64 0] w fun e w' => e = .returned (.tuple #[.slice none 0 0, .bool false, .int .i64 (if T.length = 0 then 4 else 1)]) ∧ Frm No w w' := by
  have hm := made_is w g rm T tk ls byt h h1
  obtain ⟨v, hb, ho, ht⟩ := h
  cases T with
  | nil =>
    obtain ⟨A, c, rfl, -, -⟩ := own_is ho
    have c1 : w.cell? ⟨g, 1, none⟩ = some (.slice A 0 c) := hb.cell 1
    clear hb ho ht hT
    go_enter Try.func24, Try.ntmps24
    go_wp2_with fail
    refine hm.mono ?_
    rintro e w1 ⟨rfl, rfl⟩
    go_wp2_with fail
    go_ret3
    exact ⟨rfl, Frm.refl _ _⟩
  | cons t R =>
    have htk := hT t R rfl
    obtain ⟨k, c, rfl, hc, x0, x1, cs, hbk⟩ := first_tx ho
    obtain ⟨A, cA, hv, hcA, hbin⟩ := (ht t (List.mem_cons_self ..)).out
    rw [hv] at x1
    obtain ⟨n, hnn⟩ : ∃ n, t.bs.length = n := ⟨_, rfl⟩
    rw [hnn] at htk x1
    have hsl := fun W => slice_l Try.underlying24 size5 A n cA tk htk W
    obtain ⟨A2, hA2⟩ : ∃ A2, cutA A tk 1 cA = A2 := ⟨_, rfl⟩
    rw [hA2] at hsl
    have c1 : w.cell? ⟨g, 1, none⟩ = some (.slice (some ⟨k, 0, none⟩) (R.length + 1) c) := hb.cell 1
    have c2 : w.cell? ⟨g, 2, none⟩ = some (.int .i64 tk) := hb.cell 2
    obtain ⟨m, hmm⟩ : ∃ m, R.length + 1 = m := ⟨_, rfl⟩
    have hm1 : 1 ≤ m := by omega
    have m1 : (1 : Int) ≤ (m : Int) := by omega
    have m2 : (m : Int) ≤ 1000 := by rw [← hmm]; rw [List.length_cons] at hn; omega
    rw [hmm] at c1
    rw [if_neg (by rw [List.length_cons]; omega)]
    have m0 : ¬ m = 0 := by omega
    clear hb ho ht hT hv hbin hbk hA2 hnn hmm hn
    go_enter Try.func24, Try.ntmps24
    go_wp2_with fail
    refine hm.mono ?_
    rintro e w1 ⟨rfl, rfl⟩
    go_wp2_with fail
    go_quiet (fail)
    go_wp2_with fail
    go_ret3
    exact ⟨rfl, (Frm.refl No _).drewN _⟩
end Go.Proofs.Ytccaaldfccgncaa.A

/- What Between of a space does. -/
import Derived.Test.YtalheackdaianaaC
namespace Go.Proofs.Ytalheackdaianaa.A
open Go.RowKit Go.Proofs.Ytalheackdaianaa.K Go.Proofs.Ytalheackdaianaa.N
set_option linter.unusedVariables false
set_option linter.unusedSimpArgs false

theorem info3 : (Try.prog.info? 3).map (fun i => (i.zero, i.size, i.bytes)) = some (some (.int .i64 0), 1, 8) := by kernel_rfl

/-- The numbers from x on, k of them. -/
def run (b x : Int) (k : Nat) : List Int := (List.range k).map fun (i : Nat) => (x + i) % sz b
theorem run_length (b x : Int) (k : Nat) : (run b x k).length = k := by simp [run]
theorem run_succ (b x : Int) (k : Nat) : run b x (k + 1) = run b x k ++ [(x + k) % sz b] := by simp [run, List.range_succ]

def betE (b x y : Int) : Int := if farE b x y = 0 then (if 1024 < farN b x y then 2 else 0) else farE b x y
def betL (b x y : Int) : List Int := if betE b x y = 0 then run b x (farN b x y).toNat else []

/-- What Between leaves: a slice of the call's own. -/
def Handed (w : World) (L : List Int) (E : Int) (e : Ending) (w' : World) : Prop :=
  ∃ v, e = .returned (.tuple #[v, .int .i64 E]) ∧ w'.ownsRow w.heap.size 3 1 v L.length (L.map (Value.int .i64)) ∧ Frm No w w'

/-- A row of the call's own as it grows, at a head of a loop. -/
def Grown1 (w : World) (b x : Int) (N : Nat) (vo vi : Value) (wr : World) : Prop :=
  ∃ k : Nat, vi = .int .i64 k ∧ k ≤ N ∧ wr.ownsRow w.heap.size 3 1 vo k ((run b x k).map (Value.int .i64)) ∧ Blk wr w.heap.size #[.int .i64 b] 23 ∧ Frm No w wr

theorem grown_step {w w2 w3 : World} {b x : Int} {N k gg cap : Nat} {vo : Value} {o : Obj} (hk : k < N)
    (hB : Blk w2 w.heap.size #[.int .i64 b] 23) (hF : Frm No w w2) (ho : w2.ownsRow w.heap.size 3 1 vo k ((run b x k).map (Value.int .i64)))
    (hown : w3.ownsRow w.heap.size 3 1 (.slice (some ⟨gg, 0, none⟩) (k + 1) cap) (k + 1) ((run b x k).map (Value.int .i64) ++ [.int .i64 ((x + k) % sz b)])) (hg : (w2.alloc o).grownBy w3 vo.ownBlock) :
    Grown1 w b x N (.slice (some ⟨gg, 0, none⟩) (k + 1) cap) (.int .i64 ((k : Int) + 1)) w3 := by
  refine ⟨k + 1, by go_num, hk, ?_, ?_, ?_⟩
  · rw [run_succ, List.map_append]; exact hown
  · exact (hB.alloc o).grown hg (fun e => by
      obtain ⟨_, cs, hb⟩ := own_blk (ho.alloc o) e
      exact Blk.ne hb (hB.alloc o) (by decide) rfl)
  · exact (hF.alloc o).grown hg (fun q e => .inr (own_blk (ho.alloc o) e).1)

set_option maxHeartbeats 2000000 in
theorem between_bad (b x y E : Int) (w : World) (hE : farE b x y = E) (h0 : E ≠ 0) : Calls Try.prog 20 #[.agg #[.int .i64 b], .int .i64 x, .int .i64 y] w (Handed w [] E) := by
  have hd : (E != 0) = true := by simpa using h0
  have HE := Lib.hid hE
  clear hE h0
  go_enter Try.func20, Try.ntmps20
  go_wp2_with fail
  refine (far_is b x y E _ _ HE.out rfl).mono ?_
  rintro e w1 ⟨rfl, f1⟩
  go_wp2_with fail
  go_ret2
  exact ⟨_, rfl, World.ownsRow_nil _ _ _ _, ((Frm.refl _ _).alloc _).thenN f1⟩

set_option maxHeartbeats 2000000 in
theorem between_long (b x y N : Int) (w : World) (hE : farE b x y = 0) (hN : farN b x y = N) (h0 : 1024 < N) : Calls Try.prog 20 #[.agg #[.int .i64 b], .int .i64 x, .int .i64 y] w (Handed w [] 2) := by
  have HE := Lib.hid hE
  have HN := Lib.hid hN
  clear hE hN
  go_enter Try.func20, Try.ntmps20
  go_wp2_with fail
  refine (far_is b x y 0 N _ HE.out HN.out).mono ?_
  rintro e w1 ⟨rfl, f1⟩
  go_wp2_with fail
  go_ret2
  exact ⟨_, rfl, World.ownsRow_nil _ _ _ _, ((Frm.refl _ _).alloc _).thenN f1⟩

set_option maxRecDepth 100000 in
set_option maxHeartbeats 2000000 in
theorem between_ok (b x y : Int) (N : Nat) (w : World) (hE : farE b x y = 0) (hN : farN b x y = N) (h0 : N ≤ 1024) : Calls Try.prog 20 #[.agg #[.int .i64 b], .int .i64 x, .int .i64 y] w (Handed w (run b x N) 0) := by
  obtain ⟨hb, hz⟩ := askS_zero hE
  have hx := hz x (by simp)
  have hr := sz_range hb
  have HB := Lib.hid hb
  have HE := Lib.hid hE
  have HN := Lib.hid hN
  clear hE hN hz hb
  obtain ⟨i0, hi, hz0, hz1, hz2⟩ := info_parts info3
  go_enter Try.func20, Try.ntmps20
  go_wp2_with fail
  refine (far_is b x y 0 N _ HE.out HN.out).mono ?_
  rintro e w1 ⟨rfl, f1⟩
  have hB1 := f1.blk (Blk.new w #[.int .i64 b] 23) (fun h => h)
  have hF1 := ((Frm.refl No w).alloc (.cells #[.int .i64 b] 23)).thenN f1
  clear f1
  go_wp2_with fail
  go_loopw [10, 27] (fun vo vi wr => Grown1 w b x N vo vi wr) (fun _ vi _ => N - (intOf vi).toNat)
  case atStart => exact ⟨0, rfl, by omega, World.ownsRow_nil _ _ _ _, hB1, hF1⟩
  case round =>
    clear hB1 hF1
    obtain ⟨k, rfl, hk, ho, hB, hF⟩ := hrel
    have hc0 : wr.cell? ⟨w.heap.size, 0, none⟩ = some (.int .i64 b) := hB.cell 0
    by_cases hlt : k < N
    · have HM := Lib.hid (mask_sz HB.out (x + k))
      go_wp2_with fail
      refine (size_any b _).mono ?_
      rintro e w2 ⟨rfl, f2⟩
      have hB2 := f2.blk hB (fun h => h)
      have hF2 := hF.thenN f2
      have ho2 := own_frm ho f2 (fun _ _ _ h => h)
      have hsz2 := hF2.size
      clear hB hF ho hc0 f2
      have hM := HM.out
      go_wp2_with (at_builtin; refine wpList_append_lies _ rfl _ _ 39 rfl w.heap.size 3 i0 _ 1 8 Try.underlying39 hi hz0 hz1 hz2 rfl (by omega) _ k ((run b x k).map (Value.int .i64)) rfl (ho2.alloc _) ⟨w2.heap.size, 0, none⟩ 1 1 [.int .i64 ((x + k) % sz b)] rfl rfl (World.news_of_block (cs := #[.int .i64 ((x + k) % sz b)]) (t := 3) (fr := (0, 0)) (heap_alloc_new w2 _)) (by simp [Value.oneCell']) (by omega) (by unfold maxLen; omega) (by omega) (by simp; omega) (w2.heap.size + 1) (by simp) ?_; intro gg cap w3 hown3 hgrow3 hat3 hlt3)
      go_roundw
      case rel => exact grown_step hlt hB2 hF2 ho2 hown3 hgrow3
      case measure => simp [intOf]; omega
    · have hkN : k = N := by omega
      subst hkN
      go_wp2_with fail
      go_ret2
      exact ⟨_, rfl, by rw [run_length]; exact ho, hF⟩
end Go.Proofs.Ytalheackdaianaa.A

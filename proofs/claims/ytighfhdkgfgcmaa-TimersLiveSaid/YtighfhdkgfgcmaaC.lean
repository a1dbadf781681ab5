/- What Running and Tick of timers do. -/
import Derived.Test.YtighfhdkgfgcmaaB
namespace Go.Proofs.Ytighfhdkgfgcmaa.A
open Go.RowKit Go.Proofs.Ytighfhdkgfgcmaa.K Go.Proofs.Ytighfhdkgfgcmaa.N
set_option linter.unusedVariables false
set_option linter.unusedSimpArgs false

theorem info3 : (Try.prog.info? 3).map (fun i => (i.zero, i.size, i.bytes)) = some (some (.int .i64 0), 1, 8) := by kernel_rfl

def ints (l : List Nat) : List Int := l.map fun (i : Nat) => (i : Int)
theorem ints_length (l : List Nat) : (ints l).length = l.length := by simp [ints]
theorem ints_append (l r : List Nat) : ints (l ++ r) = ints l ++ ints r := by simp [ints]

/-- A slice of the call's own is handed back. -/
def Handed (S : Nat → Prop) (Post : World → Prop) (w : World) (L : List Int) (e : Ending) (w' : World) : Prop :=
  ∃ v, e = .returned v ∧ w'.ownsRow w.heap.size 3 1 v L.length (L.map (Value.int .i64)) ∧ Frm S w w' ∧ Post w'

def runTo (lf : Nat → Int) (k : Nat) : List Nat := (List.range k).filter fun i => decide (0 < lf i)
theorem runTo_succ (lf : Nat → Int) (k : Nat) : runTo lf (k + 1) = if 0 < lf k then runTo lf k ++ [k] else runTo lf k := by
  simp only [runTo, List.range_succ, List.filter_append]
  by_cases h : 0 < lf k <;> simp [h]
theorem runTo_le (lf : Nat → Int) (k : Nat) : (runTo lf k).length ≤ k := by
  have := List.length_filter_le (fun i => decide (0 < lf i)) (List.range k)
  simpa [runTo] using this

/-- A row of whole numbers of the call's own, as it stands at the head of a loop. -/
def Row (w : World) (v : Value) (l : List Nat) (wr : World) : Prop := wr.ownsRow w.heap.size 3 1 v l.length ((ints l).map (Value.int .i64))

theorem row_push {S : Nat → Prop} {w w2 w3 : World} {gg cap : Nat} {vo : Value} {l : List Nat} {k : Nat} {o : Obj} (hF : Frm S w w2) (ho : Row w vo l w2)
    (hown : w3.ownsRow w.heap.size 3 1 (.slice (some ⟨gg, 0, none⟩) (l.length + 1) cap) (l.length + 1) ((ints l).map (Value.int .i64) ++ [.int .i64 k])) (hg : (w2.alloc o).grownBy w3 vo.ownBlock) :
    Row w (.slice (some ⟨gg, 0, none⟩) (l.length + 1) cap) (l ++ [k]) w3 ∧ Frm S w w3 := by
  refine ⟨?_, (hF.alloc o).grown hg (fun q e => .inr (own_blk (ho.alloc o) e).1)⟩
  unfold Row
  rw [ints_append, List.map_append, List.length_append, List.length_singleton]; exact hown

set_option maxRecDepth 100000 in
set_option maxHeartbeats 2000000 in
theorem running_gen (p : Value) (lf : Nat → Int) (w : World) (hcall : ∀ (wr : World) (k : Nat), Frm No w wr → k < 8 → Calls Try.prog 10 #[p, .int .i64 k] wr fun e w' => e = .returned (.int .i64 (lf k)) ∧ wr = w') :
    Calls Try.prog 18 #[p] w (Handed No (fun _ => True) w (ints (runTo lf 8))) := by
  obtain ⟨i0, hi, hz0, hz1, hz2⟩ := info_parts info3
  have HC := Lib.hid hcall
  clear hcall
  go_enter Try.func18, Try.ntmps18
  go_wp2_with fail
  go_loopw [3, 5] (fun vo vi wr => ∃ k : Nat, vi = .int .i64 k ∧ k ≤ 8 ∧ Row w vo (runTo lf k) wr ∧ Frm No w wr) (fun _ vi _ => 8 - (intOf vi).toNat)
  case atStart => exact ⟨0, rfl, by omega, World.ownsRow_nil _ _ _ _, Frm.refl _ _⟩
  case round =>
    obtain ⟨k, rfl, hk, ho, hF⟩ := hrel
    by_cases hlt : k < 8
    · have hsuc := runTo_succ lf k
      have hle := runTo_le lf k
      have hsz := hF.size
      by_cases hpos : 0 < lf k
      · rw [if_pos hpos] at hsuc
        have HS := Lib.hid hsuc
        clear hsuc
        unfold Row at ho
        go_wp2_with fail
        refine (HC.out _ k hF hlt).mono ?_
        rintro e w2 ⟨rfl, rfl⟩
        go_wp2_with (at_builtin; refine wpList_append_lies _ rfl _ _ 30 rfl w.heap.size 3 i0 _ 1 8 Try.underlying30 hi hz0 hz1 hz2 rfl (by omega) _ (runTo lf k).length ((ints (runTo lf k)).map (Value.int .i64)) rfl (ho.alloc _) ⟨wr.heap.size, 0, none⟩ 1 1 [.int .i64 k] rfl rfl (World.news_of_block (cs := #[.int .i64 k]) (t := 3) (fr := (0, 0)) (heap_alloc_new wr _)) (by simp [Value.oneCell']) (by omega) (by unfold maxLen; omega) (by omega) (by simp; omega) (wr.heap.size + 1) (by simp) ?_; intro gg cap w3 hown3 hgrow3 hat3 hlt3)
        go_roundw
        case rel =>
          obtain ⟨r1, r2⟩ := row_push hF ho hown3 hgrow3
          exact ⟨k + 1, by go_num, by omega, by rw [HS.out]; exact r1, r2⟩
        case measure => simp [intOf]; omega
      · rw [if_neg hpos] at hsuc
        have HS := Lib.hid hsuc
        clear hsuc
        go_wp2_with fail
        refine (HC.out _ k hF hlt).mono ?_
        rintro e w2 ⟨rfl, rfl⟩
        go_wp2_with fail
        go_roundw
        case rel => exact ⟨k + 1, by go_num, by omega, by rw [HS.out]; exact ho, hF⟩
        case measure => simp [intOf]; omega
    · have hk8 : k = 8 := by omega
      subst hk8
      go_wp2_with fail
      go_ret
      exact ⟨_, rfl, by rw [ints_length]; exact ho, hF, trivial⟩

theorem running_ok (w : World) (g : Nat) (L : List Int) (h : IsT w g true L) : Calls Try.prog 18 #[.pointer (some ⟨g, 0, none⟩)] w (Handed No (fun _ => True) w (ints (runL L))) :=
  running_gen _ (fun k => L.getD k 0) w fun wr k hf hk => left_ok wr g L k (h.frm hf (fun h => h)) hk
theorem runTo_zero (n : Nat) : runTo (fun _ => 0) n = [] := by simp [runTo]
theorem running_nil (w : World) : Calls Try.prog 18 #[.pointer none] w (Handed No (fun _ => True) w []) := by
  have := running_gen (.pointer none) (fun _ => 0) w fun wr k hf hk => left_nil wr k
  rwa [runTo_zero] at this
theorem running_zero (w : World) (g : Nat) (L : List Int) (h : IsT w g false L) : Calls Try.prog 18 #[.pointer (some ⟨g, 0, none⟩)] w (Handed No (fun _ => True) w []) := by
  have := running_gen (.pointer (some ⟨g, 0, none⟩)) (fun _ => 0) w fun wr k hf hk => left_zero wr g L k (h.frm hf (fun h => h))
  rwa [runTo_zero] at this
end Go.Proofs.Ytighfhdkgfgcmaa.A

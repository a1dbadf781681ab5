/- All of txwin. -/
import Derived.Test.YthefmklblfjfeaaR
namespace Go.Proofs.Ythefmklblfjfeaa.A
open Go.RowKit Go.Proofs.Ythefmklblfjfeaa.K Go.Proofs.Ythefmklblfjfeaa.N
set_option linter.unusedVariables false
set_option linter.unusedSimpArgs false

theorem info3 : (Try.prog.info? 3).map (fun i => (i.zero, i.size, i.bytes)) = some (some (.int .i64 0), 1, 8) := by kernel_rfl
def Row (w : World) (v : Value) (l : List Int) (wr : World) : Prop := wr.ownsRow w.heap.size 3 1 v l.length (l.map (Value.int .i64))
def Handed (S : Nat → Prop) (Post : World → Prop) (w : World) (L : List Int) (e : Ending) (w' : World) : Prop :=
  ∃ v, e = .returned v ∧ w'.ownsRow w.heap.size 3 1 v L.length (L.map (Value.int .i64)) ∧ Frm S w w' ∧ Post w'

theorem MapB.grown {w w' : World} {b n : Nat} {f : Int → Bool} {row : Option Nat} (h : MapB w b n f) (hg : w.grownBy w' row) (hr : row ≠ some b) : MapB w' b n f := by
  obtain ⟨D, h1, h2⟩ := h
  exact ⟨D, h1.kept hg (fun e => hr e.symm), h2⟩

theorem all_push {w W w3 : World} {g gg cap n : Nat} {i : Int} {cs : Array Value} {mb : Nat} {f : Int → Bool} {l : List Int} {vo : Value} {o : Obj} (hT : Blk W g cs 53) (hM : MapB W mb n f)
    (hR : Row w vo l W) (hF : Frm No w W)
    (hown : w3.ownsRow w.heap.size 3 1 (.slice (some ⟨gg, 0, none⟩) (l.length + 1) cap) (l.length + 1) (l.map (Value.int .i64) ++ [.int .i64 i])) (hg : (W.alloc o).grownBy w3 vo.ownBlock) :
    Blk w3 g cs 53 ∧ MapB w3 mb n f ∧ Row w (.slice (some ⟨gg, 0, none⟩) (l.length + 1) cap) (l ++ [i]) w3 ∧ Frm No w w3 := by
  have hR' : (W.alloc o).ownsRow w.heap.size 3 1 vo l.length (l.map (Value.int .i64)) := World.ownsRow.alloc hR o
  refine ⟨(hT.alloc o).grown hg (fun e => ?_), (hM.alloc o).grown hg (fun e => ?_), ?_, (hF.alloc o).grown hg (fun q e => .inr (own_blk hR' e).1)⟩
  · obtain ⟨_, cs, hb⟩ := own_blk hR' e
    exact Blk.ne hb (hT.alloc o) (by decide) rfl
  · obtain ⟨_, cs, hb⟩ := own_blk hR' e
    exact (hM.alloc o).ne hb rfl
  · unfold Row
    rw [List.map_append, List.length_append, List.length_singleton]; exact hown

theorem all_nil (w : World) : Calls Try.prog 9 #[.pointer none] w (Handed No (fun _ => True) w []) := by
  go_enter Try.func9, Try.ntmps9
  go_wp2_with (go_at_call 27; refine (made_nil _).mono ?_; rintro e w' ⟨rfl, rfl⟩)
  go_ret
  exact ⟨_, rfl, World.ownsRow_nil _ _ _ _, Frm.refl _ _, trivial⟩

/-- The open ones of the first j behind a. -/
def openTo (b a : Int) (f : Int → Bool) (j : Nat) : List Int := ((List.range j).filter (fun (i : Nat) => !f ((a + i) % sz b))).map fun (i : Nat) => (a + i) % sz b
theorem openTo_succ (b a : Int) (f : Int → Bool) (j : Nat) : openTo b a f (j + 1) = if f ((a + j) % sz b) = true then openTo b a f j else openTo b a f j ++ [(a + j) % sz b] := by
  unfold openTo
  rw [List.range_succ, List.filter_append, List.map_append]
  cases h : f ((a + j) % sz b) <;> simp [h]
theorem openTo_le (b a : Int) (f : Int → Bool) (j : Nat) : (openTo b a f j).length ≤ j := by
  unfold openTo
  have := List.length_filter_le (fun (i : Nat) => !f ((a + i) % sz b)) (List.range j)
  simpa using this

def AllRel (w : World) (g : Nat) (b z a s : Int) (mb n : Nat) (f : Int → Bool) (J q : Nat) (vo vn : Value) (wr : World) : Prop :=
  ∃ j : Nat, q + j = J ∧ vn = .int .i64 ((a + j) % sz b) ∧ Blk wr g (winA b z a s mb) 53 ∧ MapB wr mb n f ∧ Row w vo (openTo b a f j) wr ∧ Frm No w wr

theorem small_wf {b x : Int} (h : 0 ≤ x ∧ x < sz b) : (Lit.int .i64 x).wf = true := by
  have := sz_le b
  exact WalkArith.wf_i64 (by omega)

set_option maxRecDepth 100000 in
set_option maxHeartbeats 4000000 in
theorem all_ok (w : World) (g : Nat) (b z a s : Int) (mb n : Nat) (f : Int → Bool) (h : Blk w g (winA b z a s mb) 53) (hm : MapB w mb n f) (hb : 1 ≤ b ∧ b ≤ 16) (ha : 0 ≤ a ∧ a < sz b) (J : Nat) (hJ : J ≤ 65536)
    (h1 : ∀ j : Nat, j < J → (a + j) % sz b ≠ s) (h2 : (a + J) % sz b = s) :
    Calls Try.prog 9 #[.pointer (some ⟨g, 0, none⟩)] w (Handed No (fun _ => True) w (openTo b a f J)) := by
  obtain ⟨i0, hi, hz0, hz1, hz2⟩ := info_parts info3
  have hb0 := (sz_range hb).1
  have c2 : w.cell? ⟨g, 2, none⟩ = some (.int .i64 a) := h.cell 2
  have H1 := Lib.hid h1
  have H2 := Lib.hid h2
  clear h1 h2
  have ea : a = (a + (0 : Nat)) % sz b := by rw [Int.emod_eq_of_lt (by omega) (by omega)]; omega
  have EA := Lib.hid ea
  clear ea
  go_enter Try.func9, Try.ntmps9
  go_wp2_with fail
  refine (made_ok _ g _ _ _ _ _ h).mono ?_
  rintro e w' ⟨rfl, rfl⟩
  go_wp2_with fail
  go_loopg [3, 4] J (fun q vo vn wr => AllRel w g b z a s mb n f J q vo vn wr)
  case atStart => exact ⟨0, by omega, by rw [← EA.out], h, hm, World.ownsRow_nil _ _ _ _, Frm.refl _ _⟩
  case round =>
    clear h hm c2
    obtain ⟨j, hq, rfl, ht, hm, ho, hF⟩ := hrel
    have hr0 : 0 ≤ (a + j) % sz b := Int.emod_nonneg _ (by omega)
    have hr1 : (a + j) % sz b < sz b := Int.emod_lt_of_pos _ (by omega)
    have hnx : ((a + j) % sz b + 1) % sz b = (a + (j + 1 : Nat)) % sz b := by rw [Int.add_emod, Int.emod_emod, ← Int.add_emod]; congr 1; omega
    obtain ⟨hE, hN⟩ := go_one hb ⟨hr0, hr1⟩
    rw [hnx] at hN
    have hsuc := openTo_succ b a f j
    have hle := openTo_le b a f j
    have c0 : wr.cell? ⟨g, 0, none⟩ = some (.int .i64 b) := ht.cell 0
    have c3 : wr.cell? ⟨g, 3, none⟩ = some (.int .i64 s) := ht.cell 3
    have c4 : wr.cell? ⟨g, 4, none⟩ = some (.map (some mb)) := ht.cell 4
    have hlook := hm.look _ (small_wf ⟨hr0, hr1⟩)
    have hsz := hF.size
    by_cases hlt : j < J
    · have hne : ((a + j) % sz b != s) = true := by simpa using H1.out j hlt
      obtain ⟨v, hv⟩ : ∃ v, (a + j) % sz b = v := ⟨_, rfl⟩
      obtain ⟨v', hv'⟩ : ∃ v', (a + (j + 1 : Nat)) % sz b = v' := ⟨_, rfl⟩
      rw [hv] at hne hlook hE hN hsuc hr0 hr1 hnx
      rw [hv'] at hN hnx
      have HV' := Lib.hid hv'
      have HQ := Lib.hid hq
      rw [hv]
      clear hv hv' hq hnx
      cases hfv : f v with
      | true =>
        rw [hfv] at hlook hsuc
        rw [if_pos rfl] at hsuc
        have HS := Lib.hid hsuc
        clear hsuc
        go_wp2_with fail
        refine (go_is b v 1 0 v' _ hE hN).mono ?_
        rintro e w2 ⟨rfl, f2⟩
        go_wp2_with fail
        go_roundg (J - (j + 1))
        case rel => exact ⟨j + 1, by have := HQ.out; omega, by rw [HV'.out], f2.blk ht (fun h => h), hm.frm f2 (fun h => h), by rw [HS.out]; exact own_frm ho f2 (fun _ _ _ h => h), hF.thenN f2⟩
        case measure => have := HQ.out; omega
      | false =>
        rw [hfv] at hlook hsuc
        rw [if_neg (by decide)] at hsuc
        have HS := Lib.hid hsuc
        clear hsuc
        generalize openTo b a f j = R0 at *
        unfold Row at ho
        go_wp2_with (at_builtin; go_must (refine wpList_append_lies _ rfl _ _ 31 rfl w.heap.size 3 i0 _ 1 8 Try.underlying31 hi hz0 hz1 hz2 rfl (by omega) _ R0.length (R0.map (Value.int .i64)) rfl (ho.alloc _) ⟨wr.heap.size, 0, none⟩ 1 1 [.int .i64 v] rfl rfl (World.news_of_block (cs := #[.int .i64 v]) (t := 3) (fr := (0, 0)) (heap_alloc_new wr _)) (by simp [Value.oneCell']) (by omega) (by unfold maxLen; omega) (by omega) (by simp; omega) (wr.heap.size + 1) (by simp) ?_); intro gg cap w3 hown3 hgrow3 hat3 hlt3; obtain ⟨r0, r1, r2, r3⟩ := all_push ht hm ho hF hown3 hgrow3; have d0 : w3.cell? ⟨g, 0, none⟩ = some (.int .i64 b) := r0.cell 0)
        refine (go_is b v 1 0 v' _ hE hN).mono ?_
        rintro e w4 ⟨rfl, f4⟩
        go_wp2_with fail
        go_roundg (J - (j + 1))
        case rel => exact ⟨j + 1, by have := HQ.out; omega, by rw [HV'.out], f4.blk r0 (fun h => h), r1.frm f4 (fun h => h), by rw [HS.out]; exact own_frm r2 f4 (fun _ _ _ h => h), r3.thenN f4⟩
        case measure => have := HQ.out; omega
    · have hjJ : j = J := by omega
      subst hjJ
      have hs := H2.out
      rw [hs]
      clear hlook hE hN hsuc hr0 hr1 hnx
      go_wp2_with fail
      go_ret
      exact ⟨_, rfl, ho, hF, trivial⟩
end Go.Proofs.Ythefmklblfjfeaa.A

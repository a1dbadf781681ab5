/- Two rows compared; all that waits; a way that is nil, or that no call made. -/
import Derived.Test.YtbhkhabkkghapaaWS
namespace Go.Proofs.Ytbhkhabkkghapaa.A
open Go.RowKit Go.Proofs.Ytbhkhabkkghapaa.K Go.Proofs.Ytbhkhabkkghapaa.N Go.Proofs.Ytbhkhabkkghapaa.F
set_option linter.unusedVariables false
set_option linter.unusedSimpArgs false

set_option maxRecDepth 100000 in
set_option maxHeartbeats 4000000 in
theorem same_ok (w : World) (B B' : Nat) (k k' : Option Nat) (A A' : Option Addr) (n c c' : Nat) (S S' : List Bl) (L : List (List Nat)) (hn : L.length = n) (hn2 : n ≤ 256) (h : RowS w B (.slice A n c) k S L) (h' : RowS w B' (.slice A' n c') k' S' L) :
    Calls Try.prog 23 #[.slice A n c, .slice A' n c'] w fun e w' => e = .returned (.bool true) ∧ Frm No w w' := by
  have H := Lib.hid (And.intro h (And.intro h' hn))
  clear h h' hn
  go_enter Try.func23, Try.ntmps23
  go_wp2_with fail
  go_loopw [5] (fun vk wr => ∃ j : Nat, vk = .int .i64 j ∧ j ≤ n ∧ Frm No w wr) (fun vk _ => n - (intOf vk).toNat)
  case atStart => exact ⟨0, rfl, by omega, Frm.refl _ _⟩
  case round =>
    obtain ⟨j, rfl, hj, F⟩ := hrel
    by_cases hjn : j < n
    · have j1 : (j : Int) < (n : Int) := by omega
      have j0 : (0 : Int) ≤ (j : Int) := by omega
      obtain ⟨ad, rfl, hc, hB⟩ := (H.out.1.frmN F).at_ (j := j) (by rw [H.out.2.2]; exact hjn)
      obtain ⟨ad', rfl, hc', hB'⟩ := (H.out.2.1.frmN F).at_ (j := j) (by rw [H.out.2.2]; exact hjn)
      obtain ⟨⟨a1, a2, a3⟩, ha⟩ : ∃ b, S.getD j bl0 = b := ⟨_, rfl⟩
      obtain ⟨⟨b1, b2, b3⟩, hb⟩ : ∃ b, S'.getD j bl0 = b := ⟨_, rfl⟩
      rw [ha] at hc hB
      rw [hb] at hc' hB'
      have s1 := fun m => (hB.frmN ((Frm.refl No wr).drewN m)).str
      have s2 := fun m => (hB'.frmN ((Frm.refl No wr).drewN m)).str
      simp only [Bl.val] at s1 s2 hc hc'
      obtain ⟨l, hl⟩ : ∃ l, L.getD j [] = l := ⟨_, rfl⟩
      rw [hl] at s1 s2
      clear ha hb hB hB' hl
      go_wp2_with fail
      go_quiet (fail)
      go_wp2_with fail
      go_roundw
      case rel => exact ⟨j + 1, by go_num, by omega, F.drewN _⟩
      case measure => simp [intOf]; omega
    · have j1 : ¬ (j : Int) < (n : Int) := by omega
      go_wp2_with fail
      go_ret
      exact ⟨rfl, F⟩
set_option maxRecDepth 100000 in
set_option maxHeartbeats 4000000 in
theorem all_ok (w : World) (B g : Nat) (k : Option Nat) (L : List (List Nat)) (se lo : Int) (h : IsW w B g k L se lo) (hF : Fits L) : Calls Try.prog 24 #[.pointer (some ⟨g, 0, none⟩)] w fun e w' =>
    ∃ A c k' S, e = .returned (.slice A L.length c) ∧ RowS w' w.heap.size (.slice A L.length c) k' S L ∧ Frm No w w' := by
  obtain ⟨j0, hi9, hz0, hz1, hz2⟩ := info_parts info22
  have hL := h.1
  obtain ⟨n, hn⟩ : ∃ n, L.length = n := ⟨_, rfl⟩
  rw [hn] at hL ⊢
  have H := Lib.hid (And.intro h (And.intro hF hn))
  clear h hF hn
  go_enter Try.func24, Try.ntmps24
  go_wp2_with fail
  go_loopw [3, 4] (fun vl vk wr => ∃ (j : Nat) (S : List Bl), vk = .int .i64 j ∧ j ≤ n ∧ wr.ownsRow w.heap.size 22 1 vl j (S.map Bl.val) ∧ RdL wr S (L.take j) ∧ Frm No w wr) (fun _ vk _ => n - (intOf vk).toNat)
  case atStart => exact ⟨0, [], rfl, by omega, World.ownsRow_nil _ _ _ _, ⟨by simp, fun q hq => absurd hq (by simp)⟩, Frm.refl _ _⟩
  case round =>
    obtain ⟨j, S, rfl, hj, own, hrd, F⟩ := hrel
    have W1 := H.out.1.frmN F
    by_cases hjn : j < n
    · have j1 : (j : Int) < (n : Int) := by omega
      have hj2 : j ≤ 256 := by omega
      have hS : S.length = j := by rw [hrd.1, List.length_take, H.out.2.2]; omega
      have hln := len_ok wr B g k L se lo W1
      rw [H.out.2.2] at hln
      have HR := Lib.hid (And.intro hrd (And.intro W1 hS))
      obtain ⟨A5, c5, rfl, -, -⟩ := own_is own
      have OWN := Lib.hid own
      clear hrd own W1 hS
      go_wp2_with fail
      refine hln.mono ?_
      rintro e w1 ⟨rfl, rfl⟩
      go_wp2_with fail
      refine (at_any w1 B g k L se lo (j : Int) HR.out.2.1 H.out.2.1).mono ?_
      rintro e w2 ⟨⟨dA, dn, dc⟩, rfl, hb2, f2⟩
      have hask : askI L (j : Int) = 0 := if_pos ⟨by omega, by rw [H.out.2.2]; omega⟩
      rw [hask, if_pos rfl, Int.toNat_natCast] at hb2
      rw [hask]
      have own1 := (own_frm OWN.out f2 (fun _ _ _ h => h)).alloc (.cells #[.slice dA dn dc] 22)
      have hrd := new_rds w2 (.slice dA dn dc) 22
      have F1 := (F.thenN f2).alloc (.cells #[.slice dA dn dc] 22)
      have hsz : w.heap.size ≤ (w2.alloc (.cells #[.slice dA dn dc] 22)).heap.size := F1.size
      have HB := Lib.hid (And.intro hb2 f2)
      simp only [Bl.val]
      clear hb2 f2 hask hln
      go_wp2_with (at_builtin; go_must (refine wpList_append_rds _ rfl _ _ 32 rfl w.heap.size 22 j0 _ 1 24 Try.underlying32 hi9 hz0 hz1 hz2 rfl (by omega) (.slice A5 j c5) j (S.map Bl.val) rfl own1 (some ⟨w2.heap.size, 0, none⟩) 1 1 [.slice dA dn dc] rfl hrd (by simp [Value.oneCell']) (by unfold maxLen; omega) (by omega) hsz ?_; intro v3 w3 own3 hg3))
      have F3 := own_grown own1 F1 (Nat.le_refl _) hg3
      have G3 : Frm (fun x => (Value.slice A5 j c5).ownBlock = some x) w2 w3 := ((Frm.refl (fun x => (Value.slice A5 j c5).ownBlock = some x) w2).alloc (.cells #[.slice dA dn dc] 22)).grown hg3 (fun q e => .inl e)
      have h5 : ∀ x cs, Blk w2 x cs 5 → ¬ ((Value.slice A5 j c5).ownBlock = some x) := fun x cs hx e => by
        obtain ⟨_, cs', hc⟩ := own_blk (own_frm OWN.out HB.out.2 (fun _ _ _ h => h)) e
        exact Blk.ne hx hc (by decide) rfl
      have hrd3 : RdL w3 (S ++ [⟨dA, dn, dc⟩]) (L.take (j + 1)) := by
        rw [take_one (d := []) (by rw [H.out.2.2]; exact hjn)]
        exact ((HR.out.1.frm HB.out.2 (fun _ _ _ h => h)).frm G3 h5).app (HB.out.1.frm G3 h5)
      have HR3 := Lib.hid hrd3
      clear hrd3 h5 G3
      go_wp2_with fail
      go_roundw
      case rel => 
        refine ⟨j + 1, S ++ [⟨dA, dn, dc⟩], by go_num, by omega, by simpa [Bl.val] using own3, HR3.out, F3⟩
      case measure => simp [intOf]; omega
    · have j1 : ¬ (j : Int) < (n : Int) := by omega
      have hjn2 : j = n := by omega
      subst hjn2
      rw [List.take_of_length_le (by rw [H.out.2.2]; omega)] at hrd
      have hln := len_ok wr B g k L se lo W1
      rw [H.out.2.2] at hln
      obtain ⟨A5, c5, rfl, -, -⟩ := own_is own
      have HR := Lib.hid (And.intro hrd own)
      clear hrd own W1
      go_wp2_with fail
      refine hln.mono ?_
      rintro e w1 ⟨rfl, rfl⟩
      go_wp2_with fail
      go_ret
      exact ⟨A5, c5, _, S, rfl, ⟨by rw [H.out.2.2]; exact HR.out.2, rfl, HR.out.1⟩, F⟩
/-- A way that no call made. -/
def Zero (w : World) (g : Nat) : Prop := Blk w g #[.bool false, .slice none 0 0, .int .i64 0, .int .i64 0] 48
theorem ask_nil (w : World) (i : Int) : Calls Try.prog 26 #[.pointer none, .int .i64 i] w fun e w' => e = .returned (.int .i64 6) ∧ w' = w := by
  go_enter Try.func26, Try.ntmps26
  go_wp2_with fail
  go_ret
  exact ⟨rfl, rfl⟩
theorem ask_zero (w : World) (g : Nat) (i : Int) (h : Zero w g) : Calls Try.prog 26 #[.pointer (some ⟨g, 0, none⟩), .int .i64 i] w fun e w' => e = .returned (.int .i64 6) ∧ w' = w := by
  have k0 : w.cell? ⟨g, 0, none⟩ = some (.bool false) := Blk.cell h 0
  clear h
  go_enter Try.func26, Try.ntmps26
  go_wp2_with fail
  go_ret
  exact ⟨rfl, rfl⟩
theorem at_six (w : World) (p : Option Addr) (i : Int) (h : Calls Try.prog 26 #[.pointer p, .int .i64 i] w fun e w' => e = .returned (.int .i64 6) ∧ w' = w) : Calls Try.prog 11 #[.pointer p, .int .i64 i] w fun e w' => e = .returned (.tuple #[.slice none 0 0, .int .i64 6]) ∧ w' = w := by
  go_enter Try.func11, Try.ntmps11
  go_wp2_with fail
  refine h.mono ?_
  rintro e w1 ⟨rfl, rfl⟩
  go_wp2_with fail
  go_ret2
  exact ⟨rfl, rfl⟩
theorem take_six (w : World) (p : Option Addr) (i : Int) (h : Calls Try.prog 26 #[.pointer p, .int .i64 i] w fun e w' => e = .returned (.int .i64 6) ∧ w' = w) : Calls Try.prog 15 #[.pointer p, .int .i64 i] w fun e w' => e = .returned (.tuple #[.slice none 0 0, .int .i64 6]) ∧ w' = w := by
  go_enter Try.func15, Try.ntmps15
  go_wp2_with fail
  refine (at_six w p i h).mono ?_
  rintro e w1 ⟨rfl, rfl⟩
  go_wp2_with fail
  go_ret2
  exact ⟨rfl, rfl⟩
theorem lose_six (w : World) (p : Option Addr) (i : Int) (h : Calls Try.prog 26 #[.pointer p, .int .i64 i] w fun e w' => e = .returned (.int .i64 6) ∧ w' = w) : Calls Try.prog 17 #[.pointer p, .int .i64 i] w fun e w' => e = .returned (.int .i64 6) ∧ w' = w := by
  go_enter Try.func17, Try.ntmps17
  go_wp2_with fail
  refine (take_six w p i h).mono ?_
  rintro e w1 ⟨rfl, rfl⟩
  go_wp2_with fail
  go_ret
  exact ⟨rfl, rfl⟩
theorem move_six (w : World) (p : Option Addr) (i t : Int) (h : Calls Try.prog 26 #[.pointer p, .int .i64 i] w fun e w' => e = .returned (.int .i64 6) ∧ w' = w) : Calls Try.prog 13 #[.pointer p, .int .i64 i, .int .i64 t] w fun e w' => e = .returned (.int .i64 6) ∧ w' = w := by
  go_enter Try.func13, Try.ntmps13
  go_wp2_with fail
  refine h.mono ?_
  rintro e w1 ⟨rfl, rfl⟩
  go_wp2_with fail
  go_ret
  exact ⟨rfl, rfl⟩
theorem spoil_six (w : World) (p : Option Addr) (i a q : Int) (h : Calls Try.prog 26 #[.pointer p, .int .i64 i] w fun e w' => e = .returned (.int .i64 6) ∧ w' = w) : Calls Try.prog 10 #[.pointer p, .int .i64 i, .int .i64 a, .int .i64 q] w fun e w' => e = .returned (.int .i64 6) ∧ w' = w := by
  go_enter Try.func10, Try.ntmps10
  go_wp2_with fail
  refine h.mono ?_
  rintro e w1 ⟨rfl, rfl⟩
  go_wp2_with fail
  go_ret
  exact ⟨rfl, rfl⟩
theorem send_nil (w : World) (A : Option Addr) (n c : Nat) : Calls Try.prog 9 #[.pointer none, .slice A n c] w fun e w' => e = .returned (.int .i64 6) ∧ w' = w := by
  go_enter Try.func9, Try.ntmps9
  go_wp2_with fail
  go_ret
  exact ⟨rfl, rfl⟩
theorem send_zero (w : World) (g : Nat) (A : Option Addr) (n c : Nat) (h : Zero w g) : Calls Try.prog 9 #[.pointer (some ⟨g, 0, none⟩), .slice A n c] w fun e w' => e = .returned (.int .i64 6) ∧ w' = w := by
  have k0 : w.cell? ⟨g, 0, none⟩ = some (.bool false) := Blk.cell h 0
  clear h
  go_enter Try.func9, Try.ntmps9
  go_wp2_with fail
  go_ret
  exact ⟨rfl, rfl⟩
theorem len_nil (w : World) : Calls Try.prog 12 #[.pointer none] w fun e w' => e = .returned (.int .i64 0) ∧ w' = w := by
  go_enter Try.func12, Try.ntmps12
  go_wp2_with fail
  go_ret
  exact ⟨rfl, rfl⟩
theorem len_zero (w : World) (g : Nat) (h : Zero w g) : Calls Try.prog 12 #[.pointer (some ⟨g, 0, none⟩)] w fun e w' => e = .returned (.int .i64 0) ∧ w' = w := by
  have k0 : w.cell? ⟨g, 1, none⟩ = some (.slice none 0 0) := Blk.cell h 1
  clear h
  go_enter Try.func12, Try.ntmps12
  go_wp2_with fail
  go_ret
  exact ⟨rfl, rfl⟩
theorem clear_nil (w : World) : Calls Try.prog 21 #[.pointer none] w fun e w' => e = .returned (.tuple #[]) ∧ w' = w := by
  go_enter Try.func21, Try.ntmps21
  go_wp2_with fail
  go_end0
  exact ⟨rfl, rfl⟩
theorem counts_nil (w : World) : Calls Try.prog 22 #[.pointer none] w fun e w' => e = .returned (.tuple #[.int .i64 0, .int .i64 0]) ∧ w' = w := by
  go_enter Try.func22, Try.ntmps22
  go_wp2_with fail
  go_ret2
  exact ⟨rfl, rfl⟩
end Go.Proofs.Ytbhkhabkkghapaa.A

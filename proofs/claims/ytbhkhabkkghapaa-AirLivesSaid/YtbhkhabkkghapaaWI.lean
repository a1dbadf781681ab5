/- alive; what fits. -/
import Derived.Test.YtbhkhabkkghapaaWH
namespace Go.Proofs.Ytbhkhabkkghapaa.A
open Go.RowKit Go.Proofs.Ytbhkhabkkghapaa.K Go.Proofs.Ytbhkhabkkghapaa.N Go.Proofs.Ytbhkhabkkghapaa.F
set_option linter.unusedVariables false
set_option linter.unusedSimpArgs false

theorem IsW.kb {w : World} {B g : Nat} {k : Option Nat} {L : List (List Nat)} {se lo : Int} (h : IsW w B g k L se lo) {x : Nat} (hx : k = some x) : B ≤ x := by
  obtain ⟨_, v, S, _, hr⟩ := h
  exact (hr.blk hx).1
theorem Frm.thenW {w0 w w' : World} {g : Nat} (h : Frm No w0 w) (f : Frm (fun x => x = g) w w') (hg : w0.heap.size ≤ g) : Frm No w0 w' := h.then f fun x hx => .inr (by subst hx; exact hg)
theorem Frm.thenK {w0 w w' : World} {k : Option Nat} (h : Frm No w0 w) (f : Frm (fun x => k = some x) w w') (hk : ∀ x, k = some x → w0.heap.size ≤ x) : Frm No w0 w' := h.then f fun x hx => .inr (hk x hx)
theorem IsB.str {w : World} {b : Bl} {L : List Nat} (h : IsB w b L) : (convert 22 9 b.val).run Try.prog w = .ok (.string (bytesS L)) w := by
  obtain ⟨h1, h2, h3⟩ := h
  obtain ⟨A, n, c⟩ := b
  refine string_is L h1.symm (fun j hj => ?_)
  have hn : n = L.length := h1
  obtain ⟨ad, e, hb, hc⟩ := h3.1.2 (by omega)
  refine ⟨ad, e, hc j _ ?_⟩
  rw [List.getElem?_map, List.getElem?_eq_getElem (by omega), List.getD_eq_getElem?_getD, List.getElem?_eq_getElem (by omega)]; rfl
theorem fits_app {L : List (List Nat)} {l : List Nat} (h : Fits L) (h1 : l.length ≤ 4096) (h2 : ∀ c ∈ l, c < 256) : Fits (L ++ [l]) := fun x hx => by
  rcases List.mem_append.1 hx with hx | hx
  · exact h x hx
  · have : x = l := by simpa using hx
    subst this; exact ⟨h1, h2⟩
theorem fits_cut {L : List (List Nat)} {i : Nat} (h : Fits L) : Fits (cutL L i) := fun x hx => by
  unfold cutL at hx
  rcases List.mem_append.1 hx with hx | hx
  · exact h x (List.mem_of_mem_take hx)
  · exact h x (List.mem_of_mem_drop hx)
theorem fits_getD {L : List (List Nat)} (h : Fits L) (i : Nat) : (L.getD i []).length ≤ 4096 ∧ ∀ c ∈ L.getD i [], c < 256 := by
  by_cases hi : i < L.length
  · exact fits_all h hi
  · rw [List.getD_eq_getElem?_getD, List.getElem?_eq_none (by omega)]; exact ⟨by simp, fun c hc => by simp at hc⟩
theorem fits_move {L : List (List Nat)} {i t : Nat} (h : Fits L) : Fits (moveL L i t) := fun x hx => by
  unfold moveL at hx
  rcases List.mem_append.1 hx with hx | hx
  · exact fits_cut h x (List.mem_of_mem_take hx)
  · rcases List.mem_append.1 hx with hx | hx
    · have : x = L.getD i [] := by simpa using hx
      rw [this]; exact fits_getD h i
    · exact fits_cut h x (List.mem_of_mem_drop hx)
theorem fits_set {L : List (List Nat)} {i a : Nat} {q : Int} (h : Fits L) (ha : a < 4 * (L.getD i []).length) : Fits (L.set i (spoilB (L.getD i []) a q)) := fun x hx => by
  rcases List.mem_or_eq_of_mem_set hx with hx | rfl
  · exact h x hx
  · exact ⟨by rw [spoilB_len _ _ _ ha]; exact (fits_getD h i).1, outB_lt _⟩
theorem fits_nil : Fits [] := fun x hx => by simp at hx
theorem fits_of {L : List (List Nat)} (h : (L.all fun l => decide (l.length ≤ 4096) && l.all fun c => decide (c < 256)) = true) : Fits L := fun l hl => by
  have := List.all_eq_true.1 h l hl
  rw [Bool.and_eq_true, decide_eq_true_eq, List.all_eq_true] at this
  exact ⟨this.1, fun c hc => of_decide_eq_true (this.2 c hc)⟩
theorem blk_bin {w : World} {g : Nat} {t : TypeId} {L : List Nat} (h : Blk w g (L.map by8).toArray t) : Bin w (some ⟨g, 0, none⟩) L := by
  refine ⟨by simp, fun h0 => ⟨_, rfl, h.lt, fun j u hu => ?_⟩⟩
  have ea : (⟨g, 0, none⟩ : Addr).add j = ⟨g, j, none⟩ := by unfold Addr.add; by_cases h0 : j = 0 <;> simp [h0]
  rw [ea, h.cell, List.getElem?_toArray]
  exact hu
theorem sp_27 : spoilB [27] 0 2 = [219] := by decide +kernel
theorem str_219 : bytesS [219] = ⟨#[219]⟩ := by rfl

/-- The calls, with what comes of them given. -/
theorem send_is (w : World) (B g : Nat) (k : Option Nat) (L L' : List (List Nat)) (se se' lo E : Int) (A : Option Addr) (n c : Nat) (bs : List Nat) (h : IsW w B g k L se lo) (hbs : Bin w A bs) (hn : bs.length = n) (hn9 : n ≤ 9223372036854775807) (hB : B ≤ w.heap.size)
    (hs1 : -1000000000 ≤ se) (hs2 : se ≤ 1000000000) (hE : sendE L n = E) (hL : (if E = 0 then L ++ [bs] else L) = L') (hse : (if E = 0 then se + 1 else se) = se') :
    Calls Try.prog 9 #[.pointer (some ⟨g, 0, none⟩), .slice A n c] w fun e w' => e = .returned (.int .i64 E) ∧ (∃ k', IsW w' B g k' L' se' lo ∧ Anew w k k') ∧ Frm (fun x => x = g) w w' := by
  subst hE hL hse; exact send_any w B g k L se lo A n c bs h hbs hn hn9 hB hs1 hs2
theorem askI_in {L : List (List Nat)} {i : Int} (h : askI L i = 0) : 0 ≤ i ∧ i < L.length := by
  unfold askI at h
  by_cases hc : 0 ≤ i ∧ i < L.length
  · exact hc
  · rw [if_neg hc] at h; cases h
theorem move_any (w : World) (B g : Nat) (k : Option Nat) (L : List (List Nat)) (se lo i t : Int) (h : IsW w B g k L se lo) (hF : Fits L) (hB : B ≤ w.heap.size) : Calls Try.prog 13 #[.pointer (some ⟨g, 0, none⟩), .int .i64 i, .int .i64 t] w fun e w' =>
    e = .returned (.int .i64 (moveE L i t)) ∧ (∃ k', IsW w' B g k' (if moveE L i t = 0 then moveL L i.toNat t.toNat else L) se lo ∧ Anew w k k') ∧ Frm (fun x => x = g) w w' := by
  have ha := ask_any w B g k L se lo i h
  have hb := ask_any w B g k L se lo t h
  by_cases h1 : askI L i = 0
  · by_cases h2 : askI L t = 0
    · have hE : moveE L i t = 0 := if_pos ⟨h1, h2⟩
      rw [hE, if_pos rfl]
      have hi := askI_in h1
      have ht := askI_in h2
      obtain ⟨i', rfl⟩ := Int.eq_ofNat_of_zero_le hi.1
      obtain ⟨t', rfl⟩ := Int.eq_ofNat_of_zero_le ht.1
      rw [Int.toNat_natCast, Int.toNat_natCast]
      exact move_core w B g k L se lo i' t' h hF hB (by omega) (by omega)
    · have hE : moveE L i t = 1 := if_neg (fun e => h2 e.2)
      have h2' : askI L t = 1 := (askI_two L t).resolve_left h2
      rw [hE, if_neg (by decide)]
      rw [h1] at ha
      rw [h2'] at hb
      clear h1 h2 h2' hE
      go_enter Try.func13, Try.ntmps13
      go_wp2_with fail
      refine ha.mono ?_
      rintro e w1 ⟨rfl, rfl⟩
      go_wp2_with fail
      refine hb.mono ?_
      rintro e w1 ⟨rfl, rfl⟩
      go_wp2_with fail
      go_ret
      exact ⟨rfl, ⟨k, h, .inl rfl⟩, Frm.refl _ _⟩
  · have hE : moveE L i t = 1 := if_neg (fun e => h1 e.1)
    have h1' : askI L i = 1 := (askI_two L i).resolve_left h1
    rw [hE, if_neg (by decide)]
    rw [h1'] at ha
    clear h1 h1' hE hb
    go_enter Try.func13, Try.ntmps13
    go_wp2_with fail
    refine ha.mono ?_
    rintro e w1 ⟨rfl, rfl⟩
    go_wp2_with fail
    go_ret
    exact ⟨rfl, ⟨k, h, .inl rfl⟩, Frm.refl _ _⟩

set_option maxRecDepth 100000 in
set_option maxHeartbeats 4000000 in
theorem alive_yes (w : World) : Calls Try.prog 8 #[] w fun e w' => e = .returned (.bool true) ∧ Frm No w w' := by
  go_enter Try.func8, Try.ntmps8
  go_wp2_with fail
  refine (new_ok w w.heap.size).mono ?_
  rintro e w1 ⟨rfl, W1, F1⟩
  obtain ⟨g, hg⟩ : ∃ g, w.heap.size = g := ⟨_, rfl⟩
  rw [hg] at W1
  rw [hg]
  have hgl : w.heap.size ≤ g := by omega
  have hgl2 : g ≤ w.heap.size := by omega
  have W2 := W1.frmN ((Frm.refl No w1).alloc (.cells #[.int .u8 27] 5))
  have F2 := F1.alloc (.cells #[.int .u8 27] 5)
  have hb2 : Bin (w1.alloc (.cells #[.int .u8 27] 5)) (some ⟨w1.heap.size, 0, none⟩) [27] := blk_bin (Blk.new w1 #[.int .u8 27] 5)
  have B2 : g ≤ (w1.alloc (.cells #[.int .u8 27] 5)).heap.size := by have := F2.size; omega
  clear W1 F1 hg
  go_wp2_with fail
  refine (send_is _ g g none [] [[27]] 0 1 0 0 _ 1 1 [27] W2 hb2 (by rfl) (by omega) B2 (by omega) (by omega) (by rfl) (by rfl) (by rfl)).mono ?_
  rintro e w3 ⟨rfl, ⟨k3, W3, -⟩, f3⟩
  have F3 := Frm.thenW F2 f3 hgl
  have W4 := W3.frmN ((Frm.refl No w3).alloc (.cells #[.int .u8 7] 5))
  have F4 := F3.alloc (.cells #[.int .u8 7] 5)
  have hb4 : Bin (w3.alloc (.cells #[.int .u8 7] 5)) (some ⟨w3.heap.size, 0, none⟩) [7] := blk_bin (Blk.new w3 #[.int .u8 7] 5)
  have B4 : g ≤ (w3.alloc (.cells #[.int .u8 7] 5)).heap.size := by have := F4.size; omega
  clear W2 F2 hb2 B2 W3 F3 f3
  go_wp2_with fail
  refine (send_is _ g g k3 [[27]] [[27], [7]] 1 2 0 0 _ 1 1 [7] W4 hb4 (by rfl) (by omega) B4 (by omega) (by omega) (by rfl) (by rfl) (by rfl)).mono ?_
  rintro e w5 ⟨rfl, ⟨k5, W5, -⟩, f5⟩
  have F5 := Frm.thenW F4 f5 hgl
  clear W4 F4 hb4 B4 f5
  go_wp2_with fail
  refine (spoil_any _ g g k5 [[27], [7]] 2 0 0 0 2 W5 (fits_of (by decide))).mono ?_
  rintro e w6 ⟨rfl, W6, f6⟩
  have e6 : spE [[27], [7]] 0 0 = 0 := by rfl
  have l6 : ([[27], [7]] : List (List Nat)).set (0 : Int).toNat (spoilB (([[27], [7]] : List (List Nat)).getD (0 : Int).toNat []) (0 : Int).toNat 2) = [[219], [7]] := by
    rw [show (([[27], [7]] : List (List Nat)).getD (0 : Int).toNat []) = [27] by rfl, show (0 : Int).toNat = 0 by rfl, sp_27]; rfl
  rw [e6, if_pos rfl, l6] at W6
  rw [e6]
  have F6 := Frm.thenK F5 f6 (fun x hx => Nat.le_trans hgl (W5.kb hx))
  have B6 : g ≤ w6.heap.size := by have := F6.size; omega
  clear W5 F5 f6 e6 l6
  go_wp2_with fail
  refine (move_any _ g g k5 [[219], [7]] 2 0 0 1 W6 (fits_of (by decide)) B6).mono ?_
  rintro e w7 ⟨rfl, ⟨k7, W7, -⟩, f7⟩
  have e7 : moveE [[219], [7]] 0 1 = 0 := by rfl
  rw [e7, if_pos rfl, show moveL [[219], [7]] (0 : Int).toNat (1 : Int).toNat = [[7], [219]] by rfl] at W7
  rw [e7]
  have F7 := Frm.thenW F6 f7 hgl
  have B7 : g ≤ w7.heap.size := by have := F7.size; omega
  clear W6 F6 f7 e7 B6
  go_wp2_with fail
  refine (take_any _ g g k7 [[7], [219]] 2 0 1 W7 (fits_of (by decide)) B7).mono ?_
  rintro e w8 ⟨⟨bA, bn, bc⟩, rfl, hb8, ⟨k8, W8, -⟩, f8⟩
  have e8 : askI [[7], [219]] 1 = 0 := by rfl
  rw [e8, if_pos rfl, show cutL [[7], [219]] (1 : Int).toNat = [[7]] by rfl] at W8
  rw [e8, if_pos rfl, show ([[7], [219]] : List (List Nat)).getD (1 : Int).toNat [] = [219] by rfl] at hb8
  rw [e8]
  have F8 := Frm.thenW F7 f8 hgl
  have B8 : g ≤ w8.heap.size := by have := F8.size; omega
  clear W7 F7 f8 e8 B7
  go_wp2_with fail
  refine (lose_any _ g g k8 [[7]] 2 0 0 W8 (fits_of (by decide)) B8 (by omega) (by omega)).mono ?_
  rintro e w9 ⟨rfl, ⟨k9, W9, -⟩, f9⟩
  have e9 : askI [[7]] 0 = 0 := by rfl
  rw [e9, if_pos rfl, if_pos rfl, show cutL [[7]] (0 : Int).toNat = [] by rfl] at W9
  rw [e9]
  have F9 := Frm.thenW F8 f9 hgl
  have B9 : g ≤ w9.heap.size := by have := F9.size; omega
  have hb9 := hb8.frm f9 (fun x cs hx e => by
    subst e
    obtain ⟨_, _, _, hbk, _⟩ := W8
    exact Blk.ne hx hbk (by decide) rfl)
  clear W8 F8 f9 e9 B8 hb8
  go_wp2_with fail
  refine (counts_ok _ g g k9 [] 2 (0 + 1) W9).mono ?_
  rintro e w10 ⟨rfl, f10⟩
  have F10 := F9.thenN f10
  have W10 := W9.frmN f10
  have hb10 := hb9.frmN f10
  have hstr := hb10.str
  rw [str_219] at hstr
  have hstr' : (convert 22 9 (.slice bA bn bc)).run Try.prog w10 = .ok (.string ⟨#[219]⟩) w10 := hstr
  have B10 : g ≤ w10.heap.size := by have := F10.size; omega
  clear W9 F9 f10 B9 hb9 hb10 hstr
  simp only [Bl.val]
  go_wp2_with fail
  refine (len_ok _ g g k9 [] 2 (0 + 1) W10).mono ?_
  rintro e w11 ⟨rfl, rfl⟩
  go_wp2_with fail
  refine (lose_any _ g g k9 [] 2 (0 + 1) 0 W10 fits_nil B10 (by omega) (by omega)).mono ?_
  rintro e w12 ⟨rfl, -, f12⟩
  rw [show askI [] 0 = 1 by rfl]
  go_wp2_with fail
  go_ret
  exact ⟨rfl, Frm.thenW F10 f12 hgl⟩
end Go.Proofs.Ytbhkhabkkghapaa.A

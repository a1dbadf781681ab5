/- SchedLives' walk. -/
import Derived.Test.YtiifepajnhdfjaaZG
import Derived.Deep.CutBlock
import Derived.Deep.DeepCutAuto
namespace Go.Proofs.Ytiifepajnhdfjaa.A
open Go.RowKit Go.Proofs.Ytiifepajnhdfjaa.K
set_option linter.unusedVariables false
set_option linter.unusedSimpArgs false

theorem IsR.sg {w w' : World} {B B' g gx : Nat} {U V : List US} (h : IsR w B gx U) (hs : IsS w B' g V) (f : Frm (SG w B' g) w w') : IsR w' B gx U := h.frm f fun k cs t ht hb e => by
  obtain ⟨_, v, hb57, _⟩ := hs
  rcases e with rfl | ⟨_, cs2, hb2⟩
  · exact Blk.ne hb hb57 (by rcases ht with rfl | rfl <;> decide) rfl
  · exact Blk.ne hb hb2 (by rcases ht with rfl | rfl <;> decide) rfl
theorem IsR.su {w w' : World} {B B' gx : Nat} {U : List US} (h : IsR w B gx U) (f : Frm (SU w B') w w') : IsR w' B gx U := h.frm f fun k cs t ht hb e => by
  obtain ⟨_, cs2, hb2⟩ := e
  exact Blk.ne hb hb2 (by rcases ht with rfl | rfl <;> decide) rfl
theorem IsS.rg {w w' : World} {B B' g gx : Nat} {U V : List US} (h : IsS w B g U) (hs : IsR w B' gx V) (f : Frm (RG w B' gx) w w') : IsS w' B g U := h.frm f fun k cs t ht hb e => by
  obtain ⟨_, v, hb45, _⟩ := hs
  rcases e with rfl | ⟨_, cs2, hb2⟩
  · exact Blk.ne hb hb45 (by rcases ht with rfl | rfl <;> decide) rfl
  · exact Blk.ne hb hb2 (by rcases ht with rfl | rfl <;> decide) rfl
theorem IsS.ru {w w' : World} {B B' g : Nat} {U : List US} (h : IsS w B g U) (f : Frm (RU w B') w w') : IsS w' B g U := h.frm f fun k cs t ht hb e => by
  obtain ⟨_, cs2, hb2⟩ := e
  exact Blk.ne hb hb2 (by rcases ht with rfl | rfl <;> decide) rfl
theorem Frm.thenRG {w0 w w' : World} {B g : Nat} (h : Frm No w0 w) (k : Frm (RG w B g) w w') (hB : w0.heap.size ≤ B) (hg : w0.heap.size ≤ g) : Frm No w0 w' := h.then k fun i hi => .inr (by
  rcases hi with rfl | ⟨h1, _⟩ <;> omega)
theorem Frm.thenRU {w0 w w' : World} {B : Nat} (h : Frm No w0 w) (k : Frm (RU w B) w w') (hB : w0.heap.size ≤ B) : Frm No w0 w' := h.then k fun i hi => .inr (by
  obtain ⟨h1, _⟩ := hi; omega)
/-- A block of a call's own is not turned. -/
theorem Blk.sg {w w' : World} {B g k : Nat} {cs : Array Value} {U : List US} (h : Blk w k cs 30) (hs : IsS w B g U) (f : Frm (SG w B g) w w') : Blk w' k cs 30 := f.blk h fun e => by
  obtain ⟨_, v, hb57, _⟩ := hs
  rcases e with rfl | ⟨_, cs2, hb2⟩
  · exact Blk.ne h hb57 (by decide) rfl
  · exact Blk.ne h hb2 (by decide) rfl
theorem Blk.su {w w' : World} {B k : Nat} {cs : Array Value} (h : Blk w k cs 30) (f : Frm (SU w B) w w') : Blk w' k cs 30 := f.blk h fun e => by
  obtain ⟨_, cs2, hb2⟩ := e
  exact Blk.ne h hb2 (by decide) rfl

theorem as_is (w : World) (A : Option Addr) (n c : Nat) (W : List Wn) (hW : RdW w A W) (hn : W.length = n) (hn2 : n ≤ 1000) :
    Calls Try.prog 15 #[.slice A n c] w fun e w' => ∃ A' c', e = .returned (.slice A' n c') ∧ RowX w' w.heap.size (.slice A' n c') W ∧ Frm No w w' := by
  refine (as_ok w A n c W hW hn hn2).mono ?_
  rintro e w' ⟨v, rfl, X, f⟩
  obtain ⟨A', c', rfl, -, -⟩ := rdX_of X
  rw [hn] at X ⊢
  exact ⟨A', c', rfl, X, f⟩
/-- Between the rounds. -/
def LO (w wr : World) (g gx : Nat) (vi : Value) : Prop :=
  ∃ (j : Nat) (U : List US), vi = .int .i64 j ∧ j ≤ 60 ∧ IsS wr g g U ∧ IsR wr g gx U ∧ Rat U (65536 * (j : Int)) ∧ Dis U ∧ Frm No w wr
/-- In a round, behind the call. -/
def LM (w wr : World) (g gx j : Nat) : Prop :=
  ∃ (U : List US), IsS wr g g U ∧ IsR wr g gx U ∧ Rat U (65536 * ((j + 1 : Nat) : Int)) ∧ Dis U ∧ Frm No w wr

set_option maxRecDepth 100000 in
set_option maxHeartbeats 16000000 in
theorem lives_walk (A2 : Option Addr) (n2 c2 : Nat) (ops : List SOp) (w : World) (hI2 : IsOps w A2 n2 ops) :
    Calls Try.prog 5 #[.slice A2 n2 c2] w fun e w' => e = .returned (.bool true) ∧ Frm No w w' := by
  have hn29 : n2 ≤ 9223372036854775807 := hI2.2.1
  go_enter Try.func5, Try.ntmps5
  go_wp2_with fail
  refine (new_ok w).mono ?_
  rintro e w1 ⟨rfl, hs, F1⟩
  have S1 := hs w.heap.size
  obtain ⟨g, hg⟩ : ∃ g, w.heap.size = g := ⟨_, rfl⟩
  rw [hg] at S1
  rw [hg]
  have hgl : w.heap.size ≤ g := by omega
  have hgl2 : g ≤ w.heap.size := by omega
  have S2 := S1.alloc (.cells #[.slice none 0 0] 45)
  have F2 := F1.alloc (.cells #[.slice none 0 0] 45)
  have R2 : IsR (w1.alloc (.cells #[.slice none 0 0] 45)) g w1.heap.size [] := ⟨by simp, _, Blk.new _ _ _, World.ownsRow_nil _ _ _ _⟩
  obtain ⟨gx, hgx⟩ : ∃ gx, w1.heap.size = gx := ⟨_, rfl⟩
  rw [hgx] at R2
  have hgx2 : w.heap.size ≤ gx := by have := F1.size; omega
  have h0 : LO w (w1.alloc (.cells #[.slice none 0 0] 45)) g gx (.int .i64 (0 : Nat)) := ⟨0, [], rfl, by omega, S2, R2, fun u hu => by simp at hu, fun i hi => by simp at hi, F2⟩
  have H0 := Lib.hid h0
  clear hs hg S1 S2 F1 F2 R2 h0
  go_wp2_with fail
  try rw [hgx]
  generalize (w1.alloc (.cells #[.slice none 0 0] 45)) = w2 at *
  clear hgx
  go_loopw [5] (fun vi wr => LO w wr g gx vi) (fun vi _ => 60 - (intOf vi).toNat)
  case atStart => exact H0.out
  case round =>
    clear H0
    obtain ⟨j, U, rfl, hj, hS, hR, hRa, hD, F⟩ := hrel
    by_cases hgo : j < n2 ∧ j < 60
    · obtain ⟨hj2, hj3⟩ := hgo
      have j0 : (0 : Int) ≤ (j : Int) := Int.natCast_nonneg _
      have j1 : (j : Int) < (n2 : Int) := by omega
      have j2 : (j : Int) < 60 := by omega
      obtain ⟨ad2, ⟨kd, oi, on, oA, l, oc, W⟩, rfl, hRW, hWl, hlc, o0, o1, o2, o3⟩ := hI2.at_ F hj2
      simp only at hRW hWl hlc o0 o1 o2 o3
      obtain ⟨go, hgo⟩ : ∃ go, wr.heap.size = go := ⟨_, rfl⟩
      have hO : Blk (wr.alloc (.cells #[.int .i64 kd, .int .i64 oi, .int .i64 on, .slice oA l oc] 30)) go #[.int .i64 kd, .int .i64 oi, .int .i64 on, .slice oA l oc] 30 := by rw [← hgo]; exact Blk.new _ _ _
      have hS1 := hS.alloc (.cells #[.int .i64 kd, .int .i64 oi, .int .i64 on, .slice oA l oc] 30)
      have hR1 := hR.alloc (.cells #[.int .i64 kd, .int .i64 oi, .int .i64 on, .slice oA l oc] 30)
      have F1 := F.alloc (.cells #[.int .i64 kd, .int .i64 oi, .int .i64 on, .slice oA l oc] 30)
      clear hS F hR
      by_cases hl : l ≤ 40
      · have l1 : (l : Int) ≤ 40 := by omega
        have hB1 : g ≤ (wr.alloc (.cells #[.int .i64 kd, .int .i64 oi, .int .i64 on, .slice oA l oc] 30)).heap.size := by have := F1.size; omega
        have y0 := hO.cell 0
        have y3 := hO.cell 3
        simp only [List.getElem?_toArray] at y0 y3
        have HRa := Lib.hid hRa
        have HD := Lib.hid hD
        have HWW := Lib.hid (And.intro hRW hWl)
        clear hRa hD hRW hWl
        go_upto_block 2 with fail
        go_cut [7] (fun v wx => v = .bool true ∧ LM w wx g gx j)
        case first =>
          clear o0 o1 o2 o3
          by_cases hk0 : kd = 0
          · have hk0' : (kd == 0) = true := by simpa using hk0
            have HK := Lib.hid hk0
            clear hk0
            have y1 := hO.cell 1
            have y2 := hO.cell 2
            simp only [List.getElem?_toArray] at y1 y2
            go_wp2_with fail
            go_region_held3 (fun w' => w'.cell? ⟨go, 1, none⟩ = some (.int .i64 oi) ∧ w'.cell? ⟨go, 2, none⟩ = some (.int .i64 on))
              (first | go_keep)
              (first
                | (go_at_call 7; refine (add_any _ g g U oi on ?_ ?_).mono ?_; exact hS1; exact hB1; rintro e w3 ⟨rfl, S3, f3⟩; have O3 := Blk.sg (by exact hO) (by exact hS1) f3; have R3 := IsR.sg (by exact hR1) (by exact hS1) f3; have hB3 := Nat.le_trans hB1 f3.size; have y1' := O3.cell 1; have y2' := O3.cell 2; simp only [List.getElem?_toArray] at y1' y2')
                | (go_at_call 11; refine (radd_any _ g gx U oi on ?_ ?_).mono ?_; exact R3; exact hB3; rintro e w4 ⟨rfl, R4, f4⟩; have O4 := f4.blk O3 (fun e => by rcases e with rfl | ⟨_, cs2, hb2⟩; (obtain ⟨_, v45, hb45, _⟩ := id R3; exact Blk.ne O3 hb45 (by decide) rfl); exact Blk.ne O3 hb2 (by decide) rfl); have S4 := IsS.rg S3 (by exact R3) f4; have y1'' := O4.cell 1; have y2'' := O4.cell 2; simp only [List.getElem?_toArray] at y1'' y2''))
            go_wp2_with fail
            go_meet
            exact ⟨by simp, _, S4, R4, (rat_add HRa.out (by omega)).mono (by omega), dis_add HD.out, Frm.thenRG (Frm.thenSG F1.drew f3 hgl hgl) f4 hgl hgx2⟩
          · have hk0' : (kd == 0) = false := by simpa using hk0
            clear hk0
            by_cases hk1 : kd = 1
            · have hk1' : (kd == 1) = true := by simpa using hk1
              have HK := Lib.hid hk1
              clear hk1
              have y1 := hO.cell 1
              simp only [List.getElem?_toArray] at y1
              go_wp2_with fail
              go_region_held3 (fun w' => w'.cell? ⟨go, 1, none⟩ = some (.int .i64 oi))
                (first | go_keep)
                (first
                  | (go_at_call 12; refine (remove_any _ g g U oi ?_ ?_).mono ?_; exact hS1; exact hB1; rintro e w3 ⟨rfl, S3, f3⟩; have O3 := Blk.sg (by exact hO) (by exact hS1) f3; have R3 := IsR.sg (by exact hR1) (by exact hS1) f3; have hB3 := Nat.le_trans hB1 f3.size; have y1' := O3.cell 1; simp only [List.getElem?_toArray] at y1')
                  | (go_at_call 13; refine (rremove_any _ g gx U oi ?_ ?_).mono ?_; exact R3; exact hB3; rintro e w4 ⟨rfl, R4, f4⟩; have O4 := f4.blk O3 (fun e => by rcases e with rfl | ⟨_, cs2, hb2⟩; (obtain ⟨_, v45, hb45, _⟩ := id R3; exact Blk.ne O3 hb45 (by decide) rfl); exact Blk.ne O3 hb2 (by decide) rfl); have S4 := IsS.rg S3 (by exact R3) f4; have y1'' := O4.cell 1; simp only [List.getElem?_toArray] at y1''))
              go_wp2_with fail
              go_meet
              exact ⟨by simp, _, S4, R4, (rat_rem HRa.out).mono (by omega), dis_rem HD.out, Frm.thenRG (Frm.thenSG F1.drew f3 hgl hgl) f4 hgl hgx2⟩
            · have hk1' : (kd == 1) = false := by simpa using hk1
              clear hk1
              by_cases hk2 : kd = 2
              · have hk2' : (kd == 2) = true := by simpa using hk2
                have HK := Lib.hid hk2
                clear hk2
                have y2 := hO.cell 2
                simp only [List.getElem?_toArray] at y2
                obtain ⟨E, hE⟩ : ∃ E, askE U on W = E := ⟨_, rfl⟩
                by_cases hE0 : E = 0
                · rw [hE0] at hE
                  clear hE0
                  obtain ⟨⟨t0, t1⟩, hWO⟩ := ask_zero hE
                  rw [HWW.out.2] at hWO
                  obtain ⟨EE, hEE⟩ : ∃ E, fin ⟨restTo U (leftTo U W l) (leastTo U (leftTo U W l) U.length) U.length, leftTo U W l, List.replicate U.length 0, on⟩ = E := ⟨_, rfl⟩
                  have hgv := give_ok _ g g U on oA l oc W (65536 * (j : Int)) hS1 (fun w' f => HWW.out.1.frmN (Frm.thenSU F1 f hgl)) HWW.out.2 (by omega) hlc hE HRa.out (by omega) hB1 t0 t1 hWO.inn (left_bd hWO) EE hEE
                  have hrv := fun (w' : World) (A' : Option Addr) (c' : Nat) (h1 : IsR w' g gx U) (h2 : ∀ w'', Frm (RU w' g) w' w'' → RdW w'' A' W) (hB : g ≤ w'.heap.size) => rgive_ok w' g gx U on A' l c' W (65536 * (j : Int)) h1 h2 HWW.out.2 (by omega) hE HRa.out (by omega) (by omega) hB HD.out EE hEE
                  have HRV := Lib.hid hrv
                  have HID := Lib.hid (give_ids hEE)
                  clear hrv hE hEE hWO
                  go_wp2_with fail
                  refine hgv.mono ?_
                  rintro e w3 ⟨v, rfl, X3, S3, Ra3, f3⟩
                  obtain ⟨Aa, ca, rfl, -, W3⟩ := rdW_of X3
                  have O3 := Blk.su hO f3
                  have R3 := hR1.su f3
                  have F3 := Frm.thenSU F1 f3 hgl
                  have hB3 := Nat.le_trans hB1 f3.size
                  obtain ⟨O, hO9⟩ : ∃ O, outTo W EE.U EE.G l = O := ⟨_, rfl⟩
                  have hOL := outTo_len W EE.U EE.G l
                  rw [hO9] at X3 W3 HRV hOL ⊢
                  rw [hOL]
                  have z2 := O3.cell 2
                  have z3 := O3.cell 3
                  simp only [List.getElem?_toArray] at z2 z3
                  have HOL := Lib.hid hOL
                  have HX3 := Lib.hid X3
                  clear y0 y2 y3 hgv hO9 hOL X3
                  go_wp2_with fail
                  go_region_held3 (fun w' => w'.cell? ⟨go, 2, none⟩ = some (.int .i64 on) ∧ w'.cell? ⟨go, 3, none⟩ = some (.slice oA l oc))
                    (first | go_keep)
                    (first
                      | (go_at_call 15; refine (as_is _ oA l oc W ?_ HWW.out.2 (by omega)).mono ?_; exact HWW.out.1.frmN F3.drew; rintro e w4 ⟨A4, c4, rfl, X4, f4⟩; have O4 := f4.blk (by exact O3) (fun h => h); have R4 := IsR.frmN (by exact R3) f4; have hB4 := Nat.le_trans hB3 f4.size; have z2' := O4.cell 2; have z3' := O4.cell 3; simp only [List.getElem?_toArray] at z2' z3')
                      | (go_at_call 14; refine (HRV.out _ _ _ ?_ ?_ ?_).mono ?_; exact R4; exact (fun w'' f => (rdX_slice (X4.ru f)).2.2); exact hB4; rintro e w5 ⟨v5, rfl, X5, R5, f5⟩; have O5 := f5.blk O4 (fun e => by obtain ⟨_, cs2, hb2⟩ := e; exact Blk.ne O4 hb2 (by decide) rfl); have z2'' := O5.cell 2; have z3'' := O5.cell 3; simp only [List.getElem?_toArray] at z2'' z3''; obtain ⟨Ab, cb, rfl, -, W5⟩ := rdX_of X5))
                  have S4 := IsS.frmN (by exact S3) f4
                  have W3' := RdW.frmN (RdW.frmN W3 ((Frm.refl No w3).drew)) f4
                  have X3' := RowW.frm (S := No) (RowW.frm (S := No) HX3.out ((Frm.refl No w3).drew) (fun _ _ _ h => h)) f4 (fun _ _ _ h => h)
                  have X3'' := RowW.frm X3' f5 (fun k cs hb e => by obtain ⟨_, cs2, hb2⟩ := e; exact Blk.ne hb2 hb (by decide) rfl)
                  have W3'' : RdW w5 Aa O := (rdW_slice X3'').2.2
                  have DONE := Lib.hid (And.intro (S4.ru f5) (And.intro R5 (Frm.thenRU (F3.drew.thenN f4) f5 hgl)))
                  have WW := Lib.hid (And.intro W3'' W5)
                  rw [HOL.out]
                  clear z2' z3' z2'' z3'' O5 O4 R4 X4 f5 f4 z2 z3 O3 R3 S3 F3 f3 S4 W3 W3' W3'' W5 R5 X5 hB4 X3' X3''
                  go_wp2_with fail
                  go_loopw [7, 12] (fun vf vk wx => ∃ k : Nat, vf = .bool true ∧ vk = .int .i64 k ∧ k ≤ l ∧ Frm No w5 wx) (fun _ vk _ => l - (intOf vk).toNat)
                  case atStart => exact ⟨0, by simp, rfl, by omega, Frm.refl _ _⟩
                  case round =>
                    obtain ⟨k, rfl, rfl, hkl, Fx⟩ := hrel
                    have k0 : (0 : Int) ≤ (k : Int) := Int.natCast_nonneg _
                    by_cases hk : k < l
                    · have k1 : (k : Int) < (l : Int) := by omega
                      obtain ⟨⟨p, q⟩, hp⟩ : ∃ u, O.getD k (0, 0) = u := ⟨_, rfl⟩
                      obtain ⟨ga, rfl, g0, g1⟩ := (WW.out.1.frmN Fx).at_ (j := k) (by rw [HOL.out]; exact hk) hp
                      obtain ⟨gb, rfl, g2, g3⟩ := (WW.out.2.frmN Fx).at_ (j := k) (by rw [HOL.out]; exact hk) hp
                      have HFX := Lib.hid Fx
                      have pp : (p == p) = true := by simp
                      have qq : (q == q) = true := by simp
                      clear hp Fx
                      go_wp2_with fail
                      go_quiet (fail)
                      go_wp2_with fail
                      go_roundw
                      case rel => exact ⟨k + 1, by simp, by go_num, by omega, HFX.out.drewN _⟩
                      case measure => simp [intOf]; omega
                    · have k1 : ¬ (k : Int) < (l : Int) := by omega
                      go_wp2_with fail
                      go_meet
                      exact ⟨rfl, EE.U, DONE.out.1.frmN Fx, DONE.out.2.1.frmN Fx, Ra3.mono (by omega), Dis.ids HID.out HD.out, DONE.out.2.2.thenN Fx⟩
                · have hgv := give_no _ g g U on oA l oc W E hS1 (HWW.out.1.frmN F1) HWW.out.2 (by omega) hlc hE hE0
                  have hrv := fun (w' : World) (A' : Option Addr) (c' : Nat) (h1 : IsR w' g gx U) (h2 : RdW w' A' W) => rgive_no w' g gx U on A' l c' W E h1 h2 HWW.out.2 (by omega) hE hE0
                  have HRV := Lib.hid hrv
                  clear hrv hE hE0
                  go_wp2_with fail
                  refine hgv.mono ?_
                  rintro e w3 ⟨rfl, f3⟩
                  have O3 := f3.blk hO (fun h => h)
                  have R3 := hR1.frmN f3
                  have S3 := hS1.frmN f3
                  have F3 := F1.thenN f3
                  have z2 := O3.cell 2
                  have z3 := O3.cell 3
                  simp only [List.getElem?_toArray] at z2 z3
                  clear y0 y2 y3 hgv
                  go_wp2_with fail
                  go_region_held3 (fun w' => w'.cell? ⟨go, 2, none⟩ = some (.int .i64 on) ∧ w'.cell? ⟨go, 3, none⟩ = some (.slice oA l oc))
                    (first | go_keep)
                    (first
                      | (go_at_call 15; refine (as_is _ oA l oc W ?_ HWW.out.2 (by omega)).mono ?_; exact HWW.out.1.frmN F3.drew; rintro e w4 ⟨A4, c4, rfl, X4, f4⟩; have O4 := f4.blk (by exact O3) (fun h => h); have R4 := IsR.frmN (by exact R3) f4; have z2' := O4.cell 2; have z3' := O4.cell 3; simp only [List.getElem?_toArray] at z2' z3')
                      | (go_at_call 14; refine (HRV.out _ _ _ ?_ ?_).mono ?_; exact R4; exact (rdX_slice X4).2.2; rintro e w5 ⟨rfl, f5⟩; have O5 := f5.blk O4 (fun h => h); have z2'' := O5.cell 2; have z3'' := O5.cell 3; simp only [List.getElem?_toArray] at z2'' z3''))
                  have DONE := Lib.hid (And.intro ((IsS.frmN (by exact S3) f4).frmN f5) (And.intro (R4.frmN f5) ((F3.drew.thenN f4).thenN f5)))
                  clear z2' z3' z2'' z3'' O5 O4 R4 X4 f5 f4 z2 z3 O3 R3 S3 F3 f3
                  go_wp2_with fail
                  go_loopw [7, 12] (fun vf vk wx => vf = .bool true ∧ vk = .int .i64 (0 : Nat) ∧ wx = w5) (fun _ _ _ => 0)
                  case atStart => exact ⟨by simp, rfl, rfl⟩
                  case round =>
                    obtain ⟨rfl, rfl, rfl⟩ := hrel
                    go_wp2_with fail
                    go_meet
                    exact ⟨rfl, U, DONE.out.1, DONE.out.2.1, HRa.out.mono (by omega), HD.out, DONE.out.2.2⟩
              · have hk2' : (kd == 2) = false := by simpa using hk2
                clear hk2
                go_wp2_with fail
                go_meet
                exact ⟨rfl, U, hS1, hR1, HRa.out.mono (by omega), HD.out, F1⟩
        case rest =>
          obtain ⟨rfl, U2, S2, R2, Ra2, D2, F2⟩ := hcut
          obtain ⟨m, hm⟩ : ∃ m, U2.length = m := ⟨_, rfl⟩
          have h16 := S2.1
          rw [hm] at h16
          have HX := Lib.hid (And.intro S2 (And.intro R2 (And.intro Ra2 (And.intro D2 (And.intro F2 hm)))))
          clear o0 o1 o2 o3 y0 y3 hO hS1 hR1 F1 hB1 HRa HD HWW R2 Ra2 D2 F2 hm
          go_wp2_with fail
          refine (ids_any _ g g U2 S2).mono ?_
          rintro e w4 ⟨v, rfl, hr, f4⟩
          obtain ⟨A4, c4, rfl, hl9, hcells⟩ := own_cells hr
          rw [List.length_map, HX.out.2.2.2.2.2] at hl9 hcells ⊢
          have R4 := HX.out.2.1.frmN f4
          have S4 := HX.out.1.frmN f4
          have F4 := HX.out.2.2.2.2.1.thenN f4
          obtain ⟨_, vv, hbb, hoo⟩ := id R4
          obtain ⟨A5, c5, rfl, hrr⟩ := rdR_of hoo
          rw [HX.out.2.2.2.2.2] at hbb
          have q0 : w4.cell? ⟨gx, 0, none⟩ = some (.slice A5 m c5) := hbb.cell 0
          have HY := Lib.hid (And.intro S4 (And.intro R4 (And.intro F4 (And.intro hcells (And.intro hrr hbb)))))
          clear hr f4 R4 S4 F4 hoo hrr hcells S2 hbb
          go_wp2_with fail
          clear q0
          go_loopw [14] (fun vk wx => ∃ k : Nat, vk = .int .i64 k ∧ k ≤ m ∧ Frm No w4 wx) (fun vk _ => m - (intOf vk).toNat)
          case atStart => exact ⟨0, rfl, by omega, Frm.refl _ _⟩
          case round =>
            obtain ⟨k, rfl, hk, Fx⟩ := hrel
            have k0 : (0 : Int) ≤ (k : Int) := Int.natCast_nonneg _
            by_cases hkm : k < m
            · have k1 : (k : Int) < (m : Int) := by omega
              obtain ⟨ai, rfl, hci⟩ := HY.out.2.2.2.1 k hkm
              obtain ⟨ar, rfl, -, ka, -, kc⟩ := HY.out.2.2.2.2.1 k (by rw [HX.out.2.2.2.2.2]; exact hkm)
              have hbx := Fx.blk HY.out.2.2.2.2.2 (fun h => h)
              have q0 : wr.cell? ⟨gx, 0, none⟩ = some (.slice (some ar) m c5) := hbx.cell 0
              have ci := (World.cell?_of_block (Fx.block _ (World.block_lt_of_cell? _ _ hci) (fun h => h))).trans hci
              have ca := (World.cell?_of_block (Fx.block _ (World.block_lt_of_cell? _ _ ka) (fun h => h))).trans ka
              have cc := (World.cell?_of_block (Fx.block _ (World.block_lt_of_cell? _ _ kc) (fun h => h))).trans kc
              have hdk := HX.out.2.2.2.1 k (by rw [HX.out.2.2.2.2.2]; exact hkm)
              have hsv : svV U2 (U2.getD k u0).id = (U2.getD k u0).sv := by unfold svV; rw [hdk, if_pos (by rw [HX.out.2.2.2.2.2]; exact hkm)]
              have hidk : (U2.map (·.id)).getD k 0 = (U2.getD k u0).id := by
                rw [List.getD_eq_getElem?_getD, List.getD_eq_getElem?_getD, List.getElem?_map, List.getElem?_eq_getElem (by rw [HX.out.2.2.2.2.2]; exact hkm)]; rfl
              rw [hidk] at ci
              obtain ⟨xi, hxi⟩ : ∃ x, (U2.getD k u0).id = x := ⟨_, rfl⟩
              obtain ⟨xs, hxs⟩ : ∃ x, (U2.getD k u0).sv = x := ⟨_, rfl⟩
              rw [hxi] at ci ca hsv
              rw [hxs] at cc hsv
              have e1 : (xi != xi) = false := by simp
              have e2 : (xs != xs) = false := by simp
              have hbl := World.block_lt_of_cell? _ _ q0
              have HZ := Lib.hid (And.intro Fx (And.intro (HY.out.1.frmN Fx) hsv))
              clear Fx hci ka kc hdk hsv hidk hxi hxs hbx
              go_wp2_with fail
              go_quiet ((go_at_call 10; exact Calls.quiet_of (served_q _ g g U2 xi xs (by exact HZ.out.2.1) HZ.out.2.2)))
              go_wp2_with fail
              go_roundw
              case rel => exact ⟨k + 1, by go_num, by omega, HZ.out.1.drewN _⟩
              case measure => simp [intOf]; omega
            · have k1 : ¬ (k : Int) < (m : Int) := by omega
              go_wp2_with fail
              go_roundw
              case rel => exact ⟨j + 1, U2, by go_num, by omega, HY.out.1.frmN Fx, HY.out.2.1.frmN Fx, HX.out.2.2.1, HX.out.2.2.2.1, HY.out.2.2.1.thenN Fx⟩
              case measure => simp [intOf]; omega
      · have l1 : ¬ (l : Int) ≤ 40 := by omega
        go_wp2_with fail
        refine (alive_yes _).mono ?_
        rintro e w7 ⟨rfl, f7⟩
        go_wp2_with fail
        go_ret
        exact ⟨rfl, F1.thenN f7⟩
    · have HF := Lib.hid F
      clear F hS hR hRa hD
      have b7 : ∀ wz : World, Blk (wz.alloc (.cells #[.bool false, .slice none 0 0] 57)) wz.heap.size #[.bool false, .slice none 0 0] 57 := fun wz => Blk.new _ _ _
      by_cases hj2 : j < n2
      · have j1 : (j : Int) < (n2 : Int) := by omega
        have j2 : ¬ (j : Int) < 60 := by omega
        go_wp2_with fail
        refine (give_nil _ 1 _).mono ?_
        rintro e w3 ⟨rfl, f3⟩
        have z3 := f3.blk (b7 wr) (fun h => h)
        have F3 := (HF.out.alloc (.cells #[.bool false, .slice none 0 0] 57)).thenN f3
        obtain ⟨gz, hgz⟩ : ∃ gz, wr.heap.size = gz := ⟨_, rfl⟩
        rw [hgz] at z3
        rw [hgz]
        clear f3 b7
        go_wp2_with fail
        refine (give_zero _ gz 1 _ z3).mono ?_
        rintro e w4 ⟨rfl, f4⟩
        have z4 := f4.blk z3 (fun h => h)
        have F4 := F3.thenN f4
        clear f4 z3 F3
        go_wp2_with fail
        refine (alive_yes _).mono ?_
        rintro e w5 ⟨rfl, f5⟩
        have z5 := f5.blk z4 (fun h => h)
        have F5 := F4.thenN f5
        clear f5 z4 F4
        go_wp2_with fail
        refine (add_nil _ 1 1).mono ?_
        rintro e w6 ⟨rfl, f6⟩
        have z6 := f6.blk z5 (fun h => h)
        have F6 := F5.thenN f6
        clear f6 z5 F5
        go_wp2_with fail
        refine (rem_zero _ gz 1 z6).mono ?_
        rintro e w7 ⟨rfl, f7⟩
        have z7 := f7.blk z6 (fun h => h)
        have F7 := F6.thenN f7
        clear f7 z6 F6
        go_wp2_with fail
        refine (served_nil _ 1).mono ?_
        rintro e w8 ⟨rfl, f8⟩
        have z8 := f8.blk z7 (fun h => h)
        have F8 := F7.thenN f8
        clear f8 z7 F7
        go_wp2_with fail
        refine (served_zero _ gz 1 z8).mono ?_
        rintro e w9 ⟨rfl, f9⟩
        have F9 := F8.thenN f9
        clear f9 z8 F8
        go_wp2_with fail
        refine (ids_nil _).mono ?_
        rintro e wx ⟨rfl, fx⟩
        go_wp2_with fail
        go_ret
        exact ⟨rfl, F9.thenN fx⟩
      · have j1 : ¬ (j : Int) < (n2 : Int) := by omega
        go_wp2_with fail
        refine (give_nil _ 1 _).mono ?_
        rintro e w3 ⟨rfl, f3⟩
        have z3 := f3.blk (b7 wr) (fun h => h)
        have F3 := (HF.out.alloc (.cells #[.bool false, .slice none 0 0] 57)).thenN f3
        obtain ⟨gz, hgz⟩ : ∃ gz, wr.heap.size = gz := ⟨_, rfl⟩
        rw [hgz] at z3
        rw [hgz]
        clear f3 b7
        go_wp2_with fail
        refine (give_zero _ gz 1 _ z3).mono ?_
        rintro e w4 ⟨rfl, f4⟩
        have z4 := f4.blk z3 (fun h => h)
        have F4 := F3.thenN f4
        clear f4 z3 F3
        go_wp2_with fail
        refine (alive_yes _).mono ?_
        rintro e w5 ⟨rfl, f5⟩
        have z5 := f5.blk z4 (fun h => h)
        have F5 := F4.thenN f5
        clear f5 z4 F4
        go_wp2_with fail
        refine (add_nil _ 1 1).mono ?_
        rintro e w6 ⟨rfl, f6⟩
        have z6 := f6.blk z5 (fun h => h)
        have F6 := F5.thenN f6
        clear f6 z5 F5
        go_wp2_with fail
        refine (rem_zero _ gz 1 z6).mono ?_
        rintro e w7 ⟨rfl, f7⟩
        have z7 := f7.blk z6 (fun h => h)
        have F7 := F6.thenN f7
        clear f7 z6 F6
        go_wp2_with fail
        refine (served_nil _ 1).mono ?_
        rintro e w8 ⟨rfl, f8⟩
        have z8 := f8.blk z7 (fun h => h)
        have F8 := F7.thenN f8
        clear f8 z7 F7
        go_wp2_with fail
        refine (served_zero _ gz 1 z8).mono ?_
        rintro e w9 ⟨rfl, f9⟩
        have F9 := F8.thenN f9
        clear f9 z8 F8
        go_wp2_with fail
        refine (ids_nil _).mono ?_
        rintro e wx ⟨rfl, fx⟩
        go_wp2_with fail
        go_ret
        exact ⟨rfl, F9.thenN fx⟩
end Go.Proofs.Ytiifepajnhdfjaa.A

/- SchedAll's walk. -/
import Derived.Test.YtiifepajnhdfjaaV
namespace Go.Proofs.Ytiifepajnhdfjaa.A
open Go.RowKit Go.Proofs.Ytiifepajnhdfjaa.K
set_option linter.unusedVariables false
set_option linter.unusedSimpArgs false

/-- Behind the Adds, and between the rounds. -/
def AO (w wr : World) (g : Nat) (vi : Value) : Prop :=
  ∃ (j : Nat) (U : List US), vi = .int .i64 j ∧ j ≤ 30 ∧ IsS wr g g U ∧ Rat U (65536 * (j : Int)) ∧ Frm No w wr
theorem add_rat {U : List US} {x wt : Int} (h : Rat U 0) : Rat (if addE U x wt = 0 then U ++ [⟨x, wt, 0⟩] else U) 0 := by
  split
  · rename_i hE
    intro u hu
    rcases List.mem_append.1 hu with hu | hu
    · exact h u hu
    · obtain rfl : u = ⟨x, wt, 0⟩ := by simpa using hu
      unfold addE at hE
      split at hE
      · cases hE
      · exact ⟨by show 1 ≤ wt; omega, by show wt ≤ 16; omega, by show (0 : Int) ≤ 0; omega, by show (0 : Int) ≤ wt * 0; omega⟩
  · exact h

set_option maxRecDepth 100000 in
set_option maxHeartbeats 8000000 in
theorem all_walk (A : Option Addr) (n c : Nat) (zs : List Int) (A2 : Option Addr) (n2 c2 : Nat) (ops : List SOp) (w : World) (hI : Ints w .i64 A n zs) (hI2 : IsOps w A2 n2 ops) :
    Calls Try.prog 3 #[.slice A n c, .slice A2 n2 c2] w fun e w' => e = .returned (.bool true) ∧ Frm No w w' := by
  have hn9 : n ≤ 9223372036854775807 := hI.2.1
  have hn29 : n2 ≤ 9223372036854775807 := hI2.2.1
  go_enter Try.func3, Try.ntmps3
  go_wp2_with fail
  refine (new_ok w).mono ?_
  rintro e w1 ⟨rfl, hs, F1⟩
  have S1 := hs w.heap.size
  obtain ⟨g, hg⟩ : ∃ g, w.heap.size = g := ⟨_, rfl⟩
  rw [hg] at S1
  rw [hg]
  have hgl : w.heap.size ≤ g := by omega
  have hgl2 : g ≤ w.heap.size := by omega
  clear hs hg
  go_wp2_with fail
  go_loopw [6] (fun vi wr => ∃ (k : Nat) (U : List US), vi = .int .i64 k ∧ k ≤ 16 ∧ k ≤ n ∧ IsS wr g g U ∧ Rat U 0 ∧ Frm No w wr) (fun vi _ => 16 - (intOf vi).toNat)
  case atStart => exact ⟨0, [], rfl, by omega, by omega, S1, fun u hu => by simp at hu, F1⟩
  case round =>
    clear S1 F1
    obtain ⟨k, U, rfl, hk, hkn, hS, hR, F⟩ := hrel
    have k0 : (0 : Int) ≤ (k : Int) := Int.natCast_nonneg _
    by_cases hgo : k < n ∧ k < 16
    · obtain ⟨h1, h2⟩ := hgo
      have k1 : (k : Int) < (n : Int) := by omega
      have k2 : (k : Int) < 16 := by omega
      obtain ⟨ad, rfl, hb, hc, hwf⟩ := hI.at_ (j := k) (by omega)
      have hc' : wr.cell? (ad.add k) = some (.int .i64 (zs.getD k 0)) := by
        rw [← hc]; exact World.cell?_of_block (F.block _ (by rw [block_add]; exact hb) (fun h => h))
      obtain ⟨z, hz⟩ : ∃ z, zs.getD k 0 = z := ⟨_, rfl⟩
      rw [hz] at hc'
      have B1 : g ≤ wr.heap.size := by have := F.size; omega
      clear hc hwf hz hb
      go_wp2_with fail
      refine (add_any _ g g U k z hS B1).mono ?_
      rintro e w5 ⟨rfl, S5, f5⟩
      have F5 := Frm.thenSG F f5 hgl hgl
      go_wp2_with fail
      go_roundw
      case rel => exact ⟨k + 1, _, by go_num, by omega, by omega, S5, add_rat hR, F5⟩
      case measure => simp [intOf]; omega
    · have h0 : AO w wr g (.int .i64 (0 : Nat)) := ⟨0, U, rfl, by omega, hS, hR.mono (by omega), F⟩
      have FF := Lib.hid h0
      clear h0 hS hR F
      by_cases hkn' : k < n
      · have k1 : (k : Int) < (n : Int) := by omega
        have k2 : ¬ (k : Int) < 16 := by omega
        go_wp2_with fail
        go_loopw [7] (fun vi wr => AO w wr g vi) (fun vi _ => 30 - (intOf vi).toNat)
        case atStart => exact FF.out
        case round =>
          obtain ⟨j, U, rfl, hj, hS, hRa, F⟩ := hrel
          by_cases hj2 : j < n2
          · by_cases hj3 : j < 30
            · have j0 : (0 : Int) ≤ (j : Int) := Int.natCast_nonneg _
              have j1 : (j : Int) < (n2 : Int) := by omega
              have j2 : (j : Int) < 30 := by omega
              obtain ⟨ad2, ⟨kd, oi, on, oA, l, oc, W⟩, rfl, hRW, hWl, hlc, o0, o1, o2, o3⟩ := hI2.at_ F hj2
              simp only at hRW hWl hlc o0 o1 o2 o3
              obtain ⟨go, hgo⟩ : ∃ go, wr.heap.size = go := ⟨_, rfl⟩
              have hO : Blk (wr.alloc (.cells #[.int .i64 kd, .int .i64 oi, .int .i64 on, .slice oA l oc] 30)) go #[.int .i64 kd, .int .i64 oi, .int .i64 on, .slice oA l oc] 30 := by rw [← hgo]; exact Blk.new _ _ _
              have hS1 := hS.alloc (.cells #[.int .i64 kd, .int .i64 oi, .int .i64 on, .slice oA l oc] 30)
              have F1 := F.alloc (.cells #[.int .i64 kd, .int .i64 oi, .int .i64 on, .slice oA l oc] 30)
              clear hS F
              by_cases hl : l ≤ 40
              · have l1 : (l : Int) ≤ 40 := by omega
                have y2 := hO.cell 2
                have y3 := hO.cell 3
                simp only [List.getElem?_toArray] at y2 y3
                obtain ⟨E, hE⟩ : ∃ E, askE U on W = E := ⟨_, rfl⟩
                have hB1 : g ≤ (wr.alloc (.cells #[.int .i64 kd, .int .i64 oi, .int .i64 on, .slice oA l oc] 30)).heap.size := by have := F1.size; omega
                by_cases hE0 : E = 0
                · rw [hE0] at hE
                  clear hE0
                  obtain ⟨⟨t0, t1⟩, hWO⟩ := ask_zero hE
                  rw [hWl] at hWO
                  obtain ⟨EE, hEE⟩ : ∃ E, fin ⟨restTo U (leftTo U W l) (leastTo U (leftTo U W l) U.length) U.length, leftTo U W l, List.replicate U.length 0, on⟩ = E := ⟨_, rfl⟩
                  have hLaw := all_law hWO t0 hEE
                  have hgv := give_ok _ g g U on oA l oc W (65536 * (j : Int)) hS1 (fun w' f => hRW.frmN (Frm.thenSU F1 f hgl)) hWl (by omega) hlc hE hRa (by omega) hB1 t0 t1 hWO.inn (left_bd hWO) EE hEE
                  have X := Lib.hid (And.intro hO (And.intro F1 (And.intro hRW (And.intro hWl hWO))))
                  have HL := Lib.hid hLaw
                  clear hLaw hE hEE hS1 hRa hO F1 hRW hWO
                  go_wp2_with fail
                  refine hgv.mono ?_
                  rintro e w5 ⟨v, rfl, R5, S5, Ra5, f5⟩
                  obtain ⟨A5, c5, rfl, -, W5⟩ := rdW_of R5
                  rw [outTo_len]
                  have HOL := Lib.hid (outTo_len W EE.U EE.G l)
                  obtain ⟨O, hOe⟩ : ∃ O, outTo W EE.U EE.G l = O := ⟨_, rfl⟩
                  rw [hOe] at W5 HOL HL
                  have F5 := Frm.thenSU X.out.2.1 f5 hgl
                  have O5 := f5.blk X.out.1 (fun hs => by obtain ⟨_, cs2, hb⟩ := hs; exact Blk.ne hb X.out.1 (by decide) rfl)
                  have HSB := Lib.hid (sumTo_bd (O := O) HOL.out (fun k hk => by
                    have h1 := (HL.out.1 k hk).2
                    have h2 := X.out.2.2.2.2.bd k hk
                    omega))
                  obtain ⟨U5, hU5⟩ : ∃ V, EE.U = V := ⟨_, rfl⟩
                  rw [hU5] at S5 Ra5
                  have HS5 := Lib.hid (And.intro S5 (And.intro Ra5 (And.intro F5 (And.intro O5 W5))))
                  clear hOe hU5 R5 S5 Ra5 F5 O5 W5 f5 hgv y2 y3
                  have O5 := HS5.out.2.2.2.1
                  have y2 := O5.cell 2
                  have y3 := O5.cell 3
                  simp only [List.getElem?_toArray] at y2 y3
                  clear O5
                  go_wp2_with fail
                  clear y2 y3
                  go_loopw [11, 12, 13] (fun va vf vk wx => ∃ k : Nat, va = .int .i64 (sumTo O k) ∧ vf = .bool (fullB O W k) ∧ vk = .int .i64 k ∧ k ≤ l ∧ Frm No w5 wx) (fun _ _ vk _ => l - (intOf vk).toNat)
                  case atStart => exact ⟨0, rfl, rfl, rfl, by omega, Frm.refl _ _⟩
                  case round =>
                    obtain ⟨k, rfl, rfl, rfl, hkl, Fx⟩ := hrel
                    have k0 : (0 : Int) ≤ (k : Int) := Int.natCast_nonneg _
                    have O9 := Fx.blk HS5.out.2.2.2.1 (fun h => h)
                    have y2 := O9.cell 2
                    have y3 := O9.cell 3
                    simp only [List.getElem?_toArray] at y2 y3
                    have h9 := O9.lt
                    clear O9
                    by_cases hk : k < l
                    · have k1 : (k : Int) < (l : Int) := by omega
                      obtain ⟨ga, rfl, -, g0, g1⟩ := (HS5.out.2.2.2.2.frmN Fx) k (by rw [HOL.out]; exact hk)
                      obtain ⟨wa, rfl, -, w0, w1⟩ := (X.out.2.2.1.frmN (HS5.out.2.2.1.thenN Fx)) k (by rw [hWl]; exact hk)
                      obtain ⟨e1, e2, e3⟩ := HL.out.1 k hk
                      have hfs := fullB_step O W k
                      have hss := sumTo_step (O := O) (k := k) (by rw [HOL.out]; exact hk)
                      have hsb := HSB.out k (by omega)
                      have hob := (X.out.2.2.2.2.bd k hk).2
                      rw [e1] at g0
                      obtain ⟨q, hq⟩ : ∃ q, (O.getD k (0, 0)).2 = q := ⟨_, rfl⟩
                      obtain ⟨p, hp⟩ : ∃ p, (W.getD k (0, 0)).1 = p := ⟨_, rfl⟩
                      obtain ⟨r, hr⟩ : ∃ r, (W.getD k (0, 0)).2 = r := ⟨_, rfl⟩
                      rw [hq] at g1 e2 e3 hfs hss
                      rw [hp] at g0 w0
                      rw [hr] at w1 e3 hfs hob
                      obtain ⟨sm, hsm⟩ : ∃ s, sumTo O k = s := ⟨_, rfl⟩
                      rw [hsm] at hss hsb ⊢
                      obtain ⟨s0, s1⟩ := hsb
                      obtain ⟨f, hf⟩ : ∃ f, fullB O W k = f := ⟨_, rfl⟩
                      rw [hf] at hfs ⊢
                      have b0 : decide (q < 0) = false := decide_eq_false (by omega)
                      have b1 : decide (r < q) = false := decide_eq_false (by omega)
                      have pw : IntKind.i64.wrap (sm + q) = sm + q := IntWalk.i64_in _ ⟨by omega, by omega⟩
                      have HF := Lib.hid (And.intro hfs hss)
                      have HX := Lib.hid (And.intro Fx pw)
                      clear e1 hfs hss hq hp hr hsm hf hob pw Fx e3 e2
                      cases f with
                      | true =>
                        by_cases hqr : q = r
                        · have b2 : (q == r) = true := beq_iff_eq.2 hqr
                          have HQ := Lib.hid hqr
                          clear hqr
                          go_wp2_with fail
                          go_quiet (fail)
                          go_wp2_with fail
                          have pw := HX.out.2
                          go_quiet (fail)
                          clear pw
                          go_wp2_with fail
                          go_roundw
                          case rel => exact ⟨k + 1, by rw [HF.out.2], by rw [HF.out.1, b2]; rfl, by go_num, by omega, HX.out.1.drewN _⟩
                          case measure => simp [intOf]; omega
                        · have b2 : (q == r) = false := beq_eq_false_iff_ne.2 hqr
                          go_wp2_with fail
                          go_quiet (fail)
                          go_wp2_with fail
                          have pw := HX.out.2
                          go_quiet (fail)
                          clear pw
                          go_wp2_with fail
                          go_roundw
                          case rel => exact ⟨k + 1, by rw [HF.out.2], by rw [HF.out.1, b2]; rfl, by go_num, by omega, HX.out.1.drewN _⟩
                          case measure => simp [intOf]; omega
                      | false =>
                        go_wp2_with fail
                        go_quiet (fail)
                        go_wp2_with fail
                        have pw := HX.out.2
                        go_quiet (fail)
                        clear pw
                        go_wp2_with fail
                        go_roundw
                        case rel => exact ⟨k + 1, by rw [HF.out.2], by rw [HF.out.1]; rfl, by go_num, by omega, HX.out.1.drewN _⟩
                        case measure => simp [intOf]; omega
                    · have k1 : ¬ (k : Int) < (l : Int) := by omega
                      obtain rfl : k = l := by omega
                      obtain ⟨-, hs1, hs2⟩ := HL.out
                      have hs3 : fullB O W k = true ∨ sumTo O k = on := by
                        rcases hs2 with h | h
                        · exact .inl (fullB_all h)
                        · exact .inr h
                      clear hs2
                      obtain ⟨sm, hsm⟩ : ∃ s, sumTo O k = s := ⟨_, rfl⟩
                      rw [hsm] at hs1 hs3 ⊢
                      have b0 : ¬ on < sm := by omega
                      have DONE := Lib.hid (And.intro (HS5.out.1.frmN Fx) (And.intro (show Rat U5 (65536 * ((j + 1 : Nat) : Int)) from HS5.out.2.1.mono (by omega)) (HS5.out.2.2.1.thenN Fx)))
                      clear hs1 hsm Fx
                      obtain ⟨f, hf⟩ : ∃ f, fullB O W k = f := ⟨_, rfl⟩
                      rw [hf] at hs3 ⊢
                      clear hf
                      cases f with
                      | true =>
                        clear hs3
                        go_wp2_with fail
                        go_roundw
                        case rel => exact ⟨j + 1, U5, by go_num, by omega, DONE.out.1, DONE.out.2.1, DONE.out.2.2⟩
                        case measure => simp [intOf]; omega
                      | false =>
                        have hs4 : sm = on := by
                          rcases hs3 with h | h
                          · cases h
                          · exact h
                        clear hs3
                        subst hs4
                        go_wp2_with fail
                        go_roundw
                        case rel => exact ⟨j + 1, U5, by go_num, by omega, DONE.out.1, DONE.out.2.1, DONE.out.2.2⟩
                        case measure => simp [intOf]; omega
                · have hgv := give_no _ g g U on oA l oc W E hS1 (hRW.frmN F1) hWl (by omega) hlc hE hE0
                  have hd : (E != 0) = true := by rw [bne_iff_ne]; exact hE0
                  have X := Lib.hid (And.intro F1 (And.intro hS1 hRa))
                  clear hE hE0 F1 hS1 hRa
                  go_wp2_with fail
                  refine hgv.mono ?_
                  rintro e w5 ⟨rfl, f5⟩
                  go_wp2_with fail
                  go_roundw
                  case rel => exact ⟨j + 1, U, by go_num, by omega, X.out.2.1.frmN f5, X.out.2.2.mono (by omega), X.out.1.thenN f5⟩
                  case measure => simp [intOf]; omega
              · have l1 : ¬ (l : Int) ≤ 40 := by omega
                go_wp2_with fail
                refine (alive_yes _).mono ?_
                rintro e w7 ⟨rfl, f7⟩
                go_wp2_with fail
                go_ret
                exact ⟨rfl, F1.thenN f7⟩
            · have j1 : (j : Int) < (n2 : Int) := by omega
              have j2 : ¬ (j : Int) < 30 := by omega
              go_wp2_with fail
              refine (alive_yes _).mono ?_
              rintro e w7 ⟨rfl, f7⟩
              go_wp2_with fail
              go_ret
              exact ⟨rfl, F.thenN f7⟩
          · have j1 : ¬ (j : Int) < (n2 : Int) := by omega
            go_wp2_with fail
            refine (alive_yes _).mono ?_
            rintro e w7 ⟨rfl, f7⟩
            go_wp2_with fail
            go_ret
            exact ⟨rfl, F.thenN f7⟩
      · have k1 : ¬ (k : Int) < (n : Int) := by omega
        go_wp2_with fail
        go_loopw [7] (fun vi wr => AO w wr g vi) (fun vi _ => 30 - (intOf vi).toNat)
        case atStart => exact FF.out
        case round =>
          obtain ⟨j, U, rfl, hj, hS, hRa, F⟩ := hrel
          by_cases hj2 : j < n2
          · by_cases hj3 : j < 30
            · have j0 : (0 : Int) ≤ (j : Int) := Int.natCast_nonneg _
              have j1 : (j : Int) < (n2 : Int) := by omega
              have j2 : (j : Int) < 30 := by omega
              obtain ⟨ad2, ⟨kd, oi, on, oA, l, oc, W⟩, rfl, hRW, hWl, hlc, o0, o1, o2, o3⟩ := hI2.at_ F hj2
              simp only at hRW hWl hlc o0 o1 o2 o3
              obtain ⟨go, hgo⟩ : ∃ go, wr.heap.size = go := ⟨_, rfl⟩
              have hO : Blk (wr.alloc (.cells #[.int .i64 kd, .int .i64 oi, .int .i64 on, .slice oA l oc] 30)) go #[.int .i64 kd, .int .i64 oi, .int .i64 on, .slice oA l oc] 30 := by rw [← hgo]; exact Blk.new _ _ _
              have hS1 := hS.alloc (.cells #[.int .i64 kd, .int .i64 oi, .int .i64 on, .slice oA l oc] 30)
              have F1 := F.alloc (.cells #[.int .i64 kd, .int .i64 oi, .int .i64 on, .slice oA l oc] 30)
              clear hS F
              by_cases hl : l ≤ 40
              · have l1 : (l : Int) ≤ 40 := by omega
                have y2 := hO.cell 2
                have y3 := hO.cell 3
                simp only [List.getElem?_toArray] at y2 y3
                obtain ⟨E, hE⟩ : ∃ E, askE U on W = E := ⟨_, rfl⟩
                have hB1 : g ≤ (wr.alloc (.cells #[.int .i64 kd, .int .i64 oi, .int .i64 on, .slice oA l oc] 30)).heap.size := by have := F1.size; omega
                by_cases hE0 : E = 0
                · rw [hE0] at hE
                  clear hE0
                  obtain ⟨⟨t0, t1⟩, hWO⟩ := ask_zero hE
                  rw [hWl] at hWO
                  obtain ⟨EE, hEE⟩ : ∃ E, fin ⟨restTo U (leftTo U W l) (leastTo U (leftTo U W l) U.length) U.length, leftTo U W l, List.replicate U.length 0, on⟩ = E := ⟨_, rfl⟩
                  have hLaw := all_law hWO t0 hEE
                  have hgv := give_ok _ g g U on oA l oc W (65536 * (j : Int)) hS1 (fun w' f => hRW.frmN (Frm.thenSU F1 f hgl)) hWl (by omega) hlc hE hRa (by omega) hB1 t0 t1 hWO.inn (left_bd hWO) EE hEE
                  have X := Lib.hid (And.intro hO (And.intro F1 (And.intro hRW (And.intro hWl hWO))))
                  have HL := Lib.hid hLaw
                  clear hLaw hE hEE hS1 hRa hO F1 hRW hWO
                  go_wp2_with fail
                  refine hgv.mono ?_
                  rintro e w5 ⟨v, rfl, R5, S5, Ra5, f5⟩
                  obtain ⟨A5, c5, rfl, -, W5⟩ := rdW_of R5
                  rw [outTo_len]
                  have HOL := Lib.hid (outTo_len W EE.U EE.G l)
                  obtain ⟨O, hOe⟩ : ∃ O, outTo W EE.U EE.G l = O := ⟨_, rfl⟩
                  rw [hOe] at W5 HOL HL
                  have F5 := Frm.thenSU X.out.2.1 f5 hgl
                  have O5 := f5.blk X.out.1 (fun hs => by obtain ⟨_, cs2, hb⟩ := hs; exact Blk.ne hb X.out.1 (by decide) rfl)
                  have HSB := Lib.hid (sumTo_bd (O := O) HOL.out (fun k hk => by
                    have h1 := (HL.out.1 k hk).2
                    have h2 := X.out.2.2.2.2.bd k hk
                    omega))
                  obtain ⟨U5, hU5⟩ : ∃ V, EE.U = V := ⟨_, rfl⟩
                  rw [hU5] at S5 Ra5
                  have HS5 := Lib.hid (And.intro S5 (And.intro Ra5 (And.intro F5 (And.intro O5 W5))))
                  clear hOe hU5 R5 S5 Ra5 F5 O5 W5 f5 hgv y2 y3
                  have O5 := HS5.out.2.2.2.1
                  have y2 := O5.cell 2
                  have y3 := O5.cell 3
                  simp only [List.getElem?_toArray] at y2 y3
                  clear O5
                  go_wp2_with fail
                  clear y2 y3
                  go_loopw [11, 12, 13] (fun va vf vk wx => ∃ k : Nat, va = .int .i64 (sumTo O k) ∧ vf = .bool (fullB O W k) ∧ vk = .int .i64 k ∧ k ≤ l ∧ Frm No w5 wx) (fun _ _ vk _ => l - (intOf vk).toNat)
                  case atStart => exact ⟨0, rfl, rfl, rfl, by omega, Frm.refl _ _⟩
                  case round =>
                    obtain ⟨k, rfl, rfl, rfl, hkl, Fx⟩ := hrel
                    have k0 : (0 : Int) ≤ (k : Int) := Int.natCast_nonneg _
                    have O9 := Fx.blk HS5.out.2.2.2.1 (fun h => h)
                    have y2 := O9.cell 2
                    have y3 := O9.cell 3
                    simp only [List.getElem?_toArray] at y2 y3
                    have h9 := O9.lt
                    clear O9
                    by_cases hk : k < l
                    · have k1 : (k : Int) < (l : Int) := by omega
                      obtain ⟨ga, rfl, -, g0, g1⟩ := (HS5.out.2.2.2.2.frmN Fx) k (by rw [HOL.out]; exact hk)
                      obtain ⟨wa, rfl, -, w0, w1⟩ := (X.out.2.2.1.frmN (HS5.out.2.2.1.thenN Fx)) k (by rw [hWl]; exact hk)
                      obtain ⟨e1, e2, e3⟩ := HL.out.1 k hk
                      have hfs := fullB_step O W k
                      have hss := sumTo_step (O := O) (k := k) (by rw [HOL.out]; exact hk)
                      have hsb := HSB.out k (by omega)
                      have hob := (X.out.2.2.2.2.bd k hk).2
                      rw [e1] at g0
                      obtain ⟨q, hq⟩ : ∃ q, (O.getD k (0, 0)).2 = q := ⟨_, rfl⟩
                      obtain ⟨p, hp⟩ : ∃ p, (W.getD k (0, 0)).1 = p := ⟨_, rfl⟩
                      obtain ⟨r, hr⟩ : ∃ r, (W.getD k (0, 0)).2 = r := ⟨_, rfl⟩
                      rw [hq] at g1 e2 e3 hfs hss
                      rw [hp] at g0 w0
                      rw [hr] at w1 e3 hfs hob
                      obtain ⟨sm, hsm⟩ : ∃ s, sumTo O k = s := ⟨_, rfl⟩
                      rw [hsm] at hss hsb ⊢
                      obtain ⟨s0, s1⟩ := hsb
                      obtain ⟨f, hf⟩ : ∃ f, fullB O W k = f := ⟨_, rfl⟩
                      rw [hf] at hfs ⊢
                      have b0 : decide (q < 0) = false := decide_eq_false (by omega)
                      have b1 : decide (r < q) = false := decide_eq_false (by omega)
                      have pw : IntKind.i64.wrap (sm + q) = sm + q := IntWalk.i64_in _ ⟨by omega, by omega⟩
                      have HF := Lib.hid (And.intro hfs hss)
                      have HX := Lib.hid (And.intro Fx pw)
                      clear e1 hfs hss hq hp hr hsm hf hob pw Fx e3 e2
                      cases f with
                      | true =>
                        by_cases hqr : q = r
                        · have b2 : (q == r) = true := beq_iff_eq.2 hqr
                          have HQ := Lib.hid hqr
                          clear hqr
                          go_wp2_with fail
                          go_quiet (fail)
                          go_wp2_with fail
                          have pw := HX.out.2
                          go_quiet (fail)
                          clear pw
                          go_wp2_with fail
                          go_roundw
                          case rel => exact ⟨k + 1, by rw [HF.out.2], by rw [HF.out.1, b2]; rfl, by go_num, by omega, HX.out.1.drewN _⟩
                          case measure => simp [intOf]; omega
                        · have b2 : (q == r) = false := beq_eq_false_iff_ne.2 hqr
                          go_wp2_with fail
                          go_quiet (fail)
                          go_wp2_with fail
                          have pw := HX.out.2
                          go_quiet (fail)
                          clear pw
                          go_wp2_with fail
                          go_roundw
                          case rel => exact ⟨k + 1, by rw [HF.out.2], by rw [HF.out.1, b2]; rfl, by go_num, by omega, HX.out.1.drewN _⟩
                          case measure => simp [intOf]; omega
                      | false =>
                        go_wp2_with fail
                        go_quiet (fail)
                        go_wp2_with fail
                        have pw := HX.out.2
                        go_quiet (fail)
                        clear pw
                        go_wp2_with fail
                        go_roundw
                        case rel => exact ⟨k + 1, by rw [HF.out.2], by rw [HF.out.1]; rfl, by go_num, by omega, HX.out.1.drewN _⟩
                        case measure => simp [intOf]; omega
                    · have k1 : ¬ (k : Int) < (l : Int) := by omega
                      obtain rfl : k = l := by omega
                      obtain ⟨-, hs1, hs2⟩ := HL.out
                      have hs3 : fullB O W k = true ∨ sumTo O k = on := by
                        rcases hs2 with h | h
                        · exact .inl (fullB_all h)
                        · exact .inr h
                      clear hs2
                      obtain ⟨sm, hsm⟩ : ∃ s, sumTo O k = s := ⟨_, rfl⟩
                      rw [hsm] at hs1 hs3 ⊢
                      have b0 : ¬ on < sm := by omega
                      have DONE := Lib.hid (And.intro (HS5.out.1.frmN Fx) (And.intro (show Rat U5 (65536 * ((j + 1 : Nat) : Int)) from HS5.out.2.1.mono (by omega)) (HS5.out.2.2.1.thenN Fx)))
                      clear hs1 hsm Fx
                      obtain ⟨f, hf⟩ : ∃ f, fullB O W k = f := ⟨_, rfl⟩
                      rw [hf] at hs3 ⊢
                      clear hf
                      cases f with
                      | true =>
                        clear hs3
                        go_wp2_with fail
                        go_roundw
                        case rel => exact ⟨j + 1, U5, by go_num, by omega, DONE.out.1, DONE.out.2.1, DONE.out.2.2⟩
                        case measure => simp [intOf]; omega
                      | false =>
                        have hs4 : sm = on := by
                          rcases hs3 with h | h
                          · cases h
                          · exact h
                        clear hs3
                        subst hs4
                        go_wp2_with fail
                        go_roundw
                        case rel => exact ⟨j + 1, U5, by go_num, by omega, DONE.out.1, DONE.out.2.1, DONE.out.2.2⟩
                        case measure => simp [intOf]; omega
                · have hgv := give_no _ g g U on oA l oc W E hS1 (hRW.frmN F1) hWl (by omega) hlc hE hE0
                  have hd : (E != 0) = true := by rw [bne_iff_ne]; exact hE0
                  have X := Lib.hid (And.intro F1 (And.intro hS1 hRa))
                  clear hE hE0 F1 hS1 hRa
                  go_wp2_with fail
                  refine hgv.mono ?_
                  rintro e w5 ⟨rfl, f5⟩
                  go_wp2_with fail
                  go_roundw
                  case rel => exact ⟨j + 1, U, by go_num, by omega, X.out.2.1.frmN f5, X.out.2.2.mono (by omega), X.out.1.thenN f5⟩
                  case measure => simp [intOf]; omega
              · have l1 : ¬ (l : Int) ≤ 40 := by omega
                go_wp2_with fail
                refine (alive_yes _).mono ?_
                rintro e w7 ⟨rfl, f7⟩
                go_wp2_with fail
                go_ret
                exact ⟨rfl, F1.thenN f7⟩
            · have j1 : (j : Int) < (n2 : Int) := by omega
              have j2 : ¬ (j : Int) < 30 := by omega
              go_wp2_with fail
              refine (alive_yes _).mono ?_
              rintro e w7 ⟨rfl, f7⟩
              go_wp2_with fail
              go_ret
              exact ⟨rfl, F.thenN f7⟩
          · have j1 : ¬ (j : Int) < (n2 : Int) := by omega
            go_wp2_with fail
            refine (alive_yes _).mono ?_
            rintro e w7 ⟨rfl, f7⟩
            go_wp2_with fail
            go_ret
            exact ⟨rfl, F.thenN f7⟩
end Go.Proofs.Ytiifepajnhdfjaa.A

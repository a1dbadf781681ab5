/- HarqLives' walk. -/
import Derived.Test.YtcdjofneijlbgaaCP
import Derived.Test.YtcdjofneijlbgaaCL
import Derived.Deep.CutBlock
import Derived.Deep.DeepCutAuto
namespace Go.Proofs.Ytcdjofneijlbgaa.A
open Go.RowKit Go.Proofs.Ytcdjofneijlbgaa.K Go.Proofs.Ytcdjofneijlbgaa.F Go.Proofs.Ytcdjofneijlbgaa.N
set_option linter.unusedVariables false
set_option linter.unusedSimpArgs false

theorem box0 (w : World) (t : Int) : IsBox (w.alloc (.cells #[.int .i64 t, .slice none 0 0, .int .i64 0, .slice none 0 0, .int .i64 0, .slice none 0 0, .int .i64 0, .slice none 0 0, .int .i64 0, .slice none 0 0, .int .i64 0, .slice none 0 0, .int .i64 0, .slice none 0 0, .int .i64 0, .slice none 0 0, .int .i64 0, .int .i64 0, .int .i64 0] 52)) w.heap.size t 0 0 st0 := by
  refine ⟨_, Blk.new _ _ _, rfl, rfl, rfl, rfl, fun p hp => ⟨none, 0, ?_, ?_, RdC.nil _ _⟩⟩
  · obtain rfl | rfl | rfl | rfl | rfl | rfl | rfl | rfl : p = 0 ∨ p = 1 ∨ p = 2 ∨ p = 3 ∨ p = 4 ∨ p = 5 ∨ p = 6 ∨ p = 7 := by omega
    all_goals rfl
  · obtain rfl | rfl | rfl | rfl | rfl | rfl | rfl | rfl : p = 0 ∨ p = 1 ∨ p = 2 ∨ p = 3 ∨ p = 4 ∨ p = 5 ∨ p = 6 ∨ p = 7 := by omega
    all_goals rfl
theorem rbox0 (w : World) (t : Int) : IsRB (w.alloc (.cells #[.int .i64 t, .slice none 0 0, .slice none 0 0, .slice none 0 0, .slice none 0 0, .slice none 0 0, .slice none 0 0, .slice none 0 0, .slice none 0 0, .int .i64 0, .int .i64 0] 32)) w.heap.size t 0 0 (fun _ => []) := by
  refine ⟨_, Blk.new _ _ _, rfl, rfl, rfl, rfl, fun p hp => ⟨none, 0, [], ?_, Rds.nil _ _ _, ⟨rfl, fun j hj => absurd hj (by simp)⟩, fun ad e => by cases e⟩⟩
  obtain rfl | rfl | rfl | rfl | rfl | rfl | rfl | rfl : p = 0 ∨ p = 1 ∨ p = 2 ∨ p = 3 ∨ p = 4 ∨ p = 5 ∨ p = 6 ∨ p = 7 := by omega
  all_goals rfl
theorem IsBox.neT {w : World} {g : Nat} {tries heard gone : Int} {st : Nat → Held} (h : IsBox w g tries heard gone st) (t : TypeId) (ht : t ≠ 52) : ∀ x cs, Blk w x cs t → ¬ (x = g) := fun x cs hx e => by
  obtain ⟨cs', hb, _⟩ := h
  subst e
  exact Blk.ne hx hb ht rfl
theorem Good.drop {tries : Int} {st : Nat → Held} (h : Good tries st) (h1 : 1 ≤ tries) (p : Nat) : Good tries (upd st p ([], 0)) := fun q => by
  unfold upd
  split
  · exact ⟨by show (0 : Int) < tries; omega, fun q hq => by simp at hq⟩
  · exact h q
/-- The program's box and the document's. -/
def LB (w wx : World) (g gy : Nat) (tries : Int) (j : Nat) : Prop := ∃ (st : Nat → Held) (ls : Nat → List (List Pt)) (a b : Int), IsBox wx g tries a b st ∧ IsRB wx gy tries a b ls ∧ Good tries st ∧ Linked st ls ∧
  (0 ≤ a ∧ a ≤ (j : Int) ∧ 0 ≤ b ∧ b ≤ (j : Int)) ∧ Frm No w wx
set_option maxRecDepth 100000 in
set_option maxHeartbeats 16000000 in
theorem hlives_walk (tries : Int) (A2 : Option Addr) (n2 c2 : Nat) (ops : List HOp) (w : World) (wt : (Lit.int .i64 tries).wf = true) (hI : IsOps w A2 n2 ops) :
    Calls Try.prog 3 #[.int .i64 tries, .slice A2 n2 c2] w fun e w' => e = .returned (.bool true) ∧ Frm No w w' := by
  clear wt
  have hn29 : n2 ≤ 9223372036854775807 := hI.2.1
  by_cases ht : tries < 1 ∨ 16 < tries
  · have hno := new_out w tries ht
    go_enter Try.func3, Try.ntmps3
    go_wp2_with fail
    refine hno.mono ?_
    rintro e w1 ⟨rfl, rfl⟩
    by_cases h1 : tries < 1
    · clear ht hno
      go_wp2_with fail
      refine (alive_yes _).mono ?_
      rintro e w7 ⟨rfl, f7⟩
      go_wp2_with fail
      go_ret
      exact ⟨rfl, f7⟩
    · have h2 : 16 < tries := by omega
      clear ht hno
      go_wp2_with fail
      refine (alive_yes _).mono ?_
      rintro e w7 ⟨rfl, f7⟩
      go_wp2_with fail
      go_ret
      exact ⟨rfl, f7⟩
  · have t1 : 1 ≤ tries := by omega
    have t16 : tries ≤ 16 := by omega
    clear ht
    go_enter Try.func3, Try.ntmps3
    go_wp2_with fail
    refine (new_ok w tries t1 t16).mono ?_
    rintro e w1 ⟨rfl, B1, F1⟩
    obtain ⟨g, hg⟩ : ∃ g, w.heap.size = g := ⟨_, rfl⟩
    rw [hg] at B1
    rw [hg]
    have hgl : w.heap.size ≤ g := by omega
    have H1 := Lib.hid (And.intro B1 F1)
    clear B1 F1 hg
    go_upto_region 7 with fail
    obtain ⟨gy, hgy⟩ : ∃ gy, w1.heap.size = gy := ⟨_, rfl⟩
    rw [hgy]
    have hgyl : w.heap.size ≤ gy := by have := H1.out.2.size; omega
    have hne : g ≠ gy := by have := H1.out.1.lt; omega
    have FA := (Frm.refl No w1).alloc (.cells #[.int .i64 tries, .slice none 0 0, .slice none 0 0, .slice none 0 0, .slice none 0 0, .slice none 0 0, .slice none 0 0, .slice none 0 0, .slice none 0 0, .int .i64 0, .int .i64 0] 32)
    have H2 := Lib.hid (show LB w (w1.alloc (.cells #[.int .i64 tries, .slice none 0 0, .slice none 0 0, .slice none 0 0, .slice none 0 0, .slice none 0 0, .slice none 0 0, .slice none 0 0, .slice none 0 0, .int .i64 0, .int .i64 0] 32)) g gy tries 0 from ⟨st0, fun _ => [], 0, 0, H1.out.1.frmN FA, by rw [← hgy]; exact rbox0 w1 tries, good0 t1, linked0, ⟨by omega, by omega, by omega, by omega⟩, H1.out.2.thenN FA⟩)
    clear FA H1 hgy
    go_wp2_with fail
    go_loopw [8] (fun vi wr => ∃ i : Nat, vi = .int .i64 i ∧ i ≤ 60 ∧ LB w wr g gy tries i) (fun vi _ => 60 - (intOf vi).toNat)
    case atStart => exact ⟨0, rfl, by omega, H2.out⟩
    case round =>
      clear H2
      obtain ⟨j, rfl, hj, st, ls, a, b, Bx, By, G1, Lk, hbd, F⟩ := hrel
      have HH := Lib.hid (And.intro Bx (And.intro By (And.intro G1 (And.intro Lk (And.intro hbd F)))))
      clear Bx By G1 Lk hbd F
      by_cases hgo : j < n2 ∧ j < 60
      · obtain ⟨hj2, hj3⟩ := hgo
        have j0 : (0 : Int) ≤ (j : Int) := Int.natCast_nonneg _
        have j1 : (j : Int) < (n2 : Int) := by omega
        have j2 : (j : Int) < 60 := by omega
        obtain ⟨ad2, ⟨pr, fr, dr, oA, l, oc, bs, oB, m, od, ns, t⟩, rfl, hB, hbl, hb256, hl63, hIn, hm63, ht, o0, o1, o2, o3, o4, o5⟩ := hI.at_ HH.out.2.2.2.2.2 hj2
        simp only at hB hbl hb256 hl63 hIn hm63 ht o0 o1 o2 o3 o4 o5
        obtain ⟨go, hgo⟩ : ∃ go, wr.heap.size = go := ⟨_, rfl⟩
        obtain ⟨wo, hwo⟩ : ∃ wo, wr.alloc (.cells #[.int .i64 pr, .bool fr, .bool dr, .slice oA l oc, .slice oB m od, .int .u8 t] 36) = wo := ⟨_, rfl⟩
        have hO : Blk wo go #[.int .i64 pr, .bool fr, .bool dr, .slice oA l oc, .slice oB m od, .int .u8 t] 36 := by rw [← hgo, ← hwo]; exact Blk.new _ _ _
        have G1 : Frm No wr wo := by rw [← hwo]; exact (Frm.refl No wr).alloc _
        have HO := Lib.hid (And.intro hO (And.intro G1 (And.intro hB (And.intro hbl (And.intro hb256 (And.intro hIn ht))))))
        have y0 : wo.cell? ⟨go, 0, none⟩ = some (.int .i64 pr) := hO.cell 0
        have y1 : wo.cell? ⟨go, 1, none⟩ = some (.bool fr) := hO.cell 1
        have y2 : wo.cell? ⟨go, 2, none⟩ = some (.bool dr) := hO.cell 2
        have y3 : wo.cell? ⟨go, 3, none⟩ = some (.slice oA l oc) := hO.cell 3
        have y4 : wo.cell? ⟨go, 4, none⟩ = some (.slice oB m od) := hO.cell 4
        have y5 : wo.cell? ⟨go, 5, none⟩ = some (.int .u8 t) := hO.cell 5
        clear hB hbl hb256 hIn ht hO G1
        go_upto_region 11 with fail
        clear o0 o1 o2 o3 o4 o5 hgo hwo
        by_cases hl : (l : Int) ≤ 300 ∧ (m : Int) ≤ 3000
        · obtain ⟨hl1, hl2⟩ := hl
          have Bxo := HH.out.1.frmN HO.out.2.1
          have Byo := HH.out.2.1.frmN HO.out.2.1
          have FO := HH.out.2.2.2.2.2.thenN HO.out.2.1
          have HB := Lib.hid (And.intro Bxo (And.intro Byo FO))
          clear Bxo Byo FO
          cases dr with
          | true =>
            have ha := ask_ok wo g tries a b st pr HB.out.1 (by omega)
            by_cases hp : pr < 0 ∨ 7 < pr
            · have hE : askE pr = 1 := if_pos (by omega)
              rw [hE] at ha
              have hd := drop_out wo (some ⟨g, 0, none⟩) pr 1 ha (by decide)
              have hbd := HH.out.2.2.2.2.1
              have HN := Lib.hid (show LB w wo g gy tries (j + 1) from ⟨st, ls, a, b, HB.out.1, HB.out.2.1, HH.out.2.2.1, HH.out.2.2.2.1, ⟨by omega, by push_cast; omega, by omega, by push_cast; omega⟩, HB.out.2.2⟩)
              clear ha hE hbd
              go_wp2_with fail
              refine hd.mono ?_
              rintro e w5 ⟨rfl, rfl⟩
              by_cases hp0 : pr < 0
              · clear hp hd
                go_wp2_with fail
                go_roundw
                case rel => exact ⟨j + 1, by go_num, by omega, HN.out⟩
                case measure => simp [intOf]; omega
              · have hp7 : 7 < pr := by omega
                clear hp hd
                go_wp2_with fail
                go_roundw
                case rel => exact ⟨j + 1, by go_num, by omega, HN.out⟩
                case measure => simp [intOf]; omega
            · obtain ⟨q, rfl⟩ := Int.eq_ofNat_of_zero_le (show 0 ≤ pr by omega)
              have hq8 : q < 8 := by omega
              have hd := drop_in wo g tries a b st q HB.out.1 (by omega) hq8
              have q0 : (0 : Int) ≤ (q : Int) := by omega
              have q1 : (q : Int) < 8 := by omega
              have q2 : ¬ (7 : Int) < (q : Int) := by omega
              clear ha hp
              go_wp2_with fail
              refine hd.mono ?_
              rintro e w5 ⟨rfl, B5, f5⟩
              have n52 := HB.out.1.neT
              have By5 := HB.out.2.1.frm f5 (fun e => hne e.symm) (n52 60 (by decide)) (n52 39 (by decide))
              have hO5 := f5.blk HO.out.1 (n52 36 (by decide) _ _ HO.out.1)
              have F5 := HB.out.2.2.then f5 (fun x hx => .inr (by subst hx; exact hgl))
              have y05 : w5.cell? ⟨go, 0, none⟩ = some (.int .i64 (q : Int)) := hO5.cell 0
              obtain ⟨A9, c9, S9, k1, z1, -, -, -⟩ := By5.cells hq8
              obtain ⟨m9, hm9⟩ : ∃ m9, (ls q).length = m9 := ⟨_, rfl⟩
              rw [hm9] at k1
              have hgyl5 := By5.lt
              have HP := Lib.hid (And.intro B5 (And.intro F5 (By5.put hq8 none 0 [] [] (Rds.nil _ _ _) ⟨rfl, fun j hj => absurd hj (by simp)⟩ (fun ad e => by cases e))))
              have n32 := By5.ne60
              have H32 := Lib.hid n32
              have hbd := HH.out.2.2.2.2.1
              have HBD := Lib.hid hbd
              clear hd n52 By5 hO5 F5 f5 B5 hm9 n32 hbd y0 y1 y2 y3 y4 y5
              go_wp2_with fail
              go_region
              obtain ⟨w6, hw6⟩ : ∃ w6, w5.setCell ⟨gy, 1 + q, none⟩ (.slice none 0 0) = w6 := ⟨_, rfl⟩
              have HQ := HP.out.2.2
              simp only [List.length_nil] at HQ
              rw [hw6] at HQ
              have FD := (Frm.refl No w6).drew
              have hbd := HBD.out
              have HN := Lib.hid (show LB w w6.drew g gy tries (j + 1) from ⟨upd st q ([], 0), updL ls q [], a, b, (HP.out.1.frm HQ.2 hne (fun x cs hx => H32.out x cs 61 (by decide) hx)).frmN FD, HQ.1.frmN FD, HH.out.2.2.1.drop t1 q, HH.out.2.2.2.1.upd q link0, ⟨by omega, by push_cast; omega, by omega, by push_cast; omega⟩, (HP.out.2.1.then HQ.2 (fun x hx => .inr (by subst hx; exact hgyl))).thenN FD⟩)
              clear HQ FD hbd
              go_wp2_with fail
              go_roundw
              case rel => exact ⟨j + 1, by go_num, by omega, by simpa [hw6] using HN.out⟩
              case measure => simp [intOf]; omega
          | false =>
            obtain ⟨K, hK⟩ : ∃ K, (sgl bs).length = K := ⟨_, rfl⟩
            have hK2 : K = 4 * (l + 2) := by rw [← hK, sgl_len, HO.out.2.2.2.1]
            have hsg := sig_ok wo pr fr false oA l oc bs oB m od ns t K (min K (m / 2)) (HO.out.2.2.1.frmN HB.out.2.2) HO.out.2.2.2.1 HO.out.2.2.2.2.1 (by omega) (Ints.frmN HO.out.2.2.2.2.2.1 HB.out.2.2) (by omega) HO.out.2.2.2.2.2.2 hK (fun i => by rw [Nat.lt_min]; omega)
            have hlim := nzL_lim (k := ((t % 20 : Nat) : Int)) (four_lim (S := sgl bs) (ofL_four _)) HO.out.2.2.2.2.2.1.2.2.1 (by omega) (by omega) (min K (m / 2))
            have hlen := nzL_len (sgl bs) ns ((t % 20 : Nat) : Int) (min K (m / 2))
            rw [hK] at hlen
            obtain ⟨Lx, hLx⟩ : ∃ Lx, nzL (sgl bs) ns ((t % 20 : Nat) : Int) (min K (m / 2)) = Lx := ⟨_, rfl⟩
            rw [hLx] at hsg hlim hlen
            have HL := Lib.hid (And.intro hlim (And.intro hlen hK2))
            clear hlim hlen hK hLx hK2
            go_wp2_with fail
            refine hsg.mono ?_
            rintro e w5 ⟨A1, c1, A3, c3, rfl, R1, R2, f5⟩
            obtain ⟨A1', c1', e1, rd⟩ := rdC_of R1
            injection e1 with e11 e12 e13
            subst e11
            clear e12 e13
            obtain ⟨A3', c3', e1, rdp⟩ := rdP_of R2
            injection e1 with e11 e12 e13
            subst e11
            clear e12 e13
            obtain ⟨r, hr⟩ := hears_some tries a b st pr fr Lx
            have Bx5 := HB.out.1.frmN f5
            have By5 := HB.out.2.1.frmN f5
            have hbd := HH.out.2.2.2.2.1
            have hhe := hear_any w5 g tries a b st pr fr A1 K c1 Lx r Bx5 t1 t16 HH.out.2.2.1 rd HL.out.2.1 (by have := HL.out.2.2; omega) (HL.out.1.sml (by omega)) hr (by omega) (by omega) (by omega) (by omega)
            have hO5 := f5.blk HO.out.1 (fun h => h)
            have z0 : w5.cell? ⟨go, 0, none⟩ = some (.int .i64 pr) := hO5.cell 0
            have z1 : w5.cell? ⟨go, 1, none⟩ = some (.bool fr) := hO5.cell 1
            have H5 := Lib.hid (And.intro Bx5 (And.intro By5 (And.intro hO5 (And.intro rdp (And.intro hr (HB.out.2.2.thenN f5))))))
            clear hsg R1 R2 f5 Bx5 By5 hbd hO5 rd rdp hr y0 y1 y2 y3 y4 y5
            go_wp2_with fail
            refine hhe.mono ?_
            rintro e w6 ⟨v6, rfl, R6, B6, f6⟩
            obtain ⟨A6, c6, rfl, hb6⟩ := Bin.of_row R6
            obtain ⟨n6, hn6⟩ : ∃ n6, r.B.length = n6 := ⟨_, rfl⟩
            rw [hn6]
            have n52 := H5.out.1.neT
            have By6 := H5.out.2.1.frm f6 (fun e => hne e.symm) (n52 60 (by decide)) (n52 39 (by decide))
            have hO6 := f6.blk H5.out.2.2.1 (n52 36 (by decide) _ _ H5.out.2.2.1)
            have F6 := H5.out.2.2.2.2.2.then f6 (fun x hx => .inr (by subst hx; exact hgl))
            have z06 : w6.cell? ⟨go, 0, none⟩ = some (.int .i64 pr) := hO6.cell 0
            have z16 : w6.cell? ⟨go, 1, none⟩ = some (.bool fr) := hO6.cell 1
            have rdp6 := RdP.frm H5.out.2.2.2.1 f6 (n52 60 (by decide))
            have hbd := HH.out.2.2.2.2.1
            have hhy := rhear_any w6 gy tries a b st ls pr fr A3 K c3 Lx r By6 t16 HH.out.2.2.1 HH.out.2.2.2.1 rdp6 HL.out.2.1 HL.out.1 H5.out.2.2.2.2.1 (by omega) (by omega) (by omega) (by omega)
            have hcn := hears_counts H5.out.2.2.2.2.1
            have Gr := HH.out.2.2.1.hears t1 H5.out.2.2.2.2.1
            have H6 := Lib.hid (And.intro B6 (And.intro By6 (And.intro F6 (And.intro Gr (And.intro R6 (And.intro hn6 (And.intro hcn hbd)))))))
            rw [hn6] at hhy
            clear hhe z0 z1 n52 By6 hO6 F6 hcn Gr R6 hb6 B6 f6 hn6 rdp6 hbd
            go_wp2_with fail
            refine hhy.mono ?_
            rintro e w7 ⟨A7, c7, ls', rfl, hb7, B7, Lk7, f7⟩
            have n32 := H6.out.2.1.ne60
            have Bx7 := H6.out.1.frm f7 hne (fun x cs hx => n32 x cs 61 (by decide) hx)
            have R67 := own_frm H6.out.2.2.2.2.1 f7 (fun x cs hx => n32 x cs 5 (by decide) hx)
            have hb67 : Bin w7 A6 r.B := by
              obtain ⟨A8, c8, e8, hb8⟩ := Bin.of_row (L := r.B) R67
              injection e8 with e81
              subst e81
              exact hb8
            have F7 := H6.out.2.2.1.then f7 (fun x hx => .inr (by subst hx; exact hgyl))
            have hct := counts_ok w7 g tries _ _ r.st Bx7
            have H7 := Lib.hid (And.intro Bx7 (And.intro B7 (And.intro Lk7 (And.intro F7 (And.intro hb7 hb67)))))
            obtain ⟨ra, hra⟩ : ∃ ra, r.heard = ra := ⟨_, rfl⟩
            obtain ⟨rb, hrb⟩ : ∃ rb, r.gone = rb := ⟨_, rfl⟩
            rw [hra, hrb] at hct
            have HRA := Lib.hid (And.intro hra hrb)
            clear hhy n32 Bx7 R67 hb67 F7 B7 Lk7 f7 hb7 z06 z16 hra hrb
            go_wp2_with fail
            refine hct.mono ?_
            rintro e w8 ⟨rfl, f8⟩
            have s1 := (H7.out.2.2.2.2.2.frmN f8).str (c := c6) H6.out.2.2.2.2.2.1
            have s2 := (H7.out.2.2.2.2.1.frmN f8).str (c := c7) H6.out.2.2.2.2.2.1
            have By8 := H7.out.2.1.frmN f8
            obtain ⟨-, kh, kg, -, -⟩ := By8.nums
            rw [HRA.out.1] at kh
            rw [HRA.out.2] at kg
            have H8 := Lib.hid (And.intro (H7.out.1.frmN f8) (And.intro By8 (H7.out.2.2.2.1.thenN f8)))
            clear hct By8 f8
            go_wp2_with fail
            clear s1 s2 kh kg
            go_loopw [22] (fun vq wr => ∃ q : Nat, vq = .int .i64 q ∧ q ≤ 8 ∧ Frm No w8 wr) (fun vq _ => 8 - (intOf vq).toNat)
            case atStart => exact ⟨0, rfl, by omega, Frm.refl _ _⟩
            case round =>
              obtain ⟨q, rfl, hq, Fq⟩ := hrel
              by_cases hq8 : q < 8
              · have q0 : (0 : Int) ≤ (q : Int) := Int.natCast_nonneg _
                have q1 : (q : Int) < 8 := by omega
                have htq := fun k => tries_in (wr.drewN k) g tries _ _ r.st q ((H8.out.1.frmN Fq).frmN ((Frm.refl No wr).drewN k)) (by omega) hq8
                have By9 := H8.out.2.1.frmN Fq
                obtain ⟨A9, c9, S9, k1, -, -, -, -⟩ := By9.cells hq8
                have hlk := (H7.out.2.2.1 q hq8).1
                obtain ⟨tq, htq2⟩ : ∃ tq, (r.st q).2 = tq := ⟨_, rfl⟩
                rw [htq2] at htq hlk
                rw [← hlk] at k1
                have HT := Lib.hid htq
                have HFq := Lib.hid Fq
                have hgl9 := By9.lt
                clear htq By9 hlk htq2 Fq
                go_wp2_with fail
                go_quiet (first | (go_at_call 14; exact Calls.quiet_of_same (HT.out _)))
                go_wp2_with fail
                go_roundw
                case rel => exact ⟨q + 1, by go_num, by omega, HFq.out.drewN _⟩
                case measure => simp [intOf]; omega
              · have q1 : ¬ (q : Int) < 8 := by omega
                have hcn := H6.out.2.2.2.2.2.2.1
                have hbd := H6.out.2.2.2.2.2.2.2
                have HN := Lib.hid (show LB w wr g gy tries (j + 1) from ⟨r.st, ls', r.heard, r.gone, H8.out.1.frmN Fq, H8.out.2.1.frmN Fq, H6.out.2.2.2.1, H7.out.2.2.1, ⟨by omega, by push_cast; omega, by omega, by push_cast; omega⟩, H8.out.2.2.thenN Fq⟩)
                clear Fq hcn hbd
                go_wp2_with fail
                go_roundw
                case rel => exact ⟨j + 1, by go_num, by omega, HN.out⟩
                case measure => simp [intOf]; omega
        · have FO := HH.out.2.2.2.2.2.thenN HO.out.2.1
          by_cases hl1 : (300 : Int) < (l : Int)
          · clear hl
            go_wp2_with fail
            refine (alive_yes _).mono ?_
            rintro e w7 ⟨rfl, f7⟩
            go_wp2_with fail
            go_ret
            exact ⟨rfl, FO.thenN f7⟩
          · have hl2 : (3000 : Int) < (m : Int) := by omega
            clear hl
            go_wp2_with fail
            refine (alive_yes _).mono ?_
            rintro e w7 ⟨rfl, f7⟩
            go_wp2_with fail
            go_ret
            exact ⟨rfl, FO.thenN f7⟩
      · have HF := Lib.hid HH.out.2.2.2.2.2
        clear HH
        by_cases hj2 : j < n2
        · have j1 : (j : Int) < (n2 : Int) := by omega
          have j2 : ¬ (j : Int) < 60 := by omega
          clear hgo
          go_upto_region 36 with fail
          obtain ⟨gz, hgz⟩ : ∃ gz, wr.heap.size = gz := ⟨_, rfl⟩
          rw [hgz]
          have HZ := Lib.hid (show IsBox (wr.alloc (.cells #[.int .i64 0, .slice none 0 0, .int .i64 0, .slice none 0 0, .int .i64 0, .slice none 0 0, .int .i64 0, .slice none 0 0, .int .i64 0, .slice none 0 0, .int .i64 0, .slice none 0 0, .int .i64 0, .slice none 0 0, .int .i64 0, .slice none 0 0, .int .i64 0, .int .i64 0, .int .i64 0] 52)) gz 0 0 0 st0 ∧ Frm No w (wr.alloc (.cells #[.int .i64 0, .slice none 0 0, .int .i64 0, .slice none 0 0, .int .i64 0, .slice none 0 0, .int .i64 0, .slice none 0 0, .int .i64 0, .slice none 0 0, .int .i64 0, .slice none 0 0, .int .i64 0, .slice none 0 0, .int .i64 0, .slice none 0 0, .int .i64 0, .int .i64 0, .int .i64 0] 52)) from ⟨by rw [← hgz]; exact box0 wr 0, HF.out.alloc _⟩)
          clear hgz
          go_wp2_with fail
          refine (hear_ask _ none 0 6 true none 0 0 (ask_nil _ 0) (by decide)).mono ?_
          rintro e w3 ⟨rfl, rfl⟩
          go_wp2_with fail
          refine (hear_ask _ (some ⟨gz, 0, none⟩) 0 6 true none 0 0 (ask_zero _ gz 0 0 st0 0 HZ.out.1) (by decide)).mono ?_
          rintro e w4 ⟨rfl, rfl⟩
          go_wp2_with fail
          refine (counts_nil _).mono ?_
          rintro e w5 ⟨rfl, rfl⟩
          go_wp2_with fail
          refine (alive_yes _).mono ?_
          rintro e w7 ⟨rfl, f7⟩
          have HZ7 := Lib.hid (And.intro (HZ.out.1.frmN f7) (HZ.out.2.thenN f7))
          clear f7
          go_wp2_with fail
          refine (drop_out _ (some ⟨gz, 0, none⟩) 0 6 (ask_zero _ gz 0 0 st0 0 HZ7.out.1) (by decide)).mono ?_
          rintro e w8 ⟨rfl, rfl⟩
          go_wp2_with fail
          refine (tries_out _ none 0 6 (ask_nil _ 0) (by decide)).mono ?_
          rintro e w8 ⟨rfl, rfl⟩
          go_wp2_with fail
          refine (tries_out _ (some ⟨gz, 0, none⟩) 0 6 (ask_zero _ gz 0 0 st0 0 HZ7.out.1) (by decide)).mono ?_
          rintro e w8 ⟨rfl, rfl⟩
          go_wp2_with fail
          go_ret
          exact ⟨rfl, HZ7.out.2⟩
        · have j1 : ¬ (j : Int) < (n2 : Int) := by omega
          clear hgo
          go_upto_region 36 with fail
          obtain ⟨gz, hgz⟩ : ∃ gz, wr.heap.size = gz := ⟨_, rfl⟩
          rw [hgz]
          have HZ := Lib.hid (show IsBox (wr.alloc (.cells #[.int .i64 0, .slice none 0 0, .int .i64 0, .slice none 0 0, .int .i64 0, .slice none 0 0, .int .i64 0, .slice none 0 0, .int .i64 0, .slice none 0 0, .int .i64 0, .slice none 0 0, .int .i64 0, .slice none 0 0, .int .i64 0, .slice none 0 0, .int .i64 0, .int .i64 0, .int .i64 0] 52)) gz 0 0 0 st0 ∧ Frm No w (wr.alloc (.cells #[.int .i64 0, .slice none 0 0, .int .i64 0, .slice none 0 0, .int .i64 0, .slice none 0 0, .int .i64 0, .slice none 0 0, .int .i64 0, .slice none 0 0, .int .i64 0, .slice none 0 0, .int .i64 0, .slice none 0 0, .int .i64 0, .slice none 0 0, .int .i64 0, .int .i64 0, .int .i64 0] 52)) from ⟨by rw [← hgz]; exact box0 wr 0, HF.out.alloc _⟩)
          clear hgz
          go_wp2_with fail
          refine (hear_ask _ none 0 6 true none 0 0 (ask_nil _ 0) (by decide)).mono ?_
          rintro e w3 ⟨rfl, rfl⟩
          go_wp2_with fail
          refine (hear_ask _ (some ⟨gz, 0, none⟩) 0 6 true none 0 0 (ask_zero _ gz 0 0 st0 0 HZ.out.1) (by decide)).mono ?_
          rintro e w4 ⟨rfl, rfl⟩
          go_wp2_with fail
          refine (counts_nil _).mono ?_
          rintro e w5 ⟨rfl, rfl⟩
          go_wp2_with fail
          refine (alive_yes _).mono ?_
          rintro e w7 ⟨rfl, f7⟩
          have HZ7 := Lib.hid (And.intro (HZ.out.1.frmN f7) (HZ.out.2.thenN f7))
          clear f7
          go_wp2_with fail
          refine (drop_out _ (some ⟨gz, 0, none⟩) 0 6 (ask_zero _ gz 0 0 st0 0 HZ7.out.1) (by decide)).mono ?_
          rintro e w8 ⟨rfl, rfl⟩
          go_wp2_with fail
          refine (tries_out _ none 0 6 (ask_nil _ 0) (by decide)).mono ?_
          rintro e w8 ⟨rfl, rfl⟩
          go_wp2_with fail
          refine (tries_out _ (some ⟨gz, 0, none⟩) 0 6 (ask_zero _ gz 0 0 st0 0 HZ7.out.1) (by decide)).mono ?_
          rintro e w8 ⟨rfl, rfl⟩
          go_wp2_with fail
          go_ret
          exact ⟨rfl, HZ7.out.2⟩
end Go.Proofs.Ytcdjofneijlbgaa.A

/- PollLives' walk where the limits may be. -/
import Derived.Test.YtnilihfhajjmhaaS
import Derived.Deep.RegionHeld3
import Derived.Deep.RegionLaw
import Derived.Deep.DeepCutAuto
import Derived.Deep.CutBlock
namespace Go.Proofs.Ytnilihfhajjmhaa.A
open Go.RowKit Go.Proofs.Ytnilihfhajjmhaa.K
set_option linter.unusedVariables false
set_option linter.unusedSimpArgs false

theorem info3 : (Try.prog.info? 3).map (fun i => (i.zero, i.size, i.bytes)) = some (some (.int .i64 0), 1, 8) := by kernel_rfl

/-- Behind a call: both pollers hold the same. -/
def Mid (w0 : World) (gx : Nat) (P B : Int) (k : Nat) (v : Value) (wr : World) : Prop :=
  ∃ (L : List Int) (t : Bool), v = .bool true ∧ L.length ≤ k + 1 ∧ Small L ∧ IsP wr w0.heap.size P B L.length (sumL L) t ∧ IsR w0.heap.size wr gx P B L t ∧ Frm No w0 wr

theorem small_snoc {L : List Int} (h : Small L) {x : Int} (h0 : 0 ≤ x) (h1 : x ≤ 4000) : Small (L ++ [x]) := by
  intro y hy
  simp at hy
  rcases hy with hy | rfl
  · exact h y hy
  · exact ⟨h0, h1⟩

/-- What the append leaves, and the store behind it. -/
theorem mid_push {w0 w2 w3 : World} {gx gg cap k : Nat} {P B on : Int} {L : List Int} {t : Bool} {row : Option Nat} {v : Value} (hL : L.length ≤ k) (hS : Small L) (h0 : 0 ≤ on) (h1 : on ≤ 4000)
    (hp : IsP w2 w0.heap.size P B (L.length + 1) (sumL L + on) t) (hb : Blk w2 gx #[.int .i64 P, .int .i64 B, v, .bool t] 40) (hg : w2.grownBy w3 row) (hf : Frm No w0 w2)
    (hr : ∀ q, row = some q → w0.heap.size ≤ q ∧ ∃ cs, Blk w2 q cs 3) (hx : w0.heap.size ≤ gx)
    (ho : w3.ownsRow w0.heap.size 3 1 (.slice (some ⟨gg, 0, none⟩) (L.length + 1) cap) (L.length + 1) (L.map (Value.int .i64) ++ [.int .i64 on])) :
    Mid w0 gx P B k (.bool true) (w3.setCell ⟨gx, 2, none⟩ (.slice (some ⟨gg, 0, none⟩) (L.length + 1) cap)) := by
  have hb3 : Blk w3 gx #[.int .i64 P, .int .i64 B, v, .bool t] 40 := hb.grown hg (fun e => by
    obtain ⟨_, cs, hc⟩ := hr _ e
    exact Blk.ne hc hb (by decide) rfl)
  have hp3 : IsP w3 w0.heap.size P B (L.length + 1) (sumL L + on) t := Blk.grown hp hg (fun e => by
    obtain ⟨_, cs, hc⟩ := hr _ e
    exact Blk.ne hc hp (by decide) rfl)
  have hne : w0.heap.size ≠ gx := Blk.ne hp hb (by decide)
  refine ⟨L ++ [on], t, rfl, by simp; omega, small_snoc hS h0 h1, ?_, ⟨.slice (some ⟨gg, 0, none⟩) (L.length + 1) cap, hb3.set 2 _, ?_⟩, ?_⟩
  · rw [sumL_snoc, List.length_append, List.length_singleton]
    have h := Blk.other hp3 (a := ⟨gx, 2, none⟩) hne (.slice (some ⟨gg, 0, none⟩) (L.length + 1) cap)
    rw [show ((L.length + 1 : Nat) : Int) = (L.length : Int) + 1 from by omega]
    exact h
  · have h := own_set ho hb3 (by decide) 2 (.slice (some ⟨gg, 0, none⟩) (L.length + 1) cap)
    rw [List.length_append, List.length_singleton, List.map_append]
    exact h
  · exact ((hf.grown hg (fun q e => .inr (hr q e).1)).set (.inr hx) _)

def Rel (w0 : World) (gx : Nat) (P B : Int) (n : Nat) (vi : Value) (wr : World) : Prop :=
  ∃ (k : Nat) (L : List Int) (t : Bool), vi = .int .i64 k ∧ k ≤ n ∧ k ≤ 200 ∧ L.length ≤ k ∧ Small L ∧ IsP wr w0.heap.size P B L.length (sumL L) t ∧ IsR w0.heap.size wr gx P B L t ∧ Frm No w0 wr

set_option maxRecDepth 100000 in
set_option maxHeartbeats 4000000 in
theorem lives_ok (P B : Int) (A : Option Addr) (n c : Nat) (ops : List POp) (w : World) (p1 : 1 ≤ P) (p2 : P ≤ 1000) (b1 : 1 ≤ B) (b2 : B ≤ 20000) (hI : IsOps w A n ops) :
    Calls Try.prog 5 #[.int .i64 P, .int .i64 B, .slice A n c] w fun e w' => e = .returned (.bool true) ∧ Frm No w w' := by
  have hn9 : n ≤ 9223372036854775807 := hI.2.1
  obtain ⟨i0, hi, hz0, hz1, hz2⟩ := info_parts info3
  go_enter Try.func5, Try.ntmps5
  go_wp2_with (first | (go_at_call 6; refine (new_ok P B _ p1 p2 b1 b2).mono ?_; rintro e w1 ⟨rfl, q1, f1⟩))
  have hgx0 : w.heap.size < w1.heap.size := Blk.lt q1
  generalize hgx : w1.heap.size = gx at *
  have HG := Lib.hid hgx
  clear hgx
  go_loopw [10] (fun vi wr => Rel w gx P B n vi wr) (fun vi _ => 200 - (intOf vi).toNat)
  case atStart =>
    refine ⟨0, [], false, rfl, by omega, by omega, by simp, fun x hx => by simp at hx, Blk.alloc q1 _, ⟨.slice none 0 0, ?_, World.ownsRow_nil _ _ _ _⟩, f1.alloc _⟩
    rw [← HG.out]; exact Blk.new _ _ _
  case round =>
    obtain ⟨k, L, t, rfl, hk, hk2, hL, hS, hp, hr, hf⟩ := hrel
    by_cases hlt : k < n
    · by_cases hlt2 : k < 200
      · have hlo : k < ops.length := by rw [hI.1]; exact hlt
        obtain ⟨ad, rfl, hb, o0, o1, o2, o3⟩ := hI.2.2 k _ (List.getElem?_eq_getElem hlo)
        generalize ops[k] = o at *
        have tr : ∀ i v, w.cell? (ad.add i) = some v → wr.cell? (ad.add i) = some v := fun i v h => by
          rw [← h]; exact World.cell?_of_block (hf.block _ (by rw [block_add]; exact hb) (fun h => h))
        have o0' := tr _ _ o0
        have o1' := tr _ _ o1
        have o2' := tr _ _ o2
        have o3' := tr _ _ o3
        clear o0 o1 o2 o3 tr
        rw [add_spell _ _ _ (by omega)] at o1' o2' o3'
        obtain ⟨kd, on, em, st⟩ := o
        simp only at o0' o1' o2' o3'
        obtain ⟨go, hgo⟩ : ∃ go, wr.heap.size = go := ⟨_, rfl⟩
        have hp1 : IsP (wr.alloc (.cells #[.int .i64 kd, .int .i64 on, .bool em, .bool st] 42)) w.heap.size P B L.length (sumL L) t := Blk.alloc hp _
        have hr1 : IsR w.heap.size (wr.alloc (.cells #[.int .i64 kd, .int .i64 on, .bool em, .bool st] 42)) gx P B L t := hr.alloc _
        have hf1 : Frm No w (wr.alloc (.cells #[.int .i64 kd, .int .i64 on, .bool em, .bool st] 42)) := hf.alloc _
        have hO : Blk (wr.alloc (.cells #[.int .i64 kd, .int .i64 on, .bool em, .bool st] 42)) go #[.int .i64 kd, .int .i64 on, .bool em, .bool st] 42 := by rw [← hgo]; exact Blk.new _ _ _
        clear hp hr hf
        go_upto_block 2 with fail
        go_cut [12] (fun v wx => Mid w gx P B k v wx)
        case first =>
          by_cases hk0 : kd = 0
          · have hk0' : (kd == 0) = true := by simpa using hk0
            have HK := Lib.hid hk0
            clear hk0
            by_cases hbad : on < 0 ∨ 4000 < on
            · have HB := Lib.hid hbad
              clear hbad
              by_cases hlow : on < 0
              · go_wp2_with fail
                refine (sent_bad _ w.heap.size P B _ _ _ t hp1 (by omega) HB.out).mono ?_
                rintro e w2 ⟨rfl, rfl⟩
                go_wp2_with fail
                go_meet
                exact ⟨L, t, rfl, by omega, hS, hp1, hr1, hf1⟩
              · have hhigh : 4000 < on := by have := HB.out; omega
                go_wp2_with fail
                refine (sent_bad _ w.heap.size P B _ _ _ t hp1 (by omega) HB.out).mono ?_
                rintro e w2 ⟨rfl, rfl⟩
                go_wp2_with fail
                go_meet
                exact ⟨L, t, rfl, by omega, hS, hp1, hr1, hf1⟩
            · have hon0 : 0 ≤ on := by omega
              have hon4 : on ≤ 4000 := by omega
              clear hbad
              have hsm := small_sum L hS
              go_wp2_with fail
              refine (sent_ok _ w.heap.size P B _ _ _ t hp1 (by omega) (by omega) (by omega) (by omega) (by omega) (by omega) (by omega)).mono ?_
              rintro e w2 ⟨rfl, hp2, f2⟩
              have hr2 := hr1.frm f2 (fun k cs hk => by rintro rfl; exact hk.elim (fun hb => Blk.ne hb hp1 (by decide) rfl) (fun hb => Blk.ne hb hp1 (by decide) rfl))
              have hO2 := f2.blk hO (Blk.ne hO hp1 (by decide))
              have hf2 := hf1.thenG f2 (.inr (Nat.le_refl _))
              clear hp1 hr1 hf1 f2 hO o0' o1' o2' o3'
              obtain ⟨v, hb2, ho2⟩ := hr2
              obtain ⟨A2, c2, rfl, hmx, hcc⟩ := own_cells ho2
              clear hcc
              have x2 : w2.cell? ⟨gx, 2, none⟩ = some (.slice A2 L.length c2) := hb2.cell 2
              have y1 : w2.cell? ⟨go, 1, none⟩ = some (.int .i64 on) := hO2.cell 1
              have z2 := hb2.free 2
              have hgo2 : go < w2.heap.size := hO2.lt
              have hrow : ∀ q, (Value.slice A2 L.length c2).ownBlock = some q → w.heap.size ≤ q ∧ ∃ cs, Blk w2 q cs 3 := fun q e => own_blk ho2 e
              have hne1 : some gx ≠ (Value.slice A2 L.length c2).ownBlock := fun e => by
                obtain ⟨_, cs, hbb⟩ := hrow _ e.symm
                exact Blk.ne hbb hb2 (by decide) rfl
              have hne2 : some go ≠ (Value.slice A2 L.length c2).ownBlock := fun e => by
                obtain ⟨_, cs, hbb⟩ := hrow _ e.symm
                exact Blk.ne hbb hO2 (by decide) rfl
              have hgx2 : gx < w2.heap.size := hb2.lt
              have hsz2 := hf2.size
              go_wp2_with fail
              go_region_law
                ((refine step_append_lies _ (by rfl) _ _ _ (by rfl) w.heap.size 3 i0 _ 1 8 Try.underlying38 hi hz0 hz1 hz2 rfl (by omega) _ L.length (L.map (Value.int .i64)) (by rfl) ((ho2.alloc _).drew)
                    ⟨w2.heap.size, 0, none⟩ 1 1 [.int .i64 on] (by rfl) (by rfl) (World.news_of_block (cs := #[.int .i64 on]) (t := 3) (fr := (0, 0)) (heap_alloc_new w2 _)) (by simp [Value.oneCell'])
                    (by omega) (by unfold maxLen; omega) (by omega) (by simp; omega) (w2.heap.size + 1) (by simp) ?_; intro gg cap w3 hown1 hgrow hat hlt3; have z3 : w3.frozen? ⟨gx, 2, none⟩ = false := (hgrow.frozen_far ⟨gx, 2, none⟩ (by simp; omega) hne1).trans ((World.frozen?_alloc_past _ _ _ hgx2).trans z2); have x3 : w3.cell? ⟨gx, 2, none⟩ = some (.slice A2 L.length c2) := (hgrow.cell_far ⟨gx, 2, none⟩ (by simp; omega) hne1).trans ((World.cell?_alloc_past _ _ _ hgx2).trans x2)))
              all_goals
                go_wp2_with fail
                go_meet
                exact mid_push hL hS hon0 hon4 hp2 hb2 (grown_after hgrow) hf2 hrow (by omega) (by simpa using hown1)
          · have hk0' : (kd == 0) = false := by simpa using hk0
            clear hk0
            by_cases hk1 : kd = 1
            · have hk1' : (kd == 1) = true := by simpa using hk1
              have HK := Lib.hid hk1
              clear hk1
              go_wp2_with fail
              refine (want_ok _ w.heap.size P B _ _ t hp1 (by omega)).mono ?_
              rintro e w2 ⟨rfl, hp2, f2⟩
              have hr2 := hr1.frm f2 (fun k cs hk => by rintro rfl; exact hk.elim (fun hb => Blk.ne hb hp1 (by decide) rfl) (fun hb => Blk.ne hb hp1 (by decide) rfl))
              have hf2 := hf1.thenG f2 (.inr (Nat.le_refl _))
              clear hp1 hr1 hf1 f2 hO o0' o1' o2' o3'
              obtain ⟨v, hb2, ho2⟩ := hr2
              have x3 : w2.cell? ⟨gx, 3, none⟩ = some (.bool t) := hb2.cell 3
              have z3 := hb2.free 3
              go_wp2_with fail
              go_meet
              exact ⟨L, true, rfl, by omega, hS, Blk.other hp2 (Blk.ne hp2 hb2 (by decide)) _, ⟨v, hb2.set 3 _, own_set ho2 hb2 (by decide) 3 _⟩, hf2.fresh (by omega) _ _⟩
            · have hk1' : (kd == 1) = false := by simpa using hk1
              clear hk1
              by_cases hk2 : kd = 2
              · have hk2' : (kd == 2) = true := by simpa using hk2
                have HK := Lib.hid hk2
                clear hk2
                have y2 := hO.cell 2
                have y3 := hO.cell 3
                simp only [List.getElem?_toArray] at y2 y3
                have TP : ∀ k cs, (Blk (wr.alloc (.cells #[.int .i64 kd, .int .i64 on, .bool em, .bool st] 42)) k cs 40 ∨ Blk (wr.alloc (.cells #[.int .i64 kd, .int .i64 on, .bool em, .bool st] 42)) k cs 3) → ¬ k = w.heap.size := fun k cs hk => by
                  rintro rfl; exact hk.elim (fun hb => Blk.ne hb hp1 (by decide) rfl) (fun hb => Blk.ne hb hp1 (by decide) rfl)
                have hgP : ¬ go = w.heap.size := Blk.ne hO hp1 (by decide)
                have hgX : ¬ go = gx := by
                  obtain ⟨_, hbx, _⟩ := id hr1
                  exact Blk.ne hO hbx (by decide)
                have hPX : ¬ w.heap.size = gx := by omega
                have hlen : (L.length : Int) < P ∧ sumL L < B ∨ ¬ ((L.length : Int) < P ∧ sumL L < B) := by omega
                by_cases hyes : em = true ∨ st = true ∨ t = true ∨ P ≤ L.length ∨ B ≤ sumL L
                · have HY := Lib.hid hyes
                  clear hyes hlen
                  go_wp2_with fail
                  go_region_held3 (fun w' => w'.cell? ⟨go, 2, none⟩ = some (.bool em) ∧ w'.cell? ⟨go, 3, none⟩ = some (.bool st))
                    (first | go_keep)
                    (first
                      | (go_at_call 9; refine (ask_yes _ w.heap.size P B _ _ t em st ?_ ?_ HY.out).mono ?_; exact hp1; omega; rintro e w2 ⟨rfl, hp2, f2⟩; have hr2 := IsR.frm (by exact hr1) f2 (by exact TP); have hO2 := f2.blk (by exact hO) (by exact hgP); have y2' := hO2.cell 2; have y3' := hO2.cell 3; simp only [List.getElem?_toArray] at y2' y3')
                      | (go_at_call 12; refine (rask_yes w.heap.size _ gx P B L em st t ?_ hS ?_ HY.out).mono ?_; exact hr2; omega; rintro e w3 ⟨rfl, hr3, f3⟩; have hO3 := f3.blk (by exact hO2) (by exact hgX); have y2'' := hO3.cell 2; have y3'' := hO3.cell 3; simp only [List.getElem?_toArray] at y2'' y3''))
                  go_wp2_with fail
                  go_meet
                  refine ⟨[], false, rfl, by simp, fun x hx => by simp at hx, ?_, ?_, ?_⟩
                  · exact f3.blk hp2 hPX
                  · exact hr3
                  · exact Frm.thenG (Frm.thenG (S := No) hf1.drew f2 (.inr (Nat.le_refl _))) f3 (.inr (by omega))
                · have hem : em = false := Bool.eq_false_iff.2 fun e => hyes (.inl e)
                  have hst : st = false := Bool.eq_false_iff.2 fun e => hyes (.inr (.inl e))
                  have ht : t = false := Bool.eq_false_iff.2 fun e => hyes (.inr (.inr (.inl e)))
                  have hlt1 : (L.length : Int) < P := by omega
                  have hlt2 : sumL L < B := by omega
                  subst hem hst ht
                  clear hyes hlen
                  go_wp2_with fail
                  go_region_held3 (fun w' => w'.cell? ⟨go, 2, none⟩ = some (.bool false) ∧ w'.cell? ⟨go, 3, none⟩ = some (.bool false))
                    (first | go_keep)
                    (first
                      | (go_at_call 9; refine (ask_no _ w.heap.size P B _ _ ?_ ?_ hlt1 hlt2).mono ?_; exact hp1; omega; rintro e w2 ⟨rfl, hp2, f2⟩; have hr2 := IsR.frm (by exact hr1) f2 (fun _ _ _ h => h); have hO2 := f2.blk (by exact hO) (fun h => h); have y2' := hO2.cell 2; have y3' := hO2.cell 3; simp only [List.getElem?_toArray] at y2' y3')
                      | (go_at_call 12; refine (rask_no w.heap.size _ gx P B L ?_ hS ?_ hlt1 hlt2).mono ?_; exact hr2; omega; rintro e w3 ⟨rfl, hr3, f3⟩; have hO3 := f3.blk (by exact hO2) (fun h => h); have y2'' := hO3.cell 2; have y3'' := hO3.cell 3; simp only [List.getElem?_toArray] at y2'' y3''))
                  go_wp2_with fail
                  go_meet
                  refine ⟨L, false, rfl, by omega, hS, ?_, ?_, ?_⟩
                  · exact f3.blk hp2 (fun h => h)
                  · exact hr3
                  · exact Frm.thenN (Frm.thenN (S := No) hf1.drew f2) f3
              · have hk2' : (kd == 2) = false := by simpa using hk2
                clear hk2
                by_cases hk3 : kd = 3
                · have hk3' : (kd == 3) = true := by simpa using hk3
                  have HK := Lib.hid hk3
                  clear hk3
                  go_wp2_with fail
                  refine (reset_ok _ w.heap.size P B _ _ t hp1 (by omega)).mono ?_
                  rintro e w2 ⟨rfl, hp2, f2⟩
                  have hr2 := hr1.frm f2 (fun k cs hk => by rintro rfl; exact hk.elim (fun hb => Blk.ne hb hp1 (by decide) rfl) (fun hb => Blk.ne hb hp1 (by decide) rfl))
                  have hf2 := hf1.thenG f2 (.inr (Nat.le_refl _))
                  clear hp1 hr1 hf1 f2 hO o0' o1' o2' o3'
                  obtain ⟨v, hb2, ho2⟩ := hr2
                  obtain ⟨A2, c2, rfl, hmx, hcc⟩ := own_cells ho2
                  clear hcc
                  have x2 : w2.cell? ⟨gx, 2, none⟩ = some (.slice A2 L.length c2) := hb2.cell 2
                  have x3 : w2.cell? ⟨gx, 3, none⟩ = some (.bool t) := hb2.cell 3
                  have z2 := hb2.free 2
                  have z3 := hb2.free 3
                  go_wp2_with fail
                  go_meet
                  refine ⟨[], false, rfl, by simp, fun x hx => by simp at hx, Blk.other (Blk.other hp2 (Blk.ne hp2 hb2 (by decide)) _) (Blk.ne hp2 hb2 (by decide)) _, ⟨.slice none 0 0, (hb2.set 2 _).set 3 _, World.ownsRow_nil _ _ _ _⟩, (hf2.fresh (by omega) _ _).fresh (by omega) _ _⟩
                · have hk3' : (kd == 3) = false := by simpa using hk3
                  clear hk3
                  go_wp2_with fail
                  go_meet
                  exact ⟨L, t, rfl, by omega, hS, hp1, hr1, hf1⟩
        case rest =>
          clear hp1 hr1 hf1 hO o0' o1' o2' o3' hS hL
          obtain ⟨L2, t2, rfl, hL2, hS2, hp2, hr2, hf2⟩ := hcut
          go_wp2_with fail
          refine (since_ok _ w.heap.size P B _ _ t2 hp2 (by omega)).mono ?_
          rintro e w3 ⟨rfl, hp3, f3⟩
          have hr3 := hr2.frm f3 (fun _ _ _ h => h)
          obtain ⟨v, hb3, ho3⟩ := id hr3
          obtain ⟨A3, c3, rfl, hmx, hcc⟩ := own_cells ho3
          have x2 : w3.cell? ⟨gx, 2, none⟩ = some (.slice A3 L2.length c3) := hb3.cell 2
          clear hcc hb3 ho3
          go_wp2_with fail
          refine (sum_any w.heap.size _ gx P B L2 t2 hr3 hS2 (by omega)).mono ?_
          rintro e w4 ⟨rfl, rfl⟩
          go_wp2_with fail
          go_roundw
          case rel => exact ⟨k + 1, L2, t2, by go_num, by omega, by omega, hL2, hS2, hp3, hr3, hf2.thenN f3⟩
          case measure => simp [intOf]; omega
      · have hZ : IsP (wr.alloc (.cells #[.int .i64 0, .int .i64 0, .int .i64 0, .int .i64 0, .bool false] 47)) wr.heap.size 0 0 0 0 false := Blk.new _ _ _
        go_wp2_with fail
        refine (reset_nil _).mono ?_
        rintro e w2 ⟨rfl, rfl⟩
        go_wp2_with fail
        refine (since_nil _).mono ?_
        rintro e w2 ⟨rfl, rfl⟩
        go_wp2_with fail
        refine (alive_yes _).mono ?_
        rintro e w2 ⟨rfl, f2⟩
        have hZ2 := f2.blk hZ (fun h => h)
        go_wp2_with fail
        refine (sent_nil _ _).mono ?_
        rintro e w3 ⟨rfl, rfl⟩
        go_wp2_with fail
        refine (sent_zero _ _ _ hZ2).mono ?_
        rintro e w3 ⟨rfl, rfl⟩
        go_wp2_with fail
        refine (want_nil _).mono ?_
        rintro e w3 ⟨rfl, rfl⟩
        go_wp2_with fail
        refine (want_zero _ _ hZ2).mono ?_
        rintro e w3 ⟨rfl, rfl⟩
        go_wp2_with fail
        refine (ask_nil _ true true).mono ?_
        rintro e w3 ⟨rfl, rfl⟩
        go_wp2_with fail
        refine (ask_zero _ _ true true hZ2).mono ?_
        rintro e w3 ⟨rfl, rfl⟩
        go_wp2_with fail
        go_ret
        exact ⟨rfl, (hf.alloc _).thenN f2⟩
    · have hZ : IsP (wr.alloc (.cells #[.int .i64 0, .int .i64 0, .int .i64 0, .int .i64 0, .bool false] 47)) wr.heap.size 0 0 0 0 false := Blk.new _ _ _
      go_wp2_with fail
      refine (reset_nil _).mono ?_
      rintro e w2 ⟨rfl, rfl⟩
      go_wp2_with fail
      refine (since_nil _).mono ?_
      rintro e w2 ⟨rfl, rfl⟩
      go_wp2_with fail
      refine (alive_yes _).mono ?_
      rintro e w2 ⟨rfl, f2⟩
      have hZ2 := f2.blk hZ (fun h => h)
      go_wp2_with fail
      refine (sent_nil _ _).mono ?_
      rintro e w3 ⟨rfl, rfl⟩
      go_wp2_with fail
      refine (sent_zero _ _ _ hZ2).mono ?_
      rintro e w3 ⟨rfl, rfl⟩
      go_wp2_with fail
      refine (want_nil _).mono ?_
      rintro e w3 ⟨rfl, rfl⟩
      go_wp2_with fail
      refine (want_zero _ _ hZ2).mono ?_
      rintro e w3 ⟨rfl, rfl⟩
      go_wp2_with fail
      refine (ask_nil _ true true).mono ?_
      rintro e w3 ⟨rfl, rfl⟩
      go_wp2_with fail
      refine (ask_zero _ _ true true hZ2).mono ?_
      rintro e w3 ⟨rfl, rfl⟩
      go_wp2_with fail
      go_ret
      exact ⟨rfl, (hf.alloc _).thenN f2⟩
end Go.Proofs.Ytnilihfhajjmhaa.A

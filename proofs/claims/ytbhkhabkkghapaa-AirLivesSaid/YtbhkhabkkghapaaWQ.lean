/- The document's Spoil. -/
import Derived.Test.YtbhkhabkkghapaaWP
import Derived.Deep.CutBlock
import Derived.Deep.DeepCutAuto
namespace Go.Proofs.Ytbhkhabkkghapaa.A
open Go.RowKit Go.Proofs.Ytbhkhabkkghapaa.K Go.Proofs.Ytbhkhabkkghapaa.N Go.Proofs.Ytbhkhabkkghapaa.F
set_option linter.unusedVariables false
set_option linter.unusedSimpArgs false

theorem rof_bin (w : World) (A : Option Addr) (n c : Nat) (L : List Nat) (h : Bin w A L) (hn : L.length = n) (hn9 : n ≤ 100000) (h256 : ∀ c ∈ L, c < 256) : Calls Try.prog 33 #[.slice A n c] w (HandP w (ofL L)) := by
  have := rof_ok w A n c _ (h.ints hn hn9 h256) hn9
  rwa [toNat_map] at this
set_option maxRecDepth 100000 in
set_option maxHeartbeats 8000000 in
theorem rspoil_core (w : World) (B g : Nat) (k : Option Nat) (L : List (List Nat)) (se lo : Int) (i a : Nat) (q : Int) (h : IsR w B g k L se lo) (hF : Fits L) (hB : B ≤ w.heap.size) (hi : i < L.length) (ha : a < 4 * (L.getD i []).length) : Calls Try.prog 20 #[.pointer (some ⟨g, 0, none⟩), .int .i64 (i : Int), .int .i64 (a : Int), .int .i64 q] w fun e w' =>
    e = .returned (.int .i64 0) ∧ (∃ k', IsR w' B g k' (L.set i (spoilB (L.getD i []) a q)) se lo ∧ Anew w k k') ∧ Frm (fun x => x = g) w w' := by
  have hat := rat_any w B g k L se lo (i : Int) h
  have e1 : askI L (i : Int) = 0 := if_pos ⟨by omega, by omega⟩
  rw [e1, if_pos rfl, Int.toNat_natCast] at hat
  obtain ⟨f1, f2⟩ := fits_all hF hi
  obtain ⟨bs, hbs⟩ : ∃ bs, L.getD i [] = bs := ⟨_, rfl⟩
  rw [hbs] at f1 f2 ha hat ⊢
  have hplen := ofL_len bs
  have hst := store_fl
  go_enter Try.func20, Try.ntmps20
  go_wp2_with fail
  refine hat.mono ?_
  rintro e w1 ⟨⟨bA, bn, bc⟩, rfl, hbB, rfl⟩
  obtain ⟨b1, b2, b3⟩ := hbB
  simp only at b1 b2 b3
  simp only [Bl.val]
  have hof := rof_bin w1 bA bn bc bs b3.1 b1.symm (by omega) f2
  have hn4 : (ofL bs).length = 4 * bn := by omega
  have han : a < 4 * bn := by omega
  have n9 : bn ≤ 4096 := by omega
  have HX := Lib.hid (And.intro hn4 (And.intro b1 (And.intro hbs hplen)))
  clear hat b1 hbs hplen hn4 ha f1
  go_wp2_with fail
  refine hof.mono ?_
  rintro e w2 ⟨v, rfl, R2, F2⟩
  obtain ⟨A2, c2, rfl, hrd2⟩ := rdP_of R2
  rw [HX.out.1] at R2 ⊢
  obtain ⟨ad, rfl, ⟨cs, hb2⟩, hB2, c20, c21, z20, z21, R3⟩ := R2.put HX.out.1 (j := a) (by omega) (turnp (qn q) ((ofL bs).getD a (0, 0)))
  have a0 : (0 : Int) ≤ (a : Int) := by omega
  have a1 : (a : Int) < ((4 * bn : Nat) : Int) := by omega
  rw [add_spell _ _ _ (by omega)] at c21 z21 R3
  have h4 := ofL_four bs _ (mem_getD (L := ofL bs) (i := a) (by rw [HX.out.1]; exact han))
  go_upto_region 7 with fail
  obtain ⟨x, y, hxy⟩ : ∃ x y, (ofL bs).getD a (0, 0) = (x, y) := ⟨_, _, rfl⟩
  rw [hxy] at c20 c21 h4
  have htn := fun w' => rturn_is (x, y) q w' h4
  have HR := Lib.hid (And.intro R2 (And.intro hb2 hxy))
  clear R3 R2 hxy
  go_wp2_with fail
  refine (htn _).mono ?_
  rintro e w3 ⟨rfl, F3⟩
  have R3 : RowP w3 w1.heap.size (.slice (some ad) (4 * bn) c2) (ofL bs) := by
    obtain ⟨o1, _⟩ := HR.out
    exact own_keep o1 (fun x hx => F3.block x (own_blk o1 hx).2.choose_spec.lt (fun h => h))
  obtain ⟨ad', e', -, -, d0, d1, y0, y1, R4⟩ := R3.put HX.out.1 (j := a) han (turnp (qn q) (x, y))
  injection e' with e'
  subst e'
  rw [add_spell _ _ _ (by omega)] at d1 y1 R4
  have H4 := Lib.hid R4
  clear R4 R3 htn
  have d3 : ∃ u, (w3.setCell (ad.add (a * 2)) (.float .f64 (FI (turnp (qn q) (x, y)).1))).cell? ⟨(ad.add (a * 2)).block, (ad.add (a * 2)).off + 1, none⟩ = some u := ⟨_, (World.cell?_setCell_other _ _ _ _ (by intro e; have := congrArg Addr.off e; simp at this)).trans d1⟩
  obtain ⟨u3, d3⟩ := d3
  have d2 : (w3.setCell (ad.add (a * 2)) (.float .f64 (FI (turnp (qn q) (x, y)).1))).frozen? ⟨(ad.add (a * 2)).block, (ad.add (a * 2)).off + 1, none⟩ = false := by simpa using y1
  go_wp2_with fail
  have hsp : (ofL bs).set a (turnp (qn q) (x, y)) = spPts bs a q := by unfold spPts; rw [HR.out.2.2]
  have R5 := H4.out
  rw [hsp] at R5
  obtain ⟨w4, hw4⟩ : ∃ w4, (w3.setCell (ad.add (a * 2)) (.float .f64 (FI (turnp (qn q) (x, y)).1))).setCell ⟨(ad.add (a * 2)).block, (ad.add (a * 2)).off + 1, none⟩ (.float .f64 (FI (turnp (qn q) (x, y)).2)) = w4 := ⟨_, rfl⟩
  rw [hw4] at R5 ⊢
  have F4 : Frm (fun x => x = ad.block) w3 w4 := by
    rw [← hw4]
    exact ((Frm.refl (fun x => x = ad.block) w3).set (.inl (by simp [block_add])) _).set (.inl (by simp [block_add])) _
  have FN : Frm No w1 w4 := (F2.thenN F3).then F4 (fun x hx => .inr (by subst hx; exact hB2))
  have hlen : (spPts bs a q).length = 4 * bn := by rw [spPts_len, HX.out.2.1]
  have ha4 : a < 4 * bs.length := by rw [← HX.out.2.1]; exact han
  have hok := spPts_ok bs a q ha4
  have hbk := rback_ok w4 (some ad) (4 * bn) c2 (spPts bs a q) hlen (by omega) (by
    obtain ⟨A6, c6, e6, h6⟩ := rdP_of R5
    injection e6 with e61
    rw [e61]; exact h6) (sml_of (spPts_four bs a q ha4))
  rw [hok] at hbk
  obtain ⟨O, hO⟩ : ∃ O, outB (spPts bs a q) = O := ⟨_, rfl⟩
  rw [hO] at hbk
  have hO2 : spoilB bs a q = O := hO
  have HO := Lib.hid (And.intro hO2 (And.intro HX.out FN))
  clear hO hO2 hok ha4 hlen hsp R5 H4 HR d0 d1 d2 d3 y0 y1 hw4 F4 FN F3 F2 c20 c21 z20 z21 h4 hrd2
  refine hbk.mono ?_
  rintro e w5 ⟨v5, rfl, R6, F6⟩
  obtain ⟨A5, c5, rfl, hc5, -⟩ := own_is R6
  have F15 := HO.out.2.2.thenN F6
  have hI5 : IsB w5 ⟨A5, O.length, c5⟩ O := ⟨rfl, hc5, (Bys.of_own R6).1⟩
  obtain ⟨A, c, S, hb, hlc, hr⟩ := h.cells
  have hS : S.length = L.length := hr.2.2.1
  have hn2 := h.1
  obtain ⟨n, hn⟩ : ∃ n, L.length = n := ⟨_, rfl⟩
  rw [hn] at hb hr hS hn2 hi
  obtain ⟨A9, c9, e9, hc9, hrd⟩ := (hr.frmN F15).slice
  rw [hn] at e9 hrd
  injection e9 with e91 _ e93
  subst e91 e93
  have k5 : w5.cell? ⟨g, 0, none⟩ = some (.slice A n c) := (F15.blk hb (fun h => h)).cell 0
  have hRD := (hr.2.2).frm F15 (fun _ _ _ h => h)
  have hgl : g < w5.heap.size := (F15.blk hb (fun h => h)).lt
  have H6 := Lib.hid (And.intro hI5 (And.intro hb (And.intro hRD (And.intro F15 (And.intro hn hS)))))
  obtain ⟨j0, hi9, hz0, hz1, hz2⟩ := info_parts info22
  have own0 : w5.ownsRow w5.heap.size 22 1 (.slice none 0 0) 0 [] := World.ownsRow_nil _ _ _ _
  clear hI5 hb hRD F15 hn hS hr hlc hc9 R6 F6 hbk h hc5
  go_wp2_with (at_builtin; go_must (refine wpList_append_rds _ rfl _ _ 32 rfl w5.heap.size 22 j0 _ 1 24 Try.underlying32 hi9 hz0 hz1 hz2 rfl (by omega) (.slice none 0 0) 0 [] rfl own0 A n c (S.map Bl.val) rfl hrd (by intro u hu; obtain ⟨b, -, rfl⟩ := List.mem_map.1 hu; rfl) (by unfold maxLen; omega) (by omega) (Nat.le_refl _) ?_; intro v7 w7 own7 hg7))
  have F57 : Frm No w5 w7 := own_grown own0 (Frm.refl No w5) (Nat.le_refl _) hg7
  rw [Nat.zero_add, List.nil_append] at own7
  obtain ⟨A7, c7, rfl, -, -⟩ := own_is own7
  have hr7 : RowS w7 w5.heap.size (.slice A7 n c7) (Value.slice A7 n c7).ownBlock S L := ⟨by rw [H6.out.2.2.2.2.1]; exact own7, rfl, H6.out.2.2.1.frm F57 (fun _ _ _ h => h)⟩
  obtain ⟨ad7, rfl, ⟨cs7, hb7⟩, hc7, hz7, hr8, G8⟩ := hr7.put H6.out.2.2.2.2.1 hi ⟨A5, O.length, c5⟩ O (H6.out.1.frmN F57)
  obtain ⟨⟨x1, x2, x3⟩, hx⟩ : ∃ b, S.getD i bl0 = b := ⟨_, rfl⟩
  rw [hx] at hc7
  simp only [Bl.val] at hc7 hr8 G8
  have hB7 : w5.heap.size ≤ ad7.block := (own_blk own7 rfl).1
  have i0 : (0 : Int) ≤ (i : Int) := by omega
  have i1 : (i : Int) < (n : Int) := by omega
  have hl7 := hb7.lt
  have F58 : Frm No w5 (w7.setCell (ad7.add i) (.slice A5 O.length c5)) := F57.then G8 (fun x hx => .inr (by injection hx with hx; subst hx; exact hB7))
  have H8 := Lib.hid (And.intro hr8 F58)
  clear own7 hg7 own0 hrd k5 hr7 hr8 G8 F57 F58 hx
  go_wp2_with fail
  go_simp
  go_upto_region 12 with fail
  obtain ⟨h8, F58⟩ := H8.out
  obtain ⟨w8, hw8⟩ : ∃ w8, w7.setCell (ad7.add i) (.slice A5 O.length c5) = w8 := ⟨_, rfl⟩
  rw [hw8] at h8 F58 ⊢
  clear H8 hw8 hz7 hc7
  have F18 := H6.out.2.2.2.1.thenN F58
  have hln : (L.set i O).length = n := by rw [List.length_set]; exact H6.out.2.2.2.2.1
  have own8 := h8.1
  rw [hln] at own8
  have FIN := Lib.hid (rway_row (B := B) (k := k) H6.out.2.1 F18 own8 hln hn2 (Nat.le_trans hB H6.out.2.2.2.1.size) H6.out.2.2.2.1.size h8.2.2)
  have hb8 := F58.blk ((H6.out.2.2.2.1).blk H6.out.2.1 (fun h => h)) (fun h => h)
  have k8 : w8.cell? ⟨g, 0, none⟩ = some (.slice A n c) := hb8.cell 0
  have z8 : w8.frozen? ⟨g, 0, none⟩ = false := hb8.free 0
  have hg8 := hb8.lt
  have hO := HO.out.1
  clear hb8 own8 h8 F58 F18 hln
  go_wp2_with fail
  go_ret
  rw [hO]
  exact ⟨rfl, ⟨_, FIN.out.1, FIN.out.2.1⟩, FIN.out.2.2⟩
end Go.Proofs.Ytbhkhabkkghapaa.A

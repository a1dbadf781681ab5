/- Hear. -/
import Derived.Test.YtcdjofneijlbgaaCF
namespace Go.Proofs.Ytcdjofneijlbgaa.A
open Go.RowKit Go.Proofs.Ytcdjofneijlbgaa.K Go.Proofs.Ytcdjofneijlbgaa.F Go.Proofs.Ytcdjofneijlbgaa.N
set_option linter.unusedVariables false
set_option linter.unusedSimpArgs false

theorem upd_self (st : Nat → Held) (p : Nat) (h : Held) : upd st p h p = h := if_pos rfl
theorem upd_upd (st : Nat → Held) (p : Nat) (h h' : Held) : upd (upd st p h) p h' = upd st p h' := by
  funext q
  unfold upd
  by_cases hq : q = p
  · rw [if_pos hq, if_pos hq]
  · rw [if_neg hq, if_neg hq, if_neg hq]
/-- What comes of a box in which a process holds these points now. -/
def hearG (tries heard gone : Int) (st : Nat → Held) (p : Nat) (X : List Pt) (m : Nat) : (Nat → Held) × Int × Int :=
  if hearT X = true then (upd st p ([], 0), heard + 1, gone) else if tries ≤ (m : Int) then (upd st p ([], 0), heard, gone + 1) else (upd st p (X, m), heard, gone)
def Post (w : World) (g : Nat) (tries heard gone : Int) (st : Nat → Held) (p : Nat) (X : List Pt) (m : Nat) (e : Ending) (w' : World) : Prop :=
  ∃ v, e = .returned (.tuple #[v, .bool (hearT X), .int .i64 0]) ∧ RowB w' w.heap.size v (if hearT X = true then hearB X else []) ∧ IsBox w' g tries (hearG tries heard gone st p X m).2.1 (hearG tries heard gone st p X m).2.2 (hearG tries heard gone st p X m).1 ∧ Frm (fun x => x = g) w w'
set_option maxRecDepth 100000 in
set_option maxHeartbeats 8000000 in
theorem hear_fresh (w : World) (g : Nat) (tries heard gone : Int) (st : Nat → Held) (p : Nat) (A : Option Addr) (n c : Nat) (L : List Pt) (h : IsBox w g tries heard gone st) (ht : tries ≠ 0) (hp : p < 8) (hr : RdC w A L) (hn : L.length = n) (hW : Whole L)
    (h1 : 0 ≤ heard) (h2 : heard ≤ 1000000000) (h3 : 0 ≤ gone) (h4 : gone ≤ 1000000000) : Calls Try.prog 11 #[.pointer (some ⟨g, 0, none⟩), .int .i64 (p : Int), .bool true, .slice A n c] w (Post w g tries heard gone st p L 1) := by
  have ha := ask_ok w g tries heard gone st (p : Int) h ht
  have hE : askE (p : Int) = 0 := if_neg (by omega)
  rw [hE] at ha
  have hsm := low_sml hW.2
  have hn9 : n ≤ 16392 := by rw [← hn]; exact hW.1
  have hwh := whole_is2 w A n c L hr hn (by omega) hsm
  have H := Lib.hid (And.intro h (And.intro hr (And.intro hn (And.intro hW hsm))))
  have p0 : (0 : Int) ≤ (p : Int) := by omega
  have p1 : (p : Int) < 8 := by omega
  have hgl := h.lt
  clear h hr hn hW hE hsm
  go_enter Try.func11, Try.ntmps11
  go_wp2_with fail
  refine ha.mono ?_
  rintro e w1 ⟨rfl, rfl⟩
  go_wp2_with fail
  refine hwh.mono ?_
  rintro e w2 ⟨hh, F2⟩
  rcases hh with ⟨-, rfl⟩ | ⟨hno, rfl⟩
  case inr => exact absurd H.out.2.2.2.1 hno
  have hcl := clone_pts w2 A n c L (H.out.2.1.frmN F2) H.out.2.2.1 (by omega)
  clear hwh ha
  go_wp2_with fail
  refine hcl.mono ?_
  rintro e w3 ⟨v3, rfl, R3, F3⟩
  obtain ⟨A3, c3, rfl, rd3⟩ := rdC_of R3
  have B3 := H.out.1.frmN (F2.thenN F3)
  obtain ⟨A4, c4, -, k0, k1, z0, z1⟩ := B3.cells hp
  obtain ⟨q, hq⟩ : ∃ q, (st p).2 = q := ⟨_, rfl⟩
  obtain ⟨r, hr⟩ : ∃ r, (st p).1.length = r := ⟨_, rfl⟩
  rw [hq] at k1
  rw [hr] at k0
  have HP := Lib.hid (B3.put hp A3 c3 1 L rd3)
  have hg3 := B3.lt
  rw [H.out.2.2.1]
  have d3 : ∃ u, (w3.setCell ⟨g, 1 + p * 2, none⟩ (.slice A3 n c3)).cell? ⟨g, 1 + p * 2 + 1, none⟩ = some u := ⟨_, (World.cell?_setCell_other _ _ _ _ (by intro e; have := congrArg Addr.off e; simp at this)).trans k1⟩
  obtain ⟨u3, d3⟩ := d3
  have d2 : (w3.setCell ⟨g, 1 + p * 2, none⟩ (.slice A3 n c3)).frozen? ⟨g, 1 + p * 2 + 1, none⟩ = false := by simpa using z1
  clear hcl R3 rd3 B3 hq hr
  go_upto_region 15 with fail
  obtain ⟨ws, hws⟩ : ∃ ws, (w3.setCell ⟨g, 1 + p * 2, none⟩ (.slice A3 n c3)).setCell ⟨g, 1 + p * 2 + 1, none⟩ (.int .i64 1) = ws := ⟨_, rfl⟩
  have HQ := HP.out
  rw [H.out.2.2.1] at HQ
  have HX := Lib.hid (show IsBox ws g tries heard gone (upd st p (L, 1)) ∧ Frm (fun x => x = g) w1 ws ∧ L.length = n ∧ Sml L from by
    rw [← hws]
    exact ⟨HQ.1, ((F2.thenN F3).mono fun _ h => h.elim).then HQ.2 (fun x hx => .inl hx), H.out.2.2.1, H.out.2.2.2.2⟩)
  rw [hws]


  clear HQ HP hws d3 d2 k0 k1 z0 z1
  have hXl : L.length = n := HX.out.2.2.1
  obtain ⟨A6, c6, rd6, k0, k1, z0, z1⟩ := HX.out.1.cells hp
  rw [upd_self] at rd6 k0 k1
  simp only at rd6 k0 k1
  rw [hXl] at k0
  have hh := hear_is ws A6 n c6 L rd6 hXl (by omega) HX.out.2.2.2
  obtain ⟨T, hT⟩ : ∃ T, hearT L = T := ⟨_, rfl⟩
  obtain ⟨O, hO⟩ : ∃ O, hearB L = O := ⟨_, rfl⟩
  rw [hT, hO] at hh
  have HTO := Lib.hid (And.intro hT hO)
  clear rd6 hT hO hXl
  go_wp2_with fail
  refine hh.mono ?_
  rintro e w7 ⟨v7, rfl, R7, F7⟩
  have B7 := HX.out.1.frmN F7
  obtain ⟨A8, c8, -, k0, k1, z0, z1⟩ := B7.cells hp
  obtain ⟨kt, -, -, -, -⟩ := B7.nums
  rw [upd_self] at k0 k1
  simp only at k0 k1
  rw [HX.out.2.2.1] at k0
  have FS := HX.out.2.1.thenN F7
  have HB7 := Lib.hid (And.intro B7 (And.intro R7 FS))
  have hg7 := B7.lt
  clear hh B7 R7 FS F7
  cases T with
  | true =>
    have d3 : ∃ u, (w7.setCell ⟨g, 1 + p * 2, none⟩ (.slice none 0 0)).cell? ⟨g, 1 + p * 2 + 1, none⟩ = some u := ⟨_, (World.cell?_setCell_other _ _ _ _ (by intro e; have := congrArg Addr.off e; simp at this)).trans k1⟩
    obtain ⟨u3, d3⟩ := d3
    have d2 : (w7.setCell ⟨g, 1 + p * 2, none⟩ (.slice none 0 0)).frozen? ⟨g, 1 + p * 2 + 1, none⟩ = false := by simpa using z1
    have HP := Lib.hid (HB7.out.1.put hp none 0 0 [] (RdC.nil _ _))
    go_upto_region 18 with fail
    obtain ⟨w8, hw8⟩ : ∃ w8, (w7.setCell ⟨g, 1 + p * 2, none⟩ (.slice none 0 0)).setCell ⟨g, 1 + p * 2 + 1, none⟩ (.int .i64 0) = w8 := ⟨_, rfl⟩
    have B8 : IsBox w8 g tries heard gone (upd (upd st p (L, 1)) p ([], 0)) := by rw [← hw8]; exact HP.out.1
    have F8 : Frm (fun x => x = g) w7 w8 := by rw [← hw8]; exact HP.out.2
    rw [hw8]
    obtain ⟨-, kh, -, zh, -⟩ := B8.nums
    have hg8 := B8.lt
    have HP2 := Lib.hid (B8.heard (heard + 1))
    have HF := Lib.hid F8
    clear hw8 HP B8 F8 d3 d2 k0 k1 z0 z1 kt
    go_wp2_with fail
    go_ret3
    have R9 : RowB (w8.setCell ⟨g, 17, none⟩ (.int .i64 (heard + 1))) w1.heap.size v7 O := by
      have hgb : ∃ cs, Blk w7 g cs 52 := by obtain ⟨cs, hb, _⟩ := HB7.out.1; exact ⟨cs, hb⟩
      obtain ⟨cs, hgb⟩ := hgb
      have f9 := HF.out.then HP2.out.2 (fun x hx => .inl hx)
      exact own_lower (own_frm HB7.out.2.1 f9 (fun x cs' hx e => by subst e; exact Blk.ne hx hgb (by decide) rfl)) HX.out.2.1.size
    refine ⟨v7, ?_, by rw [HTO.out.1, if_pos rfl, HTO.out.2]; exact R9, ?_, (HB7.out.2.2.then HF.out (fun x hx => .inl hx)).then HP2.out.2 (fun x hx => .inl hx)⟩
    · rw [HTO.out.1]; rfl
    · have h1 : hearG tries heard gone st p L 1 = (upd st p ([], 0), heard + 1, gone) := by unfold hearG; rw [HTO.out.1, if_pos rfl]
      rw [h1]
      have := HP2.out.1
      rwa [upd_upd] at this
  | false =>
    by_cases ht9 : tries ≤ ((1 : Nat) : Int)
    · go_upto_region 20 with fail
      go_quiet (fail)
      obtain ⟨wd, hwd⟩ : ∃ wd, w7.drewN nq = wd := ⟨_, rfl⟩
      have Fd : Frm No w7 wd := by rw [← hwd]; exact (Frm.refl No w7).drewN nq
      rw [hwd]
      clear k0 k1 z0 z1 kt hwd
      have Bd := HB7.out.1.frmN Fd
      obtain ⟨A9, c9, -, k0, k1, z0, z1⟩ := Bd.cells hp
      rw [upd_self] at k0 k1
      simp only at k0 k1
      rw [HX.out.2.2.1] at k0
      have hgd := Bd.lt
      have d3 : ∃ u, (wd.setCell ⟨g, 1 + p * 2, none⟩ (.slice none 0 0)).cell? ⟨g, 1 + p * 2 + 1, none⟩ = some u := ⟨_, (World.cell?_setCell_other _ _ _ _ (by intro e; have := congrArg Addr.off e; simp at this)).trans k1⟩
      obtain ⟨u3, d3⟩ := d3
      have d2 : (wd.setCell ⟨g, 1 + p * 2, none⟩ (.slice none 0 0)).frozen? ⟨g, 1 + p * 2 + 1, none⟩ = false := by simpa using z1
      have HP := Lib.hid (Bd.put hp none 0 0 [] (RdC.nil _ _))
      clear Bd
      go_upto_region 22 with fail
      obtain ⟨w8, hw8⟩ : ∃ w8, (wd.setCell ⟨g, 1 + p * 2, none⟩ (.slice none 0 0)).setCell ⟨g, 1 + p * 2 + 1, none⟩ (.int .i64 0) = w8 := ⟨_, rfl⟩
      have B8 : IsBox w8 g tries heard gone (upd (upd st p (L, 1)) p ([], 0)) := by rw [← hw8]; exact HP.out.1
      have F8 : Frm (fun x => x = g) wd w8 := by rw [← hw8]; exact HP.out.2
      rw [hw8]
      obtain ⟨-, -, kh, -, zh⟩ := B8.nums
      have hg8 := B8.lt
      have HP2 := Lib.hid (B8.gone (gone + 1))
      have HF := Lib.hid (And.intro Fd F8)
      clear hw8 HP B8 F8 d3 d2 k0 k1 z0 z1 Fd
      go_wp2_with fail
      go_ret3
      refine ⟨.slice none 0 0, ?_, by rw [HTO.out.1, if_neg (by decide)]; exact World.ownsRow_nil _ _ _ _, ?_, ((HB7.out.2.2.thenN HF.out.1).then HF.out.2 (fun x hx => .inl hx)).then HP2.out.2 (fun x hx => .inl hx)⟩
      · rw [HTO.out.1]; rfl
      · have h1 : hearG tries heard gone st p L 1 = (upd st p ([], 0), heard, gone + 1) := by unfold hearG; rw [HTO.out.1, if_neg (by decide), if_pos (by omega)]
        rw [h1]
        have := HP2.out.1
        rwa [upd_upd] at this
    · go_upto_region 20 with fail
      go_quiet (fail)
      obtain ⟨wd, hwd⟩ : ∃ wd, w7.drewN nq = wd := ⟨_, rfl⟩
      have Fd : Frm No w7 wd := by rw [← hwd]; exact (Frm.refl No w7).drewN nq
      rw [hwd]
      clear k0 k1 z0 z1 kt hwd
      go_wp2_with fail
      go_ret3
      refine ⟨.slice none 0 0, ?_, by rw [HTO.out.1, if_neg (by decide)]; exact World.ownsRow_nil _ _ _ _, ?_, HB7.out.2.2.thenN Fd⟩
      · rw [HTO.out.1]; rfl
      · have h1 : hearG tries heard gone st p L 1 = (upd st p (L, 1), heard, gone) := by unfold hearG; rw [HTO.out.1, if_neg (by decide), if_neg (by omega)]
        rw [h1]
        exact HB7.out.1.frmN Fd
/-- Points that are no greater than that. -/
def Lim (k : Nat) (L : List Pt) : Prop := ∀ q ∈ L, q.1.natAbs ≤ k ∧ q.2.natAbs ≤ k
theorem Lim.sml {k : Nat} {L : List Pt} (h : Lim k L) (hk : k ≤ 1000000) : Sml L := fun q hq => by have := h q hq; omega
theorem Lim.at_ {k : Nat} {L : List Pt} (h : Lim k L) (i : Nat) : (L.getD i (0, 0)).1.natAbs ≤ k ∧ (L.getD i (0, 0)).2.natAbs ≤ k := by
  rw [List.getD_eq_getElem?_getD]
  by_cases hi : i < L.length
  · rw [List.getElem?_eq_getElem hi]; exact h _ (List.getElem_mem _)
  · rw [List.getElem?_eq_none (by omega)]; simp
theorem mix_lim {k m : Nat} {L M : List Pt} (h : Lim k L) (h' : Lim m M) : ∀ i, Lim (k + m) (mixL L M i)
  | 0 => fun q hq => by simp [mixL] at hq
  | i + 1 => fun q hq => by
    unfold mixL at hq
    rcases List.mem_append.1 hq with hq | hq
    · exact mix_lim h h' i q hq
    · have e := List.mem_singleton.1 hq
      have h1 := h.at_ i
      have h2 := h'.at_ i
      rw [e]
      exact ⟨by simp only; omega, by simp only; omega⟩
set_option maxRecDepth 100000 in
set_option maxHeartbeats 8000000 in
theorem hear_mix (w : World) (g : Nat) (tries heard gone : Int) (st : Nat → Held) (p : Nat) (A : Option Addr) (n c m : Nat) (P L : List Pt) (h : IsBox w g tries heard gone st) (ht : tries ≠ 0) (hp : p < 8) (hr : RdC w A L) (hn : L.length = n) (hW : Whole L)
    (hst : st p = (P, m)) (hm0 : m ≠ 0) (hm9 : m ≤ 100) (hP : P.length = n) (hPl : Lim 100000 P)
    (h1 : 0 ≤ heard) (h2 : heard ≤ 1000000000) (h3 : 0 ≤ gone) (h4 : gone ≤ 1000000000) : Calls Try.prog 11 #[.pointer (some ⟨g, 0, none⟩), .int .i64 (p : Int), .bool false, .slice A n c] w (Post w g tries heard gone st p (mixL P L n) (m + 1)) := by
  have ha := ask_ok w g tries heard gone st (p : Int) h ht
  have hE : askE (p : Int) = 0 := if_neg (by omega)
  rw [hE] at ha
  have hsm := low_sml hW.2
  have hn9 : n ≤ 16392 := by rw [← hn]; exact hW.1
  have hwh := whole_is2 w A n c L hr hn (by omega) hsm
  have hX2 : Sml (mixL P L n) := (mix_lim (m := 1000) hPl (fun q hq => hW.2 q hq) n).sml (by omega)
  have hXl := mixL_len P L n
  obtain ⟨X, hXX⟩ : ∃ X, mixL P L n = X := ⟨_, rfl⟩
  rw [hXX] at hX2 hXl ⊢
  have H := Lib.hid (And.intro h (And.intro hr (And.intro hn (And.intro hW (And.intro hsm (And.intro hst (And.intro hP (And.intro hPl (And.intro hXX (And.intro hX2 hXl))))))))))
  have p0 : (0 : Int) ≤ (p : Int) := by omega
  have p1 : (p : Int) < 8 := by omega
  have hgl := h.lt
  have m0 : ((m : Int) == 0) = false := by simp; omega
  clear h hr hn hW hE hsm hst hP hPl hXX hX2 hXl
  go_enter Try.func11, Try.ntmps11
  go_wp2_with fail
  refine ha.mono ?_
  rintro e w1 ⟨rfl, rfl⟩
  go_wp2_with fail
  refine hwh.mono ?_
  rintro e w2 ⟨hh, F2⟩
  rcases hh with ⟨-, rfl⟩ | ⟨hno, rfl⟩
  case inr => exact absurd H.out.2.2.2.1 hno
  have B2 := H.out.1.frmN F2
  obtain ⟨A4, c4, rd4, k0, k1, -, -⟩ := B2.cells hp
  rw [H.out.2.2.2.2.2.1] at rd4 k0 k1
  simp only at rd4 k0 k1
  rw [H.out.2.2.2.2.2.2.1] at k0
  have hmx := mix_ok w2 A4 A n c4 c P L H.out.2.2.2.2.2.2.1 H.out.2.2.1 (by omega) rd4 (H.out.2.1.frmN F2) (H.out.2.2.2.2.2.2.2.1.sml (by omega)) H.out.2.2.2.2.1
  rw [H.out.2.2.2.2.2.2.2.2.1] at hmx
  clear hwh ha B2 rd4
  go_wp2_with fail
  refine hmx.mono ?_
  rintro e w3 ⟨v3, rfl, R3, F3⟩
  obtain ⟨A3, c3, rfl, rd3⟩ := rdC_of R3
  have B3 := H.out.1.frmN (F2.thenN F3)
  clear k0 k1
  obtain ⟨A5, c5, -, k0, k1, z0, z1⟩ := B3.cells hp
  rw [H.out.2.2.2.2.2.1] at k0 k1
  simp only at k0 k1
  rw [H.out.2.2.2.2.2.2.1] at k0
  have HP := Lib.hid (B3.put hp A3 c3 (m + 1) X rd3)
  have hg3 := B3.lt
  rw [H.out.2.2.2.2.2.2.2.2.2.2]
  have d3 : ∃ u, (w3.setCell ⟨g, 1 + p * 2, none⟩ (.slice A3 n c3)).cell? ⟨g, 1 + p * 2 + 1, none⟩ = some u := ⟨_, (World.cell?_setCell_other _ _ _ _ (by intro e; have := congrArg Addr.off e; simp at this)).trans k1⟩
  obtain ⟨u3, d3⟩ := d3
  have d2 : (w3.setCell ⟨g, 1 + p * 2, none⟩ (.slice A3 n c3)).frozen? ⟨g, 1 + p * 2 + 1, none⟩ = false := by simpa using z1
  clear hmx R3 rd3 B3
  go_upto_region 15 with fail
  obtain ⟨ws, hws⟩ : ∃ ws, (w3.setCell ⟨g, 1 + p * 2, none⟩ (.slice A3 n c3)).setCell ⟨g, 1 + p * 2 + 1, none⟩ (.int .i64 ((m : Int) + 1)) = ws := ⟨_, rfl⟩
  have HQ := HP.out
  rw [H.out.2.2.2.2.2.2.2.2.2.2] at HQ
  have HX := Lib.hid (show IsBox ws g tries heard gone (upd st p (X, m + 1)) ∧ Frm (fun x => x = g) w1 ws ∧ X.length = n ∧ Sml X from by
    rw [← hws]
    exact ⟨HQ.1, ((F2.thenN F3).mono fun _ h => h.elim).then HQ.2 (fun x hx => .inl hx), H.out.2.2.2.2.2.2.2.2.2.2, H.out.2.2.2.2.2.2.2.2.2.1⟩)
  rw [hws]
  clear HQ HP hws d3 d2 k0 k1 z0 z1
  have hXl : X.length = n := HX.out.2.2.1
  obtain ⟨A6, c6, rd6, k0, k1, z0, z1⟩ := HX.out.1.cells hp
  rw [upd_self] at rd6 k0 k1
  simp only at rd6 k0 k1
  rw [hXl] at k0
  have hh := hear_is ws A6 n c6 X rd6 hXl (by omega) HX.out.2.2.2
  obtain ⟨T, hT⟩ : ∃ T, hearT X = T := ⟨_, rfl⟩
  obtain ⟨O, hO⟩ : ∃ O, hearB X = O := ⟨_, rfl⟩
  rw [hT, hO] at hh
  have HTO := Lib.hid (And.intro hT hO)
  clear rd6 hT hO hXl
  go_wp2_with fail
  refine hh.mono ?_
  rintro e w7 ⟨v7, rfl, R7, F7⟩
  have B7 := HX.out.1.frmN F7
  obtain ⟨A8, c8, -, k0, k1, z0, z1⟩ := B7.cells hp
  obtain ⟨kt, -, -, -, -⟩ := B7.nums
  rw [upd_self] at k0 k1
  simp only at k0 k1
  rw [HX.out.2.2.1] at k0
  have FS := HX.out.2.1.thenN F7
  have HB7 := Lib.hid (And.intro B7 (And.intro R7 FS))
  have hg7 := B7.lt
  clear hh B7 R7 FS F7
  cases T with
  | true =>
    have d3 : ∃ u, (w7.setCell ⟨g, 1 + p * 2, none⟩ (.slice none 0 0)).cell? ⟨g, 1 + p * 2 + 1, none⟩ = some u := ⟨_, (World.cell?_setCell_other _ _ _ _ (by intro e; have := congrArg Addr.off e; simp at this)).trans k1⟩
    obtain ⟨u3, d3⟩ := d3
    have d2 : (w7.setCell ⟨g, 1 + p * 2, none⟩ (.slice none 0 0)).frozen? ⟨g, 1 + p * 2 + 1, none⟩ = false := by simpa using z1
    have HP := Lib.hid (HB7.out.1.put hp none 0 0 [] (RdC.nil _ _))
    go_upto_region 18 with fail
    obtain ⟨w8, hw8⟩ : ∃ w8, (w7.setCell ⟨g, 1 + p * 2, none⟩ (.slice none 0 0)).setCell ⟨g, 1 + p * 2 + 1, none⟩ (.int .i64 0) = w8 := ⟨_, rfl⟩
    have B8 : IsBox w8 g tries heard gone (upd (upd st p (X, (m + 1))) p ([], 0)) := by rw [← hw8]; exact HP.out.1
    have F8 : Frm (fun x => x = g) w7 w8 := by rw [← hw8]; exact HP.out.2
    rw [hw8]
    obtain ⟨-, kh, -, zh, -⟩ := B8.nums
    have hg8 := B8.lt
    have HP2 := Lib.hid (B8.heard (heard + 1))
    have HF := Lib.hid F8
    clear hw8 HP B8 F8 d3 d2 k0 k1 z0 z1 kt
    go_wp2_with fail
    go_ret3
    have R9 : RowB (w8.setCell ⟨g, 17, none⟩ (.int .i64 (heard + 1))) w1.heap.size v7 O := by
      have hgb : ∃ cs, Blk w7 g cs 52 := by obtain ⟨cs, hb, _⟩ := HB7.out.1; exact ⟨cs, hb⟩
      obtain ⟨cs, hgb⟩ := hgb
      have f9 := HF.out.then HP2.out.2 (fun x hx => .inl hx)
      exact own_lower (own_frm HB7.out.2.1 f9 (fun x cs' hx e => by subst e; exact Blk.ne hx hgb (by decide) rfl)) HX.out.2.1.size
    refine ⟨v7, ?_, by rw [HTO.out.1, if_pos rfl, HTO.out.2]; exact R9, ?_, (HB7.out.2.2.then HF.out (fun x hx => .inl hx)).then HP2.out.2 (fun x hx => .inl hx)⟩
    · rw [HTO.out.1]; rfl
    · have h1 : hearG tries heard gone st p X (m + 1) = (upd st p ([], 0), heard + 1, gone) := by unfold hearG; rw [HTO.out.1, if_pos rfl]
      rw [h1]
      have := HP2.out.1
      rwa [upd_upd] at this
  | false =>
    by_cases ht9 : tries ≤ (((m + 1) : Nat) : Int)
    · go_upto_region 20 with fail
      go_quiet (fail)
      obtain ⟨wd, hwd⟩ : ∃ wd, w7.drewN nq = wd := ⟨_, rfl⟩
      have Fd : Frm No w7 wd := by rw [← hwd]; exact (Frm.refl No w7).drewN nq
      rw [hwd]
      clear k0 k1 z0 z1 kt hwd
      have Bd := HB7.out.1.frmN Fd
      obtain ⟨A9, c9, -, k0, k1, z0, z1⟩ := Bd.cells hp
      rw [upd_self] at k0 k1
      simp only at k0 k1
      rw [HX.out.2.2.1] at k0
      have hgd := Bd.lt
      have d3 : ∃ u, (wd.setCell ⟨g, 1 + p * 2, none⟩ (.slice none 0 0)).cell? ⟨g, 1 + p * 2 + 1, none⟩ = some u := ⟨_, (World.cell?_setCell_other _ _ _ _ (by intro e; have := congrArg Addr.off e; simp at this)).trans k1⟩
      obtain ⟨u3, d3⟩ := d3
      have d2 : (wd.setCell ⟨g, 1 + p * 2, none⟩ (.slice none 0 0)).frozen? ⟨g, 1 + p * 2 + 1, none⟩ = false := by simpa using z1
      have HP := Lib.hid (Bd.put hp none 0 0 [] (RdC.nil _ _))
      clear Bd
      go_upto_region 22 with fail
      obtain ⟨w8, hw8⟩ : ∃ w8, (wd.setCell ⟨g, 1 + p * 2, none⟩ (.slice none 0 0)).setCell ⟨g, 1 + p * 2 + 1, none⟩ (.int .i64 0) = w8 := ⟨_, rfl⟩
      have B8 : IsBox w8 g tries heard gone (upd (upd st p (X, (m + 1))) p ([], 0)) := by rw [← hw8]; exact HP.out.1
      have F8 : Frm (fun x => x = g) wd w8 := by rw [← hw8]; exact HP.out.2
      rw [hw8]
      obtain ⟨-, -, kh, -, zh⟩ := B8.nums
      have hg8 := B8.lt
      have HP2 := Lib.hid (B8.gone (gone + 1))
      have HF := Lib.hid (And.intro Fd F8)
      clear hw8 HP B8 F8 d3 d2 k0 k1 z0 z1 Fd
      go_wp2_with fail
      go_ret3
      refine ⟨.slice none 0 0, ?_, by rw [HTO.out.1, if_neg (by decide)]; exact World.ownsRow_nil _ _ _ _, ?_, ((HB7.out.2.2.thenN HF.out.1).then HF.out.2 (fun x hx => .inl hx)).then HP2.out.2 (fun x hx => .inl hx)⟩
      · rw [HTO.out.1]; rfl
      · have h1 : hearG tries heard gone st p X (m + 1) = (upd st p ([], 0), heard, gone + 1) := by unfold hearG; rw [HTO.out.1, if_neg (by decide), if_pos (by omega)]
        rw [h1]
        have := HP2.out.1
        rwa [upd_upd] at this
    · go_upto_region 20 with fail
      go_quiet (fail)
      obtain ⟨wd, hwd⟩ : ∃ wd, w7.drewN nq = wd := ⟨_, rfl⟩
      have Fd : Frm No w7 wd := by rw [← hwd]; exact (Frm.refl No w7).drewN nq
      rw [hwd]
      clear k0 k1 z0 z1 kt hwd
      go_wp2_with fail
      go_ret3
      refine ⟨.slice none 0 0, ?_, by rw [HTO.out.1, if_neg (by decide)]; exact World.ownsRow_nil _ _ _ _, ?_, HB7.out.2.2.thenN Fd⟩
      · rw [HTO.out.1]; rfl
      · have h1 : hearG tries heard gone st p X (m + 1) = (upd st p (X, (m + 1)), heard, gone) := by unfold hearG; rw [HTO.out.1, if_neg (by decide), if_neg (by omega)]
        rw [h1]
        exact HB7.out.1.frmN Fd
set_option maxRecDepth 100000 in
set_option maxHeartbeats 4000000 in
theorem hear_state (w : World) (g : Nat) (tries heard gone : Int) (st : Nat → Held) (p : Nat) (A : Option Addr) (n c m : Nat) (P L : List Pt) (h : IsBox w g tries heard gone st) (ht : tries ≠ 0) (hp : p < 8) (hr : RdC w A L) (hn : L.length = n) (hW : Whole L)
    (hst : st p = (P, m)) (hm : m = 0 ∨ P.length ≠ n) : Calls Try.prog 11 #[.pointer (some ⟨g, 0, none⟩), .int .i64 (p : Int), .bool false, .slice A n c] w fun e w' => e = .returned (.tuple #[.slice none 0 0, .bool false, .int .i64 7]) ∧ Frm No w w' := by
  have ha := ask_ok w g tries heard gone st (p : Int) h ht
  have hE : askE (p : Int) = 0 := if_neg (by omega)
  rw [hE] at ha
  have hsm := low_sml hW.2
  have hn9 : n ≤ 16392 := by rw [← hn]; exact hW.1
  have hwh := whole_is2 w A n c L hr hn (by omega) hsm
  have H := Lib.hid (And.intro h (And.intro hr (And.intro hn (And.intro hW (And.intro hsm hst)))))
  have p0 : (0 : Int) ≤ (p : Int) := by omega
  have p1 : (p : Int) < 8 := by omega
  have hgl := h.lt
  clear h hr hn hW hE hsm hst
  go_enter Try.func11, Try.ntmps11
  go_wp2_with fail
  refine ha.mono ?_
  rintro e w1 ⟨rfl, rfl⟩
  go_wp2_with fail
  refine hwh.mono ?_
  rintro e w2 ⟨hh, F2⟩
  rcases hh with ⟨-, rfl⟩ | ⟨hno, rfl⟩
  case inr => exact absurd H.out.2.2.2.1 hno
  have B2 := H.out.1.frmN F2
  obtain ⟨A4, c4, -, k0, k1, -, -⟩ := B2.cells hp
  rw [H.out.2.2.2.2.2] at k0 k1
  simp only at k0 k1
  obtain ⟨r, hr⟩ : ∃ r, P.length = r := ⟨_, rfl⟩
  rw [hr] at hm k0
  clear hwh ha B2 hr
  by_cases hm0 : m = 0
  · subst hm0
    clear hm
    go_wp2_with fail
    go_ret3
    exact ⟨rfl, F2⟩
  · have m0 : ((m : Int) == 0) = false := by simp; omega
    have m1 : ((r : Int) != (n : Int)) = true := by rw [bne_iff_ne]; omega
    clear hm hm0
    go_wp2_with fail
    go_ret3
    exact ⟨rfl, F2⟩
theorem hear_arg (w : World) (g : Nat) (tries heard gone : Int) (st : Nat → Held) (p : Nat) (f : Bool) (A : Option Addr) (n c : Nat) (L : List Pt) (h : IsBox w g tries heard gone st) (ht : tries ≠ 0) (hp : p < 8) (hr : RdC w A L) (hn : L.length = n) (hn9 : n ≤ 100000) (hs : Sml L) (hW : ¬ Whole L) :
    Calls Try.prog 11 #[.pointer (some ⟨g, 0, none⟩), .int .i64 (p : Int), .bool f, .slice A n c] w fun e w' => e = .returned (.tuple #[.slice none 0 0, .bool false, .int .i64 1]) ∧ Frm No w w' := by
  have ha := ask_ok w g tries heard gone st (p : Int) h ht
  have hE : askE (p : Int) = 0 := if_neg (by omega)
  rw [hE] at ha
  have hwh := whole_is2 w A n c L hr hn hn9 hs
  have H := Lib.hid hW
  clear h hr hn hs hE hW
  go_enter Try.func11, Try.ntmps11
  go_wp2_with fail
  refine ha.mono ?_
  rintro e w1 ⟨rfl, rfl⟩
  go_wp2_with fail
  refine hwh.mono ?_
  rintro e w2 ⟨hh, F2⟩
  rcases hh with ⟨hy, rfl⟩ | ⟨-, rfl⟩
  case inl => exact absurd hy H.out
  clear hwh ha
  go_wp2_with fail
  go_ret3
  exact ⟨rfl, F2⟩
theorem hear_ask (w : World) (q : Option Addr) (p E : Int) (f : Bool) (A : Option Addr) (n c : Nat) (h : Calls Try.prog 18 #[.pointer q, .int .i64 p] w fun e w' => e = .returned (.int .i64 E) ∧ w' = w) (hE : E ≠ 0) :
    Calls Try.prog 11 #[.pointer q, .int .i64 p, .bool f, .slice A n c] w fun e w' => e = .returned (.tuple #[.slice none 0 0, .bool false, .int .i64 E]) ∧ w' = w := by
  have hb : (E != 0) = true := by simpa using hE
  go_enter Try.func11, Try.ntmps11
  go_wp2_with fail
  refine h.mono ?_
  rintro e w1 ⟨rfl, rfl⟩
  go_wp2_with fail
  go_ret3
  exact ⟨rfl, rfl⟩
end Go.Proofs.Ytcdjofneijlbgaa.A

/- What the document's window does: All, Next, Ack; and two lists that are the same. -/
import Derived.Test.YthefmklblfjfeaaH
namespace Go.Proofs.Ythefmklblfjfeaa.A
open Go.RowKit Go.Proofs.Ythefmklblfjfeaa.K Go.Proofs.Ythefmklblfjfeaa.N
set_option linter.unusedVariables false
set_option linter.unusedSimpArgs false

theorem info4 : (Try.prog.info? 4).map (fun i => (i.zero, i.size, i.bytes)) = some (some (.bool false), 1, 1) := by kernel_rfl

theorem own_grown {w w' : World} {B e t : Nat} {v : Value} {n : Nat} {xs : List Value} {row : Option Nat} (h : w.ownsRow B e 1 v n xs) (hg : w.grownBy w' row) (hr : ∀ k, row = some k → ∃ cs, Blk w k cs t) (ht : t ≠ e) : w'.ownsRow B e 1 v n xs :=
  own_keep h fun k hk => by
    obtain ⟨_, cs, hb⟩ := own_blk h hk
    exact hg.block k hb.lt (fun e => by
      obtain ⟨cs', hb'⟩ := hr k e.symm
      exact Blk.ne hb' hb ht rfl)
theorem IsX.grown {w w' : World} {B gx : Nat} {b z : Int} {D : List Bool} {row : Option Nat} (h : IsX w B gx b z D) (hg : w.grownBy w' row) (hr : ∀ k, row = some k → ∃ cs, Blk w k cs 3) : IsX w' B gx b z D := by
  obtain ⟨h1, h2, v, hb, ho⟩ := h
  exact ⟨h1, h2, v, hb.grown hg (fun e => by
    obtain ⟨cs, hc⟩ := hr _ e
    exact Blk.ne hc hb (by decide) rfl), own_grown ho hg hr (by decide)⟩

def opensTo (b : Int) (D : List Bool) (j : Nat) : List Int := ((List.range j).filter fun i => !D.getD (fst D + i) false).map fun i => nm b (fst D + i)
theorem opensTo_succ (b : Int) (D : List Bool) (j : Nat) : opensTo b D (j + 1) = if D.getD (fst D + j) false = true then opensTo b D j else opensTo b D j ++ [nm b (fst D + j)] := by
  unfold opensTo
  rw [List.range_succ, List.filter_append, List.map_append]
  cases h : D.getD (fst D + j) false <;> simp [h, -List.getD_eq_getElem?_getD]
theorem opensTo_le (b : Int) (D : List Bool) (j : Nat) : (opensTo b D j).length ≤ j := by
  unfold opensTo
  have := List.length_filter_le (fun i => !D.getD (fst D + i) false) (List.range j)
  simpa using this

theorem xall_push {w W w3 : World} {B gx gg cap : Nat} {i b z : Int} {D : List Bool} {l : List Int} {vo : Value} {o : Obj} (hX : IsX W B gx b z D) (hR : Row w vo l W) (hF : Frm No w W)
    (hown : w3.ownsRow w.heap.size 3 1 (.slice (some ⟨gg, 0, none⟩) (l.length + 1) cap) (l.length + 1) (l.map (Value.int .i64) ++ [.int .i64 i])) (hg : (W.alloc o).grownBy w3 vo.ownBlock) :
    IsX w3 B gx b z D ∧ Row w (.slice (some ⟨gg, 0, none⟩) (l.length + 1) cap) (l ++ [i]) w3 ∧ Frm No w w3 := by
  have hR' : (W.alloc o).ownsRow w.heap.size 3 1 vo l.length (l.map (Value.int .i64)) := World.ownsRow.alloc hR o
  refine ⟨(hX.alloc o).grown hg (fun k e => (own_blk hR' e).2), ?_, (hF.alloc o).grown hg (fun q e => .inr (own_blk hR' e).1)⟩
  unfold Row
  rw [List.map_append, List.length_append, List.length_singleton]; exact hown

set_option maxRecDepth 100000 in
set_option maxHeartbeats 2000000 in
theorem xall (w : World) (B gx : Nat) (b z : Int) (D : List Bool) (h : IsX w B gx b z D) :
    Calls Try.prog 20 #[.pointer (some ⟨gx, 0, none⟩)] w (Handed No (fun _ => True) w (opensL b D)) := by
  obtain ⟨i0, hi, hz0, hz1, hz2⟩ := info_parts info3
  have hle := fst_le D
  have hl := h.2.1
  have hL : opensL b D = opensTo b D (D.length - fst D) := rfl
  rw [hL]
  obtain ⟨m, hm⟩ : ∃ m, D.length = m := ⟨_, rfl⟩
  obtain ⟨f, hf⟩ : ∃ f, fst D = f := ⟨_, rfl⟩
  rw [hm] at hle hl ⊢
  rw [hf] at hle ⊢
  have HF := Lib.hid hf
  have HM := Lib.hid hm
  clear hf hm hL
  go_enter Try.func20, Try.ntmps20
  go_wp2_with fail
  refine (xfirst_is _ B gx b z D f h HF.out).mono ?_
  rintro e w' ⟨rfl, rfl⟩
  go_wp2_with fail
  go_loopw [3, 4] (fun vo vi wr => ∃ j : Nat, vi = .int .i64 ((f + j : Nat) : Int) ∧ f + j ≤ m ∧ IsX wr B gx b z D ∧ Row w' vo (opensTo b D j) wr ∧ Frm No w' wr) (fun _ vi _ => m - (intOf vi).toNat)
  case atStart => exact ⟨0, rfl, by omega, h, World.ownsRow_nil _ _ _ _, Frm.refl _ _⟩
  case round =>
    clear h
    obtain ⟨j, rfl, hj, hX, ho, hF⟩ := hrel
    have hsuc := opensTo_succ b D j
    have hlo := opensTo_le b D j
    rw [HF.out] at hsuc
    obtain ⟨k, hk⟩ : ∃ k, f + j = k := ⟨_, rfl⟩
    rw [hk] at hsuc hj
    have HX := Lib.hid hX
    obtain ⟨hb, -, v, hxb, hxo⟩ := hX
    obtain ⟨A, c, rfl, hc⟩ := own_bools hxo
    rw [HM.out] at hxb hxo hc
    have h2 : wr.cell? ⟨gx, 2, none⟩ = some (.slice A m c) := hxb.cell 2
    have hsz := hF.size
    have k0 : (0 : Int) ≤ (k : Int) := Int.natCast_nonneg _
    have kpush : ((f + j : Nat) : Int) = (k : Int) := by rw [hk]
    have HK := Lib.hid hk
    have hjk : j ≤ k := by omega
    rw [kpush]
    clear hk kpush
    by_cases hlt : k < m
    · obtain ⟨ad, rfl, hcell⟩ := hc k hlt
      have hki : (k : Int) < (m : Int) := by omega
      obtain ⟨t, ht⟩ : ∃ t, D.getD k false = t := ⟨_, rfl⟩
      obtain ⟨x, hx⟩ : ∃ x, nm b k = x := ⟨_, rfl⟩
      rw [ht] at hcell hsuc
      rw [hx] at hsuc
      have HXN := Lib.hid hx
      clear hx ht hxb hxo hc
      cases t with
      | true =>
        rw [if_pos rfl] at hsuc
        have HS := Lib.hid hsuc
        clear hsuc
        go_wp2_with fail
        go_roundw
        case rel => exact ⟨j + 1, by have := HK.out; go_num, by have := HK.out; omega, HX.out, by rw [HS.out]; exact ho, hF⟩
        case measure => simp [intOf]; omega
      | false =>
        rw [if_neg (by decide)] at hsuc
        have HS := Lib.hid hsuc
        clear hsuc
        generalize opensTo b D j = R0 at *
        unfold Row at ho
        go_wp2_with (first | (go_at_call 29; refine (xnumber_is _ B gx b z D HX.out k x (by omega) HXN.out).mono ?_; rintro e w2 ⟨rfl, rfl⟩) | (at_builtin; go_must (refine wpList_append_lies _ rfl _ _ 31 rfl w'.heap.size 3 i0 _ 1 8 Try.underlying31 hi hz0 hz1 hz2 rfl (by omega) _ R0.length (R0.map (Value.int .i64)) rfl (ho.alloc _) ⟨w2.heap.size, 0, none⟩ 1 1 [.int .i64 x] rfl rfl (World.news_of_block (cs := #[.int .i64 x]) (t := 3) (fr := (0, 0)) (heap_alloc_new w2 _)) (by simp [Value.oneCell']) (by omega) (by unfold maxLen; omega) (by omega) (by simp; omega) (w2.heap.size + 1) (by simp) ?_); intro gg cap w3 hown3 hgrow3 hat3 hlt3; obtain ⟨r0, r2, r3⟩ := xall_push HX.out ho hF hown3 hgrow3))
        go_roundw
        case rel => exact ⟨j + 1, by have := HK.out; go_num, by have := HK.out; omega, r0, by rw [HS.out]; exact r2, r3⟩
        case measure => simp [intOf]; omega
    · have hki : ¬ (k : Int) < (m : Int) := by omega
      have hjm : j = m - f := by have := HK.out; omega
      go_wp2_with fail
      go_ret
      exact ⟨_, rfl, by rw [hjm] at ho; exact ho, hF, trivial⟩

/-- What the document's calls turn. -/
def XS (w : World) (B gx : Nat) : Nat → Prop := fun x => x = gx ∨ (B ≤ x ∧ ∃ cs, Blk w x cs 4)

theorem xnext_full (w : World) (B gx : Nat) (b z : Int) (D : List Bool) (h : IsX w B gx b z D) (hf : full z D = true) :
    Calls Try.prog 14 #[.pointer (some ⟨gx, 0, none⟩)] w fun e w' => e = .returned (.tuple #[.int .i64 0, .int .i64 11]) ∧ Frm No w w' := by
  have hs := xstalled w B gx b z D h
  rw [hf] at hs
  go_enter Try.func14, Try.ntmps14
  go_wp2_with fail
  refine hs.mono ?_
  rintro e w1 ⟨rfl, f1⟩
  go_wp2_with fail
  go_ret2
  exact ⟨rfl, f1⟩

theorem xnext_push {w W w3 : World} {B gx gg cap : Nat} {b z : Int} {D : List Bool} {v : Value} {o : Obj} {m : Nat} (hm : D.length = m) (hf : Frm No w W) (hb : 1 ≤ b ∧ b ≤ 16) (hl : m + 1 ≤ 100000) (hB : B ≤ gx)
    (hx : Blk W gx #[.int .i64 b, .int .i64 z, v] 44) (ho : W.ownsRow B 4 1 v m (D.map Value.bool)) (hx0 : Blk w gx #[.int .i64 b, .int .i64 z, v] 44) (ho0 : w.ownsRow B 4 1 v m (D.map Value.bool))
    (hown : w3.ownsRow B 4 1 (.slice (some ⟨gg, 0, none⟩) (m + 1) cap) (m + 1) (D.map Value.bool ++ [.bool false])) (hg : (W.alloc o).grownBy w3 v.ownBlock) :
    Blk w3 gx #[.int .i64 b, .int .i64 z, v] 44 ∧ IsX (w3.setCell ⟨gx, 2, none⟩ (.slice (some ⟨gg, 0, none⟩) (m + 1) cap)) B gx b z (D ++ [false]) ∧
      Frm (XS w B gx) w (w3.setCell ⟨gx, 2, none⟩ (.slice (some ⟨gg, 0, none⟩) (m + 1) cap)) := by
  subst hm
  have hoA : (W.alloc o).ownsRow B 4 1 v D.length (D.map Value.bool) := World.ownsRow.alloc ho o
  have hb3 : Blk w3 gx #[.int .i64 b, .int .i64 z, v] 44 := (hx.alloc o).grown hg (fun e => by
    obtain ⟨_, cs, hc⟩ := own_blk hoA e
    exact Blk.ne hc (hx.alloc o) (by decide) rfl)
  refine ⟨hb3, ⟨hb, by simpa using hl, _, hb3.set 2 _, ?_⟩, ?_⟩
  · have h := own_set hown hb3 (by decide) 2 (.slice (some ⟨gg, 0, none⟩) (D.length + 1) cap)
    rw [List.length_append, List.length_singleton, List.map_append]
    exact h
  · have h1 : Frm (XS w B gx) w W := hf.mono fun _ h => h.elim
    exact ((h1.alloc o).grown hg (fun k e => .inl (.inr (own_blk ho0 e)))).set (.inl (.inl rfl)) _

set_option maxRecDepth 100000 in
set_option maxHeartbeats 2000000 in
theorem xnext (w : World) (B gx : Nat) (b z : Int) (D : List Bool) (h : IsX w B gx b z D) (hB : B ≤ gx) (hf : full z D = false) (hl : D.length + 1 ≤ 100000) :
    Calls Try.prog 14 #[.pointer (some ⟨gx, 0, none⟩)] w fun e w' => e = .returned (.tuple #[.int .i64 (nm b D.length), .int .i64 0]) ∧ IsX w' B gx b z (D ++ [false]) ∧ Frm (XS w B gx) w w' := by
  obtain ⟨i0, hi, hz0, hz1, hz2⟩ := info_parts info4
  have hs := xstalled w B gx b z D h
  rw [hf] at hs
  obtain ⟨x, hxx⟩ : ∃ x, nm b D.length = x := ⟨_, rfl⟩
  rw [hxx]
  go_enter Try.func14, Try.ntmps14
  go_wp2_with fail
  refine hs.mono ?_
  rintro e w1 ⟨rfl, f1⟩
  have h1 := h.frmN f1
  obtain ⟨-, -, v0, hx0, ho0⟩ := h
  obtain ⟨hb, -, v, hx, ho⟩ := h1
  obtain ⟨A, c, rfl, hc⟩ := own_bools ho
  have hx0' := f1.blk hx0 (fun h => h)
  obtain rfl : v0 = .slice A D.length c := by
    unfold Blk at hx hx0'
    rw [hx] at hx0'
    simpa using hx0'.symm
  have h2 : w1.cell? ⟨gx, 2, none⟩ = some (.slice A D.length c) := hx.cell 2
  have hgx : gx < w1.heap.size := hx.lt
  obtain ⟨m, hm⟩ : ∃ m, D.length = m := ⟨_, rfl⟩
  rw [hm] at hx hx0 ho0 h2 hl ho
  have X1 := Lib.hid hx
  have X0 := Lib.hid hx0
  have O0 := Lib.hid ho0
  have HM := Lib.hid hm
  have HXX := Lib.hid hxx
  have hm0 : (0 : Int) ≤ (m : Int) := Int.natCast_nonneg _
  clear hx hx0' ho0 hx0 hc hm hxx
  go_wp2_with (at_builtin; go_must (refine wpList_append_lies _ rfl _ _ 42 rfl B 4 i0 _ 1 1 Try.underlying42 hi hz0 hz1 hz2 rfl (by omega) _ m (D.map Value.bool) rfl (ho.alloc _) ⟨w1.heap.size, 0, none⟩ 1 1 [.bool false] rfl rfl (World.news_of_block (cs := #[.bool false]) (t := 4) (fr := (0, 0)) (heap_alloc_new w1 _)) (by simp [Value.oneCell']) (by omega) (by unfold maxLen; omega) (by omega) (by simp; omega) (w1.heap.size + 1) (by simp) ?_; intro gg cap w3 hown3 hgrow3 hat3 hlt3; obtain ⟨r0, r1, r2⟩ := xnext_push HM.out f1 hb hl hB X1.out ho X0.out O0.out hown3 hgrow3; have z3 : w3.frozen? ⟨gx, 2, none⟩ = false := r0.free 2; have x3 : w3.cell? ⟨gx, 2, none⟩ = some (.slice A m c) := r0.cell 2))
  refine (xnumber_is _ B gx b z _ r1 m x (by omega) (by rw [← HM.out]; exact HXX.out)).mono ?_
  rintro e w4 ⟨rfl, rfl⟩
  go_wp2_with fail
  go_ret2
  exact ⟨rfl, r1, r2⟩

/-- A store into an owned row. -/
theorem own_put {w : World} {B e n c : Nat} {A : Option Addr} {xs : List Value} (h : w.ownsRow B e 1 (.slice A n c) n xs) {i : Nat} (hi : i < n) (u : Value) :
    ∃ ad, A = some ad ∧ B ≤ ad.block ∧ (∃ cs, Blk w ad.block cs e) ∧ w.frozen? (ad.add i) = false ∧ (w.setCell (ad.add i) u).ownsRow B e 1 (.slice A n c) n (xs.set i u) := by
  obtain ⟨hl, h2⟩ := h
  rcases h2 with ⟨h0, h1⟩ | ⟨g, cap, cur, hv, hg, hh, h3, h4, h5, h6⟩
  · omega
  · simp only [Value.slice.injEq] at hv
    obtain ⟨rfl, -, rfl⟩ := hv
    have hb : Blk w g cur e := hh
    have ea : (⟨g, 0, none⟩ : Addr).add i = ⟨g, i, none⟩ := by unfold Addr.add; by_cases hi0 : i = 0 <;> simp [hi0]
    refine ⟨_, rfl, hg, ⟨cur, hb⟩, by rw [ea]; exact hb.free i, ?_⟩
    rw [ea]
    refine ⟨by rw [List.length_set]; exact hl, .inr ⟨g, c, cur.setIfInBounds i u, rfl, hg, hb.set i u, h3, h4, by rw [Array.size_setIfInBounds]; exact h5, ?_⟩⟩
    rw [Array.toList_setIfInBounds, List.take_set, h6]

theorem map_setB (D : List Bool) (i : Nat) : (D.map Value.bool).set i (.bool true) = (D.set i true).map Value.bool := by rw [List.map_set]

theorem xack_arg (w : World) (B gx : Nat) (b z : Int) (D : List Bool) (q : Int) (h : IsX w B gx b z D) (hq : ¬ (0 ≤ q ∧ q < sz b)) :
    Calls Try.prog 15 #[.pointer (some ⟨gx, 0, none⟩), .int .i64 q] w fun e w' => e = .returned (.int .i64 1) ∧ w = w' := by
  obtain ⟨hb, hl, v, hx, ho⟩ := h
  have h0 : w.cell? ⟨gx, 0, none⟩ = some (.int .i64 b) := hx.cell 0
  have hd : decide (0 ≤ q ∧ q < sz b) = false := decide_eq_false hq
  clear hq
  go_enter Try.func15, Try.ntmps15
  go_wp2_with fail
  refine (ris_is b q false _ hd).mono ?_
  rintro e w1 ⟨rfl, rfl⟩
  go_wp2_with fail
  go_ret
  exact ⟨rfl, rfl⟩
theorem xack_old (w : World) (B gx : Nat) (b z : Int) (D : List Bool) (q : Int) (h : IsX w B gx b z D) (hq : 0 ≤ q ∧ q < sz b) (hno : ∀ i, fst D ≤ i → i < D.length → D.getD i false = false → q ≠ nm b i) :
    Calls Try.prog 15 #[.pointer (some ⟨gx, 0, none⟩), .int .i64 q] w fun e w' => e = .returned (.int .i64 10) ∧ w = w' := by
  have hfi := xfind w B gx b z D q h
  obtain ⟨hb, hl, v, hx, ho⟩ := h
  have h0 : w.cell? ⟨gx, 0, none⟩ = some (.int .i64 b) := hx.cell 0
  have hd : decide (0 ≤ q ∧ q < sz b) = true := decide_eq_true hq
  clear hq
  go_enter Try.func15, Try.ntmps15
  go_wp2_with fail
  refine (ris_is b q true _ hd).mono ?_
  rintro e w1 ⟨rfl, rfl⟩
  go_wp2_with fail
  refine hfi.mono ?_
  rintro e w2 ⟨⟨r, rfl, hf⟩, rfl⟩
  rcases hf with ⟨rfl, -⟩ | ⟨i, rfl, h1, h2, h3, h4⟩
  · go_wp2_with fail
    go_ret
    exact ⟨rfl, rfl⟩
  · exact absurd h4 (hno i h1 h2 h3)
theorem nm_one {b : Int} {D : List Bool} (hw : D.length < fst D + szN b) {i k : Nat} (h1 : fst D ≤ i) (h2 : i < D.length) (h3 : fst D ≤ k) (h4 : k < D.length) (he : nm b i = nm b k) : i = k := by
  rcases Nat.lt_trichotomy i k with h | h | h
  · exact absurd he (nm_ne h (by omega))
  · exact h
  · exact absurd he.symm (nm_ne h (by omega))
set_option maxRecDepth 100000 in
set_option maxHeartbeats 1000000 in
theorem xack (w : World) (B gx : Nat) (b z : Int) (D : List Bool) (h : IsX w B gx b z D) (hw : D.length < fst D + szN b) (i0 : Nat) (h1 : fst D ≤ i0) (h2 : i0 < D.length) (h3 : D.getD i0 false = false) :
    Calls Try.prog 15 #[.pointer (some ⟨gx, 0, none⟩), .int .i64 (nm b i0)] w fun e w' => e = .returned (.int .i64 0) ∧ IsX w' B gx b z (D.set i0 true) ∧ Frm (XS w B gx) w w' := by
  have hfi := xfind w B gx b z D (nm b i0) h
  obtain ⟨hb, hl, v, hx, ho⟩ := h
  have hr := nm_range hb i0
  have hd : decide (0 ≤ nm b i0 ∧ nm b i0 < sz b) = true := decide_eq_true hr
  obtain ⟨A, c, rfl, -⟩ := own_bools ho
  have c0 : w.cell? ⟨gx, 0, none⟩ = some (.int .i64 b) := hx.cell 0
  have c2 : w.cell? ⟨gx, 2, none⟩ = some (.slice A D.length c) := hx.cell 2
  obtain ⟨ad, rfl, hB, ⟨cs, hk⟩, hfz, hput⟩ := own_put ho h2 (.bool true)
  have hfin : IsX (w.setCell (ad.add i0) (.bool true)) B gx b z (D.set i0 true) := by
    refine ⟨hb, by rw [List.length_set]; exact hl, _, hx.other (by rw [block_add]; exact Blk.ne hx hk (by decide)) _, ?_⟩
    rw [List.length_set, ← map_setB]; exact hput
  have hF : Frm (XS w B gx) w (w.setCell (ad.add i0) (.bool true)) := (Frm.refl _ w).set (.inl (.inr (by rw [block_add]; exact ⟨hB, cs, hk⟩))) _
  obtain ⟨q, hq⟩ : ∃ q, nm b i0 = q := ⟨_, rfl⟩
  rw [hq] at hfi hd ⊢
  have hi0 : (i0 : Int) < (D.length : Int) := by omega
  have hi1 : (0 : Int) ≤ (i0 : Int) := Int.natCast_nonneg _
  have P := Lib.hid (And.intro hfin hF)
  have HK := Lib.hid (And.intro hw (And.intro h1 h2))
  have hsome : ∃ cv, w.cell? (ad.add i0) = some cv := by
    obtain ⟨A', c', e, hc⟩ := own_bools ho
    simp only [Value.slice.injEq] at e
    obtain ⟨rfl, -, -⟩ := e
    obtain ⟨ad', e', hc'⟩ := hc i0 h2
    simp only [Option.some.injEq] at e'
    subst e'
    exact ⟨_, hc'⟩
  obtain ⟨cv, hcv⟩ := hsome
  clear hfin hF hput hx hk ho hr hw h1
  generalize hm : D.length = m at *
  go_enter Try.func15, Try.ntmps15
  go_wp2_with fail
  refine (ris_is b q true _ hd).mono ?_
  rintro e w1 ⟨rfl, rfl⟩
  go_wp2_with fail
  refine hfi.mono ?_
  rintro e w2 ⟨⟨r, rfl, hf⟩, rfl⟩
  rcases hf with ⟨rfl, hno⟩ | ⟨i, rfl, g1, g2, g3, g4⟩
  · exact absurd hq.symm (hno i0 HK.out.2.1 (by omega) h3)
  · have hii : i = i0 := by
      obtain ⟨k1, k2, k3⟩ := HK.out
      exact nm_one (b := b) (by omega) g1 (by omega) k2 (by omega) (by rw [← g4, hq])
    subst hii
    clear g4
    go_wp2_with fail
    go_ret
    exact ⟨rfl, P.out⟩

set_option maxRecDepth 100000 in
set_option maxHeartbeats 2000000 in
theorem same_yes (w : World) (A1 A2 : Option Addr) (m c1 c2 : Nat) (l : List Int) (hl0 : l.length = m) (hl : m ≤ 100000) (h1 : RdA w A1 l) (h2 : RdA w A2 l) :
    Calls Try.prog 19 #[.slice A1 m c1, .slice A2 m c2] w fun e w' => e = .returned (.bool true) ∧ Frm No w w' := by
  have H1 := Lib.hid h1
  have H2 := Lib.hid h2
  have H0 := Lib.hid hl0
  clear h1 h2 hl0
  go_enter Try.func19, Try.ntmps19
  go_wp2_with fail
  go_loopw [5] (fun vi wr => ∃ k : Nat, vi = .int .i64 k ∧ k ≤ m ∧ (∀ p : Addr, wr.cell? p = w.cell? p) ∧ Frm No w wr) (fun vi _ => m - (intOf vi).toNat)
  case atStart => exact ⟨0, rfl, by omega, fun _ => rfl, Frm.refl _ _⟩
  case round =>
    obtain ⟨k, rfl, hk, hsame, hF⟩ := hrel
    have HS := Lib.hid hsame
    clear hsame
    by_cases hlt : k < m
    · obtain ⟨ad1, rfl, -, k1⟩ := H1.out k (by have := H0.out; omega)
      obtain ⟨ad2, rfl, -, k2⟩ := H2.out k (by have := H0.out; omega)
      have m1 := (HS.out (ad1.add k)).trans k1
      have m2 := (HS.out (ad2.add k)).trans k2
      generalize l.getD k 0 = z at m1 m2
      have i0 : (0 : Int) ≤ (k : Int) := Int.natCast_nonneg _
      have i1 : (k : Int) < (m : Int) := by omega
      clear k1 k2
      go_wp2_with fail
      go_quiet (fail)
      go_wp2_with fail
      go_roundw
      case rel => exact ⟨k + 1, by go_num, by omega, HS.out, hF.drewN _⟩
      case measure => simp [intOf]; omega
    · have i1 : ¬ (k : Int) < (m : Int) := by omega
      go_wp2_with fail
      go_ret
      exact ⟨rfl, hF⟩
end Go.Proofs.Ythefmklblfjfeaa.A

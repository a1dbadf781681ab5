/- The document's way: At, Take, Lose. -/
import Derived.Test.YtbhkhabkkghapaaWI
import Derived.Deep.CutBlock
import Derived.Deep.DeepCutAuto
import Derived.Test.YtbhkhabkkghapaaRB
import Derived.Test.YtbhkhabkkghapaaRT
import Derived.Test.YtbhkhabkkghapaaRO
namespace Go.Proofs.Ytbhkhabkkghapaa.A
open Go.RowKit Go.Proofs.Ytbhkhabkkghapaa.K Go.Proofs.Ytbhkhabkkghapaa.N Go.Proofs.Ytbhkhabkkghapaa.F
set_option linter.unusedVariables false
set_option linter.unusedSimpArgs false

def IsR (w : World) (B g : Nat) (k : Option Nat) (L : List (List Nat)) (se lo : Int) : Prop := L.length ≤ 256 ∧ ∃ v S, Blk w g #[v, .int .i64 se, .int .i64 lo] 39 ∧ RowS w B v k S L
theorem IsR.frm {w w' : World} {Q : Nat → Prop} {B g : Nat} {k : Option Nat} {L : List (List Nat)} {se lo : Int} (h : IsR w B g k L se lo) (f : Frm Q w w') (hg : ¬ Q g) (hk : ∀ x, k = some x → ¬ Q x) (h5 : ∀ x cs, Blk w x cs 5 → ¬ Q x) : IsR w' B g k L se lo := by
  obtain ⟨h0, v, S, h1, h2⟩ := h
  exact ⟨h0, v, S, f.blk h1 hg, h2.frm f hk h5⟩
theorem IsR.frmN {w w' : World} {B g : Nat} {k : Option Nat} {L : List (List Nat)} {se lo : Int} (h : IsR w B g k L se lo) (f : Frm No w w') : IsR w' B g k L se lo := h.frm f (fun h => h) (fun _ _ h => h) (fun _ _ _ h => h)
theorem IsR.cells {w : World} {B g : Nat} {k : Option Nat} {L : List (List Nat)} {se lo : Int} (h : IsR w B g k L se lo) : ∃ A c S, Blk w g #[.slice A L.length c, .int .i64 se, .int .i64 lo] 39 ∧ L.length ≤ c ∧ RowS w B (.slice A L.length c) k S L := by
  obtain ⟨_, v, S, hb, hr⟩ := h
  obtain ⟨A, c, rfl, hc, -⟩ := hr.slice
  exact ⟨A, c, S, hb, hc, hr⟩
theorem IsB.nil (w : World) : IsB w bl0 [] := ⟨rfl, Nat.le_refl _, Bys.nil w none⟩
theorem rat_any (w : World) (B g : Nat) (k : Option Nat) (L : List (List Nat)) (se lo i : Int) (h : IsR w B g k L se lo) : Calls Try.prog 32 #[.pointer (some ⟨g, 0, none⟩), .int .i64 i] w fun e w' =>
    ∃ b : Bl, e = .returned (.tuple #[b.val, .int .i64 (askI L i)]) ∧ IsB w b (if askI L i = 0 then L.getD i.toNat [] else []) ∧ w' = w := by
  obtain ⟨A, c, S, hb, hlc, hr⟩ := h.cells
  obtain ⟨n, hn⟩ : ∃ n, L.length = n := ⟨_, rfl⟩
  have hn2 : n ≤ 256 := by rw [← hn]; exact h.1
  rw [hn] at hb hr
  have k0 : w.cell? ⟨g, 0, none⟩ = some (.slice A n c) := hb.cell 0
  clear h hb hlc
  by_cases h1 : i < 0
  · have e1 : askI L i = 1 := if_neg (by omega)
    rw [e1, if_neg (by decide)]
    go_enter Try.func32, Try.ntmps32
    go_wp2_with fail
    go_ret2
    exact ⟨bl0, rfl, IsB.nil _, rfl⟩
  · by_cases h2 : i < (n : Int)
    · obtain ⟨j, rfl⟩ := Int.eq_ofNat_of_zero_le (show 0 ≤ i by omega)
      have e1 : askI L (j : Int) = 0 := if_pos ⟨by omega, by omega⟩
      rw [e1, if_pos rfl, Int.toNat_natCast]
      obtain ⟨ad, rfl, hc, hB⟩ := hr.at_ (j := j) (by omega)
      obtain ⟨⟨bA, bn, bc⟩, hbl⟩ : ∃ b, S.getD j bl0 = b := ⟨_, rfl⟩
      rw [hbl] at hc hB
      simp only [Bl.val] at hc
      clear hr e1
      go_enter Try.func32, Try.ntmps32
      go_wp2_with fail
      go_ret2
      exact ⟨⟨bA, bn, bc⟩, rfl, hB, rfl⟩
    · have e1 : askI L i = 1 := if_neg (by omega)
      rw [e1, if_neg (by decide)]
      have h3 : (n : Int) ≤ i := by omega
      go_enter Try.func32, Try.ntmps32
      go_wp2_with fail
      go_ret2
      exact ⟨bl0, rfl, IsB.nil _, rfl⟩
theorem new_rds (w : World) (bv : Value) (t : TypeId) : Rds (w.alloc (.cells #[bv] t)) 1 (some ⟨w.heap.size, 0, none⟩) 1 [bv] := by
  have hb : Blk (w.alloc (.cells #[bv] t)) w.heap.size #[bv] t := Blk.new w #[bv] t
  refine ⟨rfl, fun _ => ⟨_, rfl, hb.lt, fun j u hu => ?_⟩⟩
  have ea : (⟨w.heap.size, 0, none⟩ : Addr).add j = ⟨w.heap.size, j, none⟩ := by unfold Addr.add; by_cases h0 : j = 0 <;> simp [h0]
  rw [ea, hb.cell, List.getElem?_toArray]
  exact hu
/-- A list without one place. -/
def cutG {α : Type} (l : List α) (i : Nat) : List α := l.take i ++ l.drop (i + 1)
theorem cutG_at {α : Type} {l : List α} {i : Nat} (h : i < l.length) : cutG (l.take (i + 1)) i = cutG (l.take i) i := by
  unfold cutG
  rw [List.take_take, List.take_take, List.drop_of_length_le (by rw [List.length_take]; omega), List.drop_of_length_le (by rw [List.length_take]; omega)]
  simp
theorem cutG_more {α : Type} {l : List α} {i j : Nat} (d : α) (h : j < l.length) (hne : j ≠ i) : cutG (l.take (j + 1)) i = cutG (l.take j) i ++ [l.getD j d] := by
  have e : l.take (j + 1) = l.take j ++ [l.getD j d] := by rw [List.take_succ_eq_append_getElem h, List.getD_eq_getElem?_getD, List.getElem?_eq_getElem h]; rfl
  rw [e]
  unfold cutG
  have hl : (l.take j).length = j := by rw [List.length_take]; omega
  obtain ⟨T, hT⟩ : ∃ T, l.take j = T := ⟨_, rfl⟩
  rw [hT] at hl ⊢
  by_cases hji : j < i
  · have hl2 : (T ++ [l.getD j d]).length = j + 1 := by rw [List.length_append, hl]; rfl
    rw [List.take_of_length_le (l := T ++ [l.getD j d]) (by omega), List.take_of_length_le (l := T) (by omega), List.drop_of_length_le (l := T ++ [l.getD j d]) (by omega), List.drop_of_length_le (l := T) (by omega)]
    simp
  · rw [List.take_append_of_le_length (by omega), List.drop_append_of_le_length (by omega), List.append_assoc]
theorem cutG_len {α : Type} (l : List α) (i : Nat) : (cutG l i).length ≤ l.length := by
  unfold cutG; rw [List.length_append, List.length_take, List.length_drop]; omega
theorem cutG_far {α : Type} {l : List α} (i : Nat) : (cutG (l.take 0) i) = [] := by simp [cutG]

theorem rway_row {w W2 : World} {B g m base : Nat} {k : Option Nat} {S' : List Bl} {L' : List (List Nat)} {se lo : Int} {u v : Value} (hb : Blk w g #[u, .int .i64 se, .int .i64 lo] 39) (F : Frm No w W2)
    (own : W2.ownsRow base 22 1 v m (S'.map Bl.val)) (hm : L'.length = m) (hm2 : m ≤ 256) (hB : B ≤ base) (hw : w.heap.size ≤ base) (hrd : RdL W2 S' L') :
    IsR (W2.setCell ⟨g, 0, none⟩ v) B g v.ownBlock L' se lo ∧ Anew w k v.ownBlock ∧ Frm (fun x => x = g) w (W2.setCell ⟨g, 0, none⟩ v) := by
  have hb2 := F.blk hb (fun h => h)
  have G : Frm (fun x => x = g) W2 (W2.setCell ⟨g, 0, none⟩ v) := (Frm.refl (fun x => x = g) W2).self 0 v
  have hrow : RowS W2 B v v.ownBlock S' L' := ⟨by rw [hm]; exact own_lower own hB, rfl, hrd⟩
  refine ⟨⟨by omega, v, S', ?_, hrow.frm G (fun x hx e => ?_) (fun x cs hx e => ?_)⟩, .inr fun x hx => Nat.le_trans hw (own_blk own hx).1, ?_⟩
  · simpa using hb2.set 0 v
  · obtain ⟨_, cs, hc⟩ := own_blk own hx
    subst e
    exact Blk.ne hc hb2 (by decide) rfl
  · subst e
    exact Blk.ne hx hb2 (by decide) rfl
  · exact (F.mono fun _ h => h.elim).then G (fun x hx => .inl hx)
/-- Without one of them. -/
def TK (w wr : World) (S : List Bl) (i j : Nat) (v : Value) : Prop := wr.ownsRow w.heap.size 22 1 v (cutG (S.take j) i).length ((cutG (S.take j) i).map Bl.val) ∧ Frm No w wr
set_option maxRecDepth 100000 in
set_option maxHeartbeats 4000000 in
theorem rtake_any (w : World) (B g : Nat) (k : Option Nat) (L : List (List Nat)) (se lo i : Int) (h : IsR w B g k L se lo) (hB : B ≤ w.heap.size) : Calls Try.prog 16 #[.pointer (some ⟨g, 0, none⟩), .int .i64 i] w fun e w' =>
    ∃ b : Bl, e = .returned (.tuple #[b.val, .int .i64 (askI L i)]) ∧ IsB w' b (if askI L i = 0 then L.getD i.toNat [] else []) ∧ (∃ k', IsR w' B g k' (if askI L i = 0 then cutL L i.toNat else L) se lo ∧ Anew w k k') ∧ Frm (fun x => x = g) w w' := by
  have hat := rat_any w B g k L se lo i h
  by_cases hin : 0 ≤ i ∧ i < L.length
  · have hE : askI L i = 0 := if_pos hin
    rw [hE] at hat ⊢
    rw [if_pos rfl] at hat ⊢
    rw [if_pos rfl]
    obtain ⟨i0, i1⟩ := hin
    obtain ⟨m, rfl⟩ := Int.eq_ofNat_of_zero_le i0
    rw [Int.toNat_natCast] at hat ⊢
    obtain ⟨A, c, S, hb, hlc, hr⟩ := h.cells
    have hn2 := h.1
    obtain ⟨n, hn⟩ : ∃ n, L.length = n := ⟨_, rfl⟩
    have hSl : S.length = n := by rw [← hn]; exact hr.2.2.1
    rw [hn] at hb hr hn2 hlc
    obtain ⟨j0, hi, hz0, hz1, hz2⟩ := info_parts info22
    have k0 : ∀ w', Frm No w w' → w'.cell? ⟨g, 0, none⟩ = some (.slice A n c) := fun w' f => (f.blk hb (fun h => h)).cell 0
    have HX := Lib.hid (And.intro hr (And.intro hb (And.intro hat (And.intro k0 (And.intro hn (And.intro h hE))))))
    have hm : m < n := by omega
    have hgl := hb.lt
    clear hr hb hat k0 hn h hE i0 i1
    go_enter Try.func16, Try.ntmps16
    go_wp2_with fail
    refine HX.out.2.2.1.mono ?_
    rintro e w1 ⟨⟨bA, bn, bc⟩, rfl, hbB, rfl⟩
    simp only [Bl.val]
    have HB := Lib.hid hbB
    clear hbB
    go_wp2_with fail
    go_loopw [8, 9] (fun vl vk wr => ∃ j : Nat, vk = .int .i64 j ∧ j ≤ n ∧ TK w1 wr S m j vl) (fun _ vk _ => n - (intOf vk).toNat)
    case atStart => exact ⟨0, rfl, by omega, by rw [cutG_far]; exact World.ownsRow_nil _ _ _ _, Frm.refl _ _⟩
    case round =>
      obtain ⟨j, rfl, hj, own, F⟩ := hrel
      have c0 := HX.out.2.2.2.1 _ F
      by_cases hjn : j < n
      · have j1 : (j : Int) < (n : Int) := by omega
        have j0' : (0 : Int) ≤ (j : Int) := by omega
        by_cases hjm : j = m
        · subst hjm
          have OWN := Lib.hid own
          clear own
          go_wp2_with fail
          go_roundw
          case rel => exact ⟨j + 1, by go_num, by omega, by rw [cutG_at (by omega)]; exact OWN.out, F⟩
          case measure => simp [intOf]; omega
        · have hjm' : ¬ (j : Int) = (m : Int) := by omega
          obtain ⟨ad, rfl, hc, _⟩ := (HX.out.1.frmN F).at_ (j := j) (by rw [HX.out.2.2.2.2.1]; exact hjn)
          have hm2 := cutG_more (l := S) (i := m) (j := j) bl0 (by omega) hjm
          have hl2 := cutG_len (S.take j) m
          rw [List.length_take] at hl2
          obtain ⟨R, hR⟩ : ∃ R, cutG (S.take j) m = R := ⟨_, rfl⟩
          rw [hR] at own hm2 hl2
          obtain ⟨⟨dA, dn, dc⟩, hd⟩ : ∃ b, S.getD j bl0 = b := ⟨_, rfl⟩
          rw [hd] at hc hm2
          simp only [Bl.val] at hc
          obtain ⟨r, hr⟩ : ∃ r, R.length = r := ⟨_, rfl⟩
          rw [hr] at own hl2
          have own1 := own.alloc (.cells #[.slice dA dn dc] 22)
          have hrd := new_rds wr (.slice dA dn dc) 22
          have F1 := F.alloc (.cells #[.slice dA dn dc] 22)
          have hsz : w1.heap.size ≤ (wr.alloc (.cells #[.slice dA dn dc] 22)).heap.size := F1.size
          have HM := Lib.hid (And.intro hm2 hr)
          have hr2 : r ≤ 256 := by omega
          clear hm2 hl2 hr hR hd own
          obtain ⟨A5, c5, rfl, -, -⟩ := own_is own1
          go_wp2_with (at_builtin; go_must (refine wpList_append_rds _ rfl _ _ 32 rfl w1.heap.size 22 j0 _ 1 24 Try.underlying32 hi hz0 hz1 hz2 rfl (by omega) (.slice A5 r c5) r (R.map Bl.val) rfl own1 (some ⟨wr.heap.size, 0, none⟩) 1 1 [.slice dA dn dc] rfl hrd (by simp [Value.oneCell']) (by unfold maxLen; omega) (by omega) hsz ?_; intro v3 w3 own3 hg3))
          have F3 := own_grown own1 F1 (Nat.le_refl _) hg3
          go_wp2_with fail
          go_roundw
          case rel => exact ⟨j + 1, by go_num, by omega, by rw [HM.out.1]; simpa [HM.out.2, Bl.val] using own3, F3⟩
          case measure => simp [intOf]; omega
      · have j1 : ¬ (j : Int) < (n : Int) := by omega
        have hjn2 : j = n := by omega
        subst hjn2
        have eS : S.take j = S := by rw [← hSl, List.take_length]
        rw [eS] at own
        have hcl : (cutG S m).length = (cutL L m).length := by
          show (cutG S m).length = (cutG L m).length
          unfold cutG; simp only [List.length_append, List.length_take, List.length_drop, hSl, HX.out.2.2.2.2.1]
        obtain ⟨ct, hct⟩ : ∃ ct, (cutG S m).length = ct := ⟨_, rfl⟩
        rw [hct] at own hcl
        have hcm : ct ≤ 256 := by have := cutG_len S m; omega
        obtain ⟨A5, c5, rfl, -, -⟩ := own_is own
        have RD : RdL wr (cutG S m) (cutL L m) := by
          have hrd := (HX.out.1.frmN F).2.2
          exact RdL.both (RdL.take hrd m) (RdL.drop hrd (m + 1))
        obtain ⟨r1, r2, r3⟩ := rway_row (B := B) (k := k) HX.out.2.1 F own hcl.symm hcm hB (Nat.le_refl _) RD
        have z0 : wr.frozen? ⟨g, 0, none⟩ = false := (F.blk HX.out.2.1 (fun h => h)).free 0
        have hbg := F.blk HX.out.2.1 (fun h => h)
        have r4 := (HB.out.frmN F).frm ((Frm.refl (fun x => x = g) wr).self 0 (.slice A5 ct c5)) (fun x cs hx e => by
          subst e
          exact Blk.ne hx hbg (by decide) rfl)
        have DONE := Lib.hid (And.intro r1 (And.intro r2 (And.intro r3 r4)))
        clear r1 r2 r3 r4 RD own F hcl hct hbg
        go_wp2_with fail
        go_ret2
        exact ⟨⟨bA, bn, bc⟩, rfl, DONE.out.2.2.2, ⟨_, DONE.out.1, DONE.out.2.1⟩, DONE.out.2.2.1⟩
  · have hE : askI L i = 1 := if_neg hin
    rw [hE] at hat ⊢
    rw [if_neg (by decide)] at hat ⊢
    rw [if_neg (by decide)]
    have HH := Lib.hid (And.intro h hat)
    clear h hat hE
    go_enter Try.func16, Try.ntmps16
    go_wp2_with fail
    refine HH.out.2.mono ?_
    rintro e w1 ⟨⟨bA, bn, bc⟩, rfl, hbB, rfl⟩
    simp only [Bl.val]
    go_wp2_with fail
    go_ret2
    exact ⟨bl0, rfl, IsB.nil _, ⟨k, HH.out.1, .inl rfl⟩, Frm.refl _ _⟩
end Go.Proofs.Ytbhkhabkkghapaa.A

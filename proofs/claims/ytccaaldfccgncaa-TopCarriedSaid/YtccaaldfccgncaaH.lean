/- Putting fields together: Put. -/
import Derived.Test.YtccaaldfccgncaaG
namespace Go.Proofs.Ytccaaldfccgncaa.A
open Go.RowKit Go.Proofs.Ytccaaldfccgncaa.K
set_option linter.unusedVariables false
set_option linter.unusedSimpArgs false

/-- Slices of bytes in a row. -/
structure Fl where
  A : Option Addr
  c : Nat
  bs : List Nat
def Fl.val (f : Fl) : Value := .slice f.A f.bs.length f.c
theorem fl_one (F : List Fl) : ∀ u ∈ F.map Fl.val, u.oneCell' = true := fun u hu => by
  obtain ⟨n, _, rfl⟩ := List.mem_map.1 hu
  rfl
theorem info24 : (Try.prog.info? 24).map (fun i => (i.zero, i.size, i.bytes)) = some (some (.slice none 0 0), 1, 24) := by kernel_rfl
def RowF (w : World) (B : Nat) (v : Value) (O : List (List Nat)) : Prop := ∃ F : List Fl, F.map Fl.bs = O ∧ w.ownsRow B 24 1 v F.length (F.map Fl.val) ∧ ∀ f ∈ F, RowB w 0 f.val f.bs
theorem RowF.frm {w w' : World} {S : Nat → Prop} {B : Nat} {v : Value} {O : List (List Nat)} (h : RowF w B v O) (f : Frm S w w') (h24 : ∀ k cs, Blk w k cs 24 → ¬ S k) (h5 : ∀ k cs, Blk w k cs 5 → ¬ S k) : RowF w' B v O := by
  obtain ⟨F, e, o, r⟩ := h
  exact ⟨F, e, own_frm o f h24, fun x hx => own_frm (r x hx) f h5⟩
theorem RowF.frmN {w w' : World} {B : Nat} {v : Value} {O : List (List Nat)} (h : RowF w B v O) (f : Frm No w w') : RowF w' B v O := h.frm f (fun _ _ _ h => h) (fun _ _ _ h => h)
theorem RowF.lower {w : World} {b B : Nat} {v : Value} {O : List (List Nat)} (h : RowF w B v O) (hb : b ≤ B) : RowF w b v O := by
  obtain ⟨F, e, o, r⟩ := h
  exact ⟨F, e, own_lower o hb, r⟩
theorem RowF.nil (w : World) (B : Nat) : RowF w B (.slice none 0 0) [] := ⟨[], rfl, World.ownsRow_nil _ _ _ _, fun f h => by cases h⟩
theorem RowF.out {w : World} {B n : Nat} {v : Value} {O : List (List Nat)} (h : RowF w B v O) (hn : O.length = n) : ∃ A c, v = .slice A n c ∧ n ≤ c := by
  obtain ⟨F, rfl, o, r⟩ := h
  obtain ⟨A, c, rfl, hc, -⟩ := own_is o
  rw [List.length_map] at hn
  subst hn
  exact ⟨A, c, rfl, hc⟩
/-- Its element i. -/
theorem RowF.at_ {w : World} {B n c : Nat} {A : Option Addr} {O : List (List Nat)} (h : RowF w B (.slice A n c) O) {i : Nat} (hi : i < O.length) :
    ∃ ad A2 c2, A = some ad ∧ w.cell? (ad.add i) = some (.slice A2 (O.getD i []).length c2) ∧ RowB w 0 (.slice A2 (O.getD i []).length c2) (O.getD i []) ∧ (∃ cs, Blk w ad.block cs 24) ∧ ad = ⟨ad.block, 0, none⟩ := by
  obtain ⟨F, rfl, o, r⟩ := h
  rw [List.length_map] at hi
  have e : (F.map Fl.bs).getD i [] = F[i].bs := by rw [List.getD_eq_getElem?_getD, List.getElem?_map, List.getElem?_eq_getElem hi]; rfl
  rw [e]
  have o' := o
  rcases o.2 with ⟨hv, h0⟩ | ⟨g, cap, cur, hv, hg, hh, h1, _⟩
  · omega
  · injection hv with hA
    subst hA
    refine ⟨_, F[i].A, F[i].c, rfl, ?_, r _ (List.getElem_mem _), ⟨cur, hh⟩, rfl⟩
    exact o'.cells (g := g) rfl i _ (by rw [List.getElem?_map, List.getElem?_eq_getElem hi]; rfl)
/-- One more, behind. -/
theorem RowF.push {w w' : World} {B n : Nat} {v v' x : Value} {O : List (List Nat)} {b : List Nat} {S : Nat → Prop} (h : RowF w B v O) (hn : O.length = n) (hx : RowB w' 0 x b) (f : Frm S w w') (h5 : ∀ k cs, Blk w k cs 5 → ¬ S k)
    (o : ∀ xs, w.ownsRow B 24 1 v n xs → w'.ownsRow B 24 1 v' (n + 1) (xs ++ [x])) : RowF w' B v' (O ++ [b]) := by
  obtain ⟨F, rfl, o1, r⟩ := h
  rw [List.length_map] at hn
  subst hn
  obtain ⟨A, c, rfl, -, -⟩ := hx.out
  refine ⟨F ++ [⟨A, c, b⟩], by rw [List.map_append]; rfl, ?_, fun y hy => ?_⟩
  · rw [List.length_append, List.map_append]
    exact o _ o1
  · rcases List.mem_append.1 hy with hy | hy
    · exact own_frm (r y hy) f h5
    · rcases List.mem_singleton.1 hy with rfl
      exact hx
set_option maxRecDepth 100000 in
set_option maxHeartbeats 2000000 in
theorem empty_is (w : World) (A : Option Addr) (n c : Nat) (hn : 1 ≤ n) : Calls Try.prog 34 #[.slice A n c] w fun e w' => e = .returned (.bool false) ∧ w' = w := by
  have hz : ((n : Int) == 0) = false := by rw [beq_eq_false_iff_ne]; omega
  go_enter Try.func34, Try.ntmps34
  go_wp2_with fail
  go_ret
  exact ⟨rfl, rfl⟩
set_option maxRecDepth 100000 in
set_option maxHeartbeats 2000000 in
theorem index_empty (w : World) (A : Option Addr) (n c : Nat) (O : List (List Nat)) (B : Nat) (h : RowF w B (.slice A n c) O) (hn : O.length = n) (hn2 : n ≤ 1000) (hne : ∀ b ∈ O, 1 ≤ b.length) :
    Calls Try.prog 72 #[.slice A n c, .func (.func 34) #[] #[]] w fun e w' => e = .returned (.int .i64 (-1)) ∧ w' = w := by
  have HF := Lib.hid (And.intro h (And.intro hn hne))
  clear h hn hne
  go_enter Try.func72, Try.ntmps72
  go_wp2_with fail
  go_loopw [8] (fun vi wr => ∃ i : Nat, vi = .int .i64 i ∧ i ≤ n ∧ wr = w) (fun vi _ => n - (intOf vi).toNat)
  case atStart => exact ⟨0, rfl, by omega, rfl⟩
  case round =>
    obtain ⟨i, rfl, hi, hwx⟩ := hrel
    have hwx2 := hwx.symm
    clear hwx
    subst hwx2
    have i0 : (0 : Int) ≤ (i : Int) := Int.natCast_nonneg _
    by_cases hlt : i < n
    · have i1 : (i : Int) < (n : Int) := by omega
      obtain ⟨ad, A2, c2, rfl, k0, -, -⟩ := HF.out.1.at_ (i := i) (by rw [HF.out.2.1]; exact hlt)
      have hl : 1 ≤ (O.getD i []).length := HF.out.2.2 _ (by rw [List.getD_eq_getElem?_getD, List.getElem?_eq_getElem (by rw [HF.out.2.1]; exact hlt)]; exact List.getElem_mem _)
      obtain ⟨l, hll⟩ : ∃ l, (O.getD i []).length = l := ⟨_, rfl⟩
      rw [hll] at k0 hl
      have he := empty_is w A2 l c2 hl
      clear hll hl
      go_wp2_with fail
      refine he.mono ?_
      rintro e w2 ⟨rfl, rfl⟩
      go_wp2_with fail
      go_roundw
      case rel => exact ⟨i + 1, by go_num, by omega, trivial⟩
      case measure => simp [intOf]; omega
    · have i1 : ¬ (i : Int) < (n : Int) := by omega
      go_wp2_with fail
      go_ret
      exact ⟨rfl, rfl⟩
set_option maxRecDepth 100000 in
set_option maxHeartbeats 2000000 in
theorem none_empty (w : World) (A : Option Addr) (n c : Nat) (O : List (List Nat)) (B : Nat) (h : RowF w B (.slice A n c) O) (hn : O.length = n) (hn2 : n ≤ 1000) (hne : ∀ b ∈ O, 1 ≤ b.length) :
    Calls Try.prog 35 #[.slice A n c, .func (.func 34) #[] #[]] w fun e w' => e = .returned (.bool false) ∧ w' = w := by
  have h := index_empty w A n c O B h hn hn2 hne
  clear hne hn
  go_enter Try.func35, Try.ntmps35
  go_wp2_with fail
  refine h.mono ?_
  rintro e w1 ⟨rfl, rfl⟩
  go_wp2_with fail
  go_ret
  exact ⟨rfl, rfl⟩
theorem fH_true (h : Option (List Nat)) (b : List Nat) : fH h b true = some b := rfl
theorem fH_none (b : List Nat) : fH none b false = none := rfl
theorem fH_some (l b : List Nat) : fH (some l) b false = some (l ++ b) := rfl
/-- field, told at once. -/
theorem field_is (w : World) (g : Nat) (h : Option (List Nat)) (lost : Int) (A : Option Addr) (n c : Nat) (b : List Nat) (bg en : Bool) (H : IsG w g h lost) (l0 : 0 ≤ lost) (l1 : lost ≤ 100000000) (hb : BinT w A b) (hn : b.length = n) (n0 : 1 ≤ n) (n1 : ((fH h b bg).getD []).length ≤ 1000) :
    Calls Try.prog 37 #[.pointer (some ⟨g, 0, none⟩), .slice A n c, .bool bg, .bool en] w fun e w' => ∃ v, e = .returned (.tuple #[v, .bool (en && (fH h b bg).isSome)]) ∧ ((en && (fH h b bg).isSome) = true → RowB w' 0 v ((fH h b bg).getD [])) ∧ IsG w' g (if en = true then none else fH h b bg) (fL h lost bg en) ∧ Frm (fun x => x = g) w w' := by
  cases bg with
  | true =>
    rw [fH_true] at n1 ⊢
    refine (field_begins w g h lost A n c b en H l0 l1 hb hn (by rw [← hn]; exact n1)).mono ?_
    rintro e w' ⟨v, rfl, R, G, F⟩
    refine ⟨v, by simp, fun ht => ?_, ?_, F⟩
    · rw [Bool.and_eq_true] at ht
      rw [if_pos ht.1] at R
      exact R
    · unfold fL
      rw [if_pos rfl]
      exact G
  | false =>
    cases h with
    | none =>
      rw [fH_none]
      refine (field_none w g none lost A n c b en H l0 l1).mono ?_
      rintro e w' ⟨v, rfl, G, F⟩
      refine ⟨v, by simp, fun ht => ?_, ?_, F⟩
      · simp at ht
      · unfold fL
        rw [if_neg (show ¬ (false = true) by decide)]
        cases en <;> simpa using G
    | some held =>
      rw [fH_some] at n1 ⊢
      refine (field_goes w g held lost A n c b en H l0 l1 hb hn n0 (by simpa [hn] using n1)).mono ?_
      rintro e w' ⟨v, rfl, R, G, F⟩
      refine ⟨v, by simp, fun ht => ?_, ?_, F⟩
      · rw [Bool.and_eq_true] at ht
        rw [if_pos ht.1] at R
        exact R
      · have e : fL (some held) lost false en = lost := by unfold fL; simp
        rw [e]
        exact G
/-- What Put makes of the first fields. -/
structure GS where
  h : Option (List Nat)
  lost : Int
  o : List (List Nat)
def bgOf (fi i : Nat) : Bool := decide (0 < i ∨ fi / 2 % 2 = 0)
def enOf (fi m i : Nat) : Bool := decide (i < m ∨ fi % 2 = 0)
def gStep (s : GS) (b : List Nat) (bg en : Bool) : GS := ⟨if en = true then none else fH s.h b bg, fL s.h s.lost bg en, if (en && (fH s.h b bg).isSome) = true then s.o ++ [(fH s.h b bg).getD []] else s.o⟩
def gPut (fi : Nat) (O : List (List Nat)) (s : GS) : Nat → GS
  | 0 => s
  | i + 1 => gStep (gPut fi O s i) (O.getD i []) (bgOf fi i) (enOf fi (O.length - 1) i)
def gStart (h : Option (List Nat)) (lost : Int) (gap : Bool) : GS := ⟨if gap = true then none else h, lost + if gap = true then someI h else 0, []⟩
theorem someI_01 (h : Option (List Nat)) : 0 ≤ someI h ∧ someI h ≤ 1 := by unfold someI; split <;> omega
theorem fL_step (h : Option (List Nat)) (lost : Int) (bg en : Bool) : lost ≤ fL h lost bg en ∧ fL h lost bg en ≤ lost + 1 := by
  have := someI_01 h
  unfold fL
  split
  · omega
  · split <;> omega
theorem gPut_lost (fi : Nat) (O : List (List Nat)) (s : GS) : ∀ i, s.lost ≤ (gPut fi O s i).lost ∧ (gPut fi O s i).lost ≤ s.lost + i
  | 0 => ⟨Int.le_refl _, by show s.lost ≤ s.lost + 0; omega⟩
  | i + 1 => by
    have h1 := gPut_lost fi O s i
    have h2 := fL_step (gPut fi O s i).h (gPut fi O s i).lost (bgOf fi i) (enOf fi (O.length - 1) i)
    have h3 : (gPut fi O s (i + 1)).lost = fL (gPut fi O s i).h (gPut fi O s i).lost (bgOf fi i) (enOf fi (O.length - 1) i) := rfl
    rw [h3]
    push_cast
    omega
theorem gPut_olen (fi : Nat) (O : List (List Nat)) (s : GS) : ∀ i, (gPut fi O s i).o.length ≤ s.o.length + i
  | 0 => Nat.le_refl _
  | i + 1 => by
    have h1 := gPut_olen fi O s i
    show (if _ then _ else _ : List (List Nat)).length ≤ _
    split
    · rw [List.length_append, List.length_singleton]; omega
    · omega
end Go.Proofs.Ytccaaldfccgncaa.A

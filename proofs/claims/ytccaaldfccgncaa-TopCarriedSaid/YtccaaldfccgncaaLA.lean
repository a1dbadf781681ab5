/- Lengths: their bits; lens.Write. -/
import Derived.Test.YtccaaldfccgncaaRB
namespace Go.Proofs.Ytccaaldfccgncaa.A
open Go.RowKit Go.Proofs.Ytccaaldfccgncaa.K
set_option linter.unusedVariables false
set_option linter.unusedSimpArgs false

def moreOf (ns : List Nat) (i : Nat) : Nat := if i + 1 < ns.length then 1 else 0
/-- The bits of the first lengths. -/
def lb (ns : List Nat) : Nat → List Nat
  | 0 => []
  | i + 1 => lb ns i ++ bitsOf (moreOf ns i) 1 ++ bitsOf (ns.getD i 0) 11
theorem moreOf_le (ns : List Nat) (i : Nat) : moreOf ns i ≤ 1 := by unfold moreOf; split <;> omega
theorem lb_len (ns : List Nat) : ∀ i, (lb ns i).length = 12 * i
  | 0 => rfl
  | i + 1 => by unfold lb; rw [List.length_append, List.length_append, lb_len ns i, bitsOf_len, bitsOf_len]; omega
theorem lb_bits (ns : List Nat) : ∀ i, Bits (lb ns i)
  | 0 => fun x h => by cases h
  | i + 1 => fun x hx => by
    unfold lb at hx
    rcases List.mem_append.1 hx with hx | hx
    · rcases List.mem_append.1 hx with hx | hx
      · exact lb_bits ns i x hx
      · exact bitsOf_bits _ _ x hx
    · exact bitsOf_bits _ _ x hx
theorem lb_part (ns : List Nat) (k : Nat) : ∀ d, ∃ c, Bits c ∧ lb ns (k + d) = lb ns k ++ c
  | 0 => ⟨[], (fun x h => by cases h), by simp⟩
  | d + 1 => by
    obtain ⟨c, hc, e⟩ := lb_part ns k d
    refine ⟨c ++ bitsOf (moreOf ns (k + d)) 1 ++ bitsOf (ns.getD (k + d) 0) 11, fun x hx => ?_, ?_⟩
    · rcases List.mem_append.1 hx with hx | hx
      · rcases List.mem_append.1 hx with hx | hx
        · exact hc x hx
        · exact bitsOf_bits _ _ x hx
      · exact bitsOf_bits _ _ x hx
    · show lb ns (k + d) ++ bitsOf (moreOf ns (k + d)) 1 ++ bitsOf (ns.getD (k + d) 0) 11 = _
      rw [e]
      simp only [List.append_assoc]
/-- What is read at length k. -/
theorem lb_read {ns rest : List Nat} {k : Nat} (hk : k < ns.length) (h : ∀ n ∈ ns, n < 2048) : valB (pk (lb ns ns.length) ++ rest) (12 * k) 1 = moreOf ns k ∧ valB (pk (lb ns ns.length) ++ rest) (12 * k + 1) 11 = ns.getD k 0 := by
  obtain ⟨c, hc, e⟩ := lb_part ns (k + 1) (ns.length - (k + 1))
  rw [show k + 1 + (ns.length - (k + 1)) = ns.length by omega] at e
  have e2 : lb ns (k + 1) = lb ns k ++ bitsOf (moreOf ns k) 1 ++ bitsOf (ns.getD k 0) 11 := rfl
  rw [e2] at e
  have hm := moreOf_le ns k
  have hn : ns.getD k 0 < 2 ^ 11 := by
    rw [List.getD_eq_getElem?_getD, List.getElem?_eq_getElem hk]
    exact h _ (List.getElem_mem _)
  constructor
  · have := valB_pk (a := lb ns k) (c := bitsOf (ns.getD k 0) 11 ++ c) (rest := rest) (v := moreOf ns k) (n := 1) (lb_bits ns k) (fun x hx => by
      rcases List.mem_append.1 hx with hx | hx
      · exact bitsOf_bits _ _ x hx
      · exact hc x hx) (by show _ < 2; omega)
    rw [lb_len, ← List.append_assoc, ← e] at this
    exact this
  · have := valB_pk (a := lb ns k ++ bitsOf (moreOf ns k) 1) (c := c) (rest := rest) (v := ns.getD k 0) (n := 11) (fun x hx => by
      rcases List.mem_append.1 hx with hx | hx
      · exact lb_bits ns k x hx
      · exact bitsOf_bits _ _ x hx) hc hn
    rw [List.length_append, lb_len, bitsOf_len, ← e] at this
    exact this
/-- A row of lengths. -/
def nv (n : Nat) : Value := .int .i64 (n : Int)
def RowN (w : World) (B : Nat) (v : Value) (ns : List Nat) : Prop := w.ownsRow B 3 1 v ns.length (ns.map nv)
theorem nv_one (L : List Nat) : ∀ u ∈ L.map nv, u.oneCell' = true := fun u hu => by
  obtain ⟨n, _, rfl⟩ := List.mem_map.1 hu
  rfl
theorem info3 : (Try.prog.info? 3).map (fun i => (i.zero, i.size, i.bytes)) = some (some (.int .i64 0), 1, 8) := by kernel_rfl
theorem RowN.out {w : World} {B n : Nat} {v : Value} {L : List Nat} (h : RowN w B v L) (hn : L.length = n) : ∃ A c, v = .slice A n c ∧ n ≤ c ∧ ∀ i, i < n → ∃ ad, A = some ad ∧ (∃ cs, Blk w ad.block cs 3) ∧ w.cell? (ad.add i) = some (.int .i64 (L.getD i 0 : Nat)) := by
  subst hn
  obtain ⟨A, c, rfl, hc, hr⟩ := own_is h
  refine ⟨A, c, rfl, hc, fun i hi => ?_⟩
  rcases h.2 with ⟨hv, h0⟩ | ⟨g, cap, cur, hv, hg, hh, h1, _⟩
  · omega
  · injection hv with hA
    subst hA
    refine ⟨_, rfl, ⟨cur, hh⟩, h.cells (g := g) rfl i _ ?_⟩
    rw [List.getElem?_map, List.getElem?_eq_getElem hi, List.getD_eq_getElem?_getD, List.getElem?_eq_getElem hi]; rfl
theorem RowN.frmN {w w' : World} {B : Nat} {v : Value} {L : List Nat} (h : RowN w B v L) (f : Frm No w w') : RowN w' B v L := own_frm h f (fun _ _ _ h => h)
theorem wr_size {w : World} {g B : Nat} {bs : List Nat} (h : IsWr w g B bs) : g < w.heap.size := by
  obtain ⟨v, hb, _⟩ := h
  exact hb.lt
set_option maxRecDepth 100000 in
set_option maxHeartbeats 4000000 in
theorem lens_write (w : World) (A : Option Addr) (n c : Nat) (ns : List Nat) (B0 : Nat) (h : RowN w B0 (.slice A n c) ns) (hn : ns.length = n) (n1 : 1 ≤ n) (n23 : n ≤ 23) (hns : ∀ x ∈ ns, 1 ≤ x ∧ x < 2048) :
    Calls Try.prog 49 #[.slice A n c, .int .i64 11] w fun e w' => ∃ v, e = .returned (.tuple #[v, .int .i64 0]) ∧ RowB w' w.heap.size v (pk (lb ns n)) ∧ Frm No w w' := by
  have hw := lenwidth w
  have hnew := wr_new w
  have nz : ((n : Int) == 0) = false := by rw [beq_eq_false_iff_ne]; omega
  have n2 : ¬ (23 : Int) < (n : Int) := by omega
  have n9 : (n : Int) ≤ 23 := by omega
  have H := Lib.hid (And.intro h (And.intro hn hns))
  clear h hn hns
  go_enter Try.func49, Try.ntmps49
  go_wp2_with fail
  refine hw.mono ?_
  rintro e wq ⟨rfl, hwx⟩
  have hwx2 := hwx.symm
  clear hwx
  subst hwx2
  go_wp2_with fail
  refine hnew.mono ?_
  rintro e w1 ⟨rfl, W1, F1⟩
  obtain ⟨g, hg⟩ : ∃ g, w.heap.size = g := ⟨_, rfl⟩
  rw [hg] at W1
  rw [hg]
  have H1 := Lib.hid (And.intro W1 (And.intro F1 (And.intro hg (wr_size W1))))
  clear W1 F1 hg hw hnew
  go_wp2_with fail
  go_loopw [25] (fun vi wr => ∃ i : Nat, vi = .int .i64 i ∧ i ≤ n ∧ IsWr wr g (g + 1) (lb ns i) ∧ Past w1 wr g (g + 1)) (fun vi _ => n - (intOf vi).toNat)
  case atStart => exact ⟨0, rfl, by omega, H1.out.1, Past.refl _ _ _⟩
  case round =>
    obtain ⟨i, rfl, hi, hW, hP⟩ := hrel
    have HW := Lib.hid (And.intro hW hP)
    clear hW hP
    have i0 : (0 : Int) ≤ (i : Int) := Int.natCast_nonneg _
    have hFw : Frm No w wr := HW.out.2.frm No w H1.out.2.1 (by have := H1.out.2.2.1; omega) (by have := H1.out.2.2.1; omega)
    by_cases hin : i < n
    · have i1 : (i : Int) < (n : Int) := by omega
      have i23 : (i : Int) ≤ 22 := by omega
      obtain ⟨A', c', e', -, hcell⟩ := (H.out.1.frmN hFw).out H.out.2.1
      injection e' with e1 e2 e3
      subst e1
      obtain ⟨ad, rfl, -, hc⟩ := hcell i hin
      have hx := H.out.2.2 (ns.getD i 0) (by rw [List.getD_eq_getElem?_getD, List.getElem?_eq_getElem (by rw [H.out.2.1]; exact hin)]; exact List.getElem_mem _)
      obtain ⟨x, hxx⟩ : ∃ x, ns.getD i 0 = x := ⟨_, rfl⟩
      rw [hxx] at hc hx
      have x1 : ¬ (x : Int) < 1 := by omega
      have x2 : ¬ (2048 : Int) ≤ (x : Int) := by omega
      obtain ⟨m, hm⟩ : ∃ m, moreOf ns i = m := ⟨_, rfl⟩
      have hm1 := moreOf_le ns i
      rw [hm] at hm1
      have hmo : m = if i + 1 < n then 1 else 0 := by rw [← hm]; unfold moreOf; rw [H.out.2.1]
      have hll := lb_len ns i
      have pwx : IntKind.u64.wrap (x : Int) = (x : Int) := IntWalk.u64_in _ ⟨by omega, by omega⟩
      have pwn : IntKind.i64.wrap ((n : Int) - 1) = (n : Int) - 1 := IntWalk.i64_in _ ⟨by omega, by omega⟩
      have hput1 := wr_put wr g (g + 1) m 1 (lb ns i) HW.out.1 (by show m < 2; omega) (by omega) (by have := HW.out.2.size; have := H1.out.2.2.2; omega) (by omega)
      have HX := Lib.hid (And.intro hxx (And.intro hm (And.intro hmo (And.intro hll (And.intro hx hFw)))))
      clear hxx hm hx e2 e3 hcell hll hFw
      by_cases hlast : i + 1 < n
      · have hm1' : m = 1 := by rw [HX.out.2.2.1, if_pos hlast]
        subst hm1'
        have il : (i : Int) < (n : Int) - 1 := by omega
        clear hmo
        go_wp2_with fail
        refine hput1.mono ?_
        rintro e w2 ⟨rfl, W2, P2⟩
        have hput2 := wr_put w2 g (g + 1) x 11 _ W2 (by show x < 2048; omega) (by omega) (by have := P2.size; have := HW.out.2.size; have := H1.out.2.2.2; omega) (by rw [List.length_append, bitsOf_len, HX.out.2.2.2.1]; omega)
        have HP2 := Lib.hid P2
        clear W2 P2 hput1
        go_wp2_with fail
        refine hput2.mono ?_
        rintro e w3 ⟨rfl, W3, P3⟩
        have H3 := Lib.hid (show IsWr w3 g (g + 1) (lb ns (i + 1)) ∧ Past w1 w3 g (g + 1) from ⟨by show IsWr w3 g (g + 1) (lb ns i ++ bitsOf (moreOf ns i) 1 ++ bitsOf (ns.getD i 0) 11); rw [HX.out.1, HX.out.2.1]; exact W3, (HW.out.2.trans HP2.out).trans P3⟩)
        clear W3 P3 hput2
        go_wp2_with fail
        go_roundw
        case rel => exact ⟨i + 1, by go_num, by omega, H3.out.1, H3.out.2⟩
        case measure => simp [intOf]; omega
      · have hm1' : m = 0 := by rw [HX.out.2.2.1, if_neg hlast]
        subst hm1'
        have il : ¬ (i : Int) < (n : Int) - 1 := by omega
        clear hmo
        go_wp2_with fail
        refine hput1.mono ?_
        rintro e w2 ⟨rfl, W2, P2⟩
        have hput2 := wr_put w2 g (g + 1) x 11 _ W2 (by show x < 2048; omega) (by omega) (by have := P2.size; have := HW.out.2.size; have := H1.out.2.2.2; omega) (by rw [List.length_append, bitsOf_len, HX.out.2.2.2.1]; omega)
        have HP2 := Lib.hid P2
        clear W2 P2 hput1
        go_wp2_with fail
        refine hput2.mono ?_
        rintro e w3 ⟨rfl, W3, P3⟩
        have H3 := Lib.hid (show IsWr w3 g (g + 1) (lb ns (i + 1)) ∧ Past w1 w3 g (g + 1) from ⟨by show IsWr w3 g (g + 1) (lb ns i ++ bitsOf (moreOf ns i) 1 ++ bitsOf (ns.getD i 0) 11); rw [HX.out.1, HX.out.2.1]; exact W3, (HW.out.2.trans HP2.out).trans P3⟩)
        clear W3 P3 hput2
        go_wp2_with fail
        go_roundw
        case rel => exact ⟨i + 1, by go_num, by omega, H3.out.1, H3.out.2⟩
        case measure => simp [intOf]; omega
    · have i1 : ¬ (i : Int) < (n : Int) := by omega
      have hin2 : RowKit.Hid (i = n) := (show i = n by omega)
      have hby := wr_bytes wr g (g + 1) _ HW.out.1 (by rw [lb_len]; omega)
      have HFw := Lib.hid hFw
      clear hFw hin
      go_wp2_with fail
      refine hby.mono ?_
      rintro e w5 ⟨v5, rfl, R5, F5⟩
      have H5 := Lib.hid (And.intro (R5.lower HFw.out.size) (HFw.out.thenN F5))
      obtain ⟨A5, c5, rfl, -, -⟩ := R5.out
      clear F5
      go_wp2_with fail
      go_ret2
      have := H5.out.1
      rw [hin2.out] at this ⊢
      exact ⟨_, rfl, this, H5.out.2⟩
end Go.Proofs.Ytccaaldfccgncaa.A

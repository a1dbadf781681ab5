/- What bytes.Join answers. -/
import Derived.Test.YtccaaldfccgncaaJN
namespace Go.Proofs.Ytccaaldfccgncaa.A
open Go.RowKit Go.Proofs.Ytccaaldfccgncaa.K
set_option linter.unusedVariables false
set_option linter.unusedSimpArgs false

def u8s (L : List Nat) : List UInt8 := L.map UInt8.ofNat
theorem u8s_at {L : List Nat} (h : ∀ x ∈ L, x < 256) {i : Nat} {x : UInt8} (hx : (u8s L)[i]? = some x) : i < L.length ∧ (x.toNat : Int) = ((L.getD i 0 : Nat) : Int) := by
  unfold u8s at hx
  rw [List.getElem?_map] at hx
  obtain ⟨y, hy, rfl⟩ := Option.map_eq_some_iff.1 hx
  obtain ⟨hi, rfl⟩ := List.getElem?_eq_some_iff.1 hy
  refine ⟨hi, ?_⟩
  have := h _ (List.getElem_mem hi)
  rw [List.getD_eq_getElem?_getD, List.getElem?_eq_getElem hi, Option.getD_some, UInt8.toNat_ofNat_of_lt' (by simpa using this)]
theorem u8s_len (L : List Nat) : (u8s L).length = L.length := by simp [u8s]
theorem join_flat (O : List (List Nat)) : Lib.join (O.map u8s) [] = u8s O.flatten := by
  unfold Lib.join
  have h : ∀ X : List (List UInt8), ([] : List UInt8).intercalate X = X.flatten := by
    intro X
    induction X with
    | nil => rfl
    | cons a X ih =>
      cases X with
      | nil => simp [List.intercalate]
      | cons b X => 
        have e : ([] : List UInt8).intercalate (a :: b :: X) = a ++ ([] ++ ([] : List UInt8).intercalate (b :: X)) := by simp [List.intercalate, List.intersperse]
        rw [e, ih]
        simp
  rw [h]
  unfold u8s
  rw [← List.map_flatten]
theorem lens_tot (O : List (List Nat)) : Lib.lens (O.map u8s) = tot O := by
  unfold Lib.lens tot
  rw [List.map_map]
  congr 1
  apply List.map_congr_left
  intro x _
  exact u8s_len x
theorem flat_len (O : List (List Nat)) : O.flatten.length = tot O := by
  unfold tot
  rw [List.length_flatten]
theorem holds_of {w : World} {A : Option Addr} {n c : Nat} {L : List Nat} (h : Bin w A L) (hn : L.length = n) (h256 : ∀ x ∈ L, x < 256) : Lib.HoldsBytes w (.slice A n c) (u8s L) := by
  refine ⟨A, c, by rw [u8s_len, hn], fun e => ?_, fun a e i x hx => ?_⟩
  · by_cases h0 : 0 < L.length
    · obtain ⟨ad, e2, _⟩ := h.at_ h0
      rw [e] at e2
      cases e2
    · have : L = [] := List.eq_nil_of_length_eq_zero (by omega)
      subst this
      rfl
  · obtain ⟨hi, hv⟩ := u8s_at h256 hx
    obtain ⟨ad, e2, _, hc⟩ := h.at_ hi
    rw [e] at e2
    injection e2 with e2
    subst e2
    rw [hv]
    exact hc
theorem u8s_inj {L M : List Nat} (h : u8s L = u8s M) (hL : ∀ x ∈ L, x < 256) (hM : ∀ x ∈ M, x < 256) : L = M := by
  have e : ∀ N : List Nat, (∀ x ∈ N, x < 256) → (u8s N).map UInt8.toNat = N := fun N hN => by
    unfold u8s
    rw [List.map_map]
    conv => rhs; rw [← List.map_id N]
    apply List.map_congr_left
    intro x hx
    exact UInt8.toNat_ofNat_of_lt' (by simpa using hN x hx)
  rw [← e L hL, ← e M hM, h]
theorem fresh_bin {B : Nat} {w : World} {v : Value} {L : List Nat} (h : Lib.FreshBytes B w v (u8s L)) (h256 : ∀ x ∈ L, x < 256) : ∃ A c, v = .slice A L.length c ∧ L.length ≤ c ∧ Bin w A L := by
  obtain ⟨g, cap, zs, rfl, hg, hl, hm, hz, h0, hb, hc, hf⟩ := h
  rw [u8s_len] at hl hb
  refine ⟨some ⟨g, 0, none⟩, cap, by rw [u8s_len], hl, by simp, fun hn => ⟨_, rfl, ?_, fun j u hu => ?_⟩⟩
  · have := hc 0 (by omega)
    by_cases hlt : g < w.heap.size
    · exact hlt
    · rw [World.cell?] at this
      rw [Array.getElem?_eq_none (by simpa using hlt)] at this
      simp at this
  · rw [List.getElem?_map] at hu
    obtain ⟨y, hy, rfl⟩ := Option.map_eq_some_iff.1 hu
    obtain ⟨hj, rfl⟩ := List.getElem?_eq_some_iff.1 hy
    have e1 : u8s ((zs.take L.length).map Int.toNat) = u8s L := by
      rw [← hb]
      unfold Lib.bytesOf u8s
      rw [List.map_map]
      rfl
    have e2 := u8s_inj e1 (fun x hx => by
      obtain ⟨z, hz2, rfl⟩ := List.mem_map.1 hx
      have := h0 z (List.mem_of_mem_take hz2)
      omega) h256
    have e3 : L[j] = (zs.getD j 0).toNat := by
      have hjz : j < zs.length := by omega
      have e4 : ((zs.take L.length).map Int.toNat)[j]? = L[j]? := by rw [e2]
      rw [List.getElem?_map, List.getElem?_take, if_pos hj, List.getElem?_eq_getElem hjz, List.getElem?_eq_getElem hj, Option.map_some] at e4
      injection e4 with e4
      rw [← e4, List.getD_eq_getElem?_getD, List.getElem?_eq_getElem hjz]
      rfl
    have e5 : (⟨g, 0, none⟩ : Addr).add j = ⟨g, j, none⟩ := by rw [Lib.add_plain2]; simp
    rw [e5, hc j (by omega), e3]
    have hjz : j < zs.length := by omega
    have := h0 (zs.getD j 0) (by rw [List.getD_eq_getElem?_getD, List.getElem?_eq_getElem hjz]; exact List.getElem_mem _)
    unfold by8
    rw [Int.toNat_of_nonneg this.1]
theorem join_is (w : World) (A : Option Addr) (n c B : Nat) (O : List (List Nat)) (h : RowF w B (.slice A n c) O) (hn : O.length = n) (hok : FldOk O) (ht : tot O ≤ 3000) (h256 : ∀ b ∈ O, ∀ x ∈ b, x < 256) :
    Calls Try.prog 51 #[.slice A n c, .slice none 0 0] w fun e w' => ∃ A' c', e = .returned (.slice A' O.flatten.length c') ∧ O.flatten.length ≤ c' ∧ Bin w' A' O.flatten ∧ Frm No w w' := by
  have hfl : ∀ x ∈ O.flatten, x < 256 := fun x hx => by
    obtain ⟨b, hb, hx⟩ := List.mem_flatten.1 hx
    exact h256 b hb x hx
  have hbel : ∀ w', Below w.heap.size w w' → Frm No w w' := fun w' hb => ⟨hb.os, hb.tape, hb.output, hb.size, fun k hk _ => hb.block k hk⟩
  have hnc : n ≤ c := by
    obtain ⟨A1, c1, e, h1⟩ := h.out hn
    injection e with e1 e2 e3
    omega
  obtain ⟨ad, -, -, rfl, -, -, -, ead⟩ := h.at_ (i := 0) hok.1
  obtain ⟨g, hg⟩ : ∃ g, ad.block = g := ⟨_, rfl⟩
  rw [hg] at ead
  subst ead
  by_cases h1 : n = 1
  · subst h1
    obtain ⟨b, rfl⟩ : ∃ b, O = [b] := List.length_eq_one_iff.1 hn
    obtain ⟨ad, A2, c2, e, hc, hb, -, -⟩ := h.at_ (i := 0) (by simp)
    injection e with e
    subst e
    have hbl := hok.2.2 b (by simp)
    obtain ⟨A3, c3, e3, -, hbt⟩ := hb.out
    have hbb : ([b].getD 0 []) = b := rfl
    rw [hbb] at hc hb hbt e3
    injection e3 with e3 _ e4
    subst e3
    subst e4
    have hbin := hbt.bin
    obtain ⟨ad0, rfl, _, _⟩ := hbin.at_ (i := 0) (by omega)
    have hc0 : w.cell? ⟨g, 0, none⟩ = some (.slice (some ad0) (u8s b).length c2) := by rw [u8s_len]; exact hc
    have J := Any.bytes_Join_one joinLays g 0 c ad0 c2 (u8s b) (.slice none 0 0) w hc0 (fun i x hx => by
      obtain ⟨hi, hv⟩ := u8s_at (h256 b (by simp)) hx
      obtain ⟨ad, e2, _, hcc⟩ := hbin.at_ hi
      injection e2 with e2
      subst e2
      rw [hv]
      exact hcc) (by rw [u8s_len]; omega) (by rw [u8s_len]; omega)
    refine J.mono ?_
    rintro e w' ⟨v', rfl, hf, hbe⟩
    have efl : [b].flatten = b := by simp
    rw [efl] at hfl ⊢
    obtain ⟨A', c', rfl, hcc, hbn⟩ := fresh_bin hf hfl
    exact ⟨A', c', rfl, hcc, hbn, hbel _ hbe⟩
  · have hpart : Lib.PartsAt w ⟨g, 0, none⟩ ((List.range n).map fun i => (w.cell? ⟨g, i, none⟩).getD undef) (O.map u8s) := by
      have hat : ∀ i, i < n → ∃ A2 c2, w.cell? ⟨g, i, none⟩ = some (.slice A2 (O.getD i []).length c2) ∧ Bin w A2 (O.getD i []) := fun i hi => by
        obtain ⟨ad, A2, c2, e, hc, hb, -, -⟩ := h.at_ (i := i) (by omega)
        injection e with e
        subst e
        rw [Lib.add_plain2, Nat.zero_add] at hc
        obtain ⟨A3, c3, e3, -, hbt⟩ := hb.out
        injection e3 with e3 _ e4
        subst e3
        exact ⟨_, _, hc, hbt.bin⟩
      refine ⟨by simp [hn], fun i v hv => ?_, fun i v l hv hl => ?_⟩
      · rw [List.getElem?_map] at hv
        obtain ⟨y, hy, rfl⟩ := Option.map_eq_some_iff.1 hv
        obtain ⟨hi, rfl⟩ := List.getElem?_eq_some_iff.1 hy
        rw [List.length_range] at hi
        obtain ⟨A2, c2, hc, -⟩ := hat i hi
        rw [Lib.add_plain2, Nat.zero_add, List.getElem_range, hc]
        rfl
      · rw [List.getElem?_map] at hv
        obtain ⟨y, hy, rfl⟩ := Option.map_eq_some_iff.1 hv
        obtain ⟨hi, rfl⟩ := List.getElem?_eq_some_iff.1 hy
        rw [List.length_range] at hi
        obtain ⟨A2, c2, hc, hb⟩ := hat i hi
        rw [List.getElem_range, hc]
        rw [List.getElem?_map, List.getElem?_eq_getElem (by omega : i < O.length), Option.map_some] at hl
        injection hl with hl
        have e : O.getD i [] = O[i] := by rw [List.getD_eq_getElem?_getD, List.getElem?_eq_getElem (by omega : i < O.length)]; rfl
        rw [e] at hb ⊢
        subst hl
        exact holds_of hb rfl (h256 _ (List.getElem_mem _))
    have hS : Lib.HoldsBytes w (.slice none 0 0) [] := ⟨none, 0, rfl, fun _ => rfl, fun a e => by cases e⟩
    have J := Any.bytes_Join_many joinLays g 0 n c _ (O.map u8s) (.slice none 0 0) [] w (by rw [List.length_map, hn]) (by have := hok.1; omega) hpart hnc hS (by have := hok.2.1; omega) (by rw [lens_tot]; simp; omega)
    refine J.mono ?_
    rintro e w' ⟨v', rfl, hf, hbe⟩
    rw [join_flat] at hf
    obtain ⟨A', c', rfl, hcc, hbn⟩ := fresh_bin hf hfl
    exact ⟨A', c', rfl, hcc, hbn, hbel _ hbe⟩
end Go.Proofs.Ytccaaldfccgncaa.A

/- Points made of small numbers. -/
import Derived.Test.YthbgaglfgkmblaaRT
import Derived.IntWalk
namespace Go.Proofs.Ythbgaglfgkmblaa.A
open Go.RowKit Go.Proofs.Ythbgaglfgkmblaa.K Go.Proofs.Ythbgaglfgkmblaa.F Go.Proofs.Ythbgaglfgkmblaa.N
set_option linter.unusedVariables false
set_option linter.unusedSimpArgs false

def madeL (zs : List Int) (m : Nat) : List Pt := (List.range m).map fun k => (zs.getD (2 * k) 0, zs.getD (2 * k + 1) 0)
theorem madeL_succ (zs : List Int) (m : Nat) : madeL zs (m + 1) = madeL zs m ++ [(zs.getD (2 * m) 0, zs.getD (2 * m + 1) 0)] := by
  unfold madeL; rw [List.range_succ, List.map_append]; rfl
theorem madeL_len (zs : List Int) (m : Nat) : (madeL zs m).length = m := by unfold madeL; simp
theorem madeL_at (zs : List Int) (m i : Nat) (h : i < m) : (madeL zs m).getD i (0, 0) = (zs.getD (2 * i) 0, zs.getD (2 * i + 1) 0) := by
  unfold madeL
  rw [List.getD_eq_getElem?_getD, List.getElem?_map, List.getElem?_range h]; rfl
theorem i8_getD {zs : List Int} (h : ∀ z ∈ zs, (Lit.int .i8 z).wf = true) (i : Nat) : -128 ≤ zs.getD i 0 ∧ zs.getD i 0 ≤ 127 := by
  rw [List.getD_eq_getElem?_getD]
  by_cases hi : i < zs.length
  · rw [List.getElem?_eq_getElem hi]; exact i8_of (h _ (List.getElem_mem _))
  · rw [List.getElem?_eq_none (by omega)]; exact ⟨by decide, by decide⟩
theorem madeL_low {zs : List Int} (h : ∀ z ∈ zs, (Lit.int .i8 z).wf = true) (m : Nat) : Low (madeL zs m) := fun p hp => by
  unfold madeL at hp
  obtain ⟨k, _, rfl⟩ := List.mem_map.1 hp
  have h1 := i8_getD h (2 * k)
  have h2 := i8_getD h (2 * k + 1)
  simp only; omega
theorem low_sml {L : List Pt} (h : Low L) : Sml L := fun p hp => by have := h p hp; omega

set_option maxRecDepth 100000 in
set_option maxHeartbeats 2000000 in
theorem made_ok (w : World) (A : Option Addr) (n c : Nat) (zs : List Int) (hI : Ints w .i8 A n zs) (hn : n ≤ 100000) : Calls Try.prog 13 #[.slice A n c] w (HandC w (madeL zs (n / 2))) := by
  obtain ⟨i0, hi, hz0, hz1, hz2⟩ := info_parts info34
  have II := Lib.hid hI
  clear hI
  go_enter Try.func13, Try.ntmps13
  go_wp2_with fail
  go_loopw [3, 4] (fun vo vi wr => ∃ j u : Nat, u = 2 * j ∧ vi = .int .i64 u ∧ j ≤ n / 2 ∧ RowC wr w.heap.size vo (madeL zs j) ∧ Frm No w wr) (fun _ vi _ => n - (intOf vi).toNat)
  case atStart => exact ⟨0, 0, rfl, rfl, by omega, World.ownsRow_nil _ _ _ _, Frm.refl _ _⟩
  case round =>
    obtain ⟨j, u, hu, rfl, hjn, hR, hF⟩ := hrel
    have u0 : (0 : Int) ≤ (u : Int) := Int.natCast_nonneg _
    have un : (u : Int) ≤ 100000 := by omega
    by_cases hlt : u + 1 < n
    · have I2 := Ints.frmN II.out hF
      obtain ⟨ad, rfl, -, k1, w1⟩ := I2.at_ (j := u) (by omega)
      obtain ⟨ad', e, -, k2, w2⟩ := I2.at_ (j := u + 1) hlt
      obtain rfl : ad = ad' := by injection e
      have hsc := madeL_succ zs j
      have hlen := madeL_len zs j
      rw [← hu] at hsc
      obtain ⟨x, hx⟩ : ∃ x, zs.getD u 0 = x := ⟨_, rfl⟩
      obtain ⟨y, hy⟩ : ∃ y, zs.getD (u + 1) 0 = y := ⟨_, rfl⟩
      rw [hx] at k1 hsc
      rw [hy] at k2 hsc
      have k2' : wr.cell? ⟨ad.block, ad.off + (u + 1), none⟩ = some (.int .i8 y) := by
        rw [← k2]; congr 1
      obtain ⟨R0, hRE⟩ : ∃ R0, madeL zs j = R0 := ⟨_, rfl⟩
      rw [hRE] at hR hlen hsc
      have HSC := Lib.hid hsc
      have hR0 := hR
      unfold RowC at hR0
      have hsz := hF.size
      have hl2 : R0.length ≤ 100000 := by omega
      have i1 : (u : Int) + 1 < (n : Int) := by omega
      have i2 : (u : Int) < (n : Int) := by omega
      have i3 : IntKind.i64.wrap ((u : Int) + 1) = (u : Int) + 1 := IntWalk.i64_in _ ⟨by omega, by omega⟩
      have i4 : (0 : Int) ≤ (u : Int) + 1 := by omega
      have i5 : ((u : Int) + 1).toNat = u + 1 := by omega
      have HU := Lib.hid (And.intro hu (And.intro hlt hjn))
      have hju : j + 1 ≤ n / 2 := by omega
      clear I2 w1 w2 e hsc hRE hlen hx hy hu hlt
      go_wp2_with fail
      go_region_law
        ((refine step_append_lies _ (by rfl) _ _ _ (by rfl) w.heap.size 34 i0 _ 1 16 Try.underlying25 hi hz0 hz1 hz2 rfl (by clear i5 i3; omega) _ R0.length (R0.map cx) (by rfl) ((hR0.alloc _).drew)
            ⟨wr.heap.size, 0, none⟩ 1 1 [.complex .f64 (floatOfInt .f64 x) (floatOfInt .f64 y)] (by rfl) (by rfl) (World.news_of_block (cs := #[.complex .f64 (floatOfInt .f64 x) (floatOfInt .f64 y)]) (t := 34) (fr := (0, 0)) (heap_alloc_new wr _)) (by simp [Value.oneCell']) (by clear i5 i3; omega) (by unfold maxLen; clear i5 i3; omega) (by clear i5 i3; omega) (by simp; clear i5 i3; omega) (wr.heap.size + 1) (by simp) ?_; intro gg cap w3 hown1 hgrow hat hlt3))
      all_goals
        clear i3 i5
        go_wp2_with fail
        go_roundw
        case rel =>
          obtain ⟨r1, r2⟩ := rowC_push (o := .cells #[.complex .f64 (FI x) (FI y)] 34) (p := (x, y)) hR hF (by exact hown1) ⟨hgrow.os, hgrow.tape, hgrow.output, hgrow.size, hgrow.block⟩
          exact ⟨j + 1, u + 2, by have := HU.out.1; omega, by go_num, hju, by rw [HSC.out]; exact r1, r2⟩
        case measure => simp [intOf]; omega
    · have i1 : ¬ (u : Int) + 1 < (n : Int) := by omega
      have hj2 : j = n / 2 := by omega
      go_wp2_with fail
      go_ret
      exact ⟨_, rfl, by rw [hj2] at hR; exact hR, hF⟩
end Go.Proofs.Ythbgaglfgkmblaa.A

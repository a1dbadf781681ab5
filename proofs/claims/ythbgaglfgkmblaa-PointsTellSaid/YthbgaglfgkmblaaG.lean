/- Bytes as strings; points made of small numbers; the fixed calls. -/
import Derived.Test.YthbgaglfgkmblaaE
import Derived.Laws.BytesString
namespace Go.Proofs.Ythbgaglfgkmblaa.A
open Go.RowKit Go.Proofs.Ythbgaglfgkmblaa.K Go.Proofs.Ythbgaglfgkmblaa.F Go.Proofs.Ythbgaglfgkmblaa.N
set_option linter.unusedVariables false
set_option linter.unusedSimpArgs false

/-- The text of bytes. -/
def bytesS (l : List Nat) : ByteArray := (l.map fun (n : Nat) => (n : Int)).foldl (fun r n => r.push (UInt8.ofNat n.toNat)) ByteArray.empty

theorem string_is {w : World} {A : Option Addr} {n c : Nat} (l : List Nat) (hl : l.length = n) (h : ∀ j, j < n → ∃ ad, A = some ad ∧ w.cell? (ad.add j) = some (by8 (l.getD j 0))) :
    (convert 22 9 (.slice A n c)).run Try.prog w = .ok (.string (bytesS l)) w := by
  rw [run_convert_bytes_string w 22 9 5 A n c Try.underlying22 Try.underlying5 Try.underlying9]
  cases A with
  | none =>
    have : n = 0 := by
      rcases Nat.eq_zero_or_pos n with h0 | h0
      · exact h0
      · obtain ⟨ad, e, _⟩ := h 0 h0; cases e
    subst this
    have : l = [] := List.eq_nil_of_length_eq_zero hl
    subst this
    rfl
  | some a =>
    have hc := run_loadCells_list (P := Try.prog) w a ((l.map fun (n : Nat) => (n : Int)).map (Value.int .u8)) (fun j v hv => by
      rw [List.map_map, List.getElem?_map] at hv
      cases hj : l[j]? with
      | none => rw [hj] at hv; cases hv
      | some x =>
        rw [hj] at hv
        simp only [Option.map_some, Option.some.injEq] at hv
        have hjl := (List.getElem?_eq_some_iff.1 hj).1
        obtain ⟨ad, e, hcell⟩ := h j (by omega)
        injection e with e
        subst e
        rw [hcell, ← hv, List.getD_eq_getElem?_getD, hj]
        rfl)
    rw [List.length_map, List.length_map, hl] at hc
    exact run_bytesToString w a n c _ hc

def RdB (w : World) (A : Option Addr) (L : List Nat) : Prop := ∀ j, j < L.length → ∃ ad, A = some ad ∧ (∃ cs, Blk w ad.block cs 5) ∧ w.cell? (ad.add j) = some (by8 (L.getD j 0))
theorem rdB_of {w : World} {B : Nat} {v : Value} {L : List Nat} (h : RowB w B v L) : ∃ A c, v = .slice A L.length c ∧ RdB w A L := by
  rcases h.2 with ⟨rfl, h0⟩ | ⟨g, cap, cur, rfl, hg, hh, h1, h2, h3⟩
  · have hL : L = [] := by simpa using h0
    subst hL
    exact ⟨none, 0, rfl, fun j hj => absurd hj (by simp)⟩
  · refine ⟨_, cap, rfl, fun j hj => ⟨_, rfl, ⟨cur, hh⟩, ?_⟩⟩
    refine World.ownsRow.cells h (g := g) rfl j _ ?_
    simp [List.getElem?_eq_getElem hj, List.getD_eq_getElem?_getD]
theorem RdB.frm {w w' : World} {S : Nat → Prop} {A : Option Addr} {L : List Nat} (h : RdB w A L) (f : Frm S w w') (hS : ∀ k cs, Blk w k cs 5 → ¬ S k) : RdB w' A L := fun j hj => by
  obtain ⟨ad, e, ⟨cs, hb⟩, hc⟩ := h j hj
  refine ⟨ad, e, ⟨cs, f.blk hb (hS _ _ hb)⟩, ?_⟩
  exact (World.cell?_of_block (f.block _ (by rw [block_add]; exact hb.lt) (by rw [block_add]; exact hS _ _ hb))).trans hc
theorem RdB.frmN {w w' : World} {A : Option Addr} {L : List Nat} (h : RdB w A L) (f : Frm No w w') : RdB w' A L := h.frm f (fun _ _ _ h => h)
theorem RdB.str {w : World} {A : Option Addr} {L : List Nat} {n c : Nat} (h : RdB w A L) (hn : L.length = n) : (convert 22 9 (.slice A n c)).run Try.prog w = .ok (.string (bytesS L)) w :=
  string_is L hn (fun j hj => by
    obtain ⟨ad, e, _, hc⟩ := h j (by omega)
    exact ⟨ad, e, hc⟩)
/-- A slice of bytes that came in, as a text. -/
theorem ints_str {w : World} {A : Option Addr} {n c : Nat} {zs : List Int} (h : Ints w .u8 A n zs) : (convert 22 9 (.slice A n c)).run Try.prog w = .ok (.string (bytesS (zs.map Int.toNat))) w :=
  string_is _ (by rw [List.length_map]; exact h.1) (fun j hj => by
    obtain ⟨ad, e, _, hc, hw⟩ := h.at_ hj
    refine ⟨ad, e, ?_⟩
    rw [hc]
    have h0 := (u8_of hw).1
    unfold by8
    have hjl : j < zs.length := by rw [h.1]; exact hj
    rw [List.getD_eq_getElem?_getD, List.getElem?_eq_getElem hjl] at h0 ⊢
    rw [List.getD_eq_getElem?_getD, List.getElem?_map, List.getElem?_eq_getElem hjl]
    simp only [Option.getD_some, Option.map_some] at h0 ⊢
    rw [Int.toNat_of_nonneg h0])
theorem Ints.frmN {w w' : World} {k : IntKind} {A : Option Addr} {n : Nat} {zs : List Int} (h : Ints w k A n zs) (f : Frm No w w') : Ints w' k A n zs := by
  obtain ⟨h1, h2, h3, h4⟩ := h
  refine ⟨h1, h2, h3, fun hn => ?_⟩
  obtain ⟨ad, e, hb, hc⟩ := h4 hn
  exact ⟨ad, e, Nat.lt_of_lt_of_le hb f.size, fun j hj => (World.cell?_of_block (f.block _ (by rw [block_add]; exact hb) (fun h => h))).trans (hc j hj)⟩

theorem FI_3 : FI 3 = 4613937818241073152 ∧ FI (-2) = 13835058055282163712 := by decide

set_option maxRecDepth 100000 in
set_option maxHeartbeats 4000000 in
theorem alive_yes (w : World) : Calls Try.prog 7 #[] w fun e w' => e = .returned (.bool true) ∧ Frm No w w' := by
  have hI : Ints (w.alloc (.cells #[.int .u8 27] 5)) .u8 (some ⟨w.heap.size, 0, none⟩) 1 [27] := by
    refine ⟨rfl, by omega, by decide, fun _ => ⟨_, rfl, by simp, fun j hj => ?_⟩⟩
    have : j = 0 := by omega
    subst this
    exact (Blk.new w #[.int .u8 27] 5).cell 0
  have F0 := (Frm.refl No w).alloc (.cells #[.int .u8 27] 5)
  have hof : ofL ([27].map Int.toNat) = [(1, 1), (1, -1), (-1, 1), (-1, -1)] := by decide
  have hob : outB [(1, 1), (1, -1), (-1, 1), (-1, -1)] = [27] := by decide
  have hok : okB [(1, 1), (1, -1), (-1, 1), (-1, -1)] = true := by decide
  have hsm : Sml [(1, 1), (1, -1), (-1, 1), (-1, -1)] := by unfold Sml; decide
  have hlow : Low [(1, 1), (1, -1), (-1, 1), (-1, -1)] := by unfold Low; decide
  have hln : lenN [(1, 1), (1, -1), (-1, 1), (-1, -1)] 4 = 8 := by decide
  have hs0 : bytesS [27] = ⟨#[27]⟩ := by decide
  go_enter Try.func7, Try.ntmps7
  go_wp2_with fail
  refine (of_ok _ _ 1 _ [27] hI (by omega)).mono ?_
  rintro e w1 ⟨v1, rfl, r1, f1⟩
  rw [hof] at r1
  obtain ⟨A1, c1, rfl, d1⟩ := rdC_of r1
  have F1 := F0.thenN f1
  clear hI F0 r1 f1 hof
  go_wp2_with fail
  refine (back_ok _ _ 4 _ _ rfl (by omega) d1 hsm).mono ?_
  rintro e w2 ⟨v2, rfl, r2, f2⟩
  rw [hob] at r2
  rw [if_pos hok]
  obtain ⟨A2, c2, rfl, d2⟩ := rdB_of r2
  have d1' := d1.frmN f2
  have F2 := F1.thenN f2
  clear d1 F1 r2 f2 hob hok
  go_wp2_with fail
  refine (length_ok _ _ 4 _ _ rfl (by omega) d1' hlow).mono ?_
  rintro e w3 ⟨rfl, f3⟩
  rw [hln]
  have d1'' := d1'.frmN f3
  have d2' := d2.frmN f3
  have F3 := F2.thenN f3
  clear d1' d2 F2 f3 hln
  obtain ⟨ad, rfl, -, -⟩ := d1'' 0 (by decide)
  have hoo : (FloatKind.f64.format.order 4607182418800017408 4607182418800017408 == some .eq) = true := by decide +kernel
  have hnn : (FloatKind.f64.format.order 13830554455654793216 13830554455654793216 == some .eq) = true := by decide +kernel
  have hnear : ∀ w, Calls Try.prog 14 #[.complex .f64 4613937818241073152 13835058055282163712] w fun e w' => e = .returned (.complex .f64 4607182418800017408 13830554455654793216) ∧ w' = w := fun w => by
    have := near_is 3 (-2) w (by decide) (by decide)
    rw [FI_3.1, FI_3.2, show sg 3 = 1 from rfl, show sg (-2) = -1 from rfl, FI_one, FI_neg] at this
    exact this
  go_wp2_with fail
  refine (back_ok _ _ 0 _ [] rfl (by omega) (fun j hj => absurd hj (by simp)) (fun p hp => by cases hp)).mono ?_
  rintro e w4 ⟨v4, rfl, r4, f4⟩
  rw [show (if okB [] = true then (0 : Int) else 3) = 0 from rfl]
  have d3 := d1''.frmN f4
  have d4 := d2'.frmN f4
  have hst := d4.str (n := 1) (c := c2) rfl
  rw [hs0] at hst
  have F4 := F3.thenN f4
  obtain ⟨ad', e0, -, k0⟩ := d3 0 (by decide)
  obtain rfl : ad = ad' := by injection e0
  obtain ⟨ad', e0, -, k1⟩ := d3 1 (by decide)
  obtain rfl : ad = ad' := by injection e0
  obtain ⟨ad', e0, -, k2⟩ := d3 2 (by decide)
  obtain rfl : ad = ad' := by injection e0
  obtain ⟨ad', e0, -, k3⟩ := d3 3 (by decide)
  obtain rfl : ad = ad' := by injection e0
  have k0' : w4.cell? ad = some (.complex .f64 4607182418800017408 4607182418800017408) := by
    have : ad.add 0 = ad := rfl
    rw [← FI_one, ← this]; exact k0
  have k1' : w4.cell? ⟨ad.block, ad.off + 1, none⟩ = some (.complex .f64 4607182418800017408 13830554455654793216) := by rw [← FI_one, ← FI_neg]; exact k1
  have k2' : w4.cell? ⟨ad.block, ad.off + 2, none⟩ = some (.complex .f64 13830554455654793216 4607182418800017408) := by rw [← FI_one, ← FI_neg]; exact k2
  have k3' : w4.cell? ⟨ad.block, ad.off + 3, none⟩ = some (.complex .f64 13830554455654793216 13830554455654793216) := by rw [← FI_neg]; exact k3
  clear k0 k1 k2 k3 d1'' d2' F3 r4 f4 d3 d4
  go_wp2_with fail
  refine (hnear _).mono ?_
  rintro e w5 ⟨rfl, rfl⟩
  go_wp2_with fail
  go_ret
  exact ⟨rfl, F4⟩
end Go.Proofs.Ythbgaglfgkmblaa.A

/- Whether points may come; what is heard of points. -/
import Derived.Test.YtcdjofneijlbgaaCE
namespace Go.Proofs.Ytcdjofneijlbgaa.A
open Go.RowKit Go.Proofs.Ytcdjofneijlbgaa.K Go.Proofs.Ytcdjofneijlbgaa.F Go.Proofs.Ytcdjofneijlbgaa.N
set_option linter.unusedVariables false
set_option linter.unusedSimpArgs false

theorem po_lt (L : List Pt) : ∀ i, ∀ c ∈ po L i, c < 256
  | 0, c, h => by simp [po] at h
  | i + 1, c, h => by
    unfold po at h
    split at h
    · rcases List.mem_append.1 h with h | h
      · exact po_lt L i c h
      · have h1 := pv_64 L i
        have h2 := bit2_lt (L.getD i (0, 0))
        simp at h
        simp at h2
        omega
    · exact po_lt L i c h
theorem outB_lt (L : List Pt) : ∀ c ∈ outB L, c < 256 := fun c h => by
  unfold outB at h
  split at h
  · exact po_lt _ _ _ h
  · simp at h
theorem outB_len (L : List Pt) : (outB L).length ≤ L.length / 4 := by
  unfold outB
  split
  · rw [po_len]; exact Nat.le_refl _
  · simp
/-- Points that may come. -/
def Whole (L : List Pt) : Prop := L.length ≤ 16392 ∧ Low L
set_option maxRecDepth 100000 in
set_option maxHeartbeats 2000000 in
theorem whole_is2 (w : World) (A : Option Addr) (n c : Nat) (L : List Pt) (h : RdC w A L) (hn : L.length = n) (hn9 : n ≤ 100000) (hs : Sml L) : Calls Try.prog 19 #[.slice A n c] w fun e w' => ((Whole L ∧ e = .returned (.bool true)) ∨ (¬ Whole L ∧ e = .returned (.bool false))) ∧ Frm No w w' := by
  have hl := length_any w A n c L hn hn9 h hs
  have hW : Whole L ↔ n ≤ 16392 ∧ Low L := by unfold Whole; rw [hn]
  have HV := Lib.hid hW
  obtain ⟨T, hT⟩ : ∃ T, lenN L n = T := ⟨_, rfl⟩
  rw [hT] at hl
  have HW := Lib.hid hl
  clear h hn hs hl hW hT
  go_enter Try.func19, Try.ntmps19
  go_wp2_with fail
  refine HW.out.mono ?_
  rintro e w1 ⟨hh, F⟩
  rcases hh with ⟨hlow, rfl⟩ | ⟨hlow, rfl⟩
  · have HL := Lib.hid hlow
    clear hlow
    by_cases h1 : n ≤ 16392
    · have i1 : (n : Int) ≤ 16392 := by omega
      go_wp2_with fail
      go_ret
      exact ⟨.inl ⟨HV.out.2 ⟨h1, HL.out⟩, rfl⟩, F⟩
    · have i1 : ¬ (n : Int) ≤ 16392 := by omega
      go_wp2_with fail
      go_ret
      exact ⟨.inr ⟨fun h => h1 (HV.out.1 h).1, rfl⟩, F⟩
  · have HL := Lib.hid hlow
    clear hlow
    by_cases h1 : n ≤ 16392
    · have i1 : (n : Int) ≤ 16392 := by omega
      go_wp2_with fail
      go_ret
      exact ⟨.inr ⟨fun h => HL.out (HV.out.1 h).2, rfl⟩, F⟩
    · have i1 : ¬ (n : Int) ≤ 16392 := by omega
      go_wp2_with fail
      go_ret
      exact ⟨.inr ⟨fun h => h1 (HV.out.1 h).1, rfl⟩, F⟩
theorem new_rds (w : World) (bv : Value) (t : TypeId) : Rds (w.alloc (.cells #[bv] t)) 1 (some ⟨w.heap.size, 0, none⟩) 1 [bv] := by
  have hb : Blk (w.alloc (.cells #[bv] t)) w.heap.size #[bv] t := Blk.new w #[bv] t
  refine ⟨rfl, fun _ => ⟨_, rfl, hb.lt, fun j u hu => ?_⟩⟩
  have ea : (⟨w.heap.size, 0, none⟩ : Addr).add j = ⟨w.heap.size, j, none⟩ := by unfold Addr.add; by_cases h0 : j = 0 <;> simp [h0]
  rw [ea, hb.cell, List.getElem?_toArray]
  exact hu
/-- What is heard of points. -/
def hearN (L : List Pt) : List Pt := L.map nearp
def hearT (L : List Pt) : Bool := decide (okB (hearN L) = true ∧ opE (outB (hearN L)) = 0)
def hearB (L : List Pt) : List Nat := if okB (hearN L) = true then opL (outB (hearN L)) else []
theorem near_sml (L : List Pt) : Sml (hearN L) := fun p hp => by
  unfold hearN at hp
  obtain ⟨q, hq, rfl⟩ := List.mem_map.1 hp
  have h : ∀ n : Int, (sg n).natAbs ≤ 1 := fun n => by unfold sg; split <;> decide
  have h1 := h q.1
  have h2 := h q.2
  exact ⟨by show (sg q.1).natAbs ≤ _; omega, by show (sg q.2).natAbs ≤ _; omega⟩
set_option maxRecDepth 100000 in
set_option maxHeartbeats 4000000 in
theorem hear_is (w : World) (A : Option Addr) (n c : Nat) (L : List Pt) (h : RdC w A L) (hn : L.length = n) (hn9 : n ≤ 100000) (hs : Sml L) : Calls Try.prog 22 #[.slice A n c] w fun e w' => ∃ v, e = .returned (.tuple #[v, .bool (hearT L)]) ∧ RowB w' w.heap.size v (hearB L) ∧ Frm No w w' := by
  obtain ⟨i0, hi, hz0, hz1, hz2⟩ := info_parts info34
  obtain ⟨T, hT⟩ : ∃ T, hearT L = T := ⟨_, rfl⟩
  obtain ⟨O, hO⟩ : ∃ O, hearB L = O := ⟨_, rfl⟩
  rw [hT, hO]
  have H := Lib.hid (And.intro h (And.intro hn (And.intro hs (And.intro hT hO))))
  clear h hn hs hT hO
  go_enter Try.func22, Try.ntmps22
  go_wp2_with fail
  go_loopw [4, 12] (fun vo vi wr => ∃ i : Nat, vi = .int .i64 i ∧ i ≤ n ∧ wr.ownsRow w.heap.size 61 1 vo i (((hearN L).take i).map cx) ∧ Frm No w wr) (fun _ vi _ => n - (intOf vi).toNat)
  case atStart => exact ⟨0, rfl, by omega, by rw [List.take_zero]; exact World.ownsRow_nil _ _ _ _, Frm.refl _ _⟩
  case round =>
    obtain ⟨j, rfl, hj, own, F⟩ := hrel
    by_cases hjn : j < n
    · have j1 : (j : Int) < (n : Int) := by omega
      have j0 : (0 : Int) ≤ (j : Int) := by omega
      obtain ⟨ad, rfl, -, hc⟩ := (H.out.1.frmN F) j (by rw [H.out.2.1]; exact hjn)
      obtain ⟨b1, b2⟩ := sml_at H.out.2.2.1 (i := j) (by rw [H.out.2.1]; exact hjn)
      have htk : (hearN L).take (j + 1) = (hearN L).take j ++ [nearp (L.getD j (0, 0))] := by
        have hl : j < (hearN L).length := by unfold hearN; rw [List.length_map, H.out.2.1]; exact hjn
        rw [take_one (0, 0) hl]
        congr 1
        unfold hearN
        rw [List.getD_eq_getElem?_getD, List.getElem?_map, List.getD_eq_getElem?_getD, List.getElem?_eq_getElem (by rw [H.out.2.1]; exact hjn)]; rfl
      obtain ⟨⟨x, y⟩, hxy⟩ : ∃ p, L.getD j (0, 0) = p := ⟨_, rfl⟩
      rw [hxy] at hc b1 b2 htk
      have hc' : wr.cell? (ad.add j) = some (.complex .f64 (FI x) (FI y)) := hc
      have hne := near_is x y wr (by simp only at b1; omega) (by simp only at b2; omega)
      obtain ⟨s1, hs1⟩ : ∃ s, sg x = s := ⟨_, rfl⟩
      obtain ⟨s2, hs2⟩ : ∃ s, sg y = s := ⟨_, rfl⟩
      have hnp : nearp (x, y) = (s1, s2) := by unfold nearp; rw [hs1, hs2]
      rw [hnp] at htk
      rw [hs1, hs2] at hne
      obtain ⟨R, hR⟩ : ∃ R, ((hearN L).take j).map cx = R := ⟨_, rfl⟩
      have htk2 : ((hearN L).take (j + 1)).map cx = R ++ [.complex .f64 (FI s1) (FI s2)] := by rw [htk, List.map_append, hR]; rfl
      rw [hR] at own
      have own1 := own.alloc (.cells #[.complex .f64 (FI s1) (FI s2)] 61)
      have hrd := new_rds wr (.complex .f64 (FI s1) (FI s2)) 61
      have F1 := F.alloc (.cells #[.complex .f64 (FI s1) (FI s2)] 61)
      have hsz : w.heap.size ≤ (wr.alloc (.cells #[.complex .f64 (FI s1) (FI s2)] 61)).heap.size := F1.size
      obtain ⟨A5, c5, rfl, -, -⟩ := own_is own
      have HTK := Lib.hid htk2
      clear own htk htk2 hR hxy hc b1 b2 hs1 hs2 hnp
      go_wp2_with fail
      refine hne.mono ?_
      rintro e w2 ⟨rfl, rfl⟩
      go_wp2_with (at_builtin; go_must (refine wpList_append_rds _ rfl _ _ 38 rfl w.heap.size 61 i0 _ 1 16 Try.underlying38 hi hz0 hz1 hz2 rfl (by omega) (.slice A5 j c5) j R rfl own1 (some ⟨w2.heap.size, 0, none⟩) 1 1 [.complex .f64 (FI s1) (FI s2)] rfl hrd (by simp [Value.oneCell']) (by unfold maxLen; omega) (by omega) hsz ?_; intro v3 w3 own3 hg3))
      have F3 := own_grown own1 F1 (Nat.le_refl _) hg3
      go_wp2_with fail
      go_roundw
      case rel => exact ⟨j + 1, by go_num, by omega, by rw [HTK.out]; exact own3, F3⟩
      case measure => simp [intOf]; omega
    · have j1 : ¬ (j : Int) < (n : Int) := by omega
      have hjn2 : j = n := by omega
      subst hjn2
      have hll : (hearN L).length = j := by unfold hearN; rw [List.length_map, H.out.2.1]
      rw [List.take_of_length_le (by omega)] at own
      have hrow : RowC wr w.heap.size (.slice none 0 0) [] := World.ownsRow_nil _ _ _ _
      obtain ⟨A5, c5, rfl, -, -⟩ := own_is own
      have R5 : RowC wr w.heap.size (.slice A5 j c5) (hearN L) := by unfold RowC; rw [hll]; exact own
      obtain ⟨A6, c6, e6, hrd⟩ := rdC_of R5
      injection e6 with e61 e62 e63
      subst e61
      clear e62 e63
      have hbk := back_ok wr A5 j c5 (hearN L) hll hn9 hrd (near_sml L)
      have hol := outB_len (hearN L)
      rw [hll] at hol
      have hT2 : T = decide (okB (hearN L) = true ∧ opE (outB (hearN L)) = 0) := H.out.2.2.2.1.symm
      have hO2 : O = if okB (hearN L) = true then opL (outB (hearN L)) else [] := H.out.2.2.2.2.symm
      have hlt := outB_lt (hearN L)
      obtain ⟨X, hX⟩ : ∃ X, outB (hearN L) = X := ⟨_, rfl⟩
      obtain ⟨K, hK⟩ : ∃ K, okB (hearN L) = K := ⟨_, rfl⟩
      rw [hX, hK] at hbk hT2 hO2
      rw [hX] at hol hlt
      cases K with
      | true =>
        rw [if_pos rfl] at hbk
        rw [if_pos rfl] at hO2
        have HT := Lib.hid (And.intro hT2 (And.intro hO2 hlt))
        obtain ⟨m, hm⟩ : ∃ m, X.length = m := ⟨_, rfl⟩
        have HM := Lib.hid hm
        rw [hm] at hol
        clear hrow own R5 hrd hX hK hT2 hO2 hlt hm hll
        go_wp2_with fail
        refine hbk.mono ?_
        rintro e w2 ⟨v2, rfl, R2, F2⟩
        obtain ⟨A2, c2, rfl, hb2⟩ := Bin.of_row R2
        have hc2 : X.length ≤ c2 := by
          obtain ⟨_, _, e9, h9, -⟩ := own_is R2
          injection e9 with _ _ e93
          omega
        rw [HM.out]
        have hop := open_is w2 A2 m c2 X hb2 HM.out (by rw [← HM.out]; exact hc2) HT.out.2.2 (by omega)
        obtain ⟨E, hE⟩ : ∃ E, opE X = E := ⟨_, rfl⟩
        rw [hE] at hop
        have HE := Lib.hid hE
        clear hbk R2 hb2 hc2 hE
        go_wp2_with fail
        refine hop.mono ?_
        rintro e w3 ⟨v3, rfl, R3, F3⟩
        by_cases hE0 : E = 0
        · subst hE0
          clear hop
          go_wp2_with fail
          go_ret2
          refine ⟨v3, ?_, ?_, (F.thenN F2).thenN F3⟩
          · rw [HT.out.1, decide_eq_true ⟨by first | rfl | trivial, HE.out⟩]; rfl
          · rw [HT.out.2.1]; exact own_lower R3 (by have := (F.thenN F2).size; omega)
        · have hb : (E == 0) = false := by simpa using hE0
          clear hop
          go_wp2_with fail
          go_ret2
          refine ⟨v3, ?_, ?_, (F.thenN F2).thenN F3⟩
          · rw [HT.out.1, decide_eq_false (fun h => hE0 (by rw [← HE.out]; exact h.2))]; rfl
          · rw [HT.out.2.1]; exact own_lower R3 (by have := (F.thenN F2).size; omega)
      | false =>
        rw [if_neg (by decide)] at hbk
        rw [if_neg (by decide)] at hO2
        have HT := Lib.hid (And.intro hT2 hO2)
        clear hrow own R5 hrd hX hK hT2 hO2 hlt hll
        go_wp2_with fail
        refine hbk.mono ?_
        rintro e w2 ⟨v2, rfl, R2, F2⟩
        clear hbk R2
        go_wp2_with fail
        go_ret2
        refine ⟨.slice none 0 0, ?_, ?_, F.thenN F2⟩
        · rw [HT.out.1, decide_eq_false (fun h => by have := h.1; simp at this)]; rfl
        · rw [HT.out.2]; exact World.ownsRow_nil _ _ _ _
end Go.Proofs.Ytcdjofneijlbgaa.A

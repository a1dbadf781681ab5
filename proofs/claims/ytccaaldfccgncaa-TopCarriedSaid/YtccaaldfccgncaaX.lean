/- Spaces; how long a packet is. -/
import Derived.Test.YtccaaldfccgncaaLR
namespace Go.Proofs.Ytccaaldfccgncaa.A
open Go.RowKit Go.Proofs.Ytccaaldfccgncaa.K
set_option linter.unusedVariables false
set_option linter.unusedSimpArgs false

theorem space_right (w : World) (b : Int) (h : b = 5 ∨ b = 10) : Calls Try.prog 92 #[.agg #[.int .i64 b]] w fun e w' => e = .returned (.bool true) ∧ Frm No w w' := by
  rcases h with rfl | rfl
  · go_enter Try.func92, Try.ntmps92
    go_wp2_with fail
    go_ret
    exact ⟨rfl, (Frm.refl No w).alloc _⟩
  · go_enter Try.func92, Try.ntmps92
    go_wp2_with fail
    go_ret
    exact ⟨rfl, (Frm.refl No w).alloc _⟩
theorem space_size (w : World) (b : Int) (h : b = 5 ∨ b = 10) : Calls Try.prog 89 #[.agg #[.int .i64 b]] w fun e w' => (∃ m : Int, e = .returned (.int .i64 m) ∧ 32 ≤ m) ∧ Frm No w w' := by
  have F0 := (Frm.refl No w).alloc (.cells #[.int .i64 b] 140)
  have B0 := Blk.new w #[.int .i64 b] 140
  obtain ⟨w0, hw0⟩ : ∃ w0, w.alloc (.cells #[.int .i64 b] 140) = w0 := ⟨_, rfl⟩
  obtain ⟨g, hg⟩ : ∃ g, w.heap.size = g := ⟨_, rfl⟩
  rw [hw0] at F0 B0
  rw [hg] at B0
  have hr := space_right w0 b h
  have k0 : w0.cell? ⟨g, 0, none⟩ = some (.int .i64 b) := B0.cell 0
  have H := Lib.hid (And.intro F0 B0)
  clear F0 B0
  rcases h with rfl | rfl
  · go_enter Try.func89, Try.ntmps89
    go_wp2_with fail
    refine hr.mono ?_
    rintro e w1 ⟨rfl, F1⟩
    have k1 : w1.cell? ⟨g, 0, none⟩ = some (.int .i64 5) := (F1.blk H.out.2 (fun h => h)).cell 0
    have H1 := Lib.hid F1
    clear F1 k0
    go_wp2_with fail
    go_ret
    exact ⟨⟨_, rfl, by decide⟩, H.out.1.thenN H1.out⟩
  · go_enter Try.func89, Try.ntmps89
    go_wp2_with fail
    refine hr.mono ?_
    rintro e w1 ⟨rfl, F1⟩
    have k1 : w1.cell? ⟨g, 0, none⟩ = some (.int .i64 10) := (F1.blk H.out.2 (fun h => h)).cell 0
    have H1 := Lib.hid F1
    clear F1 k0
    go_wp2_with fail
    go_ret
    exact ⟨⟨_, rfl, by decide⟩, H.out.1.thenN H1.out⟩
theorem space_is (w : World) (b : Int) (sn : Nat) (h : b = 5 ∨ b = 10) (hs : sn ≤ 31) : Calls Try.prog 81 #[.agg #[.int .i64 b], .int .i64 sn] w fun e w' => e = .returned (.bool true) ∧ Frm No w w' := by
  have F0 := (Frm.refl No w).alloc (.cells #[.int .i64 b] 140)
  have B0 := Blk.new w #[.int .i64 b] 140
  obtain ⟨w0, hw0⟩ : ∃ w0, w.alloc (.cells #[.int .i64 b] 140) = w0 := ⟨_, rfl⟩
  obtain ⟨g, hg⟩ : ∃ g, w.heap.size = g := ⟨_, rfl⟩
  rw [hw0] at F0 B0
  rw [hg] at B0
  have hr := space_size w0 b h
  have k0 : w0.cell? ⟨g, 0, none⟩ = some (.int .i64 b) := B0.cell 0
  have s0 : (0 : Int) ≤ (sn : Int) := Int.natCast_nonneg _
  have H := Lib.hid F0
  clear F0 B0
  go_enter Try.func81, Try.ntmps81
  go_wp2_with fail
  refine hr.mono ?_
  rintro e w1 ⟨⟨m, rfl, hm⟩, F1⟩
  have hlt : (sn : Int) < m := by omega
  have H1 := Lib.hid F1
  clear F1
  go_wp2_with fail
  go_ret
  exact ⟨rfl, H.out.thenN H1.out⟩
theorem tot_take (O : List (List Nat)) {i : Nat} (h : i < O.length) : tot (O.take (i + 1)) = tot (O.take i) + (O.getD i []).length := by
  rw [take_one [] h, tot_push]
theorem tot_take_le (O : List (List Nat)) (i : Nat) : tot (O.take i) ≤ tot O := by
  have e : tot O = tot (O.take i) + tot (O.drop i) := by
    unfold tot
    rw [← List.sum_append, ← List.map_append, List.take_append_drop]
  omega
/-- Fields that a packet may have. -/
def FldOk (O : List (List Nat)) : Prop := 1 ≤ O.length ∧ O.length ≤ 24 ∧ ∀ b ∈ O, 1 ≤ b.length ∧ b.length ≤ 1000
set_option maxRecDepth 100000 in
set_option maxHeartbeats 4000000 in
theorem um_size (w : World) (fi sn : Int) (A : Option Addr) (n c b B : Nat) (O : List (List Nat)) (hb : b = 5 ∨ b = 10) (h : RowF w B (.slice A n c) O) (hn : O.length = n) (hok : FldOk O) (ht : tot O ≤ 3000) :
    Calls Try.prog 88 #[.agg #[.int .i64 fi, .int .i64 sn, .slice A n c], .int .i64 b] w fun e w' => e = .returned (.int .i64 ((b / 5 + sizeL (n - 1) + tot O : Nat) : Int)) ∧ Frm No w w' := by
  have F0 := (Frm.refl No w).alloc (.cells #[.int .i64 fi, .int .i64 sn, .slice A n c] 49)
  have B0 := Blk.new w #[.int .i64 fi, .int .i64 sn, .slice A n c] 49
  obtain ⟨w0, hw0⟩ : ∃ w0, w.alloc (.cells #[.int .i64 fi, .int .i64 sn, .slice A n c] 49) = w0 := ⟨_, rfl⟩
  obtain ⟨g, hg⟩ : ∃ g, w.heap.size = g := ⟨_, rfl⟩
  rw [hw0] at F0 B0
  rw [hg] at B0
  have hhd := fun W => head_is W b hb
  have hls := fun W => lensize W (n - 1) (by have := hok.2.1; omega)
  have k2 : ∀ q, (w0.drewN q).cell? ⟨g, 2, none⟩ = some (.slice A n c) := fun q => B0.cell 2
  have k20 : w0.cell? ⟨g, 2, none⟩ = some (.slice A n c) := B0.cell 2
  have hn1 : 1 ≤ n := by rw [← hn]; exact hok.1
  have hn24 : n ≤ 24 := by rw [← hn]; exact hok.2.1
  have n1 : ¬ (n : Int) < 1 := by omega
  have n24 : ¬ (24 : Int) < (n : Int) := by omega
  obtain ⟨m, hm⟩ : ∃ m, n - 1 = m := ⟨_, rfl⟩
  have pwm : IntKind.i64.wrap ((n : Int) - 1) = (m : Int) := by rw [IntWalk.i64_in _ ⟨by omega, by omega⟩]; omega
  have hmn : (n : Int) - 1 = (m : Int) := by omega
  obtain ⟨s, hs⟩ : ∃ s, b / 5 + sizeL (n - 1) = s := ⟨_, rfl⟩
  have hs37 : s ≤ 37 := by rw [← hs]; have := sizeL_le (n - 1); omega
  have hsum : ((b / 5 : Nat) : Int) + (sizeL (n - 1) : Int) = (s : Int) := by rw [← hs]; push_cast; rfl
  have pws : IntKind.i64.wrap (s : Int) = (s : Int) := IntWalk.i64_in _ ⟨by omega, by omega⟩
  rw [hs]
  rw [hm] at hls hsum
  have H := Lib.hid (And.intro F0 (And.intro B0 (And.intro h (And.intro hn (And.intro hok (And.intro ht hs))))))
  obtain ⟨hb5, hh5⟩ : ∃ hb5 : Nat, b / 5 = hb5 := ⟨_, rfl⟩
  obtain ⟨sl, hsl⟩ : ∃ sl : Nat, sizeL m = sl := ⟨_, rfl⟩
  rw [hh5, hsl] at hsum
  rw [hh5] at hhd
  rw [hsl] at hls
  clear F0 B0 h hn hok ht hs hn1 hn24 hb hh5 hsl hm
  go_enter Try.func88, Try.ntmps88
  go_upto_region 3 with fail
  go_quiet (first | (go_at_call 47; exact Calls.quiet_of_same (hhd _)) | (go_at_call 26; exact Calls.quiet_of_same (hls _)))
  obtain ⟨wd, hwd⟩ : ∃ wd, w0.drewN nq = wd := ⟨_, rfl⟩
  have Fd : Frm No w0 wd := by rw [← hwd]; exact (Frm.refl No w0).drewN nq
  rw [hwd]
  have k2d : wd.cell? ⟨g, 2, none⟩ = some (.slice A n c) := (Fd.blk H.out.2.1 (fun h => h)).cell 2
  have HD := Lib.hid (H.out.1.thenN Fd)
  clear k2 k20 hwd Fd hhd hls
  go_wp2_with fail
  go_loopw [29, 5] (fun vi vn wr => ∃ i : Nat, vi = .int .i64 i ∧ vn = .int .i64 ((s + tot (O.take i) : Nat) : Int) ∧ i ≤ n ∧ wr = wd) (fun vi _ _ => n - (intOf vi).toNat)
  case atStart => exact ⟨0, rfl, by rw [List.take_zero]; rfl, by omega, rfl⟩
  case round =>
    obtain ⟨i, rfl, rfl, hi, hwx⟩ := hrel
    have hwx2 := hwx.symm
    clear hwx
    subst hwx2
    have i0 : (0 : Int) ≤ (i : Int) := Int.natCast_nonneg _
    have htl := tot_take_le O i
    by_cases hin : i < n
    · have i1 : (i : Int) < (n : Int) := by omega
      obtain ⟨ad, A2, c2, rfl, k0, -, -⟩ := (H.out.2.2.1.frmN HD.out).at_ (i := i) (by rw [H.out.2.2.2.1]; exact hin)
      have hl := H.out.2.2.2.2.1.2.2 (O.getD i []) (by rw [List.getD_eq_getElem?_getD, List.getElem?_eq_getElem (by rw [H.out.2.2.2.1]; exact hin)]; exact List.getElem_mem _)
      have htk := tot_take O (i := i) (by rw [H.out.2.2.2.1]; exact hin)
      have htl2 := tot_take_le O (i + 1)
      obtain ⟨l, hll⟩ : ∃ l, (O.getD i []).length = l := ⟨_, rfl⟩
      rw [hll] at k0 hl htk
      obtain ⟨t, ht⟩ : ∃ t, tot (O.take i) = t := ⟨_, rfl⟩
      obtain ⟨t2, ht2⟩ : ∃ t2, tot (O.take (i + 1)) = t2 := ⟨_, rfl⟩
      rw [ht] at htk htl ⊢
      rw [ht2] at htk htl2
      have ht9 := H.out.2.2.2.2.2.1
      obtain ⟨u, hu⟩ : ∃ u, s + t = u := ⟨_, rfl⟩
      rw [hu]
      have lz : ((l : Int) == 0) = false := by rw [beq_eq_false_iff_ne]; omega
      have l2 : ¬ (2047 : Int) < (l : Int) := by omega
      have pwu : IntKind.i64.wrap (4000 - (u : Int)) = 4000 - (u : Int) := IntWalk.i64_in _ ⟨by omega, by omega⟩
      have hfit : ¬ (4000 : Int) - (u : Int) < (l : Int) := by omega
      have pwl : IntKind.i64.wrap ((u : Int) + (l : Int)) = (u : Int) + (l : Int) := IntWalk.i64_in _ ⟨by omega, by omega⟩
      have HU := Lib.hid (show s + t2 = u + l by omega)
      have HT2 := Lib.hid ht2
      clear hl htk htl2 ht htl hll ht2 ht9 hu
      go_wp2_with fail
      go_roundw
      case rel => exact ⟨i + 1, by go_num, by rw [HT2.out, HU.out]; rfl, by omega, trivial⟩
      case measure => simp [intOf]; omega
    · have i1 : ¬ (i : Int) < (n : Int) := by omega
      have hin2 : RowKit.Hid (i = n) := (show i = n by omega)
      clear hin
      go_wp2_with fail
      go_ret
      have e : O.take i = O := List.take_of_length_le (by rw [H.out.2.2.2.1, hin2.out]; exact Nat.le_refl _)
      rw [e]
      exact ⟨rfl, HD.out⟩
/-- Size: the same, for a packet that may be. -/
theorem um_Size (w : World) (fi sn : Nat) (A : Option Addr) (n c b B : Nat) (O : List (List Nat)) (hb : b = 5 ∨ b = 10) (h : RowF w B (.slice A n c) O) (hn : O.length = n) (hok : FldOk O) (ht : tot O ≤ 3000) (hfi : fi ≤ 3) (hsn : sn ≤ 31) :
    Calls Try.prog 75 #[.agg #[.int .i64 fi, .int .i64 sn, .slice A n c], .int .i64 b] w fun e w' => e = .returned (.int .i64 ((b / 5 + sizeL (n - 1) + tot O : Nat) : Int)) ∧ Frm No w w' := by
  have F0 := (Frm.refl No w).alloc (.cells #[.int .i64 fi, .int .i64 sn, .slice A n c] 49)
  have B0 := Blk.new w #[.int .i64 fi, .int .i64 sn, .slice A n c] 49
  obtain ⟨w0, hw0⟩ : ∃ w0, w.alloc (.cells #[.int .i64 fi, .int .i64 sn, .slice A n c] 49) = w0 := ⟨_, rfl⟩
  obtain ⟨g, hg⟩ : ∃ g, w.heap.size = g := ⟨_, rfl⟩
  rw [hw0] at F0 B0
  rw [hg] at B0
  have F1 := (Frm.refl No w0).alloc (.cells #[.int .i64 b] 140)
  have B1 := Blk.new w0 #[.int .i64 b] 140
  obtain ⟨w1, hw1⟩ : ∃ w1, w0.alloc (.cells #[.int .i64 b] 140) = w1 := ⟨_, rfl⟩
  obtain ⟨g1, hg1⟩ : ∃ g1, w0.heap.size = g1 := ⟨_, rfl⟩
  rw [hw1] at F1 B1
  rw [hg1] at B1
  have hw := umwidth w1 b hb
  have hsp := space_is w1 b sn (by omega) hsn
  have B01 := F1.blk B0 (fun h => h)
  have k0 : w1.cell? ⟨g, 0, none⟩ = some (.int .i64 fi) := B01.cell 0
  have k1 : w1.cell? ⟨g, 1, none⟩ = some (.int .i64 sn) := B01.cell 1
  have kb : w1.cell? ⟨g1, 0, none⟩ = some (.int .i64 b) := B1.cell 0
  have f0 : ¬ (fi : Int) < 0 := by omega
  have f3 : ¬ (3 : Int) < (fi : Int) := by omega
  have H := Lib.hid (And.intro (F0.thenN F1) (And.intro B01 (And.intro h (And.intro hn (And.intro hok ht)))))
  have HB := Lib.hid hb
  clear F0 B0 F1 B1 B01 h hn hok ht hb hsn hfi
  go_enter Try.func75, Try.ntmps75
  go_wp2_with fail
  refine hw.mono ?_
  rintro e wq ⟨rfl, hwx⟩
  have hwx2 := hwx.symm
  clear hwx
  subst hwx2
  go_wp2_with fail
  refine hsp.mono ?_
  rintro e w2 ⟨rfl, F2⟩
  have F02 := H.out.1.thenN F2
  have B2 := F2.blk H.out.2.1 (fun h => h)
  have y0 : w2.cell? ⟨g, 0, none⟩ = some (.int .i64 fi) := B2.cell 0
  have y1 : w2.cell? ⟨g, 1, none⟩ = some (.int .i64 sn) := B2.cell 1
  have y2 : w2.cell? ⟨g, 2, none⟩ = some (.slice A n c) := B2.cell 2
  have hsz := um_size w2 fi sn A n c b B O HB.out (H.out.2.2.1.frmN F02) H.out.2.2.2.1 H.out.2.2.2.2.1 H.out.2.2.2.2.2
  have H2 := Lib.hid F02
  clear F02 B2 F2 k0 k1 kb hsp hw
  go_wp2_with fail
  refine hsz.mono ?_
  rintro e w3 ⟨rfl, F3⟩
  have H3 := Lib.hid F3
  clear F3 y0 y1 y2
  go_wp2_with fail
  go_ret
  exact ⟨rfl, H2.out.thenN H3.out⟩
/-- Right. -/
theorem um_right (w : World) (fi sn : Nat) (A : Option Addr) (n c b B : Nat) (O : List (List Nat)) (hb : b = 5 ∨ b = 10) (h : RowF w B (.slice A n c) O) (hn : O.length = n) (hok : FldOk O) (ht : tot O ≤ 3000) (hfi : fi ≤ 3) (hsn : sn ≤ 31) :
    Calls Try.prog 44 #[.agg #[.int .i64 fi, .int .i64 sn, .slice A n c], .int .i64 b] w fun e w' => e = .returned (.bool true) ∧ Frm No w w' := by
  have F0 := (Frm.refl No w).alloc (.cells #[.int .i64 fi, .int .i64 sn, .slice A n c] 49)
  have B0 := Blk.new w #[.int .i64 fi, .int .i64 sn, .slice A n c] 49
  obtain ⟨w0, hw0⟩ : ∃ w0, w.alloc (.cells #[.int .i64 fi, .int .i64 sn, .slice A n c] 49) = w0 := ⟨_, rfl⟩
  obtain ⟨g, hg⟩ : ∃ g, w.heap.size = g := ⟨_, rfl⟩
  rw [hw0] at F0 B0
  rw [hg] at B0
  have hs := um_Size w0 fi sn A n c b B O hb (h.frmN F0) hn hok ht hfi hsn
  obtain ⟨s, hss⟩ : ∃ s, b / 5 + sizeL (n - 1) + tot O = s := ⟨_, rfl⟩
  have hp : (0 : Int) < (s : Int) := by omega
  rw [hss] at hs
  have k0 : w0.cell? ⟨g, 0, none⟩ = some (.int .i64 fi) := B0.cell 0
  have k1 : w0.cell? ⟨g, 1, none⟩ = some (.int .i64 sn) := B0.cell 1
  have k2 : w0.cell? ⟨g, 2, none⟩ = some (.slice A n c) := B0.cell 2
  have H := Lib.hid F0
  clear F0 B0 h hn hok ht hb hss hfi hsn
  go_enter Try.func44, Try.ntmps44
  go_wp2_with fail
  refine hs.mono ?_
  rintro e w3 ⟨rfl, F3⟩
  have H3 := Lib.hid F3
  clear F3
  go_wp2_with fail
  go_ret
  have e : decide (0 < s) = true := decide_eq_true (by omega)
  refine ⟨?_, H.out.thenN H3.out⟩
  show Ending.returned (.bool (decide (0 < s))) = _
  rw [e]
end Go.Proofs.Ytccaaldfccgncaa.A

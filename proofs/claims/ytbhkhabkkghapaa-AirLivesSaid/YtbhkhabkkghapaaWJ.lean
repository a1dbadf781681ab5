/- What comes in: calls; AirCounts' walk. -/
import Derived.Test.YtbhkhabkkghapaaWI
import Derived.Test.YtbhkhabkkghapaaO
import Derived.Deep.CutBlock
import Derived.Deep.DeepCutAuto
namespace Go.Proofs.Ytbhkhabkkghapaa.A
open Go.RowKit Go.Proofs.Ytbhkhabkkghapaa.K Go.Proofs.Ytbhkhabkkghapaa.N Go.Proofs.Ytbhkhabkkghapaa.F
set_option linter.unusedVariables false
set_option linter.unusedSimpArgs false

theorem ints_bin {w : World} {A : Option Addr} {n : Nat} {zs : List Int} (h : Ints w .u8 A n zs) : Bin w A (zs.map Int.toNat) ∧ (zs.map Int.toNat).length = n ∧ ∀ c ∈ zs.map Int.toNat, c < 256 := by
  obtain ⟨h1, h2, h3, h4⟩ := h
  refine ⟨⟨by simp, fun h0 => ?_⟩, by simp [h1], bytes_lt h3⟩
  rw [List.length_map, h1] at h0
  obtain ⟨ad, e, hb, hc⟩ := h4 h0
  refine ⟨ad, e, hb, fun j u hu => ?_⟩
  rw [List.getElem?_map, List.getElem?_map] at hu
  by_cases hj : j < zs.length
  · rw [List.getElem?_eq_getElem hj] at hu
    simp only [Option.map_some, Option.some.injEq] at hu
    have h5 := hc j (by omega)
    rw [List.getD_eq_getElem?_getD, List.getElem?_eq_getElem hj] at h5
    rw [h5, ← hu]
    have h6 := (u8_of (h3 _ (List.getElem_mem hj))).1
    show some (Value.int .u8 zs[j]) = some (Value.int .u8 ((zs[j].toNat : Nat) : Int))
    rw [Int.toNat_of_nonneg h6]
  · rw [List.getElem?_eq_none (by omega)] at hu; simp at hu
/-- A call. -/
structure AOp where
  kd : Int
  i : Int
  at_ : Int
  n : Int
  A : Option Addr
  l : Nat
  c : Nat
  bs : List Nat
def IsOp (w : World) (A : Option Addr) (i : Nat) (o : AOp) : Prop := ∃ ad, A = some ad ∧ ad.block < w.heap.size ∧ w.cell? (ad.add (i * 5)) = some (.int .i64 o.kd) ∧ w.cell? (ad.add (i * 5 + 1)) = some (.int .i64 o.i) ∧
  w.cell? (ad.add (i * 5 + 2)) = some (.int .i64 o.at_) ∧ w.cell? (ad.add (i * 5 + 3)) = some (.int .i64 o.n) ∧ w.cell? (ad.add (i * 5 + 4)) = some (.slice o.A o.l o.c) ∧ Bin w o.A o.bs ∧ o.bs.length = o.l ∧ (∀ c ∈ o.bs, c < 256) ∧ o.l ≤ 9223372036854775807
def IsOps (w : World) (A : Option Addr) (len : Nat) (ops : List AOp) : Prop := ops.length = len ∧ len ≤ 9223372036854775807 ∧ ∀ i o, ops[i]? = some o → IsOp w A i o
theorem open_bytes {H : Type} {enc : TypeId × Value → H} {w : World} {m : Nat} {v : Value} {y : DataW H × List MemPlace} (h : DataW.trod enc Try.prog w 0 (fun _ => true) true m 22 [v] = some y) :
    ∃ A l c bs, v = .slice A l c ∧ Bin w A bs ∧ bs.length = l ∧ (∀ c ∈ bs, c < 256) ∧ l ≤ 9223372036854775807 := by
  obtain ⟨A, l, c, rfl⟩ : ∃ A l c, v = .slice A l c := by
    rcases DataW.trod_slice Try.underlying22 h with ⟨hcs, _⟩ | ⟨a, l, c, elems, rest, n, _, hcs, _, _, hl, _⟩
    · simp at hcs
      exact ⟨none, 0, 0, hcs⟩
    · simp at hcs
      exact ⟨_, _, _, hcs⟩
  obtain ⟨zs, hz⟩ := open_Ints (k := .u8) (A := A) (len := l) (cap := c) Try.underlying22 Try.underlying5 (by kernel_rfl) ⟨m, h⟩
  obtain ⟨h1, h2, h3⟩ := ints_bin hz
  exact ⟨A, l, c, _, rfl, h1, h2, h3, hz.2.1⟩
theorem open_ops {H : Type} {enc : TypeId × Value → H} {w : World} {A : Option Addr} {len cap : Nat} {d : DataW H} {p : List MemPlace}
    (h : DataW.Trod enc Try.prog w 0 (fun _ => true) true 36 (.slice A len cap) d p) : ∃ ops, IsOps w A len ops := by
  obtain ⟨hm, he⟩ := open_elems (C := 5) Try.underlying36 (by kernel_rfl) (by omega) h
  obtain ⟨l, hl, hp⟩ := list_of (α := AOp) (n := len) (p := fun i o => IsOp w A i o) (fun i hi => by
      obtain ⟨ad, cs, y, m, e, hb, hlen, hc, ht⟩ := he i hi
      have hf := open_field Try.underlying41 (by kernel_rfl) (by kernel_rfl) ht
      obtain ⟨v0, z0, n0, c0, t0⟩ := hf 0 _ rfl
      obtain ⟨v1, z1, n1, c1, t1⟩ := hf 1 _ rfl
      obtain ⟨v2, z2, n2, c2, t2⟩ := hf 2 _ rfl
      obtain ⟨v3, z3, n3, c3, t3⟩ := hf 3 _ rfl
      obtain ⟨v4, z4, n4, c4, t4⟩ := hf 4 _ rfl
      obtain ⟨k, rfl, _⟩ := open_int_cell Try.underlying3 t0
      obtain ⟨ii, rfl, _⟩ := open_int_cell Try.underlying3 t1
      obtain ⟨aa, rfl, _⟩ := open_int_cell Try.underlying3 t2
      obtain ⟨nn, rfl, _⟩ := open_int_cell Try.underlying3 t3
      obtain ⟨A', l', c', bs, rfl, r1, r2, r3, r4⟩ := open_bytes t4
      exact ⟨⟨k, ii, aa, nn, A', l', c', bs⟩, ad, e, hb, (hc 0 (by omega)).trans c0, (hc 1 (by omega)).trans c1, (hc 2 (by omega)).trans c2, (hc 3 (by omega)).trans c3, (hc 4 (by omega)).trans c4, r1, r2, r3, r4⟩)
  exact ⟨l, hl, hm, hp⟩
theorem IsOps.at_ {w wr : World} {A : Option Addr} {len i : Nat} {ops : List AOp} (h : IsOps w A len ops) (F : Frm No w wr) (hi : i < len) : ∃ (ad : Addr) (o : AOp), A = some ad ∧ Bin w o.A o.bs ∧ o.bs.length = o.l ∧ (∀ c ∈ o.bs, c < 256) ∧ o.l ≤ 9223372036854775807 ∧
    wr.cell? (ad.add (i * 5)) = some (.int .i64 o.kd) ∧ wr.cell? ⟨(ad.add (i * 5)).block, (ad.add (i * 5)).off + 1, none⟩ = some (.int .i64 o.i) ∧ wr.cell? ⟨(ad.add (i * 5)).block, (ad.add (i * 5)).off + 2, none⟩ = some (.int .i64 o.at_) ∧
    wr.cell? ⟨(ad.add (i * 5)).block, (ad.add (i * 5)).off + 3, none⟩ = some (.int .i64 o.n) ∧ wr.cell? ⟨(ad.add (i * 5)).block, (ad.add (i * 5)).off + 4, none⟩ = some (.slice o.A o.l o.c) := by
  obtain ⟨ad, e, hb, c0, c1, c2, c3, c4, r1, r2, r3, r4⟩ := h.2.2 i _ (List.getElem?_eq_getElem (by rw [h.1]; exact hi))
  have tr : ∀ i v, w.cell? (ad.add i) = some v → wr.cell? (ad.add i) = some v := fun i v h => by
    rw [← h]; exact World.cell?_of_block (F.block _ (by rw [block_add]; exact hb) (fun h => h))
  have o1 := tr _ _ c1
  have o2 := tr _ _ c2
  have o3 := tr _ _ c3
  have o4 := tr _ _ c4
  rw [add_spell _ _ _ (by omega)] at o1 o2 o3 o4
  exact ⟨ad, _, e, r1, r2, r3, r4, tr _ _ c0, o1, o2, o3, o4⟩
theorem moveL_len {L : List (List Nat)} {i t : Nat} (h : i < L.length) : (moveL L i t).length = L.length := by
  have := cutL_len h
  unfold moveL
  simp only [List.length_append, List.length_take, List.length_drop, List.length_singleton]
  omega
/-- A way, and what was counted. -/
def CM (w wx : World) (g : Nat) (j : Nat) (vt : Value) : Prop :=
  ∃ (tk : Int) (k : Option Nat) (L : List (List Nat)) (se lo : Int), vt = .int .i64 tk ∧ IsW wx g g k L se lo ∧ Fits L ∧ se - lo - tk = L.length ∧ 0 ≤ se ∧ se ≤ (j : Int) ∧ 0 ≤ lo ∧ 0 ≤ tk ∧ Frm No w wx

set_option maxRecDepth 100000 in
set_option maxHeartbeats 8000000 in
theorem counts_walk (A2 : Option Addr) (n2 c2 : Nat) (ops : List AOp) (w : World) (hI : IsOps w A2 n2 ops) :
    Calls Try.prog 6 #[.slice A2 n2 c2] w fun e w' => e = .returned (.bool true) ∧ Frm No w w' := by
  have hn29 : n2 ≤ 9223372036854775807 := hI.2.1
  go_enter Try.func6, Try.ntmps6
  go_wp2_with fail
  refine (new_ok w w.heap.size).mono ?_
  rintro e w1 ⟨rfl, W1, F1⟩
  obtain ⟨g, hg⟩ : ∃ g, w.heap.size = g := ⟨_, rfl⟩
  rw [hg] at W1
  rw [hg]
  have hgl : w.heap.size ≤ g := by omega
  have hgl2 : g ≤ w.heap.size := by omega
  have H0 := Lib.hid (show CM w w1 g 0 (.int .i64 0) from ⟨0, none, [], 0, 0, rfl, W1, fits_nil, rfl, by omega, by omega, by omega, by omega, F1⟩)
  clear hg W1 F1
  go_wp2_with fail
  go_loopw [4, 5] (fun vt vi wr => ∃ j : Nat, vi = .int .i64 j ∧ j ≤ 400 ∧ CM w wr g j vt) (fun _ vi _ => 400 - (intOf vi).toNat)
  case atStart => exact ⟨0, rfl, by omega, H0.out⟩
  case round =>
    clear H0
    obtain ⟨j, rfl, hj, tk, k, L, se, lo, rfl, hW, hF, hsum, s0, s1, l0, t0, F⟩ := hrel
    have hL := hW.1
    by_cases hgo : j < n2 ∧ j < 400
    · obtain ⟨hj2, hj3⟩ := hgo
      have j0 : (0 : Int) ≤ (j : Int) := Int.natCast_nonneg _
      have j1 : (j : Int) < (n2 : Int) := by omega
      have j2 : (j : Int) < 400 := by omega
      obtain ⟨ad2, ⟨kd, oi, oa, on, oA, l, oc, bs⟩, rfl, hB, hbl, hb256, hl63, o0, o1, o2, o3, o4⟩ := hI.at_ F hj2
      simp only at hB hbl hb256 hl63 o0 o1 o2 o3 o4
      obtain ⟨go, hgo⟩ : ∃ go, wr.heap.size = go := ⟨_, rfl⟩
      have hO : Blk (wr.alloc (.cells #[.int .i64 kd, .int .i64 oi, .int .i64 oa, .int .i64 on, .slice oA l oc] 41)) go #[.int .i64 kd, .int .i64 oi, .int .i64 oa, .int .i64 on, .slice oA l oc] 41 := by rw [← hgo]; exact Blk.new _ _ _
      have G1 := (Frm.refl No wr).alloc (.cells #[.int .i64 kd, .int .i64 oi, .int .i64 oa, .int .i64 on, .slice oA l oc] 41)
      have W1 := hW.frmN G1
      have F1 := F.thenN G1
      have B1 : g ≤ (wr.alloc (.cells #[.int .i64 kd, .int .i64 oi, .int .i64 oa, .int .i64 on, .slice oA l oc] 41)).heap.size := by have := F1.size; omega
      clear hW F G1 hgo
      by_cases hl : l ≤ 200
      · have l1 : (l : Int) ≤ 200 := by omega
        have y0 := hO.cell 0
        have y1 := hO.cell 1
        have y2 := hO.cell 2
        have y4 := hO.cell 4
        simp only [List.getElem?_toArray] at y0 y1 y2 y4
        have HSUM := Lib.hid (And.intro hsum (And.intro hF (And.intro hB (And.intro hbl hb256))))
        clear hsum hF hB hbl hb256
        go_upto_block 2 with fail
        go_cut [4] (fun vt wx => CM w wx g (j + 1) vt)
        case first =>
          clear o0 o1 o2 o3 o4
          by_cases hk0 : kd = 0
          · have hk0' : (kd == 0) = true := by simpa using hk0
            have HK := Lib.hid hk0
            clear hk0
            go_wp2_with fail
            refine (send_any _ g g k L se lo oA l oc bs W1 (HSUM.out.2.2.1.frmN F1) HSUM.out.2.2.2.1 hl63 B1 (by omega) (by omega)).mono ?_
            rintro e w3 ⟨rfl, ⟨k3, W3, -⟩, f3⟩
            have F3 := Frm.thenW F1 f3 hgl
            go_wp2_with fail
            go_meet
            by_cases hE : sendE L l = 0
            · rw [if_pos hE, if_pos hE] at W3
              exact ⟨tk, k3, _, _, _, rfl, W3, fits_app HSUM.out.2.1 (by rw [HSUM.out.2.2.2.1]; omega) HSUM.out.2.2.2.2, by have := HSUM.out.1; simp; omega, by omega, by omega, l0, t0, F3⟩
            · rw [if_neg hE, if_neg hE] at W3
              exact ⟨tk, k3, _, _, _, rfl, W3, HSUM.out.2.1, HSUM.out.1, by omega, by omega, l0, t0, F3⟩
          · have hk0' : (kd == 0) = false := by simpa using hk0
            clear hk0
            by_cases hk1 : kd = 1
            · have hk1' : (kd == 1) = true := by simpa using hk1
              have HK := Lib.hid hk1
              clear hk1
              have tko : wrap64 (tk + 1) = tk + 1 := IntWalk.wrap64_in _ ⟨by omega, by have := HSUM.out.1; omega⟩
              have HTK := Lib.hid tko
              have htk2 : tk ≤ 400 := by have := HSUM.out.1; omega
              clear tko
              go_wp2_with fail
              refine (take_any _ g g k L se lo oi W1 HSUM.out.2.1 B1).mono ?_
              rintro e w3 ⟨b, rfl, -, ⟨k3, W3, -⟩, f3⟩
              have F3 := Frm.thenW F1 f3 hgl
              by_cases hE : askI L oi = 0
              · rw [hE, if_pos rfl] at W3
                rw [hE]
                have hin := askI_in hE
                have hcl := cutL_len (L := L) (i := oi.toNat) (by omega)
                have DONE := Lib.hid (And.intro W3 (And.intro hcl (And.intro hin F3)))
                clear hE W3 hcl hin F3 f3
                go_wp2_with fail
                go_meet
                exact ⟨tk + 1, k3, _, _, _, rfl, DONE.out.1, fits_cut HSUM.out.2.1, by have := HSUM.out.1; have := DONE.out.2.1; have := DONE.out.2.2.1; omega, by omega, by omega, l0, by omega, DONE.out.2.2.2⟩
              · have hE1 := (askI_two L oi).resolve_left hE
                rw [hE1, if_neg (by decide)] at W3
                rw [hE1]
                have DONE := Lib.hid (And.intro W3 F3)
                clear hE hE1 W3 F3 f3
                go_wp2_with fail
                go_meet
                exact ⟨tk, k3, _, _, _, rfl, DONE.out.1, HSUM.out.2.1, HSUM.out.1, by omega, by omega, l0, t0, DONE.out.2⟩
            · have hk1' : (kd == 1) = false := by simpa using hk1
              clear hk1
              by_cases hk2 : kd = 2
              · have hk2' : (kd == 2) = true := by simpa using hk2
                have HK := Lib.hid hk2
                clear hk2
                go_wp2_with fail
                refine (lose_any _ g g k L se lo oi W1 HSUM.out.2.1 B1 (by omega) (by have := HSUM.out.1; omega)).mono ?_
                rintro e w3 ⟨rfl, ⟨k3, W3, -⟩, f3⟩
                have F3 := Frm.thenW F1 f3 hgl
                go_wp2_with fail
                go_meet
                by_cases hE : askI L oi = 0
                · rw [hE, if_pos rfl, if_pos rfl] at W3
                  have hin := askI_in hE
                  have hcl := cutL_len (L := L) (i := oi.toNat) (by omega)
                  exact ⟨tk, k3, _, _, _, rfl, W3, fits_cut HSUM.out.2.1, by have := HSUM.out.1; omega, by omega, by omega, by omega, t0, F3⟩
                · rw [if_neg hE, if_neg hE] at W3
                  exact ⟨tk, k3, _, _, _, rfl, W3, HSUM.out.2.1, HSUM.out.1, by omega, by omega, l0, t0, F3⟩
              · have hk2' : (kd == 2) = false := by simpa using hk2
                clear hk2
                by_cases hk3 : kd = 3
                · have hk3' : (kd == 3) = true := by simpa using hk3
                  have HK := Lib.hid hk3
                  clear hk3
                  go_wp2_with fail
                  refine (move_any _ g g k L se lo oi oa W1 HSUM.out.2.1 B1).mono ?_
                  rintro e w3 ⟨rfl, ⟨k3, W3, -⟩, f3⟩
                  have F3 := Frm.thenW F1 f3 hgl
                  go_wp2_with fail
                  go_meet
                  by_cases hE : moveE L oi oa = 0
                  · rw [hE, if_pos rfl] at W3
                    have hin : 0 ≤ oi ∧ oi < L.length := by
                      unfold moveE at hE
                      by_cases hc : askI L oi = 0 ∧ askI L oa = 0
                      · exact askI_in hc.1
                      · rw [if_neg hc] at hE; cases hE
                    have hcl := moveL_len (L := L) (i := oi.toNat) (t := oa.toNat) (by omega)
                    exact ⟨tk, k3, _, _, _, rfl, W3, fits_move HSUM.out.2.1, by have := HSUM.out.1; omega, by omega, by omega, l0, t0, F3⟩
                  · rw [if_neg hE] at W3
                    exact ⟨tk, k3, _, _, _, rfl, W3, HSUM.out.2.1, HSUM.out.1, by omega, by omega, l0, t0, F3⟩
                · have hk3' : (kd == 3) = false := by simpa using hk3
                  clear hk3
                  by_cases hk5 : kd = 5
                  · have hk5' : (kd == 5) = true := by simpa using hk5
                    have HK := Lib.hid hk5
                    clear hk5
                    go_wp2_with fail
                    refine (clear_ok _ g g k L se lo W1 (by omega) (by have := HSUM.out.1; omega)).mono ?_
                    rintro e w3 ⟨rfl, W3, f3⟩
                    have F3 := Frm.thenW F1 f3 hgl
                    go_wp2_with fail
                    go_meet
                    exact ⟨tk, none, _, _, _, rfl, W3, fits_nil, by have := HSUM.out.1; simp; omega, by omega, by omega, by omega, t0, F3⟩
                  · have hk5' : (kd == 5) = false := by simpa using hk5
                    clear hk5
                    go_wp2_with fail
                    go_meet
                    exact ⟨tk, k, _, _, _, rfl, W1, HSUM.out.2.1, HSUM.out.1, by omega, by omega, l0, t0, F1⟩
        case rest =>
          clear o0 o1 o2 o3 o4 y0 y1 y2 y4 hO W1 F1 B1 HSUM s0 s1 l0 t0 hL
          obtain ⟨tk2, k2, L2, se2, lo2, rfl, W2, hF2, hs2, s0, s1, l0, t0, F2⟩ := hcut
          have hL2 := W2.1
          have HX := Lib.hid (And.intro hF2 (And.intro hs2 F2))
          have b1 : se2 ≤ 1000 := by omega
          have b2 : lo2 ≤ 1000 := by omega
          have b3 : tk2 ≤ 1000 := by omega
          have b5 : 0 ≤ se2 - lo2 := by omega
          have hn : ((se2 - lo2 - tk2) != (L2.length : Int)) = false := by rw [hs2]; simp
          have hl3 : (L2.length : Int) ≤ 256 := by omega
          have HN := Lib.hid hn
          clear hF2 hs2 F2 hn
          go_wp2_with fail
          refine (counts_ok _ g g k2 L2 se2 lo2 W2).mono ?_
          rintro e w4 ⟨rfl, f4⟩
          have W4 := W2.frmN f4
          go_wp2_with fail
          refine (len_ok _ g g k2 L2 se2 lo2 W4).mono ?_
          rintro e w5 ⟨rfl, rfl⟩
          have hn := HN.out
          go_wp2_with fail
          refine (len_ok _ g g k2 L2 se2 lo2 W4).mono ?_
          rintro e w5 ⟨rfl, rfl⟩
          go_wp2_with fail
          go_roundw
          case rel => exact ⟨j + 1, by go_num, by omega, tk2, k2, L2, se2, lo2, rfl, W4, HX.out.1, HX.out.2.1, s0, s1, l0, t0, HX.out.2.2.thenN f4⟩
          case measure => simp [intOf]; omega
      · have l1 : ¬ (l : Int) ≤ 200 := by omega
        go_wp2_with fail
        refine (alive_yes _).mono ?_
        rintro e w7 ⟨rfl, f7⟩
        go_wp2_with fail
        go_ret
        exact ⟨rfl, F1.thenN f7⟩
    · have HF := Lib.hid F
      clear F hW hF hsum
      by_cases hj2 : j < n2
      · have j1 : (j : Int) < (n2 : Int) := by omega
        have j2 : ¬ (j : Int) < 400 := by omega
        go_wp2_with fail
        refine (alive_yes _).mono ?_
        rintro e w7 ⟨rfl, f7⟩
        go_wp2_with fail
        go_ret
        exact ⟨rfl, HF.out.thenN f7⟩
      · have j1 : ¬ (j : Int) < (n2 : Int) := by omega
        go_wp2_with fail
        refine (alive_yes _).mono ?_
        rintro e w7 ⟨rfl, f7⟩
        go_wp2_with fail
        go_ret
        exact ⟨rfl, HF.out.thenN f7⟩
end Go.Proofs.Ytbhkhabkkghapaa.A

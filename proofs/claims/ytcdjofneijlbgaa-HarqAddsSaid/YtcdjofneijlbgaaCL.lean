/- What comes in: calls; HarqApart's walk. -/
import Derived.Test.YtcdjofneijlbgaaCK
namespace Go.Proofs.Ytcdjofneijlbgaa.A
open Go.RowKit Go.Proofs.Ytcdjofneijlbgaa.K Go.Proofs.Ytcdjofneijlbgaa.F Go.Proofs.Ytcdjofneijlbgaa.N
set_option linter.unusedVariables false
set_option linter.unusedSimpArgs false

/-- A call. -/
structure HOp where
  pr : Int
  fr : Bool
  dr : Bool
  A : Option Addr
  l : Nat
  c : Nat
  bs : List Nat
  B : Option Addr
  m : Nat
  d : Nat
  ns : List Int
  t : Nat
def IsOp (w : World) (A : Option Addr) (i : Nat) (o : HOp) : Prop := ∃ ad, A = some ad ∧ ad.block < w.heap.size ∧ w.cell? (ad.add (i * 6)) = some (.int .i64 o.pr) ∧ w.cell? (ad.add (i * 6 + 1)) = some (.bool o.fr) ∧
  w.cell? (ad.add (i * 6 + 2)) = some (.bool o.dr) ∧ w.cell? (ad.add (i * 6 + 3)) = some (.slice o.A o.l o.c) ∧ w.cell? (ad.add (i * 6 + 4)) = some (.slice o.B o.m o.d) ∧ w.cell? (ad.add (i * 6 + 5)) = some (.int .u8 o.t) ∧
  Bin w o.A o.bs ∧ o.bs.length = o.l ∧ (∀ c ∈ o.bs, c < 256) ∧ o.l ≤ 9223372036854775807 ∧ Ints w .i8 o.B o.m o.ns ∧ o.m ≤ 9223372036854775807 ∧ o.t < 256
def IsOps (w : World) (A : Option Addr) (len : Nat) (ops : List HOp) : Prop := ops.length = len ∧ len ≤ 9223372036854775807 ∧ ∀ i o, ops[i]? = some o → IsOp w A i o
theorem open_i8s {H : Type} {enc : TypeId × Value → H} {w : World} {m : Nat} {v : Value} {y : DataW H × List MemPlace} (h : DataW.trod enc Try.prog w 0 (fun _ => true) true m 34 [v] = some y) :
    ∃ A l c zs, v = .slice A l c ∧ Ints w .i8 A l zs := by
  obtain ⟨A, l, c, rfl⟩ : ∃ A l c, v = .slice A l c := by
    rcases DataW.trod_slice Try.underlying34 h with ⟨hcs, _⟩ | ⟨a, l, c, elems, rest, n, _, hcs, _, _, hl, _⟩
    · simp at hcs
      exact ⟨none, 0, 0, hcs⟩
    · simp at hcs
      exact ⟨_, _, _, hcs⟩
  obtain ⟨zs, hz⟩ := open_Ints (k := .i8) (A := A) (len := l) (cap := c) Try.underlying34 Try.underlying65 (by kernel_rfl) ⟨m, h⟩
  exact ⟨A, l, c, _, rfl, hz⟩
theorem open_hops {H : Type} {enc : TypeId × Value → H} {w : World} {A : Option Addr} {len cap : Nat} {d : DataW H} {p : List MemPlace}
    (h : DataW.Trod enc Try.prog w 0 (fun _ => true) true 22 (.slice A len cap) d p) : ∃ ops, IsOps w A len ops := by
  obtain ⟨hm, he⟩ := open_elems (C := 6) Try.underlying22 (by kernel_rfl) (by omega) h
  obtain ⟨l, hl, hp⟩ := list_of (α := HOp) (n := len) (p := fun i o => IsOp w A i o) (fun i hi => by
      obtain ⟨ad, cs, y, m, e, hb, hlen, hc, ht⟩ := he i hi
      have hf := open_field Try.underlying36 (by kernel_rfl) (by kernel_rfl) ht
      obtain ⟨v0, z0, n0, c0, t0⟩ := hf 0 _ rfl
      obtain ⟨v1, z1, n1, c1, t1⟩ := hf 1 _ rfl
      obtain ⟨v2, z2, n2, c2, t2⟩ := hf 2 _ rfl
      obtain ⟨v3, z3, n3, c3, t3⟩ := hf 3 _ rfl
      obtain ⟨v4, z4, n4, c4, t4⟩ := hf 4 _ rfl
      obtain ⟨v5, z5, n5, c5, t5⟩ := hf 5 _ rfl
      obtain ⟨k, rfl, _⟩ := open_int_cell Try.underlying3 t0
      obtain ⟨b1, rfl⟩ := open_bool_cell Try.underlying4 t1
      obtain ⟨b2, rfl⟩ := open_bool_cell Try.underlying4 t2
      obtain ⟨A', l', c', bs, rfl, r1, r2, r3, r4⟩ := open_bytes t3
      obtain ⟨B', m', d', ns, rfl, hI⟩ := open_i8s t4
      obtain ⟨tt, rfl, htt⟩ := open_int_cell Try.underlying5 t5
      obtain ⟨u0, u1⟩ := u8_of htt
      obtain ⟨tn, rfl⟩ := Int.eq_ofNat_of_zero_le u0
      exact ⟨⟨k, b1, b2, A', l', c', bs, B', m', d', ns, tn⟩, ad, e, hb, (hc 0 (by omega)).trans c0, (hc 1 (by omega)).trans c1, (hc 2 (by omega)).trans c2, (hc 3 (by omega)).trans c3, (hc 4 (by omega)).trans c4, (hc 5 (by omega)).trans c5, r1, r2, r3, r4, hI, hI.2.1, by show tn < 256; omega⟩)
  exact ⟨l, hl, hm, hp⟩
theorem IsOps.at_ {w wr : World} {A : Option Addr} {len i : Nat} {ops : List HOp} (h : IsOps w A len ops) (F : Frm No w wr) (hi : i < len) : ∃ (ad : Addr) (o : HOp), A = some ad ∧ Bin w o.A o.bs ∧ o.bs.length = o.l ∧ (∀ c ∈ o.bs, c < 256) ∧ o.l ≤ 9223372036854775807 ∧ Ints w .i8 o.B o.m o.ns ∧ o.m ≤ 9223372036854775807 ∧ o.t < 256 ∧
    wr.cell? (ad.add (i * 6)) = some (.int .i64 o.pr) ∧ wr.cell? ⟨(ad.add (i * 6)).block, (ad.add (i * 6)).off + 1, none⟩ = some (.bool o.fr) ∧ wr.cell? ⟨(ad.add (i * 6)).block, (ad.add (i * 6)).off + 2, none⟩ = some (.bool o.dr) ∧
    wr.cell? ⟨(ad.add (i * 6)).block, (ad.add (i * 6)).off + 3, none⟩ = some (.slice o.A o.l o.c) ∧ wr.cell? ⟨(ad.add (i * 6)).block, (ad.add (i * 6)).off + 4, none⟩ = some (.slice o.B o.m o.d) ∧ wr.cell? ⟨(ad.add (i * 6)).block, (ad.add (i * 6)).off + 5, none⟩ = some (.int .u8 o.t) := by
  obtain ⟨ad, e, hb, c0, c1, c2, c3, c4, c5, r⟩ := h.2.2 i _ (List.getElem?_eq_getElem (by rw [h.1]; exact hi))
  have tr : ∀ i v, w.cell? (ad.add i) = some v → wr.cell? (ad.add i) = some v := fun i v h => by
    rw [← h]; exact World.cell?_of_block (F.block _ (by rw [block_add]; exact hb) (fun h => h))
  have o1 := tr _ _ c1
  have o2 := tr _ _ c2
  have o3 := tr _ _ c3
  have o4 := tr _ _ c4
  have o5 := tr _ _ c5
  rw [add_spell _ _ _ (by omega)] at o1 o2 o3 o4 o5
  obtain ⟨r1, r2, r3, r4, r5, r6, r7⟩ := r
  exact ⟨ad, _, e, r1, r2, r3, r4, r5, r6, r7, tr _ _ c0, o1, o2, o3, o4, o5⟩
/-- Two boxes; what process 2 holds is alike. -/
def AP (w wx : World) (g g' : Nat) (tries : Int) (j : Nat) : Prop := ∃ (st st' : Nat → Held) (a b c d : Int), IsBox wx g tries a b st ∧ IsBox wx g' tries c d st' ∧ Good tries st ∧ Good tries st' ∧ st 2 = st' 2 ∧
  (0 ≤ a ∧ a ≤ (j : Int) ∧ 0 ≤ b ∧ b ≤ (j : Int) ∧ 0 ≤ c ∧ c ≤ (j : Int) ∧ 0 ≤ d ∧ d ≤ (j : Int)) ∧ Frm No w wx
set_option maxRecDepth 100000 in
set_option maxHeartbeats 8000000 in
theorem apart_walk (tries : Int) (A2 : Option Addr) (n2 c2 : Nat) (ops : List HOp) (w : World) (wt : (Lit.int .i64 tries).wf = true) (hI : IsOps w A2 n2 ops) :
    Calls Try.prog 6 #[.int .i64 tries, .slice A2 n2 c2] w fun e w' => e = .returned (.bool true) ∧ Frm No w w' := by
  clear wt
  have hn29 : n2 ≤ 9223372036854775807 := hI.2.1
  by_cases ht : tries < 1 ∨ 16 < tries
  · go_enter Try.func6, Try.ntmps6
    go_wp2_with fail
    refine (new_out w tries ht).mono ?_
    rintro e w1 ⟨rfl, rfl⟩
    go_wp2_with fail
    refine (new_out w1 tries ht).mono ?_
    rintro e w2 ⟨rfl, rfl⟩
    go_wp2_with fail
    refine (alive_yes _).mono ?_
    rintro e w7 ⟨rfl, f7⟩
    go_wp2_with fail
    go_ret
    exact ⟨rfl, f7⟩
  · have t1 : 1 ≤ tries := by omega
    have t16 : tries ≤ 16 := by omega
    clear ht
    go_enter Try.func6, Try.ntmps6
    go_wp2_with fail
    refine (new_ok w tries t1 t16).mono ?_
    rintro e w1 ⟨rfl, B1, F1⟩
    obtain ⟨g, hg⟩ : ∃ g, w.heap.size = g := ⟨_, rfl⟩
    rw [hg] at B1
    rw [hg]
    have hgl : w.heap.size ≤ g := by omega
    have H1 := Lib.hid (And.intro B1 F1)
    clear B1 F1 hg
    go_wp2_with fail
    refine (new_ok w1 tries t1 t16).mono ?_
    rintro e w2 ⟨rfl, B2, F2⟩
    obtain ⟨g', hg'⟩ : ∃ g', w1.heap.size = g' := ⟨_, rfl⟩
    rw [hg'] at B2
    rw [hg']
    have hgl' : w.heap.size ≤ g' := by have := H1.out.2.size; omega
    have hne : g ≠ g' := by have := H1.out.1.lt; omega
    have H2 := Lib.hid (show AP w w2 g g' tries 0 from ⟨st0, st0, 0, 0, 0, 0, H1.out.1.frmN F2, B2, good0 t1, good0 t1, rfl, ⟨by omega, by omega, by omega, by omega, by omega, by omega, by omega, by omega⟩, H1.out.2.thenN F2⟩)
    clear B2 F2 hg' H1
    go_wp2_with fail
    go_loopw [9] (fun vi wr => ∃ i : Nat, vi = .int .i64 i ∧ i ≤ 40 ∧ AP w wr g g' tries i) (fun vi _ => 40 - (intOf vi).toNat)
    case atStart => exact ⟨0, rfl, by omega, H2.out⟩
    case round =>
      clear H2
      obtain ⟨j, rfl, hj, st, st', a, b, c, d, Bx, By, G1, G2, h2, hbd, F⟩ := hrel
      have HH := Lib.hid (And.intro Bx (And.intro By (And.intro G1 (And.intro G2 (And.intro h2 (And.intro hbd F))))))
      clear Bx By G1 G2 h2 hbd F
      by_cases hgo : j < n2 ∧ j < 40
      · obtain ⟨hj2, hj3⟩ := hgo
        have j0 : (0 : Int) ≤ (j : Int) := Int.natCast_nonneg _
        have j1 : (j : Int) < (n2 : Int) := by omega
        have j2 : (j : Int) < 40 := by omega
        obtain ⟨ad2, ⟨pr, fr, dr, oA, l, oc, bs, oB, m, od, ns, t⟩, rfl, hB, hbl, hb256, hl63, hIn, hm63, ht, o0, o1, o2, o3, o4, o5⟩ := hI.at_ HH.out.2.2.2.2.2.2 hj2
        simp only at hB hbl hb256 hl63 hIn hm63 ht o0 o1 o2 o3 o4 o5
        obtain ⟨go, hgo⟩ : ∃ go, wr.heap.size = go := ⟨_, rfl⟩
        obtain ⟨wo, hwo⟩ : ∃ wo, wr.alloc (.cells #[.int .i64 pr, .bool fr, .bool dr, .slice oA l oc, .slice oB m od, .int .u8 t] 36) = wo := ⟨_, rfl⟩
        have hO : Blk wo go #[.int .i64 pr, .bool fr, .bool dr, .slice oA l oc, .slice oB m od, .int .u8 t] 36 := by rw [← hgo, ← hwo]; exact Blk.new _ _ _
        have G1 : Frm No wr wo := by rw [← hwo]; exact (Frm.refl No wr).alloc _
        have HO := Lib.hid (And.intro hO (And.intro G1 (And.intro hB (And.intro hbl (And.intro hb256 (And.intro hIn ht))))))
        have y0 : wo.cell? ⟨go, 0, none⟩ = some (.int .i64 pr) := hO.cell 0
        have y1 : wo.cell? ⟨go, 1, none⟩ = some (.bool fr) := hO.cell 1
        have y2 : wo.cell? ⟨go, 2, none⟩ = some (.bool dr) := hO.cell 2
        have y3 : wo.cell? ⟨go, 3, none⟩ = some (.slice oA l oc) := hO.cell 3
        have y4 : wo.cell? ⟨go, 4, none⟩ = some (.slice oB m od) := hO.cell 4
        have y5 : wo.cell? ⟨go, 5, none⟩ = some (.int .u8 t) := hO.cell 5
        clear hB hbl hb256 hIn ht hO G1
        go_upto_region 9 with fail
        clear o0 o1 o2 o3 o4 o5 hgo hwo
        by_cases hl : (l : Int) ≤ 200 ∧ (m : Int) ≤ 2000
        · obtain ⟨hl1, hl2⟩ := hl
          go_wp2_with fail
          have FO := HH.out.2.2.2.2.2.2.thenN HO.out.2.1
          obtain ⟨K, hK⟩ : ∃ K, (sgl bs).length = K := ⟨_, rfl⟩
          have hK2 : K = 4 * (l + 2) := by rw [← hK, sgl_len, HO.out.2.2.2.1]
          have hsg := sig_ok wo pr fr dr oA l oc bs oB m od ns t K (min K (m / 2)) (HO.out.2.2.1.frmN FO) HO.out.2.2.2.1 HO.out.2.2.2.2.1 (by omega) (Ints.frmN HO.out.2.2.2.2.2.1 FO) (by omega) HO.out.2.2.2.2.2.2 hK (fun i => by rw [Nat.lt_min]; omega)
          have hlim := nzL_lim (k := ((t % 20 : Nat) : Int)) (four_lim (S := sgl bs) (ofL_four _)) HO.out.2.2.2.2.2.1.2.2.1 (by omega) (by omega) (min K (m / 2))
          have hlen := nzL_len (sgl bs) ns ((t % 20 : Nat) : Int) (min K (m / 2))
          rw [hK] at hlen
          obtain ⟨Lx, hLx⟩ : ∃ Lx, nzL (sgl bs) ns ((t % 20 : Nat) : Int) (min K (m / 2)) = Lx := ⟨_, rfl⟩
          rw [hLx] at hsg hlim hlen
          have HL := Lib.hid (And.intro hlim (And.intro hlen (And.intro hK2 FO)))
          clear hlim hlen hK hLx hK2 FO
          refine hsg.mono ?_
          rintro e w5 ⟨A1, c1, A3, c3, rfl, R1, R2, f5⟩
          obtain ⟨A1', c1', e1, rd⟩ := rdC_of R1
          injection e1 with e11 e12 e13
          subst e11
          clear e12 e13
          obtain ⟨r, hr⟩ := hears_some tries a b st pr fr Lx
          have f15 := HO.out.2.1.thenN f5
          have Bx5 := HH.out.1.frmN f15
          have By5 := HH.out.2.1.frmN f15
          have hbd := HH.out.2.2.2.2.2.1
          have hhe := hear_any w5 g tries a b st pr fr A1 K c1 Lx r Bx5 t1 t16 HH.out.2.2.1 rd HL.out.2.1 (by have := HL.out.2.2.1; omega) (HL.out.1.sml (by omega)) hr (by omega) (by omega) (by omega) (by omega)
          have hO5 := f5.blk HO.out.1 (fun h => h)
          have z0 : w5.cell? ⟨go, 0, none⟩ = some (.int .i64 pr) := hO5.cell 0
          have z1 : w5.cell? ⟨go, 1, none⟩ = some (.bool fr) := hO5.cell 1
          have H5 := Lib.hid (And.intro Bx5 (And.intro By5 (And.intro hO5 (And.intro rd (And.intro hr (HL.out.2.2.2.thenN f5))))))
          clear hsg R1 R2 f5 f15 Bx5 By5 hbd hO5 rd hr y0 y1 y2 y3 y4 y5
          go_wp2_with fail
          refine hhe.mono ?_
          rintro e w6 ⟨v6, rfl, R6, B6, f6⟩
          obtain ⟨A6, c6, rfl, hb6⟩ := Bin.of_row R6
          obtain ⟨n6, hn6⟩ : ∃ n6, r.B.length = n6 := ⟨_, rfl⟩
          rw [hn6]
          have n61 := H5.out.1.ne61
          have hgb : ∃ cs, Blk w5 g cs 52 := by obtain ⟨cs, hb, _⟩ := H5.out.1; exact ⟨cs, hb⟩
          obtain ⟨csg, hgb⟩ := hgb
          have By6 := H5.out.2.1.frm f6 (fun e => hne e.symm) n61
          have hO6 := f6.blk H5.out.2.2.1 (fun e => by have := H5.out.2.2.1; rw [e] at this; exact Blk.ne this hgb (by decide) rfl)
          have F6 := H5.out.2.2.2.2.2.then f6 (fun x hx => .inr (by subst hx; exact hgl))
          have z06 : w6.cell? ⟨go, 0, none⟩ = some (.int .i64 pr) := hO6.cell 0
          have z16 : w6.cell? ⟨go, 1, none⟩ = some (.bool fr) := hO6.cell 1
          have hcn := hears_counts H5.out.2.2.2.2.1
          have Gr := HH.out.2.2.1.hears t1 H5.out.2.2.2.2.1
          have rd6 := H5.out.2.2.2.1.frm f6 n61
          have hbd := HH.out.2.2.2.2.2.1
          have H6 := Lib.hid (And.intro B6 (And.intro By6 (And.intro F6 (And.intro Gr (And.intro R6 (And.intro hn6 (And.intro rd6 (And.intro hcn hbd))))))))
          clear hhe z0 z1 n61 hgb By6 hO6 F6 hcn Gr R6 hb6 B6 f6 hn6 rd6 hbd
          by_cases hp : pr = 2
          · subst hp
            obtain ⟨r', hr'⟩ := hears_some tries c d st' 2 fr Lx
            have hcn := H6.out.2.2.2.2.2.2.2.1
            have hbd := H6.out.2.2.2.2.2.2.2.2
            have hhe := hear_any w6 g' tries c d st' 2 fr A1 K c1 Lx r' H6.out.2.1 t1 t16 HH.out.2.2.2.1 H6.out.2.2.2.2.2.2.1 HL.out.2.1 (by have := HL.out.2.2.1; omega) (HL.out.1.sml (by omega)) hr' (by omega) (by omega) (by omega) (by omega)
            have hsame := hears_same H5.out.2.2.2.2.1 hr' (by show st 2 = st' 2; exact HH.out.2.2.2.2.1)
            have hcn' := hears_counts hr'
            have Gr' := HH.out.2.2.2.1.hears t1 hr'
            obtain ⟨q1, q2, q3, q4⟩ := hsame
            have q4' : r.st 2 = r'.st 2 := q4 (by unfold isOut; omega)
            have HS := Lib.hid (And.intro q3 (And.intro q4' (And.intro hcn' (And.intro Gr' hr'))))
            rw [← q1, ← q2] at hhe
            clear hcn hbd q1 q2 q3 q4 q4' hcn' Gr' hr'
            go_wp2_with fail
            refine hhe.mono ?_
            rintro e w7 ⟨v7, rfl, R7, B7, f7⟩
            rw [← HS.out.1] at R7
            obtain ⟨A7, c7, rfl, hb7⟩ := Bin.of_row R7
            rw [H6.out.2.2.2.2.2.1]
            have n61' := H6.out.2.1.ne61
            have hgb' : ∃ cs, Blk w6 g' cs 52 := by obtain ⟨cs, hb, _⟩ := H6.out.2.1; exact ⟨cs, hb⟩
            obtain ⟨csg', hgb'⟩ := hgb'
            have R67 := own_frm H6.out.2.2.2.2.1 f7 (fun x cs hx e => by subst e; exact Blk.ne hx hgb' (by decide) rfl)
            have hb67 : Bin w7 A6 r.B := by
              obtain ⟨A8, c8, e8, hb8⟩ := Bin.of_row (L := r.B) R67
              injection e8 with e81
              subst e81
              exact hb8
            have s1 := hb67.str (c := c6) H6.out.2.2.2.2.2.1
            have s2 := hb7.str (c := c7) H6.out.2.2.2.2.2.1
            have Bx7 := H6.out.1.frm f7 hne n61'
            have F7 := H6.out.2.2.1.then f7 (fun x hx => .inr (by subst hx; exact hgl'))
            have T1 := tries_in w7 g tries _ _ r.st 2 Bx7 (by omega) (by omega)
            have T2 := tries_in w7 g' tries _ _ r'.st 2 B7 (by omega) (by omega)
            rw [← HS.out.2.1] at T2
            obtain ⟨tn, htn⟩ : ∃ tn, (r.st 2).2 = tn := ⟨_, rfl⟩
            rw [htn] at T1 T2
            have hcn := H6.out.2.2.2.2.2.2.2.1
            have hbd := H6.out.2.2.2.2.2.2.2.2
            have hcn' := HS.out.2.2.1
            have H7 := Lib.hid (show AP w w7 g g' tries (j + 1) from ⟨r.st, r'.st, _, _, _, _, Bx7, B7, H6.out.2.2.2.1, HS.out.2.2.2.1, HS.out.2.1, ⟨by omega, by push_cast; omega, by omega, by push_cast; omega, by omega, by push_cast; omega, by omega, by push_cast; omega⟩, F7⟩)
            clear hhe R7 hb7 n61' hgb' R67 hb67 Bx7 F7 B7 f7 hcn hbd hcn' htn
            go_wp2_with fail
            refine T1.mono ?_
            rintro e w8 ⟨rfl, rfl⟩
            go_wp2_with fail
            refine T2.mono ?_
            rintro e w8 ⟨rfl, rfl⟩
            go_wp2_with fail
            go_roundw
            case rel => exact ⟨j + 1, by go_num, by omega, H7.out⟩
            case measure => simp [intOf]; omega
          · have hoth := hears_other H5.out.2.2.2.2.1 2 (by omega)
            have hcn := H6.out.2.2.2.2.2.2.2.1
            have hbd := H6.out.2.2.2.2.2.2.2.2
            have H7 := Lib.hid (show AP w w6 g g' tries (j + 1) from ⟨r.st, st', _, _, c, d, H6.out.1, H6.out.2.1, H6.out.2.2.2.1, HH.out.2.2.2.1, hoth.trans HH.out.2.2.2.2.1, ⟨by omega, by push_cast; omega, by omega, by push_cast; omega, by omega, by push_cast; omega, by omega, by push_cast; omega⟩, H6.out.2.2.1⟩)
            clear hoth hcn hbd
            go_wp2_with fail
            go_roundw
            case rel => exact ⟨j + 1, by go_num, by omega, H7.out⟩
            case measure => simp [intOf]; omega
        · have FO := HH.out.2.2.2.2.2.2.thenN HO.out.2.1
          by_cases hl1 : (200 : Int) < (l : Int)
          · clear hl
            go_wp2_with fail
            refine (alive_yes _).mono ?_
            rintro e w7 ⟨rfl, f7⟩
            go_wp2_with fail
            go_ret
            exact ⟨rfl, FO.thenN f7⟩
          · have hl2 : (2000 : Int) < (m : Int) := by omega
            clear hl
            go_wp2_with fail
            refine (alive_yes _).mono ?_
            rintro e w7 ⟨rfl, f7⟩
            go_wp2_with fail
            go_ret
            exact ⟨rfl, FO.thenN f7⟩
      · have HF := Lib.hid HH.out.2.2.2.2.2.2
        clear HH
        by_cases hj2 : j < n2
        · have j1 : (j : Int) < (n2 : Int) := by omega
          have j2 : ¬ (j : Int) < 40 := by omega
          clear hgo
          go_wp2_with fail
          refine (alive_yes _).mono ?_
          rintro e w7 ⟨rfl, f7⟩
          go_wp2_with fail
          go_ret
          exact ⟨rfl, HF.out.thenN f7⟩
        · have j1 : ¬ (j : Int) < (n2 : Int) := by omega
          clear hgo
          go_wp2_with fail
          refine (alive_yes _).mono ?_
          rintro e w7 ⟨rfl, f7⟩
          go_wp2_with fail
          go_ret
          exact ⟨rfl, HF.out.thenN f7⟩
end Go.Proofs.Ytcdjofneijlbgaa.A

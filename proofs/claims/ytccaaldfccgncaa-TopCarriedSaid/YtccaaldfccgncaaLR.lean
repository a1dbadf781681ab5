/- lens.Read. -/
import Derived.Test.YtccaaldfccgncaaLA
namespace Go.Proofs.Ytccaaldfccgncaa.A
open Go.RowKit Go.Proofs.Ytccaaldfccgncaa.K
set_option linter.unusedVariables false
set_option linter.unusedSimpArgs false

theorem slice_h {t e : TypeId} (ht : Try.prog.underlying t = some (.slice e)) {s : Nat} (hz : ∀ w, (Go.sizeOf e).run Try.prog w = .ok s w) (A : Option Addr) (n c k : Nat) (hk : k ≤ c) (w : World) :
    (Instr.slice t (.slice A n c) none (some (.int .i64 (k : Int))) none).run Try.prog w = .ok (.slice A k c) w := by
  have he : Try.prog.elem t = e := by simp [Program.elem, ht]
  have ht' : Try.prog.underlying t = some (.slice (Try.prog.elem t)) := by rw [he]; exact ht
  rw [run_slice_h w t A n c ht' .i64 (k : Int) (by omega) (by omega), he, hz]
  have ea : A.map (·.add 0) = A := by cases A <;> simp [Addr.add]
  simp only [Result.andThen, sliced, Nat.zero_mul, Int.toNat_natCast, Nat.sub_zero, ea, ite_self]
theorem one_rds3 (w : World) (x : Int) : Rds (w.alloc (.cells #[.int .i64 x] 3)) 1 (some ⟨w.heap.size, 0, none⟩) 1 [.int .i64 x] := one_rds w (.int .i64 x) 3
/-- How far a reader is. -/
def farOf (w : World) (g : Nat) : Nat := match w.cell? ⟨g, 1, none⟩ with | some v => (intOf v).toNat | none => 0
theorem IsRd.far {w : World} {g at_ : Nat} {L : List Nat} (h : IsRd w g L at_) : farOf w g = at_ := by
  obtain ⟨v, hb, _⟩ := h
  have := hb.cell 1
  unfold farOf
  rw [this]
  show ((at_ : Int)).toNat = at_
  omega
def ptrOf : Value → Nat | .pointer (some a) => a.block | _ => 0
set_option maxRecDepth 100000 in
theorem fr63 {a : Act} {x1 x7 x8 : Value} (hs : a.tmps.size = 69) (hd : a.defers = []) (h1 : a.tmps.getD 1 undef = x1) (h7 : a.tmps.getD 7 undef = x7) (h8 : a.tmps.getD 8 undef = x8) : ∃ U : Nat → Value, a = ⟨#[U 0, x1, U 2, U 3, U 4, U 5, U 6, x7, x8, U 9, U 10, U 11, U 12, U 13, U 14, U 15, U 16, U 17, U 18, U 19, U 20, U 21, U 22, U 23, U 24, U 25, U 26, U 27, U 28, U 29, U 30, U 31, U 32, U 33, U 34, U 35, U 36, U 37, U 38, U 39, U 40, U 41, U 42, U 43, U 44, U 45, U 46, U 47, U 48, U 49, U 50, U 51, U 52, U 53, U 54, U 55, U 56, U 57, U 58, U 59, U 60, U 61, U 62, U 63, U 64, U 65, U 66, U 67, U 68], []⟩ := by
  have e := act_frame a 69 hs hd
  obtain ⟨f, hf⟩ : ∃ f : Nat → Value, (fun i => a.tmps.getD i undef) = f := ⟨_, rfl⟩
  rw [hf, show ((List.range 69).map f).toArray = #[f 0, f 1, f 2, f 3, f 4, f 5, f 6, f 7, f 8, f 9, f 10, f 11, f 12, f 13, f 14, f 15, f 16, f 17, f 18, f 19, f 20, f 21, f 22, f 23, f 24, f 25, f 26, f 27, f 28, f 29, f 30, f 31, f 32, f 33, f 34, f 35, f 36, f 37, f 38, f 39, f 40, f 41, f 42, f 43, f 44, f 45, f 46, f 47, f 48, f 49, f 50, f 51, f 52, f 53, f 54, f 55, f 56, f 57, f 58, f 59, f 60, f 61, f 62, f 63, f 64, f 65, f 66, f 67, f 68] from rfl] at e
  refine ⟨f, ?_⟩
  have hi : ∀ i, f i = a.tmps.getD i undef := fun i => by rw [← hf]
  rw [e]
  simp only [show f 1 = x1 from (hi 1).trans h1, show f 7 = x7 from (hi 7).trans h7, show f 8 = x8 from (hi 8).trans h8]

set_option maxRecDepth 100000 in
set_option maxHeartbeats 4000000 in
theorem lens_read (w : World) (A : Option Addr) (m c n : Nat) (L ns rest : List Nat) (h : Bin w A L) (hL : L = pk (lb ns n) ++ rest) (hm : L.length = m) (hmc : m ≤ c) (hm9 : m ≤ 4000) (h256 : ∀ x ∈ L, x < 256) (hn : ns.length = n) (n1 : 1 ≤ n) (n23 : n ≤ 23) (hns : ∀ x ∈ ns, 1 ≤ x ∧ x < 2048) :
    Calls Try.prog 63 #[.slice A m c, .int .i64 11] w fun e w' => ∃ v, e = .returned (.tuple #[v, .int .i64 (sizeL n : Nat), .int .i64 0]) ∧ RowN w' w.heap.size v ns ∧ Frm No w w' := by
  have hlw := lenwidth w
  have hls := lensize w 23 (by omega)
  have hpl : (pk (lb ns n)).length = (12 * n + 7) / 8 := by rw [pk_len, lb_len]
  have hplm : (pk (lb ns n)).length ≤ m := by rw [← hm, hL, List.length_append]; omega
  obtain ⟨mm, hmm⟩ : ∃ mm, (if m ≤ 35 then m else 35) = mm := ⟨_, rfl⟩
  have hmm1 : mm ≤ m ∧ mm ≤ 35 ∧ (12 * n + 7) / 8 ≤ mm := by rw [← hmm]; split <;> omega
  obtain ⟨LL, hLL⟩ : ∃ LL, L.take mm = LL := ⟨_, rfl⟩
  have hLe : LL = pk (lb ns n) ++ rest.take (mm - (pk (lb ns n)).length) := by rw [← hLL, hL, List.take_append, List.take_of_length_le (by omega)]
  have hLl : LL.length = mm := by rw [← hLL, List.length_take]; omega
  have h256' : ∀ x ∈ LL, x < 256 := fun x hx => by rw [← hLL] at hx; exact h256 x (List.mem_of_mem_take hx)
  have hsl := fun W => slice_h Try.underlying24 size5 A m c mm (by omega) W
  have hrd := rd_new w A mm c LL (by rw [← hLL]; exact h.take mm) hLl (by omega) (by omega)
  have hval := fun k (hk : k < n) => lb_read (ns := ns) (rest := rest.take (mm - (pk (lb ns n)).length)) (k := k) (by omega) (fun x hx => (hns x hx).2)
  rw [hn, ← hLe] at hval
  have hpad := fun k (hk : 12 * n + k ≤ 8 * ((12 * n + 7) / 8)) => valB_pad (rest := rest.take (mm - (pk (lb ns n)).length)) (lb_bits ns n) k (by rw [lb_len, hpl]; exact hk)
  rw [← hLe, lb_len] at hpad
  have H := Lib.hid (And.intro hn (And.intro hns (And.intro h256' (And.intro hLl (And.intro hmm1 (And.intro hval hpad))))))
  have HMM := Lib.hid hmm
  clear h hL hm h256 hn hns hpl hplm hmm hLL hLe hLl h256' hval hpad
  have m9 : (m : Int) ≤ 4000 := by omega
  go_enter Try.func63, Try.ntmps63
  go_wp2_with fail
  refine wp_scope_pass 0 (fun a' wr => ∃ (k : Nat) (vo : Value) (g : Nat), a'.tmps.size = 69 ∧ a'.defers = [] ∧ a'.tmps.getD 1 undef = .int .i64 11 ∧ a'.tmps.getD 7 undef = vo ∧ a'.tmps.getD 8 undef = .pointer (some ⟨g, 0, none⟩) ∧ k < n ∧ w.heap.size ≤ g ∧ IsRd wr g LL (12 * k) ∧ RowN wr w.heap.size vo (ns.take k) ∧ Frm No w wr) (fun a wr => 12 * n - farOf wr (ptrOf (a.tmps.getD 8 undef))) rfl ?_ ?_
  · rintro a' wr ⟨k, vo, g, hs', hd', e1', e7', e8', hk, hg, hR, hO, hF⟩
    obtain ⟨U, rfl⟩ := fr63 hs' hd' e1' e7' e8'
    clear hs' hd' e1' e7' e8'
    have hv := H.out.2.2.2.2.2.1 k hk
    have hx := H.out.2.1 (ns.getD k 0) (by rw [List.getD_eq_getElem?_getD, List.getElem?_eq_getElem (by rw [H.out.1]; exact hk)]; exact List.getElem_mem _)
    obtain ⟨x, hxx⟩ : ∃ x, ns.getD k 0 = x := ⟨_, rfl⟩
    obtain ⟨m1, hm1⟩ : ∃ m1, moreOf ns k = m1 := ⟨_, rfl⟩
    rw [hxx] at hv hx
    rw [hm1] at hv
    have hmm := H.out.2.2.2.2.1
    have hg1 := rd_get wr g (12 * k) 1 LL hR (by rw [H.out.2.2.2.1]; omega) H.out.2.2.1 (by omega) (by rw [H.out.2.2.2.1]; omega)
    rw [hv.1] at hg1
    have hmo : m1 = if k + 1 < n then 1 else 0 := by rw [← hm1]; unfold moreOf; rw [H.out.1]
    have htk : ns.take (k + 1) = ns.take k ++ [x] := by rw [take_one 0 (by rw [H.out.1]; exact hk), hxx]
    have hol : (ns.take k).length = k := by rw [List.length_take, H.out.1]; omega
    obtain ⟨A0, c0, rfl, -, -⟩ := hO.out hol
    have xz : ((x : Int) == 0) = false := by rw [beq_eq_false_iff_ne]; omega
    have x2 : (x : Int) < 2048 := by omega
    have pwx : IntKind.i64.wrap (x : Int) = (x : Int) := IntWalk.i64_in _ ⟨by omega, by omega⟩
    have k22 : (k : Int) ≤ 22 := by omega
    have k0 : (0 : Int) ≤ (k : Int) := Int.natCast_nonneg _
    have n33 : ∀ W x cs, (∃ cs', Blk W g cs' 144) → Blk W x cs 3 → ¬ (x = g) := fun W x cs hb hx e => by obtain ⟨cs', hb⟩ := hb; subst e; exact Blk.ne hx hb (by decide) rfl
    have HK := Lib.hid (And.intro hR (And.intro hO (And.intro hF (And.intro hg (And.intro hk (And.intro hv (And.intro htk (And.intro hol (And.intro hmo (And.intro n33 hmm))))))))))
    clear hR hO hF hg hv htk hol hmo hxx hm1 hmm n33 hls hrd hlw
    go_wp2_with fail
    refine hg1.mono ?_
    rintro e w2 ⟨rfl, R2, F2⟩
    have hg2 := rd_get w2 g (12 * k + 1) 11 LL R2 (by rw [H.out.2.2.2.1]; have := H.out.2.2.2.2.1; omega) H.out.2.2.1 (by omega) (by rw [H.out.2.2.2.1]; have := H.out.2.2.2.2.1; omega)
    rw [HK.out.2.2.2.2.2.1.2] at hg2
    have HR2 := Lib.hid (And.intro R2 (And.intro (HK.out.2.2.1.then F2 (fun x hx => .inr (by subst hx; exact HK.out.2.2.2.1))) (own_frm HK.out.2.1 F2 (fun x cs hx => HK.out.2.2.2.2.2.2.2.2.2.1 _ x cs HK.out.1.blk hx))))
    clear R2 F2 hg1
    go_wp2_with fail
    refine hg2.mono ?_
    rintro e w3 ⟨rfl, R3, F3⟩
    have O3 := own_frm HR2.out.2.2 F3 (fun x cs hx => HK.out.2.2.2.2.2.2.2.2.2.1 _ x cs HR2.out.1.blk hx)
    have F03 := HR2.out.2.1.then F3 (fun x hx => .inr (by subst hx; exact HK.out.2.2.2.1))
    rw [HK.out.2.2.2.2.2.2.2.1] at O3
    have own1 := World.ownsRow.alloc O3 (.cells #[.int .i64 (x : Int)] 3)
    have hrd3 := one_rds3 w3 (x : Int)
    obtain ⟨j0, hi0, hz0, hz1, hz2⟩ := info_parts info3
    have hsz : w.heap.size ≤ (w3.alloc (.cells #[.int .i64 (x : Int)] 3)).heap.size := (F03.alloc _).size
    have F04 := F03.alloc (.cells #[.int .i64 (x : Int)] 3)
    have H3 := Lib.hid (And.intro R3 (And.intro F03 F04))
    clear R3 F3 O3 F03 F04 hg2
    by_cases hlast : k + 1 < n
    · have hm1' : m1 = 1 := by rw [HK.out.2.2.2.2.2.2.2.2.1, if_pos hlast]
      subst hm1'
      have kz : ((k : Int) + 1 == 23) = false := by rw [beq_eq_false_iff_ne]; omega
      go_upto_region 14 with (at_builtin; go_must (refine wpList_append_rds _ rfl _ _ 105 rfl w.heap.size 3 j0 _ 1 8 Try.underlying105 hi0 hz0 hz1 hz2 rfl (by omega) (.slice A0 k c0) k ((ns.take k).map nv) rfl own1 (some ⟨w3.heap.size, 0, none⟩) 1 1 [.int .i64 (x : Int)] rfl hrd3 (by simp [Value.oneCell']) (by unfold maxLen; omega) (by omega) hsz ?_; intro v4 w4 own4 hg4; obtain ⟨A4, c4, rfl, -, -⟩ := own_is own4))
      have F4 := own_grown own1 H3.out.2.2 (Nat.le_refl _) hg4
      have R4 : IsRd w4 g LL (12 * (k + 1)) := by
        have FA : Frm (fun y => (Value.slice A0 k c0).ownBlock = some y) w3 w4 := ((Frm.refl (fun y => (Value.slice A0 k c0).ownBlock = some y) w3).alloc _).grown hg4 (fun q e => .inl e)
        have nb : ∀ t, t ≠ 3 → ∀ y cs, Blk w3 y cs t → ¬ ((Value.slice A0 k c0).ownBlock = some y) := fun t ht y cs hy e => by
          obtain ⟨_, cs', hb⟩ := own_blk own1 e
          exact Blk.ne (hy.alloc (.cells #[.int .i64 (x : Int)] 3)) hb ht rfl
        obtain ⟨v, hb, hr⟩ := H3.out.1
        rw [show 12 * (k + 1) = 12 * k + 1 + 11 by omega]
        exact ⟨v, FA.blk hb (nb 144 (by decide) _ _ hb), own_frm hr FA (nb 5 (by decide))⟩
      have O4 : RowN w4 w.heap.size (.slice A4 (k + 1) c4) (ns.take (k + 1)) := by
        rw [HK.out.2.2.2.2.2.2.1]
        unfold RowN
        rw [List.length_append, HK.out.2.2.2.2.2.2.2.1, List.map_append]
        exact own4
      have H4 := Lib.hid (And.intro F4 (And.intro R4 O4))
      clear F4 R4 O4 own4 hg4 own1 hrd3 hsz hi0 hz0 hz1 hz2
      go_wp2_with fail
      try go_step3
      refine ⟨rfl, ⟨k + 1, _, g, rfl, rfl, rfl, rfl, rfl, hlast, HK.out.2.2.2.1, H4.out.2.1, H4.out.2.2, H4.out.1⟩, ?_⟩
      show 12 * n - farOf w4 g < 12 * n - farOf wr g
      rw [H4.out.2.1.far, HK.out.1.far]
      omega
    · have hm1' : m1 = 0 := by rw [HK.out.2.2.2.2.2.2.2.2.1, if_neg hlast]
      subst hm1'
      have hkn : RowKit.Hid (k + 1 = n) := (show k + 1 = n by omega)
      clear hlast
      go_upto_region 14 with (at_builtin; go_must (refine wpList_append_rds _ rfl _ _ 105 rfl w.heap.size 3 j0 _ 1 8 Try.underlying105 hi0 hz0 hz1 hz2 rfl (by omega) (.slice A0 k c0) k ((ns.take k).map nv) rfl own1 (some ⟨w3.heap.size, 0, none⟩) 1 1 [.int .i64 (x : Int)] rfl hrd3 (by simp [Value.oneCell']) (by unfold maxLen; omega) (by omega) hsz ?_; intro v4 w4 own4 hg4; obtain ⟨A4, c4, rfl, -, -⟩ := own_is own4))
      have F4 := own_grown own1 H3.out.2.2 (Nat.le_refl _) hg4
      have R4 : IsRd w4 g LL (12 * (k + 1)) := by
        have FA : Frm (fun y => (Value.slice A0 k c0).ownBlock = some y) w3 w4 := ((Frm.refl (fun y => (Value.slice A0 k c0).ownBlock = some y) w3).alloc _).grown hg4 (fun q e => .inl e)
        have nb : ∀ t, t ≠ 3 → ∀ y cs, Blk w3 y cs t → ¬ ((Value.slice A0 k c0).ownBlock = some y) := fun t ht y cs hy e => by
          obtain ⟨_, cs', hb⟩ := own_blk own1 e
          exact Blk.ne (hy.alloc (.cells #[.int .i64 (x : Int)] 3)) hb ht rfl
        obtain ⟨v, hb, hr⟩ := H3.out.1
        rw [show 12 * (k + 1) = 12 * k + 1 + 11 by omega]
        exact ⟨v, FA.blk hb (nb 144 (by decide) _ _ hb), own_frm hr FA (nb 5 (by decide))⟩
      have O4 : RowN w4 w.heap.size (.slice A4 (k + 1) c4) (ns.take (k + 1)) := by
        rw [HK.out.2.2.2.2.2.2.1]
        unfold RowN
        rw [List.length_append, HK.out.2.2.2.2.2.2.2.1, List.map_append]
        exact own4
      have H4 := Lib.hid (And.intro F4 (And.intro R4 O4))
      clear F4 R4 O4 own4 hg4 own1 hrd3 hsz hi0 hz0 hz1 hz2
      have R4 := H4.out.2.1
      rw [hkn.out] at R4
      obtain ⟨pad, hpd⟩ : ∃ pad, (8 - 12 * n % 8) % 8 = pad := ⟨_, rfl⟩
      have hrs := rd_rest w4 g (12 * n) pad LL R4 (by rw [H.out.2.2.2.1]; have := H.out.2.2.2.2.1; omega) H.out.2.2.1 hpd (H.out.2.2.2.2.2.2 pad (by omega)) (by rw [H.out.2.2.2.1]; have := H.out.2.2.2.2.1; omega)
      have HN := Lib.hid (And.intro hkn.out R4)
      have hlz : ∀ W, Calls Try.prog 26 #[.int .i64 ((k : Int) + 1), .int .i64 11] W fun e w' => e = .returned (.int .i64 (sizeL (k + 1) : Nat)) ∧ w' = W := fun W => by
        have e : ((k + 1 : Nat) : Int) = (k : Int) + 1 := by push_cast; rfl
        have := lensize W (k + 1) (by omega)
        rw [e] at this
        exact this
      clear R4 hpd hkn
      go_wp2_with fail
      refine hrs.mono ?_
      rintro e w5 ⟨⟨v5, rfl⟩, F5⟩
      have O5 := own_frm H4.out.2.2 F5 (fun y cs hy => HK.out.2.2.2.2.2.2.2.2.2.1 _ y cs H4.out.2.1.blk hy)
      have H5 := Lib.hid (And.intro O5 (H4.out.1.then F5 (fun y hy => .inr (by subst hy; exact HK.out.2.2.2.1))))
      clear O5 F5 hrs
      go_wp2_with fail
      refine (hlz _).mono ?_
      rintro e wq ⟨rfl, hwx⟩
      have hwx2 := hwx.symm
      clear hwx
      subst hwx2
      go_wp2_with fail
      try simp only [Exit.jump]
      go_ret3
      have h1 := H5.out.1
      rw [HN.out.1, List.take_of_length_le (by rw [H.out.1]; exact Nat.le_refl _)] at h1
      have e5 : sizeL (k + 1) = sizeL n := by rw [HN.out.1]
      refine ⟨_, by rw [← e5]; rfl, ?_, H5.out.2⟩
      have e6 : ns.length = k + 1 := by rw [H.out.1, HN.out.1]
      have e7 : ∀ B, RowN w5 B (.slice A4 (k + 1) c4) ns = RowN w5 B (.slice A4 (k + 1) c4) ns := fun _ => rfl
      show RowN w5 w.heap.size (.slice A4 (k + 1) c4) ns
      rw [HN.out.1]
      exact h1
  · intro hpass
    by_cases hm35 : m ≤ 35
    · have hmi : (m : Int) ≤ 35 := by omega
      have e : mm = m := by rw [← HMM.out, if_pos hm35]
      subst e
      clear hm35
      go_wp2_with fail
      refine hlw.mono ?_
      rintro e wq ⟨rfl, hwx⟩
      have hwx2 := hwx.symm
      clear hwx
      subst hwx2
      go_wp2_with fail
      refine hls.mono ?_
      rintro e wq ⟨rfl, hwx⟩
      have hwx2 := hwx.symm
      clear hwx
      subst hwx2
      rw [show sizeL 23 = 35 from rfl]
      go_wp2_with fail
      refine hrd.mono ?_
      rintro e w1 ⟨g, rfl, hgl, R1, F1⟩
      have H1 := Lib.hid (And.intro hgl (And.intro R1 F1))
      clear hgl R1 F1 hrd
      go_wp2_with fail
      go_step3
      refine (by assumption : ∀ (a : Act) (w : World), Code.wp Try.prog _ _ a w → _) _ _ (hpass _ _ ?_)
      exact ⟨0, _, g, rfl, rfl, rfl, rfl, rfl, by omega, H1.out.1, H1.out.2.1, World.ownsRow_nil _ _ _ _, H1.out.2.2⟩
    · have hmi : ¬ (m : Int) ≤ 35 := by omega
      have e : mm = 35 := by rw [← HMM.out, if_neg hm35]
      subst e
      clear hm35
      go_wp2_with fail
      refine hlw.mono ?_
      rintro e wq ⟨rfl, hwx⟩
      have hwx2 := hwx.symm
      clear hwx
      subst hwx2
      go_wp2_with fail
      refine hls.mono ?_
      rintro e wq ⟨rfl, hwx⟩
      have hwx2 := hwx.symm
      clear hwx
      subst hwx2
      rw [show sizeL 23 = 35 from rfl]
      go_wp2_with fail
      refine hrd.mono ?_
      rintro e w1 ⟨g, rfl, hgl, R1, F1⟩
      have H1 := Lib.hid (And.intro hgl (And.intro R1 F1))
      clear hgl R1 F1 hrd
      go_wp2_with fail
      go_step3
      refine (by assumption : ∀ (a : Act) (w : World), Code.wp Try.prog _ _ a w → _) _ _ (hpass _ _ ?_)
      exact ⟨0, _, g, rfl, rfl, rfl, rfl, rfl, by omega, H1.out.1, H1.out.2.1, World.ownsRow_nil _ _ _ _, H1.out.2.2⟩
end Go.Proofs.Ytccaaldfccgncaa.A

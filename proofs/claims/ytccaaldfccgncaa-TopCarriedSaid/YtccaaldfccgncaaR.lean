/- The reader of bits: Read, Left, Get. -/
import Derived.Test.YtccaaldfccgncaaWB
namespace Go.Proofs.Ytccaaldfccgncaa.A
open Go.RowKit Go.Proofs.Ytccaaldfccgncaa.K
set_option linter.unusedVariables false
set_option linter.unusedSimpArgs false

def bitAt (L : List Nat) (i : Nat) : Nat := L.getD (i / 8) 0 / 2 ^ (7 - i % 8) % 2
def valB (L : List Nat) (at_ : Nat) : Nat → Nat
  | 0 => 0
  | n + 1 => 2 * valB L at_ n + bitAt L (at_ + n)
theorem valB_lt (L : List Nat) (at_ : Nat) : ∀ n, valB L at_ n < 2 ^ n
  | 0 => by show 0 < 1; omega
  | n + 1 => by
    have h1 := valB_lt L at_ n
    have h2 : bitAt L (at_ + n) < 2 := Nat.mod_lt _ (by omega)
    show 2 * valB L at_ n + bitAt L (at_ + n) < 2 ^ (n + 1)
    rw [Nat.pow_succ]
    omega
def IsRd (w : World) (g : Nat) (L : List Nat) (at_ : Nat) : Prop := ∃ v, Blk w g #[v, .int .i64 (at_ : Int)] 144 ∧ RowB w 0 v L
theorem IsRd.blk {w : World} {g at_ : Nat} {L : List Nat} (h : IsRd w g L at_) : ∃ cs, Blk w g cs 144 := by obtain ⟨v, hb, _⟩ := h; exact ⟨_, hb⟩
theorem IsRd.frmN {w w' : World} {g at_ : Nat} {L : List Nat} (h : IsRd w g L at_) (f : Frm No w w') : IsRd w' g L at_ := by
  obtain ⟨v, hb, hr⟩ := h
  exact ⟨v, f.blk hb (fun h => h), hr.frmN f⟩
set_option maxRecDepth 100000 in
set_option maxHeartbeats 2000000 in
theorem rd_new (w : World) (A : Option Addr) (n c : Nat) (L : List Nat) (h : Bin w A L) (hn : L.length = n) (hn9 : n ≤ 8000) (hnc : n ≤ c) : Calls Try.prog 61 #[.slice A n c] w fun e w' => ∃ g, e = .returned (.pointer (some ⟨g, 0, none⟩)) ∧ w.heap.size ≤ g ∧ IsRd w' g L 0 ∧ Frm No w w' := by
  have hc := cloneB w A n n L h hn (by omega)
  have hsl := fun W => slice_hm Try.underlying24 size5 A n c n hnc W
  have n1 : (n : Int) ≤ 8000 := by omega
  have n2 : (n : Int) ≤ 8192 := by omega
  have HN := Lib.hid hn
  clear h hn
  go_enter Try.func61, Try.ntmps61
  go_wp2_with fail
  refine hc.mono ?_
  rintro e w1 ⟨v1, rfl, R1, F1⟩
  obtain ⟨A1, c1, rfl, -, -⟩ := R1.outn HN.out
  have F2 := F1.alloc (.cells #[.slice A1 n c1, .int .i64 0] 144)
  have B2 := Blk.new w1 #[.slice A1 n c1, .int .i64 0] 144
  have H1 := Lib.hid (And.intro R1 (And.intro F1 (And.intro F2 B2)))
  clear R1 F1 F2 B2
  go_wp2_with fail
  go_ret
  exact ⟨_, rfl, H1.out.2.1.size, ⟨_, H1.out.2.2.2, own_frm (H1.out.1.lower (Nat.zero_le _)) ((Frm.refl No w1).alloc _) (fun _ _ _ h => h)⟩, H1.out.2.2.1⟩
set_option maxRecDepth 100000 in
set_option maxHeartbeats 2000000 in
theorem rd_left (w : World) (g at_ : Nat) (L : List Nat) (h : IsRd w g L at_) (hl : L.length ≤ 8000) (ha : at_ ≤ 100000) : Calls Try.prog 84 #[.pointer (some ⟨g, 0, none⟩)] w fun e w' => e = .returned (.int .i64 ((L.length : Int) * 8 - at_)) ∧ Frm No w w' := by
  obtain ⟨v, hb, hr⟩ := h
  obtain ⟨l, hll⟩ : ∃ l, L.length = l := ⟨_, rfl⟩
  obtain ⟨A, c, rfl, -, -⟩ := hr.outn hll
  rw [hll] at hl ⊢
  have k0 : w.cell? ⟨g, 0, none⟩ = some (.slice A l c) := hb.cell 0
  have k1 : w.cell? ⟨g, 1, none⟩ = some (.int .i64 (at_ : Int)) := hb.cell 1
  have p1 : IntKind.i64.wrap ((l : Int) * 8) = (l : Int) * 8 := IntWalk.i64_in _ ⟨by omega, by omega⟩
  have p2 : IntKind.i64.wrap ((l : Int) * 8 - (at_ : Int)) = (l : Int) * 8 - (at_ : Int) := IntWalk.i64_in _ ⟨by omega, by omega⟩
  clear hb hr hll
  go_enter Try.func84, Try.ntmps84
  go_wp2_with fail
  go_quiet (fail)
  go_wp2_with fail
  go_ret
  exact ⟨rfl, (Frm.refl No w).drewN _⟩
set_option maxRecDepth 100000 in
theorem fr62 {a : Act} {x0 x1 x6 x7 : Value} (hs : a.tmps.size = 66) (hd : a.defers = []) (h0 : a.tmps.getD 0 undef = x0) (h1 : a.tmps.getD 1 undef = x1) (h6 : a.tmps.getD 6 undef = x6) (h7 : a.tmps.getD 7 undef = x7) : ∃ U : Nat → Value, a = ⟨#[x0, x1, U 2, U 3, U 4, U 5, x6, x7, U 8, U 9, U 10, U 11, U 12, U 13, U 14, U 15, U 16, U 17, U 18, U 19, U 20, U 21, U 22, U 23, U 24, U 25, U 26, U 27, U 28, U 29, U 30, U 31, U 32, U 33, U 34, U 35, U 36, U 37, U 38, U 39, U 40, U 41, U 42, U 43, U 44, U 45, U 46, U 47, U 48, U 49, U 50, U 51, U 52, U 53, U 54, U 55, U 56, U 57, U 58, U 59, U 60, U 61, U 62, U 63, U 64, U 65], []⟩ := by
  have e := act_frame a 66 hs hd
  obtain ⟨f, hf⟩ : ∃ f : Nat → Value, (fun i => a.tmps.getD i undef) = f := ⟨_, rfl⟩
  rw [hf, show ((List.range 66).map f).toArray = #[f 0, f 1, f 2, f 3, f 4, f 5, f 6, f 7, f 8, f 9, f 10, f 11, f 12, f 13, f 14, f 15, f 16, f 17, f 18, f 19, f 20, f 21, f 22, f 23, f 24, f 25, f 26, f 27, f 28, f 29, f 30, f 31, f 32, f 33, f 34, f 35, f 36, f 37, f 38, f 39, f 40, f 41, f 42, f 43, f 44, f 45, f 46, f 47, f 48, f 49, f 50, f 51, f 52, f 53, f 54, f 55, f 56, f 57, f 58, f 59, f 60, f 61, f 62, f 63, f 64, f 65] from rfl] at e
  refine ⟨f, ?_⟩
  have hi : ∀ i, f i = a.tmps.getD i undef := fun i => by rw [← hf]
  rw [e]
  simp only [show f 0 = x0 from (hi 0).trans h0, show f 1 = x1 from (hi 1).trans h1, show f 6 = x6 from (hi 6).trans h6, show f 7 = x7 from (hi 7).trans h7]

set_option maxRecDepth 100000 in
set_option maxHeartbeats 4000000 in
theorem rd_get (w : World) (g at_ n : Nat) (L : List Nat) (h : IsRd w g L at_) (hl : L.length ≤ 8000) (h256 : ∀ c ∈ L, c < 256) (hn : n ≤ 11) (ha : at_ + n ≤ 8 * L.length) :
    Calls Try.prog 62 #[.pointer (some ⟨g, 0, none⟩), .int .i64 n] w fun e w' => e = .returned (.tuple #[.int .u64 (valB L at_ n : Nat), .int .i64 0]) ∧ IsRd w' g L (at_ + n) ∧ Frm (fun x => x = g) w w' := by
  have hlf := rd_left w g at_ L h hl (by omega)
  obtain ⟨l, hll⟩ : ∃ l, L.length = l := ⟨_, rfl⟩
  rw [hll] at hlf hl ha
  have n0 : (0 : Int) ≤ (n : Int) := Int.natCast_nonneg _
  have n11 : (n : Int) ≤ 11 := by omega
  have hfit : ¬ (l : Int) * 8 - (at_ : Int) < (n : Int) := by omega
  have pwa : IntKind.i64.wrap ((at_ : Int) + (n : Int)) = (at_ : Int) + (n : Int) := IntWalk.i64_in _ ⟨by omega, by omega⟩
  have H := Lib.hid (And.intro h (And.intro h256 (And.intro hll (And.intro ha hl))))
  clear h h256 hll
  go_enter Try.func62, Try.ntmps62
  go_wp2_with fail
  refine wp_scope_pass 0 (fun a' wr => ∃ (k : Nat), a'.tmps.size = 66 ∧ a'.defers = [] ∧ a'.tmps.getD 0 undef = .pointer (some ⟨g, 0, none⟩) ∧ a'.tmps.getD 1 undef = .int .i64 (n : Int) ∧ a'.tmps.getD 6 undef = .int .u64 (valB L at_ k : Nat) ∧ a'.tmps.getD 7 undef = .int .i64 ((at_ + n : Nat) : Int) ∧ k ≤ n ∧ IsRd wr g L (at_ + k) ∧ Frm (fun x => x = g) w wr) (fun _ wr => at_ + n - (match wr.cell? ⟨g, 1, none⟩ with | some v => (intOf v).toNat | none => 0)) rfl ?_ ?_
  · rintro a' wr ⟨k, hs', hd', e0', e1', e6', e7', hk, hR, hF⟩
    obtain ⟨U, rfl⟩ := fr62 hs' hd' e0' e1' e6' e7'
    clear hs' hd' e0' e1' e6' e7'
    obtain ⟨v, hb, hr⟩ := hR
    obtain ⟨A, c, rfl, -, hbt⟩ := hr.outn H.out.2.2.1
    have k0' : wr.cell? ⟨g, 0, none⟩ = some (.slice A l c) := hb.cell 0
    have k1' : wr.cell? ⟨g, 1, none⟩ = some (.int .i64 ((at_ + k : Nat) : Int)) := hb.cell 1
    have z1 : wr.frozen? ⟨g, 1, none⟩ = false := hb.free 1
    have hgl := hb.lt
    obtain ⟨V, hV⟩ : ∃ V, valB L at_ k = V := ⟨_, rfl⟩
    obtain ⟨p, hp⟩ : ∃ p, at_ + k = p := ⟨_, rfl⟩
    obtain ⟨t9, hto⟩ : ∃ t9, at_ + n = t9 := ⟨_, rfl⟩
    rw [hp] at k1' hb
    rw [hV, hto]
    by_cases hkn : k < n
    · have p1 : (p : Int) < (t9 : Int) := by omega
      have hcell := hbt.bin.at_ (i := p / 8) (by rw [H.out.2.2.1]; have := H.out.2.2.2; omega)
      obtain ⟨ad, rfl, -, hc⟩ := hcell
      obtain ⟨j, hj⟩ : ∃ j : Nat, p / 8 = j := ⟨_, rfl⟩
      obtain ⟨r, hr8⟩ : ∃ r : Nat, p % 8 = r := ⟨_, rfl⟩
      obtain ⟨s, hs⟩ : ∃ s : Nat, 7 - r = s := ⟨_, rfl⟩
      obtain ⟨x, hx⟩ : ∃ x, L.getD j 0 = x := ⟨_, rfl⟩
      have hbit : bitAt L p = x / 2 ^ s % 2 := by unfold bitAt; rw [hj, hr8, hs, hx]
      have hx256 : x < 256 := by rw [← hx]; exact getD_lt H.out.2.1 j
      rw [hj, hx] at hc
      obtain ⟨y, hy⟩ : ∃ y, x / 2 ^ s = y := ⟨_, rfl⟩
      have hy256 : y < 256 := by rw [← hy]; have := Nat.div_le_self x (2 ^ s); omega
      have hdv : (x : Int) / 2 ^ s = (y : Int) := by rw [← hy]; push_cast; rfl
      obtain ⟨b, hb2⟩ : ∃ b, y % 2 = b := ⟨_, rfl⟩
      have hb1 : b ≤ 1 := by omega
      have hand : bits .and .u8 (y : Int) 1 = (b : Int) := by rw [← hb2]; exact and8 hy256
      have hV9 : V < 1024 := by rw [← hV]; exact Nat.lt_of_lt_of_le (valB_lt L at_ k) (Nat.le_trans (Nat.pow_le_pow_right (by decide) (show k ≤ 10 by omega)) (by decide))
      obtain ⟨V2, hV2⟩ : ∃ V2, 2 * V + b = V2 := ⟨_, rfl⟩
      have hor : bits .or .u64 (2 * (V : Int)) (b : Int) = (V2 : Int) := by
        have := or64 (x := V) (b := b) (by omega) hb1
        rw [hV2] at this
        rw [← this]; push_cast; rfl
      have pwp : IntKind.i64.wrap ((p : Int) + 1) = (p : Int) + 1 := IntWalk.i64_in _ ⟨by omega, by have := H.out; omega⟩
      have e1 : (p : Int).tmod 8 = (r : Int) := by rw [Int.tmod_eq_emod_of_nonneg (by omega)]; omega
      have e1' : (p : Int) % 8 = (r : Int) := by omega
      have e2 : (p : Int).tdiv 8 = (j : Int) := by rw [Int.tdiv_eq_ediv_of_nonneg (by omega)]; omega
      have e2' : (p : Int) / 8 = (j : Int) := by omega
      have pwj : IntKind.i64.wrap (j : Int) = (j : Int) := IntWalk.i64_in _ ⟨by omega, by have := H.out; omega⟩
      have hsr : (7 : Int) - (r : Int) = (s : Int) := by omega
      have pws : IntKind.i64.wrap (s : Int) = (s : Int) := IntWalk.i64_in _ ⟨by omega, by omega⟩
      have s0 : (0 : Int) ≤ (s : Int) := Int.natCast_nonneg _
      have s8 : (s : Int) < 8 := by omega
      have j0 : (0 : Int) ≤ (j : Int) := Int.natCast_nonneg _
      have jl : (j : Int) < (l : Int) := by have := H.out; omega
      have jl' : j < l := by omega
      have pwV : IntKind.u64.wrap ((V : Int) * 2) = ((2 * V : Nat) : Int) := by rw [IntWalk.u64_in _ ⟨by omega, by omega⟩]; push_cast; omega
      have pwb : IntKind.u64.wrap (b : Int) = (b : Int) := IntWalk.u64_in _ ⟨by omega, by omega⟩
      have HK := Lib.hid (And.intro hb (And.intro hr (And.intro hF (And.intro hk (And.intro hV (And.intro hp (And.intro hto (And.intro hbit (And.intro hy (And.intro hb2 hV2))))))))))
      clear hb hr hF hk hV hp hto hbit hy hb2 hV2 hbt hj hr8 hs hx
      go_upto_region 10 with fail
      go_quiet (fail)
      go_wp2_with fail
      try go_step3
      have FS : Frm (fun x => x = g) wr ((wr.setCell ⟨g, 1, none⟩ (.int .i64 ((p : Int) + 1))).drewN nq) := ((Frm.refl (fun x => x = g) wr).self 1 _).drewN nq
      have hv2 : valB L at_ (k + 1) = V2 := by
        show 2 * valB L at_ k + bitAt L (at_ + k) = V2
        rw [HK.out.2.2.2.2.1, HK.out.2.2.2.2.2.1, HK.out.2.2.2.2.2.2.2.1, HK.out.2.2.2.2.2.2.2.2.1, HK.out.2.2.2.2.2.2.2.2.2.1]
        exact HK.out.2.2.2.2.2.2.2.2.2.2
      have hap : at_ + (k + 1) = p + 1 := by have := HK.out.2.2.2.2.2.1; omega
      have hB9 := (HK.out.1.set 1 (.int .i64 ((p : Int) + 1))).drewN nq
      refine ⟨rfl, ⟨k + 1, rfl, rfl, rfl, rfl, by rw [hv2]; rfl, rfl, by omega, ?_, HK.out.2.2.1.trans FS⟩, ?_⟩
      · rw [hap]
        exact ⟨_, hB9, own_frm HK.out.2.1 FS (fun x cs hx e => by subst e; exact Blk.ne hx HK.out.1 (by decide) rfl)⟩
      · have c1 := ((HK.out.1.drewN nq).set 1 (.int .i64 ((p : Int) + 1))).cell 1
        have c2 := HK.out.1.cell 1
        simp only [c1, c2]
        show t9 - (intOf (.int .i64 ((p : Int) + 1))).toNat < t9 - (intOf (.int .i64 (p : Int))).toNat
        simp only [intOf]
        omega
    · have p1 : ¬ (p : Int) < (t9 : Int) := by omega
      obtain rfl : k = n := by omega
      have HK := Lib.hid (And.intro hb (And.intro hr (And.intro hF (And.intro hV hp))))
      clear hb hr hF hV hp hbt
      go_wp2_with fail
      try simp only [Exit.jump]
      go_ret2
      rw [HK.out.2.2.2.1, HK.out.2.2.2.2]
      exact ⟨rfl, ⟨_, HK.out.1, HK.out.2.1⟩, HK.out.2.2.1⟩
  · intro hpass
    go_wp2_with fail
    refine hlf.mono ?_
    rintro e w1 ⟨rfl, F1⟩
    have H1 := Lib.hid (And.intro (H.out.1.frmN F1) F1)
    have y1 : w1.cell? ⟨g, 1, none⟩ = some (.int .i64 (at_ : Int)) := by obtain ⟨v, hb, _⟩ := H1.out.1; exact hb.cell 1
    clear F1
    go_wp2_with fail
    go_step3
    refine (by assumption : ∀ (a : Act) (w : World), Code.wp Try.prog _ _ a w → _) _ _ (hpass _ _ ?_)
    exact ⟨0, rfl, rfl, rfl, rfl, rfl, rfl, Nat.zero_le _, H1.out.1, H1.out.2.mono (fun _ h => h.elim)⟩
end Go.Proofs.Ytccaaldfccgncaa.A

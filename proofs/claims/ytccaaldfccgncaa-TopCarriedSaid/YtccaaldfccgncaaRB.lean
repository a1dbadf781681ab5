/- The reader of bits: Rest; bits there and back, in plain numbers. -/
import Derived.Test.YtccaaldfccgncaaR
namespace Go.Proofs.Ytccaaldfccgncaa.A
open Go.RowKit Go.Proofs.Ytccaaldfccgncaa.K
set_option linter.unusedVariables false
set_option linter.unusedSimpArgs false

set_option maxRecDepth 100000 in
set_option maxHeartbeats 4000000 in
theorem rd_rest (w : World) (g at_ pad : Nat) (L : List Nat) (h : IsRd w g L at_) (hl : L.length ≤ 8000) (h256 : ∀ c ∈ L, c < 256) (hp : (8 - at_ % 8) % 8 = pad) (hz : valB L at_ pad = 0) (ha : at_ + pad ≤ 8 * L.length) :
    Calls Try.prog 68 #[.pointer (some ⟨g, 0, none⟩)] w fun e w' => (∃ v, e = .returned (.tuple #[v, .int .i64 0])) ∧ Frm (fun x => x = g) w w' := by
  have hget := rd_get w g at_ pad L h hl h256 (by omega) ha
  rw [hz] at hget
  have k1 : w.cell? ⟨g, 1, none⟩ = some (.int .i64 (at_ : Int)) := by obtain ⟨v, hb, _⟩ := h; exact hb.cell 1
  obtain ⟨r, hr⟩ : ∃ r : Nat, at_ % 8 = r := ⟨_, rfl⟩
  have e1 : (at_ : Int).tmod 8 = (r : Int) := by rw [Int.tmod_eq_emod_of_nonneg (by omega)]; omega
  have e1' : (at_ : Int) % 8 = (r : Int) := by omega
  have e3 : ((8 : Int) - (r : Int)).tmod 8 = (pad : Int) := by rw [Int.tmod_eq_emod_of_nonneg (by omega)]; omega
  have e3' : ((8 : Int) - (r : Int)) % 8 = (pad : Int) := by omega
  have pw : IntKind.i64.wrap ((8 : Int) - (r : Int)) = (8 : Int) - (r : Int) := IntWalk.i64_in _ ⟨by omega, by omega⟩
  have r8 : (r : Int) ≤ 7 := by omega
  have H0 := Lib.hid (And.intro ha hl)
  clear h256 hz h hr hp ha hl
  go_enter Try.func68, Try.ntmps68
  go_wp2_with fail
  refine hget.mono ?_
  rintro e w1 ⟨rfl, R1, F1⟩
  obtain ⟨p, hpp⟩ : ∃ p, at_ + pad = p := ⟨_, rfl⟩
  rw [hpp] at R1
  obtain ⟨v, hb, hrw⟩ := R1
  obtain ⟨l, hll⟩ : ∃ l, L.length = l := ⟨_, rfl⟩
  obtain ⟨A, c, rfl, hlc, hbt⟩ := hrw.outn hll
  obtain ⟨q, hq⟩ : ∃ q : Nat, p / 8 = q := ⟨_, rfl⟩
  have hql : q ≤ l := by have := H0.out; omega
  have hsl := fun W => slice_l Try.underlying24 size5 A l c q hql W
  have hcut := hbt.bin.cut (k := q) (cap := c) (by omega) (by omega)
  obtain ⟨A2, hA2⟩ : ∃ A2, cutA A q 1 c = A2 := ⟨_, rfl⟩
  rw [hA2] at hsl hcut
  have e2 : (p : Int).tdiv 8 = (q : Int) := by rw [Int.tdiv_eq_ediv_of_nonneg (by omega)]; omega
  have e2' : (p : Int) / 8 = (q : Int) := by omega
  have pwq : IntKind.i64.wrap (q : Int) = (q : Int) := IntWalk.i64_in _ ⟨by omega, by have := H0.out; omega⟩
  have k0 : w1.cell? ⟨g, 0, none⟩ = some (.slice A l c) := hb.cell 0
  have k1 : w1.cell? ⟨g, 1, none⟩ = some (.int .i64 (p : Int)) := hb.cell 1
  have hgl := hb.lt
  have hl9 : l ≤ 8000 := by rw [← hll]; exact H0.out.2
  have l9 : (l : Int) ≤ 8000 := by omega
  have pwl : IntKind.i64.wrap ((l : Int) * 8) = (l : Int) * 8 := IntWalk.i64_in _ ⟨by omega, by omega⟩
  have hln : (L.drop q).length = l - q := by rw [List.length_drop, hll]
  have H1 := Lib.hid (And.intro F1 (And.intro hb (And.intro hrw (And.intro hcut hln))))
  clear F1 hb hrw hcut hln hbt hll hq hpp hA2 hget hlc hql
  go_wp2_with fail
  go_upto_region 8 with fail
  refine wp_region_N (S := fun w' => w'.cell? ⟨g, 0, none⟩ = some (.slice A l c) ∧ w'.cell? ⟨g, 1, none⟩ = some (.int .i64 (p : Int))) 99 (by kernel_rfl) ⟨k0, k1⟩ (fun hHeld => ?_)
  refine wpAnyN_take (i := 0) (v := ?rnv68r8_0) rfl (by kernel_rfl) (by kernel_rfl) (by kernel_rfl) (fun _ _ _ h => h) (by decide) (by kernel_rfl) (Or.inl ⟨by rfl, ?rny68r8_0⟩) (by assumption) ?rnr68r8_0
  case rny68r8_0 => (intro w hSw; (try dsimp only at hSw); go_simp; try with_reducible rfl)
  try simp only [Act.put, List.setIfInBounds_toArray, List.set_cons_zero, List.set_cons_succ, List.getElem_toArray, List.getElem_cons_zero, List.getElem_cons_succ]
  refine wpAnyN_take (i := 1) (v := ?rnv68r8_1) rfl (by kernel_rfl) (by kernel_rfl) (by kernel_rfl) (fun _ _ _ h => h) (by decide) (by kernel_rfl) (Or.inl ⟨by rfl, ?rny68r8_1⟩) (by assumption) ?rnr68r8_1
  case rny68r8_1 => (intro w hSw; (try dsimp only at hSw); go_simp; try with_reducible rfl)
  try simp only [Act.put, List.setIfInBounds_toArray, List.set_cons_zero, List.set_cons_succ, List.getElem_toArray, List.getElem_cons_zero, List.getElem_cons_succ]
  refine wpAnyN_take (i := 2) (v := ?rnv68r8_2) rfl (by kernel_rfl) (by kernel_rfl) (by kernel_rfl) (fun _ _ _ h => h) (by decide) (by kernel_rfl) (Or.inl ⟨by rfl, ?rny68r8_2⟩) (by assumption) ?rnr68r8_2
  case rny68r8_2 => (intro w hSw; (try dsimp only at hSw); go_simp; try with_reducible rfl)
  try simp only [Act.put, List.setIfInBounds_toArray, List.set_cons_zero, List.set_cons_succ, List.getElem_toArray, List.getElem_cons_zero, List.getElem_cons_succ]
  refine wpAnyN_take (i := 3) (v := ?rnv68r8_3) rfl (by kernel_rfl) (by kernel_rfl) (by kernel_rfl) (fun _ _ _ h => h) (by decide) (by kernel_rfl) (Or.inl ⟨by rfl, ?rny68r8_3⟩) (by assumption) ?rnr68r8_3
  case rny68r8_3 => (intro w hSw; (try dsimp only at hSw); go_simp; try with_reducible rfl)
  try simp only [Act.put, List.setIfInBounds_toArray, List.set_cons_zero, List.set_cons_succ, List.getElem_toArray, List.getElem_cons_zero, List.getElem_cons_succ]
  refine wpAnyN_take (i := 4) (v := ?rnv68r8_4) rfl (by kernel_rfl) (by kernel_rfl) (by kernel_rfl) (fun _ _ _ h => h) (by decide) (by kernel_rfl) (Or.inl ⟨by rfl, ?rny68r8_4⟩) (by assumption) ?rnr68r8_4
  case rny68r8_4 => (intro w hSw; (try dsimp only at hSw); go_simp; try with_reducible rfl)
  try simp only [Act.put, List.setIfInBounds_toArray, List.set_cons_zero, List.set_cons_succ, List.getElem_toArray, List.getElem_cons_zero, List.getElem_cons_succ]
  refine wpAnyN_take (i := 5) (v := ?rnv68r8_5) rfl (by kernel_rfl) (by kernel_rfl) (by kernel_rfl) (fun _ _ _ h => h) (by decide) (by kernel_rfl) (Or.inl ⟨by rfl, ?rny68r8_5⟩) (by assumption) ?rnr68r8_5
  case rny68r8_5 => (intro w hSw; (try dsimp only at hSw); go_simp; try with_reducible rfl)
  try simp only [Act.put, List.setIfInBounds_toArray, List.set_cons_zero, List.set_cons_succ, List.getElem_toArray, List.getElem_cons_zero, List.getElem_cons_succ]
  refine wpAnyN_take (i := 6) (v := ?rnv68r8_6) rfl (by kernel_rfl) (by kernel_rfl) (by kernel_rfl) (fun _ _ _ h => h) (by decide) (by kernel_rfl) (Or.inl ⟨by rfl, ?rny68r8_6⟩) (by assumption) ?rnr68r8_6
  case rny68r8_6 => (intro w hSw; (try dsimp only at hSw); go_simp; try with_reducible rfl)
  try simp only [Act.put, List.setIfInBounds_toArray, List.set_cons_zero, List.set_cons_succ, List.getElem_toArray, List.getElem_cons_zero, List.getElem_cons_succ]
  refine wpAnyN_take (i := 7) (v := ?rnv68r8_7) rfl (by kernel_rfl) (by kernel_rfl) (by kernel_rfl) (fun _ _ _ h => h) (by decide) (by kernel_rfl) (Or.inl ⟨by rfl, ?rny68r8_7⟩) (by assumption) ?rnr68r8_7
  case rny68r8_7 => (intro w hSw; (try dsimp only at hSw); go_simp; try with_reducible rfl)
  try simp only [Act.put, List.setIfInBounds_toArray, List.set_cons_zero, List.set_cons_succ, List.getElem_toArray, List.getElem_cons_zero, List.getElem_cons_succ]
  refine wpAnyN_take (i := 8) (v := ?rnv68r8_8) rfl (by kernel_rfl) (by kernel_rfl) (by kernel_rfl) (fun _ _ _ h => h) (by decide) (by kernel_rfl) (Or.inl ⟨by rfl, ?rny68r8_8⟩) (by assumption) ?rnr68r8_8
  case rny68r8_8 => (intro w hSw; (try dsimp only at hSw); go_simp; try with_reducible rfl)
  try simp only [Act.put, List.setIfInBounds_toArray, List.set_cons_zero, List.set_cons_succ, List.getElem_toArray, List.getElem_cons_zero, List.getElem_cons_succ]
  refine wpAnyN_take (i := 9) (v := ?rnv68r8_9) rfl (by kernel_rfl) (by kernel_rfl) (by kernel_rfl) (fun _ _ _ h => h) (by decide) (by kernel_rfl) (Or.inl ⟨by rfl, ?rny68r8_9⟩) (by assumption) ?rnr68r8_9
  case rny68r8_9 => (intro w hSw; (try dsimp only at hSw); go_simp; try with_reducible rfl)
  try simp only [Act.put, List.setIfInBounds_toArray, List.set_cons_zero, List.set_cons_succ, List.getElem_toArray, List.getElem_cons_zero, List.getElem_cons_succ]
  refine wpAnyN_one (i := 10) (by kernel_rfl) rfl (fun K hK => ?_)
  go_simp
  refine (cloneB _ A2 (l - q) (c - q) (L.drop q) (H1.out.2.2.2.1.frmN (Frm.refl No _).drew) H1.out.2.2.2.2 (by omega)).mono ?_
  rintro e w2 ⟨v2, rfl, R2, F2⟩
  have F2' := (Frm.refl No w1).drew.thenN F2
  have e1 := (F2'.blk H1.out.2.1 (fun h => h)).cell 0
  have e2 := (F2'.blk H1.out.2.1 (fun h => h)).cell 1
  have z1 : w2.frozen? ⟨g, 1, none⟩ = false := (F2'.blk H1.out.2.1 (fun h => h)).free 1
  have hgl2 := (F2'.blk H1.out.2.1 (fun h => h)).lt
  go_wp2_with fail
  refine hK.out _ _ (fun _ => ?_) (fun hHeld => ?_)
  · exact ⟨e1, e2⟩
  have hHeld := hHeld (by decide)
  clear hK K
  try simp only [Act.put, List.setIfInBounds_toArray, List.set_cons_zero, List.set_cons_succ, List.getElem_toArray, List.getElem_cons_zero, List.getElem_cons_succ]
  refine wpAnyN_take (i := 11) (v := ?rnv68r8_11) rfl (by kernel_rfl) (by kernel_rfl) (by kernel_rfl) (fun _ _ _ h => h) (by decide) (by kernel_rfl) (Or.inl ⟨by rfl, ?rny68r8_11⟩) (by assumption) ?rnr68r8_11
  case rny68r8_11 => (intro w hSw; (try dsimp only at hSw); go_simp; try with_reducible rfl)
  try simp only [Act.put, List.setIfInBounds_toArray, List.set_cons_zero, List.set_cons_succ, List.getElem_toArray, List.getElem_cons_zero, List.getElem_cons_succ]
  refine wpAnyN_done (by kernel_rfl) ?_ _
  obtain ⟨A3, c3, e3, -, -⟩ := R2.out
  subst e3
  go_wp2_with fail
  go_ret2
  exact ⟨⟨_, rfl⟩, (H1.out.1.thenN F2').trans ((Frm.refl (fun x => x = g) w2).self 1 _)⟩
/-- The bits of packed bits. -/
theorem bitAt_pk {bs : List Nat} (h : Bits bs) (i : Nat) (rest : List Nat) (hi : i < 8 * (pk bs).length) : bitAt (pk bs ++ rest) i = bs.getD i 0 := by
  have hl := pk_len bs
  have hj : i / 8 < (bs.length + 7) / 8 := by omega
  unfold bitAt
  have e : (pk bs ++ rest).getD (i / 8) 0 = pkB bs (i / 8) := by
    rw [List.getD_eq_getElem?_getD, List.getElem?_append_left (by omega), ← List.getD_eq_getElem?_getD]
    exact pk_getD bs hj
  rw [e]
  have hr : i % 8 < 8 := Nat.mod_lt _ (by omega)
  have hd : i = 8 * (i / 8) + i % 8 := by omega
  generalize i / 8 = j at hd ⊢
  generalize i % 8 = r at hr hd ⊢
  subst hd
  have h0 := h.getD (8 * j)
  have h1 := h.getD (8 * j + 1)
  have h2 := h.getD (8 * j + 2)
  have h3 := h.getD (8 * j + 3)
  have h4 := h.getD (8 * j + 4)
  have h5 := h.getD (8 * j + 5)
  have h6 := h.getD (8 * j + 6)
  have h7 := h.getD (8 * j + 7)
  unfold pkB
  match r, hr with
  | 0, _ => show _ / 128 % 2 = bs.getD (8 * j) 0; omega
  | 1, _ => show _ / 64 % 2 = _; omega
  | 2, _ => show _ / 32 % 2 = _; omega
  | 3, _ => show _ / 16 % 2 = _; omega
  | 4, _ => show _ / 8 % 2 = _; omega
  | 5, _ => show _ / 4 % 2 = _; omega
  | 6, _ => show _ / 2 % 2 = _; omega
  | 7, _ => show _ / 1 % 2 = _; omega
/-- A number that was laid is read. -/
theorem valB_of {L : List Nat} {at_ v n : Nat} (h : ∀ i, i < n → bitAt L (at_ + i) = v / 2 ^ (n - 1 - i) % 2) : ∀ k, k ≤ n → valB L at_ k = v / 2 ^ (n - k) % 2 ^ k
  | 0, _ => by show 0 = _ % 1; omega
  | k + 1, hk => by
    have ih := valB_of h k (by omega)
    show 2 * valB L at_ k + bitAt L (at_ + k) = _
    rw [ih, h k (by omega), show n - 1 - k = n - (k + 1) by omega, show n - k = (n - (k + 1)) + 1 by omega, Nat.pow_succ, ← Nat.div_div_eq_div_mul, Nat.pow_succ]
    obtain ⟨x, hx⟩ : ∃ x, v / 2 ^ (n - (k + 1)) = x := ⟨_, rfl⟩
    rw [hx]
    have h1 : x % (2 ^ k * 2) = 2 * (x / 2 % 2 ^ k) + x % 2 := by
      rw [Nat.mul_comm (2 ^ k) 2, Nat.mod_mul]
      omega
    rw [h1]
theorem valB_num {L : List Nat} {at_ v n : Nat} (hv : v < 2 ^ n) (h : ∀ i, i < n → bitAt L (at_ + i) = v / 2 ^ (n - 1 - i) % 2) : valB L at_ n = v := by
  rw [valB_of h n (Nat.le_refl _), Nat.sub_self, Nat.pow_zero, Nat.div_one, Nat.mod_eq_of_lt hv]
theorem bitsOf_getD (v n i : Nat) (h : i < n) : (bitsOf v n).getD i 0 = v / 2 ^ (n - 1 - i) % 2 := by
  unfold bitsOf
  rw [List.getD_eq_getElem?_getD, List.getElem?_map, List.getElem?_range h]; rfl
/-- Numbers in a row of bits. -/
theorem valB_pk {a c rest : List Nat} {v n : Nat} (ha : Bits a) (hc : Bits c) (hv : v < 2 ^ n) : valB (pk (a ++ bitsOf v n ++ c) ++ rest) a.length n = v := by
  have hb : Bits (a ++ bitsOf v n ++ c) := fun x hx => by
    rcases List.mem_append.1 hx with hx | hx
    · rcases List.mem_append.1 hx with hx | hx
      · exact ha x hx
      · exact bitsOf_bits v n x hx
    · exact hc x hx
  refine valB_num hv fun i hi => ?_
  rw [bitAt_pk hb _ _ (by rw [pk_len]; simp [bitsOf_len]; omega), ← bitsOf_getD v n i hi]
  rw [List.getD_eq_getElem?_getD, List.getD_eq_getElem?_getD, List.getElem?_append_left (by rw [List.length_append, bitsOf_len]; omega), List.getElem?_append_right (by omega), Nat.add_sub_cancel_left]
/-- What pads is zero. -/
theorem valB_pad {bs rest : List Nat} (h : Bits bs) : ∀ k, bs.length + k ≤ 8 * (pk bs).length → valB (pk bs ++ rest) bs.length k = 0
  | 0, _ => rfl
  | k + 1, hk => by
    show 2 * valB (pk bs ++ rest) bs.length k + bitAt (pk bs ++ rest) (bs.length + k) = 0
    rw [valB_pad h k (by omega), bitAt_pk h _ _ (by omega), getD_out (by omega)]
end Go.Proofs.Ytccaaldfccgncaa.A

/- Rows of bytes, typed; copies of them. -/
import Derived.Test.YtccaaldfccgncaaM
import Derived.Test.YtccaaldfccgncaaProg
import Derived.Deep.CutBlock
import Derived.Deep.DeepCutAuto
import Derived.BigQuiet
import Derived.Lib.Hide
import Derived.ScopeJumps
namespace Go.Proofs.Ytccaaldfccgncaa.A
open Go.RowKit Go.Proofs.Ytccaaldfccgncaa.K
set_option linter.unusedVariables false
set_option linter.unusedSimpArgs false

theorem info5 : (Try.prog.info? 5).map (fun i => (i.zero, i.size, i.bytes)) = some (some (.int .u8 0), 1, 1) := by kernel_rfl
def by8 (n : Nat) : Value := .int .u8 (n : Int)
def RowB (w : World) (B : Nat) (v : Value) (L : List Nat) : Prop := w.ownsRow B 5 1 v L.length (L.map by8)
/-- A row that is read, whose block bears a type. -/
def RdT (w : World) (t sz : Nat) (A : Option Addr) (n : Nat) (xs : List Value) : Prop := Rds w sz A n xs ∧ (0 < n → ∀ ad, A = some ad → ∃ cs, Blk w ad.block cs t)
theorem RdT.nil (w : World) (t sz : Nat) (A : Option Addr) : RdT w t sz A 0 [] := ⟨Rds.nil _ _ _, fun h => absurd h (by omega)⟩
theorem RdT.frm {w w' : World} {S : Nat → Prop} {t sz n : Nat} {A : Option Addr} {xs : List Value} (h : RdT w t sz A n xs) (f : Frm S w w') (hS : ∀ k cs, Blk w k cs t → ¬ S k) : RdT w' t sz A n xs :=
  ⟨h.1.frm f fun ad e hn => by obtain ⟨cs, hb⟩ := h.2 hn ad e; exact hS _ _ hb, fun hn ad e => by obtain ⟨cs, hb⟩ := h.2 hn ad e; exact ⟨cs, f.blk hb (hS _ _ hb)⟩⟩
theorem RdT.frmN {w w' : World} {t sz n : Nat} {A : Option Addr} {xs : List Value} (h : RdT w t sz A n xs) (f : Frm No w w') : RdT w' t sz A n xs := h.frm f fun _ _ _ h => h
theorem RdT.of_own {w : World} {B t sz n c : Nat} {A : Option Addr} {xs : List Value} (h : w.ownsRow B t sz (.slice A n c) n xs) : RdT w t sz A n xs :=
  ⟨Rds.of_own h, fun hn ad e => by
    subst e
    rcases h.2 with ⟨hv, h0⟩ | ⟨g, cap, cur, hv, hg, hh, _⟩
    · cases hv
    · injection hv with hA
      injection hA with hA
      subst hA
      exact ⟨cur, hh⟩⟩
theorem RdT.take {w : World} {t sz n k : Nat} {A : Option Addr} {xs : List Value} (h : RdT w t sz A n xs) (hk : k ≤ n) : RdT w t sz A k (xs.take (k * sz)) :=
  ⟨h.1.take hk, fun hn => h.2 (by omega)⟩
theorem RdT.drop {w : World} {t sz n k cap : Nat} {A : Option Addr} {xs : List Value} (h : RdT w t sz A n xs) (hk : k ≤ n) (hc : n ≤ cap) :
    RdT w t sz (if cap = k then A else A.map (·.add (k * sz))) (n - k) (xs.drop (k * sz)) := by
  refine ⟨h.1.drop hk hc, fun hn ad e => ?_⟩
  rw [if_neg (by omega)] at e
  cases A with
  | none => cases e
  | some a =>
    injection e with e
    obtain ⟨cs, hb⟩ := h.2 (by omega) a rfl
    exact ⟨cs, by rw [← e, block_add]; exact hb⟩
/-- Bytes that are read, whosever they are. -/
def Bin (w : World) (A : Option Addr) (L : List Nat) : Prop := Rds w 1 A L.length (L.map by8)
/-- Bytes in a row of the call's own. -/
def BinT (w : World) (A : Option Addr) (L : List Nat) : Prop := RdT w 5 1 A L.length (L.map by8)
theorem BinT.bin {w : World} {A : Option Addr} {L : List Nat} (h : BinT w A L) : Bin w A L := h.1
theorem by8_one (L : List Nat) : ∀ u ∈ L.map by8, u.oneCell' = true := fun u hu => by
  obtain ⟨n, _, rfl⟩ := List.mem_map.1 hu
  rfl
theorem Bin.frmN {w w' : World} {A : Option Addr} {L : List Nat} (h : Bin w A L) (f : Frm No w w') : Bin w' A L := Rds.frmN h f
theorem BinT.frmN {w w' : World} {A : Option Addr} {L : List Nat} (h : BinT w A L) (f : Frm No w w') : BinT w' A L := RdT.frmN h f
theorem BinT.frm {w w' : World} {S : Nat → Prop} {A : Option Addr} {L : List Nat} (h : BinT w A L) (f : Frm S w w') (hS : ∀ k cs, Blk w k cs 5 → ¬ S k) : BinT w' A L := RdT.frm h f hS
theorem Bin.at_ {w : World} {A : Option Addr} {L : List Nat} (h : Bin w A L) {i : Nat} (hi : i < L.length) : ∃ ad, A = some ad ∧ ad.block < w.heap.size ∧ w.cell? (ad.add i) = some (.int .u8 (L.getD i 0 : Nat)) := by
  obtain ⟨h1, h2⟩ := h
  obtain ⟨ad, e, hb, hc⟩ := h2 (by omega)
  refine ⟨ad, e, hb, hc i _ ?_⟩
  rw [List.getElem?_map, List.getElem?_eq_getElem hi, List.getD_eq_getElem?_getD, List.getElem?_eq_getElem hi]; rfl
theorem Bin.take {w : World} {A : Option Addr} {L : List Nat} (h : Bin w A L) (i : Nat) : Bin w A (L.take i) := by
  unfold Bin at h ⊢
  by_cases hi : i ≤ L.length
  · have := Rds.take h hi
    rw [Nat.mul_one, ← List.map_take] at this
    rwa [List.length_take, Nat.min_eq_left hi]
  · rw [List.take_of_length_le (by omega)]; exact h
theorem BinT.take {w : World} {A : Option Addr} {L : List Nat} (h : BinT w A L) (i : Nat) : BinT w A (L.take i) :=
  ⟨Bin.take h.1 i, fun hn => h.2 (by rw [List.length_take] at hn; omega)⟩
theorem Bin.drop {w : World} {A : Option Addr} {L : List Nat} (h : Bin w A L) {k cap : Nat} (hk : k ≤ L.length) (hc : L.length ≤ cap) : Bin w (if cap = k then A else A.map (·.add k)) (L.drop k) := by
  have := Rds.drop h hk hc
  rw [Nat.mul_one, ← List.map_drop, ← List.length_drop] at this
  exact this
theorem BinT.drop {w : World} {A : Option Addr} {L : List Nat} (h : BinT w A L) {k cap : Nat} (hk : k ≤ L.length) (hc : L.length ≤ cap) : BinT w (if cap = k then A else A.map (·.add k)) (L.drop k) := by
  have := RdT.drop h hk hc
  rw [Nat.mul_one, ← List.map_drop, ← List.length_drop] at this
  exact this
theorem Bin.nil (w : World) (A : Option Addr) : Bin w A [] := Rds.nil _ _ _
theorem BinT.nil (w : World) (A : Option Addr) : BinT w A [] := RdT.nil _ _ _ _
theorem RowB.out {w : World} {B : Nat} {v : Value} {L : List Nat} (h : RowB w B v L) : ∃ A c, v = .slice A L.length c ∧ L.length ≤ c ∧ BinT w A L := by
  obtain ⟨A, c, rfl, hc, hr⟩ := own_is h
  exact ⟨A, c, rfl, hc, RdT.of_own h⟩
theorem RowB.outn {w : World} {B n : Nat} {v : Value} {L : List Nat} (h : RowB w B v L) (hn : L.length = n) : ∃ A c, v = .slice A n c ∧ n ≤ c ∧ BinT w A L := by
  subst hn
  exact h.out
theorem RowB.lower {w : World} {b B : Nat} {v : Value} {L : List Nat} (h : RowB w B v L) (hb : b ≤ B) : RowB w b v L := own_lower h hb
theorem RowB.frmN {w w' : World} {B : Nat} {v : Value} {L : List Nat} (h : RowB w B v L) (f : Frm No w w') : RowB w' B v L := own_frm h f (fun _ _ _ h => h)
theorem take_one {α : Type} {l : List α} {j : Nat} (d : α) (h : j < l.length) : l.take (j + 1) = l.take j ++ [l.getD j d] := by
  rw [List.take_succ_eq_append_getElem h, List.getD_eq_getElem?_getD, List.getElem?_eq_getElem h]; rfl
theorem getD_lt {L : List Nat} (h : ∀ c ∈ L, c < 256) (j : Nat) : L.getD j 0 < 256 := by
  rw [List.getD_eq_getElem?_getD]
  by_cases hj : j < L.length
  · rw [List.getElem?_eq_getElem hj]; exact h _ (List.getElem_mem _)
  · rw [List.getElem?_eq_none (by omega)]; decide
theorem own_empty (w : World) (t sz : Nat) : (w.alloc (.cells #[] t)).ownsRow w.heap.size t sz (.slice (some ⟨w.heap.size, 0, none⟩) 0 0) 0 [] := by
  have hb : Blk (w.alloc (.cells #[] t)) w.heap.size #[] t := Blk.new w #[] t
  exact ⟨by simp, .inr ⟨w.heap.size, 0, #[], rfl, Nat.le_refl _, hb, by omega, by omega, by simp, by simp⟩⟩
set_option maxRecDepth 100000 in
set_option maxHeartbeats 2000000 in
/-- slices.Clone of bytes. -/
theorem cloneB (w : World) (A : Option Addr) (n c : Nat) (L : List Nat) (h : Bin w A L) (hl : L.length = n) (hn : n ≤ 100000) : Calls Try.prog 22 #[.slice A n c] w fun e w' => ∃ v, e = .returned v ∧ RowB w' w.heap.size v L ∧ Frm No w w' := by
  obtain ⟨i0, hi, hz0, hz1, hz2⟩ := info_parts info5
  have h1 := by8_one L
  have h' : Rds w 1 A n (L.map by8) := by rw [← hl]; exact h
  have HLn := Lib.hid hl
  clear h hl
  cases A with
  | none =>
    have h0 : n = 0 := by
      rcases Nat.eq_zero_or_pos n with h0 | h0
      · exact h0
      · obtain ⟨ad, e, _⟩ := h'.2 h0
        cases e
    subst h0
    have hL : L = [] := List.eq_nil_of_length_eq_zero HLn.out
    subst hL
    have he := Lib.run_eql_slice_nil (P := Try.prog) w 24 5 none 0 c 0 0 Try.underlying24
    clear h'
    go_enter Try.func22, Try.ntmps22
    go_wp2_with fail
    go_ret
    exact ⟨_, rfl, World.ownsRow_nil _ _ _ _, Frm.refl _ _⟩
  | some ad =>
    have he := Lib.run_eql_slice_nil (P := Try.prog) w 24 5 (some ad) n c 0 0 Try.underlying24
    have F0 := (Frm.refl No w).alloc (.cells #[] 5)
    have own0 := own_empty w 5 1
    have hr2 : Rds (w.alloc (.cells #[] 5)) 1 (some ad) n (L.map by8) := h'.frmN F0
    have hsz : w.heap.size ≤ (w.alloc (.cells #[] 5)).heap.size := F0.size
    clear h'
    go_enter Try.func22, Try.ntmps22
    go_wp2_with (at_builtin; go_must (refine wpList_append_rds _ rfl _ _ 24 rfl w.heap.size 5 i0 _ 1 1 Try.underlying24 hi hz0 hz1 hz2 rfl (by omega) (.slice (some ⟨w.heap.size, 0, none⟩) 0 0) 0 [] rfl own0 (some ad) n c (L.map by8) rfl hr2 h1 (by unfold maxLen; omega) (by omega) hsz ?_; intro v3 w3 own3 hg3))
    have F3 := own_grown own0 F0 (Nat.le_refl _) hg3
    rw [Nat.zero_add, List.nil_append, ← HLn.out] at own3
    have H3 := Lib.hid (And.intro own3 F3)
    clear own3 F3 hg3 h1
    go_wp2_with fail
    go_ret
    exact ⟨v3, rfl, H3.out.1, H3.out.2⟩
/-- The texts that wait: a number, and bytes. -/
structure Tx where
  id : Int
  A : Option Addr
  c : Nat
  bs : List Nat
def Tx.val (t : Tx) : Value := .slice t.A t.bs.length t.c
def Tx.cells (t : Tx) : List Value := [.int .u64 t.id, t.val]
theorem tx_one (T : List Tx) : ∀ u ∈ T.flatMap Tx.cells, u.oneCell' = true := fun u hu => by
  obtain ⟨t, _, hu⟩ := List.mem_flatMap.1 hu
  unfold Tx.cells at hu
  rcases List.mem_cons.1 hu with rfl | hu
  · rfl
  · rcases List.mem_cons.1 hu with rfl | hu
    · rfl
    · cases hu
theorem tx_len (T : List Tx) : (T.flatMap Tx.cells).length = T.length * 2 := by
  induction T with
  | nil => rfl
  | cons t T ih => rw [List.flatMap_cons, List.length_append, ih, List.length_cons]; show 2 + _ = _; omega
theorem tx_drop : ∀ (T : List Tx) (k : Nat), (T.flatMap Tx.cells).drop (k * 2) = (T.drop k).flatMap Tx.cells
  | _, 0 => rfl
  | [], k + 1 => by simp
  | t :: T, k + 1 => by
    show (Tx.cells t ++ T.flatMap Tx.cells).drop ((k + 1) * 2) = _
    rw [show (k + 1) * 2 = 2 + k * 2 by omega, List.drop_append]
    show (Tx.cells t).drop (2 + k * 2) ++ (T.flatMap Tx.cells).drop (2 + k * 2 - 2) = _
    rw [show 2 + k * 2 - 2 = k * 2 by omega, tx_drop T k, List.drop_of_length_le (by show 2 ≤ _; omega)]; rfl
theorem info70 : (Try.prog.info? 70).map (fun i => (i.zero, i.size, i.bytes)) = some (some (.agg #[.int .u64 0, .slice none 0 0]), 2, 32) := by kernel_rfl
theorem zero70 : (Value.agg #[.int .u64 0, .slice none 0 0]).cells.size = 2 := by kernel_rfl
set_option maxRecDepth 100000 in
set_option maxHeartbeats 2000000 in
/-- slices.Clone of texts. -/
theorem cloneT (w : World) (A : Option Addr) (n c : Nat) (T : List Tx) (h : Rds w 2 A n (T.flatMap Tx.cells)) (hn : n ≤ 1000) : Calls Try.prog 41 #[.slice A n c] w fun e w' => ∃ v, e = .returned v ∧ w'.ownsRow w.heap.size 70 2 v n (T.flatMap Tx.cells) ∧ Frm No w w' := by
  obtain ⟨i0, hi, hz0, hz1, hz2⟩ := info_parts info70
  have h1 := tx_one T
  obtain ⟨xs, hxs⟩ : ∃ xs, T.flatMap Tx.cells = xs := ⟨_, rfl⟩
  rw [hxs] at h h1 ⊢
  clear hxs
  cases A with
  | none =>
    have h0 : n = 0 := by
      rcases Nat.eq_zero_or_pos n with h0 | h0
      · exact h0
      · obtain ⟨ad, e, _⟩ := h.2 h0
        cases e
    subst h0
    have hL : xs = [] := List.eq_nil_of_length_eq_zero (by simpa using h.1)
    subst hL
    have he := Lib.run_eql_slice_nil (P := Try.prog) w 62 70 none 0 c 0 0 Try.underlying62
    clear h
    go_enter Try.func41, Try.ntmps41
    go_wp2_with fail
    go_ret
    exact ⟨_, rfl, World.ownsRow_nil _ _ _ _, Frm.refl _ _⟩
  | some ad =>
    have he := Lib.run_eql_slice_nil (P := Try.prog) w 62 70 (some ad) n c 0 0 Try.underlying62
    have F0 := (Frm.refl No w).alloc (.cells #[] 70)
    have own0 := own_empty w 70 2
    have hr2 := h.frmN F0
    have hsz : w.heap.size ≤ (w.alloc (.cells #[] 70)).heap.size := F0.size
    clear h
    go_enter Try.func41, Try.ntmps41
    go_wp2_with (at_builtin; go_must (refine wpList_append_rds _ rfl _ _ 62 rfl w.heap.size 70 i0 _ 2 32 Try.underlying62 hi hz0 hz1 hz2 zero70 (by omega) (.slice (some ⟨w.heap.size, 0, none⟩) 0 0) 0 [] rfl own0 (some ad) n c xs rfl hr2 h1 (by unfold maxLen; omega) (by omega) hsz ?_; intro v3 w3 own3 hg3))
    have F3 := own_grown own0 F0 (Nat.le_refl _) hg3
    rw [Nat.zero_add, List.nil_append] at own3
    have H3 := Lib.hid (And.intro own3 F3)
    clear own3 F3 hg3 h1
    go_wp2_with fail
    go_ret
    exact ⟨v3, rfl, H3.out.1, H3.out.2⟩
end Go.Proofs.Ytccaaldfccgncaa.A

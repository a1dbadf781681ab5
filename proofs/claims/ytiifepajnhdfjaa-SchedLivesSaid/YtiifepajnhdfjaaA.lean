/- The scheduler in memory; find. -/
import Derived.Test.YtiifepajnhdfjaaProg
import Derived.Test.YtiifepajnhdfjaaChecked
import Derived.Test.YtiifepajnhdfjaaK
import Derived.Test.YtiifepajnhdfjaaL
import Derived.WalkLawsBesides
import Derived.Deep.QuietTactic
import Derived.Deep.RegionHeld3
namespace Go.Proofs.Ytiifepajnhdfjaa.A
open Go.RowKit Go.Proofs.Ytiifepajnhdfjaa.K
set_option linter.unusedVariables false
set_option linter.unusedSimpArgs false

/-- A user: a number, a weight, what it was served. -/
structure US where
  id : Int
  wt : Int
  sv : Int
deriving DecidableEq
def u0 : US := ⟨0, 0, 0⟩
def uc (u : US) : List Value := [.int .i64 u.id, .int .i64 u.wt, .int .i64 u.sv]
theorem uc_at : ∀ (L : List US) (j : Nat), j < L.length → (L.flatMap uc)[j * 3]? = some (.int .i64 (L.getD j u0).id) ∧ (L.flatMap uc)[j * 3 + 1]? = some (.int .i64 (L.getD j u0).wt) ∧ (L.flatMap uc)[j * 3 + 2]? = some (.int .i64 (L.getD j u0).sv)
  | [], j, h => absurd h (by simp)
  | p :: L, 0, _ => ⟨rfl, rfl, rfl⟩
  | p :: L, j + 1, h => by
    have ih := uc_at L j (by simpa using h)
    have e : (p :: L).flatMap uc = .int .i64 p.id :: .int .i64 p.wt :: .int .i64 p.sv :: L.flatMap uc := rfl
    rw [e, show (j + 1) * 3 = j * 3 + 1 + 1 + 1 by omega]
    simpa [Nat.add_assoc] using ih
theorem uc_len (L : List US) : (L.flatMap uc).length = L.length * 3 := by
  induction L with
  | nil => rfl
  | cons p l ih =>
    have e : (p :: l).flatMap uc = uc p ++ l.flatMap uc := rfl
    rw [e, List.length_append, ih, List.length_cons]; simp [uc]; omega

/-- A slice that reads as users. -/
def RdU (w : World) (A : Option Addr) (L : List US) : Prop := ∀ j, j < L.length → ∃ ad, A = some ad ∧ (∃ cs, Blk w ad.block cs 60) ∧ w.cell? (ad.add (j * 3)) = some (.int .i64 (L.getD j u0).id) ∧
  w.cell? ⟨(ad.add (j * 3)).block, (ad.add (j * 3)).off + 1, none⟩ = some (.int .i64 (L.getD j u0).wt) ∧ w.cell? ⟨(ad.add (j * 3)).block, (ad.add (j * 3)).off + 2, none⟩ = some (.int .i64 (L.getD j u0).sv)
theorem add_more (g m k : Nat) : (⟨g, 0, none⟩ : Addr).add (m + (k + 1)) = ⟨((⟨g, 0, none⟩ : Addr).add m).block, ((⟨g, 0, none⟩ : Addr).add m).off + (k + 1), none⟩ := by
  unfold Addr.add
  by_cases h : m = 0 <;> simp [h]
def RowU (w : World) (B : Nat) (v : Value) (L : List US) : Prop := w.ownsRow B 60 3 v L.length (L.flatMap uc)
theorem rdU_of {w : World} {B : Nat} {v : Value} {L : List US} (h : RowU w B v L) : ∃ A c, v = .slice A L.length c ∧ RdU w A L := by
  rcases h.2 with ⟨rfl, h0⟩ | ⟨g, cap, cur, rfl, hg, hh, h1, h2, h3⟩
  · have hL : L = [] := List.eq_nil_of_length_eq_zero h0
    subst hL
    exact ⟨none, 0, rfl, fun j hj => absurd hj (by simp)⟩
  · refine ⟨_, cap, rfl, fun j hj => ⟨_, rfl, ⟨cur, hh⟩, ?_, ?_, ?_⟩⟩
    · exact World.ownsRow.cells h (g := g) rfl (j * 3) _ (uc_at L j hj).1
    · have := World.ownsRow.cells h (g := g) rfl (j * 3 + 1) _ (uc_at L j hj).2.1
      rwa [add_more] at this
    · have := World.ownsRow.cells h (g := g) rfl (j * 3 + 2) _ (uc_at L j hj).2.2
      rwa [add_more] at this
/-- The scheduler: made, its users in a row of its own. -/
def IsS (w : World) (B g : Nat) (U : List US) : Prop := U.length ≤ 16 ∧ ∃ v, Blk w g #[.bool true, v] 57 ∧ RowU w B v U
theorem IsS.frm {w w' : World} {S : Nat → Prop} {B g : Nat} {U : List US} (h : IsS w B g U) (f : Frm S w w') (hS : ∀ k cs t, (t = 57 ∨ t = 60) → Blk w k cs t → ¬ S k) : IsS w' B g U := by
  obtain ⟨h1, v, hb, ho⟩ := h
  exact ⟨h1, v, f.blk hb (hS _ _ _ (.inl rfl) hb), own_frm ho f (fun k cs hk => hS k cs _ (.inr rfl) hk)⟩
theorem IsS.frmN {w w' : World} {B g : Nat} {U : List US} (h : IsS w B g U) (f : Frm No w w') : IsS w' B g U := h.frm f (fun _ _ _ _ _ h => h)
theorem IsS.alloc {w : World} {B g : Nat} {U : List US} (h : IsS w B g U) (o : Obj) : IsS (w.alloc o) B g U := by
  obtain ⟨h1, v, hb, ho⟩ := h
  exact ⟨h1, v, hb.alloc o, World.ownsRow.alloc ho o⟩

/-- A user's place; the length: there is none. -/
def fi (U : List US) (x : Int) : Nat := U.findIdx fun u => u.id == x
def fiV (U : List US) (x : Int) : Int := if fi U x < U.length then (fi U x : Int) else -1
theorem fi_lt_not {U : List US} {x : Int} {j : Nat} (h : j < fi U x) : (U.getD j u0).id ≠ x := by
  unfold fi at h
  have hl := List.findIdx_le_length (p := fun u : US => u.id == x) (xs := U)
  have h2 := List.not_of_lt_findIdx h
  rw [List.getD_eq_getElem?_getD, List.getElem?_eq_getElem (by omega)]
  simpa using h2
theorem fi_at {U : List US} {x : Int} (h : fi U x < U.length) : (U.getD (fi U x) u0).id = x := by
  have h2 := List.findIdx_getElem (p := fun u : US => u.id == x) (xs := U) (w := h)
  rw [List.getD_eq_getElem?_getD, List.getElem?_eq_getElem h]
  unfold fi
  simpa using h2
theorem fi_le (U : List US) (x : Int) : fi U x ≤ U.length := List.findIdx_le_length

set_option maxRecDepth 100000 in
set_option maxHeartbeats 2000000 in
theorem find_any (w : World) (B g : Nat) (U : List US) (x : Int) (h : IsS w B g U) : Calls Try.prog 17 #[.pointer (some ⟨g, 0, none⟩), .int .i64 x] w fun e w' => e = .returned (.int .i64 (fiV U x)) ∧ w' = w := by
  obtain ⟨h16, v, hb, ho⟩ := h
  obtain ⟨A, c, rfl, hr⟩ := rdU_of ho
  have c1 : w.cell? ⟨g, 1, none⟩ = some (.slice A U.length c) := hb.cell 1
  have HR := Lib.hid hr
  have hle := fi_le U x
  have HN := Lib.hid (fun j => fi_lt_not (U := U) (x := x) (j := j))
  have HA := Lib.hid (fi_at (U := U) (x := x))
  have hv : fiV U x = if fi U x < U.length then (fi U x : Int) else -1 := rfl
  obtain ⟨r, hre⟩ : ∃ r, fiV U x = r := ⟨_, rfl⟩
  obtain ⟨f, hf⟩ : ∃ f, fi U x = f := ⟨_, rfl⟩
  obtain ⟨n, hn⟩ : ∃ n, U.length = n := ⟨_, rfl⟩
  rw [hre, hf, hn] at hv
  rw [hre]
  rw [hf] at hle HN HA
  rw [hn] at hle h16 c1 HA
  have HLN := Lib.hid hn
  have HV := Lib.hid hv
  clear hb ho hr hf hn hre hv
  go_enter Try.func17, Try.ntmps17
  go_wp2_with fail
  refine wp_scope_jumps 0 (fun a' w' => ∃ (k : Nat) (m : Int) (u6 u7 u8 u9 u10 u11 u12 u13 u14 u15 u16 u17 u18 u19 u20 u21 u22 u23 u24 u25 : Value), a' = { tmps := #[.pointer (some ⟨g, 0, none⟩), .int .i64 x, undef, undef, .int .i64 0, .int .i64 m, u6, u7, u8, u9, u10, u11, u12, u13, u14, u15, u16, u17, u18, u19, u20, u21, u22, u23, u24, u25], defers := [] } ∧ m = (k : Int) ∧ k ≤ f ∧ w = w') (fun a' _ => n - (intOf (a'.tmps.getD 5 undef)).toNat) rfl ?_ ?_
  · by_cases hlt : 0 < f
    · have hid := HN.out 0 hlt
      obtain ⟨ad, rfl, -, k0, -, -⟩ := HR.out 0 (by rw [HLN.out]; omega)
      obtain ⟨y, hy⟩ : ∃ y, (U.getD 0 u0).id = y := ⟨_, rfl⟩
      rw [hy] at k0 hid
      have k0' : w.cell? ad = some (.int .i64 y) := k0
      have d1 : (y == x) = false := beq_eq_false_iff_ne.2 hid
      have i1 : (0 : Int) < (n : Int) := by omega
      clear hy hid
      go_wp2_with fail
      go_step3
      go_wp2_with fail
      try go_step3
      exact ⟨rfl, 1, _, _, _, _, _, _, _, _, _, _, _, _, _, _, _, _, _, _, _, _, _, rfl, by omega, by omega, rfl⟩
    · have hkf : f = 0 := by omega
      by_cases hfn : f < n
      · have hid := HA.out hfn
        subst hkf
        obtain ⟨ad, rfl, -, k0, -, -⟩ := HR.out 0 (by rw [HLN.out]; omega)
        rw [hid] at k0
        have k0' : w.cell? ad = some (.int .i64 x) := k0
        have i1 : (0 : Int) < (n : Int) := by omega
        have hr2 : r = (0 : Int) := by rw [HV.out, if_pos hfn]; rfl
        have HR2 := Lib.hid hr2
        clear hid hr2
        go_wp2_with fail
        go_step3
        go_wp2_with fail
        simp only [Exit.jump]
        go_ret
        exact ⟨congrArg (fun (y : Int) => Ending.returned (.int .i64 y)) HR2.out.symm, rfl⟩
      · have hr2 : r = -1 := by rw [HV.out, if_neg hfn]
        have HR2 := Lib.hid hr2
        have i1 : ¬ (0 : Int) < (n : Int) := by omega
        clear hr2
        go_wp2_with fail
        go_step3
        go_wp2_with fail
        simp only [Exit.jump]
        go_ret
        exact ⟨congrArg (fun (y : Int) => Ending.returned (.int .i64 y)) HR2.out.symm, rfl⟩
  · rintro a' wr ⟨k, m, u6, u7, u8, u9, u10, u11, u12, u13, u14, u15, u16, u17, u18, u19, u20, u21, u22, u23, u24, u25, rfl, hmk, hkle, rfl⟩
    by_cases hlt : k < f
    · have hid := HN.out k hlt
      obtain ⟨ad, rfl, -, k0, -, -⟩ := HR.out k (by rw [HLN.out]; omega)
      obtain ⟨y, hy⟩ : ∃ y, (U.getD k u0).id = y := ⟨_, rfl⟩
      rw [hy] at k0 hid
      have d1 : (y == x) = false := beq_eq_false_iff_ne.2 hid
      have i1 : (m : Int) < (n : Int) := by omega
      subst hmk
      have i0 : (0 : Int) ≤ (k : Int) := Int.natCast_nonneg _
      clear hy hid
      go_wp2_with fail
      try go_step3
      exact ⟨rfl, ⟨k + 1, _, _, _, _, _, _, _, _, _, _, _, _, _, _, _, _, _, _, _, _, _, rfl, by omega, by omega, rfl⟩, by simp [intOf]; omega⟩
    · have hkf : f = k := by omega
      by_cases hfn : f < n
      · have hid := HA.out hfn
        subst hkf
        obtain ⟨ad, rfl, -, k0, -, -⟩ := HR.out f (by rw [HLN.out]; omega)
        rw [hid] at k0
        subst hmk
        have i0 : (0 : Int) ≤ (f : Int) := Int.natCast_nonneg _
        have i1 : (f : Int) < (n : Int) := by omega
        have hr2 : r = (f : Int) := by rw [HV.out, if_pos hfn]
        have HR2 := Lib.hid hr2
        clear hid hr2
        go_wp2_with fail
        simp only [Exit.jump]
        go_ret
        exact ⟨congrArg (fun (y : Int) => Ending.returned (.int .i64 y)) HR2.out.symm, rfl⟩
      · have hr2 : r = -1 := by rw [HV.out, if_neg hfn]
        have HR2 := Lib.hid hr2
        have i1 : ¬ (m : Int) < (n : Int) := by omega
        clear hr2
        go_wp2_with fail
        simp only [Exit.jump]
        go_ret
        exact ⟨congrArg (fun (y : Int) => Ending.returned (.int .i64 y)) HR2.out.symm, rfl⟩
end Go.Proofs.Ytiifepajnhdfjaa.A

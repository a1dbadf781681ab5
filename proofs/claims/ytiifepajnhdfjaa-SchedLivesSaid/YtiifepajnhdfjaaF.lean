/- Those that want nothing are not behind. -/
import Derived.Test.YtiifepajnhdfjaaE
import Derived.BigRegion
namespace Go.Proofs.Ytiifepajnhdfjaa.A
open Go.RowKit Go.Proofs.Ytiifepajnhdfjaa.K
set_option linter.unusedVariables false
set_option linter.unusedSimpArgs false

/-- A store into a row of one's own. -/
theorem own_putN {w : World} {B e size n c : Nat} {A : Option Addr} {xs : List Value} (h : w.ownsRow B e size (.slice A n c) n xs) {j : Nat} (hj : j < n * size) (u : Value) :
    ∃ gk, A = some ⟨gk, 0, none⟩ ∧ B ≤ gk ∧ (∃ cs, Blk w gk cs e) ∧ w.frozen? ⟨gk, j, none⟩ = false ∧ (w.setCell ⟨gk, j, none⟩ u).ownsRow B e size (.slice A n c) n (xs.set j u) := by
  obtain ⟨hl, h2⟩ := h
  rcases h2 with ⟨h0, h1⟩ | ⟨gk, cap, cur, hv, hg, hh, h3, h4, h5, h6⟩
  · subst h1; omega
  · simp only [Value.slice.injEq] at hv
    obtain ⟨rfl, -, rfl⟩ := hv
    have hb : Blk w gk cur e := hh
    refine ⟨gk, rfl, hg, ⟨cur, hb⟩, hb.free j, ?_⟩
    refine ⟨by rw [List.length_set]; exact hl, .inr ⟨gk, c, cur.setIfInBounds j u, rfl, hg, hb.set j u, h3, h4, by rw [Array.size_setIfInBounds]; exact h5, ?_⟩⟩
    rw [Array.toList_setIfInBounds, List.take_set, h6]
theorem uc_set : ∀ (U : List US) (i : Nat) (v : Int), i < U.length → (U.flatMap uc).set (i * 3 + 2) (.int .i64 v) = (U.set i { U.getD i u0 with sv := v }).flatMap uc
  | [], i, v, h => absurd h (by simp)
  | p :: L, 0, v, _ => rfl
  | p :: L, i + 1, v, h => by
    have ih := uc_set L i v (by simpa using h)
    have e : (p :: L).flatMap uc = .int .i64 p.id :: .int .i64 p.wt :: .int .i64 p.sv :: L.flatMap uc := rfl
    rw [e, show (i + 1) * 3 + 2 = (i * 3 + 2) + 1 + 1 + 1 by omega]
    simp only [List.set_cons_succ]
    rw [ih]
    rfl
/-- What the calls turn: the row of users. -/
def SU (w : World) (B : Nat) : Nat → Prop := fun x => B ≤ x ∧ ∃ cs, Blk w x cs 60
theorem IsS.put {w : World} {B g : Nat} {U : List US} (h : IsS w B g U) {i : Nat} (hi : i < U.length) (v : Int) :
    ∃ ad c, w.cell? ⟨g, 1, none⟩ = some (.slice (some ad) U.length c) ∧ RdU w (some ad) U ∧ w.frozen? ⟨(ad.add (i * 3)).block, (ad.add (i * 3)).off + 2, none⟩ = false ∧
      IsS (w.setCell ⟨(ad.add (i * 3)).block, (ad.add (i * 3)).off + 2, none⟩ (.int .i64 v)) B g (U.set i { U.getD i u0 with sv := v }) ∧
      Frm (SU w B) w (w.setCell ⟨(ad.add (i * 3)).block, (ad.add (i * 3)).off + 2, none⟩ (.int .i64 v)) := by
  obtain ⟨h16, vv, hb, ho⟩ := h
  obtain ⟨A, c, rfl, hr⟩ := rdU_of ho
  obtain ⟨gk, rfl, hB, ⟨cs, hk⟩, hz, hp⟩ := own_putN ho (j := i * 3 + 2) (by omega) (.int .i64 v)
  have ea : (⟨((⟨gk, 0, none⟩ : Addr).add (i * 3)).block, ((⟨gk, 0, none⟩ : Addr).add (i * 3)).off + 2, none⟩ : Addr) = ⟨gk, i * 3 + 2, none⟩ := by
    unfold Addr.add; by_cases h : i * 3 = 0 <;> simp [h]
  refine ⟨_, c, hb.cell 1, hr, by rw [ea]; exact hz, ?_, ?_⟩
  · rw [ea]
    refine ⟨by rw [List.length_set]; exact h16, _, hb.other (Blk.ne hb hk (by decide)) _, ?_⟩
    unfold RowU
    rw [List.length_set, ← uc_set U i v hi]
    exact hp
  · rw [ea]
    exact (Frm.refl _ w).set (.inl ⟨hB, cs, hk⟩) _

def leastTo (U : List US) (L : List Int) : Nat → Int
  | 0 => -1
  | i + 1 => if 0 < L.getD i 0 ∧ (leastTo U L i < 0 ∨ (U.getD i u0).sv / (U.getD i u0).wt < leastTo U L i) then (U.getD i u0).sv / (U.getD i u0).wt else leastTo U L i
def lift (q : Int) (u : US) : US := { u with sv := if u.sv < u.wt * q then u.wt * q else u.sv }
def restTo (U : List US) (L : List Int) (q : Int) : Nat → List US
  | 0 => U
  | i + 1 => if L.getD i 0 = 0 ∧ 0 ≤ q then (restTo U L q i).set i (lift q (U.getD i u0)) else restTo U L q i
theorem restTo_len (U : List US) (L : List Int) (q : Int) : ∀ i, (restTo U L q i).length = U.length
  | 0 => rfl
  | i + 1 => by unfold restTo; split
                · rw [List.length_set]; exact restTo_len U L q i
                · exact restTo_len U L q i
theorem restTo_at (U : List US) (L : List Int) (q : Int) : ∀ i j, i ≤ j → (restTo U L q i).getD j u0 = U.getD j u0
  | 0, j, _ => rfl
  | i + 1, j, h => by
    unfold restTo
    split
    · rw [List.getD_eq_getElem?_getD, List.getElem?_set_ne (by omega), ← List.getD_eq_getElem?_getD]
      exact restTo_at U L q i j (by omega)
    · exact restTo_at U L q i j (by omega)
theorem leastTo_le {U : List US} {L : List Int} (hf : Fit U) : ∀ i, i ≤ U.length → -1 ≤ leastTo U L i ∧ leastTo U L i ≤ 1000000000000
  | 0, _ => by simp [leastTo]
  | i + 1, hi => by
    unfold leastTo
    have ih := leastTo_le (L := L) hf i (by omega)
    obtain ⟨w1, w2, w3, w4⟩ := hf _ (memU (U := U) (i := i) (by omega))
    split
    · have h1 := Int.ediv_nonneg w3 (show 0 ≤ (U.getD i u0).wt by omega)
      have h2 := Int.ediv_le_self (U.getD i u0).wt w3
      omega
    · exact ih
end Go.Proofs.Ytiifepajnhdfjaa.A

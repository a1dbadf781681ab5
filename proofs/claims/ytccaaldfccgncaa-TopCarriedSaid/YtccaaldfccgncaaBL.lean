/- A scope with two labels, the second ahead of which nothing jumps back. -/
import Derived.Test.YtccaaldfccgncaaHB
namespace Go.Proofs.Ytccaaldfccgncaa.A
open Go.RowKit Go.Proofs.Ytccaaldfccgncaa.K
set_option linter.unusedVariables false
set_option linter.unusedSimpArgs false

def Exit.two (l0 l1 : Nat) (J0 J1 : Act → World → Prop) (Q : Exit → Act → World → Prop) : Exit → Act → World → Prop
  | .goto l', a, w => (l' = l0 ∧ J0 a w) ∨ (l' = l1 ∧ J1 a w)
  | e, a, w => Q e a w
theorem Exit.two_mono {l0 l1 : Nat} {J0 J0' J1 : Act → World → Prop} {Q : Exit → Act → World → Prop} (h : ∀ a w, J0 a w → J0' a w) : ∀ e a w, Exit.two l0 l1 J0 J1 Q e a w → Exit.two l0 l1 J0' J1 Q e a w := fun e a w hq => by
  cases e with
  | goto l' => exact hq.elim (fun x => .inl ⟨x.1, h _ _ x.2⟩) .inr
  | _ => exact hq
theorem wp_scope_two {P : Program} {a : Act} {w : World} {Q : Exit → Act → World → Prop} {c X Y : Code} (l0 l1 : Nat) (J0 J1 : Act → World → Prop) (μ : Act → World → Nat)
    (hf0 : findLabel c l0 = some (Code.skip.seq X)) (hf1 : findLabel c l1 = some (Code.skip.seq Y))
    (pass1 : ∀ a w, J1 a w → Y.wp P (Exit.two l0 l1 (fun _ _ => False) (fun _ _ => False) Q) a w)
    (pass0 : (∀ K0 : Act → World → Prop, ∀ a w, J1 a w → Y.wp P (Exit.two l0 l1 K0 J1 Q) a w) → ∀ a w, J0 a w → X.wp P (Exit.two l0 l1 (fun a' w' => J0 a' w' ∧ μ a' w' < μ a w) J1 Q) a w)
    (first : (∀ a w, J0 a w → X.wp P (Exit.two l0 l1 J0 J1 Q) a w) → c.wp P (Exit.two l0 l1 J0 J1 Q) a w) : (Code.scope c).wp P Q a w := by
  intro b k cs
  have hg0 : gotoIn l0 (.inScope c :: k) = some (.code (Code.skip.seq X) :: .inScope c :: k) := by simp [gotoIn, hf0]
  have hg1 : gotoIn l1 (.inScope c :: k) = some (.code (Code.skip.seq Y) :: .inScope c :: k) := by simp [gotoIn, hf1]
  have p1 : ∀ K0 : Act → World → Prop, ∀ a w, J1 a w → Y.wp P (Exit.two l0 l1 K0 J1 Q) a w := fun K0 a w hJ =>
    wp_mono (pass1 a w hJ) fun e a' w' h => by
      cases e with
      | goto l' => exact h.elim (fun x => x.2.elim) (fun x => x.2.elim)
      | _ => exact h
  have p0 := pass0 p1
  have key1 : ∀ a w, J1 a w → ∃ e a' w', Q e a' w' ∧ Arrives P (lone (b.at a (.code (Code.skip.seq Y) :: .inScope c :: k)) cs w) b k cs e a' w' := by
    intro a w hJ
    obtain ⟨e, a₁, w₁, hq, harr⟩ := (wp_seq (wp_skip (pass1 a w hJ)) : (Code.skip.seq Y).wp P _ a w) b (.inScope c :: k) cs
    cases e with
    | normal => exact ⟨.normal, a₁, w₁, hq, Steps.trans harr (.one step_inScope)⟩
    | exit id => exact ⟨.exit id, a₁, w₁, hq, fun k' hk => harr k' (by simp [exitTo, hk])⟩
    | goto l' => exact (hq.elim (fun x => x.2.elim) (fun x => x.2.elim) : False).elim
    | ret => exact ⟨_, a₁, w₁, hq, harr⟩
    | panic ch => exact ⟨_, a₁, w₁, hq, harr⟩
    | outgrown => exact ⟨_, a₁, w₁, hq, harr⟩
  have key0 : ∀ n a w, μ a w = n → J0 a w → ∃ e a' w', Q e a' w' ∧ Arrives P (lone (b.at a (.code (Code.skip.seq X) :: .inScope c :: k)) cs w) b k cs e a' w' := by
    intro n
    induction n using Nat.strongRecOn with
    | _ n ih =>
      intro a w hn hJ
      obtain ⟨e, a₁, w₁, hq, harr⟩ := (wp_seq (wp_skip (p0 a w hJ)) : (Code.skip.seq X).wp P _ a w) b (.inScope c :: k) cs
      cases e with
      | normal => exact ⟨.normal, a₁, w₁, hq, Steps.trans harr (.one step_inScope)⟩
      | exit id => exact ⟨.exit id, a₁, w₁, hq, fun k' hk => harr k' (by simp [exitTo, hk])⟩
      | goto l' =>
        rcases (show (l' = l0 ∧ J0 a₁ w₁ ∧ μ a₁ w₁ < μ a w) ∨ (l' = l1 ∧ J1 a₁ w₁) from hq) with ⟨rfl, hJ', hlt⟩ | ⟨rfl, hJ'⟩
        · obtain ⟨e₂, a₂, w₂, hq₂, harr₂⟩ := ih _ (by omega) a₁ w₁ rfl hJ'
          exact ⟨e₂, a₂, w₂, hq₂, .of_steps (harr _ hg0) harr₂⟩
        · obtain ⟨e₂, a₂, w₂, hq₂, harr₂⟩ := key1 a₁ w₁ hJ'
          exact ⟨e₂, a₂, w₂, hq₂, .of_steps (harr _ hg1) harr₂⟩
      | ret => exact ⟨_, a₁, w₁, hq, harr⟩
      | panic ch => exact ⟨_, a₁, w₁, hq, harr⟩
      | outgrown => exact ⟨_, a₁, w₁, hq, harr⟩
  obtain ⟨e, a₁, w₁, hq, harr⟩ := first (fun a w hJ => wp_mono (p0 a w hJ) (Exit.two_mono fun a' w' h => h.1)) b (.inScope c :: k) cs
  cases e with
  | normal => exact ⟨.normal, a₁, w₁, hq, .head step_scope (Steps.trans harr (.one step_inScope))⟩
  | exit id => exact ⟨.exit id, a₁, w₁, hq, fun k' hk => .head step_scope (harr k' (by simp [exitTo, hk]))⟩
  | goto l' =>
    rcases (show (l' = l0 ∧ J0 a₁ w₁) ∨ (l' = l1 ∧ J1 a₁ w₁) from hq) with ⟨rfl, hJ'⟩ | ⟨rfl, hJ'⟩
    · obtain ⟨e₂, a₂, w₂, hq₂, harr₂⟩ := key0 _ a₁ w₁ rfl hJ'
      exact ⟨e₂, a₂, w₂, hq₂, .of_steps (.head step_scope (harr _ hg0)) harr₂⟩
    · obtain ⟨e₂, a₂, w₂, hq₂, harr₂⟩ := key1 a₁ w₁ hJ'
      exact ⟨e₂, a₂, w₂, hq₂, .of_steps (.head step_scope (harr _ hg1)) harr₂⟩
  | ret => exact ⟨_, a₁, w₁, hq, .of_steps (.one step_scope) harr⟩
  | panic ch => exact ⟨_, a₁, w₁, hq, .of_steps (.one step_scope) harr⟩
  | outgrown => exact ⟨_, a₁, w₁, hq, .of_steps (.one step_scope) harr⟩
end Go.Proofs.Ytccaaldfccgncaa.A

/- Hear, whatever comes. -/
import Derived.Test.YtcdjofneijlbgaaCH
namespace Go.Proofs.Ytcdjofneijlbgaa.A
open Go.RowKit Go.Proofs.Ytcdjofneijlbgaa.K Go.Proofs.Ytcdjofneijlbgaa.F Go.Proofs.Ytcdjofneijlbgaa.N
set_option linter.unusedVariables false
set_option linter.unusedSimpArgs false

/-- What a call of Hear tells. -/
structure Told where
  E : Int
  T : Bool
  B : List Nat
  st : Nat → Held
  heard : Int
  gone : Int
/-- Points that a process would hold. -/
def nextH (h : Held) (f : Bool) (L : List Pt) : Held := if f = true then (L, 1) else (mixL h.1 L L.length, h.2 + 1)
def isOut (p : Int) : Prop := p < 0 ∨ 8 ≤ p
def isSt (h : Held) (f : Bool) (L : List Pt) : Prop := f = false ∧ (h.2 = 0 ∨ h.1.length ≠ L.length)
def Hears (tries heard gone : Int) (st : Nat → Held) (p : Int) (f : Bool) (L : List Pt) (r : Told) : Prop :=
  (isOut p ∧ r = ⟨1, false, [], st, heard, gone⟩) ∨
  (¬ isOut p ∧ ¬ Whole L ∧ r = ⟨1, false, [], st, heard, gone⟩) ∨
  (¬ isOut p ∧ Whole L ∧ isSt (st p.toNat) f L ∧ r = ⟨7, false, [], st, heard, gone⟩) ∨
  (¬ isOut p ∧ Whole L ∧ ¬ isSt (st p.toNat) f L ∧ r = ⟨0, hearT (nextH (st p.toNat) f L).1, if hearT (nextH (st p.toNat) f L).1 = true then hearB (nextH (st p.toNat) f L).1 else [],
    (hearG tries heard gone st p.toNat (nextH (st p.toNat) f L).1 (nextH (st p.toNat) f L).2).1, (hearG tries heard gone st p.toNat (nextH (st p.toNat) f L).1 (nextH (st p.toNat) f L).2).2.1, (hearG tries heard gone st p.toNat (nextH (st p.toNat) f L).1 (nextH (st p.toNat) f L).2).2.2⟩)
theorem hears_some (tries heard gone : Int) (st : Nat → Held) (p : Int) (f : Bool) (L : List Pt) : ∃ r, Hears tries heard gone st p f L r := by
  by_cases h1 : isOut p
  · exact ⟨_, .inl ⟨h1, rfl⟩⟩
  · by_cases h2 : Whole L
    · by_cases h3 : isSt (st p.toNat) f L
      · exact ⟨_, .inr (.inr (.inl ⟨h1, h2, h3, rfl⟩))⟩
      · exact ⟨_, .inr (.inr (.inr ⟨h1, h2, h3, rfl⟩))⟩
    · exact ⟨_, .inr (.inl ⟨h1, h2, rfl⟩)⟩
/-- What every process holds. -/
def Good (tries : Int) (st : Nat → Held) : Prop := ∀ p, ((st p).2 : Int) < tries ∧ Lim (1000 * (st p).2) (st p).1
theorem Lim.mono {k m : Nat} {L : List Pt} (h : Lim k L) (hk : k ≤ m) : Lim m L := fun q hq => by have := h q hq; omega
theorem good0 {tries : Int} (h : 1 ≤ tries) : Good tries st0 := fun p => ⟨by show (0 : Int) < tries; omega, fun q hq => by simp [st0] at hq⟩
theorem next_lim {tries : Int} {st : Nat → Held} (h : Good tries st) {p : Nat} {f : Bool} {L : List Pt} (hW : Whole L) : Lim (1000 * (nextH (st p) f L).2) (nextH (st p) f L).1 := by
  unfold nextH
  by_cases hf : f = true
  · rw [if_pos hf]; exact fun q hq => hW.2 q hq
  · rw [if_neg hf]
    have := mix_lim (h p).2 (show Lim 1000 L from fun q hq => hW.2 q hq) L.length
    exact this.mono (by simp only; omega)
theorem Good.hears {tries heard gone : Int} {st : Nat → Held} (h : Good tries st) (h1 : 1 ≤ tries) {p : Int} {f : Bool} {L : List Pt} {r : Told} (hr : Hears tries heard gone st p f L r) : Good tries r.st := by
  have hz : Lim (1000 * (([], 0) : Held).2) (([], 0) : Held).1 := fun q hq => by simp at hq
  rcases hr with ⟨-, rfl⟩ | ⟨-, -, rfl⟩ | ⟨-, -, -, rfl⟩ | ⟨-, hW, -, rfl⟩
  · exact h
  · exact h
  · exact h
  · have hl := next_lim h (p := p.toNat) (f := f) hW
    obtain ⟨⟨X, m⟩, hX⟩ : ∃ X, nextH (st p.toNat) f L = X := ⟨_, rfl⟩
    rw [hX] at hl ⊢
    simp only at hl ⊢
    have key : ∀ (h' : Held), ((h'.2 : Int) < tries ∧ Lim (1000 * h'.2) h'.1) → ∀ q, ((upd st p.toNat h' q).2 : Int) < tries ∧ Lim (1000 * (upd st p.toNat h' q).2) (upd st p.toNat h' q).1 := fun h' hh q => by
      unfold upd
      split
      · exact hh
      · exact h q
    intro q
    unfold hearG
    split
    · exact key ([], 0) ⟨by show (0 : Int) < tries; omega, hz⟩ q
    · split
      · exact key ([], 0) ⟨by show (0 : Int) < tries; omega, hz⟩ q
      · exact key (X, m) ⟨by show (m : Int) < tries; omega, hl⟩ q
theorem hear_any (w : World) (g : Nat) (tries heard gone : Int) (st : Nat → Held) (p : Int) (f : Bool) (A : Option Addr) (n c : Nat) (L : List Pt) (r : Told) (h : IsBox w g tries heard gone st) (h1 : 1 ≤ tries) (h16 : tries ≤ 16) (hg : Good tries st) (hr : RdC w A L) (hn : L.length = n) (hn9 : n ≤ 100000) (hs : Sml L)
    (hR : Hears tries heard gone st p f L r) (b1 : 0 ≤ heard) (b2 : heard ≤ 1000000000) (b3 : 0 ≤ gone) (b4 : gone ≤ 1000000000) :
    Calls Try.prog 11 #[.pointer (some ⟨g, 0, none⟩), .int .i64 p, .bool f, .slice A n c] w fun e w' => ∃ v, e = .returned (.tuple #[v, .bool r.T, .int .i64 r.E]) ∧ RowB w' w.heap.size v r.B ∧ IsBox w' g tries r.heard r.gone r.st ∧ Frm (fun x => x = g) w w' := by
  have ht : tries ≠ 0 := by omega
  rcases hR with ⟨ho, rfl⟩ | ⟨ho, hW, rfl⟩ | ⟨ho, hW, hS, rfl⟩ | ⟨ho, hW, hS, rfl⟩
  · have ha := ask_ok w g tries heard gone st p h ht
    rw [show askE p = 1 from if_pos ho] at ha
    refine (hear_ask w _ p 1 f A n c ha (by decide)).mono ?_
    rintro e w' ⟨rfl, rfl⟩
    exact ⟨_, rfl, World.ownsRow_nil _ _ _ _, h, Frm.refl _ _⟩
  · obtain ⟨q, rfl⟩ := Int.eq_ofNat_of_zero_le (show 0 ≤ p by unfold isOut at ho; omega)
    refine (hear_arg w g tries heard gone st q f A n c L h ht (by unfold isOut at ho; omega) hr hn hn9 hs hW).mono ?_
    rintro e w' ⟨rfl, F⟩
    exact ⟨_, rfl, World.ownsRow_nil _ _ _ _, h.frmN F, F.mono fun _ h => h.elim⟩
  · obtain ⟨q, rfl⟩ := Int.eq_ofNat_of_zero_le (show 0 ≤ p by unfold isOut at ho; omega)
    rw [Int.toNat_natCast] at hS
    obtain ⟨rfl, hS⟩ := hS
    refine (hear_state w g tries heard gone st q A n c (st q).2 (st q).1 L h ht (by unfold isOut at ho; omega) hr hn hW rfl (by rw [← hn]; exact hS)).mono ?_
    rintro e w' ⟨rfl, F⟩
    exact ⟨_, rfl, World.ownsRow_nil _ _ _ _, h.frmN F, F.mono fun _ h => h.elim⟩
  · obtain ⟨q, rfl⟩ := Int.eq_ofNat_of_zero_le (show 0 ≤ p by unfold isOut at ho; omega)
    rw [Int.toNat_natCast] at hS ⊢
    have hq : q < 8 := by unfold isOut at ho; omega
    cases f with
    | true =>
      have hN : nextH (st q) true L = (L, 1) := if_pos rfl
      rw [hN]
      refine (hear_fresh w g tries heard gone st q A n c L h ht hq hr hn hW b1 b2 b3 b4).mono ?_
      rintro e w' ⟨v, rfl, R, Bx, F⟩
      exact ⟨v, rfl, R, Bx, F⟩
    | false =>
      have hN : nextH (st q) false L = (mixL (st q).1 L n, (st q).2 + 1) := by unfold nextH; rw [if_neg (by decide), hn]
      rw [hN]
      have hS2 : (st q).2 ≠ 0 ∧ (st q).1.length = L.length := by
        unfold isSt at hS
        constructor
        · exact fun e => hS ⟨rfl, .inl e⟩
        · exact Classical.byContradiction fun e => hS ⟨rfl, .inr e⟩
      have hgq := hg q
      refine (hear_mix w g tries heard gone st q A n c (st q).2 (st q).1 L h ht hq hr hn hW rfl hS2.1 (by omega) (by rw [hS2.2]; exact hn) (hgq.2.mono (by omega)) b1 b2 b3 b4).mono ?_
      rintro e w' ⟨v, rfl, R, Bx, F⟩
      exact ⟨v, rfl, R, Bx, F⟩
/-- Another process holds what it held. -/
theorem hears_other {tries heard gone : Int} {st : Nat → Held} {p : Int} {f : Bool} {L : List Pt} {r : Told} (hr : Hears tries heard gone st p f L r) (q : Nat) (hq : (q : Int) ≠ p) : r.st q = st q := by
  have hup : ∀ h, 0 ≤ p → upd st p.toNat h q = st q := fun h h0 => if_neg (by omega)
  rcases hr with ⟨-, rfl⟩ | ⟨-, -, rfl⟩ | ⟨-, -, -, rfl⟩ | ⟨ho, hW, -, rfl⟩
  · rfl
  · rfl
  · rfl
  · have h0 : 0 ≤ p := by unfold isOut at ho; omega
    obtain ⟨⟨X, m⟩, hX⟩ : ∃ X, nextH (st p.toNat) f L = X := ⟨_, rfl⟩
    rw [hX]
    show (hearG tries heard gone st p.toNat X m).1 q = _
    unfold hearG
    split
    · exact hup _ h0
    · split
      · exact hup _ h0
      · exact hup _ h0
/-- What is told of a process is what it holds, and nothing else. -/
theorem hears_same {tries heard gone heard' gone' : Int} {st st' : Nat → Held} {p : Int} {f : Bool} {L : List Pt} {r r' : Told} (hr : Hears tries heard gone st p f L r) (hr' : Hears tries heard' gone' st' p f L r') (h : st p.toNat = st' p.toNat) :
    r.E = r'.E ∧ r.T = r'.T ∧ r.B = r'.B ∧ (¬ isOut p → r.st p.toNat = r'.st p.toNat) := by
  unfold Hears at hr'
  rw [← h] at hr'
  rcases hr with ⟨h1, rfl⟩ | ⟨h1, h2, rfl⟩ | ⟨h1, h2, h3, rfl⟩ | ⟨h1, h2, h3, rfl⟩ <;>
    rcases hr' with ⟨k1, rfl⟩ | ⟨k1, k2, rfl⟩ | ⟨k1, k2, k3, rfl⟩ | ⟨k1, k2, k3, rfl⟩ <;> try contradiction
  · exact ⟨rfl, rfl, rfl, fun _ => h⟩
  · exact ⟨rfl, rfl, rfl, fun _ => h⟩
  · exact ⟨rfl, rfl, rfl, fun _ => h⟩
  · refine ⟨rfl, rfl, rfl, fun _ => ?_⟩
    obtain ⟨⟨X, m⟩, hX⟩ : ∃ X, nextH (st p.toNat) f L = X := ⟨_, rfl⟩
    rw [hX]
    show (hearG tries heard gone st p.toNat X m).1 p.toNat = (hearG tries heard' gone' st' p.toNat X m).1 p.toNat
    unfold hearG
    split
    · show upd st p.toNat ([], 0) p.toNat = upd st' p.toNat ([], 0) p.toNat
      rw [upd_self, upd_self]
    · split
      · show upd st p.toNat ([], 0) p.toNat = upd st' p.toNat ([], 0) p.toNat
        rw [upd_self, upd_self]
      · show upd st p.toNat (X, m) p.toNat = upd st' p.toNat (X, m) p.toNat
        rw [upd_self, upd_self]
/-- The counts go up by one at most. -/
theorem hears_counts {tries heard gone : Int} {st : Nat → Held} {p : Int} {f : Bool} {L : List Pt} {r : Told} (hr : Hears tries heard gone st p f L r) : heard ≤ r.heard ∧ r.heard ≤ heard + 1 ∧ gone ≤ r.gone ∧ r.gone ≤ gone + 1 := by
  rcases hr with ⟨-, rfl⟩ | ⟨-, -, rfl⟩ | ⟨-, -, -, rfl⟩ | ⟨ho, hW, -, rfl⟩
  · simp only; omega
  · simp only; omega
  · simp only; omega
  · obtain ⟨⟨X, m⟩, hX⟩ : ∃ X, nextH (st p.toNat) f L = X := ⟨_, rfl⟩
    rw [hX]
    simp only
    unfold hearG
    split
    · simp only; omega
    · split
      · simp only; omega
      · simp only; omega
end Go.Proofs.Ytcdjofneijlbgaa.A

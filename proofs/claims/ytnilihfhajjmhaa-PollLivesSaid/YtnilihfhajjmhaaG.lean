/- What comes in, opened: slices of whole numbers. And the walks of PollSoon and PollEmpty, whole. -/
import Derived.Test.YtnilihfhajjmhaaF
import Derived.ProofKit
import Derived.ChangeSlices
namespace Go.Proofs.Ytnilihfhajjmhaa.K
open Go.ChangeShapes Go.WideShapes Go.RowKit
theorem open_Ints {H : Type} {enc : TypeId × Value → H} {P : Program} {w : World} {t e : TypeId} {k : IntKind} {A : Option Addr} {len cap : Nat} {d : DataW H} {p : List MemPlace}
    (ht : P.underlying t = some (.slice e)) (he : P.underlying e = some (.int k)) (hc : P.cellsOf e = 1) (h : DataW.Trod enc P w 0 (fun _ => true) true t (.slice A len cap) d p) : ∃ zs, Ints w k A len zs := by
  obtain ⟨fuel, hf⟩ := h
  rcases open_ints ht he hc hf with ⟨hcs, _⟩ | ⟨x, l, c, zs, hcs, _, hl, hm, hz, _, hcell, hwz⟩
  · simp [Value.cells] at hcs
    obtain ⟨rfl, rfl, rfl⟩ := hcs
    exact ⟨[], rfl, by omega, by simp, fun h => absurd h (by omega)⟩
  · simp [Value.cells] at hcs
    obtain ⟨rfl, rfl, rfl⟩ := hcs
    have hz' : zs.length = cap := by simpa using hz
    refine ⟨zs.take len, by simp; omega, by unfold maxLen at hm; omega, fun z hzm => hwz z (List.mem_of_mem_take hzm), fun h0 => ⟨x, rfl, ?_, fun j hj => ?_⟩⟩
    · have := World.block_lt_of_cell? w _ (hcell 0 (by omega))
      rwa [block_add] at this
    · rw [hcell j (by omega), List.getD_eq_getElem?_getD, List.getD_eq_getElem?_getD, List.getElem?_take_of_lt hj]
end Go.Proofs.Ytnilihfhajjmhaa.K
namespace Go.Proofs.Ytnilihfhajjmhaa.A
open Go.RowKit Go.Proofs.Ytnilihfhajjmhaa.K

theorem soon_walk (P B : Int) (A : Option Addr) (n c : Nat) (zs : List Int) (w : World) (_ : (Lit.int .i64 P).wf = true) (_ : (Lit.int .i64 B).wf = true) (hI : Ints w .u16 A n zs) :
    Calls Try.prog 3 #[.int .i64 P, .int .i64 B, .slice A n c] w fun e w' => e = .returned (.bool true) ∧ Frm No w w' := by
  by_cases h : P < 1 ∨ 1000 < P ∨ B < 1 ∨ 20000 < B
  · exact soon_bad P B A n c w h
  · exact soon_ok P B A n c zs w (by omega) (by omega) (by omega) (by omega) hI

theorem empty_walk (P B : Int) (A : Option Addr) (n c : Nat) (zs : List Int) (d : Int) (w : World) (_ : (Lit.int .i64 P).wf = true) (_ : (Lit.int .i64 B).wf = true) (hI : Ints w .u16 A n zs) (hd : (Lit.int .u8 d).wf = true) :
    Calls Try.prog 4 #[.int .i64 P, .int .i64 B, .slice A n c, .int .u8 d] w fun e w' => e = .returned (.bool true) ∧ Frm No w w' := by
  by_cases h : P < 1 ∨ 1000 < P ∨ B < 1 ∨ 20000 < B
  · exact empty_bad P B A n c d w h
  · exact empty_ok P B A n c zs d w (by omega) (by omega) (by omega) (by omega) hI hd
end Go.Proofs.Ytnilihfhajjmhaa.A

/- TopCarried: the texts that came in, those that were kept, what lies there while they are pushed. -/
import Derived.Test.YtccaaldfccgncaaMW
namespace Go.Proofs.Ytccaaldfccgncaa.A
open Go.RowKit Go.Proofs.Ytccaaldfccgncaa.K
set_option linter.unusedVariables false
set_option linter.unusedSimpArgs false

/-- Texts that came in. -/
def IsTxs (w : World) (A : Option Addr) (n : Nat) (L : List Fl) : Prop := L.length = n ∧ n ≤ 9223372036854775807 ∧ ∀ i f, L[i]? = some f → ∃ ad, A = some ad ∧ ad.block < w.heap.size ∧ w.cell? (ad.add i) = some f.val ∧ Bin w f.A f.bs ∧ f.bs.length ≤ 9223372036854775807 ∧ ∀ x ∈ f.bs, x < 256
theorem IsTxs.at_ {w : World} {A : Option Addr} {n i : Nat} {L : List Fl} (h : IsTxs w A n L) (hi : i < n) : ∃ (ad : Addr) (f : Fl), A = some ad ∧ (∀ wr, Frm No w wr → wr.cell? (ad.add i) = some f.val) ∧ Bin w f.A f.bs ∧ f.bs.length ≤ 9223372036854775807 ∧ ∀ x ∈ f.bs, x < 256 := by
  obtain ⟨ad, e, hb, hc, r⟩ := h.2.2 i _ (List.getElem?_eq_getElem (by rw [h.1]; exact hi))
  exact ⟨ad, _, e, fun wr F => by rw [← hc]; exact World.cell?_of_block (F.block _ (by rw [block_add]; exact hb) (fun h => h)), r⟩
/-- Those that were kept: a row of the call's own, of slices that came in. -/
structure Kept (w wr : World) (v : Value) (F : List Fl) : Prop where
  own : wr.ownsRow w.heap.size 24 1 v F.length (F.map Fl.val)
  rd : ∀ f ∈ F, Bin w f.A f.bs ∧ ∀ x ∈ f.bs, x < 256
theorem Kept.frm {w wr w' : World} {v : Value} {F : List Fl} {S : Nat → Prop} (h : Kept w wr v F) (f : Frm S wr w') (hS : ∀ k cs, Blk wr k cs 24 → ¬ S k) : Kept w w' v F := ⟨own_frm h.own f hS, h.rd⟩
theorem Kept.frmN {w wr w' : World} {v : Value} {F : List Fl} (h : Kept w wr v F) (f : Frm No wr w') : Kept w w' v F := h.frm f (fun _ _ _ h => h)
theorem Kept.nil (w wr : World) : Kept w wr (.slice none 0 0) [] := ⟨World.ownsRow_nil _ _ _ _, fun f h => by cases h⟩
theorem Kept.out {w wr : World} {v : Value} {F : List Fl} {n : Nat} (h : Kept w wr v F) (hn : F.length = n) : ∃ A c, v = .slice A n c ∧ n ≤ c := by
  obtain ⟨A, c, rfl, hc, -⟩ := own_is h.own
  subst hn
  exact ⟨A, c, rfl, hc⟩
theorem Kept.push {w w3 w4 : World} {n : Nat} {F : List Fl} {f : Fl} {v v4 : Value} (h : Kept w w3 v F) (hn : F.length = n) (hb : Bin w f.A f.bs) (h256 : ∀ x ∈ f.bs, x < 256)
    (own4 : w4.ownsRow w.heap.size 24 1 v4 (n + 1) (F.map Fl.val ++ [f.val])) (hg : (w3.alloc (.cells #[f.val] 24)).grownBy w4 v.ownBlock) :
    Kept w w4 v4 (F ++ [f]) ∧ Frm (fun x => v.ownBlock = some x) w3 w4 ∧ (∀ t, t ≠ 24 → ∀ x cs, Blk w3 x cs t → ¬ (v.ownBlock = some x)) ∧ ∀ x, v.ownBlock = some x → w.heap.size ≤ x := by
  subst hn
  refine ⟨⟨by rw [List.length_append, List.map_append]; exact own4, fun y hy => ?_⟩, ((Frm.refl (fun x => v.ownBlock = some x) w3).alloc _).grown hg (fun k e => .inl e), fun t ht x cs hx e => ?_, fun x hx => (own_blk h.own hx).1⟩
  · rcases List.mem_append.1 hy with hy | hy
    · exact h.rd y hy
    · rcases List.mem_singleton.1 hy with rfl
      exact ⟨hb, h256⟩
  · obtain ⟨_, cs', hb'⟩ := own_blk h.own e
    exact Blk.ne hx hb' ht rfl
/-- How many bytes texts have. -/
def tl (T : List Tx) : Nat := tot (T.map Tx.bs)
theorem tl_push (T : List Tx) (t : Tx) : tl (T ++ [t]) = tl T + t.bs.length := by
  unfold tl
  rw [List.map_append, List.map_cons, List.map_nil, tot_push]
/-- What lies there while texts are pushed. -/
structure LS (w wr : World) (g9 : Nat) (b : Int) (gq : Nat) (v : Value) (F : List Fl) (T : List Tx) (ls : Int) (i : Nat) : Prop where
  q : IsQ wr gq 20000 T 0 ls (tl T : Nat)
  c : Blk wr g9 (cfg b) 26
  k : Kept w wr v F
  e : T.map Tx.bs = F.map Fl.bs
  ok : ∀ t ∈ T, 1 ≤ t.bs.length ∧ t.bs.length ≤ 1000
  len : T.length ≤ i
  byt : tl T ≤ 1000 * i
  ls0 : 0 ≤ ls
  ls1 : ls ≤ i
  frm : Frm No w wr
  lq : w.heap.size ≤ gq
theorem LS.flen {w wr : World} {g9 : Nat} {b : Int} {gq : Nat} {v : Value} {F : List Fl} {T : List Tx} {ls : Int} {i : Nat} (h : LS w wr g9 b gq v F T ls i) : F.length = T.length := by
  have := congrArg List.length h.e
  rw [List.length_map, List.length_map] at this
  exact this.symm
theorem LS.frmN {w wr w' : World} {g9 : Nat} {b : Int} {gq : Nat} {v : Value} {F : List Fl} {T : List Tx} {ls : Int} {i : Nat} (h : LS w wr g9 b gq v F T ls i) (f : Frm No wr w') : LS w w' g9 b gq v F T ls i :=
  ⟨h.q.frmN f, f.blk h.c (fun h => h), h.k.frmN f, h.e, h.ok, h.len, h.byt, h.ls0, h.ls1, h.frm.thenN f, h.lq⟩
theorem LS.skip {w wr : World} {g9 : Nat} {b : Int} {gq : Nat} {v : Value} {F : List Fl} {T : List Tx} {ls : Int} {i : Nat} (h : LS w wr g9 b gq v F T ls i) : LS w wr g9 b gq v F T ls (i + 1) :=
  ⟨h.q, h.c, h.k, h.e, h.ok, by have := h.len; omega, by have := h.byt; omega, h.ls0, by have := h.ls1; omega, h.frm, h.lq⟩
theorem LS.mono {w wr : World} {g9 : Nat} {b : Int} {gq : Nat} {v : Value} {F : List Fl} {T : List Tx} {ls : Int} {i j : Nat} (h : LS w wr g9 b gq v F T ls i) (hj : i ≤ j) : LS w wr g9 b gq v F T ls j :=
  ⟨h.q, h.c, h.k, h.e, h.ok, by have := h.len; omega, by have := h.byt; omega, h.ls0, by have := h.ls1; omega, h.frm, h.lq⟩
/-- Behind the push of one that is kept: the queue has it. -/
theorem LS.pushed {w wr w' : World} {g9 : Nat} {b : Int} {gq : Nat} {v : Value} {F : List Fl} {T : List Tx} {ls : Int} {i : Nat} (h : LS w wr g9 b gq v F T ls i) {A' : Option Addr} {c' n : Nat} {bs : List Nat} (hn : bs.length = n) (n1 : 1 ≤ n) (n2 : n ≤ 1000)
    (q : IsQ w' gq 20000 (T ++ [⟨ls + 1, A', c', bs⟩]) 0 (ls + 1) ((tl T : Nat) + (n : Int))) (f : Frm (fun x => x = gq) wr w') :
    IsQ w' gq 20000 (T ++ [⟨ls + 1, A', c', bs⟩]) 0 (ls + 1) (tl (T ++ [⟨ls + 1, A', c', bs⟩]) : Nat) ∧ Blk w' g9 (cfg b) 26 ∧ Kept w w' v F ∧ Frm No w w' := by
  have nt : ∀ t, t ≠ 64 → ∀ x cs, Blk wr x cs t → ¬ (x = gq) := fun t ht x cs hx e => by
    subst e
    obtain ⟨cs', hb⟩ := h.q.blk
    exact Blk.ne hx hb ht rfl
  refine ⟨?_, f.blk h.c (nt 26 (by decide) _ _ h.c), h.k.frm f (nt 24 (by decide)), h.frm.then f (fun x hx => .inr (by subst hx; exact h.lq))⟩
  rw [tl_push]
  show IsQ _ _ _ _ _ _ ((tl T + bs.length : Nat) : Int)
  rw [hn]
  exact q
theorem LS.next {w wr w3 w4 : World} {g9 : Nat} {b : Int} {gq : Nat} {v v4 : Value} {F : List Fl} {T : List Tx} {ls : Int} {i : Nat} (h : LS w wr g9 b gq v F T ls i) {A' : Option Addr} {c' n : Nat} {f : Fl} (hn : f.bs.length = n) (n1 : 1 ≤ n) (n2 : n ≤ 1000)
    (q : IsQ w3 gq 20000 (T ++ [⟨ls + 1, A', c', f.bs⟩]) 0 (ls + 1) (tl (T ++ [⟨ls + 1, A', c', f.bs⟩]) : Nat)) (c : Blk w3 g9 (cfg b) 26) (k : Kept w w3 v F) (fr : Frm No w w3) (hb : Bin w f.A f.bs) (h256 : ∀ x ∈ f.bs, x < 256) {m : Nat} (hm : F.length = m)
    (own4 : w4.ownsRow w.heap.size 24 1 v4 (m + 1) (F.map Fl.val ++ [f.val])) (hg : (w3.alloc (.cells #[f.val] 24)).grownBy w4 v.ownBlock) :
    LS w w4 g9 b gq v4 (F ++ [f]) (T ++ [⟨ls + 1, A', c', f.bs⟩]) (ls + 1) (i + 1) := by
  obtain ⟨k4, F4, nb, lo⟩ := k.push hm hb h256 own4 hg
  refine ⟨q.frm F4 (by obtain ⟨cs, hq⟩ := q.blk; exact nb 64 (by decide) _ _ hq) (nb 70 (by decide)) (nb 5 (by decide)), F4.blk c (nb 26 (by decide) _ _ c), k4, by rw [List.map_append, List.map_append, h.e]; rfl, fun t ht => ?_, by rw [List.length_append, List.length_singleton]; have := h.len; omega, ?_, by have := h.ls0; omega, by have := h.ls1; push_cast; omega, fr.then F4 (fun x hx => .inr (lo x hx)), h.lq⟩
  · rcases List.mem_append.1 ht with ht | ht
    · exact h.ok t ht
    · rcases List.mem_singleton.1 ht with rfl
      exact ⟨by rw [hn]; exact n1, by rw [hn]; exact n2⟩
  · rw [tl_push]
    show tl T + f.bs.length ≤ _
    have := h.byt
    omega
end Go.Proofs.Ytccaaldfccgncaa.A

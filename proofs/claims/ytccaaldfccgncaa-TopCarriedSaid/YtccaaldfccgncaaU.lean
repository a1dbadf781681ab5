/- Results that lie in cells; the usual config. -/
import Derived.Test.YtccaaldfccgncaaS
import Derived.Laws.ResultCell
import Derived.Laws.Rows
namespace Go.Proofs.Ytccaaldfccgncaa.A
open Go.RowKit Go.Proofs.Ytccaaldfccgncaa.K
set_option linter.unusedVariables false
set_option linter.unusedSimpArgs false

theorem ret_cell_tmp {P : Program} {fn : Func} {p u : Tmp} {ty : TypeId} (h : fn.results = #[.cell p ty, .tmp u]) (tmps : Array Value) (w : World) (g : Nat) (t : TypeId) (cs : Array Value) (d : TypeDesc)
    (hp : tmps.getD p undef = .pointer (some ⟨g, 0, none⟩)) (hg : Blk w g cs t) (hu : P.underlying ty = some d) (hd : (match d with | .struct _ | .array _ _ => true | _ => false) = true) (hi : (P.info? ty).map (·.size) = some cs.size) :
    (results fn tmps).run P w = .ok (.tuple #[.agg cs, tmps.getD u undef]) w := by
  rw [results_cell_tmp h, hp]
  simp only [asAddr, Sem.run_pure, Result.andThen_ok, run_loadVar_row (P := P) w g t ty cs (0, 0) d hg hu hd hi]
def cfg (b : Int) : Array Value := #[.int .i64 1, .int .i64 b, .int .i64 16, .int .i64 4, .int .i64 0, .int .i64 0, .int .i64 0, .int .i64 0, .int .i64 0, .int .i64 5000]
theorem size26 : (Try.prog.info? 26).map (·.size) = some 10 := by kernel_rfl
theorem size42 : (Try.prog.info? 42).map (·.size) = some 3 := by kernel_rfl
theorem size49 : (Try.prog.info? 49).map (·.size) = some 3 := by kernel_rfl
set_option maxRecDepth 100000 in
set_option maxHeartbeats 2000000 in
theorem usual_um (w : World) : Calls Try.prog 4 #[.int .i64 1] w fun e w' => e = .returned (.agg (cfg 5)) ∧ Frm No w w' := by
  go_enter Try.func4, Try.ntmps4
  go_wp2_with fail
  refine bodyPost_ret (results_cell_row (by rfl) _ _ w.heap.size 26 (cfg 5) (0, 0) _ rfl (Blk.new w (cfg 5) 26) Try.underlying26 rfl size26) rfl ?_
  exact ⟨rfl, (Frm.refl No w).alloc _⟩
end Go.Proofs.Ytccaaldfccgncaa.A

/- Contracts of the reference's table. -/
import Derived.Test.YtiblamfllnhcgaaRows
import Derived.Test.YtiblamfllnhcgaaT
import Derived.WalkKit
import Derived.WalkSpells
import Derived.WalkLawsBesides
import Derived.Lib.Hide
namespace Go.Proofs.Ytiblamfllnhcgaa
open Go.RowKit

theorem opwp_value {P : Program} {o : Oper} {a : Act} {w w' : World} {next : Act → World → Prop} {Q : Exit → Act → World → Prop} (v : Value)
    (h : (execOp a.eval o).run P w = .ok (.value v) w') (hk : next (a.put o.dst v) w') : o.wp P a w next Q := by
  unfold Oper.wp; rw [h]; exact hk

set_option maxRecDepth 100000 in
set_option maxHeartbeats 2000000 in
theorem rows_any (w : World) :
    Calls Try.prog 26 #[] w fun e w' => e = .returned (.slice (some ⟨w.heap.size, 0, none⟩) 45 45) ∧ w' = w.alloc (.cells (cellsOf rows) 53) := by
  go_enter Try.func26, Try.ntmps26
  go_wp2
  refine opwp_value (w' := w.alloc (.cells (cellsOf rows) 53)) (.slice (some ⟨w.heap.size, 0, none⟩) 45 45) (by kernel_rfl) ?_
  go_wp2
  go_ret
  exact ⟨rfl, rfl⟩
end Go.Proofs.Ytiblamfllnhcgaa

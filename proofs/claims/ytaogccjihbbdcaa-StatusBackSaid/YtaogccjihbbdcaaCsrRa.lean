/- csr.rows lays the table in a new block. -/
import Derived.Test.YtaogccjihbbdcaaProg
import Derived.WalkSpells
import Derived.WalkLawsBesides
import Derived.Test.YtaogccjihbbdcaaCsrT
namespace Go.Proofs.Ytaogccjihbbdcaa
open Go.RowKit
set_option maxRecDepth 100000 in
set_option maxHeartbeats 4000000 in
theorem crows_any (w : World) :
    Calls Try.prog 70 #[] w fun e w' => e = .returned (.slice (some ⟨w.heap.size, 0, none⟩) 34 34) ∧ w' = w.alloc (.cells cells19 100) := by
  go_enter Try.func70, Try.ntmps70
  go_wp2
  go_ret
  exact ⟨rfl, rfl⟩
end Go.Proofs.Ytaogccjihbbdcaa

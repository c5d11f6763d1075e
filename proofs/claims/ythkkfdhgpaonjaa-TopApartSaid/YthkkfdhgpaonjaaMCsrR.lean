import Derived.Test.YthkkfdhgpaonjaaProg
import Derived.WalkSpells
import Derived.WalkLawsBesides
import Derived.Test.YthkkfdhgpaonjaaCsrT
/- csr.rows lays the table in a new block. -/
namespace Go.Proofs.Ythkkfdhgpaonjaa
open Go.RowKit
set_option maxRecDepth 100000 in
set_option maxHeartbeats 4000000 in
theorem crows_any (w : World) :
    Calls Try.prog 82 #[] w fun e w' => e = .returned (.slice (some ⟨w.heap.size, 0, none⟩) 34 34) ∧ w' = w.alloc (.cells cells19 129) := by
  go_enter Try.func82, Try.ntmps82
  go_wp2
  go_ret
  exact ⟨rfl, rfl⟩
end Go.Proofs.Ythkkfdhgpaonjaa
/- roebuckref19.Rows lays the table in a new block. -/
namespace Go.Proofs.Ythkkfdhgpaonjaa
open Go.RowKit
set_option maxRecDepth 100000 in
set_option maxHeartbeats 4000000 in
theorem rrows_any (w : World) :
    Calls Try.prog 37 #[] w fun e w' => e = .returned (.slice (some ⟨w.heap.size, 0, none⟩) 34 34) ∧ w' = w.alloc (.cells cells19 52) := by
  go_enter Try.func37, Try.ntmps37
  go_wp2
  go_ret
  exact ⟨rfl, rfl⟩
end Go.Proofs.Ythkkfdhgpaonjaa

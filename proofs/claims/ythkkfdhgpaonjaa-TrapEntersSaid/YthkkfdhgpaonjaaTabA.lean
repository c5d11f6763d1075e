/- The table of causes, and the contract of roebuckref21.Rows: it lays that table in a new block. -/
import Derived.Test.YthkkfdhgpaonjaaArr
import Derived.Test.YthkkfdhgpaonjaaFr
namespace Go.Proofs.Ythkkfdhgpaonjaa
open Go.RowKit

def tab21 : List (Bool × Int × ByteArray) := [(false, 0, ⟨#[105, 110, 115, 110, 45, 97, 108, 105, 103, 110]⟩), (false, 1, ⟨#[105, 110, 115, 110, 45, 102, 97, 117, 108, 116]⟩), (false, 2, ⟨#[105, 108, 108, 101, 103, 97, 108]⟩), (false, 3, ⟨#[98, 114, 101, 97, 107]⟩), (false, 4, ⟨#[108, 111, 97, 100, 45, 97, 108, 105, 103, 110]⟩), (false, 5, ⟨#[108, 111, 97, 100, 45, 102, 97, 117, 108, 116]⟩), (false, 6, ⟨#[115, 116, 111, 114, 101, 45, 97, 108, 105, 103, 110]⟩), (false, 7, ⟨#[115, 116, 111, 114, 101, 45, 102, 97, 117, 108, 116]⟩), (false, 8, ⟨#[99, 97, 108, 108, 45, 117, 115, 101, 114]⟩), (false, 9, ⟨#[99, 97, 108, 108, 45, 115, 117, 112, 101, 114]⟩), (false, 11, ⟨#[99, 97, 108, 108, 45, 109, 97, 99, 104, 105, 110, 101]⟩), (false, 12, ⟨#[105, 110, 115, 110, 45, 112, 97, 103, 101]⟩), (false, 13, ⟨#[108, 111, 97, 100, 45, 112, 97, 103, 101]⟩), (false, 15, ⟨#[115, 116, 111, 114, 101, 45, 112, 97, 103, 101]⟩), (true, 1, ⟨#[115, 117, 112, 101, 114, 45, 115, 111, 102, 116]⟩), (true, 3, ⟨#[109, 97, 99, 104, 105, 110, 101, 45, 115, 111, 102, 116]⟩), (true, 5, ⟨#[115, 117, 112, 101, 114, 45, 116, 105, 109, 101]⟩), (true, 7, ⟨#[109, 97, 99, 104, 105, 110, 101, 45, 116, 105, 109, 101]⟩), (true, 9, ⟨#[115, 117, 112, 101, 114, 45, 111, 117, 116, 101, 114]⟩), (true, 11, ⟨#[109, 97, 99, 104, 105, 110, 101, 45, 111, 117, 116, 101, 114]⟩)]

def cells21 : Array Value := (tab21.flatMap fun r => [.bool r.1, .int .i64 r.2.1, .string r.2.2]).toArray

set_option maxRecDepth 100000 in
set_option maxHeartbeats 1000000 in
theorem rows21_any (w : World) :
    Calls Try.prog 121 #[] w fun e w' => e = .returned (.slice (some ⟨w.heap.size, 0, none⟩) 20 20) ∧ w' = w.alloc (.cells cells21 171) := by
  go_enter Try.func121, Try.ntmps121
  go_wp2
  go_ret
  exact ⟨rfl, rfl⟩

end Go.Proofs.Ythkkfdhgpaonjaa

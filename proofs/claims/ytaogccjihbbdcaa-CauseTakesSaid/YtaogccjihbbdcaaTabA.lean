/- The table of causes, and the contracts of roebuckref21.Rows and cause.all: each lays that table in a new block. -/
import Derived.Test.YtaogccjihbbdcaaArr
import Derived.Test.YtaogccjihbbdcaaFr
namespace Go.Proofs.Ytaogccjihbbdcaa
open Go.RowKit

def tab21 : List (Bool × Int × ByteArray) := [(false, 0, ⟨#[105, 110, 115, 110, 45, 97, 108, 105, 103, 110]⟩), (false, 1, ⟨#[105, 110, 115, 110, 45, 102, 97, 117, 108, 116]⟩), (false, 2, ⟨#[105, 108, 108, 101, 103, 97, 108]⟩), (false, 3, ⟨#[98, 114, 101, 97, 107]⟩), (false, 4, ⟨#[108, 111, 97, 100, 45, 97, 108, 105, 103, 110]⟩), (false, 5, ⟨#[108, 111, 97, 100, 45, 102, 97, 117, 108, 116]⟩), (false, 6, ⟨#[115, 116, 111, 114, 101, 45, 97, 108, 105, 103, 110]⟩), (false, 7, ⟨#[115, 116, 111, 114, 101, 45, 102, 97, 117, 108, 116]⟩), (false, 8, ⟨#[99, 97, 108, 108, 45, 117, 115, 101, 114]⟩), (false, 9, ⟨#[99, 97, 108, 108, 45, 115, 117, 112, 101, 114]⟩), (false, 11, ⟨#[99, 97, 108, 108, 45, 109, 97, 99, 104, 105, 110, 101]⟩), (false, 12, ⟨#[105, 110, 115, 110, 45, 112, 97, 103, 101]⟩), (false, 13, ⟨#[108, 111, 97, 100, 45, 112, 97, 103, 101]⟩), (false, 15, ⟨#[115, 116, 111, 114, 101, 45, 112, 97, 103, 101]⟩), (true, 1, ⟨#[115, 117, 112, 101, 114, 45, 115, 111, 102, 116]⟩), (true, 3, ⟨#[109, 97, 99, 104, 105, 110, 101, 45, 115, 111, 102, 116]⟩), (true, 5, ⟨#[115, 117, 112, 101, 114, 45, 116, 105, 109, 101]⟩), (true, 7, ⟨#[109, 97, 99, 104, 105, 110, 101, 45, 116, 105, 109, 101]⟩), (true, 9, ⟨#[115, 117, 112, 101, 114, 45, 111, 117, 116, 101, 114]⟩), (true, 11, ⟨#[109, 97, 99, 104, 105, 110, 101, 45, 111, 117, 116, 101, 114]⟩)]

def cells21 : Array Value := (tab21.flatMap fun r => [.bool r.1, .int .i64 r.2.1, .string r.2.2]).toArray

set_option maxRecDepth 100000 in
set_option maxHeartbeats 1000000 in
theorem rows21_any (w : World) :
    Calls Try.prog 55 #[] w fun e w' => e = .returned (.slice (some ⟨w.heap.size, 0, none⟩) 20 20) ∧ w' = w.alloc (.cells cells21 90) := by
  go_enter Try.func55, Try.ntmps55
  go_wp2
  go_ret
  exact ⟨rfl, rfl⟩

theorem all1_any (c : Int) (s : ByteArray) (w : World) :
    Calls Try.prog 63 #[.int .i64 c, .string s] w fun e w' => e = .returned (.agg #[.bool false, .int .i64 c, .string s]) ∧ Below w.heap.size w w' := by
  go_enter Try.func63, Try.ntmps63
  go_wp2
  exact bodyPost_ret (v := .agg #[.bool false, .int .i64 c, .string s]) (by simp [results, Try.results63, go_sem]) rfl ⟨rfl, (Below.refl _ _).alloc (Nat.le_refl _) _⟩

theorem all2_any (c : Int) (s : ByteArray) (w : World) :
    Calls Try.prog 64 #[.int .i64 c, .string s] w fun e w' => e = .returned (.agg #[.bool true, .int .i64 c, .string s]) ∧ Below w.heap.size w w' := by
  go_enter Try.func64, Try.ntmps64
  go_wp2
  exact bodyPost_ret (v := .agg #[.bool true, .int .i64 c, .string s]) (by simp [results, Try.results64, go_sem]) rfl ⟨rfl, (Below.refl _ _).alloc (Nat.le_refl _) _⟩

def AllPost (w : World) (e : Ending) (w' : World) : Prop := ∃ b, e = .returned (.slice (some ⟨b, 0, none⟩) 20 20) ∧ w.heap.size ≤ b ∧ w'.heap[b]? = some (.cells cells21 86) ∧ Below w.heap.size w w'

theorem all_end {w wl : World} {c : Array Value} (h : Fr w.heap.size w wl) (hc : c = cells21) :
    AllPost w (.returned (.slice (some ⟨wl.heap.size, 0, none⟩) 20 20)) (wl.alloc (.cells c 86)) :=
  ⟨_, rfl, h.2, by rw [hc]; exact heap_alloc_new _ _, (h.alloc _).1⟩

set_option maxRecDepth 100000 in
set_option maxHeartbeats 1000000 in
theorem all_any (w : World) : Calls Try.prog 54 #[] w (AllPost w) := by
  have hf := Fr.refl w
  go_enter Try.func54, Try.ntmps54
  go_wp2_with (first
    | (go_at_call 63; refine (all1_any _ _ _).mono ?_; rintro e w' ⟨rfl, hb⟩; have hf' := Fr.step (by assumption) hb; clear hb)
    | (go_at_call 64; refine (all2_any _ _ _).mono ?_; rintro e w' ⟨rfl, hb⟩; have hf' := Fr.step (by assumption) hb; clear hb))
  go_ret
  exact all_end (by assumption) rfl
end Go.Proofs.Ytaogccjihbbdcaa

/- A job in memory; its Done. -/
import Derived.Test.YtdeheoaeagoidaaTwZ
namespace Go.Proofs.Ytdeheoaeagoidaa
open Go.RowKit
set_option linter.unusedSimpArgs false
set_option linter.unusedVariables false

/-- A job at place o of block b. -/
structure JobAt (w : World) (b o : Nat) (c : Array Value) (g cap took : Nat) (did : Bool) (gave : Nat) : Prop where
  blk : w.heap[b]? = some (.cells c 37)
  need : c[o]? = some (.slice (some ⟨g, 0, none⟩) 2 cap)
  tk : c[o + 1]? = some (.int .i64 (took : Int))
  dd : c[o + 2]? = some (.bool did)
  gv : c[o + 3]? = some (.int .i64 (gave : Int))
theorem JobAt.cells {w : World} {b o : Nat} {c : Array Value} {g cap took : Nat} {did : Bool} {gave : Nat} (h : JobAt w b o c g cap took did gave) :
    w.cell? ⟨b, o, none⟩ = some (.slice (some ⟨g, 0, none⟩) 2 cap) ∧ w.cell? ⟨b, o + 1, none⟩ = some (.int .i64 (took : Int)) ∧ w.cell? ⟨b, o + 2, none⟩ = some (.bool did) ∧ w.cell? ⟨b, o + 3, none⟩ = some (.int .i64 (gave : Int)) ∧ b < w.heap.size ∧ ∀ p, w.frozen? ⟨b, p, none⟩ = false :=
  ⟨by rw [cell_at h.blk]; exact h.need, by rw [cell_at h.blk]; exact h.tk, by rw [cell_at h.blk]; exact h.dd, by rw [cell_at h.blk]; exact h.gv, lt_of_at h.blk, fun p => by simp [World.frozen?, h.blk]⟩
theorem JobAt.keep {w w' : World} {b o : Nat} {c : Array Value} {g cap took : Nat} {did : Bool} {gave : Nat} (h : JobAt w b o c g cap took did gave) (hb : Below w.heap.size w w') : JobAt w' b o c g cap took did gave := ⟨keepB hb h.blk, h.need, h.tk, h.dd, h.gv⟩
theorem JobAt.to {w w' : World} {b o : Nat} {c : Array Value} {g cap took : Nat} {did : Bool} {gave : Nat} (h : JobAt w b o c g cap took did gave) (hb : w.heap[b]? = some (.cells c 37) → w'.heap[b]? = some (.cells c 37)) : JobAt w' b o c g cap took did gave := ⟨hb h.blk, h.need, h.tk, h.dd, h.gv⟩
set_option maxRecDepth 100000 in
set_option maxHeartbeats 8000000 in
theorem done_no (b o g cap took gave : Nat) (c : Array Value) (w : World) (h : JobAt w b o c g cap took false gave) :
    Calls Try.prog 12 #[.pointer (some ⟨b, o, none⟩)] w fun e w' => e = .returned (.bool false) ∧ ∃ n, w' = w.drewN n := by
  obtain ⟨c0, c1, c2, c3, cl, cf⟩ := h.cells
  go_enter Try.func12, Try.ntmps12
  go_wp2_with fail
  go_quiet (fail)
  go_wp2_with fail
  go_ret
  exact ⟨rfl, _, rfl⟩
set_option maxRecDepth 100000 in
set_option maxHeartbeats 8000000 in
theorem done_yes (b o g cap took gave : Nat) (q : Bool) (c : Array Value) (w : World) (hq : ((gave : Int) == 2) = q) (h : JobAt w b o c g cap took true gave) :
    Calls Try.prog 12 #[.pointer (some ⟨b, o, none⟩)] w fun e w' => e = .returned (.bool q) ∧ ∃ n, w' = w.drewN n := by
  obtain ⟨c0, c1, c2, c3, cl, cf⟩ := h.cells
  go_enter Try.func12, Try.ntmps12
  go_wp2_with fail
  go_quiet (fail)
  go_wp2_with fail
  go_ret
  exact ⟨rfl, _, rfl⟩
end Go.Proofs.Ytdeheoaeagoidaa

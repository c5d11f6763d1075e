/- clint's Tick and Lines; the chapter's example. -/
import Derived.Test.YtgelpapjmlbgfaaClD
namespace Go.Proofs.Ytgelpapjmlbgfaa
open Go.RowKit
set_option linter.unusedSimpArgs false
set_option linter.unusedVariables false

def tickOf (s : CS) (n : Int) : CS := if 0 < n ∧ 0 < s.n then setT s ((s.t + n.toNat) % 18446744073709551616) else s
def linesOf (s : CS) (h : Int) : Nat := if h < 0 ∨ s.n ≤ h then 0 else (if s.f h.toNat = true then 8 else 0) + (if s.c h.toNat ≤ s.t then 128 else 0)

theorem OkC.tick {s : CS} (ok : OkC s) (n : Int) : OkC (tickOf s n) := by
  unfold tickOf
  split
  · exact ⟨ok.n0, ok.n8, Nat.mod_lt _ (by omega), ok.c⟩
  · exact ok
theorem tick_wrap (t : Nat) (n : Int) (hn : 0 < n) : IntKind.u64.wrap ((t : Int) + n) = (((t + n.toNat) % 18446744073709551616 : Nat) : Int) := by
  simp [IntKind.wrap, IntKind.bits, IntKind.signed]
  omega

set_option maxRecDepth 100000 in
set_option maxHeartbeats 2000000 in
theorem tick_any (b : Nat) (s : CS) (n : Int) (w : World) (hn : n ≤ 9223372036854775807) (ok : OkC s)
    (h : w.heap[b]? = some (.cells (cellsC s) 27)) :
    Calls Try.prog 13 #[.pointer (some ⟨b, 0, none⟩), .int .i64 n] w fun e w' => (∃ v, e = .returned v) ∧ w'.heap[b]? = some (.cells (cellsC (tickOf s n)) 27) ∧ Wrote b w w' := by
  obtain ⟨c0, c1, cl, cf⟩ := knownC h
  by_cases h1 : 0 < n
  · by_cases h2 : 0 < s.n
    · have H : Hid (tickOf s n = setT s ((s.t + n.toNat) % 18446744073709551616)) := by show _ = _; unfold tickOf; rw [if_pos ⟨h1, h2⟩]
      have HW := Lib.hid (tick_wrap s.t n h1)
      go_enter Try.func13, Try.ntmps13
      go_wp2
      go_end0
      refine ⟨⟨_, rfl⟩, ?_, (Wrote.refl b w).setCell _ _⟩
      rw [H.out, ← cellsC_setT, HW.out]
      exact set_at h 1 _
    · have H : Hid (tickOf s n = s) := by show _ = _; unfold tickOf; rw [if_neg (by omega)]
      go_enter Try.func13, Try.ntmps13
      go_wp2
      go_end0
      exact ⟨⟨_, rfl⟩, by rw [H.out]; exact h, Wrote.refl b w⟩
  · have H : Hid (tickOf s n = s) := by show _ = _; unfold tickOf; rw [if_neg (by omega)]
    go_enter Try.func13, Try.ntmps13
    go_wp2
    go_end0
    exact ⟨⟨_, rfl⟩, by rw [H.out]; exact h, Wrote.refl b w⟩

set_option maxRecDepth 100000 in
set_option maxHeartbeats 2000000 in
theorem lines_out (b : Nat) (s : CS) (i : Int) (w : World) (hi : i < 0 ∨ s.n ≤ i)
    (h : w.heap[b]? = some (.cells (cellsC s) 27)) :
    Calls Try.prog 12 #[.pointer (some ⟨b, 0, none⟩), .int .i64 i] w fun e w' => e = .returned (.int .u64 ((linesOf s i : Nat) : Int)) ∧ Below w.heap.size w w' := by
  have H : Hid (linesOf s i = 0) := by show _ = _; unfold linesOf; rw [if_pos hi]
  obtain ⟨c0, c1, cl, cf⟩ := knownC h
  by_cases h1 : i < 0
  · go_enter Try.func12, Try.ntmps12
    go_wp2
    go_ret
    exact ⟨by rw [H.out]; rfl, Below.refl _ _⟩
  · have h2 : s.n ≤ i := by omega
    go_enter Try.func12, Try.ntmps12
    go_wp2
    go_ret
    exact ⟨by rw [H.out]; rfl, Below.refl _ _⟩
set_option maxRecDepth 100000 in
set_option maxHeartbeats 2000000 in
theorem lines_in (b : Nat) (s : CS) (i : Nat) (f : Bool) (c t : Nat) (w : World) (hi : (i : Int) < s.n) (ok : OkC s) (hf : s.f i = f) (hc : s.c i = c) (ht : s.t = t)
    (h : w.heap[b]? = some (.cells (cellsC s) 27)) :
    Calls Try.prog 12 #[.pointer (some ⟨b, 0, none⟩), .int .i64 (i : Int)] w fun e w' => e = .returned (.int .u64 (((if f = true then 8 else 0) + (if c ≤ t then 128 else 0) : Nat) : Int)) ∧ Below w.heap.size w w' := by
  have hi8 : i < 8 := by have := ok.n8; omega
  obtain ⟨c0, c1, cl, cf⟩ := knownC h
  have cc := knownCc h hi8
  have cb := knownCf h hi8
  have bt := ok.t
  have bc := ok.c i
  rw [hf] at cb
  rw [hc] at cc bc
  rw [ht] at c1 bt
  by_cases hle : c ≤ t
  · have e1 : decide ((c : Int) ≤ (t : Int)) = true := by simp; exact hle
    rw [if_pos hle]
    cases f
    all_goals
      go_enter Try.func12, Try.ntmps12
      go_wp2_with fail
      go_quiet (fail)
      go_wp2
      go_ret
      exact ⟨rfl, ((Fr.refl w).drewN _).1⟩
  · have e1 : decide ((c : Int) ≤ (t : Int)) = false := by simp; omega
    rw [if_neg hle]
    cases f
    all_goals
      go_enter Try.func12, Try.ntmps12
      go_wp2_with fail
      go_quiet (fail)
      go_wp2
      go_ret
      exact ⟨rfl, ((Fr.refl w).drewN _).1⟩
theorem lines_any (b : Nat) (s : CS) (i : Int) (w : World) (ok : OkC s)
    (h : w.heap[b]? = some (.cells (cellsC s) 27)) :
    Calls Try.prog 12 #[.pointer (some ⟨b, 0, none⟩), .int .i64 i] w fun e w' => e = .returned (.int .u64 ((linesOf s i : Nat) : Int)) ∧ Below w.heap.size w w' := by
  by_cases hi : i < 0 ∨ s.n ≤ i
  · exact lines_out b s i w hi h
  · obtain ⟨k, rfl⟩ := Int.eq_ofNat_of_zero_le (by omega : 0 ≤ i)
    have e : linesOf s (k : Int) = (if s.f k = true then 8 else 0) + (if s.c k ≤ s.t then 128 else 0) := by
      unfold linesOf; rw [if_neg hi]; rfl
    rw [e]
    exact lines_in b s k _ _ _ w (by omega) ok rfl rfl rfl h
end Go.Proofs.Ytgelpapjmlbgfaa

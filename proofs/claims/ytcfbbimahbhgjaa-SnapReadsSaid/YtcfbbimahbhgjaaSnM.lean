/- Snap: a reader that is not there; a new reader; what is left, and the error. -/
import Derived.Test.YtcfbbimahbhgjaaSnL
namespace Go.Proofs.Ytcfbbimahbhgjaa
open Go.RowKit
set_option linter.unusedSimpArgs false
set_option linter.unusedVariables false

theorem nilr_num (w : World) : Calls Try.prog 19 #[.pointer none] w fun ed w' => ed = .returned (.int .u64 0) ∧ w' = w := by
  go_enter Try.func19, Try.ntmps19
  go_wp2_with fail
  refine (stopped_nil _).mono ?_
  rintro e w1 ⟨rfl, rfl⟩
  go_wp2_with fail
  go_ret
  exact ⟨rfl, rfl⟩
theorem nilr_int (w : World) : Calls Try.prog 20 #[.pointer none] w fun ed w' => ed = .returned (.int .i64 0) ∧ w' = w := by
  have e0 : bits .xor .i64 0 0 = 0 := by decide +kernel
  have e1 : bits .and .u64 0 1 = 0 := by decide +kernel
  have e2 : wrap64 0 = 0 := by decide +kernel
  go_enter Try.func20, Try.ntmps20
  go_wp2_with fail
  refine (nilr_num _).mono ?_
  rintro e w1 ⟨rfl, rfl⟩
  go_wp2_with fail
  go_ret
  exact ⟨rfl, rfl⟩
theorem nilr_truth (w : World) : Calls Try.prog 21 #[.pointer none] w fun ed w' => ed = .returned (.bool false) ∧ w' = w := by
  go_enter Try.func21, Try.ntmps21
  go_wp2_with fail
  refine (stopped_nil _).mono ?_
  rintro e w1 ⟨rfl, rfl⟩
  go_wp2_with fail
  go_ret
  exact ⟨rfl, rfl⟩
theorem nilr_raw (w : World) : Calls Try.prog 22 #[.pointer none, .int .i64 5] w fun ed w' => ed = .returned (.slice none 0 0) ∧ w' = w := by
  go_enter Try.func22, Try.ntmps22
  go_wp2_with fail
  refine (stopped_nil _).mono ?_
  rintro e w1 ⟨rfl, rfl⟩
  go_wp2_with fail
  go_ret
  exact ⟨rfl, rfl⟩
theorem nilr_left (w : World) : Calls Try.prog 23 #[.pointer none] w fun ed w' => ed = .returned (.int .i64 0) ∧ w' = w := by
  go_enter Try.func23, Try.ntmps23
  go_wp2_with fail
  go_ret
  exact ⟨rfl, rfl⟩
theorem nilr_err (w : World) : Calls Try.prog 24 #[.pointer none] w fun ed w' => ed = .returned (.int .i64 10) ∧ w' = w := by
  go_enter Try.func24, Try.ntmps24
  go_wp2_with fail
  go_ret
  exact ⟨rfl, rfl⟩
theorem left_any (rb n cap : Nat) (a : Option Addr) (s : RS) (w : World) (h : RD TR w rb a n cap s) : Calls Try.prog 23 #[.pointer (some ⟨rb, 0, none⟩)] w fun ed w' => ed = .returned (.int .i64 (n : Int)) ∧ w' = w := by
  obtain ⟨c0, c1, cf⟩ := h.cells
  clear h cf
  go_enter Try.func23, Try.ntmps23
  go_wp2_with fail
  go_ret
  exact ⟨rfl, rfl⟩
theorem err_any (rb n cap : Nat) (a : Option Addr) (s : RS) (w : World) (h : RD TR w rb a n cap s) : Calls Try.prog 24 #[.pointer (some ⟨rb, 0, none⟩)] w fun ed w' => ed = .returned (.int .i64 s.2) ∧ w' = w := by
  obtain ⟨c0, c1, cf⟩ := h.cells
  clear h cf
  go_enter Try.func24, Try.ntmps24
  go_wp2_with fail
  go_ret
  exact ⟨rfl, rfl⟩
theorem RD.new {T : TypeId} {w : World} {base n cap : Nat} {a : Option Addr} {l : List Nat} (hO : OB w base a n cap l) (hn : n ≤ 1000000000) (h8 : ∀ x ∈ l, x < 256) : RD T (w.alloc (.cells #[.slice a n cap, .int .i64 0] T)) w.heap.size a n cap (l, 0) := by
  refine ⟨heap_alloc_new w _, hO.1, ?_, hn, (hO.keep ((Below.refl _ w).alloc (Nat.le_refl _) _)).bl, h8, ?_⟩
  · rcases hO.cases with ⟨_, rfl, rfl, _⟩ | ⟨g, _, _, _, hle⟩
    · exact Nat.le_refl _
    · exact hle
  · intro ad e
    subst e
    have := (hO.lt (g := ad.block) rfl).2
    omega
theorem newreader_any (a : Option Addr) (n cap : Nat) (l : List Nat) (w : World) (hl : l.length = n) (hn : n ≤ 1000000000) (h8 : ∀ x ∈ l, x < 256) (hx : BL w a l) :
    Calls Try.prog 25 #[.slice a n cap] w fun ed w' => ∃ rb a' n' cap', ed = .returned (.pointer (some ⟨rb, 0, none⟩)) ∧ RD TR w' rb a' n' cap' (l, 0) ∧ w.heap.size ≤ rb ∧ Below w.heap.size w w' := by
  go_enter Try.func25, Try.ntmps25
  go_wp2_with fail
  refine (clone_b a n cap l _ hl hn hx).mono ?_
  rintro e w1 ⟨a1, n1, cap1, rfl, hO, hb⟩
  have hD := RD.new (T := TR) hO (by rw [← hO.1, hl]; exact hn) h8
  have F1 := (((Fr.refl w).step hb).alloc (.cells #[.slice a1 n1 cap1, .int .i64 0] TR))
  have hs := hb.size
  go_wp2_with fail
  go_ret
  exact ⟨_, a1, n1, cap1, rfl, hD, hs, F1.1⟩
/-- Bytes do not lie in a reader's block. -/
theorem BL.apart {w : World} {a : Option Addr} {l : List Nat} {rb : Nat} {x y : Value} {T : TypeId} (hB : BL w a l) (hb : w.heap[rb]? = some (.cells #[x, y] T)) (hx : ∀ n : Int, x ≠ .int .u8 n) (hy : ∀ n : Int, y ≠ .int .u8 n) (h0 : 0 < l.length) : ∀ ad, a = some ad → ad.block ≠ rb := by
  intro ad e hbk
  subst e
  have hz := hB 0 l[0] (List.getElem?_eq_getElem h0)
  obtain ⟨ad', e', _, hc⟩ := hz
  cases e'
  have z0 : ad.add 0 = ad := by unfold Addr.add; split <;> simp_all
  rw [z0] at hc
  unfold World.cell? at hc
  rw [hbk, hb] at hc
  simp only at hc
  split at hc
  · cases hc
  obtain ⟨hlt, he⟩ := Array.getElem?_eq_some_iff.1 hc
  have : ad.off = 0 ∨ ad.off = 1 := by simp at hlt; omega
  rcases this with h1 | h1
  · simp only [h1] at he; exact hx _ he
  · simp only [h1] at he; exact hy _ he
theorem RD.wrote2 {T T' : TypeId} {b rb n cap n' cap' : Nat} {w w' : World} {a a' : Option Addr} {s s' : RS} (h : RD T w rb a n cap s) (hW : Wrote b w w') (h1 : rb ≠ b) (hb : RD T' w b a' n' cap' s') : RD T w' rb a n cap s :=
  ⟨hW.2 _ _ h1 h.hb, h.len, h.lc, h.hn, h.bl.same hW.size fun ad e hl h0 => by
    have ho : w.heap[ad.block]? = some w.heap[ad.block] := Array.getElem?_eq_getElem hl
    have hne := h.bl.apart hb.hb (by intro n e; cases e) (by intro n e; cases e) h0 ad e
    rw [ho]; exact hW.2 _ _ hne ho, h.h8, h.ne⟩
theorem bytes17_v {a b : Option Addr} {n n' cap cap' : Nat} {l : List Nat} (w : World) (hl : l.length = n) (hl' : l.length = n') (hn : n ≤ 1000000000) (hA : BL w a l) (hB : BL w b l) :
    Calls Try.prog 16 #[.slice a n cap, .slice b n' cap'] w fun e w' => e = .returned (.bool true) ∧ Below w.heap.size w w' := by
  obtain rfl : n = n' := hl.symm.trans hl'
  exact bytes17_any a b n cap cap' l w hl hn hA hB
end Go.Proofs.Ytcfbbimahbhgjaa

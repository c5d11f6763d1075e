/- LinePlaces: the walk. -/
import Derived.Test.YtbboaekfhdeolaaLnH
namespace Go.Proofs.Ytbboaekfhdeolaa
open Go.RowKit
set_option linter.unusedSimpArgs false
set_option linter.unusedVariables false
attribute [local simp high] sizeLL zeroLL sizeLR zeroLR zeroWW sizeWW

theorem two_cells {w : World} {b : Nat} {v0 v1 : Value} {t : TypeId} (h : w.heap[b]? = some (.cells #[v0, v1] t)) : w.cell? ⟨b, 0, none⟩ = some v0 ∧ w.cell? ⟨b, 1, none⟩ = some v1 := by
  rw [cell_at h, cell_at h]; exact ⟨rfl, rfl⟩
theorem lput_v {g g' : Nat → Nat} {a n : Int} {v : Nat} {q : Bool} (hg : putV g a n v = g') (hq : fitB a n = q) (w : World) (ok : OkL g) (hv : v < 18446744073709551616) :
    Calls Try.prog 14 #[.agg (cellsL g), .int .i64 a, .int .i64 n, .int .u64 (v : Int)] w fun e w' => e = .returned (.tuple #[.agg (cellsL g'), .bool q]) ∧ Below w.heap.size w w' := by
  rw [← hg, ← hq]; exact lput_any g a n v w ok hv
theorem rput_v {g g' : Nat → Nat} {a n : Int} {v : Nat} {q : Bool} (hg : putV g a n v = g') (hq : fitB a n = q) (w : World) (ok : OkL g) (hv : v < 18446744073709551616) :
    Calls Try.prog 15 #[.agg (cellsL g), .int .i64 a, .int .i64 n, .int .u64 (v : Int)] w fun e w' => e = .returned (.tuple #[.agg (cellsL g'), .bool q]) ∧ Below w.heap.size w w' := by
  rw [← hg, ← hq]; exact rput_any g a n v w ok hv
theorem lof_v {a : Option Addr} {len cap : Nat} {b g : Nat → Nat} (hg : ofL b len = g) (w : World) (hb : Bytes w a len b) :
    Calls Try.prog 9 #[.slice a len cap] w fun e w' => e = .returned (.agg (cellsL g)) ∧ Below w.heap.size w w' := by
  rw [← hg]; exact lof_any a len cap b w hb
theorem rof_v {a : Option Addr} {len cap : Nat} {b g : Nat → Nat} (hg : ofL b len = g) (w : World) (hb : Bytes w a len b) (hlen : len ≤ 9223372036854775807) :
    Calls Try.prog 10 #[.slice a len cap] w fun e w' => e = .returned (.agg (cellsL g)) ∧ Below w.heap.size w w' := by
  rw [← hg]; exact rof_any a len cap b w hb hlen
theorem OkL.putV {g : Nat → Nat} (ok : OkL g) (a n : Int) (v : Nat) : OkL (putV g a n v) := by
  unfold Go.Proofs.Ytbboaekfhdeolaa.putV; split; exact ok.put _ _ _; exact ok
set_option maxRecDepth 100000 in
set_option maxHeartbeats 4000000 in
theorem places_any (a : Option Addr) (len cap : Nat) (b : Nat → Nat) (p n : Int) (v : Nat) (w : World) (hb : Bytes w a len b) (h8 : ∀ i, i < len → b i < 256) (hlen : len ≤ 9223372036854775807) (hv : v < 18446744073709551616) :
    Calls Try.prog 3 #[.slice a len cap, .agg #[.int .i64 p, .int .i64 n], .int .u64 (v : Int)] w fun e w' => e = .returned (.bool true) ∧ Below w.heap.size w w' := by
  have ok := ofL_ok h8
  obtain ⟨gl, hgl⟩ : ∃ g, ofL b len = g := ⟨_, rfl⟩
  rw [hgl] at ok
  obtain ⟨gp, hgp⟩ : ∃ g, putV gl p n v = g := ⟨_, rfl⟩
  have okp : OkL gp := by rw [← hgp]; exact ok.putV _ _ _
  obtain ⟨y, hy⟩ : ∃ y, getV gl p n = y := ⟨_, rfl⟩
  obtain ⟨q, hq⟩ : ∃ q, fitB p n = q := ⟨_, rfl⟩
  have HG := Lib.hid hgl
  have HP := Lib.hid hgp
  have HY := Lib.hid hy
  have HQ := Lib.hid hq
  have OK := Lib.hid ok
  have OKP := Lib.hid okp
  clear hgl hgp hy hq ok okp h8
  have HB := Lib.hid hb
  clear hb
  have l3 := size_cellsL
  have l4 := size_cellsW
  have s1 := stnLL
  have s2 := stnLR
  have s3 := stnWW
  have eqk : ∀ w, (Op.equalIn 10000 26 (.agg (cellsL gl)) (.agg (cellsL gl))).run Try.prog w = .ok true w := fun w => eqLs gl OK.out w
  have eqp : ∀ w, (Op.equalIn 10000 26 (.agg (cellsL gp)) (.agg (cellsL gp))).run Try.prog w = .ok true w := fun w => eqLs gp OKP.out w
  have k0 := heap_alloc_new w (.cells #[.int .i64 p, .int .i64 n] 23)
  have F0 := (Fr.refl w).alloc (.cells #[.int .i64 p, .int .i64 n] 23)
  have B0 := Lib.hid (HB.out.keep F0.1)
  go_enter Try.func3, Try.ntmps3
  go_wp2_with fail
  refine (lof_v HG.out _ B0.out).mono ?_
  rintro e w1 ⟨rfl, hb1⟩
  have B1 := Lib.hid (B0.out.keep (((Fr.refl _).step hb1).alloc (.cells (cellsL gl) 26)).1)
  have p1 := keep_alloc (keepB hb1 k0) (.cells (cellsL gl) 26)
  have q1 := heap_alloc_new w1 (.cells (cellsL gl) 26)
  have F1 := (F0.step hb1).alloc (.cells (cellsL gl) 26)
  clear k0 F0 B0 hb1
  go_wp2_with fail
  refine (rof_v HG.out _ B1.out hlen).mono ?_
  rintro e w2 ⟨rfl, hb2⟩
  have p2 := keep_alloc (keepB hb2 p1) (.cells (cellsL gl) 25)
  have q2 := keep_alloc (keepB hb2 q1) (.cells (cellsL gl) 25)
  have r2 := heap_alloc_new w2 (.cells (cellsL gl) 25)
  have F2 := (F1.step hb2).alloc (.cells (cellsL gl) 25)
  have hlt2 := lt_of_at (keepB hb2 q1)
  clear p1 q1 F1 B1 hb2
  go_upto_region 3 with fail
  obtain ⟨WB, hWB⟩ : ∃ WB, w2.alloc (.cells (cellsL gl) 25) = WB := ⟨_, rfl⟩
  obtain ⟨bl, hbl⟩ : ∃ b, w1.heap.size = b := ⟨_, rfl⟩
  obtain ⟨bx, hbx⟩ : ∃ b, w2.heap.size = b := ⟨_, rfl⟩
  rw [hWB] at p2 q2 r2 F2 ⊢
  rw [hbl] at q2 hlt2 ⊢
  rw [hbx] at r2 hlt2 ⊢
  clear hWB hbl hbx
  have ld1 := ld_rowL (P := Try.prog) q2
  have ld2 := ld_rowL (P := Try.prog) r2
  obtain ⟨c0, c1⟩ := two_cells p2
  go_wp2_with fail
  refine (lget_v HY.out HQ.out _ OK.out).mono ?_
  rintro e w3 ⟨rfl, hb3⟩
  have p3 := keepB hb3 p2
  have q3 := keepB hb3 q2
  have r3 := keepB hb3 r2
  have F3 := F2.step hb3
  clear ld1 ld2 c0 c1 p2 q2 r2 F2 hb3
  have ld2 := ld_rowL (P := Try.prog) r3
  obtain ⟨c0, c1⟩ := two_cells p3
  go_wp2_with fail
  refine (rget_v HY.out HQ.out _ OK.out).mono ?_
  rintro e w4 ⟨rfl, hb4⟩
  have p4 := keepB hb4 p3
  have q4 := keepB hb4 q3
  have r4 := keepB hb4 r3
  have F4 := F3.step hb4
  clear ld2 c0 c1 p3 q3 r3 F3 hb4
  have ld1 := ld_rowL (P := Try.prog) q4
  have hqq : (q != q) = false := by simp
  go_wp2_with fail
  refine (words_any gl _ OK.out).mono ?_
  rintro e w5 ⟨rfl, hb5⟩
  have p5 := keep_alloc (keepB hb5 p4) (.cells (cellsW (wordsL gl 8)) 32)
  have q5 := keep_alloc (keepB hb5 q4) (.cells (cellsW (wordsL gl 8)) 32)
  have r5 := keep_alloc (keepB hb5 r4) (.cells (cellsW (wordsL gl 8)) 32)
  have t5 := heap_alloc_new w5 (.cells (cellsW (wordsL gl 8)) 32)
  have F5 := (F4.step hb5).alloc (.cells (cellsW (wordsL gl 8)) 32)
  clear ld1 p4 q4 r4 F4 hb5 hqq
  go_wp2
  obtain ⟨WC, hWC⟩ : ∃ WC, w5.alloc (.cells (cellsW (wordsL gl 8)) 32) = WC := ⟨_, rfl⟩
  obtain ⟨bw, hbw⟩ : ∃ b, w5.heap.size = b := ⟨_, rfl⟩
  rw [hWC] at p5 q5 r5 t5 F5 ⊢
  rw [hbw] at t5 ⊢
  clear hWC hbw
  go_loopw [14] (fun i wr => ∃ k : Nat, k ≤ 8 ∧ i = .int .i64 (k : Int) ∧ Fr w.heap.size w wr ∧ wr.heap[w.heap.size]? = some (.cells #[.int .i64 p, .int .i64 n] 23) ∧ wr.heap[bl]? = some (.cells (cellsL gl) 26) ∧ wr.heap[bx]? = some (.cells (cellsL gl) 25) ∧ wr.heap[bw]? = some (.cells (cellsW (wordsL gl 8)) 32)) (fun i _ => 8 - (intOf i).toNat)
  case atStart => exact ⟨0, by omega, rfl, F5, p5, q5, r5, t5⟩
  case round =>
    clear F5 p5 q5 r5 t5
    obtain ⟨k, hk, rfl, hfr, hp, hq, hr, ht⟩ := hrel
    by_cases hlt : k < 8
    · obtain ⟨hy8, hq8⟩ := get8 gl k hlt
      obtain ⟨z, hz⟩ : ∃ y, numL gl (8 * k) 8 = y := ⟨_, rfl⟩
      rw [hz] at hy8
      have hwz : wordsL gl 8 k = z := by unfold wordsL; rw [if_pos hlt, hz]
      have hk8 : (k : Int) < 8 := by omega
      have hk0 : (0 : Int) ≤ k := by omega
      have ld2 := ld_rowL (P := Try.prog) hr
      have HY8 := Lib.hid hy8
      have HQ8 := Lib.hid hq8
      have HWZ := Lib.hid hwz
      clear hy8 hq8 hz hwz
      go_wp2_with fail
      refine (rget_v HY8.out HQ8.out _ OK.out).mono ?_
      rintro e w6 ⟨rfl, hb6⟩
      have E := Lib.hid (And.intro (hfr.step hb6) (And.intro (keepB hb6 hp) (And.intro (keepB hb6 hq) (And.intro (keepB hb6 hr) (keepB hb6 ht)))))
      have c2 := knownW (keepB hb6 ht) hlt
      rw [HWZ.out] at c2
      clear ld2 hfr hp hq hr ht hb6
      go_wp2
      go_roundw
      case rel => exact ⟨k + 1, by omega, by go_num, E.out⟩
      case measure => simp [intOf]; omega
    · have ld1 := ld_rowL (P := Try.prog) hq
      obtain ⟨c0, c1⟩ := two_cells hp
      go_wp2_with fail
      refine (lput_v HP.out HQ.out _ OK.out hv).mono ?_
      rintro e w6 ⟨rfl, hb6⟩
      have p7 := keep_alloc (keepB hb6 hp) (.cells (cellsL gp) 26)
      have q7 := keep_alloc (keepB hb6 hq) (.cells (cellsL gp) 26)
      have r7 := keep_alloc (keepB hb6 hr) (.cells (cellsL gp) 26)
      have u7 := heap_alloc_new w6 (.cells (cellsL gp) 26)
      have F7 := (hfr.step hb6).alloc (.cells (cellsL gp) 26)
      clear ld1 c0 c1 hfr hp hq hr ht hb6
      have ld2 := ld_rowL (P := Try.prog) r7
      obtain ⟨c0, c1⟩ := two_cells p7
      go_wp2_with fail
      refine (rput_v HP.out HQ.out _ OK.out hv).mono ?_
      rintro e w8 ⟨rfl, hb8⟩
      have q9 := keep_alloc (keepB hb8 q7) (.cells (cellsL gp) 25)
      have r9 := keep_alloc (keepB hb8 r7) (.cells (cellsL gp) 25)
      have u9 := keep_alloc (keepB hb8 u7) (.cells (cellsL gp) 25)
      have v9 := heap_alloc_new w8 (.cells (cellsL gp) 25)
      have F9 := (F7.step hb8).alloc (.cells (cellsL gp) 25)
      clear ld2 c0 c1 p7 q7 r7 u7 F7 hb8
      have ld1 := ld_rowL (P := Try.prog) q9
      have ld2 := ld_rowL (P := Try.prog) r9
      have ld3 := ld_rowL (P := Try.prog) u9
      have ld4 := ld_rowL (P := Try.prog) v9
      have hqq : (q == q) = true := by simp
      go_wp2_with fail
      refine (live09_any _).mono ?_
      rintro e w10 ⟨rfl, hb10⟩
      have FE := Lib.hid (F9.step hb10).1
      clear ld1 ld2 ld3 ld4 hqq
      go_wp2
      go_ret
      exact ⟨rfl, FE.out⟩
end Go.Proofs.Ytbboaekfhdeolaa

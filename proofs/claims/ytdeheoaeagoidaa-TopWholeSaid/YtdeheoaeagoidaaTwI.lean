/- An ask in cells; shard's Access, formed; split's May, Line, Stripe. -/
import Derived.Test.YtdeheoaeagoidaaTwH
namespace Go.Proofs.Ytdeheoaeagoidaa
open Go.RowKit
set_option linter.unusedSimpArgs false
set_option linter.unusedVariables false

/-- An ask of 8 bytes: its kind, address and number. -/
def askC (k a d : Int) : Array Value := #[.int .i64 k, .int .u64 a, .int .u64 0, .int .i64 0, .int .i64 8, .int .i64 0, .int .u64 d, .int .u64 0, .bool false, .int .i64 0, .bool false, .bool false, .bool false, .int .u64 0, .int .i64 0, .int .i64 0, .int .u64 0, .int .i64 0, .int .u64 0]
def sz19 : Nat := 19
theorem size_askC (k a d : Int) : (askC k a d).size = sz19 := rfl
theorem one_askC (k a d : Int) : (askC k a d).all (·.oneCell') = true := by simp [askC, Value.oneCell']
theorem sizeAsk (w : World) : (sizeOf 46).run Try.prog w = .ok sz19 w := by rw [Try.sizeOf46]; rfl
theorem infoAsk : (Try.prog.info? 46).map (·.size) = some 19 := by kernel_rfl
theorem ldRow {P : Program} {w : World} {b n : Nat} {c : Array Value} {t : TypeId} {f : Nat × Nat} (h : w.heap[b]? = some (.cells c t f)) (hn : c.size = n) : (loadCellsFrom ⟨b, 0, none⟩ 0 n #[]).run P w = .ok c w := by
  subst hn
  have := run_loadCells_list (P := P) w ⟨b, 0, none⟩ c.toList (fun j v hv => by
    have hadd : (⟨b, 0, none⟩ : Addr).add j = ⟨b, j, none⟩ := by unfold Addr.add; split <;> simp_all
    rw [hadd, cell_at h]
    simpa using hv)
  exact this
/-- A block that holds an ask: what the walk wants to know of it. -/
theorem knownAsk {w : World} {b : Nat} {k a d : Int} {t : TypeId} (h : w.heap[b]? = some (.cells (askC k a d) t)) :
    w.cell? ⟨b, 0, none⟩ = some (.int .i64 k) ∧ w.cell? ⟨b, 1, none⟩ = some (.int .u64 a) ∧ w.cell? ⟨b, 1 + 1, none⟩ = some (.int .u64 0) ∧ w.cell? ⟨b, 1 + 1 + 1, none⟩ = some (.int .i64 0) ∧ w.cell? ⟨b, 4, none⟩ = some (.int .i64 8) ∧ w.cell? ⟨b, 6, none⟩ = some (.int .u64 d) ∧ w.cell? ⟨b, 2, none⟩ = some (.int .u64 0) ∧ w.cell? ⟨b, 3, none⟩ = some (.int .i64 0) := by
  refine ⟨by rw [cell_at h]; rfl, by rw [cell_at h]; rfl, by rw [cell_at h]; rfl, by rw [cell_at h]; rfl, by rw [cell_at h]; rfl, by rw [cell_at h]; rfl, by rw [cell_at h]; rfl, by rw [cell_at h]; rfl⟩
def accV (a : Int) : Value := .agg #[.int .u64 a, .int .u64 0, .int .i64 0, .int .i64 8]
attribute [local simp high] sizeAsk
set_option maxRecDepth 100000 in
set_option maxHeartbeats 2000000 in
theorem access_any (k a d : Int) (w : World) :
    Calls Try.prog 20 #[.agg (askC k a d)] w fun e w' => e = .returned (.agg #[.int .u64 a, .int .u64 0, .int .i64 0, .int .i64 8]) ∧ Below w.heap.size w w' := by
  have F0 := (Fr.refl w).alloc (.cells (askC k a d) 46)
  have kz := heap_alloc_new w (.cells (askC k a d) 46)
  have kz2 := keep_alloc kz (.cells #[.int .u64 0, .int .u64 0, .int .i64 0, .int .i64 0] 77)
  obtain ⟨c0, c1, c2, c3, c4, c6, c2', c3'⟩ := knownAsk kz2
  have hs := size_askC k a d
  go_enter Try.func20, Try.ntmps20
  go_wp2_with fail
  exact bodyPost_ret (v := .agg #[.int .u64 a, .int .u64 0, .int .i64 0, .int .i64 8]) (by simp [results, Try.results20, go_sem]) rfl ⟨rfl, (((Fr.refl w).alloc _).alloc _).1⟩
set_option maxRecDepth 100000 in
set_option maxHeartbeats 2000000 in
theorem may_any (a : Int) (w : World) :
    Calls Try.prog 62 #[.agg #[.int .u64 a, .int .u64 0, .int .i64 0, .int .i64 8]] w fun e w' => e = .returned (.bool true) ∧ Below w.heap.size w w' := by
  go_enter Try.func62, Try.ntmps62
  go_wp2
  go_ret
  exact ⟨rfl, ((Fr.refl w).alloc _).1⟩
theorem and87 : bits BinOp.and IntKind.i64 8 7 = 0 := by decide +kernel
set_option maxRecDepth 100000 in
set_option maxHeartbeats 4000000 in
theorem formed_any (k a d : Int) (w : World) (hk : k = 2 ∨ k = 3) :
    Calls Try.prog 33 #[.agg (askC k a d)] w fun e w' => e = .returned (.bool true) ∧ Below w.heap.size w w' := by
  have F0 := (Fr.refl w).alloc (.cells (askC k a d) 46)
  have kz := heap_alloc_new w (.cells (askC k a d) 46)
  have hs := size_askC k a d
  have ha := and87
  obtain ⟨c0, c1, c2, c3, c4, c6, c2', c3'⟩ := knownAsk kz
  have ld := ldRow (P := Try.prog) kz (size_askC k a d)
  rcases hk with rfl | rfl
  all_goals
    go_enter Try.func33, Try.ntmps33
    go_wp2_with fail
    refine (access_any _ a d _).mono ?_
    rintro e w1 ⟨rfl, hb1⟩
    have kz1 := keepB hb1 kz
    have F1 := F0.step hb1
    go_wp2_with fail
    refine (may_any a _).mono ?_
    rintro e w2 ⟨rfl, hb2⟩
    obtain ⟨e0, e1, e2, e3, e4, e6, e2', e3'⟩ := knownAsk (keepB hb2 kz1)
    have F2 := Lib.hid (F1.step hb2)
    go_wp2
    go_ret
    exact ⟨rfl, F2.out.1⟩
set_option maxRecDepth 100000 in
set_option maxHeartbeats 2000000 in
theorem line_any (a : Nat) (w : World) (ha : a < 18446744073709551616) :
    Calls Try.prog 27 #[.int .u64 (a : Int)] w fun e w' => e = .returned (.int .u64 ((a / 64 : Nat) : Int)) ∧ w' = w := by
  have h0 : (0 : Int) ≤ a := by omega
  have h1 : (a : Int) < 18446744073709551616 := by omega
  go_enter Try.func27, Try.ntmps27
  go_wp2
  go_ret
  exact ⟨by simp, rfl⟩
set_option maxRecDepth 100000 in
set_option maxHeartbeats 2000000 in
theorem stripe_any (a : Nat) (w : World) (ha : a < 18446744073709551616) :
    Calls Try.prog 36 #[.int .u64 (a : Int), .int .i64 2] w fun e w' => e = .returned (.int .i64 ((a / 64 % 2 : Nat) : Int)) ∧ w' = w := by
  have h0 : (0 : Int) ≤ a := by omega
  have h1 : (a : Int) < 18446744073709551616 := by omega
  have HA := Lib.hid ha
  have h3 : (0 : Int) ≤ ((a / 64 : Nat) : Int) := by omega
  have h4 : ((a / 64 : Nat) : Int) < 18446744073709551616 := by omega
  go_enter Try.func36, Try.ntmps36
  go_wp2_with fail
  refine (line_any a _ HA.out).mono ?_
  rintro e w1 ⟨rfl, rfl⟩
  go_wp2
  go_ret
  exact ⟨by simp, rfl⟩
end Go.Proofs.Ytdeheoaeagoidaa

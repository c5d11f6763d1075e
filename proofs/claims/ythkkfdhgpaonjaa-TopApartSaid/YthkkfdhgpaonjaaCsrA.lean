/- The contracts of csr.find at a closure, csr.at, csr.Mask; of roebuckref19.Of. -/
import Derived.Test.YthkkfdhgpaonjaaMCsrR
namespace Go.Proofs.Ythkkfdhgpaonjaa
open Go.RowKit
set_option linter.unusedSimpArgs false
set_option linter.unusedVariables false

def rowV (r : Int × ByteArray × Nat) : Value := .agg #[.int .i64 r.1, .string r.2.1, .int .u64 r.2.2]
def optRow : Option (Int × ByteArray × Nat) → Value
  | some r => .tuple #[.agg #[.int .i64 r.1, .string r.2.1, .int .u64 r.2.2], .bool true]
  | none => .tuple #[.agg #[.int .i64 0, .string ⟨#[]⟩, .int .u64 0], .bool false]
def zrow : Obj := .cells #[.int .i64 0, .string ⟨#[]⟩, .int .u64 0] 129

theorem known3 {w : World} {b : Nat} {v0 v1 v2 : Value} {t : TypeId} (h : w.heap[b]? = some (.cells #[v0, v1, v2] t)) :
    w.cell? ⟨b, 0, none⟩ = some v0 ∧ w.cell? ⟨b, 1, none⟩ = some v1 ∧ w.cell? ⟨b, 2, none⟩ = some v2 ∧ b < w.heap.size ∧ ∀ o, w.frozen? ⟨b, o, none⟩ = false := by
  refine ⟨by rw [cell_at h]; rfl, by rw [cell_at h]; rfl, by rw [cell_at h]; rfl, lt_of_at h, fun o => by simp [World.frozen?, h]⟩
theorem fr_out' {w wr : World} {x : Obj} (h : Fr (w.heap.size + 1) (w.alloc x) wr) : Fr w.heap.size w wr :=
  ⟨((Below.refl _ w).alloc (Nat.le_refl _) x).trans (h.1.mono (by omega)), by have := h.2; omega⟩

set_option maxRecDepth 100000 in
set_option maxHeartbeats 2000000 in
theorem find_at (p : Int × ByteArray × Nat → Bool) (b : Nat) (w : World)
    (hcl : ∀ (r : Int × ByteArray × Nat) (wx : World), Below w.heap.size w wx → Calls Try.prog 111 #[.agg #[.int .i64 r.1, .string r.2.1, .int .u64 r.2.2], .pointer (some ⟨b, 0, none⟩)] wx fun e w' => e = .returned (.bool (p r)) ∧ Below wx.heap.size wx w') :
    Calls Try.prog 79 #[.func (.func 111) #[] #[.pointer (some ⟨b, 0, none⟩)]] w fun e w' => e = .returned (optRow (tab19.find? p)) ∧ Below w.heap.size w w' := by
  have HCL := Lib.hid hcl
  clear hcl
  go_enter Try.func79, Try.ntmps79
  go_wp2_with (go_at_call 82; refine (crows_any _).mono ?_; rintro e w' ⟨rfl, rfl⟩)
  obtain ⟨w1, hw1⟩ : ∃ w1, w1 = (w.alloc (.cells #[.int .i64 0, .string ⟨#[]⟩, .int .u64 0] 129)).alloc (.cells cells19 129) := ⟨_, rfl⟩
  have hf : Fr (w.heap.size + 1) (w.alloc (.cells #[.int .i64 0, .string ⟨#[]⟩, .int .u64 0] 129)) w1 := by rw [hw1]; simpa using (Fr.refl (w.alloc (.cells #[.int .i64 0, .string ⟨#[]⟩, .int .u64 0] 129))).alloc _
  have hh : w1.heap[w.heap.size + 1]? = some (.cells cells19 129) := by rw [hw1]; simpa using @heap_alloc_new (w.alloc (.cells #[.int .i64 0, .string ⟨#[]⟩, .int .u64 0] 129)) (.cells cells19 129)
  rw [← hw1]
  clear hw1
  go_loopw [8] (fun i wr => ∃ k : Nat, k ≤ 34 ∧ i = .int .i64 k ∧ Hid ((tab19.drop k).find? p = tab19.find? p) ∧ Fr (w.heap.size + 1) (w.alloc (.cells #[.int .i64 0, .string ⟨#[]⟩, .int .u64 0] 129)) wr ∧ wr.heap[w.heap.size + 1]? = some (.cells cells19 129)) (fun i _ => 34 - (intOf i).toNat)
  case atStart => exact ⟨0, by omega, rfl, rfl, hf, hh⟩
  case round =>
    obtain ⟨k, hk, rfl, H, hfr, hhr⟩ := hrel
    have hr0 : wr.heap[w.heap.size]? = some (.cells #[.int .i64 0, .string ⟨#[]⟩, .int .u64 0] 129) := heapAt hfr.1 (heap_alloc_new _ _) (by omega)
    obtain ⟨z0, z1, z2, zl, zf⟩ := known3 hr0
    have hB := fr_out' hfr
    by_cases hlt : k < 34
    · obtain ⟨c0, c1, c2⟩ := cells19_at hhr k hlt
      obtain ⟨r, hr⟩ : ∃ r, r = tab19.getD k default := ⟨_, rfl⟩
      have HS := step19 p k hlt
      rw [← hr] at c0 c1 c2 HS
      have HH : Hid (tab19.find? p = if p r = true then some r else (tab19.drop (k + 1)).find? p) := by rw [← H.out]; exact HS
      clear HS hr H
      go_wp2_with fail
      refine (HCL.out r _ (hB.alloc _).1).mono ?_
      rintro e w2 ⟨rfl, hb2⟩
      have hnew := keepB hb2 (heap_alloc_new _ _)
      have hold := keepB hb2 (keep_alloc hr0 _)
      have htab := keepB hb2 (keep_alloc hhr _)
      obtain ⟨y0, y1, y2, yl, yf⟩ := known3 hold
      obtain ⟨n0, n1, n2, nl, nf⟩ := known3 hnew
      have hC := (hB.alloc (.cells #[.int .i64 r.1, .string r.2.1, .int .u64 r.2.2] 129)).step hb2
      go_wp2
      · have h1 : p r = true := by assumption
        refine bodyPost_ret (v := .tuple #[.agg #[.int .i64 r.1, .string r.2.1, .int .u64 r.2.2], .bool true]) (by simp [results, Try.results79, go_sem, y0, y1, y2, yl]) rfl ⟨?_, ?_⟩
        · rw [HH.out, if_pos h1]; rfl
        · refine Fr.below ?_; repeat (first | exact hC | refine Fr.alloc ?_ _ | refine Fr.drew ?_ | refine Fr.setCell ?_ (by simp) _)
      · have h1 : p r = false := by assumption
        go_roundw
        case rel => exact ⟨k + 1, by omega, by go_num, by rw [HH.out, if_neg (by rw [h1]; simp)]; rfl, (hfr.alloc _).step hb2, htab⟩
        case measure => simp [intOf]; omega
    · obtain rfl : k = 34 := by omega
      go_wp2
      refine bodyPost_ret (v := .tuple #[.agg #[.int .i64 0, .string ⟨#[]⟩, .int .u64 0], .bool false]) (by simp [results, Try.results79, go_sem, z0, z1, z2, zl]) rfl ⟨?_, ?_⟩
      · rw [← H.out]; rfl
      · refine Fr.below ?_; repeat (first | exact hB | refine Fr.alloc ?_ _ | refine Fr.drew ?_ | refine Fr.setCell ?_ (by simp) _)

theorem hcell' {w w' : World} (hb : Below w.heap.size w w') {b : Nat} {v : Value} (h : w.cell? ⟨b, 0, none⟩ = some v) : b < w.heap.size ∧ w'.cell? ⟨b, 0, none⟩ = some v :=
  ⟨by rcases Nat.lt_or_ge b w.heap.size with h1 | h1
      · exact h1
      · simp [World.cell?, Array.getElem?_eq_none h1] at h, hcell hb h⟩

theorem at1_any (n m : Int) (s : ByteArray) (x : Nat) (b : Nat) (w : World) (hb : w.cell? ⟨b, 0, none⟩ = some (.int .i64 n)) :
    Calls Try.prog 111 #[.agg #[.int .i64 m, .string s, .int .u64 (x : Int)], .pointer (some ⟨b, 0, none⟩)] w fun e w' => e = .returned (.bool (m == n)) ∧ Below w.heap.size w w' := by
  have hlt := (hcell' (Below.refl _ w) hb).1
  go_enter Try.func111, Try.ntmps111
  go_wp2
  go_ret
  exact ⟨rfl, ((Fr.refl w).alloc _).1⟩

set_option maxRecDepth 100000 in
theorem cat_any (n : Int) (w : World) :
    Calls Try.prog 78 #[.int .i64 n] w fun e w' => e = .returned (optRow (row19 n)) ∧ Below w.heap.size w w' := by
  obtain ⟨r0, r1, r2, rk, hr⟩ : ∃ (a : Int) (s : ByteArray) (x : Nat) (k : Bool), optRow (row19 n) = .tuple #[.agg #[.int .i64 a, .string s, .int .u64 (x : Int)], .bool k] := by
    cases row19 n with
    | none => exact ⟨0, ⟨#[]⟩, 0, false, rfl⟩
    | some r => exact ⟨r.1, r.2.1, r.2.2, true, rfl⟩
  have HR := Lib.hid hr
  clear hr
  go_enter Try.func78, Try.ntmps78
  go_wp2_with fail
  have hcell0 : ((w.alloc (.cells #[.int .i64 n] 3)).alloc (.cells #[.int .i64 0, .string ⟨#[]⟩, .int .u64 0] 129)).cell? ⟨w.heap.size, 0, none⟩ = some (.int .i64 n) := by
    rw [cell_at (keep_alloc (heap_alloc_new w (.cells #[.int .i64 n] 3)) _)]; rfl
  refine (find_at (fun r => r.1 == n) w.heap.size _ (fun r wx hbx => ?_)).mono ?_
  · have hc := (hbx.cell (p := ⟨w.heap.size, 0, none⟩) (by simp; omega)).trans hcell0
    exact at1_any n r.1 r.2.1 r.2.2 w.heap.size wx hc
  rw [show tab19.find? (fun r => r.1 == n) = row19 n from rfl, HR.out]
  rintro e w1 ⟨rfl, hb1⟩
  have k1 : w1.heap[w.heap.size + 1]? = some (.cells #[.int .i64 0, .string ⟨#[]⟩, .int .u64 0] 129) := by
    simpa using keepB hb1 (heap_alloc_new (w.alloc (.cells #[.int .i64 n] 3)) (.cells #[.int .i64 0, .string ⟨#[]⟩, .int .u64 0] 129))
  obtain ⟨y0, y1, y2, yl, yf⟩ := known3 k1
  have hC := (((Fr.refl w).alloc _).alloc _).step hb1
  go_wp2
  refine bodyPost_ret (v := .tuple #[.agg #[.int .i64 r0, .string r1, .int .u64 (r2 : Int)], .bool rk]) (by simp [results, Try.results78, go_sem, y0, y1, y2, yl]) rfl ⟨by rw [HR.out], ?_⟩
  refine Fr.below ?_; repeat (first | exact hC | refine Fr.alloc ?_ _ | refine Fr.drew ?_ | refine Fr.setCell ?_ (by simp) _)
end Go.Proofs.Ythkkfdhgpaonjaa

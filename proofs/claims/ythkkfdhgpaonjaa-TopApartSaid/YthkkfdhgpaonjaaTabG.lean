/- The contract of roebuckref21.First. -/
import Derived.Test.YthkkfdhgpaonjaaTabF
import Derived.Test.YthkkfdhgpaonjaaMTab
namespace Go.Proofs.Ythkkfdhgpaonjaa
open Go.RowKit
set_option linter.unusedSimpArgs false
set_option linter.unusedVariables false

def six : List (ByteArray × Nat) := [(⟨#[109, 97, 99, 104, 105, 110, 101, 45, 111, 117, 116, 101, 114]⟩, 11), (⟨#[109, 97, 99, 104, 105, 110, 101, 45, 115, 111, 102, 116]⟩, 3), (⟨#[109, 97, 99, 104, 105, 110, 101, 45, 116, 105, 109, 101]⟩, 7), (⟨#[115, 117, 112, 101, 114, 45, 111, 117, 116, 101, 114]⟩, 9), (⟨#[115, 117, 112, 101, 114, 45, 115, 111, 102, 116]⟩, 1), (⟨#[115, 117, 112, 101, 114, 45, 116, 105, 109, 101]⟩, 5)]
def sixCells : Array Value := (six.map fun r => Value.string r.1).toArray

theorem findOf_data (s : ByteArray) : findOf s = tab21.find? fun r => r.2.2.data.toList == s.data.toList := by
  unfold findOf
  simp only [ByteArray.toList_eq]

theorem six_find (k : Nat) (hk : k < 6) : findOf (six.getD k default).1 = some (true, ((six.getD k default).2 : Int), (six.getD k default).1) ∧ (six.getD k default).2 < 64 ∧ sixCells[k]? = some (.string (six.getD k default).1) := by
  rw [findOf_data]
  match k, hk with
  | 0, _ => exact ⟨rfl, by decide, rfl⟩
  | 1, _ => exact ⟨rfl, by decide, rfl⟩
  | 2, _ => exact ⟨rfl, by decide, rfl⟩
  | 3, _ => exact ⟨rfl, by decide, rfl⟩
  | 4, _ => exact ⟨rfl, by decide, rfl⟩
  | 5, _ => exact ⟨rfl, by decide, rfl⟩

theorem six_step (p : ByteArray × Nat → Bool) (k : Nat) (hk : k < 6) : (six.drop k).find? p = if p (six.getD k default) then some (six.getD k default) else (six.drop (k + 1)).find? p := by
  have : k < six.length := hk
  rw [List.drop_eq_getElem_cons this, List.find?_cons]
  simp only [List.getD_eq_getElem?_getD, List.getElem?_eq_getElem this, Option.getD_some]
  split <;> simp_all

theorem firstOf_six (x : Nat) : firstOf x = ((six.find? fun r => x.testBit r.2).map fun r => (r.2 : Int)) := by
  unfold firstOf six
  simp only [List.find?_cons, List.find?_nil]
  cases x.testBit 11 <;> cases x.testBit 3 <;> cases x.testBit 7 <;> cases x.testBit 9 <;> cases x.testBit 1 <;> cases x.testBit 5 <;> rfl

theorem bitN_nat (x c : Nat) (h : c < 64) : (((bitN x (c : Int) : Nat) : Int) == 1) = x.testBit c := by
  rw [bitN_in x c (by omega) (by omega), Int.toNat_natCast]
  cases x.testBit c <;> rfl

theorem rfind_some (s : ByteArray) (r : Bool × Int × ByteArray) (h : findOf s = some r) (w : World) :
    Calls Try.prog 119 #[.string s] w fun e w' => e = .returned (.tuple #[.agg #[.bool r.1, .int .i64 r.2.1], .bool true]) ∧ Below w.heap.size w w' :=
  (rfind_any s w).mono fun e w' ⟨he, hb⟩ => ⟨by rw [he, h]; rfl, hb⟩

set_option maxRecDepth 100000 in
set_option maxHeartbeats 1000000 in
theorem rfirst_any (x : Nat) (w : World) (hx : x < 18446744073709551616) :
    Calls Try.prog 95 #[.int .u64 (x : Int)] w fun e w' => e = .returned (causeV (firstOf x)) ∧ Below w.heap.size w w' := by
  have HF := Lib.hid (firstOf_six x)
  go_enter Try.func95, Try.ntmps95
  go_wp2_with fail
  obtain ⟨w1, hw1⟩ : ∃ w1, w1 = (w.alloc (.cells #[.bool false, .int .i64 0] 91)).alloc (.cells sixCells 9) := ⟨_, rfl⟩
  have hf : Fr (w.heap.size + 1) (w.alloc (.cells #[.bool false, .int .i64 0] 91)) w1 := by rw [hw1]; simpa using (Fr.refl (w.alloc (.cells #[.bool false, .int .i64 0] 91))).alloc _
  have hh : w1.heap[w.heap.size + 1]? = some (.cells sixCells 9) := by rw [hw1]; simpa using @heap_alloc_new (w.alloc (.cells #[.bool false, .int .i64 0] 91)) (.cells sixCells 9)
  simp only [sixCells, six, List.map_cons, List.map_nil] at hw1
  rw [← hw1]
  clear hw1
  go_loopw [5] (fun i wr => ∃ k : Nat, k ≤ 6 ∧ i = .int .i64 k ∧ Hid ((six.drop k).find? (fun r => x.testBit r.2) = six.find? fun r => x.testBit r.2) ∧ Fr (w.heap.size + 1) (w.alloc (.cells #[.bool false, .int .i64 0] 91)) wr ∧ wr.heap[w.heap.size + 1]? = some (.cells sixCells 9)) (fun i _ => 6 - (intOf i).toNat)
  case atStart => exact ⟨0, by omega, rfl, rfl, hf, hh⟩
  case round =>
    obtain ⟨k, hk, rfl, H, hfr, hhr⟩ := hrel
    have hr0 : wr.heap[w.heap.size]? = some (.cells #[.bool false, .int .i64 0] 91) := heapAt hfr.1 (heap_alloc_new _ _) (by omega)
    obtain ⟨z0, z1⟩ := two_cells hr0
    have zf := not_frozen hr0
    have zs := lt_of_at hr0
    have hB := fr_out hfr
    by_cases hlt : k < 6
    · obtain ⟨hfind, hc64, hcell⟩ := six_find k hlt
      have HS := six_step (fun r => x.testBit r.2) k hlt
      have hcw : wr.cell? ⟨w.heap.size + 1, k, none⟩ = some (.string (six.getD k default).1) := by rw [cell_at hhr]; exact hcell
      generalize six.getD k default = r at hfind hc64 hcell HS hcw
      obtain ⟨nm, c⟩ := r
      have hbn := Lib.hid (bitN_nat x c hc64)
      have hfind' := Lib.hid hfind
      have HH : Hid ((six.find? fun r => x.testBit r.2) = if x.testBit c = true then some (nm, c) else (six.drop (k + 1)).find? (fun r => x.testBit r.2)) := by rw [← H.out]; exact HS
      clear HS H hfind hcell
      go_wp2_with fail
      refine (rfind_some _ _ hfind'.out _).mono ?_
      rintro e w2 ⟨rfl, hb2⟩
      have hold := keepB hb2 hr0
      have htab := keepB hb2 hhr
      obtain ⟨y0, y1⟩ := two_cells hold
      have yf := not_frozen hold
      have ys := lt_of_at hold
      go_wp2_with (go_at_call 74; refine (bit_any _ _ _ hx).mono ?_; rintro e' w' ⟨rfl, rfl⟩)
      · have h1 : (((bitN x c : Nat) : Int) == 1) = true := by assumption
        have h2 : x.testBit c = true := by rw [hbn.out] at h1; exact h1
        have hC : Fr w.heap.size w w2 := hB.step hb2
        refine bodyPost_ret (v := .tuple #[.agg #[.bool true, .int .i64 c], .bool true]) (by simp [results, Try.results95, go_sem, y0, y1, ys]) rfl ⟨?_, ?_⟩
        · rw [HF.out, HH.out, if_pos h2]; rfl
        · (refine Fr.below ?_; repeat (first | exact hC | refine Fr.alloc ?_ _ | refine Fr.drew ?_ | refine Fr.setCell ?_ (by simp) _))
      · have h1 : (((bitN x c : Nat) : Int) == 1) = false := by assumption
        have h2 : ¬ x.testBit c = true := by rw [hbn.out] at h1; rw [h1]; simp
        go_roundw
        case rel => exact ⟨k + 1, by omega, by go_num, by rw [HH.out, if_neg h2]; rfl, (hfr.step hb2).alloc _, keep_alloc htab _⟩
        case measure => simp [intOf]; omega
    · obtain rfl : k = 6 := by omega
      go_wp2
      refine bodyPost_ret (v := .tuple #[.agg #[.bool false, .int .i64 0], .bool false]) (by simp [results, Try.results95, go_sem, z0, z1, zs]) rfl ⟨?_, ?_⟩
      · rw [HF.out, ← H.out]; rfl
      · refine Fr.below ?_; repeat (first | exact hB | refine Fr.alloc ?_ _ | refine Fr.drew ?_ | refine Fr.setCell ?_ (by simp) _)
end Go.Proofs.Ythkkfdhgpaonjaa

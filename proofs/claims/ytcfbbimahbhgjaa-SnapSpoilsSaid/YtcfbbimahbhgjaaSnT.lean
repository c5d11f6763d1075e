/- Snap: bytes that are no snap are not opened. -/
import Derived.Test.YtcfbbimahbhgjaaSnS
import Derived.Test.YtcfbbimahbhgjaaSnG
import Derived.Laws.BytesArg
namespace Go.Proofs.Ytcfbbimahbhgjaa
open Go.RowKit
set_option linter.unusedSimpArgs false
set_option linter.unusedVariables false

/-- Bytes whose last four are not the sum of the rest. -/
def Spoilt (m : List Nat) (k : Nat) : Prop := m.length = k + 4 ∧ (m.drop k ≠ sb (sumL (m.take k))) ∧ ∀ x ∈ m, x < 256
theorem kcBytes (w : World) (a : Option Addr) (cap : Nat) (l : List Nat) (n : Nat) (hl : l.length = n) (h0 : 0 < n) (h : BL w a l) : ∃ s : ByteArray, (convert 29 9 (.slice a n cap)).run Try.prog w = .ok (.string s) w := by
  obtain ⟨ad, x, rfl, hx, hc⟩ := h.cell (i := 0) (by omega)
  have hl2 : (loadCells ad n).run Try.prog w = .ok ((l.map fun (x : Nat) => (x : Int)).map (Value.int .u8)).toArray w := by
    have := run_loadCells_list (P := Try.prog) w ad ((l.map fun (x : Nat) => (x : Int)).map (Value.int .u8)) (fun j v hj => by
      rw [List.map_map, List.getElem?_map] at hj
      cases hy : l[j]? with
      | none => rw [hy] at hj; cases hj
      | some y =>
        rw [hy] at hj
        simp at hj
        obtain ⟨ad', e, _, hc⟩ := h j y hy
        cases e
        rw [hc, ← hj])
    simpa [hl] using this
  exact ⟨_, by rw [run_convert_bytes_string w 29 9 5 _ n cap Try.underlying29 Try.underlying5 Try.underlying9, run_bytesToString w _ n cap _ hl2]⟩
set_option maxRecDepth 100000 in
set_option maxHeartbeats 8000000 in
theorem open_bad (x y z : UInt8) (a : Option Addr) (n cap k : Nat) (m : List Nat) (w : World) (hk : n = k + 4) (hc : n ≤ cap) (hn : n ≤ 1000000000) (hB : BL w a m) (hS : Spoilt m k) :
    Calls Try.prog 46 #[.string ⟨#[x, y, z]⟩, .slice a n cap] w fun ed w' => (∃ e : Int, ed = .returned (.tuple #[.pointer none, .int .i64 e]) ∧ e ≠ 0) ∧ w' = w := by
  have e4 : (n : Int) - 4 = (k : Int) := by omega
  have hn9 : (n : Int) ≤ 1000000000 := by omega
  have HK := Lib.hid hk
  clear hk
  by_cases h1 : 1048576 < n
  · have d1 : decide ((1048576 : Int) < n) = true := by simp; omega
    go_enter Try.func46, Try.ntmps46
    go_wp2_with fail
    go_ret2
    exact ⟨⟨_, rfl, by decide⟩, rfl⟩
  · have d1 : decide ((1048576 : Int) < n) = false := by simp; omega
    by_cases h2 : n < 7
    · have d2 : decide ((n : Int) < 7) = true := by simp; omega
      go_enter Try.func46, Try.ntmps46
      go_wp2_with fail
      go_ret2
      exact ⟨⟨_, rfl, by decide⟩, rfl⟩
    · have d2 : decide ((n : Int) < 7) = false := by simp; omega
      obtain ⟨hml, hbad, h8⟩ := hS
      have hk := HK.out
      have r1 := run_front a n cap k (by omega) w
      have r3 : (Instr.slice 29 (.slice a n cap) none (some (.int .i64 3)) none).run Try.prog w = .ok (.slice a 3 cap) w := run_front a n cap 3 (by omega) w
      obtain ⟨s, kc⟩ := kcBytes w a cap (m.take 3) 3 (by rw [List.length_take]; omega) (by omega) (hB.take 3)
      have hsum := sum_any a k cap (m.take k) w (by rw [List.length_take]; omega) (by omega) (fun x hx => h8 x (List.mem_of_mem_take hx)) (hB.take k)
      have hSlt := sumL_lt (m.take k)
      obtain ⟨S, hS9⟩ : ∃ S, sumL (m.take k) = S := ⟨_, rfl⟩
      rw [hS9] at hsum hSlt hbad
      obtain ⟨ad, y0, rfl, hy0, c0⟩ := hB.cell (i := k) (by omega)
      obtain ⟨ad1, y1, e, hy1, c1⟩ := hB.cell (i := k + 1) (by omega)
      cases e
      obtain ⟨ad2, y2, e, hy2, c2⟩ := hB.cell (i := k + 2) (by omega)
      cases e
      obtain ⟨ad3, y3, e, hy3, c3⟩ := hB.cell (i := k + 3) (by omega)
      cases e
      have hne : ¬ (y0 = S % 256 ∧ y1 = S / 256 % 256 ∧ y2 = S / 65536 % 256 ∧ y3 = S / 16777216) := by
        rintro ⟨rfl, rfl, rfl, rfl⟩
        apply hbad
        refine List.ext_getElem? fun j => ?_
        rw [List.getElem?_drop]
        have hj : j = 0 ∨ j = 1 ∨ j = 2 ∨ j = 3 ∨ 4 ≤ j := by omega
        rcases hj with rfl | rfl | rfl | rfl | hj
        · exact hy0
        · exact hy1
        · exact hy2
        · exact hy3
        · rw [List.getElem?_eq_none (by omega), List.getElem?_eq_none (by simp [sb]; omega)]
      have HNE := Lib.hid hne
      have c1' : w.cell? ⟨ad.block, ad.off + (k + 1), none⟩ = some (.int .u8 (y1 : Int)) := by simpa [Addr.add] using c1
      have c2' : w.cell? ⟨ad.block, ad.off + (k + 2), none⟩ = some (.int .u8 (y2 : Int)) := by simpa [Addr.add] using c2
      have c3' : w.cell? ⟨ad.block, ad.off + (k + 3), none⟩ = some (.int .u8 (y3 : Int)) := by simpa [Addr.add] using c3
      clear hk hne hbad hy0 hy1 hy2 hy3 hB h8 hS9 hml
      go_enter Try.func46, Try.ntmps46
      go_wp2_with fail
      refine hsum.mono ?_
      rintro e w1 ⟨rfl, hw⟩
      rw [hw]
      clear hw w1 hsum
      go_wp2_with fail
      all_goals first
        | (go_ret2; exact ⟨⟨_, rfl, by decide⟩, rfl⟩)
        | (exfalso; have hq := ‹((y3 : Int) != (S : Int) / 16777216) = false›; exact HNE.out ⟨by omega, by omega, by omega, by simp only [bne_eq_false_iff_eq] at hq; omega⟩)
set_option maxRecDepth 100000 in
set_option maxHeartbeats 8000000 in
theorem readlog_bad (a : Option Addr) (n cap k : Nat) (m : List Nat) (w : World) (hk : n = k + 4) (hc : n ≤ cap) (hn : n ≤ 1000000000) (hB : BL w a m) (hS : Spoilt m k) :
    Calls Try.prog 34 #[.slice a n cap] w fun ed w' => (∃ e : Int, ed = .returned (.tuple #[.slice none 0 0, .int .i64 e]) ∧ e ≠ 0) ∧ w' = w := by
  have ho := open_bad 82 66 76 a n cap k m w hk hc hn hB hS
  clear hk hB hS
  go_enter Try.func34, Try.ntmps34
  go_wp2_with fail
  refine ho.mono ?_
  rintro ed w1 ⟨⟨e, rfl, he⟩, hw⟩
  rw [hw]
  clear hw w1 ho
  go_wp2_with fail
  go_ret2
  exact ⟨⟨_, rfl, he⟩, rfl⟩
theorem infoS : (Try.prog.info? 61).map (·.size) = some 14 := by kernel_rfl
theorem lvS (w : World) : (loadVar 61 ⟨w.heap.size, 0, none⟩).run Try.prog (w.alloc (.cells #[.int .i64 0, .int .i64 0, .int .i64 0, .int .i64 0, .int .i64 0, .int .i64 0, .int .i64 0, .int .i64 0, .int .i64 0, .int .i64 0, .int .i64 0, .int .i64 0, .slice none 0 0, .slice none 0 0] 61)) = .ok (.agg #[.int .i64 0, .int .i64 0, .int .i64 0, .int .i64 0, .int .i64 0, .int .i64 0, .int .i64 0, .int .i64 0, .int .i64 0, .int .i64 0, .int .i64 0, .int .i64 0, .slice none 0 0, .slice none 0 0]) (w.alloc (.cells #[.int .i64 0, .int .i64 0, .int .i64 0, .int .i64 0, .int .i64 0, .int .i64 0, .int .i64 0, .int .i64 0, .int .i64 0, .int .i64 0, .int .i64 0, .int .i64 0, .slice none 0 0, .slice none 0 0] 61)) := run_loadVar_row _ _ _ _ _ _ _ (heap_alloc_new w _) Try.underlying61 rfl infoS
set_option maxRecDepth 100000 in
set_option maxHeartbeats 8000000 in
theorem readscript_bad (a : Option Addr) (n cap k : Nat) (m : List Nat) (w : World) (hk : n = k + 4) (hc : n ≤ cap) (hn : n ≤ 1000000000) (hB : BL w a m) (hS : Spoilt m k) :
    Calls Try.prog 33 #[.slice a n cap] w fun ed w' => (∃ e : Int, ed = .returned (.tuple #[.agg #[.int .i64 0, .int .i64 0, .int .i64 0, .int .i64 0, .int .i64 0, .int .i64 0, .int .i64 0, .int .i64 0, .int .i64 0, .int .i64 0, .int .i64 0, .int .i64 0, .slice none 0 0, .slice none 0 0], .int .i64 e]) ∧ e ≠ 0) ∧ Below w.heap.size w w' := by
  have ho := fun w' (hb : Below w.heap.size w w') => open_bad 82 66 83 a n cap k m w' hk hc hn (hB.keep hb) hS
  have F1 := (Fr.refl w).alloc (.cells #[.int .i64 0, .int .i64 0, .int .i64 0, .int .i64 0, .int .i64 0, .int .i64 0, .int .i64 0, .int .i64 0, .int .i64 0, .int .i64 0, .int .i64 0, .int .i64 0, .slice none 0 0, .slice none 0 0] 61)
  have ho1 := ho _ F1.1
  clear hk hB hS ho
  go_enter Try.func33, Try.ntmps33
  go_wp2_with fail
  refine ho1.mono ?_
  rintro ed w1 ⟨⟨e, rfl, he⟩, hw⟩
  rw [hw]
  clear hw w1 ho1
  go_wp2_with fail
  refine bodyPost_ret (v := .tuple #[.agg #[.int .i64 0, .int .i64 0, .int .i64 0, .int .i64 0, .int .i64 0, .int .i64 0, .int .i64 0, .int .i64 0, .int .i64 0, .int .i64 0, .int .i64 0, .int .i64 0, .slice none 0 0, .slice none 0 0], .int .i64 e]) (by simp [results, Try.results33, asAddr, lvS w]) rfl ⟨⟨_, rfl, he⟩, F1.1⟩
end Go.Proofs.Ytcfbbimahbhgjaa

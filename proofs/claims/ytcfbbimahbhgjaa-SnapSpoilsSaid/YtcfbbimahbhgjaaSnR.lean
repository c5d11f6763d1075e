/- Snap: what writes a log's events. -/
import Derived.Test.YtcfbbimahbhgjaaSnQ
namespace Go.Proofs.Ytcfbbimahbhgjaa
open Go.RowKit
set_option linter.unusedSimpArgs false
set_option linter.unusedVariables false

/-- Events in memory. -/
def Events (w : World) (base : Nat) (a : Option Addr) (len : Nat) : Prop := ∀ i, i < len → ∃ ad s, a = some ad ∧ ad.block < base ∧ OkE s ∧ ∀ j, j < 65 → w.cell? ((ad.add (i * 65)).add j) = some (evF s j)
theorem ldEv {P : Program} {w0 w : World} {base i : Nat} {ad : Addr} {s : EV} (hF : Fr base w0 w) (hb : ad.block < base) (h : ∀ j, j < 65 → w0.cell? ((ad.add (i * 65)).add j) = some (evF s j)) : (loadCellsFrom (ad.add (i * sz65)) 0 sz65 #[]).run P w = .ok (rowE s 0 sz65) w := by
  have hz : (rowE s 0 65).toList.length = 65 := by simp [rowE]
  have := run_loadCells_list (P := P) w (ad.add (i * 65)) (rowE s 0 65).toList (fun j v hv => by
    have hj : j < 65 := by have := (List.getElem?_eq_some_iff.1 hv).1; omega
    have h2 := rowE_get s 0 65 hj
    rw [Array.getElem?_toList] at hv
    rw [h2, Nat.zero_add] at hv
    rw [← hv, ← h j hj]
    exact hF.1.cell (p := (ad.add (i * 65)).add j) (by rw [add_blk, add_blk]; exact hb))
  rw [hz] at this
  exact this
attribute [local simp high] sizeEv zeroEv sizeAsk sizeAns
set_option maxRecDepth 100000 in
set_option maxHeartbeats 8000000 in
theorem logc_z {w0 w : World} {base b x : Nat} {a0 : Option Addr} {len cap : Nat} (hl : len ≤ 60) (hE : Events w0 base a0 len) (h : WZ w0 base b 3 [(x, .cells #[.slice a0 len cap] 62)] w) :
    Calls Try.prog 40 #[.pointer (some ⟨b, 0, none⟩), .pointer (some ⟨x, 0, none⟩)] w fun e w' => (∃ v, e = .returned v) ∧ WZ w0 base b 60000 [] w' := by
  have hl1 : IntKind.u64.wrap (len : Int) = (len : Int) := by rw [IntKind.wrap_u64]; omega
  have HE := Lib.hid hE
  have c0 : w.cell? ⟨x, 0, none⟩ = some (.slice a0 len cap) := by rw [cell_at h.hd]; rfl
  clear hE
  go_enter Try.func40, Try.ntmps40
  go_wp2_with fail
  refine (num_z (len : Int) (by omega) (by omega) h (by omega)).mono ?_
  rintro e w2 ⟨⟨v2, rfl⟩, Z2⟩
  have c1 : w2.cell? ⟨x, 0, none⟩ = some (.slice a0 len cap) := by rw [cell_at Z2.hd]; rfl
  clear h c0
  have Z9 := Lib.hid Z2.tail
  clear Z2
  go_wp2_with fail
  clear c1
  go_loopw [14] (fun t wr => ∃ j : Nat, j ≤ len ∧ t = .int .i64 (j : Int) ∧ WZ w0 base b (13 + 840 * j) [] wr) (fun t _ => len - (intOf t).toNat)
  case atStart => exact ⟨0, by omega, rfl, Z9.out⟩
  case round =>
    clear Z9
    obtain ⟨j, hj, rfl, hZ⟩ := hrel
    have hj0 : (0 : Int) ≤ j := by omega
    by_cases hlt : j < len
    · have hji : (j : Int) < len := by omega
      obtain ⟨ad, s, rfl, had, ok, hc⟩ := HE.out j hlt
      have ld := ldEv (P := Try.prog) hZ.fr had hc
      have st := stnEv wr zeroE s
      obtain ⟨B, hB⟩ : ∃ B, wr.heap.size = B := ⟨_, rfl⟩
      have Z1 := hZ.new (.cells (rowE s 0 sz65) 92)
      rw [hB] at Z1 st
      have hsz := rowE_size s 0 sz65
      have c0 : (wr.alloc (.cells (rowE s 0 sz65) 92)).cell? ⟨B, 0, none⟩ = some (.int .i64 (s.i 0)) := atE Z1.hd (by decide)
      have c62 : (wr.alloc (.cells (rowE s 0 sz65) 92)).cell? ⟨B, 62, none⟩ = some (.int .i64 (s.i 62)) := atE Z1.hd (by decide)
      have c63 : (wr.alloc (.cells (rowE s 0 sz65) 92)).cell? ⟨B, 63, none⟩ = some (.int .i64 (s.i 63)) := atE Z1.hd (by decide)
      have c64 : (wr.alloc (.cells (rowE s 0 sz65) 92)).cell? ⟨B, 64, none⟩ = some (.int .i64 (s.i 64)) := atE Z1.hd (by decide)
      obtain ⟨w3, hw3⟩ : ∃ w3, wr.alloc (.cells (rowE s 0 sz65) 92) = w3 := ⟨_, rfl⟩
      rw [hw3] at Z1 c0 c62 c63 c64 st
      go_wp2_with fail
      have Z9 := Lib.hid Z1
      clear hw3 c0 c62 c63 c64 Z1 hsz st ld hZ
      go_loopw [27] (fun t wr => ∃ i : Nat, i ≤ 4 ∧ t = .int .i64 (i : Int) ∧ WZ w0 base b (13 + 840 * j + 10 * i) [(B, .cells (rowE s 0 sz65) 92)] wr) (fun t _ => 4 - (intOf t).toNat)
      case atStart => exact ⟨0, by omega, rfl, Z9.out⟩
      case round =>
        clear Z9
        obtain ⟨i, hi, rfl, hZ⟩ := hrel
        have hi0 : (0 : Int) ≤ i := by omega
        by_cases hlt2 : i < 4
        · have hii : (i : Int) < 4 := by omega
          obtain ⟨y, hy, hix⟩ := ix4 (s.i 0) (s.i 62) (s.i 63) (s.i 64) hlt2
          have hI : I64 y := by rcases hy with rfl | rfl | rfl | rfl <;> exact ok.I _
          clear hy
          go_wp2_with fail
          refine (int_z y hI.1 hI.2 hZ (by omega)).mono ?_
          rintro e w4 ⟨⟨v4, rfl⟩, Z4⟩
          have Z5 := Lib.hid (Z4.more (show 13 + 840 * j + 10 * i + 10 ≤ 13 + 840 * j + 10 * (i + 1) by omega))
          clear hZ Z4 hI hix
          go_wp2
          exact ⟨⟨i + 1, by omega, by go_num, Z5.out⟩, by simp [intOf]; omega⟩
        · have e : i = 4 := by omega
          subst e
          have hdl : ¬ (((4 : Nat) : Int) < 4) := by omega
          have ld := ldE (P := Try.prog) hZ.hd (show 1 + sz19 ≤ sz65 by decide)
          go_wp2_with fail
          refine (ask_z s ok hZ (by omega)).mono ?_
          rintro e w5 ⟨⟨v5, rfl⟩, Z5⟩
          clear hZ ld
          have ld := ldE (P := Try.prog) Z5.hd (show 20 + sz42 ≤ sz65 by decide)
          go_wp2_with fail
          refine (answer_z s ok Z5 (by omega)).mono ?_
          rintro e w6 ⟨⟨v6, rfl⟩, Z6⟩
          have Z7 := Lib.hid (Z6.tail.more (show 13 + 840 * j + 10 * 4 + 200 + 600 ≤ 13 + 840 * (j + 1) by omega))
          clear Z5 Z6 ld
          go_wp2
          exact ⟨⟨j + 1, by omega, by go_num, Z7.out⟩, by simp [intOf]; omega⟩
    · have e : j = len := by omega
      subst e
      have hdl : ¬ ((j : Int) < j) := by omega
      have E := Lib.hid (hZ.more (show 13 + 840 * j ≤ 60000 by omega))
      clear hZ
      go_wp2_with fail
      go_end0
      exact ⟨⟨_, rfl⟩, E.out⟩
end Go.Proofs.Ytcfbbimahbhgjaa

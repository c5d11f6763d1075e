/- Snap: the program's reader: bytes; what is left; a reader that is not there. -/
import Derived.Test.YtcfbbimahbhgjaaSnI
namespace Go.Proofs.Ytcfbbimahbhgjaa
open Go.RowKit
set_option linter.unusedSimpArgs false
set_option linter.unusedVariables false

theorem Wrote.size {b : Nat} {w w' : World} (h : Wrote b w w') : w.heap.size ≤ w'.heap.size := (h.1 0 w (Nat.zero_le _) ⟨Below.refl _ _, Nat.zero_le _⟩).1.size
theorem BL.wrote {b : Nat} {w w' : World} {a : Option Addr} {l : List Nat} (h : BL w a l) (hW : Wrote b w w') (hne : ∀ ad, a = some ad → ad.block ≠ b) : BL w' a l :=
  h.same hW.size fun ad e hl _ => by
    have ho : w.heap[ad.block]? = some w.heap[ad.block] := Array.getElem?_eq_getElem hl
    rw [ho]; exact hW.2 _ _ (hne ad e) ho
theorem OB.wrote {b base n cap : Nat} {w w' : World} {a : Option Addr} {l : List Nat} (h : OB w base a n cap l) (hW : Wrote b w w') (hne : b < base) : OB w' base a n cap l :=
  h.same fun g hg => by
    have hl := h.lt hg
    have ho : w.heap[g]? = some w.heap[g] := Array.getElem?_eq_getElem hl.2
    rw [ho]; exact hW.2 _ _ (by omega) ho
theorem RD.wrote {T : TypeId} {b rb n cap : Nat} {w w' : World} {a : Option Addr} {s : RS} (h : RD T w rb a n cap s) (hW : Wrote b w w') (h1 : rb ≠ b) (h2 : ∀ ad, a = some ad → ad.block ≠ b) : RD T w' rb a n cap s :=
  ⟨hW.2 _ _ h1 h.hb, h.len, h.lc, h.hn, h.bl.wrote hW h2, h.h8, h.ne⟩
def GR (T : TypeId) (rb : Nat) (w : World) (out : List Nat) (s' : RS) (ed : Ending) (w' : World) : Prop := ∃ a' n' cap', ed = .returned (.slice a' n' cap') ∧ OB w' w.heap.size a' n' cap' out ∧ RP T rb s' w w'
theorem run_front3 (a : Option Addr) (r cap z : Nat) (hz : z ≤ cap) (w : World) : (Instr.slice 29 (.slice a r cap) none (some (.int .u64 (z : Int))) (some (.int .u64 (z : Int)))).run Try.prog w = .ok (.slice a z z) w := by
  rw [run_slice_hm w _ a r cap (by rw [el8]; exact Try.underlying29) .u64 .u64 (z : Int) (z : Int) (by omega) (by omega) (by omega), el8, sz8]
  simp [Result.andThen, sliced]
  intro _
  cases a <;> simp [Addr.add]
theorem run_restU (a : Option Addr) (r cap z : Nat) (hz : z ≤ r) (w : World) : (Instr.slice 29 (.slice a r cap) (some (.int .u64 (z : Int))) none none).run Try.prog w = .ok (.slice (restA a z cap) (r - z) (cap - z)) w := by
  rw [run_slice_l w _ a r cap (by rw [el8]; exact Try.underlying29) .u64 (z : Int) (by omega) (by omega), el8, sz8]
  simp [Result.andThen, sliced, restA]
set_option maxRecDepth 100000 in
set_option maxHeartbeats 8000000 in
theorem rrawP_any (rb n cap : Nat) (most : Int) (a : Option Addr) (s : RS) (w : World) (h0 : -9223372036854775808 ≤ most) (h1 : most ≤ 9223372036854775807) (h : RD TR w rb a n cap s) :
    Calls Try.prog 22 #[.pointer (some ⟨rb, 0, none⟩), .int .i64 most] w (GR TR rb w (rawS s most).1 (rawS s most).2) := by
  by_cases he : s.2 = 0
  · obtain ⟨l, e⟩ := s
    subst he
    have H := Lib.hid h
    obtain ⟨c0, c1, cf⟩ := h.cells
    obtain ⟨v, l1, e1, hS⟩ : ∃ v l1 e1, numS (l, 0) = (v, (l1, e1)) := ⟨_, _, _, rfl⟩
    have hv := numS_lt (l, 0) h.h8
    rw [hS] at hv
    have hnum := rnumP_any rb n cap a (l, 0) w h
    rw [hS] at hnum
    have hlt := h.lt
    have HS := Lib.hid hS
    clear h c1 cf hS
    go_enter Try.func22, Try.ntmps22
    go_wp2_with fail
    refine (stopped_any rb n cap a (l, 0) false _ H.out rfl).mono ?_
    rintro e w1 ⟨rfl, hw⟩
    rw [hw]
    clear hw w1
    go_wp2_with fail
    refine hnum.mono ?_
    rintro e w1 ⟨rfl, ⟨a1, n1, cap1, hD1⟩, hW1⟩
    obtain ⟨d0, d1, df⟩ := hD1.cells
    have d1' : w1.cell? ⟨rb, 1, none⟩ = some (.int .i64 e1) := d1
    have H1 := Lib.hid hD1
    have HW1 := Lib.hid hW1
    have hlen1 : l1.length = n1 := hD1.len
    have hlc1 := hD1.lc
    have hn19 := hD1.hn
    have df0 := df 0
    clear d1 hD1 hW1 df c0 hnum
    by_cases he1 : e1 = 0
    · subst he1
      have hvi : IntKind.u64.wrap (n1 : Int) = (n1 : Int) := by rw [IntKind.wrap_u64]; omega
      by_cases hm : most < 0
      · have dm : decide (most < 0) = true := by simpa using hm
        have E : Hid (rawS (l, 0) most = ([], (l, 4))) := by
          show _ = _
          simp [rawS, HS.out, hm]
        clear hm
        go_wp2_with fail
        refine (fail_any rb n1 cap1 a1 l1 4 _ H1.out).mono ?_
        rintro ed w2 ⟨⟨v2, rfl⟩, hD2, hw2⟩
        obtain ⟨f0, f1, ff⟩ := hD2.cells
        have W12 : Wrote rb w1 w2 := by rw [hw2]; exact (Wrote.refl rb w1).setCell 1 _
        have W2 := Lib.hid (HW1.out.trans W12)
        have HB := Lib.hid (hD2.setB H.out.len H.out.lc H.out.hn (H.out.bl.wrote W2.out H.out.ne) H.out.h8 H.out.ne)
        have f1' : w2.cell? ⟨rb, 1, none⟩ = some (.int .i64 4) := f1
        have ff0 := ff 0
        clear hw2 f1 ff hD2 d0 d1' df0 W12
        go_wp2_with fail
        go_ret
        rw [E.out]
        exact ⟨none, 0, 0, rfl, OB.nil _ _, ⟨_, _, _, HB.out⟩, W2.out.setCell 0 _⟩
      · have dm : decide (most < 0) = false := by simpa using hm
        have hmw : IntKind.u64.wrap most = most := by rw [IntKind.wrap_u64]; omega
        by_cases hmv : most < (v : Int)
        · have dv : decide (most < (v : Int)) = true := by simpa using hmv
          have E : Hid (rawS (l, 0) most = ([], (l, 4))) := by
            show _ = _
            simp [rawS, HS.out, hmv]
          clear hm hmv
          go_wp2_with fail
          refine (fail_any rb n1 cap1 a1 l1 4 _ H1.out).mono ?_
          rintro ed w2 ⟨⟨v2, rfl⟩, hD2, hw2⟩
          obtain ⟨f0, f1, ff⟩ := hD2.cells
          have W12 : Wrote rb w1 w2 := by rw [hw2]; exact (Wrote.refl rb w1).setCell 1 _
          have W2 := Lib.hid (HW1.out.trans W12)
          have HB := Lib.hid (hD2.setB H.out.len H.out.lc H.out.hn (H.out.bl.wrote W2.out H.out.ne) H.out.h8 H.out.ne)
          have f1' : w2.cell? ⟨rb, 1, none⟩ = some (.int .i64 4) := f1
          have ff0 := ff 0
          clear hw2 f1 ff hD2 d0 d1' df0 W12
          go_wp2_with fail
          go_ret
          rw [E.out]
          exact ⟨none, 0, 0, rfl, OB.nil _ _, ⟨_, _, _, HB.out⟩, W2.out.setCell 0 _⟩
        · have dv : decide (most < (v : Int)) = false := by simpa using hmv
          by_cases hnv : n1 < v
          · have dn : decide (n1 < v) = true := by simpa using hnv
            have E : Hid (rawS (l, 0) most = ([], (l, 5))) := by
              show _ = _
              simp [rawS, HS.out, hm, hmv, hlen1, hnv]
            clear hm hmv hnv
            go_wp2_with fail
            refine (fail_any rb n1 cap1 a1 l1 5 _ H1.out).mono ?_
            rintro ed w2 ⟨⟨v2, rfl⟩, hD2, hw2⟩
            obtain ⟨f0, f1, ff⟩ := hD2.cells
            have W12 : Wrote rb w1 w2 := by rw [hw2]; exact (Wrote.refl rb w1).setCell 1 _
            have W2 := Lib.hid (HW1.out.trans W12)
            have HB := Lib.hid (hD2.setB H.out.len H.out.lc H.out.hn (H.out.bl.wrote W2.out H.out.ne) H.out.h8 H.out.ne)
            have f1' : w2.cell? ⟨rb, 1, none⟩ = some (.int .i64 5) := f1
            have ff0 := ff 0
            clear hw2 f1 ff hD2 d0 d1' df0 W12
            go_wp2_with fail
            go_ret
            rw [E.out]
            exact ⟨none, 0, 0, rfl, OB.nil _ _, ⟨_, _, _, HB.out⟩, W2.out.setCell 0 _⟩
          · have dn : decide (n1 < v) = false := by simpa using hnv
            have E : Hid (rawS (l, 0) most = (l1.take v, (l1.drop v, 0))) := by
              show _ = _
              simp [rawS, HS.out, hm, hmv, hlen1, hnv]
            have hfr := run_front3 a1 n1 cap1 v (by omega)
            have hrr := run_restU a1 n1 cap1 v (by omega)
            obtain ⟨a3, ha3⟩ : ∃ a3, restA a1 v cap1 = a3 := ⟨_, rfl⟩
            obtain ⟨n3, hn3⟩ : ∃ n3, n1 - v = n3 := ⟨_, rfl⟩
            obtain ⟨c3, hc3⟩ : ∃ c3, cap1 - v = c3 := ⟨_, rfl⟩
            rw [ha3, hn3, hc3] at hrr
            have hv1 : v ≤ n1 := by omega
            have hvl : (l1.take v).length = v := by rw [List.length_take]; omega
            clear hm hmv hnv
            go_wp2_with fail
            refine (clone_b a1 v v (l1.take v) _ hvl (by omega) (H1.out.bl.take v)).mono ?_
            rintro ed w2 ⟨a4, n4, cap4, rfl, hO4, hb4⟩
            have HD2 := H1.out.keep hb4
            have HDr := Lib.hid (HD2.drop hv1)
            rw [ha3, hn3, hc3] at HDr
            obtain ⟨f0, f1, ff⟩ := HD2.cells
            have ff0 := ff 0
            have W2 := Lib.hid ((HW1.out.below hb4).setCell 0 (.slice a3 n3 c3))
            have HO := Lib.hid ((hO4.base HW1.out.size).wrote ((Wrote.refl rb w2).setCell 0 (.slice a3 n3 c3)) hlt)
            clear f1 ff HD2 d0 d1' df0 hb4 hO4 ha3 hn3 hc3 hvl hfr
            go_wp2_with fail
            go_ret
            rw [E.out]
            exact ⟨a4, n4, cap4, rfl, HO.out, ⟨_, _, _, HDr.out⟩, W2.out⟩
    · have dq : (e1 != 0) = true := by simpa using he1
      have E : Hid (rawS (l, 0) most = ([], (l1, e1))) := by
        show _ = _
        simp [rawS, HS.out, he1]
      clear he1
      go_wp2_with fail
      go_ret
      rw [E.out]
      exact ⟨none, 0, 0, rfl, OB.nil _ _, ⟨_, _, _, H1.out⟩, HW1.out⟩
  · have hq : (s.2 != 0) = true := by simpa using he
    have E : Hid (rawS s most = ([], s)) := by
      show _ = _
      unfold rawS; rw [if_pos he]
    have H := Lib.hid h
    clear h he
    go_enter Try.func22, Try.ntmps22
    go_wp2_with fail
    refine (stopped_any rb n cap a s true _ H.out hq).mono ?_
    rintro e w1 ⟨rfl, hw⟩
    rw [hw]
    clear hw w1
    go_wp2_with fail
    go_ret
    rw [E.out]
    exact ⟨none, 0, 0, rfl, OB.nil _ _, RP.refl H.out⟩
end Go.Proofs.Ytcfbbimahbhgjaa

/- Snap: the document's reader: all. -/
import Derived.Test.YtcfbbimahbhgjaaSnK
namespace Go.Proofs.Ytcfbbimahbhgjaa
open Go.RowKit
set_option linter.unusedSimpArgs false
set_option linter.unusedVariables false

set_option maxRecDepth 100000 in
theorem dnum_any (rb n cap : Nat) (a : Option Addr) (s : RS) (w : World) (h : RD TD w rb a n cap s) :
    Calls Try.prog 26 #[.pointer (some ⟨rb, 0, none⟩)] w fun ed w' => ed = .returned (.int .u64 ((numS s).1 : Int)) ∧ RP TD rb (numS s).2 w w' := by
  by_cases he : s.2 = 0
  · rw [pair_zero he]
    exact dnum_go rb n cap a s.1 w (h.pair he)
  · have hq : (s.2 != 0) = true := by simpa using he
    have E : Hid (numS s = (0, s)) := numS_stop he
    obtain ⟨c0, c1, cf⟩ := h.cells
    have H := Lib.hid h
    clear h he cf
    go_enter Try.func26, Try.ntmps26
    go_wp2_with fail
    go_ret
    rw [E.out]
    exact ⟨rfl, RP.refl H.out⟩
set_option maxRecDepth 100000 in
theorem dint_any (rb n cap : Nat) (a : Option Addr) (s : RS) (w : World) (h : RD TD w rb a n cap s) :
    Calls Try.prog 27 #[.pointer (some ⟨rb, 0, none⟩)] w fun ed w' => ed = .returned (.int .i64 (unzig (numS s).1)) ∧ RP TD rb (numS s).2 w w' := by
  have hv := numS_lt s h.h8
  go_enter Try.func27, Try.ntmps27
  go_wp2_with fail
  refine (dnum_any rb n cap a s _ h).mono ?_
  rintro e w1 ⟨rfl, hP⟩
  have HP := Lib.hid hP
  clear hP
  obtain ⟨v, hv9⟩ : ∃ v, (numS s).1 = v := ⟨_, rfl⟩
  rw [hv9] at hv ⊢
  have HV := Lib.hid hv9
  clear hv9
  by_cases h2 : v % 2 = 0
  · have d2 : ((v : Int) % 2 == 0) = true := by simp; omega
    have e1 : IntKind.i64.wrap ((v : Int) / 2) = (v : Int) / 2 := by rw [IntKind.wrap_i64]; omega
    have E : Hid (unzig (numS s).1 = (v : Int) / 2) := by
      show _ = _
      rw [HV.out]; unfold unzig; rw [if_pos h2]; omega
    have h2a : ¬ (v % 2 = 1) := by omega
    go_wp2_with fail
    go_ret
    rw [E.out]
    exact ⟨rfl, HP.out⟩
  · have d2 : ((v : Int) % 2 == 0) = false := by simp; omega
    have e1 : IntKind.i64.wrap ((v : Int) / 2) = (v : Int) / 2 := by rw [IntKind.wrap_i64]; omega
    have e2 : IntKind.i64.wrap (-((v : Int) / 2)) = -((v : Int) / 2) := by rw [IntKind.wrap_i64]; omega
    have e3 : IntKind.i64.wrap (-((v : Int) / 2) - 1) = -((v : Int) / 2) - 1 := by rw [IntKind.wrap_i64]; omega
    have E : Hid (unzig (numS s).1 = -((v : Int) / 2) - 1) := by
      show _ = _
      rw [HV.out]; unfold unzig; rw [if_neg h2]; omega
    go_wp2_with fail
    go_ret
    rw [E.out]
    exact ⟨rfl, HP.out⟩
set_option maxRecDepth 100000 in
theorem dtruth_any (rb n cap : Nat) (a : Option Addr) (s : RS) (w : World) (h : RD TD w rb a n cap s) :
    Calls Try.prog 28 #[.pointer (some ⟨rb, 0, none⟩)] w fun ed w' => ed = .returned (.bool (truthS s).1) ∧ RP TD rb (truthS s).2 w w' := by
  by_cases he : s.2 = 0
  · obtain ⟨l, e⟩ := s
    subst he
    have H := Lib.hid h
    obtain ⟨c0, c1, cf⟩ := h.cells
    have c1' : w.cell? ⟨rb, 1, none⟩ = some (.int .i64 0) := c1
    have hlen : l.length = n := h.len
    have hbl : BL w a l := h.bl
    have h8 : ∀ x ∈ l, x < 256 := h.h8
    clear h c1
    cases l with
    | nil =>
      have hn : ((n : Int) == 0) = true := by simp at hlen; simp; omega
      have hn0 : n ≤ 0 := by simp at hlen; omega
      clear hlen hbl
      go_enter Try.func28, Try.ntmps28
      go_wp2_with fail
      refine (dfail_any rb n cap a [] 5 _ H.out).mono ?_
      rintro ed w2 ⟨⟨v2, rfl⟩, hD, hw2⟩
      subst hw2
      go_wp2_with fail
      go_ret
      exact ⟨rfl, ⟨_, _, _, hD⟩, (Wrote.refl _ _).setCell 1 _⟩
    | cons x l =>
      have hn : ((n : Int) == 0) = false := by simp at hlen; simp; omega
      have hn0 : (0 : Int) < n := by simp at hlen; omega
      obtain ⟨ad, e, _, cx⟩ := hbl 0 x rfl
      subst e
      have hx8 := h8 x (List.mem_cons_self ..)
      have HL := Lib.hid hlen
      clear hlen hbl h8
      have z0 : ad.add 0 = ad := by unfold Addr.add; split <;> simp_all
      rw [z0] at cx
      clear z0
      have hrr := run_rest (some ad) n cap 1 (by omega)
      have hDr := Lib.hid (H.out.drop (z := 1) (by omega))
      obtain ⟨a3, ha3⟩ : ∃ a3, restA (some ad) 1 cap = a3 := ⟨_, rfl⟩
      obtain ⟨n3, hn3⟩ : ∃ n3, n - 1 = n3 := ⟨_, rfl⟩
      obtain ⟨c3, hc3⟩ : ∃ c3, cap - 1 = c3 := ⟨_, rfl⟩
      rw [ha3, hn3, hc3] at hDr hrr
      have hrr' : ∀ w, (Instr.slice 29 (.slice (some ad) n cap) (some (.int .i64 1)) none none).run Try.prog w = .ok (.slice a3 n3 c3) w := hrr
      have cf0 := cf 0
      clear ha3 hn3 hc3 hrr
      by_cases h1 : 1 < x
      · have d1 : decide ((1 : Int) < x) = true := by simp; omega
        have E : Hid (truthS (x :: l, 0) = (false, (x :: l, 2))) := by
          show _ = _
          simp [truthS, h1]
        clear h1
        go_enter Try.func28, Try.ntmps28
        go_wp2_with fail
        refine (dfail_any rb n cap (some ad) (x :: l) 2 _ H.out).mono ?_
        rintro ed w2 ⟨⟨v2, rfl⟩, hD, hw2⟩
        subst hw2
        go_wp2_with fail
        go_ret
        rw [E.out]
        exact ⟨rfl, ⟨_, _, _, hD⟩, (Wrote.refl _ _).setCell 1 _⟩
      · have d1 : decide ((1 : Int) < x) = false := by simp; omega
        have E : Hid (truthS (x :: l, 0) = (x == 1, (l, 0))) := by
          show _ = _
          simp [truthS, h1]
        have ex : ((x : Int) == 1) = (x == 1) := by
          by_cases h2 : x = 1
          · subst h2; rfl
          · rw [show (x == 1) = false by simpa using h2]; simp; omega
        obtain ⟨q, hq⟩ : ∃ q, (x == 1) = q := ⟨_, rfl⟩
        rw [hq] at ex E
        clear h1 hq
        go_enter Try.func28, Try.ntmps28
        go_wp2_with fail
        go_ret
        rw [E.out]
        exact ⟨rfl, ⟨_, _, _, hDr.out⟩, (Wrote.refl _ _).setCell 0 _⟩
  · have hq : (s.2 != 0) = true := by simpa using he
    have E : Hid (truthS s = (false, s)) := by
      show _ = _
      unfold truthS; rw [if_pos he]
    obtain ⟨c0, c1, cf⟩ := h.cells
    have H := Lib.hid h
    clear h he cf
    go_enter Try.func28, Try.ntmps28
    go_wp2_with fail
    go_ret
    rw [E.out]
    exact ⟨rfl, RP.refl H.out⟩
theorem rawS_num {s : RS} {most : Int} (h : (numS s).2.2 ≠ 0) : rawS s most = ([], (numS s).2) := by
  by_cases he : s.2 = 0
  · unfold rawS; rw [if_neg (by simpa using he)]; simp [h]
  · unfold rawS; rw [if_pos he, numS_stop he]
theorem numS_ok {s : RS} (h : (numS s).2.2 = 0) : s.2 = 0 := by
  by_cases he : s.2 = 0
  · exact he
  · rw [numS_stop he] at h; exact h
set_option maxRecDepth 100000 in
set_option maxHeartbeats 8000000 in
theorem draw_any (rb n cap : Nat) (most : Int) (a : Option Addr) (s : RS) (w : World) (h0 : -9223372036854775808 ≤ most) (h1 : most ≤ 9223372036854775807) (h : RD TD w rb a n cap s) :
    Calls Try.prog 29 #[.pointer (some ⟨rb, 0, none⟩), .int .i64 most] w (GR TD rb w (rawS s most).1 (rawS s most).2) := by
  have H := Lib.hid h
  obtain ⟨c0, c1, cf⟩ := h.cells
  obtain ⟨v, l1, e1, hS⟩ : ∃ v l1 e1, numS s = (v, (l1, e1)) := ⟨_, _, _, rfl⟩
  have hv := numS_lt s h.h8
  rw [hS] at hv
  have hnum := dnum_any rb n cap a s w h
  rw [hS] at hnum
  have hlt := h.lt
  have HS := Lib.hid hS
  clear h c1 cf hS
  go_enter Try.func29, Try.ntmps29
  go_wp2_with fail
  refine hnum.mono ?_
  rintro e w1 ⟨rfl, ⟨a1, n1, cap1, hD1⟩, hW1⟩
  obtain ⟨d0, d1, df⟩ := hD1.cells
  have d1' : w1.cell? ⟨rb, 1, none⟩ = some (.int .i64 e1) := d1
  have H1 := Lib.hid hD1
  have HW1 := Lib.hid hW1
  have hlen1 : l1.length = n1 := hD1.len
  have hlc1 := hD1.lc
  have hn19 := hD1.hn
  have df0 := df 0
  clear d1 hD1 hW1 c0 hnum
  by_cases he1 : e1 = 0
  · subst he1
    have hs0 : s.2 = 0 := numS_ok (by rw [HS.out])
    have HS0 := Lib.hid hs0
    clear hs0
    have hvi : IntKind.u64.wrap (n1 : Int) = (n1 : Int) := by rw [IntKind.wrap_u64]; omega
    by_cases hm : most < 0
    · have dm : decide (most < 0) = true := by simpa using hm
      have E : Hid (rawS s most = ([], (s.1, 4))) := by
        show _ = _
        simp [rawS, HS.out, HS0.out, hm]
      have W2 := Lib.hid (HW1.out.setCell 0 (.slice a n cap))
      have HB := Lib.hid (H1.out.setB H.out.len H.out.lc H.out.hn (H.out.bl.wrote HW1.out H.out.ne) H.out.h8 H.out.ne)
      have W3 := Lib.hid (W2.out.setCell 1 (.int .i64 4))
      clear hm
      go_wp2_with fail
      refine (dfail_any rb n cap a s.1 4 _ HB.out).mono ?_
      rintro ed w2 ⟨⟨v2, rfl⟩, hD2, hw2⟩
      subst hw2
      go_wp2_with fail
      go_ret
      rw [E.out]
      exact ⟨none, 0, 0, rfl, OB.nil _ _, ⟨_, _, _, hD2⟩, W3.out⟩
    · have dm : decide (most < 0) = false := by simpa using hm
      have hmw : IntKind.u64.wrap most = most := by rw [IntKind.wrap_u64]; omega
      by_cases hmv : most < (v : Int)
      · have dv : decide (most < (v : Int)) = true := by simpa using hmv
        have E : Hid (rawS s most = ([], (s.1, 4))) := by
          show _ = _
          simp [rawS, HS.out, HS0.out, hmv]
        have W2 := Lib.hid (HW1.out.setCell 0 (.slice a n cap))
        have HB := Lib.hid (H1.out.setB H.out.len H.out.lc H.out.hn (H.out.bl.wrote HW1.out H.out.ne) H.out.h8 H.out.ne)
        have W3 := Lib.hid (W2.out.setCell 1 (.int .i64 4))
        clear hm hmv
        go_wp2_with fail
        refine (dfail_any rb n cap a s.1 4 _ HB.out).mono ?_
        rintro ed w2 ⟨⟨v2, rfl⟩, hD2, hw2⟩
        subst hw2
        go_wp2_with fail
        go_ret
        rw [E.out]
        exact ⟨none, 0, 0, rfl, OB.nil _ _, ⟨_, _, _, hD2⟩, W3.out⟩
      · have dv : decide (most < (v : Int)) = false := by simpa using hmv
        by_cases hnv : n1 < v
        · have dn : decide (n1 < v) = true := by simpa using hnv
          have E : Hid (rawS s most = ([], (s.1, 5))) := by
            show _ = _
            simp [rawS, HS.out, HS0.out, hm, hmv, hlen1, hnv]
          have W2 := Lib.hid (HW1.out.setCell 0 (.slice a n cap))
          have HB := Lib.hid (H1.out.setB H.out.len H.out.lc H.out.hn (H.out.bl.wrote HW1.out H.out.ne) H.out.h8 H.out.ne)
          have W3 := Lib.hid (W2.out.setCell 1 (.int .i64 5))
          clear hm hmv hnv
          go_wp2_with fail
          refine (dfail_any rb n cap a s.1 5 _ HB.out).mono ?_
          rintro ed w2 ⟨⟨v2, rfl⟩, hD2, hw2⟩
          subst hw2
          go_wp2_with fail
          go_ret
          rw [E.out]
          exact ⟨none, 0, 0, rfl, OB.nil _ _, ⟨_, _, _, hD2⟩, W3.out⟩
        · have dn : decide (n1 < v) = false := by simpa using hnv
          have E : Hid (rawS s most = (l1.take v, (l1.drop v, 0))) := by
            show _ = _
            simp [rawS, HS.out, HS0.out, hm, hmv, hlen1, hnv]
          have hfr := run_front a1 n1 cap1 v (by omega)
          have hrr := run_rest a1 n1 cap1 v (by omega)
          have hvw : IntKind.i64.wrap (v : Int) = (v : Int) := by rw [IntKind.wrap_i64]; omega
          obtain ⟨a3, ha3⟩ : ∃ a3, restA a1 v cap1 = a3 := ⟨_, rfl⟩
          obtain ⟨n3, hn3⟩ : ∃ n3, n1 - v = n3 := ⟨_, rfl⟩
          obtain ⟨c3, hc3⟩ : ∃ c3, cap1 - v = c3 := ⟨_, rfl⟩
          rw [ha3, hn3, hc3] at hrr
          have hv1 : v ≤ n1 := by omega
          have hvl : (l1.take v).length = v := by rw [List.length_take]; omega
          have hbl1 : BL (w1.alloc (.cells #[] 5)) a1 (l1.take v) := (H1.out.bl.take v).keep ((Below.refl _ w1).alloc (Nat.le_refl _) _)
          have d0a : (w1.alloc (.cells #[] 5)).cell? ⟨rb, 0, none⟩ = some (.slice a1 n1 cap1) := (H1.out.keep ((Below.refl _ w1).alloc (Nat.le_refl _) _)).cells.1
          clear hm hmv hnv
          go_wp2_with (at_builtin; refine wpList_append_b _ rfl (.tmp 47) (.tmp 54) rfl rfl (OB.empty w1 (Nat.le_refl _) rfl) a1 v cap1 (l1.take v) rfl hvl hbl1 (by omega) (by simp) ?_; intro a4 cap4 w2 hO hg hat; have hF := fr_grown hg; have HD2 := H1.out.keep hF.1; have f0 := HD2.cells.1; have ff0 := HD2.cells.2.2 0)
          go_ret
          rw [E.out]
          have HDr := HD2.drop hv1
          rw [ha3, hn3, hc3] at HDr
          have hO4 : OB w2 w1.heap.size a4 v cap4 (l1.take v) := by
            rw [Nat.zero_add] at hO
            exact hO
          exact ⟨a4, v, cap4, by simp, (hO4.base HW1.out.size).wrote ((Wrote.refl rb w2).setCell 0 (.slice a3 n3 c3)) hlt, ⟨_, _, _, HDr⟩, (HW1.out.below hF.1).setCell 0 _⟩
  · have dq : (e1 != 0) = true := by simpa using he1
    have E : Hid (rawS s most = ([], (l1, e1))) := by
      show _ = _
      rw [rawS_num (by rw [HS.out]; exact he1), HS.out]
    clear he1
    go_wp2_with fail
    go_ret
    rw [E.out]
    exact ⟨none, 0, 0, rfl, OB.nil _ _, ⟨_, _, _, H1.out⟩, HW1.out⟩
end Go.Proofs.Ytcfbbimahbhgjaa

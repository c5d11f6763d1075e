/- PlicServes: the walk. -/
import Derived.Test.YtgelpapjmlbgfaaPlJ
namespace Go.Proofs.Ytgelpapjmlbgfaa
open Go.RowKit
set_option linter.unusedSimpArgs false
set_option linter.unusedVariables false
attribute [local simp high] zeroPv sizePv zeroBv

set_option maxRecDepth 100000 in
set_option maxHeartbeats 4000000 in
theorem serves_long (a : Option Addr) (len cap : Nat) (w : World) (hl : 100 < len) (hmax : len ≤ 9223372036854775807) :
    Calls Try.prog 6 #[.slice a len cap] w fun e w' => e = .returned (.bool true) ∧ Below w.heap.size w w' := by
  go_enter Try.func6, Try.ntmps6
  go_wp2_with fail
  refine (live16_any _).mono ?_
  rintro e w1 ⟨rfl, hb1⟩
  go_wp2
  go_ret
  exact ⟨rfl, hb1⟩
theorem newP2 : (newP 2).n = 2 := by unfold newP; rw [if_neg (by omega)]; rfl
theorem newP2w : (newP 2).wi = fun _ => false := by unfold newP; rw [if_neg (by omega)]; rfl
set_option maxRecDepth 100000 in
set_option maxHeartbeats 8000000 in
theorem serves_short (a : Option Addr) (len cap : Nat) (w : World) (hl : len ≤ 100) (hd : Deeds w a len) :
    Calls Try.prog 6 #[.slice a len cap] w fun e w' => e = .returned (.bool true) ∧ Below w.heap.size w w' := by
  have ok := OkP.new 2
  have hn2 := newP2
  have hw2 := newP2w
  obtain ⟨s0, hs0⟩ : ∃ s, newP 2 = s := ⟨_, rfl⟩
  rw [hs0] at ok hn2 hw2
  have HS := Lib.hid hs0
  have HD := Lib.hid hd
  clear hs0 hd
  have a3 := size_cellsP
  have a4 := stnP
  have a9 := size_cellsB
  go_enter Try.func6, Try.ntmps6
  go_wp2_with fail
  refine (pnew_v HS.out _).mono ?_
  rintro e w1 ⟨rfl, hb1⟩
  go_wp2
  obtain ⟨wS, hwS⟩ : ∃ wS, wS = (w1.alloc (.cells (cellsP s0) 60)).alloc (.cells (cellsB fun _ => false) 62) := ⟨_, rfl⟩
  have hf : Fr w.heap.size w wS := by rw [hwS]; exact ((((Fr.refl w).step hb1).alloc _).alloc _)
  have hp : wS.heap[w1.heap.size]? = some (.cells (cellsP s0) 60) := by rw [hwS]; exact keep_alloc (heap_alloc_new _ _) _
  have ho : wS.heap[w1.heap.size + 1]? = some (.cells (cellsB fun _ => false) 62) := by rw [hwS]; simpa using heap_alloc_new (w1.alloc (.cells (cellsP s0) 60)) (.cells (cellsB fun _ => false) 62)
  have hB1 : w.heap.size ≤ w1.heap.size := hb1.size
  rw [← hwS]
  clear hwS a4 hb1
  obtain ⟨bp, hbp⟩ : ∃ bp, bp = w1.heap.size := ⟨_, rfl⟩
  obtain ⟨bo, hbo⟩ : ∃ bo, bo = bp + 1 := ⟨_, rfl⟩
  rw [← hbp] at hp ho hB1 ⊢
  rw [← hbo] at ho ⊢
  have hne : bp ≠ bo := by omega
  have hBo : w.heap.size ≤ bo := by omega
  clear hbp hbo
  rw [← hw2] at ho
  go_loopw [5] (fun i wr => ∃ (k : Nat) (s : PS), k ≤ len ∧ i = .int .i64 k ∧ OkP s ∧ s.n = 2 ∧ Fr w.heap.size w wr ∧ wr.heap[bp]? = some (.cells (cellsP s) 60) ∧ wr.heap[bo]? = some (.cells (cellsB s.wi) 62)) (fun i _ => 100 - (intOf i).toNat)
  case atStart => exact ⟨0, s0, by omega, rfl, ok, hn2, hf, hp, ho⟩
  case round =>
    clear hf hp ho ok hn2 hw2
    obtain ⟨k, s, hk, rfl, oks, hsn, hfr, kp, ko⟩ := hrel
    have hkl : (k : Int) ≤ 100 := by omega
    by_cases hlt : k < len
    · obtain ⟨ad, kd, off, sz, v, rfl, had, hd⟩ := HD.out.step hfr.1 hlt
      have d0 := hd.c0
      have d1 := hd.c1
      have d2 := hd.c2
      have d3 := hd.c3
      have hoff := hd.ho
      have hv := hd.hv
      clear hd
      obtain ⟨X0, hX0⟩ : ∃ X, W32 s.se = X := ⟨_, rfl⟩
      have HX0 := Lib.hid hX0
      obtain ⟨sp, hsp⟩ : ∃ sp, spotP s.n off sz = sp := ⟨_, rfl⟩
      have HSP : Hid (spotP 2 off sz = sp) := by show _ = _; rw [← hsn]; exact hsp
      have HSQ := Lib.hid hsp
      clear hX0 hsp
      have kd0 := heap_alloc_new wr (.cells #[.int .i64 kd, .int .u64 (off : Int), .int .i64 sz, .int .u64 (v : Int)] 63)
      replace hfr := hfr.alloc (.cells #[.int .i64 kd, .int .u64 (off : Int), .int .i64 sz, .int .u64 (v : Int)] 63)
      have hlb : bo < wr.heap.size := lt_of_at ko
      have hlbp : bp < wr.heap.size := lt_of_at kp
      replace kp := keep_alloc kp (.cells #[.int .i64 kd, .int .u64 (off : Int), .int .i64 sz, .int .u64 (v : Int)] 63)
      replace ko := keep_alloc ko (.cells #[.int .i64 kd, .int .u64 (off : Int), .int .i64 sz, .int .u64 (v : Int)] 63)
      go_wp2_with fail
      refine (served_v HX0.out _ kp).mono ?_
      rintro e w2 ⟨rfl, b2⟩
      replace hfr := hfr.step b2
      replace kp := keepB b2 kp
      replace ko := keepB b2 ko
      have kd2 := keepB b2 kd0
      clear d0 d1 d2 d3 kd0
      have y0 : w2.cell? ⟨wr.heap.size, 0, none⟩ = some (.int .i64 kd) := by rw [cell_at kd2]; rfl
      have y1 : w2.cell? ⟨wr.heap.size, 1, none⟩ = some (.int .u64 (off : Int)) := by rw [cell_at kd2]; rfl
      have y2 : w2.cell? ⟨wr.heap.size, 2, none⟩ = some (.int .i64 sz) := by rw [cell_at kd2]; rfl
      have y3 : w2.cell? ⟨wr.heap.size, 3, none⟩ = some (.int .u64 (v : Int)) := by rw [cell_at kd2]; rfl
      go_wp2_with fail
      refine (at_v HSP.out _ hoff (by omega) (by omega)).mono ?_
      rintro e w3 ⟨rfl, hw3⟩
      rw [hw3]
      clear hw3 w3
      unfold findW
      obtain ⟨r5, i5⟩ := sp
      dsimp only
      by_cases h0 : kd = 0
      · subst h0
        obtain ⟨s', x, q, hrd⟩ : ∃ s' x q, readP s (r5, i5) = (s', x, q) := ⟨_, _, _, rfl⟩
        have oks' : OkP s' := by have := oks.read (r5, i5); rw [hrd] at this; exact this
        have HN' : Hid (s'.n = 2) := by show _ = _; have := read_n s (r5, i5); rw [hrd] at this; exact this.trans hsn
        have HWI : Hid (s'.wi = s.wi) := by show _ = _; have := read_wi s (r5, i5); rw [hrd] at this; exact this
        have HRD : Hid (readP s (r5, i5) = (s', x, q)) := hrd
        have HRD' : Hid (readP s (spotP s.n off sz) = (s', x, q)) := by show _ = _; rw [HSQ.out]; exact hrd
        clear hrd
        go_wp2_with fail
        refine (pread_v HRD'.out _ hoff oks kp).mono ?_
        rintro e w4 ⟨rfl, kp4, t4⟩
        replace hfr := t4.1 _ _ hB1 hfr
        replace ko := t4.2 _ _ (Ne.symm hne) ko
        replace kp := kp4
        clear kp4 t4 y0 y1 y2 y3 kd2
        cases q with
        | false =>
          obtain ⟨X, hX⟩ : ∃ X, W32 (s').se = X := ⟨_, rfl⟩
          obtain ⟨Y, hY⟩ : ∃ Y, W32 (s').wa = Y := ⟨_, rfl⟩
          obtain ⟨Z, hZ⟩ : ∃ Z, (W32 fun i => (s').se i || (s').wa i) = Z := ⟨_, rfl⟩
          have hXY : bits BinOp.and IntKind.u64 (X : Int) (Y : Int) = 0 := by
            rw [← hX, ← hY, and64, W32_zero (fun i _ => by have := oks'.D i; revert this; cases (s').se i <;> cases (s').wa i <;> simp)]; rfl
          have hOr : bits BinOp.or IntKind.u64 (X : Int) (Y : Int) = (Z : Int) := by rw [← hX, ← hY, or64, hZ]
          have hLow : bits BinOp.and IntKind.u64 (Z : Int) 1 = 0 := by rw [← hZ, low64, oks'.se0, oks'.wa0]; rfl
          have HX := Lib.hid hX
          have HY := Lib.hid hY
          have HZ := Lib.hid hZ
          clear hX hY
          go_wp2_with fail
          refine (served_v HX.out _ kp).mono ?_
          rintro e wa ⟨rfl, ba⟩
          replace hfr := hfr.step ba
          replace kp := keepB ba kp
          replace ko := keepB ba ko
          go_wp2_with fail
          refine (waits_v HY.out _ kp).mono ?_
          rintro e wb ⟨rfl, bb⟩
          replace hfr := hfr.step bb
          replace kp := keepB bb kp
          replace ko := keepB bb ko
          go_wp2_with fail
          refine (served_v HX.out _ kp).mono ?_
          rintro e wc ⟨rfl, bc⟩
          replace hfr := hfr.step bc
          replace kp := keepB bc kp
          replace ko := keepB bc ko
          go_wp2_with fail
          refine (waits_v HY.out _ kp).mono ?_
          rintro e wd ⟨rfl, bd⟩
          replace hfr := hfr.step bd
          replace kp := keepB bd kp
          replace ko := keepB bd ko
          go_wp2
          go_loopw [12] (fun i2 wr2 => ∃ k2 : Nat, 1 ≤ k2 ∧ k2 ≤ 32 ∧ i2 = .int .i64 (k2 : Int) ∧ Fr w.heap.size w wr2 ∧ wr2.heap[bp]? = some (.cells (cellsP (s')) 60) ∧ wr2.heap[bo]? = some (.cells (cellsB (s.wi)) 62)) (fun i2 _ => 32 - (intOf i2).toNat)
          case atStart => exact ⟨1, by omega, by omega, rfl, hfr, kp, ko⟩
          case round =>
            clear hfr kp ko
            obtain ⟨k2, hk21, hk22, rfl, hfr, kp, ko⟩ := hrel
            have hk23 : (k2 : Int) ≤ 32 := by omega
            have hk20 : (0 : Int) ≤ k2 := by omega
            by_cases hl2 : k2 < 32
            · have hl3 : (k2 : Int) < 32 := by omega
              have hmin : min k2 64 = k2 := by omega
              have hwk : IntKind.u64.wrap (k2 : Int) = (k2 : Int) := by rw [IntKind.wrap_u64]; omega
              have cb := knownB ko hl2
              cases hon : (s.wi) k2 with
              | false =>
                rw [hon] at cb
                go_wp2
                go_roundw
                case rel => exact ⟨k2 + 1, by omega, by omega, by go_num, hfr, kp, ko⟩
                case measure => simp [intOf]; omega
              | true =>
                rw [hon] at cb
                have hbz : bits BinOp.and IntKind.u64 ((Z : Int) / 2 ^ k2) 1 = 1 := by
                  rw [← HZ.out, bit64 _ hl2]
                  have := oks'.J k2 (by first | exact hon | (rw [HWI.out]; exact hon))
                  revert this
                  cases (s').se k2 <;> cases (s').wa k2 <;> simp
                go_wp2_with fail
                refine (served_v HX.out _ kp).mono ?_
                rintro e wa2 ⟨rfl, ba2⟩
                replace hfr := hfr.step ba2
                replace kp := keepB ba2 kp
                replace ko := keepB ba2 ko
                go_wp2_with fail
                refine (waits_v HY.out _ kp).mono ?_
                rintro e wb2 ⟨rfl, bb2⟩
                replace hfr := hfr.step bb2
                replace kp := keepB bb2 kp
                replace ko := keepB bb2 ko
                go_wp2
                go_roundw
                case rel => exact ⟨k2 + 1, by omega, by omega, by go_num, hfr, kp, ko⟩
                case measure => simp [intOf]; omega
            · have ek : k2 = 32 := by omega
              subst ek
              go_wp2
              go_roundw
              case rel => exact ⟨k + 1, s', by omega, by go_num, oks', HN'.out, hfr, kp, by first | exact ko | (rw [HWI.out]; exact ko)⟩
              case measure => simp [intOf]; omega
        | true =>
          by_cases h5 : r5 = 5
          · subst h5
            by_cases hx0 : 0 < x
            · have hx : bestP s i5 0 = x := by have h := HRD.out; unfold readP at h; simp at h; exact h.2
              have hs' : s' = claimP s x := by have h := HRD.out; unfold readP at h; simp [hx, hx0] at h; exact h.symm
              have hin : x ≤ 31 ∧ s.wa x = true := by have := bestP_in (s := s) (c := i5) (a := 0) (by rw [hx]; exact hx0); rw [hx] at this; exact this
              have hx32 : x < 32 := by omega
              have hse : s.se x = false := by
                cases h : s.se x
                · rfl
                · have := oks.D x h; rw [hin.2] at this; cases this
              have hb1 : bits BinOp.and IntKind.u64 ((X0 : Int) / 2 ^ x) 1 = 0 := by rw [← HX0.out, bit64 _ hx32, hse]; rfl
              obtain ⟨X1, hX1⟩ : ∃ X, W32 s'.se = X := ⟨_, rfl⟩
              have HX1 := Lib.hid hX1
              have hpo : ((2 ^ x : Nat) : Int) = (2 : Int) ^ x := by simp
              have hlt2 : (2 : Int) ^ x < 4294967296 := by
                have := Nat.pow_lt_pow_right (a := 2) (by omega) hx32
                rw [← hpo]; omega
              have hge2 : (0 : Int) ≤ (2 : Int) ^ x := Int.pow_nonneg (by omega)
              have hw2 : IntKind.u64.wrap ((2 : Int) ^ x) = (2 : Int) ^ x := by rw [IntKind.wrap_u64]; omega
              have hor : bits BinOp.or IntKind.u64 (X0 : Int) ((2 : Int) ^ x) = (X1 : Int) := by
                rw [← hpo, one_W32 hx32, ← HX0.out, or64, ← hX1, hs']
                congr 1
                refine W32_congr fun j hj => ?_
                show _ = upN s.se x true j
                unfold oneF upN
                by_cases e : j = x <;> simp [e]
              have hmin : min x 64 = x := by omega
              have hx64 : (x : Int) ≤ 64 := by omega
              have hx00 : (0 : Int) < x := by omega
              have hx31 : (x : Int) ≤ 31 := by omega
              clear hX1 hs' hin hse hpo hlt2 hge2
              go_wp2_with fail
              refine (served_v HX1.out _ kp).mono ?_
              rintro e w5 ⟨rfl, b5⟩
              replace hfr := hfr.step b5
              replace kp := keepB b5 kp
              replace ko := keepB b5 ko
              obtain ⟨X, hX⟩ : ∃ X, W32 (s').se = X := ⟨_, rfl⟩
              obtain ⟨Y, hY⟩ : ∃ Y, W32 (s').wa = Y := ⟨_, rfl⟩
              obtain ⟨Z, hZ⟩ : ∃ Z, (W32 fun i => (s').se i || (s').wa i) = Z := ⟨_, rfl⟩
              have hXY : bits BinOp.and IntKind.u64 (X : Int) (Y : Int) = 0 := by
                rw [← hX, ← hY, and64, W32_zero (fun i _ => by have := oks'.D i; revert this; cases (s').se i <;> cases (s').wa i <;> simp)]; rfl
              have hOr : bits BinOp.or IntKind.u64 (X : Int) (Y : Int) = (Z : Int) := by rw [← hX, ← hY, or64, hZ]
              have hLow : bits BinOp.and IntKind.u64 (Z : Int) 1 = 0 := by rw [← hZ, low64, oks'.se0, oks'.wa0]; rfl
              have HX := Lib.hid hX
              have HY := Lib.hid hY
              have HZ := Lib.hid hZ
              clear hX hY
              go_wp2_with fail
              refine (served_v HX.out _ kp).mono ?_
              rintro e wa ⟨rfl, ba⟩
              replace hfr := hfr.step ba
              replace kp := keepB ba kp
              replace ko := keepB ba ko
              go_wp2_with fail
              refine (waits_v HY.out _ kp).mono ?_
              rintro e wb ⟨rfl, bb⟩
              replace hfr := hfr.step bb
              replace kp := keepB bb kp
              replace ko := keepB bb ko
              go_wp2_with fail
              refine (served_v HX.out _ kp).mono ?_
              rintro e wc ⟨rfl, bc⟩
              replace hfr := hfr.step bc
              replace kp := keepB bc kp
              replace ko := keepB bc ko
              go_wp2_with fail
              refine (waits_v HY.out _ kp).mono ?_
              rintro e wd ⟨rfl, bd⟩
              replace hfr := hfr.step bd
              replace kp := keepB bd kp
              replace ko := keepB bd ko
              go_wp2
              go_loopw [12] (fun i2 wr2 => ∃ k2 : Nat, 1 ≤ k2 ∧ k2 ≤ 32 ∧ i2 = .int .i64 (k2 : Int) ∧ Fr w.heap.size w wr2 ∧ wr2.heap[bp]? = some (.cells (cellsP (s')) 60) ∧ wr2.heap[bo]? = some (.cells (cellsB (s.wi)) 62)) (fun i2 _ => 32 - (intOf i2).toNat)
              case atStart => exact ⟨1, by omega, by omega, rfl, hfr, kp, ko⟩
              case round =>
                clear hfr kp ko
                obtain ⟨k2, hk21, hk22, rfl, hfr, kp, ko⟩ := hrel
                have hk23 : (k2 : Int) ≤ 32 := by omega
                have hk20 : (0 : Int) ≤ k2 := by omega
                by_cases hl2 : k2 < 32
                · have hl3 : (k2 : Int) < 32 := by omega
                  have hmin : min k2 64 = k2 := by omega
                  have hwk : IntKind.u64.wrap (k2 : Int) = (k2 : Int) := by rw [IntKind.wrap_u64]; omega
                  have cb := knownB ko hl2
                  cases hon : (s.wi) k2 with
                  | false =>
                    rw [hon] at cb
                    go_wp2
                    go_roundw
                    case rel => exact ⟨k2 + 1, by omega, by omega, by go_num, hfr, kp, ko⟩
                    case measure => simp [intOf]; omega
                  | true =>
                    rw [hon] at cb
                    have hbz : bits BinOp.and IntKind.u64 ((Z : Int) / 2 ^ k2) 1 = 1 := by
                      rw [← HZ.out, bit64 _ hl2]
                      have := oks'.J k2 (by first | exact hon | (rw [HWI.out]; exact hon))
                      revert this
                      cases (s').se k2 <;> cases (s').wa k2 <;> simp
                    go_wp2_with fail
                    refine (served_v HX.out _ kp).mono ?_
                    rintro e wa2 ⟨rfl, ba2⟩
                    replace hfr := hfr.step ba2
                    replace kp := keepB ba2 kp
                    replace ko := keepB ba2 ko
                    go_wp2_with fail
                    refine (waits_v HY.out _ kp).mono ?_
                    rintro e wb2 ⟨rfl, bb2⟩
                    replace hfr := hfr.step bb2
                    replace kp := keepB bb2 kp
                    replace ko := keepB bb2 ko
                    go_wp2
                    go_roundw
                    case rel => exact ⟨k2 + 1, by omega, by omega, by go_num, hfr, kp, ko⟩
                    case measure => simp [intOf]; omega
                · have ek : k2 = 32 := by omega
                  subst ek
                  go_wp2
                  go_roundw
                  case rel => exact ⟨k + 1, s', by omega, by go_num, oks', HN'.out, hfr, kp, by first | exact ko | (rw [HWI.out]; exact ko)⟩
                  case measure => simp [intOf]; omega
            · have hx1 : x = 0 := by omega
              subst hx1
              obtain ⟨X, hX⟩ : ∃ X, W32 (s').se = X := ⟨_, rfl⟩
              obtain ⟨Y, hY⟩ : ∃ Y, W32 (s').wa = Y := ⟨_, rfl⟩
              obtain ⟨Z, hZ⟩ : ∃ Z, (W32 fun i => (s').se i || (s').wa i) = Z := ⟨_, rfl⟩
              have hXY : bits BinOp.and IntKind.u64 (X : Int) (Y : Int) = 0 := by
                rw [← hX, ← hY, and64, W32_zero (fun i _ => by have := oks'.D i; revert this; cases (s').se i <;> cases (s').wa i <;> simp)]; rfl
              have hOr : bits BinOp.or IntKind.u64 (X : Int) (Y : Int) = (Z : Int) := by rw [← hX, ← hY, or64, hZ]
              have hLow : bits BinOp.and IntKind.u64 (Z : Int) 1 = 0 := by rw [← hZ, low64, oks'.se0, oks'.wa0]; rfl
              have HX := Lib.hid hX
              have HY := Lib.hid hY
              have HZ := Lib.hid hZ
              clear hX hY
              go_wp2_with fail
              refine (served_v HX.out _ kp).mono ?_
              rintro e wa ⟨rfl, ba⟩
              replace hfr := hfr.step ba
              replace kp := keepB ba kp
              replace ko := keepB ba ko
              go_wp2_with fail
              refine (waits_v HY.out _ kp).mono ?_
              rintro e wb ⟨rfl, bb⟩
              replace hfr := hfr.step bb
              replace kp := keepB bb kp
              replace ko := keepB bb ko
              go_wp2_with fail
              refine (served_v HX.out _ kp).mono ?_
              rintro e wc ⟨rfl, bc⟩
              replace hfr := hfr.step bc
              replace kp := keepB bc kp
              replace ko := keepB bc ko
              go_wp2_with fail
              refine (waits_v HY.out _ kp).mono ?_
              rintro e wd ⟨rfl, bd⟩
              replace hfr := hfr.step bd
              replace kp := keepB bd kp
              replace ko := keepB bd ko
              go_wp2
              go_loopw [12] (fun i2 wr2 => ∃ k2 : Nat, 1 ≤ k2 ∧ k2 ≤ 32 ∧ i2 = .int .i64 (k2 : Int) ∧ Fr w.heap.size w wr2 ∧ wr2.heap[bp]? = some (.cells (cellsP (s')) 60) ∧ wr2.heap[bo]? = some (.cells (cellsB (s.wi)) 62)) (fun i2 _ => 32 - (intOf i2).toNat)
              case atStart => exact ⟨1, by omega, by omega, rfl, hfr, kp, ko⟩
              case round =>
                clear hfr kp ko
                obtain ⟨k2, hk21, hk22, rfl, hfr, kp, ko⟩ := hrel
                have hk23 : (k2 : Int) ≤ 32 := by omega
                have hk20 : (0 : Int) ≤ k2 := by omega
                by_cases hl2 : k2 < 32
                · have hl3 : (k2 : Int) < 32 := by omega
                  have hmin : min k2 64 = k2 := by omega
                  have hwk : IntKind.u64.wrap (k2 : Int) = (k2 : Int) := by rw [IntKind.wrap_u64]; omega
                  have cb := knownB ko hl2
                  cases hon : (s.wi) k2 with
                  | false =>
                    rw [hon] at cb
                    go_wp2
                    go_roundw
                    case rel => exact ⟨k2 + 1, by omega, by omega, by go_num, hfr, kp, ko⟩
                    case measure => simp [intOf]; omega
                  | true =>
                    rw [hon] at cb
                    have hbz : bits BinOp.and IntKind.u64 ((Z : Int) / 2 ^ k2) 1 = 1 := by
                      rw [← HZ.out, bit64 _ hl2]
                      have := oks'.J k2 (by first | exact hon | (rw [HWI.out]; exact hon))
                      revert this
                      cases (s').se k2 <;> cases (s').wa k2 <;> simp
                    go_wp2_with fail
                    refine (served_v HX.out _ kp).mono ?_
                    rintro e wa2 ⟨rfl, ba2⟩
                    replace hfr := hfr.step ba2
                    replace kp := keepB ba2 kp
                    replace ko := keepB ba2 ko
                    go_wp2_with fail
                    refine (waits_v HY.out _ kp).mono ?_
                    rintro e wb2 ⟨rfl, bb2⟩
                    replace hfr := hfr.step bb2
                    replace kp := keepB bb2 kp
                    replace ko := keepB bb2 ko
                    go_wp2
                    go_roundw
                    case rel => exact ⟨k2 + 1, by omega, by omega, by go_num, hfr, kp, ko⟩
                    case measure => simp [intOf]; omega
                · have ek : k2 = 32 := by omega
                  subst ek
                  go_wp2
                  go_roundw
                  case rel => exact ⟨k + 1, s', by omega, by go_num, oks', HN'.out, hfr, kp, by first | exact ko | (rw [HWI.out]; exact ko)⟩
                  case measure => simp [intOf]; omega
          · have hb5 : ((r5 : Int) == 5) = false := by simp; omega
            obtain ⟨X, hX⟩ : ∃ X, W32 (s').se = X := ⟨_, rfl⟩
            obtain ⟨Y, hY⟩ : ∃ Y, W32 (s').wa = Y := ⟨_, rfl⟩
            obtain ⟨Z, hZ⟩ : ∃ Z, (W32 fun i => (s').se i || (s').wa i) = Z := ⟨_, rfl⟩
            have hXY : bits BinOp.and IntKind.u64 (X : Int) (Y : Int) = 0 := by
              rw [← hX, ← hY, and64, W32_zero (fun i _ => by have := oks'.D i; revert this; cases (s').se i <;> cases (s').wa i <;> simp)]; rfl
            have hOr : bits BinOp.or IntKind.u64 (X : Int) (Y : Int) = (Z : Int) := by rw [← hX, ← hY, or64, hZ]
            have hLow : bits BinOp.and IntKind.u64 (Z : Int) 1 = 0 := by rw [← hZ, low64, oks'.se0, oks'.wa0]; rfl
            have HX := Lib.hid hX
            have HY := Lib.hid hY
            have HZ := Lib.hid hZ
            clear hX hY
            go_wp2_with fail
            refine (served_v HX.out _ kp).mono ?_
            rintro e wa ⟨rfl, ba⟩
            replace hfr := hfr.step ba
            replace kp := keepB ba kp
            replace ko := keepB ba ko
            go_wp2_with fail
            refine (waits_v HY.out _ kp).mono ?_
            rintro e wb ⟨rfl, bb⟩
            replace hfr := hfr.step bb
            replace kp := keepB bb kp
            replace ko := keepB bb ko
            go_wp2_with fail
            refine (served_v HX.out _ kp).mono ?_
            rintro e wc ⟨rfl, bc⟩
            replace hfr := hfr.step bc
            replace kp := keepB bc kp
            replace ko := keepB bc ko
            go_wp2_with fail
            refine (waits_v HY.out _ kp).mono ?_
            rintro e wd ⟨rfl, bd⟩
            replace hfr := hfr.step bd
            replace kp := keepB bd kp
            replace ko := keepB bd ko
            go_wp2
            go_loopw [12] (fun i2 wr2 => ∃ k2 : Nat, 1 ≤ k2 ∧ k2 ≤ 32 ∧ i2 = .int .i64 (k2 : Int) ∧ Fr w.heap.size w wr2 ∧ wr2.heap[bp]? = some (.cells (cellsP (s')) 60) ∧ wr2.heap[bo]? = some (.cells (cellsB (s.wi)) 62)) (fun i2 _ => 32 - (intOf i2).toNat)
            case atStart => exact ⟨1, by omega, by omega, rfl, hfr, kp, ko⟩
            case round =>
              clear hfr kp ko
              obtain ⟨k2, hk21, hk22, rfl, hfr, kp, ko⟩ := hrel
              have hk23 : (k2 : Int) ≤ 32 := by omega
              have hk20 : (0 : Int) ≤ k2 := by omega
              by_cases hl2 : k2 < 32
              · have hl3 : (k2 : Int) < 32 := by omega
                have hmin : min k2 64 = k2 := by omega
                have hwk : IntKind.u64.wrap (k2 : Int) = (k2 : Int) := by rw [IntKind.wrap_u64]; omega
                have cb := knownB ko hl2
                cases hon : (s.wi) k2 with
                | false =>
                  rw [hon] at cb
                  go_wp2
                  go_roundw
                  case rel => exact ⟨k2 + 1, by omega, by omega, by go_num, hfr, kp, ko⟩
                  case measure => simp [intOf]; omega
                | true =>
                  rw [hon] at cb
                  have hbz : bits BinOp.and IntKind.u64 ((Z : Int) / 2 ^ k2) 1 = 1 := by
                    rw [← HZ.out, bit64 _ hl2]
                    have := oks'.J k2 (by first | exact hon | (rw [HWI.out]; exact hon))
                    revert this
                    cases (s').se k2 <;> cases (s').wa k2 <;> simp
                  go_wp2_with fail
                  refine (served_v HX.out _ kp).mono ?_
                  rintro e wa2 ⟨rfl, ba2⟩
                  replace hfr := hfr.step ba2
                  replace kp := keepB ba2 kp
                  replace ko := keepB ba2 ko
                  go_wp2_with fail
                  refine (waits_v HY.out _ kp).mono ?_
                  rintro e wb2 ⟨rfl, bb2⟩
                  replace hfr := hfr.step bb2
                  replace kp := keepB bb2 kp
                  replace ko := keepB bb2 ko
                  go_wp2
                  go_roundw
                  case rel => exact ⟨k2 + 1, by omega, by omega, by go_num, hfr, kp, ko⟩
                  case measure => simp [intOf]; omega
              · have ek : k2 = 32 := by omega
                subst ek
                go_wp2
                go_roundw
                case rel => exact ⟨k + 1, s', by omega, by go_num, oks', HN'.out, hfr, kp, by first | exact ko | (rw [HWI.out]; exact ko)⟩
                case measure => simp [intOf]; omega
      · by_cases h1 : kd = 1
        · subst h1
          obtain ⟨s', q, hrd⟩ : ∃ s' q, writeP s v (r5, i5) = (s', q) := ⟨_, _, rfl⟩
          have oks' : OkP s' := by have := oks.write v (r5, i5); rw [hrd] at this; exact this
          have HN' : Hid (s'.n = 2) := by show _ = _; have := write_n s v (r5, i5); rw [hrd] at this; exact this.trans hsn
          have HWI : Hid (s'.wi = s.wi) := by show _ = _; have := write_wi s v (r5, i5); rw [hrd] at this; exact this
          have HRD' : Hid (writeP s v (spotP s.n off sz) = (s', q)) := by show _ = _; rw [HSQ.out]; exact hrd
          clear hrd
          go_wp2_with fail
          refine (pwrite_v HRD'.out _ hoff hv oks kp).mono ?_
          rintro e w4 ⟨rfl, kp4, t4⟩
          replace hfr := t4.1 _ _ hB1 hfr
          replace ko := t4.2 _ _ (Ne.symm hne) ko
          replace kp := kp4
          clear kp4 t4 y0 y1 y2 y3 kd2
          obtain ⟨X, hX⟩ : ∃ X, W32 (s').se = X := ⟨_, rfl⟩
          obtain ⟨Y, hY⟩ : ∃ Y, W32 (s').wa = Y := ⟨_, rfl⟩
          obtain ⟨Z, hZ⟩ : ∃ Z, (W32 fun i => (s').se i || (s').wa i) = Z := ⟨_, rfl⟩
          have hXY : bits BinOp.and IntKind.u64 (X : Int) (Y : Int) = 0 := by
            rw [← hX, ← hY, and64, W32_zero (fun i _ => by have := oks'.D i; revert this; cases (s').se i <;> cases (s').wa i <;> simp)]; rfl
          have hOr : bits BinOp.or IntKind.u64 (X : Int) (Y : Int) = (Z : Int) := by rw [← hX, ← hY, or64, hZ]
          have hLow : bits BinOp.and IntKind.u64 (Z : Int) 1 = 0 := by rw [← hZ, low64, oks'.se0, oks'.wa0]; rfl
          have HX := Lib.hid hX
          have HY := Lib.hid hY
          have HZ := Lib.hid hZ
          clear hX hY
          go_wp2_with fail
          refine (served_v HX.out _ kp).mono ?_
          rintro e wa ⟨rfl, ba⟩
          replace hfr := hfr.step ba
          replace kp := keepB ba kp
          replace ko := keepB ba ko
          go_wp2_with fail
          refine (waits_v HY.out _ kp).mono ?_
          rintro e wb ⟨rfl, bb⟩
          replace hfr := hfr.step bb
          replace kp := keepB bb kp
          replace ko := keepB bb ko
          go_wp2_with fail
          refine (served_v HX.out _ kp).mono ?_
          rintro e wc ⟨rfl, bc⟩
          replace hfr := hfr.step bc
          replace kp := keepB bc kp
          replace ko := keepB bc ko
          go_wp2_with fail
          refine (waits_v HY.out _ kp).mono ?_
          rintro e wd ⟨rfl, bd⟩
          replace hfr := hfr.step bd
          replace kp := keepB bd kp
          replace ko := keepB bd ko
          go_wp2
          go_loopw [12] (fun i2 wr2 => ∃ k2 : Nat, 1 ≤ k2 ∧ k2 ≤ 32 ∧ i2 = .int .i64 (k2 : Int) ∧ Fr w.heap.size w wr2 ∧ wr2.heap[bp]? = some (.cells (cellsP (s')) 60) ∧ wr2.heap[bo]? = some (.cells (cellsB (s.wi)) 62)) (fun i2 _ => 32 - (intOf i2).toNat)
          case atStart => exact ⟨1, by omega, by omega, rfl, hfr, kp, ko⟩
          case round =>
            clear hfr kp ko
            obtain ⟨k2, hk21, hk22, rfl, hfr, kp, ko⟩ := hrel
            have hk23 : (k2 : Int) ≤ 32 := by omega
            have hk20 : (0 : Int) ≤ k2 := by omega
            by_cases hl2 : k2 < 32
            · have hl3 : (k2 : Int) < 32 := by omega
              have hmin : min k2 64 = k2 := by omega
              have hwk : IntKind.u64.wrap (k2 : Int) = (k2 : Int) := by rw [IntKind.wrap_u64]; omega
              have cb := knownB ko hl2
              cases hon : (s.wi) k2 with
              | false =>
                rw [hon] at cb
                go_wp2
                go_roundw
                case rel => exact ⟨k2 + 1, by omega, by omega, by go_num, hfr, kp, ko⟩
                case measure => simp [intOf]; omega
              | true =>
                rw [hon] at cb
                have hbz : bits BinOp.and IntKind.u64 ((Z : Int) / 2 ^ k2) 1 = 1 := by
                  rw [← HZ.out, bit64 _ hl2]
                  have := oks'.J k2 (by first | exact hon | (rw [HWI.out]; exact hon))
                  revert this
                  cases (s').se k2 <;> cases (s').wa k2 <;> simp
                go_wp2_with fail
                refine (served_v HX.out _ kp).mono ?_
                rintro e wa2 ⟨rfl, ba2⟩
                replace hfr := hfr.step ba2
                replace kp := keepB ba2 kp
                replace ko := keepB ba2 ko
                go_wp2_with fail
                refine (waits_v HY.out _ kp).mono ?_
                rintro e wb2 ⟨rfl, bb2⟩
                replace hfr := hfr.step bb2
                replace kp := keepB bb2 kp
                replace ko := keepB bb2 ko
                go_wp2
                go_roundw
                case rel => exact ⟨k2 + 1, by omega, by omega, by go_num, hfr, kp, ko⟩
                case measure => simp [intOf]; omega
            · have ek : k2 = 32 := by omega
              subst ek
              go_wp2
              go_roundw
              case rel => exact ⟨k + 1, s', by omega, by go_num, oks', HN'.out, hfr, kp, by first | exact ko | (rw [HWI.out]; exact ko)⟩
              case measure => simp [intOf]; omega
        · have e0 : (kd == 0) = false := by simpa using h0
          have e1 : (kd == 1) = false := by simpa using h1
          obtain ⟨on, hon⟩ : ∃ on, ((v : Int) % 2 == 1) = on := ⟨_, rfl⟩
          obtain ⟨s', q, hrd⟩ : ∃ s' q, wireP s sz on = (s', q) := ⟨_, _, rfl⟩
          have oks' : OkP s' := by have := oks.wire sz on; rw [hrd] at this; exact this
          have HN' : Hid (s'.n = 2) := by show _ = _; have := wire_n s sz on; rw [hrd] at this; exact this.trans hsn
          have HC := Lib.hid (wireP_wi s sz on s' q hrd)
          have HRD' := Lib.hid hrd
          clear hrd
          go_wp2_with fail
          refine (wire_v HRD'.out _ oks kp).mono ?_
          rintro e w4 ⟨rfl, kp4, t4⟩
          replace hfr := t4.1 _ _ hB1 hfr
          replace ko := t4.2 _ _ (Ne.symm hne) ko
          replace kp := kp4
          have hlw := lt_of_at kd2
          have kd4 := t4.2 _ _ (by omega) kd2
          clear kp4 t4 y0 y1 y2 y3 kd2
          have y2 : w4.cell? ⟨wr.heap.size, 2, none⟩ = some (.int .i64 sz) := by rw [cell_at kd4]; rfl
          have y3 : w4.cell? ⟨wr.heap.size, 3, none⟩ = some (.int .u64 (v : Int)) := by rw [cell_at kd4]; rfl
          rcases HC.out with ⟨rfl, rfl⟩ | ⟨rfl, hz1, hz31, hwi⟩
          · have HWI : Hid (s'.wi = s'.wi) := (rfl : s'.wi = s'.wi)
            obtain ⟨X, hX⟩ : ∃ X, W32 (s').se = X := ⟨_, rfl⟩
            obtain ⟨Y, hY⟩ : ∃ Y, W32 (s').wa = Y := ⟨_, rfl⟩
            obtain ⟨Z, hZ⟩ : ∃ Z, (W32 fun i => (s').se i || (s').wa i) = Z := ⟨_, rfl⟩
            have hXY : bits BinOp.and IntKind.u64 (X : Int) (Y : Int) = 0 := by
              rw [← hX, ← hY, and64, W32_zero (fun i _ => by have := oks'.D i; revert this; cases (s').se i <;> cases (s').wa i <;> simp)]; rfl
            have hOr : bits BinOp.or IntKind.u64 (X : Int) (Y : Int) = (Z : Int) := by rw [← hX, ← hY, or64, hZ]
            have hLow : bits BinOp.and IntKind.u64 (Z : Int) 1 = 0 := by rw [← hZ, low64, oks'.se0, oks'.wa0]; rfl
            have HX := Lib.hid hX
            have HY := Lib.hid hY
            have HZ := Lib.hid hZ
            clear hX hY
            go_wp2_with fail
            refine (served_v HX.out _ kp).mono ?_
            rintro e wa ⟨rfl, ba⟩
            replace hfr := hfr.step ba
            replace kp := keepB ba kp
            replace ko := keepB ba ko
            go_wp2_with fail
            refine (waits_v HY.out _ kp).mono ?_
            rintro e wb ⟨rfl, bb⟩
            replace hfr := hfr.step bb
            replace kp := keepB bb kp
            replace ko := keepB bb ko
            go_wp2_with fail
            refine (served_v HX.out _ kp).mono ?_
            rintro e wc ⟨rfl, bc⟩
            replace hfr := hfr.step bc
            replace kp := keepB bc kp
            replace ko := keepB bc ko
            go_wp2_with fail
            refine (waits_v HY.out _ kp).mono ?_
            rintro e wd ⟨rfl, bd⟩
            replace hfr := hfr.step bd
            replace kp := keepB bd kp
            replace ko := keepB bd ko
            go_wp2
            go_loopw [12] (fun i2 wr2 => ∃ k2 : Nat, 1 ≤ k2 ∧ k2 ≤ 32 ∧ i2 = .int .i64 (k2 : Int) ∧ Fr w.heap.size w wr2 ∧ wr2.heap[bp]? = some (.cells (cellsP (s')) 60) ∧ wr2.heap[bo]? = some (.cells (cellsB (s'.wi)) 62)) (fun i2 _ => 32 - (intOf i2).toNat)
            case atStart => exact ⟨1, by omega, by omega, rfl, hfr, kp, ko⟩
            case round =>
              clear hfr kp ko
              obtain ⟨k2, hk21, hk22, rfl, hfr, kp, ko⟩ := hrel
              have hk23 : (k2 : Int) ≤ 32 := by omega
              have hk20 : (0 : Int) ≤ k2 := by omega
              by_cases hl2 : k2 < 32
              · have hl3 : (k2 : Int) < 32 := by omega
                have hmin : min k2 64 = k2 := by omega
                have hwk : IntKind.u64.wrap (k2 : Int) = (k2 : Int) := by rw [IntKind.wrap_u64]; omega
                have cb := knownB ko hl2
                cases hon : (s'.wi) k2 with
                | false =>
                  rw [hon] at cb
                  go_wp2
                  go_roundw
                  case rel => exact ⟨k2 + 1, by omega, by omega, by go_num, hfr, kp, ko⟩
                  case measure => simp [intOf]; omega
                | true =>
                  rw [hon] at cb
                  have hbz : bits BinOp.and IntKind.u64 ((Z : Int) / 2 ^ k2) 1 = 1 := by
                    rw [← HZ.out, bit64 _ hl2]
                    have := oks'.J k2 (by first | exact hon | (rw [HWI.out]; exact hon))
                    revert this
                    cases (s').se k2 <;> cases (s').wa k2 <;> simp
                  go_wp2_with fail
                  refine (served_v HX.out _ kp).mono ?_
                  rintro e wa2 ⟨rfl, ba2⟩
                  replace hfr := hfr.step ba2
                  replace kp := keepB ba2 kp
                  replace ko := keepB ba2 ko
                  go_wp2_with fail
                  refine (waits_v HY.out _ kp).mono ?_
                  rintro e wb2 ⟨rfl, bb2⟩
                  replace hfr := hfr.step bb2
                  replace kp := keepB bb2 kp
                  replace ko := keepB bb2 ko
                  go_wp2
                  go_roundw
                  case rel => exact ⟨k2 + 1, by omega, by omega, by go_num, hfr, kp, ko⟩
                  case measure => simp [intOf]; omega
              · have ek : k2 = 32 := by omega
                subst ek
                go_wp2
                go_roundw
                case rel => exact ⟨k + 1, s', by omega, by go_num, oks', HN'.out, hfr, kp, by first | exact ko | (rw [HWI.out]; exact ko)⟩
                case measure => simp [intOf]; omega
          · obtain ⟨m, rfl⟩ := Int.eq_ofNat_of_zero_le (by omega : 0 ≤ sz)
            have hm32 : m < 32 := by omega
            have hm0 : (0 : Int) ≤ m := by omega
            have hm33 : (m : Int) < 32 := by omega
            have HWI : Hid (s'.wi = upN s.wi m on) := by show _ = _; rw [hwi, Int.toNat_natCast]
            have cb := knownB ko hm32
            have hlo := lt_of_at ko
            have hfz : ∀ o, w4.frozen? ⟨bo, o, none⟩ = false := fun o => by simp [World.frozen?, ko]
            have ko2 := set_at ko m (.bool on)
            rw [B_set _ hm32] at ko2
            have kp2 := keep_setCell kp (p := ⟨bo, m, none⟩) (by simpa using Ne.symm hne) (.bool on)
            have hfr2 := hfr.setCell (p := ⟨bo, m, none⟩) hBo (.bool on)
            have HK := Lib.hid (And.intro hfr2 (And.intro kp2 ko2))
            clear hfr kp ko hfr2 kp2 ko2 hwi HC
            obtain ⟨wq, hwq⟩ : ∃ wq, wq = w4.setCell ⟨bo, m, none⟩ (.bool on) := ⟨_, rfl⟩
            go_wp2_with fail
            rw [← hwq]
            have hfr : Fr w.heap.size w wq := by rw [hwq]; exact HK.out.1
            have kp : wq.heap[bp]? = some (.cells (cellsP s') 60) := by rw [hwq]; exact HK.out.2.1
            have ko : wq.heap[bo]? = some (.cells (cellsB (upN s.wi m on)) 62) := by rw [hwq]; exact HK.out.2.2
            clear hwq HK cb hlo hfz y2 y3 kd4
            obtain ⟨X, hX⟩ : ∃ X, W32 (s').se = X := ⟨_, rfl⟩
            obtain ⟨Y, hY⟩ : ∃ Y, W32 (s').wa = Y := ⟨_, rfl⟩
            obtain ⟨Z, hZ⟩ : ∃ Z, (W32 fun i => (s').se i || (s').wa i) = Z := ⟨_, rfl⟩
            have hXY : bits BinOp.and IntKind.u64 (X : Int) (Y : Int) = 0 := by
              rw [← hX, ← hY, and64, W32_zero (fun i _ => by have := oks'.D i; revert this; cases (s').se i <;> cases (s').wa i <;> simp)]; rfl
            have hOr : bits BinOp.or IntKind.u64 (X : Int) (Y : Int) = (Z : Int) := by rw [← hX, ← hY, or64, hZ]
            have hLow : bits BinOp.and IntKind.u64 (Z : Int) 1 = 0 := by rw [← hZ, low64, oks'.se0, oks'.wa0]; rfl
            have HX := Lib.hid hX
            have HY := Lib.hid hY
            have HZ := Lib.hid hZ
            clear hX hY
            go_wp2_with fail
            refine (served_v HX.out _ kp).mono ?_
            rintro e wa ⟨rfl, ba⟩
            replace hfr := hfr.step ba
            replace kp := keepB ba kp
            replace ko := keepB ba ko
            go_wp2_with fail
            refine (waits_v HY.out _ kp).mono ?_
            rintro e wb ⟨rfl, bb⟩
            replace hfr := hfr.step bb
            replace kp := keepB bb kp
            replace ko := keepB bb ko
            go_wp2_with fail
            refine (served_v HX.out _ kp).mono ?_
            rintro e wc ⟨rfl, bc⟩
            replace hfr := hfr.step bc
            replace kp := keepB bc kp
            replace ko := keepB bc ko
            go_wp2_with fail
            refine (waits_v HY.out _ kp).mono ?_
            rintro e wd ⟨rfl, bd⟩
            replace hfr := hfr.step bd
            replace kp := keepB bd kp
            replace ko := keepB bd ko
            go_wp2
            go_loopw [12] (fun i2 wr2 => ∃ k2 : Nat, 1 ≤ k2 ∧ k2 ≤ 32 ∧ i2 = .int .i64 (k2 : Int) ∧ Fr w.heap.size w wr2 ∧ wr2.heap[bp]? = some (.cells (cellsP (s')) 60) ∧ wr2.heap[bo]? = some (.cells (cellsB ((upN s.wi m on))) 62)) (fun i2 _ => 32 - (intOf i2).toNat)
            case atStart => exact ⟨1, by omega, by omega, rfl, hfr, kp, ko⟩
            case round =>
              clear hfr kp ko
              obtain ⟨k2, hk21, hk22, rfl, hfr, kp, ko⟩ := hrel
              have hk23 : (k2 : Int) ≤ 32 := by omega
              have hk20 : (0 : Int) ≤ k2 := by omega
              by_cases hl2 : k2 < 32
              · have hl3 : (k2 : Int) < 32 := by omega
                have hmin : min k2 64 = k2 := by omega
                have hwk : IntKind.u64.wrap (k2 : Int) = (k2 : Int) := by rw [IntKind.wrap_u64]; omega
                have cb := knownB ko hl2
                cases hon : ((upN s.wi m on)) k2 with
                | false =>
                  rw [hon] at cb
                  go_wp2
                  go_roundw
                  case rel => exact ⟨k2 + 1, by omega, by omega, by go_num, hfr, kp, ko⟩
                  case measure => simp [intOf]; omega
                | true =>
                  rw [hon] at cb
                  have hbz : bits BinOp.and IntKind.u64 ((Z : Int) / 2 ^ k2) 1 = 1 := by
                    rw [← HZ.out, bit64 _ hl2]
                    have := oks'.J k2 (by first | exact hon | (rw [HWI.out]; exact hon))
                    revert this
                    cases (s').se k2 <;> cases (s').wa k2 <;> simp
                  go_wp2_with fail
                  refine (served_v HX.out _ kp).mono ?_
                  rintro e wa2 ⟨rfl, ba2⟩
                  replace hfr := hfr.step ba2
                  replace kp := keepB ba2 kp
                  replace ko := keepB ba2 ko
                  go_wp2_with fail
                  refine (waits_v HY.out _ kp).mono ?_
                  rintro e wb2 ⟨rfl, bb2⟩
                  replace hfr := hfr.step bb2
                  replace kp := keepB bb2 kp
                  replace ko := keepB bb2 ko
                  go_wp2
                  go_roundw
                  case rel => exact ⟨k2 + 1, by omega, by omega, by go_num, hfr, kp, ko⟩
                  case measure => simp [intOf]; omega
              · have ek : k2 = 32 := by omega
                subst ek
                go_wp2
                go_roundw
                case rel => exact ⟨k + 1, s', by omega, by go_num, oks', HN'.out, hfr, kp, by first | exact ko | (rw [HWI.out]; exact ko)⟩
                case measure => simp [intOf]; omega
    · have ek : k = len := by omega
      subst ek
      go_wp2_with fail
      refine (live16_any _).mono ?_
      rintro e w9 ⟨rfl, hb9⟩
      replace hfr := hfr.step hb9
      go_wp2
      go_ret
      exact ⟨rfl, hfr.1⟩
theorem serves_any (a : Option Addr) (len cap : Nat) (w : World) (hmax : len ≤ 9223372036854775807) (hd : Deeds w a len) :
    Calls Try.prog 6 #[.slice a len cap] w fun e w' => e = .returned (.bool true) ∧ Below w.heap.size w w' := by
  by_cases hl : len ≤ 100
  · exact serves_short a len cap w hl hd
  · exact serves_long a len cap w (by omega) hmax
end Go.Proofs.Ytgelpapjmlbgfaa

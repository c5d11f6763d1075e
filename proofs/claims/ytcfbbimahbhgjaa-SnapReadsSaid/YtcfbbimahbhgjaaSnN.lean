/- SnapReads: the walk. -/
import Derived.Test.YtcfbbimahbhgjaaSnM
namespace Go.Proofs.Ytcfbbimahbhgjaa
open Go.RowKit
set_option linter.unusedSimpArgs false
set_option linter.unusedVariables false

theorem numS_len (s : RS) : (numS s).2.1.length ≤ s.1.length := by
  unfold numS
  split
  · exact Nat.le_refl _
  · split
    · simp
    · exact Nat.le_refl _
theorem rawS_len (s : RS) (most : Int) : (rawS s most).1.length ≤ s.1.length := by
  have := numS_len s
  unfold rawS
  dsimp only
  repeat' split
  all_goals simp only [List.length_nil, List.length_take]
  all_goals omega
/-- Between two things. -/
def SJ (w0 : World) (rb xb : Nat) (wr : World) : Prop := ∃ a n cap a' cap' s, RD TR wr rb a n cap s ∧ RD TD wr xb a' n cap' s ∧ Fr w0.heap.size w0 wr
theorem SJ.mk {w0 wr : World} {rb xb n cap n' cap' : Nat} {a a' : Option Addr} {s : RS} (hR : RD TR wr rb a n cap s) (hX : RD TD wr xb a' n' cap' s) (hF : Fr w0.heap.size w0 wr) : SJ w0 rb xb wr := by
  obtain rfl : n = n' := hR.len.symm.trans hX.len
  exact ⟨a, n, cap, a', cap', s, hR, hX, hF⟩
set_option maxRecDepth 100000 in
set_option maxHeartbeats 16000000 in
theorem reads_any (b0 : Option Addr) (bn bcap0 : Nat) (L0 : List Nat) (a0 : Option Addr) (len cap0 : Nat) (w : World) (hB : BytesL w b0 bn bcap0 L0) (hl0 : len ≤ 9223372036854775807) (hD : Things w a0 len) :
    Calls Try.prog 4 #[.slice b0 bn bcap0, .slice a0 len cap0] w fun e w' => e = .returned (.bool true) ∧ Below w.heap.size w w' := by
  have HD := Lib.hid hD
  have HB := Lib.hid hB
  have hbn := hB.ll
  clear hD hB
  go_enter Try.func4, Try.ntmps4
  go_wp2_with fail
  refine (nilr_num _).mono ?_
  rintro e w1 ⟨rfl, hw⟩
  rw [hw]
  clear hw w1
  go_wp2_with fail
  refine (nilr_int _).mono ?_
  rintro e w1 ⟨rfl, hw⟩
  rw [hw]
  clear hw w1
  go_wp2_with fail
  refine (nilr_truth _).mono ?_
  rintro e w1 ⟨rfl, hw⟩
  rw [hw]
  clear hw w1
  go_wp2_with fail
  refine (nilr_raw _).mono ?_
  rintro e w1 ⟨rfl, hw⟩
  rw [hw]
  clear hw w1
  go_wp2_with fail
  refine (nilr_left _).mono ?_
  rintro e w1 ⟨rfl, hw⟩
  rw [hw]
  clear hw w1
  go_wp2_with fail
  refine (nilr_err _).mono ?_
  rintro e w1 ⟨rfl, hw⟩
  rw [hw]
  clear hw w1
  by_cases hbig : 1000 < bn ∨ 60 < len
  · have d1 : (decide ((1000 : Int) < bn) || decide ((60 : Int) < len)) = true := by simp; omega
    by_cases h1 : 1000 < bn
    · have d2 : decide ((1000 : Int) < bn) = true := by simp; omega
      go_wp2_with fail
      refine (live45_any _).mono ?_
      rintro e w2 ⟨rfl, hb⟩
      go_wp2_with fail
      go_ret
      exact ⟨rfl, hb⟩
    · have d2 : decide ((1000 : Int) < bn) = false := by simp; omega
      have d3 : decide ((60 : Int) < len) = true := by simp; omega
      go_wp2_with fail
      refine (live45_any _).mono ?_
      rintro e w2 ⟨rfl, hb⟩
      go_wp2_with fail
      go_ret
      exact ⟨rfl, hb⟩
  · have d2 : decide ((1000 : Int) < bn) = false := by simp; omega
    have d3 : decide ((60 : Int) < len) = false := by simp; omega
    have hbn1 : bn ≤ 1000 := by omega
    go_wp2_with fail
    refine (newreader_any b0 bn bcap0 L0 w HB.out.ln (by omega) HB.out.h8 HB.out.hb).mono ?_
    rintro e w1 ⟨rb, a, n, cap, rfl, hR, hrb, hbe⟩
    have HR := Lib.hid hR
    have hbl := HB.out.hb.keep ((Fr.refl w).step hbe).1
    have hbl1 := hbl.keep ((Below.refl _ w1).alloc (Nat.le_refl _) (.cells #[] 5))
    have F1 := (Fr.refl w).step hbe
    have HF1 := Lib.hid F1
    clear hR hbl hbe F1
    go_wp2_with (at_builtin; refine wpList_append_b _ rfl (.tmp 49) (.tmp 50) rfl rfl (OB.empty w1 (Nat.le_refl _) rfl) b0 bn bcap0 L0 rfl HB.out.ln hbl1 (by omega) (by simp) ?_; intro a2 cap2 w2 hO hg hat; rw [Nat.zero_add, List.nil_append] at hO; have hF := fr_grown hg; have HR2 := Lib.hid (HR.out.keep hF.1); have HF2 := Lib.hid (HF1.out.step hF.1); have HO := Lib.hid hO; have hsz := hF.1.size; clear hO hg hat hF)
    have X3 := RD.new (T := TD) HO.out (by omega) HB.out.h8
    have R3 := HR2.out.keep ((Fr.refl w2).alloc (.cells #[.slice a2 bn cap2, .int .i64 0] TD)).1
    have F3 := HF2.out.alloc (.cells #[.slice a2 bn cap2, .int .i64 0] TD)
    have hne : rb ≠ w2.heap.size := by have := HR.out.lt; omega
    have hbx : Hid (w.heap.size ≤ w2.heap.size) := HF2.out.2
    have hbr := Lib.hid hrb
    obtain ⟨w3, hw3⟩ : ∃ w3, w2.alloc (.cells #[.slice a2 bn cap2, .int .i64 0] TD) = w3 := ⟨_, rfl⟩
    rw [hw3] at X3 R3 F3 ⊢
    have J0 := Lib.hid (SJ.mk R3 X3 F3)
    clear X3 R3 F3 HF2 HO HR2 HR HF1 hbl1 hw3 hsz hrb d2 d3
    obtain ⟨xb, hxb⟩ : ∃ xb, w2.heap.size = xb := ⟨_, rfl⟩
    rw [hxb] at J0 hne hbx ⊢
    clear hxb
    go_loopw [8] (fun i wr => ∃ k : Nat, k ≤ len ∧ i = .int .i64 (k : Int) ∧ SJ w rb xb wr) (fun i _ => len - (intOf i).toNat)
    case atStart => exact ⟨0, by omega, rfl, J0.out⟩
    case round =>
      clear J0
      obtain ⟨k, hk, rfl, a, n, cap, a', cap', s, hR, hX, hF⟩ := hrel
      by_cases hlt : k < len
      · obtain ⟨ad, kd, N, I, q, ba, bl, bcap, M, L, rfl, had, hd, hb9, hL⟩ := HD.out k hlt
        have hk0 : (0 : Int) ≤ k := by omega
        have hki : (k : Int) < len := by omega
        have HDD := Lib.hid hd
        have HB9 := Lib.hid hb9
        have hdk := hd.keep hF.1 had
        have t0 := hdk.c0
        clear hd hb9 hdk hL
        by_cases h0 : kd = 0
        · subst h0
          go_wp2_with fail
          refine (rnumP_any rb n cap a s _ hR).mono ?_
          rintro e w5 ⟨rfl, ⟨a5, n5, cap5, R5⟩, W5⟩
          have X5 := hX.wrote2 W5 (Ne.symm hne) hR
          have F5 := W5.1 _ _ hbr.out hF
          clear hR hX hF W5
          go_wp2_with fail
          refine (dnum_any xb n cap' a' s _ X5).mono ?_
          rintro e w6 ⟨rfl, ⟨a6, n6, cap6, X6⟩, W6⟩
          have R6 := R5.wrote2 W6 hne X5
          have F6 := W6.1 _ _ hbx.out F5
          clear X5 F5 W6 R5
          obtain ⟨s', hs'⟩ : ∃ s', (numS s).2 = s' := ⟨_, rfl⟩
          rw [hs'] at R6 X6
          have J6 := Lib.hid (SJ.mk R6 X6 F6)
          clear R6 X6 F6 hs' t0
          go_wp2_with fail
          obtain ⟨a7, n7, cap7, a8, cap8, s7, R7, X7, F7⟩ := J6.out
          obtain ⟨x0, x1, -⟩ := X7.cells
          have E := Lib.hid (fun m => (⟨a7, n7, cap7, a8, cap8, s7, R7.keep ((Fr.refl w6).drewN m).1, X7.keep ((Fr.refl w6).drewN m).1, F7.drewN m⟩ : SJ w rb xb (w6.drewN m)))
          clear J6 X7 F7
          go_quiet ((first
            | (go_at_call 23; exact Calls.quiet_of_same (left_any rb n7 cap7 a7 s7 _ (R7.keep ((Fr.refl w6).drewN _).1)))
            | (go_at_call 24; exact Calls.quiet_of_same (err_any rb n7 cap7 a7 s7 _ (R7.keep ((Fr.refl w6).drewN _).1)))))
          have E2 := Lib.hid (E.out nq)
          clear E R7 x0 x1
          go_wp2
          exact ⟨⟨k + 1, by omega, by go_num, E2.out⟩, by simp [intOf]; omega⟩
        · by_cases h1 : kd = 1
          · subst h1
            go_wp2_with fail
            refine (rintP_any rb n cap a s _ hR).mono ?_
            rintro e w5 ⟨rfl, ⟨a5, n5, cap5, R5⟩, W5⟩
            have X5 := hX.wrote2 W5 (Ne.symm hne) hR
            have F5 := W5.1 _ _ hbr.out hF
            clear hR hX hF W5
            go_wp2_with fail
            refine (dint_any xb n cap' a' s _ X5).mono ?_
            rintro e w6 ⟨rfl, ⟨a6, n6, cap6, X6⟩, W6⟩
            have R6 := R5.wrote2 W6 hne X5
            have F6 := W6.1 _ _ hbx.out F5
            clear X5 F5 W6 R5
            obtain ⟨s', hs'⟩ : ∃ s', (numS s).2 = s' := ⟨_, rfl⟩
            rw [hs'] at R6 X6
            have J6 := Lib.hid (SJ.mk R6 X6 F6)
            clear R6 X6 F6 hs' t0
            go_wp2_with fail
            obtain ⟨a7, n7, cap7, a8, cap8, s7, R7, X7, F7⟩ := J6.out
            obtain ⟨x0, x1, -⟩ := X7.cells
            have E := Lib.hid (fun m => (⟨a7, n7, cap7, a8, cap8, s7, R7.keep ((Fr.refl w6).drewN m).1, X7.keep ((Fr.refl w6).drewN m).1, F7.drewN m⟩ : SJ w rb xb (w6.drewN m)))
            clear J6 X7 F7
            go_quiet ((first
              | (go_at_call 23; exact Calls.quiet_of_same (left_any rb n7 cap7 a7 s7 _ (R7.keep ((Fr.refl w6).drewN _).1)))
              | (go_at_call 24; exact Calls.quiet_of_same (err_any rb n7 cap7 a7 s7 _ (R7.keep ((Fr.refl w6).drewN _).1)))))
            have E2 := Lib.hid (E.out nq)
            clear E R7 x0 x1
            go_wp2
            exact ⟨⟨k + 1, by omega, by go_num, E2.out⟩, by simp [intOf]; omega⟩
          · by_cases h2 : kd = 2
            · subst h2
              go_wp2_with fail
              refine (rtruthP_any rb n cap a s _ hR).mono ?_
              rintro e w5 ⟨rfl, ⟨a5, n5, cap5, R5⟩, W5⟩
              have X5 := hX.wrote2 W5 (Ne.symm hne) hR
              have F5 := W5.1 _ _ hbr.out hF
              clear hR hX hF W5
              go_wp2_with fail
              refine (dtruth_any xb n cap' a' s _ X5).mono ?_
              rintro e w6 ⟨rfl, ⟨a6, n6, cap6, X6⟩, W6⟩
              have R6 := R5.wrote2 W6 hne X5
              have F6 := W6.1 _ _ hbx.out F5
              clear X5 F5 W6 R5
              obtain ⟨s', hs'⟩ : ∃ s', (truthS s).2 = s' := ⟨_, rfl⟩
              rw [hs'] at R6 X6
              have J6 := Lib.hid (SJ.mk R6 X6 F6)
              clear R6 X6 F6 hs' t0
              go_wp2_with fail
              obtain ⟨a7, n7, cap7, a8, cap8, s7, R7, X7, F7⟩ := J6.out
              obtain ⟨x0, x1, -⟩ := X7.cells
              have E := Lib.hid (fun m => (⟨a7, n7, cap7, a8, cap8, s7, R7.keep ((Fr.refl w6).drewN m).1, X7.keep ((Fr.refl w6).drewN m).1, F7.drewN m⟩ : SJ w rb xb (w6.drewN m)))
              clear J6 X7 F7
              go_quiet ((first
                | (go_at_call 23; exact Calls.quiet_of_same (left_any rb n7 cap7 a7 s7 _ (R7.keep ((Fr.refl w6).drewN _).1)))
                | (go_at_call 24; exact Calls.quiet_of_same (err_any rb n7 cap7 a7 s7 _ (R7.keep ((Fr.refl w6).drewN _).1)))))
              have E2 := Lib.hid (E.out nq)
              clear E R7 x0 x1
              go_wp2
              exact ⟨⟨k + 1, by omega, by go_num, E2.out⟩, by simp [intOf]; omega⟩
            · -- other kinds
              have e0 : (kd == 0) = false := by simpa using h0
              have e1 : (kd == 1) = false := by simpa using h1
              have e2 : (kd == 2) = false := by simpa using h2
              go_wp2_with fail
              have hRd := hR.keep (Fr.refl wr).drew.1
              have hXd := hX.keep (Fr.refl wr).drew.1
              have hFd := hF.drew
              obtain ⟨l', s', hs'⟩ : ∃ l' s', rawS s M = (l', s') := ⟨_, _, rfl⟩
              have hb0 := HB9.out.2.2.2.1
              have hb1 := HB9.out.2.2.2.2
              have Rr := rrawP_any rb n cap M a s wr.drew hb0 hb1 hRd
              have Xx := draw_any xb n cap' M a' s wr.drew hb0 hb1 hXd
              have hxl := hXd.lt
              have hrl := hRd.lt
              have KS : ∀ w' : World, Fr w.heap.size w w' → Fr w.heap.size w w' ∧ w'.cell? ⟨(ad.add (k * 6)).block, (ad.add (k * 6)).off + 5, none⟩ = some (.int .i64 M) := fun w' h => ⟨h, (HDD.out.keep h.1 had).c5⟩
              rw [hs'] at Rr Xx
              have HS' := Lib.hid hs'
              have hl9 : l'.length ≤ 1000000000 := by have := rawS_len s M; rw [hs'] at this; exact Nat.le_trans this (by rw [hRd.len]; exact hRd.hn)
              clear hs' hR hX hF t0
              go_region_held3 (fun w' => Fr w.heap.size w w' ∧ w'.cell? ⟨(ad.add (k * 6)).block, (ad.add (k * 6)).off + 5, none⟩ = some (.int .i64 M))
                (first | exact KS _ ‹_›)
                (first
                  | (go_at_call 22; refine Calls.mono Rr ?_; rintro e w' ⟨a1, n1, c1, rfl, O1, ⟨a3, n3, c3, R1⟩, WR⟩; have X1 := hXd.wrote2 WR (Ne.symm hne) hRd; have FE := WR.1 _ _ hbr.out hFd)
                  | (go_at_call 29; refine Calls.mono Xx ?_; rintro e w' ⟨a2, n2, c2, rfl, O2, ⟨a4, n4, c4, X2⟩, WX⟩; have R2 := hRd.wrote2 WX hne hXd; have FE := WX.1 _ _ hbx.out hFd)
                  | (go_at_call 29; refine (draw_any xb n cap' M a' s _ hb0 hb1 X1).mono ?_; rw [HS'.out]; rintro e w'' ⟨a2, n2, c2, rfl, O2, ⟨a4, n4, c4, X2⟩, WX⟩; have R2 := R1.wrote2 WX hne X1; have FE := WX.1 _ _ hbx.out FE; have O1 := O1.wrote WX hxl)
                  | (go_at_call 22; refine (rrawP_any rb n cap M a s _ hb0 hb1 R2).mono ?_; rw [HS'.out]; rintro e w'' ⟨a1, n1, c1, rfl, O1, ⟨a3, n3, c3, R1⟩, WR⟩; have X1 := X2.wrote2 WR (Ne.symm hne) R2; have FE := WR.1 _ _ hbr.out FE; have O2 := O2.wrote WR hrl)
                  | (go_at_call 16; refine (bytes17_v _ O1.1 O2.1 (by rw [← O1.1]; exact hl9) O1.bl O2.bl).mono ?_; rintro e w3 ⟨rfl, hb⟩; have FE := FE.step hb; have J6 := Lib.hid (SJ.mk (R2.keep hb) (X2.keep hb) FE)))
              rename_i w3 _
              clear R1 X1 O1 O2 R2 X2 hRd hXd hFd
              go_wp2_with fail
              obtain ⟨a7, n7, cap7, a8, cap8, s7, R7, X7, F7⟩ := J6.out
              obtain ⟨x0, x1, -⟩ := X7.cells
              have E := Lib.hid (fun m => (⟨a7, n7, cap7, a8, cap8, s7, R7.keep ((Fr.refl w3).drewN m).1, X7.keep ((Fr.refl w3).drewN m).1, F7.drewN m⟩ : SJ w rb xb (w3.drewN m)))
              clear J6 X7 F7
              go_quiet ((first
                | (go_at_call 23; exact Calls.quiet_of_same (left_any rb n7 cap7 a7 s7 _ (R7.keep ((Fr.refl w3).drewN _).1)))
                | (go_at_call 24; exact Calls.quiet_of_same (err_any rb n7 cap7 a7 s7 _ (R7.keep ((Fr.refl w3).drewN _).1)))))
              have E2 := Lib.hid (E.out nq)
              clear E R7 x0 x1
              go_wp2
              exact ⟨⟨k + 1, by omega, by go_num, E2.out⟩, by simp [intOf]; omega⟩
      · have e : k = len := by omega
        subst e
        have hdl : ¬ ((k : Int) < k) := by omega
        clear hR hX
        go_wp2_with fail
        refine (live45_any _).mono ?_
        rintro e w3 ⟨rfl, hb⟩
        have E := Lib.hid (hF.step hb)
        clear hb
        go_wp2_with fail
        go_ret
        exact ⟨rfl, E.out.1⟩
end Go.Proofs.Ytcfbbimahbhgjaa

/- SnapSpoils: the walk. -/
import Derived.Test.YtcfbbimahbhgjaaSnZ
import Derived.Test.YtcfbbimahbhgjaaSnU
namespace Go.Proofs.Ytcfbbimahbhgjaa
open Go.RowKit
set_option linter.unusedSimpArgs false
set_option linter.unusedVariables false

theorem info_sl : (Try.prog.info? 29).map (fun i => (i.zero, i.size, i.bytes)) = some (some (.slice none 0 0), 1, 24) := by kernel_rfl
/-- A store into a slice of the call's own. -/
theorem OB.store {w : World} {base n cap : Nat} {a : Option Addr} {l : List Nat} (h : OB w base a n cap l) {k : Nat} (hk : k < n) : ∃ g y, a = some ⟨g, 0, none⟩ ∧ base ≤ g ∧ l[k]? = some y ∧ w.cell? ⟨g, k, none⟩ = some (.int .u8 (y : Int)) ∧ w.frozen? ⟨g, k, none⟩ = false ∧
    ∀ c : Nat, OB (w.setCell ⟨g, k, none⟩ (.int .u8 (c : Int))) base a n cap (l.set k c) := by
  obtain ⟨hl, ⟨_, h0, _⟩ | ⟨g, cur, fz, rfl, hb, hg, hfz, hnc, hcm, hcs, ht⟩⟩ := h
  · omega
  · have hy : l[k]? = some l[k] := List.getElem?_eq_getElem (by omega)
    have hbc : (bc l)[k]? = some (.int .u8 ((l[k] : Nat) : Int)) := by unfold bc; rw [List.getElem?_map, hy]; rfl
    refine ⟨g, _, rfl, hb, hy, by rw [cell_at hg]; exact own_get ht hbc, ?_, fun c => ?_⟩
    · simp only [World.frozen?, hg, Bool.and_eq_false_iff, decide_eq_false_iff_not]
      omega
    · refine ⟨by rw [List.length_set]; exact hl, .inr ⟨g, cur.setIfInBounds k (.int .u8 (c : Int)), fz, rfl, hb, ?_, hfz, hnc, hcm, by simp [hcs], ?_⟩⟩
      · rw [setCell_eq_setRow w g k cur _ fz _ hg]
        exact setRow_heap w g cur _ _ _ hg
      · rw [Array.toList_setIfInBounds, List.take_set, ht]
        unfold bc
        rw [← List.map_set]
theorem Fr.trans2 {B : Nat} {w0 w w' : World} (h : Fr B w0 w) (k : Fr w.heap.size w w') : Fr B w0 w' := h.step k.1
/-- The snaps that are tried. -/
def Both (w : World) (g bn : Nat) : Prop := ∀ i, i < bn → ∃ a n cap l, w.cell? ⟨g, i, none⟩ = some (.slice a n cap) ∧ n = l.length + 4 ∧ n ≤ 300000000 ∧ (∀ x ∈ l, x < 256) ∧ BL w a (l ++ sb (sumL l))
theorem Both.keep {w w' : World} {g bn : Nat} (h : Both w g bn) (hb : Below w.heap.size w w') (hg : g < w.heap.size) : Both w' g bn := fun i hi => by
  obtain ⟨a, n, cap, l, hc, hn, hn2, h8, hB⟩ := h i hi
  exact ⟨a, n, cap, l, (hb.cell (p := ⟨g, i, none⟩) hg).trans hc, hn, hn2, h8, hB.keep hb⟩
set_option maxRecDepth 100000 in
set_option maxHeartbeats 4000000 in
theorem spoils_any (h c l t g0 g1 g2 g3 g4 g5 g6 g7 : Int) (pa la ea : Option Addr) (pn pc ln lc en ec : Nat) (at_ : Int) (cc : Nat) (pl : Nat → Nat) (w : World) (hh : I64 h) (hl : I64 l) (hpn : pn ≤ 9223372036854775807) (hln : ln ≤ 9223372036854775807) (hen : en ≤ 9223372036854775807) (hcc : cc < 256) (hat : at_ ≤ 9223372036854775807) (hP : Parts w w.heap.size pa pn pl) (hL : LinesA w w.heap.size la ln) (hE : Events w w.heap.size ea en) :
    Calls Try.prog 5 #[.agg #[.int .i64 h, .int .i64 c, .int .i64 l, .int .i64 t, .int .i64 g0, .int .i64 g1, .int .i64 g2, .int .i64 g3, .int .i64 g4, .int .i64 g5, .int .i64 g6, .int .i64 g7, .slice pa pn pc, .slice la ln lc], .slice ea en ec, .int .i64 at_, .int .u8 (cc : Int)] w fun e w' => e = .returned (.bool true) ∧ Below w.heap.size w w' := by
  obtain ⟨B, hB⟩ : ∃ B, w.heap.size = B := ⟨_, rfl⟩
  have S1 : BoxS w B (.cells #[.int .i64 h, .int .i64 c, .int .i64 l, .int .i64 t, .int .i64 g0, .int .i64 g1, .int .i64 g2, .int .i64 g3, .int .i64 g4, .int .i64 g5, .int .i64 g6, .int .i64 g7, .slice pa pn pc, .slice la ln lc] 61) (w.alloc (.cells #[.int .i64 h, .int .i64 c, .int .i64 l, .int .i64 t, .int .i64 g0, .int .i64 g1, .int .i64 g2, .int .i64 g3, .int .i64 g4, .int .i64 g5, .int .i64 g6, .int .i64 g7, .slice pa pn pc, .slice la ln lc] 61)) := ⟨by rw [← hB]; exact heap_alloc_new w _, (Fr.refl w).alloc _⟩
  have HHh := Lib.hid hh
  have HHl := Lib.hid hl
  obtain ⟨w1, hw1⟩ : ∃ w1, w.alloc (.cells #[.int .i64 h, .int .i64 c, .int .i64 l, .int .i64 t, .int .i64 g0, .int .i64 g1, .int .i64 g2, .int .i64 g3, .int .i64 g4, .int .i64 g5, .int .i64 g6, .int .i64 g7, .slice pa pn pc, .slice la ln lc] 61) = w1 := ⟨_, rfl⟩
  rw [hw1] at S1
  have HP := Lib.hid ((hP.keep S1.2).base S1.2.2)
  have HL := Lib.hid ((hL.keep S1.2).base S1.2.2)
  have HE := Lib.hid (hE.keep S1.2.1 (Nat.le_refl _) S1.2.2)
  clear hP hL hh hl hE
  obtain ⟨s0, s1, s2, s3, s4, s5, s6, s7, s8, s9, s10, s11, s12, s13⟩ := fourteen S1.1
  go_enter Try.func5, Try.ntmps5
  go_wp2_with fail
  refine (few_any h c l t g0 g1 g2 g3 g4 g5 g6 g7 pa la pn pc ln lc pl _ (by omega) (by omega) HP.out).mono ?_
  rintro e w2 ⟨⟨q, rfl, hq⟩, hb⟩
  have S2 := S1.step hb
  have F2 : Fr w1.heap.size w1 w2 := (Fr.refl w1).step hb
  clear s0 s1 s2 s3 s4 s5 s6 s7 s8 s9 s10 s11 s12 s13
  clear hb hw1
  have HQ := Lib.hid hq
  clear hq
  cases q
  · go_wp2_with fail
    refine (live45_any _).mono ?_
    rintro e w3 ⟨rfl, hb⟩
    have E := Lib.hid (S2.step hb).2.1
    clear hb S1 S2 F2
    go_wp2_with fail
    go_ret
    exact ⟨rfl, E.out⟩
  · obtain ⟨hpn3, hln2, hpl⟩ := HQ.out rfl
    by_cases hbig : 60 < en
    · have d1 : decide ((60 : Int) < en) = true := by simp; omega
      clear S1 F2
      go_wp2_with fail
      refine (live45_any _).mono ?_
      rintro e w3 ⟨rfl, hb⟩
      have E := Lib.hid (S2.step hb).2.1
      clear hb S2
      go_wp2_with fail
      go_ret
      exact ⟨rfl, E.out⟩
    · have d1 : decide ((60 : Int) < en) = false := by simp; omega
      have HPL := Lib.hid hpl
      have HS1 := Lib.hid S1
      have hlog := log_any w2 (a0 := ea) (len := en) (cap := ec) (by omega) (HE.out.keep F2.1 (Nat.le_refl _) F2.2)
      clear hpl S1
      go_wp2_with fail
      refine hlog.mono ?_
      rintro e w3 ⟨a, n, cap, ll, rfl, hO, hll, h8, hb⟩
      have S3 := S2.step hb
      have F3 := F2.step hb
      have hn := hO.1
      clear hlog hb S2 F2
      -- the slice of snaps
      obtain ⟨g, hg⟩ : ∃ g, w3.heap.size = g := ⟨_, rfl⟩
      have hS3 := S3.alloc (.cells #[.slice a n cap] 29)
      have F4 := F3.alloc (.cells #[.slice a n cap] 29)
      have kg := heap_alloc_new w3 (.cells #[.slice a n cap] 29)
      rw [hg] at kg
      have O4 := hO.keep ((Below.refl _ w3).alloc (Nat.le_refl _) (.cells #[.slice a n cap] 29))
      have hob : ∀ g', ob a = some g' → g' < g := fun g' e => by have := (hO.lt e).2; omega
      have hgs : g < (w3.alloc (.cells #[.slice a n cap] 29)).heap.size := lt_of_at kg
      obtain ⟨s0, s1, s2, s3, s4, s5, s6, s7, s8, s9, s10, s11, s12, s13⟩ := fourteen hS3.1
      have hsc := script_any h c l t g0 g1 g2 g3 g4 g5 g6 g7 pa la pn pc ln lc pl (w3.alloc (.cells #[.slice a n cap] 29)) HHh.out HHl.out hpn3 hln2 HPL.out ((HP.out.keep F4).base F4.2) ((HL.out.keep F4).base F4.2)
      have HLL := Lib.hid hll
      have H8 := Lib.hid h8
      have HHn := Lib.hid hn
      have F3x := F3
      clear hS3 F3 S3 hO hll h8 hn
      obtain ⟨w4, hw4⟩ : ∃ w4, w3.alloc (.cells #[.slice a n cap] 29) = w4 := ⟨_, rfl⟩
      rw [hw4] at F4 kg O4 hgs hsc s0 s1 s2 s3 s4 s5 s6 s7 s8 s9 s10 s11 s12 s13
      go_wp2_with fail
      refine hsc.mono ?_
      clear s0 s1 s2 s3 s4 s5 s6 s7 s8 s9 s10 s11 s12 s13
      rintro e w5 (⟨x, hx, rfl, hb⟩ | ⟨a2, n2, cap2, l2, rfl, O2, hl2, h82, hb⟩)
      · have hx2 : (x == 0) = false := by simpa using hx
        have FW : Hid (Fr w.heap.size w w5) := (HS1.out.2.trans2 F4).step hb
        have HBo : Hid (Both w5 g 1) := fun i hi => by
          obtain rfl : i = 0 := by omega
          exact ⟨a, n, cap, ll, by rw [cell_at (keepB hb kg)]; rfl, by rw [← HHn.out, List.length_append]; rfl, by have := HHn.out; rw [List.length_append] at this; have h4 : (sb (sumL ll)).length = 4 := rfl; have := HLL.out; omega, H8.out, (O4.keep hb).bl⟩
        clear hsc hb O4 kg F4 hgs hob hw4 hx HLL H8 HHn hg
        go_wp2_with fail
        have hg9 := lt_of_cell (show w5.cell? ⟨g, 0, none⟩ = _ from (HBo.out 0 (by omega)).choose_spec.choose_spec.choose_spec.choose_spec.1)
        go_loopw [12] (fun u wr => ∃ j : Nat, j ≤ 1 ∧ u = .int .i64 (j : Int) ∧ Fr w5.heap.size w5 wr) (fun u _ => 1 - (intOf u).toNat)
        case atStart => exact ⟨0, by omega, rfl, Fr.refl _⟩
        case round =>
          obtain ⟨j, hj, rfl, hF⟩ := hrel
          have hj0 : (0 : Int) ≤ j := by omega
          by_cases hlt : j < 1
          · have hji : (j : Int) < 1 := by omega
            obtain ⟨a, n, cap, ll, hc, hn, hn2, h8, hBL⟩ := (HBo.out.keep hF.1 hg9) j hlt
            have hlen : (ll ++ sb (sumL ll)).length = n := by rw [List.length_append, hn]; rfl
            have hbl1 := hBL.keep ((Below.refl _ wr).alloc (Nat.le_refl _) (.cells #[] 5))
            have HF := Lib.hid hF
            have HN := Lib.hid hn
            have H8 := Lib.hid h8
            have HLEN := Lib.hid hlen
            clear hF hn hBL h8
            have hc2 : (wr.alloc (.cells #[] 5)).cell? ⟨g, j, none⟩ = some (.slice a n cap) := (((Below.refl _ wr).alloc (Nat.le_refl _) (.cells #[] 5)).cell (p := ⟨g, j, none⟩) (lt_of_cell hc)).trans hc
            clear hc
            by_cases hneg : at_ < 0
            · have d5 : decide (at_ < 0) = true := by simpa using hneg
              go_wp2_with (at_builtin; refine wpList_append_b _ rfl (.tmp 47) (.tmp 51) rfl rfl (OB.empty wr (Nat.le_refl _) rfl) a n cap (ll ++ sb (sumL ll)) rfl hlen hbl1 (by omega) (by simp) ?_; intro ab capb wb hO hg2 hat2; rw [Nat.zero_add, List.nil_append] at hO; have hF2 := fr_grown hg2; have HF2 := Lib.hid (HF.out.step hF2.1); have HO := Lib.hid hO; clear hO hg2 hat2 hF2)
              exact ⟨⟨j + 1, by omega, by go_num, HF2.out⟩, by simp [intOf]; omega⟩
            · have d5 : decide (at_ < 0) = false := by simpa using hneg
              obtain ⟨k, rfl⟩ : ∃ k : Nat, at_ = k := ⟨at_.toNat, by omega⟩
              by_cases hge : n ≤ k
              · have d6 : decide ((n : Int) ≤ (k : Int)) = true := by simp; omega
                go_wp2_with (at_builtin; refine wpList_append_b _ rfl (.tmp 47) (.tmp 51) rfl rfl (OB.empty wr (Nat.le_refl _) rfl) a n cap (ll ++ sb (sumL ll)) rfl hlen hbl1 (by omega) (by simp) ?_; intro ab capb wb hO hg2 hat2; rw [Nat.zero_add, List.nil_append] at hO; have hF2 := fr_grown hg2; have HF2 := Lib.hid (HF.out.step hF2.1); have HO := Lib.hid hO; clear hO hg2 hat2 hF2)
                exact ⟨⟨j + 1, by omega, by go_num, HF2.out⟩, by simp [intOf]; omega⟩
              · have d6 : decide ((n : Int) ≤ (k : Int)) = false := by simp; omega
                have hkn : (k : Int) < n := by omega
                have hk0 : (0 : Int) ≤ k := by omega
                have hkn2 : k < n := by omega
                go_wp2_with (at_builtin; refine wpList_append_b _ rfl (.tmp 47) (.tmp 51) rfl rfl (OB.empty wr (Nat.le_refl _) rfl) a n cap (ll ++ sb (sumL ll)) rfl hlen hbl1 (by omega) (by simp) ?_; intro ab capb wb hO hg2 hat2; rw [Nat.zero_add, List.nil_append] at hO; have hF2 := fr_grown hg2; have HF2 := Lib.hid (HF.out.step hF2.1); have HO := Lib.hid hO; clear hO hg2 hat2 hF2; obtain ⟨gb, y, rfl, hbg, hy, hcell, hfz, hst⟩ := HO.out.store hkn2; have HST := Lib.hid hst; clear hst)
                · exact ⟨⟨j + 1, by omega, by go_num, HF2.out⟩, by simp [intOf]; omega⟩
                · have hq9 := ‹((y : Int) == (cc : Int)) = false›
                  have hyc : ¬ (y = cc) := by intro e; subst e; simp at hq9
                  have O5 := HST.out cc
                  have hbg2 : w5.heap.size ≤ gb := Nat.le_trans HF.out.2 hbg
                  have F5 := Lib.hid (HF2.out.setCell (p := ⟨gb, k, none⟩) hbg2 (.int .u8 (cc : Int)))
                  have hSp := spoil ll k cc H8.out (by rw [HLEN.out]; omega) hcc (by rw [hy]; intro e; cases e; exact hyc rfl)
                  have hnc : n ≤ capb := by
                    rcases O5.cases with ⟨e, _⟩ | ⟨_, _, _, _, h⟩
                    · cases e
                    · exact h
                  have HB5 := Lib.hid O5.bl
                  have HSp := Lib.hid hSp
                  have hrs := readscript_bad (some ⟨gb, 0, none⟩) n capb ll.length _ (wb.setCell ⟨gb, k, none⟩ (.int .u8 (cc : Int))) HN.out hnc (by omega) HB5.out hSp
                  obtain ⟨wS, hwS⟩ : ∃ wS, wb.setCell ⟨gb, k, none⟩ (.int .u8 (cc : Int)) = wS := ⟨_, rfl⟩
                  rw [hwS] at F5 HB5 hrs ⊢
                  clear O5 hSp hy hwS hcell hfz
                  refine hrs.mono ?_
                  rintro e w8 ⟨⟨x8, rfl, hx8⟩, hb8⟩
                  have F8 := F5.out.step hb8
                  have B8 := HB5.out.keep hb8
                  clear hrs
                  have hx82 : (x8 == 0) = false := by simpa using hx8
                  have F9 := F8.alloc (.cells #[.int .i64 0, .int .i64 0, .int .i64 0, .int .i64 0, .int .i64 0, .int .i64 0, .int .i64 0, .int .i64 0, .int .i64 0, .int .i64 0, .int .i64 0, .int .i64 0, .slice none 0 0, .slice none 0 0] 61)
                  have B9 := B8.keep ((Below.refl _ w8).alloc (Nat.le_refl _) (.cells #[.int .i64 0, .int .i64 0, .int .i64 0, .int .i64 0, .int .i64 0, .int .i64 0, .int .i64 0, .int .i64 0, .int .i64 0, .int .i64 0, .int .i64 0, .int .i64 0, .slice none 0 0, .slice none 0 0] 61))
                  have hrl := readlog_bad (some ⟨gb, 0, none⟩) n capb ll.length _ (w8.alloc (.cells #[.int .i64 0, .int .i64 0, .int .i64 0, .int .i64 0, .int .i64 0, .int .i64 0, .int .i64 0, .int .i64 0, .int .i64 0, .int .i64 0, .int .i64 0, .int .i64 0, .slice none 0 0, .slice none 0 0] 61)) HN.out hnc (by omega) B9 HSp.out
                  have HF9 := Lib.hid F9
                  clear B8 B9 F8 F9 hb8
                  go_wp2_with fail
                  refine hrl.mono ?_
                  rintro e w9 ⟨⟨x9, rfl, hx9⟩, hw⟩
                  rw [hw]
                  have hx92 : (x9 == 0) = false := by simpa using hx9
                  clear hrl hw w9
                  go_wp2
                  exact ⟨⟨j + 1, by omega, by go_num, HF9.out⟩, by simp [intOf]; omega⟩
          · have e : j = 1 := by omega
            subst e
            have hdl : ¬ (((1 : Nat) : Int) < 1) := by omega
            go_wp2_with fail
            refine (live45_any _).mono ?_
            rintro e w9 ⟨rfl, hb⟩
            have E := Lib.hid ((FW.out.trans2 hF).step hb).1
            clear hb hF
            go_wp2_with fail
            go_ret
            exact ⟨rfl, E.out⟩
      · have FW4 := Lib.hid ((HS1.out.2.trans2 F4).step hb)
        have O4b := O4.keep hb
        have kgb := keepB hb kg
        have hO2n := O2.1
        have k2 := heap_alloc_new w5 (.cells #[.slice a2 n2 cap2] 29)
        have kg2 := keep_alloc kgb (.cells #[.slice a2 n2 cap2] 29)
        have O2c := O2.keep ((Below.refl _ w5).alloc (Nat.le_refl _) (.cells #[.slice a2 n2 cap2] 29))
        have O4c := O4b.keep ((Below.refl _ w5).alloc (Nat.le_refl _) (.cells #[.slice a2 n2 cap2] 29))
        have FW6 := Lib.hid (FW4.out.alloc (.cells #[.slice a2 n2 cap2] 29))
        have hgw : w.heap.size ≤ g := by have := (HS1.out.2.trans2 F3x).2; omega
        have hown : (w5.alloc (.cells #[.slice a2 n2 cap2] 29)).ownsRow 0 29 1 (.slice (some ⟨g, 0, none⟩) 1 1) 1 [.slice a n cap] := ⟨by simp, .inr ⟨g, 1, #[.slice a n cap], rfl, Nat.zero_le _, kg2, Nat.le_refl _, by decide, rfl, rfl⟩⟩
        have hob2 : ∀ g', ob a2 = some g' → g < g' := fun g' e => by have := (O2.lt e).1; omega
        have hnews : ∀ (j : Nat) u, ([.slice a2 n2 cap2] : List Value)[j]? = some u → (w5.alloc (.cells #[.slice a2 n2 cap2] 29)).cell? ((⟨w5.heap.size, 0, none⟩ : Addr).add j) = some u := fun j u hu => by
          rw [add0, cell_at k2]; simpa using hu
        obtain ⟨inf, hinf, hz0, hz1, hz2⟩ := info_parts info_sl
        have HL2 := Lib.hid hl2
        have H82 := Lib.hid h82
        have HN2 := Lib.hid hO2n
        clear hsc hb O4 kg F4 hw4 O2 O4b kgb k2 kg2 FW4 hg hl2 h82 hO2n
        go_wp2_with (at_builtin; refine wpList_append_own _ rfl (.tmp 37) (.tmp 39) 65 rfl 0 29 inf (.slice none 0 0) 1 24 Try.underlying65 hinf hz0 hz1 hz2 rfl (by decide) (.slice (some ⟨g, 0, none⟩) 1 1) 1 [.slice a n cap] rfl hown ⟨w5.heap.size, 0, none⟩ 1 1 [.slice a2 n2 cap2] rfl rfl hnews (by intro u hu; simp only [List.mem_singleton] at hu; subst hu; rfl) (by decide) (by decide) (Nat.zero_le _) ?_; intro v7 w7 hown7 hg7 hnil7; obtain ⟨_, ⟨_, h0⟩ | ⟨g2, capg, cur, rfl, _, hgg, _, _, hcs, hct⟩⟩ := hown7; · (exfalso; omega))
        have FW : Hid (Fr w.heap.size w w7) := by
          have h := FW6.out
          refine ⟨⟨hg7.os.trans h.1.os, hg7.tape.trans h.1.tape, hg7.output.trans h.1.output, Nat.le_trans h.1.size hg7.size, fun i hi => ?_⟩, Nat.le_trans h.2 hg7.size⟩
          rw [hg7.block i (Nat.lt_of_lt_of_le hi h.2) (by intro e; exact absurd (show i = g by simpa [Value.ownBlock] using e) (by omega)), h.1.block i hi]
        have hcell : ∀ (i : Nat) u, ([.slice a n cap, .slice a2 n2 cap2] : List Value)[i]? = some u → w7.cell? ⟨g2, i, none⟩ = some u := fun i u hu => by
          rw [cell_at hgg]
          have hct2 : cur.toList.take 2 = [.slice a n cap, .slice a2 n2 cap2] := hct
          rw [← hct2, List.getElem?_take] at hu
          split at hu
          · simpa using hu
          · cases hu
        have hB1 : BL w7 a (ll ++ sb (sumL ll)) := (O4c.same fun g' e => hg7.block g' (O4c.lt e).2 (by have := hob g' e; intro e2; exact absurd (show g' = g by simpa [Value.ownBlock] using e2) (by omega))).bl
        have hB2 : BL w7 a2 (l2 ++ sb (sumL l2)) := (O2c.same fun g' e => hg7.block g' (O2c.lt e).2 (by have := hob2 g' e; intro e2; exact absurd (show g' = g by simpa [Value.ownBlock] using e2) (by omega))).bl
        have HBo : Hid (Both w7 g2 2) := fun i hi => by
          have h4 : ∀ S, (sb S).length = 4 := fun _ => rfl
          by_cases h0 : i = 0
          · subst h0
            exact ⟨a, n, cap, ll, hcell 0 _ rfl, by rw [← HHn.out, List.length_append, h4], by have := HHn.out; rw [List.length_append, h4] at this; have := HLL.out; omega, H8.out, hB1⟩
          · obtain rfl : i = 1 := by omega
            exact ⟨a2, n2, cap2, l2, hcell 1 _ rfl, by rw [← HN2.out, List.length_append, h4], by have := HN2.out; rw [List.length_append, h4] at this; have := HL2.out; omega, H82.out, hB2⟩
        clear hown hnews FW6 O2c O4c hob hob2 hgs HLL H8 HHn HL2 H82 HN2 hg7 hnil7 hgg hcs hct hcell hB1 hB2 hz0 hz1 hz2 hinf
        have hg9 := lt_of_cell (show w7.cell? ⟨g2, 0, none⟩ = _ from (HBo.out 0 (by omega)).choose_spec.choose_spec.choose_spec.choose_spec.1)
        go_loopw [12] (fun u wr => ∃ j : Nat, j ≤ 2 ∧ u = .int .i64 (j : Int) ∧ Fr w7.heap.size w7 wr) (fun u _ => 2 - (intOf u).toNat)
        case atStart => exact ⟨0, by omega, rfl, Fr.refl _⟩
        case round =>
          obtain ⟨j, hj, rfl, hF⟩ := hrel
          have hj0 : (0 : Int) ≤ j := by omega
          by_cases hlt : j < 2
          · have hji : (j : Int) < 2 := by omega
            obtain ⟨a, n, cap, ll, hc, hn, hn2, h8, hBL⟩ := (HBo.out.keep hF.1 hg9) j hlt
            have hlen : (ll ++ sb (sumL ll)).length = n := by rw [List.length_append, hn]; rfl
            have hbl1 := hBL.keep ((Below.refl _ wr).alloc (Nat.le_refl _) (.cells #[] 5))
            have HF := Lib.hid hF
            have HN := Lib.hid hn
            have H8 := Lib.hid h8
            have HLEN := Lib.hid hlen
            clear hF hn hBL h8
            have hc2 : (wr.alloc (.cells #[] 5)).cell? ⟨g2, j, none⟩ = some (.slice a n cap) := (((Below.refl _ wr).alloc (Nat.le_refl _) (.cells #[] 5)).cell (p := ⟨g2, j, none⟩) (lt_of_cell hc)).trans hc
            clear hc
            by_cases hneg : at_ < 0
            · have d5 : decide (at_ < 0) = true := by simpa using hneg
              go_wp2_with (at_builtin; refine wpList_append_b _ rfl (.tmp 47) (.tmp 51) rfl rfl (OB.empty wr (Nat.le_refl _) rfl) a n cap (ll ++ sb (sumL ll)) rfl hlen hbl1 (by omega) (by simp) ?_; intro ab capb wb hO hg2 hat2; rw [Nat.zero_add, List.nil_append] at hO; have hF2 := fr_grown hg2; have HF2 := Lib.hid (HF.out.step hF2.1); have HO := Lib.hid hO; clear hO hg2 hat2 hF2)
              exact ⟨⟨j + 1, by omega, by go_num, HF2.out⟩, by simp [intOf]; omega⟩
            · have d5 : decide (at_ < 0) = false := by simpa using hneg
              obtain ⟨k, rfl⟩ : ∃ k : Nat, at_ = k := ⟨at_.toNat, by omega⟩
              by_cases hge : n ≤ k
              · have d6 : decide ((n : Int) ≤ (k : Int)) = true := by simp; omega
                go_wp2_with (at_builtin; refine wpList_append_b _ rfl (.tmp 47) (.tmp 51) rfl rfl (OB.empty wr (Nat.le_refl _) rfl) a n cap (ll ++ sb (sumL ll)) rfl hlen hbl1 (by omega) (by simp) ?_; intro ab capb wb hO hg2 hat2; rw [Nat.zero_add, List.nil_append] at hO; have hF2 := fr_grown hg2; have HF2 := Lib.hid (HF.out.step hF2.1); have HO := Lib.hid hO; clear hO hg2 hat2 hF2)
                exact ⟨⟨j + 1, by omega, by go_num, HF2.out⟩, by simp [intOf]; omega⟩
              · have d6 : decide ((n : Int) ≤ (k : Int)) = false := by simp; omega
                have hkn : (k : Int) < n := by omega
                have hk0 : (0 : Int) ≤ k := by omega
                have hkn2 : k < n := by omega
                go_wp2_with (at_builtin; refine wpList_append_b _ rfl (.tmp 47) (.tmp 51) rfl rfl (OB.empty wr (Nat.le_refl _) rfl) a n cap (ll ++ sb (sumL ll)) rfl hlen hbl1 (by omega) (by simp) ?_; intro ab capb wb hO hg2 hat2; rw [Nat.zero_add, List.nil_append] at hO; have hF2 := fr_grown hg2; have HF2 := Lib.hid (HF.out.step hF2.1); have HO := Lib.hid hO; clear hO hg2 hat2 hF2; obtain ⟨gb, y, rfl, hbg, hy, hcell, hfz, hst⟩ := HO.out.store hkn2; have HST := Lib.hid hst; clear hst)
                · exact ⟨⟨j + 1, by omega, by go_num, HF2.out⟩, by simp [intOf]; omega⟩
                · have hq9 := ‹((y : Int) == (cc : Int)) = false›
                  have hyc : ¬ (y = cc) := by intro e; subst e; simp at hq9
                  have O5 := HST.out cc
                  have hbg2 : w7.heap.size ≤ gb := Nat.le_trans HF.out.2 hbg
                  have F5 := Lib.hid (HF2.out.setCell (p := ⟨gb, k, none⟩) hbg2 (.int .u8 (cc : Int)))
                  have hSp := spoil ll k cc H8.out (by rw [HLEN.out]; omega) hcc (by rw [hy]; intro e; cases e; exact hyc rfl)
                  have hnc : n ≤ capb := by
                    rcases O5.cases with ⟨e, _⟩ | ⟨_, _, _, _, h⟩
                    · cases e
                    · exact h
                  have HB5 := Lib.hid O5.bl
                  have HSp := Lib.hid hSp
                  have hrs := readscript_bad (some ⟨gb, 0, none⟩) n capb ll.length _ (wb.setCell ⟨gb, k, none⟩ (.int .u8 (cc : Int))) HN.out hnc (by omega) HB5.out hSp
                  obtain ⟨wS, hwS⟩ : ∃ wS, wb.setCell ⟨gb, k, none⟩ (.int .u8 (cc : Int)) = wS := ⟨_, rfl⟩
                  rw [hwS] at F5 HB5 hrs ⊢
                  clear O5 hSp hy hwS hcell hfz
                  refine hrs.mono ?_
                  rintro e w8 ⟨⟨x8, rfl, hx8⟩, hb8⟩
                  have F8 := F5.out.step hb8
                  have B8 := HB5.out.keep hb8
                  clear hrs
                  have hx82 : (x8 == 0) = false := by simpa using hx8
                  have F9 := F8.alloc (.cells #[.int .i64 0, .int .i64 0, .int .i64 0, .int .i64 0, .int .i64 0, .int .i64 0, .int .i64 0, .int .i64 0, .int .i64 0, .int .i64 0, .int .i64 0, .int .i64 0, .slice none 0 0, .slice none 0 0] 61)
                  have B9 := B8.keep ((Below.refl _ w8).alloc (Nat.le_refl _) (.cells #[.int .i64 0, .int .i64 0, .int .i64 0, .int .i64 0, .int .i64 0, .int .i64 0, .int .i64 0, .int .i64 0, .int .i64 0, .int .i64 0, .int .i64 0, .int .i64 0, .slice none 0 0, .slice none 0 0] 61))
                  have hrl := readlog_bad (some ⟨gb, 0, none⟩) n capb ll.length _ (w8.alloc (.cells #[.int .i64 0, .int .i64 0, .int .i64 0, .int .i64 0, .int .i64 0, .int .i64 0, .int .i64 0, .int .i64 0, .int .i64 0, .int .i64 0, .int .i64 0, .int .i64 0, .slice none 0 0, .slice none 0 0] 61)) HN.out hnc (by omega) B9 HSp.out
                  have HF9 := Lib.hid F9
                  clear B8 B9 F8 F9 hb8
                  go_wp2_with fail
                  refine hrl.mono ?_
                  rintro e w9 ⟨⟨x9, rfl, hx9⟩, hw⟩
                  rw [hw]
                  have hx92 : (x9 == 0) = false := by simpa using hx9
                  clear hrl hw w9
                  go_wp2
                  exact ⟨⟨j + 1, by omega, by go_num, HF9.out⟩, by simp [intOf]; omega⟩
          · have e : j = 2 := by omega
            subst e
            have hdl : ¬ (((2 : Nat) : Int) < 2) := by omega
            go_wp2_with fail
            refine (live45_any _).mono ?_
            rintro e w9 ⟨rfl, hb⟩
            have E := Lib.hid ((FW.out.trans2 hF).step hb).1
            clear hb hF
            go_wp2_with fail
            go_ret
            exact ⟨rfl, E.out⟩
end Go.Proofs.Ytcfbbimahbhgjaa

/- SnapWrites: the walk. -/
import Derived.Test.YtcfbbimahbhgjaaSnE
namespace Go.Proofs.Ytcfbbimahbhgjaa
open Go.RowKit
set_option linter.unusedSimpArgs false
set_option linter.unusedVariables false

theorem WA.grown {w w' : World} {base b n cap : Nat} {a c : Option Addr} {l : List Nat} (h : WA w base b a n cap l) (hg : w.grownBy w' (ob c)) (h1 : ob c ≠ some b) (h2 : ∀ g, ob c = some g → ob a ≠ some g) : WA w' base b a n cap l :=
  ⟨by rw [hg.block b h.lt (fun e => h1 e.symm)]; exact h.hb, h.own.same fun g hga => hg.block g (h.own.lt hga).2 (fun e => h2 g e.symm hga), h.ne, h.lb⟩
theorem apart_new {w : World} {base b n cap : Nat} {a c c' : Option Addr} {l : List Nat} (h : WA w base b a n cap l) (hat : ob c' = ob c ∨ ob c' = some w.heap.size) (h1 : ob c ≠ some b) (h2 : ∀ g, ob c = some g → ob a ≠ some g) : ob c' ≠ some b ∧ ∀ g, ob c' = some g → ob a ≠ some g := by
  rcases hat with e | e
  · rw [e]; exact ⟨h1, h2⟩
  · rw [e]
    refine ⟨fun e2 => by cases e2; exact Nat.lt_irrefl _ h.lt, fun g hg ha => ?_⟩
    cases hg
    exact Nat.lt_irrefl _ (h.own.lt ha).2
/-- Between two things. -/
def SI (w0 : World) (b : Nat) (len : Nat) (k : Nat) (wa : Option Addr) (wn wcap : Nat) (wr : World) : Prop :=
  ∃ a n cap l, WA wr w0.heap.size b a n cap l ∧ OB wr w0.heap.size wa wn wcap l ∧ ob wa ≠ some b ∧ (∀ g, ob wa = some g → ob a ≠ some g) ∧ n ≤ 400 * k ∧ (∀ x ∈ l, x < 256) ∧ Fr w0.heap.size w0 wr
theorem mem_app8 {l m : List Nat} (h : ∀ x ∈ l, x < 256) (h' : ∀ x ∈ m, x < 256) : ∀ x ∈ l ++ m, x < 256 := by
  intro x hx
  rcases List.mem_append.1 hx with h1 | h1
  · exact h x h1
  · exact h' x h1
set_option maxRecDepth 100000 in
set_option maxHeartbeats 16000000 in
theorem writes_any (a0 : Option Addr) (len cap0 : Nat) (w : World) (hl0 : len ≤ 9223372036854775807) (hD : Things w a0 len) :
    Calls Try.prog 3 #[.slice a0 len cap0] w fun e w' => e = .returned (.bool true) ∧ Below w.heap.size w w' := by
  have HD := Lib.hid hD
  clear hD
  have F0 := (Fr.refl w).alloc (.cells #[.int .u8 1] 5)
  go_enter Try.func3, Try.ntmps3
  go_wp2_with fail
  refine (nil_num _ _).mono ?_
  rintro e w1 ⟨⟨v, rfl⟩, hw⟩
  rw [hw]
  clear hw w1
  go_wp2_with fail
  refine (nil_int _).mono ?_
  rintro e w1 ⟨⟨v2, rfl⟩, hw⟩
  rw [hw]
  clear hw w1
  go_wp2_with fail
  refine (nil_truth _).mono ?_
  rintro e w1 ⟨⟨v3, rfl⟩, hw⟩
  rw [hw]
  clear hw w1
  go_wp2_with fail
  refine (nil_raw _ _).mono ?_
  rintro e w1 ⟨⟨v4, rfl⟩, hw⟩
  rw [hw]
  clear hw w1
  go_wp2_with fail
  refine (nil_bytes _).mono ?_
  rintro e w1 ⟨rfl, hw⟩
  rw [hw]
  clear hw w1
  obtain ⟨w1, hw1⟩ : ∃ w1, w.alloc (.cells #[.int .u8 1] 5) = w1 := ⟨_, rfl⟩
  rw [hw1] at F0 ⊢
  clear hw1
  by_cases h60 : 60 < len
  · have d1 : decide ((60 : Int) < len) = true := by simp; omega
    go_wp2_with fail
    refine (live45_any _).mono ?_
    rintro e w2 ⟨rfl, hb⟩
    have E := Lib.hid (F0.step hb)
    clear hb
    go_wp2_with fail
    go_ret
    exact ⟨rfl, E.out.1⟩
  · have d1 : decide ((60 : Int) < len) = false := by simp; omega
    have A0 : WA (w1.alloc (.cells #[.slice none 0 0] 33)) w.heap.size w1.heap.size none 0 0 [] := ⟨heap_alloc_new w1 _, OB.nil _ _, (by intro e; cases e), F0.2⟩
    have F1 := F0.alloc (.cells #[.slice none 0 0] 33)
    go_wp2_with fail
    obtain ⟨w2, hw2⟩ : ∃ w2, w1.alloc (.cells #[.slice none 0 0] 33) = w2 := ⟨_, rfl⟩
    obtain ⟨b, hb⟩ : ∃ b, w1.heap.size = b := ⟨_, rfl⟩
    rw [hw2, hb] at A0
    rw [hw2] at F1 ⊢
    rw [hb]
    have I0 : Hid (SI w b len 0 none 0 0 w2) := ⟨none, 0, 0, [], A0, OB.nil _ _, (by intro e; cases e), (by intro g e; cases e), Nat.le_refl _, (by intro x hx; cases hx), F1⟩
    clear hw2 hb A0 F1 F0 d1
    go_loopw [5, 6] (fun s i wr => ∃ (k : Nat) (wa : Option Addr) (wn wcap : Nat), k ≤ len ∧ i = .int .i64 (k : Int) ∧ s = .slice wa wn wcap ∧ SI w b len k wa wn wcap wr) (fun _ i _ => len - (intOf i).toNat)
    case atStart => exact ⟨0, none, 0, 0, by omega, rfl, rfl, I0.out⟩
    case round =>
      clear I0
      obtain ⟨k, wa, wn, wcap, hk, rfl, rfl, hI⟩ := hrel
      obtain ⟨a, n, cap, l, hA, hO, hob, hdis, hn, h8, hF⟩ := hI
      have hnb := hF.2
      by_cases hlt : k < len
      · obtain ⟨ad, kd, N, I, q, ba, bl, bcap, M, L, rfl, had, hd, hb9, hL⟩ := HD.out k hlt
        have hk0 : (0 : Int) ≤ k := by omega
        have hki : (k : Int) < len := by omega
        have HDD := Lib.hid hd
        have HL := Lib.hid hL
        have HB9 := Lib.hid hb9
        have hdk := hd.keep hF.1 had
        have t0 := hdk.c0
        have t4 := hdk.c4
        have t1 := hdk.c1
        have t2 := hdk.c2
        have t3 := hdk.c3
        have hblm := hL.ll
        clear hdk hd hb9 hL
        by_cases h300 : bl ≤ 300
        · have d3 : decide ((300 : Int) < bl) = false := by simp; omega
          by_cases h0 : kd = 0
          · subst h0
            go_wp2_with fail
            refine (num_any w.heap.size b N n cap a l _ HB9.out.1 hA (by omega) hnb).mono ?_
            rintro e w3 ⟨⟨v5, rfl⟩, a1, n1, cap1, A1, S1⟩
            obtain ⟨O1, D1⟩ := S1.other hO hob hdis
            have F1 := S1.fr hA hF
            have hnl := hA.len
            have hdk := HDD.out.keep F1.1 had
            have t4 := hdk.c4
            have t1 := hdk.c1
            have t2 := hdk.c2
            have t3 := hdk.c3
            clear hdk hA hO hF S1 hdis
            go_wp2_with fail
            refine (rnum_any N _ HB9.out.1).mono ?_
            rintro e w4 ⟨a2, n2, cap2, rfl, O2, hb2⟩
            have A2 := A1.keep hb2
            have O1' := O1.keep hb2
            have F2 := F1.step hb2
            have hn2 := O2.1
            have hwn := O1.1
            have hn1 := A1.len
            have hn0 : l.length = wn := hwn
            have hbd : (numL N).length ≤ 310 := Nat.le_trans (numL_ten HB9.out.1) (by omega)
            rw [List.length_append] at hn1
            have hnb2 := F2.2
            clear A1 O1 F1 hb2 t1 t2 t3 t4
            go_wp2_with (at_builtin; refine wpList_append_b _ rfl (.tmp 65) (.tmp 71) rfl rfl O1' a2 n2 cap2 (numL N) rfl O2.1 O2.bl (by omega) hnb2 ?_; intro a3 cap3 w5 O3 hg hat; have A3 := A2.grown hg hob D1; have X3 := apart_new A2 hat hob D1; have F3 := grown_fr0 F2 O1' (Nat.le_refl _) hg; clear A2 O1' F2 O2 hg hat D1 hob)
            obtain ⟨l', hl'⟩ : ∃ l', l ++ (numL N) = l' := ⟨_, rfl⟩
            have h8' : ∀ x ∈ l', x < 256 := by rw [← hl']; exact mem_app8 h8 (numL_8 N)
            rw [hl'] at A3 O3
            have hn3 : n1 ≤ 400 * (k + 1) := by omega
            have hl3 : l'.length = wn + n2 := O3.1
            have hl4 : n1 = wn + n2 := by rw [← A3.len, hl3]
            clear hl' hn1 hn2 hwn hn0 hbd h8 hn hnl
            refine (bytes_any w.heap.size b n1 cap1 a1 l' _ A3 (by omega)).mono ?_
            rintro e w6 ⟨a4, n4, cap4, rfl, O4, hb4⟩
            have hn4 : n4 = wn + n2 := by rw [← O4.1, hl3]
            subst hn4
            have A4 := A3.keep hb4
            have O5 := O3.keep hb4
            have F4 := F3.step hb4
            clear A3 O3 F3 hb4
            go_wp2_with fail
            refine (bytes17_any a4 a3 (wn + n2) cap4 cap3 l' _ hl3 (by omega) O4.bl O5.bl).mono ?_
            rintro e w7 ⟨rfl, hb5⟩
            have E : Hid (SI w b len (k + 1) a3 (wn + n2) cap3 w7) := ⟨a1, n1, cap1, l', A4.keep hb5, O5.keep hb5, X3.1, X3.2, hn3, h8', F4.step hb5⟩
            clear A4 O5 F4 hb5 O4 X3 h8' hl3 hl4 hn3
            go_wp2
            exact ⟨⟨k + 1, a3, wn + n2, cap3, by omega, by go_num, rfl, E.out⟩, by simp [intOf]; omega⟩
          · by_cases h1 : kd = 1
            · subst h1
              go_wp2_with fail
              refine (wint_any w.heap.size b n cap I a l _ HB9.out.2.1 HB9.out.2.2.1 hA (by omega) hnb).mono ?_
              rintro e w3 ⟨⟨v5, rfl⟩, a1, n1, cap1, A1, S1⟩
              obtain ⟨O1, D1⟩ := S1.other hO hob hdis
              have F1 := S1.fr hA hF
              have hnl := hA.len
              have hdk := HDD.out.keep F1.1 had
              have t4 := hdk.c4
              have t1 := hdk.c1
              have t2 := hdk.c2
              have t3 := hdk.c3
              clear hdk hA hO hF S1 hdis
              go_wp2_with fail
              refine (rint_any I _ HB9.out.2.1 HB9.out.2.2.1).mono ?_
              rintro e w4 ⟨a2, n2, cap2, rfl, O2, hb2⟩
              have A2 := A1.keep hb2
              have O1' := O1.keep hb2
              have F2 := F1.step hb2
              have hn2 := O2.1
              have hwn := O1.1
              have hn1 := A1.len
              have hn0 : l.length = wn := hwn
              have hbd : (numL (intN I)).length ≤ 310 := Nat.le_trans (numL_ten (intN_lt HB9.out.2.1 HB9.out.2.2.1)) (by omega)
              rw [List.length_append] at hn1
              have hnb2 := F2.2
              clear A1 O1 F1 hb2 t1 t2 t3 t4
              go_wp2_with (at_builtin; refine wpList_append_b _ rfl (.tmp 81) (.tmp 87) rfl rfl O1' a2 n2 cap2 (numL (intN I)) rfl O2.1 O2.bl (by omega) hnb2 ?_; intro a3 cap3 w5 O3 hg hat; have A3 := A2.grown hg hob D1; have X3 := apart_new A2 hat hob D1; have F3 := grown_fr0 F2 O1' (Nat.le_refl _) hg; clear A2 O1' F2 O2 hg hat D1 hob)
              obtain ⟨l', hl'⟩ : ∃ l', l ++ (numL (intN I)) = l' := ⟨_, rfl⟩
              have h8' : ∀ x ∈ l', x < 256 := by rw [← hl']; exact mem_app8 h8 (numL_8 _)
              rw [hl'] at A3 O3
              have hn3 : n1 ≤ 400 * (k + 1) := by omega
              have hl3 : l'.length = wn + n2 := O3.1
              have hl4 : n1 = wn + n2 := by rw [← A3.len, hl3]
              clear hl' hn1 hn2 hwn hn0 hbd h8 hn hnl
              refine (bytes_any w.heap.size b n1 cap1 a1 l' _ A3 (by omega)).mono ?_
              rintro e w6 ⟨a4, n4, cap4, rfl, O4, hb4⟩
              have hn4 : n4 = wn + n2 := by rw [← O4.1, hl3]
              subst hn4
              have A4 := A3.keep hb4
              have O5 := O3.keep hb4
              have F4 := F3.step hb4
              clear A3 O3 F3 hb4
              go_wp2_with fail
              refine (bytes17_any a4 a3 (wn + n2) cap4 cap3 l' _ hl3 (by omega) O4.bl O5.bl).mono ?_
              rintro e w7 ⟨rfl, hb5⟩
              have E : Hid (SI w b len (k + 1) a3 (wn + n2) cap3 w7) := ⟨a1, n1, cap1, l', A4.keep hb5, O5.keep hb5, X3.1, X3.2, hn3, h8', F4.step hb5⟩
              clear A4 O5 F4 hb5 O4 X3 h8' hl3 hl4 hn3
              go_wp2
              exact ⟨⟨k + 1, a3, wn + n2, cap3, by omega, by go_num, rfl, E.out⟩, by simp [intOf]; omega⟩
            · by_cases h2 : kd = 2
              · subst h2
                go_wp2_with fail
                refine (wtruth_any w.heap.size b n cap q a l _ hA (by omega) hnb).mono ?_
                rintro e w3 ⟨⟨v5, rfl⟩, a1, n1, cap1, A1, S1⟩
                obtain ⟨O1, D1⟩ := S1.other hO hob hdis
                have F1 := S1.fr hA hF
                have hnl := hA.len
                have hdk := HDD.out.keep F1.1 had
                have t4 := hdk.c4
                have t1 := hdk.c1
                have t2 := hdk.c2
                have t3 := hdk.c3
                clear hdk hA hO hF S1 hdis
                go_wp2_with fail
                refine (rtruth_any q _).mono ?_
                rintro e w4 ⟨a2, n2, cap2, rfl, O2, hb2⟩
                have A2 := A1.keep hb2
                have O1' := O1.keep hb2
                have F2 := F1.step hb2
                have hn2 := O2.1
                have hwn := O1.1
                have hn1 := A1.len
                have hn0 : l.length = wn := hwn
                have hbd : ([q.toNat]).length ≤ 310 := by simp
                rw [List.length_append] at hn1
                have hnb2 := F2.2
                clear A1 O1 F1 hb2 t1 t2 t3 t4
                go_wp2_with (at_builtin; refine wpList_append_b _ rfl (.tmp 97) (.tmp 103) rfl rfl O1' a2 n2 cap2 ([q.toNat]) rfl O2.1 O2.bl (by omega) hnb2 ?_; intro a3 cap3 w5 O3 hg hat; have A3 := A2.grown hg hob D1; have X3 := apart_new A2 hat hob D1; have F3 := grown_fr0 F2 O1' (Nat.le_refl _) hg; clear A2 O1' F2 O2 hg hat D1 hob)
                obtain ⟨l', hl'⟩ : ∃ l', l ++ ([q.toNat]) = l' := ⟨_, rfl⟩
                have h8' : ∀ x ∈ l', x < 256 := by rw [← hl']; exact mem_app8 h8 (by intro x hx; simp at hx; subst hx; cases q <;> decide)
                rw [hl'] at A3 O3
                have hn3 : n1 ≤ 400 * (k + 1) := by omega
                have hl3 : l'.length = wn + n2 := O3.1
                have hl4 : n1 = wn + n2 := by rw [← A3.len, hl3]
                clear hl' hn1 hn2 hwn hn0 hbd h8 hn hnl
                refine (bytes_any w.heap.size b n1 cap1 a1 l' _ A3 (by omega)).mono ?_
                rintro e w6 ⟨a4, n4, cap4, rfl, O4, hb4⟩
                have hn4 : n4 = wn + n2 := by rw [← O4.1, hl3]
                subst hn4
                have A4 := A3.keep hb4
                have O5 := O3.keep hb4
                have F4 := F3.step hb4
                clear A3 O3 F3 hb4
                go_wp2_with fail
                refine (bytes17_any a4 a3 (wn + n2) cap4 cap3 l' _ hl3 (by omega) O4.bl O5.bl).mono ?_
                rintro e w7 ⟨rfl, hb5⟩
                have E : Hid (SI w b len (k + 1) a3 (wn + n2) cap3 w7) := ⟨a1, n1, cap1, l', A4.keep hb5, O5.keep hb5, X3.1, X3.2, hn3, h8', F4.step hb5⟩
                clear A4 O5 F4 hb5 O4 X3 h8' hl3 hl4 hn3
                go_wp2
                exact ⟨⟨k + 1, a3, wn + n2, cap3, by omega, by go_num, rfl, E.out⟩, by simp [intOf]; omega⟩
              · have e0 : (kd == 0) = false := by simpa using h0
                have e1 : (kd == 1) = false := by simpa using h1
                have e2 : (kd == 2) = false := by simpa using h2
                have hBL := HL.out.hb.keep hF.1
                go_wp2_with fail
                refine (wraw_any w.heap.size b n cap bl bcap a ba l L _ HL.out.ln (by omega) hBL (fun h0 ad e => HL.out.blk h0 ad e) hA (by omega) hnb).mono ?_
                rintro e w3 ⟨⟨v5, rfl⟩, a1, n1, cap1, A1, S1⟩
                obtain ⟨O1, D1⟩ := S1.other hO hob hdis
                have F1 := S1.fr hA hF
                have hnl := hA.len
                have hdk := HDD.out.keep F1.1 had
                have t4 := hdk.c4
                have t1 := hdk.c1
                have t2 := hdk.c2
                have t3 := hdk.c3
                clear hdk hA hO hF S1 hdis
                go_wp2_with fail
                refine (rraw_any bl bcap ba L _ HL.out.ln (by omega) (HL.out.hb.keep F1.1)).mono ?_
                rintro e w4 ⟨a2, n2, cap2, rfl, O2, hb2⟩
                have A2 := A1.keep hb2
                have O1' := O1.keep hb2
                have F2 := F1.step hb2
                have hn2 := O2.1
                have hwn := O1.1
                have hn1 := A1.len
                have hn0 : l.length = wn := hwn
                have hbd : (numL bl ++ L).length ≤ 310 := by rw [List.length_append, HL.out.ln]; have := numL_ten (show bl < 18446744073709551616 by omega); omega
                rw [List.length_append] at hn1
                have hnb2 := F2.2
                clear A1 O1 F1 hb2 t1 t2 t3 t4
                go_wp2_with (at_builtin; refine wpList_append_b _ rfl (.tmp 49) (.tmp 55) rfl rfl O1' a2 n2 cap2 (numL bl ++ L) rfl O2.1 O2.bl (by omega) hnb2 ?_; intro a3 cap3 w5 O3 hg hat; have A3 := A2.grown hg hob D1; have X3 := apart_new A2 hat hob D1; have F3 := grown_fr0 F2 O1' (Nat.le_refl _) hg; clear A2 O1' F2 O2 hg hat D1 hob)
                obtain ⟨l', hl'⟩ : ∃ l', l ++ (numL bl ++ L) = l' := ⟨_, rfl⟩
                have h8' : ∀ x ∈ l', x < 256 := by rw [← hl']; exact mem_app8 h8 (mem_app8 (numL_8 _) HL.out.h8)
                rw [hl'] at A3 O3
                have hn3 : n1 ≤ 400 * (k + 1) := by omega
                have hl3 : l'.length = wn + n2 := O3.1
                have hl4 : n1 = wn + n2 := by rw [← A3.len, hl3]
                clear hl' hn1 hn2 hwn hn0 hbd h8 hn hnl
                refine (bytes_any w.heap.size b n1 cap1 a1 l' _ A3 (by omega)).mono ?_
                rintro e w6 ⟨a4, n4, cap4, rfl, O4, hb4⟩
                have hn4 : n4 = wn + n2 := by rw [← O4.1, hl3]
                subst hn4
                have A4 := A3.keep hb4
                have O5 := O3.keep hb4
                have F4 := F3.step hb4
                clear A3 O3 F3 hb4
                go_wp2_with fail
                refine (bytes17_any a4 a3 (wn + n2) cap4 cap3 l' _ hl3 (by omega) O4.bl O5.bl).mono ?_
                rintro e w7 ⟨rfl, hb5⟩
                have E : Hid (SI w b len (k + 1) a3 (wn + n2) cap3 w7) := ⟨a1, n1, cap1, l', A4.keep hb5, O5.keep hb5, X3.1, X3.2, hn3, h8', F4.step hb5⟩
                clear A4 O5 F4 hb5 O4 X3 h8' hl3 hl4 hn3
                go_wp2
                exact ⟨⟨k + 1, a3, wn + n2, cap3, by omega, by go_num, rfl, E.out⟩, by simp [intOf]; omega⟩
        · have d3 : decide ((300 : Int) < bl) = true := by simp; omega
          clear hA hO hob hdis hn
          go_wp2_with fail
          refine (live45_any _).mono ?_
          rintro e w3 ⟨rfl, hb⟩
          have E := Lib.hid (hF.step hb)
          clear hb hF
          go_wp2_with fail
          go_ret
          exact ⟨rfl, E.out.1⟩
      · have e : k = len := by omega
        subst e
        have hwn := hO.1
        have hB := hO.bl
        have hS := sumL_lt l
        have e1 : IntKind.u32.wrap ((sumL l : Nat) : Int) = ((sumL l : Nat) : Int) := by rw [IntKind.wrap_u32]; omega
        have hnn : wn ≤ 1000000000 := by have := hA.len; omega
        have HF := Lib.hid hF
        have hdl : ¬ ((k : Int) < k) := by omega
        clear hA hO hob hdis hn hF
        go_wp2_with fail
        refine (sum_any wa wn wcap l _ hwn hnn h8 hB).mono ?_
        rintro e w3 ⟨rfl, hw⟩
        rw [hw]
        clear hw w3
        go_wp2_with fail
        refine (rsum_any wa wn wcap l _ hwn hnn h8 hB).mono ?_
        rintro e w3 ⟨rfl, hw⟩
        rw [hw]
        clear hw w3
        go_wp2_with fail
        refine (live45_any _).mono ?_
        rintro e w3 ⟨rfl, hb⟩
        have E := Lib.hid (HF.out.step hb)
        clear hb
        go_wp2_with fail
        go_ret
        exact ⟨rfl, E.out.1⟩
end Go.Proofs.Ytcfbbimahbhgjaa

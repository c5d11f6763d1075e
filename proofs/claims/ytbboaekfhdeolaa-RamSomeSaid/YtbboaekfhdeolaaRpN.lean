/- RamPlays: the walk that plays. -/
import Derived.Test.YtbboaekfhdeolaaRpM
import Derived.Deep.DrawnRows
namespace Go.Proofs.Ytbboaekfhdeolaa
open Go.RowKit
set_option linter.unusedSimpArgs false
set_option linter.unusedVariables false
attribute [local simp high] sizeLL zeroLL sizeLR zeroLR

theorem Bytes.ne {w : World} {a : Option Addr} {len : Nat} {b : Nat → Nat} (h : Bytes w a len b) {m : Nat} (hm : w.heap.size ≤ m) : 0 < len → ∀ ad, a = some ad → ad.block ≠ m := by
  intro h0 ad e
  obtain ⟨ad', e', hl, _⟩ := h 0 h0
  rw [e] at e'
  cases e'
  omega
/-- What the round of a deed reads. -/
def SD (w : World) (x9 c T cap : Nat) (ad : Addr) (k : Nat) (kd : Int) (addr : Nat) (n : Int) (v : Nat) (a' : Option Addr) (l' c' : Nat) (w' : World) : Prop :=
  (Fr w.heap.size w w' ∧ w'.heap[x9]? = some (.cells #[.slice (some ⟨c, 0, none⟩) T cap] 66))
theorem sd_mk {w w' : World} {x9 c T cap : Nat} {ad : Addr} {k : Nat} {kd : Int} {addr : Nat} {n : Int} {v : Nat} {a' : Option Addr} {l' c' : Nat} (hd : RDeed w ad k kd addr n v a' l' c') (had : ad.block < w.heap.size) (hF : Fr w.heap.size w w') (hx : w'.heap[x9]? = some (.cells #[.slice (some ⟨c, 0, none⟩) T cap] 66)) :
    SD w x9 c T cap ad k kd addr n v a' l' c' w' ∧ w'.cell? ⟨x9, 0, none⟩ = some (.slice (some ⟨c, 0, none⟩) T cap) ∧ w'.cell? (ad.add (k * 5)) = some (.int .i64 kd) ∧ w'.cell? ⟨(ad.add (k * 5)).block, (ad.add (k * 5)).off + 1, none⟩ = some (.int .u64 (addr : Int)) ∧ w'.cell? ⟨(ad.add (k * 5)).block, (ad.add (k * 5)).off + 2, none⟩ = some (.int .i64 n) ∧ w'.cell? ⟨(ad.add (k * 5)).block, (ad.add (k * 5)).off + 3, none⟩ = some (.int .u64 (v : Int)) ∧ w'.cell? ⟨(ad.add (k * 5)).block, (ad.add (k * 5)).off + 4, none⟩ = some (.slice a' l' c') := by
  have h := hd.keep hF.1 had
  exact ⟨⟨hF, hx⟩, by rw [cell_at hx]; rfl, h.c0, h.c1, h.c2, h.c3, h.c4⟩
theorem few_keep {w w' : World} {a : Option Addr} {len : Nat} (h : RDeeds w a len) (hb : Below w.heap.size w w') (hf : Few w a len) : Few w' a len := by
  intro i hi ad a' l' c' e hc
  subst e
  obtain ⟨ad', kd, addr, n, v, a2, l2, c2, e, had, hd, h1, h2⟩ := h i hi
  cases e
  exact hf i hi ad a' l' c' rfl (by rw [← RDeed.back hb had]; exact hc)
theorem RamAt.wr2 {w w' : World} {b m k L m' c' : Nat} {g : Nat → Nat → Nat} (h : RamAt w b m k L g) (hW : Wr2 m' c' w w') (h1 : b ≠ m') (h2 : b ≠ c') (h3 : m ≠ m') (h4 : m ≠ c') : RamAt w' b m k L g := by
  obtain ⟨h1', D, ⟨es, clock, h2', h3'⟩, hD⟩ := h
  exact ⟨hW.2 _ _ h1 h2 h1', D, ⟨es, clock, hW.2 _ _ h3 h4 h2', h3'⟩, hD⟩
theorem XB.wr2 {w w' : World} {c n m' c' : Nat} {x : Nat → Nat} (h : XB w c n x) (hW : Wr2 m' c' w w') (h1 : c ≠ m') (h2 : c ≠ c') : XB w' c n x := by
  obtain ⟨o, ho⟩ : ∃ o, w.heap[c]? = some o := ⟨_, Array.getElem?_eq_getElem h.1⟩
  have ho' := hW.2 c o h1 h2 ho
  refine ⟨lt_of_at ho', fun i hi => ?_⟩
  have e : w'.heap[c]? = w.heap[c]? := ho'.trans ho.symm
  exact ⟨(World.cell?_of_block (a := ⟨c, i, none⟩) e).trans (h.2 i hi).1, (World.frozen?_of_block (a := ⟨c, i, none⟩) e).trans (h.2 i hi).2⟩
def IffB (q : Bool) (P : Prop) : Prop := q = true ↔ P
theorem iffB {q : Bool} {P : Prop} (h : IffB q P) : q = true ↔ P := h
/-- What lies between two deeds. -/
def PI (w : World) (b m x9 c u L cap : Nat) (od : Array Value) (k : Nat) (wr : World) : Prop :=
  ∃ g : Nat → Nat → Nat, (∀ i, OkL (g i)) ∧ Supp L g ∧ RamAt wr b m (500 * k) L g ∧ XB wr c (64 * L) (fl g) ∧ wr.heap[x9]? = some (.cells #[.slice (some ⟨c, 0, none⟩) (64 * L) cap] 66) ∧ wr.heap[u]? = some (.cells od 63) ∧ Fr w.heap.size w wr
set_option maxRecDepth 100000 in
set_option maxHeartbeats 16000000 in
theorem rplays_yes (L : Nat) (a : Option Addr) (len cap : Nat) (kd : Int) (addr : Nat) (n : Int) (v : Nat) (a' : Option Addr) (l' c' : Nat) (w : World) (h1 : 1 ≤ L) (hL : L ≤ 30) (hl : len ≤ 60) (hl' : l' ≤ 500) (hD : RDeeds w a len) (hF : Few w a len)
    (ho : addr < 18446744073709551616 ∧ v < 18446744073709551616 ∧ n ≤ 9223372036854775807) (hob : BytesOk w a' l' c') :
    Calls Try.prog 7 #[.int .i64 (L : Int), .slice a len cap, deedA kd addr n v a' l' c'] w fun e w' => e = .returned (.bool true) ∧ Below w.heap.size w w' := by
  unfold deedA
  have HD := Lib.hid hD
  have HFW := Lib.hid hF
  have HO := Lib.hid ho
  have HOB := Lib.hid hob
  clear hD hF ho hob
  obtain ⟨wA, hwA⟩ : ∃ wA, w.alloc (.cells #[.int .i64 kd, .int .u64 (addr : Int), .int .i64 n, .int .u64 (v : Int), .slice a' l' c'] 63) = wA := ⟨_, rfl⟩
  have F0 := (Fr.refl w).alloc (.cells #[.int .i64 kd, .int .u64 (addr : Int), .int .i64 n, .int .u64 (v : Int), .slice a' l' c'] 63)
  have k0 := heap_alloc_new w (.cells #[.int .i64 kd, .int .u64 (addr : Int), .int .i64 n, .int .u64 (v : Int), .slice a' l' c'] 63)
  rw [hwA] at F0 k0
  obtain ⟨u, hu⟩ : ∃ u, w.heap.size = u := ⟨_, rfl⟩
  have hsA : wA.heap.size = u + 1 := by rw [← hwA, ← hu]; simp
  have HSA := Lib.hid hsA
  have HU := Lib.hid hu
  rw [hu] at k0
  clear hsA
  have d1 : decide ((L : Int) < 1) = false := by simp; omega
  have d2 : decide ((4096 : Int) < L) = false := by simp; omega
  have d3 : decide ((30 : Int) < L) = false := by simp; omega
  have d5 : decide ((500 : Int) < l') = false := by simp; omega
  go_enter Try.func7, Try.ntmps7
  go_wp2_with fail
  refine (ramnew_yes L _ h1 (by omega)).mono ?_
  rintro e w1 ⟨rfl, hR1, hb1⟩
  have F1 := F0.step hb1
  have k1 := keepB hb1 k0
  obtain ⟨b, hb⟩ : ∃ b, wA.heap.size + 1 = b := ⟨_, rfl⟩
  obtain ⟨m, hm⟩ : ∃ m, wA.heap.size = m := ⟨_, rfl⟩
  rw [hb] at hR1 ⊢
  rw [hm] at hR1
  have HM := Lib.hid (And.intro hm hb)
  clear F0 hb1 k0 hm hb hwA
  have DD := Lib.hid (rdeeds_keep HD.out F1.1)
  go_wp2_with fail
  refine (great_any a len cap _ (by omega) DD.out).mono ?_
  rintro e w2 ⟨q, rfl, hqf, hqt, rfl⟩
  have hqt2 : q = false := by
    cases q with
    | false => rfl
    | true => exact absurd ⟨hl, few_keep HD.out F1.1 HFW.out⟩ (hqt rfl)
  subst hqt2
  clear hqf hqt
  have c4 : w2.cell? ⟨u, 4, none⟩ = some (.slice a' l' c') := by rw [cell_at k1]; rfl
  go_wp2_with fail
  refine (rnew_v L _ h1 (by omega)).mono ?_
  rintro e w3 ⟨c, rfl, hX3, hc3, hb3⟩
  have hum : u < m := by have := HM.out.1; have := HSA.out; omega
  have hmb : m < b := by have := HM.out; omega
  have hbc : b < c := by have := lt_of_at hR1.1; omega
  have hwu : w.heap.size ≤ u := by have := HU.out; omega
  have F3 := (F1.step hb3).alloc (.cells #[.slice (some ⟨c, 0, none⟩) (64 * L) (64 * L)] 66)
  have R3 := (hR1.keep hb3).alloc (.cells #[.slice (some ⟨c, 0, none⟩) (64 * L) (64 * L)] 66)
  have X3 := hX3.alloc (.cells #[.slice (some ⟨c, 0, none⟩) (64 * L) (64 * L)] 66)
  have K3 := keep_alloc (keepB hb3 k1) (.cells #[.slice (some ⟨c, 0, none⟩) (64 * L) (64 * L)] 66)
  have kx := heap_alloc_new w3 (.cells #[.slice (some ⟨c, 0, none⟩) (64 * L) (64 * L)] 66)
  have hcx : c < w3.heap.size := hX3.1
  go_wp2_with fail
  obtain ⟨w4, hw4⟩ : ∃ w4, w3.alloc (.cells #[.slice (some ⟨c, 0, none⟩) (64 * L) (64 * L)] 66) = w4 := ⟨_, rfl⟩
  obtain ⟨x9, hx9⟩ : ∃ x9, w3.heap.size = x9 := ⟨_, rfl⟩
  rw [hw4] at F3 R3 X3 K3 kx ⊢
  rw [hx9] at kx hcx ⊢
  have P4 : Hid (PI w b m x9 c u L (64 * L) #[.int .i64 kd, .int .u64 (addr : Int), .int .i64 n, .int .u64 (v : Int), .slice a' l' c'] 0 w4) := ⟨z10, z10_ok, supp_zero L, R3, X3, kx, K3, F3⟩
  clear hw4 hx9 F3 R3 X3 K3 kx c4 k1 hX3 hR1 hb3 F1 DD hc3 d1 d2 d3 d5
  go_loopw [10] (fun i wr => ∃ k : Nat, k ≤ len ∧ i = .int .i64 (k : Int) ∧ PI w b m x9 c u L (64 * L) #[.int .i64 kd, .int .u64 (addr : Int), .int .i64 n, .int .u64 (v : Int), .slice a' l' c'] k wr) (fun i _ => len - (intOf i).toNat)
  case atStart => exact ⟨0, by omega, rfl, P4.out⟩
  case round =>
    clear P4
    obtain ⟨k, hk, rfl, hP⟩ := hrel
    obtain ⟨g, okg, hS, hR, hX, kx, ku, hF⟩ := hP
    by_cases hlt : k < len
    · obtain ⟨ad, kd2, addr2, n2, v2, a2, l2, c2, rfl, had, hd, hb2, hB2⟩ := HD.out k hlt
      have hl2 : l2 ≤ 500 := HFW.out k hlt ad a2 l2 c2 rfl hd.c4
      have hk0 : (0 : Int) ≤ k := by omega
      have hki : (k : Int) < len := by omega
      have R4 := Lib.hid (hR.keep (Fr.refl wr).drew.1)
      have X4 := Lib.hid (hX.keep (Fr.refl wr).drew.1)
      have KX := Lib.hid (keepB (Fr.refl wr).drew.1 kx)
      have KU := Lib.hid (keepB (Fr.refl wr).drew.1 ku)
      have FF := Lib.hid hF.drew
      have BY := Lib.hid (hB2.keep hF.drew.1)
      have NM := Lib.hid (hB2.hb.ne (m := m) (by omega))
      have NC := Lib.hid (hB2.hb.ne (m := c) (by omega))
      have HDD := Lib.hid hd
      have HB2 := Lib.hid hb2
      obtain ⟨g', hg'⟩ : ∃ g', doG g L kd2 addr2 n2 v2 (byteAt wr.drew a2) l2 = g' := ⟨_, rfl⟩
      have OK' : Hid (∀ i, OkL (g' i)) := by rw [← hg']; exact doG_ok okg L kd2 addr2 n2 v2 BY.out.h8
      have S' : Hid (Supp L g') := by rw [← hg']; exact doG_supp hS kd2 addr2 n2 v2 _ l2
      have HG := Lib.hid hg'
      have OKG := Lib.hid okg
      have hcx' : x9 ≠ c := by omega
      have hmx' : x9 ≠ m := by omega
      have huc : u ≠ c := by omega
      have hum' : u ≠ m := by omega
      clear hg' okg hS hR hX ku hF hd hb2 hB2
      have cx : wr.cell? ⟨x9, 0, none⟩ = some (.slice (some ⟨c, 0, none⟩) (64 * L) (64 * L)) := by rw [cell_at kx]; rfl
      clear kx hu
      go_wp2_with fail
      go_region_held3 (fun w' => SD w x9 c (64 * L) (64 * L) ad k kd2 addr2 n2 v2 a2 l2 c2 w' ∧ w'.cell? ⟨x9, 0, none⟩ = some (.slice (some ⟨c, 0, none⟩) (64 * L) (64 * L)) ∧ w'.cell? (ad.add (k * 5)) = some (.int .i64 kd2) ∧ w'.cell? ⟨(ad.add (k * 5)).block, (ad.add (k * 5)).off + 1, none⟩ = some (.int .u64 (addr2 : Int)) ∧ w'.cell? ⟨(ad.add (k * 5)).block, (ad.add (k * 5)).off + 2, none⟩ = some (.int .i64 n2) ∧ w'.cell? ⟨(ad.add (k * 5)).block, (ad.add (k * 5)).off + 3, none⟩ = some (.int .u64 (v2 : Int)) ∧ w'.cell? ⟨(ad.add (k * 5)).block, (ad.add (k * 5)).off + 4, none⟩ = some (.slice a2 l2 c2))
        (first | exact sd_mk HDD.out had FF.out KX.out | exact sd_mk HDD.out had (WA.1 _ _ (by omega) (by omega) FF.out) (WA.2 _ _ hmx' hcx' KX.out))
        (first
          | (go_at_call 33; refine (do_any b m (500 * k) L c (64 * L) addr2 v2 l2 c2 kd2 n2 a2 g g' _ _ OKG.out HB2.out.1 HB2.out.2.1 HB2.out.2.2 (by omega) (by omega) hl2 BY.out.lc BY.out.hb BY.out.h8 NM.out NC.out R4.out X4.out (by omega) (by omega) HG.out).mono ?_; rintro e wa ⟨rfl, hRa, hXa, WA⟩))
      all_goals
        have E : Hid (PI w b m x9 c u L (64 * L) #[.int .i64 kd, .int .u64 (addr : Int), .int .i64 n, .int .u64 (v : Int), .slice a' l' c'] (k + 1) wa) := ⟨g', OK'.out, S'.out, hRa.mono (by omega), hXa, WA.2 _ _ hmx' hcx' KX.out, WA.2 _ _ hum' huc KU.out, WA.1 _ _ (by omega) (by omega) FF.out⟩
        clear hRa hXa WA
        go_wp2
        exact ⟨⟨k + 1, by omega, by go_num, E.out⟩, by simp [intOf]; omega⟩
    · have e : k = len := by omega
      subst e
      have hnl : ¬ ((k : Int) < k) := by omega
      have cx : wr.cell? ⟨x9, 0, none⟩ = some (.slice (some ⟨c, 0, none⟩) (64 * L) (64 * L)) := by rw [cell_at kx]; rfl
      have OKG := Lib.hid okg
      have HS := Lib.hid hS
      have hcx' : x9 ≠ c := by omega
      have hmx' : x9 ≠ m := by omega
      clear okg hS hu
      go_wp2_with fail
      refine (holds_any b m _ L c (64 * L) g _ OKG.out (by omega) hR hX).mono ?_
      rintro e w5 ⟨rfl, hb5⟩
      have R5 := hR.keep hb5
      have X5 := hX.keep hb5
      have kx5 := keepB hb5 kx
      have ku5 := keepB hb5 ku
      have F5 := hF.step hb5
      clear hR hX kx ku hF cx hb5
      go_wp2_with fail
      refine (clone_v b m _ L g _ HS.out (by omega) (by omega) R5).mono ?_
      rintro e w6 ⟨b2, m2, k2, rfl, C6, hb6, hb2l, hm2l, hk2⟩
      have R6 := R5.keep hb6
      have X6 := X5.keep hb6
      have kx6 := keepB hb6 kx5
      have ku6 := keepB hb6 ku5
      have F6 := F5.step hb6
      have hx5 : x9 < w5.heap.size := lt_of_at kx5
      have hw5 : w.heap.size ≤ w5.heap.size := F5.2
      have cx : w6.cell? ⟨x9, 0, none⟩ = some (.slice (some ⟨c, 0, none⟩) (64 * L) (64 * L)) := by rw [cell_at kx6]; rfl
      have hb5l := lt_of_at R5.1
      have hm5l := R5.2.lt
      have hc5l := X5.1
      have hu5l := lt_of_at ku5
      clear R5 X5 kx5 ku5 F5 hb6
      go_wp2_with fail
      refine (rcopy_v _ h1 (by omega) X6).mono ?_
      rintro e w7 ⟨y, ycap, rfl, Y7, hy7, hb7⟩
      have R7 := (R6.keep hb7).alloc (.cells #[.slice (some ⟨y, 0, none⟩) (64 * L) ycap] 66)
      have C7 := (C6.keep hb7).alloc (.cells #[.slice (some ⟨y, 0, none⟩) (64 * L) ycap] 66)
      have X7 := (X6.keep hb7).alloc (.cells #[.slice (some ⟨y, 0, none⟩) (64 * L) ycap] 66)
      have Y8 := Y7.alloc (.cells #[.slice (some ⟨y, 0, none⟩) (64 * L) ycap] 66)
      have kx7 := keep_alloc (keepB hb7 kx6) (.cells #[.slice (some ⟨y, 0, none⟩) (64 * L) ycap] 66)
      have ku7 := keep_alloc (keepB hb7 ku6) (.cells #[.slice (some ⟨y, 0, none⟩) (64 * L) ycap] 66)
      have ky7 := heap_alloc_new w7 (.cells #[.slice (some ⟨y, 0, none⟩) (64 * L) ycap] 66)
      have F7 := (F6.step hb7).alloc (.cells #[.slice (some ⟨y, 0, none⟩) (64 * L) ycap] 66)
      have hb2r := lt_of_at C6.1
      have hm2r := C6.2.lt
      have hyr := Y7.1
      clear R6 C6 X6 Y7 kx6 ku6 F6 hb7 cx
      go_wp2_with fail
      obtain ⟨w8, hw8⟩ : ∃ w8, w7.alloc (.cells #[.slice (some ⟨y, 0, none⟩) (64 * L) ycap] 66) = w8 := ⟨_, rfl⟩
      obtain ⟨x2, hx2⟩ : ∃ x2, w7.heap.size = x2 := ⟨_, rfl⟩
      rw [hw8] at R7 C7 X7 Y8 kx7 ku7 ky7 F7 ⊢
      rw [hx2] at hyr ky7 ⊢
      clear hw8 hx2
      refine (same_v (q := true) ⟨fun _ _ _ => rfl, fun _ => rfl⟩ _ OKG.out OKG.out HS.out (by omega) C7 R7).mono ?_
      rintro e w9 ⟨rfl, hb9⟩
      have R9 := R7.keep hb9
      have C9 := C7.keep hb9
      have X9 := X7.keep hb9
      have Y9 := Y8.keep hb9
      have kx9 := keepB hb9 kx7
      have ku9 := keepB hb9 ku7
      have ky9 := keepB hb9 ky7
      have F9 := F7.step hb9
      clear R7 C7 X7 Y8 kx7 ku7 ky7 F7 hb9
      have BY := HOB.out.keep F9.1
      have cy : w9.cell? ⟨x2, 0, none⟩ = some (.slice (some ⟨y, 0, none⟩) (64 * L) ycap) := by rw [cell_at ky9]; rfl
      have u0 : w9.cell? ⟨u, 0, none⟩ = some (.int .i64 kd) := by rw [cell_at ku9]; rfl
      have u1 : w9.cell? ⟨u, 1, none⟩ = some (.int .u64 (addr : Int)) := by rw [cell_at ku9]; rfl
      have u2 : w9.cell? ⟨u, 2, none⟩ = some (.int .i64 n) := by rw [cell_at ku9]; rfl
      have u3 : w9.cell? ⟨u, 3, none⟩ = some (.int .u64 (v : Int)) := by rw [cell_at ku9]; rfl
      have u4 : w9.cell? ⟨u, 4, none⟩ = some (.slice a' l' c') := by rw [cell_at ku9]; rfl
      obtain ⟨g', hg'⟩ : ∃ g', doG g L kd addr n v (byteAt w9 a') l' = g' := ⟨_, rfl⟩
      have OK' : Hid (∀ i, OkL (g' i)) := by rw [← hg']; exact doG_ok OKG.out L kd addr n v BY.h8
      have S' : Hid (Supp L g') := by rw [← hg']; exact doG_supp HS.out kd addr n v _ l'
      have HG := Lib.hid hg'
      have BYH := Lib.hid BY
      have NM := Lib.hid (HOB.out.hb.ne (m := m2) (by omega))
      have NC := Lib.hid (HOB.out.hb.ne (m := y) (by omega))
      clear hg' BY
      go_wp2_with fail
      refine (do_any b2 m2 k2 L y ycap addr v l' c' kd n a' g g' _ _ OKG.out HO.out.1 HO.out.2.1 HO.out.2.2 (by omega) hk2 hl' BYH.out.lc BYH.out.hb BYH.out.h8 NM.out NC.out C9 Y9 (by omega) (by omega) HG.out).mono ?_
      rintro e w10 ⟨rfl, C10, Y10, W10⟩
      have R10 := R9.wr2 W10 (by omega) (by omega) (by omega) (by omega)
      have X10 := X9.wr2 W10 (by omega) (by omega)
      have kx10 := W10.2 _ _ (by omega) (by omega) kx9
      have ky10 := W10.2 _ _ (by omega) (by omega) ky9
      have F10 := W10.1 _ _ (by omega) (by omega) F9
      clear R9 C9 X9 Y9 kx9 ku9 ky9 F9 W10 cy u0 u1 u2 u3 u4 NM NC BYH HG
      obtain ⟨q, hq⟩ : ∃ q, eqB (fl g) (fl g') (64 * L) = q := ⟨_, rfl⟩
      have SQ : Hid (IffB q (SameG g' g)) := by
        show _ ↔ _
        rw [← hq]; exact (sameG_eqB HS.out S'.out (by omega)).symm
      have EQ := Lib.hid hq
      have X8 : Hid (∀ i, fl g i < 256) := fun i => fl_ok OKG.out i
      have Y8' : Hid (∀ i, fl g' i < 256) := fun i => fl_ok OK'.out i
      have RR := Lib.hid (R10.keep (Fr.refl w10).drew.1)
      have CC := Lib.hid (C10.keep (Fr.refl w10).drew.1)
      have XX := Lib.hid (X10.keep (Fr.refl w10).drew.1)
      have YY := Lib.hid (Y10.keep (Fr.refl w10).drew.1)
      have FF := Lib.hid F10.drew
      have cx : w10.cell? ⟨x9, 0, none⟩ = some (.slice (some ⟨c, 0, none⟩) (64 * L) (64 * L)) := by rw [cell_at kx10]; rfl
      have cy : w10.cell? ⟨x2, 0, none⟩ = some (.slice (some ⟨y, 0, none⟩) (64 * L) ycap) := by rw [cell_at ky10]; rfl
      have hWr := (Fr.refl w10).drew
      clear hq R10 C10 X10 Y10 kx10 ky10 F10
      cases q
      all_goals
        go_wp2_with fail
        go_region_held3 (fun w' => Fr w10.heap.size w10 w' ∧ w'.cell? ⟨x9, 0, none⟩ = some (.slice (some ⟨c, 0, none⟩) (64 * L) (64 * L)) ∧ w'.cell? ⟨x2, 0, none⟩ = some (.slice (some ⟨y, 0, none⟩) (64 * L) ycap))
          (first | exact ⟨hWr, cx, cy⟩ | exact held2 HB5 ‹_› | exact held2 HB4 ‹_› | exact held2 HB3 ‹_› | exact held2 HB2 ‹_› | exact held2 HB1 ‹_›)
          (first
            | (go_at_call 34; (with_reducible refine (holds_any b2 m2 _ L y ycap g' _ OK'.out (by omega) CC.out YY.out).mono ?_); rintro e wa ⟨rfl, HB1⟩)
            | (go_at_call 34; (with_reducible refine (holds_any b m _ L c (64 * L) g _ OKG.out (by omega) (RR.out.keep HB1) (XX.out.keep HB1)).mono ?_); rintro e wb ⟨rfl, HB2⟩)
            | (go_at_call 28; (with_reducible refine (same_v (iffB SQ.out) _ OK'.out OKG.out S'.out (by omega) ((CC.out.keep HB1).keep HB2) ((RR.out.keep HB1).keep HB2)).mono ?_); rintro e wc ⟨rfl, HB3⟩)
            | (go_at_call 28; (with_reducible refine (same_v (iffB SQ.out) _ OK'.out OKG.out S'.out (by omega) (((CC.out.keep HB1).keep HB2).keep HB4) (((RR.out.keep HB1).keep HB2).keep HB4)).mono ?_); rintro e wc ⟨rfl, HB3⟩)
            | (go_at_call 36; (with_reducible refine (rsame_any c (64 * L) y ycap L (fl g) (fl g') _ _ (by omega) X8.out Y8'.out (((XX.out.keep HB1).keep HB2).keep HB3) (((YY.out.keep HB1).keep HB2).keep HB3) EQ.out).mono ?_); rintro e wd ⟨rfl, HB4⟩)
            | (go_at_call 36; (with_reducible refine (rsame_any c (64 * L) y ycap L (fl g) (fl g') _ _ (by omega) X8.out Y8'.out ((XX.out.keep HB1).keep HB2) ((YY.out.keep HB1).keep HB2) EQ.out).mono ?_); rintro e wd ⟨rfl, HB4⟩)
            | (go_at_call 30; (with_reducible refine (live10_any _).mono ?_); rintro e we ⟨rfl, HB5⟩))
        all_goals
          first | have E := Lib.hid (((((FF.out.step HB1).step HB2).step HB3).step HB4).step HB5) | have E := Lib.hid (((((FF.out.step HB1).step HB2).step HB4).step HB3).step HB5)
          clear HB1 HB2 HB3 HB4 HB5
          go_wp2
          go_ret
          exact ⟨rfl, E.out.1⟩
end Go.Proofs.Ytbboaekfhdeolaa

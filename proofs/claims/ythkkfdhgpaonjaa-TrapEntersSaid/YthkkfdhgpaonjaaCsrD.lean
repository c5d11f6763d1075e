/- The contracts of csr.Known, Name, Find, Least, ReadOnly, May, and of the document's. -/
import Derived.Test.YthkkfdhgpaonjaaCsrC
namespace Go.Proofs.Ythkkfdhgpaonjaa
open Go.RowKit
set_option linter.unusedSimpArgs false
set_option linter.unusedVariables false

theorem tab_range : ∀ r ∈ tab19, 256 ≤ r.1 ∧ r.1 ≤ 3860 := by decide
theorem row19_some {n : Int} {r : Int × ByteArray × Nat} (h : row19 n = some r) : r.1 = n ∧ 256 ≤ n ∧ n ≤ 3860 := by
  have h1 : r.1 = n := by simpa using List.find?_some h
  have h2 := tab_range r (List.mem_of_find?_eq_some h)
  omega
def knownB (n : Int) : Bool := (row19 n).isSome
def nameOf19 (n : Int) : ByteArray := match row19 n with | some r => r.2.1 | none => ⟨#[]⟩
def leastOf (n : Int) : Int := if knownB n = true then n / 256 % 4 else 3
def roOf (n : Int) : Bool := knownB n && decide (n / 1024 % 4 = 3)
def mayB (n p : Int) (wr : Bool) : Bool := (decide (p = 0) || decide (p = 1) || decide (p = 3)) && knownB n && decide (leastOf n ≤ p) && !(wr && roOf n)

theorem ofInt_i64 (a : Nat) (ha : a < 9223372036854775808) : (BitVec.ofInt 64 (a : Int)).toNat = a := by
  rw [BitVec.ofInt_natCast, BitVec.toNat_ofNat]; exact Nat.mod_eq_of_lt (by omega)
theorem i64_and3 (n : Int) (h0 : 0 ≤ n) (h1 : n < 4096) : bits .and .i64 n 3 = n % 4 := by
  obtain ⟨a, rfl⟩ := Int.eq_ofNat_of_zero_le h0
  have hx : a &&& 3 < 2 ^ 63 := Nat.and_lt_two_pow _ (by omega)
  show IntKind.i64.wrap ((BitVec.ofInt 64 (a : Int) &&& BitVec.ofInt 64 ((3 : Nat) : Int)).toNat : Int) = _
  rw [BitVec.toNat_and, ofInt_i64 a (by omega), ofInt_i64 3 (by omega), IntKind.wrap_i64]
  have e : a &&& 3 = a % 4 := Nat.and_two_pow_sub_one_eq_mod (n := 2) _
  rw [e]
  omega

theorem cat_none {n : Int} (h : row19 n = none) (w : World) : Calls Try.prog 78 #[.int .i64 n] w fun e w' => e = .returned (.tuple #[.agg #[.int .i64 0, .string ⟨#[]⟩, .int .u64 0], .bool false]) ∧ Below w.heap.size w w' :=
  (cat_any n w).mono fun e w' ⟨he, hb⟩ => ⟨by rw [he, h]; rfl, hb⟩
theorem cat_some {n : Int} {r : Int × ByteArray × Nat} (h : row19 n = some r) (w : World) : Calls Try.prog 78 #[.int .i64 n] w fun e w' => e = .returned (.tuple #[.agg #[.int .i64 r.1, .string r.2.1, .int .u64 r.2.2], .bool true]) ∧ Below w.heap.size w w' :=
  (cat_any n w).mono fun e w' ⟨he, hb⟩ => ⟨by rw [he, h]; rfl, hb⟩
theorem rof_none {n : Int} (h : row19 n = none) (w : World) : Calls Try.prog 25 #[.int .i64 n] w fun e w' => e = .returned (.agg #[.int .i64 0, .string ⟨#[]⟩, .int .u64 0]) ∧ Below w.heap.size w w' :=
  (rof_row n w).mono fun e w' ⟨he, hb⟩ => ⟨by rw [he]; unfold rrowV; rw [h], hb⟩
theorem rof_some {n : Int} {r : Int × ByteArray × Nat} (h : row19 n = some r) (w : World) : Calls Try.prog 25 #[.int .i64 n] w fun e w' => e = .returned (.agg #[.int .i64 n, .string r.2.1, .int .u64 r.2.2]) ∧ Below w.heap.size w w' :=
  (rof_row n w).mono fun e w' ⟨he, hb⟩ => ⟨by rw [he]; unfold rrowV; rw [h, ← (row19_some h).1], hb⟩

theorem known19_any (n : Int) (w : World) :
    Calls Try.prog 28 #[.int .i64 n] w fun e w' => e = .returned (.bool (knownB n)) ∧ Below w.heap.size w w' := by
  cases hr : row19 n with
  | none =>
    have H : Hid (knownB n = false) := by show _ = _; unfold knownB; rw [hr]; rfl
    have HR := Lib.hid hr
    clear hr
    go_enter Try.func28, Try.ntmps28
    go_wp2_with fail
    refine (cat_none HR.out _).mono ?_
    rintro e w1 ⟨rfl, hb1⟩
    go_wp2
    go_ret
    exact ⟨by rw [H.out]; rfl, (((Fr.refl w).step hb1).alloc _).1⟩
  | some r =>
    have H : Hid (knownB n = true) := by show _ = _; unfold knownB; rw [hr]; rfl
    have HR := Lib.hid hr
    clear hr
    go_enter Try.func28, Try.ntmps28
    go_wp2_with fail
    refine (cat_some HR.out _).mono ?_
    rintro e w1 ⟨rfl, hb1⟩
    go_wp2
    go_ret
    exact ⟨by rw [H.out]; rfl, (((Fr.refl w).step hb1).alloc _).1⟩
theorem known_v {n : Int} {b : Bool} (h : knownB n = b) (w : World) : Calls Try.prog 28 #[.int .i64 n] w fun e w' => e = .returned (.bool b) ∧ Below w.heap.size w w' := by
  rw [← h]; exact known19_any n w

theorem name19_any (n : Int) (w : World) :
    Calls Try.prog 29 #[.int .i64 n] w fun e w' => e = .returned (.string (nameOf19 n)) ∧ Below w.heap.size w w' := by
  cases hr : row19 n with
  | none =>
    have H : Hid (nameOf19 n = ⟨#[]⟩) := by show _ = _; unfold nameOf19; rw [hr]
    have HR := Lib.hid hr
    clear hr
    go_enter Try.func29, Try.ntmps29
    go_wp2_with fail
    refine (cat_none HR.out _).mono ?_
    rintro e w1 ⟨rfl, hb1⟩
    go_wp2
    go_ret
    exact ⟨by rw [H.out]; rfl, (((Fr.refl w).step hb1).alloc _).1⟩
  | some r =>
    have H : Hid (nameOf19 n = r.2.1) := by show _ = _; unfold nameOf19; rw [hr]
    have HR := Lib.hid hr
    clear hr
    go_enter Try.func29, Try.ntmps29
    go_wp2_with fail
    refine (cat_some HR.out _).mono ?_
    rintro e w1 ⟨rfl, hb1⟩
    go_wp2
    go_ret
    exact ⟨by rw [H.out]; rfl, (((Fr.refl w).step hb1).alloc _).1⟩

theorem least_any (n : Int) (w : World) :
    Calls Try.prog 30 #[.int .i64 n] w fun e w' => e = .returned (.int .i64 (leastOf n)) ∧ Below w.heap.size w w' := by
  cases hk : knownB n with
  | false =>
    have H : Hid (leastOf n = 3) := by show _ = _; unfold leastOf; rw [hk]; rfl
    have HK := Lib.hid hk
    clear hk
    go_enter Try.func30, Try.ntmps30
    go_wp2_with fail
    refine (known_v HK.out _).mono ?_
    rintro e w1 ⟨rfl, hb1⟩
    go_wp2
    go_ret
    exact ⟨val_i64 (by rw [H.out]), hb1⟩
  | true =>
    have H : Hid (leastOf n = n / 256 % 4) := by show _ = _; unfold leastOf; rw [hk]; rfl
    have hb : 256 ≤ n ∧ n ≤ 3860 := by
      unfold knownB at hk
      obtain ⟨r, hr⟩ := Option.isSome_iff_exists.1 hk
      exact (row19_some hr).2
    have h3 := i64_and3 (n / 256) (by omega) (by omega)
    obtain ⟨hb0, hb1⟩ := hb
    have HK := Lib.hid hk
    clear hk
    go_enter Try.func30, Try.ntmps30
    go_wp2_with fail
    refine (known_v HK.out _).mono ?_
    rintro e w1 ⟨rfl, hb1⟩
    go_wp2
    go_ret
    exact ⟨val_i64 (by rw [H.out]), hb1⟩
theorem ro_any (n : Int) (w : World) :
    Calls Try.prog 32 #[.int .i64 n] w fun e w' => e = .returned (.bool (roOf n)) ∧ Below w.heap.size w w' := by
  cases hk : knownB n with
  | false =>
    have H : Hid (roOf n = false) := by show _ = _; unfold roOf; rw [hk]; rfl
    have HK := Lib.hid hk
    clear hk
    go_enter Try.func32, Try.ntmps32
    go_wp2_with fail
    refine (known_v HK.out _).mono ?_
    rintro e w1 ⟨rfl, hb1⟩
    go_wp2
    go_ret
    exact ⟨by rw [H.out]; rfl, hb1⟩
  | true =>
    have hb : 256 ≤ n ∧ n ≤ 3860 := by
      unfold knownB at hk
      obtain ⟨r, hr⟩ := Option.isSome_iff_exists.1 hk
      exact (row19_some hr).2
    have h3 := i64_and3 (n / 1024) (by omega) (by omega)
    obtain ⟨hb0, hb1⟩ := hb
    have H : Hid (roOf n = (n / 1024 % 4 == 3)) := by show _ = _; unfold roOf; rw [hk, Bool.true_and]; rfl
    have HK := Lib.hid hk
    clear hk
    go_enter Try.func32, Try.ntmps32
    go_wp2_with fail
    refine (known_v HK.out _).mono ?_
    rintro e w1 ⟨rfl, hb1⟩
    go_wp2
    go_ret
    exact ⟨by rw [H.out]; rfl, hb1⟩
theorem run_field0 (a b c : Value) (w : World) : (Instr.field 52 (.agg #[a, b, c]) 0).run Try.prog w = .ok a w := by kernel_rfl
theorem rleast_any (n : Int) (w : World) :
    Calls Try.prog 31 #[.int .i64 n] w fun e w' => e = .returned (.int .i64 (leastOf n)) ∧ Below w.heap.size w w' := by
  have hf0 := run_field0
  cases hr : row19 n with
  | none =>
    have H : Hid (leastOf n = 3) := by show _ = _; unfold leastOf knownB; rw [hr]; rfl
    have HR := Lib.hid hr
    clear hr
    go_enter Try.func31, Try.ntmps31
    go_wp2_with fail
    refine (rof_none HR.out _).mono ?_
    rintro e w1 ⟨rfl, hb1⟩
    go_wp2
    go_ret
    exact ⟨val_i64 (by rw [H.out]), hb1⟩
  | some r =>
    have H : Hid (leastOf n = n / 256 % 4) := by show _ = _; unfold leastOf knownB; rw [hr]; rfl
    obtain ⟨-, hb0, hb1⟩ := row19_some hr
    have n0 : (n == 0) = false := by simp; omega
    have HR := Lib.hid hr
    clear hr
    go_enter Try.func31, Try.ntmps31
    go_wp2_with fail
    refine (rof_some HR.out _).mono ?_
    rintro e w1 ⟨rfl, hb1⟩
    go_wp2
    go_ret
    exact ⟨val_i64 (by rw [H.out]), hb1⟩
theorem rro_any (n : Int) (w : World) :
    Calls Try.prog 33 #[.int .i64 n] w fun e w' => e = .returned (.bool (roOf n)) ∧ Below w.heap.size w w' := by
  have hf0 := run_field0
  cases hr : row19 n with
  | none =>
    have H : Hid (roOf n = false) := by show _ = _; unfold roOf knownB; rw [hr]; rfl
    have HR := Lib.hid hr
    clear hr
    go_enter Try.func33, Try.ntmps33
    go_wp2_with fail
    refine (rof_none HR.out _).mono ?_
    rintro e w1 ⟨rfl, hb1⟩
    go_wp2
    go_ret
    exact ⟨by rw [H.out]; rfl, hb1⟩
  | some r =>
    have H : Hid (roOf n = (n / 1024 % 4 == 3)) := by show _ = _; unfold roOf knownB; rw [hr]; rfl
    obtain ⟨-, hb0, hb1⟩ := row19_some hr
    have n0 : (n != 0) = true := by simp; omega
    have HR := Lib.hid hr
    clear hr
    go_enter Try.func33, Try.ntmps33
    go_wp2_with fail
    refine (rof_some HR.out _).mono ?_
    rintro e w1 ⟨rfl, hb1⟩
    go_wp2
    go_ret
    exact ⟨by rw [H.out]; rfl, hb1⟩
set_option maxRecDepth 100000 in
set_option maxHeartbeats 2000000 in
theorem find_find (p : Int × ByteArray × Nat → Bool) (b : Nat) (w : World)
    (hcl : ∀ (r : Int × ByteArray × Nat) (wx : World), Below w.heap.size w wx → Calls Try.prog 80 #[.agg #[.int .i64 r.1, .string r.2.1, .int .u64 r.2.2], .pointer (some ⟨b, 0, none⟩)] wx fun e w' => e = .returned (.bool (p r)) ∧ Below wx.heap.size wx w') :
    Calls Try.prog 79 #[.func (.func 80) #[] #[.pointer (some ⟨b, 0, none⟩)]] w fun e w' => e = .returned (optRow (tab19.find? p)) ∧ Below w.heap.size w w' := by
  have HCL := Lib.hid hcl
  clear hcl
  go_enter Try.func79, Try.ntmps79
  go_wp2_with (go_at_call 82; refine (crows_any _).mono ?_; rintro e w' ⟨rfl, rfl⟩)
  obtain ⟨w1, hw1⟩ : ∃ w1, w1 = (w.alloc (.cells #[.int .i64 0, .string ⟨#[]⟩, .int .u64 0] 129)).alloc (.cells cells19 129) := ⟨_, rfl⟩
  have hf : Fr (w.heap.size + 1) (w.alloc (.cells #[.int .i64 0, .string ⟨#[]⟩, .int .u64 0] 129)) w1 := by rw [hw1]; simpa using (Fr.refl (w.alloc (.cells #[.int .i64 0, .string ⟨#[]⟩, .int .u64 0] 129))).alloc _
  have hh : w1.heap[w.heap.size + 1]? = some (.cells cells19 129) := by rw [hw1]; simpa using @heap_alloc_new (w.alloc (.cells #[.int .i64 0, .string ⟨#[]⟩, .int .u64 0] 129)) (.cells cells19 129)
  rw [← hw1]
  clear hw1
  go_loopw [8] (fun i wr => ∃ k : Nat, k ≤ 34 ∧ i = .int .i64 k ∧ Hid ((tab19.drop k).find? p = tab19.find? p) ∧ Fr (w.heap.size + 1) (w.alloc (.cells #[.int .i64 0, .string ⟨#[]⟩, .int .u64 0] 129)) wr ∧ wr.heap[w.heap.size + 1]? = some (.cells cells19 129)) (fun i _ => 34 - (intOf i).toNat)
  case atStart => exact ⟨0, by omega, rfl, rfl, hf, hh⟩
  case round =>
    obtain ⟨k, hk, rfl, H, hfr, hhr⟩ := hrel
    have hr0 : wr.heap[w.heap.size]? = some (.cells #[.int .i64 0, .string ⟨#[]⟩, .int .u64 0] 129) := heapAt hfr.1 (heap_alloc_new _ _) (by omega)
    obtain ⟨z0, z1, z2, zl, zf⟩ := known3 hr0
    have hB := fr_out' hfr
    by_cases hlt : k < 34
    · obtain ⟨c0, c1, c2⟩ := cells19_at hhr k hlt
      obtain ⟨r, hr⟩ : ∃ r, r = tab19.getD k default := ⟨_, rfl⟩
      have HS := step19 p k hlt
      rw [← hr] at c0 c1 c2 HS
      have HH : Hid (tab19.find? p = if p r = true then some r else (tab19.drop (k + 1)).find? p) := by rw [← H.out]; exact HS
      clear HS hr H
      go_wp2_with fail
      refine (HCL.out r _ (hB.alloc _).1).mono ?_
      rintro e w2 ⟨rfl, hb2⟩
      have hnew := keepB hb2 (heap_alloc_new _ _)
      have hold := keepB hb2 (keep_alloc hr0 _)
      have htab := keepB hb2 (keep_alloc hhr _)
      obtain ⟨y0, y1, y2, yl, yf⟩ := known3 hold
      obtain ⟨n0, n1, n2, nl, nf⟩ := known3 hnew
      have hC := (hB.alloc (.cells #[.int .i64 r.1, .string r.2.1, .int .u64 r.2.2] 129)).step hb2
      go_wp2
      · have h1 : p r = true := by assumption
        refine bodyPost_ret (v := .tuple #[.agg #[.int .i64 r.1, .string r.2.1, .int .u64 r.2.2], .bool true]) (by simp [results, Try.results79, go_sem, y0, y1, y2, yl]) rfl ⟨?_, ?_⟩
        · rw [HH.out, if_pos h1]; rfl
        · refine Fr.below ?_; repeat (first | exact hC | refine Fr.alloc ?_ _ | refine Fr.drew ?_ | refine Fr.setCell ?_ (by simp) _)
      · have h1 : p r = false := by assumption
        go_roundw
        case rel => exact ⟨k + 1, by omega, by go_num, by rw [HH.out, if_neg (by rw [h1]; simp)]; rfl, (hfr.alloc _).step hb2, htab⟩
        case measure => simp [intOf]; omega
    · obtain rfl : k = 34 := by omega
      go_wp2
      refine bodyPost_ret (v := .tuple #[.agg #[.int .i64 0, .string ⟨#[]⟩, .int .u64 0], .bool false]) (by simp [results, Try.results79, go_sem, z0, z1, z2, zl]) rfl ⟨?_, ?_⟩
      · rw [← H.out]; rfl
      · refine Fr.below ?_; repeat (first | exact hB | refine Fr.alloc ?_ _ | refine Fr.drew ?_ | refine Fr.setCell ?_ (by simp) _)


theorem find1_any (s u : ByteArray) (m : Int) (x : Nat) (b : Nat) (w : World) (hb : w.cell? ⟨b, 0, none⟩ = some (.string u)) :
    Calls Try.prog 80 #[.agg #[.int .i64 m, .string s, .int .u64 (x : Int)], .pointer (some ⟨b, 0, none⟩)] w fun e w' => e = .returned (.bool (s.toList == u.toList)) ∧ Below w.heap.size w w' := by
  have hlt := (hcell' (Below.refl _ w) hb).1
  go_enter Try.func80, Try.ntmps80
  go_wp2
  go_ret
  exact ⟨rfl, ((Fr.refl w).alloc _).1⟩

def numOf (l : List UInt8) : Int := match name19 l with | some r => r.1 | none => 0
theorem numOf_known (l : List UInt8) : (name19 l).isSome = (numOf l != 0) := by
  unfold numOf
  cases h : name19 l with
  | none => rfl
  | some r =>
    have h2 := tab_range r (List.mem_of_find?_eq_some h)
    simp
    omega

theorem cfind19_any (s : ByteArray) (w : World) :
    Calls Try.prog 26 #[.string s] w fun e w' => e = .returned (.tuple #[.int .i64 (numOf s.toList), .bool (numOf s.toList != 0)]) ∧ Below w.heap.size w w' := by
  obtain ⟨r1, r2, hr⟩ : ∃ (s' : ByteArray) (x : Nat), optRow (name19 s.toList) = .tuple #[.agg #[.int .i64 (numOf s.toList), .string s', .int .u64 (x : Int)], .bool (numOf s.toList != 0)] := by
    rw [← numOf_known]
    unfold numOf
    cases name19 s.toList with
    | none => exact ⟨⟨#[]⟩, 0, rfl⟩
    | some r => exact ⟨r.2.1, r.2.2, rfl⟩
  have HR := Lib.hid hr
  clear hr
  go_enter Try.func26, Try.ntmps26
  go_wp2_with fail
  have hcell0 : (w.alloc (.cells #[.string s] 9)).cell? ⟨w.heap.size, 0, none⟩ = some (.string s) := by
    rw [cell_at (heap_alloc_new w (.cells #[.string s] 9))]; rfl
  refine (find_find (fun r => r.2.1.toList == s.toList) w.heap.size _ (fun r wx hbx => ?_)).mono ?_
  · have hc := (hbx.cell (p := ⟨w.heap.size, 0, none⟩) (by simp)).trans hcell0
    exact find1_any r.2.1 s r.1 r.2.2 w.heap.size wx hc
  rw [show tab19.find? (fun r => r.2.1.toList == s.toList) = name19 s.toList from rfl, HR.out]
  rintro e w1 ⟨rfl, hb1⟩
  have hC := ((Fr.refl w).alloc _).step hb1
  go_wp2
  go_ret2
  exact ⟨rfl, (hC.alloc _).1⟩

set_option maxRecDepth 100000 in
set_option maxHeartbeats 2000000 in
theorem number_any (s : ByteArray) (w : World) :
    Calls Try.prog 27 #[.string s] w fun e w' => e = .returned (.int .i64 (numOf s.toList)) ∧ Below w.heap.size w w' := by
  go_enter Try.func27, Try.ntmps27
  go_wp2_with (go_at_call 37; refine (rrows_any _).mono ?_; rintro e w' ⟨rfl, rfl⟩)
  obtain ⟨w1, hw1⟩ : ∃ w1, w1 = w.alloc (.cells cells19 52) := ⟨_, rfl⟩
  have hf : Fr w.heap.size w w1 := by rw [hw1]; exact (Fr.refl w).alloc _
  have hh : w1.heap[w.heap.size]? = some (.cells cells19 52) := by rw [hw1]; exact heap_alloc_new _ _
  rw [← hw1]
  clear hw1
  go_loop [4] (fun i => ∃ k : Nat, k ≤ 34 ∧ i = .int .i64 k ∧ Hid ((tab19.drop k).find? (fun r => r.2.1.toList == s.toList) = name19 s.toList)) (fun i => 34 - (intOf i).toNat)
  case atStart => exact ⟨0, by omega, rfl, rfl⟩
  case round =>
    obtain ⟨k, hk, rfl, H⟩ := hrel
    by_cases hlt : k < 34
    · obtain ⟨c0, c1, c2⟩ := cells19_at hh k hlt
      obtain ⟨r, hr⟩ : ∃ r, r = tab19.getD k default := ⟨_, rfl⟩
      have HS := step19 (fun r => r.2.1.toList == s.toList) k hlt
      rw [← hr] at c0 c1 c2 HS
      have HH : Hid (name19 s.toList = if (r.2.1.toList == s.toList) = true then some r else (tab19.drop (k + 1)).find? (fun r => r.2.1.toList == s.toList)) := by rw [← H.out]; exact HS
      clear HS hr H
      go_wp2
      · have h1 : (r.2.1.toList == s.toList) = true := by assumption
        go_ret
        exact ⟨by unfold numOf; rw [HH.out, if_pos h1]; rfl, hf.1⟩
      · have h1 : (r.2.1.toList == s.toList) = false := by assumption
        go_round
        case rel => exact ⟨k + 1, by omega, by go_num, by rw [HH.out, if_neg (by rw [h1]; simp)]; rfl⟩
        case measure => simp [intOf]; omega
    · obtain rfl : k = 34 := by omega
      go_wp2
      go_ret
      exact ⟨by unfold numOf; rw [← H.out]; rfl, hf.1⟩
end Go.Proofs.Ythkkfdhgpaonjaa

import Derived.Test.YthkkfdhgpaonjaaBit
import Derived.Test.YthkkfdhgpaonjaaMHeld
import Derived.Lib.Hide
/- The contract of roebuckref01.in. -/
namespace Go.Proofs.Ythkkfdhgpaonjaa
open Go.RowKit
set_option linter.unusedSimpArgs false
set_option linter.unusedVariables false

def IntB (a : Int) : Prop := -9223372036854775808 ≤ a ∧ a ≤ 9223372036854775807

theorem sub_u64 (at_ bit : Int) (ha : IntB at_) (hb : IntB bit) (h : at_ ≤ bit) : IntKind.u64.wrap (IntKind.u64.wrap bit - IntKind.u64.wrap at_) = bit - at_ := by
  unfold IntB at ha hb
  simp only [IntKind.wrap_u64]
  omega

def inB (at_ size bit : Int) : Bool := decide (1 ≤ size) && decide (at_ ≤ bit) && decide (bit - at_ < size)
def inK (at_ size bit : Int) : Int := if inB at_ size bit then (if 1000 < bit - at_ then 1000 else bit - at_) else 0

set_option maxRecDepth 100000 in
theorem in_any (at_ size bit : Int) (w : World) (ha : IntB at_) (hs : IntB size) (hb : IntB bit) :
    Calls Try.prog 110 #[.int .i64 at_, .int .i64 size, .int .i64 bit] w fun e w' => e = .returned (.tuple #[.int .i64 (inK at_ size bit), .bool (inB at_ size bit)]) ∧ w = w' := by
  by_cases h1 : size < 1
  · have H : Hid (inB at_ size bit = false) := by show _ = _; unfold inB; simp; omega
    have HK : Hid (inK at_ size bit = 0) := by show _ = _; unfold inK; rw [H.out]; simp
    clear ha hs hb
    go_enter Try.func110, Try.ntmps110
    go_wp2
    go_ret2
    exact ⟨by rw [H.out, HK.out]; rfl, rfl⟩
  · by_cases h2 : bit < at_
    · have H : Hid (inB at_ size bit = false) := by show _ = _; unfold inB; simp; omega
      have HK : Hid (inK at_ size bit = 0) := by show _ = _; unfold inK; rw [H.out]; simp
      clear ha hs hb
      go_enter Try.func110, Try.ntmps110
      go_wp2
      go_ret2
      exact ⟨by rw [H.out, HK.out]; rfl, rfl⟩
    · have E := sub_u64 at_ bit ha hb (by omega)
      have E2 : IntKind.u64.wrap size = size := by unfold IntB at hs; rw [IntKind.wrap_u64]; omega
      have hd : bit - at_ < 18446744073709551616 := by unfold IntB at ha hb; omega
      obtain ⟨dd, hdd⟩ : ∃ dd, dd = bit - at_ := ⟨_, rfl⟩
      rw [← hdd] at E
      have h0 : 0 ≤ dd := by omega
      by_cases h3 : size ≤ dd
      · have H : Hid (inB at_ size bit = false) := by show _ = _; unfold inB; simp; omega
        have HK : Hid (inK at_ size bit = 0) := by show _ = _; unfold inK; rw [H.out]; simp
        clear hdd hd ha hs hb
        go_enter Try.func110, Try.ntmps110
        go_wp2
        go_ret2
        exact ⟨by rw [H.out, HK.out]; rfl, rfl⟩
      · have H : Hid (inB at_ size bit = true) := by show _ = _; unfold inB; simp; omega
        have hk : Hid (inK at_ size bit = if 1000 < dd then 1000 else dd) := by show _ = _; unfold inK; rw [H.out, hdd]; simp
        clear hdd hd ha hs hb
        by_cases h4 : 1000 < dd
        · go_enter Try.func110, Try.ntmps110
          go_wp2
          go_ret2
          exact ⟨by rw [H.out, hk.out, if_pos h4]; rfl, rfl⟩
        · go_enter Try.func110, Try.ntmps110
          go_wp2
          go_ret2
          exact ⟨by rw [H.out, hk.out, if_neg (by omega)]; rfl, rfl⟩

/-- The word of bits. -/
def mkW (f : Nat → Bool) : Nat → Nat
  | 0 => 0
  | n + 1 => mkW f n + (f n).toNat * 2 ^ n
theorem mkW_lt (f : Nat → Bool) : ∀ n, mkW f n < 2 ^ n
  | 0 => by simp [mkW]
  | n + 1 => by
    have := mkW_lt f n
    rw [mkW, Nat.pow_succ]
    cases f n <;> simp <;> omega
theorem mkW_bit (f : Nat → Bool) : ∀ n i, (mkW f n).testBit i = (decide (i < n) && f i)
  | 0, i => by simp [mkW]
  | n + 1, i => by
    have hl := mkW_lt f n
    have ih := mkW_bit f n i
    have e : mkW f (n + 1) = 2 ^ n * (f n).toNat + mkW f n := by rw [mkW, Nat.mul_comm, Nat.add_comm]
    rw [e, Nat.testBit_two_pow_mul_add _ hl]
    by_cases h : i < n
    · rw [if_pos h, ih]; simp [h, Nat.lt_succ_of_lt h]
    · rw [if_neg h]
      by_cases h2 : i = n
      · subst h2; cases f i <;> simp
      · have h3 : ¬ i < n + 1 := by omega
        have : i - n ≠ 0 := by omega
        cases f n
        · simp [h3]
        · have e1 : (true.toNat).testBit (i - n) = false := by
            refine Nat.testBit_lt_two_pow ?_
            have := Nat.pow_le_pow_right (n := 2) (by omega) (show 1 ≤ i - n by omega)
            simp at this ⊢
            omega
          rw [e1]; simp [h3]
abbrev W64 (f : Nat → Bool) : Nat := mkW f 64
theorem W64_lt (f : Nat → Bool) : W64 f < 18446744073709551616 := mkW_lt f 64
end Go.Proofs.Ythkkfdhgpaonjaa
/- The contract of roebuckref01.Of at 64 bits. -/
namespace Go.Proofs.Ythkkfdhgpaonjaa
open Go.RowKit
set_option linter.unusedSimpArgs false
set_option linter.unusedVariables false

theorem div_step (X k : Nat) : 2 * (X / 2 ^ (k + 1)) + (X.testBit k).toNat = X / 2 ^ k := by
  rw [Nat.testBit_eq_decide_div_mod_eq, Nat.pow_succ, ← Nat.div_div_eq_div_mul]
  generalize X / 2 ^ k = y
  by_cases h : y % 2 = 1
  · simp [h]; omega
  · have : y % 2 = 0 := by omega
    simp [this]; omega

/-- 'Of' at 64 bits: the word whose bits they are. -/
theorem of_any (X : Nat) (hX : X < 18446744073709551616) (b cap : Nat) (w : World) (hc : ∀ k, k < 64 → w.cell? ⟨b, k, none⟩ = some (.int .u64 ((X.testBit k).toNat : Nat))) :
    Calls Try.prog 75 #[.slice (some ⟨b, 0, none⟩) 64 cap] w fun e w' => e = .returned (.int .u64 (X : Int)) ∧ w = w' := by
  go_enter Try.func75, Try.ntmps75
  go_wp2
  go_loop [3, 4] (fun y i => ∃ (k z : Nat), k ≤ 64 ∧ i = .int .i64 ((k : Int) - 1) ∧ y = .int .u64 (z : Int) ∧ z ≤ X ∧ Hid (z = X / 2 ^ k)) (fun _ i => (intOf i + 1).toNat)
  case atStart => exact ⟨64, 0, by omega, rfl, rfl, by omega, by show _ = _; rw [Nat.div_eq_of_lt (by simpa using hX)]⟩
  case round =>
    obtain ⟨k, z, hk, rfl, rfl, hz, H⟩ := hrel
    rcases k with _ | k
    · go_wp2
      go_ret
      exact ⟨val_u64 (by rw [H.out]; simp), rfl⟩
    · have hcell := hc k (by omega)
      have hd := div_step X k
      rw [← H.out] at hd
      have hzb : 2 * z + (X.testBit k).toNat ≤ X := by rw [hd]; exact Nat.div_le_self _ _
      have HD := Lib.hid hd
      clear hd
      obtain ⟨t, ht⟩ : ∃ t, t = (X.testBit k).toNat := ⟨_, rfl⟩
      rw [← ht] at hcell hzb HD
      clear ht
      have e1 : ((k + 1 : Nat) : Int) - 1 = k := by omega
      rw [e1]
      clear e1
      go_wp2
      go_round
      case rel => exact ⟨k, 2 * z + t, by omega, rfl, by go_num, by omega, HD.out⟩
      case measure => simp [intOf]

theorem info_u64 : (Try.prog.info? 25).map (fun i => (i.zero, i.size, i.bytes)) = some (some (.int .u64 0), 1, 8) := by kernel_rfl

/-- A row that the call owns, as cells. -/
theorem own_cells {w : World} {base : Nat} {e : TypeId} {v : Value} {n : Nat} {xs : List Value} (h : w.ownsRow base e 1 v n xs) (hn : 0 < n) :
    ∃ g cap, v = .slice (some ⟨g, 0, none⟩) n cap ∧ base ≤ g ∧ ∀ k, k < n → w.cell? ⟨g, k, none⟩ = xs[k]? := by
  obtain ⟨h1, h2⟩ := h
  rcases h2 with ⟨_, hx⟩ | ⟨g, cap, cur, hv, hg, hh, hnc, hcm, hcs, htk⟩
  · omega
  · refine ⟨g, cap, hv, hg, fun k hk => ?_⟩
    rw [cell_at hh, ← htk]
    rw [List.getElem?_take, if_pos (by omega)]
    simp

theorem one_new (w : World) (x : Value) (t : TypeId) : ∀ (j : Nat) (u : Value), [x][j]? = some u → (w.alloc (.cells #[x] t)).cell? (Addr.add ⟨w.heap.size, 0, none⟩ j) = some u := by
  intro j u hj
  match j, hj with
  | 0, hj => simp at hj; subst hj; simp [Addr.add]
theorem one_cell {k : IntKind} (x : Int) : ∀ u ∈ [Value.int k x], u.oneCell' = true := by
  intro u hu; simp at hu; subst hu; rfl
theorem own_ge {w : World} {base : Nat} {e : TypeId} {size : Nat} {v : Value} {n : Nat} {xs : List Value} (h : w.ownsRow base e size v n xs) : ∀ k, v.ownBlock = some k → base ≤ k := by
  intro k hk
  rcases h.2 with ⟨h, _⟩ | ⟨g, cap, cur, hv, hg, _⟩
  · rw [h] at hk; simp [Value.ownBlock] at hk
  · rw [hv] at hk; simp [Value.ownBlock] at hk; omega
theorem Fr.grown {B : Nat} {w0 w w' : World} {row : Option Nat} (h : Fr B w0 w) (hg : w.grownBy w' row) (hr : ∀ k, row = some k → B ≤ k) : Fr B w0 w' :=
  ⟨h.1.grown hg h.2 hr, Nat.le_trans h.2 hg.size⟩

theorem own_push {f : Nat → Bool} {k : Nat} : ((List.range (k + 1)).map fun j => Value.int .u64 ((f j).toNat : Nat)) = ((List.range k).map fun j => Value.int .u64 ((f j).toNat : Nat)) ++ [Value.int .u64 ((f k).toNat : Nat)] := by
  rw [List.range_succ, List.map_append]; rfl

/-- The bits of a word with a part changed. -/
def putF (x n : Nat) (at_ size : Int) (k : Nat) : Bool := if inB at_ size k then n.testBit ((k : Int) - at_).toNat else x.testBit k

theorem tb_big (n : Nat) (hn : n < 18446744073709551616) (i : Nat) (hi : 64 ≤ i) : n.testBit i = false :=
  Nat.testBit_lt_two_pow (Nat.lt_of_lt_of_le hn (Nat.pow_le_pow_right (n := 2) (i := 64) (by omega) hi))
theorem bitN_big (n : Nat) (hn : n < 18446744073709551616) (c : Int) (h0 : 0 ≤ c) : bitN n c = (n.testBit c.toNat).toNat := by
  unfold bitN
  by_cases h : c ≤ 63
  · rw [if_pos ⟨h0, h⟩, Nat.testBit_eq_decide_div_mod_eq]
    generalize n / 2 ^ c.toNat = y
    by_cases h : y % 2 = 1 <;> simp [h] <;> omega
  · rw [if_neg (by omega)]
    have : n.testBit c.toNat = false := tb_big n hn _ (by omega)
    rw [this]; rfl

theorem put_yes (x n : Nat) (hn : n < 18446744073709551616) (at_ size : Int) (k : Nat) (h : inB at_ size k = true) : bitN n (inK at_ size k) = (putF x n at_ size k).toNat := by
  unfold putF inK
  rw [if_pos h, if_pos h]
  have h' := h
  unfold inB at h'
  simp at h'
  split
  · rw [bitN_big n hn _ (by omega), tb_big n hn _ (by decide), tb_big n hn _ (by omega)]
  · exact bitN_big n hn _ (by omega)
theorem put_no (x n : Nat) (hx : x < 18446744073709551616) (at_ size : Int) (k : Nat) (hk : k < 64) (h : inB at_ size k = false) : bitN x (k : Int) = (putF x n at_ size k).toNat := by
  unfold putF
  rw [if_neg (by rw [h]; simp), bitN_big x hx _ (by omega)]
  simp

theorem in_v {at_ size bit : Int} {b : Bool} (h : inB at_ size bit = b) (w : World) (ha : IntB at_) (hs : IntB size) (hb : IntB bit) :
    Calls Try.prog 110 #[.int .i64 at_, .int .i64 size, .int .i64 bit] w fun e w' => e = .returned (.tuple #[.int .i64 (inK at_ size bit), .bool b]) ∧ w = w' := by
  rw [← h]; exact in_any at_ size bit w ha hs hb
theorem bit_v {x : Nat} {i : Int} {v : Nat} (h : bitN x i = v) (w : World) (hx : x < 18446744073709551616) :
    Calls Try.prog 74 #[.int .u64 (x : Int), .int .i64 i] w fun e w' => e = .returned (.int .u64 (v : Int)) ∧ w = w' := by
  rw [← h]; exact bit_any x i w hx

set_option maxRecDepth 100000 in
set_option maxHeartbeats 2000000 in
theorem put_any (x n : Nat) (at_ size : Int) (w : World) (hx : x < 18446744073709551616) (hn : n < 18446744073709551616) (ha : IntB at_) (hs : IntB size) :
    Calls Try.prog 77 #[.int .u64 (x : Int), .int .i64 at_, .int .i64 size, .int .u64 (n : Int)] w fun e w' => e = .returned (.int .u64 (W64 (putF x n at_ size) : Nat)) ∧ Below w.heap.size w w' := by
  obtain ⟨i0, hi, hz0, hz1, hz2⟩ := info_parts info_u64
  go_enter Try.func77, Try.ntmps77
  go_wp2
  go_loopw [9, 10] (fun v i wr => ∃ k : Nat, k ≤ 64 ∧ i = .int .i64 k ∧ wr.ownsRow w.heap.size 25 1 v k ((List.range k).map fun j => Value.int .u64 ((putF x n at_ size j).toNat : Nat)) ∧ Fr w.heap.size w wr) (fun _ i _ => 64 - (intOf i).toNat)
  case atStart => exact ⟨0, by omega, rfl, World.ownsRow_nil _ _ _ _, Fr.refl w⟩
  case round =>
    obtain ⟨k, hk, rfl, hown, hfr⟩ := hrel
    by_cases hlt : k < 64
    · have hkb : IntB (k : Int) := by unfold IntB; omega
      cases hin : inB at_ size k
      · have HB := put_no x n hx at_ size k hlt hin
        have HP := @own_push (putF x n at_ size) k
        obtain ⟨t, ht⟩ : ∃ t, t = (putF x n at_ size k).toNat := ⟨_, rfl⟩
        rw [← ht] at HB HP
        have HHB := Lib.hid HB
        have HHP := Lib.hid HP
        have HI := Lib.hid hin
        clear HB HP hin ht
        go_wp2_with fail
        refine (in_v HI.out _ ha hs hkb).mono ?_
        rintro e w' ⟨rfl, rfl⟩
        go_wp2_with fail
        refine (bit_v HHB.out _ hx).mono ?_
        rintro e w' ⟨rfl, rfl⟩
        go_wp2_with (first
          | (at_builtin; refine wpList_append_own _ rfl _ _ 87 rfl w.heap.size 25 i0 (.int .u64 0) 1 8 Try.underlying87 hi hz0 hz1 hz2 rfl (by decide) _ _ _ rfl (hown.alloc _) ⟨wr.heap.size, 0, none⟩ 1 1 [.int .u64 (t : Int)] rfl rfl (one_new _ _ _) (one_cell _) (by unfold maxLen; omega) (by omega) (by have := hfr.2; simp; omega) ?_; intro v' w1 hown1 hgrow1 _; rw [← HHP.out] at hown1; have hfr1 := Fr.grown (hfr.alloc _) hgrow1 (own_ge hown)))
        go_roundw
        case rel => exact ⟨k + 1, by omega, by go_num, hown1, hfr1⟩
        case measure => simp [intOf]; omega
      · have HB := put_yes x n hn at_ size k hin
        have HP := @own_push (putF x n at_ size) k
        obtain ⟨t, ht⟩ : ∃ t, t = (putF x n at_ size k).toNat := ⟨_, rfl⟩
        rw [← ht] at HB HP
        have HHB := Lib.hid HB
        have HHP := Lib.hid HP
        have HI := Lib.hid hin
        clear HB HP hin ht
        go_wp2_with fail
        refine (in_v HI.out _ ha hs hkb).mono ?_
        rintro e w' ⟨rfl, rfl⟩
        go_wp2_with fail
        refine (bit_v HHB.out _ hn).mono ?_
        rintro e w' ⟨rfl, rfl⟩
        go_wp2_with (first
          | (at_builtin; refine wpList_append_own _ rfl _ _ 87 rfl w.heap.size 25 i0 (.int .u64 0) 1 8 Try.underlying87 hi hz0 hz1 hz2 rfl (by decide) _ _ _ rfl (hown.alloc _) ⟨wr.heap.size, 0, none⟩ 1 1 [.int .u64 (t : Int)] rfl rfl (one_new _ _ _) (one_cell _) (by unfold maxLen; omega) (by omega) (by have := hfr.2; simp; omega) ?_; intro v' w1 hown1 hgrow1 _; rw [← HHP.out] at hown1; have hfr1 := Fr.grown (hfr.alloc _) hgrow1 (own_ge hown)))
        go_roundw
        case rel => exact ⟨k + 1, by omega, by go_num, hown1, hfr1⟩
        case measure => simp [intOf]; omega
    · obtain rfl : k = 64 := by omega
      obtain ⟨g, cap, rfl, hg, hcells⟩ := own_cells hown (by omega)
      have hc : ∀ k, k < 64 → wr.cell? ⟨g, k, none⟩ = some (.int .u64 (((W64 (putF x n at_ size)).testBit k).toNat : Nat)) := fun k hk => by
        rw [hcells k hk]
        simp [hk, mkW_bit]
      have hc' := Lib.hid hc
      have hcells' := Lib.hid hcells
      clear hc hcells
      go_wp2_with fail
      refine (of_any _ (W64_lt _) g cap _ hc'.out).mono ?_
      rintro e w' ⟨rfl, rfl⟩
      go_wp2
      go_ret
      exact ⟨rfl, hfr.1⟩
end Go.Proofs.Ythkkfdhgpaonjaa
/- The contract of roebuckref01.Cut. -/
namespace Go.Proofs.Ythkkfdhgpaonjaa
open Go.RowKit
set_option linter.unusedSimpArgs false
set_option linter.unusedVariables false

/-- The bits of a part. -/
def cutF (x : Nat) (at_ size : Int) (k : Nat) : Bool := decide ((k : Int) < size) && decide (0 ≤ at_ + k) && decide (at_ + k < 64) && x.testBit (at_ + k).toNat

theorem in_vv {at_ size bit j : Int} {b : Bool} (h : inB at_ size bit = b) (hj : inK at_ size bit = j) (w : World) (ha : IntB at_) (hs : IntB size) (hb : IntB bit) :
    Calls Try.prog 110 #[.int .i64 at_, .int .i64 size, .int .i64 bit] w fun e w' => e = .returned (.tuple #[.int .i64 j, .bool b]) ∧ w = w' := by
  rw [← h, ← hj]; exact in_any at_ size bit w ha hs hb

/-- What is gathered of bit k while the bits below i were gone through. -/
def cutG (x : Nat) (at_ size : Int) (k i : Nat) : Bool := decide (at_ + k < i) && cutF x at_ size k

theorem cut_hit (x : Nat) (hx : x < 18446744073709551616) (at_ size : Int) (k i : Nat) (hk : k < 64) (hs : (k : Int) < size) (hi : i < 64) (h : (i : Int) = at_ + k) :
    inB at_ size i = true ∧ inK at_ size i = k ∧ bitN x (i : Int) = (cutG x at_ size k (i + 1)).toNat := by
  have h1 : inB at_ size i = true := by unfold inB; simp; omega
  refine ⟨h1, ?_, ?_⟩
  · unfold inK; rw [if_pos h1, if_neg (by omega)]; omega
  · rw [bitN_big x hx _ (by omega)]
    unfold cutG cutF
    have e : (at_ + (k : Int)).toNat = i := by omega
    rw [e]
    have e1 : decide (at_ + (k : Int) < ((i + 1 : Nat) : Int)) = true := by simp; omega
    have e2 : decide ((k : Int) < size) = true := by simpa using hs
    have e3 : decide (0 ≤ at_ + (k : Int)) = true := by simp; omega
    have e4 : decide (at_ + (k : Int) < 64) = true := by simp; omega
    rw [e1, e2, e3, e4]
    simp
theorem cut_miss (x : Nat) (at_ size : Int) (k i : Nat) (hk : k < 64) (h : ¬ (i : Int) = at_ + k) :
    cutG x at_ size k (i + 1) = cutG x at_ size k i ∧ (inB at_ size i = true → inK at_ size i ≠ k) := by
  constructor
  · unfold cutG
    have : decide (at_ + (k : Int) < ((i + 1 : Nat) : Int)) = decide (at_ + (k : Int) < (i : Int)) := by
      rw [decide_eq_decide]; omega
    rw [this]
  · intro h1
    have h2 := h1
    unfold inB at h2
    simp at h2
    unfold inK
    rw [if_pos h1]
    split <;> omega
theorem cut_end (x : Nat) (at_ size : Int) (k : Nat) : cutG x at_ size k 64 = cutF x at_ size k := by
  unfold cutG
  by_cases h : at_ + (k : Int) < 64
  · simp [h]
  · unfold cutF; simp [h]
theorem cut_zero (x : Nat) (at_ size : Int) (k : Nat) : cutG x at_ size k 0 = false := by
  unfold cutG cutF
  by_cases h : at_ + (k : Int) < 0
  · have : ¬ 0 ≤ at_ + (k : Int) := by omega
    simp [this]
  · have : decide (at_ + (k : Int) < ((0 : Nat) : Int)) = false := by rw [decide_eq_false_iff_not]; omega
    rw [this]; rfl
theorem cut_far (x : Nat) (at_ size : Int) (k : Nat) (h : size ≤ k) : cutF x at_ size k = false := by
  unfold cutF
  have : ¬ (k : Int) < size := by omega
  simp [this]

set_option maxRecDepth 100000 in
set_option maxHeartbeats 4000000 in
theorem cut_any (x : Nat) (at_ size : Int) (w : World) (hx : x < 18446744073709551616) (ha : IntB at_) (hs : IntB size) :
    Calls Try.prog 76 #[.int .u64 (x : Int), .int .i64 at_, .int .i64 size] w fun e w' => e = .returned (.int .u64 (W64 (cutF x at_ size) : Nat)) ∧ Below w.heap.size w w' := by
  obtain ⟨i0, hi, hz0, hz1, hz2⟩ := info_parts info_u64
  go_enter Try.func76, Try.ntmps76
  go_wp2
  go_loopw [7, 8] (fun v i wr => ∃ k : Nat, k ≤ 64 ∧ i = .int .i64 k ∧ wr.ownsRow w.heap.size 25 1 v k ((List.range k).map fun j => Value.int .u64 ((cutF x at_ size j).toNat : Nat)) ∧ Fr w.heap.size w wr) (fun _ i _ => 64 - (intOf i).toNat)
  case atStart => exact ⟨0, by omega, rfl, World.ownsRow_nil _ _ _ _, Fr.refl w⟩
  case round =>
    obtain ⟨k, hk, rfl, hown, hfr⟩ := hrel
    by_cases hlt : k < 64
    · have HP := @own_push (cutF x at_ size) k
      obtain ⟨t, ht⟩ : ∃ t, t = (cutF x at_ size k).toNat := ⟨_, rfl⟩
      rw [← ht] at HP
      have HHP := Lib.hid HP
      clear HP
      obtain ⟨wo, hwo⟩ : ∃ wo : World, wo = wr := ⟨_, rfl⟩
      subst hwo
      by_cases hks : (k : Int) < size
      · have HT := Lib.hid ht
        clear ht
        have hkd : decide ((k : Int) < 64) = true := by simp; omega
        go_wp2
        go_loop [9, 10] (fun v i => ∃ m : Nat, m ≤ 64 ∧ i = .int .i64 m ∧ v = .int .u64 ((cutG x at_ size k m).toNat : Nat)) (fun _ i => 64 - (intOf i).toNat)
        case atStart => exact ⟨0, by omega, rfl, by rw [cut_zero]; rfl⟩
        case round =>
          obtain ⟨m, hm, rfl, rfl⟩ := hrel
          have hmb : IntB (m : Int) := by unfold IntB; omega
          by_cases hml : m < 64
          · by_cases heq : (m : Int) = at_ + k
            · obtain ⟨g1, g2, g3⟩ := cut_hit x hx at_ size k m hlt hks hml heq
              have G1 := Lib.hid g1
              have G2 := Lib.hid g2
              have G3 := Lib.hid g3
              clear g1 g2 g3 heq
              go_wp2_with fail
              refine (in_vv G1.out G2.out _ ha hs hmb).mono ?_
              rintro e w' ⟨rfl, rfl⟩
              go_wp2_with fail
              refine (bit_v G3.out _ hx).mono ?_
              rintro e w' ⟨rfl, rfl⟩
              go_wp2
              go_round
              case rel => exact ⟨m + 1, by omega, by go_num, rfl⟩
              case measure => simp [intOf]; omega
            · obtain ⟨g1, g2⟩ := cut_miss x at_ size k m hlt heq
              have G1 := Lib.hid g1
              clear g1 heq
              obtain ⟨j, hj⟩ : ∃ j, inK at_ size m = j := ⟨_, rfl⟩
              rw [hj] at g2
              have HJ := Lib.hid hj
              cases hib : inB at_ size m
              · have HI := Lib.hid hib
                clear hib hj g2
                go_wp2_with fail
                refine (in_vv HI.out HJ.out _ ha hs hmb).mono ?_
                rintro e w' ⟨rfl, rfl⟩
                go_wp2
                go_round
                case rel => exact ⟨m + 1, by omega, by go_num, by rw [G1.out]⟩
                case measure => simp [intOf]; omega
              · have HI := Lib.hid hib
                have hne : (j == (k : Int)) = false := by simpa using g2 hib
                clear hib hj g2
                go_wp2_with fail
                refine (in_vv HI.out HJ.out _ ha hs hmb).mono ?_
                rintro e w' ⟨rfl, rfl⟩
                go_wp2
                go_round
                case rel => exact ⟨m + 1, by omega, by go_num, by rw [G1.out]⟩
                case measure => simp [intOf]; omega
          · obtain rfl : m = 64 := by omega
            rw [cut_end, ← HT.out]
            go_wp2_with (first
              | (at_builtin; refine wpList_append_own _ rfl _ _ 87 rfl w.heap.size 25 i0 (.int .u64 0) 1 8 Try.underlying87 hi hz0 hz1 hz2 rfl (by decide) _ _ _ rfl (hown.alloc _) ⟨wo.heap.size, 0, none⟩ 1 1 [.int .u64 (t : Int)] rfl rfl (one_new _ _ _) (one_cell _) (by unfold maxLen; omega) (by omega) (by have := hfr.2; simp; omega) ?_; intro v' w1 hown1 hgrow1 _; rw [← HHP.out] at hown1; have hfr1 := Fr.grown (hfr.alloc _) hgrow1 (own_ge hown)))
            go_roundw
            case rel => exact ⟨k + 1, by omega, by go_num, hown1, hfr1⟩
            case measure => simp [intOf]; omega
      · have h0 : t = 0 := by rw [ht, cut_far x at_ size k (by omega)]; rfl
        subst h0
        clear ht
        go_wp2_with (first
          | (at_builtin; refine wpList_append_own _ rfl _ _ 87 rfl w.heap.size 25 i0 (.int .u64 0) 1 8 Try.underlying87 hi hz0 hz1 hz2 rfl (by decide) _ _ _ rfl (hown.alloc _) ⟨wo.heap.size, 0, none⟩ 1 1 [.int .u64 0] rfl rfl (one_new _ _ _) (one_cell _) (by unfold maxLen; omega) (by omega) (by have := hfr.2; simp; omega) ?_; intro v' w1 hown1 hgrow1 _; have hown1 : w1.ownsRow w.heap.size 25 1 v' (k + 1) ((List.range (k + 1)).map fun j => Value.int .u64 ((cutF x at_ size j).toNat : Nat)) := (by rw [HHP.out]; exact hown1); have hfr1 := Fr.grown (hfr.alloc _) hgrow1 (own_ge hown)))
        go_roundw
        case rel => exact ⟨k + 1, by omega, by go_num, hown1, hfr1⟩
        case measure => simp [intOf]; omega
    · obtain rfl : k = 64 := by omega
      obtain ⟨g, cap, rfl, hg, hcells⟩ := own_cells hown (by omega)
      have hc : ∀ k, k < 64 → wr.cell? ⟨g, k, none⟩ = some (.int .u64 (((W64 (cutF x at_ size)).testBit k).toNat : Nat)) := fun k hk => by
        rw [hcells k hk]
        simp [hk, mkW_bit]
      have hc' := Lib.hid hc
      clear hc hcells
      go_wp2_with fail
      refine (of_any _ (W64_lt _) g cap _ hc'.out).mono ?_
      rintro e w' ⟨rfl, rfl⟩
      go_wp2
      go_ret
      exact ⟨rfl, hfr.1⟩
end Go.Proofs.Ythkkfdhgpaonjaa

/- The contract of roebuckref01.Of at 64 bits. -/
import Derived.Test.YtbboaekfhdeolaaRef01a
namespace Go.Proofs.Ytbboaekfhdeolaa
open Go.RowKit
set_option linter.unusedSimpArgs false
set_option linter.unusedVariables false

theorem div_step (X k : Nat) : 2 * (X / 2 ^ (k + 1)) + (X.testBit k).toNat = X / 2 ^ k := by
  rw [Nat.testBit_eq_decide_div_mod_eq, Nat.pow_succ, ← Nat.div_div_eq_div_mul]
  generalize X / 2 ^ k = y
  by_cases h : y % 2 = 1
  · simp [h]; omega
  · have : y % 2 = 0 := by omega
    simp [this]; omega

/-- 'Of' at 64 bits: the word whose bits they are. -/
theorem of_any (X : Nat) (hX : X < 18446744073709551616) (b cap : Nat) (w : World) (hc : ∀ k, k < 64 → w.cell? ⟨b, k, none⟩ = some (.int .u64 ((X.testBit k).toNat : Nat))) :
    Calls Try.prog 47 #[.slice (some ⟨b, 0, none⟩) 64 cap] w fun e w' => e = .returned (.int .u64 (X : Int)) ∧ w = w' := by
  go_enter Try.func47, Try.ntmps47
  go_wp2
  go_loop [3, 4] (fun y i => ∃ (k z : Nat), k ≤ 64 ∧ i = .int .i64 ((k : Int) - 1) ∧ y = .int .u64 (z : Int) ∧ z ≤ X ∧ Hid (z = X / 2 ^ k)) (fun _ i => (intOf i + 1).toNat)
  case atStart => exact ⟨64, 0, by omega, rfl, rfl, by omega, by show _ = _; rw [Nat.div_eq_of_lt (by simpa using hX)]⟩
  case round =>
    obtain ⟨k, z, hk, rfl, rfl, hz, H⟩ := hrel
    rcases k with _ | k
    · go_wp2
      go_ret
      exact ⟨val_u64 (by rw [H.out]; simp), rfl⟩
    · have hcell := hc k (by omega)
      have hd := div_step X k
      rw [← H.out] at hd
      have hzb : 2 * z + (X.testBit k).toNat ≤ X := by rw [hd]; exact Nat.div_le_self _ _
      have HD := Lib.hid hd
      clear hd
      obtain ⟨t, ht⟩ : ∃ t, t = (X.testBit k).toNat := ⟨_, rfl⟩
      rw [← ht] at hcell hzb HD
      clear ht
      have e1 : ((k + 1 : Nat) : Int) - 1 = k := by omega
      rw [e1]
      clear e1
      go_wp2
      go_round
      case rel => exact ⟨k, 2 * z + t, by omega, rfl, by go_num, by omega, HD.out⟩
      case measure => simp [intOf]

theorem info_u64 : (Try.prog.info? 24).map (fun i => (i.zero, i.size, i.bytes)) = some (some (.int .u64 0), 1, 8) := by kernel_rfl

/-- A row that the call owns, as cells. -/
theorem own_cells {w : World} {base : Nat} {e : TypeId} {v : Value} {n : Nat} {xs : List Value} (h : w.ownsRow base e 1 v n xs) (hn : 0 < n) :
    ∃ g cap, v = .slice (some ⟨g, 0, none⟩) n cap ∧ base ≤ g ∧ ∀ k, k < n → w.cell? ⟨g, k, none⟩ = xs[k]? := by
  obtain ⟨h1, h2⟩ := h
  rcases h2 with ⟨_, hx⟩ | ⟨g, cap, cur, hv, hg, hh, hnc, hcm, hcs, htk⟩
  · omega
  · refine ⟨g, cap, hv, hg, fun k hk => ?_⟩
    rw [cell_at hh, ← htk]
    rw [List.getElem?_take, if_pos (by omega)]
    simp

theorem one_new (w : World) (x : Value) (t : TypeId) : ∀ (j : Nat) (u : Value), [x][j]? = some u → (w.alloc (.cells #[x] t)).cell? (Addr.add ⟨w.heap.size, 0, none⟩ j) = some u := by
  intro j u hj
  match j, hj with
  | 0, hj => simp at hj; subst hj; simp [Addr.add]
theorem one_cell {k : IntKind} (x : Int) : ∀ u ∈ [Value.int k x], u.oneCell' = true := by
  intro u hu; simp at hu; subst hu; rfl
theorem own_ge {w : World} {base : Nat} {e : TypeId} {size : Nat} {v : Value} {n : Nat} {xs : List Value} (h : w.ownsRow base e size v n xs) : ∀ k, v.ownBlock = some k → base ≤ k := by
  intro k hk
  rcases h.2 with ⟨h, _⟩ | ⟨g, cap, cur, hv, hg, _⟩
  · rw [h] at hk; simp [Value.ownBlock] at hk
  · rw [hv] at hk; simp [Value.ownBlock] at hk; omega
theorem Fr.grown {B : Nat} {w0 w w' : World} {row : Option Nat} (h : Fr B w0 w) (hg : w.grownBy w' row) (hr : ∀ k, row = some k → B ≤ k) : Fr B w0 w' :=
  ⟨h.1.grown hg h.2 hr, Nat.le_trans h.2 hg.size⟩

theorem own_push {f : Nat → Bool} {k : Nat} : ((List.range (k + 1)).map fun j => Value.int .u64 ((f j).toNat : Nat)) = ((List.range k).map fun j => Value.int .u64 ((f j).toNat : Nat)) ++ [Value.int .u64 ((f k).toNat : Nat)] := by
  rw [List.range_succ, List.map_append]; rfl

/-- The bits of a word with a part changed. -/
def putF (x n : Nat) (at_ size : Int) (k : Nat) : Bool := if inB at_ size k then n.testBit ((k : Int) - at_).toNat else x.testBit k

theorem tb_big (n : Nat) (hn : n < 18446744073709551616) (i : Nat) (hi : 64 ≤ i) : n.testBit i = false :=
  Nat.testBit_lt_two_pow (Nat.lt_of_lt_of_le hn (Nat.pow_le_pow_right (n := 2) (i := 64) (by omega) hi))
theorem bitN_big (n : Nat) (hn : n < 18446744073709551616) (c : Int) (h0 : 0 ≤ c) : bitN n c = (n.testBit c.toNat).toNat := by
  unfold bitN
  by_cases h : c ≤ 63
  · rw [if_pos ⟨h0, h⟩, Nat.testBit_eq_decide_div_mod_eq]
    generalize n / 2 ^ c.toNat = y
    by_cases h : y % 2 = 1 <;> simp [h] <;> omega
  · rw [if_neg (by omega)]
    have : n.testBit c.toNat = false := tb_big n hn _ (by omega)
    rw [this]; rfl

theorem put_yes (x n : Nat) (hn : n < 18446744073709551616) (at_ size : Int) (k : Nat) (h : inB at_ size k = true) : bitN n (inK at_ size k) = (putF x n at_ size k).toNat := by
  unfold putF inK
  rw [if_pos h, if_pos h]
  have h' := h
  unfold inB at h'
  simp at h'
  split
  · rw [bitN_big n hn _ (by omega), tb_big n hn _ (by decide), tb_big n hn _ (by omega)]
  · exact bitN_big n hn _ (by omega)
theorem put_no (x n : Nat) (hx : x < 18446744073709551616) (at_ size : Int) (k : Nat) (hk : k < 64) (h : inB at_ size k = false) : bitN x (k : Int) = (putF x n at_ size k).toNat := by
  unfold putF
  rw [if_neg (by rw [h]; simp), bitN_big x hx _ (by omega)]
  simp

theorem in_v {at_ size bit : Int} {b : Bool} (h : inB at_ size bit = b) (w : World) (ha : IntB at_) (hs : IntB size) (hb : IntB bit) :
    Calls Try.prog 49 #[.int .i64 at_, .int .i64 size, .int .i64 bit] w fun e w' => e = .returned (.tuple #[.int .i64 (inK at_ size bit), .bool b]) ∧ w = w' := by
  rw [← h]; exact in_any at_ size bit w ha hs hb
theorem bit_v {x : Nat} {i : Int} {v : Nat} (h : bitN x i = v) (w : World) (hx : x < 18446744073709551616) :
    Calls Try.prog 46 #[.int .u64 (x : Int), .int .i64 i] w fun e w' => e = .returned (.int .u64 (v : Int)) ∧ w = w' := by
  rw [← h]; exact bit_any x i w hx

end Go.Proofs.Ytbboaekfhdeolaa

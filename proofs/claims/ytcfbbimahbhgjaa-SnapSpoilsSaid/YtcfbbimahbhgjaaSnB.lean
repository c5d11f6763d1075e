/- Snap: the writer. -/
import Derived.Test.YtcfbbimahbhgjaaSnA
import Derived.ProofKit
import Derived.WalkSpells
import Derived.WalkLawsBesides
import Derived.Laws.Bits64
namespace Go.Proofs.Ytcfbbimahbhgjaa
open Go.RowKit
set_option linter.unusedSimpArgs false
set_option linter.unusedVariables false

/-- A writer at block b, whose bytes lie in a slice of the call's own. -/
structure WA (w : World) (base b : Nat) (a : Option Addr) (n cap : Nat) (l : List Nat) : Prop where
  hb : w.heap[b]? = some (.cells #[.slice a n cap] 33)
  own : OB w base a n cap l
  ne : ob a ≠ some b
  lb : base ≤ b
/-- What a writer's step changes: its block, its row, and what is new. -/
structure WS (b : Nat) (a a' : Option Addr) (w w' : World) : Prop where
  os : w'.os = w.os
  tape : w'.tape = w.tape
  output : w'.output = w.output
  size : w.heap.size ≤ w'.heap.size
  block : ∀ i, i < w.heap.size → i ≠ b → ob a ≠ some i → w'.heap[i]? = w.heap[i]?
  new : ob a' = ob a ∨ ∃ g, ob a' = some g ∧ w.heap.size ≤ g
theorem WS.refl (b : Nat) (a : Option Addr) (w : World) : WS b a a w w := ⟨rfl, rfl, rfl, Nat.le_refl _, fun _ _ _ _ => rfl, .inl rfl⟩
theorem WS.trans {b : Nat} {a a1 a2 : Option Addr} {w w1 w2 : World} (h : WS b a a1 w w1) (k : WS b a1 a2 w1 w2) : WS b a a2 w w2 := by
  refine ⟨k.os.trans h.os, k.tape.trans h.tape, k.output.trans h.output, Nat.le_trans h.size k.size, fun i hi hb ha => ?_, ?_⟩
  · rw [k.block i (Nat.lt_of_lt_of_le hi h.size) hb ?_, h.block i hi hb ha]
    rcases h.new with e | ⟨g, e, hg⟩
    · rw [e]; exact ha
    · rw [e]; intro e2; cases e2; omega
  · rcases k.new with e | ⟨g, e, hg⟩
    · rw [e]; exact h.new
    · exact .inr ⟨g, e, Nat.le_trans h.size hg⟩
theorem WS.below {b : Nat} {a a1 : Option Addr} {w w1 w2 : World} (h : WS b a a1 w w1) (k : Below w1.heap.size w1 w2) : WS b a a1 w w2 :=
  ⟨k.os.trans h.os, k.tape.trans h.tape, k.output.trans h.output, Nat.le_trans h.size k.size, fun i hi hb ha => (k.block i (Nat.lt_of_lt_of_le hi h.size)).trans (h.block i hi hb ha), h.new⟩
theorem WA.keep {w w' : World} {base b n cap : Nat} {a : Option Addr} {l : List Nat} (h : WA w base b a n cap l) (hb : Below w.heap.size w w') : WA w' base b a n cap l := ⟨keepB hb h.hb, h.own.keep hb, h.ne, h.lb⟩
theorem WA.alloc {w : World} {base b n cap : Nat} {a : Option Addr} {l : List Nat} (h : WA w base b a n cap l) (o : Obj) : WA (w.alloc o) base b a n cap l := h.keep ((Below.refl _ w).alloc (Nat.le_refl _) o)
theorem WA.lt {w : World} {base b n cap : Nat} {a : Option Addr} {l : List Nat} (h : WA w base b a n cap l) : b < w.heap.size := lt_of_at h.hb
theorem WS.fr {base b n cap : Nat} {a a' : Option Addr} {l : List Nat} {w0 w w' : World} (hA : WA w base b a n cap l) (h : WS b a a' w w') (hF : Fr base w0 w) : Fr base w0 w' := by
  refine ⟨⟨h.os.trans hF.1.os, h.tape.trans hF.1.tape, h.output.trans hF.1.output, Nat.le_trans hF.1.size h.size, fun i hi => ?_⟩, Nat.le_trans hF.2 h.size⟩
  have hi' : i < w.heap.size := Nat.lt_of_lt_of_le hi hF.2
  have hlb := hA.lb
  rw [h.block i hi' (by omega) (fun e => by have := (hA.own.lt e).1; omega)]
  exact hF.1.block i hi
/-- Another slice of the call's own is as it was, and lies apart. -/
theorem WS.other {b n' cap' base' : Nat} {a a' c : Option Addr} {m : List Nat} {w w' : World} (h : WS b a a' w w') (hO : OB w base' c n' cap' m) (h1 : ob c ≠ some b) (h2 : ∀ g, ob c = some g → ob a ≠ some g) : OB w' base' c n' cap' m ∧ ∀ g, ob c = some g → ob a' ≠ some g := by
  refine ⟨hO.same fun g hg => h.block g (hO.lt hg).2 (fun e => h1 (e ▸ hg)) (h2 g hg), fun g hg => ?_⟩
  rcases h.new with e | ⟨g', e, hg'⟩
  · rw [e]; exact h2 g hg
  · rw [e]; intro e2; cases e2; have := (hO.lt hg).2; omega
/-- Bytes of the argument are as they were. -/
theorem WS.bl {b base n cap : Nat} {a a' c : Option Addr} {l m : List Nat} {w w' : World} (hA : WA w base b a n cap l) (h : WS b a a' w w') (hB : BL w c m) (hc : 0 < m.length → ∀ ad, c = some ad → ad.block < base) : BL w' c m := by
  refine hB.same h.size fun ad e hl h0 => ?_
  have h1 := hc h0 ad e
  have hlb := hA.lb
  exact h.block _ hl (by omega) (fun e => by have := (hA.own.lt e).1; omega)
/-- The step of an append: the byte (or bytes) behind the row, then the writer's cell. -/
theorem wa_step {base b n cap n' cap' : Nat} {a a' : Option Addr} {l l' : List Nat} {w w1 : World} (hA : WA w base b a n cap l) (hO : OB w1 base a' n' cap' l') (hg : w.grownBy w1 (ob a)) (hat : ob a' = ob a ∨ ob a' = some w.heap.size) :
    WA (w1.setCell ⟨b, 0, none⟩ (.slice a' n' cap')) base b a' n' cap' l' ∧ WS b a a' w (w1.setCell ⟨b, 0, none⟩ (.slice a' n' cap')) ∧ w1.heap[b]? = some (.cells #[.slice a n cap] 33) := by
  have hlt := hA.lt
  have hb1 : w1.heap[b]? = some (.cells #[.slice a n cap] 33) := by rw [hg.block b hlt (fun e => hA.ne e.symm)]; exact hA.hb
  have hne : ob a' ≠ some b := by
    rcases hat with e | e
    · rw [e]; exact hA.ne
    · rw [e]; intro e2; cases e2; omega
  refine ⟨⟨?_, hO.same fun g hg2 => ?_, hne, hA.lb⟩, ⟨hg.os, hg.tape, hg.output, by simpa [World.setCell] using hg.size, fun i hi hib ha => ?_, ?_⟩, hb1⟩
  · simp [World.setCell, Array.getElem?_modify, hb1]
  · exact RowKit.Below.heap_setCell _ _ _ _ (fun e => hne (by rw [hg2, e]))
  · rw [RowKit.Below.heap_setCell _ _ _ _ hib]
    exact hg.block i hi (fun e => ha e.symm)
  · rcases hat with e | e
    · exact .inl e
    · exact .inr ⟨_, e, Nat.le_refl _⟩
def WP (base b : Nat) (a : Option Addr) (w : World) (l' : List Nat) (w' : World) : Prop := ∃ a' n' cap', WA w' base b a' n' cap' l' ∧ WS b a a' w w'
theorem WA.len {w : World} {base b n cap : Nat} {a : Option Addr} {l : List Nat} (h : WA w base b a n cap l) : l.length = n := h.own.1
theorem BL.one (w : World) (x : Nat) : BL (w.alloc (.cells #[.int .u8 (x : Int)] 5)) (some ⟨w.heap.size, 0, none⟩) [x] := by
  intro i y hy
  have hi : i < 1 := (List.getElem?_eq_some_iff.1 hy).1
  have e : i = 0 := by omega
  subst e
  simp at hy
  subst hy
  exact ⟨_, rfl, by simp, cell_one_new w (.int .u8 (x : Int)) 5 0 _ rfl⟩
theorem or_128_all : ∀ x : Fin 256, bits .or .u8 ((x.1 : Nat) : Int) 128 = ((128 + x.1 % 128 : Nat) : Int) := by decide +kernel
theorem or_128 (m : Nat) : bits .or .u8 ((m : Int) % 256) 128 = ((128 + m % 128 : Nat) : Int) := by
  have h := or_128_all ⟨m % 256, by omega⟩
  have e : ((m : Int) % 256) = ((m % 256 : Nat) : Int) := by omega
  rw [e, h]
  congr 1
  show 128 + m % 256 % 128 = _
  omega
set_option maxRecDepth 100000 in
set_option maxHeartbeats 4000000 in
theorem num_any (base b N n cap : Nat) (a : Option Addr) (l : List Nat) (w : World) (hN : N < 18446744073709551616) (hA : WA w base b a n cap l) (hn : n ≤ 500000000) (hb : base ≤ w.heap.size) :
    Calls Try.prog 6 #[.pointer (some ⟨b, 0, none⟩), .int .u64 (N : Int)] w fun e w' => (∃ v, e = .returned v) ∧ WP base b a w (l ++ numL N) w' := by
  have hten := numL_ten hN
  go_enter Try.func6, Try.ntmps6
  go_wp2_with fail
  go_loopw [1] (fun i wr => ∃ (m : Nat) (pre : List Nat) (a' : Option Addr) (n' cap' : Nat), i = .int .u64 (m : Int) ∧ m < 18446744073709551616 ∧ pre ++ numL m = numL N ∧ WA wr base b a' n' cap' (l ++ pre) ∧ WS b a a' w wr) (fun i _ => (intOf i).toNat)
  case atStart => exact ⟨N, [], a, n, cap, rfl, hN, rfl, by rw [List.append_nil]; exact hA, WS.refl _ _ _⟩
  case round =>
    obtain ⟨m, pre, a', n', cap', rfl, hm, hpre, hW, hS⟩ := hrel
    have hlen := hW.len
    have hple : pre.length + (numL m).length ≤ 10 := by rw [← List.length_append, hpre]; exact hten
    have hmp := numL_pos m
    have hnl := hA.len
    have hn' : n' ≤ n + 10 := by rw [List.length_append] at hlen; omega
    have kb := hW.hb
    have cb : wr.cell? ⟨b, 0, none⟩ = some (.slice a' n' cap') := by rw [cell_at kb]; rfl
    have HPRE := Lib.hid hpre
    clear hpre hlen hple hmp hnl hten
    have hnb : base ≤ wr.heap.size := Nat.le_trans hb hS.size
    by_cases h7 : 127 < m
    · have d1 : decide (127 < (m : Int)) = true := by simp; omega
      have hor := or_128 m
      obtain ⟨y, hy⟩ : ∃ y, 128 + m % 128 = y := ⟨_, rfl⟩
      rw [hy] at hor
      have HY := Lib.hid hy
      clear hy
      go_wp2_with (at_builtin; refine wpList_append_b _ rfl (.tmp 12) (.tmp 16) rfl rfl (hW.alloc (.cells #[.int .u8 (y : Int)] 5)).own (some ⟨wr.heap.size, 0, none⟩) 1 1 [y] rfl rfl (BL.one wr y) (by omega) (by simp; omega) ?_; intro a2 cap2 w1 hO hg hat; obtain ⟨WA2, WS2, kb1⟩ := wa_step (hW.alloc (.cells #[.int .u8 (y : Int)] 5)) hO hg hat; have cb1 := cell_at (o := 0) kb1; have fb1 : w1.frozen? ⟨b, 0, none⟩ = false := by simp [World.frozen?, kb1])
      have E : Hid (WA (w1.setCell ⟨b, 0, none⟩ (.slice a2 (n' + 1) cap2)) base b a2 (n' + 1) cap2 (l ++ (pre ++ [y])) ∧ WS b a a2 w (w1.setCell ⟨b, 0, none⟩ (.slice a2 (n' + 1) cap2)) ∧ (pre ++ [y]) ++ numL (m / 128) = numL N) :=
        ⟨by rw [← List.append_assoc]; exact WA2, (hS.below ((Below.refl _ wr).alloc (Nat.le_refl _) _)).trans WS2, by rw [List.append_assoc, ← HPRE.out, numL_ge (show ¬ m < 128 by omega), HY.out]; rfl⟩
      exact ⟨⟨m / 128, pre ++ [y], a2, n' + 1, cap2, by simp, by omega, E.out.2.2, E.out.1, E.out.2.1⟩, by simp [intOf]; omega⟩
    · have d1 : decide (127 < (m : Int)) = false := by simp; omega
      have hy : ((m : Int) % 256) = (m : Int) := by omega
      go_wp2_with (at_builtin; refine wpList_append_b _ rfl (.tmp 26) (.tmp 29) rfl rfl (hW.alloc (.cells #[.int .u8 (m : Int)] 5)).own (some ⟨wr.heap.size, 0, none⟩) 1 1 [m] rfl rfl (BL.one wr m) (by omega) (by simp; omega) ?_; intro a2 cap2 w1 hO hg hat; obtain ⟨WA2, WS2, kb1⟩ := wa_step (hW.alloc (.cells #[.int .u8 (m : Int)] 5)) hO hg hat; have cb1 := cell_at (o := 0) kb1; have fb1 : w1.frozen? ⟨b, 0, none⟩ = false := by simp [World.frozen?, kb1])
      go_end0
      refine ⟨⟨_, rfl⟩, a2, n' + 1, cap2, ?_, (hS.below ((Below.refl _ wr).alloc (Nat.le_refl _) _)).trans WS2⟩
      rw [← HPRE.out, numL_lt (show m < 128 by omega), ← List.append_assoc]
      exact WA2
def intN (i : Int) : Nat := if 0 ≤ i then (2 * i).toNat else (2 * (-(i + 1)) + 1).toNat
theorem intN_lt {i : Int} (h0 : -9223372036854775808 ≤ i) (h1 : i ≤ 9223372036854775807) : intN i < 18446744073709551616 := by unfold intN; split <;> omega
theorem xor_all (x : Nat) (h : x < 2 ^ 64) : x ^^^ (2 ^ 64 - 1) = 2 ^ 64 - (x + 1) := by
  apply Nat.eq_of_testBit_eq
  intro i
  rw [Nat.testBit_xor, Nat.testBit_two_pow_sub_one, Nat.testBit_two_pow_sub_succ h]
  by_cases hi : i < 64
  · simp [hi]
  · have : x.testBit i = false := Nat.testBit_lt_two_pow (Nat.lt_of_lt_of_le h (Nat.pow_le_pow_right (by omega) (by omega)))
    simp [hi, this]
theorem zig {i : Int} (h0 : -9223372036854775808 ≤ i) (h1 : i ≤ 9223372036854775807) : bits .xor .u64 (IntKind.u64.wrap (IntKind.u64.wrap i * 2)) (IntKind.u64.wrap (i / 9223372036854775808)) = (intN i : Int) := by
  by_cases hi : 0 ≤ i
  · obtain ⟨n, rfl⟩ : ∃ n : Nat, i = n := ⟨i.toNat, by omega⟩
    have e1 : IntKind.u64.wrap ((n : Int)) = n := by rw [IntKind.wrap_u64]; omega
    have e2 : IntKind.u64.wrap ((n : Int) * 2) = ((2 * n : Nat) : Int) := by rw [IntKind.wrap_u64]; omega
    have e3 : IntKind.u64.wrap ((n : Int) / 9223372036854775808) = ((0 : Nat) : Int) := by rw [IntKind.wrap_u64]; omega
    rw [e1, e2, e3, bits_xor_u64_nat _ _ (by omega) (by omega), Nat.xor_zero]
    unfold intN
    rw [if_pos hi]
    omega
  · obtain ⟨n, rfl⟩ : ∃ n : Nat, i = -(n : Int) - 1 := ⟨(-(i + 1)).toNat, by omega⟩
    have e1 : IntKind.u64.wrap (-(n : Int) - 1) = ((18446744073709551615 - n : Nat) : Int) := by rw [IntKind.wrap_u64]; omega
    have e2 : IntKind.u64.wrap (((18446744073709551615 - n : Nat) : Int) * 2) = ((18446744073709551614 - 2 * n : Nat) : Int) := by rw [IntKind.wrap_u64]; omega
    have e3 : IntKind.u64.wrap ((-(n : Int) - 1) / 9223372036854775808) = ((18446744073709551615 : Nat) : Int) := by rw [IntKind.wrap_u64]; omega
    have e4 := xor_all (18446744073709551614 - 2 * n) (by omega)
    rw [e1, e2, e3, bits_xor_u64_nat _ _ (by omega) (by omega)]
    have e5 : (18446744073709551614 - 2 * n) ^^^ 18446744073709551615 = 2 * n + 1 := by
      have h2 : (2 : Nat) ^ 64 - 1 = 18446744073709551615 := by decide
      rw [← h2, e4]
      have h3 : (2 : Nat) ^ 64 = 18446744073709551616 := by decide
      rw [h3]; omega
    rw [e5]
    unfold intN
    rw [if_neg hi]
    omega
set_option maxRecDepth 100000 in
set_option maxHeartbeats 4000000 in
theorem wint_any (base b n cap : Nat) (i : Int) (a : Option Addr) (l : List Nat) (w : World) (h0 : -9223372036854775808 ≤ i) (h1 : i ≤ 9223372036854775807) (hA : WA w base b a n cap l) (hn : n ≤ 500000000) (hb : base ≤ w.heap.size) :
    Calls Try.prog 7 #[.pointer (some ⟨b, 0, none⟩), .int .i64 i] w fun e w' => (∃ v, e = .returned v) ∧ WP base b a w (l ++ numL (intN i)) w' := by
  go_enter Try.func7, Try.ntmps7
  have hz := zig h0 h1
  have hN := intN_lt h0 h1
  obtain ⟨N, hN9⟩ : ∃ N, intN i = N := ⟨_, rfl⟩
  rw [hN9] at hz hN ⊢
  clear hN9
  go_wp2_with fail
  refine (num_any base b N n cap a l _ hN hA hn hb).mono ?_
  rintro e w1 ⟨⟨v, rfl⟩, hP⟩
  clear hz
  go_wp2_with fail
  go_end0
  exact ⟨⟨_, rfl⟩, hP⟩
set_option maxRecDepth 100000 in
theorem wtruth_any (base b n cap : Nat) (i : Bool) (a : Option Addr) (l : List Nat) (w : World) (hA : WA w base b a n cap l) (hn : n ≤ 500000000) (hb : base ≤ w.heap.size) :
    Calls Try.prog 8 #[.pointer (some ⟨b, 0, none⟩), .bool i] w fun e w' => (∃ v, e = .returned v) ∧ WP base b a w (l ++ [i.toNat]) w' := by
  cases i
  · go_enter Try.func8, Try.ntmps8
    go_wp2_with fail
    refine (num_any base b 0 n cap a l _ (by omega) hA hn hb).mono ?_
    rintro e w1 ⟨⟨v, rfl⟩, hP⟩
    rw [numL_lt (show 0 < 128 by omega)] at hP
    go_wp2_with fail
    go_end0
    exact ⟨⟨_, rfl⟩, hP⟩
  · go_enter Try.func8, Try.ntmps8
    go_wp2_with fail
    refine (num_any base b 1 n cap a l _ (by omega) hA hn hb).mono ?_
    rintro e w1 ⟨⟨v, rfl⟩, hP⟩
    rw [numL_lt (show 1 < 128 by omega)] at hP
    go_wp2_with fail
    go_end0
    exact ⟨⟨_, rfl⟩, hP⟩
set_option maxRecDepth 100000 in
set_option maxHeartbeats 4000000 in
theorem wraw_any (base b n cap m xc : Nat) (a xa : Option Addr) (l ml : List Nat) (w : World) (hm : ml.length = m) (hm2 : m ≤ 100000000) (hx : BL w xa ml) (hxb : 0 < ml.length → ∀ ad, xa = some ad → ad.block < base) (hA : WA w base b a n cap l) (hn : n ≤ 400000000) (hb : base ≤ w.heap.size) :
    Calls Try.prog 9 #[.pointer (some ⟨b, 0, none⟩), .slice xa m xc] w fun e w' => (∃ v, e = .returned v) ∧ WP base b a w (l ++ (numL m ++ ml)) w' := by
  have d1 : ((m : Int)) ≤ 100000000 := by omega
  go_enter Try.func9, Try.ntmps9
  go_wp2_with fail
  refine (num_any base b m n cap a l _ (by omega) hA (by omega) hb).mono ?_
  rintro e w1 ⟨⟨v, rfl⟩, a1, n1, cap1, hW, hS⟩
  have hlen := hW.len
  have hten := numL_ten (show m < 18446744073709551616 by omega)
  have hn1 : n1 ≤ n + 10 := by have := hA.len; rw [List.length_append] at hlen; omega
  have kb := hW.hb
  have cb : w1.cell? ⟨b, 0, none⟩ = some (.slice a1 n1 cap1) := by rw [cell_at kb]; rfl
  have hx1 := hS.bl hA hx hxb
  have hnb : base ≤ w1.heap.size := Nat.le_trans hb hS.size
  clear hlen hten
  go_wp2_with (at_builtin; refine wpList_append_b _ rfl (.tmp 15) (.tmp 16) rfl rfl hW.own xa m xc ml rfl hm hx1 (by omega) hnb ?_; intro a2 cap2 w2 hO hg hat; obtain ⟨WA2, WS2, kb1⟩ := wa_step hW hO hg hat; have cb1 := cell_at (o := 0) kb1; have fb1 : w2.frozen? ⟨b, 0, none⟩ = false := by simp [World.frozen?, kb1])
  go_end0
  refine ⟨⟨_, rfl⟩, a2, n1 + m, cap2, ?_, hS.trans WS2⟩
  rw [← List.append_assoc]
  exact WA2
end Go.Proofs.Ytcfbbimahbhgjaa

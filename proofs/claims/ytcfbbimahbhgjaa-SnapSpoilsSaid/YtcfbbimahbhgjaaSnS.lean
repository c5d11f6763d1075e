/- Snap: sealed; a log's snap. -/
import Derived.Test.YtcfbbimahbhgjaaSnR
import Derived.Laws.IdiomStrings
namespace Go.Proofs.Ytcfbbimahbhgjaa
open Go.RowKit
set_option linter.unusedSimpArgs false
set_option linter.unusedVariables false

/-- The four bytes of a sum. -/
def sb (S : Nat) : List Nat := [S % 256, S / 256 % 256, S / 65536 % 256, S / 16777216]
/-- What a seal hands back. -/
def Sealed (w : World) (ed : Ending) (w' : World) : Prop := ∃ a n cap l, ed = .returned (.slice a n cap) ∧ OB w' w.heap.size a n cap (l ++ sb (sumL l)) ∧ l.length ≤ 200000000 ∧ (∀ x ∈ l, x < 256) ∧ Below w.heap.size w w'
theorem OB.str (w : World) {base : Nat} (h : base ≤ w.heap.size) (x y z : UInt8) : OB (w.drew.alloc (.cells (bytesRow ⟨#[x, y, z]⟩ (grownCap w 3 0 5)) 5 ((bytesRow ⟨#[x, y, z]⟩ (grownCap w 3 0 5)).size, (bytesRow ⟨#[x, y, z]⟩ (grownCap w 3 0 5)).size + 1))) base (some ⟨w.heap.size, 0, none⟩) 3 (grownCap w 3 0 5) [x.toNat, y.toNat, z.toNat] := by
  have hge := grownCap_ge w 3 0 5
  have hs : (bytesRow ⟨#[x, y, z]⟩ (grownCap w 3 0 5)).size = grownCap w 3 0 5 := by
    simp [bytesRow, ByteArray.size]; omega
  refine ⟨rfl, .inr ⟨_, _, _, rfl, h, heap_alloc_new w.drew _, .inr (by rw [hs]; exact Nat.le_refl _), hge, grownCap_le_maxLen _ _ _ _ (by decide), hs, ?_⟩⟩
  simp [bytesRow, bc]
theorem kcStr (w : World) (x y z : UInt8) : (convert 9 29 (.string ⟨#[x, y, z]⟩)).run Try.prog w = .ok (.slice (some ⟨w.heap.size, 0, none⟩) 3 (grownCap w 3 0 5)) (w.drew.alloc (.cells (bytesRow ⟨#[x, y, z]⟩ (grownCap w 3 0 5)) 5 ((bytesRow ⟨#[x, y, z]⟩ (grownCap w 3 0 5)).size, (bytesRow ⟨#[x, y, z]⟩ (grownCap w 3 0 5)).size + 1))) :=
  run_bytes_of_string w 9 29 5 ⟨#[x, y, z]⟩ Try.underlying9 Try.underlying29 Try.underlying5
set_option maxRecDepth 100000 in
set_option maxHeartbeats 8000000 in
theorem sealed_log {x : Nat} {a0 : Option Addr} {len cap : Nat} (w : World) (hl : len ≤ 60) (hx : w.heap[x]? = some (.cells #[.slice a0 len cap] 62)) (hE : Events w w.heap.size a0 len) :
    Calls Try.prog 39 #[.string ⟨#[82, 66, 76]⟩, .func (.func 40) #[] #[.pointer (some ⟨x, 0, none⟩)]] w (Sealed w) := by
  have kc := kcStr w 82 66 76
  have O0 := OB.str w (Nat.le_refl _) 82 66 76
  obtain ⟨cap0, hcap0⟩ : ∃ c, grownCap w 3 0 5 = c := ⟨_, rfl⟩
  rw [hcap0] at kc O0
  obtain ⟨w1, hw1⟩ : ∃ w1, w.drew.alloc (.cells (bytesRow ⟨#[82, 66, 76]⟩ cap0) 5 ((bytesRow ⟨#[82, 66, 76]⟩ cap0).size, (bytesRow ⟨#[82, 66, 76]⟩ cap0).size + 1)) = w1 := ⟨_, rfl⟩
  have F1 : Fr w.heap.size w w1 := by rw [← hw1]; exact (Fr.refl w).drew.alloc _
  have hs1 : w.heap.size < w1.heap.size := by rw [← hw1]; show _ < (w.drew.heap.push _).size; rw [Array.size_push]; exact Nat.lt_succ_self _
  rw [hw1] at kc O0
  clear hw1 hcap0
  have A0 : WA (w1.alloc (.cells #[.slice (some ⟨w.heap.size, 0, none⟩) 3 cap0] 33)) w.heap.size w1.heap.size (some ⟨w.heap.size, 0, none⟩) 3 cap0 _ := ⟨heap_alloc_new w1 _, O0.keep ((Below.refl _ w1).alloc (Nat.le_refl _) _), (by intro e; simp only [ob, Option.some.injEq] at e; omega), F1.2⟩
  have F2 := F1.alloc (.cells #[.slice (some ⟨w.heap.size, 0, none⟩) 3 cap0] 33)
  obtain ⟨w2, hw2⟩ : ∃ w2, w1.alloc (.cells #[.slice (some ⟨w.heap.size, 0, none⟩) 3 cap0] 33) = w2 := ⟨_, rfl⟩
  obtain ⟨b, hb⟩ : ∃ b, w1.heap.size = b := ⟨_, rfl⟩
  rw [hw2] at A0 F2
  rw [hb] at A0
  have hbb : w.heap.size < b := by omega
  have Z2 : Hid (WZ w w.heap.size b 3 [(x, .cells #[.slice a0 len cap] 62)] w2) := ⟨_, 3, cap0, _, A0, Nat.le_refl _, by intro y hy; simp at hy; rcases hy with rfl | rfl | rfl <;> decide, by intro io hi; simp only [List.mem_singleton] at hi; subst hi; have hlx := lt_of_at hx; exact ⟨F2.1.block x hlx ▸ hx, (by show x ≠ b; omega), (by intro e; simp only [ob, Option.some.injEq] at e; omega)⟩, F2⟩
  clear A0 F2 O0 hs1
  go_enter Try.func39, Try.ntmps39
  go_wp2_with fail
  refine (logc_z hl hE Z2.out).mono ?_
  rintro e w3 ⟨⟨v3, rfl⟩, Z3⟩
  obtain ⟨a3, n3, cap3, l, A3, hn3, h8, -, F3⟩ := Z3
  clear Z2 hw2 kc hb F1
  have c0 : w3.cell? ⟨b, 0, none⟩ = some (.slice a3 n3 cap3) := by rw [cell_at A3.hb]; rfl
  go_wp2_with fail
  refine (sum_any a3 n3 cap3 l _ A3.len (by omega) h8 A3.own.bl).mono ?_
  rintro e w4 ⟨rfl, hw⟩
  rw [hw]
  clear hw w4
  have hS := sumL_lt l
  have HL := A3.len
  obtain ⟨S, hS9⟩ : ∃ S, sumL l = S := ⟨_, rfl⟩
  rw [hS9] at hS ⊢
  have HS := Lib.hid hS9
  have O3 := A3.own
  have HF3 := Lib.hid F3
  have Hn3 := Lib.hid hn3
  have H8 := Lib.hid h8
  have HLL := Lib.hid HL
  clear hS9 A3 h8 F3 hn3 HL
  have hbs := HF3.out.2
  have O4 := O3.keep ((Below.refl _ w3).alloc (Nat.le_refl _) (.cells #[.int .u8 ((S : Int) % 256), .int .u8 ((S : Int) / 256 % 256), .int .u8 ((S : Int) / 65536 % 256), .int .u8 ((S : Int) / 16777216)] 5))
  have N4 := OB.new w3 (Nat.le_refl _) rfl (l := sb S) (cs := #[.int .u8 ((S : Int) % 256), .int .u8 ((S : Int) / 256 % 256), .int .u8 ((S : Int) / 65536 % 256), .int .u8 ((S : Int) / 16777216)]) (n := 4) rfl (by decide) (by simp [bc, sb])
  go_wp2_with (at_builtin; refine wpList_append_b _ rfl (.tmp 22) (.tmp 34) rfl rfl O4 _ 4 4 (sb S) rfl rfl N4.bl (by have := Hn3.out; omega) (by simp; omega) ?_; intro a5 cap5 w5 O5 hg hat; have HO5 := Lib.hid O5; have HF5 := Lib.hid (grown_fr (HF3.out) O3 (Nat.le_refl _) hg); clear O5 hg hat)
  go_ret
  exact ⟨_, _, _, l, rfl, by rw [HS.out]; exact HO5.out, by rw [HLL.out]; exact Nat.le_trans Hn3.out (by decide), H8.out, HF5.out.1⟩
theorem Events.keep {w w' : World} {base base' : Nat} {a : Option Addr} {len : Nat} (h : Events w base a len) (hb : Below w.heap.size w w') (h1 : base ≤ w.heap.size) (h2 : base ≤ base') : Events w' base' a len := by
  intro i hi
  obtain ⟨ad, s, rfl, had, ok, hc⟩ := h i hi
  exact ⟨ad, s, rfl, by omega, ok, fun j hj => (hb.cell (p := (ad.add (i * 65)).add j) (by rw [add_blk, add_blk]; omega)).trans (hc j hj)⟩
theorem Sealed.base {w w1 w' : World} {ed : Ending} (h : Sealed w1 ed w') (hb : Below w.heap.size w w1) : Sealed w ed w' := by
  obtain ⟨a, n, cap, l, e, hO, hl, h8, hB⟩ := h
  exact ⟨a, n, cap, l, e, hO.base hb.size, hl, h8, hb.trans (hB.mono hb.size)⟩
set_option maxRecDepth 100000 in
set_option maxHeartbeats 4000000 in
theorem log_any (w : World) {a0 : Option Addr} {len cap : Nat} (hl : len ≤ 60) (hE : Events w w.heap.size a0 len) : Calls Try.prog 31 #[.slice a0 len cap] w (Sealed w) := by
  have F1 := (Fr.refl w).alloc (.cells #[.slice a0 len cap] 62)
  have E1 := hE.keep F1.1 (Nat.le_refl _) F1.1.size
  have hx := heap_alloc_new w (.cells #[.slice a0 len cap] 62)
  have hmf : ∀ (fn : Fn) (first cap : Array Value) (w : World), (Instr.makeFunc fn first cap).run Try.prog w = .ok (.func fn first cap) w := fun _ _ _ _ => rfl
  clear hE
  go_enter Try.func31, Try.ntmps31
  go_wp2_with fail
  refine (sealed_log _ hl hx E1).mono ?_
  rintro e w2 hS
  have HS := Lib.hid (hS.base F1.1)
  clear hS
  obtain ⟨a, n, cap, l, rfl, h2⟩ := HS.out
  have H2 : Hid (Sealed w (.returned (.slice a n cap)) w2) := ⟨a, n, cap, l, rfl, h2⟩
  clear h2 E1 hx F1 HS
  go_wp2_with fail
  go_ret
  exact H2.out
end Go.Proofs.Ytcfbbimahbhgjaa

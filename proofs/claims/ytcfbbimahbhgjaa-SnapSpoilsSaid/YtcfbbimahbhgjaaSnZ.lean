/- Snap: a script's snap. -/
import Derived.Test.YtcfbbimahbhgjaaSnY
import Derived.Test.YtcfbbimahbhgjaaSnS
namespace Go.Proofs.Ytcfbbimahbhgjaa
open Go.RowKit
set_option linter.unusedSimpArgs false
set_option linter.unusedVariables false

set_option maxRecDepth 100000 in
set_option maxHeartbeats 8000000 in
theorem sealed_script {x H : Nat} {c l t g0 g1 g2 g3 g4 g5 g6 g7 : Int} {pa la : Option Addr} {pn pc ln lc : Nat} {pl : Nat → Nat} {kf nf : Nat → Int} {qf : Nat → Bool} (w : World) (hH : H ≤ 8) (hpn : pn ≤ 300) (hln : ln ≤ 2000) (hpl : ∀ i, i < pn → pl i ≤ 400) (hx : w.heap[x]? = some (.cells #[.int .i64 (H : Int), .int .i64 c, .int .i64 l, .int .i64 t, .int .i64 g0, .int .i64 g1, .int .i64 g2, .int .i64 g3, .int .i64 g4, .int .i64 g5, .int .i64 g6, .int .i64 g7, .slice pa pn pc, .slice la ln lc] 61)) (hP : Parts w w.heap.size pa pn pl) (hL : Lns w w.heap.size la ln kf nf qf) :
    Calls Try.prog 39 #[.string ⟨#[82, 66, 83]⟩, .func (.func 44) #[] #[.pointer (some ⟨x, 0, none⟩)]] w (Sealed w) := by
  have kc := kcStr w 82 66 83
  have O0 := OB.str w (Nat.le_refl _) 82 66 83
  obtain ⟨cap0, hcap0⟩ : ∃ cc, grownCap w 3 0 5 = cc := ⟨_, rfl⟩
  rw [hcap0] at kc O0
  obtain ⟨w1, hw1⟩ : ∃ w1, w.drew.alloc (.cells (bytesRow ⟨#[82, 66, 83]⟩ cap0) 5 ((bytesRow ⟨#[82, 66, 83]⟩ cap0).size, (bytesRow ⟨#[82, 66, 83]⟩ cap0).size + 1)) = w1 := ⟨_, rfl⟩
  have F1 : Fr w.heap.size w w1 := by rw [← hw1]; exact (Fr.refl w).drew.alloc _
  have hs1 : w.heap.size < w1.heap.size := by rw [← hw1]; show _ < (w.drew.heap.push _).size; rw [Array.size_push]; exact Nat.lt_succ_self _
  rw [hw1] at kc O0
  clear hw1 hcap0
  have A0 : WA (w1.alloc (.cells #[.slice (some ⟨w.heap.size, 0, none⟩) 3 cap0] 33)) w.heap.size w1.heap.size (some ⟨w.heap.size, 0, none⟩) 3 cap0 _ := ⟨heap_alloc_new w1 _, O0.keep ((Below.refl _ w1).alloc (Nat.le_refl _) _), (by intro e; simp only [ob, Option.some.injEq] at e; omega), F1.2⟩
  have F2 := F1.alloc (.cells #[.slice (some ⟨w.heap.size, 0, none⟩) 3 cap0] 33)
  obtain ⟨w2, hw2⟩ : ∃ w2, w1.alloc (.cells #[.slice (some ⟨w.heap.size, 0, none⟩) 3 cap0] 33) = w2 := ⟨_, rfl⟩
  obtain ⟨b, hb⟩ : ∃ b, w1.heap.size = b := ⟨_, rfl⟩
  rw [hw2] at A0 F2
  rw [hb] at A0
  have hbb : w.heap.size < b := by omega
  have Z2 : Hid (WZ w w.heap.size b 3 [(x, (.cells #[.int .i64 (H : Int), .int .i64 c, .int .i64 l, .int .i64 t, .int .i64 g0, .int .i64 g1, .int .i64 g2, .int .i64 g3, .int .i64 g4, .int .i64 g5, .int .i64 g6, .int .i64 g7, .slice pa pn pc, .slice la ln lc] 61))] w2) := ⟨_, 3, cap0, _, A0, Nat.le_refl _, by intro y hy; simp at hy; rcases hy with rfl | rfl | rfl <;> decide, by intro io hi; simp only [List.mem_singleton] at hi; subst hi; have hlx := lt_of_at hx; exact ⟨F2.1.block x hlx ▸ hx, (by show x ≠ b; omega), (by intro e; simp only [ob, Option.some.injEq] at e; omega)⟩, F2⟩
  clear A0 F2 O0 hs1
  go_enter Try.func39, Try.ntmps39
  go_wp2_with fail
  refine (scriptc_z hH hpn hln hpl hP hL Z2.out).mono ?_
  rintro e w3 ⟨⟨v3, rfl⟩, Z3⟩
  obtain ⟨a3, n3, cap3, ll, A3, hn3, h8, -, F3⟩ := Z3
  clear Z2 hw2 kc hb F1
  have c0 : w3.cell? ⟨b, 0, none⟩ = some (.slice a3 n3 cap3) := by rw [cell_at A3.hb]; rfl
  go_wp2_with fail
  refine (sum_any a3 n3 cap3 ll _ A3.len (by omega) h8 A3.own.bl).mono ?_
  rintro e w4 ⟨rfl, hw⟩
  rw [hw]
  clear hw w4
  have hS := sumL_lt ll
  have HL := A3.len
  obtain ⟨S, hS9⟩ : ∃ S, sumL ll = S := ⟨_, rfl⟩
  rw [hS9] at hS ⊢
  have HS := Lib.hid hS9
  have O3 := A3.own
  have HF3 := Lib.hid F3
  have Hn3 := Lib.hid hn3
  have H8 := Lib.hid h8
  have HLL := Lib.hid HL
  clear hS9 A3 h8 F3 hn3 HL
  have hbs := HF3.out.2
  have O4 := O3.keep ((Below.refl _ w3).alloc (Nat.le_refl _) (.cells #[.int .u8 ((S : Int) % 256), .int .u8 ((S : Int) / 256 % 256), .int .u8 ((S : Int) / 65536 % 256), .int .u8 ((S : Int) / 16777216)] 5))
  have N4 := OB.new w3 (Nat.le_refl _) rfl (l := sb S) (cs := #[.int .u8 ((S : Int) % 256), .int .u8 ((S : Int) / 256 % 256), .int .u8 ((S : Int) / 65536 % 256), .int .u8 ((S : Int) / 16777216)]) (n := 4) rfl (by decide) (by simp [bc, sb])
  go_wp2_with (at_builtin; refine wpList_append_b _ rfl (.tmp 22) (.tmp 34) rfl rfl O4 _ 4 4 (sb S) rfl rfl N4.bl (by have := Hn3.out; omega) (by simp; omega) ?_; intro a5 cap5 w5 O5 hg hat; have HO5 := Lib.hid O5; have HF5 := Lib.hid (grown_fr (HF3.out) O3 (Nat.le_refl _) hg); clear O5 hg hat)
  go_ret
  exact ⟨_, _, _, ll, rfl, by rw [HS.out]; exact HO5.out, by rw [HLL.out]; exact Nat.le_trans Hn3.out (by decide), H8.out, HF5.out.1⟩
/-- What snap.Script hands back. -/
def ScriptR (w : World) (ed : Ending) (w' : World) : Prop := (∃ x : Int, x ≠ 0 ∧ ed = .returned (.tuple #[.slice none 0 0, .int .i64 x]) ∧ Below w.heap.size w w') ∨
  ∃ a n cap l, ed = .returned (.tuple #[.slice a n cap, .int .i64 0]) ∧ OB w' w.heap.size a n cap (l ++ sb (sumL l)) ∧ l.length ≤ 200000000 ∧ (∀ x ∈ l, x < 256) ∧ Below w.heap.size w w'
set_option maxRecDepth 100000 in
set_option maxHeartbeats 4000000 in
theorem script_any (h c l t g0 g1 g2 g3 g4 g5 g6 g7 : Int) (pa la : Option Addr) (pn pc ln lc : Nat) (pl : Nat → Nat) (w : World) (hh : I64 h) (hl : I64 l) (hpn : pn ≤ 300) (hln : ln ≤ 2000) (hpl : ∀ i, i < pn → pl i ≤ 400) (hP : Parts w w.heap.size pa pn pl) (hL : LinesA w w.heap.size la ln) :
    Calls Try.prog 32 #[.agg #[.int .i64 h, .int .i64 c, .int .i64 l, .int .i64 t, .int .i64 g0, .int .i64 g1, .int .i64 g2, .int .i64 g3, .int .i64 g4, .int .i64 g5, .int .i64 g6, .int .i64 g7, .slice pa pn pc, .slice la ln lc]] w (ScriptR w) := by
  obtain ⟨B, hB⟩ : ∃ B, w.heap.size = B := ⟨_, rfl⟩
  have S1 : BoxS w B (.cells #[.int .i64 h, .int .i64 c, .int .i64 l, .int .i64 t, .int .i64 g0, .int .i64 g1, .int .i64 g2, .int .i64 g3, .int .i64 g4, .int .i64 g5, .int .i64 g6, .int .i64 g7, .slice pa pn pc, .slice la ln lc] 61) (w.alloc (.cells #[.int .i64 h, .int .i64 c, .int .i64 l, .int .i64 t, .int .i64 g0, .int .i64 g1, .int .i64 g2, .int .i64 g3, .int .i64 g4, .int .i64 g5, .int .i64 g6, .int .i64 g7, .slice pa pn pc, .slice la ln lc] 61)) := ⟨by rw [← hB]; exact heap_alloc_new w _, (Fr.refl w).alloc _⟩
  have hmf : ∀ (fn : Fn) (first cap : Array Value) (w : World), (Instr.makeFunc fn first cap).run Try.prog w = .ok (.func fn first cap) w := fun _ _ _ _ => rfl
  have HHh := Lib.hid hh
  have HHl := Lib.hid hl
  have HPL := Lib.hid hpl
  obtain ⟨w1, hw1⟩ : ∃ w1, w.alloc (.cells #[.int .i64 h, .int .i64 c, .int .i64 l, .int .i64 t, .int .i64 g0, .int .i64 g1, .int .i64 g2, .int .i64 g3, .int .i64 g4, .int .i64 g5, .int .i64 g6, .int .i64 g7, .slice pa pn pc, .slice la ln lc] 61) = w1 := ⟨_, rfl⟩
  rw [hw1] at S1
  have HP := Lib.hid ((hP.keep S1.2).base S1.2.2)
  have HL := Lib.hid ((hL.keep S1.2).base S1.2.2)
  clear hP hL hh hl hpl
  obtain ⟨s0, s1, s2, s3, s4, s5, s6, s7, s8, s9, s10, s11, s12, s13⟩ := fourteen S1.1
  go_enter Try.func32, Try.ntmps32
  go_wp2_with fail
  refine (check_any h c l t g0 g1 g2 g3 g4 g5 g6 g7 pa la pn pc ln lc pl _ HHh.out HHl.out (by omega) (by omega) HP.out HL.out).mono ?_
  rintro e w2 ⟨⟨x, rfl, hx⟩, hb⟩
  have S2 := S1.step hb
  clear s0 s1 s2 s3 s4 s5 s6 s7 s8 s9 s10 s11 s12 s13
  by_cases h0 : x = 0
  · obtain ⟨h1, h8⟩ := hx h0
    obtain ⟨H, rfl⟩ : ∃ H : Nat, h = H := ⟨h.toNat, by omega⟩
    have hF2 : Fr w1.heap.size w1 w2 := (Fr.refl w1).step hb
    obtain ⟨kf, nf, qf, hLn⟩ := lns_of ((HL.out.keep hF2).base hF2.2)
    have hsc := sealed_script w2 (H := H) (by omega) hpn hln HPL.out S2.1 ((HP.out.keep hF2).base hF2.2) hLn
    have HF := Lib.hid S2.2
    clear S1 S2 hb hw1 hF2 hx hLn
    subst h0
    go_wp2_with fail
    refine hsc.mono ?_
    rintro e w3 hS
    have HS := Lib.hid (hS.base HF.out.1)
    clear hS hsc
    obtain ⟨a, n, cap, ll, rfl, h2⟩ := HS.out
    have H2 : Hid (ScriptR w (.returned (.tuple #[.slice a n cap, .int .i64 0])) w3) := .inr ⟨a, n, cap, ll, rfl, h2⟩
    clear h2 HS HF
    go_wp2_with fail
    go_ret2
    exact H2.out
  · have hx2 : (x != 0) = true := by simpa using h0
    have H2 : Hid (ScriptR w (.returned (.tuple #[.slice none 0 0, .int .i64 x])) w2) := .inl ⟨x, h0, rfl, S2.2.1⟩
    clear S1 S2 hb hw1 hx
    go_wp2_with fail
    go_ret2
    exact H2.out
end Go.Proofs.Ytcfbbimahbhgjaa

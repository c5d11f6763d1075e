/- Layer 20: the document's Enter and Leave, the program's Leave. -/
import Derived.Test.YthkkfdhgpaonjaaStC
namespace Go.Proofs.Ythkkfdhgpaonjaa
open Go.RowKit
set_option linter.unusedSimpArgs false
set_option linter.unusedVariables false

theorem b11 : IntB 11 := by unfold IntB; omega
theorem b2 : IntB 2 := by unfold IntB; omega

set_option maxRecDepth 100000 in
set_option maxHeartbeats 2000000 in
theorem renter_any (x : Nat) (f t : Int) (w : World) (hx : x < 18446744073709551616) :
    Calls Try.prog 103 #[.int .u64 (x : Int), .int .i64 f, .int .i64 t] w fun e w' => e = .returned (.int .u64 (enterOf x f t : Nat)) ∧ Below w.heap.size w w' := by
  cases hp : privB f
  · have H : Hid (enterOf x f t = x) := by show _ = _; unfold enterOf; rw [hp]; simp
    have f0 : (f != 0) = true := by unfold privB at hp; simp at hp ⊢; omega
    have f1 : (f != 1) = true := by unfold privB at hp; simp at hp ⊢; omega
    have f3 : (f != 3) = true := by unfold privB at hp; simp at hp ⊢; omega
    clear hp
    go_enter Try.func103, Try.ntmps103
    go_wp2
    go_ret
    exact ⟨val_u64 (by rw [H.out]), Below.refl _ _⟩
  · by_cases h3 : t = 3
    · subst h3
      have hf : f = 0 ∨ f = 1 ∨ f = 3 := by unfold privB at hp; simp at hp; omega
      clear hp
      rcases hf with rfl | rfl | rfl
      all_goals
        go_enter Try.func103, Try.ntmps103
        go_wp2_with fail
        refine (get_at (c := 3) (by omega) at_mie x hx _).mono ?_
        rintro e w' ⟨rfl, rfl⟩
        go_wp2_with fail
        refine (put_at (c := 7) (by omega) at_mpie x hx _ (x.testBit 3) rfl _).mono ?_
        rintro e w1 ⟨rfl, hb1⟩
        go_wp2_with fail
        refine (put_at (c := 3) (by omega) at_mie _ (setB_lt _ _ _) 0 false rfl _).mono ?_
        rintro e w2 ⟨rfl, hb2⟩
        go_wp2_with fail
        refine (put_any _ _ 11 2 _ (setB_lt _ _ _) ?_ b11 b2).mono ?_
        rotate_left
        rintro e w3 ⟨rfl, hb3⟩
        go_wp2
        go_ret
        exact ⟨rfl, ((((Fr.refl _).step hb1).step hb2).step hb3).1⟩
    · have e3 : (t == 3) = false := by simpa using h3
      by_cases h1 : t = 1
      · subst h1
        clear h3
        have hf : f = 0 ∨ f = 1 ∨ f = 3 := by unfold privB at hp; simp at hp; omega
        clear hp
        rcases hf with rfl | rfl | rfl
        · go_enter Try.func103, Try.ntmps103
          go_wp2_with fail
          refine (get_at (c := 1) (by omega) at_sie x hx _).mono ?_
          rintro e w' ⟨rfl, rfl⟩
          go_wp2_with fail
          refine (put_at (c := 5) (by omega) at_spie x hx _ (x.testBit 1) rfl _).mono ?_
          rintro e w1 ⟨rfl, hb1⟩
          go_wp2_with fail
          refine (put_at (c := 1) (by omega) at_sie _ (setB_lt _ _ _) 0 false rfl _).mono ?_
          rintro e w2 ⟨rfl, hb2⟩
          go_wp2_with fail
          refine (put_at (c := 8) (by omega) at_spp _ (setB_lt _ _ _) 0 false rfl _).mono ?_
          rintro e w3 ⟨rfl, hb3⟩
          go_wp2
          go_ret
          exact ⟨rfl, ((((Fr.refl _).step hb1).step hb2).step hb3).1⟩
        · go_enter Try.func103, Try.ntmps103
          go_wp2_with fail
          refine (get_at (c := 1) (by omega) at_sie x hx _).mono ?_
          rintro e w' ⟨rfl, rfl⟩
          go_wp2_with fail
          refine (put_at (c := 5) (by omega) at_spie x hx _ (x.testBit 1) rfl _).mono ?_
          rintro e w1 ⟨rfl, hb1⟩
          go_wp2_with fail
          refine (put_at (c := 1) (by omega) at_sie _ (setB_lt _ _ _) 0 false rfl _).mono ?_
          rintro e w2 ⟨rfl, hb2⟩
          go_wp2_with fail
          refine (put_at (c := 8) (by omega) at_spp _ (setB_lt _ _ _) 1 true rfl _).mono ?_
          rintro e w3 ⟨rfl, hb3⟩
          go_wp2
          go_ret
          exact ⟨rfl, ((((Fr.refl _).step hb1).step hb2).step hb3).1⟩
        · go_enter Try.func103, Try.ntmps103
          go_wp2_with fail
          refine (get_at (c := 1) (by omega) at_sie x hx _).mono ?_
          rintro e w' ⟨rfl, rfl⟩
          go_wp2_with fail
          refine (put_at (c := 5) (by omega) at_spie x hx _ (x.testBit 1) rfl _).mono ?_
          rintro e w1 ⟨rfl, hb1⟩
          go_wp2_with fail
          refine (put_at (c := 1) (by omega) at_sie _ (setB_lt _ _ _) 0 false rfl _).mono ?_
          rintro e w2 ⟨rfl, hb2⟩
          go_wp2_with fail
          refine (put_at (c := 8) (by omega) at_spp _ (setB_lt _ _ _) 0 false rfl _).mono ?_
          rintro e w3 ⟨rfl, hb3⟩
          go_wp2
          go_ret
          exact ⟨rfl, ((((Fr.refl _).step hb1).step hb2).step hb3).1⟩
      · have e1 : (t == 1) = false := by simpa using h1
        have H : Hid (enterOf x f t = x) := by show _ = _; unfold enterOf; rw [hp, if_pos rfl, if_neg h3, if_neg h1]
        have hf : f = 0 ∨ f = 1 ∨ f = 3 := by unfold privB at hp; simp at hp; omega
        clear hp h3 h1
        rcases hf with rfl | rfl | rfl
        all_goals
          go_enter Try.func103, Try.ntmps103
          go_wp2
          go_ret
          exact ⟨val_u64 (by rw [H.out]), Below.refl _ _⟩
end Go.Proofs.Ythkkfdhgpaonjaa

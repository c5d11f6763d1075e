/- Layer 20: Leave, of the program and of the document. -/
import Derived.Test.YthkkfdhgpaonjaaStD
namespace Go.Proofs.Ythkkfdhgpaonjaa
open Go.RowKit
set_option linter.unusedSimpArgs false
set_option linter.unusedVariables false

/-- The word behind a return from Machine, but for MPRV. -/
def leaveM (x : Nat) : Nat := setMpp (setB (setB x 3 (x.testBit 7)) 7 true) 0
def leaveS (x : Nat) : Nat := setB (setB (setB (setB x 1 (x.testBit 5)) 5 true) 8 false) 17 false
def leaveOf (x : Nat) (t : Int) : Nat := if t = 3 then (if mppOf x = 3 then leaveM x else setB (leaveM x) 17 false) else if t = 1 then leaveS x else x
def leaveTo (x : Nat) (t : Int) : Int := if t = 3 then mppOf x else if t = 1 then (if x.testBit 8 = true then 1 else 0) else 0

theorem mpp_off (x : Nat) (hx : x < 18446744073709551616) : bits BinOp.andNot IntKind.u64 (x : Int) 6144 = ((setMpp x 0 : Nat) : Int) := by
  have h := mpp_or x 0 hx (by omega)
  have h1 := u64_andNot_nat x 6144 hx (by omega)
  have e1 : bits BinOp.andNot IntKind.u64 (x : Int) 6144 = ((x &&& (18446744073709551615 - 6144) : Nat) : Int) := h1
  rw [e1] at h
  have h2 := u64_or_nat (x &&& (18446744073709551615 - 6144)) 0 (Nat.lt_of_le_of_lt Nat.and_le_left hx) (by omega)
  have h3 : bits BinOp.or IntKind.u64 ((x &&& (18446744073709551615 - 6144) : Nat) : Int) (((0 : Nat) : Int) * 2048) = ((x &&& (18446744073709551615 - 6144) : Nat) : Int) := by
    simpa using h2
  rw [h3] at h
  rw [e1, h]

set_option maxRecDepth 100000 in
set_option maxHeartbeats 2000000 in
theorem leave_any (x : Nat) (t : Int) (w : World) (hx : x < 18446744073709551616) :
    Calls Try.prog 73 #[.int .u64 (x : Int), .int .i64 t] w fun e w' => e = .returned (.tuple #[.int .u64 (leaveOf x t : Nat), .int .i64 (leaveTo x t)]) ∧ w = w' := by
  by_cases h3 : t = 3
  · subst h3
    have HM := Lib.hid (mpp_off (setB (setB x 3 (x.testBit 7)) 7 true) (setB_lt _ _ _))
    have HT : Hid (leaveTo x 3 = mppOf x) := by show _ = _; unfold leaveTo; rw [if_pos rfl]
    by_cases hm : mppOf x = 3
    · have H : Hid (leaveOf x 3 = leaveM x) := by show _ = _; unfold leaveOf; rw [if_pos rfl, if_pos hm]
      have HP := Lib.hid hm
      clear hm
      go_enter Try.func73, Try.ntmps73
      go_wp2_with fail
      refine (prior_any x _ hx).mono ?_
      rw [HP.out]
      rintro e w' ⟨rfl, rfl⟩
      go_wp2_with fail
      refine (bit1_any x 7 _ hx (by omega)).mono ?_
      rintro e w' ⟨rfl, rfl⟩
      go_wp2_with fail
      refine (with_any x 3 _ _ hx (by omega)).mono ?_
      rintro e w' ⟨rfl, rfl⟩
      go_wp2_with fail
      refine (with_any _ 7 _ _ (setB_lt _ _ _) (by omega)).mono ?_
      rintro e w' ⟨rfl, rfl⟩
      go_wp2
      go_ret2
      refine ⟨?_, rfl⟩
      rw [H.out, HT.out, HP.out]
      show _ = Ending.returned (.tuple #[.int .u64 ((setMpp (setB (setB x 3 (x.testBit 7)) 7 true) 0 : Nat) : Int), .int .i64 3])
      rw [← HM.out]
      rfl
    · have H : Hid (leaveOf x 3 = setB (leaveM x) 17 false) := by show _ = _; unfold leaveOf; rw [if_pos rfl, if_neg hm]
      obtain ⟨m, hmm⟩ : ∃ m, m = mppOf x := ⟨_, rfl⟩
      have HP := Lib.hid hmm.symm
      have hne : (m != 3) = true := by rw [hmm]; simpa using hm
      clear hm hmm
      go_enter Try.func73, Try.ntmps73
      go_wp2_with fail
      refine (prior_any x _ hx).mono ?_
      rw [HP.out]
      rintro e w' ⟨rfl, rfl⟩
      go_wp2_with fail
      refine (bit1_any x 7 _ hx (by omega)).mono ?_
      rintro e w' ⟨rfl, rfl⟩
      go_wp2_with fail
      refine (with_any x 3 _ _ hx (by omega)).mono ?_
      rintro e w' ⟨rfl, rfl⟩
      go_wp2_with fail
      refine (with_any _ 7 _ _ (setB_lt _ _ _) (by omega)).mono ?_
      rintro e w' ⟨rfl, rfl⟩
      go_wp2_with fail
      rw [HM.out]
      refine (with_any _ 17 _ _ (setMpp_lt _ _) (by omega)).mono ?_
      rintro e w' ⟨rfl, rfl⟩
      go_wp2
      go_ret2
      refine ⟨?_, rfl⟩
      rw [H.out, HT.out, HP.out]
      rfl
  · have e3 : (t == 3) = false := by simpa using h3
    by_cases h1 : t = 1
    · subst h1
      have H : Hid (leaveOf x 1 = leaveS x) := by show _ = _; unfold leaveOf; rw [if_neg (by omega), if_pos rfl]
      have HT : Hid (leaveTo x 1 = if x.testBit 8 = true then 1 else 0) := by show _ = _; unfold leaveTo; rw [if_neg (by omega), if_pos rfl]
      clear h3
      cases hb : x.testBit 8
      all_goals
        rw [hb] at HT
        have HB := Lib.hid hb
        clear hb
        go_enter Try.func73, Try.ntmps73
        go_wp2_with fail
        refine (bit1_any x 8 _ hx (by omega)).mono ?_
        rw [HB.out]
        rintro e w' ⟨rfl, rfl⟩
        go_wp2_with fail
        refine (bit1_any x 5 _ hx (by omega)).mono ?_
        rintro e w' ⟨rfl, rfl⟩
        go_wp2_with fail
        refine (with_any x 1 _ _ hx (by omega)).mono ?_
        rintro e w' ⟨rfl, rfl⟩
        go_wp2_with fail
        refine (with_any _ 5 _ _ (setB_lt _ _ _) (by omega)).mono ?_
        rintro e w' ⟨rfl, rfl⟩
        go_wp2_with fail
        refine (with_any _ 8 _ _ (setB_lt _ _ _) (by omega)).mono ?_
        rintro e w' ⟨rfl, rfl⟩
        go_wp2_with fail
        refine (with_any _ 17 _ _ (setB_lt _ _ _) (by omega)).mono ?_
        rintro e w' ⟨rfl, rfl⟩
        go_wp2
        go_ret2
        refine ⟨?_, rfl⟩
        rw [H.out, HT.out]
        rfl
    · have e1 : (t == 1) = false := by simpa using h1
      have H : Hid (leaveOf x t = x) := by show _ = _; unfold leaveOf; rw [if_neg h3, if_neg h1]
      have HT : Hid (leaveTo x t = 0) := by show _ = _; unfold leaveTo; rw [if_neg h3, if_neg h1]
      clear h3 h1
      go_enter Try.func73, Try.ntmps73
      go_wp2
      go_ret2
      exact ⟨by rw [H.out, HT.out]; rfl, rfl⟩

set_option maxRecDepth 100000 in
set_option maxHeartbeats 2000000 in
theorem rleave_any (x : Nat) (t : Int) (w : World) (hx : x < 18446744073709551616) :
    Calls Try.prog 104 #[.int .u64 (x : Int), .int .i64 t] w fun e w' => e = .returned (.tuple #[.int .u64 (leaveOf x t : Nat), .int .i64 (leaveTo x t)]) ∧ Below w.heap.size w w' := by
  by_cases h3 : t = 3
  · subst h3
    have HT : Hid (leaveTo x 3 = mppOf x) := by show _ = _; unfold leaveTo; rw [if_pos rfl]
    have H : Hid (leaveOf x 3 = if mppOf x = 3 then leaveM x else setB (leaveM x) 17 false) := by show _ = _; unfold leaveOf; rw [if_pos rfl]
    obtain ⟨m, hmm⟩ : ∃ m, m = mppOf x := ⟨_, rfl⟩
    rw [← hmm] at H
    have HP := Lib.hid hmm.symm
    clear hmm
    by_cases hm : m = 3
    · subst hm
      have H' : Hid (leaveOf x 3 = leaveM x) := by show _ = _; rw [H.out, if_pos rfl]
      clear H
      go_enter Try.func104, Try.ntmps104
      go_wp2_with fail
      refine (rmpp_any x _ hx).mono ?_
      rw [HP.out]
      rintro e w1 ⟨rfl, hb1⟩
      go_wp2_with fail
      refine (get_at (c := 7) (by omega) at_mpie x hx _).mono ?_
      rintro e w' ⟨rfl, rfl⟩
      go_wp2_with fail
      refine (put_at (c := 3) (by omega) at_mie x hx _ (x.testBit 7) rfl _).mono ?_
      rintro e w2 ⟨rfl, hb2⟩
      go_wp2_with fail
      refine (put_at (c := 7) (by omega) at_mpie _ (setB_lt _ _ _) 1 true rfl _).mono ?_
      rintro e w3 ⟨rfl, hb3⟩
      go_wp2_with fail
      refine (put_any _ 0 11 2 _ (setB_lt _ _ _) (by decide) b11 b2).mono ?_
      rintro e w4 ⟨rfl, hb4⟩
      go_wp2
      go_ret2
      exact ⟨by rw [H'.out, HT.out, HP.out]; rfl, (((((Fr.refl _).step hb1).step hb2).step hb3).step hb4).1⟩
    · have hne : (m != 3) = true := by simpa using hm
      have H' : Hid (leaveOf x 3 = setB (leaveM x) 17 false) := by show _ = _; rw [H.out, if_neg hm]
      clear hm H
      go_enter Try.func104, Try.ntmps104
      go_wp2_with fail
      refine (rmpp_any x _ hx).mono ?_
      rw [HP.out]
      rintro e w1 ⟨rfl, hb1⟩
      go_wp2_with fail
      refine (get_at (c := 7) (by omega) at_mpie x hx _).mono ?_
      rintro e w' ⟨rfl, rfl⟩
      go_wp2_with fail
      refine (put_at (c := 3) (by omega) at_mie x hx _ (x.testBit 7) rfl _).mono ?_
      rintro e w2 ⟨rfl, hb2⟩
      go_wp2_with fail
      refine (put_at (c := 7) (by omega) at_mpie _ (setB_lt _ _ _) 1 true rfl _).mono ?_
      rintro e w3 ⟨rfl, hb3⟩
      go_wp2_with fail
      refine (put_any _ 0 11 2 _ (setB_lt _ _ _) (by decide) b11 b2).mono ?_
      rintro e w4 ⟨rfl, hb4⟩
      go_wp2_with fail
      refine (put_at (c := 17) (by omega) at_mprv _ (W64_lt _) 0 false rfl _).mono ?_
      rintro e w5 ⟨rfl, hb5⟩
      go_wp2
      go_ret2
      exact ⟨by rw [H'.out, HT.out, HP.out]; rfl, ((((((Fr.refl _).step hb1).step hb2).step hb3).step hb4).step hb5).1⟩
  · have e3 : (t == 3) = false := by simpa using h3
    by_cases h1 : t = 1
    · subst h1
      have H : Hid (leaveOf x 1 = leaveS x) := by show _ = _; unfold leaveOf; rw [if_neg (by omega), if_pos rfl]
      have HT : Hid (leaveTo x 1 = ((x.testBit 8).toNat : Nat)) := by show _ = _; unfold leaveTo; rw [if_neg (by omega), if_pos rfl]; cases x.testBit 8 <;> rfl
      have h8 : ((x.testBit 8).toNat : Nat) ≤ 1 := by cases x.testBit 8 <;> decide
      clear h3
      go_enter Try.func104, Try.ntmps104
      go_wp2_with fail
      refine (get_at (c := 5) (by omega) at_spie x hx _).mono ?_
      rintro e w' ⟨rfl, rfl⟩
      go_wp2_with fail
      refine (put_at (c := 1) (by omega) at_sie x hx _ (x.testBit 5) rfl _).mono ?_
      rintro e w1 ⟨rfl, hb1⟩
      go_wp2_with fail
      refine (put_at (c := 5) (by omega) at_spie _ (setB_lt _ _ _) 1 true rfl _).mono ?_
      rintro e w2 ⟨rfl, hb2⟩
      go_wp2_with fail
      refine (put_at (c := 8) (by omega) at_spp _ (setB_lt _ _ _) 0 false rfl _).mono ?_
      rintro e w3 ⟨rfl, hb3⟩
      go_wp2_with fail
      refine (put_at (c := 17) (by omega) at_mprv _ (setB_lt _ _ _) 0 false rfl _).mono ?_
      rintro e w4 ⟨rfl, hb4⟩
      go_wp2_with fail
      refine (get_at (c := 8) (by omega) at_spp x hx _).mono ?_
      rintro e w' ⟨rfl, rfl⟩
      go_wp2
      go_ret2
      exact ⟨by rw [H.out, HT.out]; rfl, (((((Fr.refl _).step hb1).step hb2).step hb3).step hb4).1⟩
    · have e1 : (t == 1) = false := by simpa using h1
      have H : Hid (leaveOf x t = x) := by show _ = _; unfold leaveOf; rw [if_neg h3, if_neg h1]
      have HT : Hid (leaveTo x t = 0) := by show _ = _; unfold leaveTo; rw [if_neg h3, if_neg h1]
      clear h3 h1
      go_enter Try.func104, Try.ntmps104
      go_wp2
      go_ret2
      exact ⟨by rw [H.out, HT.out]; rfl, Below.refl _ _⟩

theorem leaveOf_lt (x : Nat) (t : Int) (hx : x < 18446744073709551616) : leaveOf x t < 18446744073709551616 := by
  unfold leaveOf
  split
  · split
    · exact setMpp_lt _ _
    · exact setB_lt _ _ _
  · split
    · exact setB_lt _ _ _
    · exact hx
end Go.Proofs.Ythkkfdhgpaonjaa

/- Snap: a sealed row of which one byte is changed is spoilt. Plain. -/
import Derived.Test.YtcfbbimahbhgjaaSnT
namespace Go.Proofs.Ytcfbbimahbhgjaa
open Go.RowKit

theorem sum_step {a b x : Nat} (ha : a < 4294967296) (hb : b < 4294967296) (h : (31 * a + x) % 4294967296 = (31 * b + x) % 4294967296) : a = b := by omega
theorem sum_lt (l : List Nat) : ∀ s, s < 4294967296 → l.foldl (fun n x => (31 * n + x) % 4294967296) s < 4294967296 := sum_foldl l
theorem sum_inj (l : List Nat) : ∀ s t, s < 4294967296 → t < 4294967296 → l.foldl (fun n x => (31 * n + x) % 4294967296) s = l.foldl (fun n x => (31 * n + x) % 4294967296) t → s = t := by
  induction l with
  | nil => exact fun s t _ _ h => h
  | cons x l ih =>
    intro s t hs ht h
    exact sum_step hs ht (ih _ _ (Nat.mod_lt _ (by omega)) (Nat.mod_lt _ (by omega)) h)
theorem sum_set (l : List Nat) : ∀ (s i c : Nat), s < 4294967296 → i < l.length → c < 256 → (∀ x ∈ l, x < 256) → l[i]? ≠ some c → (l.set i c).foldl (fun n x => (31 * n + x) % 4294967296) s ≠ l.foldl (fun n x => (31 * n + x) % 4294967296) s := by
  induction l with
  | nil => intro s i c _ hi; simp at hi
  | cons x l ih =>
    intro s i c hs hi hc h8 hne
    have hx := h8 x (List.mem_cons_self ..)
    cases i with
    | zero =>
      intro h
      have e := sum_inj l _ _ (Nat.mod_lt _ (by omega)) (Nat.mod_lt _ (by omega)) h
      have : x ≠ c := fun e => hne (by rw [e]; rfl)
      omega
    | succ i => exact ih _ i c (Nat.mod_lt _ (by omega)) (by simpa using hi) hc (fun y hy => h8 y (List.mem_cons_of_mem _ hy)) (by simpa using hne)
theorem sb_inj {S T : Nat} (hS : S < 4294967296) (hT : T < 4294967296) (h : sb S = sb T) : S = T := by
  simp only [sb, List.cons.injEq, and_true] at h
  omega
theorem sb_8 (S : Nat) (hS : S < 4294967296) : ∀ x ∈ sb S, x < 256 := by
  intro x hx
  simp only [sb, List.mem_cons, List.not_mem_nil, or_false] at hx
  omega
theorem spoil (l : List Nat) (at_ c : Nat) (h8 : ∀ x ∈ l, x < 256) (hat : at_ < (l ++ sb (sumL l)).length) (hc : c < 256) (hne : (l ++ sb (sumL l))[at_]? ≠ some c) : Spoilt ((l ++ sb (sumL l)).set at_ c) l.length := by
  have hS := sumL_lt l
  have hlen : (l ++ sb (sumL l)).length = l.length + 4 := by simp [sb]
  refine ⟨by rw [List.length_set, hlen], ?_, fun x hx => ?_⟩
  · by_cases h : at_ < l.length
    · rw [List.set_append_left _ _ h, List.drop_left' (by simp), List.take_left' (by simp)]
      intro e
      have e2 := sb_inj hS (sumL_lt _) e
      rw [List.getElem?_append_left h] at hne
      exact sum_set l 7 at_ c (by omega) h hc h8 hne e2.symm
    · rw [List.set_append_right _ _ (by omega), List.drop_left' rfl, List.take_left' rfl]
      intro e
      rw [List.getElem?_append_right (by omega)] at hne
      apply hne
      rw [← e, List.getElem?_set_self (by rw [hlen] at hat; simp [sb]; omega)]
  · rcases List.mem_or_eq_of_mem_set hx with h | rfl
    · rcases List.mem_append.1 h with h | h
      · exact h8 x h
      · exact sb_8 _ hS x h
    · exact hc
end Go.Proofs.Ytcfbbimahbhgjaa

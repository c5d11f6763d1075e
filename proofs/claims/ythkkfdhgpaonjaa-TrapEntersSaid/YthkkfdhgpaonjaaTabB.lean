/- The contracts of Name, Find, Of, Word of causes. -/
import Derived.Test.YthkkfdhgpaonjaaTabA
namespace Go.Proofs.Ythkkfdhgpaonjaa
open Go.RowKit

theorem fr_out {w wr : World} {x : Obj} (h : Fr (w.heap.size + 1) (w.alloc x) wr) : Fr w.heap.size w wr :=
  ⟨((Below.refl _ w).alloc (Nat.le_refl _) x).trans (h.1.mono (by omega)), by have := h.2; omega⟩

theorem not_frozen {w : World} {b : Nat} {c : Array Value} {t : TypeId} (h : w.heap[b]? = some (.cells c t)) (o : Nat) : w.frozen? ⟨b, o, none⟩ = false := by
  simp [World.frozen?, h]
theorem two_cells {w : World} {b : Nat} {v0 v1 : Value} {t : TypeId} (h : w.heap[b]? = some (.cells #[v0, v1] t)) : w.cell? ⟨b, 0, none⟩ = some v0 ∧ w.cell? ⟨b, 1, none⟩ = some v1 := by
  rw [cell_at h, cell_at h]; exact ⟨rfl, rfl⟩

def findOf (s : ByteArray) : Option (Bool × Int × ByteArray) := tab21.find? fun r => r.2.2.toList == s.toList
def optCause : Option (Bool × Int × ByteArray) → Value
  | some r => .tuple #[.agg #[.bool r.1, .int .i64 r.2.1], .bool true]
  | none => .tuple #[.agg #[.bool false, .int .i64 0], .bool false]

theorem flat3 {l : List (Bool × Int × ByteArray)} (k : Nat) {r : Bool × Int × ByteArray} (h : l[k]? = some r) :
    (l.flatMap fun r => [Value.bool r.1, .int .i64 r.2.1, .string r.2.2])[3 * k]? = some (.bool r.1) ∧
    (l.flatMap fun r => [Value.bool r.1, .int .i64 r.2.1, .string r.2.2])[3 * k + 1]? = some (.int .i64 r.2.1) ∧
    (l.flatMap fun r => [Value.bool r.1, .int .i64 r.2.1, .string r.2.2])[3 * k + 2]? = some (.string r.2.2) := by
  induction l generalizing k with
  | nil => simp at h
  | cons a l ih =>
    cases k with
    | zero => simp at h; subst h; simp
    | succ k =>
      have := ih k (by simpa using h)
      have e : 3 * (k + 1) = 3 * k + 3 := by omega
      simp [e, this]

theorem cells21_get (k : Nat) (hk : k < 20) :
    cells21[k * 3]? = some (.bool (tab21.getD k default).1) ∧ cells21[k * 3 + 1]? = some (.int .i64 (tab21.getD k default).2.1) ∧ cells21[k * 3 + 2]? = some (.string (tab21.getD k default).2.2) := by
  have hr : tab21[k]? = some (tab21.getD k default) := by
    have : k < tab21.length := hk
    simp [this]
  have := flat3 k hr
  rw [Nat.mul_comm 3 k] at this
  simpa [cells21] using this

theorem cells21_at {w : World} {b : Nat} {t : TypeId} (h : w.heap[b]? = some (.cells cells21 t)) (k : Nat) (hk : k < 20) :
    w.cell? ⟨b, k * 3, none⟩ = some (.bool (tab21.getD k default).1) ∧ w.cell? ⟨b, k * 3 + 1, none⟩ = some (.int .i64 (tab21.getD k default).2.1) ∧ w.cell? ⟨b, k * 3 + 2, none⟩ = some (.string (tab21.getD k default).2.2) := by
  rw [cell_at h, cell_at h, cell_at h]
  exact cells21_get k hk

theorem find_step (p : Bool × Int × ByteArray → Bool) (k : Nat) (hk : k < 20) : (tab21.drop k).find? p = if p (tab21.getD k default) then some (tab21.getD k default) else (tab21.drop (k + 1)).find? p := by
  have : k < tab21.length := hk
  rw [List.drop_eq_getElem_cons this, List.find?_cons]
  simp only [List.getD_eq_getElem?_getD, List.getElem?_eq_getElem this, Option.getD_some]
  split <;> simp_all
theorem find_end (p : Bool × Int × ByteArray → Bool) : (tab21.drop 20).find? p = none := rfl

set_option maxRecDepth 100000 in
set_option maxHeartbeats 1000000 in
theorem rfind_any (s : ByteArray) (w : World) :
    Calls Try.prog 119 #[.string s] w fun e w' => e = .returned (optCause (findOf s)) ∧ Below w.heap.size w w' := by
  go_enter Try.func119, Try.ntmps119
  go_wp2_with (go_at_call 121; refine (rows21_any _).mono ?_; rintro e w' ⟨rfl, rfl⟩)
  go_loop [5] (fun i => ∃ k : Nat, k ≤ 20 ∧ i = .int .i64 k ∧ Hid ((tab21.drop k).find? (fun r => r.2.2.toList == s.toList) = findOf s)) (fun i => 20 - (intOf i).toNat)
  case atStart => exact ⟨0, by omega, rfl, rfl⟩
  case round =>
    obtain ⟨k, hk, rfl, H⟩ := hrel
    by_cases hlt : k < 20
    · obtain ⟨c0, c1, c2⟩ := cells21_get k hlt
      obtain ⟨r, hr⟩ : ∃ r, r = tab21.getD k default := ⟨_, rfl⟩
      have HS := find_step (fun r => r.2.2.toList == s.toList) k hlt
      rw [← hr] at c0 c1 c2 HS
      have HH : Hid (findOf s = if (r.2.2.toList == s.toList) = true then some r else (tab21.drop (k + 1)).find? (fun r => r.2.2.toList == s.toList)) := by rw [← H.out]; exact HS
      clear HS hr H
      go_wp2
      · refine bodyPost_ret (v := .tuple #[.agg #[.bool r.1, .int .i64 r.2.1], .bool true]) (by simp [results, Try.results119, go_sem]) rfl ⟨?_, ?_⟩
        · rw [HH.out, if_pos (by assumption)]; rfl
        · repeat (first | exact Below.refl _ _ | refine Below.alloc ?_ (by simp) _)
      · go_round
        case rel => exact ⟨k + 1, by omega, by go_num, by rw [HH.out, if_neg (by simp only [Bool.not_eq_true]; assumption)]; rfl⟩
        case measure => simp [intOf]; omega
    · obtain rfl : k = 20 := by omega
      go_wp2
      refine bodyPost_ret (v := .tuple #[.agg #[.bool false, .int .i64 0], .bool false]) (by simp [results, Try.results119, go_sem]) rfl ⟨?_, ?_⟩
      · rw [← H.out]; rfl
      · repeat (first | exact Below.refl _ _ | refine Below.alloc ?_ (by simp) _)
end Go.Proofs.Ythkkfdhgpaonjaa

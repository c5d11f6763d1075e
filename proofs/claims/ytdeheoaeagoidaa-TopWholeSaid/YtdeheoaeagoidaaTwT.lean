/- roebucktop's lone. -/
import Derived.Test.YtdeheoaeagoidaaTwR
namespace Go.Proofs.Ytdeheoaeagoidaa
open Go.RowKit
set_option linter.unusedSimpArgs false
set_option linter.unusedVariables false
attribute [local simp high] sizeAsk sizeAns zeroAns

set_option maxRecDepth 100000 in
set_option maxHeartbeats 8000000 in
theorem lone_any (w : World) : Calls Try.prog 6 #[] w fun e w' => e = .returned (.bool true) ∧ Below w.heap.size w w' := by
  have hs := size_askC
  have hs2 := size_ansC
  go_enter Try.func6, Try.ntmps6
  go_wp2_with fail
  refine (shnew_any 1 _ (by omega) (by omega)).mono ?_
  rintro e w1 ⟨s, r, m, rfl, hS, hR, hb1, hs1, hr1, hm1⟩
  have S1 : ShAt w1 s r m 0 1 (fun _ _ => 0) := ⟨hS, hR⟩
  have F1 := (Fr.refl w).step hb1
  clear hS hR
  have ok0 : ∀ i, OkL ((fun (_ _ : Nat) => 0) i) := fun i j => by show 0 < 256; omega
  have Ld := Lib.hid (lt_of_at S1.1)
  go_wp2_with fail
  refine (do_store s r m 0 1 2147483648 0 7 (fun _ _ => 0) _ ok0 (by omega) S1 (by omega) (by omega) (by omega) (by omega) (by omega)).mono ?_
  rintro e w2 ⟨rfl, W2, g', S2, ok2, hn2⟩
  have F2 := W2.1 _ _ hm1 F1
  clear S1 F1 W2 ok0
  go_wp2_with fail
  refine (do_load s r m _ 1 2147483648 0 7 0 g' _ ok2 S2 (by omega) (by omega) (by omega) (by omega) hn2).mono ?_
  rintro e w3 ⟨rfl, hb3⟩
  have F3 := F2.step hb3
  have FE := Lib.hid (F3.alloc (.cells (ansC 7) 52))
  have stn := stnAns w3
  have kb := heap_alloc_new w3 (.cells (ansC 7) 52)
  have c0 : (w3.alloc (.cells (ansC 7) 52)).cell? ⟨w3.heap.size, 0, none⟩ = some (.int .u64 7) := by rw [cell_at kb]; rfl
  have hs3 := size_ansC 7
  clear S2 F2 ok2 hn2 hb3 F3 kb
  go_wp2_with fail
  go_ret
  exact ⟨rfl, FE.out.1⟩
end Go.Proofs.Ytdeheoaeagoidaa

/- Layer 23: the document's Enter. -/
import Derived.Test.YthkkfdhgpaonjaaTrC
import Derived.Test.YthkkfdhgpaonjaaTrB
import Derived.Deep.DeepCutAuto
namespace Go.Proofs.Ythkkfdhgpaonjaa
open Go.RowKit
set_option linter.unusedSimpArgs false
set_option linter.unusedVariables false

attribute [local simp high] sizeRv zeroRv
attribute [local go_sem ↓] Go.wp_at_zero Go.wp_at_succ
theorem rto_v {i : Bool} {c p q : Int} {d e : Nat} (h : toOf i c p d e = q) (w : World) (hd : d < 18446744073709551616) (he : e < 18446744073709551616) :
    Calls Try.prog 99 #[.agg #[.bool i, .int .i64 c], .int .i64 p, .int .u64 (d : Int), .int .u64 (e : Int)] w fun e' w' => e' = .returned (.int .i64 q) ∧ Below w.heap.size w w' := by
  rw [← h]; exact rto_any i c p d e w hd he
theorem rword_v {i : Bool} {c : Int} {y : Nat} (h : wordOf i c = y) (w : World) :
    Calls Try.prog 101 #[.agg #[.bool i, .int .i64 c]] w fun e w' => e = .returned (.int .u64 (y : Int)) ∧ Below w.heap.size w w' := by
  rw [← h]; exact rword_any i c w
theorem renter_v {x : Nat} {f t : Int} {y : Nat} (h : enterOf x f t = y) (w : World) (hx : x < 18446744073709551616) :
    Calls Try.prog 103 #[.int .u64 (x : Int), .int .i64 f, .int .i64 t] w fun e w' => e = .returned (.int .u64 (y : Int)) ∧ Below w.heap.size w w' := by
  rw [← h]; exact renter_any x f t w hx
/-- The three blocks of the document's Enter. -/
def E3 (b : Nat) (i : Bool) (c : Int) (s : FS) (w0 w : World) : Prop :=
  Fr b w0 w ∧ w.heap[b]? = some (.cells (cellsR s) 34) ∧ w.heap[b + 1]? = some (.cells #[.bool i, .int .i64 c] 91) ∧ w.heap[b + 1 + 1]? = some (.cells (cellsR zeroF) 34)
theorem E3.step {b : Nat} {i : Bool} {c : Int} {s : FS} {w0 w w' : World} (h : E3 b i c s w0 w) (hb : Below w.heap.size w w') : E3 b i c s w0 w' := ⟨h.1.step hb, keepB hb h.2.1, keepB hb h.2.2.1, keepB hb h.2.2.2⟩
theorem E3.drew {b : Nat} {i : Bool} {c : Int} {s : FS} {w0 w : World} (h : E3 b i c s w0 w) : E3 b i c s w0 w.drew := ⟨h.1.drew, h.2.1, h.2.2.1, h.2.2.2⟩
theorem E3.row {b : Nat} {i : Bool} {c : Int} {s : FS} {w0 w : World} (h : E3 b i c s w0 w) (s' : FS) : E3 b i c s' w0 (w.setRow b (cellsR s')) := ⟨h.1.row (Nat.le_refl _) _, row_at h.2.1 _, keep_row h.2.2.1 (by omega) _, keep_row h.2.2.2 (by omega) _⟩
theorem E3.ld {P : Program} {b : Nat} {i : Bool} {c : Int} {s : FS} {w0 w : World} (h : E3 b i c s w0 w) : (loadCellsFrom ⟨b, 0, none⟩ 0 szR #[]).run P w = .ok (cellsR s) w := ldR h.2.1
theorem E3.st {P : Program} {b : Nat} {i : Bool} {c : Int} {s : FS} {w0 w : World} (h : E3 b i c s w0 w) (s' : FS) : (storeCells ⟨b, 0, none⟩ (cellsR s').toList).run P w = .ok () (w.setRow b (cellsR s')) := stR P h.2.1 s'
theorem E3.cs {b : Nat} {i : Bool} {c : Int} {s : FS} {w0 w : World} (h : E3 b i c s w0 w) : w.cell? ⟨b + 1, 0, none⟩ = some (.bool i) ∧ w.cell? ⟨b + 1, 1, none⟩ = some (.int .i64 c) := ⟨by rw [cell_at h.2.2.1]; rfl, by rw [cell_at h.2.2.1]; rfl⟩
theorem heldE3 {w w' : World} {b : Nat} {i : Bool} {c : Int} {s : FS} {w0 : World} {o : Obj} (hb : Below w.heap.size w w') (h : (E3 b i c s w0 w ∧ w.heap[b]? = some o) ∧ w.cell? ⟨b + 1, 0, none⟩ = some (.bool i) ∧ w.cell? ⟨b + 1, 1, none⟩ = some (.int .i64 c)) :
    (E3 b i c s w0 w' ∧ w'.heap[b]? = some o) ∧ w'.cell? ⟨b + 1, 0, none⟩ = some (.bool i) ∧ w'.cell? ⟨b + 1, 1, none⟩ = some (.int .i64 c) := ⟨⟨h.1.1.step hb, keepB hb h.1.2⟩, hcell hb h.2.1, hcell hb h.2.2⟩
theorem nmc_sepc : NameOk (⟨#[115]⟩ ++ ⟨#[101, 112, 99]⟩) 321 3 5 := by
  have e : (⟨#[115]⟩ ++ ⟨#[101, 112, 99]⟩ : ByteArray) = ⟨#[115, 101, 112, 99]⟩ := by decide +kernel
  rw [e]; exact nm_sepc
theorem nmc_scause : NameOk (⟨#[115]⟩ ++ ⟨#[99, 97, 117, 115, 101]⟩) 322 4 6 := by
  have e : (⟨#[115]⟩ ++ ⟨#[99, 97, 117, 115, 101]⟩ : ByteArray) = ⟨#[115, 99, 97, 117, 115, 101]⟩ := by decide +kernel
  rw [e]; exact nm_scause
theorem nmc_stval : NameOk (⟨#[115]⟩ ++ ⟨#[116, 118, 97, 108]⟩) 323 5 7 := by
  have e : (⟨#[115]⟩ ++ ⟨#[116, 118, 97, 108]⟩ : ByteArray) = ⟨#[115, 116, 118, 97, 108]⟩ := by decide +kernel
  rw [e]; exact nm_stval
theorem nmc_stvec : NameOk (⟨#[115]⟩ ++ ⟨#[116, 118, 101, 99]⟩) 261 0 2 := by
  have e : (⟨#[115]⟩ ++ ⟨#[116, 118, 101, 99]⟩ : ByteArray) = ⟨#[115, 116, 118, 101, 99]⟩ := by decide +kernel
  rw [e]; exact nm_stvec
theorem nmc_mepc : NameOk (⟨#[109]⟩ ++ ⟨#[101, 112, 99]⟩) 833 14 18 := by
  have e : (⟨#[109]⟩ ++ ⟨#[101, 112, 99]⟩ : ByteArray) = ⟨#[109, 101, 112, 99]⟩ := by decide +kernel
  rw [e]; exact nm_mepc
theorem nmc_mcause : NameOk (⟨#[109]⟩ ++ ⟨#[99, 97, 117, 115, 101]⟩) 834 15 19 := by
  have e : (⟨#[109]⟩ ++ ⟨#[99, 97, 117, 115, 101]⟩ : ByteArray) = ⟨#[109, 99, 97, 117, 115, 101]⟩ := by decide +kernel
  rw [e]; exact nm_mcause
theorem nmc_mtval : NameOk (⟨#[109]⟩ ++ ⟨#[116, 118, 97, 108]⟩) 835 16 20 := by
  have e : (⟨#[109]⟩ ++ ⟨#[116, 118, 97, 108]⟩ : ByteArray) = ⟨#[109, 116, 118, 97, 108]⟩ := by decide +kernel
  rw [e]; exact nm_mtval
theorem nmc_mtvec : NameOk (⟨#[109]⟩ ++ ⟨#[116, 118, 101, 99]⟩) 773 11 15 := by
  have e : (⟨#[109]⟩ ++ ⟨#[116, 118, 101, 99]⟩ : ByteArray) = ⟨#[109, 116, 118, 101, 99]⟩ := by decide +kernel
  rw [e]; exact nm_mtvec
theorem E3.stz {P : Program} {b : Nat} {i : Bool} {c : Int} {s : FS} {w0 w : World} (h : E3 b i c s w0 w) (s' : FS) : (storeCells ⟨b + 1 + 1, 0, none⟩ (cellsR s').toList).run P w = .ok () (w.setRow (b + 1 + 1) (cellsR s')) := stR P h.2.2.2 s'
theorem E3.lvz {b : Nat} {i : Bool} {c : Int} {s : FS} {w0 w : World} (h : E3 b i c s w0 w) (s' : FS) : (loadVar 34 ⟨b + 1 + 1, 0, none⟩).run Try.prog (w.setRow (b + 1 + 1) (cellsR s')) = .ok (.agg (cellsR s')) (w.setRow (b + 1 + 1) (cellsR s')) := lvR (row_at h.2.2.2 (cellsR s'))
theorem E3.end {b : Nat} {i : Bool} {c : Int} {s : FS} {w0 w : World} (h : E3 b i c s w0 w) (s' : FS) : Below b w0 (w.setRow (b + 1 + 1) (cellsR s')) := (h.1.row (by omega) _).1
set_option maxRecDepth 100000 in
set_option maxHeartbeats 4000000 in
theorem rtenter_1 (s : FS) (i : Bool) (c p : Int) (pc tv : Nat) (w : World) (ok : OkF s) (hpc : pc < 18446744073709551616) (htv : tv < 18446744073709551616) (hto : toOf i c p (s.g 8) (s.g 9) = 1) :
    Calls Try.prog 59 #[.agg (cellsR s), .agg #[.bool i, .int .i64 c], .int .i64 p, .int .u64 (pc : Int), .int .u64 (tv : Int)] w fun e w' => e = .returned (.tuple #[.agg (cellsR (entS s i c p pc tv)), .int .i64 1, .int .u64 (entV s i c p : Int)]) ∧ Below w.heap.size w w' := by
  obtain ⟨y1, hy1⟩ : ∃ y, legalOf 321 (s.g 3) pc = y := ⟨_, rfl⟩
  obtain ⟨s1, hs1⟩ : ∃ s', setG s 3 y1 = s' := ⟨_, rfl⟩
  obtain ⟨wd, hwd⟩ : ∃ x, wordOf i c = x := ⟨_, rfl⟩
  obtain ⟨y2, hy2⟩ : ∃ y, legalOf 322 (s1.g 4) wd = y := ⟨_, rfl⟩
  obtain ⟨s2, hs2⟩ : ∃ s', setG s1 4 y2 = s' := ⟨_, rfl⟩
  obtain ⟨y3, hy3⟩ : ∃ y, legalOf 323 (s2.g 5) tv = y := ⟨_, rfl⟩
  obtain ⟨s3, hs3⟩ : ∃ s', setG s2 5 y3 = s' := ⟨_, rfl⟩
  obtain ⟨x, hx⟩ : ∃ x, enterOf (s3.g 7) p 1 = x := ⟨_, rfl⟩
  obtain ⟨s4, hs4⟩ : ∃ s', setG s3 7 x = s' := ⟨_, rfl⟩
  obtain ⟨v, hv⟩ : ∃ v, vecOf (s4.g 0) i c = v := ⟨_, rfl⟩
  have q1 : setOf s 321 pc = s1 := by rw [setOf_plain own321 (by omega) (by omega) (by omega) (by omega) (by omega), hy1, hs1]
  have q2 : setOf s1 322 wd = s2 := by rw [setOf_plain own322 (by omega) (by omega) (by omega) (by omega) (by omega), hy2, hs2]
  have q3 : setOf s2 323 tv = s3 := by rw [setOf_plain own323 (by omega) (by omega) (by omega) (by omega) (by omega), hy3, hs3]
  have ok1 : OkF s1 := by rw [← q1]; exact ok.set _ _
  have ok2 : OkF s2 := by rw [← q2]; exact ok1.set _ _
  have ok3 : OkF s3 := by rw [← q3]; exact ok2.set _ _
  have hwd64 : wd < 18446744073709551616 := by rw [← hwd]; exact wordOf_lt _ _
  have h37 := ok3.g 7
  have hx64 : x < 18446744073709551616 := by rw [← hx]; exact enterOf_lt _ _ _ h37
  have ok4 : OkF s4 := by rw [← hs4]; exact ok3.setG _ _ hx64
  have h4v := ok4.g 0
  have HO : Hid (entS s i c p pc tv = s4) := by show _ = _; rw [entS_1r hto, q1, hwd, q2, q3, hx, hs4]
  have HV : Hid (entV s i c p = v) := by show _ = _; rw [entV_1r (a := pc) (b := wd) (d := tv) (x := x) hto, q1, q2, q3, hs4, hv]
  have Y1 := Lib.hid hy1
  have Y2 := Lib.hid hy2
  have Y3 := Lib.hid hy3
  have S1 := Lib.hid hs1
  have S2 := Lib.hid hs2
  have S3 := Lib.hid hs3
  have S4 := Lib.hid hs4
  have WD := Lib.hid hwd
  have X1 := Lib.hid hx
  have VV := Lib.hid hv
  clear hy1 hs1 hwd hy2 hs2 hy3 hs3 hx hs4 hv q1 q2 q3
  have HTO := Lib.hid hto
  have h8 := ok.g 8
  have h9 := ok.g 9
  have l1 := zeroRv
  have l2 := sizeRv
  have l3 := size_cellsR
  have E0 : E3 w.heap.size i c s w (((w.alloc (.cells (cellsR s) 34)).alloc (.cells #[.bool i, .int .i64 c] 91)).alloc (.cells (cellsR zeroF) 34)) :=
    ⟨(((Fr.refl w).alloc _).alloc _).alloc _, keep_alloc (keep_alloc (heap_alloc_new _ _) _) _, keep_alloc (by simpa using heap_alloc_new (w.alloc (.cells (cellsR s) 34)) (.cells #[.bool i, .int .i64 c] 91)) _, by simpa using heap_alloc_new ((w.alloc (.cells (cellsR s) 34)).alloc (.cells #[.bool i, .int .i64 c] 91)) (.cells (cellsR zeroF) 34)⟩
  go_enter Try.func59, Try.ntmps59
  go_upto_region 1 with fail
  obtain ⟨WA, hWA⟩ : ∃ WA, ((w.alloc (.cells (cellsR s) 34)).alloc (.cells #[.bool i, .int .i64 c] 91)).alloc (.cells (cellsR zeroF) 34) = WA := ⟨_, rfl⟩
  rw [hWA] at E0 ⊢
  clear hWA
  obtain ⟨c0, c1⟩ := E0.drew.cs
  have lsA : ∀ w' : World, w'.heap[w.heap.size]? = some (.cells (cellsR s) 34) → (loadCellsFrom ⟨w.heap.size, 0, none⟩ 0 szR #[]).run Try.prog w' = .ok (cellsR s) w' := fun w' h => ldR h
  have x0 := E0.2.1
  go_region_held3 (fun w' => (E3 w.heap.size i c s w w' ∧ w'.heap[w.heap.size]? = some (.cells (cellsR s) 34)) ∧ w'.cell? ⟨w.heap.size + 1, 0, none⟩ = some (.bool i) ∧ w'.cell? ⟨w.heap.size + 1, 1, none⟩ = some (.int .i64 c))
    (first | exact heldE3 ‹_› ‹_› | exact ⟨⟨E0.drew, x0⟩, c0, c1⟩ | go_keep)
    (first
      | (go_at_call 90; refine (word_n (by first | exact nm_medeleg | exact nm_mideleg) rfl _).mono ?_; rintro e w' ⟨rfl, hb⟩)
      | (go_at_call 99; refine (rto_v HTO.out _ h8 h9).mono ?_; rintro e w' ⟨rfl, hb⟩))
  rename_i w1 hS1
  have E1 := hS1.1.1
  have ls1 := E1.ld (P := Try.prog)
  clear hS1 E0 c0 c1 lsA x0
  go_wp2_with fail
  refine (rtlay_any nmc_sepc Y1.out S1.out _ ok hpc).mono ?_
  rintro e w2 ⟨rfl, hb2⟩
  have E2 := E1.step hb2
  have st2 := E2.st (P := Try.prog) s1
  have E3' := E2.row s1
  have E3h := Lib.hid E3'
  clear E1 E2 E3' ls1
  go_upto_region 6 with fail
  go_cut [] (fun wx => E3 w.heap.size i c s2 w wx)
  case first =>
    have hE0 := E3h.out.drew
    have x0 := hE0.2.1
    obtain ⟨c0, c1⟩ := hE0.cs
    have lsA : ∀ w' : World, w'.heap[w.heap.size]? = some (.cells (cellsR s1) 34) → (loadCellsFrom ⟨w.heap.size, 0, none⟩ 0 szR #[]).run Try.prog w' = .ok (cellsR s1) w' := fun w' h => ldR h
    have stA : ∀ w' : World, w'.heap[w.heap.size]? = some (.cells (cellsR s1) 34) → (storeCells ⟨w.heap.size, 0, none⟩ (cellsR s2).toList).run Try.prog w' = .ok () (w'.setRow w.heap.size (cellsR s2)) := fun w' h => stR _ h s2
    go_region_with (first
      | (go_at_call 101; refine (rword_v WD.out _).mono ?_; rintro e w' ⟨rfl, hb⟩; have hE := E3.step ‹_› hb; have x0 := hE.2.1; obtain ⟨c0, c1⟩ := hE.cs)
      | (go_at_call 100; refine (rtlay_any nmc_scause Y2.out S2.out _ ok1 hwd64).mono ?_; rintro e w' ⟨rfl, hb⟩; have hE := E3.step ‹_› hb; have x0 := hE.2.1; obtain ⟨c0, c1⟩ := hE.cs))
    all_goals (go_wp2_with fail; go_meet; exact hE.row s2)
  case rest =>
    have ls3 := hcut.ld (P := Try.prog)
    go_wp2_with fail
    refine (rtlay_any nmc_stval Y3.out S3.out _ ok2 htv).mono ?_
    rintro e w4 ⟨rfl, hb4⟩
    have E4 := hcut.step hb4
    have st4 := E4.st (P := Try.prog) s3
    have E5h := Lib.hid (E4.row s3)
    clear hcut E4 ls3
    go_upto_region 8 with fail
    clear st4
    go_cut [] (fun wx => E3 w.heap.size i c s4 w wx)
    case first =>
      have hE0 := E5h.out.drew
      have x0 := hE0.2.1
      obtain ⟨c0, c1⟩ := hE0.cs
      have lsA : ∀ w' : World, w'.heap[w.heap.size]? = some (.cells (cellsR s3) 34) → (loadCellsFrom ⟨w.heap.size, 0, none⟩ 0 szR #[]).run Try.prog w' = .ok (cellsR s3) w' := fun w' h => ldR h
      have stA : ∀ w' : World, w'.heap[w.heap.size]? = some (.cells (cellsR s3) 34) → (storeCells ⟨w.heap.size, 0, none⟩ (cellsR s4).toList).run Try.prog w' = .ok () (w'.setRow w.heap.size (cellsR s4)) := fun w' h => stR _ h s4
      go_region_with (first
      | (go_at_call 90; refine (word_n nm_mstatus rfl _).mono ?_; rintro e w' ⟨rfl, hb⟩; have hE := E3.step ‹_› hb; have x0 := hE.2.1; obtain ⟨c0, c1⟩ := hE.cs)
      | (go_at_call 103; refine (renter_v X1.out _ h37).mono ?_; rintro e w' ⟨rfl, hb⟩; have hE := E3.step ‹_› hb; have x0 := hE.2.1; obtain ⟨c0, c1⟩ := hE.cs)
      | (go_at_call 102; refine (upper_with nm_mstatus S4.out _).mono ?_; rintro e w' ⟨rfl, hb⟩; have hE := E3.step ‹_› hb; have x0 := hE.2.1; obtain ⟨c0, c1⟩ := hE.cs))
      all_goals (go_wp2_with fail; go_meet; exact hE.row s4)
    case rest =>
      go_wp2_with fail
      have hE0 := hcut.drew
      have x0 := hE0.2.1
      obtain ⟨c0, c1⟩ := hE0.cs
      have lsA : ∀ w' : World, w'.heap[w.heap.size]? = some (.cells (cellsR s4) 34) → (loadCellsFrom ⟨w.heap.size, 0, none⟩ 0 szR #[]).run Try.prog w' = .ok (cellsR s4) w' := fun w' h => ldR h
      have stZ : ∀ w' : World, w'.heap[w.heap.size + 1 + 1]? = some (.cells (cellsR zeroF) 34) → (storeCells ⟨w.heap.size + 1 + 1, 0, none⟩ (cellsR s4).toList).run Try.prog w' = .ok () (w'.setRow (w.heap.size + 1 + 1) (cellsR s4)) := fun w' h => stR _ h s4
      have z0 := hE0.2.2.2
      go_region_with (first
        | (go_at_call 90; refine (word_n nmc_stvec rfl _).mono ?_; rintro e w' ⟨rfl, hb⟩; have hE := E3.step ‹_› hb; have x0 := hE.2.1; have z0 := hE.2.2.2; obtain ⟨c0, c1⟩ := hE.cs)
        | (go_at_call 61; refine (rvec_v VV.out _ h4v).mono ?_; rintro e w' ⟨rfl, hb⟩; have hE := E3.step ‹_› hb; have x0 := hE.2.1; have z0 := hE.2.2.2; obtain ⟨c0, c1⟩ := hE.cs))
      all_goals
        have EE := Lib.hid (hE.lvz s4)
        have FF := Lib.hid (hE.end s4)
        clear lsA stZ
        go_wp2
        refine bodyPost_ret (v := .tuple #[.agg (cellsR s4), .int .i64 1, .int .u64 (v : Int)]) (by simp [results, Try.results59, asAddr, Act.put, EE.out]) rfl ⟨by rw [HO.out, HV.out], FF.out⟩
set_option maxRecDepth 100000 in
set_option maxHeartbeats 4000000 in
theorem rtenter_3 (s : FS) (i : Bool) (c p : Int) (pc tv : Nat) (w : World) (ok : OkF s) (hpc : pc < 18446744073709551616) (htv : tv < 18446744073709551616) (hto : toOf i c p (s.g 8) (s.g 9) = 3) :
    Calls Try.prog 59 #[.agg (cellsR s), .agg #[.bool i, .int .i64 c], .int .i64 p, .int .u64 (pc : Int), .int .u64 (tv : Int)] w fun e w' => e = .returned (.tuple #[.agg (cellsR (entS s i c p pc tv)), .int .i64 3, .int .u64 (entV s i c p : Int)]) ∧ Below w.heap.size w w' := by
  obtain ⟨y1, hy1⟩ : ∃ y, legalOf 833 (s.g 14) pc = y := ⟨_, rfl⟩
  obtain ⟨s1, hs1⟩ : ∃ s', setG s 14 y1 = s' := ⟨_, rfl⟩
  obtain ⟨wd, hwd⟩ : ∃ x, wordOf i c = x := ⟨_, rfl⟩
  obtain ⟨y2, hy2⟩ : ∃ y, legalOf 834 (s1.g 15) wd = y := ⟨_, rfl⟩
  obtain ⟨s2, hs2⟩ : ∃ s', setG s1 15 y2 = s' := ⟨_, rfl⟩
  obtain ⟨y3, hy3⟩ : ∃ y, legalOf 835 (s2.g 16) tv = y := ⟨_, rfl⟩
  obtain ⟨s3, hs3⟩ : ∃ s', setG s2 16 y3 = s' := ⟨_, rfl⟩
  obtain ⟨x, hx⟩ : ∃ x, enterOf (s3.g 7) p 3 = x := ⟨_, rfl⟩
  obtain ⟨s4, hs4⟩ : ∃ s', setG s3 7 x = s' := ⟨_, rfl⟩
  obtain ⟨v, hv⟩ : ∃ v, vecOf (s4.g 11) i c = v := ⟨_, rfl⟩
  have q1 : setOf s 833 pc = s1 := by rw [setOf_plain own833 (by omega) (by omega) (by omega) (by omega) (by omega), hy1, hs1]
  have q2 : setOf s1 834 wd = s2 := by rw [setOf_plain own834 (by omega) (by omega) (by omega) (by omega) (by omega), hy2, hs2]
  have q3 : setOf s2 835 tv = s3 := by rw [setOf_plain own835 (by omega) (by omega) (by omega) (by omega) (by omega), hy3, hs3]
  have ok1 : OkF s1 := by rw [← q1]; exact ok.set _ _
  have ok2 : OkF s2 := by rw [← q2]; exact ok1.set _ _
  have ok3 : OkF s3 := by rw [← q3]; exact ok2.set _ _
  have hwd64 : wd < 18446744073709551616 := by rw [← hwd]; exact wordOf_lt _ _
  have h37 := ok3.g 7
  have hx64 : x < 18446744073709551616 := by rw [← hx]; exact enterOf_lt _ _ _ h37
  have ok4 : OkF s4 := by rw [← hs4]; exact ok3.setG _ _ hx64
  have h4v := ok4.g 11
  have HO : Hid (entS s i c p pc tv = s4) := by show _ = _; rw [entS_3r hto, q1, hwd, q2, q3, hx, hs4]
  have HV : Hid (entV s i c p = v) := by show _ = _; rw [entV_3r (a := pc) (b := wd) (d := tv) (x := x) hto, q1, q2, q3, hs4, hv]
  have Y1 := Lib.hid hy1
  have Y2 := Lib.hid hy2
  have Y3 := Lib.hid hy3
  have S1 := Lib.hid hs1
  have S2 := Lib.hid hs2
  have S3 := Lib.hid hs3
  have S4 := Lib.hid hs4
  have WD := Lib.hid hwd
  have X1 := Lib.hid hx
  have VV := Lib.hid hv
  clear hy1 hs1 hwd hy2 hs2 hy3 hs3 hx hs4 hv q1 q2 q3
  have HTO := Lib.hid hto
  have h8 := ok.g 8
  have h9 := ok.g 9
  have l1 := zeroRv
  have l2 := sizeRv
  have l3 := size_cellsR
  have E0 : E3 w.heap.size i c s w (((w.alloc (.cells (cellsR s) 34)).alloc (.cells #[.bool i, .int .i64 c] 91)).alloc (.cells (cellsR zeroF) 34)) :=
    ⟨(((Fr.refl w).alloc _).alloc _).alloc _, keep_alloc (keep_alloc (heap_alloc_new _ _) _) _, keep_alloc (by simpa using heap_alloc_new (w.alloc (.cells (cellsR s) 34)) (.cells #[.bool i, .int .i64 c] 91)) _, by simpa using heap_alloc_new ((w.alloc (.cells (cellsR s) 34)).alloc (.cells #[.bool i, .int .i64 c] 91)) (.cells (cellsR zeroF) 34)⟩
  go_enter Try.func59, Try.ntmps59
  go_upto_region 1 with fail
  obtain ⟨WA, hWA⟩ : ∃ WA, ((w.alloc (.cells (cellsR s) 34)).alloc (.cells #[.bool i, .int .i64 c] 91)).alloc (.cells (cellsR zeroF) 34) = WA := ⟨_, rfl⟩
  rw [hWA] at E0 ⊢
  clear hWA
  obtain ⟨c0, c1⟩ := E0.drew.cs
  have lsA : ∀ w' : World, w'.heap[w.heap.size]? = some (.cells (cellsR s) 34) → (loadCellsFrom ⟨w.heap.size, 0, none⟩ 0 szR #[]).run Try.prog w' = .ok (cellsR s) w' := fun w' h => ldR h
  have x0 := E0.2.1
  go_region_held3 (fun w' => (E3 w.heap.size i c s w w' ∧ w'.heap[w.heap.size]? = some (.cells (cellsR s) 34)) ∧ w'.cell? ⟨w.heap.size + 1, 0, none⟩ = some (.bool i) ∧ w'.cell? ⟨w.heap.size + 1, 1, none⟩ = some (.int .i64 c))
    (first | exact heldE3 ‹_› ‹_› | exact ⟨⟨E0.drew, x0⟩, c0, c1⟩ | go_keep)
    (first
      | (go_at_call 90; refine (word_n (by first | exact nm_medeleg | exact nm_mideleg) rfl _).mono ?_; rintro e w' ⟨rfl, hb⟩)
      | (go_at_call 99; refine (rto_v HTO.out _ h8 h9).mono ?_; rintro e w' ⟨rfl, hb⟩))
  rename_i w1 hS1
  have E1 := hS1.1.1
  have ls1 := E1.ld (P := Try.prog)
  clear hS1 E0 c0 c1 lsA x0
  go_wp2_with fail
  refine (rtlay_any nmc_mepc Y1.out S1.out _ ok hpc).mono ?_
  rintro e w2 ⟨rfl, hb2⟩
  have E2 := E1.step hb2
  have st2 := E2.st (P := Try.prog) s1
  have E3' := E2.row s1
  have E3h := Lib.hid E3'
  clear E1 E2 E3' ls1
  go_upto_region 6 with fail
  go_cut [] (fun wx => E3 w.heap.size i c s2 w wx)
  case first =>
    have hE0 := E3h.out.drew
    have x0 := hE0.2.1
    obtain ⟨c0, c1⟩ := hE0.cs
    have lsA : ∀ w' : World, w'.heap[w.heap.size]? = some (.cells (cellsR s1) 34) → (loadCellsFrom ⟨w.heap.size, 0, none⟩ 0 szR #[]).run Try.prog w' = .ok (cellsR s1) w' := fun w' h => ldR h
    have stA : ∀ w' : World, w'.heap[w.heap.size]? = some (.cells (cellsR s1) 34) → (storeCells ⟨w.heap.size, 0, none⟩ (cellsR s2).toList).run Try.prog w' = .ok () (w'.setRow w.heap.size (cellsR s2)) := fun w' h => stR _ h s2
    go_region_with (first
      | (go_at_call 101; refine (rword_v WD.out _).mono ?_; rintro e w' ⟨rfl, hb⟩; have hE := E3.step ‹_› hb; have x0 := hE.2.1; obtain ⟨c0, c1⟩ := hE.cs)
      | (go_at_call 100; refine (rtlay_any nmc_mcause Y2.out S2.out _ ok1 hwd64).mono ?_; rintro e w' ⟨rfl, hb⟩; have hE := E3.step ‹_› hb; have x0 := hE.2.1; obtain ⟨c0, c1⟩ := hE.cs))
    all_goals (go_wp2_with fail; go_meet; exact hE.row s2)
  case rest =>
    have ls3 := hcut.ld (P := Try.prog)
    go_wp2_with fail
    refine (rtlay_any nmc_mtval Y3.out S3.out _ ok2 htv).mono ?_
    rintro e w4 ⟨rfl, hb4⟩
    have E4 := hcut.step hb4
    have st4 := E4.st (P := Try.prog) s3
    have E5h := Lib.hid (E4.row s3)
    clear hcut E4 ls3
    go_upto_region 8 with fail
    clear st4
    go_cut [] (fun wx => E3 w.heap.size i c s4 w wx)
    case first =>
      have hE0 := E5h.out.drew
      have x0 := hE0.2.1
      obtain ⟨c0, c1⟩ := hE0.cs
      have lsA : ∀ w' : World, w'.heap[w.heap.size]? = some (.cells (cellsR s3) 34) → (loadCellsFrom ⟨w.heap.size, 0, none⟩ 0 szR #[]).run Try.prog w' = .ok (cellsR s3) w' := fun w' h => ldR h
      have stA : ∀ w' : World, w'.heap[w.heap.size]? = some (.cells (cellsR s3) 34) → (storeCells ⟨w.heap.size, 0, none⟩ (cellsR s4).toList).run Try.prog w' = .ok () (w'.setRow w.heap.size (cellsR s4)) := fun w' h => stR _ h s4
      go_region_with (first
      | (go_at_call 90; refine (word_n nm_mstatus rfl _).mono ?_; rintro e w' ⟨rfl, hb⟩; have hE := E3.step ‹_› hb; have x0 := hE.2.1; obtain ⟨c0, c1⟩ := hE.cs)
      | (go_at_call 103; refine (renter_v X1.out _ h37).mono ?_; rintro e w' ⟨rfl, hb⟩; have hE := E3.step ‹_› hb; have x0 := hE.2.1; obtain ⟨c0, c1⟩ := hE.cs)
      | (go_at_call 102; refine (upper_with nm_mstatus S4.out _).mono ?_; rintro e w' ⟨rfl, hb⟩; have hE := E3.step ‹_› hb; have x0 := hE.2.1; obtain ⟨c0, c1⟩ := hE.cs))
      all_goals (go_wp2_with fail; go_meet; exact hE.row s4)
    case rest =>
      go_wp2_with fail
      have hE0 := hcut.drew
      have x0 := hE0.2.1
      obtain ⟨c0, c1⟩ := hE0.cs
      have lsA : ∀ w' : World, w'.heap[w.heap.size]? = some (.cells (cellsR s4) 34) → (loadCellsFrom ⟨w.heap.size, 0, none⟩ 0 szR #[]).run Try.prog w' = .ok (cellsR s4) w' := fun w' h => ldR h
      have stZ : ∀ w' : World, w'.heap[w.heap.size + 1 + 1]? = some (.cells (cellsR zeroF) 34) → (storeCells ⟨w.heap.size + 1 + 1, 0, none⟩ (cellsR s4).toList).run Try.prog w' = .ok () (w'.setRow (w.heap.size + 1 + 1) (cellsR s4)) := fun w' h => stR _ h s4
      have z0 := hE0.2.2.2
      go_region_with (first
        | (go_at_call 90; refine (word_n nmc_mtvec rfl _).mono ?_; rintro e w' ⟨rfl, hb⟩; have hE := E3.step ‹_› hb; have x0 := hE.2.1; have z0 := hE.2.2.2; obtain ⟨c0, c1⟩ := hE.cs)
        | (go_at_call 61; refine (rvec_v VV.out _ h4v).mono ?_; rintro e w' ⟨rfl, hb⟩; have hE := E3.step ‹_› hb; have x0 := hE.2.1; have z0 := hE.2.2.2; obtain ⟨c0, c1⟩ := hE.cs))
      all_goals
        have EE := Lib.hid (hE.lvz s4)
        have FF := Lib.hid (hE.end s4)
        clear lsA stZ
        go_wp2
        refine bodyPost_ret (v := .tuple #[.agg (cellsR s4), .int .i64 3, .int .u64 (v : Int)]) (by simp [results, Try.results59, asAddr, Act.put, EE.out]) rfl ⟨by rw [HO.out, HV.out], FF.out⟩
theorem rtenter_any (s : FS) (i : Bool) (c p : Int) (pc tv : Nat) (w : World) (ok : OkF s) (hpc : pc < 18446744073709551616) (htv : tv < 18446744073709551616) :
    Calls Try.prog 59 #[.agg (cellsR s), .agg #[.bool i, .int .i64 c], .int .i64 p, .int .u64 (pc : Int), .int .u64 (tv : Int)] w fun e w' => e = .returned (.tuple #[.agg (cellsR (entS s i c p pc tv)), .int .i64 (entTo s i c p), .int .u64 (entV s i c p : Int)]) ∧ Below w.heap.size w w' := by
  rcases entTo_13 s i c p with hto | hto
  · rw [hto]; exact rtenter_1 s i c p pc tv w ok hpc htv hto
  · rw [hto]; exact rtenter_3 s i c p pc tv w ok hpc htv hto
end Go.Proofs.Ythkkfdhgpaonjaa

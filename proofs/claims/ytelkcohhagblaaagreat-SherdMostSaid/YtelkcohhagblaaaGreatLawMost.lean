/-
  The law Most, walked, and its statement.
-/
import Derived.Test.YtelkcohhagblaaaGreatSb44
import Derived.Test.YtelkcohhagblaaaGreatSb07
import Derived.Test.YtelkcohhagblaaaGreatSb41
import Derived.Test.YtelkcohhagblaaaGreatRows
import Derived.Test.YtelkcohhagblaaaGreatChecked
import Derived.ProofKit
import Derived.SizedLaws
import Derived.Lib.SmallJoins
import Derived.Deep.Slices
import Derived.Deep.Fields
import Derived.OpenShut
set_option linter.unusedSimpArgs false
set_option linter.unusedVariables false
set_option linter.unnecessarySimpa false
namespace Go.Proofs.YtelkcohhagblaaaGreat
open Go.RowKit Go.Shelf
set_option maxHeartbeats 8000000
set_option maxRecDepth 100000
theorem wf_c : ∀ i : Nat, i < 1000 → (Lit.int .i64 ((i : Int) + 2)).wf = true := by decide +kernel
theorem wf_i : ∀ i : Nat, i < 1000 → (Lit.int .i64 ((i : Int) + 1)).wf = true := by decide +kernel
theorem mstA_wide (n : Nat) (h : n ≤ 1000) : ∀ x ∈ mstA n, x.Wide := by
  intro x hx
  unfold mstA at hx
  rcases List.mem_cons.1 hx with rfl | hx
  · exact ⟨by unfold maxLen; decide, by unfold maxLen; decide, by decide, by decide, by decide⟩
  · obtain ⟨i, hi, rfl⟩ := List.mem_map.1 hx
    rw [List.mem_range] at hi
    refine ⟨by show (0 : Nat) ≤ maxLen; omega, by show (0 : Nat) ≤ maxLen; omega, by show (0 : Int) ≤ 4 ∧ (4 : Int) ≤ 255; omega, wf_c i (by omega), by show (Lit.int .i64 0).wf = true; decide⟩
theorem mstB_wide (n : Nat) (h : n ≤ 1000) : ∀ x ∈ mstB n, x.Wide := by
  intro x hx
  unfold mstB at hx
  obtain ⟨i, hi, rfl⟩ := List.mem_map.1 hx
  rw [List.mem_range] at hi
  refine ⟨by show (1 : Nat) ≤ maxLen; unfold maxLen; omega, by show (0 : Nat) ≤ maxLen; omega, by show (0 : Int) ≤ 6 ∧ (6 : Int) ≤ 255; omega, wf_i i (by omega), by show (Lit.int .i64 0).wf = true; decide⟩
theorem u64_small (many : Int) : ∃ M : Nat, (IntKind.u64.wrap many).tmod 10 = (M : Int) ∧ M ≤ 9 := by
  have h0 : 0 ≤ IntKind.u64.wrap many := by rw [IntKind.wrap_u64]; omega
  have h1 := Int.tmod_nonneg 10 h0
  have h2 := Int.tmod_lt_of_pos (IntKind.u64.wrap many) (show (0 : Int) < 10 by omega)
  exact ⟨((IntKind.u64.wrap many).tmod 10).toNat, by omega, by omega⟩
theorem lmost (many : Int) (w : World) : Calls Tryz.prog 4 #[.int .i64 many] w fun e w' => e = .returned (.bool true) ∧ Below w.heap.size w w' := by
  have hSh := fun W => lshelved W
  obtain ⟨M, hM, hM9⟩ := u64_small many
  have x1 : wrap64 (M : Int) = M := IntWalk.wrap64_in _ (by omega)
  obtain ⟨n, hn⟩ : ∃ n : Nat, n = 145 + M := ⟨_, rfl⟩
  obtain ⟨m, hm⟩ : ∃ m : Nat, m = 295 + M := ⟨_, rfl⟩
  have x2 : wrap64 (145 + (M : Int)) = (n : Int) := by rw [IntWalk.wrap64_in _ (by omega)]; omega
  have x3 : wrap64 (295 + (M : Int)) = (m : Int) := by rw [IntWalk.wrap64_in _ (by omega)]; omega
  have hB0 := one_alloc w (Obj.cells (ics (mstA 0)).toArray 24)
  have hO0 : (w.alloc (Obj.cells (ics (mstA 0)).toArray 24)).ownsRow w.heap.size 24 16 (.slice (some ⟨w.heap.size, 0, none⟩) 1 1) (0 + 1) (ics (mstA 0)) := ⟨rfl, .inr ⟨w.heap.size, 1, (ics (mstA 0)).toArray, rfl, Nat.le_refl _, World.alloc_heap_new _ _, by omega, by unfold maxLen; omega, rfl, rfl⟩⟩
  by_cases hc : 150 < n
  · have hc1 := hc
    have hc2 : 300 < m := by omega
    have hn2 : n ≤ 154 := by omega
    have hm2 : m ≤ 304 := by omega
    clear hn hm hM9
    go_enter Tryz.func4, Tryz.ntmps4
    go_wp2_with fail
    try simp only [x1, x2]
    have HX := Lib.hid (And.intro hM (And.intro x1 x3))
    clear hM x1 x2 x3
    go_loopw [4, 5] (fun v i wr => ∃ k : Nat, k ≤ n ∧ i = .int .i64 k ∧ wr.ownsRow w.heap.size 24 16 v (k + 1) (ics (mstA k)) ∧ Below w.heap.size w wr) (fun _ i _ => n - (RowKit.intOf i).toNat)
    case atStart => exact ⟨0, Nat.zero_le _, rfl, hO0, hB0⟩
    case round =>
      clear hO0 hB0
      obtain ⟨k, hk, rfl, hown, hB⟩ := hrel
      have hnn : (0 : Int) ≤ k := by omega
      by_cases hlt : k < n
      · have i1 : (k : Int) < (n : Int) := by omega
        obtain ⟨va, vc, rfl, _⟩ := owns_slice hown
        have hX := World.alloc_heap_new wr (Obj.cells #[.int .i64 ((k : Int) + 2), .int .i64 0, .int .u8 4, .string ⟨#[]⟩, .int .i64 0, .int .i64 0, .int .i64 0, .bool false, .int .i64 1, .int .i64 0, .int .i64 0, .int .i64 0, .int .i64 k, .string ⟨#[]⟩, .int .i64 0, .int .i64 0] 24)
        have hal := one_alloc wr (Obj.cells #[.int .i64 ((k : Int) + 2), .int .i64 0, .int .u8 4, .string ⟨#[]⟩, .int .i64 0, .int .i64 0, .int .i64 0, .bool false, .int .i64 1, .int .i64 0, .int .i64 0, .int .i64 0, .int .i64 k, .string ⟨#[]⟩, .int .i64 0, .int .i64 0] 24)
        have hr := hown.up hal (Nat.le_refl _)
        have hsz := hB.size
        clear hown
        go_wp2_with (at_builtin; refine wpList_app elemT rfl _ _ rfl hr rfl rfl (RowAt.of_heap hX) (m := 1) (by rfl) (fun u hu => ics_one [mstC k] u (by rw [ics_one1]; exact hu)) (by unfold maxLen; omega) (by omega) (by simp; omega) ?_)
        intro v' w6 ho hg hb6 _ hat
        have hoS : w6.ownsRow w.heap.size 24 16 v' (k + 1 + 1) (ics (mstA (k + 1))) := by rw [mstA_succ, ics_append, ics_one1]; exact ho
        have hB6 := (hB.ch2 hal).trans hb6
        have HO := Lib.hid hoS
        obtain ⟨ua, uc, rfl, _⟩ := owns_slice hoS
        clear hoS ho hg hb6 hat hr hX hal
        go_wp2_with fail
        go_roundw
        case rel => exact ⟨k + 1, by omega, by go_num, HO.out, hB6⟩
        case measure => simp [RowKit.intOf]; omega
      · have hkn : k = n := by omega
        subst hkn
        have i1 : ¬ (k : Int) < (k : Int) := by omega
        obtain ⟨va, vc, rfl, _⟩ := owns_slice hown
        have hcv := row_cap hown
        have hI := ItmsAt.of_owns hown (by rw [mstA_len]; omega) (mstA_wide k (by omega))
        have hCk := sCheck_any va (k + 1) vc (mstA k) wr hI (by rw [mstA_len]; exact hcv) (fun x hx w1 => sCheckItem_any x w1 (mstA_wide k (by omega) x hx))
        unfold PairI at hCk
        rw [mstA_chk (by omega), if_pos hc1] at hCk
        simp only at hCk
        have HB := Lib.hid hB
        clear hown hI hB hcv
        obtain ⟨hM, x1, x3⟩ := HX.out
        go_wp2_with (go_at_call 21; (with_reducible refine hCk.mono ?_); rintro e w2 ⟨rfl, hb2⟩)
        clear hM x1 x3 HX
        have hB2 := HB.out.ch2 hb2
        clear hb2 HB hCk
        go_loopw [8, 9] (fun v i wr => ∃ q : Nat, q ≤ m ∧ i = .int .i64 q ∧ wr.ownsRow w.heap.size 24 16 v q (ics (mstB q)) ∧ Below w.heap.size w wr) (fun _ i _ => m - (RowKit.intOf i).toNat)
        case atStart => exact ⟨0, Nat.zero_le _, rfl, World.ownsRow_nil _ _ _ _, hB2⟩
        case round =>
          clear hB2
          obtain ⟨q, hq, rfl, hown, hB⟩ := hrel
          have hnq : (0 : Int) ≤ q := by omega
          by_cases hlq : q < m
          · have i2 : (q : Int) < (m : Int) := by omega
            obtain ⟨ya, yc, rfl, _⟩ := owns_slice hown
            have hX := World.alloc_heap_new wr (Obj.cells #[.int .i64 ((q : Int) + 1), .int .i64 q, .int .u8 6, .string ⟨#[97]⟩, .int .i64 0, .int .i64 0, .int .i64 0, .bool false, .int .i64 0, .int .i64 0, .int .i64 0, .int .i64 0, .int .i64 0, .string ⟨#[]⟩, .int .i64 (1 + (q : Int).tmod 40), .int .i64 0] 24)
            have hal := one_alloc wr (Obj.cells #[.int .i64 ((q : Int) + 1), .int .i64 q, .int .u8 6, .string ⟨#[97]⟩, .int .i64 0, .int .i64 0, .int .i64 0, .bool false, .int .i64 0, .int .i64 0, .int .i64 0, .int .i64 0, .int .i64 0, .string ⟨#[]⟩, .int .i64 (1 + (q : Int).tmod 40), .int .i64 0] 24)
            have hr := hown.up hal (Nat.le_refl _)
            have hsz := hB.size
            have ht1 : (0 : Int) ≤ (q : Int).tmod 40 := Int.tmod_nonneg _ (by omega)
            have ht2 : (q : Int).tmod 40 < 40 := Int.tmod_lt_of_pos _ (by omega)
            have hw1 : wrap64 (1 + (q : Int).tmod 40) = 1 + (q : Int).tmod 40 := IntWalk.wrap64_in _ (by omega)
            clear hown
            go_wp2_with (at_builtin; refine wpList_app elemT rfl _ _ rfl hr rfl rfl (RowAt.of_heap hX) (m := 1) (by rfl) (fun u hu => ics_one [mstI q] u (by rw [ics_one1]; exact hu)) (by unfold maxLen; omega) (by omega) (by simp; omega) ?_)
            intro v' w6 ho hg hb6 _ hat
            have hoS : w6.ownsRow w.heap.size 24 16 v' (q + 1) (ics (mstB (q + 1))) := by rw [mstB_succ, ics_append, ics_one1]; exact ho
            have hB6 := (hB.ch2 hal).trans hb6
            have HO := Lib.hid hoS
            obtain ⟨ua, uc, rfl, _⟩ := owns_slice hoS
            clear hoS ho hg hb6 hat hr hX hal hw1
            go_wp2_with fail
            go_roundw
            case rel => exact ⟨q + 1, by omega, by go_num, HO.out, hB6⟩
            case measure => simp [RowKit.intOf]; omega
          · have hqm : q = m := by omega
            subst hqm
            have i2 : ¬ (q : Int) < (q : Int) := by omega
            obtain ⟨ya, yc, rfl, _⟩ := owns_slice hown
            have hcv := row_cap hown
            have hI := ItmsAt.of_owns hown (by rw [mstB_len]; omega) (mstB_wide q (by omega))
            have hCk := sCheck_any ya q yc (mstB q) wr hI (by rw [mstB_len]; exact hcv) (fun x hx w1 => sCheckItem_any x w1 (mstB_wide q (by omega) x hx))
            unfold PairI at hCk
            rw [mstB_chk (by omega), if_pos hc2] at hCk
            simp only at hCk
            have HB := Lib.hid hB
            clear hown hI hB hcv
            go_wp2_with (first
              | (go_at_call 21; (with_reducible refine hCk.mono ?_); rintro e w2 ⟨rfl, hb2⟩)
              | (go_at_call 20; (with_reducible refine (hSh _).mono ?_); rintro e w3 ⟨rfl, hb3⟩))
            go_ret
            exact ⟨rfl, (HB.out.ch2 hb2).ch2 hb3⟩
  · have hc1 := hc
    have hc2 : ¬ 300 < m := by omega
    have d1 : ¬ (150 : Int) < (n : Int) := by omega
    have d2 : ¬ (300 : Int) < (m : Int) := by omega
    have d3 : (n : Int) ≤ 150 := by omega
    have d4 : (m : Int) ≤ 300 := by omega
    have hn2 : n ≤ 154 := by omega
    have hm2 : m ≤ 304 := by omega
    clear hn hm hM9
    go_enter Tryz.func4, Tryz.ntmps4
    go_wp2_with fail
    try simp only [x1, x2]
    have HX := Lib.hid (And.intro hM (And.intro x1 x3))
    clear hM x1 x2 x3
    go_loopw [4, 5] (fun v i wr => ∃ k : Nat, k ≤ n ∧ i = .int .i64 k ∧ wr.ownsRow w.heap.size 24 16 v (k + 1) (ics (mstA k)) ∧ Below w.heap.size w wr) (fun _ i _ => n - (RowKit.intOf i).toNat)
    case atStart => exact ⟨0, Nat.zero_le _, rfl, hO0, hB0⟩
    case round =>
      clear hO0 hB0
      obtain ⟨k, hk, rfl, hown, hB⟩ := hrel
      have hnn : (0 : Int) ≤ k := by omega
      by_cases hlt : k < n
      · have i1 : (k : Int) < (n : Int) := by omega
        obtain ⟨va, vc, rfl, _⟩ := owns_slice hown
        have hX := World.alloc_heap_new wr (Obj.cells #[.int .i64 ((k : Int) + 2), .int .i64 0, .int .u8 4, .string ⟨#[]⟩, .int .i64 0, .int .i64 0, .int .i64 0, .bool false, .int .i64 1, .int .i64 0, .int .i64 0, .int .i64 0, .int .i64 k, .string ⟨#[]⟩, .int .i64 0, .int .i64 0] 24)
        have hal := one_alloc wr (Obj.cells #[.int .i64 ((k : Int) + 2), .int .i64 0, .int .u8 4, .string ⟨#[]⟩, .int .i64 0, .int .i64 0, .int .i64 0, .bool false, .int .i64 1, .int .i64 0, .int .i64 0, .int .i64 0, .int .i64 k, .string ⟨#[]⟩, .int .i64 0, .int .i64 0] 24)
        have hr := hown.up hal (Nat.le_refl _)
        have hsz := hB.size
        clear hown
        go_wp2_with (at_builtin; refine wpList_app elemT rfl _ _ rfl hr rfl rfl (RowAt.of_heap hX) (m := 1) (by rfl) (fun u hu => ics_one [mstC k] u (by rw [ics_one1]; exact hu)) (by unfold maxLen; omega) (by omega) (by simp; omega) ?_)
        intro v' w6 ho hg hb6 _ hat
        have hoS : w6.ownsRow w.heap.size 24 16 v' (k + 1 + 1) (ics (mstA (k + 1))) := by rw [mstA_succ, ics_append, ics_one1]; exact ho
        have hB6 := (hB.ch2 hal).trans hb6
        have HO := Lib.hid hoS
        obtain ⟨ua, uc, rfl, _⟩ := owns_slice hoS
        clear hoS ho hg hb6 hat hr hX hal
        go_wp2_with fail
        go_roundw
        case rel => exact ⟨k + 1, by omega, by go_num, HO.out, hB6⟩
        case measure => simp [RowKit.intOf]; omega
      · have hkn : k = n := by omega
        subst hkn
        have i1 : ¬ (k : Int) < (k : Int) := by omega
        obtain ⟨va, vc, rfl, _⟩ := owns_slice hown
        have hcv := row_cap hown
        have hI := ItmsAt.of_owns hown (by rw [mstA_len]; omega) (mstA_wide k (by omega))
        have hCk := sCheck_any va (k + 1) vc (mstA k) wr hI (by rw [mstA_len]; exact hcv) (fun x hx w1 => sCheckItem_any x w1 (mstA_wide k (by omega) x hx))
        unfold PairI at hCk
        rw [mstA_chk (by omega), if_neg hc1] at hCk
        simp only at hCk
        have HB := Lib.hid hB
        clear hown hI hB hcv
        obtain ⟨hM, x1, x3⟩ := HX.out
        go_wp2_with (go_at_call 21; (with_reducible refine hCk.mono ?_); rintro e w2 ⟨rfl, hb2⟩)
        clear hM x1 x3 HX
        have hB2 := HB.out.ch2 hb2
        clear hb2 HB hCk
        go_loopw [8, 9] (fun v i wr => ∃ q : Nat, q ≤ m ∧ i = .int .i64 q ∧ wr.ownsRow w.heap.size 24 16 v q (ics (mstB q)) ∧ Below w.heap.size w wr) (fun _ i _ => m - (RowKit.intOf i).toNat)
        case atStart => exact ⟨0, Nat.zero_le _, rfl, World.ownsRow_nil _ _ _ _, hB2⟩
        case round =>
          clear hB2
          obtain ⟨q, hq, rfl, hown, hB⟩ := hrel
          have hnq : (0 : Int) ≤ q := by omega
          by_cases hlq : q < m
          · have i2 : (q : Int) < (m : Int) := by omega
            obtain ⟨ya, yc, rfl, _⟩ := owns_slice hown
            have hX := World.alloc_heap_new wr (Obj.cells #[.int .i64 ((q : Int) + 1), .int .i64 q, .int .u8 6, .string ⟨#[97]⟩, .int .i64 0, .int .i64 0, .int .i64 0, .bool false, .int .i64 0, .int .i64 0, .int .i64 0, .int .i64 0, .int .i64 0, .string ⟨#[]⟩, .int .i64 (1 + (q : Int).tmod 40), .int .i64 0] 24)
            have hal := one_alloc wr (Obj.cells #[.int .i64 ((q : Int) + 1), .int .i64 q, .int .u8 6, .string ⟨#[97]⟩, .int .i64 0, .int .i64 0, .int .i64 0, .bool false, .int .i64 0, .int .i64 0, .int .i64 0, .int .i64 0, .int .i64 0, .string ⟨#[]⟩, .int .i64 (1 + (q : Int).tmod 40), .int .i64 0] 24)
            have hr := hown.up hal (Nat.le_refl _)
            have hsz := hB.size
            have ht1 : (0 : Int) ≤ (q : Int).tmod 40 := Int.tmod_nonneg _ (by omega)
            have ht2 : (q : Int).tmod 40 < 40 := Int.tmod_lt_of_pos _ (by omega)
            have hw1 : wrap64 (1 + (q : Int).tmod 40) = 1 + (q : Int).tmod 40 := IntWalk.wrap64_in _ (by omega)
            clear hown
            go_wp2_with (at_builtin; refine wpList_app elemT rfl _ _ rfl hr rfl rfl (RowAt.of_heap hX) (m := 1) (by rfl) (fun u hu => ics_one [mstI q] u (by rw [ics_one1]; exact hu)) (by unfold maxLen; omega) (by omega) (by simp; omega) ?_)
            intro v' w6 ho hg hb6 _ hat
            have hoS : w6.ownsRow w.heap.size 24 16 v' (q + 1) (ics (mstB (q + 1))) := by rw [mstB_succ, ics_append, ics_one1]; exact ho
            have hB6 := (hB.ch2 hal).trans hb6
            have HO := Lib.hid hoS
            obtain ⟨ua, uc, rfl, _⟩ := owns_slice hoS
            clear hoS ho hg hb6 hat hr hX hal hw1
            go_wp2_with fail
            go_roundw
            case rel => exact ⟨q + 1, by omega, by go_num, HO.out, hB6⟩
            case measure => simp [RowKit.intOf]; omega
          · have hqm : q = m := by omega
            subst hqm
            have i2 : ¬ (q : Int) < (q : Int) := by omega
            obtain ⟨ya, yc, rfl, _⟩ := owns_slice hown
            have hcv := row_cap hown
            have hI := ItmsAt.of_owns hown (by rw [mstB_len]; omega) (mstB_wide q (by omega))
            have hCk := sCheck_any ya q yc (mstB q) wr hI (by rw [mstB_len]; exact hcv) (fun x hx w1 => sCheckItem_any x w1 (mstB_wide q (by omega) x hx))
            unfold PairI at hCk
            rw [mstB_chk (by omega), if_neg hc2] at hCk
            simp only at hCk
            have HB := Lib.hid hB
            clear hown hI hB hcv
            go_wp2_with (first
              | (go_at_call 21; (with_reducible refine hCk.mono ?_); rintro e w2 ⟨rfl, hb2⟩)
              | (go_at_call 20; (with_reducible refine (hSh _).mono ?_); rintro e w3 ⟨rfl, hb3⟩))
            go_ret
            exact ⟨rfl, (HB.out.ch2 hb2).ch2 hb3⟩
end Go.Proofs.YtelkcohhagblaaaGreat
namespace Go.Proofs.YtelkcohhagblaaaGreat
open Go.ChangeShapes Go.WideShapes Go.ChangeAt Go.RowKit Go.Joins Go.Deep
theorem Tryz.own : ownKnob Tryz.prog.godebug = none := by kernel_rfl
theorem Tryz.laidOut : laidOutB Tryz.prog = true := by kernel_rfl
set_option maxRecDepth 100000 in
theorem sherdMost_lifted (os : Os) (started : os.Started) (H : Type) (enc : TypeId × Value → H) :
    ReturnsInHanded {} Tryz.checked os 4 .any (Rows.sherdMostSpec.pre6 enc Tryz.prog Tryz.f4 Rows.sherdMostRow.domain false) (Rows.sherdMostSpec.post enc Tryz.prog Tryz.f4 false true false false) := by
  refine returnsInHanded_of_change_sized (C := Tryz.checked) Tryz.own started (by kernel_rfl) Tryz.func4
    (ChangeSpec.witness6 (enc := enc) (C := Tryz.checked) false ⟨#[], #[.int .i64 0], []⟩ 8 (by kernel_rfl) (by kernel_rfl) (by kernel_rfl) (by kernel_rfl)) ?_
  intro W base args ds gs before hval0 hW _ hsz0 _
  have hsz : (DataW.weightsEach Tryz.prog (Tryz.f4.params.toList ++ Rows.sherdMostSpec.plain.varTypes Tryz.prog) (ds ++ gs)).all (· ≤ reachBytes) = true := hsz0
  clear hsz0
  have hval : ∀ (j : Nat) t v, Tryz.f4.params[j]? = some t → args[j]? = some v → Value.okWide Tryz.prog W .any base t v := hval0
  have hW' := hW
  obtain ⟨p, q, hA0, hV, rfl, _, _⟩ := hW
  have hA : DataW.TrodAll enc Tryz.prog W 0 (fun _ => true) true Tryz.f4.params.toList args.toList ds p := hA0
  rw [Tryz.params4] at hA hval hsz
  obtain ⟨v0, d0, rfl, rfl, h0⟩ := trodAll_one hA
  obtain ⟨rfl, rfl⟩ := trodVars_none hV
  clear hA0 hval0
  simp only [List.append_nil] at hW'
  have hlt : ∀ x ∈ p, x.block < W.heap.size := fun x hx => by simpa using hW'.lt x hx
  obtain ⟨x0, rfl⟩ := okWide_int Tryz.underlying3 (hval 0 3 v0 rfl rfl)
  refine (lmost x0 W ).mono fun e W' ⟨he, hw⟩ => ?_
  subst he
  exact ⟨_, rfl, ⟨_, _, _, [], _, [], hW', trodAll_mk1 (shut_bool Tryz.underlying4 _), trodAll_mk1 (Below.trod Tryz.laidOut (by kernel_rfl) (of_decide_eq_true (by kernel_rfl)) h0 hw hlt), rfl, hw.frame _, fun h => by cases h⟩⟩
set_option maxRecDepth 100000 in
set_option maxHeartbeats 8000000 in
theorem sherdMost_closed : joinedFacts Tryz.prog 4 Tryz.f4 Rows.sherdMostSpec Rows.sherdMostRow = true := by
  unfold joinedFacts
  repeat' (with_reducible refine (Bool.and_eq_true _ _).mpr ⟨?_, ?_⟩)
  all_goals as_aux_lemma => kernel_rfl
theorem sherdMost_holds : Rows.SherdMostSaid :=
  OpenClaim.holds_of_wide 4 Tryz.f4 rfl rfl rfl rfl rfl rfl rfl ⟨rfl, rfl, rfl, rfl, rfl⟩ rfl rfl rfl rfl rfl (by kernel_rfl) Tryz.func4 sherdMost_closed
    (of_decide_eq_true (by kernel_rfl)) (by unfold Func.isWrapper; rw [if_neg (of_decide_eq_false (by kernel_rfl))]; exact ⟨rfl, rfl⟩)
    (fun os started H enc _ => sherdMost_lifted os started H enc)
#print axioms sherdMost_holds
end Go.Proofs.YtelkcohhagblaaaGreat

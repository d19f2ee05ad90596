/-
  Lemmas and walks for the laws on roads and boards: what each function of the program answers, for every input.
-/
import Derived.Test.YtodkbfbbpfghiaaGreatPb16
set_option linter.unusedSimpArgs false
set_option linter.unusedVariables false
set_option linter.unnecessarySimpa false
namespace Go.Proofs.YtodkbfbbpfghiaaGreat
open Go.RowKit Go.Shelf Go.Lib
set_option maxHeartbeats 4000000
set_option maxRecDepth 100000
def BoolAny (w : World) (e : Ending) (w' : World) : Prop := ∃ b, e = .returned (.bool b) ∧ Below w.heap.size w w'
theorem lfew (c : Cs) (w : World) (hc : CsAt w c) : Calls Tryz.prog 16 #[c.v] w (BoolAny w) := by
  have hP := Lib.hid (show ∀ b w', Below w.heap.size w w' → BoolAny w (.returned (.bool b)) w' from fun b w' h => ⟨b, rfl, h⟩)
  generalize BoolAny w = Post at *
  obtain ⟨ware, lim, byr, a, cap, ps⟩ := c
  have hsm : ps.length ≤ 140737488351232 := hc.ps.small
  simp only [Cs.v] at *
  have hB0 := one_alloc w (Obj.cells #[.string ware, .int .i64 lim, .int .i64 byr, .slice a ps.length cap] 24)
  have hx0 := World.alloc_heap_new w (Obj.cells #[.string ware, .int .i64 lim, .int .i64 byr, .slice a ps.length cap] 24)
  have HP := Lib.hid hP.out
  clear hP
  go_enter Tryz.func16, Tryz.ntmps16
  go_wp2_with fail
  obtain ⟨w1, hw1⟩ : ∃ w1, w1 = w.alloc (Obj.cells #[.string ware, .int .i64 lim, .int .i64 byr, .slice a ps.length cap] 24) := ⟨_, rfl⟩
  rw [← hw1] at hB0 hx0 ⊢
  clear hw1
  go_loopw [3] (fun i wr => ∃ k : Nat, k ≤ ps.length ∧ i = .int .i64 k ∧ wr = w1) (fun i _ => ps.length - (RowKit.intOf i).toNat)
  case atStart => exact ⟨0, Nat.zero_le _, rfl, rfl⟩
  case round =>
    obtain ⟨k, hk, rfl, rfl⟩ := hrel
    have hB := hB0
    obtain ⟨y0, y1, y2, y3, yf, yl⟩ := cell4w hx0
    have hnn : (0 : Int) ≤ k := by omega
    by_cases hlt : k < ps.length
    · have i1 : (k : Int) < (ps.length : Int) := by omega
      by_cases h50 : k < 50
      · have i2 : decide ((k : Int) < 50) = true := by simp; omega
        obtain ⟨b1, o1, rfl, bl1, d0, d1, d2, d3, d4, d5, d6, d7⟩ := (hc.ps.below hB).get hlt
        simp only at d0 d1 d2 d3 d4 d5 d6 d7
        generalize ps.getD k default = p at *
        obtain ⟨m1, hm1⟩ : ∃ b, decide ((60 : Int) < p.sh.length) = b := ⟨_, rfl⟩
        obtain ⟨m2, hm2⟩ : ∃ b, decide ((250 : Int) < p.re.length) = b := ⟨_, rfl⟩
        cases m1 <;> cases m2
        all_goals
          go_wp2_with fail
          first
            | exact HP.out _ _ hB
            | (go_roundw
               case rel => exact ⟨k + 1, by omega, by go_num, by trivial⟩
               case measure => simp [RowKit.intOf]; omega)
      · have i2 : decide ((k : Int) < 50) = false := by simp; omega
        obtain ⟨m1, hm1⟩ : ∃ b, decide ((ware.size : Int) ≤ 100) = b := ⟨_, rfl⟩
        obtain ⟨m2, hm2⟩ : ∃ b, decide ((ps.length : Int) ≤ 12) = b := ⟨_, rfl⟩
        obtain ⟨m3, hm3⟩ : ∃ b, decide ((38 : Int) < ps.length) = b := ⟨_, rfl⟩
        cases m1 <;> cases m2 <;> cases m3
        all_goals
          go_wp2_with fail
          exact HP.out _ _ hB
    · have i1 : ¬ (k : Int) < (ps.length : Int) := by omega
      obtain ⟨m1, hm1⟩ : ∃ b, decide ((ware.size : Int) ≤ 100) = b := ⟨_, rfl⟩
      obtain ⟨m2, hm2⟩ : ∃ b, decide ((ps.length : Int) ≤ 12) = b := ⟨_, rfl⟩
      obtain ⟨m3, hm3⟩ : ∃ b, decide ((38 : Int) < ps.length) = b := ⟨_, rfl⟩
      cases m1 <;> cases m2 <;> cases m3
      all_goals
        go_wp2_with fail
        exact HP.out _ _ hB
end Go.Proofs.YtodkbfbbpfghiaaGreat

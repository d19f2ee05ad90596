/-
  The reference's sums, as data and walked.
-/
import Derived.Test.YtlkcfohmoeadbaaGreatPk20
set_option linter.unusedSimpArgs false
set_option linter.unusedVariables false
set_option linter.unnecessarySimpa false
namespace Go.Proofs.YtlkcfohmoeadbaaGreat
open Go.RowKit Go.Shelf
set_option maxHeartbeats 4000000
set_option maxRecDepth 100000

/-- One pass of the reference: the sums, and whether no bound was open. -/
def rpass (far : Int) (bs : List Bd) (x : List Int) : Nat → List Int × Bool
  | 0 => (x, true)
  | k + 1 => let s := rpass far bs x k; let b := bs.getD k default; if opens far s.1 b then (s.1.set b.tow.toNat (gi s.1 b.frm + b.most), false) else s
def rsettle (far : Int) (bs : List Bd) : Nat → List Int → List Int × Bool
  | 0, _ => ([], false)
  | n + 1, x => if (rpass far bs x bs.length).2 then ((rpass far bs x bs.length).1, true) else rsettle far bs n (rpass far bs x bs.length).1

/-- The ends of bounds are points. -/
def Pts (p : Int) (bs : List Bd) : Prop := ∀ b ∈ bs, 0 ≤ b.frm ∧ b.frm < p ∧ 0 ≤ b.tow ∧ b.tow < p
theorem Pts.of_chk {p : Int} {bs : List Bd} (h : chk p bs = 0) : Pts p bs := by
  unfold chk at h
  split at h
  · omega
  · split at h
    · omega
    · split at h
      · rename_i h3
        intro b hb
        have h4 := List.all_eq_true.1 h3 b hb
        simp only [Bd.ok, Bool.and_eq_true, withinB_iff] at h4
        omega
      · omega

theorem rpass_len (far : Int) (bs : List Bd) (x : List Int) : ∀ k, (rpass far bs x k).1.length = x.length
  | 0 => rfl
  | k + 1 => by
    have ih := rpass_len far bs x k
    simp only [rpass]
    split
    · simp [ih]
    · exact ih
theorem rpass_rng {bs : List Bd} {x : List Int} {p lo hi : Int} (hin : ∀ b ∈ bs, b.inr) (hp : Pts p bs) (hl : x.length = p.toNat) (hx : ∀ j : Int, 0 ≤ j → j < p → lo ≤ gi x j ∧ gi x j ≤ hi) (far : Int) : ∀ k : Nat, k ≤ bs.length → ∀ j : Int, 0 ≤ j → j < p → lo - k * 100000000 ≤ gi (rpass far bs x k).1 j ∧ gi (rpass far bs x k).1 j ≤ hi
  | 0, _ => fun j h0 h1 => by
    have := hx j h0 h1
    show lo - ((0 : Nat) : Int) * 100000000 ≤ gi x j ∧ gi x j ≤ hi
    omega
  | k + 1, hk => by
    have ih := rpass_rng hin hp hl hx far k (by omega)
    have hm : bs.getD k default ∈ bs := by rw [List.getD_eq_getElem?_getD, List.getElem?_eq_getElem (by omega)]; exact List.getElem_mem _
    have hb := hin _ hm
    have hq := hp _ hm
    intro j h0 h1
    have ihj := ih j h0 h1
    have hll := rpass_len far bs x k
    simp only [rpass]
    split
    · rename_i ho
      simp only [opens, Bool.and_eq_true, decide_eq_true_eq] at ho
      simp only []
      rw [gi_set hq.2.2.1 (by rw [hll, hl]; omega) h0]
      have h2 := ih _ hq.1 hq.2.1
      have h3 := ih _ hq.2.2.1 hq.2.2.2
      have h4 := hb.m0
      split <;> (push_cast; omega)
    · push_cast; omega

theorem row_cell {w : World} {base g n c : Nat} {xs : List Int} (h : w.ownsRow base 3 1 (.slice (some ⟨g, 0, none⟩) n c) n (xs.map (.int .i64))) {j : Int} (_h0 : 0 ≤ j) (h1 : j.toNat < xs.length) : w.cell? ⟨g, j.toNat, none⟩ = some (.int .i64 (gi xs j)) := by
  have h2 := ((RowAt.of_owns h).at_ ⟨g, 0, none⟩ rfl).2.2 j.toNat (.int .i64 (gi xs j)) (by simp [gi, List.getD_eq_getElem?_getD, List.getElem?_eq_getElem h1])
  simpa using h2
theorem row_free {w : World} {base g n c : Nat} {t : TypeId} {size : Nat} {xs : List Value} (h : w.ownsRow base t size (.slice (some ⟨g, 0, none⟩) n c) n xs) (j : Nat) : w.frozen? ⟨g, j, none⟩ = false := by
  obtain ⟨_, ⟨hv, _⟩ | ⟨g', c', cur, hv, _, hg, _⟩⟩ := h
  · simp at hv
  · simp at hv
    obtain ⟨rfl, _⟩ := hv
    exact (SL.cells_of hg).2 j

end Go.Proofs.YtlkcfohmoeadbaaGreat

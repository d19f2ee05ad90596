/-
  Lemmas and walks for the laws on bounds and their sums; the parts' own heads say what each proves, for every input.
-/
import Derived.Test.YtlkcfohmoeadbaaGreatPk08
set_option linter.unusedSimpArgs false
set_option linter.unusedVariables false
set_option linter.unnecessarySimpa false
/-
  The walks of layer 1, as data: the least sums of walks with just so many bounds, and their last bounds.
-/
namespace Go.Proofs.YtlkcfohmoeadbaaGreat
open Go.RowKit

def zeros60 : List Int := List.replicate 60 0
def lopen (now next : List Int) (b : Bd) : Bool := decide (gi now b.frm < FAR) && decide (gi now b.frm + b.most < gi next b.tow)
def lstep (now : List Int) (s : List Int × List Int) (k : Nat) (b : Bd) : List Int × List Int :=
  if lopen now s.1 b then (s.1.set b.tow.toNat (gi now b.frm + b.most), s.2.set b.tow.toNat k) else s
def lng (bs : List Bd) (now : List Int) : Nat → List Int × List Int
  | 0 => (fars, zeros60)
  | k + 1 => lstep now (lng bs now k) k (bs.getD k default)
def wS (bs : List Bd) (q : Nat) : Nat → List Int
  | 0 => far0 q
  | m + 1 => (lng bs (wS bs q m) bs.length).1
def wL (bs : List Bd) (q : Nat) : Nat → List Int
  | 0 => zeros60
  | m + 1 => (lng bs (wS bs q m) bs.length).2

theorem lstep_len (now : List Int) (s : List Int × List Int) (k : Nat) (b : Bd) : (lstep now s k b).1.length = s.1.length ∧ (lstep now s k b).2.length = s.2.length := by
  unfold lstep
  split <;> simp
theorem lng_len (bs : List Bd) (now : List Int) : ∀ k, (lng bs now k).1.length = 60 ∧ (lng bs now k).2.length = 60
  | 0 => ⟨fars_len, by simp [lng, zeros60]⟩
  | k + 1 => by
    have h := lng_len bs now k
    have h2 := lstep_len now (lng bs now k) k (bs.getD k default)
    exact ⟨h2.1.trans h.1, h2.2.trans h.2⟩
theorem wS_len (bs : List Bd) (q : Nat) : ∀ m, (wS bs q m).length = 60
  | 0 => far0_len _
  | _ + 1 => (lng_len _ _ _).1
theorem wL_len (bs : List Bd) (q : Nat) : ∀ m, (wL bs q m).length = 60
  | 0 => by simp [wL, zeros60]
  | _ + 1 => (lng_len _ _ _).2

theorem gi_fars (j : Int) (h0 : 0 ≤ j) (h1 : j < 60) : gi fars j = FAR := by
  unfold gi fars
  rw [List.getD_eq_getElem?_getD, List.getElem?_replicate, if_pos (by omega)]
  rfl
theorem gi_zeros60 (j : Int) : gi zeros60 j = 0 := by
  unfold gi zeros60
  rw [List.getD_eq_getElem?_getD, List.getElem?_replicate]
  split <;> rfl

/-- What lies between two limits. -/
def Rng (lo : Int) (r : List Int) : Prop := ∀ j : Int, 0 ≤ j → j < 60 → lo ≤ gi r j ∧ gi r j ≤ FAR

theorem lng_rng {bs : List Bd} {now : List Int} {lo : Int} (hin : ∀ b ∈ bs, b.inr) (hn : Rng lo now) (hlo : lo ≤ 0) : ∀ k, k ≤ bs.length → Rng (lo - 100000000) (lng bs now k).1
  | 0, _ => fun j h0 h1 => by rw [show (lng bs now 0).1 = fars from rfl, gi_fars j h0 h1]; unfold FAR; omega
  | k + 1, hk => by
    have ih := lng_rng hin hn hlo k (by omega)
    have hl := (lng_len bs now k).1
    intro j h0 h1
    have hb : (bs.getD k default).inr := hin _ (by rw [List.getD_eq_getElem?_getD, List.getElem?_eq_getElem (by omega)]; exact List.getElem_mem _)
    show _ ≤ gi (lstep now (lng bs now k) k (bs.getD k default)).1 j ∧ gi (lstep now (lng bs now k) k (bs.getD k default)).1 j ≤ FAR
    unfold lstep
    split
    · rename_i ho
      simp only [lopen, Bool.and_eq_true, decide_eq_true_eq] at ho
      have ht := hb.t0
      have ht1 := hb.t1
      have hm := hb.m0
      simp only []
      rw [gi_set hb.t0 (by rw [hl]; omega) h0]
      have h3 := hn _ hb.f0 hb.f1
      have h4 := ih _ hb.t0 hb.t1
      have h5 := ih j h0 h1
      split <;> omega
    · exact ih j h0 h1

theorem wS_rng {bs : List Bd} (hin : ∀ b ∈ bs, b.inr) {q : Nat} (hq : q < 60) : ∀ m : Nat, Rng (-(m * 100000000)) (wS bs q m)
  | 0 => fun j h0 h1 => by
    have : gi (wS bs q 0) j = if j = q then 0 else FAR := by
      show gi (far0 q) j = _
      unfold far0
      rw [gi_set (by omega) (by rw [fars_len]; omega) h0, gi_fars j h0 h1]
    rw [this]; unfold FAR; split <;> omega
  | m + 1 => by
    have h := lng_rng hin (wS_rng hin hq m) (by omega) bs.length (Nat.le_refl _)
    intro j h0 h1
    have := h j h0 h1
    show _ ≤ gi (lng bs (wS bs q m) bs.length).1 j ∧ gi (lng bs (wS bs q m) bs.length).1 j ≤ _
    push_cast
    omega

/-- Rows one behind the other. -/
def flat (rs : List (List Int)) : List Value := rs.flatMap fun r => r.map (Value.int .i64)
theorem flat_len {rs : List (List Int)} (h : ∀ r ∈ rs, r.length = 60) : (flat rs).length = rs.length * 60 := by
  induction rs with
  | nil => rfl
  | cons r rs ih =>
    have h1 := h r (by simp)
    have h2 := ih (fun x hx => h x (by simp [hx]))
    simp only [flat, List.flatMap_cons, List.length_append, List.length_map, List.length_cons] at *
    omega
theorem flat_append (rs qs : List (List Int)) : flat (rs ++ qs) = flat rs ++ flat qs := by simp [flat]
theorem flat_one (rs : List (List Int)) : ∀ u ∈ flat rs, u.oneCell' = true := by
  intro u hu
  simp only [flat, List.mem_flatMap, List.mem_map] at hu
  obtain ⟨_, _, _, _, rfl⟩ := hu
  rfl
theorem flat_get {rs : List (List Int)} (h : ∀ r ∈ rs, r.length = 60) : ∀ {k j : Nat}, k < rs.length → j < 60 → (flat rs)[k * 60 + j]? = some (.int .i64 ((rs.getD k []).getD j 0)) := by
  induction rs with
  | nil => intro k j hk; simp at hk
  | cons r rs ih =>
    intro k j hk hj
    have h1 := h r (by simp)
    show (r.map (Value.int .i64) ++ flat rs)[k * 60 + j]? = _
    cases k with
    | zero =>
      rw [List.getElem?_append_left (by simp; omega)]
      simp [List.getD_eq_getElem?_getD, List.getElem?_eq_getElem (show j < r.length by omega)]
    | succ k =>
      rw [List.getElem?_append_right (by simp; omega), List.length_map, h1, show (k + 1) * 60 + j - 60 = k * 60 + j by omega, ih (fun x hx => h x (by simp [hx])) (by simpa using hk) hj]
      simp
end Go.Proofs.YtlkcfohmoeadbaaGreat

/-
  A new slice of one row.
-/
namespace Go.Proofs.YtlkcfohmoeadbaaGreat
open Go.RowKit Go.Shelf

theorem foldl_set (xs : List Value) : ∀ (k : Nat) (acc : Array Value), k + xs.length ≤ acc.size → (xs.zipIdx k).foldl (fun (cs : Array Value) (x : Value × Nat) => cs.setIfInBounds x.2 x.1) acc = (acc.toList.take k ++ xs ++ acc.toList.drop (k + xs.length)).toArray := by
  induction xs with
  | nil => intro k acc h; simp
  | cons x xs ih =>
    intro k acc h
    simp only [List.length_cons] at h
    simp only [List.zipIdx_cons, List.foldl_cons]
    rw [ih (k + 1) _ (by simp; omega)]
    apply Array.ext'
    simp only [List.toList_toArray, Array.toList_setIfInBounds, List.length_cons]
    rw [List.take_set, List.drop_set_of_lt (by omega)]
    have hk : k < acc.toList.length := by simp; omega
    rw [List.take_succ_eq_append_getElem hk, List.set_append_right _ _ (by simp; omega)]
    simp [List.length_take, Nat.min_eq_left (show k ≤ acc.size by omega), show k + (xs.length + 1) = k + 1 + xs.length by omega]

theorem fold_ints (l : List Int) (h : l.length = 60) : Array.foldl (fun (cs : Array Value) (x : Value × Nat) => cs.setIfInBounds x.snd x.fst) #[.int .i64 0, .int .i64 0, .int .i64 0, .int .i64 0, .int .i64 0, .int .i64 0, .int .i64 0, .int .i64 0, .int .i64 0, .int .i64 0, .int .i64 0, .int .i64 0, .int .i64 0, .int .i64 0, .int .i64 0, .int .i64 0, .int .i64 0, .int .i64 0, .int .i64 0, .int .i64 0, .int .i64 0, .int .i64 0, .int .i64 0, .int .i64 0, .int .i64 0, .int .i64 0, .int .i64 0, .int .i64 0, .int .i64 0, .int .i64 0, .int .i64 0, .int .i64 0, .int .i64 0, .int .i64 0, .int .i64 0, .int .i64 0, .int .i64 0, .int .i64 0, .int .i64 0, .int .i64 0, .int .i64 0, .int .i64 0, .int .i64 0, .int .i64 0, .int .i64 0, .int .i64 0, .int .i64 0, .int .i64 0, .int .i64 0, .int .i64 0, .int .i64 0, .int .i64 0, .int .i64 0, .int .i64 0, .int .i64 0, .int .i64 0, .int .i64 0, .int .i64 0, .int .i64 0, .int .i64 0] (ints l).zipIdx 0 60 = ints l := by
  have hs : (ints l).zipIdx.size = 60 := by simp [ints_size, h]
  have := foldl_set (l.map (Value.int .i64)) 0 #[.int .i64 0, .int .i64 0, .int .i64 0, .int .i64 0, .int .i64 0, .int .i64 0, .int .i64 0, .int .i64 0, .int .i64 0, .int .i64 0, .int .i64 0, .int .i64 0, .int .i64 0, .int .i64 0, .int .i64 0, .int .i64 0, .int .i64 0, .int .i64 0, .int .i64 0, .int .i64 0, .int .i64 0, .int .i64 0, .int .i64 0, .int .i64 0, .int .i64 0, .int .i64 0, .int .i64 0, .int .i64 0, .int .i64 0, .int .i64 0, .int .i64 0, .int .i64 0, .int .i64 0, .int .i64 0, .int .i64 0, .int .i64 0, .int .i64 0, .int .i64 0, .int .i64 0, .int .i64 0, .int .i64 0, .int .i64 0, .int .i64 0, .int .i64 0, .int .i64 0, .int .i64 0, .int .i64 0, .int .i64 0, .int .i64 0, .int .i64 0, .int .i64 0, .int .i64 0, .int .i64 0, .int .i64 0, .int .i64 0, .int .i64 0, .int .i64 0, .int .i64 0, .int .i64 0, .int .i64 0] (by simp [h])
  rw [show (60 : Nat) = (ints l).zipIdx.size from hs.symm, ← Array.foldl_toList]
  have e : (ints l).zipIdx.toList = (l.map (Value.int .i64)).zipIdx 0 := by simp [ints]
  rw [e, this]
  simp [ints, h]
end Go.Proofs.YtlkcfohmoeadbaaGreat

/-
  Lemmas and walks for the laws on bounds and their sums; the parts' own heads say what each proves, for every input.
-/
import Derived.Test.YtlkcfohmoeadbaaPk18
import Derived.Test.YtlkcfohmoeadbaaPk25
import Derived.Test.YtlkcfohmoeadbaaPk11
import Derived.Test.YtlkcfohmoeadbaaPk12
set_option linter.unusedSimpArgs false
set_option linter.unusedVariables false
set_option linter.unnecessarySimpa false
/-
  Plain laws: walks along bounds, as lists of their indices: their ends, their sums, the circles in them.
-/
namespace Go.Proofs.Ytlkcfohmoeadbaa

/-- The i-th bound. -/
def bdI (bs : List Bd) (i : Int) : Bd := bs.getD i.toNat default
/-- Bounds one behind the other, from u to v. -/
def Wk (bs : List Bd) : Int → List Int → Int → Prop
  | u, [], v => u = v
  | u, i :: L, v => (0 ≤ i ∧ i < bs.length) ∧ (bdI bs i).frm = u ∧ Wk bs (bdI bs i).tow L v
def wsum (bs : List Bd) : List Int → Int
  | [] => 0
  | i :: L => (bdI bs i).most + wsum bs L
def frms (bs : List Bd) (L : List Int) : List Int := L.map fun i => (bdI bs i).frm
def tows (bs : List Bd) (L : List Int) : List Int := L.map fun i => (bdI bs i).tow

theorem bdI_mem {bs : List Bd} {i : Int} (h : 0 ≤ i ∧ i < bs.length) : bdI bs i ∈ bs := by
  unfold bdI
  rw [List.getD_eq_getElem?_getD, List.getElem?_eq_getElem (by omega)]
  exact List.getElem_mem _

theorem Wk.append {bs : List Bd} {w : Int} {B : List Int} : ∀ {A : List Int} {u : Int}, Wk bs u (A ++ B) w ↔ ∃ v, Wk bs u A v ∧ Wk bs v B w
  | [], u => by simp [Wk]
  | i :: A, u => by
    simp only [List.cons_append, Wk, Wk.append (A := A)]
    constructor
    · rintro ⟨h1, h2, v, h3, h4⟩; exact ⟨v, ⟨h1, h2, h3⟩, h4⟩
    · rintro ⟨v, ⟨h1, h2, h3⟩, h4⟩; exact ⟨h1, h2, v, h3, h4⟩

theorem wsum_append (bs : List Bd) (B : List Int) : ∀ A : List Int, wsum bs (A ++ B) = wsum bs A + wsum bs B
  | [] => by simp [wsum]
  | i :: A => by simp only [List.cons_append, wsum, wsum_append bs B A]; omega

theorem Wk.valid {bs : List Bd} : ∀ {L : List Int} {u v : Int}, Wk bs u L v → ∀ i ∈ L, 0 ≤ i ∧ i < bs.length
  | [], _, _, _, i, hi => by simp at hi
  | k :: L, u, v, h, i, hi => by
    rcases List.mem_cons.1 hi with rfl | hi
    · exact h.1
    · exact Wk.valid h.2.2 i hi

/-- The ends of a walk are points, and so are all that it passes. -/
theorem Wk.pts {bs : List Bd} {p : Int} (hpt : ∀ b ∈ bs, 0 ≤ b.frm ∧ b.frm < p ∧ 0 ≤ b.tow ∧ b.tow < p) : ∀ {L : List Int} {u v : Int}, 0 ≤ u → u < p → Wk bs u L v → 0 ≤ v ∧ v < p
  | [], u, v, h0, h1, h => by cases h; exact ⟨h0, h1⟩
  | k :: L, u, v, h0, h1, h => by
    have := hpt _ (bdI_mem h.1)
    exact Wk.pts hpt this.2.2.1 this.2.2.2 h.2.2
theorem frms_pts {bs : List Bd} {p : Int} (hpt : ∀ b ∈ bs, 0 ≤ b.frm ∧ b.frm < p ∧ 0 ≤ b.tow ∧ b.tow < p) {L : List Int} (h : ∀ i ∈ L, 0 ≤ i ∧ i < bs.length) : ∀ x ∈ frms bs L, 0 ≤ x ∧ x < p := by
  intro x hx
  obtain ⟨i, hi, rfl⟩ := List.mem_map.1 hx
  have := hpt _ (bdI_mem (h i hi))
  exact ⟨this.1, this.2.1⟩
theorem tows_pts {bs : List Bd} {p : Int} (hpt : ∀ b ∈ bs, 0 ≤ b.frm ∧ b.frm < p ∧ 0 ≤ b.tow ∧ b.tow < p) {L : List Int} (h : ∀ i ∈ L, 0 ≤ i ∧ i < bs.length) : ∀ x ∈ tows bs L, 0 ≤ x ∧ x < p := by
  intro x hx
  obtain ⟨i, hi, rfl⟩ := List.mem_map.1 hx
  have := hpt _ (bdI_mem (h i hi))
  exact ⟨this.2.2.1, this.2.2.2⟩

/-- A walk's points: those from which it goes, and its end; its beginning, and those to which it goes. -/
theorem Wk.turn {bs : List Bd} : ∀ {L : List Int} {u v : Int}, Wk bs u L v → u :: tows bs L = frms bs L ++ [v]
  | [], u, v, h => by cases h; rfl
  | k :: L, u, v, h => by
    have ih := Wk.turn h.2.2
    simp only [tows, frms, List.map_cons, List.cons_append] at ih ⊢
    rw [ih, h.2.1]

theorem Wk.nodup_tows {bs : List Bd} {L : List Int} {u : Int} (h : Wk bs u L u) (hn : (frms bs L).Nodup) : (tows bs L).Nodup := by
  have h1 := h.turn
  have h2 : (u :: tows bs L).Perm (u :: frms bs L) := by rw [h1]; exact List.perm_append_singleton _ _
  exact (h2.cons_inv.nodup_iff).2 hn

/-- What keeps all bounds keeps walks. -/
theorem Wk.keeps {bs : List Bd} {y : Int → Int} (hy : ∀ b ∈ bs, y b.tow - y b.frm ≤ b.most) : ∀ {L : List Int} {u v : Int}, Wk bs u L v → y v - y u ≤ wsum bs L
  | [], u, v, h => by cases h; simp [wsum]
  | k :: L, u, v, h => by
    have ih := Wk.keeps hy h.2.2
    have := hy _ (bdI_mem h.1)
    have e := h.2.1
    subst e
    simp only [wsum]; omega

/-- Ints below n, each once, are at most n. -/
theorem nodup_len : ∀ (n : Nat) (l : List Int), l.Nodup → (∀ x ∈ l, 0 ≤ x ∧ x < n) → l.length ≤ n
  | 0, l, _, h => by
    cases l with
    | nil => simp
    | cons x l => have := h x (by simp); omega
  | n + 1, l, hn, h => by
    have h1 := nodup_len n (l.erase n) (hn.erase _) (fun x hx => by
      have h2 := (hn.mem_erase_iff).1 hx
      have h3 := h x h2.2
      have := h2.1
      omega)
    rw [List.length_erase] at h1
    split at h1 <;> omega

/-- A walk that passes a point twice holds a circle. -/
theorem Wk.split {bs : List Bd} : ∀ {L : List Int} {u v : Int}, Wk bs u L v → ¬ (frms bs L).Nodup → ∃ A B C x, L = A ++ B ++ C ∧ B ≠ [] ∧ C ≠ [] ∧ Wk bs u A x ∧ Wk bs x B x ∧ Wk bs x C v
  | [], u, v, h, hn => by simp [frms] at hn
  | k :: L, u, v, h, hn => by
    have hL : frms bs (k :: L) = (bdI bs k).frm :: frms bs L := rfl
    rw [hL, List.nodup_cons] at hn
    by_cases hm : (bdI bs k).frm ∈ frms bs L
    · obtain ⟨i, hi, he⟩ := List.mem_map.1 hm
      obtain ⟨S, T, rfl⟩ := List.append_of_mem hi
      obtain ⟨x, h1, h2⟩ := Wk.append.1 h.2.2
      have hx : x = u := by rw [← h.2.1, ← he]; exact h2.2.1.symm
      subst hx
      exact ⟨[], k :: S, i :: T, x, by simp, by simp, by simp, rfl, ⟨h.1, h.2.1, h1⟩, h2⟩
    · obtain ⟨A, B, C, x, e, hB, hC, h1, h2, h3⟩ := Wk.split h.2.2 (fun h' => hn ⟨hm, h'⟩)
      exact ⟨k :: A, B, C, x, by rw [e]; simp, hB, hC, ⟨h.1, h.2.1, h1⟩, h2, h3⟩
/-- The same, where the end is a point that it passes. -/
theorem Wk.split2 {bs : List Bd} {L : List Int} {u v : Int} (h : Wk bs u L v) (hn : ¬ (u :: tows bs L).Nodup) : ∃ A B C x, L = A ++ B ++ C ∧ B ≠ [] ∧ Wk bs u A x ∧ Wk bs x B x ∧ Wk bs x C v := by
  by_cases hf : (frms bs L).Nodup
  · rw [h.turn] at hn
    have hm : v ∈ frms bs L := by
      apply Classical.byContradiction
      intro hm
      exact hn (List.nodup_append.2 ⟨hf, by simp, fun a ha b hb => by simp at hb; subst hb; intro e; subst e; exact hm ha⟩)
    obtain ⟨i, hi, he⟩ := List.mem_map.1 hm
    obtain ⟨S, T, rfl⟩ := List.append_of_mem hi
    obtain ⟨x, h1, h2⟩ := Wk.append.1 h
    have hx : x = v := by rw [← he]; exact h2.2.1.symm
    subst hx
    exact ⟨S, i :: T, [], x, by simp, by simp, h1, h2, rfl⟩
  · obtain ⟨A, B, C, x, e, hB, _, h1, h2, h3⟩ := h.split hf
    exact ⟨A, B, C, x, e, hB, h1, h2, h3⟩

/-- Is a list a walk that leaves no point twice, and comes to no point twice? at: the point where it must begin, if one is told. -/
def wkO (bs : List Bd) : List Int → Option Int → List Int → List Int → Bool
  | [], _, _, _ => true
  | i :: l, at_, fs, ts => decide (0 ≤ i ∧ i < bs.length) && at_.all (· == (bdI bs i).frm) && !fs.any (· == (bdI bs i).frm) && !ts.any (· == (bdI bs i).tow) && wkO bs l (some (bdI bs i).tow) (fs ++ [(bdI bs i).frm]) (ts ++ [(bdI bs i).tow])
/-- Where a walk ends. -/
def wend (bs : List Bd) : List Int → Int → Int
  | [], a => a
  | i :: l, _ => wend bs l (bdI bs i).tow

theorem any_eq_mem {l : List Int} {x : Int} : l.any (· == x) = true ↔ x ∈ l := by
  rw [List.any_eq_true]
  constructor
  · rintro ⟨y, hy, e⟩; rw [beq_iff_eq] at e; subst e; exact hy
  · intro h; exact ⟨x, h, by simp⟩
theorem nodup_snoc {fs : List Int} {x : Int} : (fs ++ [x]).Nodup ↔ fs.Nodup ∧ x ∉ fs := by
  rw [List.nodup_append]
  constructor
  · rintro ⟨h1, _, h3⟩; exact ⟨h1, fun hm => h3 x hm x (by simp) rfl⟩
  · rintro ⟨h1, h2⟩; exact ⟨h1, by simp, fun a ha b hb => by simp at hb; subst hb; intro e; subst e; exact h2 ha⟩

theorem wkO_some {bs : List Bd} : ∀ {l : List Int} {a : Int} {fs ts : List Int}, fs.Nodup → ts.Nodup → (wkO bs l (some a) fs ts = true ↔ Wk bs a l (wend bs l a) ∧ (fs ++ frms bs l).Nodup ∧ (ts ++ tows bs l).Nodup)
  | [], a, fs, ts, hf, ht => by simp [wkO, Wk, wend, frms, tows, hf, ht]
  | i :: l, a, fs, ts, hf, ht => by
    simp only [wkO, Bool.and_eq_true, decide_eq_true_eq, Option.all_some, beq_iff_eq, Bool.not_eq_true', Wk, wend]
    have ef : fs ++ frms bs (i :: l) = (fs ++ [(bdI bs i).frm]) ++ frms bs l := by simp [frms]
    have et : ts ++ tows bs (i :: l) = (ts ++ [(bdI bs i).tow]) ++ tows bs l := by simp [tows]
    rw [ef, et]
    constructor
    · rintro ⟨⟨⟨⟨h1, h2⟩, h3⟩, h4⟩, h5⟩
      have n3 : (bdI bs i).frm ∉ fs := fun hm => by rw [any_eq_mem.2 hm] at h3; cases h3
      have n4 : (bdI bs i).tow ∉ ts := fun hm => by rw [any_eq_mem.2 hm] at h4; cases h4
      obtain ⟨k1, k2, k3⟩ := (wkO_some (nodup_snoc.2 ⟨hf, n3⟩) (nodup_snoc.2 ⟨ht, n4⟩)).1 h5
      exact ⟨⟨h1, h2.symm, k1⟩, k2, k3⟩
    · rintro ⟨⟨h1, h2, k1⟩, k2, k3⟩
      have n3 := (List.nodup_append.1 k2).1
      have n4 := (List.nodup_append.1 k3).1
      refine ⟨⟨⟨⟨h1, h2.symm⟩, ?_⟩, ?_⟩, (wkO_some n3 n4).2 ⟨k1, k2, k3⟩⟩
      · rw [Bool.eq_false_iff]; exact fun h => (nodup_snoc.1 n3).2 (any_eq_mem.1 h)
      · rw [Bool.eq_false_iff]; exact fun h => (nodup_snoc.1 n4).2 (any_eq_mem.1 h)
theorem wkO_none {bs : List Bd} {i : Int} {l : List Int} : wkO bs (i :: l) none [] [] = wkO bs (i :: l) (some (bdI bs i).frm) [] [] := by simp [wkO]
theorem wkO_bad {bs : List Bd} {i : Int} {l : List Int} {a : Option Int} (h : ¬ (0 ≤ i ∧ i < bs.length)) : wkO bs (i :: l) a [] [] = false := by simp [wkO, h]
theorem wend_append (bs : List Bd) (i : Int) : ∀ (l : List Int) (a : Int), wend bs (l ++ [i]) a = (bdI bs i).tow
  | [], _ => rfl
  | k :: l, a => by simp only [List.cons_append, wend]; exact wend_append bs i l _
theorem Wk.wend_eq {bs : List Bd} : ∀ {L : List Int} {u v : Int}, Wk bs u L v → wend bs L u = v
  | [], _, _, h => h
  | i :: L, _, v, h => by
    have := Wk.wend_eq h.2.2
    exact this
end Go.Proofs.Ytlkcfohmoeadbaa

/-
  Plain laws: the least sums of walks of just so many bounds are those of walks; the shortest circle below 0 passes no point twice; there is a solution, or such a circle.
-/
namespace Go.Proofs.Ytlkcfohmoeadbaa

theorem lng_down {bs : List Bd} {now : List Int} (hin : ∀ b ∈ bs, b.inr) {k : Nat} (hk : k < bs.length) {j : Int} (j0 : 0 ≤ j) : gi (lng bs now (k + 1)).1 j ≤ gi (lng bs now k).1 j := by
  have hb : (bs.getD k default).inr := hin _ (getD_mem hk)
  have hl := (lng_len bs now k).1
  show gi (lstep now (lng bs now k) k (bs.getD k default)).1 j ≤ _
  unfold lstep
  split
  · rename_i ho
    simp only [lopen, Bool.and_eq_true, decide_eq_true_eq] at ho
    simp only []
    have := hb.t0
    have := hb.t1
    rw [gi_set hb.t0 (by rw [hl]; omega) j0]
    split
    · rename_i e; subst e; omega
    · omega
  · omega
theorem lng_le {bs : List Bd} {now : List Int} (hin : ∀ b ∈ bs, b.inr) : ∀ k, k ≤ bs.length → ∀ i, i < k → gi now (bs.getD i default).frm < FAR → gi (lng bs now k).1 (bs.getD i default).tow ≤ gi now (bs.getD i default).frm + (bs.getD i default).most
  | 0, _, i, hi, _ => by omega
  | k + 1, hk, i, hi, hf => by
    have hb : (bs.getD i default).inr := hin _ (getD_mem (by omega))
    by_cases e : i = k
    · subst e
      have hl := (lng_len bs now i).1
      show gi (lstep now (lng bs now i) i (bs.getD i default)).1 _ ≤ _
      unfold lstep
      have h0 := hb.t0
      have h1 := hb.t1
      split
      · simp only []
        rw [gi_set hb.t0 (by rw [hl]; omega) hb.t0, if_pos rfl]
        omega
      · rename_i ho
        have : ¬ (gi now (bs.getD i default).frm < FAR ∧ gi now (bs.getD i default).frm + (bs.getD i default).most < gi (lng bs now i).1 (bs.getD i default).tow) := fun h => ho (by simp only [lopen, h.1, h.2, decide_true, Bool.and_self])
        omega
    · have h1 := lng_le (now := now) hin k (by omega) i (by omega) hf
      have h2 := lng_down (now := now) hin (k := k) (by omega) hb.t0
      omega

/-- Sums of walks lie near. -/
theorem wsum_abs {bs : List Bd} (hm : ∀ b ∈ bs, -1000000 ≤ b.most ∧ b.most ≤ 1000000) : ∀ {L : List Int}, (∀ i ∈ L, 0 ≤ i ∧ i < bs.length) → -(L.length * 1000000) ≤ wsum bs L ∧ wsum bs L ≤ L.length * 1000000
  | [], _ => by simp [wsum]
  | i :: L, h => by
    have ih := wsum_abs hm (L := L) (fun k hk => h k (by simp [hk]))
    have h1 := hm _ (bdI_mem (h i (by simp)))
    simp only [wsum, List.length_cons]
    push_cast
    omega

/-- A walk of m bounds has at least the least sum. -/
theorem wS_le {bs : List Bd} (hin : ∀ b ∈ bs, b.inr) (hm : ∀ b ∈ bs, -1000000 ≤ b.most ∧ b.most ≤ 1000000) {q : Nat} (hq : q < 60) : ∀ (m : Nat) (L : List Int) (v : Int), L.length = m → m ≤ 100 → Wk bs q L v → gi (wS bs q m) v ≤ wsum bs L ∧ wsum bs L < FAR
  | 0, L, v, hl, _, h => by
    obtain rfl : L = [] := List.eq_nil_of_length_eq_zero hl
    cases h
    have : gi (wS bs q 0) q = 0 := by
      show gi (far0 q) q = 0
      rw [gi_far0 (by omega) (by omega) (by omega) (by omega), if_pos rfl]
    rw [this]
    simp [wsum, FAR]
  | m + 1, L, v, hl, h100, h => by
    have hne : L ≠ [] := by intro e; subst e; simp at hl
    have hL := (List.dropLast_concat_getLast hne).symm
    generalize L.getLast hne = i at hL
    have hdl : L.dropLast.length = m := by rw [List.length_dropLast]; omega
    generalize L.dropLast = A at hL hdl
    subst hL
    obtain ⟨x, h1, h2⟩ := Wk.append.1 h
    obtain ⟨hv, hf, ht⟩ := h2
    have ht' : (bdI bs i).tow = v := ht
    obtain ⟨k1, k2⟩ := wS_le hin hm hq m A x hdl (by omega) h1
    have h3 := wsum_abs hm (Wk.valid h)
    rw [hl] at h3
    have hF : FAR = 1099511627776 := rfl
    refine ⟨?_, by push_cast at h3; omega⟩
    have h4 := lng_le (now := wS bs q m) hin bs.length (Nat.le_refl _) i.toNat (by omega)
    have e1 : bs.getD i.toNat default = bdI bs i := rfl
    rw [e1, hf, ht'] at h4
    have h5 := h4 (by omega)
    rw [wsum_append]
    simp only [wsum]
    show gi (lng bs (wS bs q m) bs.length).1 v ≤ _
    omega

/-- The least sum is that of a walk: the way back. -/
theorem wS_real {bs : List Bd} (hin : ∀ b ∈ bs, b.inr) {q : Nat} (hq : q < 60) : ∀ (m : Nat) (j : Int), 0 ≤ j → j < 60 → gi (wS bs q m) j < FAR → Wk bs q (bkC bs q m j).reverse j ∧ wsum bs (bkC bs q m j).reverse = gi (wS bs q m) j
  | 0, j, j0, j1, h => by
    have e : gi (wS bs q 0) j = if j = q then 0 else FAR := gi_far0 (by omega) (by omega) j0 j1
    rw [e] at h ⊢
    split at h
    · rename_i e2
      subst e2
      exact ⟨rfl, by simp [bkC, wsum]⟩
    · exact absurd h (Int.lt_irrefl _)
  | m + 1, j, j0, j1, h => by
    obtain ⟨i, hi, e1, e2, e3, e4⟩ := wS_led hin q m j j0 j1 h
    simp only at e1 e4
    have hb : (bs.getD i default).inr := hin _ (getD_mem hi)
    obtain ⟨h1, h2⟩ := wS_real hin hq m _ hb.f0 hb.f1 e3
    have ei : (gi (wL bs q (m + 1)) j).toNat = i := by rw [e1]; simp
    have ed : bdI bs (gi (wL bs q (m + 1)) j) = bs.getD i default := by unfold bdI; rw [ei]
    have hc : bkC bs q (m + 1) j = gi (wL bs q (m + 1)) j :: bkC bs q m (bs.getD i default).frm := by rw [bkC, ei]
    rw [hc, List.reverse_cons]
    refine ⟨Wk.append.2 ⟨_, h1, ⟨by rw [e1]; omega, by rw [ed], by rw [ed]; exact e2⟩⟩, ?_⟩
    rw [wsum_append, h2]
    simp only [wsum]
    rw [ed, e4]
    omega

/-- a comes back to itself below 0 with m bounds. -/
def cyc (bs : List Bd) (a m : Nat) : Prop := gi (wS bs a m) a < 0

theorem cyc_of {p : Int} {bs : List Bd} (hc : chk p bs = 0) {u : Int} {L : List Int} (u0 : 0 ≤ u) (u1 : u < p) (h : Wk bs u L u) (hl : L.length ≤ 100) (hs : wsum bs L < 0) : cyc bs u.toNat L.length := by
  have hS := Sys.of_chk hc
  have hp := hS.p2
  have eu : ((u.toNat : Nat) : Int) = u := by omega
  have := wS_le hS.inr (chk_mil hc) (q := u.toNat) (by omega) L.length L u rfl hl (by rw [eu]; exact h)
  unfold cyc
  rw [eu]
  omega

/-- Where no walk of at most R bounds comes back below 0, no circle of at most R has a sum below 0. -/
theorem noneg {p : Int} {bs : List Bd} (hc : chk p bs = 0) {R : Nat} (hR : R ≤ 100) (hno : ∀ a m : Nat, (a : Int) < p → 1 ≤ m → m ≤ R → ¬ cyc bs a m) {u : Int} {L : List Int} (u0 : 0 ≤ u) (u1 : u < p) (h : Wk bs u L u) (hne : L ≠ []) (hl : L.length ≤ R) : 0 ≤ wsum bs L := by
  apply Classical.byContradiction
  intro hs
  have hlen : 1 ≤ L.length := by
    cases L with
    | nil => exact absurd rfl hne
    | cons _ _ => simp
  exact hno u.toNat L.length (by omega) hlen hl (cyc_of hc u0 u1 h (by omega) (by omega))

/-- The shortest circle below 0: no point is left twice. -/
theorem short_nodup {p : Int} {bs : List Bd} (hc : chk p bs = 0) {R : Nat} (hR : R < 100) (hno : ∀ a m : Nat, (a : Int) < p → 1 ≤ m → m ≤ R → ¬ cyc bs a m) {u : Int} {L : List Int} (u0 : 0 ≤ u) (u1 : u < p) (h : Wk bs u L u) (hl : L.length = R + 1) (hs : wsum bs L < 0) : (frms bs L).Nodup := by
  apply Classical.byContradiction
  intro hn
  obtain ⟨A, B, C, x, rfl, hB, hC, h1, h2, h3⟩ := h.split hn
  obtain ⟨x0, x1⟩ := Wk.pts (Pts.of_chk hc) u0 u1 h1
  have hAC := Wk.append.2 ⟨x, h1, h3⟩
  have lB : 1 ≤ B.length := by
    cases B with
    | nil => exact absurd rfl hB
    | cons _ _ => simp
  have lC : 1 ≤ C.length := by
    cases C with
    | nil => exact absurd rfl hC
    | cons _ _ => simp
  simp only [List.length_append] at hl
  have n1 := noneg hc (by omega) hno x0 x1 h2 hB (by omega)
  have n2 := noneg hc (by omega) hno u0 u1 hAC (by intro e; rw [List.append_eq_nil_iff] at e; exact hC e.2) (by simp; omega)
  rw [wsum_append, wsum_append] at hs
  rw [wsum_append] at n2
  omega

theorem chk_ne {p : Int} {bs : List Bd} (h : chk p bs = 0) {b : Bd} (hb : b ∈ bs) : b.frm ≠ b.tow := by
  unfold chk at h
  split at h
  · omega
  · split at h
    · omega
    · split at h
      · rename_i h3
        have h4 := List.all_eq_true.1 h3 b hb
        simp only [Bd.ok, Bool.and_eq_true, Bool.not_eq_true', beq_eq_false_iff_ne] at h4
        exact h4.1.1.2
      · omega

/-- The fewest bounds of a circle below 0, up to A points: 0 if there is none. -/
def Few (bs : List Bd) (P A best : Nat) : Prop := (best = 0 ∧ ∀ a m, a < A → 1 ≤ m → m ≤ P → ¬ cyc bs a m) ∨ (1 ≤ best ∧ best ≤ P ∧ (∃ a, a < A ∧ cyc bs a best) ∧ ∀ a m, a < A → 1 ≤ m → m < best → ¬ cyc bs a m)

theorem crcL_few {P : Nat} {bs : List Bd} (hc : chk P bs = 0) : Few bs P P (crcL P bs).length ∧ (crcL P bs ≠ [] → ∃ u : Int, 0 ≤ u ∧ u < P ∧ Wk bs u (crcL P bs) u ∧ wsum bs (crcL P bs) < 0 ∧ (frms bs (crcL P bs)).Nodup ∧ 2 ≤ (crcL P bs).length) := by
  have hS := Sys.of_chk hc
  have hp := hS.p2
  have hp1 := hS.p1
  cases hf : (List.range (P * P)).find? (crcT P bs) with
  | none =>
    have hL : crcL P bs = [] := by unfold crcL; simp only [Int.toNat_natCast]; rw [hf]
    rw [hL]
    refine ⟨.inl ⟨rfl, fun a m ha hm hm2 hcy => ?_⟩, fun h => absurd rfl h⟩
    rw [List.find?_eq_none] at hf
    have hlt : (m - 1) * P + a < P * P := by
      have : (m - 1 + 1) * P ≤ P * P := Nat.mul_le_mul_right P (by omega)
      rw [Nat.add_mul] at this; omega
    have := hf ((m - 1) * P + a) (by simpa using hlt)
    refine this ?_
    unfold crcT
    rw [decide_eq_true_eq, Nat.mul_comm (m - 1) P, Nat.mul_add_mod, Nat.mod_eq_of_lt ha, Nat.mul_add_div (by omega), Nat.div_eq_of_lt ha, Nat.add_zero]
    have e : m - 1 + 1 = m := by omega
    rw [e]
    exact hcy
  | some t =>
    have hL : crcL P bs = (bkC bs (t % P) (t / P + 1) ((t % P : Nat) : Int)).reverse := by unfold crcL; simp only [Int.toNat_natCast]; rw [hf]
    rw [List.find?_eq_some_iff_getElem] at hf
    obtain ⟨ht, i, hi, ei, hmin⟩ := hf
    simp only [List.getElem_range] at ei
    subst ei
    simp only [List.length_range] at hi
    have hP : 0 < P := by omega
    have hq : i % P < P := Nat.mod_lt _ hP
    have hr : i / P < P := Nat.div_lt_of_lt_mul hi
    have hlen : (crcL P bs).length = i / P + 1 := by rw [hL, List.length_reverse, bkC_len]
    have hcy : cyc bs (i % P) (i / P + 1) := by
      unfold crcT at ht
      unfold cyc
      exact of_decide_eq_true ht
    have hno : ∀ a m : Nat, (a : Int) < P → 1 ≤ m → m ≤ i / P → ¬ cyc bs a m := by
      intro a m ha hm hm2 hcy2
      have hlt : (m - 1) * P + a < i := by
        have h1 : (m - 1 + 1) * P ≤ (i / P) * P := Nat.mul_le_mul_right P (by omega)
        have h2 : (i / P) * P ≤ i := Nat.div_mul_le_self i P
        rw [Nat.add_mul] at h1; omega
      have := hmin ((m - 1) * P + a) hlt
      simp only [List.getElem_range, Bool.not_eq_true'] at this
      unfold crcT at this
      rw [decide_eq_false_iff_not, Nat.mul_comm (m - 1) P, Nat.mul_add_mod, Nat.mod_eq_of_lt (by omega), Nat.mul_add_div (by omega), Nat.div_eq_of_lt (by omega), Nat.add_zero] at this
      have e : m - 1 + 1 = m := by omega
      rw [e] at this
      exact this hcy2
    obtain ⟨w1, w2⟩ := wS_real hS.inr (q := i % P) (by omega) (i / P + 1) ((i % P : Nat) : Int) (by omega) (by omega) (by unfold cyc at hcy; unfold FAR; omega)
    rw [← hL] at w1 w2
    have hneg : wsum bs (crcL P bs) < 0 := by rw [w2]; exact hcy
    clear hL w2 ht hmin hi
    generalize i / P = R at *
    generalize i % P = Q at *
    refine ⟨.inr ⟨by omega, by omega, ⟨Q, hq, by rw [hlen]; exact hcy⟩, fun a m ha hm hm2 => hno a m (by omega) hm (by omega)⟩, fun _ => ⟨(Q : Int), by omega, by omega, w1, hneg, ?_, ?_⟩⟩
    · exact short_nodup hc (R := R) (by omega) hno (by omega) (by omega) w1 hlen hneg
    · apply Classical.byContradiction
      intro h2
      have h1 : (crcL P bs).length = 1 := by omega
      obtain ⟨k, hk⟩ : ∃ k, crcL P bs = [k] := by
        match hx : crcL P bs, h1 with
        | [k], _ => exact ⟨k, rfl⟩
      rw [hk] at w1
      have hb := bdI_mem w1.1
      have e1 := w1.2.1
      have e2 : (bdI bs k).tow = (Q : Int) := w1.2.2
      exact chk_ne hc hb (by rw [e1, e2])

theorem Few.uniq {bs : List Bd} {P : Nat} {b c : Nat} (h : Few bs P P b) (k : Few bs P P c) : b = c := by
  rcases h with ⟨rfl, h⟩ | ⟨h1, h2, ⟨a, ha, h3⟩, h4⟩
  · rcases k with ⟨rfl, _⟩ | ⟨k1, k2, ⟨a, ha, k3⟩, _⟩
    · rfl
    · exact absurd k3 (h a c ha k1 k2)
  · rcases k with ⟨rfl, k⟩ | ⟨k1, k2, ⟨a', ha', k3⟩, k4⟩
    · exact absurd h3 (k a b ha h1 h2)
    · have c1 : ¬ b < c := fun hl => k4 a b ha h1 hl h3
      have c2 : ¬ c < b := fun hl => h4 a' c ha' k1 hl k3
      omega

/-- Where there is no circle below 0 there is a solution. -/
theorem okB_of_none {P : Nat} {bs : List Bd} (hc : chk P bs = 0) (hno : ∀ a m, a < P → 1 ≤ m → m ≤ P → ¬ cyc bs a m) : okB P bs = true := by
  have hS := Sys.of_chk hc
  have hp := hS.p2
  have hp1 := hS.p1
  have hpt := Pts.of_chk hc
  have hmil := chk_mil hc
  let I := (List.range P).flatMap fun q => (List.range P).map fun m => (q, m)
  have hI : ∀ q m, q < P → m < P → (q, m) ∈ I := fun q m hq hm => List.mem_flatMap.2 ⟨q, by simpa using hq, List.mem_map.2 ⟨m, by simpa using hm, rfl⟩⟩
  have hI' : ∀ x ∈ I, x.1 < P ∧ x.2 < P := fun x hx => by
    obtain ⟨q, hq, h⟩ := List.mem_flatMap.1 hx
    obtain ⟨m, hm, rfl⟩ := List.mem_map.1 h
    exact ⟨by simpa using hq, by simpa using hm⟩
  have hlow : ∀ j : Int, ∃ x ∈ I, ∀ z ∈ I, gi (wS bs x.1 x.2) j ≤ gi (wS bs z.1 z.2) j := by
    intro j
    have : ∀ l : List (Nat × Nat), l ≠ [] → ∃ v ∈ l, ∀ u ∈ l, gi (wS bs v.1 v.2) j ≤ gi (wS bs u.1 u.2) j := by
      intro l
      induction l with
      | nil => intro h; exact absurd rfl h
      | cons a l ih =>
        intro _
        by_cases e : l = []
        · subst e; exact ⟨a, by simp, fun u hu => by simp at hu; subst hu; exact Int.le_refl _⟩
        · obtain ⟨v, hv, hm⟩ := ih e
          by_cases hle : gi (wS bs a.1 a.2) j ≤ gi (wS bs v.1 v.2) j
          · exact ⟨a, by simp, fun u hu => by
              rcases List.mem_cons.1 hu with rfl | hu
              · exact Int.le_refl _
              · exact Int.le_trans hle (hm u hu)⟩
          · exact ⟨v, by simp [hv], fun u hu => by
              rcases List.mem_cons.1 hu with rfl | hu
              · omega
              · exact hm u hu⟩
    exact this I (by intro e; have := hI 0 0 (by omega) (by omega); rw [e] at this; simp at this)
  have hy0 : ∀ j : Int, ∃ y : Int, ∃ x ∈ I, y = gi (wS bs x.1 x.2) j ∧ ∀ z ∈ I, y ≤ gi (wS bs z.1 z.2) j := fun j => by
    obtain ⟨x, hx, hm⟩ := hlow j
    exact ⟨_, x, hx, rfl, hm⟩
  let y : Int → Int := fun j => Classical.choose (hy0 j)
  have hy : ∀ j, ∃ x ∈ I, y j = gi (wS bs x.1 x.2) j ∧ ∀ z ∈ I, y j ≤ gi (wS bs z.1 z.2) j := fun j => Classical.choose_spec (hy0 j)
  clear_value y
  have hyz : ∀ j : Int, 0 ≤ j → j < P → y j ≤ 0 := fun j j0 j1 => by
    obtain ⟨x, hx, e, hm⟩ := hy j
    have := hm _ (hI j.toNat 0 (by omega) (by omega))
    have e2 : gi (wS bs j.toNat 0) j = 0 := by
      have : gi (far0 ((j.toNat : Nat) : Int)) j = if j = ((j.toNat : Nat) : Int) then 0 else FAR := gi_far0 (by omega) (by omega) j0 (by omega)
      show gi (far0 ((j.toNat : Nat) : Int)) j = 0
      rw [this, if_pos (by omega)]
    simp only at this
    omega
  refine okB_of_keeps hc (y := y) (fun b hb => ?_)
  obtain ⟨f0, f1, t0, t1⟩ := hpt b hb
  obtain ⟨⟨q, m⟩, hx, e, _⟩ := hy b.frm
  obtain ⟨hq, hm⟩ := hI' _ hx
  simp only at e hq hm
  have hyf := hyz b.frm f0 f1
  obtain ⟨k, hk, ek⟩ := List.mem_iff_getElem.1 hb
  have ebd : bdI bs (k : Int) = b := by unfold bdI; rw [Int.toNat_natCast, List.getD_eq_getElem?_getD, List.getElem?_eq_getElem hk]; exact ek
  obtain ⟨w1, w2⟩ := wS_real hS.inr (q := q) (by omega) m b.frm f0 (by omega) (by unfold FAR; omega)
  rw [← e] at w2
  have hW : Wk bs q ((bkC bs q m b.frm).reverse ++ [(k : Int)]) b.tow := Wk.append.2 ⟨_, w1, ⟨by omega, by rw [ebd], by rw [ebd]; rfl⟩⟩
  have hWs : wsum bs ((bkC bs q m b.frm).reverse ++ [(k : Int)]) = y b.frm + b.most := by rw [wsum_append, w2]; simp only [wsum]; rw [ebd]; omega
  have hWl : ((bkC bs q m b.frm).reverse ++ [(k : Int)]).length = m + 1 := by simp [bkC_len]
  generalize (bkC bs q m b.frm).reverse ++ [(k : Int)] = L at hW hWs hWl
  obtain ⟨_, _, _, hmin⟩ := hy b.tow
  have fin : ∀ L' : List Int, L'.length < P → Wk bs q L' b.tow → y b.tow ≤ wsum bs L' := fun L' hl hw => by
    have h1 := (wS_le hS.inr hmil (q := q) (by omega) L'.length L' b.tow rfl (by omega) hw).1
    have h2 := hmin _ (hI q L'.length hq hl)
    simp only at h2
    omega
  by_cases hlt : m + 1 < P
  · have := fin L (by omega) hW
    omega
  · have hnd : ¬ ((q : Int) :: tows bs L).Nodup := fun hn => by
      have := nodup_len P _ hn (fun x hx => by
        rcases List.mem_cons.1 hx with rfl | hx
        · omega
        · exact tows_pts hpt (Wk.valid hW) x hx)
      simp [tows] at this
      omega
    obtain ⟨A, B, C, x, rfl, hB, h1, h2, h3⟩ := hW.split2 hnd
    obtain ⟨x0, x1⟩ := Wk.pts hpt (by omega) (by omega) h1
    have lB : 1 ≤ B.length := by
      cases B with
      | nil => exact absurd rfl hB
      | cons _ _ => simp
    simp only [List.length_append] at hWl
    have n1 := noneg hc (R := P) (by omega) (fun a m ha h1 h2 => hno a m (by omega) h1 h2) x0 x1 h2 hB (by omega)
    have := fin (A ++ C) (by simp; omega) (Wk.append.2 ⟨x, h1, h3⟩)
    rw [wsum_append, wsum_append] at hWs
    rw [wsum_append] at this
    omega

/-- A solution, or a circle. -/
theorem okB_crcL {P : Nat} {bs : List Bd} (hc : chk P bs = 0) : okB P bs = true ↔ crcL P bs = [] := by
  obtain ⟨h1, h2⟩ := crcL_few hc
  constructor
  · intro hok
    apply Classical.byContradiction
    intro hne
    obtain ⟨u, _, _, hw, hneg, _⟩ := h2 hne
    have := Wk.keeps (okB_keeps (Sys.of_chk hc) hok) hw
    omega
  · intro he
    rw [he] at h1
    rcases h1 with ⟨_, h⟩ | ⟨h, _⟩
    · exact okB_of_none hc h
    · simp at h
end Go.Proofs.Ytlkcfohmoeadbaa

/-
  Plain laws: the last bounds of the sums from a point lead back to it; the way back is a path with the least sum.
-/
namespace Go.Proofs.Ytlkcfohmoeadbaa

theorem pass_inv2 {bs : List Bd} {Q : List Int → List Int → Prop} (hin : ∀ b ∈ bs, b.inr) (hQ : ∀ r l k, r.length = 60 → l.length = 60 → k < bs.length → Q r l → opens FAR r (bs.getD k default) = true → Q (r.set (bs.getD k default).tow.toNat (gi r (bs.getD k default).frm + (bs.getD k default).most)) (l.set (bs.getD k default).tow.toNat k)) {s : RL} (hl : s.r.length = 60) (hl2 : s.last.length = 60) (h : Q s.r s.last) :
    ∀ k, k ≤ bs.length → Q (s.pass FAR bs k).r (s.pass FAR bs k).last
  | 0, _ => h
  | k + 1, hk => by
    have h1 := pass_inv2 hin hQ hl hl2 h k (by omega)
    have hlen := RL.pass_len FAR bs s k
    simp only [RL.pass, RL.step]
    cases ho : opens FAR (s.pass FAR bs k).r (bs.getD k default) with
    | false => simpa using h1
    | true =>
      simp only [if_true, RL.upd]
      exact hQ _ _ k (hlen.1.trans hl) (hlen.2.trans hl2) (by omega) h1 ho
theorem settle_inv2 {bs : List Bd} {Q : List Int → List Int → Prop} (hin : ∀ b ∈ bs, b.inr) (hQ : ∀ r l k, r.length = 60 → l.length = 60 → k < bs.length → Q r l → opens FAR r (bs.getD k default) = true → Q (r.set (bs.getD k default).tow.toNat (gi r (bs.getD k default).frm + (bs.getD k default).most)) (l.set (bs.getD k default).tow.toNat k)) :
    ∀ (n : Nat) (s : RL), s.r.length = 60 → s.last.length = 60 → Q s.r s.last → Q (settle FAR bs n s).1.r (settle FAR bs n s).1.last
  | 0, _, _, _, h => h
  | n + 1, s, hl, hl2, h => by
    have h1 := pass_inv2 hin hQ hl hl2 h bs.length (Nat.le_refl _)
    have hlen := RL.pass_len FAR bs s bs.length
    simp only [settle]
    split
    · exact h1
    · exact settle_inv2 hin hQ n _ (hlen.1.trans hl) (hlen.2.trans hl2) h1

/-- The point before, by the last bound. -/
def prd (bs : List Bd) (l : List Int) (j : Int) : Int := (bdI bs (gi l j)).frm
/-- From j the last bounds lead back to a in n steps. -/
def Rch (bs : List Bd) (l : List Int) (a : Int) : Nat → Int → Prop
  | 0, j => j = a
  | n + 1, j => j ≠ a ∧ Rch bs l a n (prd bs l j)
/-- The last bounds on the way back. -/
def chn (bs : List Bd) (l : List Int) : Nat → Int → List Int
  | 0, _ => []
  | n + 1, j => gi l j :: chn bs l n (prd bs l j)
theorem chn_len (bs : List Bd) (l : List Int) : ∀ n j, (chn bs l n j).length = n
  | 0, _ => rfl
  | n + 1, j => by simp [chn, chn_len bs l n]
theorem Rch.uniq {bs : List Bd} {l : List Int} {a : Int} : ∀ {n m : Nat} {j : Int}, Rch bs l a n j → Rch bs l a m j → n = m
  | 0, 0, _, _, _ => rfl
  | 0, m + 1, _, h, k => absurd h k.1
  | n + 1, 0, _, h, k => absurd k h.1
  | n + 1, m + 1, _, h, k => by rw [Rch.uniq h.2 k.2]

/-- What holds of sums and last bounds, where y keeps all bounds. -/
structure PI (bs : List Bd) (y : Int → Int) (a : Int) (r l : List Int) : Prop where
  low : ∀ j : Int, 0 ≤ j → j < 60 → gi r j < FAR → y j - y a ≤ gi r j
  zero : gi r a = 0
  lead : ∀ j : Int, 0 ≤ j → j < 60 → gi r j < FAR → j ≠ a → (0 ≤ gi l j ∧ gi l j < bs.length) ∧ (bdI bs (gi l j)).tow = j ∧ gi r (prd bs l j) < FAR ∧ gi r (prd bs l j) + (bdI bs (gi l j)).most ≤ gi r j
  reach : ∀ j : Int, 0 ≤ j → j < 60 → gi r j < FAR → ∃ n, Rch bs l a n j

theorem PI.step {bs : List Bd} {y : Int → Int} {a : Int} (hin : ∀ b ∈ bs, b.inr) (hy : keepsB bs y) {r l : List Int} {k : Nat} (hr : r.length = 60) (hl : l.length = 60) (hk : k < bs.length) (a0 : 0 ≤ a) (a1 : a < 60) (h : PI bs y a r l) (ho : opens FAR r (bs.getD k default) = true) :
    PI bs y a (r.set (bs.getD k default).tow.toNat (gi r (bs.getD k default).frm + (bs.getD k default).most)) (l.set (bs.getD k default).tow.toNat k) := by
  have hb := getD_mem hk
  have ek : bdI bs (k : Int) = bs.getD k default := by unfold bdI; rw [Int.toNat_natCast]
  generalize bs.getD k default = b at *
  obtain ⟨f0, f1, t0, t1, _, _⟩ := hin b hb
  have hyb := hy b hb
  obtain ⟨o1, o2⟩ := opens_FAR.1 ho
  have hF : FAR = 1099511627776 := rfl
  have hlu := h.low b.frm f0 f1 (by omega)
  have hva : b.tow ≠ a := fun e => by
    have h0 := h.zero
    rw [← e] at h0
    rw [e] at hyb
    omega
  have huv : b.frm ≠ b.tow := fun e => by
    rw [e] at hyb o2; omega
  have er : ∀ j : Int, 0 ≤ j → gi (r.set b.tow.toNat (gi r b.frm + b.most)) j = if j = b.tow then gi r b.frm + b.most else gi r j := fun j j0 => gi_set t0 (by omega) j0
  have el : ∀ j : Int, 0 ≤ j → gi (l.set b.tow.toNat (k : Int)) j = if j = b.tow then (k : Int) else gi l j := fun j j0 => gi_set t0 (by omega) j0
  have ep : ∀ j : Int, 0 ≤ j → prd bs (l.set b.tow.toNat (k : Int)) j = if j = b.tow then b.frm else prd bs l j := fun j j0 => by
    unfold prd
    rw [el j j0]
    split
    · rw [ek]
    · rfl
  have hle : ∀ j : Int, 0 ≤ j → gi (r.set b.tow.toNat (gi r b.frm + b.most)) j ≤ gi r j := fun j j0 => by
    rw [er j j0]
    split
    · rename_i e; subst e; omega
    · omega
  have hfin : ∀ j : Int, 0 ≤ j → j < 60 → gi (r.set b.tow.toNat (gi r b.frm + b.most)) j < FAR → j ≠ b.tow → gi r j < FAR := fun j j0 j1 hj e => by rw [er j j0, if_neg e] at hj; exact hj
  have hpr : ∀ j : Int, 0 ≤ j → j < 60 → gi r j < FAR → j ≠ a → 0 ≤ prd bs l j ∧ prd bs l j < 60 ∧ gi r (prd bs l j) < FAR ∧ gi r (prd bs l j) - y (prd bs l j) ≤ gi r j - y j := fun j j0 j1 hj e => by
    obtain ⟨h1, h2, h3, h4⟩ := h.lead j j0 j1 hj e
    have hm := bdI_mem h1
    have hmi := hin _ hm
    have hmy := hy _ hm
    rw [h2] at hmy
    have e2 : (bdI bs (gi l j)).frm = prd bs l j := rfl
    rw [e2] at hmy
    exact ⟨hmi.f0, hmi.f1, h3, by omega⟩
  have key1 : ∀ (n : Nat) (j : Int), Rch bs l a n j → 0 ≤ j → j < 60 → gi r j < FAR → gi r j - y j ≤ gi r b.frm - y b.frm → Rch bs (l.set b.tow.toNat (k : Int)) a n j := by
    intro n
    induction n with
    | zero => intro j hj _ _ _ _; exact hj
    | succ n ih =>
      intro j hj j0 j1 hf hp
      obtain ⟨p0, p1, p2, p3⟩ := hpr j j0 j1 hf hj.1
      have hjv : j ≠ b.tow := fun e => by subst e; omega
      refine ⟨hj.1, ?_⟩
      rw [ep j j0, if_neg hjv]
      exact ih _ hj.2 p0 p1 p2 (by omega)
  obtain ⟨nu, hnu⟩ := h.reach b.frm f0 f1 (by omega)
  have hru := key1 nu b.frm hnu f0 f1 (by omega) (Int.le_refl _)
  have hrv : Rch bs (l.set b.tow.toNat (k : Int)) a (nu + 1) b.tow := ⟨hva, by rw [ep _ t0, if_pos rfl]; exact hru⟩
  have key2 : ∀ (n : Nat) (j : Int), Rch bs l a n j → 0 ≤ j → j < 60 → gi r j < FAR → ∃ m, Rch bs (l.set b.tow.toNat (k : Int)) a m j := by
    intro n
    induction n with
    | zero => intro j hj _ _ _; exact ⟨0, hj⟩
    | succ n ih =>
      intro j hj j0 j1 hf
      by_cases e : j = b.tow
      · subst e; exact ⟨_, hrv⟩
      · obtain ⟨p0, p1, p2, _⟩ := hpr j j0 j1 hf hj.1
        obtain ⟨m, hm⟩ := ih _ hj.2 p0 p1 p2
        exact ⟨m + 1, hj.1, by rw [ep j j0, if_neg e]; exact hm⟩
  refine ⟨fun j j0 j1 hj => ?_, ?_, fun j j0 j1 hj hja => ?_, fun j j0 j1 hj => ?_⟩
  · by_cases e : j = b.tow
    · rw [er j j0, if_pos e]; subst e; omega
    · rw [er j j0, if_neg e]; exact h.low j j0 j1 (hfin j j0 j1 hj e)
  · rw [er a a0, if_neg (fun e => hva e.symm)]; exact h.zero
  · by_cases e : j = b.tow
    · rw [ep j j0, el j j0, if_pos e, if_pos e, ek, er j j0, if_pos e, er _ f0, if_neg huv]
      exact ⟨⟨by omega, by omega⟩, e.symm, by omega, Int.le_refl _⟩
    · have hf := hfin j j0 j1 hj e
      obtain ⟨h1, h2, h3, h4⟩ := h.lead j j0 j1 hf hja
      obtain ⟨p0, p1, p2, _⟩ := hpr j j0 j1 hf hja
      have := hle _ p0
      rw [ep j j0, el j j0, if_neg e, if_neg e, er j j0, if_neg e]
      exact ⟨h1, h2, by omega, by omega⟩
  · by_cases e : j = b.tow
    · subst e; exact ⟨_, hrv⟩
    · obtain ⟨n, hn⟩ := h.reach j j0 j1 (hfin j j0 j1 hj e)
      exact key2 n j hn j0 j1 (hfin j j0 j1 hj e)

theorem gfrom_PI {p : Int} {bs : List Bd} (hs : Sys p bs) {y : Int → Int} (hy : keepsB bs y) {a : Int} (a0 : 0 ≤ a) (a1 : a < p) : PI bs y a (gfrom p bs a).1.r (gfrom p bs a).1.last := by
  have hp := hs.p2
  refine settle_inv2 (Q := PI bs y a) hs.inr (fun r l k hr hl hk h ho => h.step hs.inr hy hr hl hk a0 (by omega) ho) (p + 1).toNat ⟨far0 a, List.replicate 60 (-1), 0⟩ (far0_len a) (by simp) ⟨fun j j0 j1 hj => ?_, ?_, fun j j0 j1 hj hja => ?_, fun j j0 j1 hj => ?_⟩
  · simp only at hj ⊢
    rw [gi_far0 a0 (by omega) j0 j1] at hj ⊢
    split at hj
    · rename_i e; subst e; simp
    · exact absurd hj (Int.lt_irrefl _)
  · simp only
    rw [gi_far0 a0 (by omega) a0 (by omega), if_pos rfl]
  · simp only at hj
    rw [gi_far0 a0 (by omega) j0 j1, if_neg hja] at hj
    exact absurd hj (Int.lt_irrefl _)
  · simp only at hj
    rw [gi_far0 a0 (by omega) j0 j1] at hj
    split at hj
    · rename_i e; exact ⟨0, e⟩
    · exact absurd hj (Int.lt_irrefl _)

/-- The way back by the last bounds is a path with the least sum. -/
theorem PI.path {bs : List Bd} {y : Int → Int} {a : Int} {r l : List Int} (hin : ∀ b ∈ bs, b.inr) (hst : ∀ b ∈ bs, opens FAR r b = false) (h : PI bs y a r l) : ∀ (n : Nat) (j : Int), 0 ≤ j → j < 60 → gi r j < FAR → Rch bs l a n j →
    Wk bs a (chn bs l n j).reverse j ∧ wsum bs (chn bs l n j).reverse = gi r j ∧ (∀ x ∈ tows bs (chn bs l n j), ∃ m, 1 ≤ m ∧ m ≤ n ∧ Rch bs l a m x) ∧ (tows bs (chn bs l n j)).Nodup ∧ (∀ x ∈ frms bs (chn bs l n j), ∃ m, m < n ∧ Rch bs l a m x) ∧ (frms bs (chn bs l n j)).Nodup
  | 0, j, _, _, _, hR => by
    cases hR
    exact ⟨rfl, h.zero.symm, by simp [chn, tows], by simp [chn, tows], by simp [chn, frms], by simp [chn, frms]⟩
  | n + 1, j, j0, j1, hf, hR => by
    obtain ⟨h1, h2, h3, h4⟩ := h.lead j j0 j1 hf hR.1
    have hm := bdI_mem h1
    have hmi := hin _ hm
    have hso := hst _ hm
    have hle : gi r j ≤ gi r (prd bs l j) + (bdI bs (gi l j)).most := by
      apply Classical.byContradiction
      intro hlt
      have : opens FAR r (bdI bs (gi l j)) = true := opens_FAR.2 ⟨h3, by rw [h2]; show gi r (prd bs l j) + _ < _; omega⟩
      rw [hso] at this; cases this
    obtain ⟨k1, k2, k3, k4, k5, k6⟩ := PI.path hin hst h n (prd bs l j) hmi.f0 hmi.f1 h3 hR.2
    have et : tows bs (chn bs l (n + 1) j) = j :: tows bs (chn bs l n (prd bs l j)) := by simp only [chn, tows, List.map_cons, h2]
    have ef : frms bs (chn bs l (n + 1) j) = prd bs l j :: frms bs (chn bs l n (prd bs l j)) := rfl
    rw [et, ef]
    refine ⟨?_, ?_, ?_, ?_, ?_, ?_⟩
    · simp only [chn, List.reverse_cons]
      exact Wk.append.2 ⟨_, k1, h1, rfl, h2⟩
    · simp only [chn, List.reverse_cons]
      rw [wsum_append, k2]
      simp only [wsum]
      omega
    · intro x hx
      rcases List.mem_cons.1 hx with rfl | hx
      · exact ⟨n + 1, by omega, by omega, hR⟩
      · obtain ⟨m, m1, m2, m3⟩ := k3 x hx
        exact ⟨m, m1, by omega, m3⟩
    · refine List.nodup_cons.2 ⟨fun hx => ?_, k4⟩
      obtain ⟨m, m1, m2, m3⟩ := k3 _ hx
      have := m3.uniq hR
      omega
    · intro x hx
      rcases List.mem_cons.1 hx with rfl | hx
      · exact ⟨n, by omega, hR.2⟩
      · obtain ⟨m, m1, m2⟩ := k5 x hx
        exact ⟨m, by omega, m2⟩
    · refine List.nodup_cons.2 ⟨fun hx => ?_, k6⟩
      obtain ⟨m, m1, m2⟩ := k5 _ hx
      have := m2.uniq hR.2
      omega

/-- Is a list a path from a to b, no point left or come to twice, with a sum of n? -/
structure Pth (bs : List Bd) (a b n : Int) (L : List Int) : Prop where
  wk : Wk bs a L b
  sum : wsum bs L = n
  fs : (frms bs L).Nodup
  ts : (tows bs L).Nodup
  len : L.length ≤ 60

theorem gfrom_path {p : Int} {bs : List Bd} (hc : chk p bs = 0) (hok : okB p bs = true) {a b : Int} (a0 : 0 ≤ a) (a1 : a < p) (b0 : 0 ≤ b) (b1 : b < p) (hf : gD p bs a b < FAR) :
    ∃ n, Rch bs (gfrom p bs a).1.last a n b ∧ Pth bs a b (gD p bs a b) (chn bs (gfrom p bs a).1.last n b).reverse ∧ n ≤ 60 := by
  have hs := Sys.of_chk hc
  have hp := hs.p2
  have hPI := gfrom_PI hs (okB_keeps hs hok) a0 a1
  have hst := settle_still hs.inr (p + 1).toNat ⟨far0 a, List.replicate 60 (-1), 0⟩ (far0_len a) (gfrom_done hs (Pts.of_chk hc) hok a0 a1)
  obtain ⟨n, hn⟩ := hPI.reach b b0 (by omega) hf
  obtain ⟨k1, k2, _, k4, _, k6⟩ := hPI.path hs.inr hst n b b0 (by omega) hf hn
  have hv := Wk.valid k1
  have hlen : (chn bs (gfrom p bs a).1.last n b).reverse.length ≤ 60 := by
    have h1 := nodup_len 60 _ k4 (fun x hx => by
      have := tows_pts (p := 60) (fun b hb => by have := hs.inr b hb; exact ⟨this.f0, this.f1, this.t0, this.t1⟩) (L := chn bs (gfrom p bs a).1.last n b) (fun i hi => hv i (by simpa using hi)) x hx
      omega)
    simp [tows] at h1
    simpa using h1
  refine ⟨n, hn, ⟨k1, k2, ?_, ?_, hlen⟩, by rw [List.length_reverse, chn_len] at hlen; exact hlen⟩
  · have : frms bs (chn bs (gfrom p bs a).1.last n b).reverse = (frms bs (chn bs (gfrom p bs a).1.last n b)).reverse := by simp [frms]
    rw [this]; exact ((List.reverse_perm _).nodup_iff).2 k6
  · have : tows bs (chn bs (gfrom p bs a).1.last n b).reverse = (tows bs (chn bs (gfrom p bs a).1.last n b)).reverse := by simp [tows]
    rw [this]; exact ((List.reverse_perm _).nodup_iff).2 k4

/-- The sums of paths are not below the greatest difference. -/
theorem gD_walk {p : Int} {bs : List Bd} (hc : chk p bs = 0) (hok : okB p bs = true) {a : Int} (a0 : 0 ≤ a) (a1 : a < p) : ∀ {L : List Int} {u v : Int}, 0 ≤ u → u < p → gD p bs a u < FAR → Wk bs u L v → gD p bs a v < FAR ∧ gD p bs a v ≤ gD p bs a u + wsum bs L
  | [], u, v, _, _, hu, h => by cases h; simp [wsum, hu]
  | i :: L, u, v, u0, u1, hu, h => by
    have hb := bdI_mem h.1
    have e := h.2.1
    have hpt := Pts.of_chk hc _ hb
    have h1 := gfrom_still hc hok a0 a1 hb (by rw [e]; exact hu)
    rw [e] at h1
    obtain ⟨k1, k2⟩ := gD_walk hc hok a0 a1 (L := L) hpt.2.2.1 hpt.2.2.2 h1.2 h.2.2
    simp only [wsum]
    exact ⟨k1, by omega⟩
theorem gD_walk0 {p : Int} {bs : List Bd} (hc : chk p bs = 0) (hok : okB p bs = true) {a v : Int} (a0 : 0 ≤ a) (a1 : a < p) {L : List Int} (h : Wk bs a L v) : gD p bs a v < FAR ∧ gD p bs a v ≤ wsum bs L := by
  have e := gD_self (Sys.of_chk hc) hok a0 a1
  have := gD_walk hc hok a0 a1 a0 a1 (by rw [e]; unfold FAR; omega) h
  rw [e] at this
  exact ⟨this.1, by omega⟩
end Go.Proofs.Ytlkcfohmoeadbaa

/-
  Plain laws: a difference is attained exactly if it lies from the least to the greatest one; the solution that attains it lies near.
-/
namespace Go.Proofs.Ytlkcfohmoeadbaa

theorem okB_of_keepsS {p : Int} {bs : List Bd} (hs : Sys p bs) (hpt : Pts p bs) {y : Int → Int} (hy : keepsB bs y) : okB p bs = true := by
  have hp := hs.p2
  have hp1 := hs.p1
  obtain ⟨v, hv, hm⟩ := least_of (fun j => - y j) ((List.range p.toNat).map fun (i : Nat) => (i : Int)) (by
    intro e
    have := mem_pts (p := p) (j := 0) (by omega) (by omega)
    rw [e] at this
    simp at this)
  refine BF.settles hp hs.inr hy hpt (p + 1).toNat ((List.range p.toNat).map fun (i : Nat) => (i : Int)) (- y v) ⟨List.replicate 60 0, List.replicate 60 (-1), 0⟩ (by simp; omega) ⟨fun j hj => hj, fun j j0 j1 hj => ?_, fun j j0 j1 hj hf => ?_, fun j _ _ a b => absurd a b, fun b hb hf => ?_⟩ (by simp)
  · exact absurd (mem_pts j0 j1) hj
  · have := hm j hj
    simp only at this ⊢
    rw [gi_zeros]
    omega
  · obtain ⟨q0, q1, _⟩ := hpt b hb
    exact absurd (mem_pts q0 q1) hf

theorem both_mk {p x y : Int} (x0 : 0 ≤ x) (x1 : x < p) (y0 : 0 ≤ y) (y1 : y < p) : both p x y = true := by
  simp [both, inP, withinB] <;> omega
theorem nearB_iff {n : Int} : nearB n = true ↔ -100000000 ≤ n ∧ n ≤ 100000000 := withinB_iff

/-- A list that keeps all bounds is bounded by greatest differences. -/
theorem keeps_gD {p : Int} {bs : List Bd} (hc : chk p bs = 0) (hok : okB p bs = true) {z : Int → Int} (hz : keepsB bs z) {x y : Int} (x0 : 0 ≤ x) (x1 : x < p) (y0 : 0 ≤ y) (y1 : y < p) (hf : gD p bs x y < FAR) : z y - z x ≤ gD p bs x y := by
  obtain ⟨n, _, hp, _⟩ := gfrom_path hc hok x0 x1 y0 y1 hf
  have := Wk.keeps hz hp.wk
  rw [hp.sum] at this
  exact this

theorem Pts.tiedT {p : Int} {bs : List Bd} (h : Pts p bs) {x y n : Int} (hxy : both p x y = true) : Pts p (bs ++ [⟨x, y, n, 0⟩, ⟨y, x, -n, 0⟩]) := by
  obtain ⟨⟨h1, h2⟩, h3, h5⟩ := both_in hxy
  intro b hb
  rcases List.mem_append.1 hb with hb | hb
  · exact h b hb
  · simp at hb
    rcases hb with rfl | rfl <;> simp <;> omega

/-- A list in which a difference is n: the least of three that keep all bounds. -/
def tz (p : Int) (bs : List Bd) (x y n : Int) (j : Int) : Int :=
  min (min (if gD p bs x j < FAR then gD p bs x j else gi (gsol p bs).1.r j + 160000000) (if gD p bs y j < FAR then n + gD p bs y j else gi (gsol p bs).1.r j + 160000000)) (gi (gsol p bs).1.r j + 160000000)

theorem sol_in {p : Int} {bs : List Bd} (hc : chk p bs = 0) (hok : okB p bs = true) {j : Int} (j0 : 0 ≤ j) (j1 : j < p) : -59000000 ≤ gi (gsol p bs).1.r j ∧ gi (gsol p bs).1.r j ≤ 0 := by
  have hs := Sys.of_chk hc
  have hp := hs.p2
  have h1 := sol_low hc hok j0 j1
  exact ⟨by omega, sol_le hs j0 (by omega)⟩

theorem tz_spec {p : Int} {bs : List Bd} (hc : chk p bs = 0) (hok : okB p bs = true) {x y n : Int} (hxy : both p x y = true) (hn : nearB n = true) (h1 : gD p bs x y < FAR → n ≤ gD p bs x y) (h2 : gD p bs y x < FAR → -n ≤ gD p bs y x) :
    keepsB bs (tz p bs x y n) ∧ tz p bs x y n x = 0 ∧ tz p bs x y n y = n ∧ ∀ j : Int, 0 ≤ j → j < p → -160000000 ≤ tz p bs x y n j ∧ tz p bs x y n j ≤ 160000000 := by
  have hs := Sys.of_chk hc
  have hp := hs.p2
  have hk := okB_keeps hs hok
  have hpt := Pts.of_chk hc
  obtain ⟨⟨x0, x1⟩, y0, y1⟩ := both_in hxy
  obtain ⟨n0, n1⟩ := nearB_iff.1 hn
  have sx := sol_in hc hok x0 x1
  have sy := sol_in hc hok y0 y1
  have ex := gD_self hs hok x0 x1
  have ey := gD_self hs hok y0 y1
  have hF : FAR = 1099511627776 := rfl
  refine ⟨fun b hb => ?_, ?_, ?_, fun j j0 j1 => ?_⟩
  · obtain ⟨f0, f1, t0, t1⟩ := hpt b hb
    have k := hk b hb
    have g1 := gfrom_still hc hok x0 x1 hb
    have g2 := gfrom_still hc hok y0 y1 hb
    unfold tz
    generalize gD p bs x b.frm = A at *
    generalize gD p bs x b.tow = A' at *
    generalize gD p bs y b.frm = B at *
    generalize gD p bs y b.tow = B' at *
    by_cases hA : A < FAR
    · obtain ⟨g11, g12⟩ := g1 hA
      rw [if_pos hA, if_pos g12]
      by_cases hB : B < FAR
      · obtain ⟨g21, g22⟩ := g2 hB
        rw [if_pos hB, if_pos g22]; omega
      · rw [if_neg hB]; split <;> omega
    · rw [if_neg hA]
      by_cases hB : B < FAR
      · obtain ⟨g21, g22⟩ := g2 hB
        rw [if_pos hB, if_pos g22]; split <;> omega
      · rw [if_neg hB]; split <;> split <;> omega
  · unfold tz
    rw [ex, if_pos (by omega)]
    split
    · rename_i h; have := h2 h; omega
    · omega
  · unfold tz
    rw [ey, if_pos (show (0 : Int) < FAR by omega)]
    split
    · rename_i h; have := h1 h; omega
    · omega
  · have sj := sol_in hc hok j0 j1
    have l1 := fun h => keeps_gD hc hok hk x0 x1 j0 j1 h
    have l2 := fun h => keeps_gD hc hok hk y0 y1 j0 j1 h
    unfold tz
    generalize gD p bs x j = A at *
    generalize gD p bs y j = B at *
    by_cases hA : A < FAR
    · have := l1 hA
      rw [if_pos hA]
      by_cases hB : B < FAR
      · have := l2 hB
        rw [if_pos hB]; omega
      · rw [if_neg hB]; omega
    · rw [if_neg hA]
      by_cases hB : B < FAR
      · have := l2 hB
        rw [if_pos hB]; omega
      · rw [if_neg hB]; omega

theorem tied_diff {bs : List Bd} {x y n : Int} {z : Int → Int} (hz : keepsB (bs ++ [⟨x, y, n, 0⟩, ⟨y, x, -n, 0⟩]) z) : z y - z x = n := by
  have h1 : z y - z x ≤ n := hz ⟨x, y, n, 0⟩ (by simp)
  have h2 : z x - z y ≤ -n := hz ⟨y, x, -n, 0⟩ (by simp)
  omega
theorem tied_keeps {bs : List Bd} {x y n : Int} {z : Int → Int} (hz : keepsB bs z) (h : z y - z x = n) : keepsB (bs ++ [⟨x, y, n, 0⟩, ⟨y, x, -n, 0⟩]) z := by
  intro b hb
  rcases List.mem_append.1 hb with hb | hb
  · exact hz b hb
  · simp at hb
    rcases hb with rfl | rfl
    · show z y - z x ≤ n; omega
    · show z x - z y ≤ -n; omega

theorem chk_400' {p : Int} {bs : List Bd} (h : chk p bs = 0) : bs.length ≤ 400 := by unfold chk at h; split at h <;> omega

theorem tied_ok {p : Int} {bs : List Bd} (hc : chk p bs = 0) (hok : okB p bs = true) {x y n : Int} (hxy : both p x y = true) (hn : nearB n = true) :
    okB p (bs ++ [⟨x, y, n, 0⟩, ⟨y, x, -n, 0⟩]) = true ↔ (gD p bs x y < FAR → n ≤ gD p bs x y) ∧ (gD p bs y x < FAR → -n ≤ gD p bs y x) := by
  have hs := Sys.of_chk hc
  obtain ⟨⟨x0, x1⟩, y0, y1⟩ := both_in hxy
  have hst := hs.tied (chk_400' hc) hxy hn
  constructor
  · intro h
    have hz := okB_keeps hst h
    have hd := tied_diff hz
    have hzb : keepsB bs (gi (gsol p (bs ++ [⟨x, y, n, 0⟩, ⟨y, x, -n, 0⟩])).1.r) := fun b hb => hz b (List.mem_append_left _ hb)
    exact ⟨fun hf => by have := keeps_gD hc hok hzb x0 x1 y0 y1 hf; omega, fun hf => by have := keeps_gD hc hok hzb y0 y1 x0 x1 hf; omega⟩
  · rintro ⟨h1, h2⟩
    obtain ⟨k1, k2, k3, _⟩ := tz_spec hc hok hxy hn h1 h2
    exact okB_of_keepsS hst (Pts.tiedT (Pts.of_chk hc) hxy) (tied_keeps k1 (by rw [k2, k3]; omega))

/-- The solution in which a difference is n lies near. -/
theorem tied_low {p : Int} {bs : List Bd} (hc : chk p bs = 0) (hok : okB p bs = true) {x y n : Int} (hxy : both p x y = true) (hn : nearB n = true) (h : okB p (bs ++ [⟨x, y, n, 0⟩, ⟨y, x, -n, 0⟩]) = true) {j : Int} (j0 : 0 ≤ j) (j1 : j < p) :
    -400000000 ≤ gi (gsol p (bs ++ [⟨x, y, n, 0⟩, ⟨y, x, -n, 0⟩])).1.r j := by
  have hs := Sys.of_chk hc
  have hp := hs.p2
  have hst := hs.tied (chk_400' hc) hxy hn
  obtain ⟨h1, h2⟩ := (tied_ok hc hok hxy hn).1 h
  obtain ⟨k1, k2, k3, k4⟩ := tz_spec hc hok hxy hn h1 h2
  have kt := tied_keeps k1 (show tz p bs x y n y - tz p bs x y n x = n by rw [k2, k3]; omega)
  have hpt := Pts.tiedT (n := n) (Pts.of_chk hc) hxy
  have := sol_max (y := fun i => if 0 ≤ i ∧ i < p then tz p bs x y n i - 160000000 else 0) hst (fun b hb => by
    obtain ⟨q0, q1, q2, q3⟩ := hpt b hb
    have := kt b hb
    try simp only
    rw [if_pos ⟨q2, q3⟩, if_pos ⟨q0, q1⟩]
    omega) (fun i i0 i1 => by
    try simp only
    split
    · rename_i hi; have := k4 i hi.1 hi.2; omega
    · omega) j0 (by omega)
  try simp only at this
  rw [if_pos ⟨j0, j1⟩] at this
  have := k4 j j0 j1
  omega

/-- Attain finds a solution exactly if n lies from the least to the greatest difference. -/
theorem attF_iff {p : Int} {bs : List Bd} {x y n : Int} (hE : askE p bs x y = 0) (hn : nearB n = true) :
    attF p bs x y n = ((!grB p bs x y || decide (n ≤ grN p bs x y)) && (!grB p bs y x || decide (-grN p bs y x ≤ n))) := by
  obtain ⟨hc, hxy, hok⟩ := askE_zero hE
  obtain ⟨⟨x0, x1⟩, y0, y1⟩ := both_in hxy
  have hE2 : askE p bs y x = 0 := askE_eq hc (both_mk y0 y1 x0 x1) hok
  have hs := Sys.of_chk hc
  have u1 := (gD_range hs x0 x1 y0 y1).2
  have u2 := (gD_range hs y0 y1 x0 x1).2
  have hF : FAR = 1099511627776 := rfl
  by_cases e : x = y
  · subst e
    have ex := gD_self hs hok x0 x1
    have g1 : grB p bs x x = true := by unfold grB; exact decide_eq_true ⟨hE, by rw [ex]; omega⟩
    have g2 : grN p bs x x = 0 := by unfold grN; rw [if_pos ⟨hE, by rw [ex]; omega⟩, ex]
    rw [g1, g2]
    unfold attF attT
    rw [if_pos rfl, hok, Bool.eq_iff_iff]
    simp
    omega
  · unfold attF attT
    rw [if_neg e, Bool.eq_iff_iff]
    have := tied_ok hc hok hxy hn
    simp only [e, decide_false, Bool.false_and, Bool.not_false, Bool.true_and, this, Bool.and_eq_true, Bool.or_eq_true, Bool.not_eq_true', decide_eq_true_eq]
    unfold grB grN
    simp only [hE, hE2, true_and]
    by_cases a1 : gD p bs x y = FAR
    · by_cases a2 : gD p bs y x = FAR
      · simp [a1, a2]
      · simp [a1, a2]; omega
    · by_cases a2 : gD p bs y x = FAR
      · simp [a1, a2]; omega
      · simp [a1, a2]; omega
end Go.Proofs.Ytlkcfohmoeadbaa

/-
  Plain laws: systems beside each other; tied systems.
-/
namespace Go.Proofs.Ytlkcfohmoeadbaa

theorem settle_fuel {far : Int} {bs : List Bd} : ∀ (n m : Nat) (s : RL), (settle far bs n s).2 = true → n ≤ m → settle far bs m s = settle far bs n s
  | 0, _, _, h, _ => by simp [settle] at h
  | n + 1, 0, _, _, h => by omega
  | n + 1, m + 1, s, h, hm => by
    simp only [settle] at h ⊢
    split
    · rfl
    · rename_i hne
      rw [if_neg hne] at h
      exact settle_fuel n m _ h (by omega)

theorem gD_le {p : Int} {bs : List Bd} (hc : chk p bs = 0) {x y : Int} (x0 : 0 ≤ x) (x1 : x < p) (y0 : 0 ≤ y) (y1 : y < p) : gD p bs x y ≤ FAR := (gD_range (Sys.of_chk hc) x0 x1 y0 y1).2

/-- The bounds of the second of two systems that are beside each other. -/
def shf (p : Int) (T : List Bd) : List Bd := T.map fun b => ⟨b.frm + p, b.tow + p, b.most, b.bid⟩
theorem bdI_left {bs cs : List Bd} {i : Int} (h : 0 ≤ i ∧ i < bs.length) : bdI (bs ++ cs) i = bdI bs i := by
  unfold bdI
  rw [List.getD_eq_getElem?_getD, List.getD_eq_getElem?_getD, List.getElem?_append_left (by omega)]
theorem bdI_right {bs T : List Bd} {p i : Int} (h : 0 ≤ i ∧ i < T.length) : bdI (bs ++ shf p T) (i + bs.length) = ⟨(bdI T i).frm + p, (bdI T i).tow + p, (bdI T i).most, (bdI T i).bid⟩ := by
  unfold bdI
  rw [List.getD_eq_getElem?_getD, List.getD_eq_getElem?_getD, List.getElem?_append_right (by omega), show (i + bs.length).toNat - bs.length = i.toNat by omega, shf, List.getElem?_map, List.getElem?_eq_getElem (by omega)]
  rfl
theorem Wk.left {bs cs : List Bd} : ∀ {L : List Int} {u v : Int}, Wk bs u L v → Wk (bs ++ cs) u L v ∧ wsum (bs ++ cs) L = wsum bs L
  | [], u, v, h => ⟨h, rfl⟩
  | i :: L, u, v, h => by
    obtain ⟨h1, h2⟩ := Wk.left (cs := cs) h.2.2
    have hi := h.1
    simp only [Wk, wsum]
    rw [bdI_left hi, h2]
    exact ⟨⟨⟨hi.1, by simp; omega⟩, h.2.1, h1⟩, rfl⟩
theorem Wk.right {bs T : List Bd} {p : Int} : ∀ {L : List Int} {u v : Int}, Wk T u L v → Wk (bs ++ shf p T) (u + p) (L.map (· + (bs.length : Int))) (v + p) ∧ wsum (bs ++ shf p T) (L.map (· + (bs.length : Int))) = wsum T L
  | [], u, v, h => by cases h; exact ⟨rfl, rfl⟩
  | i :: L, u, v, h => by
    obtain ⟨h1, h2⟩ := Wk.right (bs := bs) (p := p) h.2.2
    have hi := h.1
    have hu := h.2.1
    simp only [List.map_cons, Wk, wsum]
    rw [bdI_right hi, h2]
    refine ⟨⟨⟨by omega, by simp [shf]; omega⟩, by simp only; omega, h1⟩, rfl⟩
theorem Wk.left' {bs T : List Bd} {p : Int} (hpt : Pts p bs) (hT : ∀ b ∈ T, 0 ≤ b.frm) : ∀ {L : List Int} {u v : Int}, u < p → Wk (bs ++ shf p T) u L v → Wk bs u L v ∧ wsum (bs ++ shf p T) L = wsum bs L ∧ v < p
  | [], u, v, hu, h => by cases h; exact ⟨rfl, rfl, hu⟩
  | i :: L, u, v, hu, h => by
    have hi := h.1
    have hf := h.2.1
    simp only [List.length_append, shf, List.length_map] at hi
    by_cases hlt : i < bs.length
    · have hb : 0 ≤ i ∧ i < bs.length := ⟨hi.1, hlt⟩
      have e := bdI_left (cs := shf p T) hb
      have h3 := h.2.2
      rw [e] at h3 hf
      obtain ⟨h1, h2, h4⟩ := Wk.left' hpt hT (hpt _ (bdI_mem hb)).2.2.2 h3
      simp only [Wk, wsum]
      rw [e, h2]
      exact ⟨⟨hb, hf, h1⟩, rfl, h4⟩
    · have hb : 0 ≤ i - bs.length ∧ i - bs.length < T.length := ⟨by omega, by push_cast at hi; omega⟩
      have e := bdI_right (bs := bs) (p := p) hb
      rw [show i - bs.length + (bs.length : Int) = i by omega] at e
      rw [e] at hf
      have := hT _ (bdI_mem hb)
      simp only at hf
      omega
theorem Wk.right' {bs T : List Bd} {p : Int} (hpt : Pts p bs) : ∀ {L : List Int} {u v : Int}, p ≤ u → (∀ b ∈ T, 0 ≤ b.tow) → Wk (bs ++ shf p T) u L v → ∃ L', Wk T (u - p) L' (v - p) ∧ wsum (bs ++ shf p T) L = wsum T L'
  | [], u, v, hu, _, h => by cases h; exact ⟨[], rfl, rfl⟩
  | i :: L, u, v, hu, hT, h => by
    have hi := h.1
    have hf := h.2.1
    simp only [List.length_append, shf, List.length_map] at hi
    by_cases hlt : i < bs.length
    · have hb : 0 ≤ i ∧ i < bs.length := ⟨hi.1, hlt⟩
      rw [bdI_left hb] at hf
      have := (hpt _ (bdI_mem hb)).2.1
      omega
    · have hb : 0 ≤ i - bs.length ∧ i - bs.length < T.length := ⟨by omega, by push_cast at hi; omega⟩
      have e := bdI_right (bs := bs) (p := p) hb
      rw [show i - bs.length + (bs.length : Int) = i by omega] at e
      have h3 := h.2.2
      rw [e] at h3 hf
      simp only at h3 hf
      have ht := hT _ (bdI_mem hb)
      obtain ⟨L', k1, k2⟩ := Wk.right' hpt (by omega) hT h3
      rw [show (bdI T (i - bs.length)).tow + p - p = (bdI T (i - bs.length)).tow by omega] at k1
      refine ⟨(i - bs.length) :: L', ⟨hb, by omega, k1⟩, ?_⟩
      simp only [wsum]
      rw [e, k2]

theorem beside_ok {p q : Int} {bs T : List Bd} (hc : chk p bs = 0) (hcT : chk q T = 0) (hcU : chk (p + q) (bs ++ shf p T) = 0) (hok : okB p bs = true) (hokT : okB q T = true) : okB (p + q) (bs ++ shf p T) = true := by
  have k1 := okB_keeps (Sys.of_chk hc) hok
  have k2 := okB_keeps (Sys.of_chk hcT) hokT
  refine okB_of_keeps hcU (y := fun j => if j < p then gi (gsol p bs).1.r j else gi (gsol q T).1.r (j - p)) (fun b hb => ?_)
  rcases List.mem_append.1 hb with hb | hb
  · obtain ⟨_, q1, _, q3⟩ := Pts.of_chk hc b hb
    simp only
    rw [if_pos q1, if_pos q3]
    exact k1 b hb
  · obtain ⟨c, hc', rfl⟩ := List.mem_map.1 hb
    obtain ⟨q0, _, q2, _⟩ := Pts.of_chk hcT c hc'
    simp only
    rw [if_neg (by omega), if_neg (by omega), show c.tow + p - p = c.tow by omega, show c.frm + p - p = c.frm by omega]
    exact k2 c hc'

theorem beside_left {p q : Int} {bs T : List Bd} (hc : chk p bs = 0) (hcT : chk q T = 0) (hcU : chk (p + q) (bs ++ shf p T) = 0) (hok : okB p bs = true) (hokT : okB q T = true) {x y : Int} (x0 : 0 ≤ x) (x1 : x < p) (y0 : 0 ≤ y) (y1 : y < p) :
    gD (p + q) (bs ++ shf p T) x y = gD p bs x y := by
  have hq := (Sys.of_chk hcT).p1
  have hokU := beside_ok hc hcT hcU hok hokT
  have u1 := gD_le hc x0 x1 y0 y1
  have u2 := gD_le hcU x0 (show x < p + q by omega) y0 (show y < p + q by omega)
  have d1 : gD p bs x y < FAR → gD (p + q) (bs ++ shf p T) x y < FAR ∧ gD (p + q) (bs ++ shf p T) x y ≤ gD p bs x y := fun hf => by
    obtain ⟨n, _, hP, _⟩ := gfrom_path hc hok x0 x1 y0 y1 hf
    obtain ⟨w1, w2⟩ := Wk.left (cs := shf p T) hP.wk
    have := gD_walk0 hcU hokU x0 (by omega) w1
    rw [w2, hP.sum] at this
    exact this
  have d2 : gD (p + q) (bs ++ shf p T) x y < FAR → gD p bs x y < FAR ∧ gD p bs x y ≤ gD (p + q) (bs ++ shf p T) x y := fun hf => by
    obtain ⟨n, _, hP, _⟩ := gfrom_path hcU hokU x0 (by omega) y0 (by omega) hf
    obtain ⟨w1, w2, _⟩ := Wk.left' (Pts.of_chk hc) (fun b hb => (Pts.of_chk hcT b hb).1) x1 hP.wk
    have := gD_walk0 hc hok x0 x1 w1
    rw [← w2, hP.sum] at this
    exact this
  omega
theorem beside_right {p q : Int} {bs T : List Bd} (hc : chk p bs = 0) (hcT : chk q T = 0) (hcU : chk (p + q) (bs ++ shf p T) = 0) (hok : okB p bs = true) (hokT : okB q T = true) {x y : Int} (x0 : 0 ≤ x) (x1 : x < q) (y0 : 0 ≤ y) (y1 : y < q) :
    gD (p + q) (bs ++ shf p T) (p + x) (p + y) = gD q T x y := by
  have hp := (Sys.of_chk hc).p1
  have hokU := beside_ok hc hcT hcU hok hokT
  have u1 := gD_le hcT x0 x1 y0 y1
  have u2 := gD_le hcU (x := p + x) (y := p + y) (by omega) (by omega) (by omega) (by omega)
  have d1 : gD q T x y < FAR → gD (p + q) (bs ++ shf p T) (p + x) (p + y) < FAR ∧ gD (p + q) (bs ++ shf p T) (p + x) (p + y) ≤ gD q T x y := fun hf => by
    obtain ⟨n, _, hP, _⟩ := gfrom_path hcT hokT x0 x1 y0 y1 hf
    obtain ⟨w1, w2⟩ := Wk.right (bs := bs) (p := p) hP.wk
    rw [show x + p = p + x by omega, show y + p = p + y by omega] at w1
    have := gD_walk0 hcU hokU (by omega) (by omega) w1
    rw [w2, hP.sum] at this
    exact this
  have d2 : gD (p + q) (bs ++ shf p T) (p + x) (p + y) < FAR → gD q T x y < FAR ∧ gD q T x y ≤ gD (p + q) (bs ++ shf p T) (p + x) (p + y) := fun hf => by
    obtain ⟨n, _, hP, _⟩ := gfrom_path hcU hokU (a := p + x) (b := p + y) (by omega) (by omega) (by omega) (by omega) hf
    obtain ⟨L', w1, w2⟩ := Wk.right' (Pts.of_chk hc) (by omega) (fun b hb => (Pts.of_chk hcT b hb).2.2.1) hP.wk
    rw [show p + x - p = x by omega, show p + y - p = y by omega] at w1
    have := gD_walk0 hcT hokT x0 x1 w1
    rw [← w2, hP.sum] at this
    exact this
  omega
theorem beside_across {p q : Int} {bs T : List Bd} (hc : chk p bs = 0) (hcT : chk q T = 0) (hcU : chk (p + q) (bs ++ shf p T) = 0) (hok : okB p bs = true) (hokT : okB q T = true) {x y : Int} (x0 : 0 ≤ x) (x1 : x < p) (y0 : 0 ≤ y) (y1 : y < q) :
    gD (p + q) (bs ++ shf p T) x (p + y) = FAR := by
  have hp := (Sys.of_chk hc).p1
  have hokU := beside_ok hc hcT hcU hok hokT
  have u2 := gD_le hcU (x := x) (y := p + y) (by omega) (by omega) (by omega) (by omega)
  apply Classical.byContradiction
  intro hne
  obtain ⟨n, _, hP, _⟩ := gfrom_path hcU hokU (a := x) (b := p + y) (by omega) (by omega) (by omega) (by omega) (by omega)
  obtain ⟨_, _, h⟩ := Wk.left' (Pts.of_chk hc) (fun b hb => (Pts.of_chk hcT b hb).1) x1 hP.wk
  omega

/-- Two systems beside each other: what is asked in each is as it was; nothing across. -/
theorem beside_gr {p q : Int} {bs T : List Bd} {a b c : Int} (hE : askE p bs a b = 0) (hF : askE q T c 0 = 0) (hcU : chk (p + q) (bs ++ shf p T) = 0) :
    (askE (p + q) (bs ++ shf p T) a b = 0 ∧ grN (p + q) (bs ++ shf p T) a b = grN p bs a b ∧ grB (p + q) (bs ++ shf p T) a b = grB p bs a b) ∧
    (askE (p + q) (bs ++ shf p T) (p + c) p = 0 ∧ grN (p + q) (bs ++ shf p T) (p + c) p = grN q T c 0 ∧ grB (p + q) (bs ++ shf p T) (p + c) p = grB q T c 0) ∧
    (askE (p + q) (bs ++ shf p T) a (p + c) = 0 ∧ grB (p + q) (bs ++ shf p T) a (p + c) = false) := by
  obtain ⟨hc, hxy, hok⟩ := askE_zero hE
  obtain ⟨hcT, hc0, hokT⟩ := askE_zero hF
  obtain ⟨⟨a0, a1⟩, b0, b1⟩ := both_in hxy
  obtain ⟨⟨c0, c1⟩, z0, z1⟩ := both_in hc0
  have hokU := beside_ok hc hcT hcU hok hokT
  have e1 := askE_eq hcU (both_mk (p := p + q) (x := a) (y := b) a0 (by omega) b0 (by omega)) hokU
  have e2 := askE_eq hcU (both_mk (p := p + q) (x := p + c) (y := p) (by omega) (by omega) (by omega) (by omega)) hokU
  have e3 := askE_eq hcU (both_mk (p := p + q) (x := a) (y := p + c) (by omega) (by omega) (by omega) (by omega)) hokU
  have g1 := beside_left hc hcT hcU hok hokT a0 a1 b0 b1
  have g2 := beside_right hc hcT hcU hok hokT c0 c1 z0 z1
  rw [Int.add_zero] at g2
  have g3 := beside_across hc hcT hcU hok hokT a0 a1 c0 c1
  unfold grN grB
  rw [g1, g2, g3, e1, e2, e3, hE, hF]
  simp

/-- In a tied system the difference is fixed. -/
theorem tie_fixed {p : Int} {bs : List Bd} {a b n : Int} (hc : chk p (bs ++ [⟨a, b, n, 0⟩, ⟨b, a, -n, 0⟩]) = 0) (hab : both p a b = true) :
    (okB p (bs ++ [⟨a, b, n, 0⟩, ⟨b, a, -n, 0⟩]) = true → askE p (bs ++ [⟨a, b, n, 0⟩, ⟨b, a, -n, 0⟩]) a b = 0 ∧ fixN p (bs ++ [⟨a, b, n, 0⟩, ⟨b, a, -n, 0⟩]) a b = n ∧ fixB p (bs ++ [⟨a, b, n, 0⟩, ⟨b, a, -n, 0⟩]) a b = true) ∧
    (okB p (bs ++ [⟨a, b, n, 0⟩, ⟨b, a, -n, 0⟩]) = false → askE p (bs ++ [⟨a, b, n, 0⟩, ⟨b, a, -n, 0⟩]) a b = 10 ∧ fixB p (bs ++ [⟨a, b, n, 0⟩, ⟨b, a, -n, 0⟩]) a b = false) := by
  obtain ⟨⟨a0, a1⟩, b0, b1⟩ := both_in hab
  refine ⟨fun hok => ?_, fun hno => ?_⟩
  · have hE := askE_eq hc hab hok
    have hz := okB_keeps (Sys.of_chk hc) hok
    have hd := tied_diff hz
    have e1 : bdI (bs ++ [⟨a, b, n, 0⟩, ⟨b, a, -n, 0⟩]) (bs.length : Int) = ⟨a, b, n, 0⟩ := by
      unfold bdI; rw [Int.toNat_natCast, List.getD_eq_getElem?_getD, List.getElem?_append_right (Nat.le_refl _), Nat.sub_self]; rfl
    have e2 : bdI (bs ++ [⟨a, b, n, 0⟩, ⟨b, a, -n, 0⟩]) ((bs.length : Int) + 1) = ⟨b, a, -n, 0⟩ := by
      unfold bdI; rw [show ((bs.length : Int) + 1).toNat = bs.length + 1 by omega, List.getD_eq_getElem?_getD, List.getElem?_append_right (by omega), show bs.length + 1 - bs.length = 1 by omega]; rfl
    have g1 := gD_walk0 hc hok (a := a) (v := b) a0 a1 (L := [(bs.length : Int)]) ⟨⟨by omega, by simp <;> omega⟩, by rw [e1], by rw [e1]; exact rfl⟩
    have g2 := gD_walk0 hc hok (a := b) (v := a) b0 b1 (L := [(bs.length : Int) + 1]) ⟨⟨by omega, by simp <;> omega⟩, by rw [e2], by rw [e2]; exact rfl⟩
    simp only [wsum] at g1 g2
    rw [e1] at g1
    rw [e2] at g2
    have k1 := keeps_gD hc hok hz a0 a1 b0 b1 g1.1
    have k2 := keeps_gD hc hok hz b0 b1 a0 a1 g2.1
    simp only at g1 g2
    have eg : gD p (bs ++ [⟨a, b, n, 0⟩, ⟨b, a, -n, 0⟩]) a b = n := by omega
    have hf : fxB p (bs ++ [⟨a, b, n, 0⟩, ⟨b, a, -n, 0⟩]) a b = true := by
      rw [fxB_iff]
      exact ⟨by omega, by omega⟩
    refine ⟨hE, ?_, ?_⟩
    · unfold fixN; rw [if_pos ⟨hE, hf⟩, eg]
    · unfold fixB; simp [hE, hf]
  · have hE : askE p (bs ++ [⟨a, b, n, 0⟩, ⟨b, a, -n, 0⟩]) a b = 10 := by unfold askE; rw [if_pos hc, if_pos hab, hno]; rfl
    refine ⟨hE, ?_⟩
    unfold fixB; simp [hE]
end Go.Proofs.Ytlkcfohmoeadbaa

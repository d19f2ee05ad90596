/-
  Lemmas and walks for the laws on roads and boards: what each function of the program answers, for every input.
-/
import Derived.Test.YtodkbfbbpfghiaaGreatPc03
import Derived.Test.YtodkbfbbpfghiaaGreatPc02
import Derived.RangeFuncNested
import Derived.RangeFuncBound
import Derived.RangeFuncCalls
import Derived.RangeFuncLeaves
import Derived.OwnWalkIn
import Derived.TacticsInMore
import Derived.LoopNIn
import Derived.LoopIn
set_option linter.unusedSimpArgs false
set_option linter.unusedVariables false
set_option linter.unnecessarySimpa false
namespace Go.Proofs.YtodkbfbbpfghiaaGreat
theorem rgO_app : ∀ (u w : List Int) (m : Nat), rgO (u ++ w) m = (rgO u m).bind (rgO w)
  | [], w, m => rfl
  | x :: u, w, m => by
    simp only [List.cons_append, rgO]
    split
    · exact rgO_app u w _
    · rfl
theorem rgO_spec : ∀ {v : List Int} {m m' : Nat}, rgO v m = some m' → m ≤ m' ∧ (∀ x ∈ v, 0 ≤ x ∧ x < m') ∧ (m' = m ∨ ((m' : Int) - 1) ∈ v)
  | [], m, m', h => by simp [rgO] at h; subst h; simp
  | x :: v, m, m', h => by
    unfold rgO at h
    split at h
    · rename_i hx
      obtain ⟨h1, h2, h3⟩ := rgO_spec h
      by_cases e : x = m
      · rw [if_pos e] at h1 h3
        refine ⟨by omega, fun y hy => ?_, ?_⟩
        · rcases List.mem_cons.1 hy with rfl | hy
          · omega
          · exact h2 y hy
        · rcases h3 with h3 | h3
          · right; rw [h3, e]; simp
          · right; simp [h3]
      · rw [if_neg e] at h1 h3
        refine ⟨h1, fun y hy => ?_, ?_⟩
        · rcases List.mem_cons.1 hy with rfl | hy
          · omega
          · exact h2 y hy
        · rcases h3 with h3 | h3
          · exact .inl h3
          · right; simp [h3]
    · cases h
theorem rgO_ves {v : List Int} {m : Nat} (h : rgO v 0 = some m) : vesL v = m := by
  obtain ⟨h1, h2, h3⟩ := rgO_spec h
  refine vesL_of_full (by omega) (fun x hx => (h2 x hx).2) ?_
  rcases h3 with h3 | h3
  · left; omega
  · exact .inr h3
theorem asgM_some {s : List Pn} {v : List Int} {m : Nat} (h : asgM s v = some m) : v.length = s.length ∧ noClB s v = true ∧ rgO v 0 = some m := by
  unfold asgM at h
  split at h
  · rename_i hc; exact ⟨hc.1, hc.2, h⟩
  · cases h
theorem asgM_ok {s : List Pn} {v : List Int} {m : Nat} (h : asgM s v = some m) : AsgOk s m fun i => (v.getD i 0).toNat := by
  obtain ⟨h1, h2, h3⟩ := asgM_some h
  have hr := (rgO_spec h3).2.1
  have hrg : ∀ i, i < s.length → 0 ≤ v.getD i 0 ∧ v.getD i 0 < m := fun i hi => hr _ (mem_getD (by omega))
  refine ⟨fun i hi => by have := hrg i hi; omega, fun i j hi hj hc e => ?_⟩
  have a := hrg i hi
  have b := hrg j hj
  have e' : v.getD i 0 = v.getD j 0 := by omega
  have hne := clB_ne hc
  rcases (by omega : i < j ∨ j < i) with h | h
  · have := noClB_iff.1 h2 j i h (by omega) e'; rw [this] at hc; cases hc
  · have := noClB_iff.1 h2 i j h (by omega) e'.symm; rw [clB_comm, this] at hc; cases hc
/-- No reassembly has fewer vessels. -/
theorem asgM_ge {s : List Pn} (hs : OkS s) {v : List Int} {m : Nat} (h : asgM s v = some m) : leastN s ≤ m ∧ vesL v = m := ⟨least_le hs (asgM_ok h), rgO_ves (asgM_some h).2.2⟩

/-- What the reference accepts as a witness. -/
def witB (s : List Pn) : List Int → List Int → Bool
  | _, [] => true
  | pre, x :: l => decide (0 ≤ x) && decide (x < s.length) && pre.all (fun y => decide (y < x) && clB s y.toNat x.toNat) && witB s (pre ++ [x]) l
theorem witB_go {s : List Pn} : ∀ {l pre : List Int}, witB s pre l = true ↔ (∀ x ∈ l, 0 ≤ x ∧ x < s.length) ∧ (∀ y ∈ pre, ∀ x ∈ l, y < x ∧ clB s y.toNat x.toNat = true) ∧ l.Pairwise fun y x => y < x ∧ clB s y.toNat x.toNat = true
  | [], pre => by simp [witB]
  | x :: l, pre => by
    have ih := witB_go (s := s) (l := l) (pre := pre ++ [x])
    unfold witB
    simp only [Bool.and_eq_true, decide_eq_true_eq, List.all_eq_true]
    rw [ih, List.pairwise_cons]
    constructor
    · rintro ⟨⟨h1, h2⟩, h3, h4, h5⟩
      refine ⟨fun y hy => ?_, fun y hy z hz => ?_, fun z hz => h4 x (by simp) z hz, h5⟩
      · rcases List.mem_cons.1 hy with rfl | hy
        · exact h1
        · exact h3 y hy
      · rcases List.mem_cons.1 hz with rfl | hz
        · exact h2 y hy
        · exact h4 y (by simp [hy]) z hz
    · rintro ⟨h1, h2, h3, h4⟩
      refine ⟨⟨h1 x (by simp), fun y hy => h2 y hy x (by simp)⟩, fun y hy => h1 y (by simp [hy]), fun y hy z hz => ?_, h4⟩
      rcases List.mem_append.1 hy with hy | hy
      · exact h2 y hy z (by simp [hz])
      · simp at hy; subst hy; exact h3 z hz
theorem witB_iff {s : List Pn} {l : List Int} : witB s [] l = true ↔ (∀ x ∈ l, 0 ≤ x ∧ x < s.length) ∧ l.Pairwise fun y x => y < x ∧ clB s y.toNat x.toNat = true := by
  rw [witB_go]; simp
theorem witB_wit {s : List Pn} {l : List Int} (h : witB s [] l = true) : WitOk s (l.map Int.toNat) := by
  obtain ⟨h1, h2⟩ := witB_iff.1 h
  refine ⟨fun a ha => ?_, ?_⟩
  · obtain ⟨x, hx, rfl⟩ := List.mem_map.1 ha
    have := h1 x hx; omega
  · rw [List.pairwise_map]
    exact h2.imp fun h => h.2
/-- No witness has more parts. -/
theorem witB_le {s : List Pn} (hs : OkS s) {l : List Int} (h : witB s [] l = true) : l.length ≤ leastN s := by
  have := wit_le (witB_wit h) (fewL_ok hs)
  simpa using this
/-- Parts each two of which clash, in ascending order, are a witness. -/
theorem witB_of {s : List Pn} {W : List Nat} {l : List Int} (hW : WitOk s W) (hp : l.Perm (W.map fun (n : Nat) => (n : Int))) (hl : l.Pairwise (· ≤ ·)) : witB s [] l = true := by
  have hm : ∀ x ∈ l, ∃ n : Nat, n ∈ W ∧ x = n := fun x hx => by
    obtain ⟨n, hn, e⟩ := List.mem_map.1 (hp.mem_iff.1 hx)
    exact ⟨n, hn, e.symm⟩
  have hc : (W.map fun (n : Nat) => (n : Int)).Pairwise fun y x : Int => clB s y.toNat x.toNat = true := by
    rw [List.pairwise_map]
    exact hW.cl
  have hc' := (hp.pairwise_iff (fun {x y} h => by rw [clB_comm]; exact h)).2 hc
  refine witB_iff.2 ⟨fun x hx => ?_, ?_⟩
  · obtain ⟨n, hn, rfl⟩ := hm x hx
    have := hW.lt n hn; omega
  · refine (hl.and hc').imp_of_mem fun {a b} ha hb h => ⟨?_, h.2⟩
    obtain ⟨n, hn, rfl⟩ := hm a ha
    obtain ⟨k, hk, rfl⟩ := hm b hb
    have h1 := h.1
    have h2 := clB_ne h.2
    simp at h2
    omega

/-- What the reference accepts as a show: ranges one behind the other. -/
def shwB : List (Int × Int) → Bool
  | [] => true
  | r :: l => decide (0 ≤ r.1) && decide (r.1 ≤ r.2) && decide (r.2 ≤ 1000) && (match l with | [] => true | q :: _ => decide (r.2 < q.1)) && shwB l
theorem shwB_iff : ∀ {l : List (Int × Int)}, shwB l = true ↔ (∀ r ∈ l, 0 ≤ r.1 ∧ r.1 ≤ r.2 ∧ r.2 ≤ 1000) ∧ l.Pairwise fun a b => a.2 < b.1
  | [] => by simp [shwB]
  | [r] => by simp [shwB, and_assoc]
  | r :: q :: l => by
    have ih := shwB_iff (l := q :: l)
    unfold shwB
    simp only [Bool.and_eq_true, decide_eq_true_eq]
    rw [ih]
    constructor
    · rintro ⟨⟨⟨⟨a, b⟩, c⟩, d⟩, e, f⟩
      refine ⟨fun x hx => ?_, List.pairwise_cons.2 ⟨fun x hx => ?_, f⟩⟩
      · rcases List.mem_cons.1 hx with rfl | hx
        · exact ⟨a, b, c⟩
        · exact e x hx
      · rcases List.mem_cons.1 hx with rfl | hx
        · exact d
        · have := (List.pairwise_cons.1 f).1 x hx
          have := e q (by simp)
          omega
    · rintro ⟨e, df⟩
      obtain ⟨d, f⟩ := List.pairwise_cons.1 df
      have := e r (by simp)
      exact ⟨⟨⟨⟨this.1, this.2.1⟩, this.2.2⟩, d q (by simp)⟩, fun x hx => e x (by simp [hx]), f⟩
/-- A number put in at a place. -/
def putAt (v : List Int) (b : Nat) (x : Int) : List Int := v.take b ++ x :: v.drop b
theorem putAt_len {v : List Int} {b : Nat} (hb : b ≤ v.length) (x : Int) : (putAt v b x).length = v.length + 1 := by simp [putAt]; omega
theorem putAt_get {v : List Int} {b : Nat} (hb : b ≤ v.length) (x : Int) (i : Nat) : (putAt v b x).getD i 0 = if i = b then x else v.getD (dnI b i) 0 := by
  unfold putAt dnI
  have hl : (v.take b).length = b := by simp; omega
  simp only [List.getD_eq_getElem?_getD]
  rcases (by omega : i < b ∨ i = b ∨ b < i) with h | h | h
  · rw [List.getElem?_append_left (by omega), if_neg (by omega), if_pos h, List.getElem?_take, if_pos h]
  · subst h
    rw [List.getElem?_append_right (by omega), hl, if_pos rfl]; simp
  · rw [List.getElem?_append_right (by omega), hl, if_neg (by omega), if_neg (by omega)]
    rw [show i - b = (i - 1 - b) + 1 by omega, List.getElem?_cons_succ, List.getElem?_drop]
    rw [show b + (i - 1 - b) = i - 1 by omega]
theorem putAt_rg {v : List Int} {a b m : Nat} (hab : a < b) (hb : b ≤ v.length) (h : rgO v 0 = some m) : rgO (putAt v b (v.getD a 0)) 0 = some m := by
  have e : v = v.take b ++ v.drop b := (List.take_append_drop b v).symm
  rw [e, rgO_app] at h
  unfold putAt
  rw [rgO_app]
  cases h1 : rgO (v.take b) 0 with
  | none => rw [h1] at h; cases h
  | some k =>
    rw [h1] at h
    have hm : v.getD a 0 ∈ v.take b := by
      rw [List.getD_eq_getElem?_getD, List.getElem?_eq_getElem (show a < v.length by omega)]
      simp only [Option.getD_some]
      rw [List.mem_take_iff_getElem]
      exact ⟨a, by omega, rfl⟩
    have := (rgO_spec h1).2.1 _ hm
    simp only [Option.bind_some] at h ⊢
    unfold rgO
    rw [if_pos (by omega), if_neg (by omega)]
    exact h
theorem putAt_firsts {v : List Int} {a b : Nat} (hab : a < b) (hb : b ≤ v.length) : firstsL (putAt v b (v.getD a 0)) = firstsL v := by
  have hm : v.getD a 0 ∈ v.take b := by
    rw [List.getD_eq_getElem?_getD, List.getElem?_eq_getElem (show a < v.length by omega)]
    simp only [Option.getD_some]
    rw [List.mem_take_iff_getElem]
    exact ⟨a, by omega, rfl⟩
  have hc : (firstsL (v.take b)).contains (v.getD a 0) = true := by
    have := mem_firstsL.2 hm
    simpa using this
  have h2 : firstsL v = (v.drop b).foldl (fun a x => if a.contains x then a else a ++ [x]) (firstsL (v.take b)) := by
    conv => lhs; rw [← List.take_append_drop b v]
    unfold firstsL
    rw [List.foldl_append]
  rw [h2]
  unfold putAt
  show List.foldl _ [] _ = _
  rw [List.foldl_append, List.foldl_cons]
  change List.foldl _ (if (firstsL (v.take b)).contains _ then firstsL (v.take b) else _) _ = _
  rw [if_pos hc]
/-- A reassembly of the case with two parts as one is one with both in one vessel. -/
theorem putAt_cl {s : List Pn} {a b : Nat} {v : List Int} (hab : a < b) (hb : b < s.length) (hnc : clB s a b = false) (hl : v.length = s.length - 1) (h : ∀ i j, i < s.length - 1 → j < s.length - 1 → clB (merS s a b) i j = true → v.getD i 0 ≠ v.getD j 0) :
    ∀ i j, i < s.length → j < s.length → clB s i j = true → (putAt v b (v.getD a 0)).getD i 0 ≠ (putAt v b (v.getD a 0)).getD j 0 := by
  intro i j hi hj hc
  have hlt : ∀ i, i < s.length → (if i = b then a else dnI b i) < s.length - 1 := fun i hi => by
    unfold dnI
    split
    · omega
    · split <;> omega
  have hg : ∀ i, (putAt v b (v.getD a 0)).getD i 0 = v.getD (if i = b then a else dnI b i) 0 := fun i => by
    rw [putAt_get (by omega)]
    split <;> rfl
  rw [hg, hg]
  exact h _ _ (hlt i hi) (hlt j hj) (clB_mer hab hb hnc hi hj hc)
/-- A reassembly with two parts in one vessel. -/
def jointL (s : List Pn) (a b : Nat) : List Int := numL (putAt (fewL (merS s a b)) b ((fewL (merS s a b)).getD a 0))
theorem jointL_ok {s : List Pn} (hs : OkS s) {a b : Nat} (hab : a < b) (hb : b < s.length) (hnc : clB s a b = false) : asgM s (jointL s a b) = some (leastN (merS s a b)) ∧ (jointL s a b).getD a 0 = (jointL s a b).getD b 0 := by
  have hm := hs.merS hab hb hnc
  have hl : (fewL (merS s a b)).length = s.length - 1 := by rw [fewL_len, merS_len hb]
  have hpl := putAt_len (v := fewL (merS s a b)) (b := b) (by omega) ((fewL (merS s a b)).getD a 0)
  constructor
  · unfold jointL
    rw [numL_asg (by omega) (putAt_cl hab hb hnc hl (fun i j hi hj hc => fewL_cl hm i j (by rw [merS_len hb]; exact hi) (by rw [merS_len hb]; exact hj) hc)), putAt_firsts hab (by omega), firsts_few hm]
  · unfold jointL
    rw [numL_eq (by omega) (by omega), putAt_get (by omega), putAt_get (by omega), if_neg (by omega), if_pos rfl]
    unfold dnI
    rw [if_pos hab]
/-- The same, of whatever reassembly. -/
theorem putAt_asg {s : List Pn} {a b m : Nat} {v : List Int} (hab : a < b) (hb : b < s.length) (hnc : clB s a b = false) (h : asgM (merS s a b) v = some m) : asgM s (putAt v b (v.getD a 0)) = some m := by
  obtain ⟨h1, h2, h3⟩ := asgM_some h
  have hok := asgM_ok h
  rw [merS_len hb] at h1
  have hcl := putAt_cl (v := v) hab hb hnc h1 (fun i j hi hj hc e => hok.cl i j (by rw [merS_len hb]; exact hi) (by rw [merS_len hb]; exact hj) hc (by show (v.getD i 0).toNat = _; rw [e]))
  have hpl := putAt_len (v := v) (b := b) (by omega) (v.getD a 0)
  unfold asgM
  rw [if_pos, putAt_rg hab (by omega) h3]
  refine ⟨by omega, noClB_iff.2 fun i k hki hi e => ?_⟩
  rcases hc : clB s k i with _ | _
  · rfl
  · exact absurd e (hcl k i (by omega) (by omega) hc)

/-- What is common to parts, and whether they can be of one vessel. -/
def comL (s : List Pn) (l : List Nat) : Int × Int := l.foldl (fun r i => (max r.1 (s.getD i default).lo, min r.2 (s.getD i default).hi)) (0, 1000)
def oneB (s : List Pn) (l : List Nat) : Bool := (List.range l.length).all fun i => (List.range i).all fun k => !clB s (l.getD i 0) (l.getD k 0)
theorem oneB_iff {s : List Pn} {l : List Nat} : oneB s l = true ↔ ∀ i k, k < i → i < l.length → clB s (l.getD i 0) (l.getD k 0) = false := by
  unfold oneB
  simp only [List.all_eq_true, List.mem_range, Bool.not_eq_true']
  exact ⟨fun h i k hk hi => h i hi k hk, fun h i hi k hk => h i k hk hi⟩
theorem comL_go (s : List Pn) : ∀ (l : List Nat) (r : Int × Int) (x : Int), ((l.foldl (fun r i => (max r.1 (s.getD i default).lo, min r.2 (s.getD i default).hi)) r).1 ≤ x ↔ r.1 ≤ x ∧ ∀ i ∈ l, (s.getD i default).lo ≤ x) ∧
    (x ≤ (l.foldl (fun r i => (max r.1 (s.getD i default).lo, min r.2 (s.getD i default).hi)) r).2 ↔ x ≤ r.2 ∧ ∀ i ∈ l, x ≤ (s.getD i default).hi)
  | [], r, x => by simp
  | i :: l, r, x => by
    have ih := comL_go s l (max r.1 (s.getD i default).lo, min r.2 (s.getD i default).hi) x
    simp only [List.foldl_cons]
    rw [ih.1, ih.2]
    simp only [List.mem_cons, forall_eq_or_imp]
    constructor
    · constructor
      · rintro ⟨h1, h2⟩; exact ⟨by omega, by omega, h2⟩
      · rintro ⟨h1, h2, h3⟩; exact ⟨by omega, h3⟩
    · constructor
      · rintro ⟨h1, h2⟩; exact ⟨by omega, by omega, h2⟩
      · rintro ⟨h1, h2, h3⟩; exact ⟨by omega, h3⟩
theorem comL_le {s : List Pn} {l : List Nat} {x : Int} : (comL s l).1 ≤ x ↔ 0 ≤ x ∧ ∀ i ∈ l, (s.getD i default).lo ≤ x := (comL_go s l (0, 1000) x).1
theorem le_comL {s : List Pn} {l : List Nat} {x : Int} : x ≤ (comL s l).2 ↔ x ≤ 1000 ∧ ∀ i ∈ l, x ≤ (s.getD i default).hi := (comL_go s l (0, 1000) x).2
theorem comL_some {s : List Pn} {l : List Nat} : (comL s l).1 ≤ (comL s l).2 ↔ ∃ x : Int, 0 ≤ x ∧ x ≤ 1000 ∧ ∀ i ∈ l, (s.getD i default).lo ≤ x ∧ x ≤ (s.getD i default).hi := by
  constructor
  · intro h
    refine ⟨(comL s l).1, ?_⟩
    have h1 := comL_le.1 (Int.le_refl (comL s l).1)
    have h2 := le_comL.1 h
    exact ⟨h1.1, h2.1, fun i hi => ⟨h1.2 i hi, h2.2 i hi⟩⟩
  · rintro ⟨x, h1, h2, h3⟩
    exact Int.le_trans (comL_le.2 ⟨h1, fun i hi => (h3 i hi).1⟩) (le_comL.2 ⟨h2, fun i hi => (h3 i hi).2⟩)
/-- How many different parts with a foot there are. -/
def feetL (s : List Pn) (l : List Nat) : Nat := ((List.range l.length).filter fun i => (List.range i).all (fun k => l.getD k 0 != l.getD i 0) && (s.getD (l.getD i 0) default).ft).length
theorem mem_getDN {l : List Nat} {i : Nat} (h : i < l.length) : l.getD i 0 ∈ l := by rw [List.getD_eq_getElem?_getD, List.getElem?_eq_getElem h]; exact List.getElem_mem _
theorem first_of {l : List Nat} : ∀ (i : Nat), i < l.length → ∃ j, j ≤ i ∧ l.getD j 0 = l.getD i 0 ∧ ∀ k, k < j → l.getD k 0 ≠ l.getD j 0 := by
  intro i
  induction i using Nat.strongRecOn with
  | _ i ih =>
    intro hi
    by_cases h : ∃ k, k < i ∧ l.getD k 0 = l.getD i 0
    · obtain ⟨k, hk, e⟩ := h
      obtain ⟨j, h1, h2, h3⟩ := ih k hk (by omega)
      exact ⟨j, by omega, h2.trans e, h3⟩
    · exact ⟨i, Nat.le_refl _, rfl, fun k hk e => h ⟨k, hk, e⟩⟩
theorem nodup_two {l : List Nat} (hn : l.Nodup) {a b : Nat} (ha : a ∈ l) (hb : b ∈ l) (hab : a ≠ b) : 2 ≤ l.length := by
  match l, ha, hb with
  | [x], ha, hb => simp at ha hb; omega
  | _ :: _ :: _, _, _ => simp
/-- Parts can be of one vessel exactly if a colour is common to them, and at most one has a foot. -/
theorem oneB_law {s : List Pn} (hs : OkS s) {l : List Nat} (hl : ∀ i ∈ l, i < s.length) : oneB s l = (decide ((comL s l).1 ≤ (comL s l).2) && decide (feetL s l ≤ 1)) := by
  rw [Bool.eq_iff_iff, Bool.and_eq_true, decide_eq_true_eq, decide_eq_true_eq, oneB_iff]
  have hokl : ∀ i ∈ l, 0 ≤ (s.getD i default).lo ∧ (s.getD i default).lo ≤ (s.getD i default).hi ∧ (s.getD i default).hi ≤ 1000 := fun i hi => hs _ (Pn.mem (hl i hi))
  have hmemF : ∀ i, i ∈ ((List.range l.length).filter fun i => (List.range i).all (fun k => l.getD k 0 != l.getD i 0) && (s.getD (l.getD i 0) default).ft) ↔ i < l.length ∧ (∀ k, k < i → l.getD k 0 ≠ l.getD i 0) ∧ (s.getD (l.getD i 0) default).ft = true := fun i => by
    rw [List.mem_filter, List.mem_range, Bool.and_eq_true, List.all_eq_true]
    simp only [List.mem_range, bne_iff_ne, ne_eq]
  constructor
  · intro h
    have hsym : ∀ i k, i < l.length → k < l.length → i ≠ k → clB s (l.getD i 0) (l.getD k 0) = false := fun i k hi hk hne => by
      rcases (by omega : k < i ∨ i < k) with h' | h'
      · exact h i k h' hi
      · rw [clB_comm]; exact h k i h' hk
    refine ⟨?_, ?_⟩
    · refine Int.le_trans (comL_le (x := (comL s l).2).2 ⟨?_, fun i hi => ?_⟩) (Int.le_refl _)
      · exact le_comL.2 ⟨by omega, fun i hi => by have := hokl i hi; omega⟩
      · refine le_comL.2 ⟨by have := hokl i hi; omega, fun j hj => ?_⟩
        obtain ⟨p, hp, e1⟩ := List.getElem_of_mem hi
        obtain ⟨q, hq, e2⟩ := List.getElem_of_mem hj
        have g1 : l.getD p 0 = i := by rw [List.getD_eq_getElem?_getD, List.getElem?_eq_getElem hp]; exact e1
        have g2 : l.getD q 0 = j := by rw [List.getD_eq_getElem?_getD, List.getElem?_eq_getElem hq]; exact e2
        by_cases hij : i = j
        · subst hij; exact (hokl i hi).2.1
        · have := hsym p q hp hq (fun e => hij (by rw [← g1, ← g2, e]))
          rw [g1, g2] at this
          have := clB_no hij this
          omega
    · unfold feetL
      rcases Nat.lt_or_ge 1 ((List.range l.length).filter fun i => (List.range i).all (fun k => l.getD k 0 != l.getD i 0) && (s.getD (l.getD i 0) default).ft).length with h2 | h2
      · exfalso
        have hnd : ((List.range l.length).filter fun i => (List.range i).all (fun k => l.getD k 0 != l.getD i 0) && (s.getD (l.getD i 0) default).ft).Nodup := List.nodup_range.filter _
        generalize hF : ((List.range l.length).filter fun i => (List.range i).all (fun k => l.getD k 0 != l.getD i 0) && (s.getD (l.getD i 0) default).ft) = F at *
        match F, h2 with
        | x :: y :: F, _ =>
          have hx := (hmemF x).1 (by simp)
          have hy := (hmemF y).1 (by simp)
          have hxy : x ≠ y := fun e => by subst e; simp at hnd
          have hne : l.getD x 0 ≠ l.getD y 0 := by
            rcases (by omega : x < y ∨ y < x) with h' | h'
            · exact hy.2.1 x h'
            · exact fun e => hx.2.1 y h' e.symm
          have := hsym x y hx.1 hy.1 hxy
          rw [clB_feet hne hx.2.2 hy.2.2] at this
          cases this
      · exact h2
  · rintro ⟨h1, h2⟩ i k hki hi
    obtain ⟨x, _, _, hx⟩ := comL_some.1 h1
    refine clB_false x (hx _ (mem_getDN hi)) (hx _ (mem_getDN (show k < l.length by omega))) ?_
    by_cases e : l.getD i 0 = l.getD k 0
    · exact .inl e
    · right
      rintro ⟨f1, f2⟩
      obtain ⟨p, p1, p2, p3⟩ := first_of i hi
      obtain ⟨q, q1, q2, q3⟩ := first_of k (show k < l.length by omega)
      have hpm := (hmemF p).2 ⟨by omega, p3, by rw [p2]; exact f1⟩
      have hqm := (hmemF q).2 ⟨by omega, q3, by rw [q2]; exact f2⟩
      have := nodup_two (List.nodup_range.filter _) hpm hqm (fun h => e (by rw [← p2, ← q2, h]))
      unfold feetL at h2
      omega
open Go
def bellS : List Pn := [⟨10, 20, true⟩, ⟨15, 30, false⟩, ⟨25, 40, true⟩, ⟨12, 14, false⟩]
def moreS : List Pn := [⟨10, 20, true⟩, ⟨15, 30, false⟩, ⟨25, 40, true⟩, ⟨12, 14, false⟩, ⟨12, 13, true⟩]
theorem bell_ok : OkS bellS := by unfold OkS bellS; decide
theorem more_ok : OkS moreS := by unfold OkS moreS; decide
/-- The least number, by a reassembly and a witness. -/
theorem least_by {s : List Pn} (hs : OkS s) (v l : List Int) {m : Nat} (h1 : asgM s v = some m) (h2 : witB s [] l = true) (h3 : l.length = m) : leastN s = m :=
  Nat.le_antisymm (asgM_ge hs h1).1 (h3 ▸ witB_le hs h2)
theorem bell_least : leastN bellS = 2 := least_by bell_ok [0, 1, 1, 0] [0, 2] (by decide) (by decide) rfl
theorem more_least : leastN moreS = 3 := least_by more_ok [0, 0, 1, 2, 2] [0, 2, 4] (by decide) (by decide) rfl
theorem more_e0 : leastN (moreS.eraseIdx 0) = 2 := least_by (more_ok.erase 0) [0, 0, 1, 1] [0, 2] (by decide) (by decide) rfl
theorem more_e1 : leastN (moreS.eraseIdx 1) = 3 := least_by (more_ok.erase 1) [0, 1, 2, 2] [0, 1, 3] (by decide) (by decide) rfl
theorem more_e2 : leastN (moreS.eraseIdx 2) = 2 := least_by (more_ok.erase 2) [0, 0, 1, 1] [1, 2] (by decide) (by decide) rfl
theorem more_e3 : leastN (moreS.eraseIdx 3) = 3 := least_by (more_ok.erase 3) [0, 0, 1, 2] [0, 2, 3] (by decide) (by decide) rfl
theorem more_e4 : leastN (moreS.eraseIdx 4) = 2 := least_by (more_ok.erase 4) [0, 1, 1, 0] [0, 2] (by decide) (by decide) rfl
theorem bell_dem : dem moreS 10 40 = 3 := by decide
theorem bell_m01 : merS bellS 0 1 = [⟨15, 20, true⟩, ⟨25, 40, true⟩, ⟨12, 14, false⟩] := by decide
theorem bell_m03 : merS bellS 0 3 = [⟨12, 14, true⟩, ⟨15, 30, false⟩, ⟨25, 40, true⟩] := by decide
theorem bell_l01 : leastN (merS bellS 0 1) = 3 := by
  rw [bell_m01]
  exact least_by (by unfold OkS; decide) [0, 1, 2] [0, 1, 2] (by decide) (by decide) rfl
theorem bell_l03 : leastN (merS bellS 0 3) = 2 := by
  rw [bell_m03]
  exact least_by (by unfold OkS; decide) [0, 1, 1] [0, 2] (by decide) (by decide) rfl
set_option maxRecDepth 10000 in
theorem bell_joint : jointL bellS 0 3 = [0, 1, 1, 0] := by decide +kernel
end Go.Proofs.YtodkbfbbpfghiaaGreat
namespace Go.Proofs.YtodkbfbbpfghiaaGreat
open Go.RowKit
/-- How a round is left. -/
def roundEnd {σ : Type} (B : Nat) (I : σ → World → Prop) (Ix : Code → σ → World → Prop) (s : σ) (W : World) : Exit → Act → World → Prop
  | .normal, _, W' => KeepsFrom B W W' ∧ I s W'
  | .ret, _, W' => KeepsFrom B W W' ∧ Ix .ret s W'
  | .exit id, _, W' => KeepsFrom B W W' ∧ Ix (.exit id) s W'
  | .goto t, _, W' => KeepsFrom B W W' ∧ Ix (.goto t) s W'
  | .panic _, _, _ => False
  | .outgrown, _, _ => False
theorem range_state {P : Program} {σ α : Type} {g : Operand} {ps : Array Tmp} {assign body : Code} {Q : Exit → Act → World → Prop} {a : Act} {w : World}
    {gf : Nat} {lb : Array Value} (hg : a.eval g = .func (.func gf) #[] lb) (eg : ∀ args w, (callFunc gf args).run P w = .ok (.enter gf args) w)
    {encs : α → Array Value} (hps : ∀ x, (encs x).size = ps.size)
    (I : σ → World → Prop) (Ix : Code → σ → World → Prop) (hI : OwnFrom w.heap.size I) (hIx : ∀ c, OwnFrom w.heap.size (Ix c)) (s0 : σ) (h0 : I s0 w)
    (ok : σ → α → Prop) (upd : σ → α → σ) (Ax : σ → α → Act → World → Prop) (hAx : ∀ s x a', OwnFrom w.heap.size (fun (_ : Unit) W => Ax s x a' W))
    (fin finx : σ → Prop)
    (hiter : ∀ (l : Nat) (J Jx : σ → World → Prop) (W : World), Below w.heap.size w W → AbidesFrom W.heap.size J → AbidesFrom W.heap.size Jx → (∀ s W, J s W → I s W) → (∀ s W, Jx s W → ∃ c, Ix c s W) →
      (∀ s x W1, J s W1 → ok s x → YieldAt Fence.wide 0 P l (encs x) W1 fun e W' => (e = .returned (.bool true) ∧ J (upd s x) W') ∨ (e = .returned (.bool false) ∧ Jx (upd s x) W')) →
      J s0 W → CallsIn Fence.wide 0 P gf (#[.func (.yield l) #[] #[]] ++ lb) W fun e W' => (∃ v, e = .returned v) ∧ ((∃ s, fin s ∧ J s W') ∨ (∃ s, finx s ∧ Jx s W')))
    (hassign : ∀ (l : Nat) (s : σ) (x : α) (W : World) (K : Act → World → Prop), I s W → ok s x → (∀ a' W', KeepsFrom w.heap.size W W' → I s W' → Ax s x a' W' → K a' W') →
      assign.wpIn (Fence.wide.inRound l) 0 P (Exit.then K (fun _ _ _ => False)) { tmps := (ps.zip (encs x)).foldl (fun t (p, v) => t.setIfInBounds p v) a.tmps, defers := [] } W)
    (hbody : ∀ (l : Nat) (s : σ) (x : α) (a' : Act) (W : World), w.heap.size ≤ l → I s W → ok s x → Ax s x a' W → body.wpIn (Fence.wide.inRound l) 0 P (roundEnd w.heap.size I Ix (upd s x) W) a' W)
    (hdone : ∀ (D : Nat) (s : σ) (W : World), w.heap.size ≤ D → fin s → I s W → W.heap[D]? = some (.deferred (some [])) → Q .normal { a with defers := { target := .collected D, args := #[] } :: a.defers } W)
    (hstop : ∀ (D : Nat) (c : Code) (s : σ) (W : World), w.heap.size ≤ D → finx s → Ix c s W → W.heap[D]? = some (.deferred (some [])) → c.wp P Q { a with defers := { target := .collected D, args := #[] } :: a.defers } W) :
    (Code.rangeFunc g ps assign body).wp P Q a w := by
  refine (wpIn_wide (n := 0)).1 (wpIn_rangeFunc fun fn hfn => ?_)
  obtain ⟨rec, hrec⟩ : ∃ rec : LoopState → Option Code → Loop, rec = fun st pe => { state := st, pending := pe, fn, tmps := a.tmps, params := ps, assign, body, defers := w.heap.size } := ⟨_, rfl⟩
  obtain ⟨W1, hW1⟩ : ∃ W1, (w.alloc (.deferred (some []))).alloc (.loop (rec .ready none)) = W1 := ⟨_, rfl⟩
  have hL1 : W1.heap[w.heap.size + 1]? = some (.loop (rec .ready none)) := by
    rw [← hW1]; have := World.alloc_heap_new (w.alloc (.deferred (some []))) (.loop (rec .ready none)); rwa [World.size_alloc] at this
  have hK1 : W1.heap[w.heap.size]? = some (.deferred (some [])) := by
    rw [← hW1]; exact (Below.heap_alloc _ _ _ (by simp)).trans (World.alloc_heap_new w _)
  have hI1 : I s0 W1 := by rw [← hW1]; exact hI.alloc _ (hI.alloc _ h0)
  have hb1 : Below w.heap.size w W1 := by
    rw [← hW1]; exact ((Below.refl _ w).alloc (Nat.le_refl _) _).alloc (by simp) _
  have hz1 : w.heap.size + 2 ≤ W1.heap.size := by rw [← hW1]; simp
  -- the two blocks of book-keeping, beside an invariant
  let J : σ → World → Prop := fun s W => I s W ∧ W.heap[w.heap.size + 1]? = some (.loop (rec .ready none)) ∧ W.heap[w.heap.size]? = some (.deferred (some []))
  let Jx : σ → World → Prop := fun s W => ∃ c, Ix c s W ∧ W.heap[w.heap.size + 1]? = some (.loop (rec .done (some c))) ∧ W.heap[w.heap.size]? = some (.deferred (some []))
  have far : ∀ {A B : World} {row : Option Nat} {k : Nat}, A.grownBy B row → (∀ r, row = some r → W1.heap.size ≤ r ∧ ∃ o : Obj, A.heap[r]? = some o ∧ o.isWalk = true) → k < W1.heap.size → k < A.heap.size → B.heap[k]? = A.heap[k]? :=
    fun hg hr hk hk' => hg.block _ hk' (fun e => by have := (hr _ e.symm).1; omega)
  have low : ∀ {A : World} {k : Nat} {o : Obj}, A.heap[k]? = some o → k < A.heap.size := fun h => (Array.getElem?_eq_some_iff.1 h).1
  have nocells : ∀ {A B : World} {row : Option Nat}, (∀ r, row = some r → W1.heap.size ≤ r ∧ ∃ o : Obj, A.heap[r]? = some o ∧ o.isWalk = true) → (∀ r, row = some r → w.heap.size ≤ r ∧ ∃ o : Obj, A.heap[r]? = some o ∧ o.isCells = false) :=
    fun hr r e => by obtain ⟨h1, o, ho, hw⟩ := hr r e; exact ⟨by omega, o, ho, Obj.not_cells_of_walk hw⟩
  have hJ : AbidesFrom W1.heap.size J := fun s A B row hs hg' hr =>
    ⟨hI s A B row hs.1 hg' (nocells (B := B) hr), (far hg' hr (by omega) (low hs.2.1)).trans hs.2.1, (far hg' hr (by omega) (low hs.2.2)).trans hs.2.2⟩
  have hJx : AbidesFrom W1.heap.size Jx := fun s A B row hs hg' hr => by
    obtain ⟨c, hc, hl, hk⟩ := hs
    exact ⟨c, hIx c s A B row hc hg' (nocells (B := B) hr), (far hg' hr (by omega) (low hl)).trans hl, (far hg' hr (by omega) (low hk)).trans hk⟩
  refine ⟨w.heap.size + 1, [{ target := .collected w.heap.size, args := #[] }], W1, { target := .fn (.func gf) lb, args := #[.func (.yield (w.heap.size + 1)) #[] #[]] }, W1, gf,
    #[.func (.yield (w.heap.size + 1)) #[] #[]] ++ lb, W1, ?_, ?_, fun _ _ => trivial, ?_, fun h => by simp [Fence.wide] at h, ?_⟩
  · rw [← hW1, hrec]; exact run_enterLoop_outer _ _ _ _ _
  · simp only [resolve, hg]
    simp [go_sem]
  · simp [invoke, go_sem, eg]
  refine (hiter (w.heap.size + 1) J Jx W1 hb1 hJ hJx (fun _ _ h => h.1) (fun _ _ h => let ⟨c, hc, _⟩ := h; ⟨c, hc⟩) ?_ ⟨hI1, hL1, hK1⟩).mono ?_
  · -- a round
    rintro s x W ⟨hi, hl, hk⟩ hok
    have hy := run_yield (P := P) (args := encs x) hl (by rw [hrec]; exact hps x)
    rw [hrec] at hy
    refine ⟨fn, _, assign, body, hy, roundIn_of_wpIn hfn (hassign _ s x W _ hi hok fun a' Wa hka hia hax => ?_)⟩
    have hla := hka.same _ _ (by omega) hl rfl
    have hda := hka.same _ _ (Nat.le_refl _) hk rfl
    refine ⟨_, run_beginRound hla (by rw [hrec]), ?_⟩
    obtain ⟨Wb, hWb⟩ : ∃ Wb, Wa.putObj (w.heap.size + 1) (.loop { rec .ready none with state := .busy }) = Wb := ⟨_, rfl⟩
    rw [hWb]
    have hlb : Wb.heap[w.heap.size + 1]? = some (.loop { rec .ready none with state := .busy }) := by rw [← hWb]; exact World.putObj_heap_same (low hla)
    have hdb : Wb.heap[w.heap.size]? = some (.deferred (some [])) := by rw [← hWb]; exact (World.putObj_heap_other (by omega)).trans hda
    have hib : I s Wb := by rw [← hWb]; exact hI.putObj _ hia (by omega) hla rfl
    have hab : Ax s x a' Wb := by rw [← hWb]; exact (hAx s x a').putObj (s := ()) _ hax (by omega) hla rfl
    refine wpIn_mono (hbody _ s x a' Wb (by omega) hib hok hab) ?_
    have out : ∀ (jump : Option Code) (W3 : World), KeepsFrom w.heap.size Wb W3 →
        (Instr.endRound (w.heap.size + 1) jump).run P W3 = .ok (.bool jump.isNone) (W3.putObj (w.heap.size + 1) (.loop (rec (if jump.isNone then .ready else .done) jump))) ∧
        W3.heap[w.heap.size + 1]? = some (.loop { rec .ready none with state := .busy }) ∧
        (W3.putObj (w.heap.size + 1) (.loop (rec (if jump.isNone then .ready else .done) jump))).heap[w.heap.size + 1]? = some (.loop (rec (if jump.isNone then .ready else .done) jump)) ∧
        (W3.putObj (w.heap.size + 1) (.loop (rec (if jump.isNone then .ready else .done) jump))).heap[w.heap.size]? = some (.deferred (some [])) := fun jump W3 hk3 => by
      have hl3 := hk3.same _ _ (by omega) hlb rfl
      have hr3 := run_endRound (P := P) jump hl3
      refine ⟨by rw [hrec] at hr3 ⊢; exact hr3, hl3, World.putObj_heap_same (low hl3), (World.putObj_heap_other (by omega)).trans (hk3.same _ _ (Nat.le_refl _) hdb rfl)⟩
    have jump : ∀ (c : Code) (W3 : World), KeepsFrom w.heap.size Wb W3 → Ix c (upd s x) W3 → ∃ v w', (Instr.endRound (w.heap.size + 1) (some c)).run P W3 = .ok v w' ∧ (Ending.returned v = .returned (.bool true) ∧ J (upd s x) w' ∨ Ending.returned v = .returned (.bool false) ∧ Jx (upd s x) w') := fun c W3 hk3 hi3 => by
      obtain ⟨hr, hl3, hl4, hk4⟩ := out (some c) W3 hk3
      exact ⟨_, _, hr, .inr ⟨rfl, c, (hIx _).putObj _ hi3 (by omega) hl3 rfl, hl4, hk4⟩⟩
    rintro e a3 W3 hp
    cases e with
    | normal =>
      obtain ⟨hr, hl3, hl4, hk4⟩ := out none W3 hp.1
      exact ⟨_, _, hr, .inl ⟨rfl, hI.putObj _ hp.2 (by omega) hl3 rfl, hl4, hk4⟩⟩
    | ret => exact jump _ _ hp.1 hp.2
    | exit id => exact jump _ _ hp.1 hp.2
    | goto t => exact jump _ _ hp.1 hp.2
    | panic ch => exact hp.elim
    | outgrown => exact hp.elim
  · rintro e W2 ⟨⟨v, rfl⟩, (⟨s, hS, hi, hl, hk⟩ | ⟨s, hS, c, hi, hl, hk⟩)⟩
    · exact ⟨none, _, by have := run_endLoop (P := P) hl (by rw [hrec]; simp); rw [hrec] at this; exact this, hdone _ s _ (Nat.le_refl _) hS (hI.putObj _ hi (by omega) hl rfl) ((World.putObj_heap_other (by omega)).trans hk)⟩
    · exact ⟨some c, _, by have := run_endLoop (P := P) hl (by rw [hrec]; simp); rw [hrec] at this; exact this, wpIn_wide.2 (hstop _ c s _ (Nat.le_refl _) hS ((hIx c).putObj _ hi (by omega) hl rfl) ((World.putObj_heap_other (by omega)).trans hk))⟩
end Go.Proofs.YtodkbfbbpfghiaaGreat

/-
  Lemmas and walks for the laws on roads and boards: what each function of the program answers, for every input.
-/
import Derived.Test.YtodkbfbbpfghiaaGreatPa02
import Derived.RangeFuncNested
import Derived.RangeFuncBound
import Derived.RangeFuncCalls
import Derived.RangeFuncLeaves
import Derived.OwnWalkIn
import Derived.TacticsInMore
import Derived.LoopNIn
import Derived.LoopIn
set_option linter.unusedSimpArgs false
set_option linter.unusedVariables false
set_option linter.unnecessarySimpa false
namespace Go.Proofs.YtodkbfbbpfghiaaGreat
def candB (s : List Pn) (out : List Int) (x : Int) (p : Nat) : Bool := (s.getD p default).ft && decide (out.getD p 0 < 0) && decide ((s.getD p default).lo ≤ x) && decide (x ≤ (s.getD p default).hi)
/-- The one that is taken, of the first n parts; -1: none. -/
def pickN (s : List Pn) (out : List Int) (x : Int) : Nat → Int
  | 0 => -1
  | n + 1 => if candB s out x n && (decide (pickN s out x n < 0) || decide ((s.getD n default).hi < (s.getD (pickN s out x n).toNat default).hi)) then (n : Int) else pickN s out x n
def updS (s : List Pn) (out : List Int) (x : Int) (v : Nat) : List Int := if 0 ≤ pickN s out x s.length then out.set (pickN s out x s.length).toNat v else out
def edfN (s : List Pn) (pts : List Int) : Nat → List Int
  | 0 => List.replicate s.length (-1)
  | v + 1 => updS s (edfN s pts v) (pts.getD v 0) v
/-- The vessels, numbered by the points. -/
def fewL (s : List Pn) : List Int := (List.range s.length).map fun p => if (s.getD p default).ft then (edfN s (ptsL s) (ptsL s).length).getD p 0 else (before (ptsL s) (s.getD p default).lo : Int)
theorem candB_iff {s : List Pn} {out : List Int} {x : Int} {p : Nat} : candB s out x p = true ↔ (s.getD p default).ft = true ∧ out.getD p 0 < 0 ∧ (s.getD p default).lo ≤ x ∧ x ≤ (s.getD p default).hi := by
  simp only [candB, Bool.and_eq_true, decide_eq_true_eq, and_assoc]
theorem pickN_spec (s : List Pn) (out : List Int) (x : Int) : ∀ n, (pickN s out x n = -1 ∧ ∀ p, p < n → candB s out x p = false) ∨
    (∃ p : Nat, pickN s out x n = p ∧ p < n ∧ candB s out x p = true ∧ ∀ q, q < n → candB s out x q = true → (s.getD p default).hi ≤ (s.getD q default).hi)
  | 0 => .inl ⟨rfl, fun p hp => absurd hp (by omega)⟩
  | n + 1 => by
    unfold pickN
    rcases pickN_spec s out x n with ⟨h1, h2⟩ | ⟨p, h1, h2, h3, h4⟩
    · rw [h1]
      by_cases hc : candB s out x n = true
      · right
        refine ⟨n, by rw [hc]; simp, by omega, hc, fun q hq hqc => ?_⟩
        rcases Nat.lt_or_ge q n with h | h
        · rw [h2 q h] at hqc; cases hqc
        · obtain rfl : q = n := by omega
          omega
      · left
        simp only [Bool.not_eq_true] at hc
        refine ⟨by rw [hc]; simp, fun q hq => ?_⟩
        rcases Nat.lt_or_ge q n with h | h
        · exact h2 q h
        · obtain rfl : q = n := by omega
          exact hc
    · rw [h1]
      right
      by_cases hc : candB s out x n = true ∧ (s.getD n default).hi < (s.getD p default).hi
      · refine ⟨n, by rw [hc.1, Int.toNat_natCast, decide_eq_true hc.2]; simp, by omega, hc.1, fun q hq hqc => ?_⟩
        rcases Nat.lt_or_ge q n with h | h
        · have := h4 q h hqc; omega
        · obtain rfl : q = n := by omega
          omega
      · refine ⟨p, ?_, by omega, h3, fun q hq hqc => ?_⟩
        · rw [if_neg]
          simp only [Int.toNat_natCast, Bool.and_eq_true, Bool.or_eq_true, decide_eq_true_eq]
          rintro ⟨a, b | b⟩
          · omega
          · exact hc ⟨a, b⟩
        · rcases Nat.lt_or_ge q n with h | h
          · exact h4 q h hqc
          · obtain rfl : q = n := by omega
            by_cases hlt : (s.getD q default).hi < (s.getD p default).hi
            · exact absurd ⟨hqc, hlt⟩ hc
            · omega
theorem updS_len (s : List Pn) (out : List Int) (x : Int) (v : Nat) : (updS s out x v).length = out.length := by unfold updS; split <;> simp
theorem edfN_len (s : List Pn) (pts : List Int) : ∀ v, (edfN s pts v).length = s.length
  | 0 => by simp [edfN]
  | v + 1 => by rw [edfN, updS_len, edfN_len s pts v]
theorem getD_set {l : List Int} {i j : Nat} {y : Int} (hi : i < l.length) : (l.set i y).getD j 0 = if j = i then y else l.getD j 0 := by
  simp only [List.getD_eq_getElem?_getD, List.getElem?_set]
  by_cases h : i = j
  · subst h; simp [hi]
  · rw [if_neg h, if_neg (fun e => h e.symm)]
/-- One step: what is taken gets the number, what is not stays. -/
theorem edfN_step (s : List Pn) (pts : List Int) (v p : Nat) : (edfN s pts (v + 1)).getD p 0 = if pickN s (edfN s pts v) (pts.getD v 0) s.length = p then (v : Int) else (edfN s pts v).getD p 0 := by
  rw [edfN]
  unfold updS
  have hl := edfN_len s pts v
  rcases pickN_spec s (edfN s pts v) (pts.getD v 0) s.length with ⟨h1, _⟩ | ⟨q, h1, h2, _, _⟩
  · rw [h1, if_neg (by omega), if_neg (by omega)]
  · rw [h1, if_pos (by omega), Int.toNat_natCast, getD_set (by omega)]
    by_cases e : p = q
    · subst e; simp
    · rw [if_neg e, if_neg (by omega)]
theorem edfN_start (s : List Pn) (pts : List Int) {p : Nat} (hp : p < s.length) : (edfN s pts 0).getD p 0 = -1 := by
  simp [edfN, List.getD_eq_getElem?_getD, List.getElem?_replicate, hp]
theorem edfN_inv (s : List Pn) (pts : List Int) : ∀ v p, p < s.length → ((edfN s pts v).getD p 0 = -1 ∨ ∃ u : Nat, u < v ∧ (edfN s pts v).getD p 0 = u ∧ pickN s (edfN s pts u) (pts.getD u 0) s.length = p)
  | 0, p, hp => .inl (edfN_start s pts hp)
  | v + 1, p, hp => by
    rw [edfN_step]
    split
    · rename_i h
      exact .inr ⟨v, by omega, rfl, h⟩
    · rcases edfN_inv s pts v p hp with h | ⟨u, h1, h2, h3⟩
      · exact .inl h
      · exact .inr ⟨u, by omega, h2, h3⟩
theorem edfN_keep (s : List Pn) (pts : List Int) {v p : Nat} (h : 0 ≤ (edfN s pts v).getD p 0) : (edfN s pts (v + 1)).getD p 0 = (edfN s pts v).getD p 0 := by
  rw [edfN_step]
  split
  · rename_i h1
    rcases pickN_spec s (edfN s pts v) (pts.getD v 0) s.length with ⟨h2, _⟩ | ⟨q, h2, _, h3, _⟩
    · omega
    · have e : q = p := by omega
      subst e
      have := (candB_iff.1 h3).2.1
      omega
  · rfl
theorem edfN_later (s : List Pn) (pts : List Int) {v v' p : Nat} (hv : v ≤ v') (h : 0 ≤ (edfN s pts v).getD p 0) : (edfN s pts v').getD p 0 = (edfN s pts v).getD p 0 := by
  induction hv with
  | refl => rfl
  | step _ ih => rw [edfN_keep s pts (by rw [ih]; exact h), ih]
theorem last_break (S : Nat → Prop) : ∀ V : Nat, ∃ t, t ≤ V ∧ (∀ v, t ≤ v → v < V → S v) ∧ (t = 0 ∨ ¬ S (t - 1))
  | 0 => ⟨0, Nat.le_refl _, fun v _ h => absurd h (by omega), .inl rfl⟩
  | V + 1 => by
    by_cases h : S V
    · obtain ⟨t, h1, h2, h3⟩ := last_break S V
      refine ⟨t, by omega, fun v hv hv' => ?_, h3⟩
      rcases Nat.lt_or_ge v V with hl | hl
      · exact h2 v hv hl
      · obtain rfl : v = V := by omega
        exact h
    · exact ⟨V + 1, Nat.le_refl _, fun v hv hv' => absurd hv' (by omega), .inr (by simpa using h)⟩

/-- Each part with a foot is taken. -/
theorem edf_all {s : List Pn} (hs : OkS s) {p : Nat} (hp : p < s.length) (hf : (s.getD p default).ft = true) : 0 ≤ (edfN s (ptsL s) (ptsL s).length).getD p 0 := by
  obtain ⟨hasc, hcnt, hlen, hpos⟩ := ptsL_ok hs
  generalize hpts : ptsL s = pts at *
  have op := hs _ (Pn.mem hp)
  rcases (by omega : 0 ≤ (edfN s pts pts.length).getD p 0 ∨ (edfN s pts pts.length).getD p 0 < 0) with h | hneg
  · exact h
  exfalso
  have hun : ∀ v, v ≤ pts.length → (edfN s pts v).getD p 0 < 0 := fun v hv => by
    rcases (by omega : 0 ≤ (edfN s pts v).getD p 0 ∨ (edfN s pts v).getD p 0 < 0) with h | h
    · have := edfN_later s pts hv h; omega
    · exact h
  obtain ⟨H, hH⟩ : ∃ H : Nat, (s.getD p default).hi = H := ⟨(s.getD p default).hi.toNat, by omega⟩
  let V := before pts ((H + 1 : Nat) : Int)
  have hVle : V ≤ pts.length := before_le _ _
  have hV : V = BB s (H + 1) := hcnt _
  have hx : ∀ v, v < V → pts.getD v 0 ≤ H := fun v hv => by
    have := (before_iff (x := ((H + 1 : Nat) : Int)) hasc (k := v) (by omega)).1 hv; omega
  let pk := fun v => pickN s (edfN s pts v) (pts.getD v 0) s.length
  obtain ⟨t, ht, hS, ht0⟩ := last_break (fun v => ∃ q : Nat, pk v = q ∧ (s.getD q default).hi ≤ H) V
  let Q := (List.range' t (V - t)).map fun v => (pk v).toNat
  have hQ : ∀ v, t ≤ v → v < V → ∃ q : Nat, pk v = q ∧ q < s.length ∧ candB s (edfN s pts v) (pts.getD v 0) q = true ∧ (s.getD q default).hi ≤ H := fun v h1 h2 => by
    obtain ⟨q, hq, hqh⟩ := hS v h1 h2
    rcases pickN_spec s (edfN s pts v) (pts.getD v 0) s.length with ⟨h, _⟩ | ⟨r, h, hr, hc, _⟩
    · have : pk v = -1 := h
      omega
    · have e : pk v = r := h
      have : r = q := by omega
      subst this
      exact ⟨r, hq, hr, hc, hqh⟩
  have hQm : ∀ q ∈ p :: Q, q < s.length ∧ (s.getD q default).ft = true ∧ (s.getD q default).hi ≤ H ∧ (0 < t → pts.getD (t - 1) 0 < (s.getD q default).lo) := fun q hq => by
    have key : ∀ r : Nat, r < s.length → (s.getD r default).ft = true → (s.getD r default).hi ≤ H → (∀ u, u ≤ t → (edfN s pts u).getD r 0 < 0) → (0 < t → pts.getD (t - 1) 0 ≤ (s.getD r default).hi) → (0 < t → pts.getD (t - 1) 0 < (s.getD r default).lo) := fun r hr hrf hrh hru hrx h0 => by
      rcases (by omega : pts.getD (t - 1) 0 < (s.getD r default).lo ∨ (s.getD r default).lo ≤ pts.getD (t - 1) 0) with h | h
      · exact h
      exfalso
      have hc : candB s (edfN s pts (t - 1)) (pts.getD (t - 1) 0) r = true := candB_iff.2 ⟨hrf, hru _ (by omega), h, hrx h0⟩
      rcases pickN_spec s (edfN s pts (t - 1)) (pts.getD (t - 1) 0) s.length with ⟨_, h1⟩ | ⟨q', h1, _, _, h3⟩
      · rw [h1 r hr] at hc; cases hc
      · rcases ht0 with e | e
        · omega
        · exact e ⟨q', h1, by have := h3 r hr hc; omega⟩
    rcases List.mem_cons.1 hq with rfl | hq
    · exact ⟨hp, hf, by omega, key q hp hf (by omega) (fun u hu => hun u (by omega)) (fun h0 => by have := hx (t - 1) (by omega); omega)⟩
    · obtain ⟨v, hv, rfl⟩ := List.mem_map.1 hq
      obtain ⟨hv1, hv2⟩ := List.mem_range'_1.1 hv
      obtain ⟨q, h1, h2, h3, h4⟩ := hQ v hv1 (by omega)
      have e : (pk v).toNat = q := by omega
      rw [e]
      obtain ⟨c1, c2, c3, c4⟩ := candB_iff.1 h3
      refine ⟨h2, c1, h4, key q h2 c1 h4 (fun u hu => ?_) (fun h0 => ?_)⟩
      · rcases (by omega : 0 ≤ (edfN s pts u).getD q 0 ∨ (edfN s pts u).getD q 0 < 0) with h | h
        · have := edfN_later s pts (v := u) (v' := v) (by omega) h; omega
        · exact h
      · have := pw_get hasc (i := t - 1) (j := v) (by omega) (by omega)
        omega
  have hnd : (p :: Q).Nodup := by
    refine List.nodup_cons.2 ⟨fun hm => ?_, ?_⟩
    · obtain ⟨v, hv, e⟩ := List.mem_map.1 hm
      obtain ⟨hv1, hv2⟩ := List.mem_range'_1.1 hv
      obtain ⟨q, h1, h2, h3, h4⟩ := hQ v hv1 (by omega)
      have e' : pickN s (edfN s pts v) (pts.getD v 0) s.length = p := by
        have : (pk v).toNat = p := e
        have : pk v = p := by omega
        exact this
      have := hun (v + 1) (by omega)
      rw [edfN_step, if_pos e'] at this
      omega
    · rw [List.Nodup, List.pairwise_map]
      refine List.Pairwise.imp_of_mem (fun {a b} ha hb hab => ?_) (List.nodup_range' (s := t) (n := V - t) (step := 1))
      obtain ⟨ha1, ha2⟩ := List.mem_range'_1.1 ha
      obtain ⟨hb1, hb2⟩ := List.mem_range'_1.1 hb
      obtain ⟨q, h1, h2, h3, h4⟩ := hQ a ha1 (by omega)
      obtain ⟨r, g1, g2, g3, g4⟩ := hQ b hb1 (by omega)
      intro e
      have hqr : q = r := by omega
      subst hqr
      have k1 : (edfN s pts (a + 1)).getD q 0 = a := by rw [edfN_step, if_pos h1]
      have k2 : (edfN s pts (b + 1)).getD q 0 = b := by rw [edfN_step, if_pos g1]
      rcases (by omega : a < b ∨ b < a) with h | h
      · have := edfN_later s pts (v := a + 1) (v' := b + 1) (by omega) (by omega) (p := q); omega
      · have := edfN_later s pts (v := b + 1) (v' := a + 1) (by omega) (by omega) (p := q); omega
  obtain ⟨m, hm, hmin⟩ := exists_min (fun q : Nat => (s.getD q default).lo) (l := p :: Q) (by simp)
  have hmm := hQm m hm
  have om := hs _ (Pn.mem hmm.1)
  obtain ⟨A, hA⟩ : ∃ A : Nat, (s.getD m default).lo = A := ⟨(s.getD m default).lo.toNat, by omega⟩
  have hcountA := nodup_count (fun q : Pn => inB A H q && q.ft) s default (p :: Q) hnd (fun i hi => by
    obtain ⟨a, b, c, _⟩ := hQm i hi
    have := hmin i hi
    refine ⟨a, ?_⟩
    simp only [Bool.and_eq_true, inB_iff]
    exact ⟨⟨by omega, c⟩, b⟩)
  have hfe : (p :: Q).length ≤ feet s A H := hcountA
  have hd := feet_le_dem s A H
  have hBt : t ≤ BB s A := by
    rw [← hcnt A]
    rcases Nat.eq_zero_or_pos t with e | e
    · omega
    · have := (before_iff (x := (A : Int)) hasc (k := t - 1) (by omega)).2 (by have := hmm.2.2.2 e; omega)
      omega
  have hany := BB_any hs (l := A) (h := H) (by have := hmm.2.2.1; omega)
  simp only [List.length_cons, Q, List.length_map, List.length_range'] at hfe
  omega
theorem fewL_len (s : List Pn) : (fewL s).length = s.length := by simp [fewL]
theorem fewL_get (s : List Pn) {p : Nat} (hp : p < s.length) : (fewL s).getD p 0 = if (s.getD p default).ft then (edfN s (ptsL s) (ptsL s).length).getD p 0 else (before (ptsL s) (s.getD p default).lo : Int) := by
  simp [fewL, List.getD_eq_getElem?_getD, hp]
/-- Each part's vessel is a point in its span; no vessel has two feet. -/
theorem fewL_spec {s : List Pn} (hs : OkS s) {p : Nat} (hp : p < s.length) : ∃ v : Nat, (fewL s).getD p 0 = v ∧ v < leastN s ∧ (s.getD p default).lo ≤ (ptsL s).getD v 0 ∧ (ptsL s).getD v 0 ≤ (s.getD p default).hi ∧
    ((s.getD p default).ft = true → pickN s (edfN s (ptsL s) v) ((ptsL s).getD v 0) s.length = p) := by
  obtain ⟨hasc, hcnt, hlen, hpos⟩ := ptsL_ok hs
  rw [fewL_get s hp]
  have op := hs _ (Pn.mem hp)
  by_cases hf : (s.getD p default).ft = true
  · rw [if_pos hf]
    have h0 := edf_all hs hp hf
    rcases edfN_inv s (ptsL s) (ptsL s).length p hp with h | ⟨u, h1, h2, h3⟩
    · omega
    · refine ⟨u, h2, by omega, ?_, ?_, fun _ => h3⟩
      all_goals
        rcases pickN_spec s (edfN s (ptsL s) u) ((ptsL s).getD u 0) s.length with ⟨h, _⟩ | ⟨q, h, _, hc, _⟩
        · omega
        · have e : q = p := by omega
          subst e
          have := candB_iff.1 hc
          first | exact this.2.2.1 | exact this.2.2.2
  · rw [if_neg hf]
    obtain ⟨L, hL⟩ : ∃ L : Nat, (s.getD p default).lo = L := ⟨(s.getD p default).lo.toNat, by omega⟩
    obtain ⟨H, hH⟩ : ∃ H : Nat, (s.getD p default).hi = H := ⟨(s.getD p default).hi.toNat, by omega⟩
    have h1 := BB_any hs (l := L) (h := H) (by omega)
    have h2 : 0 < dem s L H := dem_pos.2 ⟨_, Pn.mem hp, by omega, by omega⟩
    have b1 := hcnt L
    have b2 := hcnt (H + 1)
    have b3 := before_le (ptsL s) ((H + 1 : Nat) : Int)
    rw [hL]
    refine ⟨before (ptsL s) L, rfl, by omega, ?_, ?_, fun h => absurd h hf⟩
    · rcases (by omega : (L : Int) ≤ (ptsL s).getD (before (ptsL s) L) 0 ∨ (ptsL s).getD (before (ptsL s) L) 0 < L) with h | h
      · exact h
      · have := (before_iff (x := (L : Int)) hasc (k := before (ptsL s) L) (by omega)).2 h; omega
    · have := (before_iff (x := ((H + 1 : Nat) : Int)) hasc (k := before (ptsL s) L) (by omega)).1 (by omega); omega
theorem fewL_ok {s : List Pn} (hs : OkS s) : AsgOk s (leastN s) fun p => ((fewL s).getD p 0).toNat := by
  refine ⟨fun p hp => ?_, fun p q hp hq hcl he => ?_⟩
  · obtain ⟨v, h1, h2, _⟩ := fewL_spec hs hp
    rw [h1]; simpa using h2
  · obtain ⟨v, h1, h2, h3, h4, h5⟩ := fewL_spec hs hp
    obtain ⟨u, g1, g2, g3, g4, g5⟩ := fewL_spec hs hq
    rw [h1, g1] at he
    have e : v = u := by simpa using he
    subst e
    have := clB_false (s := s) (a := p) (b := q) ((ptsL s).getD v 0) ⟨h3, h4⟩ ⟨g3, g4⟩ (by
      by_cases hb : (s.getD p default).ft = true ∧ (s.getD q default).ft = true
      · left
        have a1 := h5 hb.1
        have a2 := g5 hb.2
        omega
      · exact .inr hb)
    rw [hcl] at this
    cases this
/-- The different numbers of a list, as they come. -/
def firstsL (v : List Int) : List Int := v.foldl (fun a x => if a.contains x then a else a ++ [x]) []
/-- The list, numbered as its numbers come. -/
def numL (v : List Int) : List Int := v.map fun x => ((firstsL v).idxOf x : Int)
theorem firsts_go : ∀ (v a : List Int), a.Nodup → (v.foldl (fun a x => if a.contains x then a else a ++ [x]) a).Nodup ∧ (∃ t, v.foldl (fun a x => if a.contains x then a else a ++ [x]) a = a ++ t) ∧ ∀ x, x ∈ v.foldl (fun a x => if a.contains x then a else a ++ [x]) a ↔ x ∈ a ∨ x ∈ v
  | [], a, h => ⟨h, ⟨[], by simp⟩, by simp⟩
  | y :: v, a, h => by
    simp only [List.foldl_cons]
    by_cases hy : y ∈ a
    · rw [if_pos (by simpa using hy)]
      obtain ⟨h1, h2, h3⟩ := firsts_go v a h
      refine ⟨h1, h2, fun x => ?_⟩
      rw [h3, List.mem_cons]
      constructor
      · rintro (h | h) <;> simp [h]
      · rintro (h | h | h)
        · exact .inl h
        · subst h; exact .inl hy
        · exact .inr h
    · rw [if_neg (by simpa using hy)]
      obtain ⟨h1, ⟨t, h2⟩, h3⟩ := firsts_go v (a ++ [y]) (by
        rw [List.nodup_append]
        refine ⟨h, by simp, fun x hx z hz => ?_⟩
        simp at hz
        subst hz
        rintro rfl
        exact hy hx)
      refine ⟨h1, ⟨y :: t, by rw [h2]; simp⟩, fun x => ?_⟩
      rw [h3, List.mem_append, List.mem_singleton, List.mem_cons, or_assoc]
theorem firstsL_nodup (v : List Int) : (firstsL v).Nodup := (firsts_go v [] (by simp)).1
theorem mem_firstsL {v : List Int} {x : Int} : x ∈ firstsL v ↔ x ∈ v := by
  have := (firsts_go v [] (by simp)).2.2 x
  unfold firstsL
  simpa using this
theorem firstsL_snoc (v : List Int) (x : Int) : firstsL (v ++ [x]) = if (firstsL v).contains x then firstsL v else firstsL v ++ [x] := by simp [firstsL]
theorem firstsL_pre (v u : List Int) : ∃ t, firstsL (v ++ u) = firstsL v ++ t := by
  unfold firstsL
  rw [List.foldl_append]
  exact (firsts_go u _ (firstsL_nodup v)).2.1
theorem numL_len (v : List Int) : (numL v).length = v.length := by simp [numL]
theorem numL_get {v : List Int} {i : Nat} (hi : i < v.length) : (numL v).getD i 0 = ((firstsL v).idxOf (v.getD i 0) : Int) := by
  simp [numL, List.getD_eq_getElem?_getD, hi]
theorem idxOf_app {a t : List Int} {x : Int} (h : x ∈ a) : (a ++ t).idxOf x = a.idxOf x := by
  rw [List.idxOf_append, if_pos h]
theorem idxOf_inj {a : List Int} {x y : Int} (hx : x ∈ a) (h : a.idxOf x = a.idxOf y) : x = y := by
  have h1 := List.idxOf_lt_length_of_mem hx
  have e1 := List.getElem_idxOf h1
  have h2 : a.idxOf y < a.length := by omega
  have e2 := List.getElem_idxOf h2
  rw [← e1, ← e2]
  congr 1
theorem numL_eq {v : List Int} {i j : Nat} (hi : i < v.length) (hj : j < v.length) : (numL v).getD i 0 = (numL v).getD j 0 ↔ v.getD i 0 = v.getD j 0 := by
  rw [numL_get hi, numL_get hj]
  constructor
  · intro h
    exact idxOf_inj (mem_firstsL.2 (mem_getD hi)) (by omega)
  · intro h; rw [h]
/-- How many numbers are used, counted as they come; none where one is skipped. -/
def rgO : List Int → Nat → Option Nat
  | [], m => some m
  | x :: l, m => if 0 ≤ x ∧ x ≤ m then rgO l (if x = m then m + 1 else m) else none
theorem rgO_num : ∀ (u v : List Int), rgO (u.map fun x => ((firstsL (v ++ u)).idxOf x : Int)) (firstsL v).length = some (firstsL (v ++ u)).length
  | [], v => by simp [rgO]
  | x :: u, v => by
    have ih := rgO_num u (v ++ [x])
    rw [List.append_assoc] at ih
    simp only [List.map_cons, rgO]
    have hs := firstsL_snoc v x
    obtain ⟨t, ht⟩ := firstsL_pre (v ++ [x]) u
    rw [List.append_assoc] at ht
    simp only [List.singleton_append] at ht ih
    have hx : (firstsL (v ++ x :: u)).idxOf x = (firstsL (v ++ [x])).idxOf x := by
      rw [ht]; exact idxOf_app (mem_firstsL.2 (by simp))
    rw [hx]
    by_cases hc : x ∈ firstsL v
    · rw [if_pos (by simpa using hc)] at hs
      have h1 := List.idxOf_lt_length_of_mem hc
      rw [hs] at ih ⊢
      rw [if_pos (by omega), if_neg (by omega)]
      exact ih
    · rw [if_neg (by simpa using hc)] at hs
      have h1 : (firstsL (v ++ [x])).idxOf x = (firstsL v).length := by
        rw [hs, List.idxOf_append, if_neg hc]; simp
      rw [h1, if_pos (by omega), if_pos rfl]
      rw [hs] at ih
      simpa using ih
theorem rgO_numL (v : List Int) : rgO (numL v) 0 = some (firstsL v).length := rgO_num v []

/-- The greatest number and one. -/
def vesL (v : List Int) : Int := v.foldl (fun n x => max n (x + 1)) 0
theorem vesL_snoc (v : List Int) (x : Int) : vesL (v ++ [x]) = max (vesL v) (x + 1) := by simp [vesL]
theorem vesL_spec : ∀ v : List Int, 0 ≤ vesL v ∧ (∀ x ∈ v, x < vesL v) ∧ (vesL v = 0 ∨ ∃ x ∈ v, vesL v = x + 1) := by
  intro v
  have : ∀ (n : Nat), n ≤ v.length → 0 ≤ vesL (v.take n) ∧ (∀ x ∈ v.take n, x < vesL (v.take n)) ∧ (vesL (v.take n) = 0 ∨ ∃ x ∈ v.take n, vesL (v.take n) = x + 1) := by
    intro n
    induction n with
    | zero => intro _; simp [vesL]
    | succ n ih =>
      intro hn
      obtain ⟨h1, h2, h3⟩ := ih (by omega)
      rw [List.take_succ_eq_append_getElem (by omega), vesL_snoc]
      generalize v[n] = y
      refine ⟨by omega, fun x hx => ?_, ?_⟩
      · rcases List.mem_append.1 hx with hx | hx
        · have := h2 x hx; omega
        · simp at hx; omega
      · rcases (by omega : vesL (v.take n) ≤ y + 1 ∨ y + 1 < vesL (v.take n)) with h | h
        · right; exact ⟨y, by simp, by omega⟩
        · rcases h3 with h3 | ⟨x, hx, h3⟩
          · left; omega
          · right; exact ⟨x, by simp [hx], by omega⟩
  have := this v.length (Nat.le_refl _)
  rwa [List.take_length] at this
theorem vesL_of_full {v : List Int} {m : Int} (h0 : 0 ≤ m) (h1 : ∀ x ∈ v, x < m) (h2 : m = 0 ∨ (m - 1) ∈ v) : vesL v = m := by
  have hv := vesL_spec v
  apply Int.le_antisymm
  · rcases hv.2.2 with h | ⟨x, hx, h⟩
    · omega
    · have := h1 x hx; omega
  · rcases h2 with h | h
    · omega
    · have := hv.2.1 _ h; omega
/-- No two parts of one vessel clash. -/
def noClB (s : List Pn) (v : List Int) : Bool := (List.range v.length).all fun i => (List.range i).all fun k => !(v.getD k 0 == v.getD i 0 && clB s k i)
theorem noClB_iff {s : List Pn} {v : List Int} : noClB s v = true ↔ ∀ i k, k < i → i < v.length → v.getD k 0 = v.getD i 0 → clB s k i = false := by
  unfold noClB
  simp only [List.all_eq_true, List.mem_range, Bool.not_eq_true', Bool.and_eq_false_iff]
  constructor
  · intro h i k hk hi e
    rcases h i hi k hk with h | h
    · rw [e] at h; simp at h
    · exact h
  · intro h i hi k hk
    by_cases e : v.getD k 0 = v.getD i 0
    · exact .inr (h i k hk hi e)
    · exact .inl (by simpa using e)
/-- What the reference accepts as a reassembly, but for the limit: how many vessels it has. -/
def asgM (s : List Pn) (v : List Int) : Option Nat := if v.length = s.length ∧ noClB s v = true then rgO v 0 else none
theorem firsts_few {s : List Pn} (hs : OkS s) : (firstsL (fewL s)).length = leastN s := by
  have hl := fewL_len s
  apply Nat.le_antisymm
  · have := nodup_le (leastN s) ((firstsL (fewL s)).map Int.toNat) (by
      rw [List.Nodup, List.pairwise_map]
      refine List.Pairwise.imp_of_mem (fun {a b} ha hb hab => ?_) (firstsL_nodup _)
      obtain ⟨i, hi, rfl⟩ := getD_of_mem (mem_firstsL.1 ha)
      obtain ⟨j, hj, rfl⟩ := getD_of_mem (mem_firstsL.1 hb)
      obtain ⟨a, ha, _⟩ := fewL_spec hs (p := i) (by omega)
      obtain ⟨b, hb, _⟩ := fewL_spec hs (p := j) (by omega)
      omega) (fun x hx => by
      obtain ⟨y, hy, rfl⟩ := List.mem_map.1 hx
      obtain ⟨i, hi, rfl⟩ := getD_of_mem (mem_firstsL.1 hy)
      obtain ⟨a, ha, hlt, _⟩ := fewL_spec hs (p := i) (by omega)
      omega)
    simpa using this
  · refine least_le hs (f := fun i => (firstsL (fewL s)).idxOf ((fewL s).getD i 0)) ⟨fun a ha => ?_, fun a b ha hb hc e => ?_⟩
    · exact List.idxOf_lt_length_of_mem (mem_firstsL.2 (mem_getD (by omega)))
    · have := idxOf_inj (mem_firstsL.2 (mem_getD (by omega))) e
      exact (fewL_ok hs).cl a b ha hb hc (by show ((fewL s).getD a 0).toNat = _; rw [this])
theorem numL_asg {s : List Pn} {v : List Int} (hl : v.length = s.length) (h : ∀ a b, a < s.length → b < s.length → clB s a b = true → v.getD a 0 ≠ v.getD b 0) : asgM s (numL v) = some (firstsL v).length := by
  unfold asgM
  rw [if_pos, rgO_numL]
  refine ⟨by rw [numL_len, hl], noClB_iff.2 fun i k hki hi e => ?_⟩
  rw [numL_len] at hi
  rw [numL_eq (by omega) hi] at e
  rcases hcl : clB s k i with _ | _
  · rfl
  · exact absurd e (h k i (by omega) (by omega) hcl)
theorem fewL_cl {s : List Pn} (hs : OkS s) : ∀ a b, a < s.length → b < s.length → clB s a b = true → (fewL s).getD a 0 ≠ (fewL s).getD b 0 := fun a b ha hb hc e => (fewL_ok hs).cl a b ha hb hc (by show ((fewL s).getD a 0).toNat = _; rw [e])
/-- The index of a part once part a is gone, and back. -/
def upI (a i : Nat) : Nat := if i < a then i else i + 1
def dnI (a i : Nat) : Nat := if i < a then i else i - 1
theorem updn {a i : Nat} (hi : i ≠ a) : upI a (dnI a i) = i := by
  unfold upI dnI
  by_cases h : i < a
  · rw [if_pos h, if_pos h]
  · rw [if_neg h, if_neg (by omega)]; omega
theorem getD_erase {s : List Pn} {a : Nat} (i : Nat) : (s.eraseIdx a).getD i default = s.getD (upI a i) default := by
  unfold upI
  simp only [List.getD_eq_getElem?_getD, List.getElem?_eraseIdx]
  split <;> rfl
theorem OkS.erase {s : List Pn} (hs : OkS s) (a : Nat) : OkS (s.eraseIdx a) := fun p hp => hs p (List.mem_of_mem_eraseIdx hp)
/-- Two parts as one, as to what matters. -/
def gluP (p q : Pn) : Pn := ⟨max p.lo q.lo, min p.hi q.hi, p.ft || q.ft⟩
def merS (s : List Pn) (a b : Nat) : List Pn := (s.set a (gluP (s.getD a default) (s.getD b default))).eraseIdx b
theorem merS_len {s : List Pn} {a b : Nat} (hb : b < s.length) : (merS s a b).length = s.length - 1 := by
  unfold merS; rw [List.length_eraseIdx]; simp [hb]
theorem merS_get {s : List Pn} {a b i : Nat} (hab : a < b) (hb : b < s.length) : (merS s a b).getD i default = if i = a then gluP (s.getD a default) (s.getD b default) else s.getD (upI b i) default := by
  unfold merS
  rw [getD_erase]
  unfold upI
  simp only [List.getD_eq_getElem?_getD, List.getElem?_set]
  by_cases e : i = a
  · subst e
    rw [if_pos hab, if_pos rfl, if_pos (by omega)]
    simp
  · rw [if_neg e]
    split
    · rw [if_neg (fun h => e h.symm)]
    · rw [if_neg (by omega)]
theorem clB_no {s : List Pn} {a b : Nat} (hab : a ≠ b) (h : clB s a b = false) : ((s.getD a default).ft = true → (s.getD b default).ft = true → False) ∧ (s.getD b default).lo ≤ (s.getD a default).hi ∧ (s.getD a default).lo ≤ (s.getD b default).hi := by
  unfold clB at h
  have e : (a != b) = true := by simpa using hab
  rw [e, Bool.true_and, Bool.or_eq_false_iff, Bool.or_eq_false_iff, Bool.and_eq_false_iff, decide_eq_false_iff_not, decide_eq_false_iff_not] at h
  refine ⟨fun h1 h2 => ?_, by omega, by omega⟩
  rcases h.1.1 with h | h
  · rw [h1] at h; cases h
  · rw [h2] at h; cases h
theorem OkS.merS {s : List Pn} (hs : OkS s) {a b : Nat} (hab : a < b) (hb : b < s.length) (hc : clB s a b = false) : OkS (merS s a b) := by
  intro p hp
  obtain ⟨i, hi, e⟩ := List.getElem_of_mem hp
  have hg := merS_get (i := i) hab hb
  rw [List.getD_eq_getElem?_getD, List.getElem?_eq_getElem hi] at hg
  simp only [Option.getD_some, e] at hg
  rw [merS_len hb] at hi
  have h1 := hs _ (Pn.mem (show a < s.length by omega))
  have h2 := hs _ (Pn.mem hb)
  have h3 := clB_no (by omega) hc
  rw [hg]
  split
  · unfold gluP; dsimp only; omega
  · exact hs _ (Pn.mem (by unfold upI; split <;> omega))
/-- A clash with one of two parts is one with both as one. -/
theorem clB_mer {s : List Pn} {a b : Nat} (hab : a < b) (hb : b < s.length) (hnc : clB s a b = false) {i j : Nat} (hi : i < s.length) (hj : j < s.length) (hc : clB s i j = true) :
    clB (merS s a b) (if i = b then a else dnI b i) (if j = b then a else dnI b j) = true := by
  have hne := clB_ne hc
  have hup : ∀ i, i ≠ b → upI b (dnI b i) = i := fun i hi => updn hi
  have hg : ∀ i, (merS s a b).getD (if i = b then a else dnI b i) default = if i = a ∨ i = b then gluP (s.getD a default) (s.getD b default) else s.getD i default := fun i => by
    rw [merS_get hab hb]
    by_cases e : i = b
    · subst e; simp
    · rw [if_neg e]
      by_cases e2 : i = a
      · subst e2
        rw [if_pos (by unfold dnI; rw [if_pos hab]), if_pos (.inl rfl)]
      · rw [if_neg (by unfold dnI; split <;> omega), hup i e, if_neg (by omega)]
  have hcl : ∀ i j, clB s i j = true → i ≠ j ∧ ((s.getD i default).ft = true ∧ (s.getD j default).ft = true ∨ (s.getD i default).hi < (s.getD j default).lo ∨ (s.getD j default).hi < (s.getD i default).lo) := fun i j h => by
    unfold clB at h
    simp only [Bool.and_eq_true, Bool.or_eq_true, decide_eq_true_eq, bne_iff_ne, ne_eq] at h
    exact ⟨h.1, h.2.elim (fun h => h.elim .inl fun h => .inr (.inl h)) fun h => .inr (.inr h)⟩
  have h0 := (hcl i j hc).2
  have key : (if i = b then a else dnI b i) ≠ (if j = b then a else dnI b j) := by
    intro e
    have : (i = a ∨ i = b) ∧ (j = a ∨ j = b) ∨ i = j := by
      by_cases e1 : i = b
      · rw [if_pos e1] at e
        by_cases e2 : j = b
        · omega
        · rw [if_neg e2] at e
          unfold dnI at e
          by_cases h : j < b
          · rw [if_pos h] at e; omega
          · rw [if_neg h] at e; omega
      · rw [if_neg e1] at e
        by_cases e2 : j = b
        · rw [if_pos e2] at e
          unfold dnI at e
          by_cases h : i < b
          · rw [if_pos h] at e; omega
          · rw [if_neg h] at e; omega
        · rw [if_neg e2] at e
          unfold dnI at e
          by_cases h : i < b
          · by_cases h2 : j < b
            · rw [if_pos h, if_pos h2] at e; omega
            · rw [if_pos h, if_neg h2] at e; omega
          · by_cases h2 : j < b
            · rw [if_neg h, if_pos h2] at e; omega
            · rw [if_neg h, if_neg h2] at e; omega
    rcases this with ⟨h1 | h1, h2 | h2⟩ | h
    · omega
    · subst h1; subst h2; rw [hnc] at hc; cases hc
    · subst h1; subst h2; rw [clB_comm, hnc] at hc; cases hc
    · omega
    · exact hne h
  unfold clB
  rw [hg i, hg j]
  simp only [Bool.and_eq_true, Bool.or_eq_true, decide_eq_true_eq, bne_iff_ne, ne_eq]
  refine ⟨key, ?_⟩
  by_cases e1 : i = a ∨ i = b
  · by_cases e2 : j = a ∨ j = b
    · exfalso
      rcases e1 with e1 | e1 <;> rcases e2 with e2 | e2
      · omega
      · subst e1; subst e2; rw [hnc] at hc; cases hc
      · subst e1; subst e2; rw [clB_comm, hnc] at hc; cases hc
      · omega
    · rw [if_pos e1, if_neg e2]
      unfold gluP
      dsimp only
      rcases e1 with e1 | e1 <;> subst e1
      · rcases h0 with h | h | h
        · left; left; rw [h.1]; exact ⟨rfl, h.2⟩
        · left; right; omega
        · right; omega
      · rcases h0 with h | h | h
        · left; left; rw [h.1]; exact ⟨by simp, h.2⟩
        · left; right; omega
        · right; omega
  · by_cases e2 : j = a ∨ j = b
    · rw [if_neg e1, if_pos e2]
      unfold gluP
      dsimp only
      rcases e2 with e2 | e2 <;> subst e2
      · rcases h0 with h | h | h
        · left; left; rw [h.2]; exact ⟨h.1, rfl⟩
        · left; right; omega
        · right; omega
      · rcases h0 with h | h | h
        · left; left; rw [h.2]; exact ⟨h.1, by simp⟩
        · left; right; omega
        · right; omega
    · rw [if_neg e1, if_neg e2]
      rcases h0 with h | h | h
      · exact .inl (.inl h)
      · exact .inl (.inr h)
      · exact .inr h
theorem rgO_app : ∀ (u w : List Int) (m : Nat), rgO (u ++ w) m = (rgO u m).bind (rgO w)
  | [], w, m => rfl
  | x :: u, w, m => by
    simp only [List.cons_append, rgO]
    split
    · exact rgO_app u w _
    · rfl
theorem rgO_spec : ∀ {v : List Int} {m m' : Nat}, rgO v m = some m' → m ≤ m' ∧ (∀ x ∈ v, 0 ≤ x ∧ x < m') ∧ (m' = m ∨ ((m' : Int) - 1) ∈ v)
  | [], m, m', h => by simp [rgO] at h; subst h; simp
  | x :: v, m, m', h => by
    unfold rgO at h
    split at h
    · rename_i hx
      obtain ⟨h1, h2, h3⟩ := rgO_spec h
      by_cases e : x = m
      · rw [if_pos e] at h1 h3
        refine ⟨by omega, fun y hy => ?_, ?_⟩
        · rcases List.mem_cons.1 hy with rfl | hy
          · omega
          · exact h2 y hy
        · rcases h3 with h3 | h3
          · right; rw [h3, e]; simp
          · right; simp [h3]
      · rw [if_neg e] at h1 h3
        refine ⟨h1, fun y hy => ?_, ?_⟩
        · rcases List.mem_cons.1 hy with rfl | hy
          · omega
          · exact h2 y hy
        · rcases h3 with h3 | h3
          · exact .inl h3
          · right; simp [h3]
    · cases h
theorem rgO_ves {v : List Int} {m : Nat} (h : rgO v 0 = some m) : vesL v = m := by
  obtain ⟨h1, h2, h3⟩ := rgO_spec h
  refine vesL_of_full (by omega) (fun x hx => (h2 x hx).2) ?_
  rcases h3 with h3 | h3
  · left; omega
  · exact .inr h3
theorem asgM_some {s : List Pn} {v : List Int} {m : Nat} (h : asgM s v = some m) : v.length = s.length ∧ noClB s v = true ∧ rgO v 0 = some m := by
  unfold asgM at h
  split at h
  · rename_i hc; exact ⟨hc.1, hc.2, h⟩
  · cases h
theorem asgM_ok {s : List Pn} {v : List Int} {m : Nat} (h : asgM s v = some m) : AsgOk s m fun i => (v.getD i 0).toNat := by
  obtain ⟨h1, h2, h3⟩ := asgM_some h
  have hr := (rgO_spec h3).2.1
  have hrg : ∀ i, i < s.length → 0 ≤ v.getD i 0 ∧ v.getD i 0 < m := fun i hi => hr _ (mem_getD (by omega))
  refine ⟨fun i hi => by have := hrg i hi; omega, fun i j hi hj hc e => ?_⟩
  have a := hrg i hi
  have b := hrg j hj
  have e' : v.getD i 0 = v.getD j 0 := by omega
  have hne := clB_ne hc
  rcases (by omega : i < j ∨ j < i) with h | h
  · have := noClB_iff.1 h2 j i h (by omega) e'; rw [this] at hc; cases hc
  · have := noClB_iff.1 h2 i j h (by omega) e'.symm; rw [clB_comm, this] at hc; cases hc
/-- No reassembly has fewer vessels. -/
theorem asgM_ge {s : List Pn} (hs : OkS s) {v : List Int} {m : Nat} (h : asgM s v = some m) : leastN s ≤ m ∧ vesL v = m := ⟨least_le hs (asgM_ok h), rgO_ves (asgM_some h).2.2⟩

/-- What the reference accepts as a witness. -/
def witB (s : List Pn) : List Int → List Int → Bool
  | _, [] => true
  | pre, x :: l => decide (0 ≤ x) && decide (x < s.length) && pre.all (fun y => decide (y < x) && clB s y.toNat x.toNat) && witB s (pre ++ [x]) l
theorem witB_go {s : List Pn} : ∀ {l pre : List Int}, witB s pre l = true ↔ (∀ x ∈ l, 0 ≤ x ∧ x < s.length) ∧ (∀ y ∈ pre, ∀ x ∈ l, y < x ∧ clB s y.toNat x.toNat = true) ∧ l.Pairwise fun y x => y < x ∧ clB s y.toNat x.toNat = true
  | [], pre => by simp [witB]
  | x :: l, pre => by
    have ih := witB_go (s := s) (l := l) (pre := pre ++ [x])
    unfold witB
    simp only [Bool.and_eq_true, decide_eq_true_eq, List.all_eq_true]
    rw [ih, List.pairwise_cons]
    constructor
    · rintro ⟨⟨h1, h2⟩, h3, h4, h5⟩
      refine ⟨fun y hy => ?_, fun y hy z hz => ?_, fun z hz => h4 x (by simp) z hz, h5⟩
      · rcases List.mem_cons.1 hy with rfl | hy
        · exact h1
        · exact h3 y hy
      · rcases List.mem_cons.1 hz with rfl | hz
        · exact h2 y hy
        · exact h4 y (by simp [hy]) z hz
    · rintro ⟨h1, h2, h3, h4⟩
      refine ⟨⟨h1 x (by simp), fun y hy => h2 y hy x (by simp)⟩, fun y hy => h1 y (by simp [hy]), fun y hy z hz => ?_, h4⟩
      rcases List.mem_append.1 hy with hy | hy
      · exact h2 y hy z (by simp [hz])
      · simp at hy; subst hy; exact h3 z hz
theorem witB_iff {s : List Pn} {l : List Int} : witB s [] l = true ↔ (∀ x ∈ l, 0 ≤ x ∧ x < s.length) ∧ l.Pairwise fun y x => y < x ∧ clB s y.toNat x.toNat = true := by
  rw [witB_go]; simp
theorem witB_wit {s : List Pn} {l : List Int} (h : witB s [] l = true) : WitOk s (l.map Int.toNat) := by
  obtain ⟨h1, h2⟩ := witB_iff.1 h
  refine ⟨fun a ha => ?_, ?_⟩
  · obtain ⟨x, hx, rfl⟩ := List.mem_map.1 ha
    have := h1 x hx; omega
  · rw [List.pairwise_map]
    exact h2.imp fun h => h.2
/-- No witness has more parts. -/
theorem witB_le {s : List Pn} (hs : OkS s) {l : List Int} (h : witB s [] l = true) : l.length ≤ leastN s := by
  have := wit_le (witB_wit h) (fewL_ok hs)
  simpa using this
theorem witB_take {s : List Pn} {l : List Int} (n : Nat) (h : witB s [] l = true) : witB s [] (l.take n) = true := by
  obtain ⟨h1, h2⟩ := witB_iff.1 h
  exact witB_iff.2 ⟨fun x hx => h1 x (List.mem_of_mem_take hx), h2.sublist (List.take_sublist n l)⟩
/-- Parts each two of which clash, in ascending order, are a witness. -/
theorem witB_of {s : List Pn} {W : List Nat} {l : List Int} (hW : WitOk s W) (hp : l.Perm (W.map fun (n : Nat) => (n : Int))) (hl : l.Pairwise (· ≤ ·)) : witB s [] l = true := by
  have hm : ∀ x ∈ l, ∃ n : Nat, n ∈ W ∧ x = n := fun x hx => by
    obtain ⟨n, hn, e⟩ := List.mem_map.1 (hp.mem_iff.1 hx)
    exact ⟨n, hn, e.symm⟩
  have hc : (W.map fun (n : Nat) => (n : Int)).Pairwise fun y x : Int => clB s y.toNat x.toNat = true := by
    rw [List.pairwise_map]
    exact hW.cl
  have hc' := (hp.pairwise_iff (fun {x y} h => by rw [clB_comm]; exact h)).2 hc
  refine witB_iff.2 ⟨fun x hx => ?_, ?_⟩
  · obtain ⟨n, hn, rfl⟩ := hm x hx
    have := hW.lt n hn; omega
  · refine (hl.and hc').imp_of_mem fun {a b} ha hb h => ⟨?_, h.2⟩
    obtain ⟨n, hn, rfl⟩ := hm a ha
    obtain ⟨k, hk, rfl⟩ := hm b hb
    have h1 := h.1
    have h2 := clB_ne h.2
    simp at h2
    omega

/-- What the reference accepts as a show: ranges one behind the other. -/
def shwB : List (Int × Int) → Bool
  | [] => true
  | r :: l => decide (0 ≤ r.1) && decide (r.1 ≤ r.2) && decide (r.2 ≤ 1000) && (match l with | [] => true | q :: _ => decide (r.2 < q.1)) && shwB l
theorem shwB_iff : ∀ {l : List (Int × Int)}, shwB l = true ↔ (∀ r ∈ l, 0 ≤ r.1 ∧ r.1 ≤ r.2 ∧ r.2 ≤ 1000) ∧ l.Pairwise fun a b => a.2 < b.1
  | [] => by simp [shwB]
  | [r] => by simp [shwB, and_assoc]
  | r :: q :: l => by
    have ih := shwB_iff (l := q :: l)
    unfold shwB
    simp only [Bool.and_eq_true, decide_eq_true_eq]
    rw [ih]
    constructor
    · rintro ⟨⟨⟨⟨a, b⟩, c⟩, d⟩, e, f⟩
      refine ⟨fun x hx => ?_, List.pairwise_cons.2 ⟨fun x hx => ?_, f⟩⟩
      · rcases List.mem_cons.1 hx with rfl | hx
        · exact ⟨a, b, c⟩
        · exact e x hx
      · rcases List.mem_cons.1 hx with rfl | hx
        · exact d
        · have := (List.pairwise_cons.1 f).1 x hx
          have := e q (by simp)
          omega
    · rintro ⟨e, df⟩
      obtain ⟨d, f⟩ := List.pairwise_cons.1 df
      have := e r (by simp)
      exact ⟨⟨⟨⟨this.1, this.2.1⟩, this.2.2⟩, d q (by simp)⟩, fun x hx => e x (by simp [hx]), f⟩
/-- A number put in at a place. -/
def putAt (v : List Int) (b : Nat) (x : Int) : List Int := v.take b ++ x :: v.drop b
theorem putAt_len {v : List Int} {b : Nat} (hb : b ≤ v.length) (x : Int) : (putAt v b x).length = v.length + 1 := by simp [putAt]; omega
theorem putAt_get {v : List Int} {b : Nat} (hb : b ≤ v.length) (x : Int) (i : Nat) : (putAt v b x).getD i 0 = if i = b then x else v.getD (dnI b i) 0 := by
  unfold putAt dnI
  have hl : (v.take b).length = b := by simp; omega
  simp only [List.getD_eq_getElem?_getD]
  rcases (by omega : i < b ∨ i = b ∨ b < i) with h | h | h
  · rw [List.getElem?_append_left (by omega), if_neg (by omega), if_pos h, List.getElem?_take, if_pos h]
  · subst h
    rw [List.getElem?_append_right (by omega), hl, if_pos rfl]; simp
  · rw [List.getElem?_append_right (by omega), hl, if_neg (by omega), if_neg (by omega)]
    rw [show i - b = (i - 1 - b) + 1 by omega, List.getElem?_cons_succ, List.getElem?_drop]
    rw [show b + (i - 1 - b) = i - 1 by omega]
theorem putAt_firsts {v : List Int} {a b : Nat} (hab : a < b) (hb : b ≤ v.length) : firstsL (putAt v b (v.getD a 0)) = firstsL v := by
  have hm : v.getD a 0 ∈ v.take b := by
    rw [List.getD_eq_getElem?_getD, List.getElem?_eq_getElem (show a < v.length by omega)]
    simp only [Option.getD_some]
    rw [List.mem_take_iff_getElem]
    exact ⟨a, by omega, rfl⟩
  have hc : (firstsL (v.take b)).contains (v.getD a 0) = true := by
    have := mem_firstsL.2 hm
    simpa using this
  have h2 : firstsL v = (v.drop b).foldl (fun a x => if a.contains x then a else a ++ [x]) (firstsL (v.take b)) := by
    conv => lhs; rw [← List.take_append_drop b v]
    unfold firstsL
    rw [List.foldl_append]
  rw [h2]
  unfold putAt
  show List.foldl _ [] _ = _
  rw [List.foldl_append, List.foldl_cons]
  change List.foldl _ (if (firstsL (v.take b)).contains _ then firstsL (v.take b) else _) _ = _
  rw [if_pos hc]
/-- A reassembly of the case with two parts as one is one with both in one vessel. -/
theorem putAt_cl {s : List Pn} {a b : Nat} {v : List Int} (hab : a < b) (hb : b < s.length) (hnc : clB s a b = false) (hl : v.length = s.length - 1) (h : ∀ i j, i < s.length - 1 → j < s.length - 1 → clB (merS s a b) i j = true → v.getD i 0 ≠ v.getD j 0) :
    ∀ i j, i < s.length → j < s.length → clB s i j = true → (putAt v b (v.getD a 0)).getD i 0 ≠ (putAt v b (v.getD a 0)).getD j 0 := by
  intro i j hi hj hc
  have hlt : ∀ i, i < s.length → (if i = b then a else dnI b i) < s.length - 1 := fun i hi => by
    unfold dnI
    split
    · omega
    · split <;> omega
  have hg : ∀ i, (putAt v b (v.getD a 0)).getD i 0 = v.getD (if i = b then a else dnI b i) 0 := fun i => by
    rw [putAt_get (by omega)]
    split <;> rfl
  rw [hg, hg]
  exact h _ _ (hlt i hi) (hlt j hj) (clB_mer hab hb hnc hi hj hc)
/-- A reassembly with two parts in one vessel. -/
def jointL (s : List Pn) (a b : Nat) : List Int := numL (putAt (fewL (merS s a b)) b ((fewL (merS s a b)).getD a 0))
theorem jointL_ok {s : List Pn} (hs : OkS s) {a b : Nat} (hab : a < b) (hb : b < s.length) (hnc : clB s a b = false) : asgM s (jointL s a b) = some (leastN (merS s a b)) ∧ (jointL s a b).getD a 0 = (jointL s a b).getD b 0 := by
  have hm := hs.merS hab hb hnc
  have hl : (fewL (merS s a b)).length = s.length - 1 := by rw [fewL_len, merS_len hb]
  have hpl := putAt_len (v := fewL (merS s a b)) (b := b) (by omega) ((fewL (merS s a b)).getD a 0)
  constructor
  · unfold jointL
    rw [numL_asg (by omega) (putAt_cl hab hb hnc hl (fun i j hi hj hc => fewL_cl hm i j (by rw [merS_len hb]; exact hi) (by rw [merS_len hb]; exact hj) hc)), putAt_firsts hab (by omega), firsts_few hm]
  · unfold jointL
    rw [numL_eq (by omega) (by omega), putAt_get (by omega), putAt_get (by omega), if_neg (by omega), if_pos rfl]
    unfold dnI
    rw [if_pos hab]
/-- What is common to parts, and whether they can be of one vessel. -/
def comL (s : List Pn) (l : List Nat) : Int × Int := l.foldl (fun r i => (max r.1 (s.getD i default).lo, min r.2 (s.getD i default).hi)) (0, 1000)
def oneB (s : List Pn) (l : List Nat) : Bool := (List.range l.length).all fun i => (List.range i).all fun k => !clB s (l.getD i 0) (l.getD k 0)
theorem oneB_iff {s : List Pn} {l : List Nat} : oneB s l = true ↔ ∀ i k, k < i → i < l.length → clB s (l.getD i 0) (l.getD k 0) = false := by
  unfold oneB
  simp only [List.all_eq_true, List.mem_range, Bool.not_eq_true']
  exact ⟨fun h i k hk hi => h i hi k hk, fun h i hi k hk => h i k hk hi⟩
open Go
def bellS : List Pn := [⟨10, 20, true⟩, ⟨15, 30, false⟩, ⟨25, 40, true⟩, ⟨12, 14, false⟩]
def moreS : List Pn := [⟨10, 20, true⟩, ⟨15, 30, false⟩, ⟨25, 40, true⟩, ⟨12, 14, false⟩, ⟨12, 13, true⟩]
theorem bell_ok : OkS bellS := by unfold OkS bellS; decide
theorem more_ok : OkS moreS := by unfold OkS moreS; decide
/-- The least number, by a reassembly and a witness. -/
theorem least_by {s : List Pn} (hs : OkS s) (v l : List Int) {m : Nat} (h1 : asgM s v = some m) (h2 : witB s [] l = true) (h3 : l.length = m) : leastN s = m :=
  Nat.le_antisymm (asgM_ge hs h1).1 (h3 ▸ witB_le hs h2)
theorem bell_least : leastN bellS = 2 := least_by bell_ok [0, 1, 1, 0] [0, 2] (by decide) (by decide) rfl
theorem more_least : leastN moreS = 3 := least_by more_ok [0, 0, 1, 2, 2] [0, 2, 4] (by decide) (by decide) rfl
theorem more_e0 : leastN (moreS.eraseIdx 0) = 2 := least_by (more_ok.erase 0) [0, 0, 1, 1] [0, 2] (by decide) (by decide) rfl
theorem more_e1 : leastN (moreS.eraseIdx 1) = 3 := least_by (more_ok.erase 1) [0, 1, 2, 2] [0, 1, 3] (by decide) (by decide) rfl
theorem more_e2 : leastN (moreS.eraseIdx 2) = 2 := least_by (more_ok.erase 2) [0, 0, 1, 1] [1, 2] (by decide) (by decide) rfl
theorem more_e3 : leastN (moreS.eraseIdx 3) = 3 := least_by (more_ok.erase 3) [0, 0, 1, 2] [0, 2, 3] (by decide) (by decide) rfl
theorem more_e4 : leastN (moreS.eraseIdx 4) = 2 := least_by (more_ok.erase 4) [0, 1, 1, 0] [0, 2] (by decide) (by decide) rfl
theorem bell_dem : dem moreS 10 40 = 3 := by decide
theorem bell_m01 : merS bellS 0 1 = [⟨15, 20, true⟩, ⟨25, 40, true⟩, ⟨12, 14, false⟩] := by decide
theorem bell_m03 : merS bellS 0 3 = [⟨12, 14, true⟩, ⟨15, 30, false⟩, ⟨25, 40, true⟩] := by decide
theorem bell_l01 : leastN (merS bellS 0 1) = 3 := by
  rw [bell_m01]
  exact least_by (by unfold OkS; decide) [0, 1, 2] [0, 1, 2] (by decide) (by decide) rfl
theorem bell_l03 : leastN (merS bellS 0 3) = 2 := by
  rw [bell_m03]
  exact least_by (by unfold OkS; decide) [0, 1, 1] [0, 2] (by decide) (by decide) rfl
set_option maxRecDepth 10000 in
theorem bell_joint : jointL bellS 0 3 = [0, 1, 1, 0] := by decide +kernel
end Go.Proofs.YtodkbfbbpfghiaaGreat
namespace Go.Proofs.YtodkbfbbpfghiaaGreat
open Go.RowKit
/-- How a round is left. -/
def roundEnd {σ : Type} (B : Nat) (I : σ → World → Prop) (Ix : Code → σ → World → Prop) (s : σ) (W : World) : Exit → Act → World → Prop
  | .normal, _, W' => KeepsFrom B W W' ∧ I s W'
  | .ret, _, W' => KeepsFrom B W W' ∧ Ix .ret s W'
  | .exit id, _, W' => KeepsFrom B W W' ∧ Ix (.exit id) s W'
  | .goto t, _, W' => KeepsFrom B W W' ∧ Ix (.goto t) s W'
  | .panic _, _, _ => False
  | .outgrown, _, _ => False
theorem range_state {P : Program} {σ α : Type} {g : Operand} {ps : Array Tmp} {assign body : Code} {Q : Exit → Act → World → Prop} {a : Act} {w : World}
    {gf : Nat} {lb : Array Value} (hg : a.eval g = .func (.func gf) #[] lb) (eg : ∀ args w, (callFunc gf args).run P w = .ok (.enter gf args) w)
    {encs : α → Array Value} (hps : ∀ x, (encs x).size = ps.size)
    (I : σ → World → Prop) (Ix : Code → σ → World → Prop) (hI : OwnFrom w.heap.size I) (hIx : ∀ c, OwnFrom w.heap.size (Ix c)) (s0 : σ) (h0 : I s0 w)
    (ok : σ → α → Prop) (upd : σ → α → σ) (Ax : σ → α → Act → World → Prop) (hAx : ∀ s x a', OwnFrom w.heap.size (fun (_ : Unit) W => Ax s x a' W))
    (fin finx : σ → Prop)
    (hiter : ∀ (l : Nat) (J Jx : σ → World → Prop) (W : World), Below w.heap.size w W → AbidesFrom W.heap.size J → AbidesFrom W.heap.size Jx → (∀ s W, J s W → I s W) → (∀ s W, Jx s W → ∃ c, Ix c s W) →
      (∀ s x W1, J s W1 → ok s x → YieldAt Fence.wide 0 P l (encs x) W1 fun e W' => (e = .returned (.bool true) ∧ J (upd s x) W') ∨ (e = .returned (.bool false) ∧ Jx (upd s x) W')) →
      J s0 W → CallsIn Fence.wide 0 P gf (#[.func (.yield l) #[] #[]] ++ lb) W fun e W' => (∃ v, e = .returned v) ∧ ((∃ s, fin s ∧ J s W') ∨ (∃ s, finx s ∧ Jx s W')))
    (hassign : ∀ (l : Nat) (s : σ) (x : α) (W : World) (K : Act → World → Prop), I s W → ok s x → (∀ a' W', KeepsFrom w.heap.size W W' → I s W' → Ax s x a' W' → K a' W') →
      assign.wpIn (Fence.wide.inRound l) 0 P (Exit.then K (fun _ _ _ => False)) { tmps := (ps.zip (encs x)).foldl (fun t (p, v) => t.setIfInBounds p v) a.tmps, defers := [] } W)
    (hbody : ∀ (l : Nat) (s : σ) (x : α) (a' : Act) (W : World), w.heap.size ≤ l → I s W → ok s x → Ax s x a' W → body.wpIn (Fence.wide.inRound l) 0 P (roundEnd w.heap.size I Ix (upd s x) W) a' W)
    (hdone : ∀ (D : Nat) (s : σ) (W : World), w.heap.size ≤ D → fin s → I s W → W.heap[D]? = some (.deferred (some [])) → Q .normal { a with defers := { target := .collected D, args := #[] } :: a.defers } W)
    (hstop : ∀ (D : Nat) (c : Code) (s : σ) (W : World), w.heap.size ≤ D → finx s → Ix c s W → W.heap[D]? = some (.deferred (some [])) → c.wp P Q { a with defers := { target := .collected D, args := #[] } :: a.defers } W) :
    (Code.rangeFunc g ps assign body).wp P Q a w := by
  refine (wpIn_wide (n := 0)).1 (wpIn_rangeFunc fun fn hfn => ?_)
  obtain ⟨rec, hrec⟩ : ∃ rec : LoopState → Option Code → Loop, rec = fun st pe => { state := st, pending := pe, fn, tmps := a.tmps, params := ps, assign, body, defers := w.heap.size } := ⟨_, rfl⟩
  obtain ⟨W1, hW1⟩ : ∃ W1, (w.alloc (.deferred (some []))).alloc (.loop (rec .ready none)) = W1 := ⟨_, rfl⟩
  have hL1 : W1.heap[w.heap.size + 1]? = some (.loop (rec .ready none)) := by
    rw [← hW1]; have := World.alloc_heap_new (w.alloc (.deferred (some []))) (.loop (rec .ready none)); rwa [World.size_alloc] at this
  have hK1 : W1.heap[w.heap.size]? = some (.deferred (some [])) := by
    rw [← hW1]; exact (Below.heap_alloc _ _ _ (by simp)).trans (World.alloc_heap_new w _)
  have hI1 : I s0 W1 := by rw [← hW1]; exact hI.alloc _ (hI.alloc _ h0)
  have hb1 : Below w.heap.size w W1 := by
    rw [← hW1]; exact ((Below.refl _ w).alloc (Nat.le_refl _) _).alloc (by simp) _
  have hz1 : w.heap.size + 2 ≤ W1.heap.size := by rw [← hW1]; simp
  -- the two blocks of book-keeping, beside an invariant
  let J : σ → World → Prop := fun s W => I s W ∧ W.heap[w.heap.size + 1]? = some (.loop (rec .ready none)) ∧ W.heap[w.heap.size]? = some (.deferred (some []))
  let Jx : σ → World → Prop := fun s W => ∃ c, Ix c s W ∧ W.heap[w.heap.size + 1]? = some (.loop (rec .done (some c))) ∧ W.heap[w.heap.size]? = some (.deferred (some []))
  have far : ∀ {A B : World} {row : Option Nat} {k : Nat}, A.grownBy B row → (∀ r, row = some r → W1.heap.size ≤ r ∧ ∃ o : Obj, A.heap[r]? = some o ∧ o.isWalk = true) → k < W1.heap.size → k < A.heap.size → B.heap[k]? = A.heap[k]? :=
    fun hg hr hk hk' => hg.block _ hk' (fun e => by have := (hr _ e.symm).1; omega)
  have low : ∀ {A : World} {k : Nat} {o : Obj}, A.heap[k]? = some o → k < A.heap.size := fun h => (Array.getElem?_eq_some_iff.1 h).1
  have nocells : ∀ {A B : World} {row : Option Nat}, (∀ r, row = some r → W1.heap.size ≤ r ∧ ∃ o : Obj, A.heap[r]? = some o ∧ o.isWalk = true) → (∀ r, row = some r → w.heap.size ≤ r ∧ ∃ o : Obj, A.heap[r]? = some o ∧ o.isCells = false) :=
    fun hr r e => by obtain ⟨h1, o, ho, hw⟩ := hr r e; exact ⟨by omega, o, ho, Obj.not_cells_of_walk hw⟩
  have hJ : AbidesFrom W1.heap.size J := fun s A B row hs hg' hr =>
    ⟨hI s A B row hs.1 hg' (nocells (B := B) hr), (far hg' hr (by omega) (low hs.2.1)).trans hs.2.1, (far hg' hr (by omega) (low hs.2.2)).trans hs.2.2⟩
  have hJx : AbidesFrom W1.heap.size Jx := fun s A B row hs hg' hr => by
    obtain ⟨c, hc, hl, hk⟩ := hs
    exact ⟨c, hIx c s A B row hc hg' (nocells (B := B) hr), (far hg' hr (by omega) (low hl)).trans hl, (far hg' hr (by omega) (low hk)).trans hk⟩
  refine ⟨w.heap.size + 1, [{ target := .collected w.heap.size, args := #[] }], W1, { target := .fn (.func gf) lb, args := #[.func (.yield (w.heap.size + 1)) #[] #[]] }, W1, gf,
    #[.func (.yield (w.heap.size + 1)) #[] #[]] ++ lb, W1, ?_, ?_, fun _ _ => trivial, ?_, fun h => by simp [Fence.wide] at h, ?_⟩
  · rw [← hW1, hrec]; exact run_enterLoop_outer _ _ _ _ _
  · simp only [resolve, hg]
    simp [go_sem]
  · simp [invoke, go_sem, eg]
  refine (hiter (w.heap.size + 1) J Jx W1 hb1 hJ hJx (fun _ _ h => h.1) (fun _ _ h => let ⟨c, hc, _⟩ := h; ⟨c, hc⟩) ?_ ⟨hI1, hL1, hK1⟩).mono ?_
  · -- a round
    rintro s x W ⟨hi, hl, hk⟩ hok
    have hy := run_yield (P := P) (args := encs x) hl (by rw [hrec]; exact hps x)
    rw [hrec] at hy
    refine ⟨fn, _, assign, body, hy, roundIn_of_wpIn hfn (hassign _ s x W _ hi hok fun a' Wa hka hia hax => ?_)⟩
    have hla := hka.same _ _ (by omega) hl rfl
    have hda := hka.same _ _ (Nat.le_refl _) hk rfl
    refine ⟨_, run_beginRound hla (by rw [hrec]), ?_⟩
    obtain ⟨Wb, hWb⟩ : ∃ Wb, Wa.putObj (w.heap.size + 1) (.loop { rec .ready none with state := .busy }) = Wb := ⟨_, rfl⟩
    rw [hWb]
    have hlb : Wb.heap[w.heap.size + 1]? = some (.loop { rec .ready none with state := .busy }) := by rw [← hWb]; exact World.putObj_heap_same (low hla)
    have hdb : Wb.heap[w.heap.size]? = some (.deferred (some [])) := by rw [← hWb]; exact (World.putObj_heap_other (by omega)).trans hda
    have hib : I s Wb := by rw [← hWb]; exact hI.putObj _ hia (by omega) hla rfl
    have hab : Ax s x a' Wb := by rw [← hWb]; exact (hAx s x a').putObj (s := ()) _ hax (by omega) hla rfl
    refine wpIn_mono (hbody _ s x a' Wb (by omega) hib hok hab) ?_
    have out : ∀ (jump : Option Code) (W3 : World), KeepsFrom w.heap.size Wb W3 →
        (Instr.endRound (w.heap.size + 1) jump).run P W3 = .ok (.bool jump.isNone) (W3.putObj (w.heap.size + 1) (.loop (rec (if jump.isNone then .ready else .done) jump))) ∧
        W3.heap[w.heap.size + 1]? = some (.loop { rec .ready none with state := .busy }) ∧
        (W3.putObj (w.heap.size + 1) (.loop (rec (if jump.isNone then .ready else .done) jump))).heap[w.heap.size + 1]? = some (.loop (rec (if jump.isNone then .ready else .done) jump)) ∧
        (W3.putObj (w.heap.size + 1) (.loop (rec (if jump.isNone then .ready else .done) jump))).heap[w.heap.size]? = some (.deferred (some [])) := fun jump W3 hk3 => by
      have hl3 := hk3.same _ _ (by omega) hlb rfl
      have hr3 := run_endRound (P := P) jump hl3
      refine ⟨by rw [hrec] at hr3 ⊢; exact hr3, hl3, World.putObj_heap_same (low hl3), (World.putObj_heap_other (by omega)).trans (hk3.same _ _ (Nat.le_refl _) hdb rfl)⟩
    have jump : ∀ (c : Code) (W3 : World), KeepsFrom w.heap.size Wb W3 → Ix c (upd s x) W3 → ∃ v w', (Instr.endRound (w.heap.size + 1) (some c)).run P W3 = .ok v w' ∧ (Ending.returned v = .returned (.bool true) ∧ J (upd s x) w' ∨ Ending.returned v = .returned (.bool false) ∧ Jx (upd s x) w') := fun c W3 hk3 hi3 => by
      obtain ⟨hr, hl3, hl4, hk4⟩ := out (some c) W3 hk3
      exact ⟨_, _, hr, .inr ⟨rfl, c, (hIx _).putObj _ hi3 (by omega) hl3 rfl, hl4, hk4⟩⟩
    rintro e a3 W3 hp
    cases e with
    | normal =>
      obtain ⟨hr, hl3, hl4, hk4⟩ := out none W3 hp.1
      exact ⟨_, _, hr, .inl ⟨rfl, hI.putObj _ hp.2 (by omega) hl3 rfl, hl4, hk4⟩⟩
    | ret => exact jump _ _ hp.1 hp.2
    | exit id => exact jump _ _ hp.1 hp.2
    | goto t => exact jump _ _ hp.1 hp.2
    | panic ch => exact hp.elim
    | outgrown => exact hp.elim
  · rintro e W2 ⟨⟨v, rfl⟩, (⟨s, hS, hi, hl, hk⟩ | ⟨s, hS, c, hi, hl, hk⟩)⟩
    · exact ⟨none, _, by have := run_endLoop (P := P) hl (by rw [hrec]; simp); rw [hrec] at this; exact this, hdone _ s _ (Nat.le_refl _) hS (hI.putObj _ hi (by omega) hl rfl) ((World.putObj_heap_other (by omega)).trans hk)⟩
    · exact ⟨some c, _, by have := run_endLoop (P := P) hl (by rw [hrec]; simp); rw [hrec] at this; exact this, wpIn_wide.2 (hstop _ c s _ (Nat.le_refl _) hS ((hIx c).putObj _ hi (by omega) hl rfl) ((World.putObj_heap_other (by omega)).trans hk))⟩
end Go.Proofs.YtodkbfbbpfghiaaGreat

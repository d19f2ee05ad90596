/-
  Lemmas and walks for the laws on roads and boards: what each function of the program answers, for every input.
-/
import Derived.Test.YtodkbfbbpfghiaaGreatPc02
set_option linter.unusedSimpArgs false
set_option linter.unusedVariables false
set_option linter.unnecessarySimpa false
namespace Go.Proofs.YtodkbfbbpfghiaaGreat
def candB (s : List Pn) (out : List Int) (x : Int) (p : Nat) : Bool := (s.getD p default).ft && decide (out.getD p 0 < 0) && decide ((s.getD p default).lo ≤ x) && decide (x ≤ (s.getD p default).hi)
/-- The one that is taken, of the first n parts; -1: none. -/
def pickN (s : List Pn) (out : List Int) (x : Int) : Nat → Int
  | 0 => -1
  | n + 1 => if candB s out x n && (decide (pickN s out x n < 0) || decide ((s.getD n default).hi < (s.getD (pickN s out x n).toNat default).hi)) then (n : Int) else pickN s out x n
def updS (s : List Pn) (out : List Int) (x : Int) (v : Nat) : List Int := if 0 ≤ pickN s out x s.length then out.set (pickN s out x s.length).toNat v else out
def edfN (s : List Pn) (pts : List Int) : Nat → List Int
  | 0 => List.replicate s.length (-1)
  | v + 1 => updS s (edfN s pts v) (pts.getD v 0) v
/-- The vessels, numbered by the points. -/
def fewL (s : List Pn) : List Int := (List.range s.length).map fun p => if (s.getD p default).ft then (edfN s (ptsL s) (ptsL s).length).getD p 0 else (before (ptsL s) (s.getD p default).lo : Int)
theorem candB_iff {s : List Pn} {out : List Int} {x : Int} {p : Nat} : candB s out x p = true ↔ (s.getD p default).ft = true ∧ out.getD p 0 < 0 ∧ (s.getD p default).lo ≤ x ∧ x ≤ (s.getD p default).hi := by
  simp only [candB, Bool.and_eq_true, decide_eq_true_eq, and_assoc]
theorem pickN_spec (s : List Pn) (out : List Int) (x : Int) : ∀ n, (pickN s out x n = -1 ∧ ∀ p, p < n → candB s out x p = false) ∨
    (∃ p : Nat, pickN s out x n = p ∧ p < n ∧ candB s out x p = true ∧ ∀ q, q < n → candB s out x q = true → (s.getD p default).hi ≤ (s.getD q default).hi)
  | 0 => .inl ⟨rfl, fun p hp => absurd hp (by omega)⟩
  | n + 1 => by
    unfold pickN
    rcases pickN_spec s out x n with ⟨h1, h2⟩ | ⟨p, h1, h2, h3, h4⟩
    · rw [h1]
      by_cases hc : candB s out x n = true
      · right
        refine ⟨n, by rw [hc]; simp, by omega, hc, fun q hq hqc => ?_⟩
        rcases Nat.lt_or_ge q n with h | h
        · rw [h2 q h] at hqc; cases hqc
        · obtain rfl : q = n := by omega
          omega
      · left
        simp only [Bool.not_eq_true] at hc
        refine ⟨by rw [hc]; simp, fun q hq => ?_⟩
        rcases Nat.lt_or_ge q n with h | h
        · exact h2 q h
        · obtain rfl : q = n := by omega
          exact hc
    · rw [h1]
      right
      by_cases hc : candB s out x n = true ∧ (s.getD n default).hi < (s.getD p default).hi
      · refine ⟨n, by rw [hc.1, Int.toNat_natCast, decide_eq_true hc.2]; simp, by omega, hc.1, fun q hq hqc => ?_⟩
        rcases Nat.lt_or_ge q n with h | h
        · have := h4 q h hqc; omega
        · obtain rfl : q = n := by omega
          omega
      · refine ⟨p, ?_, by omega, h3, fun q hq hqc => ?_⟩
        · rw [if_neg]
          simp only [Int.toNat_natCast, Bool.and_eq_true, Bool.or_eq_true, decide_eq_true_eq]
          rintro ⟨a, b | b⟩
          · omega
          · exact hc ⟨a, b⟩
        · rcases Nat.lt_or_ge q n with h | h
          · exact h4 q h hqc
          · obtain rfl : q = n := by omega
            by_cases hlt : (s.getD q default).hi < (s.getD p default).hi
            · exact absurd ⟨hqc, hlt⟩ hc
            · omega
theorem updS_len (s : List Pn) (out : List Int) (x : Int) (v : Nat) : (updS s out x v).length = out.length := by unfold updS; split <;> simp
theorem edfN_len (s : List Pn) (pts : List Int) : ∀ v, (edfN s pts v).length = s.length
  | 0 => by simp [edfN]
  | v + 1 => by rw [edfN, updS_len, edfN_len s pts v]
theorem getD_set {l : List Int} {i j : Nat} {y : Int} (hi : i < l.length) : (l.set i y).getD j 0 = if j = i then y else l.getD j 0 := by
  simp only [List.getD_eq_getElem?_getD, List.getElem?_set]
  by_cases h : i = j
  · subst h; simp [hi]
  · rw [if_neg h, if_neg (fun e => h e.symm)]
/-- One step: what is taken gets the number, what is not stays. -/
theorem edfN_step (s : List Pn) (pts : List Int) (v p : Nat) : (edfN s pts (v + 1)).getD p 0 = if pickN s (edfN s pts v) (pts.getD v 0) s.length = p then (v : Int) else (edfN s pts v).getD p 0 := by
  rw [edfN]
  unfold updS
  have hl := edfN_len s pts v
  rcases pickN_spec s (edfN s pts v) (pts.getD v 0) s.length with ⟨h1, _⟩ | ⟨q, h1, h2, _, _⟩
  · rw [h1, if_neg (by omega), if_neg (by omega)]
  · rw [h1, if_pos (by omega), Int.toNat_natCast, getD_set (by omega)]
    by_cases e : p = q
    · subst e; simp
    · rw [if_neg e, if_neg (by omega)]
theorem edfN_start (s : List Pn) (pts : List Int) {p : Nat} (hp : p < s.length) : (edfN s pts 0).getD p 0 = -1 := by
  simp [edfN, List.getD_eq_getElem?_getD, List.getElem?_replicate, hp]
theorem edfN_inv (s : List Pn) (pts : List Int) : ∀ v p, p < s.length → ((edfN s pts v).getD p 0 = -1 ∨ ∃ u : Nat, u < v ∧ (edfN s pts v).getD p 0 = u ∧ pickN s (edfN s pts u) (pts.getD u 0) s.length = p)
  | 0, p, hp => .inl (edfN_start s pts hp)
  | v + 1, p, hp => by
    rw [edfN_step]
    split
    · rename_i h
      exact .inr ⟨v, by omega, rfl, h⟩
    · rcases edfN_inv s pts v p hp with h | ⟨u, h1, h2, h3⟩
      · exact .inl h
      · exact .inr ⟨u, by omega, h2, h3⟩
theorem edfN_keep (s : List Pn) (pts : List Int) {v p : Nat} (h : 0 ≤ (edfN s pts v).getD p 0) : (edfN s pts (v + 1)).getD p 0 = (edfN s pts v).getD p 0 := by
  rw [edfN_step]
  split
  · rename_i h1
    rcases pickN_spec s (edfN s pts v) (pts.getD v 0) s.length with ⟨h2, _⟩ | ⟨q, h2, _, h3, _⟩
    · omega
    · have e : q = p := by omega
      subst e
      have := (candB_iff.1 h3).2.1
      omega
  · rfl
theorem edfN_later (s : List Pn) (pts : List Int) {v v' p : Nat} (hv : v ≤ v') (h : 0 ≤ (edfN s pts v).getD p 0) : (edfN s pts v').getD p 0 = (edfN s pts v).getD p 0 := by
  induction hv with
  | refl => rfl
  | step _ ih => rw [edfN_keep s pts (by rw [ih]; exact h), ih]
theorem last_break (S : Nat → Prop) : ∀ V : Nat, ∃ t, t ≤ V ∧ (∀ v, t ≤ v → v < V → S v) ∧ (t = 0 ∨ ¬ S (t - 1))
  | 0 => ⟨0, Nat.le_refl _, fun v _ h => absurd h (by omega), .inl rfl⟩
  | V + 1 => by
    by_cases h : S V
    · obtain ⟨t, h1, h2, h3⟩ := last_break S V
      refine ⟨t, by omega, fun v hv hv' => ?_, h3⟩
      rcases Nat.lt_or_ge v V with hl | hl
      · exact h2 v hv hl
      · obtain rfl : v = V := by omega
        exact h
    · exact ⟨V + 1, Nat.le_refl _, fun v hv hv' => absurd hv' (by omega), .inr (by simpa using h)⟩

/-- Each part with a foot is taken. -/
theorem edf_all {s : List Pn} (hs : OkS s) {p : Nat} (hp : p < s.length) (hf : (s.getD p default).ft = true) : 0 ≤ (edfN s (ptsL s) (ptsL s).length).getD p 0 := by
  obtain ⟨hasc, hcnt, hlen, hpos⟩ := ptsL_ok hs
  generalize hpts : ptsL s = pts at *
  have op := hs _ (Pn.mem hp)
  rcases (by omega : 0 ≤ (edfN s pts pts.length).getD p 0 ∨ (edfN s pts pts.length).getD p 0 < 0) with h | hneg
  · exact h
  exfalso
  have hun : ∀ v, v ≤ pts.length → (edfN s pts v).getD p 0 < 0 := fun v hv => by
    rcases (by omega : 0 ≤ (edfN s pts v).getD p 0 ∨ (edfN s pts v).getD p 0 < 0) with h | h
    · have := edfN_later s pts hv h; omega
    · exact h
  obtain ⟨H, hH⟩ : ∃ H : Nat, (s.getD p default).hi = H := ⟨(s.getD p default).hi.toNat, by omega⟩
  let V := before pts ((H + 1 : Nat) : Int)
  have hVle : V ≤ pts.length := before_le _ _
  have hV : V = BB s (H + 1) := hcnt _
  have hx : ∀ v, v < V → pts.getD v 0 ≤ H := fun v hv => by
    have := (before_iff (x := ((H + 1 : Nat) : Int)) hasc (k := v) (by omega)).1 hv; omega
  let pk := fun v => pickN s (edfN s pts v) (pts.getD v 0) s.length
  obtain ⟨t, ht, hS, ht0⟩ := last_break (fun v => ∃ q : Nat, pk v = q ∧ (s.getD q default).hi ≤ H) V
  let Q := (List.range' t (V - t)).map fun v => (pk v).toNat
  have hQ : ∀ v, t ≤ v → v < V → ∃ q : Nat, pk v = q ∧ q < s.length ∧ candB s (edfN s pts v) (pts.getD v 0) q = true ∧ (s.getD q default).hi ≤ H := fun v h1 h2 => by
    obtain ⟨q, hq, hqh⟩ := hS v h1 h2
    rcases pickN_spec s (edfN s pts v) (pts.getD v 0) s.length with ⟨h, _⟩ | ⟨r, h, hr, hc, _⟩
    · have : pk v = -1 := h
      omega
    · have e : pk v = r := h
      have : r = q := by omega
      subst this
      exact ⟨r, hq, hr, hc, hqh⟩
  have hQm : ∀ q ∈ p :: Q, q < s.length ∧ (s.getD q default).ft = true ∧ (s.getD q default).hi ≤ H ∧ (0 < t → pts.getD (t - 1) 0 < (s.getD q default).lo) := fun q hq => by
    have key : ∀ r : Nat, r < s.length → (s.getD r default).ft = true → (s.getD r default).hi ≤ H → (∀ u, u ≤ t → (edfN s pts u).getD r 0 < 0) → (0 < t → pts.getD (t - 1) 0 ≤ (s.getD r default).hi) → (0 < t → pts.getD (t - 1) 0 < (s.getD r default).lo) := fun r hr hrf hrh hru hrx h0 => by
      rcases (by omega : pts.getD (t - 1) 0 < (s.getD r default).lo ∨ (s.getD r default).lo ≤ pts.getD (t - 1) 0) with h | h
      · exact h
      exfalso
      have hc : candB s (edfN s pts (t - 1)) (pts.getD (t - 1) 0) r = true := candB_iff.2 ⟨hrf, hru _ (by omega), h, hrx h0⟩
      rcases pickN_spec s (edfN s pts (t - 1)) (pts.getD (t - 1) 0) s.length with ⟨_, h1⟩ | ⟨q', h1, _, _, h3⟩
      · rw [h1 r hr] at hc; cases hc
      · rcases ht0 with e | e
        · omega
        · exact e ⟨q', h1, by have := h3 r hr hc; omega⟩
    rcases List.mem_cons.1 hq with rfl | hq
    · exact ⟨hp, hf, by omega, key q hp hf (by omega) (fun u hu => hun u (by omega)) (fun h0 => by have := hx (t - 1) (by omega); omega)⟩
    · obtain ⟨v, hv, rfl⟩ := List.mem_map.1 hq
      obtain ⟨hv1, hv2⟩ := List.mem_range'_1.1 hv
      obtain ⟨q, h1, h2, h3, h4⟩ := hQ v hv1 (by omega)
      have e : (pk v).toNat = q := by omega
      rw [e]
      obtain ⟨c1, c2, c3, c4⟩ := candB_iff.1 h3
      refine ⟨h2, c1, h4, key q h2 c1 h4 (fun u hu => ?_) (fun h0 => ?_)⟩
      · rcases (by omega : 0 ≤ (edfN s pts u).getD q 0 ∨ (edfN s pts u).getD q 0 < 0) with h | h
        · have := edfN_later s pts (v := u) (v' := v) (by omega) h; omega
        · exact h
      · have := pw_get hasc (i := t - 1) (j := v) (by omega) (by omega)
        omega
  have hnd : (p :: Q).Nodup := by
    refine List.nodup_cons.2 ⟨fun hm => ?_, ?_⟩
    · obtain ⟨v, hv, e⟩ := List.mem_map.1 hm
      obtain ⟨hv1, hv2⟩ := List.mem_range'_1.1 hv
      obtain ⟨q, h1, h2, h3, h4⟩ := hQ v hv1 (by omega)
      have e' : pickN s (edfN s pts v) (pts.getD v 0) s.length = p := by
        have : (pk v).toNat = p := e
        have : pk v = p := by omega
        exact this
      have := hun (v + 1) (by omega)
      rw [edfN_step, if_pos e'] at this
      omega
    · rw [List.Nodup, List.pairwise_map]
      refine List.Pairwise.imp_of_mem (fun {a b} ha hb hab => ?_) (List.nodup_range' (s := t) (n := V - t) (step := 1))
      obtain ⟨ha1, ha2⟩ := List.mem_range'_1.1 ha
      obtain ⟨hb1, hb2⟩ := List.mem_range'_1.1 hb
      obtain ⟨q, h1, h2, h3, h4⟩ := hQ a ha1 (by omega)
      obtain ⟨r, g1, g2, g3, g4⟩ := hQ b hb1 (by omega)
      intro e
      have hqr : q = r := by omega
      subst hqr
      have k1 : (edfN s pts (a + 1)).getD q 0 = a := by rw [edfN_step, if_pos h1]
      have k2 : (edfN s pts (b + 1)).getD q 0 = b := by rw [edfN_step, if_pos g1]
      rcases (by omega : a < b ∨ b < a) with h | h
      · have := edfN_later s pts (v := a + 1) (v' := b + 1) (by omega) (by omega) (p := q); omega
      · have := edfN_later s pts (v := b + 1) (v' := a + 1) (by omega) (by omega) (p := q); omega
  obtain ⟨m, hm, hmin⟩ := exists_min (fun q : Nat => (s.getD q default).lo) (l := p :: Q) (by simp)
  have hmm := hQm m hm
  have om := hs _ (Pn.mem hmm.1)
  obtain ⟨A, hA⟩ : ∃ A : Nat, (s.getD m default).lo = A := ⟨(s.getD m default).lo.toNat, by omega⟩
  have hcountA := nodup_count (fun q : Pn => inB A H q && q.ft) s default (p :: Q) hnd (fun i hi => by
    obtain ⟨a, b, c, _⟩ := hQm i hi
    have := hmin i hi
    refine ⟨a, ?_⟩
    simp only [Bool.and_eq_true, inB_iff]
    exact ⟨⟨by omega, c⟩, b⟩)
  have hfe : (p :: Q).length ≤ feet s A H := hcountA
  have hd := feet_le_dem s A H
  have hBt : t ≤ BB s A := by
    rw [← hcnt A]
    rcases Nat.eq_zero_or_pos t with e | e
    · omega
    · have := (before_iff (x := (A : Int)) hasc (k := t - 1) (by omega)).2 (by have := hmm.2.2.2 e; omega)
      omega
  have hany := BB_any hs (l := A) (h := H) (by have := hmm.2.2.1; omega)
  simp only [List.length_cons, Q, List.length_map, List.length_range'] at hfe
  omega
theorem fewL_len (s : List Pn) : (fewL s).length = s.length := by simp [fewL]
theorem fewL_get (s : List Pn) {p : Nat} (hp : p < s.length) : (fewL s).getD p 0 = if (s.getD p default).ft then (edfN s (ptsL s) (ptsL s).length).getD p 0 else (before (ptsL s) (s.getD p default).lo : Int) := by
  simp [fewL, List.getD_eq_getElem?_getD, hp]
/-- Each part's vessel is a point in its span; no vessel has two feet. -/
theorem fewL_spec {s : List Pn} (hs : OkS s) {p : Nat} (hp : p < s.length) : ∃ v : Nat, (fewL s).getD p 0 = v ∧ v < leastN s ∧ (s.getD p default).lo ≤ (ptsL s).getD v 0 ∧ (ptsL s).getD v 0 ≤ (s.getD p default).hi ∧
    ((s.getD p default).ft = true → pickN s (edfN s (ptsL s) v) ((ptsL s).getD v 0) s.length = p) := by
  obtain ⟨hasc, hcnt, hlen, hpos⟩ := ptsL_ok hs
  rw [fewL_get s hp]
  have op := hs _ (Pn.mem hp)
  by_cases hf : (s.getD p default).ft = true
  · rw [if_pos hf]
    have h0 := edf_all hs hp hf
    rcases edfN_inv s (ptsL s) (ptsL s).length p hp with h | ⟨u, h1, h2, h3⟩
    · omega
    · refine ⟨u, h2, by omega, ?_, ?_, fun _ => h3⟩
      all_goals
        rcases pickN_spec s (edfN s (ptsL s) u) ((ptsL s).getD u 0) s.length with ⟨h, _⟩ | ⟨q, h, _, hc, _⟩
        · omega
        · have e : q = p := by omega
          subst e
          have := candB_iff.1 hc
          first | exact this.2.2.1 | exact this.2.2.2
  · rw [if_neg hf]
    obtain ⟨L, hL⟩ : ∃ L : Nat, (s.getD p default).lo = L := ⟨(s.getD p default).lo.toNat, by omega⟩
    obtain ⟨H, hH⟩ : ∃ H : Nat, (s.getD p default).hi = H := ⟨(s.getD p default).hi.toNat, by omega⟩
    have h1 := BB_any hs (l := L) (h := H) (by omega)
    have h2 : 0 < dem s L H := dem_pos.2 ⟨_, Pn.mem hp, by omega, by omega⟩
    have b1 := hcnt L
    have b2 := hcnt (H + 1)
    have b3 := before_le (ptsL s) ((H + 1 : Nat) : Int)
    rw [hL]
    refine ⟨before (ptsL s) L, rfl, by omega, ?_, ?_, fun h => absurd h hf⟩
    · rcases (by omega : (L : Int) ≤ (ptsL s).getD (before (ptsL s) L) 0 ∨ (ptsL s).getD (before (ptsL s) L) 0 < L) with h | h
      · exact h
      · have := (before_iff (x := (L : Int)) hasc (k := before (ptsL s) L) (by omega)).2 h; omega
    · have := (before_iff (x := ((H + 1 : Nat) : Int)) hasc (k := before (ptsL s) L) (by omega)).1 (by omega); omega
theorem fewL_ok {s : List Pn} (hs : OkS s) : AsgOk s (leastN s) fun p => ((fewL s).getD p 0).toNat := by
  refine ⟨fun p hp => ?_, fun p q hp hq hcl he => ?_⟩
  · obtain ⟨v, h1, h2, _⟩ := fewL_spec hs hp
    rw [h1]; simpa using h2
  · obtain ⟨v, h1, h2, h3, h4, h5⟩ := fewL_spec hs hp
    obtain ⟨u, g1, g2, g3, g4, g5⟩ := fewL_spec hs hq
    rw [h1, g1] at he
    have e : v = u := by simpa using he
    subst e
    have := clB_false (s := s) (a := p) (b := q) ((ptsL s).getD v 0) ⟨h3, h4⟩ ⟨g3, g4⟩ (by
      by_cases hb : (s.getD p default).ft = true ∧ (s.getD q default).ft = true
      · left
        have a1 := h5 hb.1
        have a2 := g5 hb.2
        omega
      · exact .inr hb)
    rw [hcl] at this
    cases this
/-- The different numbers of a list, as they come. -/
def firstsL (v : List Int) : List Int := v.foldl (fun a x => if a.contains x then a else a ++ [x]) []
/-- The list, numbered as its numbers come. -/
def numL (v : List Int) : List Int := v.map fun x => ((firstsL v).idxOf x : Int)
theorem firsts_go : ∀ (v a : List Int), a.Nodup → (v.foldl (fun a x => if a.contains x then a else a ++ [x]) a).Nodup ∧ (∃ t, v.foldl (fun a x => if a.contains x then a else a ++ [x]) a = a ++ t) ∧ ∀ x, x ∈ v.foldl (fun a x => if a.contains x then a else a ++ [x]) a ↔ x ∈ a ∨ x ∈ v
  | [], a, h => ⟨h, ⟨[], by simp⟩, by simp⟩
  | y :: v, a, h => by
    simp only [List.foldl_cons]
    by_cases hy : y ∈ a
    · rw [if_pos (by simpa using hy)]
      obtain ⟨h1, h2, h3⟩ := firsts_go v a h
      refine ⟨h1, h2, fun x => ?_⟩
      rw [h3, List.mem_cons]
      constructor
      · rintro (h | h) <;> simp [h]
      · rintro (h | h | h)
        · exact .inl h
        · subst h; exact .inl hy
        · exact .inr h
    · rw [if_neg (by simpa using hy)]
      obtain ⟨h1, ⟨t, h2⟩, h3⟩ := firsts_go v (a ++ [y]) (by
        rw [List.nodup_append]
        refine ⟨h, by simp, fun x hx z hz => ?_⟩
        simp at hz
        subst hz
        rintro rfl
        exact hy hx)
      refine ⟨h1, ⟨y :: t, by rw [h2]; simp⟩, fun x => ?_⟩
      rw [h3, List.mem_append, List.mem_singleton, List.mem_cons, or_assoc]
theorem firstsL_nodup (v : List Int) : (firstsL v).Nodup := (firsts_go v [] (by simp)).1
theorem mem_firstsL {v : List Int} {x : Int} : x ∈ firstsL v ↔ x ∈ v := by
  have := (firsts_go v [] (by simp)).2.2 x
  unfold firstsL
  simpa using this
theorem firstsL_snoc (v : List Int) (x : Int) : firstsL (v ++ [x]) = if (firstsL v).contains x then firstsL v else firstsL v ++ [x] := by simp [firstsL]
theorem firstsL_pre (v u : List Int) : ∃ t, firstsL (v ++ u) = firstsL v ++ t := by
  unfold firstsL
  rw [List.foldl_append]
  exact (firsts_go u _ (firstsL_nodup v)).2.1
theorem numL_len (v : List Int) : (numL v).length = v.length := by simp [numL]
theorem numL_get {v : List Int} {i : Nat} (hi : i < v.length) : (numL v).getD i 0 = ((firstsL v).idxOf (v.getD i 0) : Int) := by
  simp [numL, List.getD_eq_getElem?_getD, hi]
theorem idxOf_app {a t : List Int} {x : Int} (h : x ∈ a) : (a ++ t).idxOf x = a.idxOf x := by
  rw [List.idxOf_append, if_pos h]
theorem idxOf_inj {a : List Int} {x y : Int} (hx : x ∈ a) (h : a.idxOf x = a.idxOf y) : x = y := by
  have h1 := List.idxOf_lt_length_of_mem hx
  have e1 := List.getElem_idxOf h1
  have h2 : a.idxOf y < a.length := by omega
  have e2 := List.getElem_idxOf h2
  rw [← e1, ← e2]
  congr 1
theorem numL_eq {v : List Int} {i j : Nat} (hi : i < v.length) (hj : j < v.length) : (numL v).getD i 0 = (numL v).getD j 0 ↔ v.getD i 0 = v.getD j 0 := by
  rw [numL_get hi, numL_get hj]
  constructor
  · intro h
    exact idxOf_inj (mem_firstsL.2 (mem_getD hi)) (by omega)
  · intro h; rw [h]
/-- How many numbers are used, counted as they come; none where one is skipped. -/
def rgO : List Int → Nat → Option Nat
  | [], m => some m
  | x :: l, m => if 0 ≤ x ∧ x ≤ m then rgO l (if x = m then m + 1 else m) else none
theorem rgO_num : ∀ (u v : List Int), rgO (u.map fun x => ((firstsL (v ++ u)).idxOf x : Int)) (firstsL v).length = some (firstsL (v ++ u)).length
  | [], v => by simp [rgO]
  | x :: u, v => by
    have ih := rgO_num u (v ++ [x])
    rw [List.append_assoc] at ih
    simp only [List.map_cons, rgO]
    have hs := firstsL_snoc v x
    obtain ⟨t, ht⟩ := firstsL_pre (v ++ [x]) u
    rw [List.append_assoc] at ht
    simp only [List.singleton_append] at ht ih
    have hx : (firstsL (v ++ x :: u)).idxOf x = (firstsL (v ++ [x])).idxOf x := by
      rw [ht]; exact idxOf_app (mem_firstsL.2 (by simp))
    rw [hx]
    by_cases hc : x ∈ firstsL v
    · rw [if_pos (by simpa using hc)] at hs
      have h1 := List.idxOf_lt_length_of_mem hc
      rw [hs] at ih ⊢
      rw [if_pos (by omega), if_neg (by omega)]
      exact ih
    · rw [if_neg (by simpa using hc)] at hs
      have h1 : (firstsL (v ++ [x])).idxOf x = (firstsL v).length := by
        rw [hs, List.idxOf_append, if_neg hc]; simp
      rw [h1, if_pos (by omega), if_pos rfl]
      rw [hs] at ih
      simpa using ih
theorem rgO_numL (v : List Int) : rgO (numL v) 0 = some (firstsL v).length := rgO_num v []

/-- The greatest number and one. -/
def vesL (v : List Int) : Int := v.foldl (fun n x => max n (x + 1)) 0
theorem vesL_snoc (v : List Int) (x : Int) : vesL (v ++ [x]) = max (vesL v) (x + 1) := by simp [vesL]
theorem vesL_spec : ∀ v : List Int, 0 ≤ vesL v ∧ (∀ x ∈ v, x < vesL v) ∧ (vesL v = 0 ∨ ∃ x ∈ v, vesL v = x + 1) := by
  intro v
  have : ∀ (n : Nat), n ≤ v.length → 0 ≤ vesL (v.take n) ∧ (∀ x ∈ v.take n, x < vesL (v.take n)) ∧ (vesL (v.take n) = 0 ∨ ∃ x ∈ v.take n, vesL (v.take n) = x + 1) := by
    intro n
    induction n with
    | zero => intro _; simp [vesL]
    | succ n ih =>
      intro hn
      obtain ⟨h1, h2, h3⟩ := ih (by omega)
      rw [List.take_succ_eq_append_getElem (by omega), vesL_snoc]
      generalize v[n] = y
      refine ⟨by omega, fun x hx => ?_, ?_⟩
      · rcases List.mem_append.1 hx with hx | hx
        · have := h2 x hx; omega
        · simp at hx; omega
      · rcases (by omega : vesL (v.take n) ≤ y + 1 ∨ y + 1 < vesL (v.take n)) with h | h
        · right; exact ⟨y, by simp, by omega⟩
        · rcases h3 with h3 | ⟨x, hx, h3⟩
          · left; omega
          · right; exact ⟨x, by simp [hx], by omega⟩
  have := this v.length (Nat.le_refl _)
  rwa [List.take_length] at this
theorem vesL_of_full {v : List Int} {m : Int} (h0 : 0 ≤ m) (h1 : ∀ x ∈ v, x < m) (h2 : m = 0 ∨ (m - 1) ∈ v) : vesL v = m := by
  have hv := vesL_spec v
  apply Int.le_antisymm
  · rcases hv.2.2 with h | ⟨x, hx, h⟩
    · omega
    · have := h1 x hx; omega
  · rcases h2 with h | h
    · omega
    · have := hv.2.1 _ h; omega
/-- No two parts of one vessel clash. -/
def noClB (s : List Pn) (v : List Int) : Bool := (List.range v.length).all fun i => (List.range i).all fun k => !(v.getD k 0 == v.getD i 0 && clB s k i)
theorem noClB_iff {s : List Pn} {v : List Int} : noClB s v = true ↔ ∀ i k, k < i → i < v.length → v.getD k 0 = v.getD i 0 → clB s k i = false := by
  unfold noClB
  simp only [List.all_eq_true, List.mem_range, Bool.not_eq_true', Bool.and_eq_false_iff]
  constructor
  · intro h i k hk hi e
    rcases h i hi k hk with h | h
    · rw [e] at h; simp at h
    · exact h
  · intro h i hi k hk
    by_cases e : v.getD k 0 = v.getD i 0
    · exact .inr (h i k hk hi e)
    · exact .inl (by simpa using e)
/-- What the reference accepts as a reassembly, but for the limit: how many vessels it has. -/
def asgM (s : List Pn) (v : List Int) : Option Nat := if v.length = s.length ∧ noClB s v = true then rgO v 0 else none
theorem firsts_few {s : List Pn} (hs : OkS s) : (firstsL (fewL s)).length = leastN s := by
  have hl := fewL_len s
  apply Nat.le_antisymm
  · have := nodup_le (leastN s) ((firstsL (fewL s)).map Int.toNat) (by
      rw [List.Nodup, List.pairwise_map]
      refine List.Pairwise.imp_of_mem (fun {a b} ha hb hab => ?_) (firstsL_nodup _)
      obtain ⟨i, hi, rfl⟩ := getD_of_mem (mem_firstsL.1 ha)
      obtain ⟨j, hj, rfl⟩ := getD_of_mem (mem_firstsL.1 hb)
      obtain ⟨a, ha, _⟩ := fewL_spec hs (p := i) (by omega)
      obtain ⟨b, hb, _⟩ := fewL_spec hs (p := j) (by omega)
      omega) (fun x hx => by
      obtain ⟨y, hy, rfl⟩ := List.mem_map.1 hx
      obtain ⟨i, hi, rfl⟩ := getD_of_mem (mem_firstsL.1 hy)
      obtain ⟨a, ha, hlt, _⟩ := fewL_spec hs (p := i) (by omega)
      omega)
    simpa using this
  · refine least_le hs (f := fun i => (firstsL (fewL s)).idxOf ((fewL s).getD i 0)) ⟨fun a ha => ?_, fun a b ha hb hc e => ?_⟩
    · exact List.idxOf_lt_length_of_mem (mem_firstsL.2 (mem_getD (by omega)))
    · have := idxOf_inj (mem_firstsL.2 (mem_getD (by omega))) e
      exact (fewL_ok hs).cl a b ha hb hc (by show ((fewL s).getD a 0).toNat = _; rw [this])
theorem numL_asg {s : List Pn} {v : List Int} (hl : v.length = s.length) (h : ∀ a b, a < s.length → b < s.length → clB s a b = true → v.getD a 0 ≠ v.getD b 0) : asgM s (numL v) = some (firstsL v).length := by
  unfold asgM
  rw [if_pos, rgO_numL]
  refine ⟨by rw [numL_len, hl], noClB_iff.2 fun i k hki hi e => ?_⟩
  rw [numL_len] at hi
  rw [numL_eq (by omega) hi] at e
  rcases hcl : clB s k i with _ | _
  · rfl
  · exact absurd e (h k i (by omega) (by omega) hcl)
theorem fewL_cl {s : List Pn} (hs : OkS s) : ∀ a b, a < s.length → b < s.length → clB s a b = true → (fewL s).getD a 0 ≠ (fewL s).getD b 0 := fun a b ha hb hc e => (fewL_ok hs).cl a b ha hb hc (by show ((fewL s).getD a 0).toNat = _; rw [e])
/-- The index of a part once part a is gone, and back. -/
def upI (a i : Nat) : Nat := if i < a then i else i + 1
def dnI (a i : Nat) : Nat := if i < a then i else i - 1
theorem updn {a i : Nat} (hi : i ≠ a) : upI a (dnI a i) = i := by
  unfold upI dnI
  by_cases h : i < a
  · rw [if_pos h, if_pos h]
  · rw [if_neg h, if_neg (by omega)]; omega
theorem getD_erase {s : List Pn} {a : Nat} (i : Nat) : (s.eraseIdx a).getD i default = s.getD (upI a i) default := by
  unfold upI
  simp only [List.getD_eq_getElem?_getD, List.getElem?_eraseIdx]
  split <;> rfl
theorem OkS.erase {s : List Pn} (hs : OkS s) (a : Nat) : OkS (s.eraseIdx a) := fun p hp => hs p (List.mem_of_mem_eraseIdx hp)
/-- Two parts as one, as to what matters. -/
def gluP (p q : Pn) : Pn := ⟨max p.lo q.lo, min p.hi q.hi, p.ft || q.ft⟩
def merS (s : List Pn) (a b : Nat) : List Pn := (s.set a (gluP (s.getD a default) (s.getD b default))).eraseIdx b
theorem merS_len {s : List Pn} {a b : Nat} (hb : b < s.length) : (merS s a b).length = s.length - 1 := by
  unfold merS; rw [List.length_eraseIdx]; simp [hb]
theorem merS_get {s : List Pn} {a b i : Nat} (hab : a < b) (hb : b < s.length) : (merS s a b).getD i default = if i = a then gluP (s.getD a default) (s.getD b default) else s.getD (upI b i) default := by
  unfold merS
  rw [getD_erase]
  unfold upI
  simp only [List.getD_eq_getElem?_getD, List.getElem?_set]
  by_cases e : i = a
  · subst e
    rw [if_pos hab, if_pos rfl, if_pos (by omega)]
    simp
  · rw [if_neg e]
    split
    · rw [if_neg (fun h => e h.symm)]
    · rw [if_neg (by omega)]
theorem clB_no {s : List Pn} {a b : Nat} (hab : a ≠ b) (h : clB s a b = false) : ((s.getD a default).ft = true → (s.getD b default).ft = true → False) ∧ (s.getD b default).lo ≤ (s.getD a default).hi ∧ (s.getD a default).lo ≤ (s.getD b default).hi := by
  unfold clB at h
  have e : (a != b) = true := by simpa using hab
  rw [e, Bool.true_and, Bool.or_eq_false_iff, Bool.or_eq_false_iff, Bool.and_eq_false_iff, decide_eq_false_iff_not, decide_eq_false_iff_not] at h
  refine ⟨fun h1 h2 => ?_, by omega, by omega⟩
  rcases h.1.1 with h | h
  · rw [h1] at h; cases h
  · rw [h2] at h; cases h
theorem OkS.merS {s : List Pn} (hs : OkS s) {a b : Nat} (hab : a < b) (hb : b < s.length) (hc : clB s a b = false) : OkS (merS s a b) := by
  intro p hp
  obtain ⟨i, hi, e⟩ := List.getElem_of_mem hp
  have hg := merS_get (i := i) hab hb
  rw [List.getD_eq_getElem?_getD, List.getElem?_eq_getElem hi] at hg
  simp only [Option.getD_some, e] at hg
  rw [merS_len hb] at hi
  have h1 := hs _ (Pn.mem (show a < s.length by omega))
  have h2 := hs _ (Pn.mem hb)
  have h3 := clB_no (by omega) hc
  rw [hg]
  split
  · unfold gluP; dsimp only; omega
  · exact hs _ (Pn.mem (by unfold upI; split <;> omega))
/-- A clash with one of two parts is one with both as one. -/
theorem clB_mer {s : List Pn} {a b : Nat} (hab : a < b) (hb : b < s.length) (hnc : clB s a b = false) {i j : Nat} (hi : i < s.length) (hj : j < s.length) (hc : clB s i j = true) :
    clB (merS s a b) (if i = b then a else dnI b i) (if j = b then a else dnI b j) = true := by
  have hne := clB_ne hc
  have hup : ∀ i, i ≠ b → upI b (dnI b i) = i := fun i hi => updn hi
  have hg : ∀ i, (merS s a b).getD (if i = b then a else dnI b i) default = if i = a ∨ i = b then gluP (s.getD a default) (s.getD b default) else s.getD i default := fun i => by
    rw [merS_get hab hb]
    by_cases e : i = b
    · subst e; simp
    · rw [if_neg e]
      by_cases e2 : i = a
      · subst e2
        rw [if_pos (by unfold dnI; rw [if_pos hab]), if_pos (.inl rfl)]
      · rw [if_neg (by unfold dnI; split <;> omega), hup i e, if_neg (by omega)]
  have hcl : ∀ i j, clB s i j = true → i ≠ j ∧ ((s.getD i default).ft = true ∧ (s.getD j default).ft = true ∨ (s.getD i default).hi < (s.getD j default).lo ∨ (s.getD j default).hi < (s.getD i default).lo) := fun i j h => by
    unfold clB at h
    simp only [Bool.and_eq_true, Bool.or_eq_true, decide_eq_true_eq, bne_iff_ne, ne_eq] at h
    exact ⟨h.1, h.2.elim (fun h => h.elim .inl fun h => .inr (.inl h)) fun h => .inr (.inr h)⟩
  have h0 := (hcl i j hc).2
  have key : (if i = b then a else dnI b i) ≠ (if j = b then a else dnI b j) := by
    intro e
    have : (i = a ∨ i = b) ∧ (j = a ∨ j = b) ∨ i = j := by
      by_cases e1 : i = b
      · rw [if_pos e1] at e
        by_cases e2 : j = b
        · omega
        · rw [if_neg e2] at e
          unfold dnI at e
          by_cases h : j < b
          · rw [if_pos h] at e; omega
          · rw [if_neg h] at e; omega
      · rw [if_neg e1] at e
        by_cases e2 : j = b
        · rw [if_pos e2] at e
          unfold dnI at e
          by_cases h : i < b
          · rw [if_pos h] at e; omega
          · rw [if_neg h] at e; omega
        · rw [if_neg e2] at e
          unfold dnI at e
          by_cases h : i < b
          · by_cases h2 : j < b
            · rw [if_pos h, if_pos h2] at e; omega
            · rw [if_pos h, if_neg h2] at e; omega
          · by_cases h2 : j < b
            · rw [if_neg h, if_pos h2] at e; omega
            · rw [if_neg h, if_neg h2] at e; omega
    rcases this with ⟨h1 | h1, h2 | h2⟩ | h
    · omega
    · subst h1; subst h2; rw [hnc] at hc; cases hc
    · subst h1; subst h2; rw [clB_comm, hnc] at hc; cases hc
    · omega
    · exact hne h
  unfold clB
  rw [hg i, hg j]
  simp only [Bool.and_eq_true, Bool.or_eq_true, decide_eq_true_eq, bne_iff_ne, ne_eq]
  refine ⟨key, ?_⟩
  by_cases e1 : i = a ∨ i = b
  · by_cases e2 : j = a ∨ j = b
    · exfalso
      rcases e1 with e1 | e1 <;> rcases e2 with e2 | e2
      · omega
      · subst e1; subst e2; rw [hnc] at hc; cases hc
      · subst e1; subst e2; rw [clB_comm, hnc] at hc; cases hc
      · omega
    · rw [if_pos e1, if_neg e2]
      unfold gluP
      dsimp only
      rcases e1 with e1 | e1 <;> subst e1
      · rcases h0 with h | h | h
        · left; left; rw [h.1]; exact ⟨rfl, h.2⟩
        · left; right; omega
        · right; omega
      · rcases h0 with h | h | h
        · left; left; rw [h.1]; exact ⟨by simp, h.2⟩
        · left; right; omega
        · right; omega
  · by_cases e2 : j = a ∨ j = b
    · rw [if_neg e1, if_pos e2]
      unfold gluP
      dsimp only
      rcases e2 with e2 | e2 <;> subst e2
      · rcases h0 with h | h | h
        · left; left; rw [h.2]; exact ⟨h.1, rfl⟩
        · left; right; omega
        · right; omega
      · rcases h0 with h | h | h
        · left; left; rw [h.2]; exact ⟨h.1, by simp⟩
        · left; right; omega
        · right; omega
    · rw [if_neg e1, if_neg e2]
      rcases h0 with h | h | h
      · exact .inl (.inl h)
      · exact .inl (.inr h)
      · exact .inr h
theorem least_le_mer {s : List Pn} (hs : OkS s) {a b : Nat} (hab : a < b) (hb : b < s.length) (hnc : clB s a b = false) : leastN s ≤ leastN (merS s a b) := by
  have hf := fewL_ok (hs.merS hab hb hnc)
  have hl := merS_len (a := a) hb
  have hlt : ∀ i, i < s.length → (if i = b then a else dnI b i) < (merS s a b).length := fun i hi => by
    rw [hl]; unfold dnI; split
    · omega
    · split <;> omega
  refine least_le hs (f := fun i => ((fewL (merS s a b)).getD (if i = b then a else dnI b i) 0).toNat) ⟨fun i hi => hf.lt _ (hlt i hi), fun i j hi hj hc => ?_⟩
  exact hf.cl _ _ (hlt i hi) (hlt j hj) (clB_mer hab hb hnc hi hj hc)
theorem least_mer_le {s : List Pn} (hs : OkS s) {a b : Nat} (hab : a < b) (hb : b < s.length) (hnc : clB s a b = false) : leastN (merS s a b) ≤ leastN s + 1 := by
  have hf := fewL_ok hs
  have hl := merS_len (a := a) hb
  have hg := fun i => merS_get (i := i) hab hb
  have hlt : ∀ i, i < (merS s a b).length → upI b i < s.length := fun i hi => by rw [hl] at hi; unfold upI; split <;> omega
  have hcl : ∀ i j, i ≠ a → j ≠ a → clB (merS s a b) i j = clB s (upI b i) (upI b j) := fun i j hi hj => by
    unfold clB
    rw [hg, hg, if_neg hi, if_neg hj]
    congr 1
    rw [Bool.eq_iff_iff]
    unfold upI
    simp
    split <;> split <;> omega
  refine least_le (hs.merS hab hb hnc) (f := fun i => if i = a then leastN s else ((fewL s).getD (upI b i) 0).toNat) ⟨fun i hi => ?_, fun i j hi hj hc => ?_⟩
  · split
    · omega
    · have := hf.lt _ (hlt i hi); omega
  · have hne := clB_ne hc
    by_cases e1 : i = a
    · rw [if_pos e1, if_neg (by omega)]
      have := hf.lt _ (hlt j hj); omega
    · by_cases e2 : j = a
      · rw [if_neg e1, if_pos e2]
        have := hf.lt _ (hlt i hi); omega
      · rw [if_neg e1, if_neg e2]
        rw [hcl i j e1 e2] at hc
        exact hf.cl _ _ (hlt i hi) (hlt j hj) hc
theorem dem_perm {s s' : List Pn} (h : s.Perm s') (l r : Int) : dem s l r = dem s' l r := by
  have h1 : feet s l r = feet s' l r := h.countP_eq _
  have h2 : some1 s l r = some1 s' l r := by
    unfold some1
    have : s.any (inB l r) = s'.any (inB l r) := by
      rw [Bool.eq_iff_iff, List.any_eq_true, List.any_eq_true]
      exact ⟨fun ⟨x, hx, h'⟩ => ⟨x, h.mem_iff.1 hx, h'⟩, fun ⟨x, hx, h'⟩ => ⟨x, h.mem_iff.2 hx, h'⟩⟩
    rw [this]
  unfold dem
  rw [h1, h2]
theorem BB_perm_le {s s' : List Pn} (h : s.Perm s') : ∀ c i, i ≤ c → BB s i ≤ BB s' i
  | 0, i, hi => by obtain rfl : i = 0 := by omega
                   simp [BB_zero]
  | c + 1, i, hi => by
    rcases Nat.lt_or_ge i (c + 1) with hlt | hge
    · exact BB_perm_le h c i (by omega)
    · obtain rfl : i = c + 1 := by omega
      rcases BB_cases s c with e | ⟨p, q, hp, hph, hq, hqh, e⟩
      · rw [e]
        exact Nat.le_trans (BB_perm_le h c c (Nat.le_refl _)) (BB_mono1 _ _)
      · rw [e, dem_perm h]
        have := BB_perm_le h c q.lo.toNat (by omega)
        have g := BB_ge (h.mem_iff.1 hp) hph (h.mem_iff.1 hq) hqh
        omega
theorem least_perm {s s' : List Pn} (h : s.Perm s') : leastN s = leastN s' := Nat.le_antisymm (BB_perm_le h _ _ (Nat.le_refl _)) (BB_perm_le h.symm _ _ (Nat.le_refl _))

/-- All ways tried: k parts to go, behind the numbers v, of which many are used. -/
def fitsB (s : List Pn) (v : List Int) (n : Int) : Bool := (List.range v.length).all fun k => v.getD k 0 != n || !clB s k v.length
def tryK (s : List Pn) : Nat → List Int → Nat → Nat
  | 0, _, many => many
  | k + 1, v, many => (List.range (many + 1)).foldl (fun best (n : Nat) => if fitsB s v (n : Int) then min best (tryK s k (v ++ [((n : Nat) : Int)]) (max many (n + 1))) else best) (s.length + 1)
theorem fmin_le {c : Nat → Bool} {f : Nat → Nat} : ∀ {l : List Nat} {m : Nat}, l.foldl (fun b n => if c n then min b (f n) else b) m ≤ m
  | [], m => Nat.le_refl _
  | x :: xs, m => by
    refine Nat.le_trans (fmin_le (l := xs)) ?_
    show (if c x then min m (f x) else m) ≤ m
    split <;> omega
theorem fmin_mem {c : Nat → Bool} {f : Nat → Nat} : ∀ {l : List Nat} {m x : Nat}, x ∈ l → c x = true → l.foldl (fun b n => if c n then min b (f n) else b) m ≤ f x
  | [], _, _, h, _ => by cases h
  | y :: ys, m, x, h, hc => by
    rcases List.mem_cons.1 h with rfl | h
    · refine Nat.le_trans (fmin_le (l := ys)) ?_
      show (if c x then min m (f x) else m) ≤ f x
      rw [if_pos hc]; omega
    · exact fmin_mem (l := ys) h hc
theorem fmin_ge {c : Nat → Bool} {f : Nat → Nat} {L : Nat} : ∀ {l : List Nat} {m : Nat}, L ≤ m → (∀ x ∈ l, c x = true → L ≤ f x) → L ≤ l.foldl (fun b n => if c n then min b (f n) else b) m
  | [], _, h, _ => h
  | y :: ys, m, h, hall => by
    refine fmin_ge (l := ys) ?_ (fun x hx => hall x (by simp [hx]))
    show L ≤ if c y then min m (f y) else m
    split
    · rename_i hc; have := hall y (by simp) hc; omega
    · exact h
/-- Numbers in which no two parts clash, each less than many. -/
structure Part (s : List Pn) (v : List Int) (many : Nat) : Prop where
  rng : ∀ i, i < v.length → 0 ≤ v.getD i 0 ∧ v.getD i 0 < many
  cl : ∀ i k, k < i → i < v.length → v.getD k 0 = v.getD i 0 → clB s k i = false
theorem Part.snoc {s : List Pn} {v : List Int} {many n : Nat} (h : Part s v many) (hf : fitsB s v (n : Int) = true) : Part s (v ++ [(n : Int)]) (max many (n + 1)) := by
  have g : ∀ i, i < v.length → (v ++ [(n : Int)]).getD i 0 = v.getD i 0 := fun i hi => by simp only [List.getD_eq_getElem?_getD]; rw [List.getElem?_append_left hi]
  have g2 : (v ++ [(n : Int)]).getD v.length 0 = n := by simp only [List.getD_eq_getElem?_getD]; simp
  refine ⟨fun i hi => ?_, fun i k hki hi e => ?_⟩
  · simp at hi
    rcases Nat.lt_or_ge i v.length with hl | hl
    · rw [g i hl]; have := h.rng i hl; omega
    · obtain rfl : i = v.length := by omega
      rw [g2]; omega
  · simp at hi
    rcases Nat.lt_or_ge i v.length with hl | hl
    · rw [g i hl, g k (by omega)] at e
      exact h.cl i k hki hl e
    · obtain rfl : i = v.length := by omega
      rw [g2, g k hki] at e
      unfold fitsB at hf
      have := List.all_eq_true.1 hf k (List.mem_range.2 hki)
      rw [e] at this
      simpa using this
theorem tryK_ge {s : List Pn} (hs : OkS s) : ∀ {k : Nat} {v : List Int} {many : Nat}, v.length + k = s.length → Part s v many → leastN s ≤ tryK s k v many
  | 0, v, many, hl, hp => by
    refine least_le hs (f := fun i => (v.getD i 0).toNat) ⟨fun i hi => ?_, fun i j hi hj hc e => ?_⟩
    · have := hp.rng i (by omega)
      show (v.getD i 0).toNat < many
      omega
    · have a := hp.rng i (by omega)
      have b := hp.rng j (by omega)
      have e' : v.getD i 0 = v.getD j 0 := by omega
      have hne := clB_ne hc
      rcases (by omega : i < j ∨ j < i) with h | h
      · have := hp.cl j i h (by omega) e'; rw [this] at hc; cases hc
      · have := hp.cl i j h (by omega) e'.symm; rw [clB_comm, this] at hc; cases hc
  | k + 1, v, many, hl, hp => by
    unfold tryK
    refine fmin_ge (by have := least_le_len hs; omega) fun n hn hc => ?_
    exact tryK_ge hs (by simp; omega) (hp.snoc hc)
theorem tryK_le {s : List Pn} {V : List Int} (hV : V.length = s.length) (hcl : noClB s V = true) : ∀ {k : Nat} {many R : Nat}, k ≤ V.length → rgO (V.drop (V.length - k)) many = some R → tryK s k (V.take (V.length - k)) many ≤ R
  | 0, many, R, _, h => by
    simp [rgO] at h
    unfold tryK
    omega
  | k + 1, many, R, hk, h => by
    have hlt : V.length - (k + 1) < V.length := by omega
    rw [List.drop_eq_getElem_cons hlt] at h
    have e1 : V.length - (k + 1) + 1 = V.length - k := by omega
    rw [e1] at h
    unfold rgO at h
    split at h
    · rename_i hx
      obtain ⟨n, hn⟩ : ∃ n : Nat, V[V.length - (k + 1)] = n := ⟨(V[V.length - (k + 1)]).toNat, by omega⟩
      rw [hn] at h hx
      have ht : V.take (V.length - k) = V.take (V.length - (k + 1)) ++ [(n : Int)] := by
        rw [← e1, List.take_succ_eq_append_getElem hlt, hn]
      have hm : (if (n : Int) = many then many + 1 else many) = max many (n + 1) := by split <;> omega
      rw [hm] at h
      have ih := tryK_le hV hcl (k := k) (by omega) h
      rw [ht] at ih
      unfold tryK
      refine Nat.le_trans (fmin_mem (x := n) (List.mem_range.2 (by omega)) ?_) ih
      unfold fitsB
      rw [List.all_eq_true]
      intro j hj
      have hj' := List.mem_range.1 hj
      rw [List.length_take, Nat.min_eq_left (by omega)] at hj' ⊢
      by_cases e : (V.take (V.length - (k + 1))).getD j 0 = n
      · have c := noClB_iff.1 hcl (V.length - (k + 1)) j hj' hlt (by
          have e2 : V.getD (V.length - (k + 1)) 0 = n := by rw [List.getD_eq_getElem?_getD, List.getElem?_eq_getElem hlt, hn]; rfl
          rw [e2, ← e]
          simp only [List.getD_eq_getElem?_getD, List.getElem?_take]
          rw [if_pos hj'])
        rw [c]; simp
      · have : ((V.take (V.length - (k + 1))).getD j 0 != (n : Int)) = true := by simpa using e
        rw [this]; rfl
    · cases h
/-- The least number is that of all ways, tried. -/
theorem tryK_least {s : List Pn} (hs : OkS s) : tryK s s.length [] 0 = leastN s := by
  apply Nat.le_antisymm
  · have h := numL_asg (fewL_len s) (fewL_cl hs)
    unfold asgM at h
    split at h
    · rename_i hc
      have := tryK_le hc.1 hc.2 (k := s.length) (many := 0) (by omega) (by rw [hc.1, Nat.sub_self]; exact h)
      rw [hc.1, Nat.sub_self, firsts_few hs] at this
      exact this
    · cases h
  · exact tryK_ge hs (by simp) ⟨fun i hi => by simp at hi, fun i k _ hi => by simp at hi⟩
end Go.Proofs.YtodkbfbbpfghiaaGreat

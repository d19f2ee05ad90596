/-
  Lemmas and walks for the laws on bounds and their sums; the parts' own heads say what each proves, for every input.
-/
import Derived.Test.YtlkcfohmoeadbaaPk22
import Derived.Test.YtlkcfohmoeadbaaPk09
import Derived.Test.YtlkcfohmoeadbaaPk23
import Derived.Test.YtlkcfohmoeadbaaPk12
set_option linter.unusedSimpArgs false
set_option linter.unusedVariables false
set_option linter.unnecessarySimpa false
/-
  Plain law: where there is a solution, the sums from a point settle within one pass more than there are points: each pass makes one point more final.
-/
namespace Go.Proofs.Ytlkcfohmoeadbaa

/-- Points outside V are final and low; those of V are high; bounds from points outside U are not open. -/
structure BF (p : Int) (bs : List Bd) (y : Int → Int) (V U : List Int) (m : Int) (r : List Int) : Prop where
  sub : ∀ j : Int, j ∈ V → j ∈ U
  low : ∀ j : Int, 0 ≤ j → j < p → j ∉ V → gi r j < FAR ∧ gi r j - y j ≤ m
  up : ∀ j : Int, 0 ≤ j → j < p → j ∈ V → gi r j < FAR → m ≤ gi r j - y j
  eq : ∀ j : Int, 0 ≤ j → j < p → j ∈ U → j ∉ V → gi r j - y j = m
  fin : ∀ b ∈ bs, b.frm ∉ U → gi r b.tow ≤ gi r b.frm + b.most

theorem opens_iff {r : List Int} {b : Bd} : opens FAR r b = true ↔ gi r b.frm < FAR ∧ gi r b.frm + b.most < gi r b.tow := by
  unfold opens
  rw [Bool.and_eq_true, decide_eq_true_eq, decide_eq_true_eq]

theorem BF.step {p : Int} {bs : List Bd} {y : Int → Int} {V U : List Int} {m : Int} {r : List Int} (h : BF p bs y V U m r) (hl : r.length = 60) (hp : p ≤ 60) (hy : keepsB bs y) (hpt : Pts p bs)
    {b : Bd} (hb : b ∈ bs) (ho : opens FAR r b = true) : b.tow ∈ V ∧ BF p bs y V U m (r.set b.tow.toNat (gi r b.frm + b.most)) := by
  obtain ⟨o1, o2⟩ := opens_iff.1 ho
  obtain ⟨q0, q1, q2, q3⟩ := hpt b hb
  have hU : b.frm ∈ U := by
    apply Classical.byContradiction
    intro hn
    have := h.fin b hb hn
    omega
  have hm : m ≤ gi r b.frm - y b.frm := by
    by_cases hV : b.frm ∈ V
    · exact h.up _ q0 q1 hV o1
    · have := h.eq _ q0 q1 hU hV
      omega
  have hyb := hy b hb
  have hV : b.tow ∈ V := by
    apply Classical.byContradiction
    intro hn
    have := h.low _ q2 q3 hn
    omega
  refine ⟨hV, ?_⟩
  have hg : ∀ j : Int, 0 ≤ j → gi (r.set b.tow.toNat (gi r b.frm + b.most)) j = if j = b.tow then gi r b.frm + b.most else gi r j := fun j hj => gi_set q2 (by omega) hj
  refine ⟨h.sub, fun j j0 j1 hj => ?_, fun j j0 j1 hj hf => ?_, fun j j0 j1 hj hj2 => ?_, fun b2 hb2 hj => ?_⟩
  · rw [hg j j0, if_neg (fun e => hj (by rw [e]; exact hV))]
    exact h.low j j0 j1 hj
  · rw [hg j j0] at hf ⊢
    by_cases e : j = b.tow
    · rw [if_pos e]
      subst e
      omega
    · rw [if_neg e] at hf ⊢
      exact h.up j j0 j1 hj hf
  · rw [hg j j0, if_neg (fun e => hj2 (by rw [e]; exact hV))]
    exact h.eq j j0 j1 hj hj2
  · obtain ⟨s0, s1, s2, s3⟩ := hpt b2 hb2
    have hf := h.fin b2 hb2 hj
    rw [hg _ s0, hg _ s2]
    have hne : b2.frm ≠ b.tow := fun e => hj (h.sub _ (by rw [e]; exact hV))
    rw [if_neg hne]
    split
    · rename_i e
      rw [e] at hf
      omega
    · exact hf

theorem getD_mem {bs : List Bd} {k : Nat} (h : k < bs.length) : bs.getD k default ∈ bs := by
  rw [List.getD_eq_getElem?_getD, List.getElem?_eq_getElem h]
  exact List.getElem_mem _

theorem BF.pass {p : Int} {bs : List Bd} {y : Int → Int} {V U : List Int} {m : Int} {s : RL} (h : BF p bs y V U m s.r) (hl : s.r.length = 60) (hp : p ≤ 60) (hin : ∀ b ∈ bs, b.inr) (hy : keepsB bs y) (hpt : Pts p bs) :
    ∀ k, k ≤ bs.length → BF p bs y V U m (s.pass FAR bs k).r ∧ ∀ i, i < k → (bs.getD i default).frm ∉ V → gi (s.pass FAR bs k).r (bs.getD i default).tow ≤ gi (s.pass FAR bs k).r (bs.getD i default).frm + (bs.getD i default).most
  | 0, _ => ⟨h, fun i hi => by omega⟩
  | k + 1, hk => by
    obtain ⟨h1, h2⟩ := BF.pass h hl hp hin hy hpt k (by omega)
    have hlen := (RL.pass_le hl hin k (by omega)).1
    have hm := getD_mem (bs := bs) (k := k) (by omega)
    obtain ⟨q0, q1, q2, q3⟩ := hpt _ hm
    simp only [RL.pass, RL.step]
    cases ho : opens FAR (s.pass FAR bs k).r (bs.getD k default) with
    | false =>
      simp only [Bool.false_eq_true, if_false]
      refine ⟨h1, fun i hi hf => ?_⟩
      by_cases e : i = k
      · subst e
        have hlow := h1.low _ q0 q1 hf
        apply Classical.byContradiction
        intro hn
        have := opens_iff.2 ⟨hlow.1, Int.lt_of_not_ge hn⟩
        rw [ho] at this
        exact absurd this (by simp)
      · exact h2 i (by omega) hf
    | true =>
      obtain ⟨hV, h3⟩ := h1.step hlen hp hy hpt hm ho
      obtain ⟨o1, o2⟩ := opens_iff.1 ho
      simp only [if_true, RL.upd]
      refine ⟨h3, fun i hi hf => ?_⟩
      have hg : ∀ j : Int, 0 ≤ j → gi ((s.pass FAR bs k).r.set (bs.getD k default).tow.toNat (gi (s.pass FAR bs k).r (bs.getD k default).frm + (bs.getD k default).most)) j = if j = (bs.getD k default).tow then gi (s.pass FAR bs k).r (bs.getD k default).frm + (bs.getD k default).most else gi (s.pass FAR bs k).r j := fun j hj => gi_set q2 (by omega) hj
      obtain ⟨s0, s1, s2, s3⟩ := hpt _ (getD_mem (bs := bs) (k := i) (by omega))
      have hne : (bs.getD i default).frm ≠ (bs.getD k default).tow := fun e => hf (by rw [e]; exact hV)
      rw [hg _ s0, hg _ s2, if_neg hne]
      by_cases e : i = k
      · subst e
        rw [if_pos rfl]
        omega
      · have h4 := h2 i (by omega) hf
        split
        · rename_i e2
          rw [e2] at h4
          omega
        · exact h4

theorem pass_still {bs : List Bd} {s : RL} (h : ∀ b ∈ bs, opens FAR s.r b = false) : ∀ k, k ≤ bs.length → (s.pass FAR bs k).r = s.r
  | 0, _ => rfl
  | k + 1, hk => by
    have e := pass_still h k (by omega)
    simp only [RL.pass, RL.step]
    rw [e, h _ (getD_mem (by omega))]
    simpa using e

theorem least_of (f : Int → Int) : ∀ l : List Int, l ≠ [] → ∃ v ∈ l, ∀ u ∈ l, f v ≤ f u
  | [], h => absurd rfl h
  | [a], _ => ⟨a, by simp, fun u hu => by simp at hu; rw [hu]; exact Int.le_refl _⟩
  | a :: b :: l, _ => by
    obtain ⟨v, hv, hm⟩ := least_of f (b :: l) (by simp)
    by_cases h : f a ≤ f v
    · refine ⟨a, by simp, fun u hu => ?_⟩
      rcases List.mem_cons.1 hu with rfl | hu
      · exact Int.le_refl _
      · exact Int.le_trans h (hm u hu)
    · refine ⟨v, List.mem_cons_of_mem _ hv, fun u hu => ?_⟩
      rcases List.mem_cons.1 hu with rfl | hu
      · omega
      · exact hm u hu

theorem BF.settles {p : Int} {bs : List Bd} {y : Int → Int} (hp : p ≤ 60) (hin : ∀ b ∈ bs, b.inr) (hy : keepsB bs y) (hpt : Pts p bs) :
    ∀ (n : Nat) (U : List Int) (m : Int) (s : RL), U.length + 1 ≤ n → BF p bs y U U m s.r → s.r.length = 60 → (settle FAR bs n s).2 = true
  | 0, _, _, _, h, _, _ => by omega
  | n + 1, U, m, s, h, hb, hl => by
    simp only [settle]
    by_cases e : (s.pass FAR bs bs.length).r = s.r
    · rw [if_pos e]
    · rw [if_neg e]
      by_cases hn : (U.filter fun j => decide (0 ≤ j ∧ j < p ∧ gi s.r j < FAR)) = []
      · exfalso
        apply e
        refine pass_still (fun b hbm => ?_) _ (Nat.le_refl _)
        obtain ⟨q0, q1, q2, q3⟩ := hpt b hbm
        cases ho : opens FAR s.r b with
        | false => rfl
        | true =>
          exfalso
          obtain ⟨o1, o2⟩ := opens_iff.1 ho
          by_cases hU : b.frm ∈ U
          · have := List.filter_eq_nil_iff.1 hn _ hU
            simp at this
            omega
          · have := hb.fin b hbm hU
            omega
      · obtain ⟨v, hv, hmin⟩ := least_of (fun j => gi s.r j - y j) _ hn
        simp only [List.mem_filter, decide_eq_true_eq] at hv hmin
        obtain ⟨hvU, v0, v1, vf⟩ := hv
        have hmv := hb.up v v0 v1 hvU vf
        have hB : BF p bs y (U.filter (· ≠ v)) U (gi s.r v - y v) s.r := by
          refine ⟨fun j hj => (List.mem_filter.1 hj).1, fun j j0 j1 hj => ?_, fun j j0 j1 hj hf => ?_, fun j j0 j1 hj hj2 => ?_, hb.fin⟩
          · by_cases ev : j = v
            · subst ev
              exact ⟨vf, Int.le_refl _⟩
            · have := hb.low j j0 j1 (fun hU => hj (List.mem_filter.2 ⟨hU, by simpa using ev⟩))
              exact ⟨this.1, by omega⟩
          · exact hmin j ⟨(List.mem_filter.1 hj).1, j0, j1, hf⟩
          · have : j = v := by
              apply Classical.byContradiction
              intro ev
              exact hj2 (List.mem_filter.2 ⟨hj, by simpa using ev⟩)
            rw [this]
        obtain ⟨h1, h2⟩ := hB.pass hl hp hin hy hpt bs.length (Nat.le_refl _)
        have hlt : (U.filter (· ≠ v)).length < U.length := by
          apply Nat.lt_of_le_of_ne (List.length_filter_le _ _)
          intro e2
          have := List.filter_eq_self.1 (List.filter_sublist.eq_of_length e2) v hvU
          simp at this
        refine BF.settles hp hin hy hpt n _ _ _ (by omega) ⟨fun j hj => hj, h1.low, h1.up, fun j _ _ a b => absurd a b, fun b hbm hf => ?_⟩ (RL.pass_le hl hin bs.length (Nat.le_refl _)).1
        obtain ⟨i, hi, rfl⟩ := List.getElem_of_mem hbm
        have := h2 i hi (by rw [List.getD_eq_getElem?_getD, List.getElem?_eq_getElem hi]; exact hf)
        rwa [List.getD_eq_getElem?_getD, List.getElem?_eq_getElem hi] at this

/-- Where there is a solution, the sums from a point settle. -/
theorem gfrom_done {p : Int} {bs : List Bd} (hs : Sys p bs) (hpt : Pts p bs) (hok : okB p bs = true) {a : Int} (h0 : 0 ≤ a) (h1 : a < p) : (gfrom p bs a).2 = true := by
  have hp := hs.p2
  have hy := okB_keeps hs hok
  refine BF.settles hp hs.inr hy hpt (p + 1).toNat ((List.range p.toNat).map fun (i : Nat) => (i : Int)) (-(gi (gsol p bs).1.r a)) _ (by simp; omega) ⟨fun j hj => hj, fun j j0 j1 hj => ?_, fun j j0 j1 hj hf => ?_, fun j _ _ a b => absurd a b, fun b hb hf => ?_⟩ (far0_len a)
  · exact absurd (List.mem_map.2 ⟨j.toNat, by simp; omega, by simp; omega⟩) hj
  · have e := gi_far0 (a := a) (j := j) h0 (by omega) j0 (by omega)
    simp only at hf ⊢
    rw [e] at hf ⊢
    by_cases ej : j = a
    · rw [if_pos ej, ej]; omega
    · rw [if_neg ej] at hf; omega
  · obtain ⟨q0, q1, _⟩ := hpt b hb
    exact absurd (List.mem_map.2 ⟨b.frm.toNat, by simp; omega, by simp; omega⟩) hf
end Go.Proofs.Ytlkcfohmoeadbaa

/-
  Plain law: the reference's sums from a point, where 1000000000 stands for nothing, and the program's.
-/
namespace Go.Proofs.Ytlkcfohmoeadbaa

def cnt (r : List Int) : Nat := r.countP fun v => decide (v < FAR)
structure Nar (r : List Int) : Prop where
  len : r.length = 60
  up : ∀ j : Int, 0 ≤ j → j < 60 → gi r j = FAR ∨ (gi r j < FAR ∧ gi r j ≤ ((cnt r : Int) - 1) * 1000000)

def Same9 (p : Int) (x r : List Int) : Prop := x.length = p.toNat ∧ ∀ j : Int, 0 ≤ j → j < p → (gi r j < FAR ∧ gi x j = gi r j) ∨ (gi r j = FAR ∧ gi x j = 1000000000)

theorem gi_get {l : List Int} {j : Int} (h : j.toNat < l.length) : gi l j = l[j.toNat] := by
  simp [gi, List.getD_eq_getElem?_getD, List.getElem?_eq_getElem h]

theorem cnt_le {r : List Int} (h : r.length = 60) : cnt r ≤ 60 := by
  have := List.countP_le_length (p := fun v => decide (v < FAR)) (l := r)
  unfold cnt
  omega
theorem cnt_pos {r : List Int} (h : r.length = 60) {j : Int} (j0 : 0 ≤ j) (j1 : j < 60) (hj : gi r j < FAR) : 1 ≤ cnt r := by
  unfold cnt
  refine List.countP_pos_iff.2 ⟨r[j.toNat]'(by omega), List.getElem_mem _, ?_⟩
  rw [← gi_get (l := r) (j := j) (by omega)]
  simpa using hj
theorem cnt_set {r : List Int} (h : r.length = 60) {j v : Int} (j0 : 0 ≤ j) (j1 : j < 60) (hv : v < FAR) : cnt (r.set j.toNat v) = cnt r + (if gi r j < FAR then 0 else 1) := by
  unfold cnt
  have hjl : j.toNat < r.length := by omega
  rw [List.countP_set hjl]
  rw [gi_get hjl]
  have h1 : 1 ≤ List.countP (fun v => decide (v < FAR)) r ∨ ¬ r[j.toNat] < FAR := by
    by_cases hh : r[j.toNat] < FAR
    · exact .inl (List.countP_pos_iff.2 ⟨_, List.getElem_mem hjl, by simpa using hh⟩)
    · exact .inr hh
  by_cases hh : r[j.toNat] < FAR
  · simp [hv, hh]
    rcases h1 with h1 | h1
    · omega
    · exact absurd hh h1
  · simp [hv, hh]

theorem Nar.step {r : List Int} (h : Nar r) {b : Bd} (hb : b.inr) (hm : b.most ≤ 1000000) (ho : opens FAR r b = true) : Nar (r.set b.tow.toNat (gi r b.frm + b.most)) ∧ gi r b.frm + b.most < 100000000 := by
  obtain ⟨o1, o2⟩ := opens_iff.1 ho
  have hl := h.len
  have hc1 := cnt_pos hl hb.f0 hb.f1 o1
  have hc2 := cnt_le hl
  have hf : gi r b.frm ≤ ((cnt r : Int) - 1) * 1000000 := by
    rcases h.up _ hb.f0 hb.f1 with e | e
    · omega
    · exact e.2
  have hv : gi r b.frm + b.most ≤ (cnt r : Int) * 1000000 := by omega
  have hF : FAR = 1099511627776 := rfl
  have hvF : gi r b.frm + b.most < FAR := by omega
  have hC := cnt_set hl hb.t0 hb.t1 hvF
  refine ⟨⟨by simpa using hl, fun j j0 j1 => ?_⟩, by omega⟩
  rw [gi_set hb.t0 (by have := hb.t1; have := hb.t0; omega) j0, hC]
  have ht := h.up _ hb.t0 hb.t1
  have hj := h.up j j0 j1
  by_cases ht2 : gi r b.tow < FAR
  · rw [if_pos ht2]
    by_cases e : j = b.tow
    · rw [if_pos e]
      right
      rcases ht with ht | ht
      · omega
      · exact ⟨hvF, by simp; omega⟩
    · rw [if_neg e]
      simpa using hj
  · rw [if_neg ht2]
    by_cases e : j = b.tow
    · rw [if_pos e]
      right
      exact ⟨hvF, by omega⟩
    · rw [if_neg e]
      rcases hj with hj | hj
      · exact .inl hj
      · exact .inr ⟨hj.1, by omega⟩

theorem same9_step {p : Int} {x r : List Int} (h : Nar r) (hx : Same9 p x r) {b : Bd} (hb : b.inr) (hm : b.most ≤ 1000000) (hp : p ≤ 60) (hpt : 0 ≤ b.frm ∧ b.frm < p ∧ 0 ≤ b.tow ∧ b.tow < p) :
    opens 1000000000 x b = opens FAR r b ∧ (opens FAR r b = true → gi x b.frm = gi r b.frm ∧ Same9 p (x.set b.tow.toNat (gi x b.frm + b.most)) (r.set b.tow.toNat (gi r b.frm + b.most))) := by
  obtain ⟨q0, q1, q2, q3⟩ := hpt
  have hF : FAR = 1099511627776 := rfl
  have hc2 := cnt_le h.len
  have xf := hx.2 _ q0 q1
  have xt := hx.2 _ q2 q3
  have uf := h.up _ q0 (by omega)
  have ut := h.up _ q2 (by omega)
  have e : opens 1000000000 x b = opens FAR r b := by
    unfold opens
    rw [Bool.eq_iff_iff]
    simp only [Bool.and_eq_true, decide_eq_true_eq]
    omega
  refine ⟨e, fun ho => ?_⟩
  obtain ⟨o1, o2⟩ := opens_iff.1 ho
  have ef : gi x b.frm = gi r b.frm := by omega
  refine ⟨ef, by simpa using hx.1, fun j j0 j1 => ?_⟩
  have hxl := hx.1
  rw [gi_set q2 (by have := h.len; omega) j0, gi_set q2 (by omega) j0, ef]
  by_cases ej : j = b.tow
  · rw [if_pos ej, if_pos ej]
    have := (h.step hb hm ho).2
    omega
  · rw [if_neg ej, if_neg ej]
    exact hx.2 j j0 j1

theorem same9_pass {p : Int} {bs : List Bd} {s : RL} {x : List Int} (hp : p ≤ 60) (hin : ∀ b ∈ bs, b.inr) (hmil : ∀ b ∈ bs, b.most ≤ 1000000) (hpt : Pts p bs) (h : Nar s.r) (hx : Same9 p x s.r) :
    ∀ k, k ≤ bs.length → Nar (s.pass FAR bs k).r ∧ Same9 p (rpass 1000000000 bs x k).1 (s.pass FAR bs k).r ∧ ((rpass 1000000000 bs x k).2 = true → (s.pass FAR bs k).r = s.r) ∧ ((rpass 1000000000 bs x k).2 = false → ∃ j : Int, 0 ≤ j ∧ j < 60 ∧ gi (s.pass FAR bs k).r j < gi s.r j)
  | 0, _ => ⟨h, hx, fun _ => rfl, fun h => by simp [rpass] at h⟩
  | k + 1, hk => by
    obtain ⟨h1, h2, h3, h4⟩ := same9_pass hp hin hmil hpt h hx k (by omega)
    have hm := getD_mem (bs := bs) (k := k) (by omega)
    have hb := hin _ hm
    obtain ⟨e1, e2⟩ := same9_step h1 h2 hb (hmil _ hm) hp (hpt _ hm)
    simp only [rpass, RL.pass, RL.step]
    rw [e1]
    cases ho : opens FAR (s.pass FAR bs k).r (bs.getD k default) with
    | false =>
      simp only [Bool.false_eq_true, if_false]
      exact ⟨h1, h2, h3, h4⟩
    | true =>
      simp only [if_true, RL.upd]
      refine ⟨(h1.step hb (hmil _ hm) ho).1, (e2 ho).2, fun h => by simp at h, fun _ => ⟨(bs.getD k default).tow, hb.t0, hb.t1, ?_⟩⟩
      obtain ⟨o1, o2⟩ := opens_iff.1 ho
      have a2 := (RL.pass_le h.len hin k (by omega)).2 _ hb.t0 hb.t1
      rw [gi_set hb.t0 (by have := h1.len; have := hb.t0; have := hb.t1; omega) hb.t0, if_pos rfl]
      omega

theorem same9_settle {p : Int} {bs : List Bd} (hp : p ≤ 60) (hin : ∀ b ∈ bs, b.inr) (hmil : ∀ b ∈ bs, b.most ≤ 1000000) (hpt : Pts p bs) :
    ∀ (n : Nat) (s : RL) (x : List Int), Nar s.r → Same9 p x s.r → (rsettle 1000000000 bs n x).2 = (settle FAR bs n s).2 ∧ ((settle FAR bs n s).2 = true → Nar (settle FAR bs n s).1.r ∧ Same9 p (rsettle 1000000000 bs n x).1 (settle FAR bs n s).1.r) ∧ ((settle FAR bs n s).2 = false → (rsettle 1000000000 bs n x).1 = [])
  | 0, s, x, _, _ => ⟨rfl, fun h => by simp [settle] at h, fun _ => rfl⟩
  | n + 1, s, x, h, hx => by
    obtain ⟨h1, h2, h3, h4⟩ := same9_pass hp hin hmil hpt h hx bs.length (Nat.le_refl _)
    simp only [rsettle, settle]
    cases hf : (rpass 1000000000 bs x bs.length).2 with
    | true =>
      rw [if_pos rfl, if_pos (h3 hf)]
      exact ⟨rfl, fun _ => ⟨h1, h2⟩, fun h => by simp at h⟩
    | false =>
      have hne : ¬ (s.pass FAR bs bs.length).r = s.r := fun e => by
        obtain ⟨j, _, _, h⟩ := h4 hf
        rw [e] at h
        exact absurd h (Int.lt_irrefl _)
      rw [if_neg (by simp), if_neg hne]
      exact same9_settle hp hin hmil hpt n _ _ h1 h2

def begin9 (p a : Int) : List Int := (List.replicate p.toNat 1000000000).set a.toNat 0

theorem cnt_far0 {a : Int} (h0 : 0 ≤ a) (h1 : a < 60) : cnt (far0 a) = 1 := by
  have h := cnt_set (r := fars) (j := a) (v := 0) fars_len h0 h1 (by unfold FAR; omega)
  have e : cnt fars = 0 := by unfold cnt fars; rw [List.countP_replicate]; simp
  have e2 : ¬ gi fars a < FAR := by rw [gi_get (by rw [fars_len]; omega)]; simp only [fars, List.getElem_replicate]; exact Int.lt_irrefl _
  rw [e, if_neg e2] at h
  simpa [far0] using h

theorem nar_far0 {a : Int} (h0 : 0 ≤ a) (h1 : a < 60) : Nar (far0 a) := by
  refine ⟨far0_len a, fun j j0 j1 => ?_⟩
  rw [gi_far0 h0 h1 j0 j1, cnt_far0 h0 h1]
  split
  · right; unfold FAR; omega
  · left; rfl

theorem same9_far0 {p a : Int} (h0 : 0 ≤ a) (h1 : a < p) (hp : p ≤ 60) : Same9 p (begin9 p a) (far0 a) := by
  refine ⟨by simp [begin9], fun j j0 j1 => ?_⟩
  rw [gi_far0 h0 (by omega) j0 (by omega)]
  unfold begin9
  rw [gi_set h0 (by simp; omega) j0]
  by_cases e : j = a
  · rw [if_pos e, if_pos e]; left; unfold FAR; omega
  · rw [if_neg e, if_neg e]
    right
    refine ⟨rfl, ?_⟩
    rw [gi_get (by simp; omega)]
    simp

/-- What the reference's sums from a point are, where there is a solution. -/
theorem rfrom_gfrom {p : Int} {bs : List Bd} (h : chk p bs = 0) (hok : okB p bs = true) {a : Int} (h0 : 0 ≤ a) (h1 : a < p) :
    Same9 p (rsettle 1000000000 bs (p + 1).toNat (begin9 p a)).1 (gfrom p bs a).1.r ∧ Nar (gfrom p bs a).1.r := by
  have hs := Sys.of_chk h
  have hpt := Pts.of_chk h
  have hp := hs.p2
  have hmil : ∀ b ∈ bs, b.most ≤ 1000000 := by
    unfold chk at h
    split at h
    · omega
    · split at h
      · omega
      · split at h
        · rename_i h3
          intro b hb
          have h4 := List.all_eq_true.1 h3 b hb
          simp only [Bd.ok, Bool.and_eq_true, withinB_iff] at h4
          omega
        · omega
  have hS := same9_settle hp hs.inr hmil hpt (p + 1).toNat ⟨far0 a, List.replicate 60 (-1), 0⟩ (begin9 p a) (nar_far0 h0 (by omega)) (same9_far0 h0 h1 hp)
  have hd := gfrom_done hs hpt hok h0 h1
  have := hS.2.1 hd
  exact ⟨this.2, this.1⟩
end Go.Proofs.Ytlkcfohmoeadbaa

/-
  Plain law: how low the sums from a point can be, where no bound is below -1000000.
-/
namespace Go.Proofs.Ytlkcfohmoeadbaa

theorem pass_lows {bs : List Bd} {s : RL} {lo : Int} (hl : s.r.length = 60) (hin : ∀ b ∈ bs, b.inr) (hmil : ∀ b ∈ bs, -1000000 ≤ b.most) (h : ∀ j : Int, 0 ≤ j → j < 60 → lo ≤ gi s.r j) :
    ∀ k : Nat, k ≤ bs.length → ∀ j : Int, 0 ≤ j → j < 60 → lo - k * 1000000 ≤ gi (s.pass FAR bs k).r j
  | 0, _, j, j0, j1 => by have := h j j0 j1; simp only [RL.pass]; omega
  | k + 1, hk, j, j0, j1 => by
    have h1 := pass_lows hl hin hmil h k (by omega)
    have hm := getD_mem (bs := bs) (k := k) (by omega)
    have hb := hin _ hm
    have hlen := (RL.pass_le hl hin k (by omega)).1
    simp only [RL.pass, RL.step]
    split
    · simp only [RL.upd]
      have e1 := h1 _ hb.f0 hb.f1
      have e2 := hmil _ hm
      rw [gi_set hb.t0 (by have := hb.t0; have := hb.t1; omega) j0]
      split
      · push_cast; omega
      · have := h1 j j0 j1; push_cast; omega
    · have := h1 j j0 j1
      push_cast; omega

theorem settle_lows {bs : List Bd} (hin : ∀ b ∈ bs, b.inr) (hmil : ∀ b ∈ bs, -1000000 ≤ b.most) (hl4 : bs.length ≤ 402) :
    ∀ (n : Nat) (s : RL) (lo : Int), s.r.length = 60 → (∀ j : Int, 0 ≤ j → j < 60 → lo ≤ gi s.r j) → ∀ j : Int, 0 ≤ j → j < 60 → lo - n * 402000000 ≤ gi (settle FAR bs n s).1.r j
  | 0, s, lo, _, h, j, j0, j1 => by have := h j j0 j1; simp only [settle]; omega
  | n + 1, s, lo, hl, h, j, j0, j1 => by
    have h1 := pass_lows hl hin hmil h bs.length (Nat.le_refl _)
    simp only [settle]
    split
    · have := h1 j j0 j1
      push_cast
      omega
    · have := settle_lows hin hmil hl4 n (s.pass FAR bs bs.length) (lo - bs.length * 1000000) (RL.pass_le hl hin bs.length (Nat.le_refl _)).1 h1 j j0 j1
      push_cast
      omega

theorem chk_mil {p : Int} {bs : List Bd} (h : chk p bs = 0) : ∀ b ∈ bs, -1000000 ≤ b.most ∧ b.most ≤ 1000000 := by
  unfold chk at h
  split at h
  · omega
  · split at h
    · omega
    · split at h
      · rename_i h3
        intro b hb
        have h4 := List.all_eq_true.1 h3 b hb
        simp only [Bd.ok, Bool.and_eq_true, withinB_iff] at h4
        omega
      · omega

theorem gD_low {p : Int} {bs : List Bd} (h : chk p bs = 0) {x y : Int} (x0 : 0 ≤ x) (x1 : x < p) (y0 : 0 ≤ y) (y1 : y < p) : -30000000000 ≤ gD p bs x y := by
  have hs := Sys.of_chk h
  have hp2 := hs.p2
  have h1 := settle_lows hs.inr (fun b hb => (chk_mil h b hb).1) hs.len (p + 1).toNat ⟨far0 x, List.replicate 60 (-1), 0⟩ 0 (far0_len x) (fun j j0 j1 => by
    show 0 ≤ gi (far0 x) j
    rw [gi_far0 x0 (by omega) j0 j1]
    split
    · omega
    · unfold FAR; omega) y y0 (by omega)
  unfold gD gfrom
  have : ((p + 1).toNat : Int) ≤ 61 := by omega
  omega
end Go.Proofs.Ytlkcfohmoeadbaa

/-
  The reference of layer 1, walked: greatest.
-/
namespace Go.Proofs.Ytlkcfohmoeadbaa
open Go.RowKit Go.Shelf
set_option maxHeartbeats 4000000
set_option maxRecDepth 100000

theorem rgreatest_any (p : Int) (a : Option Addr) (n cap : Nat) (bs : List Bd) (x y : Int) (w : World) (hb : BdsAt w a n cap bs) (hc : chk p bs = 0) (hok : okB p bs = true) (hxy : both p x y = true) :
    Calls Try.prog 83 #[.agg #[.int .i64 p, .slice a n cap], .int .i64 x, .int .i64 y] w fun e w' => e = .returned (.tuple #[.int .i64 (if gD p bs x y = FAR then 0 else gD p bs x y), .bool (decide (gD p bs x y ≠ FAR))]) ∧ Below w.heap.size w w' := by
  obtain ⟨⟨x0, x1⟩, y0, y1⟩ := both_in hxy
  have hs := Sys.of_chk hc
  have hpt := Pts.of_chk hc
  have hp1 := hs.p1
  have hp2 := hs.p2
  obtain ⟨hS9, hNar⟩ := rfrom_gfrom hc hok x0 x1
  have hR := fun a2 n2 c2 w1 (hb1 : BdsAt w1 a n cap bs) (hx1 : IntsAt w1 a2 n2 c2 (begin9 p x)) => rsums_any p a n cap bs a2 n2 c2 (begin9 p x) 1000000000 w1 hb1 hs hpt hx1 (by simp [begin9]) rfl (fun j j0 j1 => by
    unfold begin9
    rw [gi_set x0 (by simp; omega) j0]
    split
    · omega
    · rw [gi_get (by simp; omega)]; simp)
  have hGD : ∃ g : Int, gD p bs x y = g ∧ ((g < FAR ∧ gi (rsettle 1000000000 bs (p + 1).toNat (begin9 p x)).1 y = g ∧ g < 1000000000) ∨ (g = FAR ∧ gi (rsettle 1000000000 bs (p + 1).toNat (begin9 p x)).1 y = 1000000000)) := by
    refine ⟨_, rfl, ?_⟩
    have h1 := hS9.2 y y0 y1
    have h2 := hNar.up y y0 (by omega)
    have h3 := cnt_le hNar.len
    have hF : FAR = 1099511627776 := rfl
    unfold gD
    omega
  have hlen := hS9.1
  obtain ⟨g, hg, hG⟩ := hGD
  rw [hg]
  generalize rsettle 1000000000 bs (p + 1).toNat (begin9 p x) = R at *
  obtain ⟨Rl, Rf⟩ := R
  simp only at hR hG hlen
  have HR := Lib.hid hR
  clear hR hS9 hNar hg hs hpt hc hok hxy
  have hbeg : (List.replicate p.toNat (1000000000 : Int)).set x.toNat 0 = begin9 p x := rfl
  have Hbeg := Lib.hid hbeg
  have Hlen := Lib.hid hlen
  clear hbeg hlen
  generalize hP : p.toNat = P at *
  have hPp : (P : Int) = p := by omega
  have HP := Lib.hid hPp
  have HP2 := Lib.hid hP
  clear hPp hP
  obtain ⟨gv, gb, e1, e2, hG2⟩ : ∃ (gv : Int) (gb : Bool), (if g = FAR then 0 else g) = gv ∧ decide (g ≠ FAR) = gb ∧ ((gb = true ∧ gi Rl y = gv ∧ gv < 1000000000) ∨ (gb = false ∧ gv = 0 ∧ gi Rl y = 1000000000)) := by
    refine ⟨_, _, rfl, rfl, ?_⟩
    rcases hG with ⟨g1, g2, g3⟩ | ⟨g1, g2⟩
    · have Hg1 : g ≠ FAR := by omega
      left
      rw [if_neg Hg1]
      exact ⟨by simpa using Hg1, g2, g3⟩
    · right
      rw [if_pos g1]
      exact ⟨by simpa using g1, rfl, g2⟩
  rw [e1, e2]
  clear e1 e2 hG
  go_enter Try.func83, Try.ntmps83
  go_wp2_with fail
  go_loopw [9, 8] (fun i v wr => ∃ k : Nat, k ≤ P ∧ i = .int .i64 k ∧ Below w.heap.size w wr ∧ w.heap.size < wr.heap.size ∧ wr.cell? ⟨w.heap.size, 0, none⟩ = some (.int .i64 p) ∧ wr.cell? ⟨w.heap.size, 1, none⟩ = some (.slice a n cap) ∧
    wr.ownsRow (w.heap.size + 1) 3 1 v k ((List.replicate k (1000000000 : Int)).map (.int .i64))) (fun i _ _ => P - (intOf i).toNat)
  case atStart => exact ⟨0, Nat.zero_le _, rfl, (Below.refl _ _).alloc (Nat.le_refl _) _, by simp, by simp [go_sem], by simp [go_sem], World.ownsRow_nil _ _ _ _⟩
  case round =>
    obtain ⟨k, hk, rfl, hB, hz, c0, c1, hown⟩ := hrel
    by_cases hlt : k < P
    · have t1 : (k : Int) < p := by have := HP.out; omega
      go_wp2_with (at_builtin; refine wpList_app elemI rfl _ _ rfl (hown.up ((Below.refl _ _).alloc (Nat.le_refl _) (Obj.cells #[.int .i64 1000000000] 3)) (Nat.le_refl _)) rfl rfl (RowAt.of_heap (World.alloc_heap_new wr _)) (by simp) (ones_int [(1000000000 : Int)]) ?_ ?_ ?_ ?_)
      · unfold maxLen; omega
      · omega
      · simp; omega
      · intro v' w5 ho5 hg5 hb5 _ hat
        have hBa : Below (w.heap.size + 1) wr w5 := ((Below.refl _ _).alloc (by omega) _).trans hb5
        have s0 : w5.cell? ⟨w.heap.size, 0, none⟩ = some (.int .i64 p) := by rw [(bcell hBa).1 _ _ (by simp)]; exact c0
        have s1 : w5.cell? ⟨w.heap.size, 1, none⟩ = some (.slice a n cap) := by rw [(bcell hBa).1 _ _ (by simp)]; exact c1
        clear c0 c1
        go_wp2
        go_roundw
        case rel =>
          refine ⟨k + 1, by omega, by go_num, hB.trans (hBa.mono (by omega)), by have := hBa.size; omega, s0, s1, ?_⟩
          rw [List.replicate_succ', List.map_append]
          simpa using ho5
        case measure => simp [intOf]; omega
    · obtain rfl : k = P := by omega
      have t1 : ¬ ((k : Int) < p) := by have := HP.out; omega
      have hk1 : 1 ≤ k := by have := HP.out; omega
      obtain ⟨b, c, rfl, hbg⟩ : ∃ b c, u8 = .slice (some ⟨b, 0, none⟩) k c ∧ w.heap.size + 1 ≤ b := by
        obtain ⟨_, ⟨_, hn⟩ | ⟨b, c, cur, hv, hbg, _⟩⟩ := hown
        · omega
        · exact ⟨b, c, hv, hbg⟩
      have hxl : x.toNat < k := by have := HP.out; omega
      have hxn : (x.toNat : Int) = x := by omega
      have q1 := row_cell (j := x) hown x0 (by simpa using hxl)
      have f1 := row_free hown
      have hst := (World.ownsRow.stored hown x.toNat (.int .i64 0)).1
      rw [← List.map_set, Hbeg.out] at hst
      have hB1 : Below w.heap.size w (wr.setCell ⟨b, x.toNat, none⟩ (.int .i64 0)) := hB.setCell (by simp; omega) _
      have hcall := HR.out (some ⟨b, 0, none⟩) k c _ (hb.below hB1) (IntsAt.of_owns hst (by simp [begin9]; omega))
      have Hst := Lib.hid hst
      clear hst HR
      have hbw : w.heap.size ≠ b := by omega
      go_wp2_with fail
      refine hcall.mono ?_
      rintro e w2 ⟨v, rfl, hb2, ho2⟩
      clear hcall
      have hRk : Rl.length = k := Hlen.out
      have hneq : ((Rl.length : Int) != p) = false := by have := HP.out; simp; omega
      obtain ⟨b2, c2, rfl, hbg2⟩ : ∃ b2 c2, v = .slice (some ⟨b2, 0, none⟩) Rl.length c2 ∧ (wr.setCell ⟨b, x.toNat, none⟩ (.int .i64 0)).heap.size ≤ b2 := by
        obtain ⟨_, ⟨_, hn⟩ | ⟨b2, c2, cur, hv, hbg, _⟩⟩ := ho2
        · omega
        · exact ⟨b2, c2, hv, hbg⟩
      have hyl : y.toNat < Rl.length := by have := HP.out; omega
      have hyn : (y.toNat : Int) = y := by omega
      have q2 := row_cell (j := y) ho2 y0 hyl
      have z2 : w.heap.size < w2.heap.size := by have := hb2.size; simp at this; omega
      have d0 : w2.cell? ⟨w.heap.size, 0, none⟩ = some (.int .i64 p) := by rw [(bcell hb2).1 _ _ (by simp; omega)]; simp [go_sem, *]
      have hyk : y < (Rl.length : Int) := by omega
      have hBw : Below w.heap.size w w2 := hB1.trans (hb2.mono (by simp; omega))
      clear c0 c1 q1 f1 hRk ho2 hb2 hB1 hB hbg2 hbw hb hown
      rcases hG2 with ⟨rfl, g2, g3⟩ | ⟨rfl, rfl, g2⟩
      · rw [g2] at q2
        have g4 : ¬ (1000000000 ≤ gv) := by omega
        clear g2 g3
        go_wp2
        go_ret2
        exact ⟨rfl, hBw⟩
      · rw [g2] at q2
        clear g2
        go_wp2
        go_ret2
        exact ⟨rfl, hBw⟩
end Go.Proofs.Ytlkcfohmoeadbaa

/-
  The reference of layer 1, walked: Greatest, Least.
-/
namespace Go.Proofs.Ytlkcfohmoeadbaa
open Go.RowKit Go.Shelf
set_option maxHeartbeats 4000000
set_option maxRecDepth 100000

theorem rask_ask {p : Int} {bs : List Bd} {x y : Int} (h : rask p bs x y ≠ 0) : askE p bs x y = rask p bs x y := by
  unfold askE rask at *
  by_cases h0 : chk p bs = 0
  · simp only [h0, if_true] at h ⊢
    cases hbo : both p x y with
    | true => rw [hbo] at h; simp at h
    | false => simp
  · simp [h0]
theorem rask_zero {p : Int} {bs : List Bd} {x y : Int} (h : rask p bs x y = 0) : chk p bs = 0 ∧ both p x y = true := by
  unfold rask at h
  split at h
  · rename_i h0
    refine ⟨h0, ?_⟩
    cases hbo : both p x y with
    | true => rfl
    | false => rw [hbo] at h; simp at h
  · exact absurd h ‹_›

theorem rGreatest_any (p : Int) (a : Option Addr) (n cap : Nat) (bs : List Bd) (x y : Int) (w : World) (hb : BdsAt w a n cap bs) :
    Calls Try.prog 38 #[.agg #[.int .i64 p, .slice a n cap], .int .i64 x, .int .i64 y] w fun e w' => e = .returned (.tuple #[.int .i64 (grN p bs x y), .bool (grB p bs x y), .int .i64 (askE p bs x y)]) ∧ Below w.heap.size w w' := by
  have hbx := hb.below (w' := w.alloc (Obj.cells #[.int .i64 p, .slice a n cap] 24)) ((Below.refl _ _).alloc (Nat.le_refl _) _)
  have hA := rasked_any p a n cap bs x y _ hbx
  by_cases hr : rask p bs x y = 0
  · obtain ⟨h0, hxy⟩ := rask_zero hr
    have hD := fun w1 (hb1 : BdsAt w1 a n cap bs) => rsolved_any p a n cap bs w1 hb1 (Sys.of_chk h0) (Pts.of_chk h0)
    simp only [hr] at hA
    by_cases hok : okB p bs = true
    · have hG := fun w1 (hb1 : BdsAt w1 a n cap bs) => rgreatest_any p a n cap bs x y w1 hb1 h0 hok hxy
      have hE : askE p bs x y = 0 := by simp [askE, h0, hxy, hok]
      have eN : grN p bs x y = if gD p bs x y = FAR then 0 else gD p bs x y := by
        unfold grN
        rw [hE]
        by_cases hg : gD p bs x y = FAR
        · simp [hg]
        · simp [hg]
      have eB : grB p bs x y = decide (gD p bs x y ≠ FAR) := by unfold grB; rw [hE]; simp
      simp only [hok, if_true] at hD
      rw [hE, eN, eB]
      generalize (if gD p bs x y = FAR then 0 else gD p bs x y) = gv at *
      generalize decide (gD p bs x y ≠ FAR) = gb at *
      clear hE eN eB hok h0 hxy hr
      go_enter Try.func38, Try.ntmps38
      go_wp2_with (first
        | (go_at_call 74; refine (hA).mono ?_; rintro e w1 ⟨rfl, hb1⟩; obtain ⟨hc1, hf1⟩ := bcell hb1; have hz1a := lt_size hb1 (b := w.heap.size) (by first | assumption | omega | (simp; done) | (simp; omega)))
        | (go_at_call 76; refine (hD _ (hbx.below hb1)).mono ?_; rintro e w3 ⟨rfl, hb3⟩; obtain ⟨hc3, hf3⟩ := bcell hb3; have hz3a := lt_size hb3 (b := w.heap.size) (by first | assumption | omega | (simp; done) | (simp; omega)))
        | (go_at_call 83; refine (hG _ ((hbx.below hb1).below hb3)).mono ?_; rintro e w4 ⟨rfl, hb4⟩; obtain ⟨hc4, hf4⟩ := bcell hb4; have hz4a := lt_size hb4 (b := w.heap.size) (by first | assumption | omega | (simp; done) | (simp; omega))))
      have z1 := hb1.size
      have z3 := hb3.size
      simp only [World.size_alloc] at z1
      refine bodyPost_ret (v := .tuple #[.int .i64 gv, .bool gb, .int .i64 0]) (by simp [results, Try.results38, go_sem, *]) rfl ⟨rfl, ?_⟩
      exact ((((Below.refl _ w).alloc (Nat.le_refl _) _).trans (hb1.mono (by simp))).trans (hb3.mono (by omega))).trans (hb4.mono (by omega))
    · have hok' : okB p bs = false := by simpa using hok
      have hE : askE p bs x y = 10 := by simp [askE, h0, hxy, hok']
      have eN : grN p bs x y = 0 := by unfold grN; rw [hE]; simp
      have eB : grB p bs x y = false := by unfold grB; rw [hE]; simp
      simp only [hok', Bool.false_eq_true, if_false] at hD
      rw [hE, eN, eB]
      clear hE eN eB hok hok' h0 hxy hr
      go_enter Try.func38, Try.ntmps38
      go_wp2_with (first
        | (go_at_call 74; refine (hA).mono ?_; rintro e w1 ⟨rfl, hb1⟩; obtain ⟨hc1, hf1⟩ := bcell hb1; have hz1a := lt_size hb1 (b := w.heap.size) (by first | assumption | omega | (simp; done) | (simp; omega)))
        | (go_at_call 76; refine (hD _ (hbx.below hb1)).mono ?_; rintro e w3 ⟨rfl, hb3⟩; obtain ⟨hc3, hf3⟩ := bcell hb3; have hz3a := lt_size hb3 (b := w.heap.size) (by first | assumption | omega | (simp; done) | (simp; omega))))
      have z1 := hb1.size
      simp only [World.size_alloc] at z1
      refine bodyPost_ret (v := .tuple #[.int .i64 0, .bool false, .int .i64 10]) (by simp [results, Try.results38, go_sem, *]) rfl ⟨rfl, ?_⟩
      exact (((Below.refl _ w).alloc (Nat.le_refl _) _).trans (hb1.mono (by simp))).trans (hb3.mono (by omega))
  · have hE := rask_ask hr
    have eN : grN p bs x y = 0 := by unfold grN; rw [hE, if_neg (fun h => hr h.1)]
    have eB : grB p bs x y = false := by unfold grB; rw [hE]; exact decide_eq_false (fun h => hr h.1)
    rw [hE, eN, eB]
    have hr' : (rask p bs x y == 0) = false := by simpa using hr
    clear hE eN eB hr
    generalize rask p bs x y = c at *
    go_enter Try.func38, Try.ntmps38
    go_wp2_with (go_at_call 74; refine (hA).mono ?_; rintro e w1 ⟨rfl, hb1⟩; obtain ⟨hc1, hf1⟩ := bcell hb1; have hz1a := lt_size hb1 (b := w.heap.size) (by first | assumption | omega | (simp; done) | (simp; omega)))
    refine bodyPost_ret (v := .tuple #[.int .i64 0, .bool false, .int .i64 c]) (by simp [results, Try.results38, go_sem, *]) rfl ⟨rfl, ((Below.refl _ w).alloc (Nat.le_refl _) _).trans (hb1.mono (by simp))⟩
end Go.Proofs.Ytlkcfohmoeadbaa

/-
  The reference of layer 1, walked: Least, fixed, Fixed.
-/
namespace Go.Proofs.Ytlkcfohmoeadbaa
open Go.RowKit Go.Shelf
set_option maxHeartbeats 4000000
set_option maxRecDepth 100000

theorem both_comm (p x y : Int) : both p x y = both p y x := by rw [both_within, both_within, Bool.and_comm]
theorem rask_comm (p : Int) (bs : List Bd) (x y : Int) : rask p bs x y = rask p bs y x := by unfold rask; rw [both_comm]

theorem rLeast_any (p : Int) (a : Option Addr) (n cap : Nat) (bs : List Bd) (x y : Int) (w : World) (hb : BdsAt w a n cap bs) :
    Calls Try.prog 39 #[.agg #[.int .i64 p, .slice a n cap], .int .i64 x, .int .i64 y] w fun e w' => e = .returned (.tuple #[.int .i64 (- grN p bs y x), .bool (grB p bs y x), .int .i64 (askE p bs y x)]) ∧ Below w.heap.size w w' := by
  have hbx := hb.below (w' := w.alloc (Obj.cells #[.int .i64 p, .slice a n cap] 24)) ((Below.refl _ _).alloc (Nat.le_refl _) _)
  have hA := rasked_any p a n cap bs x y _ hbx
  by_cases hr : rask p bs x y = 0
  · simp only [hr] at hA
    have hG := fun w1 (hb1 : BdsAt w1 a n cap bs) => rGreatest_any p a n cap bs y x w1 hb1
    obtain ⟨r1, r2⟩ := grN_range p bs y x
    unfold FAR at r2
    generalize grN p bs y x = g1 at *
    generalize grB p bs y x = g2 at *
    generalize askE p bs y x = g3 at *
    clear hr
    go_enter Try.func39, Try.ntmps39
    go_wp2_with (first
      | (go_at_call 74; refine (hA).mono ?_; rintro e w1 ⟨rfl, hb1⟩; obtain ⟨hc1, hf1⟩ := bcell hb1; have hz1a := lt_size hb1 (b := w.heap.size) (by first | assumption | omega | (simp; done) | (simp; omega)))
      | (go_at_call 38; refine (hG _ (hbx.below hb1)).mono ?_; rintro e w2 ⟨rfl, hb2⟩))
    have z1 := hb1.size
    simp only [World.size_alloc] at z1
    refine bodyPost_ret (v := .tuple #[.int .i64 (-g1), .bool g2, .int .i64 g3]) (by simp [results, Try.results39, go_sem, *]) rfl ⟨rfl, ?_⟩
    exact (((Below.refl _ w).alloc (Nat.le_refl _) _).trans (hb1.mono (by simp))).trans (hb2.mono (by omega))
  · have hr2 : rask p bs y x ≠ 0 := by rw [← rask_comm]; exact hr
    have hE := rask_ask hr2
    have eN : grN p bs y x = 0 := by unfold grN; rw [hE, if_neg (fun h => hr2 h.1)]
    have eB : grB p bs y x = false := by unfold grB; rw [hE]; exact decide_eq_false (fun h => hr2 h.1)
    rw [hE, eN, eB, ← rask_comm]
    have hr' : (rask p bs x y == 0) = false := by simpa using hr
    clear hE eN eB hr hr2
    generalize rask p bs x y = c at *
    go_enter Try.func39, Try.ntmps39
    go_wp2_with (go_at_call 74; refine (hA).mono ?_; rintro e w1 ⟨rfl, hb1⟩; obtain ⟨hc1, hf1⟩ := bcell hb1; have hz1a := lt_size hb1 (b := w.heap.size) (by first | assumption | omega | (simp; done) | (simp; omega)))
    refine bodyPost_ret (v := .tuple #[.int .i64 (-0), .bool false, .int .i64 c]) (by simp [results, Try.results39, go_sem, *]) rfl ⟨rfl, ((Below.refl _ w).alloc (Nat.le_refl _) _).trans (hb1.mono (by simp))⟩

theorem rfixed_any (p : Int) (a : Option Addr) (n cap : Nat) (bs : List Bd) (x y : Int) (w : World) (hb : BdsAt w a n cap bs) (hc : chk p bs = 0) (hok : okB p bs = true) (hxy : both p x y = true) :
    Calls Try.prog 90 #[.agg #[.int .i64 p, .slice a n cap], .int .i64 x, .int .i64 y] w fun e w' => e = .returned (.tuple #[.int .i64 (if fxB p bs x y then gD p bs x y else 0), .bool (fxB p bs x y)]) ∧ Below w.heap.size w w' := by
  have hyx : both p y x = true := by rw [both_comm]; exact hxy
  have h1 := fun w1 (hb1 : BdsAt w1 a n cap bs) => rgreatest_any p a n cap bs x y w1 hb1 hc hok hxy
  have h2 := fun w1 (hb1 : BdsAt w1 a n cap bs) => rgreatest_any p a n cap bs y x w1 hb1 hc hok hyx
  have hbx := hb.below (w' := w.alloc (Obj.cells #[.int .i64 p, .slice a n cap] 24)) ((Below.refl _ _).alloc (Nat.le_refl _) _)
  obtain ⟨⟨x0, x1⟩, y0, y1⟩ := both_in hxy
  have l1 := gD_low hc x0 x1 y0 y1
  have l2 := gD_low hc y0 y1 x0 x1
  have u1 := (gD_range (Sys.of_chk hc) x0 x1 y0 y1).2
  have u2 := (gD_range (Sys.of_chk hc) y0 y1 x0 x1).2
  have hF : FAR = 1099511627776 := rfl
  rw [hF] at u1 u2
  unfold fxB
  simp only [hF] at h1 h2
  generalize gD p bs x y = A at *
  generalize gD p bs y x = B at *
  clear hc hok hxy hyx x0 x1 y0 y1 hF
  obtain ⟨g1, e1⟩ : ∃ g1, (if A = 1099511627776 then 0 else A) = g1 := ⟨_, rfl⟩
  obtain ⟨g2, e2⟩ : ∃ g2, (if B = 1099511627776 then 0 else B) = g2 := ⟨_, rfl⟩
  obtain ⟨f1, d1⟩ : ∃ f1, decide (A ≠ 1099511627776) = f1 := ⟨_, rfl⟩
  obtain ⟨f2, d2⟩ : ∃ f2, decide (B ≠ 1099511627776) = f2 := ⟨_, rfl⟩
  have k1 : -30000000000 ≤ g1 ∧ g1 ≤ 1099511627776 := by rw [← e1]; split <;> omega
  have k2 : -30000000000 ≤ g2 ∧ g2 ≤ 1099511627776 := by rw [← e2]; split <;> omega
  have hfx : decide (A ≠ 1099511627776 ∧ A = -B) = (f1 && f2 && decide (g1 = -g2)) := by
    rw [← d1, ← d2, ← e1, ← e2, Bool.eq_iff_iff]
    simp only [Bool.and_eq_true, decide_eq_true_eq]
    by_cases a1 : A = 1099511627776
    · simp [a1]
    · by_cases b1 : B = 1099511627776
      · simp [a1, b1]; omega
      · simp [a1, b1]
  have hfv : (if decide (A ≠ 1099511627776 ∧ A = -B) = true then A else 0) = if (f1 && f2 && decide (g1 = -g2)) = true then g1 else 0 := by
    rw [hfx]
    by_cases a1 : A = 1099511627776
    · rw [← d1]; simp [a1]
    · rw [← e1, if_neg a1]
  rw [hfv, hfx]
  simp only [e1, d1] at h1
  simp only [e2, d2] at h2
  obtain ⟨k1a, k1b⟩ := k1
  obtain ⟨k2a, k2b⟩ := k2
  clear hfv hfx e1 e2 d1 d2 l1 l2 u1 u2
  have fin : ∀ (t : Bool), decide (g1 = -g2) = t → Calls Try.prog 90 #[.agg #[.int .i64 p, .slice a n cap], .int .i64 x, .int .i64 y] w fun e w' => e = .returned (.tuple #[.int .i64 (if (f1 && f2 && t) = true then g1 else 0), .bool (f1 && f2 && t)]) ∧ Below w.heap.size w w' := fun t ht => by
    have ht' : (g1 == -g2) = t := by rw [← ht]; rw [Bool.eq_iff_iff]; simp
    clear ht
    cases f1 <;> cases f2 <;> cases t <;>
    · go_enter Try.func90, Try.ntmps90
      go_wp2_with (first
        | (go_at_call 83; have hz0 := hb1; clear hz0; refine (h2 _ (hbx.below hb1)).mono ?_; rintro e w2 ⟨rfl, hb2⟩)
        | (go_at_call 83; refine (h1 _ hbx).mono ?_; rintro e w1 ⟨rfl, hb1⟩; obtain ⟨hc1, hf1⟩ := bcell hb1; have hz1a := lt_size hb1 (b := w.heap.size) (by first | assumption | omega | (simp; done) | (simp; omega))))
      go_ret2
      have z1 := hb1.size
      simp only [World.size_alloc] at z1
      exact ⟨rfl, (((Below.refl _ w).alloc (Nat.le_refl _) _).trans (hb1.mono (by simp))).trans (hb2.mono (by omega))⟩
  exact fin _ rfl

theorem askE_err {p : Int} {bs : List Bd} {x y : Int} (h : askE p bs x y = 0) : chk p bs = 0 ∧ okB p bs = true ∧ both p x y = true := by
  have := askE_zero h
  exact ⟨this.1, this.2.2, this.2.1⟩

theorem rFixed_any (p : Int) (a : Option Addr) (n cap : Nat) (bs : List Bd) (x y : Int) (w : World) (hb : BdsAt w a n cap bs) :
    Calls Try.prog 41 #[.agg #[.int .i64 p, .slice a n cap], .int .i64 x, .int .i64 y] w fun e w' => e = .returned (.tuple #[.int .i64 (fixN p bs x y), .bool (fixB p bs x y), .int .i64 (askE p bs x y)]) ∧ Below w.heap.size w w' := by
  have hbx := hb.below (w' := w.alloc (Obj.cells #[.int .i64 p, .slice a n cap] 24)) ((Below.refl _ _).alloc (Nat.le_refl _) _)
  have hG := rGreatest_any p a n cap bs x y _ hbx
  unfold fixN fixB
  by_cases he : askE p bs x y = 0
  · obtain ⟨hc, hok, hxy⟩ := askE_err he
    have hX := fun w1 (hb1 : BdsAt w1 a n cap bs) => rfixed_any p a n cap bs x y w1 hb1 hc hok hxy
    simp only [he, true_and, decide_true, Bool.true_and] at hG ⊢
    generalize (if fxB p bs x y = true then gD p bs x y else 0) = gv at *
    generalize fxB p bs x y = gb at *
    generalize grN p bs x y = g1 at *
    generalize grB p bs x y = g2 at *
    clear he hc hok hxy
    go_enter Try.func41, Try.ntmps41
    go_wp2_with (first
      | (go_at_call 38; refine (hG).mono ?_; rintro e w1 ⟨rfl, hb1⟩; obtain ⟨hc1, hf1⟩ := bcell hb1; have hz1a := lt_size hb1 (b := w.heap.size) (by first | assumption | omega | (simp; done) | (simp; omega)))
      | (go_at_call 90; refine (hX _ (hbx.below hb1)).mono ?_; rintro e w2 ⟨rfl, hb2⟩))
    have z1 := hb1.size
    simp only [World.size_alloc] at z1
    refine bodyPost_ret (v := .tuple #[.int .i64 gv, .bool gb, .int .i64 0]) (by simp [results, Try.results41, go_sem, *]) rfl ⟨rfl, ?_⟩
    exact (((Below.refl _ w).alloc (Nat.le_refl _) _).trans (hb1.mono (by simp))).trans (hb2.mono (by omega))
  · rw [if_neg (fun h => he h.1), decide_eq_false he, Bool.false_and]
    have he' : (askE p bs x y == 0) = false := by simpa using he
    clear he
    generalize askE p bs x y = c at *
    generalize grN p bs x y = g1 at *
    generalize grB p bs x y = g2 at *
    go_enter Try.func41, Try.ntmps41
    go_wp2_with (go_at_call 38; refine (hG).mono ?_; rintro e w1 ⟨rfl, hb1⟩; obtain ⟨hc1, hf1⟩ := bcell hb1; have hz1a := lt_size hb1 (b := w.heap.size) (by first | assumption | omega | (simp; done) | (simp; omega)))
    refine bodyPost_ret (v := .tuple #[.int .i64 0, .bool false, .int .i64 c]) (by simp [results, Try.results41, go_sem, *]) rfl ⟨rfl, ((Below.refl _ w).alloc (Nat.le_refl _) _).trans (hb1.mono (by simp))⟩
end Go.Proofs.Ytlkcfohmoeadbaa

/-
  The law GaugeEnds, walked: it returns true.
-/
namespace Go.Proofs.Ytlkcfohmoeadbaa
open Go.RowKit Go.Shelf
set_option maxHeartbeats 4000000
set_option maxRecDepth 100000

theorem law_ends (p : Int) (a : Option Addr) (n cap : Nat) (bs : List Bd) (x y : Int) (w : World) (hb : BdsAt w a n cap bs) (hn : n ≤ 140737488351232) :
    Calls Try.prog 8 #[.agg #[.int .i64 p, .slice a n cap], .int .i64 x, .int .i64 y] w fun e w' => e = .returned (.bool true) ∧ Below w.heap.size w w' := by
  have hbx := hb.below (w' := w.alloc (Obj.cells #[.int .i64 p, .slice a n cap] 24)) ((Below.refl _ _).alloc (Nat.le_refl _) _)
  have hW := fun w1 => lwide_any p a n cap w1 hn
  by_cases hn4 : n ≤ 403
  · have h1 : decide (n ≤ 403) = true := by simpa using hn4
    simp only [h1] at hW
    have hA := fun w1 (hb1 : BdsAt w1 a n cap bs) => gGreatest_any p a n cap bs x y w1 hb1
    have hB := fun w1 (hb1 : BdsAt w1 a n cap bs) => rGreatest_any p a n cap bs x y w1 hb1
    have hC := fun w1 (hb1 : BdsAt w1 a n cap bs) => gLeast_any p a n cap bs x y w1 hb1
    have hD := fun w1 (hb1 : BdsAt w1 a n cap bs) => rLeast_any p a n cap bs x y w1 hb1
    have hE := fun w1 (hb1 : BdsAt w1 a n cap bs) => gFixed_any p a n cap bs x y w1 hb1
    have hF := fun w1 (hb1 : BdsAt w1 a n cap bs) => rFixed_any p a n cap bs x y w1 hb1
    generalize grN p bs x y = u1 at *
    generalize grB p bs x y = u2 at *
    generalize -grN p bs y x = u4 at *
    generalize grB p bs y x = u5 at *
    generalize askE p bs y x = u6 at *
    generalize fixN p bs x y = u7 at *
    generalize fixB p bs x y = u8 at *
    generalize askE p bs x y = u3 at *
    have n1 : (u1 != u1) = false := by simp
    have n2 : (u2 != u2) = false := by simp
    have n3 : (u3 != u3) = false := by simp
    have n4 : (u4 != u4) = false := by simp
    have n5 : (u5 != u5) = false := by simp
    have n6 : (u6 != u6) = false := by simp
    have n7 : (u7 == u7) = true := by simp
    have n8 : (u8 == u8) = true := by simp
    have n9 : (u3 == u3) = true := by simp
    clear hn4 hn
    go_enter Try.func8, Try.ntmps8
    go_wp2_with (first
      | (go_at_call 20; refine (hW _).mono ?_; rintro e w0 ⟨rfl, hb0⟩; obtain ⟨hc0, hf0⟩ := bcell hb0; have hz0a := lt_size hb0 (b := w.heap.size) (by first | assumption | omega | (simp; done) | (simp; omega)))
      | (go_at_call 36; refine (hA _ (hbx.below hb0)).mono ?_; rintro e w1 ⟨rfl, hb1⟩; obtain ⟨hc1, hf1⟩ := bcell hb1; have hz1a := lt_size hb1 (b := w.heap.size) (by first | assumption | omega | (simp; done) | (simp; omega)))
      | (go_at_call 38; refine (hB _ ((hbx.below hb0).below hb1)).mono ?_; rintro e w2 ⟨rfl, hb2⟩; obtain ⟨hc2, hf2⟩ := bcell hb2; have hz2a := lt_size hb2 (b := w.heap.size) (by first | assumption | omega | (simp; done) | (simp; omega)))
      | (go_at_call 37; refine (hC _ (((hbx.below hb0).below hb1).below hb2)).mono ?_; rintro e w3 ⟨rfl, hb3⟩; obtain ⟨hc3, hf3⟩ := bcell hb3; have hz3a := lt_size hb3 (b := w.heap.size) (by first | assumption | omega | (simp; done) | (simp; omega)))
      | (go_at_call 39; refine (hD _ ((((hbx.below hb0).below hb1).below hb2).below hb3)).mono ?_; rintro e w4 ⟨rfl, hb4⟩; obtain ⟨hc4, hf4⟩ := bcell hb4; have hz4a := lt_size hb4 (b := w.heap.size) (by first | assumption | omega | (simp; done) | (simp; omega)))
      | (go_at_call 40; refine (hE _ (((((hbx.below hb0).below hb1).below hb2).below hb3).below hb4)).mono ?_; rintro e w5 ⟨rfl, hb5⟩; obtain ⟨hc5, hf5⟩ := bcell hb5; have hz5a := lt_size hb5 (b := w.heap.size) (by first | assumption | omega | (simp; done) | (simp; omega)))
      | (go_at_call 41; refine (hF _ ((((((hbx.below hb0).below hb1).below hb2).below hb3).below hb4).below hb5)).mono ?_; rintro e w6 ⟨rfl, hb6⟩; obtain ⟨hc6, hf6⟩ := bcell hb6; have hz6a := lt_size hb6 (b := w.heap.size) (by first | assumption | omega | (simp; done) | (simp; omega)))
      | (go_at_call 21; refine (lalive_any _).mono ?_; rintro e w7 ⟨rfl, hb7⟩; obtain ⟨hc7, hf7⟩ := bcell hb7; have hz7a := lt_size hb7 (b := w.heap.size) (by first | assumption | omega | (simp; done) | (simp; omega))))
    go_ret
    have z0 := hb0.size
    have z1 := hb1.size
    have z2 := hb2.size
    have z3 := hb3.size
    have z4 := hb4.size
    have z5 := hb5.size
    have z6 := hb6.size
    simp only [World.size_alloc] at z0
    exact ⟨rfl, (((((((((Below.refl _ w).alloc (Nat.le_refl _) _).trans (hb0.mono (by simp))).trans (hb1.mono (by omega))).trans (hb2.mono (by omega))).trans (hb3.mono (by omega))).trans (hb4.mono (by omega))).trans (hb5.mono (by omega))).trans (hb6.mono (by omega))).trans (hb7.mono (by omega))⟩
  · have h1 : decide (n ≤ 403) = false := by simpa using hn4
    simp only [h1] at hW
    go_enter Try.func8, Try.ntmps8
    go_wp2_with (first
      | (go_at_call 20; refine (hW _).mono ?_; rintro e w0 ⟨rfl, hb0⟩; obtain ⟨hc0, hf0⟩ := bcell hb0; have hz0a := lt_size hb0 (b := w.heap.size) (by first | assumption | omega | (simp; done) | (simp; omega)))
      | (go_at_call 21; refine (lalive_any _).mono ?_; rintro e w3 ⟨rfl, hb3⟩; obtain ⟨hc3, hf3⟩ := bcell hb3; have hz3a := lt_size hb3 (b := w.heap.size) (by first | assumption | omega | (simp; done) | (simp; omega))))
    go_ret
    have z0 := hb0.size
    simp at z0
    exact ⟨rfl, (((Below.refl _ w).alloc (Nat.le_refl _) _).trans (hb0.mono (by simp))).trans (hb3.mono (by omega))⟩
end Go.Proofs.Ytlkcfohmoeadbaa

/-
  Lemmas and walks for the laws on bounds and their sums; the parts' own heads say what each proves, for every input.
-/
import Derived.Test.YtlkcfohmoeadbaaPk24
import Derived.Test.YtlkcfohmoeadbaaPk09
import Derived.Test.YtlkcfohmoeadbaaPk14
import Derived.Test.YtlkcfohmoeadbaaPk22
import Derived.Test.YtlkcfohmoeadbaaPk15
import Derived.Test.YtlkcfohmoeadbaaPk10
import Derived.Test.YtlkcfohmoeadbaaPk12
set_option linter.unusedSimpArgs false
set_option linter.unusedVariables false
set_option linter.unnecessarySimpa false
/-
  Plain law: greatest differences by way of a third point.
-/
namespace Go.Proofs.Ytlkcfohmoeadbaa

theorem pass_inv {bs : List Bd} {Q : List Int → Prop} (hin : ∀ b ∈ bs, b.inr) (hQ : ∀ r b, r.length = 60 → b ∈ bs → Q r → opens FAR r b = true → Q (r.set b.tow.toNat (gi r b.frm + b.most))) {s : RL} (hl : s.r.length = 60) (h : Q s.r) :
    ∀ k, k ≤ bs.length → Q (s.pass FAR bs k).r
  | 0, _ => h
  | k + 1, hk => by
    have h1 := pass_inv hin hQ hl h k (by omega)
    have hlen := (RL.pass_le hl hin k (by omega)).1
    simp only [RL.pass, RL.step]
    cases ho : opens FAR (s.pass FAR bs k).r (bs.getD k default) with
    | false => simpa using h1
    | true =>
      simp only [if_true, RL.upd]
      exact hQ _ _ hlen (getD_mem (by omega)) h1 ho

theorem settle_inv {bs : List Bd} {Q : List Int → Prop} (hin : ∀ b ∈ bs, b.inr) (hQ : ∀ r b, r.length = 60 → b ∈ bs → Q r → opens FAR r b = true → Q (r.set b.tow.toNat (gi r b.frm + b.most))) :
    ∀ (n : Nat) (s : RL), s.r.length = 60 → Q s.r → Q (settle FAR bs n s).1.r
  | 0, _, _, h => h
  | n + 1, s, hl, h => by
    have h1 := pass_inv hin hQ hl h bs.length (Nat.le_refl _)
    simp only [settle]
    split
    · exact h1
    · exact settle_inv hin hQ n _ (RL.pass_le hl hin bs.length (Nat.le_refl _)).1 h1

/-- Where the sums from a point have settled, no bound is open. -/
theorem gfrom_still {p : Int} {bs : List Bd} (h : chk p bs = 0) (hok : okB p bs = true) {a : Int} (h0 : 0 ≤ a) (h1 : a < p) {b : Bd} (hb : b ∈ bs) (hf : gD p bs a b.frm < FAR) :
    gD p bs a b.tow ≤ gD p bs a b.frm + b.most ∧ gD p bs a b.tow < FAR := by
  have hs := Sys.of_chk h
  have hp := hs.p2
  have hst := settle_still hs.inr (p + 1).toNat ⟨far0 a, List.replicate 60 (-1), 0⟩ (far0_len a) (gfrom_done hs (Pts.of_chk h) hok h0 h1) b hb
  have hN := (rfrom_gfrom h hok h0 h1).2
  have hbi := hs.inr b hb
  have hu := hN.up b.frm hbi.f0 hbi.f1
  have hc := cnt_le hN.len
  have hm := (chk_mil h b hb).2
  have hF : FAR = 1099511627776 := rfl
  have e1 : gi (gfrom p bs a).1.r b.frm = gD p bs a b.frm := rfl
  have e2 : gi (gfrom p bs a).1.r b.tow = gD p bs a b.tow := rfl
  have h3 : ¬ (gD p bs a b.frm < FAR ∧ gD p bs a b.frm + b.most < gD p bs a b.tow) := fun h3 => by
    have := opens_iff.2 h3
    exact absurd (hst.symm.trans this) (by simp)
  omega

theorem gD_tri {p : Int} {bs : List Bd} (h : chk p bs = 0) (hok : okB p bs = true) {a b c : Int} (a0 : 0 ≤ a) (a1 : a < p) (b0 : 0 ≤ b) (b1 : b < p) (c0 : 0 ≤ c) (c1 : c < p) (hab : gD p bs a b < FAR) (hbc : gD p bs b c < FAR) :
    gD p bs a c < FAR ∧ gD p bs a c ≤ gD p bs a b + gD p bs b c := by
  have hs := Sys.of_chk h
  have hp := hs.p2
  have key := settle_inv (Q := fun r => ∀ j : Int, 0 ≤ j → j < 60 → gi r j < FAR → gD p bs a j < FAR ∧ gD p bs a j ≤ gD p bs a b + gi r j) hs.inr (fun r x hl hx hq ho j j0 j1 hj => by
    obtain ⟨o1, o2⟩ := opens_iff.1 ho
    have hxi := hs.inr x hx
    rw [gi_set hxi.t0 (by have := hxi.t0; have := hxi.t1; omega) j0] at hj ⊢
    by_cases e : j = x.tow
    · rw [if_pos e] at hj ⊢
      subst e
      have h1 := hq x.frm hxi.f0 hxi.f1 o1
      have h2 := gfrom_still h hok a0 a1 hx h1.1
      exact ⟨h2.2, by omega⟩
    · rw [if_neg e] at hj ⊢
      exact hq j j0 j1 hj) (p + 1).toNat ⟨far0 b, List.replicate 60 (-1), 0⟩ (far0_len b) (fun j j0 j1 hj => by
    have e := gi_far0 (a := b) (j := j) b0 (by omega) j0 j1
    simp only at hj ⊢
    rw [e] at hj ⊢
    by_cases ej : j = b
    · rw [if_pos ej, ej]
      exact ⟨hab, by omega⟩
    · rw [if_neg ej] at hj
      exact absurd hj (Int.lt_irrefl _))
  exact key c c0 (by omega) hbc
end Go.Proofs.Ytlkcfohmoeadbaa

/-
  Plain laws: systems with more or fewer bounds; where some list keeps all bounds there is a solution; fixed differences.
-/
namespace Go.Proofs.Ytlkcfohmoeadbaa

theorem chk_sub {p : Int} {bs cs : List Bd} (h : chk p bs = 0) (h1 : ∀ b ∈ cs, b ∈ bs) (h2 : cs.length ≤ bs.length) : chk p cs = 0 := by
  unfold chk at h ⊢
  split at h
  · omega
  · split at h
    · omega
    · split at h
      · rename_i a1 a2 a3
        rw [if_neg (by omega), if_neg a2, if_pos]
        exact List.all_eq_true.2 fun b hb => List.all_eq_true.1 a3 b (h1 b hb)
      · omega

theorem mem_pts {p j : Int} (h0 : 0 ≤ j) (h1 : j < p) : j ∈ (List.range p.toNat).map fun (i : Nat) => (i : Int) := List.mem_map.2 ⟨j.toNat, by simp; omega, by simp; omega⟩

/-- Where some list keeps all bounds, there is a solution. -/
theorem okB_of_keeps {p : Int} {bs : List Bd} (h : chk p bs = 0) {y : Int → Int} (hy : keepsB bs y) : okB p bs = true := by
  have hs := Sys.of_chk h
  have hp := hs.p2
  have hp1 := hs.p1
  obtain ⟨v, hv, hm⟩ := least_of (fun j => - y j) ((List.range p.toNat).map fun (i : Nat) => (i : Int)) (by
    intro e
    have := mem_pts (p := p) (j := 0) (by omega) (by omega)
    rw [e] at this
    simp at this)
  refine BF.settles hp hs.inr hy (Pts.of_chk h) (p + 1).toNat ((List.range p.toNat).map fun (i : Nat) => (i : Int)) (- y v) ⟨List.replicate 60 0, List.replicate 60 (-1), 0⟩ (by simp; omega) ⟨fun j hj => hj, fun j j0 j1 hj => ?_, fun j j0 j1 hj hf => ?_, fun j _ _ a b => absurd a b, fun b hb hf => ?_⟩ (by simp)
  · exact absurd (mem_pts j0 j1) hj
  · have := hm j hj
    simp only at this ⊢
    rw [gi_zeros]
    omega
  · obtain ⟨q0, q1, _⟩ := Pts.of_chk h b hb
    exact absurd (mem_pts q0 q1) hf

theorem okB_sub {p : Int} {bs cs : List Bd} (h : chk p bs = 0) (hok : okB p bs = true) (h1 : ∀ b ∈ cs, b ∈ bs) (h2 : cs.length ≤ bs.length) : okB p cs = true :=
  okB_of_keeps (chk_sub h h1 h2) (fun b hb => okB_keeps (Sys.of_chk h) hok b (h1 b hb))

/-- With more bounds greatest differences do not become greater. -/
theorem gD_mono {p : Int} {bs T : List Bd} (hs : Sys p bs) (h : chk p T = 0) (hok : okB p T = true) (hsub : ∀ b ∈ bs, b ∈ T) {a c : Int} (a0 : 0 ≤ a) (a1 : a < p) (c0 : 0 ≤ c) (c1 : c < p) (hac : gD p bs a c < FAR) :
    gD p T a c < FAR ∧ gD p T a c ≤ gD p bs a c := by
  have hp := hs.p2
  have key := settle_inv (Q := fun r => ∀ j : Int, 0 ≤ j → j < 60 → gi r j < FAR → gD p T a j < FAR ∧ gD p T a j ≤ gi r j) hs.inr (fun r x hl hx hq ho j j0 j1 hj => by
    obtain ⟨o1, o2⟩ := opens_iff.1 ho
    have hxi := hs.inr x hx
    rw [gi_set hxi.t0 (by have := hxi.t0; have := hxi.t1; omega) j0] at hj ⊢
    by_cases e : j = x.tow
    · rw [if_pos e] at hj ⊢
      subst e
      have h1 := hq x.frm hxi.f0 hxi.f1 o1
      have h2 := gfrom_still h hok a0 a1 (hsub x hx) h1.1
      exact ⟨h2.2, by omega⟩
    · rw [if_neg e] at hj ⊢
      exact hq j j0 j1 hj) (p + 1).toNat ⟨far0 a, List.replicate 60 (-1), 0⟩ (far0_len a) (fun j j0 j1 hj => by
    have e := gi_far0 (a := a) (j := j) a0 (by omega) j0 j1
    simp only at hj ⊢
    rw [e] at hj ⊢
    by_cases ej : j = a
    · rw [if_pos ej, ej, gD_self (Sys.of_chk h) hok a0 a1]
      unfold FAR
      omega
    · rw [if_neg ej] at hj
      exact absurd hj (Int.lt_irrefl _))
  exact key c c0 (by omega) hac

theorem gr_mono {p : Int} {bs T : List Bd} {x y : Int} (h1 : askE p bs x y = 0) (h2 : askE p T x y = 0) (hsub : ∀ b ∈ bs, b ∈ T) (hB : grB p bs x y = true) : grB p T x y = true ∧ grN p T x y ≤ grN p bs x y := by
  obtain ⟨hc, hxy, hok⟩ := askE_zero h1
  obtain ⟨hcT, _, hokT⟩ := askE_zero h2
  obtain ⟨⟨x0, x1⟩, y0, y1⟩ := both_in hxy
  unfold grB at hB ⊢
  simp only [decide_eq_true_eq] at hB
  have hs := Sys.of_chk hc
  have u1 := (gD_range hs x0 x1 y0 y1).2
  have h := gD_mono hs hcT hokT hsub x0 x1 y0 y1 (by omega)
  have h4 : gD p T x y ≠ FAR := by omega
  unfold grN
  rw [if_pos ⟨h2, h4⟩, if_pos hB]
  exact ⟨decide_eq_true ⟨h2, h4⟩, h.2⟩

theorem askE_eq {p : Int} {bs : List Bd} {x y : Int} (h : chk p bs = 0) (hxy : both p x y = true) (hok : okB p bs = true) : askE p bs x y = 0 := by simp [askE, h, hxy, hok]
theorem askE_sub {p : Int} {bs cs : List Bd} {x y : Int} (h : askE p bs x y = 0) (h1 : ∀ b ∈ cs, b ∈ bs) (h2 : cs.length ≤ bs.length) : askE p cs x y = 0 := by
  obtain ⟨hc, hxy, hok⟩ := askE_zero h
  exact askE_eq (chk_sub hc h1 h2) hxy (okB_sub hc hok h1 h2)

/-- Fixed differences: an equivalence. -/
theorem fxB_iff {p : Int} {bs : List Bd} {x y : Int} : fxB p bs x y = true ↔ gD p bs x y ≠ FAR ∧ gD p bs x y = - gD p bs y x := by
  unfold fxB
  rw [decide_eq_true_eq]
  rfl
theorem fxB_symm {p : Int} {bs : List Bd} (h : chk p bs = 0) {x y : Int} (x0 : 0 ≤ x) (x1 : x < p) (y0 : 0 ≤ y) (y1 : y < p) (hf : fxB p bs x y = true) : fxB p bs y x = true := by
  rw [fxB_iff] at hf ⊢
  have l1 := gD_low h x0 x1 y0 y1
  have l2 := gD_low h y0 y1 x0 x1
  unfold FAR at *
  omega
theorem fxB_trans {p : Int} {bs : List Bd} (h : chk p bs = 0) (hok : okB p bs = true) {x y z : Int} (x0 : 0 ≤ x) (x1 : x < p) (y0 : 0 ≤ y) (y1 : y < p) (z0 : 0 ≤ z) (z1 : z < p) (hf : fxB p bs x y = true) (hg : fxB p bs y z = true) : fxB p bs x z = true := by
  have hf' := fxB_symm h x0 x1 y0 y1 hf
  have hg' := fxB_symm h y0 y1 z0 z1 hg
  rw [fxB_iff] at hf hg hf' hg' ⊢
  have hs := Sys.of_chk h
  have u1 := (gD_range hs x0 x1 y0 y1).2
  have u2 := (gD_range hs y0 y1 x0 x1).2
  have u3 := (gD_range hs y0 y1 z0 z1).2
  have u4 := (gD_range hs z0 z1 y0 y1).2
  have t1 := gD_tri h hok x0 x1 y0 y1 z0 z1 (by omega) (by omega)
  have t2 := gD_tri h hok z0 z1 y0 y1 x0 x1 (by omega) (by omega)
  have t3 := gD_tri h hok x0 x1 z0 z1 x0 x1 t1.1 t2.1
  rw [gD_self hs hok x0 x1] at t3
  omega

theorem rigFrom_spec {p : Int} {bs : List Bd} {i : Nat} (hi : fxB p bs i i = true) : ∀ (n q : Nat), q + n = i → q ≤ rigFrom p bs i n q ∧ rigFrom p bs i n q ≤ i ∧ fxB p bs (rigFrom p bs i n q : Nat) i = true ∧ ∀ k, q ≤ k → k < rigFrom p bs i n q → fxB p bs k i = false
  | 0, q, h => by
    have : q = i := by omega
    subst this
    exact ⟨Nat.le_refl _, Nat.le_refl _, hi, fun k h1 h2 => by simp only [rigFrom] at h2; omega⟩
  | n + 1, q, h => by
    simp only [rigFrom]
    by_cases e : fxB p bs q i = true
    · rw [if_pos e]
      exact ⟨Nat.le_refl _, by omega, e, fun k h1 h2 => by omega⟩
    · rw [if_neg e]
      obtain ⟨h1, h2, h3, h4⟩ := rigFrom_spec hi n (q + 1) (by omega)
      refine ⟨by omega, h2, h3, fun k k1 k2 => ?_⟩
      by_cases ek : k = q
      · subst ek; simpa using e
      · exact h4 k (by omega) k2

theorem rigQ_le {p : Int} {bs : List Bd} (h : chk p bs = 0) (hok : okB p bs = true) {i : Nat} (hi : (i : Int) < p) : rigQ p bs i ≤ i ∧ fxB p bs (rigQ p bs i : Nat) i = true ∧ ∀ k, k < rigQ p bs i → fxB p bs k i = false := by
  obtain ⟨_, h2, h3, h4⟩ := rigFrom_spec (fxB_self (Sys.of_chk h) hok (a := i) (by omega) hi) i 0 (by omega)
  exact ⟨h2, h3, fun k hk => h4 k (by omega) hk⟩

/-- Two points have the same first fixed point exactly if their difference is fixed. -/
theorem rigQ_fixed {p : Int} {bs : List Bd} (h : chk p bs = 0) (hok : okB p bs = true) {i j : Nat} (hi : (i : Int) < p) (hj : (j : Int) < p) : fxB p bs i j = decide (rigQ p bs i = rigQ p bs j) := by
  obtain ⟨a1, a2, a3⟩ := rigQ_le h hok hi
  obtain ⟨b1, b2, b3⟩ := rigQ_le h hok hj
  rw [Bool.eq_iff_iff, decide_eq_true_eq]
  constructor
  · intro hf
    have h1 := fxB_trans h hok (x := (rigQ p bs i : Nat)) (y := i) (z := j) (by omega) (by omega) (by omega) hi (by omega) hj a2 hf
    have hf2 := fxB_symm h (by omega) hi (by omega) hj hf
    have h2 := fxB_trans h hok (x := (rigQ p bs j : Nat)) (y := j) (z := i) (by omega) (by omega) (by omega) hj (by omega) hi b2 hf2
    have c1 : ¬ rigQ p bs i < rigQ p bs j := fun hl => by rw [b3 _ hl] at h1; cases h1
    have c2 : ¬ rigQ p bs j < rigQ p bs i := fun hl => by rw [a3 _ hl] at h2; cases h2
    omega
  · intro e
    have h1 := fxB_symm h (x := (rigQ p bs i : Nat)) (y := i) (by omega) (by omega) (by omega) hi a2
    rw [e] at h1
    exact fxB_trans h hok (by omega) hi (by omega) (by omega) (by omega) hj h1 b2

/-- Records left out: the reference's list of what is kept. -/
def rkeep (st : List Bd → Bool) (bs : List Bd) (k : Nat) : List Int := (idsL bs).take k ++ (loAt st bs k).2.reverse
theorem rkeep_top (st : List Bd → Bool) (bs : List Bd) : rkeep st bs (idsL bs).length = idsL bs := by simp [rkeep, loAt_top]
theorem rkeep_zero (st : List Bd → Bool) (bs : List Bd) : rkeep st bs 0 = loL st bs := by simp [rkeep, loL]

theorem loAt_out {st : List Bd → Bool} {bs : List Bd} : ∀ (d k : Nat), k + d = (idsL bs).length → ∀ x ∈ (loAt st bs k).2, x ∈ (idsL bs).drop k
  | 0, k, h => by
    have : k = (idsL bs).length := by omega
    subst this
    simp [loAt_top]
  | d + 1, k, h => by
    have ih := loAt_out (st := st) (bs := bs) d (k + 1) (by omega)
    have hk : k < (idsL bs).length := by omega
    rw [loAt_step hk]
    have hd := List.drop_eq_getElem_cons hk
    have hg : (idsL bs).getD k 0 = (idsL bs)[k] := by simp [List.getD_eq_getElem?_getD, List.getElem?_eq_getElem hk]
    intro x hx
    rw [hd]
    split at hx
    · exact List.mem_cons_of_mem _ (ih x hx)
    · rcases List.mem_append.1 hx with hx | hx
      · exact List.mem_cons_of_mem _ (ih x hx)
      · rw [hg] at hx
        rw [List.mem_singleton.1 hx]
        exact List.mem_cons_self

theorem loAt_filter {st : List Bd → Bool} {bs : List Bd} : ∀ (d k : Nat), k + d = (idsL bs).length → (loAt st bs k).1 = bs.filter (onlyB (rkeep st bs k)) ∧ (0 < d → (loAt st bs (k + 1)).1.filter (fun b => b.bid != (idsL bs).getD k 0) = bs.filter (onlyB ((idsL bs).take k ++ (loAt st bs (k + 1)).2.reverse)))
  | 0, k, h => by
    have : k = (idsL bs).length := by omega
    subst this
    refine ⟨?_, fun h => by omega⟩
    rw [rkeep_top, loAt_top]
    symm
    refine List.filter_eq_self.2 fun b hb => ?_
    unfold onlyB
    by_cases e : b.bid = 0
    · simp [e]
    · have := mem_idsL.2 ⟨e, b, hb, rfl⟩
      simp only [Bool.or_eq_true, List.any_eq_true]
      exact .inr ⟨_, this, by simp⟩
  | d + 1, k, h => by
    obtain ⟨ih, _⟩ := loAt_filter (st := st) (bs := bs) d (k + 1) (by omega)
    have hk : k < (idsL bs).length := by omega
    have hg : (idsL bs).getD k 0 = (idsL bs)[k] := by simp [List.getD_eq_getElem?_getD, List.getElem?_eq_getElem hk]
    have ho := loAt_out (st := st) (bs := bs) d (k + 1) (by omega)
    have hn := (idsL_asc bs).nodup
    have h0 : (idsL bs)[k] ≠ 0 := (mem_idsL.1 (List.getElem_mem hk)).1
    have hd := List.drop_eq_getElem_cons hk
    have hsplit : (idsL bs).take k ++ (idsL bs)[k] :: (idsL bs).drop (k + 1) = idsL bs := by rw [← hd, List.take_append_drop]
    have hn2 := hn
    rw [← hsplit, List.nodup_append, List.nodup_cons] at hn2
    obtain ⟨_, ⟨n1, _⟩, n2⟩ := hn2
    have ht : (idsL bs).take (k + 1) = (idsL bs).take k ++ [(idsL bs)[k]] := List.take_succ_eq_append_getElem hk
    have key : (loAt st bs (k + 1)).1.filter (fun b => b.bid != (idsL bs).getD k 0) = bs.filter (onlyB ((idsL bs).take k ++ (loAt st bs (k + 1)).2.reverse)) := by
      rw [ih, List.filter_filter]
      congr 1
      funext b
      rw [hg]
      unfold onlyB rkeep
      rw [ht]
      rw [Bool.eq_iff_iff]
      simp only [Bool.and_eq_true, bne_iff_ne, ne_eq, Bool.or_eq_true, beq_iff_eq, List.any_eq_true, List.mem_append, List.mem_singleton, List.mem_reverse, exists_eq_right]
      constructor
      · rintro ⟨a1, a2 | (a2 | a2) | a2⟩
        · exact .inl a2
        · exact .inr (.inl a2)
        · exact absurd a2 a1
        · exact .inr (.inr a2)
      · rintro (a2 | a2 | a2)
        · exact ⟨fun e => h0 (by rw [← e]; exact a2), .inl a2⟩
        · exact ⟨fun e => n2 _ a2 _ (List.mem_cons_self) e, .inr (.inl (.inl a2))⟩
        · exact ⟨fun e => n1 (by rw [← e]; exact ho _ a2), .inr (.inr a2)⟩
    refine ⟨?_, fun _ => key⟩
    unfold rkeep
    rw [loAt_step hk]
    split
    · exact key
    · rw [ih]
      unfold rkeep
      rw [ht, hg]
      simp only [List.reverse_append, List.reverse_cons, List.reverse_nil, List.nil_append, List.append_assoc, List.cons_append, List.singleton_append]

theorem rkeep_step {st : List Bd → Bool} {bs : List Bd} {k : Nat} (hk : k < (idsL bs).length) :
    rkeep st bs k = if st (bs.filter (onlyB ((idsL bs).take k ++ (loAt st bs (k + 1)).2.reverse))) then (idsL bs).take k ++ (loAt st bs (k + 1)).2.reverse else rkeep st bs (k + 1) := by
  have h := (loAt_filter (st := st) (bs := bs) ((idsL bs).length - k) k (by omega)).2 (by omega)
  have hg : (idsL bs).getD k 0 = (idsL bs)[k] := by simp [List.getD_eq_getElem?_getD, List.getElem?_eq_getElem hk]
  unfold rkeep
  rw [loAt_step hk, h]
  split
  · rfl
  · rw [hg, List.take_succ_eq_append_getElem hk]
    simp only [List.reverse_append, List.reverse_cons, List.reverse_nil, List.nil_append, List.append_assoc, List.cons_append, List.singleton_append]
theorem rkeep_less {st : List Bd → Bool} {bs : List Bd} {k : Nat} (hk : k < (idsL bs).length) : (rkeep st bs (k + 1)).take k ++ (rkeep st bs (k + 1)).drop (k + 1) = (idsL bs).take k ++ (loAt st bs (k + 1)).2.reverse := by
  unfold rkeep
  have e : ((idsL bs).take (k + 1)).length = k + 1 := by simp; omega
  rw [List.take_append_of_le_length (by omega), List.take_take, Nat.min_eq_left (by omega), List.drop_append_of_le_length (by omega)]
  rw [List.drop_eq_nil_of_le (by omega), List.nil_append]
end Go.Proofs.Ytlkcfohmoeadbaa

/-
  Plain law: the sums of a system with a solution are at most 0, none is greater in any solution that is at most 0, and none lies far below.
-/
namespace Go.Proofs.Ytlkcfohmoeadbaa

theorem countP_lt {α : Type} {P Q : α → Bool} : ∀ {l : List α}, (∀ x ∈ l, P x = true → Q x = true) → ∀ {a : α}, a ∈ l → Q a = true → P a = false → l.countP P + 1 ≤ l.countP Q
  | [], _, a, ha, _, _ => by simp at ha
  | x :: l, h, a, ha, hq, hp => by
    have hl : ∀ x ∈ l, P x = true → Q x = true := fun y hy => h y (List.mem_cons_of_mem _ hy)
    rw [List.countP_cons, List.countP_cons]
    rcases List.mem_cons.1 ha with rfl | ha
    · have := List.countP_mono_left (p := P) (q := Q) (l := l) hl
      rw [if_pos hq, if_neg (by rw [hp]; simp)]
      omega
    · have h1 := countP_lt hl ha hq hp
      by_cases hx : P x = true
      · rw [if_pos hx, if_pos (h x (List.mem_cons_self) hx)]
        omega
      · rw [if_neg hx]
        split <;> omega

theorem sol_le {p : Int} {bs : List Bd} (hs : Sys p bs) {j : Int} (j0 : 0 ≤ j) (j1 : j < 60) : gi (gsol p bs).1.r j ≤ 0 := by
  have := settle_le hs.inr (p + 1).toNat ⟨List.replicate 60 0, List.replicate 60 (-1), 0⟩ (by simp) j j0 j1
  simp only at this
  rw [gi_zeros] at this
  exact this

/-- No solution that is at most 0 is greater anywhere. -/
theorem sol_max {p : Int} {bs : List Bd} (hs : Sys p bs) {y : Int → Int} (hy : keepsB bs y) (h0 : ∀ j : Int, 0 ≤ j → j < 60 → y j ≤ 0) {j : Int} (j0 : 0 ≤ j) (j1 : j < 60) : y j ≤ gi (gsol p bs).1.r j := by
  have := settle_above (c := 0) hs.inr hy (p + 1).toNat ⟨List.replicate 60 0, List.replicate 60 (-1), 0⟩ (by simp) (fun i i0 i1 _ => by
    try simp only
    rw [gi_zeros]
    have := h0 i i0 i1
    omega) j j0 j1 (by
      have := sol_le hs j0 j1
      show gi (gsol p bs).1.r j < FAR
      unfold FAR
      omega)
  have h2 : y j + 0 ≤ gi (gsol p bs).1.r j := this
  omega

/-- There is no gap of more than a million between the sums. -/
theorem sol_gap {p : Int} {bs : List Bd} (h : chk p bs = 0) (hok : okB p bs = true) {t : Int} (ht : t ≤ 1000000) (hno : ∀ j : Int, 0 ≤ j → j < p → ¬ (t - 1000000 ≤ gi (gsol p bs).1.r j ∧ gi (gsol p bs).1.r j < t)) {j : Int} (j0 : 0 ≤ j) (j1 : j < p) : ¬ gi (gsol p bs).1.r j < t := by
  intro hj
  have hs := Sys.of_chk h
  have hp := hs.p2
  have hk := okB_keeps hs hok
  have hm := chk_mil h
  have hpt := Pts.of_chk h
  have key := sol_max (y := fun i => if 0 ≤ i ∧ i < p ∧ gi (gsol p bs).1.r i < t - 1000000 then gi (gsol p bs).1.r i + 1 else gi (gsol p bs).1.r i) hs (fun b hb => by
    have k1 := hk b hb
    have k2 := hm b hb
    obtain ⟨q0, q1, q2, q3⟩ := hpt b hb
    have n1 := hno _ q0 q1
    have n2 := hno _ q2 q3
    try simp only
    split <;> split <;> omega) (fun i i0 i1 => by
    have := sol_le (bs := bs) hs i0 i1
    try simp only
    split <;> omega) j0 (by omega)
  have n := hno j j0 j1
  try simp only at key
  rw [if_pos ⟨j0, j1, by omega⟩] at key
  omega

theorem sol_low {p : Int} {bs : List Bd} (h : chk p bs = 0) (hok : okB p bs = true) {j : Int} (j0 : 0 ≤ j) (j1 : j < p) : -((p - 1) * 1000000) ≤ gi (gsol p bs).1.r j := by
  have key : ∀ k : Nat, (∃ i : Int, 0 ≤ i ∧ i < p ∧ gi (gsol p bs).1.r i < 1000000 - k * 1000000) → k ≤ (List.range p.toNat).countP fun (i : Nat) => decide (1000000 - k * 1000000 ≤ gi (gsol p bs).1.r i) := by
    intro k
    induction k with
    | zero => intro _; omega
    | succ k ih =>
      rintro ⟨i, i0, i1, hi⟩
      have h1 := ih ⟨i, i0, i1, by push_cast at hi; omega⟩
      apply Classical.byContradiction
      intro hc
      refine sol_gap h hok (t := 1000000 - k * 1000000) (by omega) (fun l l0 l1 hl => ?_) i0 i1 (by push_cast at hi; omega)
      have h2 := countP_lt (l := List.range p.toNat) (P := fun (i : Nat) => decide (1000000 - k * 1000000 ≤ gi (gsol p bs).1.r i)) (Q := fun (i : Nat) => decide (1000000 - (k + 1 : Nat) * 1000000 ≤ gi (gsol p bs).1.r i)) (fun x _ hx => by
        simp only [decide_eq_true_eq] at hx ⊢
        push_cast
        omega) (a := l.toNat) (by simp; omega) (by
        simp only [decide_eq_true_eq]
        rw [Int.toNat_of_nonneg l0]
        push_cast
        omega) (by
        simp only [decide_eq_false_iff_not]
        rw [Int.toNat_of_nonneg l0]
        omega)
      omega
  apply Classical.byContradiction
  intro hc
  have hp : ((p.toNat : Nat) : Int) = p := by omega
  have h1 := key p.toNat ⟨j, j0, j1, by rw [hp]; omega⟩
  have h2 := countP_lt (l := List.range p.toNat) (P := fun (i : Nat) => decide (1000000 - (p.toNat : Nat) * 1000000 ≤ gi (gsol p bs).1.r i)) (Q := fun _ => true) (fun _ _ _ => rfl) (a := j.toNat) (by simp; omega) rfl (by
    simp only [decide_eq_false_iff_not]
    rw [Int.toNat_of_nonneg j0, hp]
    omega)
  have h3 : (List.range p.toNat).countP (fun _ => true) = p.toNat := by simp
  omega
end Go.Proofs.Ytlkcfohmoeadbaa

/-
  Arguments opened: a list of ints, and a Bound, by value.
-/
namespace Go.Proofs.Ytlkcfohmoeadbaa
open Go.ChangeShapes Go.WideShapes Go.ChangeAt Go.RowKit Go.Joins Go.Deep
set_option maxRecDepth 100000

theorem ints_block {r : Reach} {w : World} {base : Nat} {a : Addr} {n cap : Nat} (h : Value.okWide Try.prog w r base 27 (.slice (some a) n cap)) : a.spot = none ∧ a.block < w.heap.size := by
  simp only [Value.okWide, Try.underlying27, Cell.okWide, Cell.ok] at h
  obtain ⟨_, _, _, hsp, row, cells, hsh, _⟩ := h
  refine ⟨hsp, ?_⟩
  simp only [World.shape?] at hsh
  by_cases hlt : a.block < w.heap.size
  · exact hlt
  · rw [Array.getElem?_eq_none (by omega)] at hsh
    simp at hsh

theorem ints_open {H : Type} {enc : TypeId × Value → H} {W : World} {base : Nat} {v : Value} {d : DataW H} {p : List MemPlace} (hv : Value.okWide Try.prog W .any base 27 v)
    (h : DataW.Trod enc Try.prog W 0 (fun _ => true) true 27 v d p) (hs : ∀ n ∈ d.weights Try.prog 27, n ≤ reachBytes) :
    ∃ (a : Option Addr) (n cap : Nat) (xs : List Int), v = .slice a n cap ∧ IntsAt W a n cap xs := by
  obtain ⟨a0, n0, c0, rfl⟩ := okWide_slice Try.underlying27 hv
  obtain ⟨fuel, hf⟩ := h
  simp only [Value.cells] at hf
  rcases open_slice1 Try.underlying27 Try.cellsInt hf with ⟨hcs, hx⟩ | ⟨a, len, cap, m, n', V, D, Pl, hcs, _, hl, _, hm, hx, hat⟩
  · simp at hcs
    obtain ⟨rfl, rfl, rfl⟩ := hcs
    exact ⟨none, 0, 0, [], rfl, IntsAt.nilAt W⟩
  · simp at hcs
    obtain ⟨rfl, rfl, rfl⟩ := hcs
    simp only [if_true] at hm
    subst hm
    simp only [Prod.mk.injEq] at hx
    obtain ⟨rfl, rfl⟩ := hx
    have hbytes : m * 8 ≤ reachBytes := by
      have := hs ((((List.range n0).map D).length + ((List.range (m - n0)).map fun j => D (n0 + j)).length) * Try.prog.bytesOf 3) (by
        simp [DataW.weights, Try.underlying27])
      rw [show Try.prog.bytesOf 3 = 8 by kernel_rfl] at this
      simp only [List.length_map, List.length_range] at this
      omega
    unfold reachBytes at hbytes
    obtain ⟨hsp, hblk⟩ := ints_block hv
    obtain ⟨ab, ao, sp0⟩ := a
    simp only at hsp hblk
    subst hsp
    have hz : ∀ i, i < m → ∃ z, W.cell? ⟨ab, ao + i, none⟩ = some (.int .i64 z) := fun i hi => by
      obtain ⟨h1, h2⟩ := hat i hi
      obtain ⟨z, e, _⟩ := int_cell Try.underlying3 h2
      rw [add_none] at h1
      exact ⟨z, by rw [h1, e]⟩
    let Z : Nat → Int := fun k => match W.cell? ⟨ab, ao + k, none⟩ with | some (.int .i64 z) => z | _ => 0
    have hZ : ∀ i, i < m → W.cell? ⟨ab, ao + i, none⟩ = some (.int .i64 (Z i)) := fun i hi => by
      obtain ⟨z, hz⟩ := hz i hi
      simp only [Z, hz]
    refine ⟨some ⟨ab, ao, none⟩, n0, m, (List.range n0).map Z, rfl, by simp, by simp; omega, ⟨fun h => (by cases h), fun x hx => ?_⟩⟩
    obtain rfl := Option.some.inj hx
    refine ⟨rfl, hblk, fun i u hi => ?_⟩
    have hlt : i < n0 := by
      have := (List.getElem?_eq_some_iff.1 hi).1
      simpa using this
    simp [hlt] at hi
    rw [← hi]
    exact hZ i (by omega)

theorem bound_open {H : Type} {enc : TypeId × Value → H} {W : World} {base : Nat} {v : Value} {d : DataW H} {p : List MemPlace} (hv : Value.okWide Try.prog W .any base 39 v)
    (h : DataW.Trod enc Try.prog W 0 (fun _ => true) true 39 v d p) : ∃ b : Bd, v = .agg #[.int .i64 b.frm, .int .i64 b.tow, .int .i64 b.most, .int .i64 b.bid] := by
  obtain ⟨c0, c1, c2, c3, y0, y1, y2, y3, m, rfl, rfl, rfl, h0, h1, h2, h3⟩ := open_agg4 Try.underlying39 (by kernel_rfl) Try.cellsBd hv h
  obtain ⟨x0, rfl, _⟩ := int_cell Try.underlying3 h0
  obtain ⟨x1, rfl, _⟩ := int_cell Try.underlying3 h1
  obtain ⟨x2, rfl, _⟩ := int_cell Try.underlying3 h2
  obtain ⟨x3, rfl, _⟩ := int_cell Try.underlying3 h3
  exact ⟨⟨x0, x1, x2, x3⟩, rfl⟩
end Go.Proofs.Ytlkcfohmoeadbaa

/-
  The law GaugeTriangles, walked: it returns true.
-/
namespace Go.Proofs.Ytlkcfohmoeadbaa
open Go.RowKit Go.Shelf
set_option maxHeartbeats 4000000
set_option maxRecDepth 100000

theorem gr_tri {p : Int} {bs : List Bd} {a b c : Int} (h1 : askE p bs a b = 0) (h2 : askE p bs b c = 0) (h3 : askE p bs a c = 0) (g1 : grB p bs a b = true) (g2 : grB p bs b c = true) : grB p bs a c = true ∧ grN p bs a c ≤ grN p bs a b + grN p bs b c := by
  obtain ⟨hc, hab, hok⟩ := askE_zero h1
  obtain ⟨_, hbc, _⟩ := askE_zero h2
  obtain ⟨⟨a0, a1⟩, b0, b1⟩ := both_in hab
  obtain ⟨_, c0, c1⟩ := both_in hbc
  unfold grB at g1 g2 ⊢
  simp only [decide_eq_true_eq] at g1 g2
  have hs := Sys.of_chk hc
  have u1 := (gD_range hs a0 a1 b0 b1).2
  have u2 := (gD_range hs b0 b1 c0 c1).2
  have h := gD_tri hc hok a0 a1 b0 b1 c0 c1 (by omega) (by omega)
  have h4 : gD p bs a c ≠ FAR := by omega
  unfold grN
  rw [if_pos ⟨h3, h4⟩, if_pos g1, if_pos g2]
  exact ⟨decide_eq_true ⟨h3, h4⟩, h.2⟩

theorem law_triangles (p : Int) (a : Option Addr) (n cap : Nat) (bs : List Bd) (x y z : Int) (w : World) (hb : BdsAt w a n cap bs) (hn : n ≤ 140737488351232) :
    Calls Try.prog 7 #[.agg #[.int .i64 p, .slice a n cap], .int .i64 x, .int .i64 y, .int .i64 z] w fun e w' => e = .returned (.bool true) ∧ Below w.heap.size w w' := by
  have hbx := hb.below (w' := w.alloc (Obj.cells #[.int .i64 p, .slice a n cap] 24)) ((Below.refl _ _).alloc (Nat.le_refl _) _)
  have hW := fun w1 => lwide_any p a n cap w1 hn
  by_cases hn4 : n ≤ 403
  · have h1 : decide (n ≤ 403) = true := by simpa using hn4
    simp only [h1] at hW
    have hA := fun w1 (hb1 : BdsAt w1 a n cap bs) => gGreatest_any p a n cap bs x y w1 hb1
    have hB := fun w1 (hb1 : BdsAt w1 a n cap bs) => gGreatest_any p a n cap bs y z w1 hb1
    have hC := fun w1 (hb1 : BdsAt w1 a n cap bs) => gGreatest_any p a n cap bs x z w1 hb1
    have hD := fun w1 (hb1 : BdsAt w1 a n cap bs) => gLeast_any p a n cap bs y x w1 hb1
    have hT := gr_tri (p := p) (bs := bs) (a := x) (b := y) (c := z)
    have r1 := grN_range p bs x y
    have r2 := grN_range p bs y z
    have r3 := grN_range p bs x z
    unfold FAR at r1 r2 r3
    generalize grN p bs x y = N1 at *
    generalize grB p bs x y = B1 at *
    generalize askE p bs x y = E1 at *
    generalize grN p bs y z = N2 at *
    generalize grB p bs y z = B2 at *
    generalize askE p bs y z = E2 at *
    generalize grN p bs x z = N3 at *
    generalize grB p bs x z = B3 at *
    generalize askE p bs x z = E3 at *
    clear hn4 hn
    by_cases k1 : E1 = 0
    · subst k1
      by_cases k2 : E2 = 0
      · subst k2
        by_cases k3 : E3 = 0
        · subst k3
          cases B1 with
          | false =>
            go_enter Try.func7, Try.ntmps7
            go_wp2_with (first
              | (go_at_call 20; refine (hW _).mono ?_; rintro e w0 ⟨rfl, hb0⟩; obtain ⟨hc0, hf0⟩ := bcell hb0; have hz0a := lt_size hb0 (b := w.heap.size) (by first | assumption | omega | (simp; done) | (simp; omega)))
              | (go_at_call 36; have hg := hb2; clear hg; refine (hC _ (((hbx.below hb0).below hb1).below hb2)).mono ?_; rintro e w3 ⟨rfl, hb3⟩; obtain ⟨hc3, hf3⟩ := bcell hb3; have hz3a := lt_size hb3 (b := w.heap.size) (by first | assumption | omega | (simp; done) | (simp; omega)))
              | (go_at_call 36; have hg := hb1; clear hg; refine (hB _ ((hbx.below hb0).below hb1)).mono ?_; rintro e w2 ⟨rfl, hb2⟩; obtain ⟨hc2, hf2⟩ := bcell hb2; have hz2a := lt_size hb2 (b := w.heap.size) (by first | assumption | omega | (simp; done) | (simp; omega)))
              | (go_at_call 36; refine (hA _ (hbx.below hb0)).mono ?_; rintro e w1 ⟨rfl, hb1⟩; obtain ⟨hc1, hf1⟩ := bcell hb1; have hz1a := lt_size hb1 (b := w.heap.size) (by first | assumption | omega | (simp; done) | (simp; omega)))
              | (go_at_call 37; refine (hD _ ((((hbx.below hb0).below hb1).below hb2).below hb3)).mono ?_; rintro e w4 ⟨rfl, hb4⟩; obtain ⟨hc4, hf4⟩ := bcell hb4; have hz4a := lt_size hb4 (b := w.heap.size) (by first | assumption | omega | (simp; done) | (simp; omega)))
              | (go_at_call 21; refine (lalive_any _).mono ?_; rintro e w5 ⟨rfl, hb5⟩; obtain ⟨hc5, hf5⟩ := bcell hb5; have hz5a := lt_size hb5 (b := w.heap.size) (by first | assumption | omega | (simp; done) | (simp; omega))))
            go_ret
            have z0 := hb0.size
            have z1 := hb1.size
            have z2 := hb2.size
            have z3 := hb3.size
            have z4 := hb4.size
            simp only [World.size_alloc] at z0
            exact ⟨rfl, (((((((Below.refl _ w).alloc (Nat.le_refl _) _).trans (hb0.mono (by simp))).trans (hb1.mono (by omega))).trans (hb2.mono (by omega))).trans (hb3.mono (by omega))).trans (hb4.mono (by omega))).trans (hb5.mono (by omega))⟩
          | true =>
            cases B2 with
            | false =>
              go_enter Try.func7, Try.ntmps7
              go_wp2_with (first
                | (go_at_call 20; refine (hW _).mono ?_; rintro e w0 ⟨rfl, hb0⟩; obtain ⟨hc0, hf0⟩ := bcell hb0; have hz0a := lt_size hb0 (b := w.heap.size) (by first | assumption | omega | (simp; done) | (simp; omega)))
                | (go_at_call 36; have hg := hb2; clear hg; refine (hC _ (((hbx.below hb0).below hb1).below hb2)).mono ?_; rintro e w3 ⟨rfl, hb3⟩; obtain ⟨hc3, hf3⟩ := bcell hb3; have hz3a := lt_size hb3 (b := w.heap.size) (by first | assumption | omega | (simp; done) | (simp; omega)))
                | (go_at_call 36; have hg := hb1; clear hg; refine (hB _ ((hbx.below hb0).below hb1)).mono ?_; rintro e w2 ⟨rfl, hb2⟩; obtain ⟨hc2, hf2⟩ := bcell hb2; have hz2a := lt_size hb2 (b := w.heap.size) (by first | assumption | omega | (simp; done) | (simp; omega)))
                | (go_at_call 36; refine (hA _ (hbx.below hb0)).mono ?_; rintro e w1 ⟨rfl, hb1⟩; obtain ⟨hc1, hf1⟩ := bcell hb1; have hz1a := lt_size hb1 (b := w.heap.size) (by first | assumption | omega | (simp; done) | (simp; omega)))
                | (go_at_call 37; refine (hD _ ((((hbx.below hb0).below hb1).below hb2).below hb3)).mono ?_; rintro e w4 ⟨rfl, hb4⟩; obtain ⟨hc4, hf4⟩ := bcell hb4; have hz4a := lt_size hb4 (b := w.heap.size) (by first | assumption | omega | (simp; done) | (simp; omega)))
                | (go_at_call 21; refine (lalive_any _).mono ?_; rintro e w5 ⟨rfl, hb5⟩; obtain ⟨hc5, hf5⟩ := bcell hb5; have hz5a := lt_size hb5 (b := w.heap.size) (by first | assumption | omega | (simp; done) | (simp; omega))))
              go_ret
              have z0 := hb0.size
              have z1 := hb1.size
              have z2 := hb2.size
              have z3 := hb3.size
              have z4 := hb4.size
              simp only [World.size_alloc] at z0
              exact ⟨rfl, (((((((Below.refl _ w).alloc (Nat.le_refl _) _).trans (hb0.mono (by simp))).trans (hb1.mono (by omega))).trans (hb2.mono (by omega))).trans (hb3.mono (by omega))).trans (hb4.mono (by omega))).trans (hb5.mono (by omega))⟩
            | true =>
              obtain ⟨rfl, hle⟩ := hT rfl rfl rfl rfl rfl
              clear hT
              go_enter Try.func7, Try.ntmps7
              go_wp2_with (first
                | (go_at_call 20; refine (hW _).mono ?_; rintro e w0 ⟨rfl, hb0⟩; obtain ⟨hc0, hf0⟩ := bcell hb0; have hz0a := lt_size hb0 (b := w.heap.size) (by first | assumption | omega | (simp; done) | (simp; omega)))
                | (go_at_call 36; have hg := hb2; clear hg; refine (hC _ (((hbx.below hb0).below hb1).below hb2)).mono ?_; rintro e w3 ⟨rfl, hb3⟩; obtain ⟨hc3, hf3⟩ := bcell hb3; have hz3a := lt_size hb3 (b := w.heap.size) (by first | assumption | omega | (simp; done) | (simp; omega)))
                | (go_at_call 36; have hg := hb1; clear hg; refine (hB _ ((hbx.below hb0).below hb1)).mono ?_; rintro e w2 ⟨rfl, hb2⟩; obtain ⟨hc2, hf2⟩ := bcell hb2; have hz2a := lt_size hb2 (b := w.heap.size) (by first | assumption | omega | (simp; done) | (simp; omega)))
                | (go_at_call 36; refine (hA _ (hbx.below hb0)).mono ?_; rintro e w1 ⟨rfl, hb1⟩; obtain ⟨hc1, hf1⟩ := bcell hb1; have hz1a := lt_size hb1 (b := w.heap.size) (by first | assumption | omega | (simp; done) | (simp; omega)))
                | (go_at_call 37; refine (hD _ ((((hbx.below hb0).below hb1).below hb2).below hb3)).mono ?_; rintro e w4 ⟨rfl, hb4⟩; obtain ⟨hc4, hf4⟩ := bcell hb4; have hz4a := lt_size hb4 (b := w.heap.size) (by first | assumption | omega | (simp; done) | (simp; omega)))
                | (go_at_call 21; refine (lalive_any _).mono ?_; rintro e w5 ⟨rfl, hb5⟩; obtain ⟨hc5, hf5⟩ := bcell hb5; have hz5a := lt_size hb5 (b := w.heap.size) (by first | assumption | omega | (simp; done) | (simp; omega))))
              go_ret
              have z0 := hb0.size
              have z1 := hb1.size
              have z2 := hb2.size
              have z3 := hb3.size
              have z4 := hb4.size
              simp only [World.size_alloc] at z0
              exact ⟨rfl, (((((((Below.refl _ w).alloc (Nat.le_refl _) _).trans (hb0.mono (by simp))).trans (hb1.mono (by omega))).trans (hb2.mono (by omega))).trans (hb3.mono (by omega))).trans (hb4.mono (by omega))).trans (hb5.mono (by omega))⟩
        · have k3' : (E3 != 0) = true := by simpa using k3
          go_enter Try.func7, Try.ntmps7
          go_wp2_with (first
            | (go_at_call 20; refine (hW _).mono ?_; rintro e w0 ⟨rfl, hb0⟩; obtain ⟨hc0, hf0⟩ := bcell hb0; have hz0a := lt_size hb0 (b := w.heap.size) (by first | assumption | omega | (simp; done) | (simp; omega)))
            | (go_at_call 36; have hg := hb2; clear hg; refine (hC _ (((hbx.below hb0).below hb1).below hb2)).mono ?_; rintro e w3 ⟨rfl, hb3⟩; obtain ⟨hc3, hf3⟩ := bcell hb3; have hz3a := lt_size hb3 (b := w.heap.size) (by first | assumption | omega | (simp; done) | (simp; omega)))
            | (go_at_call 36; have hg := hb1; clear hg; refine (hB _ ((hbx.below hb0).below hb1)).mono ?_; rintro e w2 ⟨rfl, hb2⟩; obtain ⟨hc2, hf2⟩ := bcell hb2; have hz2a := lt_size hb2 (b := w.heap.size) (by first | assumption | omega | (simp; done) | (simp; omega)))
            | (go_at_call 36; refine (hA _ (hbx.below hb0)).mono ?_; rintro e w1 ⟨rfl, hb1⟩; obtain ⟨hc1, hf1⟩ := bcell hb1; have hz1a := lt_size hb1 (b := w.heap.size) (by first | assumption | omega | (simp; done) | (simp; omega)))
            | (go_at_call 37; refine (hD _ ((((hbx.below hb0).below hb1).below hb2).below hb3)).mono ?_; rintro e w4 ⟨rfl, hb4⟩; obtain ⟨hc4, hf4⟩ := bcell hb4; have hz4a := lt_size hb4 (b := w.heap.size) (by first | assumption | omega | (simp; done) | (simp; omega)))
            | (go_at_call 21; refine (lalive_any _).mono ?_; rintro e w5 ⟨rfl, hb5⟩; obtain ⟨hc5, hf5⟩ := bcell hb5; have hz5a := lt_size hb5 (b := w.heap.size) (by first | assumption | omega | (simp; done) | (simp; omega))))
          go_ret
          have z0 := hb0.size
          have z1 := hb1.size
          have z2 := hb2.size
          have z3 := hb3.size
          have z4 := hb4.size
          simp only [World.size_alloc] at z0
          exact ⟨rfl, (((((((Below.refl _ w).alloc (Nat.le_refl _) _).trans (hb0.mono (by simp))).trans (hb1.mono (by omega))).trans (hb2.mono (by omega))).trans (hb3.mono (by omega))).trans (hb4.mono (by omega))).trans (hb5.mono (by omega))⟩
      · have k2' : (E2 != 0) = true := by simpa using k2
        go_enter Try.func7, Try.ntmps7
        go_wp2_with (first
          | (go_at_call 20; refine (hW _).mono ?_; rintro e w0 ⟨rfl, hb0⟩; obtain ⟨hc0, hf0⟩ := bcell hb0; have hz0a := lt_size hb0 (b := w.heap.size) (by first | assumption | omega | (simp; done) | (simp; omega)))
          | (go_at_call 36; have hg := hb2; clear hg; refine (hC _ (((hbx.below hb0).below hb1).below hb2)).mono ?_; rintro e w3 ⟨rfl, hb3⟩; obtain ⟨hc3, hf3⟩ := bcell hb3; have hz3a := lt_size hb3 (b := w.heap.size) (by first | assumption | omega | (simp; done) | (simp; omega)))
          | (go_at_call 36; have hg := hb1; clear hg; refine (hB _ ((hbx.below hb0).below hb1)).mono ?_; rintro e w2 ⟨rfl, hb2⟩; obtain ⟨hc2, hf2⟩ := bcell hb2; have hz2a := lt_size hb2 (b := w.heap.size) (by first | assumption | omega | (simp; done) | (simp; omega)))
          | (go_at_call 36; refine (hA _ (hbx.below hb0)).mono ?_; rintro e w1 ⟨rfl, hb1⟩; obtain ⟨hc1, hf1⟩ := bcell hb1; have hz1a := lt_size hb1 (b := w.heap.size) (by first | assumption | omega | (simp; done) | (simp; omega)))
          | (go_at_call 37; refine (hD _ ((((hbx.below hb0).below hb1).below hb2).below hb3)).mono ?_; rintro e w4 ⟨rfl, hb4⟩; obtain ⟨hc4, hf4⟩ := bcell hb4; have hz4a := lt_size hb4 (b := w.heap.size) (by first | assumption | omega | (simp; done) | (simp; omega)))
          | (go_at_call 21; refine (lalive_any _).mono ?_; rintro e w5 ⟨rfl, hb5⟩; obtain ⟨hc5, hf5⟩ := bcell hb5; have hz5a := lt_size hb5 (b := w.heap.size) (by first | assumption | omega | (simp; done) | (simp; omega))))
        go_ret
        have z0 := hb0.size
        have z1 := hb1.size
        have z2 := hb2.size
        have z3 := hb3.size
        have z4 := hb4.size
        simp only [World.size_alloc] at z0
        exact ⟨rfl, (((((((Below.refl _ w).alloc (Nat.le_refl _) _).trans (hb0.mono (by simp))).trans (hb1.mono (by omega))).trans (hb2.mono (by omega))).trans (hb3.mono (by omega))).trans (hb4.mono (by omega))).trans (hb5.mono (by omega))⟩
    · have k1' : (E1 != 0) = true := by simpa using k1
      go_enter Try.func7, Try.ntmps7
      go_wp2_with (first
        | (go_at_call 20; refine (hW _).mono ?_; rintro e w0 ⟨rfl, hb0⟩; obtain ⟨hc0, hf0⟩ := bcell hb0; have hz0a := lt_size hb0 (b := w.heap.size) (by first | assumption | omega | (simp; done) | (simp; omega)))
        | (go_at_call 36; have hg := hb2; clear hg; refine (hC _ (((hbx.below hb0).below hb1).below hb2)).mono ?_; rintro e w3 ⟨rfl, hb3⟩; obtain ⟨hc3, hf3⟩ := bcell hb3; have hz3a := lt_size hb3 (b := w.heap.size) (by first | assumption | omega | (simp; done) | (simp; omega)))
        | (go_at_call 36; have hg := hb1; clear hg; refine (hB _ ((hbx.below hb0).below hb1)).mono ?_; rintro e w2 ⟨rfl, hb2⟩; obtain ⟨hc2, hf2⟩ := bcell hb2; have hz2a := lt_size hb2 (b := w.heap.size) (by first | assumption | omega | (simp; done) | (simp; omega)))
        | (go_at_call 36; refine (hA _ (hbx.below hb0)).mono ?_; rintro e w1 ⟨rfl, hb1⟩; obtain ⟨hc1, hf1⟩ := bcell hb1; have hz1a := lt_size hb1 (b := w.heap.size) (by first | assumption | omega | (simp; done) | (simp; omega)))
        | (go_at_call 37; refine (hD _ ((((hbx.below hb0).below hb1).below hb2).below hb3)).mono ?_; rintro e w4 ⟨rfl, hb4⟩; obtain ⟨hc4, hf4⟩ := bcell hb4; have hz4a := lt_size hb4 (b := w.heap.size) (by first | assumption | omega | (simp; done) | (simp; omega)))
        | (go_at_call 21; refine (lalive_any _).mono ?_; rintro e w5 ⟨rfl, hb5⟩; obtain ⟨hc5, hf5⟩ := bcell hb5; have hz5a := lt_size hb5 (b := w.heap.size) (by first | assumption | omega | (simp; done) | (simp; omega))))
      go_ret
      have z0 := hb0.size
      have z1 := hb1.size
      have z2 := hb2.size
      have z3 := hb3.size
      have z4 := hb4.size
      simp only [World.size_alloc] at z0
      exact ⟨rfl, (((((((Below.refl _ w).alloc (Nat.le_refl _) _).trans (hb0.mono (by simp))).trans (hb1.mono (by omega))).trans (hb2.mono (by omega))).trans (hb3.mono (by omega))).trans (hb4.mono (by omega))).trans (hb5.mono (by omega))⟩
  · have h1 : decide (n ≤ 403) = false := by simpa using hn4
    simp only [h1] at hW
    go_enter Try.func7, Try.ntmps7
    go_wp2_with (first
      | (go_at_call 20; refine (hW _).mono ?_; rintro e w0 ⟨rfl, hb0⟩; obtain ⟨hc0, hf0⟩ := bcell hb0; have hz0a := lt_size hb0 (b := w.heap.size) (by first | assumption | omega | (simp; done) | (simp; omega)))
      | (go_at_call 21; refine (lalive_any _).mono ?_; rintro e w3 ⟨rfl, hb3⟩; obtain ⟨hc3, hf3⟩ := bcell hb3; have hz3a := lt_size hb3 (b := w.heap.size) (by first | assumption | omega | (simp; done) | (simp; omega))))
    go_ret
    have z0 := hb0.size
    simp at z0
    exact ⟨rfl, (((Below.refl _ w).alloc (Nat.le_refl _) _).trans (hb0.mono (by simp))).trans (hb3.mono (by omega))⟩
end Go.Proofs.Ytlkcfohmoeadbaa

/-
  The law GaugeMore, walked: it returns true.
-/
namespace Go.Proofs.Ytlkcfohmoeadbaa
open Go.RowKit Go.Shelf
set_option maxHeartbeats 4000000
set_option maxRecDepth 100000

theorem law_more (p : Int) (a : Option Addr) (n cap : Nat) (bs : List Bd) (b : Bd) (by_ x y : Int) (w : World) (hb : BdsAt w a n cap bs) (hn : n ≤ 140737488351232) :
    Calls Try.prog 10 #[.agg #[.int .i64 p, .slice a n cap], .agg #[.int .i64 b.frm, .int .i64 b.tow, .int .i64 b.most, .int .i64 b.bid], .int .i64 by_, .int .i64 x, .int .i64 y] w fun e w' => e = .returned (.bool true) ∧ Below w.heap.size w w' := by
  have hbx := hb.below (w' := (w.alloc (Obj.cells #[.int .i64 p, .slice a n cap] 24)).alloc (Obj.cells #[.int .i64 b.frm, .int .i64 b.tow, .int .i64 b.most, .int .i64 b.bid] 39)) (((Below.refl _ _).alloc (Nat.le_refl _) _).alloc (by simp) _)
  have hW := fun w1 => lwide_any p a n cap w1 hn
  by_cases hn4 : n ≤ 403
  · have h1 : decide (n ≤ 403) = true := by simpa using hn4
    simp only [h1] at hW
    have hG1 := fun w1 (hb1 : BdsAt w1 a n cap bs) => gGreatest_any p a n cap bs x y w1 hb1
    by_cases k0 : askE p bs x y = 0
    · obtain ⟨hc, hxy, hok⟩ := askE_zero k0
      have hC := fun w1 (hb1 : BdsAt w1 a n cap bs) => gWith_any p a n cap bs b w1 hb1
      have hD := fun w1 (hb1 : BdsAt w1 a n cap bs) => gWithout_any p a n cap bs by_ w1 hb1
      simp only [hc, if_true] at hD
      have hsubU : ∀ c ∈ bs.filter (fun b => b.bid != by_), c ∈ bs := fun c hc => (List.mem_filter.1 hc).1
      have hE3 := askE_sub k0 hsubU (List.length_filter_le _ _)
      have hM3 := gr_mono hE3 k0 hsubU
      have hlU : (bs.filter (fun b => b.bid != by_)).length ≤ 140737488351232 := by have := List.length_filter_le (fun b : Bd => b.bid != by_) bs; have := chk_400 hc; omega
      have hG3 := fun a4 c4 w1 (hb1 : BdsAt w1 a4 (bs.filter (fun b => b.bid != by_)).length c4 (bs.filter (fun b => b.bid != by_))) => gGreatest_any p a4 _ c4 _ x y w1 hb1
      simp only [hE3] at hG3
      have hlT : (withL p bs b).length ≤ 140737488351232 := by
        have := chk_400 hc
        unfold withL
        split
        · simp; omega
        · simp
      have hM2 := fun (h0 : withE p bs b = 0) (h2 : askE p (bs ++ [b]) x y = 0) => gr_mono k0 h2 (fun c hc => List.mem_append_left _ hc)
      have hE2 : withE p bs b = 0 → askE p (bs ++ [b]) x y = 0 ∨ askE p (bs ++ [b]) x y = 10 := fun h0 => by
        have h2 := (withE_zero h0).2
        unfold askE
        rw [if_pos h2, if_pos hxy]
        split
        · exact .inl rfl
        · exact .inr rfl
      simp only [k0] at hG1
      generalize hUd : bs.filter (fun b => b.bid != by_) = U at *
      clear hUd hsubU hE3 k0 hc hok hn4 hn
      generalize grN p U x y = N3 at *
      generalize grB p U x y = B3 at *
      by_cases kw : withE p bs b = 0
      · have hM2' := hM2 kw
        have hE2' := hE2 kw
        have hwl : withL p bs b = bs ++ [b] := by unfold withL; rw [if_pos kw]
        rw [hwl] at hC hlT
        simp only [kw, if_true] at hC
        clear hM2 hE2 hwl kw
        have hG2 := fun a2 c2 w1 (hb1 : BdsAt w1 a2 (bs ++ [b]).length c2 (bs ++ [b])) => gGreatest_any p a2 _ c2 (bs ++ [b]) x y w1 hb1
        generalize bs ++ [b] = T at *
        generalize grN p bs x y = N1 at *
        generalize grB p bs x y = B1 at *
        generalize grN p T x y = N2 at *
        generalize grB p T x y = B2 at *
        generalize askE p T x y = E2 at *
        rcases hE2' with rfl | rfl
        · have hM2'' := hM2' rfl
          clear hM2'
          cases B1 with
          | false =>
            cases B3 with
            | true => exact absurd (hM3 rfl).1 (by simp)
            | false =>
              go_enter Try.func10, Try.ntmps10
              go_wp2_with (first
                | (go_at_call 20; refine (hW _).mono ?_; rintro e w0 ⟨rfl, hb0⟩; obtain ⟨hc0, hf0⟩ := bcell hb0; have hz0a := lt_size hb0 (b := w.heap.size) (by first | assumption | omega | (simp; done) | (simp; omega)); have hz0b := lt_size hb0 (b := w.heap.size+1) (by first | assumption | omega | (simp; done) | (simp; omega)))
                | (go_at_call 36; have hg := hb4; clear hg; refine (hG3 a4 c4 _ (hbU.below ((Below.refl _ _).alloc (Nat.le_refl _) _))).mono ?_; rintro e w5 ⟨rfl, hb5⟩)
                | (go_at_call 36; have hg := hb2; clear hg; refine (hG2 a2 c2 _ (hbT.below ((Below.refl _ _).alloc (Nat.le_refl _) _))).mono ?_; rintro e w3 ⟨rfl, hb3⟩; obtain ⟨hc3, hf3⟩ := bcell hb3; have hz3 := hb3.size; simp only [World.size_alloc] at hz3; have hbs3 := hbs2.below ((((Below.refl _ _).alloc (Nat.le_refl _) _).trans (hb3.mono (by simp))) : Below w2.heap.size w2 w3); have hs3 : w.heap.size < w3.heap.size := by omega)
                | (go_at_call 36; refine (hG1 _ (hbx.below hb0)).mono ?_; rintro e w1 ⟨rfl, hb1⟩; obtain ⟨hc1, hf1⟩ := bcell hb1; have hz1a := lt_size hb1 (b := w.heap.size) (by first | assumption | omega | (simp; done) | (simp; omega)); have hz1b := lt_size hb1 (b := w.heap.size+1) (by first | assumption | omega | (simp; done) | (simp; omega)))
                | (go_at_call 42; refine (hC _ ((hbx.below hb0).below hb1)).mono ?_; rintro e w2 ⟨v2, rfl, ho2, hb2⟩; obtain ⟨a2, c2, rfl, ha2⟩ := owns_slice ho2; have hbT := BdsAt.of_owns ho2 hlT; have hbs2 := ((hbx.below hb0).below hb1).below hb2; obtain ⟨hc2, hf2⟩ := bcell hb2; have hz2 := hb2.size; have hs2 : w.heap.size < w2.heap.size := by omega)
                | (go_at_call 43; refine (hD _ hbs3).mono ?_; rintro e w4 ⟨v4, rfl, hb4, ho4⟩; obtain ⟨a4, c4, rfl, ha4⟩ := owns_slice ho4; have hbU := BdsAt.of_owns ho4 hlU; have hz4 := hb4.size; skip)
                | (go_at_call 21; refine (lalive_any _).mono ?_; rintro e w6 ⟨rfl, hb6⟩; obtain ⟨hc6, hf6⟩ := bcell hb6))
              go_ret
              have z0 := hb0.size
              have z1 := hb1.size
              have z5 := hb5.size
              have z6 := hb6.size
              simp only [World.size_alloc] at z0 z5
              refine ⟨rfl, ?_⟩
              have q1 : Below w.heap.size w w2 := ((((((Below.refl _ w).alloc (Nat.le_refl _) _).alloc (by simp) _).trans (hb0.mono (by simp; omega))).trans (hb1.mono (by omega))).trans (hb2.mono (by omega)))
              have q2 : Below w.heap.size w w5 := ((((q1.alloc (by omega) _).trans (hb3.mono (by simp; omega))).trans (hb4.mono (by first | omega | (simp; omega)))).alloc (by omega) _).trans (hb5.mono (by simp; omega))
              exact q2.trans (hb6.mono (by omega))
          | true =>
            obtain ⟨rfl, hle2⟩ := hM2'' rfl
            clear hM2''
            cases B3 with
            | true =>
              obtain ⟨_, hle3⟩ := hM3 rfl
              clear hM3
              go_enter Try.func10, Try.ntmps10
              go_wp2_with (first
                | (go_at_call 20; refine (hW _).mono ?_; rintro e w0 ⟨rfl, hb0⟩; obtain ⟨hc0, hf0⟩ := bcell hb0; have hz0a := lt_size hb0 (b := w.heap.size) (by first | assumption | omega | (simp; done) | (simp; omega)); have hz0b := lt_size hb0 (b := w.heap.size+1) (by first | assumption | omega | (simp; done) | (simp; omega)))
                | (go_at_call 36; have hg := hb4; clear hg; refine (hG3 a4 c4 _ (hbU.below ((Below.refl _ _).alloc (Nat.le_refl _) _))).mono ?_; rintro e w5 ⟨rfl, hb5⟩)
                | (go_at_call 36; have hg := hb2; clear hg; refine (hG2 a2 c2 _ (hbT.below ((Below.refl _ _).alloc (Nat.le_refl _) _))).mono ?_; rintro e w3 ⟨rfl, hb3⟩; obtain ⟨hc3, hf3⟩ := bcell hb3; have hz3 := hb3.size; simp only [World.size_alloc] at hz3; have hbs3 := hbs2.below ((((Below.refl _ _).alloc (Nat.le_refl _) _).trans (hb3.mono (by simp))) : Below w2.heap.size w2 w3); have hs3 : w.heap.size < w3.heap.size := by omega)
                | (go_at_call 36; refine (hG1 _ (hbx.below hb0)).mono ?_; rintro e w1 ⟨rfl, hb1⟩; obtain ⟨hc1, hf1⟩ := bcell hb1; have hz1a := lt_size hb1 (b := w.heap.size) (by first | assumption | omega | (simp; done) | (simp; omega)); have hz1b := lt_size hb1 (b := w.heap.size+1) (by first | assumption | omega | (simp; done) | (simp; omega)))
                | (go_at_call 42; refine (hC _ ((hbx.below hb0).below hb1)).mono ?_; rintro e w2 ⟨v2, rfl, ho2, hb2⟩; obtain ⟨a2, c2, rfl, ha2⟩ := owns_slice ho2; have hbT := BdsAt.of_owns ho2 hlT; have hbs2 := ((hbx.below hb0).below hb1).below hb2; obtain ⟨hc2, hf2⟩ := bcell hb2; have hz2 := hb2.size; have hs2 : w.heap.size < w2.heap.size := by omega)
                | (go_at_call 43; refine (hD _ hbs3).mono ?_; rintro e w4 ⟨v4, rfl, hb4, ho4⟩; obtain ⟨a4, c4, rfl, ha4⟩ := owns_slice ho4; have hbU := BdsAt.of_owns ho4 hlU; have hz4 := hb4.size; skip)
                | (go_at_call 21; refine (lalive_any _).mono ?_; rintro e w6 ⟨rfl, hb6⟩; obtain ⟨hc6, hf6⟩ := bcell hb6))
              go_ret
              have z0 := hb0.size
              have z1 := hb1.size
              have z5 := hb5.size
              have z6 := hb6.size
              simp only [World.size_alloc] at z0 z5
              refine ⟨rfl, ?_⟩
              have q1 : Below w.heap.size w w2 := ((((((Below.refl _ w).alloc (Nat.le_refl _) _).alloc (by simp) _).trans (hb0.mono (by simp; omega))).trans (hb1.mono (by omega))).trans (hb2.mono (by omega)))
              have q2 : Below w.heap.size w w5 := ((((q1.alloc (by omega) _).trans (hb3.mono (by simp; omega))).trans (hb4.mono (by first | omega | (simp; omega)))).alloc (by omega) _).trans (hb5.mono (by simp; omega))
              exact q2.trans (hb6.mono (by omega))
            | false =>
              go_enter Try.func10, Try.ntmps10
              go_wp2_with (first
                | (go_at_call 20; refine (hW _).mono ?_; rintro e w0 ⟨rfl, hb0⟩; obtain ⟨hc0, hf0⟩ := bcell hb0; have hz0a := lt_size hb0 (b := w.heap.size) (by first | assumption | omega | (simp; done) | (simp; omega)); have hz0b := lt_size hb0 (b := w.heap.size+1) (by first | assumption | omega | (simp; done) | (simp; omega)))
                | (go_at_call 36; have hg := hb4; clear hg; refine (hG3 a4 c4 _ (hbU.below ((Below.refl _ _).alloc (Nat.le_refl _) _))).mono ?_; rintro e w5 ⟨rfl, hb5⟩)
                | (go_at_call 36; have hg := hb2; clear hg; refine (hG2 a2 c2 _ (hbT.below ((Below.refl _ _).alloc (Nat.le_refl _) _))).mono ?_; rintro e w3 ⟨rfl, hb3⟩; obtain ⟨hc3, hf3⟩ := bcell hb3; have hz3 := hb3.size; simp only [World.size_alloc] at hz3; have hbs3 := hbs2.below ((((Below.refl _ _).alloc (Nat.le_refl _) _).trans (hb3.mono (by simp))) : Below w2.heap.size w2 w3); have hs3 : w.heap.size < w3.heap.size := by omega)
                | (go_at_call 36; refine (hG1 _ (hbx.below hb0)).mono ?_; rintro e w1 ⟨rfl, hb1⟩; obtain ⟨hc1, hf1⟩ := bcell hb1; have hz1a := lt_size hb1 (b := w.heap.size) (by first | assumption | omega | (simp; done) | (simp; omega)); have hz1b := lt_size hb1 (b := w.heap.size+1) (by first | assumption | omega | (simp; done) | (simp; omega)))
                | (go_at_call 42; refine (hC _ ((hbx.below hb0).below hb1)).mono ?_; rintro e w2 ⟨v2, rfl, ho2, hb2⟩; obtain ⟨a2, c2, rfl, ha2⟩ := owns_slice ho2; have hbT := BdsAt.of_owns ho2 hlT; have hbs2 := ((hbx.below hb0).below hb1).below hb2; obtain ⟨hc2, hf2⟩ := bcell hb2; have hz2 := hb2.size; have hs2 : w.heap.size < w2.heap.size := by omega)
                | (go_at_call 43; refine (hD _ hbs3).mono ?_; rintro e w4 ⟨v4, rfl, hb4, ho4⟩; obtain ⟨a4, c4, rfl, ha4⟩ := owns_slice ho4; have hbU := BdsAt.of_owns ho4 hlU; have hz4 := hb4.size; skip)
                | (go_at_call 21; refine (lalive_any _).mono ?_; rintro e w6 ⟨rfl, hb6⟩; obtain ⟨hc6, hf6⟩ := bcell hb6))
              go_ret
              have z0 := hb0.size
              have z1 := hb1.size
              have z5 := hb5.size
              have z6 := hb6.size
              simp only [World.size_alloc] at z0 z5
              refine ⟨rfl, ?_⟩
              have q1 : Below w.heap.size w w2 := ((((((Below.refl _ w).alloc (Nat.le_refl _) _).alloc (by simp) _).trans (hb0.mono (by simp; omega))).trans (hb1.mono (by omega))).trans (hb2.mono (by omega)))
              have q2 : Below w.heap.size w w5 := ((((q1.alloc (by omega) _).trans (hb3.mono (by simp; omega))).trans (hb4.mono (by first | omega | (simp; omega)))).alloc (by omega) _).trans (hb5.mono (by simp; omega))
              exact q2.trans (hb6.mono (by omega))
        · clear hM2'
          cases B3 with
          | true =>
            obtain ⟨rfl, hle3⟩ := hM3 rfl
            clear hM3
            go_enter Try.func10, Try.ntmps10
            go_wp2_with (first
              | (go_at_call 20; refine (hW _).mono ?_; rintro e w0 ⟨rfl, hb0⟩; obtain ⟨hc0, hf0⟩ := bcell hb0; have hz0a := lt_size hb0 (b := w.heap.size) (by first | assumption | omega | (simp; done) | (simp; omega)); have hz0b := lt_size hb0 (b := w.heap.size+1) (by first | assumption | omega | (simp; done) | (simp; omega)))
              | (go_at_call 36; have hg := hb4; clear hg; refine (hG3 a4 c4 _ (hbU.below ((Below.refl _ _).alloc (Nat.le_refl _) _))).mono ?_; rintro e w5 ⟨rfl, hb5⟩)
              | (go_at_call 36; have hg := hb2; clear hg; refine (hG2 a2 c2 _ (hbT.below ((Below.refl _ _).alloc (Nat.le_refl _) _))).mono ?_; rintro e w3 ⟨rfl, hb3⟩; obtain ⟨hc3, hf3⟩ := bcell hb3; have hz3 := hb3.size; simp only [World.size_alloc] at hz3; have hbs3 := hbs2.below ((((Below.refl _ _).alloc (Nat.le_refl _) _).trans (hb3.mono (by simp))) : Below w2.heap.size w2 w3); have hs3 : w.heap.size < w3.heap.size := by omega)
              | (go_at_call 36; refine (hG1 _ (hbx.below hb0)).mono ?_; rintro e w1 ⟨rfl, hb1⟩; obtain ⟨hc1, hf1⟩ := bcell hb1; have hz1a := lt_size hb1 (b := w.heap.size) (by first | assumption | omega | (simp; done) | (simp; omega)); have hz1b := lt_size hb1 (b := w.heap.size+1) (by first | assumption | omega | (simp; done) | (simp; omega)))
              | (go_at_call 42; refine (hC _ ((hbx.below hb0).below hb1)).mono ?_; rintro e w2 ⟨v2, rfl, ho2, hb2⟩; obtain ⟨a2, c2, rfl, ha2⟩ := owns_slice ho2; have hbT := BdsAt.of_owns ho2 hlT; have hbs2 := ((hbx.below hb0).below hb1).below hb2; obtain ⟨hc2, hf2⟩ := bcell hb2; have hz2 := hb2.size; have hs2 : w.heap.size < w2.heap.size := by omega)
              | (go_at_call 43; refine (hD _ hbs3).mono ?_; rintro e w4 ⟨v4, rfl, hb4, ho4⟩; obtain ⟨a4, c4, rfl, ha4⟩ := owns_slice ho4; have hbU := BdsAt.of_owns ho4 hlU; have hz4 := hb4.size; skip)
              | (go_at_call 21; refine (lalive_any _).mono ?_; rintro e w6 ⟨rfl, hb6⟩; obtain ⟨hc6, hf6⟩ := bcell hb6))
            go_ret
            have z0 := hb0.size
            have z1 := hb1.size
            have z5 := hb5.size
            have z6 := hb6.size
            simp only [World.size_alloc] at z0 z5
            refine ⟨rfl, ?_⟩
            have q1 : Below w.heap.size w w2 := ((((((Below.refl _ w).alloc (Nat.le_refl _) _).alloc (by simp) _).trans (hb0.mono (by simp; omega))).trans (hb1.mono (by omega))).trans (hb2.mono (by omega)))
            have q2 : Below w.heap.size w w5 := ((((q1.alloc (by omega) _).trans (hb3.mono (by simp; omega))).trans (hb4.mono (by first | omega | (simp; omega)))).alloc (by omega) _).trans (hb5.mono (by simp; omega))
            exact q2.trans (hb6.mono (by omega))
          | false =>
            go_enter Try.func10, Try.ntmps10
            go_wp2_with (first
              | (go_at_call 20; refine (hW _).mono ?_; rintro e w0 ⟨rfl, hb0⟩; obtain ⟨hc0, hf0⟩ := bcell hb0; have hz0a := lt_size hb0 (b := w.heap.size) (by first | assumption | omega | (simp; done) | (simp; omega)); have hz0b := lt_size hb0 (b := w.heap.size+1) (by first | assumption | omega | (simp; done) | (simp; omega)))
              | (go_at_call 36; have hg := hb4; clear hg; refine (hG3 a4 c4 _ (hbU.below ((Below.refl _ _).alloc (Nat.le_refl _) _))).mono ?_; rintro e w5 ⟨rfl, hb5⟩)
              | (go_at_call 36; have hg := hb2; clear hg; refine (hG2 a2 c2 _ (hbT.below ((Below.refl _ _).alloc (Nat.le_refl _) _))).mono ?_; rintro e w3 ⟨rfl, hb3⟩; obtain ⟨hc3, hf3⟩ := bcell hb3; have hz3 := hb3.size; simp only [World.size_alloc] at hz3; have hbs3 := hbs2.below ((((Below.refl _ _).alloc (Nat.le_refl _) _).trans (hb3.mono (by simp))) : Below w2.heap.size w2 w3); have hs3 : w.heap.size < w3.heap.size := by omega)
              | (go_at_call 36; refine (hG1 _ (hbx.below hb0)).mono ?_; rintro e w1 ⟨rfl, hb1⟩; obtain ⟨hc1, hf1⟩ := bcell hb1; have hz1a := lt_size hb1 (b := w.heap.size) (by first | assumption | omega | (simp; done) | (simp; omega)); have hz1b := lt_size hb1 (b := w.heap.size+1) (by first | assumption | omega | (simp; done) | (simp; omega)))
              | (go_at_call 42; refine (hC _ ((hbx.below hb0).below hb1)).mono ?_; rintro e w2 ⟨v2, rfl, ho2, hb2⟩; obtain ⟨a2, c2, rfl, ha2⟩ := owns_slice ho2; have hbT := BdsAt.of_owns ho2 hlT; have hbs2 := ((hbx.below hb0).below hb1).below hb2; obtain ⟨hc2, hf2⟩ := bcell hb2; have hz2 := hb2.size; have hs2 : w.heap.size < w2.heap.size := by omega)
              | (go_at_call 43; refine (hD _ hbs3).mono ?_; rintro e w4 ⟨v4, rfl, hb4, ho4⟩; obtain ⟨a4, c4, rfl, ha4⟩ := owns_slice ho4; have hbU := BdsAt.of_owns ho4 hlU; have hz4 := hb4.size; skip)
              | (go_at_call 21; refine (lalive_any _).mono ?_; rintro e w6 ⟨rfl, hb6⟩; obtain ⟨hc6, hf6⟩ := bcell hb6))
            go_ret
            have z0 := hb0.size
            have z1 := hb1.size
            have z5 := hb5.size
            have z6 := hb6.size
            simp only [World.size_alloc] at z0 z5
            refine ⟨rfl, ?_⟩
            have q1 : Below w.heap.size w w2 := ((((((Below.refl _ w).alloc (Nat.le_refl _) _).alloc (by simp) _).trans (hb0.mono (by simp; omega))).trans (hb1.mono (by omega))).trans (hb2.mono (by omega)))
            have q2 : Below w.heap.size w w5 := ((((q1.alloc (by omega) _).trans (hb3.mono (by simp; omega))).trans (hb4.mono (by first | omega | (simp; omega)))).alloc (by omega) _).trans (hb5.mono (by simp; omega))
            exact q2.trans (hb6.mono (by omega))
      · have kw' : (withE p bs b == 0) = false := by simpa using kw
        have hG2 : True := trivial
        clear hM2 hE2
        generalize withE p bs b = f at *
        generalize (if f = 0 then p else 0) = P2 at *
        generalize withL p bs b = T at *
        generalize grN p bs x y = N1 at *
        generalize grB p bs x y = B1 at *
        cases B3 with
        | true =>
          obtain ⟨rfl, hle3⟩ := hM3 rfl
          clear hM3
          go_enter Try.func10, Try.ntmps10
          go_wp2_with (first
            | (go_at_call 20; refine (hW _).mono ?_; rintro e w0 ⟨rfl, hb0⟩; obtain ⟨hc0, hf0⟩ := bcell hb0; have hz0a := lt_size hb0 (b := w.heap.size) (by first | assumption | omega | (simp; done) | (simp; omega)); have hz0b := lt_size hb0 (b := w.heap.size+1) (by first | assumption | omega | (simp; done) | (simp; omega)))
            | (go_at_call 36; have hg := hb4; clear hg; refine (hG3 a4 c4 _ (hbU.below ((Below.refl _ _).alloc (Nat.le_refl _) _))).mono ?_; rintro e w5 ⟨rfl, hb5⟩)
            | (go_at_call 36; have hg := hb2; clear hg; refine (hG2 a2 c2 _ (hbT.below ((Below.refl _ _).alloc (Nat.le_refl _) _))).mono ?_; rintro e w3 ⟨rfl, hb3⟩; obtain ⟨hc3, hf3⟩ := bcell hb3; have hz3 := hb3.size; simp only [World.size_alloc] at hz3; have hbs3 := hbs2.below ((((Below.refl _ _).alloc (Nat.le_refl _) _).trans (hb3.mono (by simp))) : Below w2.heap.size w2 w3); have hs3 : w.heap.size < w3.heap.size := by omega)
            | (go_at_call 36; refine (hG1 _ (hbx.below hb0)).mono ?_; rintro e w1 ⟨rfl, hb1⟩; obtain ⟨hc1, hf1⟩ := bcell hb1; have hz1a := lt_size hb1 (b := w.heap.size) (by first | assumption | omega | (simp; done) | (simp; omega)); have hz1b := lt_size hb1 (b := w.heap.size+1) (by first | assumption | omega | (simp; done) | (simp; omega)))
            | (go_at_call 42; refine (hC _ ((hbx.below hb0).below hb1)).mono ?_; rintro e w2 ⟨v2, rfl, ho2, hb2⟩; obtain ⟨a2, c2, rfl, ha2⟩ := owns_slice ho2; have hbT := BdsAt.of_owns ho2 hlT; have hbs2 := ((hbx.below hb0).below hb1).below hb2; obtain ⟨hc2, hf2⟩ := bcell hb2; have hz2 := hb2.size; have hs2 : w.heap.size < w2.heap.size := by omega)
            | (go_at_call 43; refine (hD _ (hbs2.below ((Below.refl _ _).alloc (Nat.le_refl _) _))).mono ?_; rintro e w4 ⟨v4, rfl, hb4, ho4⟩; obtain ⟨a4, c4, rfl, ha4⟩ := owns_slice ho4; have hbU := BdsAt.of_owns ho4 hlU; have hz4 := hb4.size; simp only [World.size_alloc] at hz4)
            | (go_at_call 21; refine (lalive_any _).mono ?_; rintro e w6 ⟨rfl, hb6⟩; obtain ⟨hc6, hf6⟩ := bcell hb6))
          go_ret
          have z0 := hb0.size
          have z1 := hb1.size
          have z5 := hb5.size
          have z6 := hb6.size
          simp only [World.size_alloc] at z0 z5
          refine ⟨rfl, ?_⟩
          have q1 : Below w.heap.size w w2 := ((((((Below.refl _ w).alloc (Nat.le_refl _) _).alloc (by simp) _).trans (hb0.mono (by simp; omega))).trans (hb1.mono (by omega))).trans (hb2.mono (by omega)))
          have q2 : Below w.heap.size w w5 := (((q1.alloc (by omega) _).trans (hb4.mono (by first | omega | (simp; omega)))).alloc (by omega) _).trans (hb5.mono (by simp; omega))
          exact q2.trans (hb6.mono (by omega))
        | false =>
          go_enter Try.func10, Try.ntmps10
          go_wp2_with (first
            | (go_at_call 20; refine (hW _).mono ?_; rintro e w0 ⟨rfl, hb0⟩; obtain ⟨hc0, hf0⟩ := bcell hb0; have hz0a := lt_size hb0 (b := w.heap.size) (by first | assumption | omega | (simp; done) | (simp; omega)); have hz0b := lt_size hb0 (b := w.heap.size+1) (by first | assumption | omega | (simp; done) | (simp; omega)))
            | (go_at_call 36; have hg := hb4; clear hg; refine (hG3 a4 c4 _ (hbU.below ((Below.refl _ _).alloc (Nat.le_refl _) _))).mono ?_; rintro e w5 ⟨rfl, hb5⟩)
            | (go_at_call 36; have hg := hb2; clear hg; refine (hG2 a2 c2 _ (hbT.below ((Below.refl _ _).alloc (Nat.le_refl _) _))).mono ?_; rintro e w3 ⟨rfl, hb3⟩; obtain ⟨hc3, hf3⟩ := bcell hb3; have hz3 := hb3.size; simp only [World.size_alloc] at hz3; have hbs3 := hbs2.below ((((Below.refl _ _).alloc (Nat.le_refl _) _).trans (hb3.mono (by simp))) : Below w2.heap.size w2 w3); have hs3 : w.heap.size < w3.heap.size := by omega)
            | (go_at_call 36; refine (hG1 _ (hbx.below hb0)).mono ?_; rintro e w1 ⟨rfl, hb1⟩; obtain ⟨hc1, hf1⟩ := bcell hb1; have hz1a := lt_size hb1 (b := w.heap.size) (by first | assumption | omega | (simp; done) | (simp; omega)); have hz1b := lt_size hb1 (b := w.heap.size+1) (by first | assumption | omega | (simp; done) | (simp; omega)))
            | (go_at_call 42; refine (hC _ ((hbx.below hb0).below hb1)).mono ?_; rintro e w2 ⟨v2, rfl, ho2, hb2⟩; obtain ⟨a2, c2, rfl, ha2⟩ := owns_slice ho2; have hbT := BdsAt.of_owns ho2 hlT; have hbs2 := ((hbx.below hb0).below hb1).below hb2; obtain ⟨hc2, hf2⟩ := bcell hb2; have hz2 := hb2.size; have hs2 : w.heap.size < w2.heap.size := by omega)
            | (go_at_call 43; refine (hD _ (hbs2.below ((Below.refl _ _).alloc (Nat.le_refl _) _))).mono ?_; rintro e w4 ⟨v4, rfl, hb4, ho4⟩; obtain ⟨a4, c4, rfl, ha4⟩ := owns_slice ho4; have hbU := BdsAt.of_owns ho4 hlU; have hz4 := hb4.size; simp only [World.size_alloc] at hz4)
            | (go_at_call 21; refine (lalive_any _).mono ?_; rintro e w6 ⟨rfl, hb6⟩; obtain ⟨hc6, hf6⟩ := bcell hb6))
          go_ret
          have z0 := hb0.size
          have z1 := hb1.size
          have z5 := hb5.size
          have z6 := hb6.size
          simp only [World.size_alloc] at z0 z5
          refine ⟨rfl, ?_⟩
          have q1 : Below w.heap.size w w2 := ((((((Below.refl _ w).alloc (Nat.le_refl _) _).alloc (by simp) _).trans (hb0.mono (by simp; omega))).trans (hb1.mono (by omega))).trans (hb2.mono (by omega)))
          have q2 : Below w.heap.size w w5 := (((q1.alloc (by omega) _).trans (hb4.mono (by first | omega | (simp; omega)))).alloc (by omega) _).trans (hb5.mono (by simp; omega))
          exact q2.trans (hb6.mono (by omega))
    · have k0' : (askE p bs x y != 0) = true := by simpa using k0
      generalize grN p bs x y = N1 at *
      generalize grB p bs x y = B1 at *
      generalize askE p bs x y = E1 at *
      clear hn4 hn
      go_enter Try.func10, Try.ntmps10
      go_wp2_with (first
        | (go_at_call 20; refine (hW _).mono ?_; rintro e w0 ⟨rfl, hb0⟩; obtain ⟨hc0, hf0⟩ := bcell hb0; have hz0a := lt_size hb0 (b := w.heap.size) (by first | assumption | omega | (simp; done) | (simp; omega)); have hz0b := lt_size hb0 (b := w.heap.size+1) (by first | assumption | omega | (simp; done) | (simp; omega)))
        | (go_at_call 36; refine (hG1 _ (hbx.below hb0)).mono ?_; rintro e w1 ⟨rfl, hb1⟩; obtain ⟨hc1, hf1⟩ := bcell hb1; have hz1a := lt_size hb1 (b := w.heap.size) (by first | assumption | omega | (simp; done) | (simp; omega)); have hz1b := lt_size hb1 (b := w.heap.size+1) (by first | assumption | omega | (simp; done) | (simp; omega)))
        | (go_at_call 21; refine (lalive_any _).mono ?_; rintro e w6 ⟨rfl, hb6⟩; obtain ⟨hc6, hf6⟩ := bcell hb6))
      go_ret
      have z0 := hb0.size
      have z1 := hb1.size
      simp only [World.size_alloc] at z0
      exact ⟨rfl, (((((Below.refl _ w).alloc (Nat.le_refl _) _).alloc (by simp) _).trans (hb0.mono (by simp; omega))).trans (hb1.mono (by omega))).trans (hb6.mono (by omega))⟩
  · have h1 : decide (n ≤ 403) = false := by simpa using hn4
    simp only [h1] at hW
    go_enter Try.func10, Try.ntmps10
    go_wp2_with (first
      | (go_at_call 20; refine (hW _).mono ?_; rintro e w0 ⟨rfl, hb0⟩; obtain ⟨hc0, hf0⟩ := bcell hb0; have hz0a := lt_size hb0 (b := w.heap.size) (by first | assumption | omega | (simp; done) | (simp; omega)))
      | (go_at_call 21; refine (lalive_any _).mono ?_; rintro e w3 ⟨rfl, hb3⟩; obtain ⟨hc3, hf3⟩ := bcell hb3; have hz3a := lt_size hb3 (b := w.heap.size) (by first | assumption | omega | (simp; done) | (simp; omega))))
    go_ret
    have z0 := hb0.size
    simp at z0
    exact ⟨rfl, ((((Below.refl _ w).alloc (Nat.le_refl _) _).alloc (by simp) _).trans (hb0.mono (by simp; omega))).trans (hb3.mono (by omega))⟩
end Go.Proofs.Ytlkcfohmoeadbaa

/-
  The law GaugeRigid, walked: it returns true.
-/
namespace Go.Proofs.Ytlkcfohmoeadbaa
open Go.RowKit Go.Shelf
set_option maxHeartbeats 4000000
set_option maxRecDepth 100000

theorem law_rigid (p : Int) (a : Option Addr) (n cap : Nat) (bs : List Bd) (w : World) (hb : BdsAt w a n cap bs) (hn : n ≤ 140737488351232) :
    Calls Try.prog 9 #[.agg #[.int .i64 p, .slice a n cap]] w fun e w' => e = .returned (.bool true) ∧ Below w.heap.size w w' := by
  have hbx := hb.below (w' := w.alloc (Obj.cells #[.int .i64 p, .slice a n cap] 24)) ((Below.refl _ _).alloc (Nat.le_refl _) _)
  have hW := fun w1 => lsmall_any p a n cap w1 hn
  by_cases hn4 : (decide (p ≤ 9) && decide (n ≤ 20)) = true
  · simp only [hn4] at hW
    have hR := gRigid_any p a n cap bs
    by_cases k0 : askE p bs 0 0 = 0
    · obtain ⟨hc, _, hok⟩ := askE_zero k0
      have hs := Sys.of_chk hc
      have hp1 := hs.p1
      have hp2 := hs.p2
      have hF := fun (i j : Nat) (hi : (i : Int) < p) (hj : (j : Int) < p) w1 (hb1 : BdsAt w1 a n cap bs) => gFixed_any p a n cap bs i j w1 hb1
      have hv : ∀ i : Nat, (i : Int) < p → (rigL p bs p.toNat).getD i 0 = (rigQ p bs i : Int) := fun i hi => by
        simp [rigL, List.getD_eq_getElem?_getD, show i < p.toNat by omega]
      have hFx : ∀ (i j : Nat), (i : Int) < p → (j : Int) < p → ∀ w1, BdsAt w1 a n cap bs → Calls Try.prog 40 #[.agg #[.int .i64 p, .slice a n cap], .int .i64 i, .int .i64 j] w1 fun e w' => ∃ z, e = .returned (.tuple #[.int .i64 z, .bool ((rigL p bs p.toNat).getD i 0 == (rigL p bs p.toNat).getD j 0), .int .i64 0]) ∧ Below w1.heap.size w1 w' := fun i j hi hj w1 hb1 => by
        refine (hF i j hi hj w1 hb1).mono ?_
        rintro e w' ⟨rfl, hb2⟩
        have hbo : both p i j = true := by simp [both, inP, withinB]; omega
        refine ⟨fixN p bs i j, ?_, hb2⟩
        have hE := askE_eq hc hbo hok
        have hB : fixB p bs i j = ((rigL p bs p.toNat).getD i 0 == (rigL p bs p.toNat).getD j 0) := by
          unfold fixB
          rw [hE, hv i hi, hv j hj, rigQ_fixed hc hok hi hj, Bool.eq_iff_iff]
          simp
          omega
        rw [hE, hB]
      have hle : ∀ i : Nat, (i : Int) < p → (rigL p bs p.toNat).getD i 0 ≤ i := fun i hi => by
        rw [hv i hi]
        have := (rigQ_le hc hok hi).1
        omega
      have hll := rigL_len p bs p.toNat
      have hR' := fun w1 (hb1 : BdsAt w1 a n cap bs) => (hR w1 hb1).mono (fun e w' h => h.imp fun v h => And.intro h.1 (And.intro h.2.1 (h.2.2.2 k0)))
      simp only [k0] at hR'
      clear hR hF hv hc hok hs k0 hn4 hn
      generalize rigL p bs p.toNat = L at *
      generalize hP : p.toNat = P at *
      have hPp : (P : Int) = p := by omega
      have hPn : ((P : Int) != p) = false := by simp [hPp]
      have hP60 : P ≤ 60 := by omega
      have hP1 : 1 ≤ P := by omega
      have HP := Lib.hid hPp
      have HL := Lib.hid hll
      have HF := Lib.hid hFx
      have HLe := Lib.hid hle
      clear hPp hP hll hFx hle hp1 hp2
      go_enter Try.func9, Try.ntmps9
      go_wp2_with (first
        | (go_at_call 27; refine (hW _).mono ?_; rintro e w0 ⟨rfl, hb0⟩; obtain ⟨hc0, hf0⟩ := bcell hb0; have hz0a := lt_size hb0 (b := w.heap.size) (by first | assumption | omega | (simp; done) | (simp; omega)))
        | (go_at_call 32; refine (hR' _ (hbx.below hb0)).mono ?_; rintro e w1 ⟨v1, rfl, hb1, ho1⟩; obtain ⟨hc1, hf1⟩ := bcell hb1; have hz1a := lt_size hb1 (b := w.heap.size) (by first | assumption | omega | (simp; done) | (simp; omega)); obtain ⟨sa, sc, rfl, hsa⟩ := owns_slice ho1))
      have z0 := hb0.size
      have z1 := hb1.size
      simp only [World.size_alloc] at z0
      have hBw : Below w.heap.size w w1 := ((((Below.refl _ w).alloc (Nat.le_refl _) _).trans (hb0.mono (by simp))).trans (hb1.mono (by omega)))
      have s0 : w1.cell? ⟨w.heap.size, 0, none⟩ = some (.int .i64 p) := by simp [go_sem, *]
      have s1 : w1.cell? ⟨w.heap.size, 1, none⟩ = some (.slice a n cap) := by simp [go_sem, *]
      have hLn : L.length = P := HL.out
      have hL1 : IntsAt w1 sa P sc L := by
        rw [← hLn] at ho1 ⊢
        exact IntsAt.of_owns ho1 (by omega)
      clear hc1 hf1 hc0 hf0 ho1 hsa
      obtain ⟨b1, o1, rfl, hbl, _⟩ := hL1.get (i := 0) (by omega)
      have hz1w := hBw.size
      go_loopw [34] (fun i wr => ∃ k : Nat, k ≤ P ∧ i = .int .i64 k ∧ Below w1.heap.size w1 wr) (fun i _ => P - (intOf i).toNat)
      case atStart => exact ⟨0, Nat.zero_le _, rfl, Below.refl _ _⟩
      case round =>
        obtain ⟨k, hk, rfl, hBo⟩ := hrel
        by_cases hlt : k < P
        · go_wp2_with fail
          go_loopw [39] (fun i wr => ∃ k : Nat, k ≤ P ∧ i = .int .i64 k ∧ Below w1.heap.size w1 wr) (fun i _ => P - (intOf i).toNat)
          case atStart => exact ⟨0, Nat.zero_le _, rfl, hBo⟩
          case round =>
            obtain ⟨m, hm, rfl, hBi⟩ := hrel
            by_cases hmt : m < P
            · obtain ⟨b2, o2, he2, _, d0⟩ := (hL1.below hBi).get (i := k) (by omega)
              simp at he2
              obtain ⟨rfl, rfl⟩ := he2
              obtain ⟨b2, o2, he2, _, d1⟩ := (hL1.below hBi).get (i := m) (by omega)
              simp at he2
              obtain ⟨rfl, rfl⟩ := he2
              have hzi := hBi.size
              have hFk := HF.out k m (by have := HP.out; omega) (by have := HP.out; omega) wr (hb.below (hBw.trans (hBi.mono hz1w)))
              have hlk := HLe.out k (by have := HP.out; omega)
              have t0 : wr.cell? ⟨w.heap.size, 0, none⟩ = some (.int .i64 p) := ((bcell hBi).1 _ _ (by omega)).trans s0
              have t1 : wr.cell? ⟨w.heap.size, 1, none⟩ = some (.slice a n cap) := ((bcell hBi).1 _ _ (by omega)).trans s1
              have y0 : b1 < wr.heap.size := by omega
              have y1 : w.heap.size < wr.heap.size := by omega
              generalize L.getD k 0 = x at *
              generalize L.getD m 0 = y at *
              have hne : ((x == y) != (x == y)) = false := by simp
              have hkm : (k : Int) < P := by omega
              have hmm : (m : Int) < P := by omega
              clear s0 s1
              go_wp2_with (go_at_call 40; refine hFk.mono ?_; rintro e w2 ⟨z, rfl, hb2⟩; obtain ⟨hc2, hf2⟩ := bcell hb2; have y2 : b1 < w2.heap.size := Nat.lt_of_lt_of_le y0 hb2.size)
              clear hFk
              go_quiet (fail)
              go_wp2
              go_roundw
              case rel => exact ⟨m + 1, by omega, by go_num, hBi.trans (belowN (hb2.mono hzi))⟩
              case measure => simp [intOf]; omega
            · go_wp2_with fail
              go_roundw
              case rel => exact ⟨k + 1, by omega, by go_num, hBi⟩
              case measure => simp [intOf]; omega
        · go_wp2_with (go_at_call 21; refine (lalive_any _).mono ?_; rintro e w6 ⟨rfl, hb6⟩)
          go_ret
          exact ⟨rfl, (hBw.trans (hBo.mono hz1w)).trans (hb6.mono (by have := hBo.size; omega))⟩
    · have k0' : (askE p bs 0 0 != 0) = true := by simpa using k0
      have hR' := fun w1 (hb1 : BdsAt w1 a n cap bs) => (hR w1 hb1).mono (fun e w' h => h.imp fun v h => And.intro h.1 (And.intro h.2.1 (h.2.2.1 k0)))
      clear hR hn4 hn
      generalize askE p bs 0 0 = E at *
      go_enter Try.func9, Try.ntmps9
      go_wp2_with (first
        | (go_at_call 27; refine (hW _).mono ?_; rintro e w0 ⟨rfl, hb0⟩; obtain ⟨hc0, hf0⟩ := bcell hb0; have hz0a := lt_size hb0 (b := w.heap.size) (by first | assumption | omega | (simp; done) | (simp; omega)))
        | (go_at_call 32; refine (hR' _ (hbx.below hb0)).mono ?_; rintro e w1 ⟨v1, rfl, hb1, rfl⟩)
        | (go_at_call 21; refine (lalive_any _).mono ?_; rintro e w6 ⟨rfl, hb6⟩))
      go_ret
      have z0 := hb0.size
      have z1 := hb1.size
      simp only [World.size_alloc] at z0
      exact ⟨rfl, ((((Below.refl _ w).alloc (Nat.le_refl _) _).trans (hb0.mono (by simp))).trans (hb1.mono (by omega))).trans (hb6.mono (by omega))⟩
  · have hn4' : (decide (p ≤ 9) && decide (n ≤ 20)) = false := by simpa using hn4
    simp only [hn4'] at hW
    clear hn4 hn4'
    go_enter Try.func9, Try.ntmps9
    go_wp2_with (first
      | (go_at_call 27; refine (hW _).mono ?_; rintro e w0 ⟨rfl, hb0⟩; obtain ⟨hc0, hf0⟩ := bcell hb0; have hz0a := lt_size hb0 (b := w.heap.size) (by first | assumption | omega | (simp; done) | (simp; omega)))
      | (go_at_call 21; refine (lalive_any _).mono ?_; rintro e w3 ⟨rfl, hb3⟩; obtain ⟨hc3, hf3⟩ := bcell hb3; have hz3a := lt_size hb3 (b := w.heap.size) (by first | assumption | omega | (simp; done) | (simp; omega))))
    go_ret
    have z0 := hb0.size
    simp at z0
    exact ⟨rfl, (((Below.refl _ w).alloc (Nat.le_refl _) _).trans (hb0.mono (by simp))).trans (hb3.mono (by omega))⟩
end Go.Proofs.Ytlkcfohmoeadbaa

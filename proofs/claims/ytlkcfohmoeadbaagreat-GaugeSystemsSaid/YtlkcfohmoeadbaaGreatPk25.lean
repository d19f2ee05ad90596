/-
  Lemmas and walks for the laws on bounds and their sums; the parts' own heads say what each proves, for every input.
-/
import Derived.Test.YtlkcfohmoeadbaaGreatPk24
import Derived.Test.YtlkcfohmoeadbaaGreatPk09
import Derived.Test.YtlkcfohmoeadbaaGreatPk14
import Derived.Test.YtlkcfohmoeadbaaGreatPk22
set_option linter.unusedSimpArgs false
set_option linter.unusedVariables false
set_option linter.unnecessarySimpa false
/-
  Plain law: greatest differences by way of a third point.
-/
namespace Go.Proofs.YtlkcfohmoeadbaaGreat

theorem pass_inv {bs : List Bd} {Q : List Int → Prop} (hin : ∀ b ∈ bs, b.inr) (hQ : ∀ r b, r.length = 60 → b ∈ bs → Q r → opens FAR r b = true → Q (r.set b.tow.toNat (gi r b.frm + b.most))) {s : RL} (hl : s.r.length = 60) (h : Q s.r) :
    ∀ k, k ≤ bs.length → Q (s.pass FAR bs k).r
  | 0, _ => h
  | k + 1, hk => by
    have h1 := pass_inv hin hQ hl h k (by omega)
    have hlen := (RL.pass_le hl hin k (by omega)).1
    simp only [RL.pass, RL.step]
    cases ho : opens FAR (s.pass FAR bs k).r (bs.getD k default) with
    | false => simpa using h1
    | true =>
      simp only [if_true, RL.upd]
      exact hQ _ _ hlen (getD_mem (by omega)) h1 ho

theorem settle_inv {bs : List Bd} {Q : List Int → Prop} (hin : ∀ b ∈ bs, b.inr) (hQ : ∀ r b, r.length = 60 → b ∈ bs → Q r → opens FAR r b = true → Q (r.set b.tow.toNat (gi r b.frm + b.most))) :
    ∀ (n : Nat) (s : RL), s.r.length = 60 → Q s.r → Q (settle FAR bs n s).1.r
  | 0, _, _, h => h
  | n + 1, s, hl, h => by
    have h1 := pass_inv hin hQ hl h bs.length (Nat.le_refl _)
    simp only [settle]
    split
    · exact h1
    · exact settle_inv hin hQ n _ (RL.pass_le hl hin bs.length (Nat.le_refl _)).1 h1

/-- Where the sums from a point have settled, no bound is open. -/
theorem gfrom_still {p : Int} {bs : List Bd} (h : chk p bs = 0) (hok : okB p bs = true) {a : Int} (h0 : 0 ≤ a) (h1 : a < p) {b : Bd} (hb : b ∈ bs) (hf : gD p bs a b.frm < FAR) :
    gD p bs a b.tow ≤ gD p bs a b.frm + b.most ∧ gD p bs a b.tow < FAR := by
  have hs := Sys.of_chk h
  have hp := hs.p2
  have hst := settle_still hs.inr (p + 1).toNat ⟨far0 a, List.replicate 60 (-1), 0⟩ (far0_len a) (gfrom_done hs (Pts.of_chk h) hok h0 h1) b hb
  have hN := (rfrom_gfrom h hok h0 h1).2
  have hbi := hs.inr b hb
  have hu := hN.up b.frm hbi.f0 hbi.f1
  have hc := cnt_le hN.len
  have hm := (chk_mil h b hb).2
  have hF : FAR = 1099511627776 := rfl
  have e1 : gi (gfrom p bs a).1.r b.frm = gD p bs a b.frm := rfl
  have e2 : gi (gfrom p bs a).1.r b.tow = gD p bs a b.tow := rfl
  have h3 : ¬ (gD p bs a b.frm < FAR ∧ gD p bs a b.frm + b.most < gD p bs a b.tow) := fun h3 => by
    have := opens_iff.2 h3
    exact absurd (hst.symm.trans this) (by simp)
  omega

theorem gD_tri {p : Int} {bs : List Bd} (h : chk p bs = 0) (hok : okB p bs = true) {a b c : Int} (a0 : 0 ≤ a) (a1 : a < p) (b0 : 0 ≤ b) (b1 : b < p) (c0 : 0 ≤ c) (c1 : c < p) (hab : gD p bs a b < FAR) (hbc : gD p bs b c < FAR) :
    gD p bs a c < FAR ∧ gD p bs a c ≤ gD p bs a b + gD p bs b c := by
  have hs := Sys.of_chk h
  have hp := hs.p2
  have key := settle_inv (Q := fun r => ∀ j : Int, 0 ≤ j → j < 60 → gi r j < FAR → gD p bs a j < FAR ∧ gD p bs a j ≤ gD p bs a b + gi r j) hs.inr (fun r x hl hx hq ho j j0 j1 hj => by
    obtain ⟨o1, o2⟩ := opens_iff.1 ho
    have hxi := hs.inr x hx
    rw [gi_set hxi.t0 (by have := hxi.t0; have := hxi.t1; omega) j0] at hj ⊢
    by_cases e : j = x.tow
    · rw [if_pos e] at hj ⊢
      subst e
      have h1 := hq x.frm hxi.f0 hxi.f1 o1
      have h2 := gfrom_still h hok a0 a1 hx h1.1
      exact ⟨h2.2, by omega⟩
    · rw [if_neg e] at hj ⊢
      exact hq j j0 j1 hj) (p + 1).toNat ⟨far0 b, List.replicate 60 (-1), 0⟩ (far0_len b) (fun j j0 j1 hj => by
    have e := gi_far0 (a := b) (j := j) b0 (by omega) j0 j1
    simp only at hj ⊢
    rw [e] at hj ⊢
    by_cases ej : j = b
    · rw [if_pos ej, ej]
      exact ⟨hab, by omega⟩
    · rw [if_neg ej] at hj
      exact absurd hj (Int.lt_irrefl _))
  exact key c c0 (by omega) hbc
end Go.Proofs.YtlkcfohmoeadbaaGreat

/-
  Plain laws: systems with more or fewer bounds; where some list keeps all bounds there is a solution; fixed differences.
-/
namespace Go.Proofs.YtlkcfohmoeadbaaGreat

theorem chk_sub {p : Int} {bs cs : List Bd} (h : chk p bs = 0) (h1 : ∀ b ∈ cs, b ∈ bs) (h2 : cs.length ≤ bs.length) : chk p cs = 0 := by
  unfold chk at h ⊢
  split at h
  · omega
  · split at h
    · omega
    · split at h
      · rename_i a1 a2 a3
        rw [if_neg (by omega), if_neg a2, if_pos]
        exact List.all_eq_true.2 fun b hb => List.all_eq_true.1 a3 b (h1 b hb)
      · omega

theorem mem_pts {p j : Int} (h0 : 0 ≤ j) (h1 : j < p) : j ∈ (List.range p.toNat).map fun (i : Nat) => (i : Int) := List.mem_map.2 ⟨j.toNat, by simp; omega, by simp; omega⟩

/-- Where some list keeps all bounds, there is a solution. -/
theorem okB_of_keeps {p : Int} {bs : List Bd} (h : chk p bs = 0) {y : Int → Int} (hy : keepsB bs y) : okB p bs = true := by
  have hs := Sys.of_chk h
  have hp := hs.p2
  have hp1 := hs.p1
  obtain ⟨v, hv, hm⟩ := least_of (fun j => - y j) ((List.range p.toNat).map fun (i : Nat) => (i : Int)) (by
    intro e
    have := mem_pts (p := p) (j := 0) (by omega) (by omega)
    rw [e] at this
    simp at this)
  refine BF.settles hp hs.inr hy (Pts.of_chk h) (p + 1).toNat ((List.range p.toNat).map fun (i : Nat) => (i : Int)) (- y v) ⟨List.replicate 60 0, List.replicate 60 (-1), 0⟩ (by simp; omega) ⟨fun j hj => hj, fun j j0 j1 hj => ?_, fun j j0 j1 hj hf => ?_, fun j _ _ a b => absurd a b, fun b hb hf => ?_⟩ (by simp)
  · exact absurd (mem_pts j0 j1) hj
  · have := hm j hj
    simp only at this ⊢
    rw [gi_zeros]
    omega
  · obtain ⟨q0, q1, _⟩ := Pts.of_chk h b hb
    exact absurd (mem_pts q0 q1) hf

theorem okB_sub {p : Int} {bs cs : List Bd} (h : chk p bs = 0) (hok : okB p bs = true) (h1 : ∀ b ∈ cs, b ∈ bs) (h2 : cs.length ≤ bs.length) : okB p cs = true :=
  okB_of_keeps (chk_sub h h1 h2) (fun b hb => okB_keeps (Sys.of_chk h) hok b (h1 b hb))

/-- With more bounds greatest differences do not become greater. -/
theorem gD_mono {p : Int} {bs T : List Bd} (hs : Sys p bs) (h : chk p T = 0) (hok : okB p T = true) (hsub : ∀ b ∈ bs, b ∈ T) {a c : Int} (a0 : 0 ≤ a) (a1 : a < p) (c0 : 0 ≤ c) (c1 : c < p) (hac : gD p bs a c < FAR) :
    gD p T a c < FAR ∧ gD p T a c ≤ gD p bs a c := by
  have hp := hs.p2
  have key := settle_inv (Q := fun r => ∀ j : Int, 0 ≤ j → j < 60 → gi r j < FAR → gD p T a j < FAR ∧ gD p T a j ≤ gi r j) hs.inr (fun r x hl hx hq ho j j0 j1 hj => by
    obtain ⟨o1, o2⟩ := opens_iff.1 ho
    have hxi := hs.inr x hx
    rw [gi_set hxi.t0 (by have := hxi.t0; have := hxi.t1; omega) j0] at hj ⊢
    by_cases e : j = x.tow
    · rw [if_pos e] at hj ⊢
      subst e
      have h1 := hq x.frm hxi.f0 hxi.f1 o1
      have h2 := gfrom_still h hok a0 a1 (hsub x hx) h1.1
      exact ⟨h2.2, by omega⟩
    · rw [if_neg e] at hj ⊢
      exact hq j j0 j1 hj) (p + 1).toNat ⟨far0 a, List.replicate 60 (-1), 0⟩ (far0_len a) (fun j j0 j1 hj => by
    have e := gi_far0 (a := a) (j := j) a0 (by omega) j0 j1
    simp only at hj ⊢
    rw [e] at hj ⊢
    by_cases ej : j = a
    · rw [if_pos ej, ej, gD_self (Sys.of_chk h) hok a0 a1]
      unfold FAR
      omega
    · rw [if_neg ej] at hj
      exact absurd hj (Int.lt_irrefl _))
  exact key c c0 (by omega) hac

theorem gr_mono {p : Int} {bs T : List Bd} {x y : Int} (h1 : askE p bs x y = 0) (h2 : askE p T x y = 0) (hsub : ∀ b ∈ bs, b ∈ T) (hB : grB p bs x y = true) : grB p T x y = true ∧ grN p T x y ≤ grN p bs x y := by
  obtain ⟨hc, hxy, hok⟩ := askE_zero h1
  obtain ⟨hcT, _, hokT⟩ := askE_zero h2
  obtain ⟨⟨x0, x1⟩, y0, y1⟩ := both_in hxy
  unfold grB at hB ⊢
  simp only [decide_eq_true_eq] at hB
  have hs := Sys.of_chk hc
  have u1 := (gD_range hs x0 x1 y0 y1).2
  have h := gD_mono hs hcT hokT hsub x0 x1 y0 y1 (by omega)
  have h4 : gD p T x y ≠ FAR := by omega
  unfold grN
  rw [if_pos ⟨h2, h4⟩, if_pos hB]
  exact ⟨decide_eq_true ⟨h2, h4⟩, h.2⟩

theorem askE_eq {p : Int} {bs : List Bd} {x y : Int} (h : chk p bs = 0) (hxy : both p x y = true) (hok : okB p bs = true) : askE p bs x y = 0 := by simp [askE, h, hxy, hok]
theorem askE_sub {p : Int} {bs cs : List Bd} {x y : Int} (h : askE p bs x y = 0) (h1 : ∀ b ∈ cs, b ∈ bs) (h2 : cs.length ≤ bs.length) : askE p cs x y = 0 := by
  obtain ⟨hc, hxy, hok⟩ := askE_zero h
  exact askE_eq (chk_sub hc h1 h2) hxy (okB_sub hc hok h1 h2)

/-- Fixed differences: an equivalence. -/
theorem fxB_iff {p : Int} {bs : List Bd} {x y : Int} : fxB p bs x y = true ↔ gD p bs x y ≠ FAR ∧ gD p bs x y = - gD p bs y x := by
  unfold fxB
  rw [decide_eq_true_eq]
  rfl
theorem fxB_symm {p : Int} {bs : List Bd} (h : chk p bs = 0) {x y : Int} (x0 : 0 ≤ x) (x1 : x < p) (y0 : 0 ≤ y) (y1 : y < p) (hf : fxB p bs x y = true) : fxB p bs y x = true := by
  rw [fxB_iff] at hf ⊢
  have l1 := gD_low h x0 x1 y0 y1
  have l2 := gD_low h y0 y1 x0 x1
  unfold FAR at *
  omega
theorem fxB_trans {p : Int} {bs : List Bd} (h : chk p bs = 0) (hok : okB p bs = true) {x y z : Int} (x0 : 0 ≤ x) (x1 : x < p) (y0 : 0 ≤ y) (y1 : y < p) (z0 : 0 ≤ z) (z1 : z < p) (hf : fxB p bs x y = true) (hg : fxB p bs y z = true) : fxB p bs x z = true := by
  have hf' := fxB_symm h x0 x1 y0 y1 hf
  have hg' := fxB_symm h y0 y1 z0 z1 hg
  rw [fxB_iff] at hf hg hf' hg' ⊢
  have hs := Sys.of_chk h
  have u1 := (gD_range hs x0 x1 y0 y1).2
  have u2 := (gD_range hs y0 y1 x0 x1).2
  have u3 := (gD_range hs y0 y1 z0 z1).2
  have u4 := (gD_range hs z0 z1 y0 y1).2
  have t1 := gD_tri h hok x0 x1 y0 y1 z0 z1 (by omega) (by omega)
  have t2 := gD_tri h hok z0 z1 y0 y1 x0 x1 (by omega) (by omega)
  have t3 := gD_tri h hok x0 x1 z0 z1 x0 x1 t1.1 t2.1
  rw [gD_self hs hok x0 x1] at t3
  omega

theorem rigFrom_spec {p : Int} {bs : List Bd} {i : Nat} (hi : fxB p bs i i = true) : ∀ (n q : Nat), q + n = i → q ≤ rigFrom p bs i n q ∧ rigFrom p bs i n q ≤ i ∧ fxB p bs (rigFrom p bs i n q : Nat) i = true ∧ ∀ k, q ≤ k → k < rigFrom p bs i n q → fxB p bs k i = false
  | 0, q, h => by
    have : q = i := by omega
    subst this
    exact ⟨Nat.le_refl _, Nat.le_refl _, hi, fun k h1 h2 => by simp only [rigFrom] at h2; omega⟩
  | n + 1, q, h => by
    simp only [rigFrom]
    by_cases e : fxB p bs q i = true
    · rw [if_pos e]
      exact ⟨Nat.le_refl _, by omega, e, fun k h1 h2 => by omega⟩
    · rw [if_neg e]
      obtain ⟨h1, h2, h3, h4⟩ := rigFrom_spec hi n (q + 1) (by omega)
      refine ⟨by omega, h2, h3, fun k k1 k2 => ?_⟩
      by_cases ek : k = q
      · subst ek; simpa using e
      · exact h4 k (by omega) k2

theorem rigQ_le {p : Int} {bs : List Bd} (h : chk p bs = 0) (hok : okB p bs = true) {i : Nat} (hi : (i : Int) < p) : rigQ p bs i ≤ i ∧ fxB p bs (rigQ p bs i : Nat) i = true ∧ ∀ k, k < rigQ p bs i → fxB p bs k i = false := by
  obtain ⟨_, h2, h3, h4⟩ := rigFrom_spec (fxB_self (Sys.of_chk h) hok (a := i) (by omega) hi) i 0 (by omega)
  exact ⟨h2, h3, fun k hk => h4 k (by omega) hk⟩

/-- Two points have the same first fixed point exactly if their difference is fixed. -/
theorem rigQ_fixed {p : Int} {bs : List Bd} (h : chk p bs = 0) (hok : okB p bs = true) {i j : Nat} (hi : (i : Int) < p) (hj : (j : Int) < p) : fxB p bs i j = decide (rigQ p bs i = rigQ p bs j) := by
  obtain ⟨a1, a2, a3⟩ := rigQ_le h hok hi
  obtain ⟨b1, b2, b3⟩ := rigQ_le h hok hj
  rw [Bool.eq_iff_iff, decide_eq_true_eq]
  constructor
  · intro hf
    have h1 := fxB_trans h hok (x := (rigQ p bs i : Nat)) (y := i) (z := j) (by omega) (by omega) (by omega) hi (by omega) hj a2 hf
    have hf2 := fxB_symm h (by omega) hi (by omega) hj hf
    have h2 := fxB_trans h hok (x := (rigQ p bs j : Nat)) (y := j) (z := i) (by omega) (by omega) (by omega) hj (by omega) hi b2 hf2
    have c1 : ¬ rigQ p bs i < rigQ p bs j := fun hl => by rw [b3 _ hl] at h1; cases h1
    have c2 : ¬ rigQ p bs j < rigQ p bs i := fun hl => by rw [a3 _ hl] at h2; cases h2
    omega
  · intro e
    have h1 := fxB_symm h (x := (rigQ p bs i : Nat)) (y := i) (by omega) (by omega) (by omega) hi a2
    rw [e] at h1
    exact fxB_trans h hok (by omega) hi (by omega) (by omega) (by omega) hj h1 b2

/-- Records left out: the reference's list of what is kept. -/
def rkeep (st : List Bd → Bool) (bs : List Bd) (k : Nat) : List Int := (idsL bs).take k ++ (loAt st bs k).2.reverse
theorem rkeep_top (st : List Bd → Bool) (bs : List Bd) : rkeep st bs (idsL bs).length = idsL bs := by simp [rkeep, loAt_top]
theorem rkeep_zero (st : List Bd → Bool) (bs : List Bd) : rkeep st bs 0 = loL st bs := by simp [rkeep, loL]

theorem loAt_out {st : List Bd → Bool} {bs : List Bd} : ∀ (d k : Nat), k + d = (idsL bs).length → ∀ x ∈ (loAt st bs k).2, x ∈ (idsL bs).drop k
  | 0, k, h => by
    have : k = (idsL bs).length := by omega
    subst this
    simp [loAt_top]
  | d + 1, k, h => by
    have ih := loAt_out (st := st) (bs := bs) d (k + 1) (by omega)
    have hk : k < (idsL bs).length := by omega
    rw [loAt_step hk]
    have hd := List.drop_eq_getElem_cons hk
    have hg : (idsL bs).getD k 0 = (idsL bs)[k] := by simp [List.getD_eq_getElem?_getD, List.getElem?_eq_getElem hk]
    intro x hx
    rw [hd]
    split at hx
    · exact List.mem_cons_of_mem _ (ih x hx)
    · rcases List.mem_append.1 hx with hx | hx
      · exact List.mem_cons_of_mem _ (ih x hx)
      · rw [hg] at hx
        rw [List.mem_singleton.1 hx]
        exact List.mem_cons_self

theorem loAt_filter {st : List Bd → Bool} {bs : List Bd} : ∀ (d k : Nat), k + d = (idsL bs).length → (loAt st bs k).1 = bs.filter (onlyB (rkeep st bs k)) ∧ (0 < d → (loAt st bs (k + 1)).1.filter (fun b => b.bid != (idsL bs).getD k 0) = bs.filter (onlyB ((idsL bs).take k ++ (loAt st bs (k + 1)).2.reverse)))
  | 0, k, h => by
    have : k = (idsL bs).length := by omega
    subst this
    refine ⟨?_, fun h => by omega⟩
    rw [rkeep_top, loAt_top]
    symm
    refine List.filter_eq_self.2 fun b hb => ?_
    unfold onlyB
    by_cases e : b.bid = 0
    · simp [e]
    · have := mem_idsL.2 ⟨e, b, hb, rfl⟩
      simp only [Bool.or_eq_true, List.any_eq_true]
      exact .inr ⟨_, this, by simp⟩
  | d + 1, k, h => by
    obtain ⟨ih, _⟩ := loAt_filter (st := st) (bs := bs) d (k + 1) (by omega)
    have hk : k < (idsL bs).length := by omega
    have hg : (idsL bs).getD k 0 = (idsL bs)[k] := by simp [List.getD_eq_getElem?_getD, List.getElem?_eq_getElem hk]
    have ho := loAt_out (st := st) (bs := bs) d (k + 1) (by omega)
    have hn := (idsL_asc bs).nodup
    have h0 : (idsL bs)[k] ≠ 0 := (mem_idsL.1 (List.getElem_mem hk)).1
    have hd := List.drop_eq_getElem_cons hk
    have hsplit : (idsL bs).take k ++ (idsL bs)[k] :: (idsL bs).drop (k + 1) = idsL bs := by rw [← hd, List.take_append_drop]
    have hn2 := hn
    rw [← hsplit, List.nodup_append, List.nodup_cons] at hn2
    obtain ⟨_, ⟨n1, _⟩, n2⟩ := hn2
    have ht : (idsL bs).take (k + 1) = (idsL bs).take k ++ [(idsL bs)[k]] := List.take_succ_eq_append_getElem hk
    have key : (loAt st bs (k + 1)).1.filter (fun b => b.bid != (idsL bs).getD k 0) = bs.filter (onlyB ((idsL bs).take k ++ (loAt st bs (k + 1)).2.reverse)) := by
      rw [ih, List.filter_filter]
      congr 1
      funext b
      rw [hg]
      unfold onlyB rkeep
      rw [ht]
      rw [Bool.eq_iff_iff]
      simp only [Bool.and_eq_true, bne_iff_ne, ne_eq, Bool.or_eq_true, beq_iff_eq, List.any_eq_true, List.mem_append, List.mem_singleton, List.mem_reverse, exists_eq_right]
      constructor
      · rintro ⟨a1, a2 | (a2 | a2) | a2⟩
        · exact .inl a2
        · exact .inr (.inl a2)
        · exact absurd a2 a1
        · exact .inr (.inr a2)
      · rintro (a2 | a2 | a2)
        · exact ⟨fun e => h0 (by rw [← e]; exact a2), .inl a2⟩
        · exact ⟨fun e => n2 _ a2 _ (List.mem_cons_self) e, .inr (.inl (.inl a2))⟩
        · exact ⟨fun e => n1 (by rw [← e]; exact ho _ a2), .inr (.inr a2)⟩
    refine ⟨?_, fun _ => key⟩
    unfold rkeep
    rw [loAt_step hk]
    split
    · exact key
    · rw [ih]
      unfold rkeep
      rw [ht, hg]
      simp only [List.reverse_append, List.reverse_cons, List.reverse_nil, List.nil_append, List.append_assoc, List.cons_append, List.singleton_append]

theorem rkeep_step {st : List Bd → Bool} {bs : List Bd} {k : Nat} (hk : k < (idsL bs).length) :
    rkeep st bs k = if st (bs.filter (onlyB ((idsL bs).take k ++ (loAt st bs (k + 1)).2.reverse))) then (idsL bs).take k ++ (loAt st bs (k + 1)).2.reverse else rkeep st bs (k + 1) := by
  have h := (loAt_filter (st := st) (bs := bs) ((idsL bs).length - k) k (by omega)).2 (by omega)
  have hg : (idsL bs).getD k 0 = (idsL bs)[k] := by simp [List.getD_eq_getElem?_getD, List.getElem?_eq_getElem hk]
  unfold rkeep
  rw [loAt_step hk, h]
  split
  · rfl
  · rw [hg, List.take_succ_eq_append_getElem hk]
    simp only [List.reverse_append, List.reverse_cons, List.reverse_nil, List.nil_append, List.append_assoc, List.cons_append, List.singleton_append]
theorem rkeep_less {st : List Bd → Bool} {bs : List Bd} {k : Nat} (hk : k < (idsL bs).length) : (rkeep st bs (k + 1)).take k ++ (rkeep st bs (k + 1)).drop (k + 1) = (idsL bs).take k ++ (loAt st bs (k + 1)).2.reverse := by
  unfold rkeep
  have e : ((idsL bs).take (k + 1)).length = k + 1 := by simp; omega
  rw [List.take_append_of_le_length (by omega), List.take_take, Nat.min_eq_left (by omega), List.drop_append_of_le_length (by omega)]
  rw [List.drop_eq_nil_of_le (by omega), List.nil_append]
end Go.Proofs.YtlkcfohmoeadbaaGreat

/-
  Arguments opened: a list of ints, and a Bound, by value.
-/
namespace Go.Proofs.YtlkcfohmoeadbaaGreat
open Go.ChangeShapes Go.WideShapes Go.ChangeAt Go.RowKit Go.Joins Go.Deep
set_option maxRecDepth 100000

theorem ints_block {r : Reach} {w : World} {base : Nat} {a : Addr} {n cap : Nat} (h : Value.okWide Tryz.prog w r base 27 (.slice (some a) n cap)) : a.spot = none ∧ a.block < w.heap.size := by
  simp only [Value.okWide, Tryz.underlying27, Cell.okWide, Cell.ok] at h
  obtain ⟨_, _, _, hsp, row, cells, hsh, _⟩ := h
  refine ⟨hsp, ?_⟩
  simp only [World.shape?] at hsh
  by_cases hlt : a.block < w.heap.size
  · exact hlt
  · rw [Array.getElem?_eq_none (by omega)] at hsh
    simp at hsh

theorem ints_open {H : Type} {enc : TypeId × Value → H} {W : World} {base : Nat} {v : Value} {d : DataW H} {p : List MemPlace} (hv : Value.okWide Tryz.prog W .any base 27 v)
    (h : DataW.Trod enc Tryz.prog W 0 (fun _ => true) true 27 v d p) (hs : ∀ n ∈ d.weights Tryz.prog 27, n ≤ reachBytes) :
    ∃ (a : Option Addr) (n cap : Nat) (xs : List Int), v = .slice a n cap ∧ IntsAt W a n cap xs := by
  obtain ⟨a0, n0, c0, rfl⟩ := okWide_slice Tryz.underlying27 hv
  obtain ⟨fuel, hf⟩ := h
  simp only [Value.cells] at hf
  rcases open_slice1 Tryz.underlying27 Tryz.cellsInt hf with ⟨hcs, hx⟩ | ⟨a, len, cap, m, n', V, D, Pl, hcs, _, hl, _, hm, hx, hat⟩
  · simp at hcs
    obtain ⟨rfl, rfl, rfl⟩ := hcs
    exact ⟨none, 0, 0, [], rfl, IntsAt.nilAt W⟩
  · simp at hcs
    obtain ⟨rfl, rfl, rfl⟩ := hcs
    simp only [if_true] at hm
    subst hm
    simp only [Prod.mk.injEq] at hx
    obtain ⟨rfl, rfl⟩ := hx
    have hbytes : m * 8 ≤ reachBytes := by
      have := hs ((((List.range n0).map D).length + ((List.range (m - n0)).map fun j => D (n0 + j)).length) * Tryz.prog.bytesOf 3) (by
        simp [DataW.weights, Tryz.underlying27])
      rw [show Tryz.prog.bytesOf 3 = 8 by kernel_rfl] at this
      simp only [List.length_map, List.length_range] at this
      omega
    unfold reachBytes at hbytes
    obtain ⟨hsp, hblk⟩ := ints_block hv
    obtain ⟨ab, ao, sp0⟩ := a
    simp only at hsp hblk
    subst hsp
    have hz : ∀ i, i < m → ∃ z, W.cell? ⟨ab, ao + i, none⟩ = some (.int .i64 z) := fun i hi => by
      obtain ⟨h1, h2⟩ := hat i hi
      obtain ⟨z, e, _⟩ := int_cell Tryz.underlying3 h2
      rw [add_none] at h1
      exact ⟨z, by rw [h1, e]⟩
    let Z : Nat → Int := fun k => match W.cell? ⟨ab, ao + k, none⟩ with | some (.int .i64 z) => z | _ => 0
    have hZ : ∀ i, i < m → W.cell? ⟨ab, ao + i, none⟩ = some (.int .i64 (Z i)) := fun i hi => by
      obtain ⟨z, hz⟩ := hz i hi
      simp only [Z, hz]
    refine ⟨some ⟨ab, ao, none⟩, n0, m, (List.range n0).map Z, rfl, by simp, by simp; omega, ⟨fun h => (by cases h), fun x hx => ?_⟩⟩
    obtain rfl := Option.some.inj hx
    refine ⟨rfl, hblk, fun i u hi => ?_⟩
    have hlt : i < n0 := by
      have := (List.getElem?_eq_some_iff.1 hi).1
      simpa using this
    simp [hlt] at hi
    rw [← hi]
    exact hZ i (by omega)

theorem bound_open {H : Type} {enc : TypeId × Value → H} {W : World} {base : Nat} {v : Value} {d : DataW H} {p : List MemPlace} (hv : Value.okWide Tryz.prog W .any base 26 v)
    (h : DataW.Trod enc Tryz.prog W 0 (fun _ => true) true 26 v d p) : ∃ b : Bd, v = .agg #[.int .i64 b.frm, .int .i64 b.tow, .int .i64 b.most, .int .i64 b.bid] := by
  obtain ⟨c0, c1, c2, c3, y0, y1, y2, y3, m, rfl, rfl, rfl, h0, h1, h2, h3⟩ := open_agg4 Tryz.underlying26 (by kernel_rfl) Tryz.cellsBd hv h
  obtain ⟨x0, rfl, _⟩ := int_cell Tryz.underlying3 h0
  obtain ⟨x1, rfl, _⟩ := int_cell Tryz.underlying3 h1
  obtain ⟨x2, rfl, _⟩ := int_cell Tryz.underlying3 h2
  obtain ⟨x3, rfl, _⟩ := int_cell Tryz.underlying3 h3
  exact ⟨⟨x0, x1, x2, x3⟩, rfl⟩
end Go.Proofs.YtlkcfohmoeadbaaGreat

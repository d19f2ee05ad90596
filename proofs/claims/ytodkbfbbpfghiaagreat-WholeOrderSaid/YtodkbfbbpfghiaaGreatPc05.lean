/-
  Lemmas and walks for the laws on roads and boards: what each function of the program answers, for every input.
-/
import Derived.Test.YtodkbfbbpfghiaaGreatPc04
import Derived.OrdersIn
import Derived.Test.YtodkbfbbpfghiaaGreatPc03
import Derived.Test.YtodkbfbbpfghiaaGreatPc02
import Derived.Test.YtodkbfbbpfghiaaGreatPc01
set_option linter.unusedSimpArgs false
set_option linter.unusedVariables false
set_option linter.unnecessarySimpa false
namespace Go.Proofs.YtodkbfbbpfghiaaGreat.SLF
open Go Go.RowKit Go.Proofs.YtodkbfbbpfghiaaGreat.SL
/-- One operation: carried out, or passed over by its guard. -/
def wpo (ro : Option Nat) (P : Program) (ops : List Oper) (o : Oper) (a : Act) (w : World) (K : Act → World → Prop) : Prop :=
  if Region.wanted o (yielded ops.toArray a.tmps) = true then o.wpIn { Fence.wide with round := ro } 0 P a w K (fun _ _ _ => False) else K (a.put o.dst undef) w
theorem wpIn_weak {F : Fence} {n : Nat} {P : Program} {o : Oper} {a : Act} {w : World} {K K' : Act → World → Prop} {Q : Exit → Act → World → Prop} (h : ∀ a w, K a w → K' a w) (hh : o.wpIn F n P a w K (fun _ _ _ => False)) : o.wpIn F n P a w K' Q := by
  unfold Oper.wpIn at *
  refine ⟨hh.1, ?_⟩
  have hh := hh.2
  generalize (o.semAt F.round a.eval).run P w = r at *
  cases r with
  | ok x w' =>
    cases x <;> simp only [Oper.uponIn] at hh ⊢ <;>
      first
        | exact h _ _ hh
        | exact ⟨hh.1, CallsIn.mono hh.2 (fun e w'' he => by cases e <;> first | exact h _ _ he | exact he.elim | (obtain ⟨_, _, hf⟩ := he; exact hf.elim))⟩
        | exact ⟨hh.1, RowsIn.mono hh.2 (fun _ _ he => h _ _ he)⟩
        | exact ⟨hh.1, RoundIn.mono hh.2 (fun e w'' he => by cases e <;> first | exact h _ _ he | exact he.elim | (obtain ⟨_, _, hf⟩ := he; exact hf.elim))⟩
  | halt x w' => cases x <;> simp only [Oper.uponIn] at hh ⊢
theorem wpo_mono {ro : Option Nat} {P : Program} {ops : List Oper} {o : Oper} {a : Act} {w : World} {K K' : Act → World → Prop} (h : ∀ a w, K a w → K' a w) (hh : wpo ro P ops o a w K) : wpo ro P ops o a w K' := by
  unfold wpo at *
  split
  · rename_i hw; rw [if_pos hw] at hh; exact wpIn_weak h hh
  · rename_i hw; rw [if_neg hw] at hh; exact h _ _ hh
theorem wpo_out {ro : Option Nat} {P : Program} {ops : List Oper} {o : Oper} {a : Act} {w : World} {K K' : Act → World → Prop} {Q : Exit → Act → World → Prop} (h : ∀ a w, K a w → K' a w) (hh : wpo ro P ops o a w K) :
    if Region.wanted o (yielded ops.toArray a.tmps) = true then o.wpIn { Fence.wide with round := ro } 0 P a w K' Q else (∀ f, o.about P w a.eval = some f → ({ Fence.wide with round := ro } : Fence).fn f) ∧ K' (a.put o.dst undef) w := by
  unfold wpo at *
  split
  · rename_i hw; rw [if_pos hw] at hh; exact wpIn_weak h hh
  · rename_i hw; rw [if_neg hw] at hh; exact ⟨fun _ _ => trivial, h _ _ hh⟩
theorem wpIn_of_wp {ro : Option Nat} {P : Program} {o : Oper} {a : Act} {w : World} {K : Act → World → Prop} {Q : Exit → Act → World → Prop} (hnd : ∀ c, o.op ≠ .defer c) (h : o.wp P a w K (fun _ _ _ => False)) :
    o.wpIn { Fence.wide with round := ro } 0 P a w K Q := by
  refine ⟨fun _ _ => trivial, ?_⟩
  rw [Oper.semAt_plain _ _ _ hnd]
  unfold Oper.wp at h
  generalize (execOp a.eval o).run P w = r at *
  cases r with
  | ok n w' =>
    cases n <;> simp only [Oper.upon, Oper.uponIn] at h ⊢ <;> first | exact h | skip
    · refine ⟨fun h => by simp [Fence.wide] at h, ?_⟩
      have h2 : CallsIn { Fence.wide with round := ro } (0 - 1) P _ _ _ _ := match ro with
        | none => callsIn_wide.2 h
        | some l => CallsIn.inRound l (callsIn_wide.2 h)
      refine h2.mono fun e w'' he => ?_
      cases e with
      | returned v => exact he
      | panicked c => exact he.elim
      | outgrown => obtain ⟨_, _, hf⟩ := he; exact hf.elim
    · refine ⟨fun h => by simp [Fence.wide] at h, fun c cs _ => ?_⟩
      obtain ⟨v, w', r, s⟩ := h c cs
      exact ⟨v, w', r, stepsIn_wide.2 s⟩
  | halt x w' => cases x <;> simp only [Oper.upon, Oper.uponIn] at h ⊢
/-- An operation whose guard lets it pass. -/
theorem wpo_do {ro : Option Nat} {P : Program} {ops : List Oper} {o : Oper} {a : Act} {w : World} {K : Act → World → Prop} (hw : Region.wanted o (yielded ops.toArray a.tmps) = true) (hnd : ∀ c, o.op ≠ .defer c)
    (h : o.wp P a w K (fun _ _ _ => False)) : wpo ro P ops o a w K := by
  unfold wpo
  rw [if_pos hw]
  exact wpIn_of_wp hnd h
theorem wpo_not {ro : Option Nat} {P : Program} {ops : List Oper} {o : Oper} {a : Act} {w : World} {K : Act → World → Prop} (hw : Region.wanted o (yielded ops.toArray a.tmps) = false) (h : K (a.put o.dst undef) w) : wpo ro P ops o a w K := by
  unfold wpo
  rw [if_neg (by rw [hw]; simp)]
  exact h

/-- All that may come ahead of j is quiet. -/
def calm (ops : List Oper) (Γ : List Sp) (j : Nat) : Bool := (List.range ops.length).all fun k => k == j || (Γ.getD k (pu 0 [] undef)).quiet || ((anc ops).getD k []).contains j
section
variable (ro : Option Nat) (all : List Oper) (P : Program) (a0 : Act) (w0 : World) (F0 : List Nat) (ds : List Nat)

/-- What one operation owes. -/
def Ob (Γ : List Sp) (j : Nat) (o : Oper) (s : Sp) : Prop :=
  ∀ (us : Nat → Value) (w : World) (Fe : Nat → List Nat), Chg F0 w0 w → (∀ i x, i ∈ s.use → Γ[i]? = some x → x.A (us x.sub) w (Fe i)) → (∀ i j, i ∈ s.use → j ∈ s.use → i ≠ j → ∀ k ∈ Fe i, k ∉ Fe j) → (∀ i x, i ∈ s.see → Γ[i]? = some x → x.V (us x.sub)) → (calm all Γ j = true → w = w0) →
    wpo ro P all o (frame a0 ds us) w (fun a' w' => ∃ v F, a' = (frame a0 ds us).put o.dst v ∧ s.V (if o.dst = some s.sub then v else us s.sub) ∧ Chg (s.eat.flatMap Fe) w w' ∧
      s.A (if o.dst = some s.sub then v else us s.sub) w' F ∧ (∀ k ∈ F, k ∈ s.eat.flatMap Fe ∨ (w.heap.size ≤ k ∧ k < w'.heap.size)) ∧ (s.quiet = true → w' = w))
def Obs (Γ : List Sp) : Nat → List Oper → List Sp → Prop
  | j, o :: os, s :: ss => Ob ro all P a0 w0 F0 ds Γ j o s ∧ Obs Γ (j + 1) os ss
  | _, _, _ => True
end

/-- The check: n operations; Γ has their words first, then those that hold from the beginning. -/
def check (ops : List Oper) (Γ : List Sp) (ds : List Nat) : Bool :=
  let n := ops.length
  let an := anc ops
  let A := fun j => an.getD j []
  (ops.all fun o => (match o.op with | .defer _ => false | _ => true) && (match o.dst with | some d => ds.contains d | none => true)) && decide (n ≤ Γ.length) && (an.length == n) &&
  ((List.range n).all fun j => ((ops.getD j default).after.toList.all fun e => !Region.binds .any e || decide (e.on < j))) &&
  ((List.range n).all fun j => ((A j).all fun i => (ops.getD j default).after.toList.any fun e => Region.binds .any e && (e.on == i || (A e.on).contains i))) &&
  (List.range n).all fun j =>
    let s := Γ.getD j (pu 0 [] undef)
    (s.eat.all s.use.contains) && (s.use.all fun i => (decide (n ≤ i) || (A j).contains i) && i != j && decide (i < Γ.length)) &&
    (s.see.all fun i => (A j).contains i && decide ((ops.getD i default).dst = some (Γ.getD i (pu 0 [] undef)).sub)) &&
    ((List.range n).all fun i => i == j || match (ops.getD i default).dst, (ops.getD j default).dst with | some d, some d' => d != d' | _, _ => true) &&
    (s.use.all fun i => (List.range n).all fun k => k == j || !((Γ.getD k (pu 0 [] undef)).eat.contains i) || (A k).contains j) &&
    (match (ops.getD j default).dst with
     | some d => (List.range Γ.length).all fun i => i == j || (Γ.getD i (pu 0 [] undef)).sub != d || (List.range n).any (fun k => (Γ.getD k (pu 0 [] undef)).eat.contains i && (k == j || (A j).contains k)) || (A i).contains j
     | none => true)
section
variable {ro : Option Nat} {all : List Oper} {P : Program} {a0 : Act} {w0 : World} {F0 : List Nat} {ds : List Nat} {Γ : List Sp} {ops : List Oper}
theorem Obs_get : ∀ (os : List Oper) (ss : List Sp) (i j : Nat) (o : Oper) (s : Sp), Obs ro all P a0 w0 F0 ds Γ i os ss → os[j]? = some o → ss[j]? = some s → Ob ro all P a0 w0 F0 ds Γ (i + j) o s
  | [], _, _, _, _, _, _, h, _ => by simp at h
  | _ :: _, [], _, _, _, _, _, _, h => by simp at h
  | o :: os, s :: ss, i, 0, _, _, h, ho, hs => by
    simp at ho hs
    subst ho; subst hs
    exact h.1
  | o :: os, s :: ss, i, j + 1, o', s', h, ho, hs => by
    have := Obs_get os ss (i + 1) j o' s' h.2 (by simpa using ho) (by simpa using hs)
    rwa [show i + (j + 1) = i + 1 + j by omega]

/-- What holds when the operations in D have been carried out. -/
structure Inv (a0 : Act) (w0 : World) (F0 ds : List Nat) (Γ : List Sp) (ops : List Oper) (D : Nat → Bool) (a : Act) (w : World) : Prop where
  body : ∃ (us : Nat → Value) (Fs : Nat → List Nat), a = frame a0 ds us ∧ Chg F0 w0 w ∧
    (∀ i x, Γ[i]? = some x → (i < ops.length → D i = true) → (∀ k y, k < ops.length → D k = true → Γ[k]? = some y → i ∉ y.eat) → x.A (us x.sub) w (Fs i) ∧ ∀ k ∈ Fs i, (k ∈ F0 ∨ w0.heap.size ≤ k) ∧ k < w.heap.size) ∧
    (∀ i j x y, i ≠ j → Γ[i]? = some x → Γ[j]? = some y → (i < ops.length → D i = true) → (j < ops.length → D j = true) →
      (∀ k z, k < ops.length → D k = true → Γ[k]? = some z → i ∉ z.eat) → (∀ k z, k < ops.length → D k = true → Γ[k]? = some z → j ∉ z.eat) → ∀ k ∈ Fs i, k ∉ Fs j) ∧
    (∀ i o x, ops[i]? = some o → Γ[i]? = some x → D i = true → o.dst = some x.sub → x.V (us x.sub))
  closed : ∀ j i, D j = true → i ∈ (anc ops).getD j [] → D i = true
  still : (∀ k x, k < ops.length → D k = true → Γ[k]? = some x → x.quiet = true) → w = w0
structure Chk (ops : List Oper) (Γ : List Sp) (ds : List Nat) : Prop where
  nodef : ∀ o ∈ ops, ∀ c, o.op ≠ .defer c
  dst : ∀ o ∈ ops, ∀ d, o.dst = some d → d ∈ ds
  len : ops.length ≤ Γ.length
  ancLen : (SL.anc ops).length = ops.length
  low : ∀ j o, ops[j]? = some o → ∀ e ∈ o.after, Region.binds .any e = true → e.on < j
  anc : ∀ j o, ops[j]? = some o → ∀ i ∈ (anc ops).getD j [], ∃ e ∈ o.after, Region.binds .any e = true ∧ (e.on = i ∨ i ∈ (SL.anc ops).getD e.on [])
  eatUse : ∀ j s, j < ops.length → Γ[j]? = some s → ∀ i ∈ s.eat, i ∈ s.use
  use : ∀ j s, j < ops.length → Γ[j]? = some s → ∀ i ∈ s.use, (ops.length ≤ i ∨ i ∈ (SL.anc ops).getD j []) ∧ i ≠ j ∧ i < Γ.length
  see : ∀ j s, j < ops.length → Γ[j]? = some s → ∀ i ∈ s.see, i ∈ (SL.anc ops).getD j [] ∧ ∀ o x, ops[i]? = some o → Γ[i]? = some x → o.dst = some x.sub
  single : ∀ (i j : Nat) (o o' : Oper) (d : Tmp), ops[i]? = some o → ops[j]? = some o' → i ≠ j → o.dst = some d → o'.dst ≠ some d
  order : ∀ j s, j < ops.length → Γ[j]? = some s → ∀ i ∈ s.use, ∀ k y, k < ops.length → Γ[k]? = some y → k ≠ j → i ∈ y.eat → j ∈ (SL.anc ops).getD k []
  slot : ∀ j o d, ops[j]? = some o → o.dst = some d → ∀ i x, Γ[i]? = some x → i ≠ j → x.sub = d → (∃ k y, k < ops.length ∧ Γ[k]? = some y ∧ i ∈ y.eat ∧ (k = j ∨ k ∈ (SL.anc ops).getD j [])) ∨ j ∈ (SL.anc ops).getD i []
theorem chk_of (h : check ops Γ ds = true) : Chk ops Γ ds := by
  simp only [check, Bool.and_eq_true, List.all_eq_true, List.mem_range, decide_eq_true_eq, Bool.or_eq_true, Bool.not_eq_true', beq_iff_eq, List.contains_iff_mem, bne_iff_ne, ne_eq] at h
  obtain ⟨⟨⟨⟨⟨h1, h2⟩, h2'⟩, h3⟩, h4⟩, h5⟩ := h
  have hop : ∀ j o, ops[j]? = some o → j < ops.length ∧ ops.getD j default = o := fun j o ho => ⟨(List.getElem?_eq_some_iff.1 ho).1, by simp [List.getD_eq_getElem?_getD, ho]⟩
  have hΓ : ∀ j s, Γ[j]? = some s → Γ.getD j (pu 0 [] undef) = s := fun j s hs => by simp [List.getD_eq_getElem?_getD, hs]
  refine ⟨fun o ho c e => (by have h := (h1 o ho).1; rw [e] at h; simp at h), fun o ho d hd => ?_, h2, h2', fun j o ho e he hb => ?_, fun j o ho i hi => ?_, fun j s hj hs i hi => ?_, fun j s hj hs i hi => ?_, fun j s hj hs i hi => ?_, fun i j o o' d hoi hoj hij hdi hdj => ?_, fun j s hj hs i hi k y hk hy hkj hiy => ?_, fun j o d ho hd i x hx hij hsub => ?_⟩
  · have := (h1 o ho).2
    rw [hd] at this
    simpa using this
  · obtain ⟨hj, he'⟩ := hop j o ho
    have := h3 j hj e (by rw [he']; simpa using he)
    rcases this with h | h
    · rw [hb] at h; cases h
    · exact h
  · obtain ⟨hj, he'⟩ := hop j o ho
    have := h4 j hj i hi
    rw [he', List.any_eq_true] at this
    obtain ⟨e, he, hb⟩ := this
    simp only [Bool.and_eq_true, Bool.or_eq_true, beq_iff_eq, List.contains_iff_mem] at hb
    exact ⟨e, by simpa using he, hb.1, hb.2⟩
  · have := (h5 j hj).1.1.1.1.1 i
    rw [hΓ j s hs] at this
    exact this hi
  · have := (h5 j hj).1.1.1.1.2 i
    rw [hΓ j s hs] at this
    obtain ⟨⟨a, b⟩, c⟩ := this hi
    exact ⟨a, b, c⟩
  · have := (h5 j hj).1.1.1.2 i
    rw [hΓ j s hs] at this
    obtain ⟨a, b⟩ := this hi
    refine ⟨a, fun o x ho hx => ?_⟩
    rw [(hop i o ho).2, hΓ i x hx] at b
    exact b
  · have := (h5 j (hop j o' hoj).1).1.1.2 i (hop i o hoi).1
    rcases this with h | h
    · exact hij h
    · rw [(hop i o hoi).2, (hop j o' hoj).2, hdi, hdj] at h
      simp at h
  · have := (h5 j hj).1.2 i
    rw [hΓ j s hs] at this
    have := this hi k hk
    rw [hΓ k y hy] at this
    rcases this with (h | h) | h
    · exact absurd h hkj
    · rw [← Bool.not_eq_true, List.contains_iff_mem] at h
      exact absurd hiy h
    · exact h
  · obtain ⟨hj, he'⟩ := hop j o ho
    have := (h5 j hj).2
    rw [he', hd] at this
    simp only [List.all_eq_true, List.mem_range, Bool.or_eq_true, beq_iff_eq, bne_iff_ne, ne_eq, List.any_eq_true, Bool.and_eq_true, List.contains_iff_mem] at this
    have := this i (List.getElem?_eq_some_iff.1 hx).1
    rw [hΓ i x hx] at this
    rcases this with ((h | h) | ⟨k, hk, h, h'⟩) | h
    · exact absurd h hij
    · exact absurd hsub h
    rotate_left
    · exact .inr h
    · left
      have hkl : k < Γ.length := Nat.lt_of_lt_of_le hk h2
      refine ⟨k, Γ[k], hk, List.getElem?_eq_getElem hkl, ?_, h'⟩
      rwa [hΓ k Γ[k] (List.getElem?_eq_getElem hkl)] at h
theorem Obs_get0 {j : Nat} {o : Oper} {s : Sp} (h : Obs ro all P a0 w0 F0 ds Γ 0 ops Γ) (ho : ops[j]? = some o) (hs : Γ[j]? = some s) : Ob ro all P a0 w0 F0 ds Γ j o s := by
  have := Obs_get ops Γ 0 j o s h ho hs
  rwa [Nat.zero_add] at this
theorem anc_lt (hc : Chk ops Γ ds) : ∀ (j i : Nat), i ∈ (anc ops).getD j [] → i < ops.length := by
  intro j
  induction j using Nat.strongRecOn with
  | _ j ih =>
    intro i hi
    rcases Nat.lt_or_ge j ops.length with hj | hj
    · obtain ⟨e, he, hb, h⟩ := hc.anc j _ (List.getElem?_eq_getElem hj) i hi
      have hl := hc.low j _ (List.getElem?_eq_getElem hj) e he hb
      rcases h with rfl | h
      · omega
      · exact ih _ hl i h
    · simp only [List.getD_eq_getElem?_getD] at hi
      rw [List.getElem?_eq_none (by rw [hc.ancLen]; omega)] at hi
      cases hi
theorem step (hob : Obs ro ops P a0 w0 F0 ds Γ 0 ops Γ) (hc : Chk ops Γ ds) {D : Nat → Bool} {a : Act} {w : World} {j : Nat} {o : Oper} (hI : Inv a0 w0 F0 ds Γ ops D a w)
    (ho : ops[j]? = some o) (hD : D j = false) (hpre : ∀ e ∈ o.after, Region.binds .any e = true → D e.on = true) :
    wpo ro P ops o a w (Inv a0 w0 F0 ds Γ ops (fun i => if i = j then true else D i)) := by
  obtain ⟨⟨us, Fs, rfl, hG, hA, hdis, hV⟩, hcl, hst⟩ := hI
  have hjl : j < ops.length := (List.getElem?_eq_some_iff.1 ho).1
  have hjΓ : j < Γ.length := Nat.lt_of_lt_of_le hjl hc.len
  obtain ⟨s, hs⟩ : ∃ s, Γ[j]? = some s := ⟨_, List.getElem?_eq_getElem hjΓ⟩
  have hancD : ∀ i ∈ (anc ops).getD j [], D i = true := fun i hi => by
    obtain ⟨e, he, hb, h⟩ := hc.anc j o ho i hi
    rcases h with rfl | h
    · exact hpre e he hb
    · exact hcl _ _ (hpre e he hb) h
  -- what it uses is there, and nobody has taken it over
  have huse : ∀ i ∈ s.use, (i < ops.length → D i = true) ∧ (∀ k y, k < ops.length → D k = true → Γ[k]? = some y → i ∉ y.eat) := fun i hi => by
    obtain ⟨h1, h2, h3⟩ := hc.use j s hjl hs i hi
    refine ⟨fun hin => ?_, fun k y hk hDk hy hiy => ?_⟩
    · rcases h1 with h1 | h1
      · omega
      · exact hancD i h1
    · by_cases hkj : k = j
      · subst hkj; rw [hD] at hDk; cases hDk
      · have := hcl k j hDk (hc.order j s hjl hs i hi k y hk hy hkj hiy)
        rw [hD] at this; cases this
  have hdu : ∀ i i', i ∈ s.use → i' ∈ s.use → i ≠ i' → ∀ k ∈ Fs i, k ∉ Fs i' := fun i i' hi hi' hii => by
    obtain ⟨x, hx⟩ : ∃ x, Γ[i]? = some x := ⟨_, List.getElem?_eq_getElem (hc.use j s hjl hs i hi).2.2⟩
    obtain ⟨x', hx'⟩ : ∃ x, Γ[i']? = some x := ⟨_, List.getElem?_eq_getElem (hc.use j s hjl hs i' hi').2.2⟩
    exact hdis i i' x x' hii hx hx' (huse i hi).1 (huse i' hi').1 (huse i hi).2 (huse i' hi').2
  have hsee : ∀ i x, i ∈ s.see → Γ[i]? = some x → x.V (us x.sub) := fun i x hi hx => by
    obtain ⟨h1, h2⟩ := hc.see j s hjl hs i hi
    have hil : i < ops.length := by
      obtain ⟨e, he, hb, h'⟩ := hc.anc j o ho i h1
      have hlow := hc.low j o ho e he hb
      rcases h' with rfl | h'
      · omega
      · exact anc_lt hc _ _ h'
    have hoi : ops[i]? = some ops[i] := List.getElem?_eq_getElem hil
    exact hV i _ x hoi hx (hancD i h1) (h2 _ x hoi hx)
  have hcalm : calm ops Γ j = true → w = w0 := fun hcm => hst fun k x hk hDk hx => by
    simp only [calm, List.all_eq_true, List.mem_range, Bool.or_eq_true, beq_iff_eq, List.contains_iff_mem] at hcm
    rcases hcm k hk with (h | h) | h
    · subst h; rw [hD] at hDk; cases hDk
    · rwa [show Γ.getD k (pu 0 [] undef) = x from by simp [List.getD_eq_getElem?_getD, hx]] at h
    · have := hcl k j hDk h; rw [hD] at this; cases this
  refine wpo_mono ?_ (Obs_get0 hob ho hs us w Fs hG (fun i x hi hx => (hA i x hx (huse i hi).1 (huse i hi).2).1) hdu hsee hcalm)
  rintro a' w' ⟨v, F, rfl, hVj, hch, hAj, hF, hqu⟩
  have hE : ∀ k ∈ s.eat.flatMap Fs, ∃ e x, e ∈ s.eat ∧ Γ[e]? = some x ∧ k ∈ Fs e ∧ (k ∈ F0 ∨ w0.heap.size ≤ k) ∧ k < w.heap.size := fun k hk => by
    obtain ⟨e, he, hke⟩ := List.mem_flatMap.1 hk
    have hu := hc.eatUse j s hjl hs e he
    have hel := (hc.use j s hjl hs e hu).2.2
    have := (hA e Γ[e] (List.getElem?_eq_getElem hel) (huse e hu).1 (huse e hu).2).2 k hke
    exact ⟨e, Γ[e], he, List.getElem?_eq_getElem hel, hke, this.1, this.2⟩
  let us' : Nat → Value := match o.dst with | some d => fun x => if x = d then v else us x | none => us
  have hfr : (frame a0 ds us).put o.dst v = frame a0 ds us' := by
    cases hd : o.dst with
    | none => simp [us', hd, Act.put]
    | some d => rw [frame_put _ _ _ _ _ (hc.dst o (List.mem_of_getElem? ho) d hd)]; simp [us', hd]
  have hus : ∀ t, us' t = if o.dst = some t then v else us t := fun t => by
    cases hd : o.dst with
    | none => simp [us', hd]
    | some d =>
      simp only [us', hd, Option.some.injEq]
      by_cases e : t = d
      · rw [if_pos e, if_pos e.symm]
      · rw [if_neg e, if_neg (fun h => e h.symm)]
  refine ⟨⟨us', fun i => if i = j then F else Fs i, hfr, ?_, ?_, ?_, ?_⟩, ?_, ?_⟩
  · refine ⟨hch.os.trans hG.os, hch.tape.trans hG.tape, hch.output.trans hG.output, Nat.le_trans hG.size hch.size, fun k hk hn => ?_⟩
    rw [hch.block k (Nat.lt_of_lt_of_le hk hG.size) (fun hke => ?_), hG.block k hk hn]
    obtain ⟨_, _, _, _, _, h, _⟩ := hE k hke
    rcases h with h | h
    · exact hn h
    · omega
  · intro i x hx hDi hne
    by_cases hij : i = j
    · subst hij
      rw [hs] at hx
      cases hx
      simp only [if_pos]
      refine ⟨by rw [hus]; exact hAj, fun k hk => ?_⟩
      rcases hF k hk with h | ⟨h, h'⟩
      · obtain ⟨_, _, _, _, _, h1, h2⟩ := hE k h
        exact ⟨h1, Nat.lt_of_lt_of_le h2 hch.size⟩
      · exact ⟨.inr (Nat.le_trans hG.size h), h'⟩
    · simp only [if_neg hij] at hDi ⊢
      have hne' : ∀ k y, k < ops.length → D k = true → Γ[k]? = some y → i ∉ y.eat := fun k y hk hDk hy => hne k y hk (by split <;> first | rfl | exact hDk) hy
      have hnj : i ∉ s.eat := hne j s hjl (by simp) hs
      obtain ⟨h1, h2⟩ := hA i x hx hDi hne'
      have hsub : us' x.sub = us x.sub := by
        rw [hus]
        split
        · rename_i hd
          exfalso
          rcases hc.slot j o _ ho hd i x hx hij rfl with ⟨k, y, hk, hy, hiy, hkj⟩ | hji
          rotate_left
          · by_cases hil : i < ops.length
            · have := hcl i j (hDi hil) hji
              rw [hD] at this; cases this
            · have : (anc ops).getD i [] = [] := by
                simp only [List.getD_eq_getElem?_getD]
                rw [List.getElem?_eq_none (by rw [hc.ancLen]; omega)]
                rfl
              rw [this] at hji
              cases hji
          rcases hkj with rfl | hkj
          · rw [hs] at hy; cases hy; exact hnj hiy
          · exact hne' k y hk (hancD k hkj) hy hiy
        · rfl
      rw [hsub]
      refine ⟨x.st _ w w' _ h1 (fun k hk => hch.block k (h2 k hk).2 fun hke => ?_) hch.size, fun k hk => ⟨(h2 k hk).1, Nat.lt_of_lt_of_le (h2 k hk).2 hch.size⟩⟩
      obtain ⟨e, y, he, hy, hke', _, _⟩ := hE k hke
      have hu := hc.eatUse j s hjl hs e he
      exact hdis i e x y (fun h => hnj (h ▸ he)) hx hy hDi (huse e hu).1 hne' (huse e hu).2 k hk hke'
  · intro i i' x x' hii hx hx' hDi hDi' hne hne' k hk hk'
    have up : ∀ {i}, (∀ k z, k < ops.length → (if k = j then true else D k) = true → Γ[k]? = some z → i ∉ z.eat) → (∀ k z, k < ops.length → D k = true → Γ[k]? = some z → i ∉ z.eat) ∧ i ∉ s.eat :=
      fun h => ⟨fun k y hk hDk hy => h k y hk (by split <;> first | rfl | exact hDk) hy, h j s hjl (by simp) hs⟩
    obtain ⟨n1, n2⟩ := up hne
    obtain ⟨m1, m2⟩ := up hne'
    have key : ∀ i' x', i' ≠ j → Γ[i']? = some x' → (i' < ops.length → D i' = true) → (∀ k z, k < ops.length → D k = true → Γ[k]? = some z → i' ∉ z.eat) → i' ∉ s.eat → ∀ k ∈ F, k ∉ Fs i' := by
      intro i' x' hi' hx' hDi' m1 m2 k hk hk'
      rcases hF k hk with h | ⟨h, _⟩
      · obtain ⟨e, y, he, hy, hke', _, _⟩ := hE k h
        have hu := hc.eatUse j s hjl hs e he
        exact hdis i' e x' y (fun h => m2 (h ▸ he)) hx' hy hDi' (huse e hu).1 m1 (huse e hu).2 k hk' hke'
      · have := ((hA i' x' hx' hDi' m1).2 k hk').2
        omega
    by_cases hij : i = j
    · have hij' : i' ≠ j := fun h => hii (hij.trans h.symm)
      simp only [if_pos hij, if_neg hij'] at hk hk' hDi'
      exact key i' x' hij' hx' hDi' m1 m2 k hk hk'
    · by_cases hij' : i' = j
      · simp only [if_neg hij, if_pos hij'] at hk hk' hDi
        exact key i x hij hx hDi n1 n2 k hk' hk
      · simp only [if_neg hij, if_neg hij'] at hk hk' hDi hDi'
        exact hdis i i' x x' hii hx hx' hDi hDi' n1 m1 k hk hk'
  · intro i oi x hoi hx hDi hdi
    by_cases hij : i = j
    · subst hij
      rw [hs] at hx
      cases hx
      rw [hus]
      exact hVj
    · simp only [if_neg hij] at hDi
      rw [hus, if_neg (hc.single i j oi o _ hoi ho hij hdi)]
      exact hV i oi x hoi hx hDi hdi
  · intro k i hk hi
    by_cases hik : i = j
    · simp [hik]
    · simp only [if_neg hik]
      by_cases hkj : k = j
      · subst hkj; exact hancD i hi
      · simp only [if_neg hkj] at hk
        exact hcl k i hk hi
  · intro hq
    rw [hqu (hq j s hjl (by simp) hs)]
    exact hst fun k x hk hDk hx => hq k x hk (by split <;> first | rfl | exact hDk) hx
theorem any_of (hob : Obs ro ops P a0 w0 F0 ds Γ 0 ops Γ) (hc : Chk ops Γ ds) {Q : Exit → Act → World → Prop}
    (hend : ∀ (D : Nat → Bool) a w, (∀ i, i < ops.length → D i = true) → Inv a0 w0 F0 ds Γ ops D a w → Q .normal a w) :
    ∀ (fuel : Nat) (listed : Array Bool) (a : Act) (w : World), listed.size = ops.length → listed.toList.count false = fuel → Inv a0 w0 F0 ds Γ ops (fun i => listed.getD i false) a w → wpAnyIn { Fence.wide with round := ro } 0 P .any ops.toArray Q fuel listed a w := by
  have ready_nil : ∀ listed : Array Bool, listed.size = ops.length → Region.ready .any ops.toArray listed = [] → ∀ i, i < ops.length → listed.getD i false = true := by
    intro listed hl hr i
    induction i using Nat.strongRecOn with
    | _ i ih =>
      intro hi
      by_cases h : listed.getD i false = true
      · exact h
      · exfalso
        have hi' : i < listed.size := by omega
        have hm : i ∈ Region.ready .any ops.toArray listed := by
          simp only [Region.ready, List.mem_filter, List.mem_range, List.size_toArray, Bool.and_eq_true, Bool.not_eq_true']
          refine ⟨hi, ?_, ?_⟩
          · simp [Array.getD, hi'] at h ⊢; exact h
          · have ho : ops[i]? = some ops[i] := List.getElem?_eq_getElem hi
            simp only [List.getElem?_toArray, ho, Option.map_some, Option.getD_some, Array.all_eq_true']
            intro e he
            by_cases hb : Region.binds .any e = true
            · have hlt := hc.low i _ ho e he hb
              simp [hb]
              have := ih e.on hlt (by omega)
              simpa using this
            · simp at hb; simp [hb]
        rw [hr] at hm
        cases hm
  intro fuel
  induction fuel with
  | zero =>
    intro listed a w hl hcnt hI
    have hall : ∀ i, i < ops.length → listed.getD i false = true := fun i hi => by
      have hi' : i < listed.size := by omega
      have := List.count_eq_zero.1 hcnt
      cases hv : listed.getD i false with
      | true => rfl
      | false =>
        exfalso
        apply this
        simp [Array.getD, hi'] at hv
        rw [← hv]
        simp
    refine ⟨?_, hend _ a w hall hI⟩
    rw [List.eq_nil_iff_forall_not_mem]
    intro i hi
    simp only [Region.ready, List.mem_filter, List.mem_range, List.size_toArray, Bool.and_eq_true, Bool.not_eq_true'] at hi
    have := hall i hi.1
    have hi' : i < listed.size := by omega
    have h2 := hi.2.1
    simp [Array.getD, hi'] at this h2
    rw [this] at h2
    cases h2
  | succ fuel ih =>
    intro listed a w hl hcnt hI
    refine ⟨fun hr => hend _ a w (ready_nil listed hl hr) hI, fun j hj => ?_⟩
    simp only [Region.ready, List.mem_filter, List.mem_range, List.size_toArray, Bool.and_eq_true, Bool.not_eq_true'] at hj
    obtain ⟨hjl, hun, hall⟩ := hj
    have ho : ops[j]? = some ops[j] := List.getElem?_eq_getElem hjl
    have hj' : j < listed.size := by omega
    simp only [List.getElem?_toArray, ho, Option.map_some, Option.getD_some, Array.all_eq_true'] at hall
    have hD : listed.getD j false = false := by
      simp [Array.getD, hj'] at hun ⊢; exact hun
    unfold wpOpIn
    simp only [List.getElem?_toArray, ho]
    refine wpo_out (ops := ops) ?_ (step hob hc hI ho hD fun e he hb => by
      have := hall e he
      simpa [hb] using this)
    intro a' w' hI'
    refine ih _ a' w' (by simpa using hl) ?_ ?_
    · have hv : listed.toList[j]'(by simpa using hj') = false := by
        simp [Array.getD, hj'] at hD; simpa using hD
      rw [Array.toList_setIfInBounds]
      have := List.count_set (l := listed.toList) (i := j) (a := true) (b := false) (by simpa [Array.length_toList] using hj')
      rw [this]
      simp [hv, hcnt]
    · have : (fun i => (listed.setIfInBounds j true).getD i false) = (fun i => if i = j then true else listed.getD i false) := by
        funext i
        by_cases hij : i = j
        · subst hij; simp [Array.getD, hj']
        · simp only [if_neg hij]
          by_cases hi : i < listed.size
          · simp [Array.getD, hi, Ne.symm hij]
          · simp [Array.getD, hi]
      rw [this]
      exact hI'
end

/-- THE RULE: a region that draws its order. -/
theorem region {P : Program} {ro : Option Nat} (hm : P.follows .mixedOrders = true) {id : Nat} {ops : List Oper} {a0 : Act} {w : World} {Q : Exit → Act → World → Prop} (F0 ds : List Nat) (Γ : List Sp) (Fs0 : Nat → List Nat)
    (hck : check ops Γ ds = true)
    (hin : ∀ i x, ops.length ≤ i → Γ[i]? = some x → x.A (a0.tmps.getD x.sub undef) w.drew (Fs0 i) ∧ ∀ k ∈ Fs0 i, k ∈ F0 ∧ k < w.heap.size)
    (hdj : ∀ i j, i ≠ j → ops.length ≤ i → ops.length ≤ j → ∀ k ∈ Fs0 i, k ∉ Fs0 j)
    (hob : Obs ro ops P a0 w.drew F0 ds Γ 0 ops Γ)
    (hend : ∀ (us : Nat → Value) (w' : World) (Fs : Nat → List Nat), Chg F0 w.drew w' →
      (∀ i x, Γ[i]? = some x → (∀ k y, k < ops.length → Γ[k]? = some y → i ∉ y.eat) → x.A (us x.sub) w' (Fs i) ∧ ∀ k ∈ Fs i, (k ∈ F0 ∨ w.heap.size ≤ k) ∧ k < w'.heap.size) →
      (∀ i j x y, i ≠ j → Γ[i]? = some x → Γ[j]? = some y → (∀ k z, k < ops.length → Γ[k]? = some z → i ∉ z.eat) → (∀ k z, k < ops.length → Γ[k]? = some z → j ∉ z.eat) → ∀ k ∈ Fs i, k ∉ Fs j) →
      Q .normal (frame a0 ds us) w') :
    (Code.region id ops.toArray true).wpIn { Fence.wide with round := ro } 0 P Q a0 w := by
  have hc := chk_of hck
  refine wpIn_region_any hm ?_
  have hfr : frame a0 ds (fun s => a0.tmps.getD s undef) = a0 := by
    have : ∀ (l : List Value) (s : Nat), (∀ i, i < l.length → l[i]? = some (a0.tmps.getD (s + i) undef)) → put' ds (fun s => a0.tmps.getD s undef) s l = l := by
      intro l
      induction l with
      | nil => intro s _; rfl
      | cons x xs ih =>
        intro s h
        have h0 := h 0 (by simp)
        simp at h0
        simp only [put']
        rw [ih (s + 1) (fun i hi => by have := h (i + 1) (by simpa using hi); simpa [Nat.add_assoc, Nat.add_comm 1 i] using this)]
        split
        · rw [h0]; simp
        · rfl
    unfold frame
    rw [this a0.tmps.toList 0 (fun i hi => by simp at hi; simp [hi])]
  have : (Array.replicate ops.toArray.size false).toList.count false = ops.toArray.size := by simp
  refine any_of hob hc ?_ ops.toArray.size _ _ _ (by simp) this ?_
  · intro D a w2 hall hI
    obtain ⟨⟨us, Fs, rfl, hG, hA, hdis, _⟩, _, _⟩ := hI
    exact hend us w2 Fs hG (fun i x hx hne => hA i x hx (fun hi => hall i hi) (fun k y hk _ hy => hne k y hk hy))
      (fun i j x y hij hx hy n1 n2 => hdis i j x y hij hx hy (fun hi => hall i hi) (fun hj => hall j hj) (fun k z hk _ hz => n1 k z hk hz) (fun k z hk _ hz => n2 k z hk hz))
  · have hD : ∀ i, (Array.replicate ops.toArray.size false).getD i false = false := fun i => by
      simp only [Array.getD]; split <;> simp
    refine ⟨⟨fun s => a0.tmps.getD s undef, Fs0, hfr.symm, Chg.refl _ _, fun i x hx hDi _ => ?_, fun i j x y hij hx hy hDi hDj _ _ => ?_, fun i o x _ _ hDi _ => ?_⟩, fun k i hk _ => ?_, fun _ => rfl⟩
    · have hi : ops.length ≤ i := by
        rcases Nat.lt_or_ge i ops.length with h | h
        · have := hDi h; rw [hD] at this; cases this
        · exact h
      obtain ⟨h1, h2⟩ := hin i x hi hx
      exact ⟨h1, fun k hk => ⟨.inl (h2 k hk).1, (h2 k hk).2⟩⟩
    · have hi : ops.length ≤ i := by
        rcases Nat.lt_or_ge i ops.length with h | h
        · have := hDi h; rw [hD] at this; cases this
        · exact h
      have hj : ops.length ≤ j := by
        rcases Nat.lt_or_ge j ops.length with h | h
        · have := hDj h; rw [hD] at this; cases this
        · exact h
      exact hdj i j hij hi hj
    · rw [hD] at hDi; cases hDi
    · rw [hD] at hk; cases hk

/-- THE RULE, for use: what is kept at the end is named. -/
theorem rule {P : Program} {ro : Option Nat} (hm : P.follows .mixedOrders = true) {id : Nat} {ops : List Oper} {a0 : Act} {w : World} {Q : Exit → Act → World → Prop} (F0 ds : List Nat) (Γ : List Sp) (keep : List Nat)
    (hck : check ops Γ ds = true) (hkeep : keepOk ops.length Γ keep = true) (Fs0 : Nat → List Nat)
    (hin : ∀ i x, ops.length ≤ i → Γ[i]? = some x → x.A (a0.tmps.getD x.sub undef) w.drew (Fs0 i) ∧ ∀ k ∈ Fs0 i, k ∈ F0 ∧ k < w.heap.size)
    (hdj : ∀ i j, i ≠ j → ops.length ≤ i → ops.length ≤ j → ∀ k ∈ Fs0 i, k ∉ Fs0 j)
    (hob : Obs ro ops P a0 w.drew F0 ds Γ 0 ops Γ)
    (hend : ∀ (us : Nat → Value) (w' : World) (Fs : Nat → List Nat), Chg F0 w.drew w' → Used Γ us w' Fs keep →
      (∀ i ∈ keep, ∀ k ∈ Fs i, (k ∈ F0 ∨ w.heap.size ≤ k) ∧ k < w'.heap.size) → (∀ i j, i ∈ keep → j ∈ keep → i ≠ j → ∀ k ∈ Fs i, k ∉ Fs j) →
      Q .normal (frame a0 ds us) w') :
    (Code.region id ops.toArray true).wpIn { Fence.wide with round := ro } 0 P Q a0 w := by
  simp only [keepOk, List.all_eq_true, Bool.and_eq_true, decide_eq_true_eq, List.mem_range, Bool.not_eq_true'] at hkeep
  have hk : ∀ i ∈ keep, ∀ k y, k < ops.length → Γ[k]? = some y → i ∉ y.eat := fun i hi k y hk hy h => by
    have := (hkeep i hi).2 k hk
    rw [show Γ.getD k (pu 0 [] undef) = y from by simp [List.getD_eq_getElem?_getD, hy]] at this
    rw [← Bool.not_eq_true, List.contains_iff_mem] at this
    exact this h
  have hx : ∀ i ∈ keep, ∃ x, Γ[i]? = some x := fun i hi => ⟨_, List.getElem?_eq_getElem (hkeep i hi).1⟩
  refine region hm F0 ds Γ Fs0 hck hin hdj hob fun us w' Fs hG hA hdis => ?_
  refine hend us w' Fs hG (used_of _ fun i x hi hx => (hA i x hx (hk i hi)).1) (fun i hi => ?_) (fun i j hi hj hij => ?_)
  · obtain ⟨x, hx⟩ := hx i hi
    exact (hA i x hx (hk i hi)).2
  · obtain ⟨x, hxi⟩ := hx i hi
    obtain ⟨y, hyj⟩ := hx j hj
    exact hdis i j x y hij hxi hyj (hk i hi) (hk j hj)
theorem ob {ro : Option Nat} {all : List Oper} {P : Program} {a0 : Act} {w0 : World} {F0 ds : List Nat} {Γ : List Sp} {j : Nat} {o : Oper} {s : Sp}
    (h : ∀ (us : Nat → Value) (w : World) (Fe : Nat → List Nat), Chg F0 w0 w → Used Γ us w Fe s.use → (∀ i j, i ∈ s.use → j ∈ s.use → i ≠ j → ∀ k ∈ Fe i, k ∉ Fe j) → Seen Γ us s.see →
      ∀ K : Act → World → Prop, (∀ a' v w' F, a' = (frame a0 ds us).put o.dst v → s.V (if o.dst = some s.sub then v else us s.sub) → Chg (s.eat.flatMap Fe) w w' → s.A (if o.dst = some s.sub then v else us s.sub) w' F → (∀ k ∈ F, k ∈ s.eat.flatMap Fe ∨ (w.heap.size ≤ k ∧ k < w'.heap.size)) → (s.quiet = true → w' = w) → K a' w') →
        wpo ro P all o (frame a0 ds us) w K) : Ob ro all P a0 w0 F0 ds Γ j o s :=
  fun us w Fe hG hu hd hv _ => h us w Fe hG (used_of _ hu) hd (seen_of _ hv) _ fun _ v _ F h0 hv h1 h2 h3 h4 => ⟨v, F, h0, hv, h1, h2, h3, h4⟩
/-- A value, and nothing of memory; the world stands. -/
def pq (s : Nat) (u : List Nat) (v : Value) : Sp := { sub := s, use := u, eat := [], A := fun x _ F => x = v ∧ F = [], quiet := true, st := fun _ _ _ _ h _ _ => h }
theorem wanted_free {o : Oper} {y : Nat → Option Bool} (h : o.guard = none) : Region.wanted o y = true := by simp [Region.wanted, h]
theorem wanted_by {o : Oper} {ops : Array Oper} {tmps : Array Value} {g d : Nat} {b : Bool} (h : o.guard = some (g, b)) (hd : (ops[g]?).bind (·.dst) = some d) (hv : tmps[d]? = some (.bool b)) : Region.wanted o (yielded ops tmps) = true := by
  simp [Region.wanted, h, yielded, hd, hv]
/-- All memory, held from the beginning. -/
def every (s n : Nat) : Sp := { sub := s, use := [], eat := [], A := fun _ _ F => F = List.range n, st := fun _ _ _ _ h _ _ => h }
/-- An operation that takes all memory over, and leaves J of it. -/
def gives (s : Nat) (u e : List Nat) (v : Value) (J : World → Prop) : Sp :=
  { sub := s, use := u, eat := e, A := fun x w F => x = v ∧ (∃ w1, J w1 ∧ w1.heap.size ≤ w.heap.size ∧ F = List.range w1.heap.size ∧ ∀ k, k < w1.heap.size → w.heap[k]? = w1.heap[k]?),
    st := by
      rintro x w w' F ⟨rfl, w1, hj, hs, rfl, hb⟩ hk hz
      exact ⟨rfl, w1, hj, Nat.le_trans hs hz, rfl, fun k h => (hk k (by simpa using h)).trans (hb k h)⟩ }
/-- A block that was there, at N: its cells. -/
def at_ (s : Nat) (u e : List Nat) (N : Nat) (t : TypeId) (cs : Array Value) : Sp :=
  { sub := s, use := u, eat := e, A := fun _ w F => w.heap[N]? = some (.cells cs t (0, 0)) ∧ F = [N],
    st := by rintro v w w' F ⟨h, rfl⟩ hk _; exact ⟨by rw [hk N (by simp)]; exact h, rfl⟩ }
def two (n N M : Nat) : Nat → List Nat := fun i => if i = n then [N] else if i = n + 1 then [M] else []
end Go.Proofs.YtodkbfbbpfghiaaGreat.SLF
namespace Go.Proofs.YtodkbfbbpfghiaaGreat.SLG
open Go Go.RowKit Go.Proofs.YtodkbfbbpfghiaaGreat.SL Go.Proofs.YtodkbfbbpfghiaaGreat
section
variable (ro : Option Nat) (all : List Oper) (P : Program) (fr : (Nat → Value) → Act) (w0 : World) (F0 : List Nat)

/-- What one operation owes. -/
def Ob (Γ : List Sp) (o : Oper) (s : Sp) : Prop :=
  ∀ (us : Nat → Value) (w : World) (Fe : Nat → List Nat), Chg F0 w0 w → Used Γ us w Fe s.use → (∀ i j, i ∈ s.use → j ∈ s.use → i ≠ j → ∀ k ∈ Fe i, k ∉ Fe j) → Seen Γ us s.see →
    ∀ K : Act → World → Prop, (∀ v w' F, s.V (if o.dst = some s.sub then v else us s.sub) → Chg (s.eat.flatMap Fe) w w' → s.A (if o.dst = some s.sub then v else us s.sub) w' F → (∀ k ∈ F, k ∈ s.eat.flatMap Fe ∨ (w.heap.size ≤ k ∧ k < w'.heap.size)) → (s.quiet = true → w' = w) → K ((fr us).put o.dst v) w') →
      SLF.wpo ro P all o (fr us) w K
def Obs (Γ : List Sp) : List Oper → List Sp → Prop
  | o :: os, s :: ss => Ob ro all P fr w0 F0 Γ o s ∧ Obs Γ os ss
  | _, _ => True
end
theorem obs_of {ro : Option Nat} {all : List Oper} {P : Program} {a0 : Act} {w0 : World} {F0 ds : List Nat} {Γ : List Sp} : ∀ (os : List Oper) (ss : List Sp) (j : Nat), Obs ro all P (frame a0 ds) w0 F0 Γ os ss → SLF.Obs ro all P a0 w0 F0 ds Γ j os ss
  | [], [], _, _ => trivial
  | [], _ :: _, _, _ => trivial
  | _ :: _, [], _, _ => trivial
  | o :: os, s :: ss, j, h => ⟨SLF.ob fun us w Fe h1 h2 h3 h4 K hK => h.1 us w Fe h1 h2 h3 h4 K fun v w' F => hK _ v w' F rfl, obs_of os ss (j + 1) h.2⟩
theorem rule {P : Program} {ro : Option Nat} (hm : P.follows .mixedOrders = true) {id : Nat} {ops : List Oper} {a0 : Act} {w : World} {Q : Exit → Act → World → Prop} (F0 ds : List Nat) (Γ : List Sp) (keep : List Nat)
    (hck : SLF.check ops Γ ds = true) (hkeep : keepOk ops.length Γ keep = true) (Fs0 : Nat → List Nat)
    (hin : ∀ i x, ops.length ≤ i → Γ[i]? = some x → x.A (a0.tmps.getD x.sub undef) w.drew (Fs0 i) ∧ ∀ k ∈ Fs0 i, k ∈ F0 ∧ k < w.heap.size)
    (hdj : ∀ i j, i ≠ j → ops.length ≤ i → ops.length ≤ j → ∀ k ∈ Fs0 i, k ∉ Fs0 j)
    {fr : (Nat → Value) → Act} (hfr : ∀ us, frame a0 ds us = fr us)
    (hob : Obs ro ops P fr w.drew F0 Γ ops Γ)
    (hend : ∀ (us : Nat → Value) (w' : World) (Fs : Nat → List Nat), Chg F0 w.drew w' → Used Γ us w' Fs keep →
      (∀ i ∈ keep, ∀ k ∈ Fs i, (k ∈ F0 ∨ w.heap.size ≤ k) ∧ k < w'.heap.size) → (∀ i j, i ∈ keep → j ∈ keep → i ≠ j → ∀ k ∈ Fs i, k ∉ Fs j) →
      Q .normal (fr us) w') :
    (Code.region id ops.toArray true).wpIn { Fence.wide with round := ro } 0 P Q a0 w := by
  obtain rfl : frame a0 ds = fr := funext hfr
  exact SLF.rule hm F0 ds Γ keep hck hkeep Fs0 hin hdj (obs_of _ _ _ hob) hend
/-- The same outside a round. -/
theorem rule0 {P : Program} (hm : P.follows .mixedOrders = true) {id : Nat} {ops : List Oper} {a0 : Act} {w : World} {Q : Exit → Act → World → Prop} (F0 ds : List Nat) (Γ : List Sp) (keep : List Nat)
    (hck : SLF.check ops Γ ds = true) (hkeep : keepOk ops.length Γ keep = true) (Fs0 : Nat → List Nat)
    (hin : ∀ i x, ops.length ≤ i → Γ[i]? = some x → x.A (a0.tmps.getD x.sub undef) w.drew (Fs0 i) ∧ ∀ k ∈ Fs0 i, k ∈ F0 ∧ k < w.heap.size)
    (hdj : ∀ i j, i ≠ j → ops.length ≤ i → ops.length ≤ j → ∀ k ∈ Fs0 i, k ∉ Fs0 j)
    {fr : (Nat → Value) → Act} (hfr : ∀ us, frame a0 ds us = fr us)
    (hob : Obs none ops P fr w.drew F0 Γ ops Γ)
    (hend : ∀ (us : Nat → Value) (w' : World) (Fs : Nat → List Nat), Chg F0 w.drew w' → Used Γ us w' Fs keep →
      (∀ i ∈ keep, ∀ k ∈ Fs i, (k ∈ F0 ∨ w.heap.size ≤ k) ∧ k < w'.heap.size) → (∀ i j, i ∈ keep → j ∈ keep → i ≠ j → ∀ k ∈ Fs i, k ∉ Fs j) →
      Q .normal (fr us) w') :
    (Code.region id ops.toArray true).wp P Q a0 w := (wpIn_wide (n := 0)).1 (rule (ro := none) hm F0 ds Γ keep hck hkeep Fs0 hin hdj hfr hob hend)
theorem wanted_not {o : Oper} {ops : Array Oper} {tmps : Array Value} {g d : Nat} {b : Bool} {v : Value} (h : o.guard = some (g, b)) (hd : (ops[g]?).bind (·.dst) = some d) (hv : tmps[d]? = some v) (hne : v ≠ .bool b) : Region.wanted o (yielded ops tmps) = false := by
  simp only [Region.wanted, h, yielded, hd, Option.bind_some, hv]
  cases v <;> first | rfl | (rename_i c; simp at hne ⊢; exact hne)
/-- What an operation owes that sets the slot that its word speaks of. -/
theorem ob_sp {ro : Option Nat} {all : List Oper} {P : Program} {fr : (Nat → Value) → Act} {w0 : World} {F0 : List Nat} {Γ : List Sp} {o : Oper} {s : Sp} (hd : o.dst = some s.sub) (hV : s.V = fun _ => True) (hq : s.quiet = false)
    (h : ∀ (us : Nat → Value) (w : World) (Fe : Nat → List Nat), Chg F0 w0 w → Used Γ us w Fe s.use → (∀ i j, i ∈ s.use → j ∈ s.use → i ≠ j → ∀ k ∈ Fe i, k ∉ Fe j) →
      ∀ K : Act → World → Prop, (∀ a' v w' F, a' = (fr us).put o.dst v → Chg (s.eat.flatMap Fe) w w' → s.A v w' F → (∀ k ∈ F, k ∈ s.eat.flatMap Fe ∨ (w.heap.size ≤ k ∧ k < w'.heap.size)) → K a' w') → SLF.wpo ro P all o (fr us) w K) : Ob ro all P fr w0 F0 Γ o s :=
  fun us w Fe h1 h2 h3 _ K hK => h us w Fe h1 h2 h3 K fun a' v w' F e hc hA hF => by
    subst e
    refine hK v w' F (by rw [hV]; trivial) hc ?_ hF (fun h => by rw [hq] at h; cases h)
    rw [if_pos hd]; exact hA
/-- The same of one that sets no slot. -/
theorem ob_no {ro : Option Nat} {all : List Oper} {P : Program} {fr : (Nat → Value) → Act} {w0 : World} {F0 : List Nat} {Γ : List Sp} {o : Oper} {s : Sp} (hd : o.dst = none) (hV : s.V = fun _ => True) (hq : s.quiet = false)
    (h : ∀ (us : Nat → Value) (w : World) (Fe : Nat → List Nat), Chg F0 w0 w → Used Γ us w Fe s.use → (∀ i j, i ∈ s.use → j ∈ s.use → i ≠ j → ∀ k ∈ Fe i, k ∉ Fe j) →
      ∀ K : Act → World → Prop, (∀ w' F, Chg (s.eat.flatMap Fe) w w' → s.A (us s.sub) w' F → (∀ k ∈ F, k ∈ s.eat.flatMap Fe ∨ (w.heap.size ≤ k ∧ k < w'.heap.size)) → K (fr us) w') → SLF.wpo ro P all o (fr us) w K) : Ob ro all P fr w0 F0 Γ o s :=
  fun us w Fe h1 h2 h3 _ K hK => h us w Fe h1 h2 h3 K fun w' F hc hA hF => by
    have := hK undef w' F (by rw [hV]; trivial) hc (by rw [if_neg (by rw [hd]; simp)]; exact hA) hF (fun h => by rw [hq] at h; cases h)
    rw [hd] at this
    exact this
/-- A struct written over, cell by cell. -/
theorem heap_set2 {w : World} {N : Nat} {a0 a1 : Value} {t : TypeId} (h : w.heap[N]? = some (.cells #[a0, a1] t (0, 0))) (b0 b1 : Value) : ((w.setCell ⟨N, 0, none⟩ b0).setCell ⟨N, 1, none⟩ b1).heap[N]? = some (.cells #[b0, b1] t (0, 0)) := by
  have := (SL.heap_set (SL.heap_set h b0 (i := 0)) b1 (i := 1))
  simpa using this
theorem chg_set2 {E : List Nat} (w : World) {N : Nat} (hE : N ∈ E) (b0 b1 : Value) : SL.Chg E w ((w.setCell ⟨N, 0, none⟩ b0).setCell ⟨N, 1, none⟩ b1) := ((SL.Chg.setCell w hE b0).trans (SL.Chg.setCell _ hE b1))
theorem row_set2 {w : World} {base : Nat} {t : TypeId} {size n : Nat} {v : Value} {xs : List Value} (h : w.ownsRow base t size v n xs) {N : Nat} (hn : N ∉ v.ownBlock.toList) (b0 b1 : Value) : ((w.setCell ⟨N, 0, none⟩ b0).setCell ⟨N, 1, none⟩ b1).ownsRow base t size v n xs := (SL.row_set (SL.row_set h hn b0) hn b1)
theorem chg_set4 {E : List Nat} (w : World) {N : Nat} (hE : N ∈ E) (b0 b1 b2 b3 : Value) : SL.Chg E w ((((w.setCell ⟨N, 0, none⟩ b0).setCell ⟨N, 1, none⟩ b1).setCell ⟨N, 2, none⟩ b2).setCell ⟨N, 3, none⟩ b3) := ((((SL.Chg.setCell w hE b0).trans (SL.Chg.setCell _ hE b1)).trans (SL.Chg.setCell _ hE b2)).trans (SL.Chg.setCell _ hE b3))
theorem heap_set8 {w : World} {N : Nat} {a0 a1 a2 a3 a4 a5 a6 a7 : Value} {t : TypeId} (h : w.heap[N]? = some (.cells #[a0, a1, a2, a3, a4, a5, a6, a7] t (0, 0))) (b0 b1 b2 b3 b4 b5 b6 b7 : Value) : ((((((((w.setCell ⟨N, 0, none⟩ b0).setCell ⟨N, 1, none⟩ b1).setCell ⟨N, 2, none⟩ b2).setCell ⟨N, 3, none⟩ b3).setCell ⟨N, 4, none⟩ b4).setCell ⟨N, 5, none⟩ b5).setCell ⟨N, 6, none⟩ b6).setCell ⟨N, 7, none⟩ b7).heap[N]? = some (.cells #[b0, b1, b2, b3, b4, b5, b6, b7] t (0, 0)) := by
  have := (SL.heap_set (SL.heap_set (SL.heap_set (SL.heap_set (SL.heap_set (SL.heap_set (SL.heap_set (SL.heap_set h b0 (i := 0)) b1 (i := 1)) b2 (i := 2)) b3 (i := 3)) b4 (i := 4)) b5 (i := 5)) b6 (i := 6)) b7 (i := 7))
  simpa using this
theorem chg_set8 {E : List Nat} (w : World) {N : Nat} (hE : N ∈ E) (b0 b1 b2 b3 b4 b5 b6 b7 : Value) : SL.Chg E w ((((((((w.setCell ⟨N, 0, none⟩ b0).setCell ⟨N, 1, none⟩ b1).setCell ⟨N, 2, none⟩ b2).setCell ⟨N, 3, none⟩ b3).setCell ⟨N, 4, none⟩ b4).setCell ⟨N, 5, none⟩ b5).setCell ⟨N, 6, none⟩ b6).setCell ⟨N, 7, none⟩ b7) := ((((((((SL.Chg.setCell w hE b0).trans (SL.Chg.setCell _ hE b1)).trans (SL.Chg.setCell _ hE b2)).trans (SL.Chg.setCell _ hE b3)).trans (SL.Chg.setCell _ hE b4)).trans (SL.Chg.setCell _ hE b5)).trans (SL.Chg.setCell _ hE b6)).trans (SL.Chg.setCell _ hE b7))
theorem row_set8 {w : World} {base : Nat} {t : TypeId} {size n : Nat} {v : Value} {xs : List Value} (h : w.ownsRow base t size v n xs) {N : Nat} (hn : N ∉ v.ownBlock.toList) (b0 b1 b2 b3 b4 b5 b6 b7 : Value) : ((((((((w.setCell ⟨N, 0, none⟩ b0).setCell ⟨N, 1, none⟩ b1).setCell ⟨N, 2, none⟩ b2).setCell ⟨N, 3, none⟩ b3).setCell ⟨N, 4, none⟩ b4).setCell ⟨N, 5, none⟩ b5).setCell ⟨N, 6, none⟩ b6).setCell ⟨N, 7, none⟩ b7).ownsRow base t size v n xs := (SL.row_set (SL.row_set (SL.row_set (SL.row_set (SL.row_set (SL.row_set (SL.row_set (SL.row_set h hn b0) hn b1) hn b2) hn b3) hn b4) hn b5) hn b6) hn b7)
end Go.Proofs.YtodkbfbbpfghiaaGreat.SLG
namespace Go.Proofs.YtodkbfbbpfghiaaGreat
open Go
/-- A part: where its lists lie, and what they hold. -/
structure Pt where
  sa : Option Addr
  sc : Nat
  sh : List Int
  lo : Int
  hi : Int
  lob : Int
  hib : Int
  ft : Bool
  fby : Int
  ra : Option Addr
  rc : Nat
  re : List Int
instance : Inhabited Pt := ⟨⟨none, 0, [], 0, 0, 0, 0, false, 0, none, 0, []⟩⟩
def Pt.n (p : Pt) : Pn := ⟨p.lo, p.hi, p.ft⟩
def pns (ps : List Pt) : List Pn := ps.map Pt.n
theorem pns_len (ps : List Pt) : (pns ps).length = ps.length := by simp [pns]
theorem pns_get (ps : List Pt) {i : Nat} (h : i < ps.length) : (pns ps).getD i default = (ps.getD i default).n := by
  simp [pns, List.getD_eq_getElem?_getD, h]

/-- Strictly ascending, in a range. -/
def risB (lo hi : Int) : List Int → Bool
  | [] => true
  | x :: l => decide (lo ≤ x) && decide (x ≤ hi) && risB (x + 1) hi l
theorem risB_iff {lo hi : Int} : ∀ {l : List Int}, risB lo hi l = true ↔ Asc l ∧ ∀ x ∈ l, lo ≤ x ∧ x ≤ hi
  | [] => by simp [risB, Asc]
  | x :: l => by
    have ih := risB_iff (lo := x + 1) (hi := hi) (l := l)
    unfold risB
    simp only [Bool.and_eq_true, decide_eq_true_eq]
    rw [ih]
    unfold Asc
    rw [List.pairwise_cons]
    constructor
    · rintro ⟨⟨h1, h2⟩, h3, h4⟩
      refine ⟨⟨fun y hy => by have := h4 y hy; omega, h3⟩, fun y hy => ?_⟩
      rcases List.mem_cons.1 hy with rfl | hy
      · exact ⟨h1, h2⟩
      · have := h4 y hy; omega
    · rintro ⟨⟨h1, h2⟩, h3⟩
      refine ⟨h3 x (by simp), h2, fun y hy => ?_⟩
      have := h1 y hy
      have := h3 y (by simp [hy])
      omega
def toldB (id : Int) (no : Bool) : Bool := decide (0 ≤ id) && decide (id ≤ 1000000) && (decide (id = 0) || !no)
/-- A part is as said. -/
def ptB (p : Pt) : Bool := decide (1 ≤ p.sh.length) && decide (p.sh.length ≤ 40) && risB 1 1000000 p.sh && decide (0 ≤ p.lo) && decide (p.lo ≤ p.hi) && decide (p.hi ≤ 1000) &&
  decide (p.re.length ≤ 200) && risB 1 1000000 p.re && toldB p.lob (decide (p.lo = 0)) && toldB p.hib (decide (p.hi = 1000)) && toldB p.fby (!p.ft)
def chrB (c : UInt8) : Bool := (decide (97 ≤ c.toNat) && decide (c.toNat ≤ 122)) || (decide (48 ≤ c.toNat) && decide (c.toNat ≤ 57)) || decide (c.toNat = 45)
def nameB (s : List UInt8) : Bool := match s with
  | [] => false
  | c :: l => decide ((c :: l).length ≤ 24) && (decide (97 ≤ c.toNat) && decide (c.toNat ≤ 122)) && (c :: l).all chrB
/-- No sherd is in two parts. -/
def disB : List Pt → Bool
  | [] => true
  | p :: l => l.all (fun q => p.sh.all fun x => !q.sh.contains x) && disB l
def headB (ware : List UInt8) (lim by_ : Int) : Bool := nameB ware && (decide (0 ≤ lim) && decide (lim ≤ 40)) && toldB by_ (decide (lim = 0))
/-- What is wrong with a case. -/
def cchk (ware : List UInt8) (lim by_ : Int) (ps : List Pt) : Int :=
  if 40 < ps.length then 2 else if headB ware lim by_ && ps.all ptB && disB ps then 0 else 1
structure CaseOk (ware : List UInt8) (lim by_ : Int) (ps : List Pt) : Prop where
  many : ps.length ≤ 40
  head : headB ware lim by_ = true
  each : ∀ p ∈ ps, ptB p = true
  dis : disB ps = true
theorem cchk_zero {ware : List UInt8} {lim by_ : Int} {ps : List Pt} : cchk ware lim by_ ps = 0 ↔ CaseOk ware lim by_ ps := by
  unfold cchk
  constructor
  · intro h
    split at h
    · cases h
    · split at h
      · rename_i h1 h2
        simp only [Bool.and_eq_true, List.all_eq_true] at h2
        exact ⟨by omega, h2.1.1, h2.1.2, h2.2⟩
      · cases h
  · rintro ⟨h1, h2, h3, h4⟩
    rw [if_neg (by omega), if_pos]
    simp only [Bool.and_eq_true, List.all_eq_true]
    exact ⟨⟨h2, h3⟩, h4⟩
theorem ptB_span {p : Pt} (h : ptB p = true) : 0 ≤ p.lo ∧ p.lo ≤ p.hi ∧ p.hi ≤ 1000 := by
  unfold ptB at h
  simp only [Bool.and_eq_true, decide_eq_true_eq] at h
  exact ⟨h.1.1.1.1.1.1.1.2, h.1.1.1.1.1.1.2, h.1.1.1.1.1.2⟩
theorem CaseOk.oks {ware : List UInt8} {lim by_ : Int} {ps : List Pt} (h : CaseOk ware lim by_ ps) : OkS (pns ps) := fun p hp => by
  obtain ⟨q, hq, rfl⟩ := List.mem_map.1 hp
  exact ptB_span (h.each q hq)
theorem CaseOk.lim {ware : List UInt8} {lim by_ : Int} {ps : List Pt} (h : CaseOk ware lim by_ ps) : 0 ≤ lim ∧ lim ≤ 40 := by
  have := h.head
  unfold headB at this
  simp only [Bool.and_eq_true, decide_eq_true_eq] at this
  exact this.1.2
theorem ptB_small {p : Pt} (h : ptB p = true) : p.sh.length ≤ 40 ∧ p.re.length ≤ 200 ∧ Asc p.sh ∧ Asc p.re := by
  unfold ptB at h
  simp only [Bool.and_eq_true, decide_eq_true_eq] at h
  exact ⟨h.1.1.1.1.1.1.1.1.1.2, h.1.1.1.1.2, (risB_iff.1 h.1.1.1.1.1.1.1.1.2).1, (risB_iff.1 h.1.1.1.2).1⟩
/-- The error of a case and some parts. -/
def askE (ware : List UInt8) (lim by_ : Int) (ps : List Pt) (l : List Int) : Int :=
  if cchk ware lim by_ ps = 0 then (if l.all (fun x => decide (0 ≤ x) && decide (x < ps.length)) then 0 else 1) else cchk ware lim by_ ps
def two2E (ware : List UInt8) (lim by_ : Int) (ps : List Pt) (a b : Int) : Int :=
  if askE ware lim by_ ps [a, b] = 0 ∧ a = b then 1 else askE ware lim by_ ps [a, b]
theorem askE_zero {ware : List UInt8} {lim by_ : Int} {ps : List Pt} {l : List Int} (h : askE ware lim by_ ps l = 0) : CaseOk ware lim by_ ps ∧ ∀ x ∈ l, 0 ≤ x ∧ x < ps.length := by
  unfold askE at h
  split at h
  · rename_i h0
    split at h
    · rename_i h1
      refine ⟨cchk_zero.1 h0, fun x hx => ?_⟩
      simpa using List.all_eq_true.1 h1 x hx
    · cases h
  · rename_i h0; exact absurd h h0
end Go.Proofs.YtodkbfbbpfghiaaGreat
namespace Go.Proofs.YtodkbfbbpfghiaaGreat
open Go.RowKit
theorem SL.Chg.cellsW {E : List Nat} {w w' : World} (h : SL.Chg E w w') : (∀ b o, b < w.heap.size → b ∉ E → w'.cell? ⟨b, o, none⟩ = w.cell? ⟨b, o, none⟩) ∧ (∀ b o, b < w.heap.size → b ∉ E → w'.frozen? ⟨b, o, none⟩ = w.frozen? ⟨b, o, none⟩) :=
  ⟨fun b o hb he => by have := h.block b hb he; simp [World.cell?, this], fun b o hb he => by have := h.block b hb he; simp [World.frozen?, this]⟩
theorem SL.Chg.belowW {E : List Nat} {w w' : World} {B : Nat} (h : SL.Chg E w w') (hB : B ≤ w.heap.size) (hE : ∀ k ∈ E, B ≤ k) : Below B w w' :=
  ⟨h.os, h.tape, h.output, h.size, fun k hk => h.block k (Nat.lt_of_lt_of_le hk hB) (fun hm => by have := hE k hm; omega)⟩
theorem SL.Chg.monoW {E F : List Nat} {w w' : World} (h : SL.Chg E w w') (hE : ∀ k ∈ E, k ∈ F) : SL.Chg F w w' := ⟨h.os, h.tape, h.output, h.size, fun k hk hn => h.block k hk (fun hm => hn (hE k hm))⟩
theorem _root_.Go.RowKit.Below.ch2 {B : Nat} {a b c : World} (h : Below B a b) (h2 : Below b.heap.size b c) (hB : B ≤ a.heap.size := by first | exact Nat.le_refl _ | omega) : Below B a c := h.trans (h2.mono (Nat.le_trans hB h.size))
theorem one_alloc (w : World) (o : Obj) : Below w.heap.size w (w.alloc o) := (Below.refl _ _).alloc (Nat.le_refl _) _
/-- A block that was there, and what its cells hold. -/
def SL.blk (u e : List Nat) (N : Nat) (t : TypeId) (cs : Array Value) : SL.Sp :=
  { sub := 0, use := u, eat := e, A := fun _ w F => w.heap[N]? = some (.cells cs t (0, 0)) ∧ F = [N],
    st := by rintro v w w' F ⟨h, rfl⟩ hk _; exact ⟨by rw [hk N (by simp)]; exact h, rfl⟩ }
end Go.Proofs.YtodkbfbbpfghiaaGreat

/-
  Lemmas and walks for the laws on roads and boards: what each function of the program answers, for every input.
-/
import Derived.Test.YtelkcohhagblaaaGreatSc02
import Derived.OrdersIn
import Derived.RangeFuncNested
import Derived.RangeFuncBound
import Derived.RangeFuncCalls
import Derived.RangeFuncLeaves
import Derived.OwnWalkIn
import Derived.TacticsInMore
import Derived.LoopNIn
import Derived.LoopIn
import Derived.Laws.Externs
import Derived.Shelf.Abstract
set_option linter.unusedSimpArgs false
set_option linter.unusedVariables false
set_option linter.unnecessarySimpa false
namespace Go.Proofs.YtelkcohhagblaaaGreat.SLF
open Go Go.RowKit Go.Proofs.YtelkcohhagblaaaGreat.SL
def noDef (ops : List Oper) : Bool := ops.all fun o => match o.op with | .defer _ => false | _ => true
theorem noDef_of {ops : List Oper} (h : noDef ops = true) : ∀ o ∈ ops, ∀ c, o.op ≠ .defer c := by
 intro o ho c e
 have := List.all_eq_true.1 h o ho
 rw [e] at this
 cases this

/-- One operation: carried out, or passed over by its guard. -/
def wpo (ro : Option Nat) (P : Program) (ops : List Oper) (o : Oper) (a : Act) (w : World) (K : Act → World → Prop) : Prop :=
 if Region.wanted o (yielded ops.toArray a.tmps) = true then o.wpIn { Fence.wide with round := ro } 0 P a w K (fun _ _ _ => False) else K (a.put o.dst undef) w
theorem wpIn_weak {F : Fence} {n : Nat} {P : Program} {o : Oper} {a : Act} {w : World} {K K' : Act → World → Prop} {Q : Exit → Act → World → Prop} (h : ∀ a w, K a w → K' a w) (hh : o.wpIn F n P a w K (fun _ _ _ => False)) : o.wpIn F n P a w K' Q := by
 unfold Oper.wpIn at *
 refine ⟨hh.1, ?_⟩
 have hh := hh.2
 generalize (o.semAt F.round a.eval).run P w = r at *
 cases r with
 | ok x w' =>
   cases x <;> simp only [Oper.uponIn] at hh ⊢ <;>
    first
     | exact h _ _ hh
     | exact ⟨hh.1, CallsIn.mono hh.2 (fun e w'' he => by cases e <;> first | exact h _ _ he | exact he.elim | (obtain ⟨_, _, hf⟩ := he; exact hf.elim))⟩
     | exact ⟨hh.1, RowsIn.mono hh.2 (fun _ _ he => h _ _ he)⟩
     | exact ⟨hh.1, RoundIn.mono hh.2 (fun e w'' he => by cases e <;> first | exact h _ _ he | exact he.elim | (obtain ⟨_, _, hf⟩ := he; exact hf.elim))⟩
 | halt x w' => cases x <;> simp only [Oper.uponIn] at hh ⊢
theorem wpo_mono {ro : Option Nat} {P : Program} {ops : List Oper} {o : Oper} {a : Act} {w : World} {K K' : Act → World → Prop} (h : ∀ a w, K a w → K' a w) (hh : wpo ro P ops o a w K) : wpo ro P ops o a w K' := by
 unfold wpo at *
 split
 ·rename_i hw; rw [if_pos hw] at hh; exact wpIn_weak h hh
 ·rename_i hw; rw [if_neg hw] at hh; exact h _ _ hh
theorem wpo_out {ro : Option Nat} {P : Program} {ops : List Oper} {o : Oper} {a : Act} {w : World} {K K' : Act → World → Prop} {Q : Exit → Act → World → Prop} (h : ∀ a w, K a w → K' a w) (hh : wpo ro P ops o a w K) :
 if Region.wanted o (yielded ops.toArray a.tmps) = true then o.wpIn { Fence.wide with round := ro } 0 P a w K' Q else (∀ f, o.about P w a.eval = some f → ({ Fence.wide with round := ro } : Fence).fn f) ∧ K' (a.put o.dst undef) w := by
 unfold wpo at *
 split
 ·rename_i hw; rw [if_pos hw] at hh; exact wpIn_weak h hh
 ·rename_i hw; rw [if_neg hw] at hh; exact ⟨fun _ _ => trivial, h _ _ hh⟩
theorem wpIn_of_wp {ro : Option Nat} {P : Program} {o : Oper} {a : Act} {w : World} {K : Act → World → Prop} {Q : Exit → Act → World → Prop} (hnd : ∀ c, o.op ≠ .defer c) (h : o.wp P a w K (fun _ _ _ => False)) :
 o.wpIn { Fence.wide with round := ro } 0 P a w K Q := by
 refine ⟨fun _ _ => trivial, ?_⟩
 rw [Oper.semAt_plain _ _ _ hnd]
 unfold Oper.wp at h
 generalize (execOp a.eval o).run P w = r at *
 cases r with
 | ok n w' =>
   cases n <;> simp only [Oper.upon, Oper.uponIn] at h ⊢ <;> first | exact h | skip
   ·refine ⟨fun h => by simp [Fence.wide] at h, ?_⟩
    have h2 : CallsIn { Fence.wide with round := ro } (0 - 1) P _ _ _ _ := match ro with
     | none => callsIn_wide.2 h
     | some l => CallsIn.inRound l (callsIn_wide.2 h)
    refine h2.mono fun e w'' he => ?_
    cases e with
    | returned v => exact he
    | panicked c => exact he.elim
    | outgrown => obtain ⟨_, _, hf⟩ := he; exact hf.elim
   ·refine ⟨fun h => by simp [Fence.wide] at h, fun c cs _ => ?_⟩
    obtain ⟨v, w', r, s⟩ := h c cs
    exact ⟨v, w', r, stepsIn_wide.2 s⟩
 | halt x w' => cases x <;> simp only [Oper.upon, Oper.uponIn] at h ⊢
/-- An operation whose guard lets it pass. -/
theorem wpo_do {ro : Option Nat} {P : Program} {ops : List Oper} {o : Oper} {a : Act} {w : World} {K : Act → World → Prop} (hw : Region.wanted o (yielded ops.toArray a.tmps) = true) (hnd : ∀ c, o.op ≠ .defer c)
 (h : o.wp P a w K (fun _ _ _ => False)) : wpo ro P ops o a w K := by
 unfold wpo
 rw [if_pos hw]
 exact wpIn_of_wp hnd h
theorem wpo_not {ro : Option Nat} {P : Program} {ops : List Oper} {o : Oper} {a : Act} {w : World} {K : Act → World → Prop} (hw : Region.wanted o (yielded ops.toArray a.tmps) = false) (h : K (a.put o.dst undef) w) : wpo ro P ops o a w K := by
 unfold wpo
 rw [if_neg (by rw [hw]; simp)]
 exact h

/-- All that may come ahead of j is quiet. -/
def calm (ops : List Oper) (Γ : List Sp) (j : Nat) : Bool := (List.range ops.length).all fun k => k == j || (Γ.getD k (pu 0 [] undef)).quiet || ((anc ops).getD k []).contains j
section
variable (ro : Option Nat) (all : List Oper) (P : Program) (a0 : Act) (w0 : World) (F0 : List Nat) (ds : List Nat)

/-- What one operation owes. -/
def Ob (Γ : List Sp) (j : Nat) (o : Oper) (s : Sp) : Prop :=
 ∀ (us : Nat → Value) (w : World) (Fe : Nat → List Nat), Chg F0 w0 w → (∀ i x, i ∈ s.use → Γ[i]? = some x → x.A (us x.sub) w (Fe i)) → (∀ i j, i ∈ s.use → j ∈ s.use → i ≠ j → ∀ k ∈ Fe i, k ∉ Fe j) → (∀ i x, i ∈ s.see → Γ[i]? = some x → x.V (us x.sub)) → (calm all Γ j = true → w = w0) →
   wpo ro P all o (frame a0 ds us) w (fun a' w' => ∃ v F, a' = (frame a0 ds us).put o.dst v ∧ s.V (if o.dst = some s.sub then v else us s.sub) ∧ Chg (s.eat.flatMap Fe) w w' ∧
    s.A (if o.dst = some s.sub then v else us s.sub) w' F ∧ (∀ k ∈ F, k ∈ s.eat.flatMap Fe ∨ (w.heap.size ≤ k ∧ k < w'.heap.size)) ∧ (s.quiet = true → w' = w))
def Obs (Γ : List Sp) : Nat → List Oper → List Sp → Prop
 | j, o :: os, s :: ss => Ob ro all P a0 w0 F0 ds Γ j o s ∧ Obs Γ (j + 1) os ss
 | _, _, _ => True
end

/-- The check: n operations; Γ has their words first, then those that hold from the beginning. -/
def check (ops : List Oper) (Γ : List Sp) (ds : List Nat) : Bool :=
 let n := ops.length
 let an := anc ops
 let A := fun j => an.getD j []
 (ops.all fun o => (match o.op with | .defer _ => false | _ => true) && (match o.dst with | some d => ds.contains d | none => true)) && decide (n ≤ Γ.length) && (an.length == n) &&
 ((List.range n).all fun j => ((ops.getD j default).after.toList.all fun e => !Region.binds .any e || decide (e.on < j))) &&
 ((List.range n).all fun j => ((A j).all fun i => (ops.getD j default).after.toList.any fun e => Region.binds .any e && (e.on == i || (A e.on).contains i))) &&
 (List.range n).all fun j =>
  let s := Γ.getD j (pu 0 [] undef)
  (s.eat.all s.use.contains) && (s.use.all fun i => (decide (n ≤ i) || (A j).contains i) && i != j && decide (i < Γ.length)) &&
  (s.see.all fun i => (A j).contains i && decide ((ops.getD i default).dst = some (Γ.getD i (pu 0 [] undef)).sub)) &&
  ((List.range n).all fun i => i == j || match (ops.getD i default).dst, (ops.getD j default).dst with | some d, some d' => d != d' | _, _ => true) &&
  (s.use.all fun i => (List.range n).all fun k => k == j || !((Γ.getD k (pu 0 [] undef)).eat.contains i) || (A k).contains j) &&
  (match (ops.getD j default).dst with
   | some d => (List.range Γ.length).all fun i => i == j || (Γ.getD i (pu 0 [] undef)).sub != d || (List.range n).any (fun k => (Γ.getD k (pu 0 [] undef)).eat.contains i && (k == j || (A j).contains k)) || (A i).contains j
   | none => true)
section
variable {ro : Option Nat} {all : List Oper} {P : Program} {a0 : Act} {w0 : World} {F0 : List Nat} {ds : List Nat} {Γ : List Sp} {ops : List Oper}
theorem Obs_get : ∀ (os : List Oper) (ss : List Sp) (i j : Nat) (o : Oper) (s : Sp), Obs ro all P a0 w0 F0 ds Γ i os ss → os[j]? = some o → ss[j]? = some s → Ob ro all P a0 w0 F0 ds Γ (i + j) o s
 | [], _, _, _, _, _, _, h, _ => by simp at h
 | _ :: _, [], _, _, _, _, _, _, h => by simp at h
 | o :: os, s :: ss, i, 0, _, _, h, ho, hs => by
   simp at ho hs
   subst ho; subst hs
   exact h.1
 | o :: os, s :: ss, i, j + 1, o', s', h, ho, hs => by
   have := Obs_get os ss (i + 1) j o' s' h.2 (by simpa using ho) (by simpa using hs)
   rwa [show i + (j + 1) = i + 1 + j by omega]

/-- What holds when the operations in D have been carried out. -/
structure Inv (a0 : Act) (w0 : World) (F0 ds : List Nat) (Γ : List Sp) (ops : List Oper) (D : Nat → Bool) (a : Act) (w : World) : Prop where
 body : ∃ (us : Nat → Value) (Fs : Nat → List Nat), a = frame a0 ds us ∧ Chg F0 w0 w ∧
  (∀ i x, Γ[i]? = some x → (i < ops.length → D i = true) → (∀ k y, k < ops.length → D k = true → Γ[k]? = some y → i ∉ y.eat) → x.A (us x.sub) w (Fs i) ∧ ∀ k ∈ Fs i, (k ∈ F0 ∨ w0.heap.size ≤ k) ∧ k < w.heap.size) ∧
  (∀ i j x y, i ≠ j → Γ[i]? = some x → Γ[j]? = some y → (i < ops.length → D i = true) → (j < ops.length → D j = true) →
   (∀ k z, k < ops.length → D k = true → Γ[k]? = some z → i ∉ z.eat) → (∀ k z, k < ops.length → D k = true → Γ[k]? = some z → j ∉ z.eat) → ∀ k ∈ Fs i, k ∉ Fs j) ∧
  (∀ i o x, ops[i]? = some o → Γ[i]? = some x → D i = true → o.dst = some x.sub → x.V (us x.sub))
 closed : ∀ j i, D j = true → i ∈ (anc ops).getD j [] → D i = true
 still : (∀ k x, k < ops.length → D k = true → Γ[k]? = some x → x.quiet = true) → w = w0
structure Chk (ops : List Oper) (Γ : List Sp) (ds : List Nat) : Prop where
 nodef : ∀ o ∈ ops, ∀ c, o.op ≠ .defer c
 dst : ∀ o ∈ ops, ∀ d, o.dst = some d → d ∈ ds
 len : ops.length ≤ Γ.length
 ancLen : (SL.anc ops).length = ops.length
 low : ∀ j o, ops[j]? = some o → ∀ e ∈ o.after, Region.binds .any e = true → e.on < j
 anc : ∀ j o, ops[j]? = some o → ∀ i ∈ (anc ops).getD j [], ∃ e ∈ o.after, Region.binds .any e = true ∧ (e.on = i ∨ i ∈ (SL.anc ops).getD e.on [])
 eatUse : ∀ j s, j < ops.length → Γ[j]? = some s → ∀ i ∈ s.eat, i ∈ s.use
 use : ∀ j s, j < ops.length → Γ[j]? = some s → ∀ i ∈ s.use, (ops.length ≤ i ∨ i ∈ (SL.anc ops).getD j []) ∧ i ≠ j ∧ i < Γ.length
 see : ∀ j s, j < ops.length → Γ[j]? = some s → ∀ i ∈ s.see, i ∈ (SL.anc ops).getD j [] ∧ ∀ o x, ops[i]? = some o → Γ[i]? = some x → o.dst = some x.sub
 single : ∀ (i j : Nat) (o o' : Oper) (d : Tmp), ops[i]? = some o → ops[j]? = some o' → i ≠ j → o.dst = some d → o'.dst ≠ some d
 order : ∀ j s, j < ops.length → Γ[j]? = some s → ∀ i ∈ s.use, ∀ k y, k < ops.length → Γ[k]? = some y → k ≠ j → i ∈ y.eat → j ∈ (SL.anc ops).getD k []
 slot : ∀ j o d, ops[j]? = some o → o.dst = some d → ∀ i x, Γ[i]? = some x → i ≠ j → x.sub = d → (∃ k y, k < ops.length ∧ Γ[k]? = some y ∧ i ∈ y.eat ∧ (k = j ∨ k ∈ (SL.anc ops).getD j [])) ∨ j ∈ (SL.anc ops).getD i []
theorem chk_of (h : check ops Γ ds = true) : Chk ops Γ ds := by
 simp only [check, Bool.and_eq_true, List.all_eq_true, List.mem_range, decide_eq_true_eq, Bool.or_eq_true, Bool.not_eq_true', beq_iff_eq, List.contains_iff_mem, bne_iff_ne, ne_eq] at h
 obtain ⟨⟨⟨⟨⟨h1, h2⟩, h2'⟩, h3⟩, h4⟩, h5⟩ := h
 have hop : ∀ j o, ops[j]? = some o → j < ops.length ∧ ops.getD j default = o := fun j o ho => ⟨(List.getElem?_eq_some_iff.1 ho).1, by simp [List.getD_eq_getElem?_getD, ho]⟩
 have hΓ : ∀ j s, Γ[j]? = some s → Γ.getD j (pu 0 [] undef) = s := fun j s hs => by simp [List.getD_eq_getElem?_getD, hs]
 refine ⟨fun o ho c e => (by have h := (h1 o ho).1; rw [e] at h; simp at h), fun o ho d hd => ?_, h2, h2', fun j o ho e he hb => ?_, fun j o ho i hi => ?_, fun j s hj hs i hi => ?_, fun j s hj hs i hi => ?_, fun j s hj hs i hi => ?_, fun i j o o' d hoi hoj hij hdi hdj => ?_, fun j s hj hs i hi k y hk hy hkj hiy => ?_, fun j o d ho hd i x hx hij hsub => ?_⟩
 ·have := (h1 o ho).2
  rw [hd] at this
  simpa using this
 ·obtain ⟨hj, he'⟩ := hop j o ho
  have := h3 j hj e (by rw [he']; simpa using he)
  rcases this with h | h
  ·rw [hb] at h; cases h
  ·exact h
 ·obtain ⟨hj, he'⟩ := hop j o ho
  have := h4 j hj i hi
  rw [he', List.any_eq_true] at this
  obtain ⟨e, he, hb⟩ := this
  simp only [Bool.and_eq_true, Bool.or_eq_true, beq_iff_eq, List.contains_iff_mem] at hb
  exact ⟨e, by simpa using he, hb.1, hb.2⟩
 ·have := (h5 j hj).1.1.1.1.1 i
  rw [hΓ j s hs] at this
  exact this hi
 ·have := (h5 j hj).1.1.1.1.2 i
  rw [hΓ j s hs] at this
  obtain ⟨⟨a, b⟩, c⟩ := this hi
  exact ⟨a, b, c⟩
 ·have := (h5 j hj).1.1.1.2 i
  rw [hΓ j s hs] at this
  obtain ⟨a, b⟩ := this hi
  refine ⟨a, fun o x ho hx => ?_⟩
  rw [(hop i o ho).2, hΓ i x hx] at b
  exact b
 ·have := (h5 j (hop j o' hoj).1).1.1.2 i (hop i o hoi).1
  rcases this with h | h
  ·exact hij h
  ·rw [(hop i o hoi).2, (hop j o' hoj).2, hdi, hdj] at h
   simp at h
 ·have := (h5 j hj).1.2 i
  rw [hΓ j s hs] at this
  have := this hi k hk
  rw [hΓ k y hy] at this
  rcases this with (h | h) | h
  ·exact absurd h hkj
  ·rw [← Bool.not_eq_true, List.contains_iff_mem] at h
   exact absurd hiy h
  ·exact h
 ·obtain ⟨hj, he'⟩ := hop j o ho
  have := (h5 j hj).2
  rw [he', hd] at this
  simp only [List.all_eq_true, List.mem_range, Bool.or_eq_true, beq_iff_eq, bne_iff_ne, ne_eq, List.any_eq_true, Bool.and_eq_true, List.contains_iff_mem] at this
  have := this i (List.getElem?_eq_some_iff.1 hx).1
  rw [hΓ i x hx] at this
  rcases this with ((h | h) | ⟨k, hk, h, h'⟩) | h
  ·exact absurd h hij
  ·exact absurd hsub h
  rotate_left
  ·exact .inr h
  ·left
   have hkl : k < Γ.length := Nat.lt_of_lt_of_le hk h2
   refine ⟨k, Γ[k], hk, List.getElem?_eq_getElem hkl, ?_, h'⟩
   rwa [hΓ k Γ[k] (List.getElem?_eq_getElem hkl)] at h
theorem Obs_get0 {j : Nat} {o : Oper} {s : Sp} (h : Obs ro all P a0 w0 F0 ds Γ 0 ops Γ) (ho : ops[j]? = some o) (hs : Γ[j]? = some s) : Ob ro all P a0 w0 F0 ds Γ j o s := by
 have := Obs_get ops Γ 0 j o s h ho hs
 rwa [Nat.zero_add] at this
theorem anc_lt (hc : Chk ops Γ ds) : ∀ (j i : Nat), i ∈ (anc ops).getD j [] → i < ops.length := by
 intro j
 induction j using Nat.strongRecOn with
 | _ j ih =>
   intro i hi
   rcases Nat.lt_or_ge j ops.length with hj | hj
   ·obtain ⟨e, he, hb, h⟩ := hc.anc j _ (List.getElem?_eq_getElem hj) i hi
    have hl := hc.low j _ (List.getElem?_eq_getElem hj) e he hb
    rcases h with rfl | h
    ·omega
    ·exact ih _ hl i h
   ·simp only [List.getD_eq_getElem?_getD] at hi
    rw [List.getElem?_eq_none (by rw [hc.ancLen]; omega)] at hi
    cases hi
theorem step (hob : Obs ro ops P a0 w0 F0 ds Γ 0 ops Γ) (hc : Chk ops Γ ds) {D : Nat → Bool} {a : Act} {w : World} {j : Nat} {o : Oper} (hI : Inv a0 w0 F0 ds Γ ops D a w)
 (ho : ops[j]? = some o) (hD : D j = false) (hpre : ∀ e ∈ o.after, Region.binds .any e = true → D e.on = true) :
 wpo ro P ops o a w (Inv a0 w0 F0 ds Γ ops (fun i => if i = j then true else D i)) := by
 obtain ⟨⟨us, Fs, rfl, hG, hA, hdis, hV⟩, hcl, hst⟩ := hI
 have hjl : j < ops.length := (List.getElem?_eq_some_iff.1 ho).1
 have hjΓ : j < Γ.length := Nat.lt_of_lt_of_le hjl hc.len
 obtain ⟨s, hs⟩ : ∃ s, Γ[j]? = some s := ⟨_, List.getElem?_eq_getElem hjΓ⟩
 have hancD : ∀ i ∈ (anc ops).getD j [], D i = true := fun i hi => by
  obtain ⟨e, he, hb, h⟩ := hc.anc j o ho i hi
  rcases h with rfl | h
  ·exact hpre e he hb
  ·exact hcl _ _ (hpre e he hb) h
 -- what it uses is there, and nobody has taken it over
 have huse : ∀ i ∈ s.use, (i < ops.length → D i = true) ∧ (∀ k y, k < ops.length → D k = true → Γ[k]? = some y → i ∉ y.eat) := fun i hi => by
  obtain ⟨h1, h2, h3⟩ := hc.use j s hjl hs i hi
  refine ⟨fun hin => ?_, fun k y hk hDk hy hiy => ?_⟩
  ·rcases h1 with h1 | h1
   ·omega
   ·exact hancD i h1
  ·by_cases hkj : k = j
   ·subst hkj; rw [hD] at hDk; cases hDk
   ·have := hcl k j hDk (hc.order j s hjl hs i hi k y hk hy hkj hiy)
    rw [hD] at this; cases this
 have hdu : ∀ i i', i ∈ s.use → i' ∈ s.use → i ≠ i' → ∀ k ∈ Fs i, k ∉ Fs i' := fun i i' hi hi' hii => by
  obtain ⟨x, hx⟩ : ∃ x, Γ[i]? = some x := ⟨_, List.getElem?_eq_getElem (hc.use j s hjl hs i hi).2.2⟩
  obtain ⟨x', hx'⟩ : ∃ x, Γ[i']? = some x := ⟨_, List.getElem?_eq_getElem (hc.use j s hjl hs i' hi').2.2⟩
  exact hdis i i' x x' hii hx hx' (huse i hi).1 (huse i' hi').1 (huse i hi).2 (huse i' hi').2
 have hsee : ∀ i x, i ∈ s.see → Γ[i]? = some x → x.V (us x.sub) := fun i x hi hx => by
  obtain ⟨h1, h2⟩ := hc.see j s hjl hs i hi
  have hil : i < ops.length := by
   obtain ⟨e, he, hb, h'⟩ := hc.anc j o ho i h1
   have hlow := hc.low j o ho e he hb
   rcases h' with rfl | h'
   ·omega
   ·exact anc_lt hc _ _ h'
  have hoi : ops[i]? = some ops[i] := List.getElem?_eq_getElem hil
  exact hV i _ x hoi hx (hancD i h1) (h2 _ x hoi hx)
 have hcalm : calm ops Γ j = true → w = w0 := fun hcm => hst fun k x hk hDk hx => by
  simp only [calm, List.all_eq_true, List.mem_range, Bool.or_eq_true, beq_iff_eq, List.contains_iff_mem] at hcm
  rcases hcm k hk with (h | h) | h
  ·subst h; rw [hD] at hDk; cases hDk
  ·rwa [show Γ.getD k (pu 0 [] undef) = x from by simp [List.getD_eq_getElem?_getD, hx]] at h
  ·have := hcl k j hDk h; rw [hD] at this; cases this
 refine wpo_mono ?_ (Obs_get0 hob ho hs us w Fs hG (fun i x hi hx => (hA i x hx (huse i hi).1 (huse i hi).2).1) hdu hsee hcalm)
 rintro a' w' ⟨v, F, rfl, hVj, hch, hAj, hF, hqu⟩
 have hE : ∀ k ∈ s.eat.flatMap Fs, ∃ e x, e ∈ s.eat ∧ Γ[e]? = some x ∧ k ∈ Fs e ∧ (k ∈ F0 ∨ w0.heap.size ≤ k) ∧ k < w.heap.size := fun k hk => by
  obtain ⟨e, he, hke⟩ := List.mem_flatMap.1 hk
  have hu := hc.eatUse j s hjl hs e he
  have hel := (hc.use j s hjl hs e hu).2.2
  have := (hA e Γ[e] (List.getElem?_eq_getElem hel) (huse e hu).1 (huse e hu).2).2 k hke
  exact ⟨e, Γ[e], he, List.getElem?_eq_getElem hel, hke, this.1, this.2⟩
 let us' : Nat → Value := match o.dst with | some d => fun x => if x = d then v else us x | none => us
 have hfr : (frame a0 ds us).put o.dst v = frame a0 ds us' := by
  cases hd : o.dst with
  | none => simp [us', hd, Act.put]
  | some d => rw [frame_put _ _ _ _ _ (hc.dst o (List.mem_of_getElem? ho) d hd)]; simp [us', hd]
 have hus : ∀ t, us' t = if o.dst = some t then v else us t := fun t => by
  cases hd : o.dst with
  | none => simp [us', hd]
  | some d =>
    simp only [us', hd, Option.some.injEq]
    by_cases e : t = d
    ·rw [if_pos e, if_pos e.symm]
    ·rw [if_neg e, if_neg (fun h => e h.symm)]
 refine ⟨⟨us', fun i => if i = j then F else Fs i, hfr, ?_, ?_, ?_, ?_⟩, ?_, ?_⟩
 ·refine ⟨hch.os.trans hG.os, hch.tape.trans hG.tape, hch.output.trans hG.output, Nat.le_trans hG.size hch.size, fun k hk hn => ?_⟩
  rw [hch.block k (Nat.lt_of_lt_of_le hk hG.size) (fun hke => ?_), hG.block k hk hn]
  obtain ⟨_, _, _, _, _, h, _⟩ := hE k hke
  rcases h with h | h
  ·exact hn h
  ·omega
 ·intro i x hx hDi hne
  by_cases hij : i = j
  ·subst hij
   rw [hs] at hx
   cases hx
   simp only [if_pos]
   refine ⟨by rw [hus]; exact hAj, fun k hk => ?_⟩
   rcases hF k hk with h | ⟨h, h'⟩
   ·obtain ⟨_, _, _, _, _, h1, h2⟩ := hE k h
    exact ⟨h1, Nat.lt_of_lt_of_le h2 hch.size⟩
   ·exact ⟨.inr (Nat.le_trans hG.size h), h'⟩
  ·simp only [if_neg hij] at hDi ⊢
   have hne' : ∀ k y, k < ops.length → D k = true → Γ[k]? = some y → i ∉ y.eat := fun k y hk hDk hy => hne k y hk (by split <;> first | rfl | exact hDk) hy
   have hnj : i ∉ s.eat := hne j s hjl (by simp) hs
   obtain ⟨h1, h2⟩ := hA i x hx hDi hne'
   have hsub : us' x.sub = us x.sub := by
    rw [hus]
    split
    ·rename_i hd
     exfalso
     rcases hc.slot j o _ ho hd i x hx hij rfl with ⟨k, y, hk, hy, hiy, hkj⟩ | hji
     rotate_left
     ·by_cases hil : i < ops.length
      ·have := hcl i j (hDi hil) hji
       rw [hD] at this; cases this
      ·have : (anc ops).getD i [] = [] := by
        simp only [List.getD_eq_getElem?_getD]
        rw [List.getElem?_eq_none (by rw [hc.ancLen]; omega)]
        rfl
       rw [this] at hji
       cases hji
     rcases hkj with rfl | hkj
     ·rw [hs] at hy; cases hy; exact hnj hiy
     ·exact hne' k y hk (hancD k hkj) hy hiy
    ·rfl
   rw [hsub]
   refine ⟨x.st _ w w' _ h1 (fun k hk => hch.block k (h2 k hk).2 fun hke => ?_) hch.size, fun k hk => ⟨(h2 k hk).1, Nat.lt_of_lt_of_le (h2 k hk).2 hch.size⟩⟩
   obtain ⟨e, y, he, hy, hke', _, _⟩ := hE k hke
   have hu := hc.eatUse j s hjl hs e he
   exact hdis i e x y (fun h => hnj (h ▸ he)) hx hy hDi (huse e hu).1 hne' (huse e hu).2 k hk hke'
 ·intro i i' x x' hii hx hx' hDi hDi' hne hne' k hk hk'
  have up : ∀ {i}, (∀ k z, k < ops.length → (if k = j then true else D k) = true → Γ[k]? = some z → i ∉ z.eat) → (∀ k z, k < ops.length → D k = true → Γ[k]? = some z → i ∉ z.eat) ∧ i ∉ s.eat :=
   fun h => ⟨fun k y hk hDk hy => h k y hk (by split <;> first | rfl | exact hDk) hy, h j s hjl (by simp) hs⟩
  obtain ⟨n1, n2⟩ := up hne
  obtain ⟨m1, m2⟩ := up hne'
  have key : ∀ i' x', i' ≠ j → Γ[i']? = some x' → (i' < ops.length → D i' = true) → (∀ k z, k < ops.length → D k = true → Γ[k]? = some z → i' ∉ z.eat) → i' ∉ s.eat → ∀ k ∈ F, k ∉ Fs i' := by
   intro i' x' hi' hx' hDi' m1 m2 k hk hk'
   rcases hF k hk with h | ⟨h, _⟩
   ·obtain ⟨e, y, he, hy, hke', _, _⟩ := hE k h
    have hu := hc.eatUse j s hjl hs e he
    exact hdis i' e x' y (fun h => m2 (h ▸ he)) hx' hy hDi' (huse e hu).1 m1 (huse e hu).2 k hk' hke'
   ·have := ((hA i' x' hx' hDi' m1).2 k hk').2
    omega
  by_cases hij : i = j
  ·have hij' : i' ≠ j := fun h => hii (hij.trans h.symm)
   simp only [if_pos hij, if_neg hij'] at hk hk' hDi'
   exact key i' x' hij' hx' hDi' m1 m2 k hk hk'
  ·by_cases hij' : i' = j
   ·simp only [if_neg hij, if_pos hij'] at hk hk' hDi
    exact key i x hij hx hDi n1 n2 k hk' hk
   ·simp only [if_neg hij, if_neg hij'] at hk hk' hDi hDi'
    exact hdis i i' x x' hii hx hx' hDi hDi' n1 m1 k hk hk'
 ·intro i oi x hoi hx hDi hdi
  by_cases hij : i = j
  ·subst hij
   rw [hs] at hx
   cases hx
   rw [hus]
   exact hVj
  ·simp only [if_neg hij] at hDi
   rw [hus, if_neg (hc.single i j oi o _ hoi ho hij hdi)]
   exact hV i oi x hoi hx hDi hdi
 ·intro k i hk hi
  by_cases hik : i = j
  ·simp [hik]
  ·simp only [if_neg hik]
   by_cases hkj : k = j
   ·subst hkj; exact hancD i hi
   ·simp only [if_neg hkj] at hk
    exact hcl k i hk hi
 ·intro hq
  rw [hqu (hq j s hjl (by simp) hs)]
  exact hst fun k x hk hDk hx => hq k x hk (by split <;> first | rfl | exact hDk) hx
theorem any_of (hob : Obs ro ops P a0 w0 F0 ds Γ 0 ops Γ) (hc : Chk ops Γ ds) {Q : Exit → Act → World → Prop}
 (hend : ∀ (D : Nat → Bool) a w, (∀ i, i < ops.length → D i = true) → Inv a0 w0 F0 ds Γ ops D a w → Q .normal a w) :
 ∀ (fuel : Nat) (listed : Array Bool) (a : Act) (w : World), listed.size = ops.length → listed.toList.count false = fuel → Inv a0 w0 F0 ds Γ ops (fun i => listed.getD i false) a w → wpAnyIn { Fence.wide with round := ro } 0 P .any ops.toArray Q fuel listed a w := by
 have ready_nil : ∀ listed : Array Bool, listed.size = ops.length → Region.ready .any ops.toArray listed = [] → ∀ i, i < ops.length → listed.getD i false = true := by
  intro listed hl hr i
  induction i using Nat.strongRecOn with
  | _ i ih =>
    intro hi
    by_cases h : listed.getD i false = true
    ·exact h
    ·exfalso
     have hi' : i < listed.size := by omega
     have hm : i ∈ Region.ready .any ops.toArray listed := by
      simp only [Region.ready, List.mem_filter, List.mem_range, List.size_toArray, Bool.and_eq_true, Bool.not_eq_true']
      refine ⟨hi, ?_, ?_⟩
      ·simp [Array.getD, hi'] at h ⊢; exact h
      ·have ho : ops[i]? = some ops[i] := List.getElem?_eq_getElem hi
       simp only [List.getElem?_toArray, ho, Option.map_some, Option.getD_some, Array.all_eq_true']
       intro e he
       by_cases hb : Region.binds .any e = true
       ·have hlt := hc.low i _ ho e he hb
        simp [hb]
        have := ih e.on hlt (by omega)
        simpa using this
       ·simp at hb; simp [hb]
     rw [hr] at hm
     cases hm
 intro fuel
 induction fuel with
 | zero =>
   intro listed a w hl hcnt hI
   have hall : ∀ i, i < ops.length → listed.getD i false = true := fun i hi => by
    have hi' : i < listed.size := by omega
    have := List.count_eq_zero.1 hcnt
    cases hv : listed.getD i false with
    | true => rfl
    | false =>
      exfalso
      apply this
      simp [Array.getD, hi'] at hv
      rw [← hv]
      simp
   refine ⟨?_, hend _ a w hall hI⟩
   rw [List.eq_nil_iff_forall_not_mem]
   intro i hi
   simp only [Region.ready, List.mem_filter, List.mem_range, List.size_toArray, Bool.and_eq_true, Bool.not_eq_true'] at hi
   have := hall i hi.1
   have hi' : i < listed.size := by omega
   have h2 := hi.2.1
   simp [Array.getD, hi'] at this h2
   rw [this] at h2
   cases h2
 | succ fuel ih =>
   intro listed a w hl hcnt hI
   refine ⟨fun hr => hend _ a w (ready_nil listed hl hr) hI, fun j hj => ?_⟩
   simp only [Region.ready, List.mem_filter, List.mem_range, List.size_toArray, Bool.and_eq_true, Bool.not_eq_true'] at hj
   obtain ⟨hjl, hun, hall⟩ := hj
   have ho : ops[j]? = some ops[j] := List.getElem?_eq_getElem hjl
   have hj' : j < listed.size := by omega
   simp only [List.getElem?_toArray, ho, Option.map_some, Option.getD_some, Array.all_eq_true'] at hall
   have hD : listed.getD j false = false := by
    simp [Array.getD, hj'] at hun ⊢; exact hun
   unfold wpOpIn
   simp only [List.getElem?_toArray, ho]
   refine wpo_out (ops := ops) ?_ (step hob hc hI ho hD fun e he hb => by
    have := hall e he
    simpa [hb] using this)
   intro a' w' hI'
   refine ih _ a' w' (by simpa using hl) ?_ ?_
   ·have hv : listed.toList[j]'(by simpa using hj') = false := by
     simp [Array.getD, hj'] at hD; simpa using hD
    rw [Array.toList_setIfInBounds]
    have := List.count_set (l := listed.toList) (i := j) (a := true) (b := false) (by simpa [Array.length_toList] using hj')
    rw [this]
    simp [hv, hcnt]
   ·have : (fun i => (listed.setIfInBounds j true).getD i false) = (fun i => if i = j then true else listed.getD i false) := by
     funext i
     by_cases hij : i = j
     ·subst hij; simp [Array.getD, hj']
     ·simp only [if_neg hij]
      by_cases hi : i < listed.size
      ·simp [Array.getD, hi, Ne.symm hij]
      ·simp [Array.getD, hi]
    rw [this]
    exact hI'
end

/-- THE RULE: a region that draws its order. -/
theorem region {P : Program} {ro : Option Nat} (hm : P.follows .mixedOrders = true) {id : Nat} {ops : List Oper} {a0 : Act} {w : World} {Q : Exit → Act → World → Prop} (F0 ds : List Nat) (Γ : List Sp) (Fs0 : Nat → List Nat)
 (hck : check ops Γ ds = true)
 (hin : ∀ i x, ops.length ≤ i → Γ[i]? = some x → x.A (a0.tmps.getD x.sub undef) w.drew (Fs0 i) ∧ ∀ k ∈ Fs0 i, k ∈ F0 ∧ k < w.heap.size)
 (hdj : ∀ i j, i ≠ j → ops.length ≤ i → ops.length ≤ j → ∀ k ∈ Fs0 i, k ∉ Fs0 j)
 (hob : Obs ro ops P a0 w.drew F0 ds Γ 0 ops Γ)
 (hend : ∀ (us : Nat → Value) (w' : World) (Fs : Nat → List Nat), Chg F0 w.drew w' →
  (∀ i x, Γ[i]? = some x → (∀ k y, k < ops.length → Γ[k]? = some y → i ∉ y.eat) → x.A (us x.sub) w' (Fs i) ∧ ∀ k ∈ Fs i, (k ∈ F0 ∨ w.heap.size ≤ k) ∧ k < w'.heap.size) →
  (∀ i j x y, i ≠ j → Γ[i]? = some x → Γ[j]? = some y → (∀ k z, k < ops.length → Γ[k]? = some z → i ∉ z.eat) → (∀ k z, k < ops.length → Γ[k]? = some z → j ∉ z.eat) → ∀ k ∈ Fs i, k ∉ Fs j) →
  Q .normal (frame a0 ds us) w') :
 (Code.region id ops.toArray true).wpIn { Fence.wide with round := ro } 0 P Q a0 w := by
 have hc := chk_of hck
 refine wpIn_region_any hm ?_
 have hfr : frame a0 ds (fun s => a0.tmps.getD s undef) = a0 := by
  have : ∀ (l : List Value) (s : Nat), (∀ i, i < l.length → l[i]? = some (a0.tmps.getD (s + i) undef)) → put' ds (fun s => a0.tmps.getD s undef) s l = l := by
   intro l
   induction l with
   | nil => intro s _; rfl
   | cons x xs ih =>
     intro s h
     have h0 := h 0 (by simp)
     simp at h0
     simp only [put']
     rw [ih (s + 1) (fun i hi => by have := h (i + 1) (by simpa using hi); simpa [Nat.add_assoc, Nat.add_comm 1 i] using this)]
     split
     ·rw [h0]; simp
     ·rfl
  unfold frame
  rw [this a0.tmps.toList 0 (fun i hi => by simp at hi; simp [hi])]
 have : (Array.replicate ops.toArray.size false).toList.count false = ops.toArray.size := by simp
 refine any_of hob hc ?_ ops.toArray.size _ _ _ (by simp) this ?_
 ·intro D a w2 hall hI
  obtain ⟨⟨us, Fs, rfl, hG, hA, hdis, _⟩, _, _⟩ := hI
  exact hend us w2 Fs hG (fun i x hx hne => hA i x hx (fun hi => hall i hi) (fun k y hk _ hy => hne k y hk hy))
   (fun i j x y hij hx hy n1 n2 => hdis i j x y hij hx hy (fun hi => hall i hi) (fun hj => hall j hj) (fun k z hk _ hz => n1 k z hk hz) (fun k z hk _ hz => n2 k z hk hz))
 ·have hD : ∀ i, (Array.replicate ops.toArray.size false).getD i false = false := fun i => by
   simp only [Array.getD]; split <;> simp
  refine ⟨⟨fun s => a0.tmps.getD s undef, Fs0, hfr.symm, Chg.refl _ _, fun i x hx hDi _ => ?_, fun i j x y hij hx hy hDi hDj _ _ => ?_, fun i o x _ _ hDi _ => ?_⟩, fun k i hk _ => ?_, fun _ => rfl⟩
  ·have hi : ops.length ≤ i := by
    rcases Nat.lt_or_ge i ops.length with h | h
    ·have := hDi h; rw [hD] at this; cases this
    ·exact h
   obtain ⟨h1, h2⟩ := hin i x hi hx
   exact ⟨h1, fun k hk => ⟨.inl (h2 k hk).1, (h2 k hk).2⟩⟩
  ·have hi : ops.length ≤ i := by
    rcases Nat.lt_or_ge i ops.length with h | h
    ·have := hDi h; rw [hD] at this; cases this
    ·exact h
   have hj : ops.length ≤ j := by
    rcases Nat.lt_or_ge j ops.length with h | h
    ·have := hDj h; rw [hD] at this; cases this
    ·exact h
   exact hdj i j hij hi hj
  ·rw [hD] at hDi; cases hDi
  ·rw [hD] at hk; cases hk

/-- THE RULE, for use: what is kept at the end is named. -/
theorem rule {P : Program} {ro : Option Nat} (hm : P.follows .mixedOrders = true) {id : Nat} {ops : List Oper} {a0 : Act} {w : World} {Q : Exit → Act → World → Prop} (F0 ds : List Nat) (Γ : List Sp) (keep : List Nat)
 (hck : check ops Γ ds = true) (hkeep : keepOk ops.length Γ keep = true) (Fs0 : Nat → List Nat)
 (hin : ∀ i x, ops.length ≤ i → Γ[i]? = some x → x.A (a0.tmps.getD x.sub undef) w.drew (Fs0 i) ∧ ∀ k ∈ Fs0 i, k ∈ F0 ∧ k < w.heap.size)
 (hdj : ∀ i j, i ≠ j → ops.length ≤ i → ops.length ≤ j → ∀ k ∈ Fs0 i, k ∉ Fs0 j)
 (hob : Obs ro ops P a0 w.drew F0 ds Γ 0 ops Γ)
 (hend : ∀ (us : Nat → Value) (w' : World) (Fs : Nat → List Nat), Chg F0 w.drew w' → Used Γ us w' Fs keep →
  (∀ i ∈ keep, ∀ k ∈ Fs i, (k ∈ F0 ∨ w.heap.size ≤ k) ∧ k < w'.heap.size) → (∀ i j, i ∈ keep → j ∈ keep → i ≠ j → ∀ k ∈ Fs i, k ∉ Fs j) →
  Q .normal (frame a0 ds us) w') :
 (Code.region id ops.toArray true).wpIn { Fence.wide with round := ro } 0 P Q a0 w := by
 simp only [keepOk, List.all_eq_true, Bool.and_eq_true, decide_eq_true_eq, List.mem_range, Bool.not_eq_true'] at hkeep
 have hk : ∀ i ∈ keep, ∀ k y, k < ops.length → Γ[k]? = some y → i ∉ y.eat := fun i hi k y hk hy h => by
  have := (hkeep i hi).2 k hk
  rw [show Γ.getD k (pu 0 [] undef) = y from by simp [List.getD_eq_getElem?_getD, hy]] at this
  rw [← Bool.not_eq_true, List.contains_iff_mem] at this
  exact this h
 have hx : ∀ i ∈ keep, ∃ x, Γ[i]? = some x := fun i hi => ⟨_, List.getElem?_eq_getElem (hkeep i hi).1⟩
 refine region hm F0 ds Γ Fs0 hck hin hdj hob fun us w' Fs hG hA hdis => ?_
 refine hend us w' Fs hG (used_of _ fun i x hi hx => (hA i x hx (hk i hi)).1) (fun i hi => ?_) (fun i j hi hj hij => ?_)
 ·obtain ⟨x, hx⟩ := hx i hi
  exact (hA i x hx (hk i hi)).2
 ·obtain ⟨x, hxi⟩ := hx i hi
  obtain ⟨y, hyj⟩ := hx j hj
  exact hdis i j x y hij hxi hyj (hk i hi) (hk j hj)
theorem ob {ro : Option Nat} {all : List Oper} {P : Program} {a0 : Act} {w0 : World} {F0 ds : List Nat} {Γ : List Sp} {j : Nat} {o : Oper} {s : Sp}
 (h : ∀ (us : Nat → Value) (w : World) (Fe : Nat → List Nat), Chg F0 w0 w → Used Γ us w Fe s.use → (∀ i j, i ∈ s.use → j ∈ s.use → i ≠ j → ∀ k ∈ Fe i, k ∉ Fe j) → Seen Γ us s.see →
  ∀ K : Act → World → Prop, (∀ a' v w' F, a' = (frame a0 ds us).put o.dst v → s.V (if o.dst = some s.sub then v else us s.sub) → Chg (s.eat.flatMap Fe) w w' → s.A (if o.dst = some s.sub then v else us s.sub) w' F → (∀ k ∈ F, k ∈ s.eat.flatMap Fe ∨ (w.heap.size ≤ k ∧ k < w'.heap.size)) → (s.quiet = true → w' = w) → K a' w') →
    wpo ro P all o (frame a0 ds us) w K) : Ob ro all P a0 w0 F0 ds Γ j o s :=
 fun us w Fe hG hu hd hv _ => h us w Fe hG (used_of _ hu) hd (seen_of _ hv) _ fun _ v _ F h0 hv h1 h2 h3 h4 => ⟨v, F, h0, hv, h1, h2, h3, h4⟩
/-- A value, and nothing of memory; the world stands. -/
def pq (s : Nat) (u : List Nat) (v : Value) : Sp := { sub := s, use := u, eat := [], A := fun x _ F => x = v ∧ F = [], quiet := true, st := fun _ _ _ _ h _ _ => h }
theorem wanted_free {o : Oper} {y : Nat → Option Bool} (h : o.guard = none) : Region.wanted o y = true := by simp [Region.wanted, h]
theorem wanted_by {o : Oper} {ops : Array Oper} {tmps : Array Value} {g d : Nat} {b : Bool} (h : o.guard = some (g, b)) (hd : (ops[g]?).bind (·.dst) = some d) (hv : tmps[d]? = some (.bool b)) : Region.wanted o (yielded ops tmps) = true := by
 simp [Region.wanted, h, yielded, hd, hv]
/-- All memory, held from the beginning. -/
def every (s n : Nat) : Sp := { sub := s, use := [], eat := [], A := fun _ _ F => F = List.range n, st := fun _ _ _ _ h _ _ => h }
/-- An operation that takes all memory over, and leaves J of it. -/
def gives (s : Nat) (u e : List Nat) (v : Value) (J : World → Prop) : Sp :=
 { sub := s, use := u, eat := e, A := fun x w F => x = v ∧ (∃ w1, J w1 ∧ w1.heap.size ≤ w.heap.size ∧ F = List.range w1.heap.size ∧ ∀ k, k < w1.heap.size → w.heap[k]? = w1.heap[k]?),
   st := by
    rintro x w w' F ⟨rfl, w1, hj, hs, rfl, hb⟩ hk hz
    exact ⟨rfl, w1, hj, Nat.le_trans hs hz, rfl, fun k h => (hk k (by simpa using h)).trans (hb k h)⟩ }
/-- A block that was there, at N: its cells. -/
def at_ (s : Nat) (u e : List Nat) (N : Nat) (t : TypeId) (cs : Array Value) : Sp :=
 { sub := s, use := u, eat := e, A := fun _ w F => w.heap[N]? = some (.cells cs t (0, 0)) ∧ F = [N],
   st := by rintro v w w' F ⟨h, rfl⟩ hk _; exact ⟨by rw [hk N (by simp)]; exact h, rfl⟩ }
def two (n N M : Nat) : Nat → List Nat := fun i => if i = n then [N] else if i = n + 1 then [M] else []
theorem two_held {ops : List Oper} {Γ : List Sp} {a0 : Act} {w : World} {x y : Sp} {N M : Nat} (h : Γ.length = ops.length + 2) (hx : Γ[ops.length]? = some x) (hy : Γ[ops.length + 1]? = some y)
 (hA : x.A (a0.tmps.getD x.sub undef) w.drew [N]) (hB : y.A (a0.tmps.getD y.sub undef) w.drew [M]) (hN : N < w.heap.size) (hM : M < w.heap.size) :
 ∀ i z, ops.length ≤ i → Γ[i]? = some z → z.A (a0.tmps.getD z.sub undef) w.drew (two ops.length N M i) ∧ ∀ k ∈ two ops.length N M i, k ∈ [N, M] ∧ k < w.heap.size := by
 intro i z hi hz
 unfold two
 by_cases e : i = ops.length
 ·subst e
  rw [hx] at hz
  cases hz
  simp only [if_pos]
  exact ⟨hA, fun k hk => by simp at hk; subst hk; exact ⟨by simp, hN⟩⟩
 ·by_cases e' : i = ops.length + 1
  ·subst e'
   rw [hy] at hz
   cases hz
   rw [if_neg (by omega), if_pos rfl]
   exact ⟨hB, fun k hk => by simp at hk; subst hk; exact ⟨by simp, hM⟩⟩
  ·rw [List.getElem?_eq_none (by omega)] at hz
   cases hz
theorem two_apart {n N M : Nat} (h : N ≠ M) : ∀ i j, i ≠ j → n ≤ i → n ≤ j → ∀ k ∈ two n N M i, k ∉ two n N M j := by
 intro i j hij hi hj k hk
 unfold two at *
 split at hk
 ·simp at hk; subst hk
  rw [if_neg (by omega)]
  split <;> simp
  exact h
 ·split at hk
  ·simp at hk; subst hk
   split
   ·simp; exact Ne.symm h
   ·rw [if_neg (by omega)]; simp
  ·simp at hk
end Go.Proofs.YtelkcohhagblaaaGreat.SLF
namespace Go.Proofs.YtelkcohhagblaaaGreat
open Go.RowKit
/-- The maps that lie from B on stay. -/
structure KeepsW (B : Nat) (W W' : World) : Prop where
 size : W.heap.size ≤ W'.heap.size
 same : ∀ (k : Nat) (o : Obj), B ≤ k → W.heap[k]? = some o → o.isWalk = true → W'.heap[k]? = some o
theorem KeepsW.of {B : Nat} {W W' : World} (h : KeepsFrom B W W') : KeepsW B W W' := ⟨h.size, fun k o hB hk ho => h.same k o hB hk (Obj.not_cells_of_walk ho)⟩
theorem KeepsW.trans {B : Nat} {X Y Z : World} (h : KeepsW B X Y) (k : KeepsW B Y Z) : KeepsW B X Z := ⟨Nat.le_trans h.size k.size, fun i o hB hi ho => k.same i o hB (h.same i o hB hi ho) ho⟩
theorem KeepsW.loop {B : Nat} {W : World} {l : Nat} {x : Loop} (h : W.heap[l]? = some (.loop x)) (o : Obj) : KeepsW B W (W.putObj l o) := by
 refine ⟨by simp [World.putObj], fun k p _ hk hp => ?_⟩
 rw [World.putObj_heap_other (fun e => ?_)]
 ·exact hk
 ·subst e
  rw [h] at hk
  cases hk
  cases hp
theorem range_walks {P : Program} {σ α : Type} {g : Operand} {ps : Array Tmp} {assign body : Code} {Q : Exit → Act → World → Prop} {a : Act} {w : World}
 {gf : Nat} {lb : Array Value} (hg : a.eval g = .func (.func gf) #[] lb) (eg : ∀ args w, (callFunc gf args).run P w = .ok (.enter gf args) w)
 {encs : α → Array Value} (hps : ∀ x, (encs x).size = ps.size)
 (I : σ → World → Prop) (Ix : Code → σ → World → Prop) (hI : OwnFrom w.heap.size I) (hIx : ∀ c, OwnFrom w.heap.size (Ix c)) (s0 : σ) (h0 : I s0 w)
 (ok : σ → α → Prop) (upd : σ → α → σ) (Ax : σ → α → Act → World → Prop) (hAx : ∀ s x a', OwnFrom w.heap.size (fun (_ : Unit) W => Ax s x a' W))
 (fin finx : σ → Prop)
 (hiter : ∀ (l : Nat) (J Jx : σ → World → Prop) (W : World), Below w.heap.size w W → AbidesFrom W.heap.size J → AbidesFrom W.heap.size Jx → (∀ s W, J s W → I s W) → (∀ s W, Jx s W → ∃ c, Ix c s W) →
  (∀ s x W1, J s W1 → ok s x → YieldAt Fence.wide 0 P l (encs x) W1 fun e W' => KeepsW w.heap.size W1 W' ∧ ((e = .returned (.bool true) ∧ J (upd s x) W') ∨ (e = .returned (.bool false) ∧ Jx (upd s x) W'))) →
  J s0 W → CallsIn Fence.wide 0 P gf (#[.func (.yield l) #[] #[]] ++ lb) W fun e W' => (∃ v, e = .returned v) ∧ ((∃ s, fin s ∧ J s W') ∨ (∃ s, finx s ∧ Jx s W')))
 (hassign : ∀ (l : Nat) (s : σ) (x : α) (W : World) (K : Act → World → Prop), I s W → ok s x → (∀ a' W', KeepsFrom w.heap.size W W' → I s W' → Ax s x a' W' → K a' W') →
  assign.wpIn (Fence.wide.inRound l) 0 P (Exit.then K (fun _ _ _ => False)) { tmps := (ps.zip (encs x)).foldl (fun t (p, v) => t.setIfInBounds p v) a.tmps, defers := [] } W)
 (hbody : ∀ (l : Nat) (s : σ) (x : α) (a' : Act) (W : World), w.heap.size ≤ l → I s W → ok s x → Ax s x a' W → body.wpIn (Fence.wide.inRound l) 0 P (roundEnd w.heap.size I Ix (upd s x) W) a' W)
 (hdone : ∀ (D : Nat) (s : σ) (W : World), w.heap.size ≤ D → fin s → I s W → W.heap[D]? = some (.deferred (some [])) → Q .normal { a with defers := { target := .collected D, args := #[] } :: a.defers } W)
 (hstop : ∀ (D : Nat) (c : Code) (s : σ) (W : World), w.heap.size ≤ D → finx s → Ix c s W → W.heap[D]? = some (.deferred (some [])) → c.wp P Q { a with defers := { target := .collected D, args := #[] } :: a.defers } W) :
 (Code.rangeFunc g ps assign body).wp P Q a w := by
 refine (wpIn_wide (n := 0)).1 (wpIn_rangeFunc fun fn hfn => ?_)
 obtain ⟨rec, hrec⟩ : ∃ rec : LoopState → Option Code → Loop, rec = fun st pe => { state := st, pending := pe, fn, tmps := a.tmps, params := ps, assign, body, defers := w.heap.size } := ⟨_, rfl⟩
 obtain ⟨W1, hW1⟩ : ∃ W1, (w.alloc (.deferred (some []))).alloc (.loop (rec .ready none)) = W1 := ⟨_, rfl⟩
 have hL1 : W1.heap[w.heap.size + 1]? = some (.loop (rec .ready none)) := by
  rw [← hW1]; have := World.alloc_heap_new (w.alloc (.deferred (some []))) (.loop (rec .ready none)); rwa [World.size_alloc] at this
 have hK1 : W1.heap[w.heap.size]? = some (.deferred (some [])) := by
  rw [← hW1]; exact (Below.heap_alloc _ _ _ (by simp)).trans (World.alloc_heap_new w _)
 have hI1 : I s0 W1 := by rw [← hW1]; exact hI.alloc _ (hI.alloc _ h0)
 have hb1 : Below w.heap.size w W1 := by
  rw [← hW1]; exact ((Below.refl _ w).alloc (Nat.le_refl _) _).alloc (by simp) _
 have hz1 : w.heap.size + 2 ≤ W1.heap.size := by rw [← hW1]; simp
 -- the two blocks of book-keeping, beside an invariant
 let J : σ → World → Prop := fun s W => I s W ∧ W.heap[w.heap.size + 1]? = some (.loop (rec .ready none)) ∧ W.heap[w.heap.size]? = some (.deferred (some []))
 let Jx : σ → World → Prop := fun s W => ∃ c, Ix c s W ∧ W.heap[w.heap.size + 1]? = some (.loop (rec .done (some c))) ∧ W.heap[w.heap.size]? = some (.deferred (some []))
 have far : ∀ {A B : World} {row : Option Nat} {k : Nat}, A.grownBy B row → (∀ r, row = some r → W1.heap.size ≤ r ∧ ∃ o : Obj, A.heap[r]? = some o ∧ o.isWalk = true) → k < W1.heap.size → k < A.heap.size → B.heap[k]? = A.heap[k]? :=
  fun hg hr hk hk' => hg.block _ hk' (fun e => by have := (hr _ e.symm).1; omega)
 have low : ∀ {A : World} {k : Nat} {o : Obj}, A.heap[k]? = some o → k < A.heap.size := fun h => (Array.getElem?_eq_some_iff.1 h).1
 have nocells : ∀ {A B : World} {row : Option Nat}, (∀ r, row = some r → W1.heap.size ≤ r ∧ ∃ o : Obj, A.heap[r]? = some o ∧ o.isWalk = true) → (∀ r, row = some r → w.heap.size ≤ r ∧ ∃ o : Obj, A.heap[r]? = some o ∧ o.isCells = false) :=
  fun hr r e => by obtain ⟨h1, o, ho, hw⟩ := hr r e; exact ⟨by omega, o, ho, Obj.not_cells_of_walk hw⟩
 have hJ : AbidesFrom W1.heap.size J := fun s A B row hs hg' hr =>
  ⟨hI s A B row hs.1 hg' (nocells (B := B) hr), (far hg' hr (by omega) (low hs.2.1)).trans hs.2.1, (far hg' hr (by omega) (low hs.2.2)).trans hs.2.2⟩
 have hJx : AbidesFrom W1.heap.size Jx := fun s A B row hs hg' hr => by
  obtain ⟨c, hc, hl, hk⟩ := hs
  exact ⟨c, hIx c s A B row hc hg' (nocells (B := B) hr), (far hg' hr (by omega) (low hl)).trans hl, (far hg' hr (by omega) (low hk)).trans hk⟩
 refine ⟨w.heap.size + 1, [{ target := .collected w.heap.size, args := #[] }], W1, { target := .fn (.func gf) lb, args := #[.func (.yield (w.heap.size + 1)) #[] #[]] }, W1, gf,
  #[.func (.yield (w.heap.size + 1)) #[] #[]] ++ lb, W1, ?_, ?_, fun _ _ => trivial, ?_, fun h => by simp [Fence.wide] at h, ?_⟩
 ·rw [← hW1, hrec]; exact run_enterLoop_outer _ _ _ _ _
 ·simp only [resolve, hg]
  simp [go_sem]
 ·simp [invoke, go_sem, eg]
 refine (hiter (w.heap.size + 1) J Jx W1 hb1 hJ hJx (fun _ _ h => h.1) (fun _ _ h => let ⟨c, hc, _⟩ := h; ⟨c, hc⟩) ?_ ⟨hI1, hL1, hK1⟩).mono ?_
 ·-- a round
  rintro s x W ⟨hi, hl, hk⟩ hok
  have hy := run_yield (P := P) (args := encs x) hl (by rw [hrec]; exact hps x)
  rw [hrec] at hy
  refine ⟨fn, _, assign, body, hy, roundIn_of_wpIn hfn (hassign _ s x W _ hi hok fun a' Wa hka hia hax => ?_)⟩
  have hla := hka.same _ _ (by omega) hl rfl
  have hda := hka.same _ _ (Nat.le_refl _) hk rfl
  refine ⟨_, run_beginRound hla (by rw [hrec]), ?_⟩
  obtain ⟨Wb, hWb⟩ : ∃ Wb, Wa.putObj (w.heap.size + 1) (.loop { rec .ready none with state := .busy }) = Wb := ⟨_, rfl⟩
  rw [hWb]
  have hlb : Wb.heap[w.heap.size + 1]? = some (.loop { rec .ready none with state := .busy }) := by rw [← hWb]; exact World.putObj_heap_same (low hla)
  have hdb : Wb.heap[w.heap.size]? = some (.deferred (some [])) := by rw [← hWb]; exact (World.putObj_heap_other (by omega)).trans hda
  have hib : I s Wb := by rw [← hWb]; exact hI.putObj _ hia (by omega) hla rfl
  have hab : Ax s x a' Wb := by rw [← hWb]; exact (hAx s x a').putObj (s := ()) _ hax (by omega) hla rfl
  refine wpIn_mono (hbody _ s x a' Wb (by omega) hib hok hab) ?_
  have out : ∀ (jump : Option Code) (W3 : World), KeepsFrom w.heap.size Wb W3 →
   (Instr.endRound (w.heap.size + 1) jump).run P W3 = .ok (.bool jump.isNone) (W3.putObj (w.heap.size + 1) (.loop (rec (if jump.isNone then .ready else .done) jump))) ∧
   W3.heap[w.heap.size + 1]? = some (.loop { rec .ready none with state := .busy }) ∧
   (W3.putObj (w.heap.size + 1) (.loop (rec (if jump.isNone then .ready else .done) jump))).heap[w.heap.size + 1]? = some (.loop (rec (if jump.isNone then .ready else .done) jump)) ∧
   (W3.putObj (w.heap.size + 1) (.loop (rec (if jump.isNone then .ready else .done) jump))).heap[w.heap.size]? = some (.deferred (some [])) := fun jump W3 hk3 => by
   have hl3 := hk3.same _ _ (by omega) hlb rfl
   have hr3 := run_endRound (P := P) jump hl3
   refine ⟨by rw [hrec] at hr3 ⊢; exact hr3, hl3, World.putObj_heap_same (low hl3), (World.putObj_heap_other (by omega)).trans (hk3.same _ _ (Nat.le_refl _) hdb rfl)⟩
  have jump : ∀ (c : Code) (W3 : World), KeepsFrom w.heap.size Wb W3 → Ix c (upd s x) W3 → ∃ v w', (Instr.endRound (w.heap.size + 1) (some c)).run P W3 = .ok v w' ∧ KeepsW w.heap.size W w' ∧ (Ending.returned v = .returned (.bool true) ∧ J (upd s x) w' ∨ Ending.returned v = .returned (.bool false) ∧ Jx (upd s x) w') := fun c W3 hk3 hi3 => by
   obtain ⟨hr, hl3, hl4, hk4⟩ := out (some c) W3 hk3
   exact ⟨_, _, hr, (((KeepsW.of hka).trans (hWb ▸ KeepsW.loop hla _)).trans (KeepsW.of hk3)).trans (KeepsW.loop hl3 _), .inr ⟨rfl, c, (hIx _).putObj _ hi3 (by omega) hl3 rfl, hl4, hk4⟩⟩
  rintro e a3 W3 hp
  cases e with
  | normal =>
    obtain ⟨hr, hl3, hl4, hk4⟩ := out none W3 hp.1
    exact ⟨_, _, hr, (((KeepsW.of hka).trans (hWb ▸ KeepsW.loop hla _)).trans (KeepsW.of hp.1)).trans (KeepsW.loop hl3 _), .inl ⟨rfl, hI.putObj _ hp.2 (by omega) hl3 rfl, hl4, hk4⟩⟩
  | ret => exact jump _ _ hp.1 hp.2
  | exit id => exact jump _ _ hp.1 hp.2
  | goto t => exact jump _ _ hp.1 hp.2
  | panic ch => exact hp.elim
  | outgrown => exact hp.elim
 ·rintro e W2 ⟨⟨v, rfl⟩, (⟨s, hS, hi, hl, hk⟩ | ⟨s, hS, c, hi, hl, hk⟩)⟩
  ·exact ⟨none, _, by have := run_endLoop (P := P) hl (by rw [hrec]; simp); rw [hrec] at this; exact this, hdone _ s _ (Nat.le_refl _) hS (hI.putObj _ hi (by omega) hl rfl) ((World.putObj_heap_other (by omega)).trans hk)⟩
  ·exact ⟨some c, _, by have := run_endLoop (P := P) hl (by rw [hrec]; simp); rw [hrec] at this; exact this, wpIn_wide.2 (hstop _ c s _ (Nat.le_refl _) hS ((hIx c).putObj _ hi (by omega) hl rfl) ((World.putObj_heap_other (by omega)).trans hk))⟩
open Go.Shelf
set_option maxHeartbeats 1000000
theorem makeFunc_run (fn : Fn) (first cap : Array Value) (w : World) : (Instr.makeFunc fn first cap).run Tryz.prog w = .ok (.func fn first cap) w := rfl
theorem gwithin_any (n lo hi : Int) (w : World) :
 Calls Tryz.prog 115 #[.int .i64 n, .int .i64 lo, .int .i64 hi] w fun e w' => e = .returned (.bool (withinB n lo hi)) ∧ w = w' := by
 by_cases h1 : lo ≤ n <;>
 ·go_enter Tryz.func115, Tryz.ntmps115
  go_wp2
  go_ret
  exact ⟨by simp [withinB, *] <;> omega, rfl⟩
theorem gneed_yes (w : World) : Calls Tryz.prog 114 #[.bool true] w fun e w' => e = .returned (.tuple #[]) ∧ w = w' := by
 go_enter Tryz.func114, Tryz.ntmps114
 go_wp2
 go_end0
 exact ⟨rfl, rfl⟩

/-- What is given up with. -/
def foreign : Value := .iface 188 (.agg #[])
def gaveUp : List PanicEntry := [{ v := foreign, recovered := false }]
theorem gneed_no (w : World) : Calls Tryz.prog 114 #[.bool false] w fun e w' => e = .panicked gaveUp ∧ w = w' := by
 go_enter Tryz.func114, Tryz.ntmps114
 go_wp2
 exact ⟨rfl, rfl, rfl⟩

/-- A closure that tells something of a bound, in whatever world behind w0. -/
structure Tells (w0 : World) (k : Nat) (caps : Array Value) (p : Bd → Bool) : Prop where
 ent : ∀ args w, (callFunc k args).run Tryz.prog w = .ok (.enter k args) w
 tell : ∀ (w : World) (b : Bd), Below w0.heap.size w0 w → Calls Tryz.prog k (#[.agg #[.int .i64 b.frm, .int .i64 b.tow, .int .i64 b.most, .int .i64 b.bid]] ++ caps) w fun e w' => e = .returned (.bool (p b)) ∧ Below w.heap.size w w'
def idxB (p : Bd → Bool) (bs : List Bd) : Int := match bs.findIdx? p with | some i => i | none => -1
theorem take_succ_any {α : Type} [Inhabited α] {f : α → Bool} {l : List α} {k : Nat} (hk : k < l.length) (h : (l.take k).any f = false) (hx : f (l.getD k default) = false) : (l.take (k + 1)).any f = false := by
 rw [List.take_succ_eq_append_getElem hk, List.any_append, h]
 simpa [List.getD_eq_getElem?_getD, List.getElem?_eq_getElem hk] using hx
theorem idxB_hit {p : Bd → Bool} {bs : List Bd} {j : Nat} (hj : j < bs.length) (h : (bs.take j).any p = false) (hx : p (bs.getD j default) = true) : idxB p bs = j := by
 have : bs.findIdx? p = some j := by
  rw [List.findIdx?_eq_some_iff_getElem]
  refine ⟨hj, by simpa [List.getD_eq_getElem?_getD, List.getElem?_eq_getElem hj] using hx, fun i hi => ?_⟩
  rw [List.any_eq_false] at h
  have := h bs[i] (by rw [List.mem_take_iff_getElem]; exact ⟨i, by omega, rfl⟩)
  simpa using this
 simp [idxB, this]
theorem idxB_miss {p : Bd → Bool} {bs : List Bd} (h : bs.any p = false) : idxB p bs = -1 := by
 have : bs.findIdx? p = none := by
  rw [List.findIdx?_eq_none_iff]
  intro x hx
  rw [List.any_eq_false] at h
  simpa using h x hx
 simp [idxB, this]
theorem idxB_any (p : Bd → Bool) (bs : List Bd) : decide (0 ≤ idxB p bs) = bs.any p := by
 cases h : bs.any p with
 | false => rw [idxB_miss h]; rfl
 | true =>
   unfold idxB
   cases hf : bs.findIdx? p with
   | none =>
     rw [List.findIdx?_eq_none_iff] at hf
     rw [List.any_eq_true] at h
     obtain ⟨x, hx, hp⟩ := h
     have := hf x hx
     rw [hp] at this; cases this
   | some i => simp
theorem gindexFunc_any (a : Option Addr) (n cap : Nat) (bs : List Bd) (k : Nat) (caps : Array Value) (p : Bd → Bool) (w : World) (hb : BdsAt w a n cap bs) (hp : Tells w k caps p) :
 Calls Tryz.prog 210 #[.slice a n cap, .func (.func k) #[] caps] w fun e w' => e = .returned (.int .i64 (idxB p bs)) ∧ Below w.heap.size w w' := by
 have hlen := hb.small
 obtain rfl := hb.len
 have hent := hp.ent
 go_enter Tryz.func210, Tryz.ntmps210
 go_wp2
 go_loopw [8] (fun i wr => ∃ j : Nat, j ≤ bs.length ∧ i = .int .i64 j ∧ Below w.heap.size w wr ∧ (bs.take j).any p = false) (fun i _ => bs.length - (RowKit.intOf i).toNat)
 case atStart => exact ⟨0, Nat.zero_le _, rfl, Below.refl _ _, rfl⟩
 case round =>
  obtain ⟨j, hj, rfl, hB, hall⟩ := hrel
  have Hall := Lib.hid hall
  clear hall
  have hbr := hb.below hB
  by_cases hlt : j < bs.length
  ·obtain ⟨b, off, rfl, hbl, d0, d1, d2, d3⟩ := hbr.get hlt
   generalize hx : bs.getD j default = x at *
   have Hx := Lib.hid hx
   clear hx
   have hnn : (0 : Int) ≤ j := by omega
   have hT := hp.tell wr x hB
   have HT := Lib.hid hT
   clear hT
   go_wp2_with (refine (HT.out).mono ?_; rintro e w1 ⟨rfl, hb1⟩)
   case roundEnd =>
    have hpx : p x = false := by cases h : p x <;> simp_all
    go_roundw
    case rel => exact ⟨j + 1, by omega, by go_num, hB.trans (hb1.mono hB.size), take_succ_any hlt Hall.out (by rw [Hx.out]; exact hpx)⟩
    case measure => simp [RowKit.intOf]; omega
   all_goals
    have hpx : p x = true := by assumption
    go_ret
    refine ⟨?_, hB.trans (hb1.mono hB.size)⟩
    rw [idxB_hit hlt Hall.out (by rw [Hx.out]; exact hpx)]; rfl
  ·go_wp2_with fail
   go_ret
   rw [List.take_of_length_le (by omega)] at Hall
   refine ⟨?_, hB⟩
   rw [idxB_miss Hall.out]; rfl
theorem gcontainsFunc_any (a : Option Addr) (n cap : Nat) (bs : List Bd) (k : Nat) (caps : Array Value) (p : Bd → Bool) (w : World) (hb : BdsAt w a n cap bs) (hp : Tells w k caps p) :
 Calls Tryz.prog 197 #[.slice a n cap, .func (.func k) #[] caps] w fun e w' => e = .returned (.bool (bs.any p)) ∧ Below w.heap.size w w' := by
 go_enter Tryz.func197, Tryz.ntmps197
 go_wp2_with (go_at_call 210; refine (gindexFunc_any _ _ _ _ _ _ _ _ hb hp).mono ?_; rintro e w1 ⟨rfl, hb1⟩)
 go_ret
 exact ⟨by rw [← idxB_any p bs]; rfl, hb1⟩
theorem gwrong_any (p : Int) (b : Bd) (N : Nat) (w : World) (hc : w.cell? ⟨N, 0, none⟩ = some (.int .i64 p)) (h1 : 1 ≤ p) (h2 : p ≤ 60) :
 Calls Tryz.prog 196 #[.agg #[.int .i64 b.frm, .int .i64 b.tow, .int .i64 b.most, .int .i64 b.bid], .pointer (some ⟨N, 0, none⟩)] w fun e w' => e = .returned (.bool (!Bd.ok p b)) ∧ Below w.heap.size w w' := by
 have hN := World.block_lt_of_cell? w _ hc
 go_enter Tryz.func196, Tryz.ntmps196
 go_wp2_with (go_at_call 115; refine (gwithin_any _ _ _ _).mono ?_; rintro e w1 ⟨rfl, rfl⟩)
 all_goals
  go_ret
  refine ⟨?_, (Below.refl _ _).alloc (Nat.le_refl _) _⟩
  simp_all [Bd.ok]
theorem gcheck_any (p : Int) (a : Option Addr) (n cap : Nat) (bs : List Bd) (w : World) (hb : BdsAt w a n cap bs) :
 Calls Tryz.prog 152 #[.agg #[.int .i64 p, .slice a n cap]] w fun e w' => e = .returned (.int .i64 (chk p bs)) ∧ Below w.heap.size w w' := by
 have hlen := hb.small
 obtain rfl := hb.len
 have hmf := makeFunc_run
 have hbx := hb.below (w' := w.alloc (Obj.cells #[Value.int IntKind.i64 p, Value.slice a bs.length cap] 57)) ((Below.refl _ _).alloc (Nat.le_refl _) _)
 have hc0 : (w.alloc (Obj.cells #[Value.int IntKind.i64 p, Value.slice a bs.length cap] 57)).cell? ⟨w.heap.size, 0, none⟩ = some (.int .i64 p) := by simp [go_sem]
 by_cases hp : 1 ≤ p ∧ p ≤ 60
 ·have hT : Tells (w.alloc (Obj.cells #[Value.int IntKind.i64 p, Value.slice a bs.length cap] 57)) 196 #[.pointer (some ⟨w.heap.size, 0, none⟩)] (fun b => !Bd.ok p b) :=
   ⟨enters_of Tryz.func196 (by kernel_rfl) rfl, fun w1 b hw => gwrong_any p b _ w1 (((bcell hw).1 _ _ (by simp)).trans hc0) hp.1 hp.2⟩
  obtain ⟨hp1, hp2⟩ := hp
  clear hc0
  have hlin : (bs.any fun b => !Bd.ok p b) = !(bs.all (Bd.ok p)) := by rw [Bool.eq_iff_iff]; simp
  have Hlin := Lib.hid hlin
  clear hlin
  go_enter Tryz.func152, Tryz.ntmps152
  go_wp2_with (go_at_call 197; refine (gcontainsFunc_any _ _ _ _ _ _ _ _ hbx hT).mono ?_; rintro e w1 ⟨rfl, hb1⟩)
  all_goals
   rw [Hlin.out] at *
   go_ret
   refine ⟨ret_int ?_, by ((repeat (first | assumption | exact Below.refl _ _ | refine Below.alloc ?_ ?_ _ | refine Below.setCell ?_ ?_ _ | refine Below.drew ?_ | refine belowN ?_ | refine Below.up ?_ (by assumption) ?_)) <;> (first | assumption | omega | (simp; done) | (simp; omega)))⟩
   unfold chk
   (repeat' split) <;> (first | rfl | omega | (exfalso; simp_all; done) | (simp_all; done))
 ·go_enter Tryz.func152, Tryz.ntmps152
  go_wp2
  all_goals
   go_ret
   refine ⟨ret_int ?_, by ((repeat (first | assumption | exact Below.refl _ _ | refine Below.alloc ?_ ?_ _ | refine Below.setCell ?_ ?_ _ | refine Below.drew ?_ | refine belowN ?_ | refine Below.up ?_ (by assumption) ?_)) <;> (first | assumption | omega | (simp; done) | (simp; omega)))⟩
   unfold chk
   (repeat' split) <;> (first | rfl | omega | (exfalso; simp_all; omega) | (simp_all; done))
end Go.Proofs.YtelkcohhagblaaaGreat

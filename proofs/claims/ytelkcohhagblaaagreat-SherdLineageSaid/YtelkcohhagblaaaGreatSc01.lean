/-
  Lemmas and walks for the laws on roads and boards: what each function of the program answers, for every input.
-/
import Derived.Test.YtelkcohhagblaaaGreatRows
import Derived.WalkKit
set_option linter.unusedSimpArgs false
set_option linter.unusedVariables false
set_option linter.unnecessarySimpa false
namespace Go.Proofs.YtelkcohhagblaaaGreat.SL
open Go Go.RowKit
/-- What is said of one operation: the slot that it speaks of; the operations (by number) that it uses, and takes over; what holds of the slot's value, of the world, and of the blocks that it holds for itself. -/
structure Sp where
 sub : Nat
 use : List Nat
 eat : List Nat
 A : Value → World → List Nat → Prop
 see : List Nat := []
 V : Value → Prop := fun _ => True
 quiet : Bool := false
 st : ∀ (v : Value) (w w' : World) (F : List Nat), A v w F → (∀ k ∈ F, w'.heap[k]? = w.heap[k]?) → w.heap.size ≤ w'.heap.size → A v w' F

/-- A value, and nothing of memory. -/
def pu (s : Nat) (u : List Nat) (v : Value) : Sp := { sub := s, use := u, eat := [], A := fun x _ F => x = v ∧ F = [], st := fun _ _ _ _ h _ _ => h }

/-- Only the blocks E may have been written. -/
structure Chg (E : List Nat) (w w' : World) : Prop where
 os : w'.os = w.os
 tape : w'.tape = w.tape
 output : w'.output = w.output
 size : w.heap.size ≤ w'.heap.size
 block : ∀ k, k < w.heap.size → k ∉ E → w'.heap[k]? = w.heap[k]?
theorem Chg.refl (E : List Nat) (w : World) : Chg E w w := ⟨rfl, rfl, rfl, Nat.le_refl _, fun _ _ _ => rfl⟩
theorem Chg.of_below {E : List Nat} {w w' : World} (h : Below w.heap.size w w') : Chg E w w' := ⟨h.os, h.tape, h.output, h.size, fun k hk _ => h.block k hk⟩
theorem Chg.of_grown {w w' : World} {k0 : Nat} {E : List Nat} (h : w.grownBy w' (some k0)) (hE : k0 ∈ E) : Chg E w w' :=
 ⟨h.os, h.tape, h.output, h.size, fun k hk hn => h.block k hk (fun e => hn (by cases e; exact hE))⟩
theorem Chg.alloc (E : List Nat) (w : World) (o : Obj) : Chg E w (w.alloc o) := .of_below ((Below.refl _ _).alloc (Nat.le_refl _) _)
theorem Chg.setCell {E : List Nat} (w : World) {p : Addr} (h : p.block ∈ E) (v : Value) : Chg E w (w.setCell p v) :=
 ⟨rfl, rfl, rfl, by simp [World.setCell], fun k hk hn => Below.heap_setCell _ _ _ _ (fun e => hn (by rw [e]; exact h))⟩
theorem Chg.trans {E : List Nat} {a b c : World} (h : Chg E a b) (k : Chg E b c) : Chg E a c :=
 ⟨k.os.trans h.os, k.tape.trans h.tape, k.output.trans h.output, Nat.le_trans h.size k.size, fun i hi hn => (k.block i (Nat.lt_of_lt_of_le hi h.size) hn).trans (h.block i hi hn)⟩

/-- The frame: a0, but the slots in ds hold us. -/
def put' (ds : List Nat) (us : Nat → Value) : Nat → List Value → List Value
 | _, [] => []
 | s, x :: xs => (if ds.contains s then us s else x) :: put' ds us (s + 1) xs
def frame (a0 : Act) (ds : List Nat) (us : Nat → Value) : Act := { tmps := (put' ds us 0 a0.tmps.toList).toArray, defers := a0.defers }
theorem put'_set (ds : List Nat) (us : Nat → Value) (d : Nat) (v : Value) (hd : d ∈ ds) : ∀ (l : List Value) (s : Nat), s ≤ d → (put' ds us s l).set (d - s) v = put' ds (fun x => if x = d then v else us x) s l
 | [], s, _ => by simp [put']
 | x :: xs, s, hs => by
   by_cases e : s = d
   ·subst e
    simp only [Nat.sub_self, put', List.set_cons_zero]
    rw [if_pos (by simpa using hd)]
    simp only [if_pos]
    congr 1
    have : ∀ (l : List Value) (t : Nat), s < t → put' ds us t l = put' ds (fun x => if x = s then v else us x) t l := by
     intro l
     induction l with
     | nil => intro t _; rfl
     | cons y ys ih =>
       intro t ht
       simp only [put']
       rw [ih (t + 1) (by omega)]
       congr 1
       split
       ·rw [if_neg (by omega)]
       ·rfl
    exact this xs (s + 1) (by omega)
   ·have h1 : d - s = (d - (s + 1)) + 1 := by omega
    rw [h1]
    simp only [put', List.set_cons_succ]
    rw [put'_set ds us d v hd xs (s + 1) (by omega)]
    congr 1
    split
    ·simp
    ·rfl
theorem frame_put (a0 : Act) (ds : List Nat) (us : Nat → Value) (d : Nat) (v : Value) (hd : d ∈ ds) : (frame a0 ds us).put (some d) v = frame a0 ds (fun x => if x = d then v else us x) := by
 have h := put'_set ds us d v hd a0.tmps.toList 0 (Nat.zero_le _)
 simp only [Nat.sub_zero] at h
 simp [frame, Act.put, h]
section
variable (P : Program) (a0 : Act) (w0 : World) (F0 : List Nat) (ds : List Nat)

/-- What one operation owes. -/
def Ob (Γ : List Sp) (o : Oper) (s : Sp) : Prop :=
 ∀ (us : Nat → Value) (w : World) (Fe : Nat → List Nat), Chg F0 w0 w → (∀ i x, i ∈ s.use → Γ[i]? = some x → x.A (us x.sub) w (Fe i)) → (∀ i j, i ∈ s.use → j ∈ s.use → i ≠ j → ∀ k ∈ Fe i, k ∉ Fe j) → (∀ i x, i ∈ s.see → Γ[i]? = some x → x.V (us x.sub)) →
   o.wp P (frame a0 ds us) w (fun a' w' => ∃ v F, a' = (frame a0 ds us).put o.dst v ∧ s.V (if o.dst = some s.sub then v else us s.sub) ∧ Chg (s.eat.flatMap Fe) w w' ∧
    s.A (if o.dst = some s.sub then v else us s.sub) w' F ∧ ∀ k ∈ F, k ∈ s.eat.flatMap Fe ∨ (w.heap.size ≤ k ∧ k < w'.heap.size)) (fun _ _ _ => False)
def Obs (Γ : List Sp) : List Oper → List Sp → Prop
 | o :: os, s :: ss => Ob P a0 w0 F0 ds Γ o s ∧ Obs Γ os ss
 | _, _ => True
end

/-- All that is forced ahead of each operation. -/
def anc (ops : List Oper) : List (List Nat) :=
 ops.foldl (fun acc o => acc ++ [((o.after.toList.filterMap fun e => if Region.binds .any e then some e.on else none).flatMap fun i => i :: acc.getD i []).eraseDups]) []

/-- The check: n operations; Γ has their words first, then those that hold from the beginning. -/
def check (ops : List Oper) (Γ : List Sp) (ds : List Nat) : Bool :=
 let n := ops.length
 let an := anc ops
 let A := fun j => an.getD j []
 (ops.all fun o => o.guard.isNone && (match o.dst with | some d => ds.contains d | none => true)) && decide (n ≤ Γ.length) && (an.length == n) &&
 ((List.range n).all fun j => ((ops.getD j default).after.toList.all fun e => !Region.binds .any e || decide (e.on < j))) &&
 ((List.range n).all fun j => ((A j).all fun i => (ops.getD j default).after.toList.any fun e => Region.binds .any e && (e.on == i || (A e.on).contains i))) &&
 (List.range n).all fun j =>
  let s := Γ.getD j (pu 0 [] undef)
  (s.eat.all s.use.contains) && (s.use.all fun i => (decide (n ≤ i) || (A j).contains i) && i != j && decide (i < Γ.length)) &&
  (s.see.all fun i => (A j).contains i && decide ((ops.getD i default).dst = some (Γ.getD i (pu 0 [] undef)).sub)) &&
  ((List.range n).all fun i => i == j || match (ops.getD i default).dst, (ops.getD j default).dst with | some d, some d' => d != d' | _, _ => true) &&
  (s.use.all fun i => (List.range n).all fun k => k == j || !((Γ.getD k (pu 0 [] undef)).eat.contains i) || (A k).contains j) &&
  (match (ops.getD j default).dst with
   | some d => (List.range Γ.length).all fun i => i == j || (Γ.getD i (pu 0 [] undef)).sub != d || (List.range n).any (fun k => (Γ.getD k (pu 0 [] undef)).eat.contains i && (k == j || (A j).contains k)) || (A i).contains j
   | none => true)
section
variable {P : Program} {a0 : Act} {w0 : World} {F0 : List Nat} {ds : List Nat} {Γ : List Sp} {ops : List Oper}
theorem Obs_get : ∀ (os : List Oper) (ss : List Sp) (j : Nat) (o : Oper) (s : Sp), Obs P a0 w0 F0 ds Γ os ss → os[j]? = some o → ss[j]? = some s → Ob P a0 w0 F0 ds Γ o s
 | [], _, _, _, _, _, h, _ => by simp at h
 | _ :: _, [], _, _, _, _, _, h => by simp at h
 | o :: os, s :: ss, 0, _, _, h, ho, hs => by
   simp at ho hs
   subst ho; subst hs
   exact h.1
 | o :: os, s :: ss, j + 1, o', s', h, ho, hs => Obs_get os ss j o' s' h.2 (by simpa using ho) (by simpa using hs)

/-- What holds when the operations in D have been carried out. -/
structure Inv (a0 : Act) (w0 : World) (F0 ds : List Nat) (Γ : List Sp) (ops : List Oper) (D : Nat → Bool) (a : Act) (w : World) : Prop where
 body : ∃ (us : Nat → Value) (Fs : Nat → List Nat), a = frame a0 ds us ∧ Chg F0 w0 w ∧
  (∀ i x, Γ[i]? = some x → (i < ops.length → D i = true) → (∀ k y, k < ops.length → D k = true → Γ[k]? = some y → i ∉ y.eat) → x.A (us x.sub) w (Fs i) ∧ ∀ k ∈ Fs i, (k ∈ F0 ∨ w0.heap.size ≤ k) ∧ k < w.heap.size) ∧
  (∀ i j x y, i ≠ j → Γ[i]? = some x → Γ[j]? = some y → (i < ops.length → D i = true) → (j < ops.length → D j = true) →
   (∀ k z, k < ops.length → D k = true → Γ[k]? = some z → i ∉ z.eat) → (∀ k z, k < ops.length → D k = true → Γ[k]? = some z → j ∉ z.eat) → ∀ k ∈ Fs i, k ∉ Fs j) ∧
  (∀ i o x, ops[i]? = some o → Γ[i]? = some x → D i = true → o.dst = some x.sub → x.V (us x.sub))
 closed : ∀ j i, D j = true → i ∈ (anc ops).getD j [] → D i = true
theorem wp_weak {o : Oper} {a : Act} {w : World} {K K' : Act → World → Prop} {Q : Exit → Act → World → Prop} (h : ∀ a w, K a w → K' a w) (hh : o.wp P a w K (fun _ _ _ => False)) : o.wp P a w K' Q := by
 unfold Oper.wp at *
 generalize (execOp a.eval o).run P w = r at *
 cases r with
 | ok n w' =>
   cases n <;> simp only [Oper.upon] at hh ⊢ <;>
    first
     | exact h _ _ hh
     | exact Calls.mono hh (fun e w'' he => by
      cases e with
      | returned v => exact h _ _ he
      | panicked c => exact he.elim
      | outgrown => obtain ⟨_, _, hf⟩ := he; exact hf.elim)
     | exact Rows.mono hh (fun _ _ he => h _ _ he)
 | halt x w' => cases x <;> simp only [Oper.upon] at hh ⊢
structure Chk (ops : List Oper) (Γ : List Sp) (ds : List Nat) : Prop where
 guard : ∀ o ∈ ops, o.guard = none
 dst : ∀ o ∈ ops, ∀ d, o.dst = some d → d ∈ ds
 len : ops.length ≤ Γ.length
 ancLen : (SL.anc ops).length = ops.length
 low : ∀ j o, ops[j]? = some o → ∀ e ∈ o.after, Region.binds .any e = true → e.on < j
 anc : ∀ j o, ops[j]? = some o → ∀ i ∈ (anc ops).getD j [], ∃ e ∈ o.after, Region.binds .any e = true ∧ (e.on = i ∨ i ∈ (SL.anc ops).getD e.on [])
 eatUse : ∀ j s, j < ops.length → Γ[j]? = some s → ∀ i ∈ s.eat, i ∈ s.use
 use : ∀ j s, j < ops.length → Γ[j]? = some s → ∀ i ∈ s.use, (ops.length ≤ i ∨ i ∈ (SL.anc ops).getD j []) ∧ i ≠ j ∧ i < Γ.length
 see : ∀ j s, j < ops.length → Γ[j]? = some s → ∀ i ∈ s.see, i ∈ (SL.anc ops).getD j [] ∧ ∀ o x, ops[i]? = some o → Γ[i]? = some x → o.dst = some x.sub
 single : ∀ (i j : Nat) (o o' : Oper) (d : Tmp), ops[i]? = some o → ops[j]? = some o' → i ≠ j → o.dst = some d → o'.dst ≠ some d
 order : ∀ j s, j < ops.length → Γ[j]? = some s → ∀ i ∈ s.use, ∀ k y, k < ops.length → Γ[k]? = some y → k ≠ j → i ∈ y.eat → j ∈ (SL.anc ops).getD k []
 slot : ∀ j o d, ops[j]? = some o → o.dst = some d → ∀ i x, Γ[i]? = some x → i ≠ j → x.sub = d → (∃ k y, k < ops.length ∧ Γ[k]? = some y ∧ i ∈ y.eat ∧ (k = j ∨ k ∈ (SL.anc ops).getD j [])) ∨ j ∈ (SL.anc ops).getD i []
theorem chk_of (h : check ops Γ ds = true) : Chk ops Γ ds := by
 simp only [check, Bool.and_eq_true, List.all_eq_true, List.mem_range, decide_eq_true_eq, Option.isNone_iff_eq_none, Bool.or_eq_true, Bool.not_eq_true', beq_iff_eq, List.contains_iff_mem, bne_iff_ne, ne_eq] at h
 obtain ⟨⟨⟨⟨⟨h1, h2⟩, h2'⟩, h3⟩, h4⟩, h5⟩ := h
 have hop : ∀ j o, ops[j]? = some o → j < ops.length ∧ ops.getD j default = o := fun j o ho => ⟨(List.getElem?_eq_some_iff.1 ho).1, by simp [List.getD_eq_getElem?_getD, ho]⟩
 have hΓ : ∀ j s, Γ[j]? = some s → Γ.getD j (pu 0 [] undef) = s := fun j s hs => by simp [List.getD_eq_getElem?_getD, hs]
 refine ⟨fun o ho => (h1 o ho).1, fun o ho d hd => ?_, h2, h2', fun j o ho e he hb => ?_, fun j o ho i hi => ?_, fun j s hj hs i hi => ?_, fun j s hj hs i hi => ?_, fun j s hj hs i hi => ?_, fun i j o o' d hoi hoj hij hdi hdj => ?_, fun j s hj hs i hi k y hk hy hkj hiy => ?_, fun j o d ho hd i x hx hij hsub => ?_⟩
 ·have := (h1 o ho).2
  rw [hd] at this
  simpa using this
 ·obtain ⟨hj, he'⟩ := hop j o ho
  have := h3 j hj e (by rw [he']; simpa using he)
  rcases this with h | h
  ·rw [hb] at h; cases h
  ·exact h
 ·obtain ⟨hj, he'⟩ := hop j o ho
  have := h4 j hj i hi
  rw [he', List.any_eq_true] at this
  obtain ⟨e, he, hb⟩ := this
  simp only [Bool.and_eq_true, Bool.or_eq_true, beq_iff_eq, List.contains_iff_mem] at hb
  exact ⟨e, by simpa using he, hb.1, hb.2⟩
 ·have := (h5 j hj).1.1.1.1.1 i
  rw [hΓ j s hs] at this
  exact this hi
 ·have := (h5 j hj).1.1.1.1.2 i
  rw [hΓ j s hs] at this
  obtain ⟨⟨a, b⟩, c⟩ := this hi
  exact ⟨a, b, c⟩
 ·have := (h5 j hj).1.1.1.2 i
  rw [hΓ j s hs] at this
  obtain ⟨a, b⟩ := this hi
  refine ⟨a, fun o x ho hx => ?_⟩
  rw [(hop i o ho).2, hΓ i x hx] at b
  exact b
 ·have := (h5 j (hop j o' hoj).1).1.1.2 i (hop i o hoi).1
  rcases this with h | h
  ·exact hij h
  ·rw [(hop i o hoi).2, (hop j o' hoj).2, hdi, hdj] at h
   simp at h
 ·have := (h5 j hj).1.2 i
  rw [hΓ j s hs] at this
  have := this hi k hk
  rw [hΓ k y hy] at this
  rcases this with (h | h) | h
  ·exact absurd h hkj
  ·rw [← Bool.not_eq_true, List.contains_iff_mem] at h
   exact absurd hiy h
  ·exact h
 ·obtain ⟨hj, he'⟩ := hop j o ho
  have := (h5 j hj).2
  rw [he', hd] at this
  simp only [List.all_eq_true, List.mem_range, Bool.or_eq_true, beq_iff_eq, bne_iff_ne, ne_eq, List.any_eq_true, Bool.and_eq_true, List.contains_iff_mem] at this
  have := this i (List.getElem?_eq_some_iff.1 hx).1
  rw [hΓ i x hx] at this
  rcases this with ((h | h) | ⟨k, hk, h, h'⟩) | h
  ·exact absurd h hij
  ·exact absurd hsub h
  rotate_left
  ·exact .inr h
  ·left
   have hkl : k < Γ.length := Nat.lt_of_lt_of_le hk h2
   refine ⟨k, Γ[k], hk, List.getElem?_eq_getElem hkl, ?_, h'⟩
   rwa [hΓ k Γ[k] (List.getElem?_eq_getElem hkl)] at h
theorem anc_lt (hc : Chk ops Γ ds) : ∀ (j i : Nat), i ∈ (anc ops).getD j [] → i < ops.length := by
 intro j
 induction j using Nat.strongRecOn with
 | _ j ih =>
   intro i hi
   rcases Nat.lt_or_ge j ops.length with hj | hj
   ·obtain ⟨e, he, hb, h⟩ := hc.anc j _ (List.getElem?_eq_getElem hj) i hi
    have hl := hc.low j _ (List.getElem?_eq_getElem hj) e he hb
    rcases h with rfl | h
    ·omega
    ·exact ih _ hl i h
   ·simp only [List.getD_eq_getElem?_getD] at hi
    rw [List.getElem?_eq_none (by rw [hc.ancLen]; omega)] at hi
    cases hi
theorem step (hob : Obs P a0 w0 F0 ds Γ ops Γ) (hc : Chk ops Γ ds) {D : Nat → Bool} {a : Act} {w : World} {j : Nat} {o : Oper} (hI : Inv a0 w0 F0 ds Γ ops D a w)
 (ho : ops[j]? = some o) (hD : D j = false) (hpre : ∀ e ∈ o.after, Region.binds .any e = true → D e.on = true) :
 o.wp P a w (Inv a0 w0 F0 ds Γ ops (fun i => if i = j then true else D i)) (fun _ _ _ => False) := by
 obtain ⟨⟨us, Fs, rfl, hG, hA, hdis, hV⟩, hcl⟩ := hI
 have hjl : j < ops.length := (List.getElem?_eq_some_iff.1 ho).1
 have hjΓ : j < Γ.length := Nat.lt_of_lt_of_le hjl hc.len
 obtain ⟨s, hs⟩ : ∃ s, Γ[j]? = some s := ⟨_, List.getElem?_eq_getElem hjΓ⟩
 have hancD : ∀ i ∈ (anc ops).getD j [], D i = true := fun i hi => by
  obtain ⟨e, he, hb, h⟩ := hc.anc j o ho i hi
  rcases h with rfl | h
  ·exact hpre e he hb
  ·exact hcl _ _ (hpre e he hb) h
 -- what it uses is there, and nobody has taken it over
 have huse : ∀ i ∈ s.use, (i < ops.length → D i = true) ∧ (∀ k y, k < ops.length → D k = true → Γ[k]? = some y → i ∉ y.eat) := fun i hi => by
  obtain ⟨h1, h2, h3⟩ := hc.use j s hjl hs i hi
  refine ⟨fun hin => ?_, fun k y hk hDk hy hiy => ?_⟩
  ·rcases h1 with h1 | h1
   ·omega
   ·exact hancD i h1
  ·by_cases hkj : k = j
   ·subst hkj; rw [hD] at hDk; cases hDk
   ·have := hcl k j hDk (hc.order j s hjl hs i hi k y hk hy hkj hiy)
    rw [hD] at this; cases this
 have hdu : ∀ i i', i ∈ s.use → i' ∈ s.use → i ≠ i' → ∀ k ∈ Fs i, k ∉ Fs i' := fun i i' hi hi' hii => by
  obtain ⟨x, hx⟩ : ∃ x, Γ[i]? = some x := ⟨_, List.getElem?_eq_getElem (hc.use j s hjl hs i hi).2.2⟩
  obtain ⟨x', hx'⟩ : ∃ x, Γ[i']? = some x := ⟨_, List.getElem?_eq_getElem (hc.use j s hjl hs i' hi').2.2⟩
  exact hdis i i' x x' hii hx hx' (huse i hi).1 (huse i' hi').1 (huse i hi).2 (huse i' hi').2
 have hsee : ∀ i x, i ∈ s.see → Γ[i]? = some x → x.V (us x.sub) := fun i x hi hx => by
  obtain ⟨h1, h2⟩ := hc.see j s hjl hs i hi
  have hil : i < ops.length := by
   obtain ⟨e, he, hb, h'⟩ := hc.anc j o ho i h1
   have hlow := hc.low j o ho e he hb
   rcases h' with rfl | h'
   ·omega
   ·exact anc_lt hc _ _ h'
  have hoi : ops[i]? = some ops[i] := List.getElem?_eq_getElem hil
  exact hV i _ x hoi hx (hancD i h1) (h2 _ x hoi hx)
 refine wp_weak ?_ (Obs_get ops Γ j o s hob ho hs us w Fs hG (fun i x hi hx => (hA i x hx (huse i hi).1 (huse i hi).2).1) hdu hsee)
 rintro a' w' ⟨v, F, rfl, hVj, hch, hAj, hF⟩
 have hE : ∀ k ∈ s.eat.flatMap Fs, ∃ e x, e ∈ s.eat ∧ Γ[e]? = some x ∧ k ∈ Fs e ∧ (k ∈ F0 ∨ w0.heap.size ≤ k) ∧ k < w.heap.size := fun k hk => by
  obtain ⟨e, he, hke⟩ := List.mem_flatMap.1 hk
  have hu := hc.eatUse j s hjl hs e he
  have hel := (hc.use j s hjl hs e hu).2.2
  have := (hA e Γ[e] (List.getElem?_eq_getElem hel) (huse e hu).1 (huse e hu).2).2 k hke
  exact ⟨e, Γ[e], he, List.getElem?_eq_getElem hel, hke, this.1, this.2⟩
 let us' : Nat → Value := match o.dst with | some d => fun x => if x = d then v else us x | none => us
 have hfr : (frame a0 ds us).put o.dst v = frame a0 ds us' := by
  cases hd : o.dst with
  | none => simp [us', hd, Act.put]
  | some d => rw [frame_put _ _ _ _ _ (hc.dst o (List.mem_of_getElem? ho) d hd)]; simp [us', hd]
 have hus : ∀ t, us' t = if o.dst = some t then v else us t := fun t => by
  cases hd : o.dst with
  | none => simp [us', hd]
  | some d =>
    simp only [us', hd, Option.some.injEq]
    by_cases e : t = d
    ·rw [if_pos e, if_pos e.symm]
    ·rw [if_neg e, if_neg (fun h => e h.symm)]
 refine ⟨⟨us', fun i => if i = j then F else Fs i, hfr, ?_, ?_, ?_, ?_⟩, ?_⟩
 ·refine ⟨hch.os.trans hG.os, hch.tape.trans hG.tape, hch.output.trans hG.output, Nat.le_trans hG.size hch.size, fun k hk hn => ?_⟩
  rw [hch.block k (Nat.lt_of_lt_of_le hk hG.size) (fun hke => ?_), hG.block k hk hn]
  obtain ⟨_, _, _, _, _, h, _⟩ := hE k hke
  rcases h with h | h
  ·exact hn h
  ·omega
 ·intro i x hx hDi hne
  by_cases hij : i = j
  ·subst hij
   rw [hs] at hx
   cases hx
   simp only [if_pos]
   refine ⟨by rw [hus]; exact hAj, fun k hk => ?_⟩
   rcases hF k hk with h | ⟨h, h'⟩
   ·obtain ⟨_, _, _, _, _, h1, h2⟩ := hE k h
    exact ⟨h1, Nat.lt_of_lt_of_le h2 hch.size⟩
   ·exact ⟨.inr (Nat.le_trans hG.size h), h'⟩
  ·simp only [if_neg hij] at hDi ⊢
   have hne' : ∀ k y, k < ops.length → D k = true → Γ[k]? = some y → i ∉ y.eat := fun k y hk hDk hy => hne k y hk (by split <;> first | rfl | exact hDk) hy
   have hnj : i ∉ s.eat := hne j s hjl (by simp) hs
   obtain ⟨h1, h2⟩ := hA i x hx hDi hne'
   have hsub : us' x.sub = us x.sub := by
    rw [hus]
    split
    ·rename_i hd
     exfalso
     rcases hc.slot j o _ ho hd i x hx hij rfl with ⟨k, y, hk, hy, hiy, hkj⟩ | hji
     rotate_left
     ·by_cases hil : i < ops.length
      ·have := hcl i j (hDi hil) hji
       rw [hD] at this; cases this
      ·have : (anc ops).getD i [] = [] := by
        simp only [List.getD_eq_getElem?_getD]
        rw [List.getElem?_eq_none (by rw [hc.ancLen]; omega)]
        rfl
       rw [this] at hji
       cases hji
     rcases hkj with rfl | hkj
     ·rw [hs] at hy; cases hy; exact hnj hiy
     ·exact hne' k y hk (hancD k hkj) hy hiy
    ·rfl
   rw [hsub]
   refine ⟨x.st _ w w' _ h1 (fun k hk => hch.block k (h2 k hk).2 fun hke => ?_) hch.size, fun k hk => ⟨(h2 k hk).1, Nat.lt_of_lt_of_le (h2 k hk).2 hch.size⟩⟩
   obtain ⟨e, y, he, hy, hke', _, _⟩ := hE k hke
   have hu := hc.eatUse j s hjl hs e he
   exact hdis i e x y (fun h => hnj (h ▸ he)) hx hy hDi (huse e hu).1 hne' (huse e hu).2 k hk hke'
 ·intro i i' x x' hii hx hx' hDi hDi' hne hne' k hk hk'
  have up : ∀ {i}, (∀ k z, k < ops.length → (if k = j then true else D k) = true → Γ[k]? = some z → i ∉ z.eat) → (∀ k z, k < ops.length → D k = true → Γ[k]? = some z → i ∉ z.eat) ∧ i ∉ s.eat :=
   fun h => ⟨fun k y hk hDk hy => h k y hk (by split <;> first | rfl | exact hDk) hy, h j s hjl (by simp) hs⟩
  obtain ⟨n1, n2⟩ := up hne
  obtain ⟨m1, m2⟩ := up hne'
  have key : ∀ i' x', i' ≠ j → Γ[i']? = some x' → (i' < ops.length → D i' = true) → (∀ k z, k < ops.length → D k = true → Γ[k]? = some z → i' ∉ z.eat) → i' ∉ s.eat → ∀ k ∈ F, k ∉ Fs i' := by
   intro i' x' hi' hx' hDi' m1 m2 k hk hk'
   rcases hF k hk with h | ⟨h, _⟩
   ·obtain ⟨e, y, he, hy, hke', _, _⟩ := hE k h
    have hu := hc.eatUse j s hjl hs e he
    exact hdis i' e x' y (fun h => m2 (h ▸ he)) hx' hy hDi' (huse e hu).1 m1 (huse e hu).2 k hk' hke'
   ·have := ((hA i' x' hx' hDi' m1).2 k hk').2
    omega
  by_cases hij : i = j
  ·have hij' : i' ≠ j := fun h => hii (hij.trans h.symm)
   simp only [if_pos hij, if_neg hij'] at hk hk' hDi'
   exact key i' x' hij' hx' hDi' m1 m2 k hk hk'
  ·by_cases hij' : i' = j
   ·simp only [if_neg hij, if_pos hij'] at hk hk' hDi
    exact key i x hij hx hDi n1 n2 k hk' hk
   ·simp only [if_neg hij, if_neg hij'] at hk hk' hDi hDi'
    exact hdis i i' x x' hii hx hx' hDi hDi' n1 m1 k hk hk'
 ·intro i oi x hoi hx hDi hdi
  by_cases hij : i = j
  ·subst hij
   rw [hs] at hx
   cases hx
   rw [hus]
   exact hVj
  ·simp only [if_neg hij] at hDi
   rw [hus, if_neg (hc.single i j oi o _ hoi ho hij hdi)]
   exact hV i oi x hoi hx hDi hdi
 ·intro k i hk hi
  by_cases hik : i = j
  ·simp [hik]
  ·simp only [if_neg hik]
   by_cases hkj : k = j
   ·subst hkj; exact hancD i hi
   ·simp only [if_neg hkj] at hk
    exact hcl k i hk hi
theorem any_of (hob : Obs P a0 w0 F0 ds Γ ops Γ) (hc : Chk ops Γ ds) {Q : Exit → Act → World → Prop}
 (hend : ∀ (D : Nat → Bool) a w, (∀ i, i < ops.length → D i = true) → Inv a0 w0 F0 ds Γ ops D a w → Q .normal a w) :
 ∀ (fuel : Nat) (listed : Array Bool) (a : Act) (w : World), listed.size = ops.length → listed.toList.count false = fuel → Inv a0 w0 F0 ds Γ ops (fun i => listed.getD i false) a w → wpAny P .any ops.toArray Q fuel listed a w := by
 have ready_nil : ∀ listed : Array Bool, listed.size = ops.length → Region.ready .any ops.toArray listed = [] → ∀ i, i < ops.length → listed.getD i false = true := by
  intro listed hl hr i
  induction i using Nat.strongRecOn with
  | _ i ih =>
    intro hi
    by_cases h : listed.getD i false = true
    ·exact h
    ·exfalso
     have hi' : i < listed.size := by omega
     have hm : i ∈ Region.ready .any ops.toArray listed := by
      simp only [Region.ready, List.mem_filter, List.mem_range, List.size_toArray, Bool.and_eq_true, Bool.not_eq_true']
      refine ⟨hi, ?_, ?_⟩
      ·simp [Array.getD, hi'] at h ⊢; exact h
      ·have ho : ops[i]? = some ops[i] := List.getElem?_eq_getElem hi
       simp only [List.getElem?_toArray, ho, Option.map_some, Option.getD_some, Array.all_eq_true']
       intro e he
       by_cases hb : Region.binds .any e = true
       ·have hlt := hc.low i _ ho e he hb
        simp [hb]
        have := ih e.on hlt (by omega)
        simpa using this
       ·simp at hb; simp [hb]
     rw [hr] at hm
     cases hm
 intro fuel
 induction fuel with
 | zero =>
   intro listed a w hl hcnt hI
   have hall : ∀ i, i < ops.length → listed.getD i false = true := fun i hi => by
    have hi' : i < listed.size := by omega
    have := List.count_eq_zero.1 hcnt
    cases hv : listed.getD i false with
    | true => rfl
    | false =>
      exfalso
      apply this
      simp [Array.getD, hi'] at hv
      rw [← hv]
      simp
   refine ⟨?_, hend _ a w hall hI⟩
   rw [List.eq_nil_iff_forall_not_mem]
   intro i hi
   simp only [Region.ready, List.mem_filter, List.mem_range, List.size_toArray, Bool.and_eq_true, Bool.not_eq_true'] at hi
   have := hall i hi.1
   have hi' : i < listed.size := by omega
   have h2 := hi.2.1
   simp [Array.getD, hi'] at this h2
   rw [this] at h2
   cases h2
 | succ fuel ih =>
   intro listed a w hl hcnt hI
   refine ⟨fun hr => hend _ a w (ready_nil listed hl hr) hI, fun j hj => ?_⟩
   simp only [Region.ready, List.mem_filter, List.mem_range, List.size_toArray, Bool.and_eq_true, Bool.not_eq_true'] at hj
   obtain ⟨hjl, hun, hall⟩ := hj
   have ho : ops[j]? = some ops[j] := List.getElem?_eq_getElem hjl
   have hj' : j < listed.size := by omega
   simp only [List.getElem?_toArray, ho, Option.map_some, Option.getD_some, Array.all_eq_true'] at hall
   have hD : listed.getD j false = false := by
    simp [Array.getD, hj'] at hun ⊢; exact hun
   unfold wpOp
   simp only [List.getElem?_toArray, ho]
   rw [if_pos (by simp [Region.wanted, hc.guard _ (List.mem_of_getElem? ho)])]
   left
   refine wp_weak ?_ (step hob hc hI ho hD fun e he hb => by
    have := hall e he
    simpa [hb] using this)
   intro a' w' hI'
   refine ih _ a' w' (by simpa using hl) ?_ ?_
   ·have hv : listed.toList[j]'(by simpa using hj') = false := by
     simp [Array.getD, hj'] at hD; simpa using hD
    rw [Array.toList_setIfInBounds]
    have := List.count_set (l := listed.toList) (i := j) (a := true) (b := false) (by simpa [Array.length_toList] using hj')
    rw [this]
    simp [hv, hcnt]
   ·have : (fun i => (listed.setIfInBounds j true).getD i false) = (fun i => if i = j then true else listed.getD i false) := by
     funext i
     by_cases hij : i = j
     ·subst hij; simp [Array.getD, hj']
     ·simp only [if_neg hij]
      by_cases hi : i < listed.size
      ·simp [Array.getD, hi, Ne.symm hij]
      ·simp [Array.getD, hi]
    rw [this]
    exact hI'
end

/-- THE RULE: a region that draws its order. -/
theorem region {P : Program} (hm : P.follows .mixedOrders = true) {id : Nat} {ops : List Oper} {a0 : Act} {w : World} {Q : Exit → Act → World → Prop} (F0 ds : List Nat) (Γ : List Sp) (Fs0 : Nat → List Nat)
 (hck : check ops Γ ds = true)
 (hin : ∀ i x, ops.length ≤ i → Γ[i]? = some x → x.A (a0.tmps.getD x.sub undef) w.drew (Fs0 i) ∧ ∀ k ∈ Fs0 i, k ∈ F0 ∧ k < w.heap.size)
 (hdj : ∀ i j, i ≠ j → ops.length ≤ i → ops.length ≤ j → ∀ k ∈ Fs0 i, k ∉ Fs0 j)
 (hob : Obs P a0 w.drew F0 ds Γ ops Γ)
 (hend : ∀ (us : Nat → Value) (w' : World) (Fs : Nat → List Nat), Chg F0 w.drew w' →
  (∀ i x, Γ[i]? = some x → (∀ k y, k < ops.length → Γ[k]? = some y → i ∉ y.eat) → x.A (us x.sub) w' (Fs i) ∧ ∀ k ∈ Fs i, (k ∈ F0 ∨ w.heap.size ≤ k) ∧ k < w'.heap.size) →
  (∀ i j x y, i ≠ j → Γ[i]? = some x → Γ[j]? = some y → (∀ k z, k < ops.length → Γ[k]? = some z → i ∉ z.eat) → (∀ k z, k < ops.length → Γ[k]? = some z → j ∉ z.eat) → ∀ k ∈ Fs i, k ∉ Fs j) →
  Q .normal (frame a0 ds us) w') :
 (Code.region id ops.toArray true).wp P Q a0 w := by
 have hc := chk_of hck
 refine wp_region_any hm ?_
 have hfr : frame a0 ds (fun s => a0.tmps.getD s undef) = a0 := by
  have : ∀ (l : List Value) (s : Nat), (∀ i, i < l.length → l[i]? = some (a0.tmps.getD (s + i) undef)) → put' ds (fun s => a0.tmps.getD s undef) s l = l := by
   intro l
   induction l with
   | nil => intro s _; rfl
   | cons x xs ih =>
     intro s h
     have h0 := h 0 (by simp)
     simp at h0
     simp only [put']
     rw [ih (s + 1) (fun i hi => by have := h (i + 1) (by simpa using hi); simpa [Nat.add_assoc, Nat.add_comm 1 i] using this)]
     split
     ·rw [h0]; simp
     ·rfl
  unfold frame
  rw [this a0.tmps.toList 0 (fun i hi => by simp at hi; simp [hi])]
 have : (Array.replicate ops.toArray.size false).toList.count false = ops.toArray.size := by simp
 refine any_of hob hc ?_ ops.toArray.size _ _ _ (by simp) this ?_
 ·intro D a w2 hall hI
  obtain ⟨⟨us, Fs, rfl, hG, hA, hdis, _⟩, _⟩ := hI
  exact hend us w2 Fs hG (fun i x hx hne => hA i x hx (fun hi => hall i hi) (fun k y hk _ hy => hne k y hk hy))
   (fun i j x y hij hx hy n1 n2 => hdis i j x y hij hx hy (fun hi => hall i hi) (fun hj => hall j hj) (fun k z hk _ hz => n1 k z hk hz) (fun k z hk _ hz => n2 k z hk hz))
 ·have hD : ∀ i, (Array.replicate ops.toArray.size false).getD i false = false := fun i => by
   simp only [Array.getD]; split <;> simp
  refine ⟨⟨fun s => a0.tmps.getD s undef, Fs0, hfr.symm, Chg.refl _ _, fun i x hx hDi _ => ?_, fun i j x y hij hx hy hDi hDj _ _ => ?_, fun i o x _ _ hDi _ => ?_⟩, fun k i hk _ => ?_⟩
  ·have hi : ops.length ≤ i := by
    rcases Nat.lt_or_ge i ops.length with h | h
    ·have := hDi h; rw [hD] at this; cases this
    ·exact h
   obtain ⟨h1, h2⟩ := hin i x hi hx
   exact ⟨h1, fun k hk => ⟨.inl (h2 k hk).1, (h2 k hk).2⟩⟩
  ·have hi : ops.length ≤ i := by
    rcases Nat.lt_or_ge i ops.length with h | h
    ·have := hDi h; rw [hD] at this; cases this
    ·exact h
   have hj : ops.length ≤ j := by
    rcases Nat.lt_or_ge j ops.length with h | h
    ·have := hDj h; rw [hD] at this; cases this
    ·exact h
   exact hdj i j hij hi hj
  ·rw [hD] at hDi; cases hDi
  ·rw [hD] at hk; cases hk
theorem row_stab {w w' : World} {base : Nat} {t : TypeId} {size n : Nat} {v : Value} {xs : List Value} (h : w.ownsRow base t size v n xs) (hk : ∀ k ∈ v.ownBlock.toList, w'.heap[k]? = w.heap[k]?) : w'.ownsRow base t size v n xs := by
 obtain ⟨hl, ⟨hv, hn⟩ | ⟨g, cap', cur, hv, hbg, hg, hr⟩⟩ := h
 ·exact ⟨hl, .inl ⟨hv, hn⟩⟩
 ·exact ⟨hl, .inr ⟨g, cap', cur, hv, hbg, by rw [hk g (by rw [hv]; simp [Value.ownBlock])]; exact hg, hr⟩⟩

/-- A row that the region makes, or hands on. -/
def row (s : Nat) (u e : List Nat) (base : Nat) (t : TypeId) (size n : Nat) (xs : List Value) : Sp :=
 { sub := s, use := u, eat := e, A := fun x w F => w.ownsRow base t size x n xs ∧ F = x.ownBlock.toList, st := fun _ _ _ _ h hk _ => ⟨row_stab h.1 (h.2 ▸ hk), h.2⟩ }
/-- A box that the region makes, or fills. -/
def box (s : Nat) (u e : List Nat) (base : Nat) (t : TypeId) (cs : Array Value) : Sp :=
 { sub := s, use := u, eat := e, A := fun x w F => ∃ N, x = .pointer (some ⟨N, 0, none⟩) ∧ base ≤ N ∧ w.heap[N]? = some (.cells cs t (0, 0)) ∧ F = [N],
   st := by rintro v w w' F ⟨N, rfl, hb, h, rfl⟩ hk _; exact ⟨N, rfl, hb, by rw [hk N (by simp)]; exact h, rfl⟩ }
/-- A value made of a row: f of the slice. -/
def rowIn (s : Nat) (u e : List Nat) (base : Nat) (t : TypeId) (size n : Nat) (xs : List Value) (f : Value → Value) : Sp :=
 { sub := s, use := u, eat := e, A := fun x w F => ∃ y, x = f y ∧ w.ownsRow base t size y n xs ∧ F = y.ownBlock.toList,
   st := by rintro v w w' F ⟨y, rfl, h, rfl⟩ hk _; exact ⟨y, rfl, row_stab h hk, rfl⟩ }
/-- A box whose cells hold a row: f of the slice. -/
def boxIn (s : Nat) (u e : List Nat) (base : Nat) (bt t : TypeId) (size n : Nat) (xs : List Value) (f : Value → Array Value) : Sp :=
 { sub := s, use := u, eat := e, A := fun x w F => ∃ N y, x = .pointer (some ⟨N, 0, none⟩) ∧ base ≤ N ∧ w.heap[N]? = some (.cells (f y) bt (0, 0)) ∧ w.ownsRow base t size y n xs ∧ F = N :: y.ownBlock.toList,
   st := by
    rintro v w w' F ⟨N, y, rfl, hb, h, h2, rfl⟩ hk _
    exact ⟨N, y, rfl, hb, by rw [hk N (by simp)]; exact h, row_stab h2 (fun k hk' => hk k (by simp only [List.mem_cons]; exact .inr hk')), rfl⟩ }

/-- What is known of the operations that are used. -/
def Used (Γ : List Sp) (us : Nat → Value) (w : World) (Fe : Nat → List Nat) : List Nat → Prop
 | [] => True
 | i :: l => (match Γ[i]? with | some x => x.A (us x.sub) w (Fe i) | none => True) ∧ Used Γ us w Fe l
theorem used_of {Γ : List Sp} {us : Nat → Value} {w : World} {Fe : Nat → List Nat} : ∀ (l : List Nat), (∀ i x, i ∈ l → Γ[i]? = some x → x.A (us x.sub) w (Fe i)) → Used Γ us w Fe l
 | [], _ => trivial
 | i :: l, h => ⟨by
     cases hx : Γ[i]? with
     | some x => exact h i x (by simp) hx
     | none => trivial, used_of l (fun j x hj hx => h j x (by simp [hj]) hx)⟩
def Seen (Γ : List Sp) (us : Nat → Value) : List Nat → Prop
 | [] => True
 | i :: l => (match Γ[i]? with | some x => x.V (us x.sub) | none => True) ∧ Seen Γ us l
theorem seen_of {Γ : List Sp} {us : Nat → Value} : ∀ (l : List Nat), (∀ i x, i ∈ l → Γ[i]? = some x → x.V (us x.sub)) → Seen Γ us l
 | [], _ => trivial
 | i :: l, h => ⟨by
     cases hx : Γ[i]? with
     | some x => exact h i x (by simp) hx
     | none => trivial, seen_of l (fun j x hj hx => h j x (by simp [hj]) hx)⟩
theorem ob {P : Program} {a0 : Act} {w0 : World} {F0 ds : List Nat} {Γ : List Sp} {o : Oper} {s : Sp}
 (h : ∀ (us : Nat → Value) (w : World) (Fe : Nat → List Nat), Chg F0 w0 w → Used Γ us w Fe s.use → (∀ i j, i ∈ s.use → j ∈ s.use → i ≠ j → ∀ k ∈ Fe i, k ∉ Fe j) → Seen Γ us s.see →
  ∀ K : Act → World → Prop, (∀ a' v w' F, a' = (frame a0 ds us).put o.dst v → s.V (if o.dst = some s.sub then v else us s.sub) → Chg (s.eat.flatMap Fe) w w' → s.A (if o.dst = some s.sub then v else us s.sub) w' F → (∀ k ∈ F, k ∈ s.eat.flatMap Fe ∨ (w.heap.size ≤ k ∧ k < w'.heap.size)) → K a' w') →
    o.wp P (frame a0 ds us) w K (fun _ _ _ => False)) : Ob P a0 w0 F0 ds Γ o s :=
 fun us w Fe hG hu hd hv => h us w Fe hG (used_of _ hu) hd (seen_of _ hv) _ fun _ v _ F h0 hv h1 h2 h3 => ⟨v, F, h0, hv, h1, h2, h3⟩
theorem Chg.cells {w w' : World} (h : Chg [] w w') : (∀ b o, b < w.heap.size → w'.cell? ⟨b, o, none⟩ = w.cell? ⟨b, o, none⟩) ∧ (∀ b o, b < w.heap.size → w'.frozen? ⟨b, o, none⟩ = w.frozen? ⟨b, o, none⟩) :=
 ⟨fun b o hb => World.cell?_of_block (w := w) (h.block b hb (by simp)), fun b o hb => World.frozen?_of_block (w := w) (h.block b hb (by simp))⟩
theorem Chg.below {w w' : World} (h : Chg [] w w') : Below w.heap.size w w' := ⟨h.os, h.tape, h.output, h.size, fun k hk => h.block k hk (by simp)⟩
theorem Chg.below' {w w' : World} (h : Chg [] w.drew w') : Below w.heap.size w w' := ⟨h.os, h.tape, h.output, h.size, fun k hk => h.block k hk (by simp)⟩
theorem row_base {w : World} {base base' : Nat} {t : TypeId} {size n : Nat} {v : Value} {xs : List Value} (h : w.ownsRow base t size v n xs) (hb : base' ≤ base) : w.ownsRow base' t size v n xs := by
 obtain ⟨hl, ⟨hv, hn⟩ | ⟨g, cap', cur, hv, hbg, hr⟩⟩ := h
 ·exact ⟨hl, .inl ⟨hv, hn⟩⟩
 ·exact ⟨hl, .inr ⟨g, cap', cur, hv, Nat.le_trans hb hbg, hr⟩⟩
theorem row_bounds {w : World} {base : Nat} {t : TypeId} {size n : Nat} {v : Value} {xs : List Value} (h : w.ownsRow base t size v n xs) : ∀ k ∈ v.ownBlock.toList, base ≤ k ∧ k < w.heap.size := by
 intro k hk
 exact h.lt k (by simpa using hk)
theorem Chg.of_own {w w' : World} {v : Value} {E : List Nat} (h : w.grownBy w' v.ownBlock) (hE : ∀ k, v.ownBlock = some k → k ∈ E) : Chg E w w' :=
 ⟨h.os, h.tape, h.output, h.size, fun k hk hn => h.block k hk (fun e => hn (hE k e.symm))⟩

/-- A box's cells. -/
theorem cells_of {w : World} {N : Nat} {cs : Array Value} {t : TypeId} (h : w.heap[N]? = some (.cells cs t (0, 0))) : (∀ i, w.cell? ⟨N, i, none⟩ = cs[i]?) ∧ (∀ i, w.frozen? ⟨N, i, none⟩ = false) :=
 ⟨fun i => cell_of_row w N i cs t (0, 0) h, fun i => frozen_of_row w N i cs t h⟩
theorem heap_set {w : World} {N i : Nat} {cs : Array Value} {t : TypeId} (h : w.heap[N]? = some (.cells cs t (0, 0))) (v : Value) : (w.setCell ⟨N, i, none⟩ v).heap[N]? = some (.cells (cs.setIfInBounds i v) t (0, 0)) :=
 heap_setCell_same w N i cs t v h
theorem row_set {w : World} {base : Nat} {t : TypeId} {size n : Nat} {v : Value} {xs : List Value} (h : w.ownsRow base t size v n xs) {p : Addr} (hn : p.block ∉ v.ownBlock.toList) (u : Value) : (w.setCell p u).ownsRow base t size v n xs :=
 row_stab h fun _ hk => Below.heap_setCell _ _ _ _ fun e => hn (e ▸ hk)
def keepOk (n : Nat) (Γ : List Sp) (keep : List Nat) : Bool := keep.all fun i => decide (i < Γ.length) && (List.range n).all fun k => !((Γ.getD k (pu 0 [] undef)).eat.contains i)

/-- THE RULE, for use: what is kept at the end is named. -/
theorem rule {P : Program} (hm : P.follows .mixedOrders = true) {id : Nat} {ops : List Oper} {a0 : Act} {w : World} {Q : Exit → Act → World → Prop} (F0 ds : List Nat) (Γ : List Sp) (keep : List Nat)
 (hck : check ops Γ ds = true) (hkeep : keepOk ops.length Γ keep = true) (Fs0 : Nat → List Nat)
 (hin : ∀ i x, ops.length ≤ i → Γ[i]? = some x → x.A (a0.tmps.getD x.sub undef) w.drew (Fs0 i) ∧ ∀ k ∈ Fs0 i, k ∈ F0 ∧ k < w.heap.size)
 (hdj : ∀ i j, i ≠ j → ops.length ≤ i → ops.length ≤ j → ∀ k ∈ Fs0 i, k ∉ Fs0 j)
 (hob : Obs P a0 w.drew F0 ds Γ ops Γ)
 (hend : ∀ (us : Nat → Value) (w' : World) (Fs : Nat → List Nat), Chg F0 w.drew w' → Used Γ us w' Fs keep →
  (∀ i ∈ keep, ∀ k ∈ Fs i, (k ∈ F0 ∨ w.heap.size ≤ k) ∧ k < w'.heap.size) → (∀ i j, i ∈ keep → j ∈ keep → i ≠ j → ∀ k ∈ Fs i, k ∉ Fs j) →
  Q .normal (frame a0 ds us) w') :
 (Code.region id ops.toArray true).wp P Q a0 w := by
 simp only [keepOk, List.all_eq_true, Bool.and_eq_true, decide_eq_true_eq, List.mem_range, Bool.not_eq_true'] at hkeep
 have hk : ∀ i ∈ keep, ∀ k y, k < ops.length → Γ[k]? = some y → i ∉ y.eat := fun i hi k y hk hy h => by
  have := (hkeep i hi).2 k hk
  rw [show Γ.getD k (pu 0 [] undef) = y from by simp [List.getD_eq_getElem?_getD, hy]] at this
  rw [← Bool.not_eq_true, List.contains_iff_mem] at this
  exact this h
 have hx : ∀ i ∈ keep, ∃ x, Γ[i]? = some x := fun i hi => ⟨_, List.getElem?_eq_getElem (hkeep i hi).1⟩
 refine region hm F0 ds Γ Fs0 hck hin hdj hob fun us w' Fs hG hA hdis => ?_
 refine hend us w' Fs hG (used_of _ fun i x hi hx => (hA i x hx (hk i hi)).1) (fun i hi => ?_) (fun i j hi hj hij => ?_)
 ·obtain ⟨x, hx⟩ := hx i hi
  exact (hA i x hx (hk i hi)).2
 ·obtain ⟨x, hxi⟩ := hx i hi
  obtain ⟨y, hyj⟩ := hx j hj
  exact hdis i j x y hij hxi hyj (hk i hi) (hk j hj)

/-- Where nothing is held from the beginning. -/
theorem none_held {ops : List Oper} {Γ : List Sp} {a0 : Act} {w : World} {F0 : List Nat} {Fs0 : Nat → List Nat} (h : Γ.length = ops.length) :
 ∀ i x, ops.length ≤ i → Γ[i]? = some x → x.A (a0.tmps.getD x.sub undef) w.drew (Fs0 i) ∧ ∀ k ∈ Fs0 i, k ∈ F0 ∧ k < w.heap.size := by
 intro i x hi hx
 rw [List.getElem?_eq_none (by omega)] at hx
 cases hx
theorem Chg.belowF {F0 : List Nat} {w w' : World} {B : Nat} (h : Chg F0 w.drew w') (hB : B ≤ w.heap.size) (hF : ∀ k ∈ F0, B ≤ k) : Below B w w' :=
 ⟨h.os, h.tape, h.output, h.size, fun k hk => h.block k (Nat.lt_of_lt_of_le hk hB) (fun hm => by have := hF k hm; omega)⟩
theorem Chg.cellsF {F0 : List Nat} {w w' : World} (h : Chg F0 w.drew w') : (∀ b o, b < w.heap.size → b ∉ F0 → w'.cell? ⟨b, o, none⟩ = w.cell? ⟨b, o, none⟩) ∧ (∀ b o, b < w.heap.size → b ∉ F0 → w'.frozen? ⟨b, o, none⟩ = w.frozen? ⟨b, o, none⟩) :=
 ⟨fun b _ hb hn => World.cell?_of_block (w := w) (h.block b hb hn), fun b _ hb hn => World.frozen?_of_block (w := w) (h.block b hb hn)⟩

/-- A box that was there, at N. -/
def boxAt (s : Nat) (u e : List Nat) (N : Nat) (t : TypeId) (cs : Array Value) : Sp :=
 { sub := s, use := u, eat := e, A := fun x w F => x = .pointer (some ⟨N, 0, none⟩) ∧ w.heap[N]? = some (.cells cs t (0, 0)) ∧ F = [N],
   st := by rintro v w w' F ⟨rfl, h, rfl⟩ hk _; exact ⟨rfl, by rw [hk N (by simp)]; exact h, rfl⟩ }
/-- A box that was there, at N; its cells hold a row. -/
def boxAtIn (s : Nat) (u e : List Nat) (N : Nat) (bt : TypeId) (base : Nat) (t : TypeId) (size n : Nat) (xs : List Value) (f : Value → Array Value) : Sp :=
 { sub := s, use := u, eat := e, A := fun x w F => ∃ y, x = .pointer (some ⟨N, 0, none⟩) ∧ w.heap[N]? = some (.cells (f y) bt (0, 0)) ∧ w.ownsRow base t size y n xs ∧ F = N :: y.ownBlock.toList,
   st := by
    rintro v w w' F ⟨y, rfl, h, h2, rfl⟩ hk _
    exact ⟨y, rfl, by rw [hk N (by simp)]; exact h, row_stab h2 (fun k hk' => hk k (by simp only [List.mem_cons]; exact .inr hk')), rfl⟩ }

/-- One box is held from the beginning. -/
theorem one_held {ops : List Oper} {Γ : List Sp} {a0 : Act} {w : World} {x : Sp} {N : Nat} (h : Γ.length = ops.length + 1) (hx : Γ[ops.length]? = some x)
 (hA : x.A (a0.tmps.getD x.sub undef) w.drew [N]) (hN : N < w.heap.size) :
 ∀ i y, ops.length ≤ i → Γ[i]? = some y → y.A (a0.tmps.getD y.sub undef) w.drew ((fun i => if i = ops.length then [N] else []) i) ∧ ∀ k ∈ (fun i => if i = ops.length then [N] else []) i, k ∈ [N] ∧ k < w.heap.size := by
 intro i y hi hy
 by_cases e : i = ops.length
 ·subst e
  rw [hx] at hy
  cases hy
  simp only [if_pos]
  exact ⟨hA, fun k hk => ⟨hk, by simp at hk; omega⟩⟩
 ·rw [List.getElem?_eq_none (by omega)] at hy
  cases hy
theorem one_apart {n N : Nat} : ∀ i j, i ≠ j → n ≤ i → n ≤ j → ∀ k ∈ (fun i => if i = n then [N] else []) i, k ∉ (fun i => if i = n then [N] else []) j := by
 intro i j hij _ _ k hk
 simp only at hk ⊢
 split at hk
 ·rw [if_neg (by omega)]; simp
 ·simp at hk
end Go.Proofs.YtelkcohhagblaaaGreat.SL
namespace Go.Proofs.YtelkcohhagblaaaGreat
/-- What matters of a part: its span, its foot. -/
structure Pn where
 lo : Int
 hi : Int
 ft : Bool
deriving DecidableEq
instance : Inhabited Pn := ⟨⟨0, 0, false⟩⟩

/-- Two parts clash. -/
def clB (s : List Pn) (a b : Nat) : Bool := a != b && ((s.getD a default).ft && (s.getD b default).ft || decide ((s.getD a default).hi < (s.getD b default).lo) || decide ((s.getD b default).hi < (s.getD a default).lo))
def inB (l h : Int) (p : Pn) : Bool := decide (l ≤ p.lo) && decide (p.hi ≤ h)
def feet (s : List Pn) (l h : Int) : Nat := s.countP fun p => inB l h p && p.ft
def some1 (s : List Pn) (l h : Int) : Nat := if s.any (inB l h) then 1 else 0
/-- How many vessels a range needs. -/
def dem (s : List Pn) (l h : Int) : Nat := max (feet s l h) (some1 s l h)

/-- The greatest of a number and of what those with something give. -/
def fmax {α : Type} (c : α → Bool) (f : α → Nat) (l : List α) (m : Nat) : Nat := l.foldl (fun m p => if c p then max m (f p) else m) m
/-- The best sum for colours up to h, out of those for fewer. -/
def stepB (s : List Pn) (b : Nat → Nat) (h : Nat) : Nat :=
 if s.any (fun p => decide (p.hi = (h : Int))) then fmax (fun p => decide (p.lo ≤ (h : Int))) (fun p => b p.lo.toNat + dem s p.lo h) s (b h) else b h
def bestL (s : List Pn) : Nat → List Nat
 | 0 => [0]
 | h + 1 => bestL s h ++ [stepB s (fun i => (bestL s h).getD i 0) h]
def BB (s : List Pn) (h : Nat) : Nat := (bestL s h).getD h 0
end Go.Proofs.YtelkcohhagblaaaGreat

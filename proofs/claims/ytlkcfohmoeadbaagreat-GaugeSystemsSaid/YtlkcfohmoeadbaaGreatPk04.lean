/-
  Lemmas and walks for the laws on bounds and their sums; the parts' own heads say what each proves, for every input.
-/
import Derived.Test.YtlkcfohmoeadbaaGreatPk03
import Derived.Deep.QuietTactic
import Derived.TacticsIn
import Derived.Test.YtlkcfohmoeadbaaGreatPk02
import Derived.Deep.RegionWith
set_option linter.unusedSimpArgs false
set_option linter.unusedVariables false
set_option linter.unnecessarySimpa false
/-
  A region that draws its order, whose first operations only read, and all come ahead of the others, which stand in the text's order: one walk.
-/
namespace Go.Proofs.YtlkcfohmoeadbaaGreat
open Go Go.RowKit

def cutOk (ops : List Oper) (m : Nat) : Bool :=
  decide (m ≤ ops.length) && ((SL.anc ops).length == ops.length) && SLF.noDef ops &&
  ((List.range ops.length).all fun j => (ops.getD j default).after.toList.all fun e => !Region.binds .any e || decide (e.on < j)) &&
  ((List.range ops.length).all fun j => (((SL.anc ops).getD j [])).all fun i => (ops.getD j default).after.toList.any fun e => Region.binds .any e && (e.on == i || ((SL.anc ops).getD e.on []).contains i)) &&
  ((List.range ops.length).all fun j => decide (j < m) || (List.range j).all fun i => ((SL.anc ops).getD j []).contains i) &&
  (List.range ops.length).all fun j => decide (m ≤ j) || match (ops.getD j default).guard with | some (g, _) => decide (g < m) | none => true

structure Cut (ops : List Oper) (m : Nat) : Prop where
  le : m ≤ ops.length
  nodef : ∀ o ∈ ops, ∀ c, o.op ≠ .defer c
  low : ∀ j o, ops[j]? = some o → ∀ e ∈ o.after, Region.binds .any e = true → e.on < j
  anc : ∀ j o, ops[j]? = some o → ∀ i ∈ (SL.anc ops).getD j [], ∃ e ∈ o.after, Region.binds .any e = true ∧ (e.on = i ∨ i ∈ (SL.anc ops).getD e.on [])
  gd : ∀ j o, ops[j]? = some o → j < m → ∀ g want, o.guard = some (g, want) → g < m
  tail : ∀ j, m ≤ j → j < ops.length → ∀ i, i < j → i ∈ (SL.anc ops).getD j []

theorem cut_of {ops : List Oper} {m : Nat} (h : cutOk ops m = true) : Cut ops m := by
  simp only [cutOk, Bool.and_eq_true, List.all_eq_true, List.mem_range, decide_eq_true_eq, Bool.or_eq_true, Bool.not_eq_true', beq_iff_eq, List.contains_iff_mem] at h
  obtain ⟨⟨⟨⟨⟨⟨h1, h2⟩, h3⟩, h4⟩, h5⟩, h6⟩, h7⟩ := h
  have hop : ∀ j o, ops[j]? = some o → j < ops.length ∧ ops.getD j default = o := fun j o ho => ⟨(List.getElem?_eq_some_iff.1 ho).1, by simp [List.getD_eq_getElem?_getD, ho]⟩
  refine ⟨h1, SLF.noDef_of h3, fun j o ho e he hb => ?_, fun j o ho i hi => ?_, fun j o ho hjm g want hg => ?_, fun j hm hj i hi => ?_⟩
  · obtain ⟨hj, he'⟩ := hop j o ho
    rcases h4 j hj e (by rw [he']; simpa using he) with h | h
    · rw [hb] at h; cases h
    · exact h
  · obtain ⟨hj, he'⟩ := hop j o ho
    have := h5 j hj i hi
    rw [he', List.any_eq_true] at this
    obtain ⟨e, he, hb⟩ := this
    simp only [Bool.and_eq_true, Bool.or_eq_true, beq_iff_eq, List.contains_iff_mem] at hb
    exact ⟨e, by simpa using he, hb.1, hb.2⟩
  · obtain ⟨hj, he'⟩ := hop j o ho
    rcases h7 j hj with h | h
    · omega
    · rw [he', hg] at h
      simpa using h
  · rcases h6 j hj with h | h
    · omega
    · exact h i hi

theorem mem_ready {ops : Array Oper} {L : Array Bool} {i : Nat} (hsz : L.size = ops.size) : i ∈ Region.ready .any ops L ↔ i < ops.size ∧ L.getD i false = false ∧ ∀ o, ops[i]? = some o → ∀ e ∈ o.after, Region.binds .any e = true → L.getD e.on false = true := by
  simp only [Region.ready, List.mem_filter, List.mem_range, Bool.and_eq_true, Bool.not_eq_true']
  constructor
  · rintro ⟨h1, h2, h3⟩
    refine ⟨h1, (by have hh : i < L.size := by omega
                    simp [Array.getD, hh] at h2 ⊢; exact h2), fun o ho e he hb => ?_⟩
    simp only [ho, Option.map_some, Option.getD_some, Array.all_eq_true'] at h3
    have := h3 e he
    simpa [hb] using this
  · rintro ⟨h1, h2, h3⟩
    refine ⟨h1, (by have : i < L.size := by omega
                    simp [Array.getD, this] at h2 ⊢; exact h2), ?_⟩
    have ho : ops[i]? = some ops[i] := Array.getElem?_eq_getElem h1
    simp only [ho, Option.map_some, Option.getD_some, Array.all_eq_true']
    intro e he
    by_cases hb : Region.binds .any e = true
    · simpa [hb] using h3 _ ho e he hb
    · simp at hb; simp [hb]

section
variable {P : Program} {ro : Option Nat} {ops : List Oper} {m : Nat} {Q : Exit → Act → World → Prop}

theorem tail_run (hc : Cut ops m) : ∀ (t : Nat) (j : Nat) (L : Array Bool) (a : Act) (w : World), m ≤ j → j + t = ops.length → (∀ i, L.getD i false = decide (i < j)) → L.size = ops.length →
    wpListIn { Fence.wide with round := ro } 0 P ops.toArray Q (ops.drop j) a w → wpAnyIn { Fence.wide with round := ro } 0 P .any ops.toArray Q t L a w := by
  intro t
  induction t with
  | zero =>
    intro j L a w hm hj hL hsz h
    rw [List.drop_eq_nil_of_le (by omega)] at h
    refine ⟨?_, h⟩
    rw [List.eq_nil_iff_forall_not_mem]
    intro i hi
    obtain ⟨h1, h2, _⟩ := (mem_ready (by simp; omega)).1 hi
    rw [hL] at h2
    simp at h1 h2
    omega
  | succ t ih =>
    intro j L a w hm hj hL hsz h
    have hjl : j < ops.length := by omega
    have hrj : ∀ i, i ∈ Region.ready .any ops.toArray L ↔ i = j := by
      intro i
      rw [mem_ready (by simpa using hsz)]
      constructor
      · rintro ⟨h1, h2, h3⟩
        rw [hL] at h2
        simp at h1 h2
        rcases Nat.lt_or_ge j i with h4 | h4
        · exfalso
          have hi : ops[i]? = some ops[i] := List.getElem?_eq_getElem h1
          obtain ⟨e, he, hb, hon⟩ := hc.anc i _ hi j (hc.tail i (by omega) h1 j h4)
          have h5 := h3 _ (by simpa using hi) e he hb
          rw [hL] at h5
          simp at h5
          have h6 := hc.low i _ hi e he hb
          rcases hon with h7 | h7
          · omega
          · obtain ⟨e2, he2, hb2, hon2⟩ := hc.anc e.on _ (List.getElem?_eq_getElem (by omega)) j h7
            have := hc.low e.on _ (List.getElem?_eq_getElem (by omega)) e2 he2 hb2
            have hlt : ∀ x y, y ∈ (SL.anc ops).getD x [] → x < ops.length → y < x := by
              intro x
              induction x using Nat.strongRecOn with
              | _ x ihx =>
                intro y hy hx
                obtain ⟨e3, he3, hb3, hon3⟩ := hc.anc x _ (List.getElem?_eq_getElem hx) y hy
                have hl3 := hc.low x _ (List.getElem?_eq_getElem hx) e3 he3 hb3
                rcases hon3 with h | h
                · omega
                · have := ihx _ hl3 y h (by omega); omega
            have := hlt e.on j h7 (by omega)
            omega
        · omega
      · rintro rfl
        refine ⟨by simpa using hjl, by rw [hL]; simp, fun o ho e he hb => ?_⟩
        rw [hL]
        simp
        exact hc.low _ o (by simpa using ho) e he hb
    refine ⟨fun hr => ?_, fun i hi => ?_⟩
    · have := (hrj j).2 rfl
      rw [hr] at this
      cases this
    · obtain rfl := (hrj i).1 hi
      have ho : ops[i]? = some ops[i] := List.getElem?_eq_getElem hjl
      rw [List.drop_eq_getElem_cons hjl] at h
      unfold wpOpIn
      simp only [List.getElem?_toArray, ho]
      have hL2 : ∀ x, (L.setIfInBounds i true).getD x false = decide (x < i + 1) := fun x => by
        by_cases e : x = i
        · subst e; simp [Array.getD, hsz, hjl]
        · have h9 := hL x
          rw [show (L.setIfInBounds i true).getD x false = L.getD x false from by
            by_cases hx : x < L.size
            · simp [Array.getD, hx, Ne.symm e]
            · simp [Array.getD, hx]]
          rw [h9]
          by_cases h1 : x < i
          · simp [h1]; omega
          · have : ¬ x < i + 1 := by omega
            simp [h1, this]
      simp only [wpListIn] at h
      split at h
      · rename_i hw
        rw [if_pos hw]
        exact Oper.wpIn_mono (fun a' w' h' => ih (i + 1) _ a' w' (by omega) (by omega) hL2 (by simpa using hsz) h') h
      · rename_i hw
        rw [if_neg hw]
        exact ⟨h.1, ih (i + 1) _ _ _ (by omega) (by omega) hL2 (by simpa using hsz) h.2⟩

theorem cut_run (hc : Cut ops m) {C : World → Prop} {Qq : Act → Prop} (hQ : ∀ a w, C w → Qq a → wpListIn { Fence.wide with round := ro } 0 P ops.toArray Q (ops.drop m) a w) :
    ∀ (f : Nat) (l L : Array Bool) (a : Act) (w : World), C w → l.size = m → L.size = ops.length → (∀ i, L.getD i false = l.getD i false) → l.toList.count false = f →
      (∀ j o, l.getD j false = true → ops[j]? = some o → ∀ e ∈ o.after, Region.binds .any e = true → l.getD e.on false = true) →
      wpAnyQ P .any (ops.take m).toArray C Qq f l a → wpAnyIn { Fence.wide with round := ro } 0 P .any ops.toArray Q (f + (ops.length - m)) L a w := by
  have hle := hc.le
  -- an operation of the tail comes up only when all are done
  have hup : ∀ (l L : Array Bool), l.size = m → L.size = ops.length → (∀ i, L.getD i false = l.getD i false) → (∀ j o, l.getD j false = true → ops[j]? = some o → ∀ e ∈ o.after, Region.binds .any e = true → l.getD e.on false = true) →
      ∀ i, m ≤ i → i ∈ Region.ready .any ops.toArray L → ∀ k, k < m → l.getD k false = true := by
    intro l L hl hLs hL hcl i hmi hi k hk
    obtain ⟨h1, h2, h3⟩ := (mem_ready (by simp; omega)).1 hi
    simp at h1
    have hcl2 : ∀ x y, l.getD x false = true → y ∈ (SL.anc ops).getD x [] → x < ops.length → l.getD y false = true := by
      intro x
      induction x using Nat.strongRecOn with
      | _ x ihx =>
        intro y hx hy hxl
        obtain ⟨e3, he3, hb3, hon3⟩ := hc.anc x _ (List.getElem?_eq_getElem hxl) y hy
        have hl3 := hc.low x _ (List.getElem?_eq_getElem hxl) e3 he3 hb3
        have hd := hcl x _ hx (List.getElem?_eq_getElem hxl) e3 he3 hb3
        rcases hon3 with h | h
        · rw [← h]; exact hd
        · exact ihx _ hl3 y hd h (by omega)
    have hi' : ops[i]? = some ops[i] := List.getElem?_eq_getElem h1
    obtain ⟨e, he, hb, hon⟩ := hc.anc i _ hi' k (hc.tail i hmi h1 k (by omega))
    have hd := h3 _ (by simpa using hi') e he hb
    rw [hL] at hd
    rcases hon with h | h
    · rw [← h]; exact hd
    · exact hcl2 _ _ hd h (by have := hc.low i _ hi' e he hb; omega)
  have hfull : ∀ (l L : Array Bool) (a : Act) (w : World), C w → l.size = m → L.size = ops.length → (∀ i, L.getD i false = l.getD i false) → (∀ k, k < m → l.getD k false = true) → Qq a → wpAnyIn { Fence.wide with round := ro } 0 P .any ops.toArray Q (ops.length - m) L a w := by
    intro l L a w hw hl hLs hL hall hq
    refine tail_run hc _ m L a w (Nat.le_refl _) (by omega) (fun i => ?_) hLs (hQ a w hw hq)
    rw [hL]
    by_cases h : i < m
    · rw [hall i h]; simp [h]
    · simp [Array.getD, hl, h]
  intro f
  induction f with
  | zero =>
    intro l L a w hw hl hLs hL hcnt hcl h
    rw [Nat.zero_add]
    refine hfull l L a w hw hl hLs hL (fun k hk => ?_) h.2
    have := List.count_eq_zero.1 hcnt
    cases hv : l.getD k false with
    | true => rfl
    | false =>
      exfalso
      apply this
      have hk' : k < l.size := by omega
      simp [Array.getD, hk'] at hv
      rw [← hv]
      simp
  | succ f ih =>
    intro l L a w hw' hl hLs hL hcnt hcl h
    obtain ⟨h0, h1⟩ := h
    rw [show f + 1 + (ops.length - m) = (f + (ops.length - m)) + 1 by omega]
    -- some one is not done
    obtain ⟨k0, hk0, hk1⟩ : ∃ k, k < m ∧ l.getD k false = false := by
      have : false ∈ l.toList := by
        rw [← List.count_pos_iff, hcnt]; omega
      obtain ⟨k, hk, he⟩ := List.getElem_of_mem this
      refine ⟨k, by simpa [hl] using hk, ?_⟩
      have hk' : k < l.size := by simpa using hk
      simp [Array.getD, hk']
      simpa using he
    have hmem : ∀ i, i ∈ Region.ready .any ops.toArray L → i < m ∧ i ∈ Region.ready .any (ops.take m).toArray l := by
      intro i hi
      have him : i < m := by
        rcases Nat.lt_or_ge i m with h | h
        · exact h
        · have := hup l L hl hLs hL hcl i h hi k0 hk0
          rw [hk1] at this; cases this
      refine ⟨him, ?_⟩
      obtain ⟨q1, q2, q3⟩ := (mem_ready (by simp; omega)).1 hi
      refine (mem_ready (by simp; omega)).2 ⟨by simp; omega, by rw [← hL]; exact q2, fun o ho e he hb => ?_⟩
      rw [← hL]
      refine q3 o ?_ e he hb
      simp only [List.getElem?_toArray] at ho ⊢
      rw [List.getElem?_take] at ho
      rwa [if_pos him] at ho
    refine ⟨fun hr => ?_, fun i hi => ?_⟩
    · -- the least one that is not done is ready
      exfalso
      have : ∀ n, (∀ k, k < n → k < m → l.getD k false = true) ∨ ∃ k, k ∈ Region.ready .any ops.toArray L := by
        intro n
        induction n with
        | zero => exact .inl fun k hk => by omega
        | succ n ihn =>
          rcases ihn with h | h
          · by_cases hn : n < m
            · by_cases hv : l.getD n false = true
              · refine .inl fun k hk hkm => ?_
                rcases Nat.lt_or_ge k n with h' | h'
                · exact h k h' hkm
                · rw [show k = n by omega]; exact hv
              · simp only [Bool.not_eq_true] at hv
                refine .inr ⟨n, (mem_ready (by simp; omega)).2 ⟨by simp; omega, by rw [hL]; exact hv, fun o ho e he hb => ?_⟩⟩
                rw [hL]
                have := hc.low n o (by simpa using ho) e he hb
                exact h _ this (by omega)
            · exact .inl fun k hk hkm => h k (by omega) hkm
          · exact .inr h
      rcases this m with h | ⟨k, hk⟩
      · have := h k0 hk0 hk0; rw [hk1] at this; cases this
      · rw [hr] at hk; cases hk
    · obtain ⟨him, hir⟩ := hmem i hi
      have hil : i < ops.length := by omega
      have ho : ops[i]? = some ops[i] := List.getElem?_eq_getElem hil
      have hot : (ops.take m)[i]? = some ops[i] := by rw [List.getElem?_take, if_pos him]; exact ho
      obtain ⟨q1, q2, q3⟩ := (mem_ready (by simp; omega)).1 hir
      have hset : ∀ x, (l.setIfInBounds i true).getD x false = if x = i then true else l.getD x false := fun x => by
        by_cases e : x = i
        · subst e; simp [Array.getD, hl, him]
        · by_cases hx : x < l.size
          · simp [Array.getD, hx, Ne.symm e, e]
          · simp [Array.getD, hx, e]
      have hset2 : ∀ x, (L.setIfInBounds i true).getD x false = if x = i then true else L.getD x false := fun x => by
        by_cases e : x = i
        · subst e; simp [Array.getD, hLs, hil]
        · by_cases hx : x < L.size
          · simp [Array.getD, hx, Ne.symm e, e]
          · simp [Array.getD, hx, e]
      have next : ∀ a' w', C w' → wpAnyQ P .any (ops.take m).toArray C Qq f (l.setIfInBounds i true) a' → wpAnyIn { Fence.wide with round := ro } 0 P .any ops.toArray Q (f + (ops.length - m)) (L.setIfInBounds i true) a' w' := fun a' w' hw' h' => by
        refine ih _ _ a' w' hw' (by simpa using hl) (by simpa using hLs) (fun x => by rw [hset, hset2, hL]) ?_ ?_ h'
        · have hi' : i < l.size := by omega
          have hv : l.toList[i]'(by simpa using hi') = false := by
            simp [Array.getD, hi'] at q2; simpa using q2
          rw [Array.toList_setIfInBounds]
          have := List.count_set (l := l.toList) (i := i) (a := true) (b := false) (by simpa [Array.length_toList] using hi')
          rw [this]
          simp [hv, hcnt]
        · intro j o hj hoj e he hb
          rw [hset] at hj ⊢
          split
          · rfl
          · by_cases e' : j = i
            · subst e'
              refine q3 o ?_ e he hb
              simp only [List.getElem?_toArray, List.getElem?_take, if_pos him]
              exact hoj
            · rw [if_neg e'] at hj
              exact hcl j o hj hoj e he hb
      have h2 := h1 i hir
      unfold qOp at h2
      unfold wpOpIn
      simp only [List.getElem?_toArray, hot] at h2
      simp only [List.getElem?_toArray, ho]
      -- the guard looks at the same slot
      have hgd : Region.wanted ops[i] (yielded (ops.take m).toArray a.tmps) = Region.wanted ops[i] (yielded ops.toArray a.tmps) := by
        unfold Region.wanted
        split
        · rfl
        · rename_i j want hg
          have hjm := hc.gd i _ ho him j want hg
          unfold yielded
          simp only [List.getElem?_toArray, List.getElem?_take, if_pos hjm]
      rw [← hgd]
      split
      · rename_i hw
        rw [if_pos hw] at h2
        have h3 := Oper.wp_of_quiet (K' := wpAnyIn { Fence.wide with round := ro } 0 P .any ops.toArray Q (f + (ops.length - m)) (L.setIfInBounds i true)) (Q' := fun _ _ _ => False) hw' next h2
        exact SLF.wpIn_of_wp (hc.nodef _ (List.getElem_mem _)) h3
      · rename_i hw
        rw [if_neg hw] at h2
        exact ⟨fun _ _ => trivial, next _ _ hw' h2⟩
end

/-- THE RULE: m operations that only read, then the others in the text's order. -/
theorem region_cut_at {P : Program} (hm : P.follows .mixedOrders = true) {ro : Option Nat} {id : Nat} {ops : List Oper} {Q : Exit → Act → World → Prop} {a : Act} {w : World} (m : Nat) (hck : cutOk ops m = true)
    (hB : Region.lexB .any (ops.take m).toArray = true) (h : wpQuiet P (ops.take m).toArray (fun w' => ∃ n, w' = w.drewN n) (fun a' => ∀ w', (∃ n, w' = w.drewN n) → wpListIn { Fence.wide with round := ro } 0 P ops.toArray Q (ops.drop m) a' w') (ops.take m) a) :
    (Code.region id ops.toArray true).wpIn { Fence.wide with round := ro } 0 P Q a w := by
  have hc := cut_of hck
  have hle := hc.le
  simp only [Region.lexB, Bool.and_eq_true] at hB
  refine wpIn_region_any hm ?_
  have h2 := wpAnyQ_lex (md := .any) hB.1 (ops.take m) 0 (Array.replicate (ops.take m).length false) a (by simp) (by simpa using hB.2) h
  have h3 := cut_run (ro := ro) (Q := Q) hc (fun a' w' hw' hq => hq w' hw') (ops.take m).length (Array.replicate (ops.take m).length false) (Array.replicate ops.length false) a { w with drawn := w.drawn + 1 } ⟨1, rfl⟩ (by simp; omega) (by simp)
    (fun i => by simp [Array.getD]) (by simp) (fun j o hj => by simp [Array.getD] at hj) h2
  have hz : (ops.take m).length + (ops.length - m) = ops.toArray.size := by simp; omega
  rw [hz] at h3
  simpa using h3

end Go.Proofs.YtlkcfohmoeadbaaGreat

/-
  The sums of layer 1, as data: one bound, one pass, the passes until nothing changes.
-/
namespace Go.Proofs.YtlkcfohmoeadbaaGreat
open Go.RowKit

def FAR : Int := 1099511627776
def gi (l : List Int) (i : Int) : Int := l.getD i.toNat 0
def ints (l : List Int) : Array Value := (l.map (Value.int .i64)).toArray

/-- May this bound be used? -/
def opens (far : Int) (r : List Int) (b : Bd) : Bool := decide (gi r b.frm < far) && decide (gi r b.frm + b.most < gi r b.tow)

theorem opens_FAR {r : List Int} {b : Bd} : opens FAR r b = true ↔ gi r b.frm < 1099511627776 ∧ gi r b.frm + b.most < gi r b.tow := by
  unfold opens
  rw [Bool.and_eq_true, decide_eq_true_eq, decide_eq_true_eq]
  rfl

/-- Sums, the last bounds, and how many bounds have been passed. -/
structure RL where
  r : List Int
  last : List Int
  nx : Nat
def RL.upd (s : RL) (k : Nat) (b : Bd) : RL := ⟨s.r.set b.tow.toNat (gi s.r b.frm + b.most), s.last.set b.tow.toNat k, k + 1⟩
def RL.step (far : Int) (s : RL) (k : Nat) (b : Bd) : RL := if opens far s.r b then s.upd k b else s
/-- k bounds of a pass. -/
def RL.pass (far : Int) (bs : List Bd) (s : RL) : Nat → RL
  | 0 => { s with nx := 0 }
  | k + 1 => (RL.pass far bs s k).step far k (bs.getD k default)
/-- The passes until nothing changes. -/
def settle (far : Int) (bs : List Bd) : Nat → RL → RL × Bool
  | 0, s => (s, false)
  | n + 1, s => if (s.pass far bs bs.length).r = s.r then (s.pass far bs bs.length, true) else settle far bs n (s.pass far bs bs.length)

/-- A bound between two of 60 points. -/
structure Bd.inr (b : Bd) : Prop where
  f0 : 0 ≤ b.frm
  f1 : b.frm < 60
  t0 : 0 ≤ b.tow
  t1 : b.tow < 60
  m0 : -100000000 ≤ b.most
  m1 : b.most ≤ 100000000

structure RL.ok (lo : Int) (s : RL) : Prop where
  rl : s.r.length = 60
  ll : s.last.length = 60
  lows : ∀ i : Int, 0 ≤ i → i < 60 → lo - s.nx * 100000000 ≤ gi s.r i ∧ gi s.r i ≤ FAR

theorem gi_set {l : List Int} {i j : Int} {v : Int} (hi : 0 ≤ i) (hi' : i.toNat < l.length) (hj : 0 ≤ j) : gi (l.set i.toNat v) j = if j = i then v else gi l j := by
  unfold gi
  simp only [List.getD_eq_getElem?_getD, List.getElem?_set]
  by_cases h : i.toNat = j.toNat
  · have : j = i := by omega
    subst this
    simp [hi']
  · have : j ≠ i := fun e => h (by rw [e])
    simp [h, this]

theorem RL.ok.upd {lo : Int} {s : RL} (h : s.ok lo) {k : Nat} {b : Bd} (hb : b.inr) (hk : s.nx ≤ k) (ho : opens FAR s.r b = true) : (s.upd k b).ok lo := by
  refine ⟨by simp [RL.upd, h.rl], by simp [RL.upd, h.ll], fun i h0 h1 => ?_⟩
  have h2 := h.lows i h0 h1
  have h3 := h.lows b.frm hb.f0 hb.f1
  have h4 := h.lows b.tow hb.t0 hb.t1
  have h5 := hb.m0
  simp only [opens, Bool.and_eq_true, decide_eq_true_eq] at ho
  have ht := hb.t0
  have ht1 := hb.t1
  simp only [RL.upd]
  rw [gi_set hb.t0 (by rw [h.rl]; omega) h0]
  split <;> constructor <;> (push_cast; omega)

theorem RL.pass_nx (far : Int) (bs : List Bd) (s : RL) : ∀ k, (s.pass far bs k).nx ≤ k
  | 0 => by simp [RL.pass]
  | k + 1 => by
    have := RL.pass_nx far bs s k
    simp only [RL.pass, RL.step]
    split
    · simp [RL.upd]
    · omega

theorem RL.ok.pass {lo : Int} {s : RL} (h : RL.ok lo { s with nx := 0 }) {bs : List Bd} (hb : ∀ b ∈ bs, b.inr) : ∀ k, k ≤ bs.length → (s.pass FAR bs k).ok lo
  | 0, _ => h
  | k + 1, hk => by
    have ih := RL.ok.pass h hb k (by omega)
    simp only [RL.pass, RL.step]
    split
    · rename_i ho
      refine ih.upd (hb _ ?_) (RL.pass_nx _ _ _ _) ho
      rw [List.getD_eq_getElem?_getD, List.getElem?_eq_getElem (by omega)]
      exact List.getElem_mem _
    · exact ih

theorem RL.ok.reset {lo : Int} {s : RL} (h : s.ok lo) {m : Nat} (hm : s.nx ≤ m) : RL.ok (lo - m * 100000000) { s with nx := 0 } :=
  ⟨h.rl, h.ll, fun i h0 h1 => by have := h.lows i h0 h1; simp; omega⟩

theorem ints_get (l : List Int) (i : Nat) (h : i < l.length) : (ints l)[i]? = some (.int .i64 (l.getD i 0)) := by
  simp [ints, List.getD_eq_getElem?_getD, List.getElem?_eq_getElem h]
theorem ints_set (l : List Int) (i : Nat) (v : Int) : (ints l).setIfInBounds i (.int .i64 v) = ints (l.set i v) := by
  simp [ints, List.map_set]
theorem gi_cell {l : List Int} {i : Int} (h0 : 0 ≤ i) (h : i < l.length) : (ints l)[i.toNat]? = some (.int .i64 (gi l i)) := by
  rw [ints_get l _ (by omega)]; rfl

theorem BdsAt.chg {w w' : World} {a : Option Addr} {n cap : Nat} {bs : List Bd} {E : List Nat} (h : BdsAt w a n cap bs) (hc : SL.Chg E w w') (hE : ∀ x, a = some x → x.block ∉ E) : BdsAt w' a n cap bs := by
  refine ⟨h.len, h.small, h.nil, fun x hx => ?_⟩
  obtain ⟨h1, h2, h3⟩ := h.at_ x hx
  refine ⟨h1, by have := hc.size; omega, fun i hi => ?_⟩
  have hk : ∀ o, w'.cell? ⟨x.block, o, none⟩ = w.cell? ⟨x.block, o, none⟩ := fun o => World.cell?_of_block (w := w) (hc.block _ h2 (hE x hx))
  rw [hk, hk, hk, hk]
  exact h3 i hi

end Go.Proofs.YtlkcfohmoeadbaaGreat

/-
  The reference of layer 1, walked: within, point, CheckSystem, has.
-/
namespace Go.Proofs.YtlkcfohmoeadbaaGreat
open Go.RowKit
set_option maxHeartbeats 1000000

theorem rwithin_any (n lo hi : Int) (w : World) :
    Calls Tryz.prog 37 #[.int .i64 n, .int .i64 lo, .int .i64 hi] w fun e w' => e = .returned (.bool (withinB n lo hi)) ∧ w = w' := by
  by_cases h1 : lo ≤ n <;>
  · go_enter Tryz.func37, Tryz.ntmps37
    go_wp2
    go_ret
    exact ⟨by simp [withinB, *] <;> omega, rfl⟩

theorem rpoint_any (p : Int) (a : Option Addr) (len cap : Nat) (n : Int) (w : World) :
    Calls Tryz.prog 40 #[.agg #[.int .i64 p, .slice a len cap], .int .i64 n] w fun e w' => e = .returned (.bool (withinB n 0 (p-1))) ∧ Below w.heap.size w w' := by
  by_cases h1 : 0 ≤ n <;>
  · go_enter Tryz.func40, Tryz.ntmps40
    go_wp2
    go_ret
    exact ⟨by simp [withinB, *] <;> omega, (Below.refl _ _).alloc (Nat.le_refl _) _⟩

def Bd.ok (p : Int) (b : Bd) : Bool := withinB b.frm 0 (p-1) && withinB b.tow 0 (p-1) && !(b.frm == b.tow) && withinB b.most (-1000000) 1000000 && withinB b.bid 0 1000000
def chk (p : Int) (bs : List Bd) : Int := if p > 60 ∨ bs.length > 400 then 2 else if p < 1 then 1 else if bs.all (Bd.ok p) then 0 else 1

theorem take_succ_all {α : Type} [Inhabited α] {f : α → Bool} {l : List α} {k : Nat} (hk : k < l.length) (h : (l.take k).all f = true) (hx : f (l.getD k default) = true) : (l.take (k + 1)).all f = true := by
  rw [List.take_succ_eq_append_getElem hk, List.all_append, h]
  simpa [List.getD_eq_getElem?_getD, List.getElem?_eq_getElem hk] using hx
theorem all_false_of {α : Type} [Inhabited α] {f : α → Bool} {l : List α} {k : Nat} (hk : k < l.length) (hx : f (l.getD k default) = false) : l.all f = false := by
  rw [List.all_eq_false]
  exact ⟨l[k], List.getElem_mem hk, by simpa [List.getD_eq_getElem?_getD, List.getElem?_eq_getElem hk] using hx⟩

theorem chk_bad {p : Int} {bs : List Bd} {k : Nat} (h1 : ¬ 60 < p) (h2 : ¬ 400 < bs.length) (h3 : ¬ p < 1) (hk : k < bs.length) (h : Bd.ok p (bs.getD k default) = false) : chk p bs = 1 := by
  rw [chk, if_neg (by omega), if_neg h3, all_false_of hk h]; rfl
theorem chk_good {p : Int} {bs : List Bd} (h1 : ¬ 60 < p) (h2 : ¬ 400 < bs.length) (h3 : ¬ p < 1) (h : bs.all (Bd.ok p) = true) : chk p bs = 0 := by
  rw [chk, if_neg (by omega), if_neg h3, if_pos h]

theorem rcheck_any (p : Int) (a : Option Addr) (n cap : Nat) (bs : List Bd) (w : World) (hb : BdsAt w a n cap bs) :
    Calls Tryz.prog 11 #[.agg #[.int .i64 p, .slice a n cap]] w fun e w' => e = .returned (.int .i64 (chk p bs)) ∧ Below w.heap.size w w' := by
  have hlen := hb.small
  obtain rfl := hb.len
  by_cases h1 : 60 < p
  · go_enter Tryz.func11, Tryz.ntmps11
    go_wp2
    go_ret
    exact ⟨by simp [chk, h1], (Below.refl _ _).alloc (Nat.le_refl _) _⟩
  by_cases h2 : 400 < bs.length
  · go_enter Tryz.func11, Tryz.ntmps11
    go_wp2
    go_ret
    exact ⟨by simp [chk, h2], (Below.refl _ _).alloc (Nat.le_refl _) _⟩
  by_cases h3 : p < 1
  · go_enter Tryz.func11, Tryz.ntmps11
    go_wp2
    go_ret
    exact ⟨by simp [chk, h1, h2, h3], (Below.refl _ _).alloc (Nat.le_refl _) _⟩
  go_enter Tryz.func11, Tryz.ntmps11
  go_wp2
  go_loopw [3] (fun i wr => ∃ k : Nat, k ≤ bs.length ∧ i = .int .i64 k ∧ Below (w.heap.size+1) (w.alloc (Obj.cells #[Value.int IntKind.i64 p, Value.slice a bs.length cap] 24)) wr ∧ (bs.take k).all (Bd.ok p) = true) (fun i _ => bs.length - (intOf i).toNat)
  case atStart => exact ⟨0, Nat.zero_le _, rfl, Below.refl _ _, rfl⟩
  case round =>
    obtain ⟨k, hk, rfl, hB, hall⟩ := hrel
    have hsz : w.heap.size < wr.heap.size := by have := hB.size; simp at this; omega
    obtain ⟨hc, hf⟩ := bcell hB
    have Hall := Lib.hid hall
    clear hall
    by_cases hlt : k < bs.length
    · obtain ⟨b, off, rfl, hbl, d0, d1, d2, d3⟩ := hb.get hlt
      have hbl' : b < w.heap.size + 1 := by omega
      generalize hx : bs.getD k default = x at *
      have Hx := Lib.hid hx
      clear hx
      have hnn : (0 : Int) ≤ k := by omega
      have hrel1 : ∀ w2 : World, Below wr.heap.size wr w2 → Below (w.heap.size+1) (w.alloc (Obj.cells #[Value.int IntKind.i64 p, Value.slice (some ⟨b, off, none⟩) bs.length cap] 24)) w2 := fun w2 h => hB.trans (h.mono (by omega))
      rcases first5 (withinB x.frm 0 (p-1)) (withinB x.tow 0 (p-1)) (!(x.frm == x.tow)) (withinB x.most (-1000000) 1000000) (withinB x.bid 0 1000000) with h | ⟨g1, h⟩ | ⟨g1, g2, h⟩ | ⟨g1, g2, g3, h⟩ | ⟨g1, g2, g3, g4, h⟩ | ⟨g1, g2, g3, g4, g5⟩
      all_goals try simp only [Bool.not_eq_eq_eq_not, Bool.not_true, Bool.not_false] at *
      all_goals cases hto : withinB x.tow 0 (p-1)
      all_goals try (exfalso; simp_all; done)
      all_goals go_wp2_with (first | (go_at_call 40; refine (rpoint_any _ _ _ _ _ _).mono ?_; rintro e w1 ⟨rfl, hb1⟩; obtain ⟨hc1, hf1⟩ := bcell hb1; have hz1a := lt_size hb1 (b := w.heap.size) (by first | assumption | omega | (simp; done) | (simp; omega)); have hz1b := lt_size hb1 (b := wr.heap.size) (by first | assumption | omega | (simp; done) | (simp; omega))) | (go_at_call 37; refine (rwithin_any _ _ _ _).mono ?_; rintro e w1 ⟨rfl, rfl⟩))
      case roundEnd =>
        go_roundw
        case rel => exact ⟨k + 1, by omega, by go_num, hB.trans (Below.mono (B := wr.heap.size) (by ((repeat (first | assumption | exact Below.refl _ _ | refine Below.alloc ?_ ?_ _ | refine Below.setCell ?_ ?_ _ | refine Below.drew ?_ | refine belowN ?_ | refine Below.up ?_ (by assumption) ?_)) <;> (first | assumption | omega | (simp; done) | (simp; omega)))) (by omega)), take_succ_all hlt Hall.out (by rw [Hx.out]; simp [Bd.ok, *])⟩
        case measure => simp [intOf]; omega
      all_goals
        go_ret
        have hbad : Bd.ok p x = false := by simp [Bd.ok, *]
        refine ⟨?_, ?_⟩
        · rw [chk_bad (by omega) h2 (by omega) hlt (by rw [Hx.out]; exact hbad)]; rfl
        · exact Below.up (((Below.refl _ w).alloc (Nat.le_refl _) _).trans (hB.mono (by simp))) (by ((repeat (first | assumption | exact Below.refl _ _ | refine Below.alloc ?_ ?_ _ | refine Below.setCell ?_ ?_ _ | refine Below.drew ?_ | refine belowN ?_ | refine Below.up ?_ (by assumption) ?_)) <;> (first | assumption | omega | (simp; done) | (simp; omega)))) (by omega)
    · go_wp2_with fail
      go_ret
      exact ⟨by rw [List.take_of_length_le (by omega)] at Hall; rw [chk_good (by omega) h2 (by omega) Hall.out]; rfl, (((Below.refl _ _).alloc (Nat.le_refl _) _).trans (hB.mono (by simp)))⟩
end Go.Proofs.YtlkcfohmoeadbaaGreat

/-
  The reference of layer 1, walked: has, copied, With.
-/
namespace Go.Proofs.YtlkcfohmoeadbaaGreat
open Go.RowKit
set_option maxHeartbeats 1000000

theorem rhas_any (a : Option Addr) (len cap : Nat) (xs : List Int) (n : Int) (w : World) (hx : IntsAt w a len cap xs) :
    Calls Tryz.prog 75 #[.slice a len cap, .int .i64 n] w fun e w' => e = .returned (.bool (xs.any (· == n))) ∧ w = w' := by
  have hlen := hx.small
  obtain rfl := hx.len
  go_enter Tryz.func75, Tryz.ntmps75
  go_wp2
  go_loop [5] (fun i => ∃ k : Nat, k ≤ xs.length ∧ i = .int .i64 k ∧ (xs.take k).any (· == n) = false) (fun i => xs.length - (intOf i).toNat)
  case atStart => exact ⟨0, Nat.zero_le _, rfl, rfl⟩
  case round =>
    obtain ⟨k, hk, rfl, hno⟩ := hrel
    have Hno := Lib.hid hno
    clear hno
    by_cases hlt : k < xs.length
    · obtain ⟨b, off, rfl, hbl, d0⟩ := hx.get hlt
      generalize hy : xs.getD k 0 = y at *
      have Hy := Lib.hid hy
      clear hy
      have hget : xs[k] = y := by rw [← Hy.out]; simp [List.getD_eq_getElem?_getD, List.getElem?_eq_getElem hlt]
      have Hget := Lib.hid hget
      clear hget
      by_cases e : y = n
      · subst e
        go_wp2
        go_ret
        refine ⟨?_, rfl⟩
        rw [show xs.any (· == y) = true from List.any_eq_true.2 ⟨xs[k], List.getElem_mem hlt, by rw [Hget.out]; simp⟩]; rfl
      · have e' : (y == n) = false := by simpa using e
        go_wp2
        go_round
        case rel => exact ⟨k + 1, by omega, by go_num, by rw [List.take_succ_eq_append_getElem hlt, List.any_append, Hno.out, Hget.out]; simp [e]⟩
        case measure => simp [intOf]; omega
    · go_wp2
      go_ret
      refine ⟨?_, rfl⟩
      rw [List.take_of_length_le (by omega)] at Hno
      rw [Hno.out]; rfl

theorem rcopied_any (a : Option Addr) (n cap : Nat) (bs : List Bd) (w : World) (hb : BdsAt w a n cap bs) (hs : bs.length ≤ 1000) :
    Calls Tryz.prog 43 #[.slice a n cap] w fun e w' => ∃ v, e = .returned v ∧ w'.ownsRow w.heap.size 26 4 v bs.length (bcs bs) ∧ Below w.heap.size w w' := by
  obtain rfl := hb.len
  go_enter Tryz.func43, Tryz.ntmps43
  go_wp2_with (at_builtin; refine wpList_app elemB rfl _ _ rfl (World.ownsRow_lit (base := w.heap.size) w #[] 0 (Nat.le_refl _) (by decide) rfl) rfl rfl (hb.row.below ((Below.refl _ _).alloc (Nat.le_refl _) _)) (bcs_length bs) (bcs_one bs) ?_ ?_ ?_ ?_)
  · unfold maxLen; omega
  · omega
  · simp
  · intro v' w' hown hg hb1 _ _
    go_wp2
    go_ret
    exact ⟨v', rfl, by simpa using hown, ((Below.refl _ w).alloc (Nat.le_refl _) _).trans hb1⟩

set_option maxRecDepth 100000 in
theorem rWith_ok (p : Int) (a : Option Addr) (n cap : Nat) (bs : List Bd) (x : Bd) (w : World) (hb : BdsAt w a n cap bs) (h0 : chk p bs = 0) (h1 : chk p (bs ++ [x]) = 0) :
    Calls Tryz.prog 13 #[.agg #[.int .i64 p, .slice a n cap], .agg #[.int .i64 x.frm, .int .i64 x.tow, .int .i64 x.most, .int .i64 x.bid]] w fun e w' => ∃ v, e = .returned (.tuple #[.agg #[.int .i64 p, v], .int .i64 0]) ∧ w'.ownsRow w.heap.size 26 4 v (bs.length + 1) (bcs (bs ++ [x])) ∧ Below w.heap.size w w' := by
  have hs : bs.length ≤ 400 := by
    unfold chk at h0; split at h0 <;> omega
  obtain rfl := hb.len
  go_enter Tryz.func13, Tryz.ntmps13
  go_wp2_with (go_at_call 11; refine (rcheck_any _ _ _ _ _ _ (hb.below (by ((repeat (first | assumption | exact Below.refl _ _ | refine Below.alloc ?_ ?_ _ | refine Below.setCell ?_ ?_ _ | refine Below.drew ?_ | refine belowN ?_ | refine Below.up ?_ (by assumption) ?_)) <;> (first | assumption | omega | (simp; done) | (simp; omega)))))).mono ?_; rintro e w1 ⟨rfl, hb1⟩; obtain ⟨hc1, hf1⟩ := bcell hb1; have hz1a := lt_size hb1 (b := w.heap.size) (by first | assumption | omega | (simp; done) | (simp; omega)); have hz1b := lt_size hb1 (b := w.heap.size+1) (by first | assumption | omega | (simp; done) | (simp; omega)); have hz1c := lt_size hb1 (b := w.heap.size+2) (by first | assumption | omega | (simp; done) | (simp; omega)))
  have hb1' := hb.below (w' := w1) (((((Below.refl _ w).alloc (Nat.le_refl _) _).alloc (by simp) _).alloc (by simp <;> omega) _).trans (hb1.mono (by simp <;> omega)))
  have q0 : w1.cell? ⟨w.heap.size, 0, none⟩ = some (.int .i64 p) := by simp [go_sem, *]
  have q1 : w1.cell? ⟨w.heap.size, 1, none⟩ = some (.slice a bs.length cap) := by simp [go_sem, *]
  have q2 : w1.cell? ⟨w.heap.size+1, 0, none⟩ = some (.int .i64 x.frm) := by simp [go_sem, *]
  have q3 : w1.cell? ⟨w.heap.size+1, 1, none⟩ = some (.int .i64 x.tow) := by simp [go_sem, *]
  have q4 : w1.cell? ⟨w.heap.size+1, 2, none⟩ = some (.int .i64 x.most) := by simp [go_sem, *]
  have q5 : w1.cell? ⟨w.heap.size+1, 3, none⟩ = some (.int .i64 x.bid) := by simp [go_sem, *]
  have q6 : w1.cell? ⟨w.heap.size+1+1, 0, none⟩ = some (.int .i64 0) := by simp [go_sem, *]
  have q7 : w1.cell? ⟨w.heap.size+1+1, 1, none⟩ = some (.slice none 0 0) := by simp [go_sem, *]
  have f6 : ∀ i, w1.frozen? ⟨w.heap.size+1+1, i, none⟩ = false := by intro i; simp [go_sem, *]
  clear hc1 hf1
  have hx1 : w.heap.size + 1 + 1 < w1.heap.size := by assumption
  refine SL.rule (by kernel_rfl) [] [15, 16, 17, 18, 19, 20, 21, 22, 23, 7] [
    SL.pu 15 [] (.pointer (some ⟨w.heap.size, 0, none⟩)), SL.pu 16 [0] (.int .i64 p), SL.pu 17 [] (.pointer (some ⟨w.heap.size, 1, none⟩)), SL.pu 18 [2] (.slice a bs.length cap),
    SL.row 19 [3] [] w1.heap.size 26 4 bs.length (bcs bs), SL.pu 20 [] x.v, SL.row 21 [5] [] w1.heap.size 26 4 1 x.cs, SL.row 22 [4, 6] [4] w1.heap.size 26 4 (bs.length + 1) (bcs bs ++ x.cs),
    SL.rowIn 23 [1, 7] [7] w1.heap.size 26 4 (bs.length + 1) (bcs bs ++ x.cs) (fun u => .agg #[.int .i64 p, u]),
    SL.box 7 [] [] w1.heap.size 24 #[.int .i64 0, .slice none 0 0],
    SL.boxIn 7 [8, 9] [8, 9] w1.heap.size 24 26 4 (bs.length + 1) (bcs bs ++ x.cs) (fun u => #[.int .i64 p, u])] [0, 1, 2, 3, 5, 10] (by kernel_rfl) (by kernel_rfl) (fun _ => []) (SL.none_held rfl) (by simp) ?_ ?_
  · refine ⟨?_, ?_, ?_, ?_, ?_, ?_, ?_, ?_, ?_, ?_, ?_, trivial⟩
    all_goals refine SL.ob fun us w' Fe hG hu hd hv K hK => ?_
    all_goals simp [SL.frame, SL.put', SL.Used, SL.pu, SL.row, SL.box, SL.rowIn, SL.boxIn, Bd.v, Bd.cs] at hu hK ⊢
    all_goals obtain ⟨hg1, hg2⟩ := bcell hG.below'
    all_goals (have hsz := hG.size; simp only [World.size_drew] at hsz)
    all_goals try (go_step; refine hK _ _ _ _ (by simp [Act.put, *]; done) (SL.Chg.refl _ _) rfl rfl (by simp))
    · go_step
      refine (rcopied_any _ _ _ _ _ (hb1'.below hG.below') (by omega)).mono ?_
      rintro e w2 ⟨v, rfl, ho2, hb2⟩
      exact hK _ v w2 _ (by simp [Act.put, *]) (.of_below hb2) (SL.row_base ho2 hsz) rfl (SL.row_bounds ho2)
    · go_step
      refine hK _ _ _ _ (by simp [Act.put, *]; done) (.alloc _ _ _) (World.ownsRow_lit w' _ 1 hsz (by decide) rfl) rfl (by simp [Value.ownBlock])
    · obtain ⟨⟨u1, u2⟩, u3, u4⟩ := hu
      obtain ⟨sa, c, hsl, _⟩ := owns_slice u3
      refine wp_app elemB _ _ rfl u1 rfl hsl (RowAt.of_owns (hsl ▸ u3)) rfl (by simp [Value.oneCell']) (by unfold maxLen; omega) (by omega) hsz ?_
      intro v' w2 ho hg hb _ hat
      refine hK _ v' w2 _ rfl ?_ ho rfl ?_
      · exact .of_own hg (by rw [u2]; simp)
      · rw [u2]; exact SL.app_bounds u1 ho hat
    · obtain ⟨⟨u1, _⟩, u2, u3⟩ := hu
      obtain ⟨sa, c, hsl, _⟩ := owns_slice u2
      go_step
      refine hK _ _ _ _ (by simp [Act.put, *]; done) (.refl _ _) _ rfl (hsl ▸ u2) rfl ?_
      rw [u3]; simp [hsl]; exact fun k h => .inl h
    · go_step
      refine hK _ _ _ _ (by simp [Act.put, *]; done) (.alloc _ _ _) _ rfl hsz (heap_alloc_new w' _) rfl (by simp)
    · obtain ⟨⟨u, hu1, u2, u3⟩, N, hu4, hN, u4, u5⟩ := hu
      have hNl : N < w'.heap.size := (Array.getElem?_eq_some_iff.1 u4).1
      obtain ⟨sa, c, hsl, _⟩ := owns_slice u2
      subst hsl
      have c0 := (SL.cells_of u4).1 0
      have c1 := (SL.cells_of u4).1 1
      have f0 := (SL.cells_of u4).2
      simp at c0 c1
      have hne : N ∉ (Value.slice sa (bs.length + 1) c).ownBlock.toList := by
        have := hd 9 8 (by simp [SL.boxIn]) (by simp [SL.boxIn]) (by simp) N (by rw [u5]; simp)
        rwa [u3] at this
      go_step
      refine hK _ undef _ _ (by simp [Act.put, *]; done) (.trans (.setCell _ (by simp [u5]) _) (.setCell _ (by simp [u5]) _)) N hu4 hN _ (SL.heap_set (SL.heap_set u4 _) _) (SL.row_set (SL.row_set u2 hne _) hne _) rfl ?_
      rw [u5, u3]; simp; exact fun k h => .inl (.inl h)
  · intro us w' Fs hG hu hbd hd
    simp [SL.frame, SL.put', SL.Used, SL.pu, SL.row, SL.box, SL.rowIn, SL.boxIn, Bd.v, Bd.cs] at hu ⊢
    obtain ⟨u15, u16, u17, u18, u20, N, u7, hN, y, hh, ho, hF⟩ := hu
    clear u15 u16 u17 u18 u20 hbd hd
    have ebs : bcs bs ++ [.int .i64 x.frm, .int .i64 x.tow, .int .i64 x.most, .int .i64 x.bid] = bcs (bs ++ [x]) := by rw [bcs_append]; simp [bcs, Bd.cs]
    rw [ebs] at ho
    obtain ⟨sa, c, hsl, _⟩ := owns_slice ho
    subst hsl
    have hNl : N < w'.heap.size := (Array.getElem?_eq_some_iff.1 hh).1
    have c0 := (SL.cells_of hh).1 0
    have c1 := (SL.cells_of hh).1 1
    simp at c0 c1
    have hbx : BdsAt w' sa _ c (bs ++ [x]) := .of_owns ho (by simp; omega)
    obtain ⟨hg1, hg2⟩ := bcell hG.below'
    have hz := hG.size
    have hw1 : w.heap.size + 1 + 1 < w'.heap.size := by simp at hz; omega
    simp only [u7]
    clear u7
    go_wp2_with (go_at_call 11; refine (rcheck_any _ _ _ _ _ _ hbx).mono ?_; rintro e w2 ⟨rfl, hb2⟩; obtain ⟨hc2, hf2⟩ := bcell hb2; have hz2a := lt_size hb2 (b := w.heap.size+1+1) (by first | assumption | omega | (simp; done) | (simp; omega)); have hz2b := lt_size hb2 (b := N) (by first | assumption | omega | (simp; done) | (simp; omega)))
    have hne : w.heap.size + 1 + 1 ∉ (Value.slice sa (bs.length + 1) c).ownBlock.toList := fun h => by
      have := (SL.row_bounds ho _ h).1
      omega
    have hw2 : w.heap.size + 1 + 1 < w2.heap.size := by assumption
    refine bodyPost_ret (v := .tuple #[.agg #[.int .i64 p, .slice sa (bs.length + 1) c], .int .i64 0]) (by simp [results, Tryz.results13, go_sem, *]) rfl ⟨_, rfl, ?_, ?_⟩
    · exact SL.row_base (SL.row_set (SL.row_set (World.ownsRow.up ho hb2 (Nat.le_refl _)) hne _) hne _) (by omega)
    · refine Below.setCell (Below.setCell ?_ (by simp; omega) _) (by simp; omega) _
      have h1 := hb1.size
      simp at h1 hz
      exact ((((((Below.refl _ w).alloc (Nat.le_refl _) _).alloc (by simp) _).alloc (by simp; omega) _).trans (hb1.mono (by simp; omega))).trans (hG.below'.mono (by omega))).trans (hb2.mono (by omega))
end Go.Proofs.YtlkcfohmoeadbaaGreat

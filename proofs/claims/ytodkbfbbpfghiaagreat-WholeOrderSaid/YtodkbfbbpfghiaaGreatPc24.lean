/-
  Lemmas and walks for the laws on roads and boards: what each function of the program answers, for every input.
-/
import Derived.Test.YtodkbfbbpfghiaaGreatPc21
import Derived.Test.YtodkbfbbpfghiaaGreatPc08
import Derived.Test.YtodkbfbbpfghiaaGreatPc04
import Derived.Test.YtodkbfbbpfghiaaGreatPc11
import Derived.Test.YtodkbfbbpfghiaaGreatPc07
import Derived.Test.YtodkbfbbpfghiaaGreatPc06
import Derived.Test.YtodkbfbbpfghiaaGreatPc10
import Derived.Test.YtodkbfbbpfghiaaGreatPc18
set_option linter.unusedSimpArgs false
set_option linter.unusedVariables false
set_option linter.unnecessarySimpa false
namespace Go.Proofs.YtodkbfbbpfghiaaGreat
open Go.RowKit Go.Shelf
set_option maxHeartbeats 4000000
set_option maxRecDepth 100000
/-- The parts so far in a vessel. -/
def grpN (v : List Int) (k u : Nat) : List Nat := (List.range k).filter fun i => v.getD i 0 == (u : Int)
theorem grpN_succ (v : List Int) (k u : Nat) : grpN v (k + 1) u = grpN v k u ++ if v.getD k 0 == (u : Int) then [k] else [] := by
  unfold grpN
  rw [List.range_succ, List.filter_append]
  simp only [List.filter_cons, List.filter_nil]
theorem grpN_len (v : List Int) (k u : Nat) : (grpN v k u).length ≤ k := by
  unfold grpN
  have := List.length_filter_le (fun i => v.getD i 0 == (u : Int)) (List.range k)
  simpa using this
structure VesI (W : World) (B G V oc : Nat) (v : List Int) (k : Nat) (vals : Nat → Value) : Prop where
  outer : W.ownsRow B 34 1 (.slice (some ⟨G, 0, none⟩) V oc) V ((List.range V).map vals)
  inner : ∀ u, u < V → W.ownsRow B 3 1 (vals u) (grpN v k u).length ((intL (grpN v k u)).map (.int .i64))
  off : ∀ u, u < V → G ∉ (vals u).ownBlock.toList
  apart : ∀ u t, u < V → t < V → u ≠ t → ∀ b ∈ (vals u).ownBlock.toList, b ∉ (vals t).ownBlock.toList
theorem VesI.step {W Wa W1 : World} {B G V oc k X : Nat} {v : List Int} {vals : Nat → Value} {v' : Value} (h : VesI W B G V oc v k vals) (hX : X < V) (hk : v.getD k 0 = X) (hb : Below W.heap.size W Wa) (hg : Wa.grownBy W1 (vals X).ownBlock)
    (hat : v'.ownBlock = (vals X).ownBlock ∨ v'.ownBlock = some Wa.heap.size) (hv : W1.ownsRow B 3 1 v' ((grpN v k X).length + 1) ((intL (grpN v k X)).map (.int .i64) ++ [.int .i64 k])) :
    VesI (W1.setCell ⟨G, X, none⟩ v') B G V oc v (k + 1) (fun u => if u = X then v' else vals u) := by
  have hGW : G < W.heap.size := (SL.row_bounds h.outer G (by simp [Value.ownBlock])).2
  have hsame : ∀ b, b < W.heap.size → b ∉ (vals X).ownBlock.toList → W1.heap[b]? = W.heap[b]? := fun b hb1 hb2 =>
    (hg.block b (Nat.lt_of_lt_of_le hb1 hb.size) (fun e => hb2 (by rw [← e]; simp))).trans (hb.block b hb1)
  have hGv : G ∉ v'.ownBlock.toList := fun hm => by
    rcases hat with e | e
    · rw [e] at hm; exact h.off X hX hm
    · rw [e] at hm; simp at hm; have := hb.size; omega
  have ho1 : W1.ownsRow B 34 1 (.slice (some ⟨G, 0, none⟩) V oc) V ((List.range V).map vals) := SL.row_stab h.outer fun b hm => by
    have e : b = G := by
      simp [Value.ownBlock] at hm
      omega
    rw [e]
    exact hsame G hGW (h.off X hX)
  refine ⟨?_, fun u hu => ?_, fun u hu => ?_, fun u t hu ht hut => ?_⟩
  · have := (ho1.stored X v').1
    have e : ((List.range V).map vals).set X v' = (List.range V).map fun u => if u = X then v' else vals u := by
      apply List.ext_getElem
      · simp
      · intro i h1 h2
        rw [List.getElem_set]
        simp only [List.getElem_map, List.getElem_range]
        by_cases e : X = i
        · rw [if_pos e, if_pos e.symm]
        · rw [if_neg e, if_neg (fun h => e h.symm)]
    rw [← e]
    exact this
  · by_cases e : u = X
    · subst e
      rw [if_pos rfl]
      have hgs : grpN v (k + 1) u = grpN v k u ++ [k] := by rw [grpN_succ, hk]; simp
      rw [hgs, intL_append, List.map_append, List.length_append]
      exact SL.row_set hv (p := ⟨G, u, none⟩) hGv v'
    · rw [if_neg e]
      have hgs : grpN v (k + 1) u = grpN v k u := by
        rw [grpN_succ, hk]
        have : ((X : Int) == (u : Int)) = false := by simp; omega
        rw [this]; simp
      rw [hgs]
      have h1 := h.inner u hu
      have hbd := SL.row_bounds h1
      exact SL.row_set (SL.row_stab h1 fun b hm => hsame b (hbd b hm).2 (h.apart u X hu hX e b hm)) (p := ⟨G, X, none⟩) (h.off u hu) v'
  · by_cases e : u = X
    · rw [if_pos e]; exact hGv
    · rw [if_neg e]; exact h.off u hu
  · have hnew : ∀ t, t < V → t ≠ X → ∀ b, b ∈ v'.ownBlock.toList → b ∈ (vals t).ownBlock.toList → False := fun t ht htX b hm hm2 => by
      rcases hat with e | e
      · rw [e] at hm; exact h.apart X t hX ht (fun h => htX h.symm) b hm hm2
      · rw [e] at hm
        simp at hm
        have := (SL.row_bounds (h.inner t ht) b hm2).2
        have := hb.size
        omega
    intro b hm hm2
    by_cases e1 : u = X
    · rw [if_pos e1] at hm
      by_cases e2 : t = X
      · exact hut (e1.trans e2.symm)
      · rw [if_neg e2] at hm2
        exact hnew t ht e2 b hm hm2
    · rw [if_neg e1] at hm
      by_cases e2 : t = X
      · rw [if_pos e2] at hm2
        exact hnew u hu e1 b hm2 hm
      · rw [if_neg e2] at hm2
        exact h.apart u t hu ht hut b hm hm2
theorem elemLi : Elem Tryz.prog 120 34 (.slice none 0 0) 1 24 := ⟨Tryz.underlying120, info_parts (by kernel_rfl), rfl, by decide⟩
theorem VesI.start {w4 : World} {v : List Int} {V B G : Nat} (ho : w4.ownsRow B 34 1 (.slice (some ⟨G, 0, none⟩) V V) V (madeCells (Value.slice none 0 0).cells (V * 1)).toList) :
    VesI w4 B G V V v 0 (fun _ => .slice none 0 0) := by
  refine ⟨?_, fun u _ => World.ownsRow_nil _ _ _ _, fun u _ => by simp [Value.ownBlock], fun u t _ _ _ b hb => by simp [Value.ownBlock] at hb⟩
  have e : (madeCells (Value.slice none 0 0).cells (V * 1)).toList = (List.range V).map fun _ => Value.slice none 0 0 := by
    simp [madeCells, Value.cells, Nat.mod_one]
  rw [← e]
  exact ho
theorem VesI.outer1 {W Wa W1 : World} {B G V oc k X : Nat} {v : List Int} {vals : Nat → Value} (h : VesI W B G V oc v k vals) (hX : X < V) (hb : Below W.heap.size W Wa) (hg : Wa.grownBy W1 (vals X).ownBlock) :
    W1.ownsRow B 34 1 (.slice (some ⟨G, 0, none⟩) V oc) V ((List.range V).map vals) := by
  have hGW : G < W.heap.size := (SL.row_bounds h.outer G (by simp [Value.ownBlock])).2
  refine SL.row_stab h.outer fun b hm => ?_
  have e : b = G := by
    simp [Value.ownBlock] at hm
    omega
  rw [e]
  exact (hg.block G (Nat.lt_of_lt_of_le hGW hb.size) (fun e => h.off X hX (by rw [← e]; simp))).trans (hb.block G hGW)
/-- The parts of each vessel. -/
def byL (v : List Int) : List (List Int) := (List.range (vesL v).toNat).map fun u => intL (grpN v v.length u)
def ByPost (w : World) (ls : List (List Int)) (e : Ending) (w' : World) : Prop := ∃ a k xs, e = .returned (.slice a ls.length k) ∧ Below w.heap.size w w' ∧ LssAt w' a ls.length k xs ∧ xs.map (·.l) = ls ∧ ∀ x ∈ xs, x.l.length ≤ x.cap
theorem VesI.post {w W : World} {B G V oc : Nat} {v : List Int} {vals : Nat → Value} (h : VesI W B G V oc v v.length vals) (hV : V = (vesL v).toNat) (hl : v.length ≤ 1000) (hV1 : V ≤ 1000) (hb : Below w.heap.size w W) :
    ByPost w (byL v) (.returned (.slice (some ⟨G, 0, none⟩) V oc)) W := by
  have hex : ∀ u, ∃ x : Ls, u < V → vals u = x.v ∧ x.l = intL (grpN v v.length u) ∧ IntsAt W x.a x.l.length x.cap x.l ∧ x.l.length ≤ x.cap := fun u => by
    by_cases hu : u < V
    · have h1 := h.inner u hu
      obtain ⟨a, cap, e, _⟩ := owns_slice h1
      have hgl := grpN_len v v.length u
      refine ⟨⟨a, cap, intL (grpN v v.length u)⟩, fun _ => ⟨by rw [e]; simp [Ls.v, intL_len], rfl, ?_, ?_⟩⟩
      · rw [e] at h1
        have := IntsAt.of_owns h1 (by rw [intL_len]; omega)
        simpa [intL_len] using this
      · rw [e] at h1
        have := owns_room h1
        simpa [intL_len] using this
    · exact ⟨default, fun h => absurd h hu⟩
  obtain ⟨xs, hxs⟩ := Classical.axiomOfChoice hex
  have hbl : (byL v).length = V := by simp [byL, hV]
  refine ⟨_, oc, (List.range V).map xs, by rw [hbl], hb, ⟨by simp [hbl], by simp; omega, ?_, ?_⟩, ?_, ?_⟩
  · have := RowAt.of_owns h.outer
    rw [List.map_map]
    have e : (List.range V).map (Ls.v ∘ xs) = (List.range V).map vals := List.map_congr_left fun u hu => ((hxs u (List.mem_range.1 hu)).1).symm
    rw [e]
    exact this
  · intro x hx
    obtain ⟨u, hu, rfl⟩ := List.mem_map.1 hx
    exact (hxs u (List.mem_range.1 hu)).2.2.1
  · rw [List.map_map]
    unfold byL
    rw [← hV]
    exact List.map_congr_left fun u hu => (hxs u (List.mem_range.1 hu)).2.1
  · intro x hx
    obtain ⟨u, hu, rfl⟩ := List.mem_map.1 hx
    exact (hxs u (List.mem_range.1 hu)).2.2.2
theorem wbyVessel (a : Option Addr) (ca m : Nat) (v : List Int) (w : World) (hv : IntsAt w a m ca v) (hl : v.length ≤ 1000) (hr : ∀ x ∈ v, 0 ≤ x ∧ x ≤ 900) :
    Calls Tryz.prog 108 #[.slice a m ca] w (ByPost w (byL v)) := by
  obtain rfl := hv.len
  have hVe := wvessels a v.length ca v w hv (fun x hx => by have := hr x hx; omega)
  have hvs := vesL_spec v
  obtain ⟨V, hV⟩ : ∃ V : Nat, vesL v = V := ⟨(vesL v).toNat, by omega⟩
  have hV9 : V ≤ 1000 := by
    rcases hvs.2.2 with h | ⟨x, hx, h⟩
    · omega
    · have := hr x hx; omega
  have hlt : ∀ x ∈ v, 0 ≤ x ∧ x < V := fun x hx => ⟨(hr x hx).1, by have := hvs.2.1 x hx; omega⟩
  have hfin := fun (W : World) (G oc : Nat) (vals : Nat → Value) (h : VesI W w.heap.size G V oc v v.length vals) (hb : Below w.heap.size w W) => h.post (by rw [hV]; simp) hl hV9 hb
  rw [hV] at hVe
  generalize ByPost w (byL v) = Post at *
  have HF := Lib.hid hfin
  have HL := Lib.hid hlt
  obtain ⟨iI, hiI, hzI, hsI, hbI⟩ := elemLi.info
  have HI := Lib.hid (And.intro hiI (And.intro hzI (And.intro hsI hbI)))
  clear hiI hzI hsI hbI hfin hlt hvs hV hr
  go_enter Tryz.func108, Tryz.ntmps108
  go_wp2_with (first
    | (go_at_call 138; (with_reducible refine hVe.mono ?_); rintro e w1 ⟨rfl, hb1⟩)
    | (at_make; refine wpList_make_full _ rfl _ _ 120 rfl w.heap.size 34 iI (.slice none 0 0) 1 Tryz.underlying120 HI.out.1 HI.out.2.1 HI.out.2.2.1 .i64 .i64 _ _ V rfl rfl (by omega) (by omega) (by rw [HI.out.2.2.2]; omega) (by unfold maxLen; omega) hb1.size ?_; intro w4 ho4 hg4))
  obtain ⟨G, hG⟩ : ∃ G, w1.heap.size = G := ⟨_, rfl⟩
  rw [hG] at ho4 ⊢
  have hGw : w.heap.size ≤ G := by rw [← hG]; exact hb1.size
  have hB4 : Below w.heap.size w w4 := hb1.ch2 (below_made hg4)
  have hI0 := VesI.start (v := v) ho4
  clear hG ho4 hg4 hb1
  go_loopw [11] (fun i wr => ∃ k : Nat, k ≤ v.length ∧ i = .int .i64 k ∧ Below w.heap.size w wr ∧ ∃ vals, VesI wr w.heap.size G V V v k vals) (fun i _ => v.length - (RowKit.intOf i).toNat)
  case atStart => exact ⟨0, Nat.zero_le _, rfl, hB4, _, hI0⟩
  case round =>
    obtain ⟨k, hk, rfl, hB, vals, hI⟩ := hrel
    clear hI0
    have hnn : (0 : Int) ≤ k := by omega
    by_cases hlt : k < v.length
    · have i1 : (k : Int) < (v.length : Int) := by omega
      obtain ⟨b, o, rfl, _, d0⟩ := (hv.below hB).get hlt
      have hx := HL.out _ (mem_getD hlt)
      obtain ⟨X, hX⟩ : ∃ X : Nat, v.getD k 0 = X := ⟨(v.getD k 0).toNat, by omega⟩
      rw [hX] at d0 hx
      have hXV : X < V := by omega
      have i2 : (X : Int) < (V : Int) := by omega
      have i3 : (0 : Int) ≤ (X : Int) := by omega
      have hal := one_alloc wr (Obj.cells #[.int .i64 k] 3)
      have hgl := grpN_len v k X
      have hst := fun v' W1 h1 h2 h3 => hI.step (v' := v') (W1 := W1) hXV hX hal h1 h2 h3
      have hou := fun W1 h1 => hI.outer1 (W1 := W1) hXV hal h1
      have hin := hI.inner X hXV
      have kc : wr.cell? ⟨G, X, none⟩ = some (vals X) := (hI.outer.cellAt X (by omega)).trans (by simp [hXV])
      have hGr : G < wr.heap.size := (SL.row_bounds hI.outer G (by simp [Value.ownBlock])).2
      have hrg : ((List.range V).map vals)[X]? = some (vals X) := by simp [hXV]
      have Hrg := Lib.hid hrg
      have Hst := Lib.hid hst
      have Hou := Lib.hid hou
      have Hin := Lib.hid hin
      clear hst hou hI hx hX hrg
      obtain ⟨va, vc, hvx, _⟩ := owns_slice hin
      clear hin
      rw [hvx] at kc Hin Hrg Hou Hst
      go_wp2_with (at_builtin; refine wpList_app elemI rfl _ _ rfl (Hin.out.up hal (Nat.le_refl _)) rfl rfl (RowAt.of_heap (World.alloc_heap_new wr _)) rfl (ones_int [(k : Int)]) (by unfold maxLen; omega) (by omega) (by have := hB.size; simp; omega) ?_)
      intro v' w3 ho hg hb3 _ hat
      have ho' := ho
      obtain ⟨sa, sc, rfl, _⟩ := owns_slice ho
      have hO3 := Hou.out w3 hg
      have kf := hO3.frozenAt X
      have kc3 := (hO3.cellAt X (by omega)).trans Hrg.out
      have HS := Lib.hid (Hst.out _ w3 hg (by rw [World.size_alloc]; exact hat) ho')
      have HB3 := Lib.hid ((hB.ch2 hal).trans hb3)
      clear ho ho' hg hb3 hat hO3 Hou Hst hvx
      go_wp2_with fail
      go_roundw
      case rel => exact ⟨k + 1, by omega, by go_num, HB3.out.setCell (by simp; omega) _, _, HS.out⟩
      case measure => simp [RowKit.intOf]; omega
    · have hk2 : k = v.length := by omega
      subst hk2
      have HP := Lib.hid (HF.out wr G V vals hI hB)
      clear hI
      go_wp2_with fail
      exact HP.out
end Go.Proofs.YtodkbfbbpfghiaaGreat
namespace Go.Proofs.YtodkbfbbpfghiaaGreat
theorem mem_grpN {v : List Int} {k u i : Nat} : i ∈ grpN v k u ↔ i < k ∧ v.getD i 0 = u := by
  unfold grpN
  rw [List.mem_filter, List.mem_range, beq_iff_eq]
theorem natL_intL (l : List Nat) : natL (intL l) = l := by
  unfold natL intL
  rw [List.map_map]
  conv => rhs; rw [← List.map_id l]
  exact List.map_congr_left fun x _ => by simp
theorem getNat {l : List Nat} {i : Nat} (h : i < l.length) : l.getD i 0 = l[i] := by simp [List.getD_eq_getElem?_getD, h]
theorem grp_one {s : List Pn} {v : List Int} (h0 : ∀ x ∈ v, 0 ≤ x) : ((byL v).any fun l => !oneB s (natL l)) = !noClB s v := by
  have hkey : ((byL v).any fun l => !oneB s (natL l)) = false ↔ noClB s v = true := by
    rw [noClB_iff, List.any_eq_false]
    unfold byL
    constructor
    · intro h i k hki hi e
      have hx := h0 _ (mem_getD (l := v) (i := i) hi)
      have hlt := (vesL_spec v).2.1 _ (mem_getD (l := v) (i := i) hi)
      have := h (intL (grpN v v.length (v.getD i 0).toNat)) (List.mem_map.2 ⟨(v.getD i 0).toNat, List.mem_range.2 (by omega), rfl⟩)
      rw [natL_intL] at this
      have ho : oneB s (grpN v v.length (v.getD i 0).toNat) = true := by simpa using this
      rw [oneB_iff] at ho
      have m1 : i ∈ grpN v v.length (v.getD i 0).toNat := mem_grpN.2 ⟨hi, by omega⟩
      have m2 : k ∈ grpN v v.length (v.getD i 0).toNat := mem_grpN.2 ⟨by omega, by omega⟩
      obtain ⟨p, hp, ep⟩ := List.getElem_of_mem m1
      obtain ⟨q, hq, eq⟩ := List.getElem_of_mem m2
      rcases Nat.lt_trichotomy p q with h1 | h1 | h1
      · have := ho q p h1 hq
        rw [getNat hq, getNat hp, ep, eq] at this
        exact this
      · subst h1
        omega
      · have := ho p q h1 hp
        rw [getNat hq, getNat hp, ep, eq] at this
        rw [clB_comm]; exact this
    · intro h l hl
      obtain ⟨u, _, rfl⟩ := List.mem_map.1 hl
      rw [natL_intL]
      have ho : oneB s (grpN v v.length u) = true := by
        rw [oneB_iff]
        intro i k hki hi
        have hk : k < (grpN v v.length u).length := by omega
        rw [getNat hi, getNat hk]
        obtain ⟨a1, a2⟩ := mem_grpN.1 (List.getElem_mem hi)
        obtain ⟨b1, b2⟩ := mem_grpN.1 (List.getElem_mem hk)
        have hnd : (grpN v v.length u).Nodup := List.nodup_range.filter _
        have hne : (grpN v v.length u)[i] ≠ (grpN v v.length u)[k] := fun e => by
          have := (List.getElem_inj hnd).1 e
          omega
        rcases Nat.lt_or_gt_of_ne hne with h1 | h1
        · exact h _ _ h1 b1 (by rw [a2, b2])
        · rw [clB_comm]
          exact h _ _ h1 a1 (by rw [a2, b2])
      rw [ho]; simp
  cases h1 : noClB s v
  · cases h2 : ((byL v).any fun l => !oneB s (natL l))
    · rw [hkey.1 h2] at h1; cases h1
    · rfl
  · rw [hkey.2 h1]; rfl
theorem rgO_snoc (v : List Int) (k : Nat) (hk : k < v.length) : rgO (v.take (k + 1)) 0 = (rgO (v.take k) 0).bind fun m => if 0 ≤ v.getD k 0 ∧ v.getD k 0 ≤ m then some (if v.getD k 0 = m then m + 1 else m) else none := by
  rw [List.take_succ_eq_append_getElem hk, rgO_app]
  have e : v[k] = v.getD k 0 := by simp [List.getD_eq_getElem?_getD, hk]
  rw [e]
  rfl
open Go.RowKit Go.Shelf
set_option maxHeartbeats 4000000
set_option maxRecDepth 100000
def asgT (s : List Pn) (lim : Int) (v : List Int) : Bool := match asgM s v with | some m => decide (lim = 0) || decide ((m : Int) ≤ lim) | none => false
theorem asgT_len {s : List Pn} {lim : Int} {v : List Int} (h : v.length ≠ s.length) : asgT s lim v = false := by
  unfold asgT asgM
  rw [if_neg (fun h' => h h'.1)]
theorem asgT_bad {s : List Pn} {lim : Int} {v : List Int} (h : rgO v 0 = none) : asgT s lim v = false := by
  unfold asgT asgM
  split <;> simp_all
theorem asgT_ok {s : List Pn} {lim : Int} {v : List Int} {m : Nat} (hl : v.length = s.length) (h : rgO v 0 = some m) (h0 : ∀ x ∈ v, 0 ≤ x) :
    asgT s lim v = ((decide (lim = 0) || decide ((m : Int) ≤ lim)) && !((byL v).any fun l => !oneB s (natL l))) := by
  rw [grp_one h0]
  unfold asgT asgM
  cases hc : noClB s v
  · simp
  · rw [if_pos ⟨hl, rfl⟩, h]; simp
theorem rgO_cut {v : List Int} {k : Nat} (h : rgO (v.take k) 0 = none) : rgO v 0 = none := by
  have := rgO_app (v.take k) (v.drop k) 0
  rw [List.take_append_drop, h] at this
  exact this
theorem by_con {c : Cs} {N : Nat} {a : Option Addr} {ca : Nat} {f : Option Addr} {cf : Nat} {v : List Int} {PB : Nat} {wr w3 w4 : World} {ba : Option Addr} {bk : Nat} {xs : List Ls}
    (HC : ∀ (W : World) (a : Option Addr) (k : Nat) (xs : List Ls), LssAt W a xs.length k xs → (∀ x, x ∈ xs → ∀ w1, Below W.heap.size W w1 → Calls Tryz.prog 121 (#[.slice x.a x.l.length x.cap] ++ #[.pointer (some ⟨PB, 0, none⟩)]) w1 fun e w' => e = .returned (.bool (!oneB c.s (natL x.l))) ∧ Below w1.heap.size w1 w') →
      Calls Tryz.prog 120 #[.slice a xs.length k, .func (.func 121) #[] #[.pointer (some ⟨PB, 0, none⟩)]] W fun e w' => e = .returned (.bool (xs.any fun x => !oneB c.s (natL x.l))) ∧ Below W.heap.size W w')
    (hta2 : TabAt wr N c a ca f cf) (hs2 : wr.cell? ⟨PB, 0, none⟩ = some (.pointer (some ⟨N, 0, none⟩))) (zb2 : PB < wr.heap.size) (hb3 : Below wr.heap.size wr w3) (hb4 : Below w3.heap.size w3 w4) (hx4 : LssAt w4 ba (byL v).length bk xs) (hxl : xs.map (·.l) = byL v) (hxr : ∀ x ∈ xs, x.l.length ≤ x.cap) (hle : v.length = c.ps.length) :
    Calls Tryz.prog 120 #[.slice ba xs.length bk, .func (.func 121) #[] #[.pointer (some ⟨PB, 0, none⟩)]] w4 fun e w' => e = .returned (.bool (xs.any fun x => !oneB c.s (natL x.l))) ∧ Below w4.heap.size w4 w' := by
  have hxn := hx4.len
  refine HC w4 ba bk xs (by rw [← hxn]; exact hx4) (fun x hx w5 h5 => ?_)
  refine wassigned1 c N a ca f cf x.a x.l.length x.cap x.l PB w5 (((hta2.below hb3).below hb4).below h5) ((hx4.each x hx).below h5) (hxr x hx) (fun y hy => ?_) (((bcell ((hb3.ch2 hb4).ch2 h5)).1 _ 0 zb2).trans hs2)
  have hm : x.l ∈ byL v := by rw [← hxl]; exact List.mem_map.2 ⟨x, hx, rfl⟩
  obtain ⟨u, _, e⟩ := List.mem_map.1 hm
  rw [← e] at hy
  obtain ⟨i, hi, rfl⟩ := List.mem_map.1 hy
  have := (mem_grpN.1 hi).1
  omega
theorem wassigned (c : Cs) (N : Nat) (a : Option Addr) (ca : Nat) (f : Option Addr) (cf : Nat) (al : Option Addr) (mm cl : Nat) (v : List Int) (w : World) (ht : TabAt w N c a ca f cf) (hv : IntsAt w al mm cl v) (hn : v.length ≤ 1000) (hm : c.ps.length ≤ 40) (hli : 0 ≤ c.lim) :
    Calls Tryz.prog 86 #[.pointer (some ⟨N, 0, none⟩), .slice al mm cl] w fun e w' => e = .returned (.bool (asgT c.s c.lim v)) ∧ Below w.heap.size w w' := by
  obtain rfl := hv.len
  have hsl : c.s.length = c.ps.length := pns_len _
  obtain ⟨t0, t1, t2, t3, t4, t5⟩ := ht.get
  have hNl := ht.lt
  have hB0 := one_alloc w (Obj.cells #[.pointer (some ⟨N, 0, none⟩)] 77)
  by_cases hle : v.length = c.ps.length
  · have hlb : ((v.length : Int) != (c.ps.length : Int)) = false := by simp; omega
    have hrs := fun k h => rgO_snoc v k h
    have hT0 := fun k h => @asgT_bad c.s c.lim v (@rgO_cut v k h)
    have hT1 := fun m h => @asgT_ok c.s c.lim v m (by omega) h
    have hmk := makeFuncW
    have hent : ∀ args w, (callFunc 121 args).run Tryz.prog w = .ok (.enter 121 args) w := enters_of Tryz.func121 (by kernel_rfl) rfl
    have hta := ht.below hB0
    have s0 : (w.alloc (Obj.cells #[.pointer (some ⟨N, 0, none⟩)] 77)).cell? ⟨w.heap.size, 0, none⟩ = some (.pointer (some ⟨N, 0, none⟩)) := by simp [go_sem]
    have zb : w.heap.size < (w.alloc (Obj.cells #[.pointer (some ⟨N, 0, none⟩)] 77)).heap.size := by simp
    have hCon := fun W a k xs (hx : LssAt W a xs.length k xs) hf => conS_any 121 #[.pointer (some ⟨w.heap.size, 0, none⟩)] (fun x => !oneB c.s (natL x.l)) a xs.length k xs W hx hent hf
    generalize hR : asgT c.s c.lim v = R at *
    clear hR hsl
    have HT0 := Lib.hid hT0
    have HT1 := Lib.hid hT1
    have Hrs := Lib.hid hrs
    have Hle := Lib.hid hle
    clear hT0 hT1 hrs hle
    go_enter Tryz.func86, Tryz.ntmps86
    go_wp2_with fail
    generalize w.alloc (Obj.cells #[.pointer (some ⟨N, 0, none⟩)] 77) = w1 at *
    go_loopw [5, 19] (fun t i wr => ∃ k m : Nat, k ≤ v.length ∧ i = .int .i64 k ∧ t = .int .i64 ((m : Int) - 1) ∧ m ≤ k ∧ Hid (rgO (v.take k) 0 = some m) ∧ Below w1.heap.size w1 wr) (fun _ i _ => v.length - (RowKit.intOf i).toNat)
    case atStart => exact ⟨0, 0, Nat.zero_le _, rfl, rfl, Nat.le_refl _, Lib.hid rfl, Below.refl _ _⟩
    case round =>
      obtain ⟨k, m, hk, rfl, rfl, hmk', hrg, hB⟩ := hrel
      have hnn : (0 : Int) ≤ k := by omega
      by_cases hlt : k < v.length
      · have i1 : (k : Int) < (v.length : Int) := by omega
        obtain ⟨b, o, rfl, _, d0⟩ := (hv.below (hB0.ch2 hB)).get hlt
        have hr1 := Hrs.out k hlt
        rw [hrg.out] at hr1
        generalize v.getD k 0 = x at *
        have hw1 : IntKind.i64.wrap ((m : Int) - 1 + 1) = m := by rw [show (m : Int) - 1 + 1 = m by omega]; exact IntWalk.i64_in _ (by omega)
        have hWi := fun W => wwithin_any x 0 m W
        by_cases hx : 0 ≤ x ∧ x ≤ m
        · have hwb : withinB x 0 m = true := by unfold withinB; simp [hx]
          rw [hwb] at hWi
          obtain ⟨m', hm'⟩ : ∃ m' : Nat, m' = if x = m then m + 1 else m := ⟨_, rfl⟩
          have HR1 : Hid (rgO (v.take (k + 1)) 0 = some m') := Lib.hid (by rw [hr1, hm']; simp [hx])
          have hmx : max ((m : Int) - 1) x = (m' : Int) - 1 := by rw [hm']; split <;> omega
          have hm1 : m' ≤ k + 1 := by rw [hm']; split <;> omega
          have HM1 := Lib.hid hm1
          clear hr1 hwb hm' hm1
          go_wp2_with (go_at_call 100; (with_reducible refine (hWi _).mono ?_); rintro e w3 ⟨rfl, hw⟩; obtain rfl := hw.symm)
          go_roundw
          case rel => exact ⟨k + 1, m', by omega, by go_num, rfl, HM1.out, HR1, hB⟩
          case measure => simp [RowKit.intOf]; omega
        · have hwb : withinB x 0 m = false := by unfold withinB; simp; omega
          rw [hwb] at hWi
          have HF := Lib.hid (HT0.out (k + 1) (by rw [hr1]; simp [hx]))
          clear hr1 hwb hx
          go_wp2_with (go_at_call 100; (with_reducible refine (hWi _).mono ?_); rintro e w3 ⟨rfl, hw⟩; obtain rfl := hw.symm)
          go_ret
          exact ⟨ret_bool HF.out.symm, hB0.ch2 hB⟩
      · have hk2 : k = v.length := by omega
        subst hk2
        have hrg' := hrg.out
        rw [List.take_length] at hrg'
        obtain ⟨_, hsp, _⟩ := rgO_spec hrg'
        have hE := HT1.out m hrg' (fun x hx => (hsp x hx).1)
        have hle := Hle.out
        have hB1 := hB0.ch2 hB
        have hta2 := hta.below hB
        have hMo := wmost c N a ca f cf wr hta2 hm
        have hmo : c.most = if 0 < c.lim then min (c.ps.length : Int) c.lim else c.ps.length := rfl
        have hdm : decide ((m : Int) - 1 < c.most) = (decide (c.lim = 0) || decide ((m : Int) ≤ c.lim)) := by
          rw [Bool.eq_iff_iff]
          simp only [Bool.or_eq_true, decide_eq_true_eq]
          rw [hmo]
          split <;> omega
        rw [← hdm] at hE
        have hs2 := ((bcell hB).1 _ 0 zb).trans s0
        have zb2 := Nat.lt_of_lt_of_le zb hB.size
        have hBy := fun W h => wbyVessel al cl v.length v W h hn (fun x hx => by have := hsp x hx; omega)
        have hv2 := hv.below hB1
        generalize c.most = MM at *
        clear hdm hmo hrg' hrg
        have HE := Lib.hid hE
        cases hd : decide ((m : Int) - 1 < MM)
        · have HF : Hid (R = false) := Lib.hid (by rw [HE.out, hd]; rfl)
          clear hE hle hsp hBy
          go_wp2_with (go_at_call 85; (with_reducible refine hMo.mono ?_); rintro e w3 ⟨rfl, hb3⟩)
          go_ret
          exact ⟨ret_bool HF.out.symm, hB1.ch2 hb3⟩
        · have HF : Hid (R = !((byL v).any fun l => !oneB c.s (natL l))) := Lib.hid (by rw [HE.out, hd]; simp)
          have HBy := Lib.hid hBy
          have HC := Lib.hid hCon
          have Hsp := Lib.hid hsp
          have Hle2 := Lib.hid hle
          clear hE hle hsp hBy hCon
          go_wp2_with (first
            | (go_at_call 85; (with_reducible refine hMo.mono ?_); rintro e w3 ⟨rfl, hb3⟩)
            | (go_at_call 108; (with_reducible refine (HBy.out _ (hv2.below hb3)).mono ?_); rintro e w4 ⟨ba, bk, xs, rfl, hb4, hx4, hxl, hxr⟩; have hc := by_con HC.out hta2 hs2 zb2 hb3 hb4 hx4 hxl hxr Hle2.out; have hxn := hx4.len; have HXL := Lib.hid hxl; clear hx4 hxl hxr; rw [hxn])
            | (go_at_call 120; (with_reducible refine hc.mono ?_); rintro e w6 ⟨rfl, hb6⟩))
          go_ret
          exact ⟨ret_bool (by rw [HF.out, ← HXL.out, List.any_map]; rfl), ((hB1.ch2 hb3).ch2 hb4).ch2 hb6⟩
  · have hlb : ((v.length : Int) != (c.ps.length : Int)) = true := by simp; omega
    have hT : asgT c.s c.lim v = false := asgT_len (by omega)
    rw [hT]
    go_enter Tryz.func86, Tryz.ntmps86
    go_wp2_with fail
    go_ret
    exact ⟨rfl, hB0⟩
theorem wCheckAssign (c : Cs) (al : Option Addr) (m cl : Nat) (l : List Int) (w : World) (hc : CsAt w c) (hl : IntsAt w al m cl l) (hls : l.length ≤ 1000) :
    Calls Tryz.prog 34 #[c.v, .slice al m cl] w fun e w' => e = .returned (.tuple #[.bool (c.asg l), .int .i64 c.chk]) ∧ Below w.heap.size w w' := by
  have hC := fun w1 (h : CsAt w1 c) => wlaid0 c w1 h
  have hr : c.asg l = (decide (c.chk = 0) && asgT c.s c.lim l) := rfl
  have hz := @Cs.chk_zero c
  obtain rfl := hl.len
  generalize c.asg l = R at *
  generalize c.chk = E at *
  by_cases h0 : E = 0
  · subst h0
    obtain ⟨hm, hok, hsl⟩ := (hz.1 rfl).many'
    have hli := (hz.1 rfl).lim
    have hO := fun N w1 a ca f cf (hs : TabAt w1 N c a ca f cf) (h : IntsAt w1 al l.length cl l) => wassigned c N a ca f cf al _ cl l w1 hs h hls (by omega) (by omega)
    simp only [decide_true, Bool.true_and, ne_eq, not_true, false_implies, true_and, true_implies] at hC hr
    rw [← hr] at hO
    clear hz hr hm hok hsl hli
    obtain ⟨ware, lim, byr, a, cap, ps⟩ := c
    simp only [Cs.v] at *
    have hB0 := one_alloc w (Obj.cells #[.string ware, .int .i64 lim, .int .i64 byr, .slice a ps.length cap] 24)
    have hbx := hc.below hB0
    have hlx := hl.below hB0
    go_enter Tryz.func34, Tryz.ntmps34
    go_wp2_with (first
      | (go_at_call 75; (with_reducible refine (hC _ hbx).mono ?_); rintro e w1 ⟨N, a1, ca, f1, cf, rfl, hb1, hN, hT⟩; obtain ⟨t0, t1, t2, t3, t4, t5⟩ := hT.get; have hNl := hT.lt)
      | (go_at_call 86; (with_reducible refine (hO _ _ _ _ _ _ hT (hlx.below hb1)).mono ?_); rintro e w2 ⟨rfl, hb2⟩))
    go_ret2
    exact ⟨rfl, (hB0.ch2 hb1).ch2 hb2⟩
  · have h2 : (E != 0) = true := by simpa using h0
    have hd : decide (E = 0) = false := by simpa using h0
    rw [hd] at hr
    simp only [Bool.false_and] at hr
    subst hr
    have hC2 := fun w1 h => (hC w1 h).mono fun e w' hh => hh.1 h0
    clear hd hz h0 hC
    obtain ⟨ware, lim, byr, a, cap, ps⟩ := c
    simp only [Cs.v] at *
    have hB0 := one_alloc w (Obj.cells #[.string ware, .int .i64 lim, .int .i64 byr, .slice a ps.length cap] 24)
    have hbx := hc.below hB0
    go_enter Tryz.func34, Tryz.ntmps34
    go_wp2_with (go_at_call 75; (with_reducible refine (hC2 _ hbx).mono ?_); rintro e w1 ⟨rfl, hb1⟩)
    go_ret2
    exact ⟨rfl, hB0.ch2 hb1⟩
theorem natL_of (v : List Int) (i k : Nat) : natL (ofV v i k) = grpN v k i := by
  unfold natL ofV pickL grpN
  rw [List.map_map]
  have e : (List.range k).filter (fun j => decide (v.getD j 0 = (i : Int))) = (List.range k).filter fun j => v.getD j 0 == (i : Int) := List.filter_congr fun j _ => by rw [Bool.eq_iff_iff, decide_eq_true_eq, beq_iff_eq]
  rw [e]
  conv => rhs; rw [← List.map_id ((List.range k).filter fun j => v.getD j 0 == (i : Int))]
  exact List.map_congr_left fun x _ => by simp
/-- The colours are what is common to each vessel's parts. -/
theorem colN_by (s : List Pn) (v : List Int) : colN s v (vesL v).toNat = (byL v).map fun l => comL s (natL l) := by
  unfold colN byL
  rw [List.map_map]
  exact List.map_congr_left fun i _ => by simp only [Function.comp]; rw [natL_of, natL_intL]
theorem colE_cases (c : Cs) (v : List Int) : c.colE v = if c.chk = 0 then (if asgT c.s c.lim v then 0 else 1) else c.chk := by
  unfold Cs.colE
  by_cases h : c.chk = 0
  · rw [if_pos h, if_pos h]
    have : c.asg v = asgT c.s c.lim v := by unfold Cs.asg asgT; rw [decide_eq_true h]; rfl
    rw [this]
  · rw [if_neg h, if_neg h]
theorem wColours (c : Cs) (al : Option Addr) (m cl : Nat) (v : List Int) (w : World) (hc : CsAt w c) (hl : IntsAt w al m cl v) (hls : v.length ≤ 1000) :
    Calls Tryz.prog 61 #[c.v, .slice al m cl] w (RngPost w (c.colL v (vesL v).toNat) (c.colE v)) := by
  have hC := fun w1 (h : CsAt w1 c) => wlaid0 c w1 h
  have hz := @Cs.chk_zero c
  have hE := colE_cases c v
  have hr : c.colL v (vesL v).toNat = if c.colE v = 0 then (byL v).map fun l => comL c.s (natL l) else [] := by unfold Cs.colL; rw [colN_by]
  obtain rfl := hl.len
  generalize c.colL v (vesL v).toNat = R at *
  generalize c.colE v = EE at *
  have hP := Lib.hid (show ∀ w' a k, Below w.heap.size w w' → RngsAt w' a R.length k R → RngPost w R EE (.returned (.tuple #[.slice a R.length k, .int .i64 EE])) w' from fun w' a k h1 h2 => ⟨a, k, rfl, h1, h2⟩)
  have hasg := @Cs.asg_some c v
  have hag : c.asg v = (decide (c.chk = 0) && asgT c.s c.lim v) := rfl
  generalize c.chk = E at *
  by_cases h0 : E = 0
  · subst h0
    obtain ⟨hm, hok, hsl⟩ := (hz.1 rfl).many'
    have hli := (hz.1 rfl).lim
    have hO := fun N w1 a ca f cf (hs : TabAt w1 N c a ca f cf) (h : IntsAt w1 al v.length cl v) => wassigned c N a ca f cf al _ cl v w1 hs h hls (by omega) (by omega)
    simp only [ne_eq, not_true, false_implies, true_and, true_implies, decide_true, Bool.true_and, if_true] at hC hE hag
    cases hT : asgT c.s c.lim v
    · rw [hT] at hE hO
      simp only [Bool.false_eq_true, if_false] at hE
      subst hE
      rw [if_neg (by decide)] at hr
      subst hr
      generalize RngPost w [] 1 = Post at *
      clear hz hm hok hsl hli hasg hag hT
      obtain ⟨ware, lim, byr, a, cap, ps⟩ := c
      simp only [Cs.v] at *
      have hB0 := one_alloc w (Obj.cells #[.string ware, .int .i64 lim, .int .i64 byr, .slice a ps.length cap] 24)
      have hbx := hc.below hB0
      have hlx := hl.below hB0
      go_enter Tryz.func61, Tryz.ntmps61
      go_wp2_with (first
        | (go_at_call 75; (with_reducible refine (hC _ hbx).mono ?_); rintro e w1 ⟨N, a1, ca, f1, cf, rfl, hb1, hN, hT⟩; obtain ⟨t0, t1, t2, t3, t4, t5⟩ := hT.get; have hNl := hT.lt)
        | (go_at_call 86; (with_reducible refine (hO _ _ _ _ _ _ hT (hlx.below hb1)).mono ?_); rintro e w2 ⟨rfl, hb2⟩))
      exact hP.out _ none 0 ((hB0.ch2 hb1).ch2 hb2) ⟨rfl, by decide, RowAt.nilAt _⟩
    · rw [hT] at hE hO hag
      simp only [if_true] at hE
      subst hE
      rw [if_pos rfl] at hr
      obtain ⟨_, mm, _, _, ha3, ha4, ha5, _⟩ := hasg hag
      have hx9 : ∀ x ∈ v, 0 ≤ x ∧ x ≤ 900 := fun x hx => by have := ha5 x hx; omega
      have hBy := fun W h => wbyVessel al cl v.length v W h hls hx9
      have hCm := fun W a1 ca f1 cf (hs : SpansAt W a1 ca f1 cf c.ps.length c.s) (x : Ls) (hx : IntsAt W x.a x.l.length x.cap x.l) (hin : ∀ y ∈ x.l, 0 ≤ y ∧ y < c.s.length) => wcommon a1 ca f1 cf _ c.s x.a x.l.length x.cap x.l W hs hx hin
      have hby : ∀ l ∈ byL v, ∀ y ∈ l, 0 ≤ y ∧ y < c.s.length := fun l hm y hy => by
        obtain ⟨u, _, e⟩ := List.mem_map.1 hm
        rw [← e] at hy
        obtain ⟨i, hi, rfl⟩ := List.mem_map.1 hy
        have := (mem_grpN.1 hi).1
        omega
      unfold spV at hCm
      have HVl : Hid (vesL v ≤ 1000) := Lib.hid (by omega)
      generalize RngPost w R 0 = Post at *
      have Hr := Lib.hid hr
      have Hby := Lib.hid hby
      clear hz hm hok hli hasg hag hT hr hby hx9 ha5 ha4 ha3
      obtain ⟨ware, lim, byr, a, cap, ps⟩ := c
      simp only [Cs.v] at *
      have hB0 := one_alloc w (Obj.cells #[.string ware, .int .i64 lim, .int .i64 byr, .slice a ps.length cap] 24)
      have hbx := hc.below hB0
      have hlx := hl.below hB0
      go_enter Tryz.func61, Tryz.ntmps61
      go_wp2_with (first
        | (go_at_call 75; (with_reducible refine (hC _ hbx).mono ?_); rintro e w1 ⟨N, a1, ca, f1, cf, rfl, hb1, hN, hT⟩; obtain ⟨t0, t1, t2, t3, t4, t5⟩ := hT.get; have hNl := hT.lt)
        | (go_at_call 86; (with_reducible refine (hO _ _ _ _ _ _ hT (hlx.below hb1)).mono ?_); rintro e w2 ⟨rfl, hb2⟩)
        | (go_at_call 108; (with_reducible refine (hBy _ ((hlx.below hb1).below hb2)).mono ?_); rintro e w4 ⟨ba, bk, xs, rfl, hb4, hx4, hxl, hxr⟩; have hxn := hx4.len; rw [hxn]))
      have hB4 := ((hB0.ch2 hb1).ch2 hb2).ch2 hb4
      have h14 := hb2.ch2 hb4
      have hTp := hT.sp
      have HT4 := Lib.hid (hTp.below h14)
      have s4 := ((bcell h14).1 _ 4 hNl).trans t4
      have s5 := ((bcell h14).1 _ 5 hNl).trans t5
      have zN := Nat.lt_of_lt_of_le hNl h14.size
      have HXL := Lib.hid hxl
      have hin := fun k (h : k < xs.length) => Hby.out (xs.getD k default).l (by rw [← HXL.out, getL h]; exact List.mem_map.2 ⟨_, List.getElem_mem h, rfl⟩)
      have hxs : xs.length ≤ 1000000 := by
        have h1 := congrArg List.length hxl
        have h2 : (byL v).length = (vesL v).toNat := by simp [byL]
        rw [List.length_map] at h1
        have := HVl.out
        omega
      have Hin := Lib.hid hin
      rw [hxn] at hx4
      clear hin hxl hxr hxn hT hTp t0 t1 t2 t3 t4 t5 hb1 hb2 hb4 hC hO hBy hB0 hbx hlx
      go_loopw [8, 30] (fun t i wr => ∃ k : Nat, k ≤ xs.length ∧ i = .int .i64 k ∧ Below w4.heap.size w4 wr ∧ wr.ownsRow w4.heap.size 33 2 t k (rcs ((xs.take k).map fun x => comL (Cs.s ⟨ware, lim, byr, a, cap, ps⟩) (natL x.l)))) (fun _ i _ => xs.length - (RowKit.intOf i).toNat)
      case atStart => exact ⟨0, Nat.zero_le _, rfl, Below.refl _ _, World.ownsRow_nil _ _ _ _⟩
      case round =>
        obtain ⟨k, hk, rfl, hB, hown⟩ := hrel
        have hnn : (0 : Int) ≤ k := by omega
        by_cases hlt : k < xs.length
        · have i1 : (k : Int) < (xs.length : Int) := by omega
          obtain ⟨b, o, rfl, _, d0⟩ := (hx4.below hB).get hlt
          have hxe := (hx4.each _ (by rw [getL hlt]; exact List.getElem_mem hlt : xs.getD k default ∈ xs)).below hB
          have hCk := hCm wr _ _ _ _ (HT4.out.below hB) _ hxe (Hin.out k hlt)
          have htk := take_get hlt
          generalize xs.getD k default = x at *
          have HO := Lib.hid hown
          obtain ⟨va, vc, rfl, _⟩ := owns_slice hown
          obtain ⟨N0, hN0⟩ : ∃ N0, (xs.take k).map (fun x => comL (Cs.s ⟨ware, lim, byr, a, cap, ps⟩) (natL x.l)) = N0 := ⟨_, rfl⟩
          obtain ⟨r, hrr⟩ : ∃ r, comL (Cs.s ⟨ware, lim, byr, a, cap, ps⟩) (natL x.l) = r := ⟨_, rfl⟩
          have HN1 : Hid ((xs.take (k + 1)).map (fun x => comL (Cs.s ⟨ware, lim, byr, a, cap, ps⟩) (natL x.l)) = N0 ++ [r]) := Lib.hid (by rw [htk, List.map_append, hN0, List.map_singleton, hrr])
          rw [hN0] at HO
          rw [hrr] at hCk
          obtain ⟨r1, r2⟩ := r
          have q4 := ((bcell hB).1 _ 4 zN).trans s4
          have q5 := ((bcell hB).1 _ 5 zN).trans s5
          clear hown htk hN0 hrr
          go_wp2_with (first
            | (go_at_call 95; (with_reducible refine hCk.mono ?_); rintro e w5 ⟨rfl, hb5⟩)
            | (at_builtin; refine wpList_app elemR rfl _ _ rfl ((HO.out.up hb5 (Nat.le_refl _)).up (one_alloc w5 (Obj.cells #[.int .i64 r1, .int .i64 r2] 33)) (Nat.le_refl _)) rfl rfl (RowAt.of_heap (World.alloc_heap_new w5 _)) rfl (fun u hu => rcs_one [(r1, r2)] u (by rw [rcs_one1]; exact hu)) (by unfold maxLen; omega) (by omega) (by have := hB.size; have := hb5.size; simp; omega) ?_))
          intro v' w8 ho hg8 hb8 _ _
          have HO8 := Lib.hid ho
          have HB8 := Lib.hid ((hB.trans ((hb5.ch2 (one_alloc _ _)).mono hB.size)).trans hb8)
          clear ho hg8 hb8
          go_wp2
          go_roundw
          case rel => exact ⟨k + 1, by omega, by go_num, HB8.out, by rw [HN1.out, rcs_append, rcs_one1]; exact HO8.out⟩
          case measure => simp [RowKit.intOf]; omega
        · have hk2 : k = xs.length := by omega
          subst hk2
          rw [List.take_length] at hown
          obtain ⟨va, vc, rfl, _⟩ := owns_slice hown
          have hRe : xs.map (fun x => comL (Cs.s ⟨ware, lim, byr, a, cap, ps⟩) (natL x.l)) = R := by rw [Hr.out, ← HXL.out, List.map_map]; rfl
          rw [hRe] at hown
          have hRl : xs.length = R.length := by rw [← hRe, List.length_map]
          have hRA : RngsAt wr va R.length vc R := by
            rw [hRl] at hown
            exact RngsAt.of_owns hown (by omega)
          have HPP := Lib.hid (hP.out wr va vc (hB4.ch2 hB) hRA)
          have HRl := Lib.hid hRl
          clear hRe hRl hRA hown hP
          go_wp2_with fail
          rw [HRl.out]
          exact HPP.out
  · have h2 : (E != 0) = true := by simpa using h0
    rw [if_neg h0] at hE
    subst hE
    rw [if_neg h0] at hr
    subst hr
    have hC2 := fun w1 h => (hC w1 h).mono fun e w' hh => hh.1 h0
    generalize RngPost w [] EE = Post at *
    clear hz h0 hC hasg hag
    obtain ⟨ware, lim, byr, a, cap, ps⟩ := c
    simp only [Cs.v] at *
    have hB0 := one_alloc w (Obj.cells #[.string ware, .int .i64 lim, .int .i64 byr, .slice a ps.length cap] 24)
    have hbx := hc.below hB0
    have h3 : (EE == 0) = false := by simpa using h2
    go_enter Tryz.func61, Tryz.ntmps61
    go_wp2_with (go_at_call 75; (with_reducible refine (hC2 _ hbx).mono ?_); rintro e w1 ⟨rfl, hb1⟩)
    exact hP.out _ none 0 (hB0.ch2 hb1) ⟨rfl, by decide, RowAt.nilAt _⟩
end Go.Proofs.YtodkbfbbpfghiaaGreat

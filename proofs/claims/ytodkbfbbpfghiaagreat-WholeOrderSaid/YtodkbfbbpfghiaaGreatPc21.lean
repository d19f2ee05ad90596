/-
  Lemmas and walks for the laws on roads and boards: what each function of the program answers, for every input.
-/
import Derived.Test.YtodkbfbbpfghiaaGreatPc20
import Derived.Test.YtodkbfbbpfghiaaGreatPc04
import Derived.Shelf.Spec.SlicesInsertGrow
import Derived.Test.YtodkbfbbpfghiaaGreatPc19
import Derived.Test.YtodkbfbbpfghiaaGreatPc11
import Derived.Test.YtodkbfbbpfghiaaGreatPc08
import Derived.Test.YtodkbfbbpfghiaaGreatPc13
import Derived.Test.YtodkbfbbpfghiaaGreatPc18
set_option linter.unusedSimpArgs false
set_option linter.unusedVariables false
set_option linter.unnecessarySimpa false
namespace Go.Proofs.YtodkbfbbpfghiaaGreat
open Go.RowKit Go.Shelf
set_option maxHeartbeats 4000000
set_option maxRecDepth 100000
theorem chg_setCells {E : List Nat} {g : Nat} (hE : g ∈ E) : ∀ (vs : List Value) (o : Nat) (w : World), SL.Chg E w (w.setCells g o vs)
  | [], _, w => .refl _ _
  | v :: r, o, w => (SL.Chg.setCell w (p := ⟨g, o, none⟩) hE v).trans (chg_setCells hE r (o + 1) _)
theorem chg_drew (E : List Nat) (w : World) : SL.Chg E w w.drew := ⟨rfl, rfl, rfl, Nat.le_refl _, fun _ _ _ => rfl⟩
theorem row_cellsP {w : World} {G c : Nat} {L : List Value} (hz : G < w.heap.size) (hp : ∀ j u, L[j]? = some u → w.cell? ⟨G, j, none⟩ = some u) : RowAt w (some ⟨G, 0, none⟩) c L :=
  ⟨fun h => (by cases h), fun x hx => by
    obtain rfl := Option.some.inj hx
    exact ⟨rfl, hz, fun j u hj => by rw [Nat.zero_add]; exact hp j u hj⟩⟩
theorem put_get {V : List Value} {i : Nat} {y : Value} (hi : i ≤ V.length) {j : Nat} {u : Value} (h : (V.take i ++ y :: V.drop i)[j]? = some u) : (j < i ∧ V[j]? = some u) ∨ (j = i ∧ u = y) ∨ (i < j ∧ j ≤ V.length ∧ V[j - 1]? = some u) := by
  have hl : (V.take i).length = i := by rw [List.length_take]; omega
  rw [List.getElem?_append] at h
  split at h
  · rename_i h1
    rw [hl] at h1
    rw [List.getElem?_take_of_lt h1] at h
    exact .inl ⟨h1, h⟩
  · rename_i h1
    rw [hl] at h1 h
    rcases Nat.eq_or_lt_of_le (Nat.le_of_not_lt h1) with e | e
    · subst e
      simp at h
      exact .inr (.inl ⟨rfl, h.symm⟩)
    · obtain ⟨d, rfl⟩ : ∃ d, j = i + (d + 1) := ⟨j - i - 1, by omega⟩
      rw [show i + (d + 1) - i = d + 1 by omega, List.getElem?_cons_succ, List.getElem?_drop] at h
      have := (List.getElem?_eq_some_iff.1 h).1
      exact .inr (.inr ⟨by omega, by omega, by rw [show i + (d + 1) - 1 = i + d by omega]; exact h⟩)
theorem winsert (v0 : Value) (n i base : Nat) (v : List Int) (x : Int) (VB : Nat) (w : World) (h : w.ownsRow base 3 1 v0 n (v.map (.int .i64))) (hi : i ≤ n) (hn : n ≤ 1000)
    (hVB : w.heap[VB]? = some (.cells #[.int .i64 x] 3 (0, 0))) (hne : VB ∉ v0.ownBlock.toList) :
    Calls Tryz.prog 90 #[v0, .int .i64 i, .slice (some ⟨VB, 0, none⟩) 1 1] w fun e w' => ∃ a k, e = .returned (.slice a (n + 1) k) ∧ IntsAt w' a (n + 1) k (putAt v i x) ∧ SL.Chg v0.ownBlock.toList w w' := by
  have hvl : v.length = n := by have := h.1; simpa using this
  have hpl : (putAt v i x).length = n + 1 := by rw [putAt_len (by omega), hvl]
  have hmap : (putAt v i x).map (Value.int .i64) = (v.map (.int .i64)).take i ++ .int .i64 x :: (v.map (.int .i64)).drop i := by
    unfold putAt
    rw [List.map_append, List.map_cons, List.map_take, List.map_drop]
  have hfin : ∀ (w' : World) (G k : Nat), G < w'.heap.size → (∀ j u, ((v.map (Value.int .i64)).take i ++ .int .i64 x :: (v.map (.int .i64)).drop i)[j]? = some u → w'.cell? ⟨G, j, none⟩ = some u) → IntsAt w' (some ⟨G, 0, none⟩) (n + 1) k (putAt v i x) := fun w' G k hz hp =>
    ⟨hpl.symm, by omega, by rw [hmap]; exact row_cellsP hz hp⟩
  have hvs : ∀ j u, [Value.int .i64 x][j]? = some u → w.cell? ⟨VB, 0 + j, none⟩ = some u := fun j u hj => ((RowAt.of_heap hVB : RowAt w (some ⟨VB, 0, none⟩) 1 [Value.int .i64 x]).at_ _ rfl).2.2 j u hj
  have h1v : ∀ u ∈ [Value.int .i64 x], u.oneCell' = true := by simp [Value.oneCell']
  have h1c : ∀ u ∈ v.map (Value.int .i64), u.oneCell' = true := ones_int v
  have hVl : (v.map (Value.int .i64)).length = n := by rw [List.length_map, hvl]
  generalize v.map (Value.int .i64) = V at *
  have hzI : ∀ k, (Builtin.zeroCells (Value.int .i64 0).cells k).size = k := fun k => by simp [Builtin.zeroCells, Value.cells]
  have h' := h
  obtain ⟨hl, ⟨rfl, e0⟩ | ⟨g, c, cur, rfl, hbg, hg, g1, g2, g3, g4⟩⟩ := h
  · subst e0
    obtain rfl : V = [] := List.eq_nil_of_length_eq_zero hVl
    obtain rfl : i = 0 := by omega
    refine (Any2.slices_Insert_int_end_grow Tryz.insertA none 0 0 VB 0 1 1 [] [.int .i64 x] w (by omega) (by omega) (by omega) (by omega) rfl rfl (fun _ => rfl) (fun a h => by cases h) hvs h1v).mono ?_
    rintro e w' ⟨rfl, rfl⟩
    refine ⟨_, _, rfl, hfin _ _ _ (by simp) (fun j u hj => ?_), (chg_drew _ w).trans (.alloc _ _ _)⟩
    refine ((SL.cells_of (World.alloc_heap_new w.drew _)).1 j).trans ?_
    simp at hj ⊢
    rcases List.getElem?_eq_some_iff.1 hj with ⟨hj1, hj2⟩
    simp at hj1 hj2
    subst hj1
    simp [Array.getElem?_append, hj2]
  · rw [Nat.mul_one] at g3 g4
    have hrow := RowAt.of_owns h'
    have hgl : g < w.heap.size := (Array.getElem?_eq_some_iff.1 hg).1
    have hcs : ∀ j u, V[j]? = some u → w.cell? ⟨g, 0 + j, none⟩ = some u := fun j u hj => (hrow.at_ _ rfl).2.2 j u hj
    have hcs0 : ∀ j u, V[j]? = some u → w.cell? ⟨g, j, none⟩ = some u := fun j u hj => by have := hcs j u hj; rwa [Nat.zero_add] at this
    have hsome : ∀ j, j < c → (w.cell? ⟨g, j, none⟩).isSome = true := fun j hj => by
      rw [(SL.cells_of hg).1, Array.getElem?_eq_getElem (by omega)]; rfl
    have hfz : ∀ j, w.frozen? ⟨g, j, none⟩ = false := (SL.cells_of hg).2
    have hgE : g ∈ (Value.slice (some ⟨g, 0, none⟩) n c).ownBlock.toList := by simp [Value.ownBlock]
    have hVg : VB ≠ g := fun e => hne (e ▸ hgE)
    have hc63 : c ≤ 9223372036854775807 := by unfold maxLen at g2; omega
    by_cases hin : i < n
    · have hdl : (V.drop i).length = n - i := by rw [List.length_drop, hVl]
      by_cases hroom : n + 1 ≤ c
      · refine (Any2.slices_Insert_int_shift Tryz.insertA g 0 n c i VB 0 1 1 V [.int .i64 x] w hin (by omega) hroom hc63 hVg hVl rfl hcs (fun j hj => by rw [Nat.zero_add]; exact hsome j (by omega)) (fun j _ => by rw [Nat.zero_add]; exact hfz j) hvs h1c h1v 3 3 1 cur.size (by simp [World.shape?, hVB]) (by simp [World.shape?, hg]) (by omega) ((SL.cells_of hVB).2 0) ((SL.cells_of hVB).2 1)).mono ?_
        rintro e w' ⟨rfl, rfl⟩
        have hC : SL.Chg (Value.slice (some ⟨g, 0, none⟩) n c).ownBlock.toList w ((w.drew.setCells g (0 + (i + 1)) (V.drop i)).setCells g (0 + i) [.int .i64 x]) := ((chg_drew _ w).trans (chg_setCells hgE _ _ _)).trans (chg_setCells hgE _ _ _)
        refine ⟨_, _, rfl, hfin _ _ _ (Nat.lt_of_lt_of_le hgl hC.size) (fun j u hj => ?_), hC⟩
        rcases put_get (by omega) hj with ⟨a1, a2⟩ | ⟨a1, a2⟩ | ⟨a1, a3, a2⟩
        · rw [World.cell?_setCells_out g _ _ _ _ (fun _ _ => .inl (by simp <;> omega)), World.cell?_setCells_out g _ _ _ _ (fun _ _ => .inl (by simp <;> omega))]
          exact hcs0 j u a2
        · subst a1 a2
          have := World.cell?_setCells_in g [.int .i64 x] (0 + j) (w.drew.setCells g (0 + (j + 1)) (V.drop j)) (fun q hq => by
            simp at hq
            subst hq
            rw [World.cell?_setCells_out g _ _ _ _ (fun _ _ => .inl (by simp <;> omega)), show 0 + j + 0 = j by omega]
            exact hsome j (by omega)) 0 (by simp)
          rw [show 0 + j + 0 = j by omega] at this
          simpa using this
        · rw [World.cell?_setCells_out g _ _ _ _ (fun _ _ => .inr (by simp <;> omega))]
          have := World.cell?_setCells_in g (V.drop i) (0 + (i + 1)) w.drew (fun q hq => by
            rw [show 0 + (i + 1) + q = i + 1 + q by omega]
            exact hsome _ (by omega)) (j - (i + 1)) (by omega)
          rw [show 0 + (i + 1) + (j - (i + 1)) = j by omega] at this
          rw [this, List.getElem_drop, ← a2, List.getElem?_eq_getElem (by omega)]
          congr 2
          omega
      · refine (Any2.slices_Insert_int_grow Tryz.insertA g 0 n c i VB 0 1 1 V [.int .i64 x] w hin (by omega) g1 (by omega) (by omega) hVl rfl hcs hvs h1c h1v).mono ?_
        rintro e w' ⟨rfl, rfl⟩
        generalize hA : (V.take i).toArray ++ Builtin.zeroCells (Value.int .i64 0).cells (n + 1 - i) ++ Builtin.zeroCells (Value.int .i64 0).cells (grownCap w (n + 1) c (Tryz.insertA_ren.t 3) - (n + 1)) = A
        have hAs : n + 1 ≤ A.size := by
          rw [← hA]
          simp only [Array.size_append, hzI, List.size_toArray, List.length_take]
          omega
        have hAt : ∀ j u, j < i → V[j]? = some u → A[j]? = some u := fun j u hj hu => by
          rw [← hA, ← Array.getElem?_toList]
          simp only [Array.toList_append, List.append_assoc]
          rw [List.getElem?_append_left (by simp; omega), List.getElem?_take_of_lt hj]
          exact hu
        have hnew := (SL.cells_of (World.alloc_heap_new w (Obj.cells A (Tryz.insertA_ren.t 3)))).1
        have h1 : SL.Chg [w.heap.size] (w.alloc (.cells A (Tryz.insertA_ren.t 3))) ((((w.alloc (.cells A (Tryz.insertA_ren.t 3))).drew.setCells w.heap.size i [.int .i64 x]).drew).setCells w.heap.size (i + 1) (V.drop i)) := (((chg_drew _ _).trans (chg_setCells (by simp) _ _ _)).trans (chg_drew _ _)).trans (chg_setCells (by simp) _ _ _)
        have hC : SL.Chg (Value.slice (some ⟨g, 0, none⟩) n c).ownBlock.toList w ((((w.alloc (.cells A (Tryz.insertA_ren.t 3))).drew.setCells w.heap.size i [.int .i64 x]).drew).setCells w.heap.size (i + 1) (V.drop i)) := .of_below ((one_alloc w _).trans (h1.belowW (by simp) (fun k hk => by simp at hk; omega)))
        have hS : w.heap.size < (w.alloc (.cells A (Tryz.insertA_ren.t 3))).heap.size := by simp
        refine ⟨_, _, rfl, hfin _ _ _ (Nat.lt_of_lt_of_le hS h1.size) (fun j u hj => ?_), hC⟩
        have hsm : ∀ j, j < n + 1 → ((w.alloc (.cells A (Tryz.insertA_ren.t 3))).cell? ⟨w.heap.size, j, none⟩).isSome = true := fun j hj => by
          rw [hnew, Array.getElem?_eq_getElem (by omega)]; rfl
        rcases put_get (by omega) hj with ⟨a1, a2⟩ | ⟨a1, a2⟩ | ⟨a1, a3, a2⟩
        · rw [World.cell?_setCells_out _ _ _ _ _ (fun _ _ => .inl (by simp <;> omega))]
          refine (World.cell?_setCells_out w.heap.size [.int .i64 x] i (w.alloc (.cells A (Tryz.insertA_ren.t 3))).drew _ (fun _ _ => .inl (by simp <;> omega))).trans ?_
          exact (hnew j).trans (hAt j u a1 a2)
        · subst a1 a2
          rw [World.cell?_setCells_out _ _ _ _ _ (fun _ _ => .inl (by simp))]
          have := World.cell?_setCells_in w.heap.size [.int .i64 x] j (w.alloc (.cells A (Tryz.insertA_ren.t 3))).drew (fun q hq => by
            simp at hq
            subst hq
            exact hsm _ (by omega)) 0 (by simp)
          simpa using this
        · have := World.cell?_setCells_in w.heap.size (V.drop i) (i + 1) ((w.alloc (.cells A (Tryz.insertA_ren.t 3))).drew.setCells w.heap.size i [.int .i64 x]).drew (fun q hq => by
            show (((w.alloc (.cells A (Tryz.insertA_ren.t 3))).drew.setCells w.heap.size i [.int .i64 x]).cell? _).isSome = true
            rw [World.cell?_setCells_out _ _ _ _ _ (fun _ _ => .inr (by simp <;> omega))]
            exact hsm _ (by omega)) (j - (i + 1)) (by omega)
          rw [show i + 1 + (j - (i + 1)) = j by omega] at this
          rw [this, List.getElem_drop, ← a2, List.getElem?_eq_getElem (by omega)]
          congr 2
          omega
    · obtain rfl : i = n := by omega
      have hd : V.drop i = [] := List.drop_of_length_le (by omega)
      have ht : V.take i = V := List.take_of_length_le (by omega)
      by_cases hroom : i + 1 ≤ c
      · refine (Any2.slices_Insert_int_end_room Tryz.insertA g 0 i c VB 0 1 1 [.int .i64 x] w (by omega) hroom hc63 rfl (fun j hj => by rw [show 0 + i + j = i by omega]; exact hsome i (by omega)) (fun j hj => hfz _) hvs h1v).mono ?_
        rintro e w' ⟨rfl, rfl⟩
        refine ⟨_, _, rfl, hfin _ _ _ (Nat.lt_of_lt_of_le hgl (chg_setCells hgE _ _ _).size) (fun j u hj => ?_), chg_setCells hgE _ _ _⟩
        rcases put_get (by omega) hj with ⟨a1, a2⟩ | ⟨a1, a2⟩ | ⟨a1, a2, _⟩
        · rw [World.cell?_setCells_out g _ _ _ _ (fun _ _ => .inl (by simp <;> omega))]
          exact hcs0 j u a2
        · subst a1 a2
          have := World.cell?_setCells_in g [.int .i64 x] (0 + j) w (fun q hq => by simp at hq; subst hq; rw [show 0 + j + 0 = j by omega]; exact hsome j (by omega)) 0 (by simp)
          rw [show 0 + j + 0 = j by omega] at this
          simpa using this
        · omega
      · refine (Any2.slices_Insert_int_end_grow Tryz.insertA (some ⟨g, 0, none⟩) i c VB 0 1 1 V [.int .i64 x] w (by omega) g1 (by omega) (by omega) hVl rfl (fun h => by cases h) (fun a ha j u hj => ?_) hvs h1v).mono ?_
        · obtain rfl := Option.some.inj ha
          have e : (⟨g, 0, none⟩ : Addr).add j = ⟨g, j, none⟩ := by unfold Addr.add; by_cases h : j = 0 <;> simp [h]
          rw [e]
          exact hcs0 j u hj
        rintro e w' ⟨rfl, rfl⟩
        refine ⟨_, _, rfl, hfin _ _ _ (by simp) (fun j u hj => ?_), (chg_drew _ w).trans (.alloc _ _ _)⟩
        refine ((SL.cells_of (World.alloc_heap_new w.drew _)).1 j).trans ?_
        rw [ht, hd] at hj
        rw [← Array.getElem?_toList]
        simp only [Array.toList_append]
        rw [List.getElem?_append_left (by have := (List.getElem?_eq_some_iff.1 hj).1; simpa using this)]
        exact hj
theorem clB_minmax (s : List Pn) (a b : Nat) : clB s (min a b) (max a b) = clB s a b := by
  rcases Nat.le_total a b with h | h
  · rw [Nat.min_eq_left h, Nat.max_eq_right h]
  · rw [Nat.min_eq_right h, Nat.max_eq_left h, clB_comm]
theorem Cs.joiN_tog (c : Cs) (a b : Nat) : c.joiN a b = (!clB c.s (min a b) (max a b) && c.togB (min a b) (max a b)) := by
  rw [clB_minmax]; rfl
def Cs.jntB (c : Cs) (x y : Int) : Bool := decide (c.two x y = 0) && c.joiN x.toNat y.toNat
def Cs.jntO (c : Cs) (x y : Int) : List Int := if c.jntB x y then jointL c.s (min x.toNat y.toNat) (max x.toNat y.toNat) else []
/-- Two different parts, the lesser first. -/
theorem Cs.two_nat {c : Cs} {x y : Int} (h : c.two x y = 0) : ∃ X Y : Nat, x = X ∧ y = Y ∧ min X Y < max X Y ∧ max X Y < c.ps.length ∧ min x y = (min X Y : Nat) ∧ max x y = (max X Y : Nat) := by
  obtain ⟨_, hx, hy, hne⟩ := Cs.two_zero h
  refine ⟨x.toNat, y.toNat, ?_⟩
  omega
theorem jointL_len {s : List Pn} {A B : Nat} (hB : B < s.length) : (jointL s A B).length = s.length := by
  unfold jointL
  rw [numL_len, putAt_len (by rw [fewL_len, merS_len hB]; omega), fewL_len, merS_len hB]
  omega
theorem wJoint (c : Cs) (x y : Int) (w : World) (hc : CsAt w c) :
    Calls Tryz.prog 35 #[c.v, .int .i64 x, .int .i64 y] w (IntBPost w (c.jntO x y) (c.jntB x y) (c.two x y)) := by
  have hC := fun w1 (h : CsAt w1 c) => wpair c x y w1 h
  unfold PairPost at hC
  have hz := @Cs.two_nat c x y
  have hz2 := @Cs.two_zero c x y
  have hb : c.jntB x y = (decide (c.two x y = 0) && c.joiN x.toNat y.toNat) := rfl
  have ho : c.jntO x y = if c.jntB x y then jointL c.s (min x.toNat y.toNat) (max x.toNat y.toNat) else [] := rfl
  have hP := Lib.hid (show ∀ a k e w', e = .returned (.tuple #[.slice a (c.jntO x y).length k, .bool (c.jntB x y), .int .i64 (c.two x y)]) → Below w.heap.size w w' → IntsAt w' a (c.jntO x y).length k (c.jntO x y) → (c.jntO x y).length ≤ k → IntBPost w (c.jntO x y) (c.jntB x y) (c.two x y) e w' from fun a k e w' h1 h2 h3 h4 => ⟨a, k, h1, h2, h3, h4⟩)
  generalize IntBPost w (c.jntO x y) (c.jntB x y) (c.two x y) = Post at *
  generalize c.jntO x y = O at *
  generalize c.jntB x y = JB at *
  generalize c.two x y = E at *
  by_cases h0 : E = 0
  · subst h0
    obtain ⟨X, Y, rfl, rfl, hAB, hBn, eA, eB⟩ := hz rfl
    obtain ⟨hm, hok, hsl⟩ := (hz2 rfl).1.many'
    rw [Cs.joiN_tog] at hb
    simp only [Int.toNat_natCast, decide_true, Bool.true_and] at hb ho
    rw [eA, eB] at hC
    clear hz hz2 eA eB
    generalize min X Y = A at *
    generalize max X Y = B at *
    simp only [ne_eq, not_true, false_implies, true_and, true_implies] at hC
    have hTo := fun W N a ca f cf (h : TabAt W N c a ca f cf) => wtogether c N a ca f cf A B W h hAB hBn hok (by omega)
    unfold TogPost at hTo
    have hjo := fun (hT : clB c.s A B = false) => jointL_ok hok hAB (by omega) hT
    have hml := merS_len (s := c.s) (a := A) (b := B) (by omega)
    have hokM := fun (hT : clB c.s A B = false) => hok.merS hAB (by omega) hT
    cases hT : clB c.s A B with
    | true =>
      rw [hT] at hb
      simp only [Bool.not_true, Bool.false_and] at hb
      subst hb
      simp only [Bool.false_eq_true, if_false] at ho
      subst ho
      simp only [hT, true_implies, Bool.true_eq_false, false_implies, and_true] at hTo
      have HP := Lib.hid hP.out
      clear hP hjo hokM hT hok
      obtain ⟨ware, lim, byr, a, cap, ps⟩ := c
      simp only [Cs.v] at *
      have hB0 := one_alloc w (Obj.cells #[.string ware, .int .i64 lim, .int .i64 byr, .slice a ps.length cap] 24)
      have hbx := hc.below hB0
      go_enter Tryz.func35, Tryz.ntmps35
      go_wp2_with (first
        | (go_at_call 67; (with_reducible refine (hC _ hbx).mono ?_); rintro e w1 ⟨N, a1, ca, f1, cf, rfl, hb1, hN, hT⟩)
        | (go_at_call 87; (with_reducible refine (hTo _ _ _ _ _ _ hT).mono ?_); rintro e w2 ⟨rfl, hb2⟩))
      have hBE := (hB0.ch2 hb1).ch2 hb2
      have hzE := hBE.size
      refine bodyPost_ret (v := .tuple #[.slice none 0 0, .bool false, .int .i64 0]) (by simp [results, Tryz.results35, go_sem, *]) rfl (HP.out none 0 _ _ rfl ?_ (IntsAt.nilAt _) (Nat.le_refl _))
      (repeat (first | (with_reducible exact hBE) | ((with_reducible refine Below.setCell ?_ ?_ _); rotate_left; focus (first | omega | (simp; done) | (simp; omega))) | ((with_reducible refine Below.alloc ?_ ?_ _); rotate_left; focus (first | omega | (simp; done) | (simp; omega)))))
    | false =>
      rw [hT] at hb
      simp only [Bool.not_false, Bool.true_and] at hb
      simp only [hT, Bool.false_eq_true, false_implies, true_and, true_implies] at hTo
      cases hTB : c.togB A B with
      | false =>
        rw [hTB] at hb hTo
        subst hb
        simp only [Bool.false_eq_true, if_false] at ho
        subst ho
        have HP := Lib.hid hP.out
        clear hP hjo hokM hT hok hTB
        obtain ⟨ware, lim, byr, a, cap, ps⟩ := c
        simp only [Cs.v] at *
        have hB0 := one_alloc w (Obj.cells #[.string ware, .int .i64 lim, .int .i64 byr, .slice a ps.length cap] 24)
        have hbx := hc.below hB0
        go_enter Tryz.func35, Tryz.ntmps35
        go_wp2_with (first
          | (go_at_call 67; (with_reducible refine (hC _ hbx).mono ?_); rintro e w1 ⟨N, a1, ca, f1, cf, rfl, hb1, hN, hT⟩)
          | (go_at_call 87; (with_reducible refine (hTo _ _ _ _ _ _ hT).mono ?_); rintro e w2 ⟨a2, c2, f2, g2, rfl, hb2, ho2⟩; clear ho2))
        have hBE := (hB0.ch2 hb1).ch2 hb2
        have hzE := hBE.size
        refine bodyPost_ret (v := .tuple #[.slice none 0 0, .bool false, .int .i64 0]) (by simp [results, Tryz.results35, go_sem, *]) rfl (HP.out none 0 _ _ rfl ?_ (IntsAt.nilAt _) (Nat.le_refl _))
        (repeat (first | (with_reducible exact hBE) | ((with_reducible refine Below.setCell ?_ ?_ _); rotate_left; focus (first | omega | (simp; done) | (simp; omega))) | ((with_reducible refine Below.alloc ?_ ?_ _); rotate_left; focus (first | omega | (simp; done) | (simp; omega)))))
      | true =>
        rw [hTB] at hb hTo
        subst hb
        simp only [if_true] at ho
        have hjl : (jointL c.s A B).length = c.s.length := jointL_len (by omega)
        have hjd : jointL c.s A B = numL (putAt (fewL (merS c.s A B)) B ((fewL (merS c.s A B)).getD A 0)) := rfl
        have hSm : (merS c.s A B).length ≤ 100000 := by omega
        have hFe := fun w1 a ca f cf (h : SpansAt w1 a ca f cf (merS c.s A B).length (merS c.s A B)) => wfewest a ca f cf _ (merS c.s A B) w1 h (by omega) (hokM hT)
        have hfl := fewL_len (merS c.s A B)
        have hrg : ∀ x ∈ fewL (merS c.s A B), -1000000000 ≤ x ∧ x ≤ 1000000000 := fun x hx => by
          obtain ⟨i, hi, rfl⟩ := List.getElem_of_mem hx
          obtain ⟨v, h1, h2, _⟩ := fewL_spec (hokM hT) (p := i) (by omega)
          have e : (fewL (merS c.s A B)).getD i 0 = (fewL (merS c.s A B))[i] := by simp [List.getD_eq_getElem?_getD, hi]
          have := least_le_len (hokM hT)
          rw [← e, h1]
          omega
        have hXA : ((fewL (merS c.s A B)).map (Value.int .i64))[A]? = some (.int .i64 ((fewL (merS c.s A B)).getD A 0)) := map_getD (by omega)
        have hXm : (fewL (merS c.s A B)).getD A 0 ∈ fewL (merS c.s A B) := mem_getD (by omega)
        have hJn : c.s.length = c.ps.length := hsl
        generalize jointL c.s A B = J at *
        generalize merS c.s A B = S at *
        generalize fewL S = FL at *
        generalize FL.getD A 0 = X at *
        have hVl : (putAt FL B X).length = c.ps.length := by rw [putAt_len (by omega)]; omega
        have hVr : ∀ x ∈ putAt FL B X, -1000000000 ≤ x ∧ x ≤ 1000000000 := fun x hx => by
          unfold putAt at hx
          rcases List.mem_append.1 hx with h | h
          · exact hrg x (List.mem_of_mem_take h)
          · rcases List.mem_cons.1 h with rfl | h
            · exact hrg _ hXm
            · exact hrg x (List.mem_of_mem_drop h)
        have hNu := fun W a k (h : IntsAt W a c.ps.length k (putAt FL B X)) => wnumbered a k _ _ W h (by rw [hVl]; omega) hVr
        have hIn := fun W G k RB (h : W.ownsRow RB 3 1 (.slice (some ⟨G, 0, none⟩) (c.ps.length - 1) k) (c.ps.length - 1) (FL.map (.int .i64))) VB h1 h2 => winsert (.slice (some ⟨G, 0, none⟩) (c.ps.length - 1) k) (c.ps.length - 1) B RB FL X VB W h (by omega) (by omega) h1 h2
        have hK1 : S.length = c.ps.length - 1 := by omega
        have hc1 : c.ps.length - 1 + 1 = c.ps.length := by omega
        have hAK : A < c.ps.length - 1 := by omega
        rw [hVl, ← hjd] at hNu
        rw [hK1] at hTo hFe
        rw [hc1] at hIn
        rw [hJn] at hjl
        have HK1 := Lib.hid hK1
        have Hjl := Lib.hid hjl
        have hps : c.ps.length ≤ 40 := by omega
        unfold RowPost spV at hFe
        unfold RowPost at hNu
        subst ho
        have HP := Lib.hid hP.out
        have HSm := Lib.hid hSm
        have HXA := Lib.hid hXA
        clear hP hjo hokM hT hok hTB hrg hXm hVr hVl hjd hfl hJn hsl hml hm hjl hK1 hSm hXA
        obtain ⟨ware, lim, byr, a, cap, ps⟩ := c
        simp only [Cs.v] at *
        have hB0 := one_alloc w (Obj.cells #[.string ware, .int .i64 lim, .int .i64 byr, .slice a ps.length cap] 24)
        have hbx := hc.below hB0
        have i1 : (A : Int) < ((ps.length - 1 : Nat) : Int) := by omega
        have i2 : (0 : Int) ≤ A := by omega
        go_enter Tryz.func35, Tryz.ntmps35
        go_wp2_with (first
          | (go_at_call 67; (with_reducible refine (hC _ hbx).mono ?_); rintro e w1 ⟨N, a1, ca, f1, cf, rfl, hb1, hN, hT⟩)
          | (go_at_call 87; (with_reducible refine (hTo _ _ _ _ _ _ hT).mono ?_); rintro e w2 ⟨a2, c2, f2, g2, rfl, hb2, ho2⟩; have HO2 := Lib.hid ho2; clear ho2)
          | (go_at_call 88; (with_reducible refine (hFe _ _ _ _ _ (by have h := (HO2.out.up (one_alloc _ (Obj.cells #[.slice a2 (ps.length - 1) c2, .slice f2 (ps.length - 1) g2] 83))).spans HSm.out; rw [HK1.out] at h; exact h)).mono ?_); rintro e w4 ⟨v4, rfl, hb4, ho4⟩; obtain ⟨ra4, rc4, rfl, _⟩ := owns_slice ho4; obtain ⟨G4, rfl, hg4, hg4', _⟩ := owns_some ho4 (by omega); have k4 := (ho4.cellAt A (by omega)).trans HXA.out; have HO4 := Lib.hid ho4; clear ho4)
          | (go_at_call 90; (with_reducible refine (hIn _ _ _ _ (HO4.out.up (one_alloc _ (Obj.cells #[.int .i64 X] 3)) (Nat.le_refl _)) _ (World.alloc_heap_new _ _) (by simp [Value.ownBlock]; omega)).mono ?_); rintro e w5 ⟨ra5, rc5, rfl, hi5, hch5⟩; have HC5 := Lib.hid hch5; have HI5 := Lib.hid hi5; clear hch5 hi5)
          | (go_at_call 89; (with_reducible refine (hNu _ _ _ HI5.out).mono ?_); rintro e w6 ⟨v6, rfl, hb6, ho6⟩; obtain ⟨ra6, rc6, rfl, _⟩ := owns_slice ho6; have HO6 := Lib.hid ho6; clear ho6))
        have hBA := ((((hB0.ch2 hb1).ch2 hb2).ch2 (one_alloc _ (Obj.cells #[.slice a2 (ps.length - 1) c2, .slice f2 (ps.length - 1) g2] 83))).ch2 hb4).ch2 (one_alloc _ (Obj.cells #[.int .i64 X] 3))
        have hzA := ((hB0.ch2 hb1).ch2 hb2).size
        have hBE := (hBA.trans (HC5.out.belowW hBA.size (by simp [Value.ownBlock] at hg4 ⊢; omega))).ch2 hb6 (by have := (hBA.trans (HC5.out.belowW hBA.size (by simp [Value.ownBlock] at hg4 ⊢; omega))).size; omega)
        have hI6 := IntsAt.of_owns HO6.out (by rw [Hjl.out]; omega)
        have hrm := owns_room HO6.out
        rw [← Hjl.out] at hI6 hrm
        refine bodyPost_ret (v := .tuple #[.slice ra6 ps.length rc6, .bool true, .int .i64 0]) (by simp [results, Tryz.results35, go_sem, *]) rfl (HP.out ra6 rc6 _ _ (by rw [Hjl.out]) hBE hI6 hrm)
  · have h2 : (E != 0) = true := by simpa using h0
    have hC2 := fun w1 h => (hC w1 h).mono fun e w' hh => hh.1 h0
    have hJ : JB = false := by rw [hb]; simp [h0]
    subst hJ
    simp only [Bool.false_eq_true, if_false] at ho
    subst ho
    have HP := Lib.hid hP.out
    obtain ⟨ware, lim, byr, a, cap, ps⟩ := c
    simp only [Cs.v] at *
    have hB0 := one_alloc w (Obj.cells #[.string ware, .int .i64 lim, .int .i64 byr, .slice a ps.length cap] 24)
    have hbx := hc.below hB0
    clear h0 hz hz2 hC hP hb
    go_enter Tryz.func35, Tryz.ntmps35
    go_wp2_with (go_at_call 67; (with_reducible refine (hC2 _ hbx).mono ?_); rintro e w1 ⟨t, rfl, hb1⟩)
    have hBE := hB0.ch2 hb1
    refine bodyPost_ret (v := .tuple #[.slice none 0 0, .bool false, .int .i64 E]) (by simp [results, Tryz.results35, go_sem, *]) rfl (HP.out none 0 _ _ rfl ?_ (IntsAt.nilAt _) (Nat.le_refl _))
    (repeat (first | (with_reducible exact hBE) | ((with_reducible refine Below.setCell ?_ ?_ _); rotate_left; focus (first | omega | (simp; done) | (simp; omega))) | ((with_reducible refine Below.alloc ?_ ?_ _); rotate_left; focus (first | omega | (simp; done) | (simp; omega)))))
attribute [local go_sem] Oper.semAt_some
theorem wpListIn_app {P : Program} {w : World} {l : Nat} {ops : Array Oper} {rest : List Oper} {o : Oper} {a : Act} {Q : Exit → Act → World → Prop} {t e : TypeId} {z : Value} {size bytes : Nat} (T : Elem P t e z size bytes)
    (hgd : o.guard = none) (s x : Operand) (ho : o.op = .call { callee := .builtin .append, args := #[s, x], argTypes := #[t, t] })
    {base : Nat} {v : Value} {n : Nat} {xs : List Value} (hown : w.ownsRow base e size v n xs) (hs : a.eval s = v)
    {sa : Option Addr} {m c : Nat} {news : List Value} (hx : a.eval x = .slice sa m c) (hsrc : RowAt w sa c news) (hl : news.length = m * size) (h1 : ∀ u ∈ news, u.oneCell' = true)
    (h63 : n + m ≤ maxLen) (hbytes : (n + m) * bytes ≤ 140737488355328) (hbase : base ≤ w.heap.size)
    (h : ∀ v' w', w'.ownsRow base e size v' (n + m) (xs ++ news) → w.grownBy w' v.ownBlock → Below base w w' → (v' = .slice none 0 0 ↔ v = .slice none 0 0 ∧ m = 0) → (v'.ownBlock = v.ownBlock ∨ v'.ownBlock = some w.heap.size) → wpListIn (Fence.wide.inRound l) 0 P ops Q rest (a.put o.dst v') w') : wpListIn (Fence.wide.inRound l) 0 P ops Q (o :: rest) a w :=
  wpListIn_plain hgd fun _ hK => SLF.wpIn_of_wp (ro := some l) (by rw [ho]; intro c h; cases h) (wp_app T s x ho hown hs hx hsrc hl h1 h63 hbytes hbase fun v' w' k1 k2 k3 k4 k5 => hK _ _ (h v' w' k1 k2 k3 k4 k5))
/-- Indices as ints. -/
def intL (l : List Nat) : List Int := l.map fun (n : Nat) => (n : Int)
theorem intL_len (l : List Nat) : (intL l).length = l.length := by simp [intL]
/-- What has been collected. -/
structure ColI (w : World) (pre : List Nat) (W : World) : Prop where
  box : ∃ v, W.heap[w.heap.size]? = some (.cells #[v] 34 (0, 0)) ∧ W.ownsRow (w.heap.size + 1) 3 1 v pre.length ((intL pre).map (.int .i64))
  below : Below w.heap.size w W
theorem keeps_cells {B : Nat} {E : List Nat} {W W' : World} (h : SL.Chg E W W') (hE : ∀ k ∈ E, k < B ∨ ∃ cs t f, W.heap[k]? = some (Obj.cells cs t f)) : KeepsFrom B W W' := by
  refine ⟨h.size, fun k o hk ho hn => (h.block k (Array.getElem?_eq_some_iff.1 ho).1 (fun hm => ?_)).trans ho⟩
  rcases hE k hm with h1 | ⟨cs, t, f, h1⟩
  · omega
  · rw [ho] at h1; cases h1; cases hn
theorem row_cells {w : World} {base : Nat} {t : TypeId} {size n : Nat} {v : Value} {xs : List Value} (h : w.ownsRow base t size v n xs) : ∀ k ∈ v.ownBlock.toList, ∃ cs t f, w.heap[k]? = some (Obj.cells cs t f) := by
  obtain ⟨hl, ⟨hv, hn⟩ | ⟨g, cap', cur, hv, hbg, hg, hr⟩⟩ := h
  · subst hv; simp [Value.ownBlock]
  · subst hv; intro k hk; simp [Value.ownBlock] at hk; subst hk; exact ⟨_, _, _, hg⟩
theorem wappendSeq (a : Option Addr) (ca : Nat) (f : Option Addr) (cf : Nat) (s : List Pn) (lo hi : Int) (BS BR : Nat) (w : World) (hs : SpansAt w a ca f cf s.length s) (hn : s.length ≤ 1000)
    (hBS : w.cell? ⟨BS, 0, none⟩ = some (.slice a s.length ca)) (hR0 : w.cell? ⟨BR, 0, none⟩ = some (.int .i64 lo)) (hR1 : w.cell? ⟨BR, 1, none⟩ = some (.int .i64 hi)) :
    Calls Tryz.prog 155 #[.slice none 0 0, .func (.func 144) #[] #[.pointer (some ⟨BS, 0, none⟩), .pointer (some ⟨BR, 0, none⟩)]] w (RowPost w 3 1 (insideL s lo hi).length ((intL (insideL s lo hi)).map (.int .i64))) := by
  have zS := World.block_lt_of_cell? w _ hBS
  have zR := World.block_lt_of_cell? w _ hR0
  simp only at zS zR
  refine (callsIn_wide (n := 0)).1 (callsIn_of_wp_marks Tryz.func155 rfl trivial ?_)
  simp only [Tryz.ntmps155, List.size_toArray, List.length_cons, List.length_nil, Nat.reduceAdd, Nat.reduceSub, Array.replicate_succ, Array.replicate_zero, List.push_toArray, List.append_toArray, List.nil_append, List.cons_append]
  refine wpIn_wide.2 ?_
  go_wp2_with fail
  generalize hW0 : w.alloc (Obj.cells #[.slice none 0 0] 34) = W0
  have hB0 : Below w.heap.size w W0 := by rw [← hW0]; exact one_alloc _ _
  have hz0 : W0.heap.size = w.heap.size + 1 := by rw [← hW0]; simp
  have hI00 : ColI w [] W0 := ⟨⟨.slice none 0 0, by rw [← hW0]; exact World.alloc_heap_new _ _, World.ownsRow_nil _ _ _ _⟩, hB0⟩
  have hIo : OwnFrom W0.heap.size (ColI w) := by
    rintro pre W1 W2 row ⟨⟨v, h1, h2⟩, h3⟩ hg hr
    have hk := KeepC.of_grown hg fun r e => (hr r e).2
    exact ⟨⟨v, hk.cells _ _ _ _ h1, row_keepC h2 hk⟩, h3.grown hg h3.size fun r e => by have := (hr r e).1; omega⟩
  clear hW0
  refine range_state' (σ := List Nat) (α := Nat) (gf := 144) (lb := #[.pointer (some ⟨BS, 0, none⟩), .pointer (some ⟨BR, 0, none⟩)]) (by simp [go_sem]) (enters_of Tryz.func144 (by kernel_rfl) rfl)
    (encs := fun x => #[.int .i64 x]) (fun _ => rfl)
    (ColI w) (fun _ _ _ => False) hIo (fun _ _ _ _ _ h => h.elim) [] hI00
    (fun pre x => x < s.length ∧ pre = insN s lo hi x) (fun pre x => pre ++ [x]) [5, 7]
    (fun pre x us W' => us 5 = .int .i64 x)
    ?_ (fun pre => pre = insideL s lo hi) (fun _ => False) ?_ ?_ ?_ ?_ (fun _ _ _ _ _ h => h.elim)
  · rintro pre x us ⟨⟩ W1 W2 row h hg hr
    exact h
  · intro l J Jx W1 hb1 hJ hJx hJI hJxI hy hj0
    refine (winside1 a ca s.length s lo hi _ _ l J W1 hJ rfl (by omega) (fun pre W' h => ?_) hj0 (fun k W2 hk hin hJ2 => ?_)).mono ?_
    · have h1 := (hJI _ _ h).below
      have hc := (bcell h1).1
      exact ⟨(hc _ _ zS).trans hBS, (hc _ _ zR).trans hR0, (hc _ _ zR).trans hR1, (hs.below h1).at_⟩
    · refine (hy _ k W2 hJ2 ⟨hk, rfl⟩).mono ?_
      rintro e W3 (⟨rfl, h⟩ | ⟨_, h⟩)
      · exact ⟨rfl, h⟩
      · obtain ⟨_, hf⟩ := hJxI _ _ h; exact hf.elim
    · rintro e W2 ⟨hv, hj⟩
      exact ⟨hv, .inl ⟨_, rfl, hj⟩⟩
  · rintro l pre x W1 K hI ⟨hx, hp⟩ hK
    clear hp
    gi_wp2_with fail
    exact hK _ _ (keeps_of_chg (E := []) (.refl _ _) (by simp)) hI rfl rfl rfl
  · rintro l pre x us W1 hl ⟨⟨v, hbx, hrow⟩, hbe⟩ ⟨hx, hp⟩ h5
    have hpl : pre.length ≤ 1000 := by rw [hp]; exact Nat.le_trans (insN_len s lo hi x) (by omega)
    clear hp
    simp only [frame', SL.put', List.toList_toArray, List.contains_cons, List.contains_nil, Nat.reduceAdd, Nat.reduceBEq, Bool.or_false, Bool.or_true, Bool.false_or, Bool.true_or, if_true, Bool.false_eq_true, if_false, h5]
    have c0 := (SL.cells_of hbx).1 0
    simp at c0
    have zb : w.heap.size < W1.heap.size := (Array.getElem?_eq_some_iff.1 hbx).1
    have hbr := SL.row_bounds hrow
    have hcl := row_cells hrow
    obtain ⟨va, vc, rfl, _⟩ := owns_slice hrow
    have hal := one_alloc W1 (Obj.cells #[.int .i64 x] 3)
    refine wpIn_block ?_
    gi_wp2_with (gi_at_builtin; refine wpListIn_app elemI rfl _ _ rfl (hrow.up hal (Nat.le_refl _)) rfl rfl (RowAt.of_heap (World.alloc_heap_new W1 _)) (by simp) (ones_int [(x : Int)]) (by unfold maxLen; omega) (by omega) (by simp; omega) ?_)
    intro v' w6 ho hg hb6 _ hat
    obtain ⟨sa, sc, rfl, _⟩ := owns_slice ho
    have hG6 : SL.Chg ((Value.slice va pre.length vc).ownBlock.toList) W1 w6 := (SL.Chg.of_below hal).trans (.of_own hg (fun k hk => by simp [hk]))
    have k6 := (hG6.block w.heap.size zb (fun h => by have := hbr _ h; omega)).trans hbx
    have f6 := (SL.cells_of k6).2
    have y6 := (SL.cells_of k6).1 0
    simp at y6
    have z6 : w.heap.size < w6.heap.size := (Array.getElem?_eq_some_iff.1 k6).1
    have HO := Lib.hid ho
    clear ho c0
    gi_wp2
    refine ⟨keeps_cells (E := w.heap.size :: (Value.slice va pre.length vc).ownBlock.toList) ((hG6.monoW (fun k hk => List.mem_cons_of_mem _ hk)).trans (.setCell _ (by simp) _)) (fun y hy => ?_), ⟨⟨.slice sa (pre.length + 1) sc, ?_, ?_⟩, ?_⟩⟩
    · rcases List.mem_cons.1 hy with h | h
      · left; omega
      · right; exact hcl y h
    · exact SL.heap_set k6 _
    · have := SL.row_set HO.out (p := ⟨w.heap.size, 0, none⟩) (fun h => by
        have := (SL.row_bounds HO.out _ h).1
        simp at this
        omega) (.slice sa (pre.length + 1) sc)
      simpa [intL] using this
    · exact (hbe.trans (hG6.belowW (by omega) fun k hk => by have := hbr k hk; omega)).setCell (by simp) _
  · rintro D pre W2 hD2 rfl ⟨⟨v, hbx, hrow⟩, hbe⟩ hdef
    obtain ⟨va, vc, rfl, _⟩ := owns_slice hrow
    have c0 := (SL.cells_of hbx).1 0
    simp at c0
    have HO := Lib.hid hrow
    clear hI00 hIo hs hrow hbx
    go_wp2_with fail
    refine leaves_marks (B := W0.heap.size) (by simp) (fun W => Below w.heap.size w W ∧ W.ownsRow (w.heap.size + 1) 3 1 (.slice va (insideL s lo hi).length vc) (insideL s lo hi).length ((intL (insideL s lo hi)).map (.int .i64))) ?_ ?_ _ W2 ⟨by simp; exact ⟨hD2, hdef⟩, by simp⟩ ⟨hbe, HO.out⟩
    · rintro W3 r hr ⟨a1, a2⟩ hd
      have hg := grownBy_putObj' W3 r (.deferred none)
      exact ⟨a1.grown hg a1.size (fun k hk => by cases hk; omega), row_keepC a2 (.of_grown hg fun k hk => by cases hk; exact ⟨_, hd, rfl⟩)⟩
    · rintro W3 ⟨a1, a2⟩
      exact ⟨_, by simp [results, Tryz.results155], _, rfl, a1, SL.row_base a2 (by omega)⟩
theorem wcollect (a : Option Addr) (ca : Nat) (f : Option Addr) (cf : Nat) (s : List Pn) (lo hi : Int) (BS BR : Nat) (w : World) (hs : SpansAt w a ca f cf s.length s) (hn : s.length ≤ 1000)
    (hBS : w.cell? ⟨BS, 0, none⟩ = some (.slice a s.length ca)) (hR0 : w.cell? ⟨BR, 0, none⟩ = some (.int .i64 lo)) (hR1 : w.cell? ⟨BR, 1, none⟩ = some (.int .i64 hi)) :
    Calls Tryz.prog 127 #[.func (.func 144) #[] #[.pointer (some ⟨BS, 0, none⟩), .pointer (some ⟨BR, 0, none⟩)]] w (RowPost w 3 1 (insideL s lo hi).length ((intL (insideL s lo hi)).map (.int .i64))) := by
  have hA := wappendSeq a ca f cf s lo hi BS BR w hs hn hBS hR0 hR1
  obtain ⟨Q, hQ⟩ : ∃ Q, RowPost w 3 1 (insideL s lo hi).length ((intL (insideL s lo hi)).map (.int .i64)) = Q := ⟨_, rfl⟩
  rw [hQ] at hA ⊢
  have HQ := Lib.hid hQ
  clear hQ hBS hR0 hR1
  go_enter Tryz.func127, Tryz.ntmps127
  go_wp2_with (go_at_call 155; (with_reducible refine hA.mono ?_); rintro e w2 hq; rw [← HQ.out] at hq; obtain ⟨v, rfl, hb, ho⟩ := hq)
  rw [← HQ.out]
  exact ⟨v, rfl, hb, ho⟩
open Go.Sort
theorem wwit1 (BS d q n cf p : Nat) (b : Bool) (W : World) (hp : p < n) (hn : n ≤ 1000) (h0 : W.cell? ⟨BS, 1, none⟩ = some (.slice (some ⟨d, q, none⟩) n cf)) (h1 : W.cell? ⟨d, q + p, none⟩ = some (.bool b)) :
    FnGives Tryz.prog 129 #[.pointer (some ⟨BS, 0, none⟩)] #[.int .i64 p] (.bool (!b)) W := by
  show Calls Tryz.prog 129 #[.int .i64 p, .pointer (some ⟨BS, 0, none⟩)] W _
  have i1 : (p : Int) < (n : Int) := by omega
  go_enter Tryz.func129, Tryz.ntmps129
  go_wp2
  all_goals (go_ret; exact ⟨rfl, 0, rfl⟩)
theorem sub_list {m : Nat} : ∀ (ns : List Nat), (∀ x ∈ ns, x < m) → ∃ zs : List {p : Nat // p < m}, zs.map (·.1) = ns
  | [], _ => ⟨[], rfl⟩
  | x :: ns, h => by
    obtain ⟨zs, hz⟩ := sub_list ns fun y hy => h y (by simp [hy])
    exact ⟨⟨x, h x (by simp)⟩ :: zs, by simp [hz]⟩
theorem chg_sortWorld {α : Type} [Inhabited α] (enc : α → Value) (w : World) (blk off n : Nat) (dk : Array α) (os : Array Obj) : SL.Chg [blk] w (sortWorld enc w blk off n dk os) := by
  refine ⟨rfl, rfl, rfl, by simp [sortWorld, grow, putRow, mapBlock, Sort.ahead], fun k hk hne => ?_⟩
  have hgk : blk ≠ k := fun e => hne (by simp [e])
  simp [sortWorld, grow, putRow, mapBlock, Sort.ahead, Array.getElem?_append, Array.getElem_modify, Array.getElem?_modify, hgk, hk]
theorem wdel (a : Option Addr) (ca : Nat) (f : Option Addr) (cf : Nat) (s : List Pn) (BS base : Nat) (ns : List Nat) (v : Value) (w : World) (hs : SpansAt w a ca f cf s.length s) (hsl : s.length ≤ 1000)
    (h : w.ownsRow base 3 1 v ns.length ((intL ns).map (.int .i64))) (hn : ∀ x ∈ ns, x < s.length) (h0 : ns ≠ []) (hl : ns.length ≤ 1000)
    (hB1 : w.cell? ⟨BS, 1, none⟩ = some (.slice f s.length cf)) (hlo : BS < base) (hfl : ∀ x, f = some x → x.block < base) :
    Calls Tryz.prog 128 #[v, .func (.func 129) #[] #[.pointer (some ⟨BS, 0, none⟩)]] w fun e w' => ∃ v', e = .returned v' ∧
      w'.ownsRow base 3 1 v' (ns.filter fun i => (s.getD i default).ft).length ((intL (ns.filter fun i => (s.getD i default).ft)).map (.int .i64)) ∧ SL.Chg v.ownBlock.toList w w' := by
  obtain ⟨zs, hz⟩ := sub_list ns hn
  have hzl : zs.length = ns.length := by rw [← hz]; simp
  have h1 : 0 < s.length := by
    cases ns with
    | nil => exact absurd rfl h0
    | cons x ns => have := hn x (by simp); omega
  have hnl : 0 < ns.length := List.length_pos_iff.2 h0
  haveI : Inhabited {p : Nat // p < s.length} := ⟨⟨0, h1⟩⟩
  have henc : (intL ns).map (Value.int .i64) = zs.map fun x => Value.int .i64 ((x.1 : Nat) : Int) := by
    rw [← hz]; simp [intL, Function.comp_def]
  obtain ⟨b, o, d, q, rfl, rfl, _, hd, _, _, _⟩ := hs.get h1
  have hfl' : d < base := hfl _ rfl
  have h' := h
  obtain ⟨_, ⟨rfl, e0⟩ | ⟨g, cap, cur, rfl, hbg, hg, g1, g2, g3, g4⟩⟩ := h
  · omega
  have hgl : g < w.heap.size := (Array.getElem?_eq_some_iff.1 hg).1
  have hzB : BS < w.heap.size := World.block_lt_of_cell? w _ hB1
  have hft : ∀ x : {p : Nat // p < s.length}, w.cell? ⟨d, q + x.1, none⟩ = some (.bool (s.getD x.1 default).ft) := fun x => by
    obtain ⟨_, _, d', q', _, e, _, _, _, _, hh⟩ := hs.get x.2
    simp only [Option.some.injEq, Addr.mk.injEq] at e
    obtain ⟨rfl, rfl, _⟩ := e
    exact hh
  have hgive : ∀ W, SL.Chg [g] w W → ∀ x : {p : Nat // p < s.length}, FnGives Tryz.prog 129 #[.pointer (some ⟨BS, 0, none⟩)] #[.int .i64 ((x.1 : Nat) : Int)] (.bool (!(s.getD x.1 default).ft)) W := fun W hW x =>
    wwit1 BS d q s.length cf x.1 _ W x.2 hsl
      (by rw [← hB1]; simp only [World.cell?, hW.block BS hzB (by simp; omega)])
      (by rw [← hft x]; simp only [World.cell?, hW.block d hd (by simp; omega)])
  have hH : Holds (fun x : {p : Nat // p < s.length} => Value.int .i64 ((x.1 : Nat) : Int)) w g 0 zs.toArray := by
    intro j hj
    have hj' : j < zs.length := by simpa using hj
    refine ⟨?_, by simp [World.frozen?, hg]⟩
    have e1 : (cur.toList.take (ns.length * 1))[j]? = ((intL ns).map (Value.int .i64))[j]? := by rw [g4]
    rw [henc, List.getElem?_take_of_lt (by omega)] at e1
    simp only [World.cell?, hg, Nat.zero_add]
    simp only [Option.isSome_none, Bool.false_eq_true, if_false]
    rw [← Array.getElem?_toList, e1]
    simp [hj', getElem!_pos]
  have hcon := AnyE.slices_DeleteFunc Tryz.delFA (fun x : {p : Nat // p < s.length} => Value.int .i64 ((x.1 : Nat) : Int)) (fun _ => rfl) (fun x => !(s.getD x.1 default).ft) 129 #[.pointer (some ⟨BS, 0, none⟩)] (enters_of Tryz.func129 (by kernel_rfl) rfl) ⟨0, h1⟩ Tryz.zeroValue3 g 0 cap zs.toArray w
    (fun W x hb => hgive W (.of_below hb) x) (fun n os dk x _ => hgive _ (chg_sortWorld _ _ _ _ _ _ _) x) hH (by simp; omega) (by simp; omega)
  simp only [List.size_toArray, hzl, Bool.not_not] at hcon
  obtain ⟨ys, hys⟩ : ∃ ys, zs.filter (fun x => (s.getD x.1 default).ft) = ys := ⟨_, rfl⟩
  rw [hys] at hcon
  have hy1 : ys.map (·.1) = ns.filter fun i => (s.getD i default).ft := by
    rw [← hz, List.filter_map, ← hys]
    rfl
  have hy2 : ys.length = (ns.filter fun i => (s.getD i default).ft).length := by rw [← hy1]; simp
  have hy3 : ys.length ≤ ns.length := by rw [hy2]; exact List.length_filter_le _ _
  have hy4 : (intL (ns.filter fun i => (s.getD i default).ft)).map (Value.int .i64) = ys.map fun x => Value.int .i64 ((x.1 : Nat) : Int) := by
    rw [← hy1]; simp [intL, Function.comp_def]
  rw [hy4, ← hy2]
  rw [henc] at h'
  refine hcon.mono ?_
  rintro e w' ⟨rfl, q, rfl⟩
  have ho := Lib.ownsRow_putRow (q := q) (ys := ys ++ List.replicate (ns.length - ys.length) ⟨0, h1⟩) h' (by simp; omega) hy3
  rw [List.take_left] at ho
  refine ⟨_, rfl, ho, ⟨rfl, rfl, rfl, by simp [putRow, mapBlock, Sort.ahead], fun k hk hne => ?_⟩⟩
  have hgk : g ≠ k := fun e => hne (by simp [Value.ownBlock, e])
  simp [putRow, mapBlock, Sort.ahead, Array.getElem?_modify, hgk]
/-- The witness so far. -/
def witT (s : List Pn) (l : List (Int × Int)) : List Nat := l.flatMap fun r => witR s r.1 r.2
theorem witT_len (s : List Pn) (l : List (Int × Int)) : (witT s l).length = sumD s l := by
  unfold witT sumD
  rw [List.length_flatMap]
  congr 1
  exact List.map_congr_left fun r _ => witR_len s r.1 r.2
theorem witT_take {s : List Pn} {l : List (Int × Int)} {k : Nat} (h : k < l.length) : witT s (l.take (k + 1)) = witT s (l.take k) ++ witR s (l.getD k default).1 (l.getD k default).2 := by
  unfold witT
  rw [List.take_succ_eq_append_getElem h, List.flatMap_append]
  simp [List.getD_eq_getElem?_getD, h]
theorem intL_append (a b : List Nat) : intL (a ++ b) = intL a ++ intL b := by simp [intL]
theorem inside_ne {s : List Pn} {l h : Int} (hd : 0 < dem s l h) : insideL s l h ≠ [] := by
  intro e
  have := witR_len s l h
  unfold witR footL at this
  rw [e] at this
  simp at this
  omega
theorem mem_getDr {l : List (Int × Int)} {k : Nat} (h : k < l.length) : l.getD k default ∈ l := by
  rw [List.getD_eq_getElem?_getD, List.getElem?_eq_getElem h]
  exact List.getElem_mem h
theorem row_take1 {w : World} {g ic c : Nat} {I : List Nat} (h : RowAt w (some ⟨g, 0, none⟩) ic ((intL I).map (.int .i64))) : RowAt w (some ⟨g, 0, none⟩) c ((intL (I.take 1)).map (.int .i64)) := by
  refine ⟨fun e => (by cases e), fun x hx => ?_⟩
  obtain ⟨h1, h2, h3⟩ := h.at_ x hx
  refine ⟨h1, h2, fun i u hi => h3 i u ?_⟩
  have e : (intL (I.take 1)).map (Value.int .i64) = ((intL I).map (Value.int .i64)).take 1 := by simp [intL, List.map_take]
  rw [e, List.getElem?_take] at hi
  split at hi
  · exact hi
  · cases hi
/-- The witness in order. -/
def witS (s : List Pn) : List Int := (intL (witU s)).mergeSort fun x y => decide (x ≤ y)
theorem winsideB (a : Option Addr) (ca : Nat) (f : Option Addr) (cf n : Nat) (lo hi : Int) (w : World) :
    Calls Tryz.prog 114 #[spV a ca f cf n, .agg #[.int .i64 lo, .int .i64 hi]] w fun e w' => ∃ BS BR, e = .returned (.func (.func 144) #[] #[.pointer (some ⟨BS, 0, none⟩), .pointer (some ⟨BR, 0, none⟩)]) ∧ Below w.heap.size w w' ∧
      w'.cell? ⟨BS, 0, none⟩ = some (.slice a n ca) ∧ w'.cell? ⟨BR, 0, none⟩ = some (.int .i64 lo) ∧ w'.cell? ⟨BR, 1, none⟩ = some (.int .i64 hi) := by
  refine (winside a ca f cf n lo hi w).mono ?_
  rintro e w' ⟨rfl, rfl⟩
  exact ⟨_, _, rfl, ((Below.refl _ _).alloc (Nat.le_refl _) _).alloc (by simp) _, by simp [go_sem], by simp [go_sem], by simp [go_sem]⟩
theorem wwitness (a : Option Addr) (ca : Nat) (f : Option Addr) (cf n : Nat) (s : List Pn) (w : World) (hs : SpansAt w a ca f cf n s) (hn : s.length ≤ 100) (hok : OkS s) :
    Calls Tryz.prog 91 #[spV a ca f cf n] w (RowPost w 3 1 (witS s).length ((witS s).map (.int .i64))) := by
  obtain rfl := hs.len
  have hmk := makeFuncW
  have hS := fun W h => wshow a ca f cf s.length s W h hn hok
  have hsum := showL_sum hok
  have hle := least_le_len hok
  have htk := fun k => sumD_part s (showL s) k
  have hwt := fun k => witT_len s ((showL s).take k)
  have hst := fun k (h : k < (showL s).length) => @witT_take s (showL s) k h
  have hpos := fun k (h : k < (showL s).length) => ((showL_chain hok).each _ (mem_getDr h)).2.2.2
  have hfin : witT s (showL s) = witU s := rfl
  obtain ⟨Q, hQ⟩ : ∃ Q, RowPost w 3 1 (witS s).length ((witS s).map (.int .i64)) = Q := ⟨_, rfl⟩
  have hsl : (witS s).length = (witU s).length := by unfold witS; rw [sort_len, intL_len]
  rw [hQ]
  rw [hsl] at hQ
  unfold witS at hQ
  have HQ := Lib.hid hQ
  rw [hsum] at htk
  rw [← hfin] at HQ
  generalize showL s = l at *
  generalize leastN s = T at *
  have Htk := Lib.hid htk
  have Hst := Lib.hid hst
  have Hwt := Lib.hid hwt
  have Hpos := Lib.hid hpos
  have hB1 := one_alloc w (Obj.cells #[.slice a s.length ca, .slice f s.length cf] 83)
  clear hsum htk hst hpos hwt hfin hQ hsl
  unfold spV at *
  go_enter Tryz.func91, Tryz.ntmps91
  go_wp2_with (go_at_call 94; (with_reducible refine (hS _ (hs.below hB1)).mono ?_); rintro e w2 ⟨la, lc, rfl, hb2, hr2⟩; have hz2 := lt_size hb2 (b := w.heap.size) (by first | assumption | omega | (simp; done) | (simp; omega)))
  have hB2 : Below w.heap.size w w2 := hB1.ch2 hb2
  have p0 : w2.cell? ⟨w.heap.size, 0, none⟩ = some (.slice a s.length ca) := by rw [(bcell hb2).1 _ _ (by simp)]; simp [go_sem]
  have p1 : w2.cell? ⟨w.heap.size, 1, none⟩ = some (.slice f s.length cf) := by rw [(bcell hb2).1 _ _ (by simp)]; simp [go_sem]
  have hlen := hr2.small
  have hfz := hs.blocks.2
  have hs2 := hs.below hB2
  clear hb2 hS
  go_loopw [3, 11] (fun t i wr => ∃ k : Nat, k ≤ l.length ∧ i = .int .i64 k ∧ Below w2.heap.size w2 wr ∧ wr.ownsRow w2.heap.size 3 1 t (witT s (l.take k)).length ((intL (witT s (l.take k))).map (.int .i64))) (fun _ i _ => l.length - (RowKit.intOf i).toNat)
  case atStart => exact ⟨0, Nat.zero_le _, rfl, Below.refl _ _, World.ownsRow_nil _ _ _ _⟩
  case round =>
    obtain ⟨k, hk, rfl, hB, hown⟩ := hrel
    have hnn : (0 : Int) ≤ k := by omega
    by_cases hlt : k < l.length
    · have i1 : (k : Int) < (l.length : Int) := by omega
      obtain ⟨b, o, rfl, _, d0, d1⟩ := (hr2.below hB).get hlt
      have Hs := Lib.hid (Hst.out k hlt)
      have b1 := Htk.out k
      have b2 := Htk.out (k + 1)
      rw [← Hwt.out] at b1 b2
      rw [Hs.out] at b2
      have hps := Hpos.out k hlt
      generalize witT s (l.take k) = A at *
      generalize l.getD k default = r at *
      obtain ⟨lo, hi⟩ := r
      simp only at d0 d1 Hs b2 hps
      rw [List.length_append] at b2
      have hIne := inside_ne hps
      have hIlt : ∀ x ∈ insideL s lo hi, x < s.length := fun x hx => (mem_insideL.1 hx).1
      have hIle := insN_len s lo hi s.length
      rw [insN_all] at hIle
      have hW : witR s lo hi = if footL s lo hi = [] then (insideL s lo hi).take 1 else footL s lo hi := rfl
      have hFd : (insideL s lo hi).filter (fun i => (s.getD i default).ft) = footL s lo hi := rfl
      have hDl := fun base v W => wdel a ca f cf s w.heap.size base (insideL s lo hi) v W
      rw [hFd] at hDl
      have hCol := fun W h BS BR => wcollect a ca f cf s lo hi BS BR W h (by omega)
      generalize insideL s lo hi = I at *
      generalize footL s lo hi = F at *
      generalize witR s lo hi = R at *
      have hIpos := List.length_pos_iff.2 hIne
      have hal := one_alloc wr (Obj.cells #[.int .i64 lo, .int .i64 hi] 33)
      have Hsa := Lib.hid ((hs2.below hB).below hal)
      have Hza := Lib.hid hal.size
      have hzr : w.heap.size < wr.heap.size := by have := hB.size; omega
      have q0 := ((bcell hB).1 _ 0 hz2).trans p0
      have q1 := ((bcell hB).1 _ 1 hz2).trans p1
      have Hbz : Hid (∀ W, Below (wr.alloc (Obj.cells #[.int .i64 lo, .int .i64 hi] 33)).heap.size (wr.alloc (Obj.cells #[.int .i64 lo, .int .i64 hi] 33)) W → W.cell? ⟨w.heap.size, 0, none⟩ = some (.slice a s.length ca) ∧ W.cell? ⟨w.heap.size, 1, none⟩ = some (.slice f s.length cf)) := Lib.hid (fun W h => ⟨((bcell (hal.ch2 h)).1 _ _ hzr).trans q0, ((bcell (hal.ch2 h)).1 _ _ hzr).trans q1⟩)
      have Hfz : Hid (∀ x, f = some x → x.block < wr.heap.size) := Lib.hid (fun x hx => by have := hfz x hx; omega)
      have HCol := Lib.hid hCol
      have hIn := fun w => winsideB a ca f cf s.length lo hi w
      unfold spV at hIn
      have HIn := Lib.hid hIn
      have HDl := Lib.hid (fun v base W h h1 h2 h3 h4 h5 h6 h7 h8 => hDl base v W h h1 h2 h3 h4 h5 h6 h7 h8)
      have Hlt := Lib.hid hIlt
      have HW := Lib.hid hW
      have HA := Lib.hid hown
      obtain ⟨va, vc, rfl, _⟩ := owns_slice hown
      clear hCol hDl hIlt hW hown hIn hfz
      by_cases hF : F = []
      · subst hF
        have HR : Hid (R = I.take 1) := Lib.hid (by rw [HW.out, if_pos rfl])
        have HRl : Hid (R.length = 1) := Lib.hid (by rw [HR.out, List.length_take]; omega)
        go_wp2_with (first
          | (go_at_call 114; (with_reducible refine (HIn.out _).mono ?_); rintro e w4 ⟨BS, BR, rfl, hb4, u0, u1, u2⟩; obtain ⟨q0, q1⟩ := Hbz.out _ hb4)
          | (go_at_call 127; (with_reducible refine (HCol.out _ (Hsa.out.below hb4) BS BR u0 u1 u2).mono ?_); clear u0 u1 u2 q0 q1; rintro e w5 ⟨v5, rfl, hb5, ho5⟩; obtain ⟨ia, ic, rfl, hia⟩ := owns_slice ho5; obtain ⟨ig, rfl, _, _, hic⟩ := owns_some ho5 hIpos; have HO5 := Lib.hid ho5; clear ho5; have hb45 := hb4.trans (hb5.mono hb4.size); obtain ⟨q0, q1⟩ := Hbz.out _ hb45)
          | (go_at_call 111; (with_reducible refine (cloneI (some ⟨ig, 0, none⟩) I.length ic (intL I) _ (IntsAt.of_owns HO5.out (by rw [intL_len]; omega)) (by rw [intL_len]; omega)).mono ?_); clear q0 q1; rintro e w6 ⟨v6, rfl, hb6, ho6⟩; rw [intL_len] at ho6; have HO6 := Lib.hid ho6; clear ho6; have hb46 := hb45.trans (hb6.mono hb45.size); obtain ⟨q0, q1⟩ := Hbz.out _ hb46)
          | (go_at_call 128; (with_reducible refine (HDl.out v6 w5.heap.size _ (Hsa.out.below hb46) (by omega) HO6.out Hlt.out hIne (by omega) q1 (by have := hb45.size; have := Hza.out; omega) (fun x hx => by have := Hfz.out x hx; have := hb45.size; have := Hza.out; omega)).mono ?_); clear q0 q1; rintro e w7 ⟨v7, rfl, ho7, hc7⟩; obtain ⟨fa, fc, rfl, hfa⟩ := owns_slice ho7; have HO7 := Lib.hid ho7; clear ho7; have hb47 := hb46.trans (hc7.belowW hb46.size fun k hk => by have := (SL.row_bounds HO6.out k hk).1; have := hb45.size; have := Hza.out; omega); have hb57 := hb6.trans (hc7.belowW hb6.size fun k hk => (SL.row_bounds HO6.out k hk).1); obtain ⟨q0, q1⟩ := Hbz.out _ hb47)
          | (at_builtin; refine wpList_app elemI rfl _ _ rfl (HA.out.up (hal.ch2 hb47) (Nat.le_refl _)) rfl rfl (news := (intL R).map (.int .i64)) (by rw [HR.out]; exact row_take1 (IntsAt.of_owns (HO5.out.up hb57 (Nat.le_refl _)) (by rw [intL_len]; omega)).row) (by have := HRl.out; simp only [List.length_map, intL_len]; omega) (ones_int _) (by have := HRl.out; unfold maxLen; omega) (by have := HRl.out; omega) (by have := hB.size; have := (hal.ch2 hb47).size; omega) ?_)
          )
        intro v' w8 ho hg8 hb8 _ _
        have HO8 := Lib.hid ho
        clear ho
        have hB8 := hB.trans (((hal.ch2 hb47).mono hB.size).trans hb8)
        go_wp2
        go_roundw
        case rel => exact ⟨k + 1, by omega, by go_num, hB8, by rw [Hs.out, intL_append, List.map_append, List.length_append, HRl.out]; exact HO8.out⟩
        case measure => simp [RowKit.intOf]; omega
      · have HR : Hid (R = F) := Lib.hid (by rw [HW.out, if_neg hF])
        have HRl : Hid (R.length = F.length) := Lib.hid (by rw [HR.out])
        have hFp : (F.length : Int) ≠ 0 := by have := List.length_pos_iff.2 hF; omega
        have hRle : F.length ≤ R.length := by rw [HR.out]; omega
        go_wp2_with (first
          | (go_at_call 114; (with_reducible refine (HIn.out _).mono ?_); rintro e w4 ⟨BS, BR, rfl, hb4, u0, u1, u2⟩; obtain ⟨q0, q1⟩ := Hbz.out _ hb4)
          | (go_at_call 127; (with_reducible refine (HCol.out _ (Hsa.out.below hb4) BS BR u0 u1 u2).mono ?_); clear u0 u1 u2 q0 q1; rintro e w5 ⟨v5, rfl, hb5, ho5⟩; obtain ⟨ia, ic, rfl, hia⟩ := owns_slice ho5; obtain ⟨ig, rfl, _, _, hic⟩ := owns_some ho5 hIpos; have HO5 := Lib.hid ho5; clear ho5; have hb45 := hb4.trans (hb5.mono hb4.size); obtain ⟨q0, q1⟩ := Hbz.out _ hb45)
          | (go_at_call 111; (with_reducible refine (cloneI (some ⟨ig, 0, none⟩) I.length ic (intL I) _ (IntsAt.of_owns HO5.out (by rw [intL_len]; omega)) (by rw [intL_len]; omega)).mono ?_); clear q0 q1; rintro e w6 ⟨v6, rfl, hb6, ho6⟩; rw [intL_len] at ho6; have HO6 := Lib.hid ho6; clear ho6; have hb46 := hb45.trans (hb6.mono hb45.size); obtain ⟨q0, q1⟩ := Hbz.out _ hb46)
          | (go_at_call 128; (with_reducible refine (HDl.out v6 w5.heap.size _ (Hsa.out.below hb46) (by omega) HO6.out Hlt.out hIne (by omega) q1 (by have := hb45.size; have := Hza.out; omega) (fun x hx => by have := Hfz.out x hx; have := hb45.size; have := Hza.out; omega)).mono ?_); clear q0 q1; rintro e w7 ⟨v7, rfl, ho7, hc7⟩; obtain ⟨fa, fc, rfl, hfa⟩ := owns_slice ho7; have HO7 := Lib.hid ho7; clear ho7; have hb47 := hb46.trans (hc7.belowW hb46.size fun k hk => by have := (SL.row_bounds HO6.out k hk).1; have := hb45.size; have := Hza.out; omega); have hb57 := hb6.trans (hc7.belowW hb6.size fun k hk => (SL.row_bounds HO6.out k hk).1); obtain ⟨q0, q1⟩ := Hbz.out _ hb47)
          | (at_builtin; refine wpList_app elemI rfl _ _ rfl (HA.out.up (hal.ch2 hb47) (Nat.le_refl _)) rfl rfl (news := (intL R).map (.int .i64)) (by rw [HR.out]; exact (IntsAt.of_owns HO7.out (by rw [intL_len]; omega)).row) (by have := HRl.out; simp only [List.length_map, intL_len]; omega) (ones_int _) (by have := HRl.out; unfold maxLen; omega) (by have := HRl.out; omega) (by have := hB.size; have := (hal.ch2 hb47).size; omega) ?_)
          )
        intro v' w8 ho hg8 hb8 _ _
        have HO8 := Lib.hid ho
        clear ho
        have hB8 := hB.trans (((hal.ch2 hb47).mono hB.size).trans hb8)
        go_wp2
        go_roundw
        case rel => exact ⟨k + 1, by omega, by go_num, hB8, by rw [Hs.out, intL_append, List.map_append, List.length_append, HRl.out]; exact HO8.out⟩
        case measure => simp [RowKit.intOf]; omega
    · have hk2 : k = l.length := by omega
      subst hk2
      rw [List.take_length] at *
      have hA : (witT s l).length ≤ 100 := by have := Htk.out l.length; rw [← Hwt.out, List.take_length] at this; omega
      obtain ⟨va, vc, rfl, _⟩ := owns_slice hown
      have hSo := sortI _ _ _ _ _ hown (by rw [intL_len]; omega)
      have hbo := SL.row_bounds hown
      have HA := Lib.hid hA
      clear hA
      go_wp2_with (go_at_call 130; (with_reducible refine hSo.mono ?_); rintro e w4 ⟨rfl, ho4, hc4⟩)
      rw [← HQ.out]
      exact ⟨_, rfl, hB2.ch2 (hB.trans (hc4.belowW hB.size fun k hk => (hbo k hk).1)), SL.row_base ho4 (by have := hB2.size; omega)⟩
end Go.Proofs.YtodkbfbbpfghiaaGreat
namespace Go.Proofs.YtodkbfbbpfghiaaGreat
open Go.RowKit Go.Shelf
set_option maxHeartbeats 4000000
set_option maxRecDepth 100000
theorem witS_len {s : List Pn} (hs : OkS s) : (witS s).length ≤ s.length := by
  unfold witS
  rw [sort_len, intL_len]
  have h1 := (witU_ok hs).2
  have h2 := least_le_len hs
  omega
end Go.Proofs.YtodkbfbbpfghiaaGreat

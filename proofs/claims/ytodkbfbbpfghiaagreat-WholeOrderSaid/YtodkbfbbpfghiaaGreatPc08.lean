/-
  Lemmas and walks for the laws on roads and boards: what each function of the program answers, for every input.
-/
import Derived.Test.YtodkbfbbpfghiaaGreatPc06
import Derived.Test.YtodkbfbbpfghiaaGreatPc05
import Derived.StillTailTactics
import Derived.Test.YtodkbfbbpfghiaaGreatPc07
set_option linter.unusedSimpArgs false
set_option linter.unusedVariables false
set_option linter.unnecessarySimpa false
namespace Go.Proofs.YtodkbfbbpfghiaaGreat
open Go.RowKit Go.Shelf
set_option maxHeartbeats 4000000
set_option maxRecDepth 100000
theorem set_get {cs : Array Value} {i j : Nat} {v : Value} (hi : i < cs.size) : (cs.setIfInBounds i v)[j]? = if j = i then some v else cs[j]? := by
  rw [Array.getElem?_setIfInBounds]
  by_cases h : i = j
  · subst h; simp [hi]
  · rw [if_neg h, if_neg (fun e => h e.symm)]
/-- The best sums as they lie in a block: those up to k. -/
structure BestAt (w : World) (N : Nat) (s : List Pn) (k m : Nat) : Prop where
  body : ∃ cs : Array Value, w.heap[N]? = some (.cells cs 3 (0, 0)) ∧ cs.size = 1002 ∧ (∀ i, i ≤ k → cs[i]? = some (.int .i64 (BB s i))) ∧ (k + 1 < 1002 → cs[k + 1]? = some (.int .i64 m))
theorem BestAt.below {w w' : World} {N k m : Nat} {s : List Pn} (h : BestAt w N s k m) (hb : Below w.heap.size w w') : BestAt w' N s k m := by
  obtain ⟨cs, h1, h2, h3, h4⟩ := h.body
  exact ⟨cs, (hb.block _ (Array.getElem?_eq_some_iff.1 h1).1).trans h1, h2, h3, h4⟩
theorem BestAt.lt {w : World} {N k m : Nat} {s : List Pn} (h : BestAt w N s k m) : N < w.heap.size := by
  obtain ⟨cs, h1, _⟩ := h.body
  exact (Array.getElem?_eq_some_iff.1 h1).1
theorem BestAt.get {w : World} {N k m : Nat} {s : List Pn} (h : BestAt w N s k m) {i : Nat} (hi : i ≤ k) : w.cell? ⟨N, i, none⟩ = some (.int .i64 (BB s i)) := by
  obtain ⟨cs, h1, h2, h3, h4⟩ := h.body
  rw [(SL.cells_of h1).1, h3 i hi]
theorem BestAt.top {w : World} {N k m : Nat} {s : List Pn} (h : BestAt w N s k m) (hk : k + 1 < 1002) : w.cell? ⟨N, k + 1, none⟩ = some (.int .i64 m) := by
  obtain ⟨cs, h1, h2, h3, h4⟩ := h.body
  rw [(SL.cells_of h1).1, h4 hk]
theorem BestAt.free {w : World} {N k m : Nat} {s : List Pn} (h : BestAt w N s k m) (i : Nat) : w.frozen? ⟨N, i, none⟩ = false := by
  obtain ⟨cs, h1, _⟩ := h.body
  exact (SL.cells_of h1).2 i
theorem BestAt.set {w : World} {N k m : Nat} {s : List Pn} (h : BestAt w N s k m) (hk : k + 1 < 1002) (m' : Nat) : BestAt (w.setCell ⟨N, k + 1, none⟩ (.int .i64 m')) N s k m' := by
  obtain ⟨cs, h1, h2, h3, h4⟩ := h.body
  refine ⟨cs.setIfInBounds (k + 1) (.int .i64 m'), SL.heap_set h1 _, by simp [h2], fun i hi => ?_, fun _ => ?_⟩
  · rw [set_get (by omega), if_neg (by omega)]; exact h3 i hi
  · rw [set_get (by omega), if_pos rfl]
/-- The same, nothing said of the next. -/
structure BestTo (w : World) (N : Nat) (s : List Pn) (k : Nat) : Prop where
  body : ∃ cs : Array Value, w.heap[N]? = some (.cells cs 3 (0, 0)) ∧ cs.size = 1002 ∧ ∀ i, i ≤ k → cs[i]? = some (.int .i64 (BB s i))
theorem BestAt.next {w : World} {N k : Nat} {s : List Pn} (h : BestAt w N s k (BB s (k + 1))) (hk : k + 1 < 1002) : BestTo w N s (k + 1) := by
  obtain ⟨cs, h1, h2, h3, h4⟩ := h.body
  refine ⟨cs, h1, h2, fun i hi => ?_⟩
  rcases Nat.lt_or_ge i (k + 1) with h | h
  · exact h3 i (by omega)
  · obtain rfl : i = k + 1 := by omega
    exact h4 hk
theorem BestTo.set {w : World} {N k : Nat} {s : List Pn} (h : BestTo w N s k) (hk : k + 1 < 1002) (m' : Nat) : BestAt (w.setCell ⟨N, k + 1, none⟩ (.int .i64 m')) N s k m' := by
  obtain ⟨cs, h1, h2, h3⟩ := h.body
  refine ⟨cs.setIfInBounds (k + 1) (.int .i64 m'), SL.heap_set h1 _, by simp [h2], fun i hi => ?_, fun _ => ?_⟩
  · rw [set_get (by omega), if_neg (by omega)]; exact h3 i hi
  · rw [set_get (by omega), if_pos rfl]
theorem BestTo.get {w : World} {N k : Nat} {s : List Pn} (h : BestTo w N s k) {i : Nat} (hi : i ≤ k) : w.cell? ⟨N, i, none⟩ = some (.int .i64 (BB s i)) := by
  obtain ⟨cs, h1, h2, h3⟩ := h.body
  rw [(SL.cells_of h1).1, h3 i hi]
theorem BestTo.some {w : World} {N k : Nat} {s : List Pn} (h : BestTo w N s k) {i : Nat} (hi : i < 1002) : ∃ v, w.cell? ⟨N, i, none⟩ = some v := by
  obtain ⟨cs, h1, h2, h3⟩ := h.body
  exact ⟨cs[i], by rw [(SL.cells_of h1).1]; simp [h2, hi]⟩
theorem BestTo.free {w : World} {N k : Nat} {s : List Pn} (h : BestTo w N s k) (i : Nat) : w.frozen? ⟨N, i, none⟩ = false := by
  obtain ⟨cs, h1, _⟩ := h.body
  exact (SL.cells_of h1).2 i
theorem BestTo.lt {w : World} {N k : Nat} {s : List Pn} (h : BestTo w N s k) : N < w.heap.size := by
  obtain ⟨cs, h1, _⟩ := h.body
  exact (Array.getElem?_eq_some_iff.1 h1).1
def Cs.most (c : Cs) : Int := if 0 < c.lim then min (c.ps.length : Int) c.lim else c.ps.length
def Cs.num (c : Cs) : (Int × Int) × Bool := if c.chk = 0 ∧ (leastN c.s : Int) ≤ c.most then (((leastN c.s : Int), c.most), true) else ((0, 0), false)
/-- The numbers less than n with something. -/
def pickL (f : Nat → Bool) (n : Nat) : List Int := ((List.range n).filter f).map fun (i : Nat) => (i : Int)
theorem pickL_succ (f : Nat → Bool) (k : Nat) : pickL f (k + 1) = pickL f k ++ (if f k then [(k : Int)] else []) := by
  unfold pickL
  rw [List.range_succ, List.filter_append, List.map_append]
  congr 1
  by_cases h : f k = true <;> simp [h]
theorem pickL_len (f : Nat → Bool) (n : Nat) : (pickL f n).length ≤ n := by
  unfold pickL
  rw [List.length_map]
  have := List.length_filter_le f (List.range n)
  simpa using this
def natL (l : List Int) : List Nat := l.map Int.toNat
theorem natL_get {l : List Int} {k : Nat} (hk : k < l.length) : (natL l).getD k 0 = (l.getD k 0).toNat := by simp [natL, List.getD_eq_getElem?_getD, hk]
/-- All parts up to the k-th, and of the last those up to the m-th, can be of one vessel. -/
def oneN (s : List Pn) (l : List Nat) (k : Nat) : Bool := (List.range k).all fun i => (List.range i).all fun j => !clB s (l.getD i 0) (l.getD j 0)
def oneM (s : List Pn) (l : List Nat) (k m : Nat) : Bool := (List.range m).all fun j => !clB s (l.getD k 0) (l.getD j 0)
theorem oneN_succ (s : List Pn) (l : List Nat) (k : Nat) : oneN s l (k + 1) = (oneN s l k && oneM s l k k) := by
  unfold oneN oneM
  rw [List.range_succ, List.all_append]; simp
theorem oneM_succ (s : List Pn) (l : List Nat) (k m : Nat) : oneM s l k (m + 1) = (oneM s l k m && !clB s (l.getD k 0) (l.getD m 0)) := by
  unfold oneM
  rw [List.range_succ, List.all_append]; simp
theorem oneN_pre {s : List Pn} {l : List Nat} {k n : Nat} (hk : k ≤ n) (h : oneN s l k = false) : oneN s l n = false := by
  unfold oneN at *
  rw [Bool.eq_false_iff] at h ⊢
  intro h2
  apply h
  rw [List.all_eq_true] at h2 ⊢
  exact fun i hi => h2 i (List.mem_range.2 (by have := List.mem_range.1 hi; omega))
theorem oneM_no {s : List Pn} {l : List Nat} {k m n : Nat} (hm : m < k) (hk : k < n) (h : clB s (l.getD k 0) (l.getD m 0) = true) : oneN s l n = false := by
  refine oneN_pre (k := k + 1) (by omega) ?_
  rw [oneN_succ]
  have : oneM s l k k = false := by
    rw [Bool.eq_false_iff]
    intro h2
    unfold oneM at h2
    have := List.all_eq_true.1 h2 m (List.mem_range.2 hm)
    rw [h] at this
    cases this
  rw [this]; simp
theorem oneB_N (s : List Pn) (l : List Nat) : oneB s l = oneN s l l.length := rfl
def Cs.one (c : Cs) (l : List Int) : Bool := decide (c.ask l = 0) && oneB c.s (natL l)
theorem r6One (c : Cs) (al : Option Addr) (m cl : Nat) (l : List Int) (w : World) (hc : CsAt w c) (hl : IntsAt w al m cl l) :
    Calls Tryz.prog 50 #[c.v, .slice al m cl] w fun e w' => e = .returned (.tuple #[.bool (c.one l), .int .i64 (c.ask l)]) ∧ Below w.heap.size w w' := by
  have hC := fun w1 (h : CsAt w1 c) (hl : IntsAt w1 al m cl l) => r6asked c al m cl l w1 h hl
  have hz := @Cs.ask_zero c l
  have hr : c.one l = (decide (c.ask l = 0) && oneN (pns c.ps) (natL l) l.length) := by
    unfold Cs.one Cs.s
    rw [oneB_N]
    simp [natL]
  obtain rfl := hl.len
  have hls := hl.small
  generalize c.one l = R at *
  generalize c.ask l = E at *
  by_cases h0 : E = 0
  · subst h0
    obtain ⟨hok, hi⟩ := hz rfl
    have hmany := hok.many
    obtain ⟨ware, lim, byr, a, cap, ps⟩ := c
    simp only [Cs.v] at *
    have hB0 := one_alloc w (Obj.cells #[.string ware, .int .i64 lim, .int .i64 byr, .slice a ps.length cap] 24)
    have hbx := hc.below hB0
    have hlx := hl.below hB0
    have hk := fun w1 (h : CsAt w1 ⟨ware, lim, byr, a, cap, ps⟩) i k (hi : i < ps.length) (hk : k < ps.length) => r6clash_any a _ cap ps i k w1 h.ps hi hk
    have Hr := Lib.hid hr
    clear hz hr hok
    go_enter Tryz.func50, Tryz.ntmps50
    go_wp2_with (go_at_call 96; refine (hC _ hbx hlx).mono ?_; rintro e w1 ⟨rfl, hb1⟩; obtain ⟨hc1, hf1⟩ := bcell hb1; have hz1 := lt_size hb1 (b := w.heap.size) (by first | assumption | omega | (simp; done) | (simp; omega)); have hby := hbx.below hb1; have hly := hlx.below hb1)
    have c0 : w1.cell? ⟨w.heap.size, 3, none⟩ = some (.slice a ps.length cap) := by simp [go_sem, *]
    have hBW : Below w.heap.size w w1 := hB0.ch2 hb1
    clear hc1 hf1 hb1 hC hB0 hbx hlx
    go_loopw [7] (fun i wr => ∃ k : Nat, k ≤ l.length ∧ i = .int .i64 k ∧ Below w1.heap.size w1 wr ∧ oneN (pns ps) (natL l) k = true) (fun i _ => l.length - (RowKit.intOf i).toNat)
    case atStart => exact ⟨0, Nat.zero_le _, rfl, Below.refl _ _, rfl⟩
    case round =>
      obtain ⟨k, hk', rfl, hB, hall⟩ := hrel
      have hnn : (0 : Int) ≤ k := by omega
      by_cases hlt : k < l.length
      · have i1 : (k : Int) < (l.length : Int) := by omega
        have Hs := Lib.hid (oneN_succ (pns ps) (natL l) k)
        have Hall := Lib.hid hall
        clear hall
        go_wp2_with fail
        go_loopw [8] (fun i wr => ∃ j : Nat, j ≤ k ∧ i = .int .i64 j ∧ Below w1.heap.size w1 wr ∧ oneM (pns ps) (natL l) k j = true) (fun i _ => k - (RowKit.intOf i).toNat)
        case atStart => exact ⟨0, Nat.zero_le _, rfl, hB, rfl⟩
        case round =>
          obtain ⟨j, hj, rfl, hB2, hall2⟩ := hrel
          have hjn : (0 : Int) ≤ j := by omega
          by_cases hjk : j < k
          · have j1 : (j : Int) < (k : Int) := by omega
            have j2 : (j : Int) < (l.length : Int) := by omega
            have Hs2 := Lib.hid (oneM_succ (pns ps) (natL l) k j)
            have Hall2 := Lib.hid hall2
            have Hno := Lib.hid (@oneM_no (pns ps) (natL l) k j l.length hjk hlt)
            obtain ⟨b1, o1, hal, bl1, d0⟩ := (hly.below hB2).get hlt
            obtain ⟨b2, o2, hal2, bl2, d1⟩ := (hly.below hB2).get (i := j) (by omega)
            subst hal
            simp at hal2
            obtain ⟨rfl, rfl⟩ := hal2
            have hx := hi _ (mem_getD hlt)
            have hy := hi _ (mem_getD (show j < l.length by omega))
            have e1 := natL_get hlt
            have e2 := natL_get (show j < l.length by omega)
            obtain ⟨X, hX⟩ : ∃ X : Nat, l.getD k 0 = X := ⟨(l.getD k 0).toNat, by omega⟩
            obtain ⟨Y, hY⟩ : ∃ Y : Nat, l.getD j 0 = Y := ⟨(l.getD j 0).toNat, by omega⟩
            rw [hX] at d0 e1 hx
            rw [hY] at d1 e2 hy
            simp only [Int.toNat_natCast] at e1 e2
            have hkk := fun w2 (h : Below wr.heap.size wr w2) => hk w2 ((hby.below hB2).below h) X Y (by omega) (by omega)
            have HE1 := Lib.hid e1
            have HE2 := Lib.hid e2
            have c1 := ((bcell hB2).1 _ 3 hz1).trans c0
            have hzr : w.heap.size < wr.heap.size := lt_size hB2 hz1
            clear hall2 e1 e2 hX hY
            obtain ⟨B, hcl⟩ : ∃ B, clB (pns ps) X Y = B := ⟨_, rfl⟩
            rw [hcl] at hkk
            have Hcl := Lib.hid hcl
            clear hcl
            go_wp2_with fail
            refine (wpIn_wide (n := 0)).1 ?_
            refine SLF.rule (ro := none) (by kernel_rfl) [] [26, 27, 28, 29, 30, 31, 32, 33, 34, 35, 36] [SLF.pq 26 [] (.pointer (some ⟨w.heap.size, 3, none⟩)), SLF.pq 27 [0] (.slice a ps.length cap), SLF.pq 28 [] (.slice (some ⟨b1, o1, none⟩) l.length cl), SLF.pq 29 [] (.int .i64 k), SLF.pq 30 [2, 3] (.pointer (some ⟨b1, o1 + k, none⟩)), SLF.pq 31 [4] (.int .i64 X), SLF.pq 32 [] (.slice (some ⟨b1, o1, none⟩) l.length cl), SLF.pq 33 [] (.int .i64 j), SLF.pq 34 [6, 7] (.pointer (some ⟨b1, o1 + j, none⟩)), SLF.pq 35 [8] (.int .i64 Y), SL.pu 36 [1, 5, 9] (.bool B)]
              [10] (by kernel_rfl) (by kernel_rfl) (fun _ => []) (SL.none_held rfl) (by simp) ?_ ?_
            · refine ⟨?_, ?_, ?_, ?_, ?_, ?_, ?_, ?_, ?_, ?_, ?_, trivial⟩
              all_goals refine SLF.ob fun us w' Fe hG hu hd hv Kx hK => ?_
              all_goals simp [SL.frame, SL.put', SL.Used, SL.Seen, SL.pu, SL.row, SL.box, SL.rowIn, SL.boxIn, SL.boxAt, SL.boxAtIn, Bd.v, Bd.cs, SLF.pq] at hu hv hK
              all_goals (have hB5 : Below wr.heap.size wr w' := hG.below')
              all_goals (have hcc := (bcell hB5).1)
              all_goals (rw [← hcc _ _ hzr] at c1; rw [← hcc _ _ bl1] at d0 d1)
              all_goals clear hcc hd hv hG
              all_goals first
                | refine SLF.wpo_do (SLF.wanted_free rfl) (by intro c h; cases h) ?_
                | refine SLF.wpo_do (SLF.wanted_by rfl rfl (by simp [SL.frame, SL.put', hu]; done)) (by intro c h; cases h) ?_
              all_goals simp [SL.frame, SL.put', SL.Used, SL.Seen, SL.pu, SL.row, SL.box, SL.rowIn, SL.boxIn, SL.boxAt, SL.boxAtIn, Bd.v, Bd.cs]
              all_goals try (go_step; exact hK _ _ _ _ (by simp [Act.put, *]; done) (SL.Chg.refl _ _) rfl rfl (by simp) (by simp))
              go_step
              refine (hkk _ hB5).mono ?_
              rintro e w2 ⟨rfl, hb3⟩
              exact hK _ _ w2 _ (by simp [Act.put, *]; done) (.of_below hb3) rfl rfl (by simp)
            · intro us w5 Fs hG hu hbd hd
              simp [SL.frame, SL.put', SL.Used, SL.Seen, SL.pu, SL.row, SL.box, SL.rowIn, SL.boxIn, SL.boxAt, SL.boxAtIn, Bd.v, Bd.cs, SLF.pq] at hu ⊢
              have hB5 : Below wr.heap.size wr w5 := hG.below'
              obtain ⟨u36, _⟩ := hu
              simp only [u36]
              clear hbd hd hG d0 d1 c1
              cases B
              · go_wp2_with fail
                go_roundw
                case rel => exact ⟨j + 1, by omega, by go_num, hB2.ch2 hB5, by rw [Hs2.out, Hall2.out, HE1.out, HE2.out, Hcl.out]; rfl⟩
                case measure => simp [RowKit.intOf]; omega
              · have Hf := Lib.hid (Hno.out (by rw [HE1.out, HE2.out]; exact Hcl.out))
                go_wp2_with fail
                go_ret2
                rw [Hr.out, Hf.out]
                exact ⟨by simp, (hBW.ch2 hB2).ch2 hB5⟩
          · have hjk' : j = k := by omega
            subst hjk'
            have Hall2 := Lib.hid hall2
            clear hall2
            go_wp2_with fail
            go_roundw
            case rel => exact ⟨j + 1, by omega, by go_num, hB2, by rw [Hs.out, Hall.out, Hall2.out]; rfl⟩
            case measure => simp [RowKit.intOf]; omega
      · have hk2 : k = l.length := by omega
        subst hk2
        have Hall := Lib.hid hall
        clear hall
        go_wp2_with fail
        go_ret2
        rw [Hr.out, Hall.out]
        exact ⟨by simp, hBW.ch2 hB⟩
  · have h2 : (E != 0) = true := by simpa using h0
    have hd : decide (E = 0) = false := by simpa using h0
    rw [hd] at hr
    simp only [Bool.false_and] at hr
    subst hr
    obtain ⟨ware, lim, byr, a, cap, ps⟩ := c
    simp only [Cs.v] at *
    have hB0 := one_alloc w (Obj.cells #[.string ware, .int .i64 lim, .int .i64 byr, .slice a ps.length cap] 24)
    have hbx := hc.below hB0
    have hlx := hl.below hB0
    clear h0 hz hd
    go_enter Tryz.func50, Tryz.ntmps50
    go_wp2_with (go_at_call 96; refine (hC _ hbx hlx).mono ?_; rintro e w1 ⟨rfl, hb1⟩)
    go_ret2
    exact ⟨rfl, hB0.ch2 hb1⟩
def Cs.wit (c : Cs) (l : List Int) : Bool := decide (c.chk = 0) && witB c.s [] l
def Cs.asg (c : Cs) (v : List Int) : Bool := decide (c.chk = 0) && match asgM c.s v with | some m => decide (c.lim = 0) || decide ((m : Int) ≤ c.lim) | none => false
set_option maxHeartbeats 40000000
def critF (s : List Pn) (i : Nat) : Bool := decide (leastN (s.eraseIdx i) < leastN s)
def Cs.critL (c : Cs) : List Int := if c.chk = 0 then pickL (critF c.s) c.ps.length else []
/-- Two parts can be of one vessel. -/
def Cs.joiN (c : Cs) (a b : Nat) : Bool := !clB c.s a b && (decide (c.lim = 0) || decide ((leastN (merS c.s (min a b) (max a b)) : Int) ≤ c.lim))
theorem MixAt.pns {c : Cs} {a b : Nat} {g : Pt} (hg : GluOf g (c.ps.getD a default) (c.ps.getD b default)) (ha : a < c.ps.length) (hb : b < c.ps.length) : pns (mixPt c.ps a b g) = merS (pns c.ps) a b := by
  obtain ⟨sa, sc, ra, rc, rfl⟩ := hg
  exact mixPt_pns ha hb (gluPt_n _ _ _ _ _ _)
set_option maxHeartbeats 4000000
/-- What is a bar of two parts. -/
def Cs.barN (c : Cs) (a b : Nat) (l : List Int) : Bool := if clB c.s a b then decide (l.length = 0) else decide (0 < c.lim) && decide ((l.length : Int) = c.lim + 1) && witB (merS c.s (min a b) (max a b)) [] l
def Cs.bar (c : Cs) (x y : Int) (l : List Int) : Bool := decide (c.two x y = 0) && c.barN x.toNat y.toNat l
theorem comL_snoc (s : List Pn) (l : List Nat) (i : Nat) : comL s (l ++ [i]) = (max (comL s l).1 (s.getD i default).lo, min (comL s l).2 (s.getD i default).hi) := by simp [comL]
def Cs.com (c : Cs) (l : List Int) : (Int × Int) × Bool := if c.ask l = 0 ∧ (comL c.s (natL l)).1 ≤ (comL c.s (natL l)).2 then (comL c.s (natL l), true) else ((0, 0), false)
theorem natL_snoc {l : List Int} {k : Nat} (hk : k < l.length) : natL (l.take (k + 1)) = natL (l.take k) ++ [(l.getD k 0).toNat] := by
  unfold natL
  rw [List.take_succ_eq_append_getElem hk, List.map_append]
  simp [List.getD_eq_getElem?_getD, List.getElem?_eq_getElem hk]
theorem cell2w {W : World} {N : Nat} {u v : Value} {t : TypeId} (h : W.heap[N]? = some (.cells #[u, v] t (0, 0))) : W.cell? ⟨N, 0, none⟩ = some u ∧ W.cell? ⟨N, 1, none⟩ = some v ∧ (∀ i, W.frozen? ⟨N, i, none⟩ = false) ∧ N < W.heap.size := by
  have h0 := (SL.cells_of h).1 0
  have h1 := (SL.cells_of h).1 1
  exact ⟨by simpa using h0, by simpa using h1, (SL.cells_of h).2, (Array.getElem?_eq_some_iff.1 h).1⟩
theorem r6Common (c : Cs) (al : Option Addr) (m cl : Nat) (l : List Int) (w : World) (hc : CsAt w c) (hl : IntsAt w al m cl l) :
    Calls Tryz.prog 48 #[c.v, .slice al m cl] w fun e w' => e = .returned (.tuple #[.agg #[.int .i64 (c.com l).1.1, .int .i64 (c.com l).1.2], .bool (c.com l).2, .int .i64 (c.ask l)]) ∧ Below w.heap.size w w' := by
  have hC := fun w1 (h : CsAt w1 c) (hl : IntsAt w1 al m cl l) => r6asked c al m cl l w1 h hl
  have hz := @Cs.ask_zero c l
  obtain ⟨R1, hR1⟩ : ∃ R1, (c.com l).1.1 = R1 := ⟨_, rfl⟩
  obtain ⟨R2, hR2⟩ : ∃ R2, (c.com l).1.2 = R2 := ⟨_, rfl⟩
  obtain ⟨R3, hR3⟩ : ∃ R3, (c.com l).2 = R3 := ⟨_, rfl⟩
  rw [hR1, hR2, hR3]
  unfold Cs.com Cs.s at hR1 hR2 hR3
  obtain rfl := hl.len
  have hls := hl.small
  generalize c.ask l = E at *
  by_cases h0 : E = 0
  · subst h0
    obtain ⟨hok, hi⟩ := hz rfl
    have hmany := hok.many
    have hoks := hok.oks
    obtain ⟨ware, lim, byr, a, cap, ps⟩ := c
    simp only [Cs.v, true_and] at *
    have hB0 := one_alloc w (Obj.cells #[.string ware, .int .i64 lim, .int .i64 byr, .slice a ps.length cap] 24)
    have hB2 : Below w.heap.size w ((w.alloc (Obj.cells #[.string ware, .int .i64 lim, .int .i64 byr, .slice a ps.length cap] 24)).alloc (Obj.cells #[.int .i64 0, .int .i64 0] 33)) := by ((repeat (first | assumption | exact Below.refl _ _ | refine Below.alloc ?_ ?_ _ | refine Below.setCell ?_ ?_ _ | refine Below.drew ?_ | refine belowN ?_ | refine Below.up ?_ (by assumption) ?_)) <;> (first | assumption | omega | (simp; done) | (simp; omega)))
    have hbx := hc.below hB2
    have hlx := hl.below hB2
    have HR1 := Lib.hid hR1
    have HR2 := Lib.hid hR2
    have HR3 := Lib.hid hR3
    clear hz hR1 hR2 hR3 hok
    go_enter Tryz.func48, Tryz.ntmps48
    go_wp2_with (go_at_call 96; refine (hC _ hbx hlx).mono ?_; rintro e w1 ⟨rfl, hb1⟩; obtain ⟨hc1, hf1⟩ := bcell hb1; have hz1 := lt_size hb1 (b := w.heap.size) (by first | assumption | omega | (simp; done) | (simp; omega)); have hz2 := lt_size hb1 (b := w.heap.size + 1) (by first | assumption | omega | (simp; done) | (simp; omega)); have hby := hbx.below hb1; have hly := hlx.below hb1)
    have c0 : w1.cell? ⟨w.heap.size, 3, none⟩ = some (.slice a ps.length cap) := by simp [go_sem, *]
    have c9 := (hc1 (w.heap.size + 1) 0 (by simp)).trans (show _ = some (Value.int .i64 0) by simp [go_sem])
    have c10 := (hc1 (w.heap.size + 1) 1 (by simp)).trans (show _ = some (Value.int .i64 0) by simp [go_sem])
    have f9 := hf1 (w.heap.size + 1) 0 (by simp)
    have f10 := hf1 (w.heap.size + 1) 1 (by simp)
    have hBW : Below w.heap.size w w1 := hB2.ch2 hb1
    clear hc1 hf1 hb1 hC hB0 hbx hlx
    go_loopw [9] (fun i wr => ∃ k : Nat, k ≤ l.length ∧ i = .int .i64 k ∧ Below w1.heap.size w1 wr ∧ wr.heap[w1.heap.size]? = some (.cells #[.int .i64 (comL (pns ps) (natL (l.take k))).1, .int .i64 (comL (pns ps) (natL (l.take k))).2] 33 (0, 0))) (fun i _ => l.length - (RowKit.intOf i).toNat)
    case atStart => exact ⟨0, Nat.zero_le _, rfl, one_alloc _ _, World.alloc_heap_new w1 _⟩
    case round =>
      obtain ⟨k, hk', rfl, hB, hbox⟩ := hrel
      have hnn : (0 : Int) ≤ k := by omega
      by_cases hlt : k < l.length
      · have i1 : (k : Int) < (l.length : Int) := by omega
        have Hs := Lib.hid (show comL (pns ps) (natL (l.take (k + 1))) = (max (comL (pns ps) (natL (l.take k))).1 ((pns ps).getD (l.getD k 0).toNat default).lo, min (comL (pns ps) (natL (l.take k))).2 ((pns ps).getD (l.getD k 0).toNat default).hi) by rw [natL_snoc hlt, comL_snoc])
        have hx := hi _ (mem_getD hlt)
        obtain ⟨X, hX⟩ : ∃ X : Nat, l.getD k 0 = X := ⟨(l.getD k 0).toNat, by omega⟩
        obtain ⟨b1, o1, rfl, bl1, d0⟩ := (hly.below hB).get hlt
        rw [hX] at Hs hx d0
        have hXl : X < ps.length := by omega
        simp only [Int.toNat_natCast, pns_get ps hXl] at Hs
        have X1 : (X : Int) < (ps.length : Int) := by omega
        have X0 : (0 : Int) ≤ X := by omega
        obtain ⟨b2, o2, rfl, bl2, e0, e1, e2, e3, e4, e5, e6, e7⟩ := (hby.ps.below hB).get hXl
        have c1 := ((bcell hB).1 _ 3 hz1).trans c0
        have hzr : w.heap.size < wr.heap.size := lt_size hB hz1
        clear hX e0 e3 e4 e5 e6 e7
        generalize ps.getD X default = p at *
        generalize comL (pns ps) (natL (l.take k)) = Q at *
        obtain ⟨q1, q2⟩ := Q
        simp only at hbox Hs
        have hpn : p.n.lo = p.lo ∧ p.n.hi = p.hi := ⟨rfl, rfl⟩
        rw [hpn.1, hpn.2] at Hs
        clear hpn
        obtain ⟨x0, x1, xf, xl⟩ := cell2w hbox
        obtain ⟨M, hM⟩ : ∃ M, max q1 p.lo = M := ⟨_, rfl⟩
        obtain ⟨N, hN⟩ : ∃ N, min q2 p.hi = N := ⟨_, rfl⟩
        have hmx : (if q1 < p.lo then p.lo else q1) = M := by rw [← hM]; split <;> omega
        have hmn : (if p.hi < q2 then p.hi else q2) = N := by rw [← hN]; split <;> omega
        have hM := Lib.hid hM
        have hN := Lib.hid hN
        have hnl1 : b1 ∉ [w1.heap.size] := by
          have := (hly.row.at_ _ rfl).2.1
          simp at this ⊢; omega
        have hnl2 : b2 ∉ [w1.heap.size] := by
          have := (hby.ps.row.at_ _ rfl).2.1
          simp at this ⊢; omega
        go_wp2_with fail
        refine wp_region_still_tail 14 (by kernel_rfl) (by kernel_rfl) ?_
        simp only [List.take_succ_cons, List.take_zero, List.drop_succ_cons, List.drop_zero]
        generalize hw3 : (World.mk _ _ _ _ _) = w3
        have hB3 : Below wr.heap.size wr w3 := by rw [← hw3]; exact ⟨rfl, rfl, rfl, Nat.le_refl _, fun _ _ => rfl⟩
        clear hw3
        have hcc := (bcell hB3).1
        have hbox3 := (hB3.block _ xl).trans hbox
        have c3 := (hcc _ _ hzr).trans c1
        have d3 := (hcc _ _ bl1).trans d0
        have g1 := (hcc _ _ bl2).trans e1
        have g2 := (hcc _ _ bl2).trans e2
        obtain ⟨y0, y1, yf, yl⟩ := cell2w hbox3
        clear hcc x0 x1 xf c1 d0 e1 e2
        repeat (refine wpStill_step (fun K hK => ?_); go_simp; refine hK _ ?_; clear hK K)
        refine wpStill_nil ?_
        go_wp2_with fail
        obtain ⟨W4, hW4⟩ : ∃ W4, W4 = w3.setCell ⟨w1.heap.size, 0, none⟩ (.int .i64 (M)) := ⟨_, rfl⟩
        rw [← hW4]
        have nb4 : W4.heap[w1.heap.size]? = some (.cells #[.int .i64 (M), .int .i64 q2] 33 (0, 0)) := by rw [hW4]; exact SL.heap_set hbox3 _ (i := 0)
        have cg4 : SL.Chg [w1.heap.size] w3 W4 := by rw [hW4]; exact SL.Chg.setCell _ (by simp) _
        have n4 : ∀ b, b < w1.heap.size → b ∉ [w1.heap.size] := fun b hb => by simp; omega
        have c4 := (cg4.cellsW.1 _ 3 (Nat.lt_of_lt_of_le hzr hB3.size) (n4 _ hz1)).trans c3
        have d4 := (cg4.cellsW.1 _ (o1 + k) (Nat.lt_of_lt_of_le bl1 hB3.size) (hnl1)).trans d3
        have g4 := (cg4.cellsW.1 _ (o2 + X * 8 + 2) (Nat.lt_of_lt_of_le bl2 hB3.size) (hnl2)).trans g2
        have hB4 : Below w1.heap.size w1 W4 := (hB.ch2 hB3).trans (cg4.belowW (by have := hB.size; have := hB3.size; omega) (by simp))
        have z4 := cg4.size
        have l1' : w.heap.size < W4.heap.size := by have := hB3.size; omega
        have l2' : b1 < W4.heap.size := by have := hB3.size; omega
        have l3' : b2 < W4.heap.size := by have := hB3.size; omega
        obtain ⟨_, x1', _, xl'⟩ := cell2w nb4
        clear hW4 c3 d3 g1 g2 y0 y1 yf cg4 hbox3 hbox
        go_wp2_with fail
        refine wp_region_still_tail 14 (by kernel_rfl) (by kernel_rfl) ?_
        simp only [List.take_succ_cons, List.take_zero, List.drop_succ_cons, List.drop_zero]
        generalize hw5 : (World.mk _ _ _ _ _) = w5
        have hB5 : Below W4.heap.size W4 w5 := by rw [← hw5]; exact ⟨rfl, rfl, rfl, Nat.le_refl _, fun _ _ => rfl⟩
        clear hw5
        have hcc := (bcell hB5).1
        have hbox5 := (hB5.block _ xl').trans nb4
        have c5 := (hcc _ _ l1').trans c4
        have d5 := (hcc _ _ l2').trans d4
        have g5 := (hcc _ _ l3').trans g4
        have hB5' := hB4.ch2 hB5
        obtain ⟨y0, y1, yf, yl⟩ := cell2w hbox5
        clear hcc x1' c4 d4 g4 nb4
        repeat (refine wpStill_step (fun K hK => ?_); go_simp; refine hK _ ?_; clear hK K)
        refine wpStill_nil ?_
        go_wp2_with fail
        obtain ⟨W6, hW6⟩ : ∃ W6, W6 = w5.setCell ⟨w1.heap.size, 1, none⟩ (.int .i64 (N)) := ⟨_, rfl⟩
        rw [← hW6]
        have nb6 : W6.heap[w1.heap.size]? = some (.cells #[.int .i64 (M), .int .i64 (N)] 33 (0, 0)) := by rw [hW6]; exact SL.heap_set hbox5 _ (i := 1)
        have cg6 : SL.Chg [w1.heap.size] w5 W6 := by rw [hW6]; exact SL.Chg.setCell _ (by simp) _
        have hB6 : Below w1.heap.size w1 W6 := (hB5'.trans (cg6.belowW (by have := hB5'.size; omega) (by simp)))
        clear hW6
        go_wp2_with fail
        go_roundw
        case rel => exact ⟨k + 1, by omega, by go_num, hB6, by rw [Hs.out, hM.out, hN.out]; exact nb6⟩
        case measure => simp [RowKit.intOf]; omega
      · have hk2 : k = l.length := by omega
        subst hk2
        rw [List.take_length] at hbox
        generalize comL (pns ps) (natL l) = Q at *
        obtain ⟨q1, q2⟩ := Q
        simp only at hbox HR1 HR2 HR3
        obtain ⟨x0, x1, xf, xl⟩ := cell2w hbox
        have hBr := hBW.ch2 hB
        have r0 := ((bcell hB).1 _ 0 hz2).trans c9
        have r1 := ((bcell hB).1 _ 1 hz2).trans c10
        have s0 := ((bcell hB).2 _ 0 hz2).trans f9
        have s1 := ((bcell hB).2 _ 1 hz2).trans f10
        have hne : w.heap.size + 1 ≠ w1.heap.size := by omega
        by_cases hle : q1 ≤ q2
        · have e1 := HR1.out; have e2 := HR2.out; have e3 := HR3.out
          rw [if_pos hle] at e1 e2 e3
          simp only at e1 e2 e3
          subst e1; subst e2; subst e3
          have hgt : decide (q2 < q1) = false := by simp; omega
          clear HR1 HR2 HR3
          go_wp2_with fail
          refine bodyPost_ret (v := .tuple #[.agg #[.int .i64 q1, .int .i64 q2], .bool true, .int .i64 0]) (by simp [results, Tryz.results48, go_sem, *]) rfl ⟨rfl, ?_⟩
          exact (hBr.setCell (by simp) _).setCell (by simp) _
        · have e1 := HR1.out; have e2 := HR2.out; have e3 := HR3.out
          rw [if_neg hle] at e1 e2 e3
          simp only at e1 e2 e3
          subst e1; subst e2; subst e3
          have hgt : decide (q2 < q1) = true := by simp; omega
          clear HR1 HR2 HR3
          go_wp2_with fail
          refine bodyPost_ret (v := .tuple #[.agg #[.int .i64 0, .int .i64 0], .bool false, .int .i64 0]) (by simp [results, Tryz.results48, go_sem, *]) rfl ⟨rfl, ?_⟩
          exact (hBr.setCell (by simp) _).setCell (by simp) _
  · have h2 : (E != 0) = true := by simpa using h0
    rw [if_neg (fun h => h0 h.1)] at hR1 hR2 hR3
    simp only at hR1 hR2 hR3
    subst hR1; subst hR2; subst hR3
    obtain ⟨ware, lim, byr, a, cap, ps⟩ := c
    simp only [Cs.v] at *
    have hB2 : Below w.heap.size w ((w.alloc (Obj.cells #[.string ware, .int .i64 lim, .int .i64 byr, .slice a ps.length cap] 24)).alloc (Obj.cells #[.int .i64 0, .int .i64 0] 33)) := by ((repeat (first | assumption | exact Below.refl _ _ | refine Below.alloc ?_ ?_ _ | refine Below.setCell ?_ ?_ _ | refine Below.drew ?_ | refine belowN ?_ | refine Below.up ?_ (by assumption) ?_)) <;> (first | assumption | omega | (simp; done) | (simp; omega)))
    have hbx := hc.below hB2
    have hlx := hl.below hB2
    clear h0 hz
    go_enter Tryz.func48, Tryz.ntmps48
    go_wp2_with (go_at_call 96; refine (hC _ hbx hlx).mono ?_; rintro e w1 ⟨rfl, hb1⟩; obtain ⟨hc1, hf1⟩ := bcell hb1; have hz2 := lt_size hb1 (b := w.heap.size + 1) (by first | assumption | omega | (simp; done) | (simp; omega)))
    refine bodyPost_ret (v := .tuple #[.agg #[.int .i64 0, .int .i64 0], .bool false, .int .i64 E]) (by simp [results, Tryz.results48, go_sem, *]) rfl ⟨rfl, ?_⟩
    exact ((hB2.ch2 hb1).setCell (by simp) _).setCell (by simp) _
/-- The parts of a vessel. -/
def ofV (v : List Int) (n k : Nat) : List Int := pickL (fun i => decide (v.getD i 0 = (n : Int))) k
/-- The colours of the vessels. -/
def colN (s : List Pn) (v : List Int) (n : Nat) : List (Int × Int) := (List.range n).map fun i => comL s (natL (ofV v i v.length))
def Cs.colE (c : Cs) (v : List Int) : Int := if c.chk = 0 then (if c.asg v then 0 else 1) else c.chk
def Cs.colL (c : Cs) (v : List Int) (m : Nat) : List (Int × Int) := if c.colE v = 0 then colN c.s v m else []
theorem rgO_len : ∀ {v : List Int} {m m' : Nat}, rgO v m = some m' → m' ≤ m + v.length
  | [], m, m', h => by simp [rgO] at h; subst h; simp
  | x :: v, m, m', h => by
    unfold rgO at h
    split at h
    · have := rgO_len h
      simp only [List.length_cons]
      split at this <;> omega
    · cases h
theorem Cs.asg_some {c : Cs} {v : List Int} (h : c.asg v = true) : c.chk = 0 ∧ ∃ m : Nat, asgM c.s v = some m ∧ vesL v = m ∧ m ≤ v.length ∧ v.length = c.ps.length ∧ (∀ x ∈ v, 0 ≤ x ∧ x < m) ∧ (c.lim = 0 ∨ (m : Int) ≤ c.lim) := by
  unfold Cs.asg at h
  simp only [Bool.and_eq_true, decide_eq_true_eq] at h
  obtain ⟨h1, h2⟩ := h
  refine ⟨h1, ?_⟩
  cases ha : asgM c.s v with
  | none => rw [ha] at h2; cases h2
  | some m =>
    rw [ha] at h2
    obtain ⟨a1, a2, a3⟩ := asgM_some ha
    have := rgO_len a3
    exact ⟨m, rfl, rgO_ves a3, by omega, by rw [a1]; exact pns_len _, (rgO_spec a3).2.1, by simpa using h2⟩
theorem rcs_one1 (r : Int × Int) : rcs [r] = [.int .i64 r.1, .int .i64 r.2] := by simp [rcs]
end Go.Proofs.YtodkbfbbpfghiaaGreat

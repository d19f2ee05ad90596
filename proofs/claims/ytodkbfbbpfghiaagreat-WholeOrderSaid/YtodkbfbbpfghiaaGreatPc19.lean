/-
  Lemmas and walks for the laws on roads and boards: what each function of the program answers, for every input.
-/
import Derived.Test.YtodkbfbbpfghiaaGreatPc16
import Derived.Test.YtodkbfbbpfghiaaGreatPc18
import Derived.Test.YtodkbfbbpfghiaaGreatPc10
import Derived.Test.YtodkbfbbpfghiaaGreatPc08
import Derived.Test.YtodkbfbbpfghiaaGreatPc11
set_option linter.unusedSimpArgs false
set_option linter.unusedVariables false
set_option linter.unnecessarySimpa false
namespace Go.Proofs.YtodkbfbbpfghiaaGreat
open Go.RowKit Go.Shelf
set_option maxHeartbeats 4000000
set_option maxRecDepth 100000
theorem wCritical1 (c : Cs) (N : Nat) (a : Option Addr) (ca : Nat) (f : Option Addr) (cf : Nat) (i PB LB : Nat) (w : World) (ht : TabAt w N c a ca f cf) (hok : OkS c.s) (hm : c.s.length ≤ 40) (hi : i < c.s.length)
    (h1 : w.cell? ⟨PB, 0, none⟩ = some (.pointer (some ⟨N, 0, none⟩))) (h2 : w.cell? ⟨LB, 0, none⟩ = some (.int .i64 (leastN c.s : Nat))) :
    Calls Tryz.prog 82 #[.int .i64 i, .pointer (some ⟨PB, 0, none⟩), .pointer (some ⟨LB, 0, none⟩)] w fun e w' => e = .returned (.bool (critF c.s i)) ∧ Below w.heap.size w w' := by
  have hsl : c.s.length = c.ps.length := pns_len _
  have hcr : critF c.s i = decide (leastN (c.s.eraseIdx i) < leastN c.s) := rfl
  have hel : (c.s.eraseIdx i).length ≤ 40 := by rw [List.length_eraseIdx, if_pos hi]; omega
  have hro := ht.room
  have hW := fun W (h : SpansAt W a ca f cf c.ps.length c.s) => wwithout a ca f cf c.ps.length i c.s W h hi (by omega) hro.1 hro.2
  have hL := fun a3 c3 f3 g3 W (h : SpansAt W a3 c3 f3 g3 (c.s.eraseIdx i).length (c.s.eraseIdx i)) => wleast a3 c3 f3 g3 _ (c.s.eraseIdx i) W h (by omega) (hok.erase i)
  obtain ⟨t0, t1, t2, t3, t4, t5⟩ := ht.get
  have hNl := ht.lt
  have hsp := ht.sp
  have z1 := World.block_lt_of_cell? w _ h1
  have z2 := World.block_lt_of_cell? w _ h2
  simp only at z1 z2
  generalize critF c.s i = R at *
  generalize c.s.eraseIdx i = s2 at *
  generalize c.s = s at *
  generalize c.ps.length = n at *
  generalize leastN s = L at *
  generalize hL2 : leastN s2 = L2 at *
  have Hdec := Lib.hid hcr.symm
  unfold spV at *
  clear hok hm hi hro t0 t1 t2 t3 ht hcr hsl hL2
  go_enter Tryz.func82, Tryz.ntmps82
  go_wp2_with fail
  apply SLG.rule0 ?hm1 [] [5, 6, 7, 8, 9, 10, 11, 12, 13, 4] [SLF.pq 5 [] _, SLF.pq 6 [0] _, SLF.pq 7 [1] _, SLF.pq 8 [2] _, SLF.pq 9 [] _, SL.aw 10 [3, 4] [] (fun x => .ex fun a3 : Option Addr => .ex fun c3 : Nat => .ex fun f3 : Option Addr => .ex fun g3 : Nat => .sep (.pure (x = .agg #[.slice a3 s2.length c3, .slice f3 s2.length g3])) (.osp w.heap.size a3 c3 f3 g3 s2)), SL.pu 11 [5] (.int .i64 L2), SLF.pq 12 [] _, SLF.pq 13 [6, 7] _, SLF.pq 4 [8] _] [9] ?hck1 ?hkp1 (fun _ => []) ?hin1 ?hdj1 ?hfr1 ?ob1 ?en1
  case hm1 => kernel_rfl
  case hin1 => exact SL.none_held rfl
  case hdj1 => simp
  case hfr1 => intro us; simp only [SL.frame, SL.put']; simp; exact rfl
  case ob1 =>
    refine ⟨?_, ?_, ?_, ?_, ?_, ?_, ?_, ?_, ?_, ?_, trivial⟩
    all_goals first
      | (intro us w' Fe hG hu hd hv Kx hK
         try dsimp only
         simp [SL.Used, SL.pu, SL.row, SL.box, SL.rowIn, SL.boxIn, SL.boxAt, SL.boxAtIn, SLF.pq, Act.put, SL.aw_sub, SL.aw_use, SL.aw_eat, SL.aw_V, SL.aw_quiet] at hu hK
         have hB5 : Below w.heap.size w w' := hG.below'
         obtain ⟨hc5, hf5⟩ := bcell hB5
         have hs5 := hB5.size
         clear hv hG
         refine SLF.wpo_do (SLF.wanted_free rfl) ?hd1 ?_
         case hd1 => intro c h; cases h
         clear hd
         first
           | (go_step; exact hK _ _ _ (SL.Chg.refl _ _) (by first | exact rfl | (simp only [hu]; exact rfl)) rfl (by simp) rfl)
           | exact hK _ _ _ (SL.Chg.refl _ _) rfl rfl (by simp) rfl)
      | skip
    · refine SLG.ob_sp rfl rfl rfl fun us w' Fe hG hu hd Kx hK => ?_
      try dsimp only
      simp [SL.Used, SL.pu, SL.row, SL.box, SL.rowIn, SL.boxIn, SL.boxAt, SL.boxAtIn, SLF.pq, Act.put, SL.aw_sub, SL.aw_use, SL.aw_eat, SL.aw_V, SL.aw_quiet] at hu
      have hB5 : Below w.heap.size w w' := hG.below'
      obtain ⟨hc5, hf5⟩ := bcell hB5
      have hs5 := hB5.size
      refine SLF.wpo_do (SLF.wanted_free rfl) ?hd1 ?_
      case hd1 => intro c h; cases h
      go_step
      refine (hW w' (hsp.below hB5)).mono ?_
      rintro e w6 ⟨a3, c3, f3, g3, rfl, hb6, ho6⟩
      exact hK _ _ w6 _ (by simp [Act.put]; done) (.of_below hb6) (SL.aw_in ⟨a3, c3, f3, g3, _, _, ⟨rfl, rfl⟩, ⟨ho6.base hs5, rfl⟩, rfl⟩) (fun k hk => .inr (ho6.bounds k (by simpa using hk)))
    · refine SLG.ob_sp rfl rfl rfl fun us w' Fe hG hu hd Kx hK => ?_
      try dsimp only
      simp [SL.Used, SL.pu, SL.row, SL.box, SL.rowIn, SL.boxIn, SL.boxAt, SL.boxAtIn, SLF.pq, Act.put, SL.aw_sub, SL.aw_use, SL.aw_eat, SL.aw_V, SL.aw_quiet] at hu
      have hB5 : Below w.heap.size w w' := hG.below'
      obtain ⟨hc5, hf5⟩ := bcell hB5
      have hs5 := hB5.size
      refine SLF.wpo_do (SLF.wanted_free rfl) ?hd1 ?_
      case hd1 => intro c h; cases h
      obtain ⟨a3, c3, f3, g3, F1, F2, ⟨hx, rfl⟩, ⟨hos, rfl⟩, hF⟩ := SL.aw_out hu
      go_step
      refine (hL a3 c3 f3 g3 w' (hos.spans (by omega))).mono ?_
      rintro e w6 ⟨rfl, hb6⟩
      exact hK _ _ w6 [] (by simp [Act.put]; done) (.of_below hb6) ⟨rfl, rfl⟩ (fun j hj => by cases hj)
  case hck1 => kernel_rfl
  case hkp1 => kernel_rfl
  intro us w5 Fs hG hu hbd hd
  simp [SL.Used, SLF.pq] at hu
  obtain ⟨u4, _⟩ := hu
  have hB5 : Below w.heap.size w w5 := hG.below'
  clear hbd hd hG
  go_wp2_with fail
  go_ret
  exact ⟨by rw [u4]; exact ret_bool Hdec.out, hB5⟩
theorem wCritical (c : Cs) (w : World) (hc : CsAt w c) :
    Calls Tryz.prog 28 #[c.v] w fun e w' => ∃ v, e = .returned (.tuple #[v, .int .i64 c.chk]) ∧ Below w.heap.size w w' ∧ w'.ownsRow w.heap.size 3 1 v c.critL.length (c.critL.map (.int .i64)) := by
  have hC := fun w1 (h : CsAt w1 c) => wlaid0 c w1 h
  have hr : c.critL = if c.chk = 0 then pickL (critF c.s) c.ps.length else [] := rfl
  have hz := @Cs.chk_zero c
  generalize c.critL = R at *
  generalize c.chk = E at *
  by_cases h0 : E = 0
  · subst h0
    obtain ⟨hm, hok, hsl⟩ := (hz.1 rfl).many'
    have hO := fun w1 a ca f cf (hs : SpansAt w1 a ca f cf c.ps.length c.s) => wleast a ca f cf _ c.s w1 hs (by omega) hok
    have hent : ∀ args w, (callFunc 82 args).run Tryz.prog w = .ok (.enter 82 args) w := enters_of Tryz.func82 (by kernel_rfl) rfl
    have hmk := makeFuncW
    simp only [ne_eq, not_true, false_implies, true_and, true_implies] at hC
    rw [if_pos rfl] at hr
    have Hr := Lib.hid hr
    have hP : ∀ N a ca f cf W PB LB, TabAt W N c a ca f cf → W.cell? ⟨PB, 0, none⟩ = some (.pointer (some ⟨N, 0, none⟩)) → W.cell? ⟨LB, 0, none⟩ = some (.int .i64 (leastN c.s : Nat)) → _ := fun N a ca f cf W PB LB hT h1 h2 =>
      wpicked c N a ca f cf 82 #[.pointer (some ⟨PB, 0, none⟩), .pointer (some ⟨LB, 0, none⟩)] (critF c.s) W hT (by omega) hent
        (fun i hi w3 h3 => wCritical1 c N a ca f cf i PB LB w3 (hT.below h3) hok hm (by omega) (((bcell h3).1 _ _ (World.block_lt_of_cell? W _ h1)).trans h1) (((bcell h3).1 _ _ (World.block_lt_of_cell? W _ h2)).trans h2))
    rw [← hr] at hP
    unfold spV at hO
    clear hz hr hm hok hsl hent
    generalize leastN c.s = L at *
    obtain ⟨ware, lim, byr, a, cap, ps⟩ := c
    simp only [Cs.v] at *
    have hB0 := one_alloc w (Obj.cells #[.string ware, .int .i64 lim, .int .i64 byr, .slice a ps.length cap] 24)
    have hbx := hc.below hB0
    have HP := Lib.hid hP
    clear hP
    go_enter Tryz.func28, Tryz.ntmps28
    go_wp2_with (go_at_call 75; (with_reducible refine (hC _ hbx).mono ?_); rintro e w1 ⟨N, a1, ca, f1, cf, rfl, hb1, hN, hT⟩; obtain ⟨t0, t1, t2, t3, t4, t5⟩ := hT.get; have hNl := hT.lt)
    have hB1 := hB0.ch2 hb1
    have hal := one_alloc w1 (Obj.cells #[.pointer (some ⟨N, 0, none⟩)] 77)
    have hTa := hT.below hal
    have s1 : (w1.alloc (Obj.cells #[.pointer (some ⟨N, 0, none⟩)] 77)).cell? ⟨w1.heap.size, 0, none⟩ = some (.pointer (some ⟨N, 0, none⟩)) := by simp [go_sem]
    have zs : w1.heap.size < (w1.alloc (Obj.cells #[.pointer (some ⟨N, 0, none⟩)] 77)).heap.size := by simp
    generalize w1.alloc (Obj.cells #[.pointer (some ⟨N, 0, none⟩)] 77) = w2 at *
    refine (hO _ _ _ _ _ hTa.sp).mono ?_
    rintro e w3 ⟨rfl, hb3⟩
    have hal3 := one_alloc w3 (Obj.cells #[.int .i64 L] 3)
    have s2 := ((bcell hal3).1 _ _ (Nat.lt_of_lt_of_le zs hb3.size)).trans (((bcell hb3).1 _ 0 zs).trans s1)
    have s3 : (w3.alloc (Obj.cells #[.int .i64 L] 3)).cell? ⟨w3.heap.size, 0, none⟩ = some (.int .i64 L) := by simp [go_sem]
    have hPk := HP.out N a1 ca f1 cf _ _ _ ((hTa.below hb3).below hal3) s2 s3
    have s4 := ((bcell hb3).1 _ 0 zs).trans s1
    have zs3 := Nat.lt_of_lt_of_le zs hb3.size
    clear hO hC t0 t1 t2 t3 t4 t5 s1 s2 s3 hTa hT
    go_wp2_with (go_at_call 81; (with_reducible refine hPk.mono ?_); rintro e w4 ⟨v, rfl, hb4, ho4⟩)
    go_ret2
    have hBE := (((hB1.ch2 hal).ch2 hb3).ch2 hal3)
    exact ⟨_, rfl, hBE.ch2 hb4, SL.row_base ho4 hBE.size⟩
  · have h2 : (E != 0) = true := by simpa using h0
    rw [if_neg h0] at hr
    subst hr
    have hC2 := fun w1 h => (hC w1 h).mono fun e w' hh => hh.1 h0
    clear hz h0 hC
    obtain ⟨ware, lim, byr, a, cap, ps⟩ := c
    simp only [Cs.v] at *
    have hB0 := one_alloc w (Obj.cells #[.string ware, .int .i64 lim, .int .i64 byr, .slice a ps.length cap] 24)
    have hbx := hc.below hB0
    go_enter Tryz.func28, Tryz.ntmps28
    go_wp2_with (go_at_call 75; (with_reducible refine (hC2 _ hbx).mono ?_); rintro e w1 ⟨rfl, hb1⟩)
    go_ret2
    exact ⟨_, rfl, (hB0.ch2 hb1).ch2 (one_alloc _ _), World.ownsRow_nil _ _ _ _⟩
theorem set_map {α β : Type} (f : α → β) (l : List α) (i : Nat) (y : α) : (l.set i y).map f = (l.map f).set i (f y) := by
  induction l generalizing i with
  | nil => simp
  | cons x l ih => cases i with
    | zero => simp
    | succ i => simp [ih]
/-- A range set anew, as its cells say it. -/
theorem rcs_set (rs : List (Int × Int)) (i : Nat) (h : i < rs.length) (r : Int × Int) : rcs (rs.set i r) = ((rcs rs).set (i * 2) (.int .i64 r.1)).set (i * 2 + 1) (.int .i64 r.2) := by
  have h1 := flat_set (f := fun r : Int × Int => [Value.int .i64 r.1, .int .i64 r.2]) (K := 2) (fun _ => rfl) (j := 0) (by omega) rs i h (y := (r.1, (rs.getD i default).2)) (v := .int .i64 r.1) rfl
  have h2 := flat_set (f := fun r : Int × Int => [Value.int .i64 r.1, .int .i64 r.2]) (K := 2) (fun _ => rfl) (j := 1) (by omega) (rs.set i (r.1, (rs.getD i default).2)) i (by simpa using h) (y := r) (v := .int .i64 r.2) (by
    rw [List.getD_eq_getElem?_getD, List.getElem?_set]; simp [h])
  rw [List.set_set] at h2
  unfold rcs
  rw [h2, h1, Nat.add_zero]
/-- Two rows of different types lie apart. -/
theorem rows_apart {w : World} {b1 b2 : Nat} {t1 t2 : TypeId} {s1 s2 n1 n2 c1 c2 : Nat} {x y : List Value} {g : Nat} (h1 : w.ownsRow b1 t1 s1 (.slice (some ⟨g, 0, none⟩) n1 c1) n1 x) (h2 : w.ownsRow b2 t2 s2 (.slice (some ⟨g, 0, none⟩) n2 c2) n2 y) : t1 = t2 := by
  rcases h1.2 with ⟨h, _⟩ | ⟨g1, _, _, e1, _, k1, _⟩
  · simp at h
  rcases h2.2 with ⟨h, _⟩ | ⟨g2, _, _, e2, _, k2, _⟩
  · simp at h
  simp only [Value.slice.injEq, Option.some.injEq, Addr.mk.injEq, and_true, true_and] at e1 e2
  obtain ⟨rfl, _⟩ := e1
  obtain ⟨rfl, _⟩ := e2
  rw [k1] at k2
  simp only [Option.some.injEq, Obj.cells.injEq] at k2
  exact k2.2.1
theorem wmerged (a : Option Addr) (ca : Nat) (f : Option Addr) (cf n A B : Nat) (s : List Pn) (w : World) (hs : SpansAt w a ca f cf n s) (hAB : A < B) (hB : B < s.length) (hn : s.length ≤ 100) (hok : OkS s) (hra : n ≤ ca) (hrf : n ≤ cf) :
    Calls Tryz.prog 92 #[spV a ca f cf n, .int .i64 A, .int .i64 B] w (SpansPost w (merS s A B)) := by
  obtain rfl := hs.len
  have hW := fun W (h : SpansAt W a ca f cf s.length s) => wwithout a ca f cf s.length B s W h hB hn hra hrf
  have hCm := fun W (h : SpansAt W a ca f cf s.length s) al cl (hl : IntsAt W al 2 cl [(A : Int), (B : Int)]) => wcommon a ca f cf s.length s al 2 cl [(A : Int), (B : Int)] W h hl (fun x hx => by simp at hx; omega)
  have hcm : comL s (natL [(A : Int), (B : Int)]) = ((gluP (s.getD A default) (s.getD B default)).lo, (gluP (s.getD A default) (s.getD B default)).hi) := by
    have e : natL [(A : Int), (B : Int)] = [A, B] := by simp [natL]
    have k1 := hok _ (Pn.mem (show A < s.length by omega))
    have k2 := hok _ (Pn.mem hB)
    rw [e, comL_two ⟨k1.1, k1.2.2⟩ ⟨k2.1, k2.2.2⟩]
  simp only [hcm] at hCm
  have hgf : (gluP (s.getD A default) (s.getD B default)).ft = ((s.getD A default).ft || (s.getD B default).ft) := rfl
  have hm := merS_wo (s := s) hAB
  have hEl : (s.eraseIdx B).length = s.length - 1 := by rw [List.length_eraseIdx, if_pos hB]
  have hP := Lib.hid (show ∀ e w' a ca f cf, e = .returned (.agg #[.slice a (merS s A B).length ca, .slice f (merS s A B).length cf]) → Below w.heap.size w w' → OwnSp w' w.heap.size a ca f cf (merS s A B) → SpansPost w (merS s A B) e w' from fun e w' a ca f cf h1 h2 h3 => ⟨a, ca, f, cf, h1, h2, h3⟩)
  obtain ⟨b, o, d, q, rfl, rfl, bl, dl, _, _, e1⟩ := hs.get (show A < s.length by omega)
  obtain ⟨b', o', d', q', eb, ed, _, _, _, _, e2⟩ := hs.get hB
  simp only [Option.some.injEq, Addr.mk.injEq, and_true] at eb ed
  obtain ⟨rfl, rfl⟩ := eb
  obtain ⟨rfl, rfl⟩ := ed
  have hB1 : Below w.heap.size w ((w.alloc (Obj.cells #[.slice (some ⟨b, o, none⟩) s.length ca, .slice (some ⟨d, q, none⟩) s.length cf] 83)).alloc (Obj.cells #[.slice none 0 0, .slice none 0 0] 83)) := by ((repeat (first | assumption | exact Below.refl _ _ | refine Below.alloc ?_ ?_ _ | refine Below.setCell ?_ ?_ _ | refine Below.drew ?_ | refine belowN ?_ | refine Below.up ?_ (by assumption) ?_)) <;> (first | assumption | omega | (simp; done) | (simp; omega)))
  generalize SpansPost w (merS s A B) = Post at *
  unfold spV at *
  unfold SpansPost at hW
  generalize hGl : gluP (s.getD A default) (s.getD B default) = Gl at *
  generalize hfa : (s.getD A default).ft = FA at *
  generalize hfb : (s.getD B default).ft = FB at *
  clear hcm hGl hfa hfb hok
  generalize hS2 : s.eraseIdx B = S2 at *
  have hmS : (merS s A B).map (fun p => (p.lo, p.hi)) = (S2.map fun p => (p.lo, p.hi)).set A (Gl.lo, Gl.hi) := by rw [hm, set_map]
  have hmF : (merS s A B).map (·.ft) = (S2.map (·.ft)).set A Gl.ft := by rw [hm, set_map]
  have hmL : (merS s A B).length = S2.length := by rw [hm, List.length_set]
  generalize merS s A B = M2 at *
  generalize hK : S2.length = K at hW hmL hEl
  have HK := Lib.hid hK
  have hAK : A < K := by omega
  obtain ⟨ML, MH, GF⟩ := Gl
  simp only at hCm hgf hmS hmF
  clear hm hS2 hK hEl
  go_enter Tryz.func92, Tryz.ntmps92
  go_wp2_with (go_at_call 83; (with_reducible refine (hW _ (hs.below hB1)).mono ?_); rintro e w2 ⟨a2, c2, f2, g2, rfl, hb2, ho2⟩)
  obtain ⟨w3, hw3⟩ : ∃ w3, w3 = w2.alloc (Obj.cells #[.slice a2 K c2, .slice f2 K g2] 83) := ⟨_, rfl⟩
  rw [← hw3]
  have hB12 : Below w.heap.size w w2 := hB1.ch2 hb2
  have hBW : Below w.heap.size w w3 := by rw [hw3]; exact hB12.ch2 (one_alloc _ _)
  have hbox : w3.heap[w2.heap.size]? = some (.cells #[.slice a2 K c2, .slice f2 K g2] 83 (0, 0)) := by rw [hw3]; exact World.alloc_heap_new _ _
  have ho3 : OwnSp w3 (w.heap.size + 1 + 1) a2 c2 f2 g2 S2 := by rw [hw3]; simpa using ho2.up (one_alloc _ _)
  have hz12 := hb2.size
  simp only [World.size_alloc] at hz12
  have hz3 : w3.heap.size = w2.heap.size + 1 := by rw [hw3]; simp
  have hres : w3.heap[w.heap.size + 1]? = some (.cells #[.slice none 0 0, .slice none 0 0] 83 (0, 0)) := by
    rw [hw3, heap_allocC _ _ (by omega), hb2.block _ (by simp)]
    exact heap_alloc2_new w _ _
  have hbd2 := ho2.bounds
  have hc0 : w3.heap[w.heap.size]? = some (.cells #[.slice (some ⟨b, o, none⟩) s.length ca, .slice (some ⟨d, q, none⟩) s.length cf] 83 (0, 0)) := by
    rw [hw3, heap_allocC _ _ (by omega), hb2.block _ (by simp; omega), heap_allocC _ _ (by simp)]
    exact World.alloc_heap_new _ _
  obtain ⟨q0, q1, qf, ql⟩ := cell2w hc0
  obtain ⟨p0, p1, pf, pl⟩ := cell2w hbox
  have hrow1 := ho3.at_
  have hrow2 := ho3.ft
  have hV1l : (rcs (S2.map fun p => (p.lo, p.hi))).length = K * 2 := by rw [rcs_length, List.length_map, HK.out]
  have hV2l : ((S2.map (·.ft)).map Value.bool).length = K := by rw [List.length_map, List.length_map, HK.out]
  rw [HK.out] at hrow1 hrow2
  unfold OwnSp.blocks at hbd2
  rw [HK.out] at hbd2
  obtain ⟨G1, rfl, hg1, hg1', hc2⟩ := owns_some hrow1 (by omega)
  obtain ⟨G2, rfl, hg2, hg2', hcg⟩ := owns_some hrow2 (by omega)
  have hG1 := (hbd2 G1 (by simp [Value.ownBlock])).2
  have hG2 := (hbd2 G2 (by simp [Value.ownBlock])).2
  have hG12 : G1 ≠ G2 := fun e => by
    subst e
    have := rows_apart hrow1 hrow2
    revert this
    decide
  have hApart : ([[G1], [G2]] : List (List Nat)).Pairwise fun L M => ∀ k ∈ L, k ∉ M := by
    simp only [List.pairwise_cons, List.mem_cons, List.not_mem_nil, or_false, forall_eq, List.Pairwise.nil, and_true, false_implies, implies_true]
    exact hG12
  have hFin : ∀ F, F = GF → ∀ w5, Below w.heap.size w w5 → w5.ownsRow (w.heap.size + 1 + 1) 33 2 (.slice (some ⟨G1, 0, none⟩) K c2) K (((rcs (S2.map fun p => (p.lo, p.hi))).set (A * 2) (.int .i64 ML)).set (A * 2 + 1) (.int .i64 MH)) →
      w5.ownsRow (w.heap.size + 1 + 1) 4 1 (.slice (some ⟨G2, 0, none⟩) K g2) K (((S2.map (·.ft)).map Value.bool).set A (.bool F)) → ∀ v0 v1, Post (.returned (.agg #[.slice (some ⟨G1, 0, none⟩) K c2, .slice (some ⟨G2, 0, none⟩) K g2])) ((w5.setCell ⟨w.heap.size + 1, 0, none⟩ v0).setCell ⟨w.heap.size + 1, 1, none⟩ v1) := by
    rintro F rfl w5 h1 h2 h3 v0 v1
    have k1 := SLG.row_set2 (SL.row_base h2 (show w.heap.size ≤ _ by omega)) (N := w.heap.size + 1) (by simp [Value.ownBlock]; omega) v0 v1
    have k2 := SLG.row_set2 (SL.row_base h3 (show w.heap.size ≤ _ by omega)) (N := w.heap.size + 1) (by simp [Value.ownBlock]; omega) v0 v1
    rw [← rcs_set (S2.map fun p => (p.lo, p.hi)) A (by rw [List.length_map, HK.out]; exact hAK) (ML, MH), ← hmS] at k1
    rw [← set_map, ← hmF] at k2
    refine hP.out _ _ (some ⟨G1, 0, none⟩) c2 (some ⟨G2, 0, none⟩) g2 (by rw [hmL]) ((h1.setCell (by simp) _).setCell (by simp) _) ⟨?_, ?_⟩
    · rw [hmL]; exact k1
    · rw [hmL]; exact k2
  generalize rcs (S2.map fun p => (p.lo, p.hi)) = V1 at *
  generalize (S2.map (·.ft)).map Value.bool = V2 at *
  have HV1 := Lib.hid hV1l
  have HV2 := Lib.hid hV2l
  have HFin := Lib.hid hFin
  have i1 : (A : Int) < (s.length : Int) := by omega
  have i2 : (B : Int) < (s.length : Int) := by omega
  have i3 : (0 : Int) ≤ A := by omega
  have i4 : (0 : Int) ≤ B := by omega
  have i5 : (A : Int) < (K : Int) := by omega
  generalize w2.heap.size = BX at *
  have n1 : ¬ BX = G1 := by omega
  have n2 : ¬ BX = G2 := by omega
  have n3 : ¬ w.heap.size = G1 := by omega
  have n4 : ¬ w.heap.size = G2 := by omega
  have n6 : w.heap.size + 1 < w3.heap.size := by omega
  have n7 : w.heap.size + 1 ≠ G1 ∧ w.heap.size + 1 ≠ G2 := by omega
  clear hz3 hz12
  clear hw3 hFin hV1l hV2l hmS hmF hmL ho2 ho3 hb2 hW hB1 hB12 hc0 hbd2
  cases FA with
  | true =>
    apply SLG.rule0 ?hm1 [G1, G2] [11, 12, 13, 14, 15, 16, 17, 18, 19, 20, 21, 22, 23, 24, 25, 26, 27, 28, 29, 30, 31, 32, 33, 34, 35] [SLF.pq 11 [] _, SLF.pq 12 [0] _, SLF.pq 13 [] _, SLF.pq 14 [] _, SLF.pq 15 [3] _, SLF.pq 16 [] _, SLF.pq 17 [] _, SLF.pq 18 [] _, SLF.pq 19 [] _, SL.aw 20 [7, 8] [] (fun x => .ex fun N : Nat => .sep (.pure (x = .slice (some ⟨N, 0, none⟩) 2 2)) (.blk w.heap.size N 3 #[.int .i64 A, .int .i64 B])), SL.pu 21 [6, 9] (.agg #[.int .i64 ML, .int .i64 MH]), SLF.pq 22 [] _, SLF.pq 23 [11] _, SLF.pq 24 [] _, SLF.pq 25 [12, 13] _, SLF.pq 26 [14] _, SLF.pq 27 [15] _, SLF.pq 28 [16] _, SLF.pq 29 [16, 17] _, SLF.pq 30 [16] _, SLF.pq 31 [16, 18, 19] _, SLF.pq 32 [16, 20] _, SLF.pq 33 [16, 21] _, SLF.pq 34 [1, 2] _, SL.aw 0 [10, 23, 27] [27] (fun _ => .row (w.heap.size + 1 + 1) 33 2 (.slice (some ⟨G1, 0, none⟩) K c2) K ((V1.set (A * 2) (.int .i64 ML)).set (A * 2 + 1) (.int .i64 MH))), SLF.pq 35 [4, 5] _, SL.aw 0 [22, 25, 28] [28] (fun _ => .row (w.heap.size + 1 + 1) 4 1 (.slice (some ⟨G2, 0, none⟩) K g2) K (V2.set A (.bool true))), SL.aw 0 [] [] (fun _ => .row (w.heap.size + 1 + 1) 33 2 (.slice (some ⟨G1, 0, none⟩) K c2) K V1), SL.aw 0 [] [] (fun _ => .row (w.heap.size + 1 + 1) 4 1 (.slice (some ⟨G2, 0, none⟩) K g2) K V2)] [24, 26] ?hck1 ?hkp1 (SL.heldL 27 [[G1], [G2]]) ?hin1 ?hdj1 ?hfr1 ?ob1 ?en1
    case hm1 => kernel_rfl
    case hin1 => exact SL.held_all [SL.aw 0 [] [] (fun _ => .row (w.heap.size + 1 + 1) 33 2 (.slice (some ⟨G1, 0, none⟩) K c2) K V1), SL.aw 0 [] [] (fun _ => .row (w.heap.size + 1 + 1) 4 1 (.slice (some ⟨G2, 0, none⟩) K g2) K V2)] rfl ⟨⟨SL.aw_in ⟨hrow1, rfl⟩, fun j hj => ⟨by simp at hj; simp [hj], by simp at hj; omega⟩⟩, ⟨SL.aw_in ⟨hrow2, rfl⟩, fun j hj => ⟨by simp at hj; simp [hj], by simp at hj; omega⟩⟩, trivial⟩
    case hdj1 => exact SL.heldL_apart hApart
    case hfr1 => intro us; simp only [SL.frame, SL.put']; simp; exact rfl
    case ob1 =>
      refine ⟨?_, ?_, ?_, ?_, ?_, ?_, ?_, ?_, ?_, ?_, ?_, ?_, ?_, ?_, ?_, ?_, ?_, ?_, ?_, ?_, ?_, ?_, ?_, ?_, ?_, ?_, ?_, trivial⟩
      all_goals first
        | (intro us w' Fe hG hu hd hv Kx hK
           try dsimp only
           simp [SL.Used, SL.pu, SL.row, SL.box, SL.rowIn, SL.boxIn, SL.boxAt, SL.boxAtIn, SLF.pq, Act.put, SL.aw_sub, SL.aw_use, SL.aw_eat, SL.aw_V, SL.aw_quiet] at hu hK
           have hB5 : Below w.heap.size w w' := hBW.trans (hG.belowF hBW.size (by simp; omega))
           obtain ⟨hc5, hf5⟩ := bcell hB5
           have hs5 := hB5.size
           obtain ⟨hc6, hf6⟩ := hG.cellsF
           clear hv
           first
             | (refine SLF.wpo_do (SLF.wanted_free rfl) ?hd1 ?_; (case hd1 => intro c h; cases h))
             | (refine SLF.wpo_do (SLF.wanted_by rfl rfl ?hv1) ?hd1 ?_; (case hv1 => simp [hu]; done); (case hd1 => intro c h; cases h))
             | (refine' SLF.wpo_not (SLG.wanted_not rfl rfl ?hv1 ?hn1) ?_; (case hv1 => simp [hu]; exact rfl); (case hn1 => first | (simp; done) | (simp [undef]; done)))
           clear hd
           first
             | (go_step; exact hK _ _ _ (SL.Chg.refl _ _) (by first | exact rfl | (simp only [hu]; exact rfl)) rfl (by simp) rfl)
             | exact hK _ _ _ (SL.Chg.refl _ _) rfl rfl (by simp) rfl)
        | skip
      · refine SLG.ob_sp rfl rfl rfl fun us w' Fe hG hu hd Kx hK => ?_
        try dsimp only
        simp [SL.Used, SL.pu, SL.row, SL.box, SL.rowIn, SL.boxIn, SL.boxAt, SL.boxAtIn, SLF.pq, Act.put, SL.aw_sub, SL.aw_use, SL.aw_eat, SL.aw_V, SL.aw_quiet] at hu
        have hB5 : Below w.heap.size w w' := hBW.trans (hG.belowF hBW.size (by simp; omega))
        obtain ⟨hc5, hf5⟩ := bcell hB5
        have hs5 := hB5.size
        obtain ⟨hc6, hf6⟩ := hG.cellsF
        refine SLF.wpo_do (SLF.wanted_free rfl) ?hd1 ?_
        case hd1 => intro c h; cases h
        obtain ⟨⟨e7, _⟩, e8, _⟩ := hu
        go_step
        exact hK _ _ _ _ (by simp [Act.put]; done) (.alloc _ _ _) (SL.aw_in ⟨w'.heap.size, _, _, ⟨rfl, rfl⟩, ⟨hs5, World.alloc_heap_new _ _, rfl⟩, rfl⟩) (fun j hj => .inr (by simp at hj; subst hj; simp))
      · refine SLG.ob_sp rfl rfl rfl fun us w' Fe hG hu hd Kx hK => ?_
        try dsimp only
        simp [SL.Used, SL.pu, SL.row, SL.box, SL.rowIn, SL.boxIn, SL.boxAt, SL.boxAtIn, SLF.pq, Act.put, SL.aw_sub, SL.aw_use, SL.aw_eat, SL.aw_V, SL.aw_quiet] at hu
        have hB5 : Below w.heap.size w w' := hBW.trans (hG.belowF hBW.size (by simp; omega))
        obtain ⟨hc5, hf5⟩ := bcell hB5
        have hs5 := hB5.size
        obtain ⟨hc6, hf6⟩ := hG.cellsF
        refine SLF.wpo_do (SLF.wanted_free rfl) ?hd1 ?_
        case hd1 => intro c h; cases h
        obtain ⟨⟨e6, _⟩, h9⟩ := hu
        obtain ⟨N, F1, F2, ⟨hx, rfl⟩, ⟨hN, hbl, rfl⟩, hF⟩ := SL.aw_out h9
        go_step
        refine (hCm _ (hs.below hB5) _ _ ⟨rfl, by simp, RowAt.of_heap hbl⟩).mono ?_
        rintro e w6 ⟨rfl, hb6⟩
        exact hK _ _ w6 [] (by simp [Act.put]; done) (.of_below hb6) ⟨rfl, rfl⟩ (fun j hj => by cases hj)
      · refine SLG.ob_no rfl rfl rfl fun us w' Fe hG hu hd Kx hK => ?_
        try dsimp only
        simp [SL.Used, SL.pu, SL.row, SL.box, SL.rowIn, SL.boxIn, SL.boxAt, SL.boxAtIn, SLF.pq, Act.put, SL.aw_sub, SL.aw_use, SL.aw_eat, SL.aw_V, SL.aw_quiet] at hu
        have hB5 : Below w.heap.size w w' := hBW.trans (hG.belowF hBW.size (by simp; omega))
        obtain ⟨hc5, hf5⟩ := bcell hB5
        have hs5 := hB5.size
        obtain ⟨hc6, hf6⟩ := hG.cellsF
        refine SLF.wpo_do (SLF.wanted_free rfl) ?hd1 ?_
        case hd1 => intro c h; cases h
        obtain ⟨⟨e10, _⟩, ⟨e23, _⟩, h3⟩ := hu
        obtain ⟨ho', e27⟩ := SL.aw_out h3
        obtain ⟨u0, k0⟩ : ∃ u, w'.cell? ⟨G1, A * 2, none⟩ = some u := ⟨_, (ho'.cellAt (A * 2) (by omega)).trans (List.getElem?_eq_getElem (by have := HV1.out; omega))⟩
        obtain ⟨u1, k1⟩ : ∃ u, w'.cell? ⟨G1, A * 2 + 1, none⟩ = some u := ⟨_, (ho'.cellAt (A * 2 + 1) (by omega)).trans (List.getElem?_eq_getElem (by have := HV1.out; omega))⟩
        have kf : ∀ i, w'.frozen? ⟨G1, i, none⟩ = false := fun i => ho'.frozenAt i
        go_step
        refine hK _ _ ((SL.Chg.setCell _ (by simp [SL.aw_eat, e27, Value.ownBlock]) _).trans (SL.Chg.setCell _ (by simp [SL.aw_eat, e27, Value.ownBlock]) _)) (SL.aw_in ⟨((ho'.stored (A * 2) _).1.stored (A * 2 + 1) _).1, rfl⟩) ?_
        intro j hj
        left
        simp [SL.aw_eat, e27, Value.ownBlock] at hj ⊢
        exact hj
      · refine SLG.ob_no rfl rfl rfl fun us w' Fe hG hu hd Kx hK => ?_
        try dsimp only
        simp [SL.Used, SL.pu, SL.row, SL.box, SL.rowIn, SL.boxIn, SL.boxAt, SL.boxAtIn, SLF.pq, Act.put, SL.aw_sub, SL.aw_use, SL.aw_eat, SL.aw_V, SL.aw_quiet] at hu
        have hB5 : Below w.heap.size w w' := hBW.trans (hG.belowF hBW.size (by simp; omega))
        obtain ⟨hc5, hf5⟩ := bcell hB5
        have hs5 := hB5.size
        obtain ⟨hc6, hf6⟩ := hG.cellsF
        refine SLF.wpo_do (SLF.wanted_free rfl) ?hd1 ?_
        case hd1 => intro c h; cases h
        obtain ⟨⟨e22, _⟩, ⟨e25, _⟩, h3⟩ := hu
        obtain ⟨ho', e28⟩ := SL.aw_out h3
        obtain ⟨u0, k0⟩ : ∃ u, w'.cell? ⟨G2, A, none⟩ = some u := ⟨_, (ho'.cellAt A (by omega)).trans (List.getElem?_eq_getElem (by have := HV2.out; omega))⟩
        have kf : ∀ i, w'.frozen? ⟨G2, i, none⟩ = false := fun i => ho'.frozenAt i
        go_step
        refine hK _ _ (SL.Chg.setCell _ (by simp [SL.aw_eat, e28, Value.ownBlock]) _) (SL.aw_in ⟨(ho'.stored A _).1, rfl⟩) ?_
        intro j hj
        left
        simp [SL.aw_eat, e28, Value.ownBlock] at hj ⊢
        exact hj
    case hck1 => kernel_rfl
    case hkp1 => kernel_rfl
    intro us w5 Fs hG hu hbd hd
    simp [SL.Used, SL.aw_sub] at hu
    obtain ⟨h24, h26⟩ := hu
    obtain ⟨ho1, _⟩ := SL.aw_out h24
    obtain ⟨ho2', _⟩ := SL.aw_out h26
    have hB5 : Below w.heap.size w w5 := hBW.trans (hG.belowF hBW.size (by simp; omega))
    have hG5 : SL.Chg [G1, G2] w3 w5 := ⟨hG.os, hG.tape, hG.output, hG.size, hG.block⟩
    have hbox5 := (hG5.block _ (by omega) (by simp; omega)).trans hbox
    have hres5 := (hG5.block _ (by omega) (by simp; omega)).trans hres
    obtain ⟨y0, y1, yf, yl⟩ := cell2w hbox5
    obtain ⟨z0, z1, zf, zl⟩ := cell2w hres5
    have hFin2 := Lib.hid (HFin.out true (by rw [hgf]; simp) w5 hB5 ho1 ho2')
    clear h24 h26 hbd hd hG hCm ho1 ho2' hG5 hbox5 hres5
    go_wp2_with fail
    refine bodyPost_ret (v := .agg #[.slice (some ⟨G1, 0, none⟩) K c2, .slice (some ⟨G2, 0, none⟩) K g2]) (by simp [results, Tryz.results92, go_sem, *]) rfl (hFin2.out _ _)
  | false =>
    apply SLG.rule0 ?hm2 [G1, G2] [11, 12, 13, 14, 15, 16, 17, 18, 19, 20, 21, 22, 23, 24, 25, 26, 27, 28, 29, 30, 31, 32, 33, 34, 35] [SLF.pq 11 [] _, SLF.pq 12 [0] _, SLF.pq 13 [] _, SLF.pq 14 [] _, SLF.pq 15 [3] _, SLF.pq 16 [] _, SLF.pq 17 [] _, SLF.pq 18 [] _, SLF.pq 19 [] _, SL.aw 20 [7, 8] [] (fun x => .ex fun N : Nat => .sep (.pure (x = .slice (some ⟨N, 0, none⟩) 2 2)) (.blk w.heap.size N 3 #[.int .i64 A, .int .i64 B])), SL.pu 21 [6, 9] (.agg #[.int .i64 ML, .int .i64 MH]), SLF.pq 22 [] _, SLF.pq 23 [11] _, SLF.pq 24 [] _, SLF.pq 25 [12, 13] _, SLF.pq 26 [14] _, SLF.pq 27 [15] _, SLF.pq 28 [16] _, SLF.pq 29 [16, 17] _, SLF.pq 30 [16] _, SLF.pq 31 [16, 18, 19] _, SLF.pq 32 [16, 20] _, SLF.pq 33 [16, 21] _, SLF.pq 34 [1, 2] _, SL.aw 0 [10, 23, 27] [27] (fun _ => .row (w.heap.size + 1 + 1) 33 2 (.slice (some ⟨G1, 0, none⟩) K c2) K ((V1.set (A * 2) (.int .i64 ML)).set (A * 2 + 1) (.int .i64 MH))), SLF.pq 35 [4, 5] _, SL.aw 0 [22, 25, 28] [28] (fun _ => .row (w.heap.size + 1 + 1) 4 1 (.slice (some ⟨G2, 0, none⟩) K g2) K (V2.set A (.bool FB))), SL.aw 0 [] [] (fun _ => .row (w.heap.size + 1 + 1) 33 2 (.slice (some ⟨G1, 0, none⟩) K c2) K V1), SL.aw 0 [] [] (fun _ => .row (w.heap.size + 1 + 1) 4 1 (.slice (some ⟨G2, 0, none⟩) K g2) K V2)] [24, 26] ?hck2 ?hkp2 (SL.heldL 27 [[G1], [G2]]) ?hin2 ?hdj2 ?hfr2 ?ob2 ?en2
    case hm2 => kernel_rfl
    case hin2 => exact SL.held_all [SL.aw 0 [] [] (fun _ => .row (w.heap.size + 1 + 1) 33 2 (.slice (some ⟨G1, 0, none⟩) K c2) K V1), SL.aw 0 [] [] (fun _ => .row (w.heap.size + 1 + 1) 4 1 (.slice (some ⟨G2, 0, none⟩) K g2) K V2)] rfl ⟨⟨SL.aw_in ⟨hrow1, rfl⟩, fun j hj => ⟨by simp at hj; simp [hj], by simp at hj; omega⟩⟩, ⟨SL.aw_in ⟨hrow2, rfl⟩, fun j hj => ⟨by simp at hj; simp [hj], by simp at hj; omega⟩⟩, trivial⟩
    case hdj2 => exact SL.heldL_apart hApart
    case hfr2 => intro us; simp only [SL.frame, SL.put']; simp; exact rfl
    case ob2 =>
      refine ⟨?_, ?_, ?_, ?_, ?_, ?_, ?_, ?_, ?_, ?_, ?_, ?_, ?_, ?_, ?_, ?_, ?_, ?_, ?_, ?_, ?_, ?_, ?_, ?_, ?_, ?_, ?_, trivial⟩
      all_goals first
        | (intro us w' Fe hG hu hd hv Kx hK
           try dsimp only
           simp [SL.Used, SL.pu, SL.row, SL.box, SL.rowIn, SL.boxIn, SL.boxAt, SL.boxAtIn, SLF.pq, Act.put, SL.aw_sub, SL.aw_use, SL.aw_eat, SL.aw_V, SL.aw_quiet] at hu hK
           have hB5 : Below w.heap.size w w' := hBW.trans (hG.belowF hBW.size (by simp; omega))
           obtain ⟨hc5, hf5⟩ := bcell hB5
           have hs5 := hB5.size
           obtain ⟨hc6, hf6⟩ := hG.cellsF
           clear hv
           first
             | (refine SLF.wpo_do (SLF.wanted_free rfl) ?hd2 ?_; (case hd2 => intro c h; cases h))
             | (refine SLF.wpo_do (SLF.wanted_by rfl rfl ?hv2) ?hd2 ?_; (case hv2 => simp [hu]; done); (case hd2 => intro c h; cases h))
             | (refine' SLF.wpo_not (SLG.wanted_not rfl rfl ?hv2 ?hn2) ?_; (case hv2 => simp [hu]; exact rfl); (case hn2 => first | (simp; done) | (simp [undef]; done)))
           clear hd
           first
             | (go_step; exact hK _ _ _ (SL.Chg.refl _ _) (by first | exact rfl | (simp only [hu]; exact rfl)) rfl (by simp) rfl)
             | exact hK _ _ _ (SL.Chg.refl _ _) rfl rfl (by simp) rfl)
        | skip
      · refine SLG.ob_sp rfl rfl rfl fun us w' Fe hG hu hd Kx hK => ?_
        try dsimp only
        simp [SL.Used, SL.pu, SL.row, SL.box, SL.rowIn, SL.boxIn, SL.boxAt, SL.boxAtIn, SLF.pq, Act.put, SL.aw_sub, SL.aw_use, SL.aw_eat, SL.aw_V, SL.aw_quiet] at hu
        have hB5 : Below w.heap.size w w' := hBW.trans (hG.belowF hBW.size (by simp; omega))
        obtain ⟨hc5, hf5⟩ := bcell hB5
        have hs5 := hB5.size
        obtain ⟨hc6, hf6⟩ := hG.cellsF
        refine SLF.wpo_do (SLF.wanted_free rfl) ?hd2 ?_
        case hd2 => intro c h; cases h
        obtain ⟨⟨e7, _⟩, e8, _⟩ := hu
        go_step
        exact hK _ _ _ _ (by simp [Act.put]; done) (.alloc _ _ _) (SL.aw_in ⟨w'.heap.size, _, _, ⟨rfl, rfl⟩, ⟨hs5, World.alloc_heap_new _ _, rfl⟩, rfl⟩) (fun j hj => .inr (by simp at hj; subst hj; simp))
      · refine SLG.ob_sp rfl rfl rfl fun us w' Fe hG hu hd Kx hK => ?_
        try dsimp only
        simp [SL.Used, SL.pu, SL.row, SL.box, SL.rowIn, SL.boxIn, SL.boxAt, SL.boxAtIn, SLF.pq, Act.put, SL.aw_sub, SL.aw_use, SL.aw_eat, SL.aw_V, SL.aw_quiet] at hu
        have hB5 : Below w.heap.size w w' := hBW.trans (hG.belowF hBW.size (by simp; omega))
        obtain ⟨hc5, hf5⟩ := bcell hB5
        have hs5 := hB5.size
        obtain ⟨hc6, hf6⟩ := hG.cellsF
        refine SLF.wpo_do (SLF.wanted_free rfl) ?hd2 ?_
        case hd2 => intro c h; cases h
        obtain ⟨⟨e6, _⟩, h9⟩ := hu
        obtain ⟨N, F1, F2, ⟨hx, rfl⟩, ⟨hN, hbl, rfl⟩, hF⟩ := SL.aw_out h9
        go_step
        refine (hCm _ (hs.below hB5) _ _ ⟨rfl, by simp, RowAt.of_heap hbl⟩).mono ?_
        rintro e w6 ⟨rfl, hb6⟩
        exact hK _ _ w6 [] (by simp [Act.put]; done) (.of_below hb6) ⟨rfl, rfl⟩ (fun j hj => by cases hj)
      · refine SLG.ob_no rfl rfl rfl fun us w' Fe hG hu hd Kx hK => ?_
        try dsimp only
        simp [SL.Used, SL.pu, SL.row, SL.box, SL.rowIn, SL.boxIn, SL.boxAt, SL.boxAtIn, SLF.pq, Act.put, SL.aw_sub, SL.aw_use, SL.aw_eat, SL.aw_V, SL.aw_quiet] at hu
        have hB5 : Below w.heap.size w w' := hBW.trans (hG.belowF hBW.size (by simp; omega))
        obtain ⟨hc5, hf5⟩ := bcell hB5
        have hs5 := hB5.size
        obtain ⟨hc6, hf6⟩ := hG.cellsF
        refine SLF.wpo_do (SLF.wanted_free rfl) ?hd2 ?_
        case hd2 => intro c h; cases h
        obtain ⟨⟨e10, _⟩, ⟨e23, _⟩, h3⟩ := hu
        obtain ⟨ho', e27⟩ := SL.aw_out h3
        obtain ⟨u0, k0⟩ : ∃ u, w'.cell? ⟨G1, A * 2, none⟩ = some u := ⟨_, (ho'.cellAt (A * 2) (by omega)).trans (List.getElem?_eq_getElem (by have := HV1.out; omega))⟩
        obtain ⟨u1, k1⟩ : ∃ u, w'.cell? ⟨G1, A * 2 + 1, none⟩ = some u := ⟨_, (ho'.cellAt (A * 2 + 1) (by omega)).trans (List.getElem?_eq_getElem (by have := HV1.out; omega))⟩
        have kf : ∀ i, w'.frozen? ⟨G1, i, none⟩ = false := fun i => ho'.frozenAt i
        go_step
        refine hK _ _ ((SL.Chg.setCell _ (by simp [SL.aw_eat, e27, Value.ownBlock]) _).trans (SL.Chg.setCell _ (by simp [SL.aw_eat, e27, Value.ownBlock]) _)) (SL.aw_in ⟨((ho'.stored (A * 2) _).1.stored (A * 2 + 1) _).1, rfl⟩) ?_
        intro j hj
        left
        simp [SL.aw_eat, e27, Value.ownBlock] at hj ⊢
        exact hj
      · refine SLG.ob_no rfl rfl rfl fun us w' Fe hG hu hd Kx hK => ?_
        try dsimp only
        simp [SL.Used, SL.pu, SL.row, SL.box, SL.rowIn, SL.boxIn, SL.boxAt, SL.boxAtIn, SLF.pq, Act.put, SL.aw_sub, SL.aw_use, SL.aw_eat, SL.aw_V, SL.aw_quiet] at hu
        have hB5 : Below w.heap.size w w' := hBW.trans (hG.belowF hBW.size (by simp; omega))
        obtain ⟨hc5, hf5⟩ := bcell hB5
        have hs5 := hB5.size
        obtain ⟨hc6, hf6⟩ := hG.cellsF
        refine SLF.wpo_do (SLF.wanted_free rfl) ?hd2 ?_
        case hd2 => intro c h; cases h
        obtain ⟨⟨e22, _⟩, ⟨e25, _⟩, h3⟩ := hu
        obtain ⟨ho', e28⟩ := SL.aw_out h3
        obtain ⟨u0, k0⟩ : ∃ u, w'.cell? ⟨G2, A, none⟩ = some u := ⟨_, (ho'.cellAt A (by omega)).trans (List.getElem?_eq_getElem (by have := HV2.out; omega))⟩
        have kf : ∀ i, w'.frozen? ⟨G2, i, none⟩ = false := fun i => ho'.frozenAt i
        go_step
        refine hK _ _ (SL.Chg.setCell _ (by simp [SL.aw_eat, e28, Value.ownBlock]) _) (SL.aw_in ⟨(ho'.stored A _).1, rfl⟩) ?_
        intro j hj
        left
        simp [SL.aw_eat, e28, Value.ownBlock] at hj ⊢
        exact hj
    case hck2 => kernel_rfl
    case hkp2 => kernel_rfl
    intro us w5 Fs hG hu hbd hd
    simp [SL.Used, SL.aw_sub] at hu
    obtain ⟨h24, h26⟩ := hu
    obtain ⟨ho1, _⟩ := SL.aw_out h24
    obtain ⟨ho2', _⟩ := SL.aw_out h26
    have hB5 : Below w.heap.size w w5 := hBW.trans (hG.belowF hBW.size (by simp; omega))
    have hG5 : SL.Chg [G1, G2] w3 w5 := ⟨hG.os, hG.tape, hG.output, hG.size, hG.block⟩
    have hbox5 := (hG5.block _ (by omega) (by simp; omega)).trans hbox
    have hres5 := (hG5.block _ (by omega) (by simp; omega)).trans hres
    obtain ⟨y0, y1, yf, yl⟩ := cell2w hbox5
    obtain ⟨z0, z1, zf, zl⟩ := cell2w hres5
    have hFin2 := Lib.hid (HFin.out FB (by rw [hgf]; simp) w5 hB5 ho1 ho2')
    clear h24 h26 hbd hd hG hCm ho1 ho2' hG5 hbox5 hres5
    go_wp2_with fail
    refine bodyPost_ret (v := .agg #[.slice (some ⟨G1, 0, none⟩) K c2, .slice (some ⟨G2, 0, none⟩) K g2]) (by simp [results, Tryz.results92, go_sem, *]) rfl (hFin2.out _ _)
/-- Two parts that do not clash can be of one vessel. -/
def Cs.togB (c : Cs) (A B : Nat) : Bool := decide (c.lim = 0) || decide ((leastN (merS c.s A B) : Int) ≤ c.lim)
def TogPost (w : World) (c : Cs) (A B : Nat) (e : Ending) (w' : World) : Prop :=
  (clB c.s A B = true → e = .returned (.tuple #[.agg #[.slice none 0 0, .slice none 0 0], .bool false]) ∧ Below w.heap.size w w') ∧
  (clB c.s A B = false → ∃ a ca f cf, e = .returned (.tuple #[.agg #[.slice a (merS c.s A B).length ca, .slice f (merS c.s A B).length cf], .bool (c.togB A B)]) ∧ Below w.heap.size w w' ∧ OwnSp w' w.heap.size a ca f cf (merS c.s A B))
theorem wtogether (c : Cs) (N : Nat) (a : Option Addr) (ca : Nat) (f : Option Addr) (cf : Nat) (A B : Nat) (w : World) (ht : TabAt w N c a ca f cf) (hAB : A < B) (hB : B < c.ps.length) (hok : OkS c.s) (hm : c.ps.length ≤ 40) :
    Calls Tryz.prog 87 #[.pointer (some ⟨N, 0, none⟩), .int .i64 A, .int .i64 B] w (TogPost w c A B) := by
  have hsl : c.s.length = c.ps.length := pns_len _
  have hCl := fun W (h : TabAt W N c a ca f cf) => wclash a ca f cf c.ps.length c.s A B W h.sp (by omega) (by omega)
  have hMe := fun W (h : TabAt W N c a ca f cf) => wmerged a ca f cf c.ps.length A B c.s W h.sp hAB (by omega) (by omega) hok h.room.1 h.room.2
  have hml := merS_len (s := c.s) (a := A) (b := B) (by omega)
  have hLe := fun (hT : clB c.s A B = false) W a ca f cf h => wleast a ca f cf (merS c.s A B).length (merS c.s A B) W h (by omega) (hok.merS hAB (by omega) hT)
  have htb : c.togB A B = (decide (c.lim = 0) || decide ((leastN (merS c.s A B) : Int) ≤ c.lim)) := rfl
  unfold SpansPost at hMe
  have hB0 := one_alloc w (Obj.cells #[.slice none 0 0, .slice none 0 0] 83)
  have hNl := ht.lt
  have hP := Lib.hid (show ∀ e w', ((clB c.s A B = true → e = .returned (.tuple #[.agg #[.slice none 0 0, .slice none 0 0], .bool false]) ∧ Below w.heap.size w w') ∧
    (clB c.s A B = false → ∃ a ca f cf, e = .returned (.tuple #[.agg #[.slice a (merS c.s A B).length ca, .slice f (merS c.s A B).length cf], .bool (c.togB A B)]) ∧ Below w.heap.size w w' ∧ OwnSp w' w.heap.size a ca f cf (merS c.s A B))) → TogPost w c A B e w' from fun e w' h => h)
  generalize TogPost w c A B = Post at *
  generalize c.togB A B = TB at *
  generalize clB c.s A B = T at *
  generalize merS c.s A B = S at *
  generalize leastN S = L at *
  have hSm : S.length ≤ 100000 := by omega
  obtain ⟨K, hK⟩ : ∃ K, S.length = K := ⟨_, rfl⟩
  have HK := Lib.hid hK
  rw [hK] at hMe hLe
  clear hml hK
  unfold spV at *
  obtain ⟨t0, t1, t2, t3, t4, t5⟩ := ht.get
  cases T with
  | true =>
    have HP := Lib.hid (fun e w' he hb => hP.out e w' ⟨fun _ => ⟨he, hb⟩, fun h => by cases h⟩)
    clear hP hLe hMe
    go_enter Tryz.func87, Tryz.ntmps87
    go_wp2_with (go_at_call 68; (with_reducible refine (hCl _ (ht.below hB0)).mono ?_); rintro e w1 ⟨rfl, hb1⟩; obtain ⟨hc1, hf1⟩ := bcell hb1; have hz1 := lt_size hb1 (b := w.heap.size) (by first | assumption | omega | (simp; done) | (simp; omega)))
    have hBE := hB0.ch2 hb1
    refine bodyPost_ret (v := .tuple #[.agg #[.slice none 0 0, .slice none 0 0], .bool false]) (by simp [results, Tryz.results87, go_sem, *]) rfl (HP.out _ _ rfl ?_)
    (repeat (first | (with_reducible exact hBE) | ((with_reducible refine Below.setCell ?_ ?_ _); rotate_left; focus (first | omega | (simp; done) | (simp; omega))) | ((with_reducible refine Below.alloc ?_ ?_ _); rotate_left; focus (first | omega | (simp; done) | (simp; omega)))))
  | false =>
    have HP := Lib.hid (show ∀ e w', (∃ a ca f cf, e = .returned (.tuple #[.agg #[.slice a K ca, .slice f K cf], .bool TB]) ∧ Below w.heap.size w w' ∧ OwnSp w' w.heap.size a ca f cf S) → Post e w' from fun e w' h => hP.out e w' ⟨fun h => (by cases h), fun _ => by rw [HK.out]; exact h⟩)
    have HLe := Lib.hid (hLe rfl)
    clear hLe
    clear hP
    go_enter Tryz.func87, Tryz.ntmps87
    go_wp2_with (first
      | (go_at_call 68; (with_reducible refine (hCl _ (ht.below hB0)).mono ?_); rintro e w1 ⟨rfl, hb1⟩; obtain ⟨s0, s1, s2, s3, s4, s5⟩ := ((ht.below hB0).below hb1).get)
      | (go_at_call 92; (with_reducible refine (hMe _ ((ht.below hB0).below hb1)).mono ?_); rintro e w2 ⟨a2, c2, f2, g2, rfl, hb2, ho2⟩))
    obtain ⟨w3, hw3⟩ : ∃ w3, w3 = w2.alloc (Obj.cells #[.slice a2 K c2, .slice f2 K g2] 83) := ⟨_, rfl⟩
    rw [← hw3]
    have hB12 : Below w.heap.size w w2 := (hB0.ch2 hb1).ch2 hb2
    have hBW : Below w.heap.size w w3 := by rw [hw3]; exact hB12.ch2 (one_alloc _ _)
    have hz01 := hb1.size
    have hz02 := hb2.size
    simp only [World.size_alloc] at hz01
    have hbox : w3.heap[w2.heap.size]? = some (.cells #[.slice a2 K c2, .slice f2 K g2] 83 (0, 0)) := by rw [hw3]; exact World.alloc_heap_new _ _
    have hres : w3.heap[w.heap.size]? = some (.cells #[.slice none 0 0, .slice none 0 0] 83 (0, 0)) := by
      rw [hw3, heap_allocC _ _ (by omega), hb2.block _ (by omega), hb1.block _ (by simp)]
      exact World.alloc_heap_new _ _
    have hT3 : TabAt w3 N c a ca f cf := by rw [hw3]; exact (((ht.below hB0).below hb1).below hb2).below (one_alloc _ _)
    obtain ⟨r0, r1, r2, r3, r4, r5⟩ := hT3.get
    obtain ⟨p0, p1, pf, pl⟩ := cell2w hbox
    have ho3 : OwnSp w3 w1.heap.size a2 c2 f2 g2 S := by rw [hw3]; exact ho2.up (one_alloc _ _)
    have hbd3 := ho3.bounds
    have HO3 := Lib.hid (show ∀ W, SL.Chg [w.heap.size] w3 W → OwnSp W w.heap.size a2 c2 f2 g2 S from fun W h => (ho3.stab fun k hk => h.block k (hbd3 k hk).2 (by have := (hbd3 k hk).1; simp; omega)).base (by omega))
    have hz0 : w.heap.size < w3.heap.size := by have := hBW.size; have : w3.heap.size = w2.heap.size + 1 := by rw [hw3]; simp
                                                omega
    have n1 : ¬ w2.heap.size = w.heap.size := by omega
    have n2 : ¬ N = w.heap.size := by omega
    have HSp := Lib.hid (show ∀ W, SL.Chg [w.heap.size] w3.drew W → SpansAt W a2 c2 f2 g2 K S from fun W h => by
      have h2 := (HO3.out W ⟨h.os, h.tape, h.output, h.size, h.block⟩).spans hSm
      rw [HK.out] at h2
      exact h2)
    clear hw3 hT3 ho3 hbd3 ho2 hb2 hb1 hz01 hz02 hMe hCl t0 t2 t3 t4 t5 s0 s1 s2 s3 s4 s5 hbox hB12 hB0 ht
    by_cases hl : c.lim = 0
    · have b0 : (c.lim == 0) = true := by simp [hl]
      have hTB : TB = true := by rw [htb]; simp [hl]
      subst hTB
      clear htb hl
      apply SLG.rule0 ?hm1 [w.heap.size] [24, 25, 26, 27, 28, 29, 30, 31, 32, 33, 34, 35, 36, 37, 38, 39, 40, 7] [SLF.pq 24 [] _, SLF.pq 25 [] _, SLF.pq 26 [1] _, SLF.pq 27 [2] _, SLF.pq 28 [3] _, SLF.pq 29 [4] _, SLF.pq 30 [5] _, SLF.pq 31 [6] _, SLF.pq 32 [7] _, SLF.pq 33 [7, 8] _, SLF.pq 34 [7] _, SLF.pq 35 [7, 10] _, SLF.pq 36 [7, 11] _, SLF.pq 37 [7, 12] _, SLF.pq 38 [7, 13] _, SLF.pq 39 [7, 9, 14] _, SLF.pq 40 [7, 15] _, SL.aw 0 [0, 19] [19] (fun _ => .blk 0 w.heap.size 83 #[.slice a2 K c2, .slice f2 K g2]), SLF.pq 7 [16] _, SL.blk [] [] w.heap.size 83 #[.slice none 0 0, .slice none 0 0]] [17, 18] ?hck1 ?hkp1 (fun i => if i = 19 then [w.heap.size] else []) ?hin1 ?hdj1 ?hfr1 ?ob1 ?en1
      case hm1 => kernel_rfl
      case hin1 => exact SL.one_held rfl rfl ⟨hres, rfl⟩ hz0
      case hdj1 => exact SL.one_apart
      case hfr1 => intro us; simp only [SL.frame, SL.put']; simp; exact rfl
      case ob1 =>
        refine ⟨?_, ?_, ?_, ?_, ?_, ?_, ?_, ?_, ?_, ?_, ?_, ?_, ?_, ?_, ?_, ?_, ?_, ?_, ?_, trivial⟩
        all_goals first
          | (intro us w' Fe hG hu hd hv Kx hK
             try dsimp only
             simp [SL.Used, SL.pu, SL.row, SL.box, SL.rowIn, SL.boxIn, SL.boxAt, SL.boxAtIn, SLF.pq, Act.put, SL.aw_sub, SL.aw_use, SL.aw_eat, SL.aw_V, SL.aw_quiet, SL.blk] at hu hK
             have hB5 : Below w.heap.size w w' := hBW.trans (hG.belowF hBW.size (by simp))
             obtain ⟨hc5, hf5⟩ := bcell hB5
             have hs5 := hB5.size
             obtain ⟨hc6, hf6⟩ := hG.cellsF
             clear hv
             first
               | (refine SLF.wpo_do (SLF.wanted_free rfl) ?hd1 ?_; (case hd1 => intro c h; cases h))
               | (refine SLF.wpo_do (SLF.wanted_by rfl rfl ?hv1) ?hd1 ?_; (case hv1 => simp [hu]; done); (case hd1 => intro c h; cases h))
               | (refine' SLF.wpo_not (SLG.wanted_not rfl rfl ?hv1 ?hn1) ?_; (case hv1 => simp [hu]; exact rfl); (case hn1 => first | (simp; done) | (simp [undef]; done)))
             clear hd
             first
               | (go_step; exact hK _ _ _ (SL.Chg.refl _ _) (by first | exact rfl | (simp only [hu]; exact rfl)) rfl (by simp) rfl)
               | exact hK _ _ _ (SL.Chg.refl _ _) rfl rfl (by simp) rfl)
          | skip
        · refine SLG.ob_no rfl rfl rfl fun us w' Fe hG hu hd Kx hK => ?_
          try dsimp only
          simp [SL.Used, SL.pu, SL.row, SL.box, SL.rowIn, SL.boxIn, SL.boxAt, SL.boxAtIn, SLF.pq, Act.put, SL.aw_sub, SL.aw_use, SL.aw_eat, SL.aw_V, SL.aw_quiet, SL.blk] at hu
          have hB5 : Below w.heap.size w w' := hBW.trans (hG.belowF hBW.size (by simp))
          obtain ⟨hc5, hf5⟩ := bcell hB5
          have hs5 := hB5.size
          obtain ⟨hc6, hf6⟩ := hG.cellsF
          refine SLF.wpo_do (SLF.wanted_free rfl) ?hd1 ?_
          case hd1 => intro c h; cases h
          obtain ⟨⟨e0, _⟩, hbl, e19⟩ := hu
          obtain ⟨y0, y1, yf, yl⟩ := cell2w hbl
          go_step
          refine hK _ _ (SLG.chg_set2 _ (by simp [SL.aw_eat, e19]) ..) (SL.aw_in ⟨Nat.zero_le _, SLG.heap_set2 hbl .., rfl⟩) (fun j hj => .inl (by simpa [SL.aw_eat, e19] using hj))
      case hck1 => kernel_rfl
      case hkp1 => kernel_rfl
      intro us w5 Fs hG hu hbd hd
      simp [SL.Used, SL.aw_sub, SLF.pq] at hu
      obtain ⟨h17, e7, _⟩ := hu
      obtain ⟨_, hbl, _⟩ := SL.aw_out h17
      have hB5 : Below w.heap.size w w5 := hBW.trans (hG.belowF hBW.size (by simp))
      have hG5 : SL.Chg [w.heap.size] w3 w5 := ⟨hG.os, hG.tape, hG.output, hG.size, hG.block⟩
      have hFin := Lib.hid (HP.out _ _ ⟨a2, c2, f2, g2, rfl, hB5, HO3.out w5 hG5⟩)
      obtain ⟨y0, y1, yf, yl⟩ := cell2w hbl
      clear h17 hbl hbd hd hG hG5
      go_wp2_with fail
      refine bodyPost_ret (v := .tuple #[.agg #[.slice a2 K c2, .slice f2 K g2], .bool (true)]) (by simp [results, Tryz.results87, go_sem, *]) rfl hFin.out
    · have b0 : (c.lim == 0) = false := by simpa using hl
      have hTB : TB = decide ((L : Int) ≤ c.lim) := by rw [htb]; simp [hl]
      subst hTB
      clear htb hl
      apply SLG.rule0 ?hm2 [w.heap.size] [24, 25, 26, 27, 28, 29, 30, 31, 32, 33, 34, 35, 36, 37, 38, 39, 40, 7] [SLF.pq 24 [] _, SLF.pq 25 [] _, SLF.pq 26 [1] _, SLF.pq 27 [2] _, SLF.pq 28 [3] _, SLF.pq 29 [4] _, SLF.pq 30 [5] _, SLF.pq 31 [6] _, SLF.pq 32 [7] _, SL.pu 33 [7, 8] (.int .i64 (L : Nat)), SLF.pq 34 [7] _, SLF.pq 35 [7, 10] _, SLF.pq 36 [7, 11] _, SLF.pq 37 [7, 12] _, SLF.pq 38 [7, 13] _, SLF.pq 39 [7, 9, 14] _, SLF.pq 40 [7, 15] _, SL.aw 0 [0, 19] [19] (fun _ => .blk 0 w.heap.size 83 #[.slice a2 K c2, .slice f2 K g2]), SLF.pq 7 [16] _, SL.blk [] [] w.heap.size 83 #[.slice none 0 0, .slice none 0 0]] [17, 18] ?hck2 ?hkp2 (fun i => if i = 19 then [w.heap.size] else []) ?hin2 ?hdj2 ?hfr2 ?ob2 ?en2
      case hm2 => kernel_rfl
      case hin2 => exact SL.one_held rfl rfl ⟨hres, rfl⟩ hz0
      case hdj2 => exact SL.one_apart
      case hfr2 => intro us; simp only [SL.frame, SL.put']; simp; exact rfl
      case ob2 =>
        refine ⟨?_, ?_, ?_, ?_, ?_, ?_, ?_, ?_, ?_, ?_, ?_, ?_, ?_, ?_, ?_, ?_, ?_, ?_, ?_, trivial⟩
        all_goals first
          | (intro us w' Fe hG hu hd hv Kx hK
             try dsimp only
             simp [SL.Used, SL.pu, SL.row, SL.box, SL.rowIn, SL.boxIn, SL.boxAt, SL.boxAtIn, SLF.pq, Act.put, SL.aw_sub, SL.aw_use, SL.aw_eat, SL.aw_V, SL.aw_quiet, SL.blk] at hu hK
             have hB5 : Below w.heap.size w w' := hBW.trans (hG.belowF hBW.size (by simp))
             obtain ⟨hc5, hf5⟩ := bcell hB5
             have hs5 := hB5.size
             obtain ⟨hc6, hf6⟩ := hG.cellsF
             clear hv
             first
               | (refine SLF.wpo_do (SLF.wanted_free rfl) ?hd2 ?_; (case hd2 => intro c h; cases h))
               | (refine SLF.wpo_do (SLF.wanted_by rfl rfl ?hv2) ?hd2 ?_; (case hv2 => simp [hu]; done); (case hd2 => intro c h; cases h))
               | (refine' SLF.wpo_not (SLG.wanted_not rfl rfl ?hv2 ?hn2) ?_; (case hv2 => simp [hu]; exact rfl); (case hn2 => first | (simp; done) | (simp [undef]; done)))
             clear hd
             first
               | (go_step; exact hK _ _ _ (SL.Chg.refl _ _) (by first | exact rfl | (simp only [hu]; exact rfl)) rfl (by simp) rfl)
               | exact hK _ _ _ (SL.Chg.refl _ _) rfl rfl (by simp) rfl)
          | skip
        · refine SLG.ob_sp rfl rfl rfl fun us w' Fe hG hu hd Kx hK => ?_
          try dsimp only
          simp [SL.Used, SL.pu, SL.row, SL.box, SL.rowIn, SL.boxIn, SL.boxAt, SL.boxAtIn, SLF.pq, Act.put, SL.aw_sub, SL.aw_use, SL.aw_eat, SL.aw_V, SL.aw_quiet, SL.blk] at hu
          have hB5 : Below w.heap.size w w' := hBW.trans (hG.belowF hBW.size (by simp))
          obtain ⟨hc5, hf5⟩ := bcell hB5
          have hs5 := hB5.size
          obtain ⟨hc6, hf6⟩ := hG.cellsF
          first
            | (refine SLF.wpo_do (SLF.wanted_free rfl) ?hd2 ?_; (case hd2 => intro c h; cases h))
            | (refine SLF.wpo_do (SLF.wanted_by rfl rfl ?hv2) ?hd2 ?_; (case hv2 => simp [hu]; done); (case hd2 => intro c h; cases h))
            | (refine' SLF.wpo_not (SLG.wanted_not rfl rfl ?hv2 ?hn2) ?_; (case hv2 => simp [hu]; exact rfl); (case hn2 => first | (simp; done) | (simp [undef]; done)))
          go_step
          refine (HLe.out _ _ _ _ _ (HSp.out _ hG)).mono ?_
          rintro e w6 ⟨rfl, hb6⟩
          exact hK _ _ w6 [] (by simp [Act.put]; done) (.of_below hb6) ⟨rfl, rfl⟩ (fun j hj => by cases hj)
        · refine SLG.ob_no rfl rfl rfl fun us w' Fe hG hu hd Kx hK => ?_
          try dsimp only
          simp [SL.Used, SL.pu, SL.row, SL.box, SL.rowIn, SL.boxIn, SL.boxAt, SL.boxAtIn, SLF.pq, Act.put, SL.aw_sub, SL.aw_use, SL.aw_eat, SL.aw_V, SL.aw_quiet, SL.blk] at hu
          have hB5 : Below w.heap.size w w' := hBW.trans (hG.belowF hBW.size (by simp))
          obtain ⟨hc5, hf5⟩ := bcell hB5
          have hs5 := hB5.size
          obtain ⟨hc6, hf6⟩ := hG.cellsF
          refine SLF.wpo_do (SLF.wanted_free rfl) ?hd2 ?_
          case hd2 => intro c h; cases h
          obtain ⟨⟨e0, _⟩, hbl, e19⟩ := hu
          obtain ⟨y0, y1, yf, yl⟩ := cell2w hbl
          go_step
          refine hK _ _ (SLG.chg_set2 _ (by simp [SL.aw_eat, e19]) ..) (SL.aw_in ⟨Nat.zero_le _, SLG.heap_set2 hbl .., rfl⟩) (fun j hj => .inl (by simpa [SL.aw_eat, e19] using hj))
      case hck2 => kernel_rfl
      case hkp2 => kernel_rfl
      intro us w5 Fs hG hu hbd hd
      simp [SL.Used, SL.aw_sub, SLF.pq] at hu
      obtain ⟨h17, e7, _⟩ := hu
      obtain ⟨_, hbl, _⟩ := SL.aw_out h17
      have hB5 : Below w.heap.size w w5 := hBW.trans (hG.belowF hBW.size (by simp))
      have hG5 : SL.Chg [w.heap.size] w3 w5 := ⟨hG.os, hG.tape, hG.output, hG.size, hG.block⟩
      have hFin := Lib.hid (HP.out _ _ ⟨a2, c2, f2, g2, rfl, hB5, HO3.out w5 hG5⟩)
      obtain ⟨y0, y1, yf, yl⟩ := cell2w hbl
      clear h17 hbl hbd hd hG hG5
      go_wp2_with fail
      refine bodyPost_ret (v := .tuple #[.agg #[.slice a2 K c2, .slice f2 K g2], .bool (decide ((L : Int) ≤ c.lim))]) (by simp [results, Tryz.results87, go_sem, *]) rfl hFin.out
end Go.Proofs.YtodkbfbbpfghiaaGreat

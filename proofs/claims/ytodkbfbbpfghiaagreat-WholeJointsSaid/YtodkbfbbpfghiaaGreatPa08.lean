/-
  Lemmas and walks for the laws on roads and boards: what each function of the program answers, for every input.
-/
import Derived.Test.YtodkbfbbpfghiaaGreatPa07
set_option linter.unusedSimpArgs false
set_option linter.unusedVariables false
set_option linter.unnecessarySimpa false
namespace Go.Proofs.YtodkbfbbpfghiaaGreat
open Go.RowKit Go.Shelf
set_option maxHeartbeats 40000000
set_option maxRecDepth 100000
def MergedPost2 (w : World) (p q : Pt) (e : Ending) (w' : World) : Prop := ∃ g : Pt, GluOf g p q ∧ e = .returned g.v ∧ Below w.heap.size w w' ∧ OwnPt w' w.heap.size g
theorem r6merged2 (p q : Pt) (w : World) (hp : PtAt w p) (hq : PtAt w q) (h1 : p.sh.length ≤ 1000 ∧ q.sh.length ≤ 1000) (h2 : p.re.length ≤ 1000 ∧ q.re.length ≤ 1000) :
    Calls Tryz.prog 112 #[p.v, q.v] w (MergedPost2 w p q) := by
  refine (r6merged p q w hp hq h1 h2).mono ?_
  rintro e w' ⟨sa, sc, ra, rc, he, hb, ho⟩
  exact ⟨_, ⟨sa, sc, ra, rc, rfl⟩, he, hb, ho⟩
theorem pcs_one1 (p : Pt) : pcs [p] = p.cs := by simp [pcs]
/-- The row of parts, and the part that was made, which lies apart from it. -/
structure MixAt (w : World) (base : Nat) (v : Value) (qs : List Pt) (g : Pt) : Prop where
  row : w.ownsRow base 49 8 v qs.length (pcs qs)
  own : OwnPt w base g
  apart : ∀ k ∈ v.ownBlock.toList, k ∉ g.blocks
def MixPost (w : World) (ps : List Pt) (a b : Nat) (e : Ending) (w' : World) : Prop := ∃ v g, GluOf g (ps.getD a default) (ps.getD b default) ∧ e = .returned v ∧ Below w.heap.size w w' ∧ MixAt w' w.heap.size v (mixPt ps a b g) g
def MixRel (w : World) (ps : List Pt) (a b k : Nat) (o : Value) (wr : World) : Prop :=
  ∃ g, wr.ownsRow w.heap.size 49 8 o (mixN ps a b g k).length (pcs (mixN ps a b g k)) ∧ (a < k → GluOf g (ps.getD a default) (ps.getD b default) ∧ OwnPt wr w.heap.size g ∧ ∀ j ∈ o.ownBlock.toList, j ∉ g.blocks)
theorem mixN_pre {ps : List Pt} {a b k : Nat} (g g' : Pt) (hka : k ≤ a) : mixN ps a b g k = mixN ps a b g' k := by
  unfold mixN
  have : ∀ i ∈ List.range k, (if i = a then [g] else if i = b then [] else [ps.getD i default]) = (if i = a then [g'] else if i = b then [] else [ps.getD i default]) := fun i hi => by
    have := List.mem_range.1 hi
    simp only [if_neg (show ¬ i = a by omega)]
  rw [List.flatMap_def, List.flatMap_def, List.map_congr_left this]
theorem mixN_len (ps : List Pt) (a b k : Nat) (g : Pt) : (mixN ps a b g k).length ≤ k := by
  induction k with
  | zero => simp [mixN]
  | succ k ih =>
    rw [mixN_succ, List.length_append]
    split
    · simp; omega
    · split <;> simp <;> omega
theorem r6mix (al : Option Addr) (cl : Nat) (ps : List Pt) (a b : Nat) (w : World) (hp : PtsAt w al ps.length cl ps) (hab : a < b) (hb : b < ps.length) (hl : ps.length ≤ 1000)
    (h1 : (ps.getD a default).sh.length ≤ 1000 ∧ (ps.getD b default).sh.length ≤ 1000) (h2 : (ps.getD a default).re.length ≤ 1000 ∧ (ps.getD b default).re.length ≤ 1000) :
    Calls Tryz.prog 73 #[.slice al ps.length cl, .int .i64 a, .int .i64 b] w (MixPost w ps a b) := by
  have hM := fun w1 h k => r6merged2 (ps.getD a default) (ps.getD b default) w1 h k h1 h2
  go_enter Tryz.func73, Tryz.ntmps73
  go_wp2_with fail
  go_loopw [7, 8] (fun o i wr => ∃ k : Nat, k ≤ ps.length ∧ i = .int .i64 k ∧ Below w.heap.size w wr ∧ MixRel w ps a b k o wr) (fun _ i _ => ps.length - (RowKit.intOf i).toNat)
  case atStart => exact ⟨0, Nat.zero_le _, rfl, Below.refl _ _, default, World.ownsRow_nil _ _ _ _, fun h => by omega⟩
  case round =>
    obtain ⟨k, hk, rfl, hB, g, hr, hr2⟩ := hrel
    have hml := mixN_len ps a b k g
    have hnn : (0 : Int) ≤ k := by omega
    by_cases hlt : k < ps.length
    · have i1 : (k : Int) < (ps.length : Int) := by omega
      by_cases hka : k = a
      · subst hka
        have Hpre := Lib.hid (fun g' => mixN_pre (ps := ps) (b := b) g g' (Nat.le_refl k))
        have Hsu := Lib.hid (show ∀ g', mixN ps k b g' (k + 1) = mixN ps k b g' k ++ [g'] from fun g' => by rw [mixN_succ, if_pos rfl])
        generalize mixN ps k b g k = M at *
        clear hr2
        obtain ⟨n, hn⟩ : ∃ n, M.length = n := ⟨_, rfl⟩
        rw [hn] at hr hml
        have Hn : Hid (n ≤ k) := Lib.hid hml
        have HnM := Lib.hid hn
        clear hn hml
        obtain ⟨va, vc, rfl, hva⟩ := owns_slice hr
        obtain ⟨b1, o1, rfl, bl1, d0, d1, d2, d3, d4, d5, d6, d7⟩ := hp.get hlt
        obtain ⟨b2, o2, e2, bl2, q0, q1, q2, q3, q4, q5, q6, q7⟩ := hp.get hb
        simp at e2
        obtain ⟨rfl, rfl⟩ := e2
        have hpp := hp.each _ (Pt.mem hlt)
        have hpq := hp.each _ (Pt.mem hb)
        have hkk : (k == k) = true := by simp
        have i2 : (b : Int) < (ps.length : Int) := by omega
        have i3 : (0 : Int) ≤ b := by omega
        generalize hP : ps.getD k default = P at *
        generalize hQ : ps.getD b default = Q at *
        have HP := Lib.hid hP
        have HQ := Lib.hid hQ
        clear hP hQ
        simp only [Pt.v] at hM
        have hF0 : ∀ j ∈ (Value.slice va n vc).ownBlock.toList, w.heap.size ≤ j := fun j hj => (SL.row_bounds hr j hj).1
        have HF0 := Lib.hid hF0
        have HrD := Lib.hid hr
        obtain ⟨xs, hxs⟩ : ∃ xs, pcs M = xs := ⟨_, rfl⟩
        rw [hxs] at hr HrD
        have Hxs := Lib.hid hxs
        clear hxs hF0
        go_wp2_with fail
        apply SLG.rule0 ?hm1 (Value.slice va n vc).ownBlock.toList [18, 19, 20, 21, 22, 23, 24, 25, 26, 27, 28, 29, 7] [SL.row 18 [13] [13] w.heap.size 49 8 n xs, SLF.pq 19 [] _, SLF.pq 20 [] _, SLF.pq 21 [1, 2] _, SLF.pq 22 [3] _, SLF.pq 23 [] _, SLF.pq 24 [] _, SLF.pq 25 [5, 6] _, SLF.pq 26 [7] _, SL.aw 27 [4, 8] [] (fun x => .ex fun g : Pt => .sep (.pure (x = g.v ∧ GluOf g P Q)) (.own w.heap.size g)), SL.aw 28 [9] [9] (fun x => .ex fun g : Pt => .ex fun N : Nat => .sep (.pure (x = .slice (some ⟨N, 0, none⟩) 1 1 ∧ GluOf g P Q)) (.sep (.blk w.heap.size N 49 g.cs.toArray) (.own w.heap.size g))), SL.aw 29 [0, 10] [0, 10] (fun x => .ex fun g : Pt => .sep (.pure (GluOf g P Q)) (.sepd (.row w.heap.size 49 8 x (n + 1) (xs ++ g.cs)) (.own w.heap.size g))), SL.aw 7 [11] [11] (fun x => .ex fun g : Pt => .sep (.pure (GluOf g P Q)) (.sepd (.row w.heap.size 49 8 x (n + 1) (xs ++ g.cs)) (.own w.heap.size g))), SL.row 7 [] [] w.heap.size 49 8 n xs] [12] ?hck1 ?hkp1 (fun i => if i = 13 then (Value.slice va n vc).ownBlock.toList else []) ?hin1 ?hdj1 ?hfr1 ?ob1 ?en1
        case hm1 => kernel_rfl
        case hin1 => exact SL.row_held rfl rfl ⟨hr, rfl⟩ hr
        case hdj1 => exact SL.held_apart
        case hfr1 => intro us; simp only [SL.frame, SL.put']; simp; exact rfl
        case ob1 =>
          refine ⟨?_, ?_, ?_, ?_, ?_, ?_, ?_, ?_, ?_, ?_, ?_, ?_, ?_, trivial⟩
          all_goals first
            | (intro us w' Fe hG hu hd hv Kx hK
               try dsimp only
               simp [SL.Used, SL.pu, SL.row, SL.box, SL.rowIn, SL.boxIn, SL.boxAt, SL.boxAtIn, SLF.pq, Act.put, SL.aw_sub, SL.aw_use, SL.aw_eat, SL.aw_V, SL.aw_quiet] at hu hK
               have hB5 : Below w.heap.size w w' := hB.trans (hG.belowF hB.size HF0.out)
               obtain ⟨hc5, hf5⟩ := bcell hB5
               have hs5 := hB5.size
               clear hv
               refine SLF.wpo_do (SLF.wanted_free rfl) ?hd1 ?_
               case hd1 => intro c h; cases h
               clear hd
               first
                 | (go_step; exact hK _ _ _ (SL.Chg.refl _ _) (by first | exact rfl | (simp only [hu]; exact rfl)) rfl (by simp) rfl)
                 | exact hK _ _ _ (SL.Chg.refl _ _) rfl rfl (by simp) rfl)
            | skip
          · refine SLG.ob_sp rfl rfl rfl fun us w' Fe hG hu hd Kx hK => ?_
            try dsimp only
            simp [SL.Used, SL.pu, SL.row, SL.box, SL.rowIn, SL.boxIn, SL.boxAt, SL.boxAtIn, SLF.pq, Act.put, SL.aw_sub, SL.aw_use, SL.aw_eat, SL.aw_V, SL.aw_quiet] at hu
            have hB5 : Below w.heap.size w w' := hB.trans (hG.belowF hB.size HF0.out)
            obtain ⟨hc5, hf5⟩ := bcell hB5
            have hs5 := hB5.size
            refine SLF.wpo_do (SLF.wanted_free rfl) ?hd1 ?_
            case hd1 => intro c h; cases h
            obtain ⟨ho, e1⟩ := hu
            go_step
            exact hK _ _ _ _ (by simp [Act.put]; done) (SL.Chg.refl _ _) ⟨ho, rfl⟩ (fun k hk => .inl (by simp [SL.row, e1] at hk ⊢; exact hk))
          · refine SLG.ob_sp rfl rfl rfl fun us w' Fe hG hu hd Kx hK => ?_
            try dsimp only
            simp [SL.Used, SL.pu, SL.row, SL.box, SL.rowIn, SL.boxIn, SL.boxAt, SL.boxAtIn, SLF.pq, Act.put, SL.aw_sub, SL.aw_use, SL.aw_eat, SL.aw_V, SL.aw_quiet] at hu
            have hB5 : Below w.heap.size w w' := hB.trans (hG.belowF hB.size HF0.out)
            obtain ⟨hc5, hf5⟩ := bcell hB5
            have hs5 := hB5.size
            refine SLF.wpo_do (SLF.wanted_free rfl) ?hd1 ?_
            case hd1 => intro c h; cases h
            go_step
            refine (hM _ (hpp.below hB5) (hpq.below hB5)).mono ?_
            rintro e w6 ⟨g, hg, rfl, hb6, ho6⟩
            exact hK _ _ w6 _ (by simp [Act.put]; done) (.of_below hb6) (SL.aw_in ⟨g, _, _, ⟨⟨rfl, hg⟩, rfl⟩, ⟨ho6.base hs5, rfl⟩, rfl⟩) (fun k hk => .inr (ho6.bounds k (by simpa using hk)))
          · refine SLG.ob_sp rfl rfl rfl fun us w' Fe hG hu hd Kx hK => ?_
            try dsimp only
            simp [SL.Used, SL.pu, SL.row, SL.box, SL.rowIn, SL.boxIn, SL.boxAt, SL.boxAtIn, SLF.pq, Act.put, SL.aw_sub, SL.aw_use, SL.aw_eat, SL.aw_V, SL.aw_quiet] at hu
            have hB5 : Below w.heap.size w w' := hB.trans (hG.belowF hB.size HF0.out)
            obtain ⟨hc5, hf5⟩ := bcell hB5
            have hs5 := hB5.size
            refine SLF.wpo_do (SLF.wanted_free rfl) ?hd1 ?_
            case hd1 => intro c h; cases h
            obtain ⟨g, F1, F2, ⟨⟨hx, hg⟩, rfl⟩, ⟨ho, rfl⟩, hF⟩ := SL.aw_out hu
            simp only [Pt.v] at hx
            go_step
            have hal := one_alloc w' (Obj.cells g.cs.toArray 49)
            exact hK _ _ _ _ (by simp [Act.put]; done) (.alloc _ _ _) (SL.aw_in ⟨g, w'.heap.size, _, _, ⟨⟨rfl, hg⟩, rfl⟩, ⟨_, _, ⟨hs5, World.alloc_heap_new _ _, rfl⟩, ⟨ho.up hal, rfl⟩, rfl⟩, rfl⟩)
              (fun k hk => by
                simp [SL.aw_eat, hF] at hk ⊢
                rcases hk with rfl | hk
                · right; exact ⟨Nat.le_refl _, Nat.lt_succ_self _⟩
                · exact .inl hk)
          · refine SLG.ob_sp rfl rfl rfl fun us w' Fe hG hu hd Kx hK => ?_
            try dsimp only
            simp [SL.Used, SL.pu, SL.row, SL.box, SL.rowIn, SL.boxIn, SL.boxAt, SL.boxAtIn, SLF.pq, Act.put, SL.aw_sub, SL.aw_use, SL.aw_eat, SL.aw_V, SL.aw_quiet] at hu
            have hB5 : Below w.heap.size w w' := hB.trans (hG.belowF hB.size HF0.out)
            obtain ⟨hc5, hf5⟩ := bcell hB5
            have hs5 := hB5.size
            refine SLF.wpo_do (SLF.wanted_free rfl) ?hd1 ?_
            case hd1 => intro c h; cases h
            obtain ⟨⟨ho, e1⟩, hu2⟩ := hu
            obtain ⟨g, N, F1, F2, ⟨⟨hx, hg⟩, rfl⟩, ⟨F3, F4, ⟨hN, hbl, rfl⟩, ⟨hog, rfl⟩, rfl⟩, hF⟩ := SL.aw_out hu2
            have hd1 := hd 0 10 (by simp [SL.aw_use]) (by simp [SL.aw_use]) (by simp)
            rw [e1, hF] at hd1
            refine wp_app elemP _ _ rfl ho rfl hx (RowAt.of_heap hbl) (by rfl) (fun u hu => pcs_one [g] u (by rw [pcs_one1]; exact hu)) (by unfold maxLen; have := Hn.out; omega) (by have := Hn.out; omega) (by omega) ?_
            intro v' w6 ho6 hg6 hb6 _ hat
            have hog6 : OwnPt w6 w.heap.size g := hog.stab fun k hk => grown_other hg6 (hog.bounds k hk).2 (fun h => hd1 k h (by simp [hk]))
            have hap : ∀ k ∈ v'.ownBlock.toList, k ∉ g.blocks := fun k hk hn => by
              rcases hat with h | h
              · rw [h] at hk; exact hd1 k hk (by simp [hn])
              · rw [h] at hk; simp at hk; subst hk; have := (hog.bounds _ hn).2; omega
            refine hK _ v' w6 _ (by simp [Act.put]; done) (.of_own hg6 (fun k e => by simp [SL.aw_eat, e1, e])) (SL.aw_in ⟨g, _, _, ⟨hg, rfl⟩, ⟨_, _, ⟨ho6, rfl⟩, ⟨hog6, rfl⟩, hap, rfl⟩, rfl⟩) ?_
            intro k hk
            simp [SL.aw_eat, e1, hF] at hk ⊢
            rcases hk with hk | hk
            · rcases hat with h | h
              · left; left; rw [← h]; exact hk
              · rw [h] at hk; simp at hk; subst hk; right; exact ⟨Nat.le_refl _, by have := (SL.row_bounds ho6 w'.heap.size (by simp [h])).2; exact this⟩
            · left; right; right; exact hk
          · refine SLG.ob_sp rfl rfl rfl fun us w' Fe hG hu hd Kx hK => ?_
            try dsimp only
            simp [SL.Used, SL.pu, SL.row, SL.box, SL.rowIn, SL.boxIn, SL.boxAt, SL.boxAtIn, SLF.pq, Act.put, SL.aw_sub, SL.aw_use, SL.aw_eat, SL.aw_V, SL.aw_quiet] at hu
            have hB5 : Below w.heap.size w w' := hB.trans (hG.belowF hB.size HF0.out)
            obtain ⟨hc5, hf5⟩ := bcell hB5
            have hs5 := hB5.size
            refine SLF.wpo_do (SLF.wanted_free rfl) ?hd1 ?_
            case hd1 => intro c h; cases h
            obtain ⟨g, F1, F2, ⟨hg, rfl⟩, h2, hF⟩ := SL.aw_out hu
            go_step
            exact hK _ _ _ _ (by simp [Act.put]; done) (SL.Chg.refl _ _) (SL.aw_in ⟨g, _, _, ⟨hg, rfl⟩, h2, rfl⟩) (fun k hk => .inl (by simp [SL.aw_eat, hF] at hk ⊢; exact hk))
        case hck1 => kernel_rfl
        case hkp1 => kernel_rfl
        intro us w5 Fs hG hu hbd hd
        simp [SL.Used, SL.aw_sub] at hu
        obtain ⟨g2, F1, F2, ⟨hg2, rfl⟩, ⟨F3, F4, ⟨ho5, rfl⟩, ⟨hg5, rfl⟩, hap, rfl⟩, _⟩ := SL.aw_out hu
        have hB5 : Below w.heap.size w w5 := hB.trans (hG.belowF hB.size HF0.out)
        clear hu hbd hd hG d0 d1 d2 d3 d4 d5 d6 d7 q0 q1 q2 q3 q4 q5 q6 q7 hM
        go_wp2_with fail
        go_roundw
        case rel => exact ⟨k + 1, by omega, by go_num, hB5, g2, by
          rw [Hsu.out, ← Hpre.out, List.length_append, HnM.out, pcs_append, Hxs.out, pcs_one1]
          exact ho5, fun _ => ⟨by rw [HP.out, HQ.out]; exact hg2, hg5, hap⟩⟩
        case measure => simp [RowKit.intOf]; omega
      · have hka' : ((k : Int) == a) = false := by simp; omega
        have Hsu := Lib.hid (show mixN ps a b g (k + 1) = mixN ps a b g k ++ (if k = b then [] else [ps.getD k default]) by rw [mixN_succ, if_neg hka])
        have hr2' : a < k + 1 → GluOf g (ps.getD a default) (ps.getD b default) ∧ OwnPt wr w.heap.size g ∧ ∀ j ∈ u7.ownBlock.toList, j ∉ g.blocks := fun h => hr2 (by omega)
        generalize mixN ps a b g k = M at *
        have Hr2 := Lib.hid hr2'
        clear hr2 hr2'
        by_cases hkb : k = b
        · subst hkb
          have hkb' : ((k : Int) != k) = false := by simp
          go_wp2_with fail
          go_roundw
          case rel => exact ⟨k + 1, by omega, by go_num, hB, g, by rw [Hsu.out, if_pos rfl, List.append_nil]; exact hr, Hr2.out⟩
          case measure => simp [RowKit.intOf]; omega
        · have hkb' : ((k : Int) != b) = true := by simp; omega
          obtain ⟨n, hn⟩ : ∃ n, M.length = n := ⟨_, rfl⟩
          rw [hn] at hr hml
          have HnM := Lib.hid hn
          clear hn
          have Hkb := Lib.hid hkb
          obtain ⟨b1, o1, rfl, bl1, d0, d1, d2, d3, d4, d5, d6, d7⟩ := (hp.below hB).get hlt
          obtain ⟨P, hP⟩ : ∃ P, ps.getD k default = P := ⟨_, rfl⟩
          simp only [hP] at d0 d1 d2 d3 d4 d5 d6 d7
          have HP := Lib.hid hP
          clear hka hkb hP
          go_wp2_with (at_builtin; refine wpList_app elemP rfl _ _ rfl (hr.up (one_alloc wr (Obj.cells P.cs.toArray 49)) (Nat.le_refl _)) rfl rfl (RowAt.of_heap (World.alloc_heap_new wr _)) (by rfl) (fun u hu => pcs_one [P] u (by rw [pcs_one1]; exact hu)) (by unfold maxLen; omega) (by omega) (by have := hB.size; simp; omega) ?_)
          intro v' w3 ho hg3 hb3 _ hat
          have hBn : Below w.heap.size w w3 := (hB.trans ((one_alloc wr (Obj.cells P.cs.toArray 49)).mono hB.size)).trans hb3
          have HF : Hid (a < k + 1 → GluOf g (ps.getD a default) (ps.getD b default) ∧ OwnPt w3 w.heap.size g ∧ ∀ j ∈ v'.ownBlock.toList, j ∉ g.blocks) := Lib.hid fun h => by
            obtain ⟨h1, h2, h3⟩ := Hr2.out h
            have h4 := h2.up (one_alloc wr (Obj.cells P.cs.toArray 49))
            refine ⟨h1, h4.stab fun j hj => grown_other hg3 (h4.bounds j hj).2 (fun hn => h3 j hn hj), fun j hj hn => ?_⟩
            rcases hat with e | e
            · rw [e] at hj; exact h3 j hj hn
            · rw [e] at hj; simp at hj; have := (h2.bounds j hn).2; omega
          go_wp2
          go_roundw
          case rel => exact ⟨k + 1, by omega, by go_num, hBn, g, by rw [Hsu.out, if_neg Hkb.out, List.length_append, HnM.out, pcs_append, pcs_one1, HP.out]; exact ho, HF.out⟩
          case measure => simp [RowKit.intOf]; omega
    · have hk2 : k = ps.length := by omega
      subst hk2
      have Hall := Lib.hid (@mixN_all ps a b g hab hb)
      have hr2' := hr2 (by omega)
      generalize mixN ps a b g ps.length = M at *
      clear hr2
      go_wp2_with fail
      go_ret
      refine ⟨u7, g, hr2'.1, rfl, hB, ?_, hr2'.2.1, hr2'.2.2⟩
      rw [← Hall.out]; exact hr
/-- No case. -/
def Cs.zero : Cs := ⟨ByteArray.empty, 0, 0, none, 0, []⟩
theorem Cs.zero_at (w : World) : CsAt w Cs.zero := ⟨by decide, ⟨rfl, by simp [Cs.zero], RowAt.nilAt _, fun p hp => by simp [Cs.zero] at hp⟩⟩
/-- Two parts as one: the error, and what it says. -/
def Cs.mergeE (c : Cs) (a b : Nat) : Int :=
  if clB c.s a b then 60 else if 40 < (ascOf ((c.ps.getD (min a b) default).sh ++ (c.ps.getD (max a b) default).sh)).length ∨ 200 < (ascOf ((c.ps.getD (min a b) default).re ++ (c.ps.getD (max a b) default).re)).length then 2 else 0
structure MrgOf (c : Cs) (a b : Nat) (d : Cs) : Prop where
  ware : d.ware = c.ware
  lim : d.lim = c.lim
  byr : d.byr = c.byr
  ps : ∃ g, GluOf g (c.ps.getD (min a b) default) (c.ps.getD (max a b) default) ∧ d.ps = mixPt c.ps (min a b) (max a b) g
def Cs.MergeR (c : Cs) (x y : Int) (E : Int) (d : Cs) : Prop :=
  (c.two x y ≠ 0 → E = c.two x y ∧ d = Cs.zero) ∧ (c.two x y = 0 → E = c.mergeE x.toNat y.toNat ∧ (E ≠ 0 → d = Cs.zero) ∧ (E = 0 → MrgOf c x.toNat y.toNat d))
/-- What a function with a case and an error hands back. -/
def CasePost (w : World) (R : Int → Cs → Prop) (e : Ending) (w' : World) : Prop := ∃ E d, R E d ∧ e = .returned (.tuple #[Cs.v d, .int .i64 E]) ∧ Below w.heap.size w w' ∧ CsAt w' d
theorem GluOf.sh {g p q : Pt} (h : GluOf g p q) : g.sh = ascOf (p.sh ++ q.sh) := by obtain ⟨_, _, _, _, rfl⟩ := h; rfl
theorem GluOf.re {g p q : Pt} (h : GluOf g p q) : g.re = ascOf (p.re ++ q.re) := by obtain ⟨_, _, _, _, rfl⟩ := h; rfl
theorem MixAt.pts {w : World} {base n : Nat} {va : Option Addr} {vc : Nat} {ps M : List Pt} {g : Pt} (h : MixAt w base (.slice va n vc) M g) (hn : n = M.length) (hs : M.length ≤ 1000) (hm : ∀ p ∈ M, p ∈ ps ∨ p = g) (h1 : g.sh.length ≤ 10000) (h2 : g.re.length ≤ 10000) (hp : ∀ p ∈ ps, PtAt w p) : PtsAt w va n vc M := by
  subst hn
  refine ⟨rfl, by omega, RowAt.of_owns h.row, fun p hpm => ?_⟩
  rcases hm p hpm with hm | rfl
  · exact hp p hm
  · exact h.own.at_ h1 h2
theorem MixAt.stab {w w' : World} {base : Nat} {v : Value} {M : List Pt} {g : Pt} (h : MixAt w base v M g) (hk : ∀ k, base ≤ k → k < w.heap.size → w'.heap[k]? = w.heap[k]?) : MixAt w' base v M g :=
  ⟨SL.row_stab h.row fun k hm => hk k (SL.row_bounds h.row k hm).1 (SL.row_bounds h.row k hm).2, h.own.stab fun k hm => hk k (h.own.bounds k hm).1 (h.own.bounds k hm).2, h.apart⟩
theorem mixPt_mem {ps : List Pt} {a b : Nat} {g p : Pt} (h : p ∈ mixPt ps a b g) : p ∈ ps ∨ p = g := List.mem_or_eq_of_mem_set (List.mem_of_mem_eraseIdx h)
theorem heap_setC (w : World) (p : Addr) (v : Value) {k : Nat} (h : p.block ≠ k) : (w.setCell p v).heap[k]? = w.heap[k]? := Below.heap_setCell _ _ _ _ (fun e => h e.symm)
theorem heap_allocC (w : World) (o : Obj) {k : Nat} (h : k < w.heap.size) : (w.alloc o).heap[k]? = w.heap[k]? := Below.heap_alloc _ _ _ h
theorem MixAt.at_ {w : World} {base : Nat} {v : Value} {ps : List Pt} {a b : Nat} {g : Pt} (h : MixAt w base v (mixPt ps a b g) g) (h1 : g.sh.length ≤ 10000) (h2 : g.re.length ≤ 10000) (hl : ps.length ≤ 1000) (hp : ∀ p ∈ ps, PtAt w p) :
    ∃ va vc, v = .slice va (mixPt ps a b g).length vc ∧ (∀ x, va = some x → base ≤ x.block) ∧ PtsAt w va (mixPt ps a b g).length vc (mixPt ps a b g) := by
  obtain ⟨va, vc, rfl, hva⟩ := owns_slice h.row
  refine ⟨va, vc, rfl, fun x hx => (hva x hx).1, rfl, ?_, RowAt.of_owns h.row, fun p hm => ?_⟩
  · have : (mixPt ps a b g).length ≤ ps.length := by unfold mixPt; rw [List.length_eraseIdx, List.length_set]; split <;> omega
    omega
  · unfold mixPt at hm
    rcases List.mem_or_eq_of_mem_set (List.mem_of_mem_eraseIdx hm) with hm | rfl
    · exact hp p hm
    · exact h.own.at_ h1 h2
theorem r6Merge (c : Cs) (x y : Int) (w : World) (hc : CsAt w c) :
    Calls Tryz.prog 19 #[c.v, .int .i64 x, .int .i64 y] w (CasePost w (c.MergeR x y)) := by
  have hT := fun w1 (h : CsAt w1 c) => r6two c x y w1 h
  have hz := @Cs.two_zero c x y
  have hR := Lib.hid (show ∀ E d, c.MergeR x y E d ↔ ((c.two x y ≠ 0 → E = c.two x y ∧ d = Cs.zero) ∧ (c.two x y = 0 → E = c.mergeE x.toNat y.toNat ∧ (E ≠ 0 → d = Cs.zero) ∧ (E = 0 → MrgOf c x.toNat y.toNat d))) from fun E d => Iff.rfl)
  have hP := Lib.hid (show ∀ E d e w', c.MergeR x y E d → e = .returned (.tuple #[Cs.v d, .int .i64 E]) → Below w.heap.size w w' → CsAt w' d → CasePost w (c.MergeR x y) e w' from fun E d e w' h1 h2 h3 h4 => ⟨E, d, h1, h2, h3, h4⟩)
  generalize c.MergeR x y = R at *
  generalize c.two x y = E at *
  by_cases h0 : E = 0
  · subst h0
    obtain ⟨hok, hx, hy, hne⟩ := hz rfl
    obtain ⟨X, rfl⟩ : ∃ X : Nat, x = X := ⟨x.toNat, by omega⟩
    obtain ⟨Y, rfl⟩ : ∃ Y : Nat, y = Y := ⟨y.toNat, by omega⟩
    have hmany := hok.many
    have heach := hok.each
    simp only [Int.toNat_natCast, ne_eq, not_true, false_implies, true_implies, true_and] at hR
    have hmE : c.mergeE X Y = if clB (pns c.ps) X Y then 60 else if 40 < (ascOf ((c.ps.getD (min X Y) default).sh ++ (c.ps.getD (max X Y) default).sh)).length ∨ 200 < (ascOf ((c.ps.getD (min X Y) default).re ++ (c.ps.getD (max X Y) default).re)).length then 2 else 0 := rfl
    have hMO := fun (d : Cs) h1 h2 h3 h4 => (⟨h1, h2, h3, h4⟩ : MrgOf c X Y d)
    obtain ⟨ware, lim, byr, a, cap, ps⟩ := c
    simp only [Cs.v] at *
    have hB2 : Below w.heap.size w ((w.alloc (Obj.cells #[.string ware, .int .i64 lim, .int .i64 byr, .slice a ps.length cap] 24)).alloc (Obj.cells #[.string ByteArray.empty, .int .i64 0, .int .i64 0, .slice none 0 0] 24)) := by ((repeat (first | assumption | exact Below.refl _ _ | refine Below.alloc ?_ ?_ _ | refine Below.setCell ?_ ?_ _ | refine Below.drew ?_ | refine belowN ?_ | refine Below.up ?_ (by assumption) ?_)) <;> (first | assumption | omega | (simp; done) | (simp; omega)))
    have hbx := hc.below hB2
    have hk := fun w1 (h : CsAt w1 ⟨ware, lim, byr, a, cap, ps⟩) => r6clash_any a _ cap ps X Y w1 h.ps (by omega) (by omega)
    cases hcl : clB (pns ps) X Y
    · simp only [hcl, Bool.false_eq_true, if_false] at hk hmE
      clear hcl
      rcases (by omega : X < Y ∨ Y < X) with hlt | hlt
      · have eA : min X Y = X := by omega
        have eB : max X Y = Y := by omega
        have i1 : decide ((Y : Int) < X) = false := by simp; omega
        have i2 : decide ((X : Int) < Y) = true := by simp; omega
        have i3 : ¬ (Y < X) := by omega
        simp only [eA, eB] at hmE hMO
        have hm := fun w1 (h : CsAt w1 ⟨ware, lim, byr, a, cap, ps⟩) h1 h2 => r6mix a cap ps X Y w1 h.ps hlt (by omega) (by omega) h1 h2
        have hptA := ptB_small (heach _ (Pt.mem (show X < ps.length by omega)))
        have hptB := ptB_small (heach _ (Pt.mem (show Y < ps.length by omega)))
        generalize hPA : ps.getD X default = PA at *
        generalize hPB : ps.getD Y default = PB at *
        have hm2 := fun w1 h => hm w1 h ⟨by omega, by omega⟩ ⟨by omega, by omega⟩
        clear hm eA eB
        go_enter Tryz.func19, Tryz.ntmps19
        go_wp2_with (first
          | (go_at_call 71; refine (hT _ hbx).mono ?_; rintro e w1 ⟨rfl, hb1⟩; obtain ⟨hc1, hf1⟩ := bcell hb1; have hz1 := lt_size hb1 (b := w.heap.size) (by first | assumption | omega | (simp; done) | (simp; omega)); have hz2 := lt_size hb1 (b := w.heap.size + 1) (by first | assumption | omega | (simp; done) | (simp; omega)); have hby := hbx.below hb1)
          | (go_at_call 72; refine (hk _ hby).mono ?_; rintro e w2 ⟨rfl, hb2⟩; obtain ⟨hc2, hf2⟩ := bcell hb2; have hz3 := lt_size hb2 (b := w.heap.size) (by first | assumption | omega | (simp; done) | (simp; omega)); have hz4 := lt_size hb2 (b := w.heap.size + 1) (by first | assumption | omega | (simp; done) | (simp; omega)); have hbz := hby.below hb2))
        refine (hm2 _ (hbz.below (one_alloc w2 _))).mono ?_
        rintro e w3 ⟨v, g, hg, rfl, hb3, hmx⟩
        obtain ⟨hc3, hf3⟩ := bcell hb3
        have hz5 := lt_size hb3 (b := w.heap.size) (by first | assumption | omega | (simp; done) | (simp; omega))
        have hz6 := lt_size hb3 (b := w.heap.size + 1) (by first | assumption | omega | (simp; done) | (simp; omega))
        have hz7 := lt_size hb3 (b := w2.heap.size) (by first | assumption | omega | (simp; done) | (simp; omega))
        rw [hPA, hPB] at hg
        have hgs := hg.sh
        have hgr := hg.re
        have hgl1 : g.sh.length ≤ 10000 := by rw [hgs]; have := ascOf_len (PA.sh ++ PB.sh); simp at this; omega
        have hgl2 : g.re.length ≤ 10000 := by rw [hgr]; have := ascOf_len (PA.re ++ PB.re); simp at this; omega
        rw [← hgs, ← hgr] at hmE
        obtain ⟨va, vc, rfl, hvb, hpa⟩ := hmx.at_ hgl1 hgl2 (by omega) (fun p hp => ((hbz.below (one_alloc w2 _)).below hb3).ps.each p hp)
        have hML := mixPt_len (a := X) (g := g) (show Y < ps.length by omega)
        have hMg := mixPt_get (ps := ps) (a := X) (b := Y) (i := X) (g := g) hlt (by omega)
        rw [if_pos rfl] at hMg
        have hD := hMO ⟨ware, lim, byr, va, vc, mixPt ps X Y g⟩ rfl rfl rfl ⟨g, hg, rfl⟩
        have Hmx := Lib.hid hmx
        have Hmem := Lib.hid (fun p => @mixPt_mem ps X Y g p)
        clear hmx hgs hgr hMO
        generalize mixPt ps X Y g = M at *
        obtain ⟨b1, o1, rfl, bl1, d0, d1, d2, d3, d4, d5, d6, d7⟩ := hpa.get (i := X) (by omega)
        rw [hMg] at d0 d1 d2 d3 d4 d5 d6 d7
        have hvb1 := hvb _ rfl
        simp only [World.size_alloc] at hvb1
        have n1 : b1 ≠ w2.heap.size := by omega
        have n2 : w2.heap.size ≠ b1 := by omega
        have HMg := Lib.hid hMg
        have HML := Lib.hid hML
        have i6 : X < M.length := by omega
        have i7 : (X : Int) < (M.length : Int) := by omega
        clear hMg hML
        have hBE := ((hB2.ch2 hb1).ch2 hb2).ch2 ((one_alloc _ _).ch2 hb3)
        by_cases j0 : 40 < g.sh.length
        · have j1 : decide ((40 : Int) < (g.sh.length : Int)) = true := by simp; omega
          have j2 : decide (40 < g.sh.length) = true := by simp; omega
          rw [if_pos (.inl j0)] at hmE
          have HR : Hid (R 2 Cs.zero) := Lib.hid ((hR.out _ _).2 ⟨hmE.symm, fun _ => rfl, fun h => by omega⟩)
          clear j0 hmE hR
          go_wp2_with fail
          refine bodyPost_ret (v := .tuple #[.agg #[.string ByteArray.empty, .int .i64 0, .int .i64 0, .slice none 0 0], .int .i64 2]) (by simp [results, Tryz.results19, go_sem, *]; rfl) rfl (hP.out 2 Cs.zero _ _ HR.out rfl ?_ (Cs.zero_at _))
          (repeat (first | (with_reducible exact hBE) | ((with_reducible refine Below.setCell ?_ ?_ _); rotate_left; focus (first | omega | (simp; done) | (simp; omega))) | ((with_reducible refine Below.alloc ?_ ?_ _); rotate_left; focus (first | omega | (simp; done) | (simp; omega)))))
        · have j1 : decide ((40 : Int) < (g.sh.length : Int)) = false := by simp; omega
          have j2 : decide (40 < g.sh.length) = false := by simp; omega
          by_cases k0 : 200 < g.re.length
          · have k1 : decide ((200 : Int) < (g.re.length : Int)) = true := by simp; omega
            have k2 : decide (200 < g.re.length) = true := by simp; omega
            rw [if_pos (.inr k0)] at hmE
            have HR : Hid (R 2 Cs.zero) := Lib.hid ((hR.out _ _).2 ⟨hmE.symm, fun _ => rfl, fun h => by omega⟩)
            clear j0 k0 hmE hR
            go_wp2_with fail
            refine bodyPost_ret (v := .tuple #[.agg #[.string ByteArray.empty, .int .i64 0, .int .i64 0, .slice none 0 0], .int .i64 2]) (by simp [results, Tryz.results19, go_sem, *]; rfl) rfl (hP.out 2 Cs.zero _ _ HR.out rfl ?_ (Cs.zero_at _))
            (repeat (first | (with_reducible exact hBE) | ((with_reducible refine Below.setCell ?_ ?_ _); rotate_left; focus (first | omega | (simp; done) | (simp; omega))) | ((with_reducible refine Below.alloc ?_ ?_ _); rotate_left; focus (first | omega | (simp; done) | (simp; omega)))))
          · have k1 : decide ((200 : Int) < (g.re.length : Int)) = false := by simp; omega
            have k2 : decide (200 < g.re.length) = false := by simp; omega
            rw [if_neg (by omega)] at hmE
            have HR : Hid (R 0 ⟨ware, lim, byr, some ⟨b1, o1, none⟩, vc, M⟩) := Lib.hid ((hR.out _ _).2 ⟨hmE.symm, fun h => absurd rfl h, fun _ => hD⟩)
            clear j0 k0 hmE hR hD
            go_wp2_with fail
            refine bodyPost_ret (v := .tuple #[.agg #[.string ware, .int .i64 lim, .int .i64 byr, .slice (some ⟨b1, o1, none⟩) M.length vc], .int .i64 0]) (by simp [results, Tryz.results19, go_sem, *]) rfl (hP.out 0 ⟨ware, lim, byr, some ⟨b1, o1, none⟩, vc, M⟩ _ _ HR.out rfl ?hbel ⟨hc.ware, ?_⟩)
            case hbel =>
              (repeat (first | (with_reducible exact hBE) | ((with_reducible refine Below.setCell ?_ ?_ _); rotate_left; focus (first | omega | (simp; done) | (simp; omega))) | ((with_reducible refine Below.alloc ?_ ?_ _); rotate_left; focus (first | omega | (simp; done) | (simp; omega)))))
            have hcc := ((hbz.below (one_alloc w2 (Obj.cells #[.string ware, .int .i64 lim, .int .i64 byr, .slice a ps.length cap] 24))).below hb3).ps.each
            refine (MixAt.stab Hmx.out fun k k1 k2 => ?_).pts rfl (by have := HML.out; omega) Hmem.out hgl1 hgl2 ?_
            · simp only [World.size_alloc] at k1
              rw [heap_allocC _ _ (by first | exact k2 | (simpa using k2))]
              repeat rw [heap_setC _ _ _ (by simp; omega)]
            · intro p hp
              refine (hc.ps.each p hp).below ?_
              (repeat (first | (with_reducible exact hBE) | ((with_reducible refine Below.setCell ?_ ?_ _); rotate_left; focus (first | omega | (simp; done) | (simp; omega))) | ((with_reducible refine Below.alloc ?_ ?_ _); rotate_left; focus (first | omega | (simp; done) | (simp; omega)))))
      · have eA : min X Y = Y := by omega
        have eB : max X Y = X := by omega
        have i1 : decide ((Y : Int) < X) = true := by simp; omega
        have i2 : decide ((X : Int) < Y) = false := by simp; omega
        have i3 : ¬ (X < Y) := by omega
        simp only [eA, eB] at hmE hMO
        have hm := fun w1 (h : CsAt w1 ⟨ware, lim, byr, a, cap, ps⟩) h1 h2 => r6mix a cap ps Y X w1 h.ps hlt (by omega) (by omega) h1 h2
        have hptA := ptB_small (heach _ (Pt.mem (show Y < ps.length by omega)))
        have hptB := ptB_small (heach _ (Pt.mem (show X < ps.length by omega)))
        generalize hPA : ps.getD Y default = PA at *
        generalize hPB : ps.getD X default = PB at *
        have hm2 := fun w1 h => hm w1 h ⟨by omega, by omega⟩ ⟨by omega, by omega⟩
        clear hm eA eB
        go_enter Tryz.func19, Tryz.ntmps19
        go_wp2_with (first
          | (go_at_call 71; refine (hT _ hbx).mono ?_; rintro e w1 ⟨rfl, hb1⟩; obtain ⟨hc1, hf1⟩ := bcell hb1; have hz1 := lt_size hb1 (b := w.heap.size) (by first | assumption | omega | (simp; done) | (simp; omega)); have hz2 := lt_size hb1 (b := w.heap.size + 1) (by first | assumption | omega | (simp; done) | (simp; omega)); have hby := hbx.below hb1)
          | (go_at_call 72; refine (hk _ hby).mono ?_; rintro e w2 ⟨rfl, hb2⟩; obtain ⟨hc2, hf2⟩ := bcell hb2; have hz3 := lt_size hb2 (b := w.heap.size) (by first | assumption | omega | (simp; done) | (simp; omega)); have hz4 := lt_size hb2 (b := w.heap.size + 1) (by first | assumption | omega | (simp; done) | (simp; omega)); have hbz := hby.below hb2))
        refine (hm2 _ (hbz.below (one_alloc w2 _))).mono ?_
        rintro e w3 ⟨v, g, hg, rfl, hb3, hmx⟩
        obtain ⟨hc3, hf3⟩ := bcell hb3
        have hz5 := lt_size hb3 (b := w.heap.size) (by first | assumption | omega | (simp; done) | (simp; omega))
        have hz6 := lt_size hb3 (b := w.heap.size + 1) (by first | assumption | omega | (simp; done) | (simp; omega))
        have hz7 := lt_size hb3 (b := w2.heap.size) (by first | assumption | omega | (simp; done) | (simp; omega))
        rw [hPA, hPB] at hg
        have hgs := hg.sh
        have hgr := hg.re
        have hgl1 : g.sh.length ≤ 10000 := by rw [hgs]; have := ascOf_len (PA.sh ++ PB.sh); simp at this; omega
        have hgl2 : g.re.length ≤ 10000 := by rw [hgr]; have := ascOf_len (PA.re ++ PB.re); simp at this; omega
        rw [← hgs, ← hgr] at hmE
        obtain ⟨va, vc, rfl, hvb, hpa⟩ := hmx.at_ hgl1 hgl2 (by omega) (fun p hp => ((hbz.below (one_alloc w2 _)).below hb3).ps.each p hp)
        have hML := mixPt_len (a := Y) (g := g) (show X < ps.length by omega)
        have hMg := mixPt_get (ps := ps) (a := Y) (b := X) (i := Y) (g := g) hlt (by omega)
        rw [if_pos rfl] at hMg
        have hD := hMO ⟨ware, lim, byr, va, vc, mixPt ps Y X g⟩ rfl rfl rfl ⟨g, hg, rfl⟩
        have Hmx := Lib.hid hmx
        have Hmem := Lib.hid (fun p => @mixPt_mem ps Y X g p)
        clear hmx hgs hgr hMO
        generalize mixPt ps Y X g = M at *
        obtain ⟨b1, o1, rfl, bl1, d0, d1, d2, d3, d4, d5, d6, d7⟩ := hpa.get (i := Y) (by omega)
        rw [hMg] at d0 d1 d2 d3 d4 d5 d6 d7
        have hvb1 := hvb _ rfl
        simp only [World.size_alloc] at hvb1
        have n1 : b1 ≠ w2.heap.size := by omega
        have n2 : w2.heap.size ≠ b1 := by omega
        have HMg := Lib.hid hMg
        have HML := Lib.hid hML
        have i6 : Y < M.length := by omega
        have i7 : (Y : Int) < (M.length : Int) := by omega
        clear hMg hML
        have hBE := ((hB2.ch2 hb1).ch2 hb2).ch2 ((one_alloc _ _).ch2 hb3)
        by_cases j0 : 40 < g.sh.length
        · have j1 : decide ((40 : Int) < (g.sh.length : Int)) = true := by simp; omega
          have j2 : decide (40 < g.sh.length) = true := by simp; omega
          rw [if_pos (.inl j0)] at hmE
          have HR : Hid (R 2 Cs.zero) := Lib.hid ((hR.out _ _).2 ⟨hmE.symm, fun _ => rfl, fun h => by omega⟩)
          clear j0 hmE hR
          go_wp2_with fail
          refine bodyPost_ret (v := .tuple #[.agg #[.string ByteArray.empty, .int .i64 0, .int .i64 0, .slice none 0 0], .int .i64 2]) (by simp [results, Tryz.results19, go_sem, *]; rfl) rfl (hP.out 2 Cs.zero _ _ HR.out rfl ?_ (Cs.zero_at _))
          (repeat (first | (with_reducible exact hBE) | ((with_reducible refine Below.setCell ?_ ?_ _); rotate_left; focus (first | omega | (simp; done) | (simp; omega))) | ((with_reducible refine Below.alloc ?_ ?_ _); rotate_left; focus (first | omega | (simp; done) | (simp; omega)))))
        · have j1 : decide ((40 : Int) < (g.sh.length : Int)) = false := by simp; omega
          have j2 : decide (40 < g.sh.length) = false := by simp; omega
          by_cases k0 : 200 < g.re.length
          · have k1 : decide ((200 : Int) < (g.re.length : Int)) = true := by simp; omega
            have k2 : decide (200 < g.re.length) = true := by simp; omega
            rw [if_pos (.inr k0)] at hmE
            have HR : Hid (R 2 Cs.zero) := Lib.hid ((hR.out _ _).2 ⟨hmE.symm, fun _ => rfl, fun h => by omega⟩)
            clear j0 k0 hmE hR
            go_wp2_with fail
            refine bodyPost_ret (v := .tuple #[.agg #[.string ByteArray.empty, .int .i64 0, .int .i64 0, .slice none 0 0], .int .i64 2]) (by simp [results, Tryz.results19, go_sem, *]; rfl) rfl (hP.out 2 Cs.zero _ _ HR.out rfl ?_ (Cs.zero_at _))
            (repeat (first | (with_reducible exact hBE) | ((with_reducible refine Below.setCell ?_ ?_ _); rotate_left; focus (first | omega | (simp; done) | (simp; omega))) | ((with_reducible refine Below.alloc ?_ ?_ _); rotate_left; focus (first | omega | (simp; done) | (simp; omega)))))
          · have k1 : decide ((200 : Int) < (g.re.length : Int)) = false := by simp; omega
            have k2 : decide (200 < g.re.length) = false := by simp; omega
            rw [if_neg (by omega)] at hmE
            have HR : Hid (R 0 ⟨ware, lim, byr, some ⟨b1, o1, none⟩, vc, M⟩) := Lib.hid ((hR.out _ _).2 ⟨hmE.symm, fun h => absurd rfl h, fun _ => hD⟩)
            clear j0 k0 hmE hR hD
            go_wp2_with fail
            refine bodyPost_ret (v := .tuple #[.agg #[.string ware, .int .i64 lim, .int .i64 byr, .slice (some ⟨b1, o1, none⟩) M.length vc], .int .i64 0]) (by simp [results, Tryz.results19, go_sem, *]) rfl (hP.out 0 ⟨ware, lim, byr, some ⟨b1, o1, none⟩, vc, M⟩ _ _ HR.out rfl ?hbel ⟨hc.ware, ?_⟩)
            case hbel =>
              (repeat (first | (with_reducible exact hBE) | ((with_reducible refine Below.setCell ?_ ?_ _); rotate_left; focus (first | omega | (simp; done) | (simp; omega))) | ((with_reducible refine Below.alloc ?_ ?_ _); rotate_left; focus (first | omega | (simp; done) | (simp; omega)))))
            have hcc := ((hbz.below (one_alloc w2 (Obj.cells #[.string ware, .int .i64 lim, .int .i64 byr, .slice a ps.length cap] 24))).below hb3).ps.each
            refine (MixAt.stab Hmx.out fun k k1 k2 => ?_).pts rfl (by have := HML.out; omega) Hmem.out hgl1 hgl2 ?_
            · simp only [World.size_alloc] at k1
              rw [heap_allocC _ _ (by first | exact k2 | (simpa using k2))]
              repeat rw [heap_setC _ _ _ (by simp; omega)]
            · intro p hp
              refine (hc.ps.each p hp).below ?_
              (repeat (first | (with_reducible exact hBE) | ((with_reducible refine Below.setCell ?_ ?_ _); rotate_left; focus (first | omega | (simp; done) | (simp; omega))) | ((with_reducible refine Below.alloc ?_ ?_ _); rotate_left; focus (first | omega | (simp; done) | (simp; omega)))))
    · simp only [hcl, if_true] at hk hmE
      have HR : Hid (R 60 Cs.zero) := Lib.hid ((hR.out _ _).2 ⟨hmE.symm, fun _ => rfl, fun h => by omega⟩)
      clear hcl hmE hR hMO
      go_enter Tryz.func19, Tryz.ntmps19
      go_wp2_with (first
        | (go_at_call 71; refine (hT _ hbx).mono ?_; rintro e w1 ⟨rfl, hb1⟩; obtain ⟨hc1, hf1⟩ := bcell hb1; have hz1 := lt_size hb1 (b := w.heap.size) (by first | assumption | omega | (simp; done) | (simp; omega)); have hz2 := lt_size hb1 (b := w.heap.size + 1) (by first | assumption | omega | (simp; done) | (simp; omega)); have hby := hbx.below hb1)
        | (go_at_call 72; refine (hk _ hby).mono ?_; rintro e w2 ⟨rfl, hb2⟩; obtain ⟨hc2, hf2⟩ := bcell hb2; have hz3 := lt_size hb2 (b := w.heap.size + 1) (by first | assumption | omega | (simp; done) | (simp; omega))))
      have hBE := (hB2.ch2 hb1).ch2 hb2
      refine bodyPost_ret (v := .tuple #[.agg #[.string ByteArray.empty, .int .i64 0, .int .i64 0, .slice none 0 0], .int .i64 60]) (by simp [results, Tryz.results19, go_sem, *]; rfl) rfl (hP.out 60 Cs.zero _ _ HR.out rfl ?_ (Cs.zero_at _))
      (repeat (first | (with_reducible exact hBE) | ((with_reducible refine Below.setCell ?_ ?_ _); rotate_left; focus (first | omega | (simp; done) | (simp; omega))) | ((with_reducible refine Below.alloc ?_ ?_ _); rotate_left; focus (first | omega | (simp; done) | (simp; omega)))))
  · have h2 : (E != 0) = true := by simpa using h0
    have HR : Hid (R E Cs.zero) := Lib.hid ((hR.out _ _).2 ⟨fun _ => ⟨rfl, rfl⟩, fun h => absurd h h0⟩)
    obtain ⟨ware, lim, byr, a, cap, ps⟩ := c
    simp only [Cs.v] at *
    have hB2 : Below w.heap.size w ((w.alloc (Obj.cells #[.string ware, .int .i64 lim, .int .i64 byr, .slice a ps.length cap] 24)).alloc (Obj.cells #[.string ByteArray.empty, .int .i64 0, .int .i64 0, .slice none 0 0] 24)) := by ((repeat (first | assumption | exact Below.refl _ _ | refine Below.alloc ?_ ?_ _ | refine Below.setCell ?_ ?_ _ | refine Below.drew ?_ | refine belowN ?_ | refine Below.up ?_ (by assumption) ?_)) <;> (first | assumption | omega | (simp; done) | (simp; omega)))
    have hbx := hc.below hB2
    clear h0 hz hR
    go_enter Tryz.func19, Tryz.ntmps19
    go_wp2_with (go_at_call 71; refine (hT _ hbx).mono ?_; rintro e w1 ⟨rfl, hb1⟩; obtain ⟨hc1, hf1⟩ := bcell hb1; have hz2 := lt_size hb1 (b := w.heap.size + 1) (by first | assumption | omega | (simp; done) | (simp; omega)))
    have hBE := hB2.ch2 hb1
    refine bodyPost_ret (v := .tuple #[.agg #[.string ByteArray.empty, .int .i64 0, .int .i64 0, .slice none 0 0], .int .i64 E]) (by simp [results, Tryz.results19, go_sem, *]; rfl) rfl (hP.out E Cs.zero _ _ HR.out rfl ?_ (Cs.zero_at _))
    (repeat (first | (with_reducible exact hBE) | ((with_reducible refine Below.setCell ?_ ?_ _); rotate_left; focus (first | omega | (simp; done) | (simp; omega))) | ((with_reducible refine Below.alloc ?_ ?_ _); rotate_left; focus (first | omega | (simp; done) | (simp; omega)))))
end Go.Proofs.YtodkbfbbpfghiaaGreat

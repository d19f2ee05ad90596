/-
  Lemmas and walks for the laws on roads and boards: what each function of the program answers, for every input.
-/
import Derived.Test.YtodkbfbbpfghiaaGreatPc09
import Derived.Test.YtodkbfbbpfghiaaGreatPc08
import Derived.Laws.EntriesVeiled
set_option linter.unusedSimpArgs false
set_option linter.unusedVariables false
set_option linter.unnecessarySimpa false
namespace Go.Proofs.YtodkbfbbpfghiaaGreat
open Go.RowKit Go.Shelf
set_option maxHeartbeats 4000000
set_option maxRecDepth 100000
/-- The clashes that a table holds so far: those of the parts up to k, and of the k-th with those up to j. -/
structure TabRel (N : Nat) (c : Cs) (a : Option Addr) (ca : Nat) (f : Option Addr) (cf k j : Nat) (w : World) : Prop where
  ex : ∃ cs, w.heap[N]? = some (.cells cs 87 (0, 0)) ∧ TabC 1606 cs (.string c.ware) (.int .i64 c.lim) (.int .i64 c.byr) (.slice c.a c.ps.length c.cap) (.slice a c.ps.length ca) (.slice f c.ps.length cf) ∧
    ∀ i q, (i < k ∨ (i = k ∧ q < j)) → q < c.ps.length → cs[6 + i * 40 + q]? = some (.bool (clB c.s i q))
theorem owns_room {w : World} {base : Nat} {e : TypeId} {size n : Nat} {a : Option Addr} {cap : Nat} {xs : List Value} (h : w.ownsRow base e size (.slice a n cap) n xs) : n ≤ cap := by
  obtain ⟨hl, ⟨hv, h0⟩ | ⟨g, cap', cur, hv, hb, hg, hc, _⟩⟩ := h
  · omega
  · simp at hv
    obtain ⟨rfl, rfl⟩ := hv
    exact hc
/-- A table, as it lies in a world. -/
structure TabAt (w : World) (N : Nat) (c : Cs) (a : Option Addr) (ca : Nat) (f : Option Addr) (cf : Nat) : Prop where
  cs : CsAt w c
  sp : SpansAt w a ca f cf c.ps.length c.s
  tab : TabRel N c a ca f cf c.ps.length 0 w
  room : c.ps.length ≤ ca ∧ c.ps.length ≤ cf
def LaidPost (w : World) (c : Cs) (l : List Int) (e : Ending) (w' : World) : Prop :=
  (c.ask l ≠ 0 → e = .returned (.tuple #[.pointer none, .int .i64 (c.ask l)]) ∧ Below w.heap.size w w') ∧
  (c.ask l = 0 → ∃ N a ca f cf, e = .returned (.tuple #[.pointer (some ⟨N, 0, none⟩), .int .i64 0]) ∧ Below w.heap.size w w' ∧ w.heap.size ≤ N ∧ TabAt w' N c a ca f cf)
theorem wlaid (c : Cs) (al : Option Addr) (m cl : Nat) (l : List Int) (w : World) (hc : CsAt w c) (hl : IntsAt w al m cl l) :
    Calls Tryz.prog 75 #[c.v, .slice al m cl] w (LaidPost w c l) := by
  have hC := fun w1 (h : CsAt w1 c) => wcheck c w1 h
  have he := c.ask_eq l
  have hP := Lib.hid (show ∀ e w', ((c.ask l ≠ 0 → e = .returned (.tuple #[.pointer none, .int .i64 (c.ask l)]) ∧ Below w.heap.size w w') ∧ (c.ask l = 0 → ∃ N a ca f cf, e = .returned (.tuple #[.pointer (some ⟨N, 0, none⟩), .int .i64 0]) ∧ Below w.heap.size w w' ∧ w.heap.size ≤ N ∧ TabAt w' N c a ca f cf)) → LaidPost w c l e w' from fun e w' h => h)
  generalize LaidPost w c l = Post at *
  obtain rfl := hl.len
  have hls := hl.small
  by_cases h0 : c.chk = 0
  · rw [if_pos h0] at he
    have hok := Cs.chk_zero.1 h0
    have hmany := hok.many
    simp only [h0] at hC
    have hS := fun w1 (h : CsAt w1 c) => wspansOf c w1 h (by omega)
    have hsl : c.s.length = c.ps.length := pns_len _
    have hEE := Lib.hid he
    have Hok := Lib.hid hok
    clear he h0 hok
    generalize hs : c.s = s at *
    have Hs := Lib.hid hs
    change ∀ w1, CsAt w1 c → Calls Tryz.prog 113 #[c.v] w1 (SpansPost w1 c.s) at hS
    rw [hs] at hS
    clear hs
    obtain ⟨ware, lim, byr, a, cap, ps⟩ := c
    simp only [Cs.v] at *
    have hB0 := one_alloc w (Obj.cells #[.string ware, .int .i64 lim, .int .i64 byr, .slice a ps.length cap] 24)
    have hbx := hc.below hB0
    have hmany : ps.length ≤ 40 := hmany
    go_enter Tryz.func75, Tryz.ntmps75
    go_wp2_with (go_at_call 58; (with_reducible refine (hC _ hbx).mono ?_); rintro e w1 ⟨rfl, hb1⟩; obtain ⟨hc1, hf1⟩ := bcell hb1; have hz1 := lt_size hb1 (b := w.heap.size) (by first | assumption | omega | (simp; done) | (simp; omega)))
    have hBW : Below w.heap.size w w1 := hB0.ch2 hb1
    have c0 : w1.cell? ⟨w.heap.size, 0, none⟩ = some (.string ware) := by simp [go_sem, *]
    have c1 : w1.cell? ⟨w.heap.size, 1, none⟩ = some (.int .i64 lim) := by simp [go_sem, *]
    have c2 : w1.cell? ⟨w.heap.size, 2, none⟩ = some (.int .i64 byr) := by simp [go_sem, *]
    have c3 : w1.cell? ⟨w.heap.size, 3, none⟩ = some (.slice a ps.length cap) := by simp [go_sem, *]
    have hby := hbx.below hb1
    clear hc1 hf1 hb1 hC hbx hB0
    have HSL := Lib.hid hsl
    clear hsl
    apply SLG.rule0 ?hm1 [] [17, 18, 19, 20, 21, 7] [SLF.pq 17 [] _, SLF.pq 18 [] _, SL.aw 19 [1] [] (fun x => .ex fun q : (Option Addr × Nat) × (Option Addr × Nat) => .sep (.pure (x = .agg #[.slice q.1.1 ps.length q.1.2, .slice q.2.1 ps.length q.2.2])) (.osp w1.heap.size q.1.1 q.1.2 q.2.1 q.2.2 s)), SL.aw 20 [0, 2] [2] (fun x => .ex fun q : (Option Addr × Nat) × (Option Addr × Nat) => .ex fun cs : Array Value => .sep (.pure (x = .agg cs ∧ TabC 1606 cs (.string ware) (.int .i64 lim) (.int .i64 byr) (.slice a ps.length cap) (.slice q.1.1 ps.length q.1.2) (.slice q.2.1 ps.length q.2.2))) (.osp w1.heap.size q.1.1 q.1.2 q.2.1 q.2.2 s)), SL.aw 21 [3] [3] (fun x => .ex fun q : (Option Addr × Nat) × (Option Addr × Nat) => .ex fun cs : Array Value => .ex fun N : Nat => .sep (.pure (x = .pointer (some ⟨N, 0, none⟩) ∧ TabC 1606 cs (.string ware) (.int .i64 lim) (.int .i64 byr) (.slice a ps.length cap) (.slice q.1.1 ps.length q.1.2) (.slice q.2.1 ps.length q.2.2))) (.sepd (.blk w1.heap.size N 87 cs) (.osp w1.heap.size q.1.1 q.1.2 q.2.1 q.2.2 s))), SL.aw 7 [4] [4] (fun x => .ex fun q : (Option Addr × Nat) × (Option Addr × Nat) => .ex fun cs : Array Value => .ex fun N : Nat => .sep (.pure (x = .pointer (some ⟨N, 0, none⟩) ∧ TabC 1606 cs (.string ware) (.int .i64 lim) (.int .i64 byr) (.slice a ps.length cap) (.slice q.1.1 ps.length q.1.2) (.slice q.2.1 ps.length q.2.2))) (.sepd (.blk w1.heap.size N 87 cs) (.osp w1.heap.size q.1.1 q.1.2 q.2.1 q.2.2 s)))] [5] ?hck1 ?hkp1 (fun _ => []) ?hin1 ?hdj1 ?hfr1 ?ob1 ?en1
    case hm1 => kernel_rfl
    case hin1 => exact SL.none_held rfl
    case hdj1 => simp
    case hfr1 => intro us; simp only [SL.frame, SL.put']; simp; exact rfl
    case ob1 =>
      refine ⟨?_, ?_, ?_, ?_, ?_, ?_, trivial⟩
      all_goals first
        | (intro us w' Fe hG hu hd hv Kx hK
           try dsimp only
           simp [SL.Used, SL.pu, SL.row, SL.box, SL.rowIn, SL.boxIn, SL.boxAt, SL.boxAtIn, SLF.pq, Act.put, SL.aw_sub, SL.aw_use, SL.aw_eat, SL.aw_V, SL.aw_quiet] at hu hK
           have hB5 : Below w1.heap.size w1 w' := hG.below'
           obtain ⟨hc5, hf5⟩ := bcell hB5
           have hs5 := hB5.size
           clear hv hG
           refine SLF.wpo_do (SLF.wanted_free rfl) ?hd1 ?_
           case hd1 => intro c h; cases h
           clear hd
           first
             | (go_step; exact hK _ _ _ (SL.Chg.refl _ _) (by first | exact rfl | (simp only [hu]; exact rfl)) rfl (by simp) rfl)
             | exact hK _ _ _ (SL.Chg.refl _ _) rfl rfl (by simp) rfl)
        | skip
      · refine SLG.ob_sp rfl rfl rfl fun us w' Fe hG hu hd Kx hK => ?_
        try dsimp only
        simp [SL.Used, SL.pu, SL.row, SL.box, SL.rowIn, SL.boxIn, SL.boxAt, SL.boxAtIn, SLF.pq, Act.put, SL.aw_sub, SL.aw_use, SL.aw_eat, SL.aw_V, SL.aw_quiet] at hu
        have hB5 : Below w1.heap.size w1 w' := hG.below'
        obtain ⟨hc5, hf5⟩ := bcell hB5
        have hs5 := hB5.size
        refine SLF.wpo_do (SLF.wanted_free rfl) ?hd1 ?_
        case hd1 => intro c h; cases h
        go_step
        refine (hS _ (hby.below hB5)).mono ?_
        rintro e w6 ⟨a1, ca, f1, cf, rfl, hb6, ho6⟩
        simp only [HSL.out]
        exact hK _ _ w6 _ (by simp [Act.put]; done) (.of_below hb6) (SL.aw_in ⟨((a1, ca), (f1, cf)), _, _, ⟨rfl, rfl⟩, ⟨ho6.base hs5, rfl⟩, rfl⟩) (fun j hj => .inr (ho6.bounds j hj))
      · refine SLG.ob_sp rfl rfl rfl fun us w' Fe hG hu hd Kx hK => ?_
        try dsimp only
        simp [SL.Used, SL.pu, SL.row, SL.box, SL.rowIn, SL.boxIn, SL.boxAt, SL.boxAtIn, SLF.pq, Act.put, SL.aw_sub, SL.aw_use, SL.aw_eat, SL.aw_V, SL.aw_quiet] at hu
        have hB5 : Below w1.heap.size w1 w' := hG.below'
        obtain ⟨hc5, hf5⟩ := bcell hB5
        have hs5 := hB5.size
        refine SLF.wpo_do (SLF.wanted_free rfl) ?hd1 ?_
        case hd1 => intro c h; cases h
        obtain ⟨⟨e17, _⟩, h2⟩ := hu
        obtain ⟨⟨⟨a1, ca⟩, ⟨f1, cf⟩⟩, F1, F2, ⟨hx, rfl⟩, ⟨hos, rfl⟩, hF⟩ := SL.aw_out h2
        simp only at hx
        have Ht := Lib.hid (tabZ (.string ware) (.int .i64 lim) (.int .i64 byr) (.slice a ps.length cap) (.slice a1 ps.length ca) (.slice f1 ps.length cf))
        go_step
        exact hK _ _ _ _ (by simp [Act.put]; done) (SL.Chg.refl _ _) (SL.aw_in ⟨((a1, ca), (f1, cf)), _, _, _, ⟨⟨rfl, Ht.out⟩, rfl⟩, ⟨hos, rfl⟩, rfl⟩) (fun j hj => .inl (by simp [SL.aw_eat, hF]; exact hj))
      · refine SLG.ob_sp rfl rfl rfl fun us w' Fe hG hu hd Kx hK => ?_
        try dsimp only
        simp [SL.Used, SL.pu, SL.row, SL.box, SL.rowIn, SL.boxIn, SL.boxAt, SL.boxAtIn, SLF.pq, Act.put, SL.aw_sub, SL.aw_use, SL.aw_eat, SL.aw_V, SL.aw_quiet] at hu
        have hB5 : Below w1.heap.size w1 w' := hG.below'
        obtain ⟨hc5, hf5⟩ := bcell hB5
        have hs5 := hB5.size
        refine SLF.wpo_do (SLF.wanted_free rfl) ?hd1 ?_
        case hd1 => intro c h; cases h
        obtain ⟨⟨⟨a1, ca⟩, ⟨f1, cf⟩⟩, cs, F1, F2, ⟨⟨hx, ht⟩, rfl⟩, ⟨hos, rfl⟩, hF⟩ := SL.aw_out hu
        have Ht := Lib.hid ht
        clear ht
        go_step
        have hal := one_alloc w' (Obj.cells cs 87)
        refine hK _ _ _ _ (by simp [Act.put]; done) (.alloc _ _ _) (SL.aw_in ⟨((a1, ca), (f1, cf)), cs, w'.heap.size, _, _, ⟨⟨rfl, Ht.out⟩, rfl⟩, ⟨_, _, ⟨hs5, World.alloc_heap_new _ _, rfl⟩, ⟨hos.up hal, rfl⟩, fun j hj hn => ?_, rfl⟩, rfl⟩) (fun j hj => ?_)
        · simp only [List.mem_singleton] at hj
          subst hj
          have := (hos.bounds _ hn).2
          omega
        · simp [SL.aw_eat, hF] at hj ⊢
          rcases hj with rfl | hj
          · right; exact ⟨Nat.le_refl _, Nat.lt_succ_self _⟩
          · exact .inl hj
      · refine SLG.ob_sp rfl rfl rfl fun us w' Fe hG hu hd Kx hK => ?_
        try dsimp only
        simp [SL.Used, SL.pu, SL.row, SL.box, SL.rowIn, SL.boxIn, SL.boxAt, SL.boxAtIn, SLF.pq, Act.put, SL.aw_sub, SL.aw_use, SL.aw_eat, SL.aw_V, SL.aw_quiet] at hu
        have hB5 : Below w1.heap.size w1 w' := hG.below'
        obtain ⟨hc5, hf5⟩ := bcell hB5
        have hs5 := hB5.size
        refine SLF.wpo_do (SLF.wanted_free rfl) ?hd1 ?_
        case hd1 => intro c h; cases h
        obtain ⟨⟨⟨a1, ca⟩, ⟨f1, cf⟩⟩, cs, N, F1, F2, ⟨⟨hx, ht⟩, rfl⟩, h2, hF⟩ := SL.aw_out hu
        have Ht := Lib.hid ht
        clear ht
        go_step
        exact hK _ _ _ _ (by simp [Act.put]; done) (SL.Chg.refl _ _) (SL.aw_in ⟨((a1, ca), (f1, cf)), cs, N, _, _, ⟨⟨hx, Ht.out⟩, rfl⟩, h2, rfl⟩) (fun j hj => .inl (by simp [SL.aw_eat, hF]; exact hj))
    case hck1 => kernel_rfl
    case hkp1 => kernel_rfl
    intro us w5 Fs hG hu hbd hd
    simp [SL.Used, SL.aw_sub] at hu
    obtain ⟨⟨⟨a1, ca⟩, ⟨f1, cf⟩⟩, cs, N, F1, F2, ⟨⟨e7, ht⟩, rfl⟩, ⟨F3, F4, ⟨hN, hbk, rfl⟩, ⟨hos, rfl⟩, hnb, rfl⟩, _⟩ := SL.aw_out hu
    have hB5 : Below w1.heap.size w1 w5 := hG.below'
    simp only at ht hos hnb
    have hnb' : N ∉ OwnSp.blocks a1 ca f1 cf s.length := hnb N (by simp)
    have htr : TabRel N ⟨ware, lim, byr, a, cap, ps⟩ a1 ca f1 cf 0 0 w5 := ⟨cs, hbk, ht, fun i q h => by omega⟩
    have hNl : N < w5.heap.size := (Array.getElem?_eq_some_iff.1 hbk).1
    have c3' := ((bcell hB5).1 _ 3 hz1).trans c3
    clear hu hbd hd hG hbk ht hnb
    simp only [e7]
    go_wp2_with fail
    go_loopw [25] (fun i wr => ∃ k : Nat, k ≤ ps.length ∧ i = .int .i64 k ∧ Below w1.heap.size w1 wr ∧ N < wr.heap.size ∧ OwnSp wr w1.heap.size a1 ca f1 cf s ∧ TabRel N ⟨ware, lim, byr, a, cap, ps⟩ a1 ca f1 cf k 0 wr) (fun i _ => ps.length - (RowKit.intOf i).toNat)
    case atStart => exact ⟨0, Nat.zero_le _, rfl, hB5, hNl, hos, htr⟩
    case round =>
      obtain ⟨k, hk, rfl, hB, hNr, hosr, htk⟩ := hrel
      have hnn : (0 : Int) ≤ k := by omega
      have c3r := ((bcell hB).1 _ 3 hz1).trans c3
      by_cases hlt : k < ps.length
      · have i1 : (k : Int) < (ps.length : Int) := by omega
        go_wp2_with fail
        go_loopw [31] (fun i wr => ∃ j : Nat, j ≤ ps.length ∧ i = .int .i64 j ∧ Below w1.heap.size w1 wr ∧ N < wr.heap.size ∧ OwnSp wr w1.heap.size a1 ca f1 cf s ∧ TabRel N ⟨ware, lim, byr, a, cap, ps⟩ a1 ca f1 cf k j wr) (fun i _ => ps.length - (RowKit.intOf i).toNat)
        case atStart => exact ⟨0, Nat.zero_le _, rfl, hB, hNr, hosr, htk⟩
        case round =>
          obtain ⟨j, hj, rfl, hBj, hNj, hosj, ⟨cs, hbk, htc, hcl⟩⟩ := hrel
          have hjn : (0 : Int) ≤ j := by omega
          by_cases hjl : j < ps.length
          · have j1 : (j : Int) < (ps.length : Int) := by omega
            have j2 : (j : Int) < 40 := by omega
            have j3 : (k : Int) < 40 := by omega
            have Hcl := Lib.hid hcl
            have Htc := Lib.hid htc
            have t4 := htc.h4
            have t5 := htc.h5
            have hq : 6 + k * 40 + j < 1606 := by omega
            have hsz : 6 + k * 40 + j < cs.size := by rw [htc.size]; exact hq
            obtain ⟨ob, hob⟩ := htc.hb (6 + k * 40 + j) (by omega) hq
            simp only at t4 t5
            have hKc := fun w2 (h : OwnSp w2 w1.heap.size a1 ca f1 cf s) => wclash a1 ca f1 cf s.length s k j w2 (h.spans (by rw [HSL.out]; omega)) (by rw [HSL.out]; omega) (by rw [HSL.out]; omega)
            unfold spV at hKc
            obtain ⟨B, hBv⟩ : ∃ B, clB s k j = B := ⟨_, rfl⟩
            have HB := Lib.hid hBv
            rw [hBv, HSL.out] at hKc
            clear hcl htc hBv htk
            go_wp2_with fail
            apply SLG.rule0 ?hm2 [N] [34, 35, 36, 37, 38, 39, 40, 41, 42, 43, 44, 45, 46, 47] [SLF.pq 34 [] _, SLF.pq 35 [] _, SLF.pq 36 [] _, SLF.pq 37 [] _, SLF.pq 38 [3] _, SLF.pq 39 [4] _, SL.pu 40 [5, 15] (.agg #[.slice a1 ps.length ca, .slice f1 ps.length cf]), SLF.pq 41 [] _, SLF.pq 42 [] _, SL.pu 43 [6, 7, 8] (.bool B), SLF.pq 44 [0] _, SLF.pq 45 [10] _, SLF.pq 46 [1, 11] _, SLF.pq 47 [2, 12] _, SL.aw 0 [9, 13, 15] [15] (fun _ => .blk 0 N 87 (cs.setIfInBounds (6 + k * 40 + j) (.bool B))), SL.blk [] [] N 87 cs] [14] ?hck2 ?hkp2 (fun i => if i = 15 then [N] else []) ?hin2 ?hdj2 ?hfr2 ?ob2 ?en2
            case hm2 => kernel_rfl
            case hin2 => exact SL.one_held rfl rfl ⟨hbk, rfl⟩ hNj
            case hdj2 => exact SL.one_apart
            case hfr2 => intro us; simp only [SL.frame, SL.put']; simp; exact rfl
            case ob2 =>
              refine ⟨?_, ?_, ?_, ?_, ?_, ?_, ?_, ?_, ?_, ?_, ?_, ?_, ?_, ?_, ?_, trivial⟩
              all_goals first
                | (intro us w' Fe hG hu hd hv Kx hK
                   try dsimp only
                   simp [SL.Used, SL.pu, SL.row, SL.box, SL.rowIn, SL.boxIn, SL.boxAt, SL.boxAtIn, SLF.pq, Act.put, SL.aw_sub, SL.aw_use, SL.aw_eat, SL.aw_V, SL.aw_quiet, SL.blk] at hu hK
                   have hB5 : Below w1.heap.size w1 w' := hBj.trans (hG.belowF hBj.size (by simp; omega))
                   obtain ⟨hc5, hf5⟩ := bcell hB5
                   have hs5 := hB5.size
                   obtain ⟨hc6, hf6⟩ := hG.cellsF
                   clear hv
                   refine SLF.wpo_do (SLF.wanted_free rfl) ?hd2 ?_
                   case hd2 => intro c h; cases h
                   clear hd
                   first
                     | (go_step; exact hK _ _ _ (SL.Chg.refl _ _) (by first | exact rfl | (simp only [hu]; exact rfl)) rfl (by simp) rfl)
                     | exact hK _ _ _ (SL.Chg.refl _ _) rfl rfl (by simp) rfl)
                | skip
              · refine SLG.ob_sp rfl rfl rfl fun us w' Fe hG hu hd Kx hK => ?_
                try dsimp only
                simp [SL.Used, SL.pu, SL.row, SL.box, SL.rowIn, SL.boxIn, SL.boxAt, SL.boxAtIn, SLF.pq, Act.put, SL.aw_sub, SL.aw_use, SL.aw_eat, SL.aw_V, SL.aw_quiet, SL.blk] at hu
                have hB5 : Below w1.heap.size w1 w' := hBj.trans (hG.belowF hBj.size (by simp; omega))
                obtain ⟨hc5, hf5⟩ := bcell hB5
                have hs5 := hB5.size
                obtain ⟨hc6, hf6⟩ := hG.cellsF
                refine SLF.wpo_do (SLF.wanted_free rfl) ?hd2 ?_
                case hd2 => intro c h; cases h
                obtain ⟨⟨e39, _⟩, hb', _⟩ := hu
                have k4 := ((SL.cells_of hb').1 4).trans t4
                have k5 := ((SL.cells_of hb').1 5).trans t5
                go_step
                exact hK _ _ _ [] (by simp [Act.put]; done) (SL.Chg.refl _ _) ⟨rfl, rfl⟩ (fun j hj => by cases hj)
              · refine SLG.ob_sp rfl rfl rfl fun us w' Fe hG hu hd Kx hK => ?_
                try dsimp only
                simp [SL.Used, SL.pu, SL.row, SL.box, SL.rowIn, SL.boxIn, SL.boxAt, SL.boxAtIn, SLF.pq, Act.put, SL.aw_sub, SL.aw_use, SL.aw_eat, SL.aw_V, SL.aw_quiet, SL.blk] at hu
                have hB5 : Below w1.heap.size w1 w' := hBj.trans (hG.belowF hBj.size (by simp; omega))
                obtain ⟨hc5, hf5⟩ := bcell hB5
                have hs5 := hB5.size
                obtain ⟨hc6, hf6⟩ := hG.cellsF
                refine SLF.wpo_do (SLF.wanted_free rfl) ?hd2 ?_
                case hd2 => intro c h; cases h
                have hos' : OwnSp w' w1.heap.size a1 ca f1 cf s := hosj.stab fun b hb => hG.block b (hosj.bounds b hb).2 (fun h => by simp at h; subst h; exact hnb' hb)
                go_step
                refine (hKc _ hos').mono ?_
                rintro e w7 ⟨rfl, hb7⟩
                exact hK _ _ w7 [] (by simp [Act.put]; done) (.of_below hb7) ⟨rfl, rfl⟩ (fun j hj => by cases hj)
              · refine SLG.ob_no rfl rfl rfl fun us w' Fe hG hu hd Kx hK => ?_
                try dsimp only
                simp [SL.Used, SL.pu, SL.row, SL.box, SL.rowIn, SL.boxIn, SL.boxAt, SL.boxAtIn, SLF.pq, Act.put, SL.aw_sub, SL.aw_use, SL.aw_eat, SL.aw_V, SL.aw_quiet, SL.blk] at hu
                have hB5 : Below w1.heap.size w1 w' := hBj.trans (hG.belowF hBj.size (by simp; omega))
                obtain ⟨hc5, hf5⟩ := bcell hB5
                have hs5 := hB5.size
                obtain ⟨hc6, hf6⟩ := hG.cellsF
                refine SLF.wpo_do (SLF.wanted_free rfl) ?hd2 ?_
                case hd2 => intro c h; cases h
                obtain ⟨⟨e43, _⟩, ⟨e47, _⟩, hb', e15⟩ := hu
                have kq := ((SL.cells_of hb').1 (6 + k * 40 + j)).trans hob
                have kf := (SL.cells_of hb').2
                have kl : N < w'.heap.size := (Array.getElem?_eq_some_iff.1 hb').1
                go_step
                exact hK _ _ (.setCell _ (by simp [SL.aw_eat, e15]) _) (SL.aw_in ⟨Nat.zero_le _, SL.heap_set hb' _, rfl⟩) (fun q hq => .inl (by simpa [SL.aw_eat, e15] using hq))
            case hck2 => kernel_rfl
            case hkp2 => kernel_rfl
            intro us w6 Fs hG hu hbd hd
            simp [SL.Used, SL.aw_sub] at hu
            obtain ⟨_, hb6, _⟩ := SL.aw_out hu
            have hB6 : Below w1.heap.size w1 w6 := hBj.trans (hG.belowF hBj.size (by simp; omega))
            have hN6 : N < w6.heap.size := (Array.getElem?_eq_some_iff.1 hb6).1
            have hos6 : OwnSp w6 w1.heap.size a1 ca f1 cf s := hosj.stab fun b hb => hG.block b (hosj.bounds b hb).2 (fun h => by simp at h; subst h; exact hnb' hb)
            have hT6 : TabRel N ⟨ware, lim, byr, a, cap, ps⟩ a1 ca f1 cf k (j + 1) w6 := by
              refine ⟨_, hb6, Htc.out.set (by omega) _, fun i q h hq => ?_⟩
              simp only at hq
              by_cases e : i = k ∧ q = j
              · obtain ⟨rfl, rfl⟩ := e
                rw [tsame hsz, ← HB.out, ← Hs.out]
              · rw [tget (by omega)]
                exact Hcl.out i q (by omega) hq
            clear hu hbd hd hG t4 t5 hob
            go_wp2_with fail
            go_roundw
            case rel => exact ⟨j + 1, by omega, by go_num, hB6, hN6, hos6, hT6⟩
            case measure => simp [RowKit.intOf]; omega
          · have hj2 : j = ps.length := by omega
            subst hj2
            go_wp2_with fail
            go_roundw
            case rel => exact ⟨k + 1, by omega, by go_num, hBj, hNj, hosj, cs, hbk, htc, fun i q h hq => hcl i q (by simp only at hq; omega) hq⟩
            case measure => simp [RowKit.intOf]; omega
      · have hk2 : k = ps.length := by omega
        subst hk2
        have hBr := hBW.ch2 hB
        have hT' : TabAt wr N ⟨ware, lim, byr, a, cap, ps⟩ a1 ca f1 cf := ⟨hc.below hBr, by
          have := hosr.spans (by rw [HSL.out]; omega)
          rw [HSL.out] at this
          show SpansAt wr a1 ca f1 cf ps.length _
          rw [Hs.out]; exact this, htk, by have := owns_room hosr.at_; rw [HSL.out] at this; exact this, by have := owns_room hosr.ft; rw [HSL.out] at this; exact this⟩
        have HP1 := Lib.hid (fun h0 : Cs.ask ⟨ware, lim, byr, a, cap, ps⟩ l = 0 => hP.out _ _ ⟨fun h => absurd h0 h, fun _ => ⟨N, a1, ca, f1, cf, rfl, hBr, by have := hBW.size; omega, hT'⟩⟩)
        have HP2 := Lib.hid (fun h1 : Cs.ask ⟨ware, lim, byr, a, cap, ps⟩ l = 1 => hP.out (.returned (.tuple #[.pointer none, .int .i64 1])) wr ⟨fun h => ⟨by rw [h1], hBr⟩, fun h => by rw [h1] at h; omega⟩)
        have hlr := hl.below hBr
        clear hT' htk hosr hP
        go_wp2_with fail
        go_loop [52] (fun i => ∃ k : Nat, k ≤ l.length ∧ i = .int .i64 k ∧ inL ps.length (l.take k) = true) (fun i => l.length - (RowKit.intOf i).toNat)
        case atStart => exact ⟨0, Nat.zero_le _, rfl, rfl⟩
        case round =>
          obtain ⟨k, hk, rfl, hall⟩ := hrel
          have Hall := Lib.hid hall
          clear hall
          have hkn : (0 : Int) ≤ k := by omega
          by_cases hlt : k < l.length
          · have i1 : (k : Int) < (l.length : Int) := by omega
            obtain ⟨b, o, rfl, _, d0⟩ := hlr.get hlt
            have Hsu := Lib.hid (inL_take (n := ps.length) hlt)
            have Hp := Lib.hid (@inL_pre ps.length (k + 1) l)
            generalize l.getD k 0 = x at *
            have hW := fun w2 => wwithin_any x 0 ((ps.length : Int) - 1) w2
            cases hx : withinB x 0 ((ps.length : Int) - 1)
            · simp only [hx] at hW
              have Hf := Lib.hid (HP2.out (by rw [hEE.out, Hp.out (by rw [Hsu.out, hx]; simp)]; rfl))
              clear hx
              go_wp2_with (go_at_call 100; (with_reducible refine (hW _).mono ?_); rintro e w2 ⟨rfl, rfl⟩)
              exact Hf.out
            · simp only [hx] at hW
              have Hx := Lib.hid hx
              clear hx
              go_wp2_with (go_at_call 100; (with_reducible refine (hW _).mono ?_); rintro e w2 ⟨rfl, rfl⟩)
              go_round
              case rel => exact ⟨k + 1, by omega, by go_num, by rw [Hsu.out, Hall.out, Hx.out]; rfl⟩
              case measure => simp [RowKit.intOf]; omega
          · rw [List.take_of_length_le (by omega)] at Hall
            have Hf := Lib.hid (HP1.out (by rw [hEE.out, Hall.out]; rfl))
            go_wp2_with fail
            exact Hf.out
  · rw [if_neg h0] at he
    generalize c.ask l = E at *
    subst he
    have h2 : (c.chk != 0) = true := by simpa using h0
    have hQ := Lib.hid (show ∀ w', Below w.heap.size w w' → Post (.returned (.tuple #[.pointer none, .int .i64 c.chk])) w' from fun w' hb => hP.out _ _ ⟨fun _ => ⟨rfl, hb⟩, fun h => absurd h h0⟩)
    clear hP h0
    generalize c.chk = E at *
    obtain ⟨ware, lim, byr, a, cap, ps⟩ := c
    simp only [Cs.v] at *
    have hB0 := one_alloc w (Obj.cells #[.string ware, .int .i64 lim, .int .i64 byr, .slice a ps.length cap] 24)
    have hbx := hc.below hB0
    go_enter Tryz.func75, Tryz.ntmps75
    go_wp2_with (go_at_call 58; (with_reducible refine (hC _ hbx).mono ?_); rintro e w1 ⟨rfl, hb1⟩)
    exact hQ.out _ (hB0.ch2 hb1)
theorem TabAt.lt {w : World} {N : Nat} {c : Cs} {a f : Option Addr} {ca cf : Nat} (h : TabAt w N c a ca f cf) : N < w.heap.size := by
  obtain ⟨cs, hb, _, _⟩ := h.tab.ex
  exact (Array.getElem?_eq_some_iff.1 hb).1
theorem TabAt.below {w w' : World} {N : Nat} {c : Cs} {a f : Option Addr} {ca cf : Nat} (h : TabAt w N c a ca f cf) (hb : Below w.heap.size w w') : TabAt w' N c a ca f cf := by
  refine ⟨h.cs.below hb, h.sp.below hb, ?_, h.room⟩
  obtain ⟨cs, h1, h2, h3⟩ := h.tab.ex
  exact ⟨cs, (hb.block _ h.lt).trans h1, h2, h3⟩
theorem TabAt.get {w : World} {N : Nat} {c : Cs} {a f : Option Addr} {ca cf : Nat} (h : TabAt w N c a ca f cf) : w.cell? ⟨N, 0, none⟩ = some (.string c.ware) ∧ w.cell? ⟨N, 1, none⟩ = some (.int .i64 c.lim) ∧ w.cell? ⟨N, 2, none⟩ = some (.int .i64 c.byr) ∧
    w.cell? ⟨N, 3, none⟩ = some (.slice c.a c.ps.length c.cap) ∧ w.cell? ⟨N, 4, none⟩ = some (.slice a c.ps.length ca) ∧ w.cell? ⟨N, 5, none⟩ = some (.slice f c.ps.length cf) := by
  obtain ⟨cs, h1, h2, h3⟩ := h.tab.ex
  have k := (SL.cells_of h1).1
  exact ⟨(k 0).trans h2.h0, (k 1).trans h2.h1, (k 2).trans h2.h2, (k 3).trans h2.h3, (k 4).trans h2.h4, (k 5).trans h2.h5⟩
theorem TabAt.clash {w : World} {N : Nat} {c : Cs} {a f : Option Addr} {ca cf : Nat} (h : TabAt w N c a ca f cf) {i j : Nat} (hi : i < c.ps.length) (hj : j < c.ps.length) : w.cell? ⟨N, 6 + i * 40 + j, none⟩ = some (.bool (clB c.s i j)) := by
  obtain ⟨cs, h1, h2, h3⟩ := h.tab.ex
  exact ((SL.cells_of h1).1 _).trans (h3 i j (.inl hi) hj)
theorem wClash (c : Cs) (x y : Int) (w : World) (hc : CsAt w c) :
    Calls Tryz.prog 51 #[c.v, .int .i64 x, .int .i64 y] w fun e w' => e = .returned (.tuple #[.bool (decide (c.ask [x, y] = 0) && clB c.s x.toNat y.toNat), .int .i64 (c.ask [x, y])]) ∧ Below w.heap.size w w' := by
  have hC := fun w1 a2 n2 c2 (h : CsAt w1 c) (hl : IntsAt w1 a2 n2 c2 [x, y]) => wlaid c a2 n2 c2 [x, y] w1 h hl
  have hz := @Cs.ask_zero c [x, y]
  have hcl := fun w1 N a ca f cf i j (h : TabAt w1 N c a ca f cf) hi hj => @TabAt.clash w1 N c a f ca cf h i j hi hj
  unfold LaidPost at hC
  generalize c.ask [x, y] = E at *
  generalize c.s = s at *
  obtain ⟨ware, lim, byr, a, cap, ps⟩ := c
  simp only [Cs.v] at *
  have hB0 := one_alloc w (Obj.cells #[.string ware, .int .i64 lim, .int .i64 byr, .slice a ps.length cap] 24)
  have hbx := hc.below hB0
  by_cases h0 : E = 0
  · subst h0
    obtain ⟨hok, hi⟩ := hz rfl
    obtain ⟨X, rfl⟩ : ∃ X : Nat, x = X := ⟨x.toNat, by have := hi x (by simp); omega⟩
    obtain ⟨Y, rfl⟩ : ∃ Y : Nat, y = Y := ⟨y.toNat, by have := hi y (by simp); omega⟩
    have hX : X < ps.length := by have := hi X (by simp); omega
    have hY : Y < ps.length := by have := hi Y (by simp); omega
    have hmany : ps.length ≤ 40 := hok.many
    have x1 : (X : Int) < 40 := by omega
    have y1 : (Y : Int) < 40 := by omega
    have x0 : (0 : Int) ≤ X := by omega
    have y0 : (0 : Int) ≤ Y := by omega
    simp only [Int.toNat_natCast, ne_eq, not_true, false_implies, true_and, true_implies] at hC ⊢
    clear hz hok hi
    go_enter Tryz.func51, Tryz.ntmps51
    go_wp2_with (go_at_call 75; refine (hC _ _ _ _ (hbx.below (one_alloc _ _)) (lit2b _ _ _ _)).mono ?_; rintro e w1 ⟨N, a1, ca, f1, cf, rfl, hb1, hN, hT⟩; have c1 := hcl _ _ _ _ _ _ X Y hT hX hY; have hNl := hT.lt)
    go_ret2
    exact ⟨by simp, (hB0.ch2 (one_alloc _ _)).ch2 hb1⟩
  · have h2 : (E != 0) = true := by simpa using h0
    have hd : decide (E = 0) = false := by simpa using h0
    rw [hd]
    have hC2 := fun w1 a2 n2 c2 h hl => (hC w1 a2 n2 c2 h hl).mono fun e w' hh => hh.1 h0
    clear hd hz h0 hC hcl
    go_enter Tryz.func51, Tryz.ntmps51
    go_wp2_with (go_at_call 75; refine (hC2 _ _ _ _ (hbx.below (one_alloc _ _)) (lit2b _ _ _ _)).mono ?_; rintro e w1 ⟨rfl, hb1⟩)
    go_ret2
    exact ⟨rfl, (hB0.ch2 (one_alloc _ _)).ch2 hb1⟩
theorem wpicked (c : Cs) (N : Nat) (a : Option Addr) (ca : Nat) (f : Option Addr) (cf : Nat) (k : Nat) (caps : Array Value) (g : Nat → Bool) (w : World) (ht : TabAt w N c a ca f cf) (hm : c.ps.length ≤ 1000)
    (hent : ∀ args w, (callFunc k args).run Tryz.prog w = .ok (.enter k args) w)
    (hf : ∀ i : Nat, i < c.ps.length → ∀ w1, Below w.heap.size w w1 → Calls Tryz.prog k (#[.int .i64 i] ++ caps) w1 fun e w' => e = .returned (.bool (g i)) ∧ Below w1.heap.size w1 w') :
    Calls Tryz.prog 81 #[.pointer (some ⟨N, 0, none⟩), .func (.func k) #[] caps] w fun e w' => ∃ v, e = .returned v ∧ Below w.heap.size w w' ∧ w'.ownsRow w.heap.size 3 1 v (pickL g c.ps.length).length ((pickL g c.ps.length).map (.int .i64)) := by
  obtain ⟨c0, c1, c2, c3, c4, c5⟩ := ht.get
  have hN := ht.lt
  clear c0 c1 c2 c4 c5
  generalize c.ps.length = n at *
  go_enter Tryz.func81, Tryz.ntmps81
  go_wp2_with fail
  go_loopw [5, 13] (fun o i wr => ∃ j : Nat, j ≤ n ∧ i = .int .i64 j ∧ Below w.heap.size w wr ∧ wr.ownsRow w.heap.size 3 1 o (pickL g j).length ((pickL g j).map (.int .i64))) (fun _ i _ => n - (RowKit.intOf i).toNat)
  case atStart => exact ⟨0, Nat.zero_le _, rfl, Below.refl _ _, World.ownsRow_nil _ _ _ _⟩
  case round =>
    obtain ⟨j, hj, rfl, hB, hown⟩ := hrel
    have hnn : (0 : Int) ≤ j := by omega
    by_cases hlt : j < n
    · have i1 : (j : Int) < (n : Int) := by omega
      have Hs := Lib.hid (pickL_succ g j)
      have hL := pickL_len g j
      generalize pickL g j = L at *
      have hfj := hf j hlt wr hB
      cases hg : g j
      · rw [hg] at hfj
        have Hg := Lib.hid hg
        clear hg
        go_wp2_with fail
        refine hfj.mono ?_
        rintro e w2 ⟨rfl, hb2⟩
        go_wp2_with fail
        go_roundw
        case rel => exact ⟨j + 1, by omega, by go_num, hB.ch2 hb2, by rw [Hs.out, Hg.out]; simpa using hown.up hb2 (Nat.le_refl _)⟩
        case measure => simp [RowKit.intOf]; omega
      · rw [hg] at hfj
        have Hg := Lib.hid hg
        clear hg
        go_wp2_with fail
        refine hfj.mono ?_
        rintro e w2 ⟨rfl, hb2⟩
        have hO := (hown.up hb2 (Nat.le_refl _)).up (one_alloc w2 (Obj.cells #[.int .i64 j] 3)) (Nat.le_refl _)
        go_wp2_with (at_builtin; refine wpList_app elemI rfl _ _ rfl hO rfl rfl (RowAt.of_heap (World.alloc_heap_new w2 _)) rfl (ones_int [(j : Int)]) (by unfold maxLen; omega) (by omega) (by have := hB.size; have := hb2.size; simp; omega) ?_)
        intro v' w3 ho hg3 hb3 _ _
        go_wp2
        go_roundw
        case rel => exact ⟨j + 1, by omega, by go_num, (hB.ch2 hb2).trans (((one_alloc w2 _).mono (by have := hB.size; have := hb2.size; omega)).trans hb3), by rw [Hs.out, Hg.out]; simpa using ho⟩
        case measure => simp [RowKit.intOf]; omega
    · have hj2 : j = n := by omega
      subst hj2
      go_wp2_with fail
      go_ret
      exact ⟨_, rfl, hB, hown⟩
theorem makeFuncW (fn : Fn) (first cap : Array Value) (w : World) : (Instr.makeFunc fn first cap).run Tryz.prog w = .ok (.func fn first cap) w := rfl
theorem any_oneM {s : List Pn} {l : List Int} {k : Nat} (hk : k < l.length) : ∀ m, m ≤ k → ((l.take m).any fun b => clB s (l.getD k 0).toNat b.toNat) = !oneM s (natL l) k m
  | 0, _ => by simp [oneM]
  | m + 1, h => by
    have ih := any_oneM (s := s) hk m (by omega)
    rw [any_take (by omega), oneM_succ, ih, natL_get hk, natL_get (show m < l.length by omega), getI (show m < l.length by omega), Bool.not_and, Bool.not_not]
theorem wone1 (a : Option Addr) (ca : Nat) (f : Option Addr) (cf n : Nat) (s : List Pn) (X b SB AB : Nat) (w : World) (hs : SpansAt w a ca f cf n s) (hX : X < s.length) (hb : b < s.length)
    (h1 : w.cell? ⟨SB, 0, none⟩ = some (.slice a n ca)) (h1' : w.cell? ⟨SB, 1, none⟩ = some (.slice f n cf)) (h2 : w.cell? ⟨AB, 0, none⟩ = some (.int .i64 X)) :
    Calls Tryz.prog 134 #[.int .i64 b, .pointer (some ⟨SB, 0, none⟩), .pointer (some ⟨AB, 0, none⟩)] w fun e w' => e = .returned (.bool (clB s X b)) ∧ Below w.heap.size w w' := by
  have hK := wclash a ca f cf n s X b w hs hX hb
  unfold spV at *
  generalize clB s X b = B at *
  go_enter Tryz.func134, Tryz.ntmps134
  go_wp2_with fail
  refine hK.mono ?_
  rintro e w2 ⟨rfl, hb2⟩
  go_wp2_with fail
  go_ret
  exact ⟨rfl, hb2⟩
theorem IntsAt.take {w : World} {a : Option Addr} {n cap : Nat} {l : List Int} (h : IntsAt w a n cap l) {k : Nat} (hk : k ≤ l.length) (ha : a ≠ none) : IntsAt w a k cap (l.take k) :=
  ⟨by simp; omega, by have := h.small; simp; omega, by rw [List.map_take]; exact rowTake h.row k cap (fun e => absurd e ha)⟩
theorem wone (a : Option Addr) (ca : Nat) (f : Option Addr) (cf n : Nat) (s : List Pn) (al : Option Addr) (m cl : Nat) (l : List Int) (w : World) (hs : SpansAt w a ca f cf n s) (hl : IntsAt w al m cl l) (hroom : l.length ≤ cl) (hin : ∀ x ∈ l, 0 ≤ x ∧ x < s.length) :
    Calls Tryz.prog 97 #[spV a ca f cf n, .slice al m cl] w fun e w' => e = .returned (.bool (oneB s (natL l))) ∧ Below w.heap.size w w' := by
  have hR : oneB s (natL l) = oneN s (natL l) l.length := by rw [oneB_N]; simp [natL]
  rw [hR]
  clear hR
  obtain rfl := hl.len
  obtain rfl := hs.len
  have hls := hl.small
  have hent : ∀ args w, (callFunc 134 args).run Tryz.prog w = .ok (.enter 134 args) w := enters_of Tryz.func134 (by kernel_rfl) rfl
  have hmk := makeFuncW
  unfold spV
  have hB0 := one_alloc w (Obj.cells #[.slice a s.length ca, .slice f s.length cf] 83)
  obtain ⟨T, hT⟩ : ∃ T, oneN s (natL l) l.length = T := ⟨_, rfl⟩
  rw [hT]
  have HT := Lib.hid hT
  clear hT
  go_enter Tryz.func97, Tryz.ntmps97
  go_wp2_with fail
  go_loopw [9] (fun i wr => ∃ k : Nat, k ≤ l.length ∧ i = .int .i64 k ∧ Below (w.heap.size + 1) (w.alloc (Obj.cells #[.slice a s.length ca, .slice f s.length cf] 83)) wr ∧ oneN s (natL l) k = true) (fun i _ => l.length - (RowKit.intOf i).toNat)
  case atStart => exact ⟨0, Nat.zero_le _, rfl, Below.refl _ _, rfl⟩
  case round =>
    obtain ⟨k, hk, rfl, hB', hall⟩ := hrel
    have hB : Below w.heap.size w wr := hB0.trans (hB'.mono (by omega))
    have Hall := Lib.hid hall
    clear hall
    have hnn : (0 : Int) ≤ k := by omega
    by_cases hlt : k < l.length
    · have i1 : (k : Int) < (l.length : Int) := by omega
      have i2 : (k : Int) ≤ (cl : Int) := by omega
      have i3 : (k : Int) ≤ (l.length : Int) := by omega
      obtain ⟨b, o, rfl, hbl, d0⟩ := (hl.below hB).get hlt
      have Hsu := Lib.hid (oneN_succ s (natL l) k)
      have Hpre := Lib.hid (@oneN_pre s (natL l) (k + 1) l.length (by omega))
      have Ham := Lib.hid (any_oneM (s := s) hlt k (Nat.le_refl _))
      have hx := hin _ (mem_getD hlt)
      obtain ⟨X, hX⟩ : ∃ X : Nat, l.getD k 0 = X := ⟨(l.getD k 0).toNat, by omega⟩
      rw [hX] at d0 hx Ham
      simp only [Int.toNat_natCast] at Ham
      have hXl : X < s.length := by omega
      clear hX hx
      have hsz : w.heap.size < wr.heap.size := by have := hB'.size; simp at this; omega
      have q0 : wr.cell? ⟨w.heap.size, 0, none⟩ = some (.slice a s.length ca) := by rw [(bcell hB').1 _ _ (by omega)]; simp [go_sem]
      have q1 : wr.cell? ⟨w.heap.size, 1, none⟩ = some (.slice f s.length cf) := by rw [(bcell hB').1 _ _ (by omega)]; simp [go_sem]
      have hal := one_alloc wr (Obj.cells #[.int .i64 X] 3)
      have r0 := ((bcell hal).1 _ 0 hsz).trans q0
      have r1 := ((bcell hal).1 _ 1 hsz).trans q1
      have r2 : (wr.alloc (Obj.cells #[.int .i64 X] 3)).cell? ⟨wr.heap.size, 0, none⟩ = some (.int .i64 X) := by simp [go_sem]
      have hsb := (hs.below hB).below hal
      have hcon := conF_any 134 #[.pointer (some ⟨w.heap.size, 0, none⟩), .pointer (some ⟨wr.heap.size, 0, none⟩)] (fun b => clB s X b.toNat) (some ⟨b, o, none⟩) k cl (l.take k) _ (((hl.below hB).below hal).take hk (by simp)) hent
        (fun y hy w3 h3 => by
          have hyy := hin y (List.mem_of_mem_take hy)
          obtain ⟨Y, rfl⟩ : ∃ Y : Nat, y = Y := ⟨y.toNat, by omega⟩
          exact wone1 a ca f cf _ s X Y _ _ w3 (hsb.below h3) hXl (by omega) (((bcell h3).1 _ _ (by simp; omega)).trans r0) (((bcell h3).1 _ _ (by simp; omega)).trans r1) (((bcell h3).1 _ _ (by simp)).trans r2))
      rw [Ham.out] at hcon
      clear r0 r1 r2 q0 q1 hsb
      cases hm : oneM s (natL l) k k
      · rw [hm] at hcon
        have Hf := Lib.hid (Hpre.out (by rw [Hsu.out, hm]; simp))
        clear hm
        go_wp2_with (go_at_call 116; (with_reducible refine hcon.mono ?_); rintro e w3 ⟨rfl, hb3⟩)
        go_ret
        exact ⟨ret_bool (by rw [← HT.out, Hf.out]), hB.ch2 (hal.ch2 hb3)⟩
      · rw [hm] at hcon
        have Hm := Lib.hid hm
        clear hm
        go_wp2_with (go_at_call 116; (with_reducible refine hcon.mono ?_); rintro e w3 ⟨rfl, hb3⟩)
        go_roundw
        case rel => exact ⟨k + 1, by omega, by go_num, hB'.trans ((hal.ch2 hb3).mono (by omega)), by rw [Hsu.out, Hall.out, Hm.out]; rfl⟩
        case measure => simp [RowKit.intOf]; omega
    · have hk2 : k = l.length := by omega
      subst hk2
      go_wp2_with fail
      go_ret
      exact ⟨ret_bool (by rw [← HT.out, Hall.out]), hB⟩
theorem wOne (c : Cs) (al : Option Addr) (m cl : Nat) (l : List Int) (w : World) (hc : CsAt w c) (hl : IntsAt w al m cl l) (hroom : l.length ≤ cl) :
    Calls Tryz.prog 49 #[c.v, .slice al m cl] w fun e w' => e = .returned (.tuple #[.bool (c.one l), .int .i64 (c.ask l)]) ∧ Below w.heap.size w w' := by
  have hC := fun w1 (h : CsAt w1 c) (hl : IntsAt w1 al m cl l) => wlaid c al m cl l w1 h hl
  have hz := @Cs.ask_zero c l
  have hr : c.one l = (decide (c.ask l = 0) && oneB c.s (natL l)) := rfl
  obtain rfl := hl.len
  unfold LaidPost at hC
  generalize c.one l = R at *
  generalize c.ask l = E at *
  by_cases h0 : E = 0
  · subst h0
    obtain ⟨hok, hi⟩ := hz rfl
    have hsl : c.s.length = c.ps.length := pns_len _
    have hO := fun w1 a ca f cf (hs : SpansAt w1 a ca f cf c.ps.length c.s) (h : IntsAt w1 al l.length cl l) => wone a ca f cf _ c.s al _ cl l w1 hs h hroom (fun x hx => by rw [hsl]; exact hi x hx)
    simp only [decide_true, Bool.true_and, ne_eq, not_true, false_implies, true_and, true_implies] at hC hr ⊢
    rw [← hr] at hO
    unfold spV at hO
    clear hz hok hi hr hsl
    obtain ⟨ware, lim, byr, a, cap, ps⟩ := c
    simp only [Cs.v] at *
    have hB0 := one_alloc w (Obj.cells #[.string ware, .int .i64 lim, .int .i64 byr, .slice a ps.length cap] 24)
    have hbx := hc.below hB0
    have hlx := hl.below hB0
    go_enter Tryz.func49, Tryz.ntmps49
    go_wp2_with (first
      | (go_at_call 75; (with_reducible refine (hC _ hbx hlx).mono ?_); rintro e w1 ⟨N, a1, ca, f1, cf, rfl, hb1, hN, hT⟩; obtain ⟨t0, t1, t2, t3, t4, t5⟩ := hT.get; have hNl := hT.lt)
      | (go_at_call 97; (with_reducible refine (hO _ _ _ _ _ hT.sp (hlx.below hb1)).mono ?_); rintro e w2 ⟨rfl, hb2⟩))
    go_ret2
    exact ⟨rfl, (hB0.ch2 hb1).ch2 hb2⟩
  · have h2 : (E != 0) = true := by simpa using h0
    have hd : decide (E = 0) = false := by simpa using h0
    rw [hd] at hr
    simp only [Bool.false_and] at hr
    subst hr
    have hC2 := fun w1 h hl => (hC w1 h hl).mono fun e w' hh => hh.1 h0
    clear hd hz h0 hC
    obtain ⟨ware, lim, byr, a, cap, ps⟩ := c
    simp only [Cs.v] at *
    have hB0 := one_alloc w (Obj.cells #[.string ware, .int .i64 lim, .int .i64 byr, .slice a ps.length cap] 24)
    have hbx := hc.below hB0
    have hlx := hl.below hB0
    go_enter Tryz.func49, Tryz.ntmps49
    go_wp2_with (go_at_call 75; (with_reducible refine (hC2 _ hbx hlx).mono ?_); rintro e w1 ⟨rfl, hb1⟩)
    go_ret2
    exact ⟨rfl, hB0.ch2 hb1⟩
theorem wcommon (a : Option Addr) (ca : Nat) (f : Option Addr) (cf n : Nat) (s : List Pn) (al : Option Addr) (m cl : Nat) (l : List Int) (w : World) (hs : SpansAt w a ca f cf n s) (hl : IntsAt w al m cl l) (hin : ∀ x ∈ l, 0 ≤ x ∧ x < s.length) :
    Calls Tryz.prog 95 #[spV a ca f cf n, .slice al m cl] w fun e w' => e = .returned (.agg #[.int .i64 (comL s (natL l)).1, .int .i64 (comL s (natL l)).2]) ∧ Below w.heap.size w w' := by
  obtain rfl := hl.len
  obtain rfl := hs.len
  have hls := hl.small
  have hss := hs.small
  unfold spV
  obtain ⟨Q, hT⟩ : ∃ Q, comL s (natL l) = Q := ⟨_, rfl⟩
  rw [hT]
  have HT := Lib.hid hT
  clear hT
  obtain ⟨t1, t2⟩ := Q
  simp only
  obtain ⟨w3, hw3⟩ : ∃ w3, w3 = ((w.alloc (Obj.cells #[.slice a s.length ca, .slice f s.length cf] 83)).alloc (Obj.cells #[.int .i64 0, .int .i64 0] 33)).alloc (Obj.cells #[.int .i64 0, .int .i64 1000] 33) := ⟨_, rfl⟩
  have hB3 : Below w.heap.size w w3 := by rw [hw3]; ((repeat (first | assumption | exact Below.refl _ _ | refine Below.alloc ?_ ?_ _ | refine Below.setCell ?_ ?_ _ | refine Below.drew ?_ | refine belowN ?_ | refine Below.up ?_ (by assumption) ?_)) <;> (first | assumption | omega | (simp; done) | (simp; omega)))
  have hz3 : w3.heap.size = w.heap.size + 1 + 1 + 1 := by rw [hw3]; simp
  have q0 : w3.cell? ⟨w.heap.size, 0, none⟩ = some (.slice a s.length ca) := by rw [hw3]; simp [go_sem]
  have r0 : w3.cell? ⟨w.heap.size + 1, 0, none⟩ = some (.int .i64 0) := by rw [hw3]; simp [go_sem]
  have r1 : w3.cell? ⟨w.heap.size + 1, 1, none⟩ = some (.int .i64 0) := by rw [hw3]; simp [go_sem]
  have rf : ∀ i, w3.frozen? ⟨w.heap.size + 1, i, none⟩ = false := fun i => by rw [hw3]; simp [go_sem]
  have hst : w3.heap[w.heap.size + 1 + 1]? = some (.cells #[.int .i64 0, .int .i64 1000] 33 (0, 0)) := by
    rw [hw3]; simpa using World.alloc_heap_new ((w.alloc (Obj.cells #[.slice a s.length ca, .slice f s.length cf] 83)).alloc (Obj.cells #[.int .i64 0, .int .i64 0] 33)) (Obj.cells #[.int .i64 0, .int .i64 1000] 33)
  have HZ := Lib.hid hz3
  have RF := Lib.hid rf
  go_enter Tryz.func95, Tryz.ntmps95
  go_wp2_with fail
  rw [← hw3]
  clear hw3 hz3 rf
  go_loopw [11] (fun i wr => ∃ k : Nat, k ≤ l.length ∧ i = .int .i64 k ∧ Below (w.heap.size + 1 + 1) w3 wr ∧ wr.heap[w.heap.size + 1 + 1]? = some (.cells #[.int .i64 (comL s (natL (l.take k))).1, .int .i64 (comL s (natL (l.take k))).2] 33 (0, 0))) (fun i _ => l.length - (RowKit.intOf i).toNat)
  case atStart => exact ⟨0, Nat.zero_le _, rfl, Below.refl _ _, hst⟩
  case round =>
    obtain ⟨k, hk, rfl, hB', hbk⟩ := hrel
    have hB : Below w.heap.size w wr := hB3.trans (hB'.mono (by omega))
    have hnn : (0 : Int) ≤ k := by omega
    have hsz : w.heap.size + 1 + 1 < wr.heap.size := (Array.getElem?_eq_some_iff.1 hbk).1
    have q0' := ((bcell hB').1 _ 0 (show w.heap.size < w.heap.size + 1 + 1 by omega)).trans q0
    by_cases hlt : k < l.length
    · have i1 : (k : Int) < (l.length : Int) := by omega
      obtain ⟨b, o, rfl, hbl, d0⟩ := (hl.below hB).get hlt
      have Hs := Lib.hid (show comL s (natL (l.take (k + 1))) = (max (comL s (natL (l.take k))).1 (s.getD (l.getD k 0).toNat default).lo, min (comL s (natL (l.take k))).2 (s.getD (l.getD k 0).toNat default).hi) by rw [natL_snoc hlt, comL_snoc])
      have hx := hin _ (mem_getD hlt)
      obtain ⟨X, hX⟩ : ∃ X : Nat, l.getD k 0 = X := ⟨(l.getD k 0).toNat, by omega⟩
      rw [hX] at Hs hx d0
      simp only [Int.toNat_natCast] at Hs
      have X1 : (X : Int) < (s.length : Int) := by omega
      have X0 : (0 : Int) ≤ X := by omega
      obtain ⟨b2, o2, b3, o3, rfl, rfl, bl2, bl3, e0, e1, e2⟩ := (hs.below hB).get (show X < s.length by omega)
      generalize s.getD X default = p at *
      generalize comL s (natL (l.take k)) = Q at *
      obtain ⟨u1, u2⟩ := Q
      simp only at hbk Hs
      obtain ⟨M, hM⟩ : ∃ M, max u1 p.lo = M := ⟨_, rfl⟩
      obtain ⟨L, hL⟩ : ∃ L, min u2 p.hi = L := ⟨_, rfl⟩
      have hmx : (if u1 < p.lo then p.lo else u1) = M := by rw [← hM]; split <;> omega
      have hmn : (if p.hi < u2 then p.hi else u2) = L := by rw [← hL]; split <;> omega
      rw [hM, hL] at Hs
      clear hX e2
      have hne2 : ¬ b2 = w.heap.size + 1 + 1 := fun e => by have := (hs.at_.row.at_ _ rfl).2.1; simp only at this; omega
      have hz0 : w.heap.size < wr.heap.size := by omega
      have hne0 : ¬ w.heap.size = w.heap.size + 1 + 1 := by omega
      go_wp2_with fail
      apply SLG.rule0 ?hm1 [w.heap.size + 1 + 1] [15, 16, 17, 18, 19, 20, 21, 22, 23, 24, 25, 26, 27, 28, 29, 30, 31, 32, 33, 34] [SLF.pq 15 [] _, SL.pu 16 [0, 22] (.int .i64 u1), SLF.pq 17 [] _, SLF.pq 18 [2] _, SLF.pq 19 [] _, SLF.pq 20 [3, 4] _, SLF.pq 21 [5] _, SLF.pq 22 [6] _, SLF.pq 23 [1, 7] _, SLF.pq 24 [] _, SL.pu 25 [9, 22] (.int .i64 u2), SLF.pq 26 [] _, SLF.pq 27 [11] _, SLF.pq 28 [] _, SLF.pq 29 [12, 13] _, SLF.pq 30 [14] _, SLF.pq 31 [15] _, SLF.pq 32 [10, 16] _, SLF.pq 33 [] _, SL.aw 0 [8, 18, 22] [22] (fun _ => .blk 0 (w.heap.size + 1 + 1) 33 #[.int .i64 M, .int .i64 u2]), SLF.pq 34 [] _, SL.aw 0 [17, 19, 20] [19] (fun _ => .blk 0 (w.heap.size + 1 + 1) 33 #[.int .i64 M, .int .i64 L]), SL.blk [] [] (w.heap.size + 1 + 1) 33 #[.int .i64 u1, .int .i64 u2]] [21] ?hck1 ?hkp1 (fun i => if i = 22 then [w.heap.size + 1 + 1] else []) ?hin1 ?hdj1 ?hfr1 ?ob1 ?en1
      case hm1 => kernel_rfl
      case hin1 => exact SL.one_held rfl rfl ⟨hbk, rfl⟩ hsz
      case hdj1 => exact SL.one_apart
      case hfr1 => intro us; simp only [SL.frame, SL.put']; simp; exact rfl
      case ob1 =>
        refine ⟨?_, ?_, ?_, ?_, ?_, ?_, ?_, ?_, ?_, ?_, ?_, ?_, ?_, ?_, ?_, ?_, ?_, ?_, ?_, ?_, ?_, ?_, trivial⟩
        all_goals first
          | (intro us w' Fe hG hu hd hv Kx hK
             try dsimp only
             simp [SL.Used, SL.pu, SL.row, SL.box, SL.rowIn, SL.boxIn, SL.boxAt, SL.boxAtIn, SLF.pq, Act.put, SL.aw_sub, SL.aw_use, SL.aw_eat, SL.aw_V, SL.aw_quiet, SL.blk] at hu hK
             have hB5 : Below w.heap.size w w' := hB.trans (hG.belowF hB.size (by simp; omega))
             obtain ⟨hc5, hf5⟩ := bcell hB5
             have hs5 := hB5.size
             obtain ⟨hc6, hf6⟩ := hG.cellsF
             clear hv
             refine SLF.wpo_do (SLF.wanted_free rfl) ?hd1 ?_
             case hd1 => intro c h; cases h
             clear hd
             first
               | (go_step; exact hK _ _ _ (SL.Chg.refl _ _) (by first | exact rfl | (simp only [hu]; exact rfl)) rfl (by simp) rfl)
               | exact hK _ _ _ (SL.Chg.refl _ _) rfl rfl (by simp) rfl)
          | skip
        · refine SLG.ob_sp rfl rfl rfl fun us w' Fe hG hu hd Kx hK => ?_
          try dsimp only
          simp [SL.Used, SL.pu, SL.row, SL.box, SL.rowIn, SL.boxIn, SL.boxAt, SL.boxAtIn, SLF.pq, Act.put, SL.aw_sub, SL.aw_use, SL.aw_eat, SL.aw_V, SL.aw_quiet, SL.blk] at hu
          have hB5 : Below w.heap.size w w' := hB.trans (hG.belowF hB.size (by simp; omega))
          obtain ⟨hc5, hf5⟩ := bcell hB5
          have hs5 := hB5.size
          obtain ⟨hc6, hf6⟩ := hG.cellsF
          refine SLF.wpo_do (SLF.wanted_free rfl) ?hd1 ?_
          case hd1 => intro c h; cases h
          obtain ⟨⟨z0, _⟩, hb', _⟩ := hu
          obtain ⟨y0, y1, yf, yl⟩ := cell2w hb'
          go_step
          exact hK _ _ _ [] (by simp [Act.put]; done) (SL.Chg.refl _ _) ⟨rfl, rfl⟩ (fun j hj => by cases hj)
        · refine SLG.ob_sp rfl rfl rfl fun us w' Fe hG hu hd Kx hK => ?_
          try dsimp only
          simp [SL.Used, SL.pu, SL.row, SL.box, SL.rowIn, SL.boxIn, SL.boxAt, SL.boxAtIn, SLF.pq, Act.put, SL.aw_sub, SL.aw_use, SL.aw_eat, SL.aw_V, SL.aw_quiet, SL.blk] at hu
          have hB5 : Below w.heap.size w w' := hB.trans (hG.belowF hB.size (by simp; omega))
          obtain ⟨hc5, hf5⟩ := bcell hB5
          have hs5 := hB5.size
          obtain ⟨hc6, hf6⟩ := hG.cellsF
          refine SLF.wpo_do (SLF.wanted_free rfl) ?hd1 ?_
          case hd1 => intro c h; cases h
          obtain ⟨⟨z0, _⟩, hb', _⟩ := hu
          obtain ⟨y0, y1, yf, yl⟩ := cell2w hb'
          go_step
          exact hK _ _ _ [] (by simp [Act.put]; done) (SL.Chg.refl _ _) ⟨rfl, rfl⟩ (fun j hj => by cases hj)
        · refine SLG.ob_no rfl rfl rfl fun us w' Fe hG hu hd Kx hK => ?_
          try dsimp only
          simp [SL.Used, SL.pu, SL.row, SL.box, SL.rowIn, SL.boxIn, SL.boxAt, SL.boxAtIn, SLF.pq, Act.put, SL.aw_sub, SL.aw_use, SL.aw_eat, SL.aw_V, SL.aw_quiet, SL.blk] at hu
          have hB5 : Below w.heap.size w w' := hB.trans (hG.belowF hB.size (by simp; omega))
          obtain ⟨hc5, hf5⟩ := bcell hB5
          have hs5 := hB5.size
          obtain ⟨hc6, hf6⟩ := hG.cellsF
          refine SLF.wpo_do (SLF.wanted_free rfl) ?hd1 ?_
          case hd1 => intro c h; cases h
          obtain ⟨⟨z0, _⟩, ⟨z1, _⟩, hb', e5⟩ := hu
          obtain ⟨y0, y1, yf, yl⟩ := cell2w hb'
          go_step
          exact hK _ _ (.setCell _ (by simp [SL.aw_eat, e5]) _) (SL.aw_in ⟨Nat.zero_le _, heap_put0 hb' _, rfl⟩) (fun q hq => .inl (by simpa [SL.aw_eat, e5] using hq))
        · refine SLG.ob_no rfl rfl rfl fun us w' Fe hG hu hd Kx hK => ?_
          try dsimp only
          simp [SL.Used, SL.pu, SL.row, SL.box, SL.rowIn, SL.boxIn, SL.boxAt, SL.boxAtIn, SLF.pq, Act.put, SL.aw_sub, SL.aw_use, SL.aw_eat, SL.aw_V, SL.aw_quiet, SL.blk] at hu
          have hB5 : Below w.heap.size w w' := hB.trans (hG.belowF hB.size (by simp; omega))
          obtain ⟨hc5, hf5⟩ := bcell hB5
          have hs5 := hB5.size
          obtain ⟨hc6, hf6⟩ := hG.cellsF
          refine SLF.wpo_do (SLF.wanted_free rfl) ?hd1 ?_
          case hd1 => intro c h; cases h
          obtain ⟨⟨z0, _⟩, h2, z1, _⟩ := hu
          obtain ⟨_, hb', e5⟩ := SL.aw_out h2
          obtain ⟨y0, y1, yf, yl⟩ := cell2w hb'
          go_step
          exact hK _ _ (.setCell _ (by simp [SL.aw_eat, e5]) _) (SL.aw_in ⟨Nat.zero_le _, heap_put1 hb' _, rfl⟩) (fun q hq => .inl (by simpa [SL.aw_eat, e5] using hq))
      case hck1 => kernel_rfl
      case hkp1 => kernel_rfl
      intro us w5 Fs hG hu hbd hd
      simp [SL.Used, SL.aw_sub] at hu
      obtain ⟨_, hb5, _⟩ := SL.aw_out hu
      have hB5 : Below (w.heap.size + 1 + 1) w3 w5 := hB'.trans (hG.belowF (by omega) (by simp))
      clear hu hbd hd hG hmx hmn
      go_wp2_with fail
      go_roundw
      case rel => exact ⟨k + 1, by omega, by go_num, hB5, by rw [Hs.out]; exact hb5⟩
      case measure => simp [RowKit.intOf]; omega
    · have hk2 : k = l.length := by omega
      subst hk2
      rw [List.take_length, HT.out] at hbk
      obtain ⟨x0, x1, xf, xl⟩ := cell2w hbk
      have r0' := ((bcell hB').1 _ 0 (show w.heap.size + 1 < w.heap.size + 1 + 1 by omega)).trans r0
      have r1' := ((bcell hB').1 _ 1 (show w.heap.size + 1 < w.heap.size + 1 + 1 by omega)).trans r1
      have f0' := ((bcell hB').2 _ 0 (show w.heap.size + 1 < w.heap.size + 1 + 1 by omega)).trans (RF.out 0)
      have f1' := ((bcell hB').2 _ 1 (show w.heap.size + 1 < w.heap.size + 1 + 1 by omega)).trans (RF.out 1)
      simp only at x0 x1
      clear hst r0 r1 q0 q0' hbk
      go_wp2_with fail
      refine bodyPost_ret (v := .agg #[.int .i64 t1, .int .i64 t2]) (by simp [results, Tryz.results95, go_sem, *]) rfl ⟨rfl, ?_⟩
      exact (hB.setCell (by simp) _).setCell (by simp) _
theorem wCommon (c : Cs) (al : Option Addr) (m cl : Nat) (l : List Int) (w : World) (hc : CsAt w c) (hl : IntsAt w al m cl l) :
    Calls Tryz.prog 47 #[c.v, .slice al m cl] w fun e w' => e = .returned (.tuple #[.agg #[.int .i64 (c.com l).1.1, .int .i64 (c.com l).1.2], .bool (c.com l).2, .int .i64 (c.ask l)]) ∧ Below w.heap.size w w' := by
  have hC := fun w1 (h : CsAt w1 c) (hl : IntsAt w1 al m cl l) => wlaid c al m cl l w1 h hl
  have hz := @Cs.ask_zero c l
  have hr : c.com l = if c.ask l = 0 ∧ (comL c.s (natL l)).1 ≤ (comL c.s (natL l)).2 then (comL c.s (natL l), true) else ((0, 0), false) := rfl
  obtain rfl := hl.len
  unfold LaidPost at hC
  generalize c.com l = R at *
  generalize c.ask l = E at *
  by_cases h0 : E = 0
  · subst h0
    obtain ⟨hok, hi⟩ := hz rfl
    have hsl : c.s.length = c.ps.length := pns_len _
    have hO := fun w1 a ca f cf (hs : SpansAt w1 a ca f cf c.ps.length c.s) (h : IntsAt w1 al l.length cl l) => wcommon a ca f cf _ c.s al _ cl l w1 hs h (fun x hx => by rw [hsl]; exact hi x hx)
    simp only [ne_eq, not_true, false_implies, true_and, true_implies] at hC hr ⊢
    generalize comL c.s (natL l) = Q at *
    obtain ⟨q1, q2⟩ := Q
    simp only at hr hO
    unfold spV at hO
    clear hz hok hi hsl
    obtain ⟨ware, lim, byr, a, cap, ps⟩ := c
    simp only [Cs.v] at *
    have hB0 : Below w.heap.size w ((w.alloc (Obj.cells #[.string ware, .int .i64 lim, .int .i64 byr, .slice a ps.length cap] 24)).alloc (Obj.cells #[.int .i64 0, .int .i64 0] 33)) := by ((repeat (first | assumption | exact Below.refl _ _ | refine Below.alloc ?_ ?_ _ | refine Below.setCell ?_ ?_ _ | refine Below.drew ?_ | refine belowN ?_ | refine Below.up ?_ (by assumption) ?_)) <;> (first | assumption | omega | (simp; done) | (simp; omega)))
    have hbx := hc.below hB0
    have hlx := hl.below hB0
    by_cases hle : q1 ≤ q2
    · rw [if_pos hle] at hr
      subst hr
      have hgt : decide (q2 < q1) = false := by simp; omega
      clear hle
      go_enter Tryz.func47, Tryz.ntmps47
      go_wp2_with (first
        | (go_at_call 75; (with_reducible refine (hC _ hbx hlx).mono ?_); rintro e w1 ⟨N, a1, ca, f1, cf, rfl, hb1, hN, hT⟩; obtain ⟨t0, t1, t2, t3, t4, t5⟩ := hT.get; have hNl := hT.lt; obtain ⟨hc1, hf1⟩ := bcell hb1; have hz2 := lt_size hb1 (b := w.heap.size + 1) (by first | assumption | omega | (simp; done) | (simp; omega)))
        | (go_at_call 95; (with_reducible refine (hO _ _ _ _ _ hT.sp (hlx.below hb1)).mono ?_); rintro e w2 ⟨rfl, hb2⟩; obtain ⟨hc2, hf2⟩ := bcell hb2; have hz3 := lt_size hb2 (b := w.heap.size + 1) (by first | assumption | omega | (simp; done) | (simp; omega))))
      have hBE := (hB0.ch2 hb1).ch2 hb2
      refine bodyPost_ret (v := .tuple #[.agg #[.int .i64 (q1), .int .i64 (q2)], .bool true, .int .i64 0]) (by simp [results, Tryz.results47, go_sem, *]) rfl ⟨rfl, ?_⟩
      (repeat (first | (with_reducible exact hBE) | ((with_reducible refine Below.setCell ?_ ?_ _); rotate_left; focus (first | omega | (simp; done) | (simp; omega))) | ((with_reducible refine Below.alloc ?_ ?_ _); rotate_left; focus (first | omega | (simp; done) | (simp; omega)))))
    · rw [if_neg hle] at hr
      subst hr
      have hgt : decide (q2 < q1) = true := by simp; omega
      clear hle
      go_enter Tryz.func47, Tryz.ntmps47
      go_wp2_with (first
        | (go_at_call 75; (with_reducible refine (hC _ hbx hlx).mono ?_); rintro e w1 ⟨N, a1, ca, f1, cf, rfl, hb1, hN, hT⟩; obtain ⟨t0, t1, t2, t3, t4, t5⟩ := hT.get; have hNl := hT.lt; obtain ⟨hc1, hf1⟩ := bcell hb1; have hz2 := lt_size hb1 (b := w.heap.size + 1) (by first | assumption | omega | (simp; done) | (simp; omega)))
        | (go_at_call 95; (with_reducible refine (hO _ _ _ _ _ hT.sp (hlx.below hb1)).mono ?_); rintro e w2 ⟨rfl, hb2⟩; obtain ⟨hc2, hf2⟩ := bcell hb2; have hz3 := lt_size hb2 (b := w.heap.size + 1) (by first | assumption | omega | (simp; done) | (simp; omega))))
      have hBE := (hB0.ch2 hb1).ch2 hb2
      refine bodyPost_ret (v := .tuple #[.agg #[.int .i64 (0), .int .i64 (0)], .bool false, .int .i64 0]) (by simp [results, Tryz.results47, go_sem, *]) rfl ⟨rfl, ?_⟩
      (repeat (first | (with_reducible exact hBE) | ((with_reducible refine Below.setCell ?_ ?_ _); rotate_left; focus (first | omega | (simp; done) | (simp; omega))) | ((with_reducible refine Below.alloc ?_ ?_ _); rotate_left; focus (first | omega | (simp; done) | (simp; omega)))))
  · have h2 : (E != 0) = true := by simpa using h0
    rw [if_neg (fun h => h0 h.1)] at hr
    subst hr
    have hC2 := fun w1 h hl => (hC w1 h hl).mono fun e w' hh => hh.1 h0
    clear hz h0 hC
    obtain ⟨ware, lim, byr, a, cap, ps⟩ := c
    simp only [Cs.v] at *
    have hB0 : Below w.heap.size w ((w.alloc (Obj.cells #[.string ware, .int .i64 lim, .int .i64 byr, .slice a ps.length cap] 24)).alloc (Obj.cells #[.int .i64 0, .int .i64 0] 33)) := by ((repeat (first | assumption | exact Below.refl _ _ | refine Below.alloc ?_ ?_ _ | refine Below.setCell ?_ ?_ _ | refine Below.drew ?_ | refine belowN ?_ | refine Below.up ?_ (by assumption) ?_)) <;> (first | assumption | omega | (simp; done) | (simp; omega)))
    have hbx := hc.below hB0
    have hlx := hl.below hB0
    go_enter Tryz.func47, Tryz.ntmps47
    go_wp2_with (go_at_call 75; (with_reducible refine (hC2 _ hbx hlx).mono ?_); rintro e w1 ⟨rfl, hb1⟩; obtain ⟨hc1, hf1⟩ := bcell hb1; have hz2 := lt_size hb1 (b := w.heap.size + 1) (by first | assumption | omega | (simp; done) | (simp; omega)))
    have hBE := hB0.ch2 hb1
    refine bodyPost_ret (v := .tuple #[.agg #[.int .i64 (0), .int .i64 (0)], .bool false, .int .i64 E]) (by simp [results, Tryz.results47, go_sem, *]) rfl ⟨rfl, ?_⟩
    (repeat (first | (with_reducible exact hBE) | ((with_reducible refine Below.setCell ?_ ?_ _); rotate_left; focus (first | omega | (simp; done) | (simp; omega))) | ((with_reducible refine Below.alloc ?_ ?_ _); rotate_left; focus (first | omega | (simp; done) | (simp; omega)))))
end Go.Proofs.YtodkbfbbpfghiaaGreat

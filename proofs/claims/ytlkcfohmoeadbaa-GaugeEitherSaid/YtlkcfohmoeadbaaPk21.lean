/-
  The reference's sums, as data and walked.
-/
import Derived.Test.YtlkcfohmoeadbaaPk20
set_option linter.unusedSimpArgs false
set_option linter.unusedVariables false
set_option linter.unnecessarySimpa false
namespace Go.Proofs.Ytlkcfohmoeadbaa
open Go.RowKit Go.Shelf
set_option maxHeartbeats 4000000
set_option maxRecDepth 100000

/-- One pass of the reference: the sums, and whether no bound was open. -/
def rpass (far : Int) (bs : List Bd) (x : List Int) : Nat → List Int × Bool
  | 0 => (x, true)
  | k + 1 => let s := rpass far bs x k; let b := bs.getD k default; if opens far s.1 b then (s.1.set b.tow.toNat (gi s.1 b.frm + b.most), false) else s
def rsettle (far : Int) (bs : List Bd) : Nat → List Int → List Int × Bool
  | 0, _ => ([], false)
  | n + 1, x => if (rpass far bs x bs.length).2 then ((rpass far bs x bs.length).1, true) else rsettle far bs n (rpass far bs x bs.length).1

/-- The ends of bounds are points. -/
def Pts (p : Int) (bs : List Bd) : Prop := ∀ b ∈ bs, 0 ≤ b.frm ∧ b.frm < p ∧ 0 ≤ b.tow ∧ b.tow < p
theorem Pts.of_chk {p : Int} {bs : List Bd} (h : chk p bs = 0) : Pts p bs := by
  unfold chk at h
  split at h
  · omega
  · split at h
    · omega
    · split at h
      · rename_i h3
        intro b hb
        have h4 := List.all_eq_true.1 h3 b hb
        simp only [Bd.ok, Bool.and_eq_true, withinB_iff] at h4
        omega
      · omega

theorem rpass_len (far : Int) (bs : List Bd) (x : List Int) : ∀ k, (rpass far bs x k).1.length = x.length
  | 0 => rfl
  | k + 1 => by
    have ih := rpass_len far bs x k
    simp only [rpass]
    split
    · simp [ih]
    · exact ih
theorem rpass_rng {bs : List Bd} {x : List Int} {p lo hi : Int} (hin : ∀ b ∈ bs, b.inr) (hp : Pts p bs) (hl : x.length = p.toNat) (hx : ∀ j : Int, 0 ≤ j → j < p → lo ≤ gi x j ∧ gi x j ≤ hi) (far : Int) : ∀ k : Nat, k ≤ bs.length → ∀ j : Int, 0 ≤ j → j < p → lo - k * 100000000 ≤ gi (rpass far bs x k).1 j ∧ gi (rpass far bs x k).1 j ≤ hi
  | 0, _ => fun j h0 h1 => by
    have := hx j h0 h1
    show lo - ((0 : Nat) : Int) * 100000000 ≤ gi x j ∧ gi x j ≤ hi
    omega
  | k + 1, hk => by
    have ih := rpass_rng hin hp hl hx far k (by omega)
    have hm : bs.getD k default ∈ bs := by rw [List.getD_eq_getElem?_getD, List.getElem?_eq_getElem (by omega)]; exact List.getElem_mem _
    have hb := hin _ hm
    have hq := hp _ hm
    intro j h0 h1
    have ihj := ih j h0 h1
    have hll := rpass_len far bs x k
    simp only [rpass]
    split
    · rename_i ho
      simp only [opens, Bool.and_eq_true, decide_eq_true_eq] at ho
      simp only []
      rw [gi_set hq.2.2.1 (by rw [hll, hl]; omega) h0]
      have h2 := ih _ hq.1 hq.2.1
      have h3 := ih _ hq.2.2.1 hq.2.2.2
      have h4 := hb.m0
      split <;> (push_cast; omega)
    · push_cast; omega

theorem row_cell {w : World} {base g n c : Nat} {xs : List Int} (h : w.ownsRow base 3 1 (.slice (some ⟨g, 0, none⟩) n c) n (xs.map (.int .i64))) {j : Int} (_h0 : 0 ≤ j) (h1 : j.toNat < xs.length) : w.cell? ⟨g, j.toNat, none⟩ = some (.int .i64 (gi xs j)) := by
  have h2 := ((RowAt.of_owns h).at_ ⟨g, 0, none⟩ rfl).2.2 j.toNat (.int .i64 (gi xs j)) (by simp [gi, List.getD_eq_getElem?_getD, List.getElem?_eq_getElem h1])
  simpa using h2
theorem row_free {w : World} {base g n c : Nat} {t : TypeId} {size : Nat} {xs : List Value} (h : w.ownsRow base t size (.slice (some ⟨g, 0, none⟩) n c) n xs) (j : Nat) : w.frozen? ⟨g, j, none⟩ = false := by
  obtain ⟨_, ⟨hv, _⟩ | ⟨g', c', cur, hv, _, hg, _⟩⟩ := h
  · simp at hv
  · simp at hv
    obtain ⟨rfl, _⟩ := hv
    exact (SL.cells_of hg).2 j

theorem rsums_any (p : Int) (a : Option Addr) (n cap : Nat) (bs : List Bd) (a2 : Option Addr) (n2 c2 : Nat) (xs : List Int) (far : Int) (w : World) (hb : BdsAt w a n cap bs) (hs : Sys p bs) (hpt : Pts p bs) (hx : IntsAt w a2 n2 c2 xs) (hxl : xs.length = p.toNat) (hfar : far = 1000000000) (hx0 : ∀ j : Int, 0 ≤ j → j < p → -1000000000 ≤ gi xs j ∧ gi xs j ≤ 1000000000) :
    Calls Try.prog 118 #[.agg #[.int .i64 p, .slice a n cap], .slice a2 n2 c2, .int .i64 far] w fun e w' => ∃ v, e = .returned (.tuple #[v, .bool (rsettle far bs (p + 1).toNat xs).2]) ∧ Below w.heap.size w w' ∧ w'.ownsRow w.heap.size 3 1 v (rsettle far bs (p + 1).toNat xs).1.length ((rsettle far bs (p + 1).toNat xs).1.map (.int .i64)) := by
  obtain ⟨hp1, hp2, h402, hin⟩ := hs
  obtain rfl := hb.len
  obtain rfl := hx.len
  subst hfar
  generalize hres : rsettle 1000000000 bs (p + 1).toNat xs = res
  have Hres := Lib.hid hres
  clear hres
  have hB0 : Below w.heap.size w (w.alloc (Obj.cells #[.int .i64 p, .slice a bs.length cap] 24)) := (Below.refl _ _).alloc (Nat.le_refl _) _
  have hxl1 : 1 ≤ xs.length := by omega
  have hxl2 : xs.length ≤ 60 := by omega
  have Hxl := Lib.hid hxl
  clear hxl
  have hlit := World.ownsRow_lit (base := w.heap.size + 1) (e := 3) (size := 1) (w.alloc (Obj.cells #[.int .i64 p, .slice a bs.length cap] 24)) #[] 0 (by simp) (by decide) rfl
  rw [World.size_alloc] at hlit
  have HL := Lib.hid hlit
  clear hlit
  go_enter Try.func118, Try.ntmps118
  go_wp2_with (at_builtin; refine wpList_app elemI rfl _ _ rfl HL.out rfl rfl ((hx.row.below hB0).below ((Below.refl _ _).alloc (Nat.le_refl _) _)) (by simp) (ones_int xs) ?_ ?_ ?_ ?_)
  · unfold maxLen; omega
  · omega
  · intro v' w1 hown hg hb1 hnil _
    have hz1 := hb1.size
    simp only [World.size_alloc] at hz1
    have hB1 : Below w.heap.size w w1 := (hB0.alloc (by simp) (Obj.cells #[] 3)).trans (hb1.mono (by omega))
    have zs : w.heap.size < w1.heap.size := by omega
    have s0 : w1.cell? ⟨w.heap.size, 0, none⟩ = some (.int .i64 p) := by rw [(bcell hb1).1 _ _ (by omega)]; simp [go_sem]
    have s1 : w1.cell? ⟨w.heap.size, 1, none⟩ = some (.slice a bs.length cap) := by rw [(bcell hb1).1 _ _ (by omega)]; simp [go_sem]
    obtain ⟨g, c, rfl, hgb⟩ : ∃ g c, v' = .slice (some ⟨g, 0, none⟩) xs.length c ∧ w.heap.size + 1 ≤ g := by
      obtain ⟨_, ⟨hv, _⟩ | ⟨g, c, cur, hv, hbg, _⟩⟩ := hown
      · exact absurd hv hnil
      · exact ⟨g, c, hv, hbg⟩
    have hpp : (((p + 1).toNat : Nat) : Int) = p + 1 := by omega
    generalize hPP : (p + 1).toNat = PP at *
    clear hPP
    have hax : ∀ z, a = some z → z.block < w.heap.size := fun z hz => (hb.at_ z hz).2.1
    clear hnil hg hb1 HL
    go_wp2_with fail
    go_loopw [9] (fun r wo => ∃ (i : Nat) (x : List Int), r = .int .i64 i ∧ i ≤ PP ∧ Below w.heap.size w wo ∧ w.heap.size < wo.heap.size ∧ wo.cell? ⟨w.heap.size, 0, none⟩ = some (.int .i64 p) ∧ wo.cell? ⟨w.heap.size, 1, none⟩ = some (.slice a bs.length cap) ∧ wo.ownsRow (w.heap.size + 1) 3 1 (.slice (some ⟨g, 0, none⟩) xs.length c) xs.length (x.map (.int .i64)) ∧
      x.length = xs.length ∧ (∀ j : Int, 0 ≤ j → j < p → -1000000000 - i * 40200000000 ≤ gi x j ∧ gi x j ≤ 1000000000) ∧ rsettle 1000000000 bs (PP - i) x = res) (fun r _ => PP - (intOf r).toNat)
    case atStart => exact ⟨0, xs, rfl, Nat.zero_le _, hB1, zs, s0, s1, hown, rfl, by simpa using hx0, by simpa using Hres.out⟩
    case round =>
      rename World => wo
      obtain ⟨i, x, rfl, hi, hBo, zo, so0, so1, hro, hxx, hrg, hset⟩ := hrel
      have Hset := Lib.hid hset
      have Hxx := Lib.hid hxx
      clear hset hxx
      by_cases hlt : i < PP
      · have hid : decide ((i : Int) ≤ p) = true := by simp; omega
        go_wp2_with fail
        go_loopw [11, 10] (fun kk fl wi => ∃ k : Nat, k ≤ bs.length ∧ kk = .int .i64 k ∧ fl = .bool (rpass 1000000000 bs x k).2 ∧ Below w.heap.size w wi ∧ w.heap.size < wi.heap.size ∧ wi.cell? ⟨w.heap.size, 0, none⟩ = some (.int .i64 p) ∧ wi.cell? ⟨w.heap.size, 1, none⟩ = some (.slice a bs.length cap) ∧
          wi.ownsRow (w.heap.size + 1) 3 1 (.slice (some ⟨g, 0, none⟩) xs.length c) xs.length ((rpass 1000000000 bs x k).1.map (.int .i64))) (fun kk _ _ => bs.length - (intOf kk).toNat)
        case atStart => exact ⟨0, Nat.zero_le _, rfl, rfl, hBo, zo, so0, so1, hro⟩
        case round =>
          rename World => wi
          obtain ⟨k, hk, rfl, rfl, hBi, zi, si0, si1, hri⟩ := hrel
          have hrk := rpass_rng hin hpt (by rw [Hxx.out]; exact Hxl.out) hrg 1000000000 k hk
          have hlk := rpass_len 1000000000 bs x k
          rw [Hxx.out] at hlk
          have Hlk := Lib.hid hlk
          clear hlk
          by_cases hkl : k < bs.length
          · obtain ⟨b, off, rfl, hbl, d0, d1, d2, d3⟩ := (hb.below hBi).get hkl
            have hm : bs.getD k default ∈ bs := by rw [List.getD_eq_getElem?_getD, List.getElem?_eq_getElem hkl]; exact List.getElem_mem _
            have hyi := hin _ hm
            have hyp := hpt _ hm
            have Hst := Lib.hid (show rpass 1000000000 bs x (k + 1) = (if opens 1000000000 (rpass 1000000000 bs x k).1 (bs.getD k default) then ((rpass 1000000000 bs x k).1.set (bs.getD k default).tow.toNat (gi (rpass 1000000000 bs x k).1 (bs.getD k default).frm + (bs.getD k default).most), false) else rpass 1000000000 bs x k) from rfl)
            generalize bs.getD k default = y at *
            obtain ⟨y0, y1, y2, y3, y4, y5⟩ := hyi
            obtain ⟨z0, z1, z2, z3⟩ := hyp
            generalize hs : rpass 1000000000 bs x k = s at *
            obtain ⟨sx, sf⟩ := s
            simp only at hrk Hst hri Hlk
            clear hs
            have hcell : ∀ j : Int, 0 ≤ j → j < p → wi.cell? ⟨g, j.toNat, none⟩ = some (.int .i64 (gi sx j)) := fun j j0 j1 => by
              have h := (RowAt.of_owns hri).at_ ⟨g, 0, none⟩ rfl
              have h2 := h.2.2 j.toNat (.int .i64 (gi sx j)) (by
                have hl := Hlk.out
                have hl2 := Hxl.out
                simp [gi, List.getD_eq_getElem?_getD, List.getElem?_eq_getElem (show j.toNat < sx.length by omega)])
              simpa using h2
            have gl : g < wi.heap.size := (SL.row_bounds hri g (by simp [Value.ownBlock])).2
            have f0 : y.frm < (xs.length : Int) := by have := Hxl.out; omega
            have f1 : y.tow < (xs.length : Int) := by have := Hxl.out; omega
            have c0 := hcell y.frm z0 z1
            have c1 := hcell y.tow z2 z3
            obtain ⟨l0, l1⟩ := hrk y.frm z0 z1
            obtain ⟨l2, l3⟩ := hrk y.tow z2 z3
            have hwr : IntKind.i64.wrap (gi sx y.frm + y.most) = gi sx y.frm + y.most := IntWalk.i64_in _ (by omega)
            have q0 : (wi.alloc (Obj.cells #[.int .i64 y.frm, .int .i64 y.tow, .int .i64 y.most, .int .i64 y.bid] 39)).cell? ⟨g, y.frm.toNat, none⟩ = some (.int .i64 (gi sx y.frm)) := by
              rw [(bcell ((Below.refl wi.heap.size wi).alloc (Nat.le_refl _) _)).1 _ _ gl]; exact c0
            have q1 : (wi.alloc (Obj.cells #[.int .i64 y.frm, .int .i64 y.tow, .int .i64 y.most, .int .i64 y.bid] 39)).cell? ⟨g, y.tow.toNat, none⟩ = some (.int .i64 (gi sx y.tow)) := by
              rw [(bcell ((Below.refl wi.heap.size wi).alloc (Nat.le_refl _) _)).1 _ _ gl]; exact c1
            have hop : opens 1000000000 sx y = (decide (gi sx y.frm < 1000000000) && decide (gi sx y.frm + y.most < gi sx y.tow)) := rfl
            have hCn : ∀ o, Below w.heap.size w ((wi.alloc (Obj.cells #[.int .i64 y.frm, .int .i64 y.tow, .int .i64 y.most, .int .i64 y.bid] 39)).drewN o) := fun o => belowN (hBi.alloc (by omega) _)
            have hr1 : ∀ o, ((wi.alloc (Obj.cells #[.int .i64 y.frm, .int .i64 y.tow, .int .i64 y.most, .int .i64 y.bid] 39)).drewN o).ownsRow (w.heap.size + 1) 3 1 (.slice (some ⟨g, 0, none⟩) xs.length c) xs.length (sx.map (.int .i64)) := fun o => SL.row_stab (World.ownsRow.up hri ((Below.refl _ _).alloc (Nat.le_refl _) _) (Nat.le_refl _)) (fun _ _ => rfl)
            by_cases t1 : gi sx y.frm < 1000000000
            · have t1' : decide (gi sx y.frm < 1000000000) = true := by simpa using t1
              by_cases t2 : gi sx y.frm + y.most < gi sx y.tow
              · have t2' : decide (gi sx y.frm + y.most < gi sx y.tow) = true := by simpa using t2
                have ho : opens 1000000000 sx y = true := by rw [hop, t1', t2']; rfl
                go_wp2_with fail
                go_quiet (fail)
                go_wp2_with fail
                have kb : ((wi.alloc (Obj.cells #[.int .i64 y.frm, .int .i64 y.tow, .int .i64 y.most, .int .i64 y.bid] 39)).drewN nq).heap[wi.heap.size]? = some (.cells #[.int .i64 y.frm, .int .i64 y.tow, .int .i64 y.most, .int .i64 y.bid] 39 (0, 0)) := World.alloc_heap_new wi _
                have kr := hr1 nq
                have kB := hCn nq
                have kz : wi.heap.size + 1 ≤ ((wi.alloc (Obj.cells #[.int .i64 y.frm, .int .i64 y.tow, .int .i64 y.most, .int .i64 y.bid] 39)).drewN nq).heap.size := by simp
                have kcell : ((wi.alloc (Obj.cells #[.int .i64 y.frm, .int .i64 y.tow, .int .i64 y.most, .int .i64 y.bid] 39)).drewN nq).cell? ⟨w.heap.size, 0, none⟩ = some (.int .i64 p) ∧ ((wi.alloc (Obj.cells #[.int .i64 y.frm, .int .i64 y.tow, .int .i64 y.most, .int .i64 y.bid] 39)).drewN nq).cell? ⟨w.heap.size, 1, none⟩ = some (.slice (some ⟨b, off, none⟩) bs.length cap) := by
                  have h := (bcell ((Below.refl wi.heap.size wi).alloc (Nat.le_refl _) (Obj.cells #[.int .i64 y.frm, .int .i64 y.tow, .int .i64 y.most, .int .i64 y.bid] 39))).1
                  exact ⟨(h _ 0 zi).trans si0, (h _ 1 zi).trans si1⟩
                clear q0 q1
                generalize (wi.alloc (Obj.cells #[.int .i64 y.frm, .int .i64 y.tow, .int .i64 y.most, .int .i64 y.bid] 39)).drewN nq = W7 at *
                have yb := (Array.getElem?_eq_some_iff.1 kb).1
                have yg : g < W7.heap.size := by omega
                refine SL.rule (by kernel_rfl) [g] [57, 58, 59, 60, 61, 62, 63, 64, 65, 66, 67, 68] [SL.pu 57 [] (.slice (some ⟨g, 0, none⟩) xs.length c), SL.pu 58 [] (.pointer (some ⟨wi.heap.size, 1, none⟩)), SL.pu 59 [1] (.int .i64 y.tow), SL.pu 60 [] (.slice (some ⟨g, 0, none⟩) xs.length c), SL.pu 61 [] (.pointer (some ⟨wi.heap.size, 0, none⟩)), SL.pu 62 [4] (.int .i64 y.frm),
                  SL.pu 63 [3, 5] (.pointer (some ⟨g, y.frm.toNat, none⟩)), SL.pu 64 [6, 13] (.int .i64 (gi sx y.frm)), SL.pu 65 [] (.pointer (some ⟨wi.heap.size, 2, none⟩)), SL.pu 66 [8] (.int .i64 y.most), SL.pu 67 [7, 9] (.int .i64 (gi sx y.frm + y.most)), SL.pu 68 [0, 2] (.pointer (some ⟨g, y.tow.toNat, none⟩)),
                  { SL.rowV (w.heap.size + 1) 3 1 xs.length (.slice (some ⟨g, 0, none⟩) xs.length c) ((sx.set y.tow.toNat (gi sx y.frm + y.most)).map (.int .i64)) with use := [10, 11, 13], eat := [13] },
                  SL.rowV (w.heap.size + 1) 3 1 xs.length (.slice (some ⟨g, 0, none⟩) xs.length c) (sx.map (.int .i64))] [12] (by kernel_rfl) (by kernel_rfl) _ (SL.one_held (N := g) rfl rfl ⟨kr, rfl⟩ yg) SL.one_apart ?_ ?_
                · refine ⟨?_, ?_, ?_, ?_, ?_, ?_, ?_, ?_, ?_, ?_, ?_, ?_, ?_, trivial⟩
                  all_goals refine SL.ob fun us w9 Fe hG hu hd hv K hK => ?_
                  all_goals simp [SL.frame, SL.put', SL.Used, SL.Seen, SL.pu, SL.row, SL.box, SL.rowIn, SL.boxIn, SL.boxAt, SL.boxAtIn, Bd.v, Bd.cs, SL.rowV] at hu hv hK ⊢
                  all_goals (have hcc := hG.undrawn.block)
                  all_goals (have b0 := (SL.cells_of ((hcc _ yb (by simp; omega)).trans kb)).1 0)
                  all_goals (have b1 := (SL.cells_of ((hcc _ yb (by simp; omega)).trans kb)).1 1)
                  all_goals (have b2 := (SL.cells_of ((hcc _ yb (by simp; omega)).trans kb)).1 2)
                  all_goals simp at b0 b1 b2
                  all_goals clear hcc
                  all_goals try (go_step; refine hK _ _ _ _ (by simp [Act.put, *]; done) (SL.Chg.refl _ _) rfl rfl (by simp))
                  · obtain ⟨⟨u1, _⟩, u2, u3⟩ := hu
                    have c9 := row_cell (j := y.frm) u2 z0 (by have := Hlk.out; have := Hxl.out; omega)
                    go_step
                    exact hK _ _ _ _ (by simp [Act.put, *]; done) (SL.Chg.refl _ _) rfl rfl (by simp)
                  · obtain ⟨⟨u1, _⟩, ⟨u2, _⟩, u3, u4⟩ := hu
                    have c9 := row_cell (j := y.tow) u3 z2 (by have := Hlk.out; have := Hxl.out; omega)
                    have f9 := row_free u3
                    have hst := (World.ownsRow.stored u3 y.tow.toNat (.int .i64 (gi sx y.frm + y.most))).1
                    go_step
                    refine hK _ undef _ _ (by simp [Act.put, *]; done) (.setCell _ (by simp [u4, Value.ownBlock]) _) hst rfl ?_
                    rw [u4]; simp [Value.ownBlock]
                · intro us w9 Fs hG hu hbd hd
                  simp [SL.frame, SL.put', SL.Used, SL.Seen, SL.pu, SL.row, SL.box, SL.rowIn, SL.boxIn, SL.boxAt, SL.boxAtIn, Bd.v, Bd.cs, SL.rowV] at hu ⊢
                  obtain ⟨hr9, _⟩ := hu
                  have hG2 := hG.undrawn
                  have hz9 := hG2.size
                  have kcell0 := ((SL.Chg.cellsE hG2).1 w.heap.size 0 (by omega) (by simp; omega)).trans kcell.1
                  have kcell1 := ((SL.Chg.cellsE hG2).1 w.heap.size 1 (by omega) (by simp; omega)).trans kcell.2
                  clear hbd hd
                  go_wp2
                  go_roundw
                  case rel =>
                    have e := Hst.out
                    rw [ho] at e
                    simp only [if_true] at e
                    exact ⟨k + 1, by omega, by go_num, by rw [e], kB.trans (hG2.belowE kB.size (by simp; omega)), by omega, kcell0, kcell1, by rw [e]; simp only [List.map_set]; exact hr9⟩
                  case measure => simp [intOf]; omega
              · have t2' : decide (gi sx y.frm + y.most < gi sx y.tow) = false := by simpa using t2
                have ho : opens 1000000000 sx y = false := by rw [hop, t1', t2']; rfl
                rw [ho] at Hst
                go_wp2_with fail
                go_quiet (fail)
                go_wp2
                go_roundw
                case rel =>
                  have e := Hst.out
                  simp only [Bool.false_eq_true, if_false] at e
                  refine ⟨k + 1, by omega, by go_num, by rw [e], hCn _, by simp; omega, ?_, ?_, by rw [e]; exact hr1 _⟩
                  · exact ((bcell ((Below.refl wi.heap.size wi).alloc (Nat.le_refl _) _)).1 _ 0 zi).trans si0
                  · exact ((bcell ((Below.refl wi.heap.size wi).alloc (Nat.le_refl _) _)).1 _ 1 zi).trans si1
                case measure => simp [intOf]; omega
            · have t1' : decide (gi sx y.frm < 1000000000) = false := by simpa using t1
              have ho : opens 1000000000 sx y = false := by rw [hop, t1']; rfl
              rw [ho] at Hst
              go_wp2_with fail
              go_quiet (fail)
              go_wp2
              go_roundw
              case rel =>
                have e := Hst.out
                simp only [Bool.false_eq_true, if_false] at e
                refine ⟨k + 1, by omega, by go_num, by rw [e], hCn _, by simp; omega, ?_, ?_, by rw [e]; exact hr1 _⟩
                · exact ((bcell ((Below.refl wi.heap.size wi).alloc (Nat.le_refl _) _)).1 _ 0 zi).trans si0
                · exact ((bcell ((Below.refl wi.heap.size wi).alloc (Nat.le_refl _) _)).1 _ 1 zi).trans si1
              case measure => simp [intOf]; omega
          · obtain rfl : k = bs.length := by omega
            have hrun : rsettle 1000000000 bs (PP - i) x = if (rpass 1000000000 bs x bs.length).2 then ((rpass 1000000000 bs x bs.length).1, true) else rsettle 1000000000 bs (PP - (i + 1)) (rpass 1000000000 bs x bs.length).1 := by
              rw [show PP - i = (PP - (i + 1)) + 1 by omega, rsettle]
            rw [Hset.out] at hrun
            generalize hs : rpass 1000000000 bs x bs.length = s at *
            obtain ⟨sx, sf⟩ := s
            simp only at hrk hri Hlk hrun
            have Hrun := Lib.hid hrun
            clear hrun hs
            cases sf with
            | true =>
              go_wp2_with fail
              have e := Hrun.out
              simp only [if_true] at e
              refine bodyPost_ret (v := .tuple #[.slice (some ⟨g, 0, none⟩) xs.length c, .bool true]) (by simp [results, Try.results118, go_sem, *]) rfl ⟨_, by rw [e], hBi, ?_⟩
              rw [e]
              simp only []
              rw [Hlk.out]
              exact SL.row_base hri (by omega)
            | false =>
              go_wp2_with fail
              go_roundw
              case rel =>
                refine ⟨i + 1, sx, by go_num, by omega, hBi, zi, si0, si1, hri, Hlk.out, fun j j0 j1 => ?_, ?_⟩
                · have := hrk j j0 j1
                  push_cast
                  omega
                · have := Hrun.out
                  simpa using this.symm
              case measure => simp [intOf]; omega
      · have hid : decide ((i : Int) ≤ p) = false := by simp; omega
        have hi0 : PP - i = 0 := by omega
        have hres0 := Hset.out
        rw [hi0] at hres0
        have Hr := Lib.hid hres0
        clear hres0
        go_wp2_with fail
        have e := Hr.out
        simp only [rsettle] at e
        refine bodyPost_ret (v := .tuple #[.slice none 0 0, .bool false]) (by simp [results, Try.results118, go_sem, *]) rfl ⟨_, by rw [← e], hBo, ?_⟩
        rw [← e]
        exact World.ownsRow_nil _ _ _ _
end Go.Proofs.Ytlkcfohmoeadbaa

/-
  Lemmas and walks for the laws on bounds and their sums; the parts' own heads say what each proves, for every input.
-/
import Derived.Test.YtlkcfohmoeadbaaPk32
import Derived.Test.YtlkcfohmoeadbaaPk28
import Derived.Test.YtlkcfohmoeadbaaPk17
import Derived.Test.YtlkcfohmoeadbaaPk10
import Derived.Test.YtlkcfohmoeadbaaPk26
import Derived.Test.YtlkcfohmoeadbaaPk13
import Derived.Test.YtlkcfohmoeadbaaPk11
set_option linter.unusedSimpArgs false
set_option linter.unusedVariables false
set_option linter.unnecessarySimpa false
/-
  Plain laws: lists that keep all bounds, circles that contradict themselves, as the walks name them.
-/
namespace Go.Proofs.Ytlkcfohmoeadbaa

theorem ccOk_sound {bs : List Bd} {l : List Int} (h : ccOk bs l = true) : ∃ u, Wk bs u l u ∧ wsum bs l < 0 := by
  unfold ccOk at h
  simp only [Bool.and_eq_true, decide_eq_true_eq] at h
  obtain ⟨⟨⟨h1, h2⟩, h3⟩, h4⟩ := h
  cases l with
  | nil => simp at h1
  | cons i l =>
    rw [wkO_none] at h2
    obtain ⟨k1, _⟩ := (wkO_some (by simp) (by simp)).1 h2
    have e : (i :: l).getD 0 0 = i := rfl
    rw [e, wend_any (by simp) 0 (bdI bs i).frm] at h4
    rw [h4] at k1
    exact ⟨_, k1, h3⟩
theorem ccOk_no {p : Int} {bs : List Bd} (hs : Sys p bs) (hok : okB p bs = true) (l : List Int) : ccOk bs l = false := by
  rw [Bool.eq_false_iff]
  intro h
  obtain ⟨u, h1, h2⟩ := ccOk_sound h
  have := Wk.keeps (okB_keeps hs hok) h1
  omega
theorem ccOk_crcL {p : Int} {bs : List Bd} (hc : chk p bs = 0) (hne : crcL p bs ≠ []) : ccOk bs (crcL p bs) = true := by
  obtain ⟨P, rfl⟩ : ∃ P : Nat, p = P := ⟨p.toNat, by have := (Sys.of_chk hc).p1; omega⟩
  obtain ⟨u, u0, u1, hw, hneg, hn, h2⟩ := (crcL_few hc).2 hne
  generalize crcL (P : Int) bs = L at *
  unfold ccOk
  have ht := hw.nodup_tows hn
  have hwe := hw.wend_eq
  cases L with
  | nil => exact absurd rfl hne
  | cons i l =>
    have hu := hw.2.1
    subst hu
    have hO : wkO bs (i :: l) none [] [] = true := by
      rw [wkO_none]
      exact (wkO_some (by simp) (by simp)).2 ⟨by rw [hwe]; exact hw, by simpa using hn, by simpa using ht⟩
    have e : (i :: l).getD 0 0 = i := rfl
    rw [hO, e, decide_eq_true h2, decide_eq_true hneg, wend_any (by simp) 0 (bdI bs i).frm, hwe]
    simp
theorem crcB_okB {p : Int} {bs : List Bd} (hc : chk p bs = 0) : okB p bs = true ↔ crcL p bs = [] := by
  obtain ⟨P, rfl⟩ : ∃ P : Nat, p = P := ⟨p.toNat, by have := (Sys.of_chk hc).p1; omega⟩
  exact okB_crcL hc
theorem crcL_short {p : Int} {bs : List Bd} (hc : chk p bs = 0) : (crcL p bs).length ≤ 60 := by
  obtain ⟨P, rfl⟩ : ∃ P : Nat, p = P := ⟨p.toNat, by have := (Sys.of_chk hc).p1; omega⟩
  have hp := (Sys.of_chk hc).p2
  rcases (crcL_few hc).1 with ⟨h, _⟩ | ⟨_, h, _⟩ <;> omega

/-- A list is kept exactly if it keeps all bounds, has a number for each point, and none far away. -/
theorem kept_iff {p : Int} {bs : List Bd} {xs : List Int} : (decide (brE p bs xs = 0) && !brH p bs xs) = true ↔ chk p bs = 0 ∧ (xs.length : Int) = p ∧ xs.all farB = true ∧ keepsB bs (gi xs) := by
  unfold brH
  have hk : bs.any (brkB xs) = false ↔ keepsB bs (gi xs) := by
    rw [List.any_eq_false]
    constructor
    · intro h b hb
      have := h b hb
      unfold brkB at this
      simp only [decide_eq_true_eq] at this
      omega
    · intro h b hb
      have := h b hb
      unfold brkB
      simp only [decide_eq_true_eq]
      omega
  rw [← hk]
  by_cases h0 : chk p bs = 0
  · by_cases h1 : (xs.length : Int) = p ∧ xs.all farB = true
    · have hE : brE p bs xs = 0 := by unfold brE; rw [if_pos h0, if_pos h1]
      simp [hE, h0, h1.1, h1.2]
    · have hE : brE p bs xs = 1 := by unfold brE; rw [if_pos h0, if_neg h1]
      simp [hE]
      intro _ a b
      exact absurd ⟨a, by simpa using b⟩ h1
  · have hE : brE p bs xs = chk p bs := by unfold brE; rw [if_neg h0]
    simp [hE, h0]
theorem brE_cases {p : Int} {bs : List Bd} {xs : List Int} (h : chk p bs = 0) : brE p bs xs = 0 ∨ brE p bs xs = 1 := by
  unfold brE
  rw [if_pos h]
  split
  · exact .inl rfl
  · exact .inr rfl
theorem gi_take' {l : List Int} {P : Nat} {j : Int} (h0 : 0 ≤ j) (h1 : j.toNat < P) : gi (l.take P) j = gi l j := gi_take h0 h1

/-- The first numbers of sums that keep all bounds and lie near are kept. -/
theorem kept_of {p : Int} {bs : List Bd} (hc : chk p bs = 0) {r : List Int} (hl : r.length = 60) (hk : keepsB bs (gi r)) (hn : ∀ j : Int, 0 ≤ j → j < p → -1000000000 ≤ gi r j ∧ gi r j ≤ 1000000000) :
    brE p bs (r.take p.toNat) = 0 ∧ brH p bs (r.take p.toNat) = false := by
  have hs := Sys.of_chk hc
  have hp := hs.p2
  have hp1 := hs.p1
  have h := kept_iff (p := p) (bs := bs) (xs := r.take p.toNat)
  have := h.2 ⟨hc, by rw [List.length_take, hl]; omega, ?_, fun b hb => ?_⟩
  · simp only [Bool.and_eq_true, decide_eq_true_eq, Bool.not_eq_true'] at this
    exact this
  · rw [List.all_eq_true]
    intro x hx
    obtain ⟨i, hi, rfl⟩ := List.mem_iff_getElem.1 hx
    rw [List.length_take, hl] at hi
    have h1 := hn i (by omega) (by omega)
    have h2 : gi r i = (r.take p.toNat)[i] := by
      rw [List.getElem_take]
      unfold gi
      rw [Int.toNat_natCast, List.getD_eq_getElem?_getD, List.getElem?_eq_getElem (by omega)]
      rfl
    rw [h2] at h1
    exact withinB_iff.2 h1
  · obtain ⟨q0, q1, q2, q3⟩ := Pts.of_chk hc b hb
    rw [gi_take' q2 (by omega), gi_take' q0 (by omega)]
    exact hk b hb
theorem solR_kept {p : Int} {bs : List Bd} (hc : chk p bs = 0) (hok : okB p bs = true) : brE p bs (solR p bs) = 0 ∧ brH p bs (solR p bs) = false := by
  have hs := Sys.of_chk hc
  exact kept_of hc (gsol_len p bs).1 (okB_keeps hs hok) (fun j j0 j1 => by have := sol_in hc hok j0 j1; omega)
end Go.Proofs.Ytlkcfohmoeadbaa

/-
  Gauge, walked: Path.
-/
namespace Go.Proofs.Ytlkcfohmoeadbaa
open Go.RowKit Go.Shelf
set_option maxHeartbeats 4000000
set_option maxRecDepth 100000

/-- What Path hands back: a path with the greatest difference for its sum, if there is one. -/
def PathL (p : Int) (bs : List Bd) (x y : Int) (L : List Int) : Prop := (gD p bs x y < FAR → Pth bs x y (gD p bs x y) L ∧ (x = y → L = [])) ∧ (¬ gD p bs x y < FAR → L = [])
def PthEnd (p : Int) (bs : List Bd) (x y : Int) (FB OB base : Nat) (w' : World) : Prop :=
  w'.heap[FB]? = some (.cells #[.bool (decide (gD p bs x y < FAR))] 4 (0, 0)) ∧ ∃ v L, w'.heap[OB]? = some (.cells #[v] 27 (0, 0)) ∧ w'.ownsRow base 3 1 v L.length (L.map (.int .i64)) ∧ PathL p bs x y L ∧ L.length ≤ 60

theorem Rch.self {bs : List Bd} {l : List Int} {a j : Int} {n : Nat} (h : Rch bs l a n j) (e : a = j) : n = 0 := by
  cases n with
  | zero => rfl
  | succ m => exact absurd e.symm h.1
theorem chn_step {bs : List Bd} {l : List Int} {a : Int} {n : Nat} {j : Int} (h : Rch bs l a n j) (hne : j ≠ a) : ∃ m, n = m + 1 ∧ Rch bs l a m (prd bs l j) ∧ chn bs l n j = gi l j :: chn bs l m (prd bs l j) := by
  cases n with
  | zero => exact absurd h hne
  | succ m => exact ⟨m, rfl, h.2, rfl⟩

theorem SL.Chg.drewN {E : List Nat} {n : Nat} {a b : World} (h : SL.Chg E a b) : SL.Chg E a (b.drewN n) := ⟨h.os, h.tape, h.output, h.size, h.block⟩
/-- How many steps the last bounds take back. -/
def rkF (bs : List Bd) (l : List Int) (a : Int) : Nat → Int → Nat
  | 0, _ => 0
  | f + 1, j => if j = a then 0 else 1 + rkF bs l a f (prd bs l j)
theorem rkF_eq {bs : List Bd} {l : List Int} {a : Int} : ∀ (n f : Nat) (j : Int), n ≤ f → Rch bs l a n j → rkF bs l a f j = n
  | 0, 0, _, _, _ => rfl
  | 0, f + 1, j, _, h => by simp only [rkF]; rw [if_pos (show j = a from h)]
  | n + 1, 0, _, h, _ => by omega
  | n + 1, f + 1, j, h, k => by
    simp only [rkF]
    rw [if_neg k.1, rkF_eq n f _ (by omega) k.2]
    omega

theorem gPath1_any (p : Int) (a : Option Addr) (n cap : Nat) (bs : List Bd) (x y : Int) (SB BA BB FB OB : Nat) (w1 : World) (h0 : chk p bs = 0) (hok : okB p bs = true) (hb : BdsAt w1 a n cap bs) (hxy : both p x y = true)
    (c0 : w1.cell? ⟨SB, 0, none⟩ = some (.int .i64 p)) (c1 : w1.cell? ⟨SB, 1, none⟩ = some (.slice a n cap)) (ca : w1.cell? ⟨BA, 0, none⟩ = some (.int .i64 x)) (cb : w1.cell? ⟨BB, 0, none⟩ = some (.int .i64 y))
    (hF : w1.heap[FB]? = some (.cells #[.bool false] 4 (0, 0))) (hO : w1.heap[OB]? = some (.cells #[.slice none 0 0] 27 (0, 0)))
    (hax : ∀ z, a = some z → z.block ∉ [FB, OB]) (nS : SB ∉ [FB, OB]) (nA : BA ∉ [FB, OB]) (nB : BB ∉ [FB, OB]) (nF : FB ≠ OB) :
    Calls Try.prog 111 #[.pointer (some ⟨SB, 0, none⟩), .pointer (some ⟨BA, 0, none⟩), .pointer (some ⟨BB, 0, none⟩), .pointer (some ⟨FB, 0, none⟩), .pointer (some ⟨OB, 0, none⟩)] w1 fun e w' => e = .returned (.tuple #[]) ∧ SL.Chg [FB, OB] w1 w' ∧ PthEnd p bs x y FB OB w1.heap.size w' := by
  obtain rfl := hb.len
  obtain ⟨⟨x0, x1⟩, y0, y1⟩ := both_in hxy
  have hs := Sys.of_chk h0
  have hp2 := hs.p2
  have zS := World.block_lt_of_cell? w1 _ c0
  have zA := World.block_lt_of_cell? w1 _ ca
  have zB := World.block_lt_of_cell? w1 _ cb
  have zF := (Array.getElem?_eq_some_iff.1 hF).1
  have zO := (Array.getElem?_eq_some_iff.1 hO).1
  simp only at zS zA zB
  have hlen := gfrom_len p bs x
  have hFr := gfrom_any p a _ cap bs x w1 hb hs x0 x1
  have hgD : gD p bs x y = gi (gfrom p bs x).1.r y := rfl
  have hPI := gfrom_PI hs (okB_keeps hs hok) x0 x1
  have hpath := fun hf => gfrom_path h0 hok x0 x1 y0 y1 hf
  have hPend := Lib.hid (show ∀ w', w'.heap[FB]? = some (.cells #[.bool (decide (gD p bs x y < FAR))] 4 (0, 0)) → ∀ v L, w'.heap[OB]? = some (.cells #[v] 27 (0, 0)) → w'.ownsRow w1.heap.size 3 1 v L.length (L.map (.int .i64)) → PathL p bs x y L → L.length ≤ 60 → PthEnd p bs x y FB OB w1.heap.size w' from fun w' a1 v L a2 a3 a4 a5 => ⟨a1, v, L, a2, a3, a4, a5⟩)
  have Hpath := Lib.hid hpath
  clear hpath
  rw [hgD] at *
  have Hin := Lib.hid hs.inr
  have hPL := Lib.hid (show (∀ L, PathL p bs x y L ↔ ((gi (gfrom p bs x).1.r y < FAR → Pth bs x y (gi (gfrom p bs x).1.r y) L ∧ (x = y → L = [])) ∧ (¬ gi (gfrom p bs x).1.r y < FAR → L = []))) from fun L => Iff.rfl)
  generalize hg : gfrom p bs x = g at *
  clear hg hgD
  obtain ⟨⟨gr, gl, gn⟩, gb⟩ := g
  simp only at hlen hFr hPI Hpath hPend hPL ⊢
  obtain ⟨hl1, hl2⟩ := hlen
  have hc0 : (ints gr)[y.toNat]? = some (.int .i64 (gi gr y)) := gi_cell y0 (by omega)
  have HPI := Lib.hid hPI
  clear hPI
  have Hcmp := Lib.hid (show (gi gr y < FAR ↔ gi gr y < 1099511627776) from Iff.rfl)
  by_cases hD : gi gr y < 1099511627776
  · have hDb : decide (gi gr y < 1099511627776) = true := by simpa using hD
    obtain ⟨n0, hR0, hP0, hn0⟩ := Hpath.out (Hcmp.out.2 hD)
    have HP0 := Lib.hid hP0
    have HR0 := Lib.hid hR0
    have HD := Lib.hid hD
    clear hP0 hR0
    go_enter Try.func111, Try.ntmps111
    go_wp2_with (first
      | (go_at_call 112; refine hFr.mono ?_; rintro e w2 ⟨rfl, hb2⟩; have hz2 := hb2.size)
      | (refine wpList_strow_op rfl _ _ rfl rfl (g := w2.heap.size) rfl rfl ((Below.heap_alloc _ _ _ (by simp)).trans (World.alloc_heap_new _ _)) rfl hl1 ?_; intro W2 hc2 hh2
         have hzW2 := hc2.size
         simp only [World.size_alloc] at hzW2)
      | (refine wpList_starr_op rfl _ _ rfl rfl (g := w2.heap.size + 1) rfl rfl ((hc2.block _ (by simp) (by simp)).trans (heap_alloc2_new _ _ _)) rfl hl2 ?_; intro W3 hc3 hh3
         have hzW3 := hc3.size
         have hh4 := (hc3.block w2.heap.size (by omega) (by simp)).trans hh2
         have hc5 := ((SL.cells_of hh4).1 y.toNat).trans hc0
         have hB3 : Below w1.heap.size w1 W3 := by
           refine Below.trans ?_ (hc3.belowE (B := w1.heap.size) (by omega) (by simp; omega))
           refine Below.trans ?_ (hc2.belowE (B := w1.heap.size) (by simp; omega) (by simp; omega))
           exact (hb2.alloc (by omega) _).alloc (by simp; omega) _
         have kb := ((bcell hB3).1 BB 0 zB).trans cb
         have kF := (hB3.block FB zF).trans hF
         have kF1 := (SL.cells_of kF).1 0
         have kF2 := (SL.cells_of kF).2 0
         simp at kF1
         have sB3 : BB < W3.heap.size := by omega
         have sF3 : FB < W3.heap.size := by omega
         have nBF : BB ≠ FB := by simp at nB; exact nB.1))
    obtain ⟨W4, hW4⟩ : ∃ W4, W4 = W3.setCell ⟨FB, 0, none⟩ (.bool true) := ⟨_, rfl⟩
    try rw [← hW4]
    have hC4 : SL.Chg [FB, OB] w1 W4 := by rw [hW4]; exact (SL.Chg.of_below hB3).trans (.setCell _ (by simp) _)
    have hF4 : W4.heap[FB]? = some (.cells #[.bool true] 4 (0, 0)) := by rw [hW4]; exact SL.heap_set kF _
    have hL4 : W4.heap[w2.heap.size + 1]? = some (.cells (ints gl) 101 (0, 0)) := by rw [hW4, Below.heap_setCell _ _ _ _ (by simp; omega)]; exact hh3
    have hO4 : W4.heap[OB]? = some (.cells #[.slice none 0 0] 27 (0, 0)) := by rw [hW4, Below.heap_setCell _ _ _ _ (by simp; omega)]; exact (hB3.block OB zO).trans hO
    have hz4 : w2.heap.size + 2 ≤ W4.heap.size := by rw [hW4]; simp [World.setCell]; omega
    clear hW4 kF1 kF2 kF hc5 kb
    go_loopw [7] (fun pv wr => ∃ (k : Nat) (j : Int) (v : Value) (l : List Int), pv = .int .i64 j ∧ 0 ≤ j ∧ j < 60 ∧ gi gr j < FAR ∧ Rch bs gl x k j ∧ chn bs gl n0 y = l ++ chn bs gl k j ∧ l.length + k = n0 ∧ SL.Chg [FB, OB] w1 wr ∧ w2.heap.size + 2 ≤ wr.heap.size ∧
      wr.heap[FB]? = some (.cells #[.bool true] 4 (0, 0)) ∧ wr.heap[w2.heap.size + 1]? = some (.cells (ints gl) 101 (0, 0)) ∧ wr.heap[OB]? = some (.cells #[v] 27 (0, 0)) ∧ wr.ownsRow (w2.heap.size + 2) 3 1 v l.length (l.map (.int .i64))) (fun pv _ => rkF bs gl x 60 (intOf pv))
    case atStart => exact ⟨n0, y, .slice none 0 0, [], rfl, y0, by omega, Hcmp.out.2 hD, HR0.out, rfl, by simp, hC4, by omega, hF4, hL4, hO4, World.ownsRow_nil _ _ _ _⟩
    case round =>
      obtain ⟨k, j, v, l, rfl, j0, j1, hjf, hRj, hch, hlk, hC, hz, hFr4, hLr, hOr, hown⟩ := hrel
      have HRj := Lib.hid hRj
      have Hch := Lib.hid hch
      clear hRj hch hC4 hF4 hL4 hO4 hz4 hD hDb
      have zz := hC.size
      have sS : SB < wr.heap.size := by omega
      have sA : BA < wr.heap.size := by omega
      have sF : FB < wr.heap.size := by omega
      have sO : OB < wr.heap.size := by omega
      have e0 := ((SL.Chg.cellsE hC).1 SB 0 zS nS).trans c0
      have e1 := ((SL.Chg.cellsE hC).1 SB 1 zS nS).trans c1
      have ea := ((SL.Chg.cellsE hC).1 BA 0 zA nA).trans ca
      have eF := (SL.cells_of hFr4).1 0
      have eO := (SL.cells_of hOr).1 0
      simp at eF eO
      have hbr := hb.chg hC hax
      by_cases hja : j = x
      · subst hja
        have hk : k = 0 := by
          cases k with
          | zero => rfl
          | succ m => exact absurd rfl HRj.out.1
        subst hk
        have hne : (j != j) = false := by simp
        have hlL : chn bs gl n0 y = l := by rw [Hch.out]; simp [chn]
        have HlL := Lib.hid hlL
        clear hlL
        have hR := greverse_any _ _ _ _ _ hown (by omega)
        go_wp2_with (go_at_call 113; refine hR.mono ?_; rintro e w5 ⟨rfl, ho5, hC5⟩)
        go_end0
        have hvb := SL.row_bounds hown
        have hnF : FB ∉ v.ownBlock.toList := fun h => by have := (hvb _ h).1; omega
        have hnO : OB ∉ v.ownBlock.toList := fun h => by have := (hvb _ h).1; omega
        refine ⟨rfl, ?_, hPend.out _ ?_ v l.reverse ((hC5.block OB sO hnO).trans hOr) ?_ ((hPL.out _).2 ⟨fun _ => ⟨by rw [← HlL.out]; exact HP0.out, fun e => by rw [← HlL.out, Rch.self HR0.out e]; rfl⟩, fun h => by have := Hcmp.out.2 HD.out; omega⟩) (by simp; omega)⟩
        · exact ⟨hC5.os.trans hC.os, hC5.tape.trans hC.tape, hC5.output.trans hC.output, Nat.le_trans hC.size hC5.size, fun i hi hn => (hC5.block i (by omega) (fun h => by have := (hvb _ h).1; omega)).trans (hC.block i hi hn)⟩
        · rw [(hC5.block FB sF hnF).trans hFr4]
          rw [decide_eq_true (Hcmp.out.2 HD.out)]
        · rw [List.length_reverse]; exact SL.row_base ho5 (by omega)
      · obtain ⟨m, rfl, hRm, hcm⟩ := chn_step HRj.out hja
        have hne : (j != x) = true := by simpa using hja
        obtain ⟨⟨g0, g1⟩, g2, g3, _⟩ := HPI.out.lead j j0 j1 hjf hja
        have hmem := bdI_mem ⟨g0, g1⟩
        obtain ⟨f0, f1, _, _, _, _⟩ := Hin.out _ hmem
        obtain ⟨b, off, rfl, hbl, d0, d1, d2, d3⟩ := hbr.get (i := (gi gl j).toNat) (by omega)
        have hbb : b ∉ [FB, OB] := hax _ rfl
        have ebd : bs.getD (gi gl j).toNat default = bdI bs (gi gl j) := rfl
        have hpr : prd bs gl j = (bdI bs (gi gl j)).frm := rfl
        rw [ebd] at d0 d1 d2 d3
        rw [hpr] at g3 hRm hcm
        have Hcm := Lib.hid hcm
        have HRm := Lib.hid hRm
        have HG2 := Lib.hid g2
        have HG3 := Lib.hid g3
        have eL := ((SL.cells_of hLr).1 j.toNat).trans (gi_cell j0 (by omega))
        clear hcm hRm g2 g3 hmem ebd hpr
        generalize bdI bs (gi gl j) = z at *
        generalize gi gl j = i at *
        have hvb := SL.row_bounds hown
        have hnm : ∀ k, k < w2.heap.size + 2 → k ≠ OB → k ∉ OB :: v.ownBlock.toList := fun k hk hne h => by
          rcases List.mem_cons.1 h with e | e
          · exact hne e
          · have := (hvb _ e).1; omega
        have hbO : b ≠ OB := by simp at hbb; exact hbb.2
        have hb2l : b < w2.heap.size + 2 := by have := (hb.at_ _ rfl).2.1; simp only at this; omega
        have hSO : SB ≠ OB := by simp at nS; exact nS.2
        have hAO : BA ≠ OB := by simp at nA; exact nA.2
        clear eF eO
        have eF := (SL.cells_of hFr4).1 0
        simp at eF
        go_wp2_with fail
        clear eF
        refine SL.rule (by kernel_rfl) (OB :: v.ownBlock.toList) [33, 34, 35, 36, 37, 38] [
          SL.pu 33 [7] v, SL.pu 34 [] (.int .i64 j), SL.pu 35 [1] (.pointer (some ⟨w2.heap.size + 1, j.toNat, none⟩)), SL.pu 36 [2] (.int .i64 i),
          SL.row 37 [3] [] (w2.heap.size + 2) 3 1 1 [.int .i64 i], SL.row 38 [0, 4, 8] [8] (w2.heap.size + 2) 3 1 (l.length + 1) (l.map (.int .i64) ++ [.int .i64 i]),
          SL.boxAtIn 4 [5, 7] [5, 7] OB 27 (w2.heap.size + 2) 3 1 (l.length + 1) (l.map (.int .i64) ++ [.int .i64 i]) (fun u => #[u]),
          SL.boxAt 4 [] [] OB 27 #[v], SL.rowV (w2.heap.size + 2) 3 1 l.length v (l.map (.int .i64))] [6] (by kernel_rfl) (by kernel_rfl) _
          (SL.br_held (N := OB) (l := v.ownBlock.toList) rfl rfl rfl ⟨rfl, hOr, rfl⟩ ⟨hown, rfl⟩ (by omega) (fun k hk => (hvb k hk).2)) (SL.br_apart (fun h => by have := (hvb _ h).1; omega)) ?_ ?_
        · refine ⟨?_, ?_, ?_, ?_, ?_, ?_, ?_, trivial⟩
          all_goals refine SL.ob fun us w' Fe hG hu hd hv K hK => ?_
          all_goals simp [SL.frame, SL.put', SL.Used, SL.Seen, SL.pu, SL.row, SL.box, SL.rowIn, SL.boxIn, SL.boxAt, SL.boxAtIn, Bd.v, Bd.cs, SL.rowV] at hu hv hK ⊢
          all_goals (have hsz := hG.size; simp only [World.size_drew] at hsz)
          all_goals (have qL := (hG.undrew.cellsE.1 (w2.heap.size + 1) j.toNat (by omega) (hnm _ (by omega) (by omega))).trans eL)
          all_goals clear eL d0 d1 d2 d3 e0 e1 ea
          · obtain ⟨u1, u2, _⟩ := hu
            have y1 := (SL.cells_of u2).1 0
            simp at y1
            go_step
            refine hK _ _ _ _ (by simp [Act.put, *]; done) (SL.Chg.refl _ _) rfl rfl (by simp)
          · (go_step; refine hK _ _ _ _ (by simp [Act.put, *]; done) (SL.Chg.refl _ _) rfl rfl (by simp))
          · (go_step; refine hK _ _ _ _ (by simp [Act.put, *]; done) (SL.Chg.refl _ _) rfl rfl (by simp))
          · (go_step; refine hK _ _ _ _ (by simp [Act.put, *]; done) (SL.Chg.refl _ _) rfl rfl (by simp))
          · go_step
            refine hK _ _ _ _ (by simp [Act.put, *]; done) (.alloc _ _ _) (World.ownsRow_lit w' _ 1 (by omega) (by decide) rfl) rfl (by simp [Value.ownBlock])
          · obtain ⟨⟨u1, _⟩, ⟨u2, u3⟩, u4, u5⟩ := hu
            obtain ⟨sa, c', hsl, _⟩ := owns_slice u2
            refine wp_app elemI _ _ rfl u4 u1 hsl (RowAt.of_owns (hsl ▸ u2)) (m := 1) rfl (by simp [Value.oneCell']) (by unfold maxLen; omega) (by omega) (by omega) ?_
            intro v' w5 ho hg hb9 _ hat
            refine hK _ v' w5 _ rfl ?_ ho rfl ?_
            · exact .of_own hg (by rw [u5]; simp)
            · rw [u5]; exact SL.app_bounds u4 ho hat
          · obtain ⟨⟨u2, u3⟩, hu4, u4, u5⟩ := hu
            obtain ⟨sa, c', hsl, _⟩ := owns_slice u2
            have y1 := (SL.cells_of u4).1 0
            have g0 := (SL.cells_of u4).2
            simp at y1
            have hne : OB ∉ (Value.slice sa (l.length + 1) c').ownBlock.toList := fun h => by have := (SL.row_bounds (hsl ▸ u2) _ h).1; omega
            rw [hsl] at u2 u3
            go_step
            refine hK _ undef _ _ (by simp [Act.put, *]; done) (.setCell _ (by simp [u5]) _) hu4 _ (SL.heap_set u4 _) (SL.row_set u2 hne _) rfl ?_
            rw [u5, u3]; simp; exact fun k h => .inl (.inl h)
        · intro us w6 Fs hG hu hbd hd
          simp [SL.frame, SL.put', SL.Used, SL.Seen, SL.pu, SL.row, SL.box, SL.rowIn, SL.boxIn, SL.boxAt, SL.boxAtIn, Bd.v, Bd.cs, SL.rowV] at hu ⊢
          obtain ⟨u4, vy, hh, ho, hF⟩ := hu
          have hsz := hG.size
          simp only [World.size_drew] at hsz
          have r0 := (hG.undrew.cellsE.1 SB 0 (by omega) (hnm _ (by omega) hSO)).trans e0
          have r1 := (hG.undrew.cellsE.1 SB 1 (by omega) (hnm _ (by omega) hSO)).trans e1
          have rL := (hG.undrew.cellsE.1 (w2.heap.size + 1) j.toNat (by omega) (hnm _ (by omega) (by omega))).trans eL
          have q0 := (hG.undrew.cellsE.1 b _ (by omega) (hnm _ hb2l hbO)).trans d0
          have kF := (hG.undrew.block FB (by omega) (hnm _ (by omega) nF)).trans hFr4
          have kL := (hG.undrew.block (w2.heap.size + 1) (by omega) (hnm _ (by omega) (by omega))).trans hLr
          have kC : SL.Chg [FB, OB] w1 w6 := ⟨hG.os.trans hC.os, hG.tape.trans hC.tape, hG.output.trans hC.output, by omega, fun i hi hn => (hG.undrew.block i (by omega) (hnm _ (by omega) (fun e => hn (by simp [e])))).trans (hC.block i hi hn)⟩
          clear e0 e1 ea eL d0 d1 d2 d3
          go_wp2_with fail
          go_quiet (fail)
          go_wp2
          go_roundw
          case rel =>
            refine ⟨m, z.frm, vy, l ++ [i], rfl, f0, f1, HG3.out, HRm.out, ?_, by simp; omega, kC.drewN, by simp; omega, kF, kL, hh, ?_⟩
            · rw [Hch.out, Hcm.out]; simp
            · rw [List.map_append, List.length_append]; exact row_drewN ho _
          case measure =>
            simp only [intOf]
            rw [rkF_eq m 60 _ (by omega) HRm.out, rkF_eq (m + 1) 60 _ (by omega) HRj.out]
            omega
  · have hDb : decide (gi gr y < 1099511627776) = false := by simpa using hD
    go_enter Try.func111, Try.ntmps111
    go_wp2_with (first
      | (go_at_call 112; refine hFr.mono ?_; rintro e w2 ⟨rfl, hb2⟩; have hz2 := hb2.size)
      | (refine wpList_strow_op rfl _ _ rfl rfl (g := w2.heap.size) rfl rfl ((Below.heap_alloc _ _ _ (by simp)).trans (World.alloc_heap_new _ _)) rfl hl1 ?_; intro W2 hc2 hh2
         have hzW2 := hc2.size
         simp only [World.size_alloc] at hzW2)
      | (refine wpList_starr_op rfl _ _ rfl rfl (g := w2.heap.size + 1) rfl rfl ((hc2.block _ (by simp) (by simp)).trans (heap_alloc2_new _ _ _)) rfl hl2 ?_; intro W3 hc3 hh3
         have hzW3 := hc3.size
         have hh4 := (hc3.block w2.heap.size (by omega) (by simp)).trans hh2
         have hc5 := ((SL.cells_of hh4).1 y.toNat).trans hc0
         have hB3 : Below w1.heap.size w1 W3 := by
           refine Below.trans ?_ (hc3.belowE (B := w1.heap.size) (by omega) (by simp; omega))
           refine Below.trans ?_ (hc2.belowE (B := w1.heap.size) (by simp; omega) (by simp; omega))
           exact (hb2.alloc (by omega) _).alloc (by simp; omega) _
         have kb := ((bcell hB3).1 BB 0 zB).trans cb
         have kF := (hB3.block FB zF).trans hF
         have kF1 := (SL.cells_of kF).1 0
         have kF2 := (SL.cells_of kF).2 0
         simp at kF1
         have sB3 : BB < W3.heap.size := by omega
         have sF3 : FB < W3.heap.size := by omega
         have nBF : BB ≠ FB := by simp at nB; exact nB.1))
    obtain ⟨W4, hW4⟩ : ∃ W4, W4 = W3.setCell ⟨FB, 0, none⟩ (.bool false) := ⟨_, rfl⟩
    try rw [← hW4]
    have hC4 : SL.Chg [FB, OB] w1 W4 := by rw [hW4]; exact (SL.Chg.of_below hB3).trans (.setCell _ (by simp) _)
    have hF4 : W4.heap[FB]? = some (.cells #[.bool false] 4 (0, 0)) := by rw [hW4]; exact SL.heap_set kF _
    have hL4 : W4.heap[w2.heap.size + 1]? = some (.cells (ints gl) 101 (0, 0)) := by rw [hW4, Below.heap_setCell _ _ _ _ (by simp; omega)]; exact hh3
    have hO4 : W4.heap[OB]? = some (.cells #[.slice none 0 0] 27 (0, 0)) := by rw [hW4, Below.heap_setCell _ _ _ _ (by simp; omega)]; exact (hB3.block OB zO).trans hO
    have hz4 : w2.heap.size + 2 ≤ W4.heap.size := by rw [hW4]; simp [World.setCell]; omega
    clear hW4 kF1 kF2 kF hc5 kb
    go_loopw [7] (fun pv wr => pv = .int .i64 y ∧ SL.Chg [FB, OB] w1 wr ∧
      wr.heap[FB]? = some (.cells #[.bool false] 4 (0, 0)) ∧ wr.heap[OB]? = some (.cells #[.slice none 0 0] 27 (0, 0))) (fun _ _ => 0)
    case atStart => exact ⟨rfl, hC4, hF4, hO4⟩
    case round =>
      obtain ⟨rfl, hC, hFr4, hOr⟩ := hrel
      have zz := hC.size
      have sF : FB < wr.heap.size := by omega
      have sO : OB < wr.heap.size := by omega
      have eF := (SL.cells_of hFr4).1 0
      have eO := (SL.cells_of hOr).1 0
      simp at eF eO
      have hR := greverse_any (.slice none 0 0) 0 wr.heap.size [] wr (World.ownsRow_nil _ _ _ _) (by simp)
      go_wp2_with (go_at_call 113; refine hR.mono ?_; rintro e w5 ⟨rfl, ho5, hC5⟩)
      go_end0
      refine ⟨rfl, ?_, hPend.out _ ?_ (.slice none 0 0) [] ((hC5.block OB sO (by simp [Value.ownBlock])).trans hOr) (World.ownsRow_nil _ _ _ _) ((hPL.out _).2 ⟨fun h => by exfalso; have := Hcmp.out.1 h; omega, fun _ => rfl⟩) (by simp)⟩
      · exact ⟨hC5.os.trans hC.os, hC5.tape.trans hC.tape, hC5.output.trans hC.output, Nat.le_trans hC.size hC5.size, fun i hi hn => (hC5.block i (by omega) (by simp [Value.ownBlock])).trans (hC.block i hi hn)⟩
      · rw [(hC5.block FB sF (by simp [Value.ownBlock])).trans hFr4]
        rw [decide_eq_false (fun h => by have := Hcmp.out.1 h; omega)]

theorem PthEnd.up {p : Int} {bs : List Bd} {x y : Int} {FB OB base base' : Nat} {w : World} (h : PthEnd p bs x y FB OB base w) (hb : base' ≤ base) : PthEnd p bs x y FB OB base' w := by
  obtain ⟨h1, v, L, h2, h3, h4⟩ := h
  exact ⟨h1, v, L, h2, SL.row_base h3 hb, h4⟩
theorem PthEnd.chg {p : Int} {bs : List Bd} {x y : Int} {FB OB base N : Nat} {w w' : World} (h : PthEnd p bs x y FB OB base w) (hc : SL.Chg [N] w w') (n1 : FB < N) (n2 : OB < N) (n3 : N < base) : PthEnd p bs x y FB OB base w' := by
  obtain ⟨h1, v, L, h2, h3, h4⟩ := h
  exact ⟨heap_chg h1 hc (by simp; omega), v, L, heap_chg h2 hc (by simp; omega), row_chg h3 hc (by simp; omega), h4⟩

theorem grB_far {p : Int} {bs : List Bd} {x y : Int} : grB p bs x y = (decide (askE p bs x y = 0) && decide (gD p bs x y < FAR)) := by
  unfold grB
  by_cases h : askE p bs x y = 0
  · obtain ⟨hc, hxy, _⟩ := askE_zero h
    obtain ⟨⟨x0, x1⟩, y0, y1⟩ := both_in hxy
    have := (gD_range (Sys.of_chk hc) x0 x1 y0 y1).2
    by_cases h2 : gD p bs x y = FAR
    · simp [h2]
    · have h3 : gD p bs x y < FAR := by omega
      simp [h, h2, h3]
  · simp [h]

theorem gPath_any (p : Int) (a : Option Addr) (n cap : Nat) (bs : List Bd) (x y : Int) (w : World) (hb : BdsAt w a n cap bs) :
    Calls Try.prog 61 #[.agg #[.int .i64 p, .slice a n cap], .int .i64 x, .int .i64 y] w fun e w' => ∃ v L, e = .returned (.tuple #[v, .bool (grB p bs x y), .int .i64 (askE p bs x y)]) ∧ Below w.heap.size w w' ∧ w'.ownsRow w.heap.size 3 1 v L.length (L.map (.int .i64)) ∧
      (askE p bs x y = 0 → PathL p bs x y L) ∧ (askE p bs x y ≠ 0 → L = []) ∧ L.length ≤ 60 := by
  have hmf := makeFunc_run
  generalize hw5 : ((((w.alloc (Obj.cells #[.int .i64 p, .slice a n cap] 24)).alloc (Obj.cells #[.int .i64 x] 3)).alloc (Obj.cells #[.int .i64 y] 3)).alloc (Obj.cells #[.slice none 0 0] 27)).alloc (Obj.cells #[.bool false] 4) = w5
  have hB5 : Below w.heap.size w w5 := by rw [← hw5]; ((repeat (first | assumption | exact Below.refl _ _ | refine Below.alloc ?_ ?_ _ | refine Below.setCell ?_ ?_ _ | refine Below.drew ?_ | refine belowN ?_ | refine Below.up ?_ (by assumption) ?_)) <;> (first | assumption | omega | (simp; done) | (simp; omega)))
  have z5 : w5.heap.size = w.heap.size + 5 := by rw [← hw5]; simp
  have c0 : w5.cell? ⟨w.heap.size, 0, none⟩ = some (.int .i64 p) := by rw [← hw5]; simp [go_sem]
  have c1 : w5.cell? ⟨w.heap.size, 1, none⟩ = some (.slice a n cap) := by rw [← hw5]; simp [go_sem]
  have c2 : w5.cell? ⟨w.heap.size + 1, 0, none⟩ = some (.int .i64 x) := by rw [← hw5]; simp [go_sem]
  have c3 : w5.cell? ⟨w.heap.size + 1 + 1, 0, none⟩ = some (.int .i64 y) := by rw [← hw5]; simp [go_sem]
  have h5 : w5.heap[w.heap.size + 1 + 1 + 1 + 1]? = some (.cells #[.bool false] 4 (0, 0)) := by
    rw [← hw5]
    have h := World.alloc_heap_new ((((w.alloc (Obj.cells #[.int .i64 p, .slice a n cap] 24)).alloc (Obj.cells #[.int .i64 x] 3)).alloc (Obj.cells #[.int .i64 y] 3)).alloc (Obj.cells #[.slice none 0 0] 27)) (Obj.cells #[.bool false] 4)
    simp only [World.size_alloc] at h
    exact h
  have h4 : w5.heap[w.heap.size + 1 + 1 + 1]? = some (.cells #[.slice none 0 0] 27 (0, 0)) := by
    rw [← hw5, Below.heap_alloc _ _ _ (by simp)]
    have h := World.alloc_heap_new (((w.alloc (Obj.cells #[.int .i64 p, .slice a n cap] 24)).alloc (Obj.cells #[.int .i64 x] 3)).alloc (Obj.cells #[.int .i64 y] 3)) (Obj.cells #[.slice none 0 0] 27)
    simp only [World.size_alloc] at h
    exact h
  have hax : ∀ z, a = some z → z.block < w.heap.size := fun z hz => (hb.at_ z hz).2.1
  have hA := gasked_any p a n cap bs x y 111 #[.pointer (some ⟨w.heap.size, 0, none⟩), .pointer (some ⟨w.heap.size + 1, 0, none⟩), .pointer (some ⟨w.heap.size + 1 + 1, 0, none⟩), .pointer (some ⟨w.heap.size + 1 + 1 + 1 + 1, 0, none⟩), .pointer (some ⟨w.heap.size + 1 + 1 + 1, 0, none⟩)] w5 (hb.below hB5)
    [w.heap.size + 1 + 1 + 1 + 1, w.heap.size + 1 + 1 + 1] (by simp; omega) (PthEnd p bs x y (w.heap.size + 1 + 1 + 1 + 1) (w.heap.size + 1 + 1 + 1) (w5.heap.size + 6))
    (fun w1 w3 h hc => h.chg hc (by omega) (by omega) (by omega)) (enters_of Try.func111 (by kernel_rfl) rfl)
    (fun h0 w3 hb3 hz3 => by
      obtain ⟨q0, q1, q2⟩ := askE_zero h0
      have hc := (bcell hb3).1
      refine (gPath1_any p a n cap bs x y _ _ _ _ _ w3 q0 q2 ((hb.below hB5).below hb3) q1 ((hc _ _ (by omega)).trans c0) ((hc _ _ (by omega)).trans c1) ((hc _ _ (by omega)).trans c2) ((hc _ _ (by omega)).trans c3) ((hb3.block _ (by omega)).trans h5) ((hb3.block _ (by omega)).trans h4) (fun z hz => by have := hax z hz; simp; omega) (by first | (simp; done) | (simp; omega)) (by first | (simp; done) | (simp; omega)) (by first | (simp; done) | (simp; omega)) (by first | omega | (simp; omega))).mono ?_
      rintro e w' ⟨rfl, hC, hE⟩
      exact ⟨rfl, hC, hE.up hz3⟩)
  have hcell : ∀ w6 : World, SL.Chg [w.heap.size + 1 + 1 + 1 + 1, w.heap.size + 1 + 1 + 1] w5 w6 → (askE p bs x y = 0 → PthEnd p bs x y (w.heap.size + 1 + 1 + 1 + 1) (w.heap.size + 1 + 1 + 1) (w5.heap.size + 6) w6) → (askE p bs x y ≠ 0 → Below w5.heap.size w5 w6) →
      Below w.heap.size w w6 ∧ ∃ v L, w6.cell? ⟨w.heap.size + 1 + 1 + 1, 0, none⟩ = some v ∧ w6.cell? ⟨w.heap.size + 1 + 1 + 1 + 1, 0, none⟩ = some (.bool (grB p bs x y)) ∧ w6.ownsRow w.heap.size 3 1 v L.length (L.map (.int .i64)) ∧ (askE p bs x y = 0 → PathL p bs x y L) ∧ (askE p bs x y ≠ 0 → L = []) ∧ L.length ≤ 60 := fun w6 hC hS hnS => by
    refine ⟨hB5.trans (hC.belowE (by omega) (by simp; omega)), ?_⟩
    by_cases h0 : askE p bs x y = 0
    · obtain ⟨r1, v, L, r2, r3, r4, r5⟩ := hS h0
      have k1 := (SL.cells_of r1).1 0
      have k2 := (SL.cells_of r2).1 0
      refine ⟨v, L, by simpa using k2, ?_, SL.row_base r3 (by omega), fun _ => r4, fun h => absurd h0 h, r5⟩
      rw [grB_far, decide_eq_true h0]
      simpa using k1
    · have hB := hnS h0
      have k1 := (SL.cells_of ((hB.block _ (by omega)).trans h5)).1 0
      have k2 := (SL.cells_of ((hB.block _ (by omega)).trans h4)).1 0
      refine ⟨.slice none 0 0, [], by simpa using k2, ?_, World.ownsRow_nil _ _ _ _, fun h => absurd h h0, fun _ => rfl, by simp⟩
      rw [grB_far, decide_eq_false h0]
      simpa using k1
  subst hw5
  generalize grB p bs x y = g at *
  generalize askE p bs x y = q at *
  go_enter Try.func61, Try.ntmps61
  go_wp2_with fail
  refine hA.mono ?_
  rintro e w6 ⟨rfl, hC, hS, hnS⟩
  obtain ⟨hB6, v, L, hv, hg, ho, r1⟩ := hcell w6 hC hS hnS
  have Hr := Lib.hid r1
  clear hA hcell hS hnS r1
  go_wp2_with fail
  go_quiet (fail)
  go_wp2
  refine bodyPost_ret (v := .tuple #[v, .bool g, .int .i64 q]) (by simp [results, Try.results61, go_sem, *]) rfl ⟨v, L, rfl, belowN hB6, row_drewN ho _, Hr.out⟩
end Go.Proofs.Ytlkcfohmoeadbaa

/-
  The reference of layer 1, walked: walk.
-/
namespace Go.Proofs.Ytlkcfohmoeadbaa
open Go.RowKit Go.Shelf
set_option maxHeartbeats 4000000
set_option maxRecDepth 100000

theorem getLast_getD {l : List Int} {m : Nat} (h : l.length = m + 1) : l.getLast? = some (l.getD m 0) := by
  rw [List.getLast?_eq_getElem?, h, List.getD_eq_getElem?_getD]
  simp [List.getElem?_eq_getElem (show m < l.length by omega)]
theorem disj_app {w w' : World} {v v' u : Value} {base n : Nat} {ts : List Value} (hd : ∀ q ∈ v.ownBlock.toList, q ∉ u.ownBlock.toList) (hat : v'.ownBlock = v.ownBlock ∨ v'.ownBlock = some w.heap.size) (hu : w.ownsRow base 3 1 u n ts) : ∀ q ∈ v'.ownBlock.toList, q ∉ u.ownBlock.toList := by
  intro q hq
  rcases hat with h | h
  · rw [h] at hq; exact hd q hq
  · rw [h] at hq
    simp at hq
    subst hq
    intro hm
    have := (SL.row_bounds hu _ hm).2
    omega

def rwS (bs : List Bd) (l : List Int) : Int := if wkO bs l none [] [] then wsum bs l else 0


theorem rwalk_any (p : Int) (a : Option Addr) (n cap : Nat) (bs : List Bd) (al : Option Addr) (m c : Nat) (xs : List Int) (w : World) (hb : BdsAt w a n cap bs) (hx : IntsAt w al m c xs) (hs : Sys p bs) (hl : xs.length ≤ 1000) :
    Calls Try.prog 106 #[.agg #[.int .i64 p, .slice a n cap], .slice al m c] w fun e w' => e = .returned (.tuple #[.int .i64 (rwS bs xs), .bool (wkO bs xs none [] [])]) ∧ Below w.heap.size w w' := by
  have hlb := hs.len
  obtain rfl := hb.len
  obtain rfl := hx.len
  have HR0 := Lib.hid (show (wkO bs xs none [] [] = false → rwS bs xs = 0) ∧ (wkO bs xs none [] [] = false → wkO bs xs none [] [] = false) from ⟨fun h => by unfold rwS; rw [h]; rfl, id⟩)
  have HR1 := Lib.hid (show wkO bs xs none [] [] = true → rwS bs xs = wsum bs xs from fun h => by unfold rwS; rw [h]; rfl)
  have HW0 := Lib.hid (show wkO bs xs none [] [] = wkO bs (xs.drop 0) none [] [] from rfl)
  generalize wkO bs xs none [] [] = RB at *
  generalize rwS bs xs = RS at *
  go_enter Try.func106, Try.ntmps106
  go_wp2_with fail
  go_loopw [6, 7, 8, 9] (fun s vf vt i wr => ∃ (k : Nat) (S : Int) (fs ts : List Int), k ≤ xs.length ∧ i = .int .i64 k ∧ s = .int .i64 S ∧ fs.length = k ∧ ts.length = k ∧ -(k * 100000000) ≤ S ∧ S ≤ k * 100000000 ∧ Below w.heap.size w wr ∧ w.heap.size < wr.heap.size ∧ wr.cell? ⟨w.heap.size, 1, none⟩ = some (.slice a bs.length cap) ∧
      wr.ownsRow (w.heap.size + 1) 3 1 vf k (fs.map (.int .i64)) ∧ wr.ownsRow (w.heap.size + 1) 3 1 vt k (ts.map (.int .i64)) ∧ (∀ q ∈ vf.ownBlock.toList, q ∉ vt.ownBlock.toList) ∧
      RB = wkO bs (xs.drop k) ts.getLast? fs ts ∧ wsum bs xs = S + wsum bs (xs.drop k)) (fun _ _ _ i _ => xs.length - (intOf i).toNat)
  case atStart => exact ⟨0, 0, [], [], Nat.zero_le _, rfl, rfl, rfl, rfl, by omega, by omega, by ((repeat (first | assumption | exact Below.refl _ _ | refine Below.alloc ?_ ?_ _ | refine Below.setCell ?_ ?_ _ | refine Below.drew ?_ | refine belowN ?_ | refine Below.up ?_ (by assumption) ?_)) <;> (first | assumption | omega | (simp; done) | (simp; omega))), by simp, by simp [go_sem], World.ownsRow_nil _ _ _ _, World.ownsRow_nil _ _ _ _, by simp [Value.ownBlock], HW0.out, by simp⟩
  case round =>
    obtain ⟨k, S, fs, ts, hk, rfl, rfl, hfl, htl, hS0, hS1, hB, hz, c1, hof, hot, hdj, w1, w2⟩ := hrel
    obtain ⟨fa, fc, rfl, _⟩ := owns_slice hof
    obtain ⟨ta, tc, rfl, _⟩ := owns_slice hot
    have W1 := Lib.hid w1
    have W2 := Lib.hid w2
    have Hfl := Lib.hid hfl
    have Htl := Lib.hid htl
    clear w1 w2 HW0 hfl htl
    have s0 : w.heap.size < wr.heap.size := hz
    by_cases hlt : k < xs.length
    · obtain ⟨lb, loff, rfl, hlbl, d0⟩ := (hx.below hB).get hlt
      have hdr : xs.drop k = xs.getD k 0 :: xs.drop (k + 1) := by rw [List.drop_eq_getElem_cons hlt, List.getD_eq_getElem?_getD, List.getElem?_eq_getElem hlt]; rfl
      generalize xs.getD k 0 = i at *
      have Hdr := Lib.hid hdr
      clear hdr
      by_cases hi : 0 ≤ i ∧ i < bs.length
      · obtain ⟨b2, off2, rfl, hbl2, d1, d2, d3, d4⟩ := (hb.below hB).get (i := i.toNat) (by omega)
        have hmem := bdI_mem hi
        obtain ⟨f0, f1, t0, t1, m0, m1⟩ := hs.inr _ hmem
        have ebd : bs.getD i.toNat default = bdI bs i := rfl
        rw [ebd] at d1 d2 d3 d4
        have HS := Lib.hid (show RB = (ts.getLast?.all (· == (bdI bs i).frm) && !fs.any (· == (bdI bs i).frm) && !ts.any (· == (bdI bs i).tow) && wkO bs (xs.drop (k + 1)) (some (bdI bs i).tow) (fs ++ [(bdI bs i).frm]) (ts ++ [(bdI bs i).tow])) from by rw [W1.out, Hdr.out, wkO, decide_eq_true hi]; simp)
        have HW := Lib.hid (show wsum bs xs = S + ((bdI bs i).most + wsum bs (xs.drop (k + 1))) from by rw [W2.out, Hdr.out, wsum])
        generalize bdI bs i = z at *
        clear ebd hmem W1 W2
        obtain ⟨i0, i1⟩ := hi
        have i1' : i < (bs.length : Int) := i1
        have e1 : decide (i < 0) = false := by simp; omega
        have e2 : decide ((bs.length : Int) ≤ i) = false := by simp; omega
        go_wp2_with fail
        go_quiet (fail)
        go_wp2_with fail
        have hbz := SL.row_bounds hof
        refine SL.rule (by kernel_rfl) [] [34, 35, 36, 37, 38, 39, 40, 41, 10] [
          SL.pu 34 [] (.pointer (some ⟨w.heap.size, 1, none⟩)), SL.pu 35 [0] (.slice (some ⟨b2, off2, none⟩) bs.length cap), SL.pu 36 [] (.slice (some ⟨lb, loff, none⟩) xs.length c), SL.pu 37 [] (.int .i64 k), SL.pu 38 [2, 3] (.pointer (some ⟨lb, loff + k, none⟩)), SL.pu 39 [4] (.int .i64 i),
          SL.pu 40 [1, 5] (.pointer (some ⟨b2, off2 + i.toNat * 4, none⟩)), SL.pu 41 [6] (.agg #[.int .i64 z.frm, .int .i64 z.tow, .int .i64 z.most, .int .i64 z.bid]),
          SL.box 10 [] [] wr.heap.size 39 #[.int .i64 0, .int .i64 0, .int .i64 0, .int .i64 0], SL.box 10 [7, 8] [8] wr.heap.size 39 #[.int .i64 z.frm, .int .i64 z.tow, .int .i64 z.most, .int .i64 z.bid]] [9] (by kernel_rfl) (by kernel_rfl) (fun _ => []) (SL.none_held rfl) (by simp) ?_ ?_
        · refine ⟨?_, ?_, ?_, ?_, ?_, ?_, ?_, ?_, ?_, ?_, trivial⟩
          all_goals refine SL.ob fun us w' Fe hG hu hd hv K hK => ?_
          all_goals simp [SL.frame, SL.put', SL.Used, SL.Seen, SL.pu, SL.row, SL.box, SL.rowIn, SL.boxIn, SL.boxAt, SL.boxAtIn, Bd.v, Bd.cs] at hu hv hK ⊢
          all_goals (have hcc := (bcell hG.below').1)
          all_goals (have q1 := (hcc _ 1 (by simpa using s0)).trans c1)
          all_goals (have q0 := (hcc _ _ (by simpa using hlbl)).trans d0)
          all_goals (have g1 := (hcc _ _ (by simpa using hbl2)).trans d1)
          all_goals (have g2 := (hcc _ _ (by simpa using hbl2)).trans d2)
          all_goals (have g3 := (hcc _ _ (by simpa using hbl2)).trans d3)
          all_goals (have g4 := (hcc _ _ (by simpa using hbl2)).trans d4)
          all_goals (have hsz := hG.size; simp only [World.size_drew] at hsz)
          all_goals clear hcc d0 d1 d2 d3 d4 c1
          all_goals try (go_step; refine hK _ _ _ _ (by simp [Act.put, *]; done) (SL.Chg.refl _ _) rfl rfl (by simp))
          · go_step
            refine hK _ _ _ _ (by simp [Act.put, *]; done) (.alloc _ _ _) _ rfl hsz (World.alloc_heap_new _ _) rfl ?_
            simp
          · obtain ⟨⟨u1, _⟩, N, u2, u3, u4, u5⟩ := hu
            have y0 := (SL.cells_of u4).1 0
            have y1 := (SL.cells_of u4).1 1
            have y2 := (SL.cells_of u4).1 2
            have y3 := (SL.cells_of u4).1 3
            have ff := (SL.cells_of u4).2
            simp at y0 y1 y2 y3
            go_step
            refine hK _ undef _ _ (by simp [Act.put, *]; done) ((((SL.Chg.setCell _ (by simp [u5]) _).trans (.setCell _ (by simp [u5]) _)).trans (.setCell _ (by simp [u5]) _)).trans (.setCell _ (by simp [u5]) _)) N u2 u3 (SL.heap_set (SL.heap_set (SL.heap_set (SL.heap_set u4 _) _) _) _) rfl ?_
            simp [u5]
        · intro us w6 Fs hG hu hbd hd
          simp [SL.frame, SL.put', SL.Used, SL.Seen, SL.pu, SL.row, SL.box, SL.rowIn, SL.boxIn, SL.boxAt, SL.boxAtIn, Bd.v, Bd.cs] at hu ⊢
          obtain ⟨N, u2, u3, u4, u5⟩ := hu
          have hBz : Below wr.heap.size wr w6 := ⟨hG.os, hG.tape, hG.output, hG.size, fun k hk => hG.block k hk (by simp)⟩
          have hz6 := hBz.size
          have zN := (Array.getElem?_eq_some_iff.1 u4).1
          have y0 := (SL.cells_of u4).1 0
          have y1 := (SL.cells_of u4).1 1
          have y2 := (SL.cells_of u4).1 2
          simp at y0 y1 y2
          have hf6 := World.ownsRow.up hof hBz (Nat.le_refl _)
          have ht6 := World.ownsRow.up hot hBz (Nat.le_refl _)
          have hH1 := rhas_any fa k fc fs z.frm w6 (IntsAt.of_owns hf6 (by have := Hfl.out; omega))
          have hH2 := rhas_any ta k tc ts z.tow w6 (IntsAt.of_owns ht6 (by have := Htl.out; omega))
          have c16 := ((bcell hBz).1 _ 1 s0).trans c1
          simp only [u2]
          clear hbd hd d0 d1 d2 d3 d4
          cases hA : fs.any (· == z.frm) with
          | true =>
            have hno : RB = false := by rw [HS.out, hA]; simp
            rw [hA] at hH1
            clear hA
            go_wp2_with fail
            refine hH1.mono ?_
            rintro e w7 ⟨rfl, rfl⟩
            go_wp2_with fail
            refine hH2.mono ?_
            rintro e w7 ⟨rfl, rfl⟩
            go_wp2_with fail
            go_quiet (fail)
            go_wp2
            refine bodyPost_ret (v := .tuple #[.int .i64 0, .bool false]) (by simp [results, Try.results106, go_sem, *]) rfl ⟨by rw [HR0.out.1 hno, HR0.out.2 hno], belowN (hB.trans (hBz.mono hB.size))⟩
          | false =>
            cases hA2 : ts.any (· == z.tow) with
            | true =>
              have hno : RB = false := by rw [HS.out, hA2]; simp
              rw [hA] at hH1
              rw [hA2] at hH2
              clear hA hA2
              go_wp2_with fail
              refine hH1.mono ?_
              rintro e w7 ⟨rfl, rfl⟩
              go_wp2_with fail
              refine hH2.mono ?_
              rintro e w7 ⟨rfl, rfl⟩
              go_wp2_with fail
              go_quiet (fail)
              go_wp2
              refine bodyPost_ret (v := .tuple #[.int .i64 0, .bool false]) (by simp [results, Try.results106, go_sem, *]) rfl ⟨by rw [HR0.out.1 hno, HR0.out.2 hno], belowN (hB.trans (hBz.mono hB.size))⟩
            | false =>
              rw [hA] at hH1
              rw [hA2] at hH2
              have HAll := Lib.hid (And.intro hA hA2)
              clear hA hA2
              cases k with
              | zero =>
                have htn : ts = [] := List.length_eq_zero_iff.1 Htl.out
                have HG : Hid (RB = wkO bs (xs.drop 1) (some z.tow) (fs ++ [z.frm]) (ts ++ [z.tow])) := Lib.hid (by rw [HS.out, HAll.out.1, HAll.out.2, htn]; simp)
                clear htn
                have hwr : IntKind.i64.wrap (S + z.most) = S + z.most := IntWalk.i64_in _ (by omega)
                go_wp2_with fail
                refine hH1.mono ?_
                rintro e w7 ⟨rfl, rfl⟩
                go_wp2_with fail
                refine hH2.mono ?_
                rintro e w7 ⟨rfl, rfl⟩
                go_wp2_with fail
                go_quiet (fail)
                have kf := row_drewN hf6 nq
                have kt := row_drewN ht6 nq
                have kB : Below wr.heap.size wr (w6.drewN nq) := belowN hBz
                have kN : (w6.drewN nq).heap[N]? = some (.cells #[.int .i64 z.frm, .int .i64 z.tow, .int .i64 z.most, .int .i64 z.bid] 39 (0, 0)) := u4
                have kc : (w6.drewN nq).cell? ⟨w.heap.size, 1, none⟩ = some (.slice (some ⟨b2, off2, none⟩) bs.length cap) := c16
                clear y0 y1 y2 c16 hf6 ht6 hBz hz6 zN u4 hG
                generalize w6.drewN nq = w7 at *
                have zN := (Array.getElem?_eq_some_iff.1 kN).1
                have z7 := kB.size
                have y0 := (SL.cells_of kN).1 0
                have y1 := (SL.cells_of kN).1 1
                have y2 := (SL.cells_of kN).1 2
                simp at y0 y1 y2
                have hfb := SL.row_bounds kf
                have htb := SL.row_bounds kt
                have hfb0 := SL.row_bounds hof
                have htb0 := SL.row_bounds hot
                go_wp2_with (at_builtin; refine wpList_app elemI rfl _ _ rfl (World.ownsRow.up kf ((Below.refl _ _).alloc (Nat.le_refl _) (Obj.cells #[.int .i64 z.frm] 3)) (Nat.le_refl _)) rfl rfl (RowAt.of_heap (World.alloc_heap_new w7 _)) (by simp) (ones_int [z.frm]) ?_ ?_ ?_ ?_)
                · unfold maxLen; omega
                · omega
                · simp; omega
                · intro v8 w8 ho8 hg8 hb8 _ hat8
                  obtain ⟨va, vc, rfl, _⟩ := owns_slice ho8
                  have hz8 := hg8.size
                  simp only [World.size_alloc] at hz8
                  have hA7 := (Below.refl _ w7).alloc (Nat.le_refl _) (Obj.cells #[.int .i64 z.frm] 3)
                  have kt8 := SL.row_stab (World.ownsRow.up kt hA7 (Nat.le_refl _)) (fun q hq => hg8.block q (by have := (htb q hq).2; simp; omega) (fun e => hdj q (by rw [← e]; simp) hq))
                  have hNf : some N ≠ (Value.slice fa 0 fc).ownBlock := fun e => by have := (hfb0 N (by rw [← e]; simp)).2; omega
                  have hNt : some N ≠ (Value.slice ta 0 tc).ownBlock := fun e => by have := (htb0 N (by rw [← e]; simp)).2; omega
                  have kN8 := (hg8.block N (by simp; omega) hNf).trans ((hA7.block N zN).trans kN)
                  have kB8 : Below (w.heap.size + 1) w7 w8 := ((Below.refl _ _).alloc (by omega) _).trans hb8
                  have kd8 := disj_app (w' := w8) (u := .slice ta 0 tc) hdj (by rcases hat8 with h | h; exact .inl h; exact .inr (by simpa using h)) (World.ownsRow.up kt hA7 (Nat.le_refl _))
                  have x0 := (SL.cells_of kN8).1 0
                  have x1 := (SL.cells_of kN8).1 1
                  have x2 := (SL.cells_of kN8).1 2
                  simp at x0 x1 x2
                  have zN8 : N < w8.heap.size := by omega
                  clear y0 y1 y2
                  go_wp2_with (at_builtin; refine wpList_app elemI rfl _ _ rfl (World.ownsRow.up kt8 ((Below.refl _ _).alloc (Nat.le_refl _) (Obj.cells #[.int .i64 z.tow] 3)) (Nat.le_refl _)) rfl rfl (RowAt.of_heap (World.alloc_heap_new w8 _)) (by simp) (ones_int [z.tow]) ?_ ?_ ?_ ?_)
                  · unfold maxLen; omega
                  · omega
                  · simp; omega
                  · intro v9 w9 ho9 hg9 hb9 _ hat9
                    obtain ⟨vb, vd, rfl, _⟩ := owns_slice ho9
                    have hz9 := hg9.size
                    simp only [World.size_alloc] at hz9
                    have hA8 := (Below.refl _ w8).alloc (Nat.le_refl _) (Obj.cells #[.int .i64 z.tow] 3)
                    have hfb8 := SL.row_bounds ho8
                    have kf9 := SL.row_stab (World.ownsRow.up ho8 hA8 (Nat.le_refl _)) (fun q hq => hg9.block q (by have := (hfb8 q hq).2; simp; omega) (fun e => kd8 q hq (by rw [← e]; simp)))
                    have kN9 := (hg9.block N (by simp; omega) hNt).trans ((hA8.block N zN8).trans kN8)
                    have kB9 : Below (w.heap.size + 1) w8 w9 := ((Below.refl _ _).alloc (by omega) _).trans hb9
                    have x20 := (SL.cells_of kN9).1 2
                    simp at x20
                    have zN9 : N < w9.heap.size := by omega
                    have hkc := ((bcell kB9).1 _ 1 (by omega)).trans (((bcell kB8).1 _ 1 (by omega)).trans kc)
                    clear x0 x1 x2 kc
                    go_wp2
                    go_roundw
                    case rel =>
                      refine ⟨0 + 1, S + z.most, fs ++ [z.frm], ts ++ [z.tow], by omega, by go_num, rfl, by have := Hfl.out; simp [this], by have := Htl.out; simp [this], by push_cast; omega, by push_cast; omega, hB.trans ((kB.mono hB.size).trans ((kB8.mono (by omega)).trans (kB9.mono (by omega)))), by omega, hkc, by simpa using kf9, by simpa using ho9, ?_, by rw [HG.out]; simp, by rw [HW.out]; omega⟩
                      intro q hq hm
                      rcases hat9 with h | h
                      · rw [h] at hm; exact kd8 q hq hm
                      · rw [h] at hm
                        simp at hm
                        have := (hfb8 q hq).2
                        omega
                    case measure => simp [intOf]; omega
              | succ j =>
                have hlast : ts.getLast? = some (ts.getD j 0) := getLast_getD Htl.out
                have HG0 : Hid (RB = ((ts.getD j 0 == z.frm) && wkO bs (xs.drop (j + 1 + 1)) (some z.tow) (fs ++ [z.frm]) (ts ++ [z.tow]))) := Lib.hid (by rw [HS.out, HAll.out.1, HAll.out.2, hlast]; simp)
                clear hlast
                have hti : IntsAt w6 ta (j + 1) tc ts := IntsAt.of_owns ht6 (by have := Htl.out; omega)
                obtain ⟨tb, toff, rfl, htbl, dt⟩ := hti.get (i := j) (by rw [Htl.out]; omega)
                generalize hu : ts.getD j 0 = u at *
                have Hu := Lib.hid hu
                clear hu
                have hwj : IntKind.i64.wrap ((j : Int) + 1 - 1) = j := by rw [show (j : Int) + 1 - 1 = j by omega]; exact IntWalk.i64_in _ (by omega)
                have hgt : decide ((0 : Int) < (j : Int) + 1) = true := decide_eq_true (by omega)
                by_cases hu2 : u = z.frm
                · have HG : Hid (RB = wkO bs (xs.drop (j + 1 + 1)) (some z.tow) (fs ++ [z.frm]) (ts ++ [z.tow])) := Lib.hid (by rw [HG0.out, hu2]; simp)
                  subst hu2
                  have hne : (z.frm != z.frm) = false := by simp
                  have hwr : IntKind.i64.wrap (S + z.most) = S + z.most := IntWalk.i64_in _ (by omega)
                  go_wp2_with fail
                  refine hH1.mono ?_
                  rintro e w7 ⟨rfl, rfl⟩
                  go_wp2_with fail
                  refine hH2.mono ?_
                  rintro e w7 ⟨rfl, rfl⟩
                  go_wp2_with fail
                  go_quiet (fail)
                  have kf := row_drewN hf6 nq
                  have kt := row_drewN ht6 nq
                  have kB : Below wr.heap.size wr (w6.drewN nq) := belowN hBz
                  have kN : (w6.drewN nq).heap[N]? = some (.cells #[.int .i64 z.frm, .int .i64 z.tow, .int .i64 z.most, .int .i64 z.bid] 39 (0, 0)) := u4
                  have kc : (w6.drewN nq).cell? ⟨w.heap.size, 1, none⟩ = some (.slice (some ⟨b2, off2, none⟩) bs.length cap) := c16
                  clear y0 y1 y2 c16 hf6 ht6 hBz hz6 zN u4 hG
                  generalize w6.drewN nq = w7 at *
                  have zN := (Array.getElem?_eq_some_iff.1 kN).1
                  have z7 := kB.size
                  have y0 := (SL.cells_of kN).1 0
                  have y1 := (SL.cells_of kN).1 1
                  have y2 := (SL.cells_of kN).1 2
                  simp at y0 y1 y2
                  have hfb := SL.row_bounds kf
                  have htb := SL.row_bounds kt
                  have hfb0 := SL.row_bounds hof
                  have htb0 := SL.row_bounds hot
                  go_wp2_with (at_builtin; refine wpList_app elemI rfl _ _ rfl (World.ownsRow.up kf ((Below.refl _ _).alloc (Nat.le_refl _) (Obj.cells #[.int .i64 z.frm] 3)) (Nat.le_refl _)) rfl rfl (RowAt.of_heap (World.alloc_heap_new w7 _)) (by simp) (ones_int [z.frm]) ?_ ?_ ?_ ?_)
                  · unfold maxLen; omega
                  · omega
                  · simp; omega
                  · intro v8 w8 ho8 hg8 hb8 _ hat8
                    obtain ⟨va, vc, rfl, _⟩ := owns_slice ho8
                    have hz8 := hg8.size
                    simp only [World.size_alloc] at hz8
                    have hA7 := (Below.refl _ w7).alloc (Nat.le_refl _) (Obj.cells #[.int .i64 z.frm] 3)
                    have kt8 := SL.row_stab (World.ownsRow.up kt hA7 (Nat.le_refl _)) (fun q hq => hg8.block q (by have := (htb q hq).2; simp; omega) (fun e => hdj q (by rw [← e]; simp) hq))
                    have hNf : some N ≠ (Value.slice fa (j + 1) fc).ownBlock := fun e => by have := (hfb0 N (by rw [← e]; simp)).2; omega
                    have hNt : some N ≠ (Value.slice (some ⟨tb, toff, none⟩) (j + 1) tc).ownBlock := fun e => by have := (htb0 N (by rw [← e]; simp)).2; omega
                    have kN8 := (hg8.block N (by simp; omega) hNf).trans ((hA7.block N zN).trans kN)
                    have kB8 : Below (w.heap.size + 1) w7 w8 := ((Below.refl _ _).alloc (by omega) _).trans hb8
                    have kd8 := disj_app (w' := w8) (u := .slice (some ⟨tb, toff, none⟩) (j + 1) tc) hdj (by rcases hat8 with h | h; exact .inl h; exact .inr (by simpa using h)) (World.ownsRow.up kt hA7 (Nat.le_refl _))
                    have x0 := (SL.cells_of kN8).1 0
                    have x1 := (SL.cells_of kN8).1 1
                    have x2 := (SL.cells_of kN8).1 2
                    simp at x0 x1 x2
                    have zN8 : N < w8.heap.size := by omega
                    clear y0 y1 y2
                    go_wp2_with (at_builtin; refine wpList_app elemI rfl _ _ rfl (World.ownsRow.up kt8 ((Below.refl _ _).alloc (Nat.le_refl _) (Obj.cells #[.int .i64 z.tow] 3)) (Nat.le_refl _)) rfl rfl (RowAt.of_heap (World.alloc_heap_new w8 _)) (by simp) (ones_int [z.tow]) ?_ ?_ ?_ ?_)
                    · unfold maxLen; omega
                    · omega
                    · simp; omega
                    · intro v9 w9 ho9 hg9 hb9 _ hat9
                      obtain ⟨vb, vd, rfl, _⟩ := owns_slice ho9
                      have hz9 := hg9.size
                      simp only [World.size_alloc] at hz9
                      have hA8 := (Below.refl _ w8).alloc (Nat.le_refl _) (Obj.cells #[.int .i64 z.tow] 3)
                      have hfb8 := SL.row_bounds ho8
                      have kf9 := SL.row_stab (World.ownsRow.up ho8 hA8 (Nat.le_refl _)) (fun q hq => hg9.block q (by have := (hfb8 q hq).2; simp; omega) (fun e => kd8 q hq (by rw [← e]; simp)))
                      have kN9 := (hg9.block N (by simp; omega) hNt).trans ((hA8.block N zN8).trans kN8)
                      have kB9 : Below (w.heap.size + 1) w8 w9 := ((Below.refl _ _).alloc (by omega) _).trans hb9
                      have x20 := (SL.cells_of kN9).1 2
                      simp at x20
                      have zN9 : N < w9.heap.size := by omega
                      have hkc := ((bcell kB9).1 _ 1 (by omega)).trans (((bcell kB8).1 _ 1 (by omega)).trans kc)
                      clear x0 x1 x2 kc
                      go_wp2
                      go_roundw
                      case rel =>
                        refine ⟨(j + 1) + 1, S + z.most, fs ++ [z.frm], ts ++ [z.tow], by omega, by go_num, rfl, by have := Hfl.out; simp [this], by have := Htl.out; simp [this], by push_cast; omega, by push_cast; omega, hB.trans ((kB.mono hB.size).trans ((kB8.mono (by omega)).trans (kB9.mono (by omega)))), by omega, hkc, by simpa using kf9, by simpa using ho9, ?_, by rw [HG.out]; simp, by rw [HW.out]; omega⟩
                        intro q hq hm
                        rcases hat9 with h | h
                        · rw [h] at hm; exact kd8 q hq hm
                        · rw [h] at hm
                          simp at hm
                          have := (hfb8 q hq).2
                          omega
                      case measure => simp [intOf]; omega
                · have hne : (u != z.frm) = true := by simpa using hu2
                  have hno : RB = false := by rw [HG0.out]; have : (u == z.frm) = false := by simpa using hu2
                                              rw [this]; rfl
                  go_wp2_with fail
                  refine hH1.mono ?_
                  rintro e w7 ⟨rfl, rfl⟩
                  go_wp2_with fail
                  refine hH2.mono ?_
                  rintro e w7 ⟨rfl, rfl⟩
                  go_wp2_with fail
                  go_quiet (fail)
                  go_wp2
                  refine bodyPost_ret (v := .tuple #[.int .i64 0, .bool false]) (by simp [results, Try.results106, go_sem, *]) rfl ⟨by rw [HR0.out.1 hno, HR0.out.2 hno], belowN (hB.trans (hBz.mono hB.size))⟩
      · have hno : RB = false := by rw [W1.out, Hdr.out, wkO, decide_eq_false hi]; simp
        by_cases h0 : i < 0
        · have e1 : decide (i < 0) = true := by simpa using h0
          go_wp2_with fail
          go_quiet (fail)
          go_wp2
          refine bodyPost_ret (v := .tuple #[.int .i64 0, .bool false]) (by simp [results, Try.results106, go_sem, *]) rfl ⟨by rw [HR0.out.1 hno, HR0.out.2 hno], belowN hB⟩
        · have e1 : decide (i < 0) = false := by simpa using h0
          have e2 : decide ((bs.length : Int) ≤ i) = true := by simp; omega
          go_wp2_with fail
          go_quiet (fail)
          go_wp2
          refine bodyPost_ret (v := .tuple #[.int .i64 0, .bool false]) (by simp [results, Try.results106, go_sem, *]) rfl ⟨by rw [HR0.out.1 hno, HR0.out.2 hno], belowN hB⟩
    · have hd : xs.drop k = [] := List.drop_eq_nil_of_le (by omega)
      have hyes : RB = true := by rw [W1.out, hd]; rfl
      have hRS : RS = S := by rw [HR1.out hyes, W2.out, hd]; simp [wsum]
      subst hyes
      subst hRS
      clear hd
      go_wp2_with fail
      refine bodyPost_ret (v := .tuple #[.int .i64 RS, .bool true]) (by simp [results, Try.results106, go_sem, *]) rfl ⟨rfl, hB⟩
end Go.Proofs.Ytlkcfohmoeadbaa

/-
  Gauge, walked: broken, Breaks, Keeps.
-/
import Derived.Test.YtlkcfohmoeadbaaGreatPk25
set_option linter.unusedSimpArgs false
set_option linter.unusedVariables false
set_option linter.unnecessarySimpa false
namespace Go.Proofs.YtlkcfohmoeadbaaGreat
open Go.RowKit Go.Shelf
set_option maxHeartbeats 4000000
set_option maxRecDepth 100000

/-- A function value that tells of the bounds of a list. -/
structure TellsOn (w0 : World) (k : Nat) (caps : Array Value) (bs : List Bd) (p : Bd → Bool) : Prop where
  ent : ∀ args w, (callFunc k args).run Tryz.prog w = .ok (.enter k args) w
  tell : ∀ (w : World) (b : Bd), b ∈ bs → Below w0.heap.size w0 w → Calls Tryz.prog k (#[.agg #[.int .i64 b.frm, .int .i64 b.tow, .int .i64 b.most, .int .i64 b.bid]] ++ caps) w fun e w' => e = .returned (.bool (p b)) ∧ Below w.heap.size w w'

theorem gindexFuncOn_any (a : Option Addr) (n cap : Nat) (bs : List Bd) (k : Nat) (caps : Array Value) (p : Bd → Bool) (w : World) (hb : BdsAt w a n cap bs) (hp : TellsOn w k caps bs p) :
    Calls Tryz.prog 72 #[.slice a n cap, .func (.func k) #[] caps] w fun e w' => e = .returned (.int .i64 (idxB p bs)) ∧ Below w.heap.size w w' := by
  have hlen := hb.small
  obtain rfl := hb.len
  have hent := hp.ent
  go_enter Tryz.func72, Tryz.ntmps72
  go_wp2
  go_loopw [8] (fun i wr => ∃ j : Nat, j ≤ bs.length ∧ i = .int .i64 j ∧ Below w.heap.size w wr ∧ (bs.take j).any p = false) (fun i _ => bs.length - (intOf i).toNat)
  case atStart => exact ⟨0, Nat.zero_le _, rfl, Below.refl _ _, rfl⟩
  case round =>
    obtain ⟨j, hj, rfl, hB, hall⟩ := hrel
    have Hall := Lib.hid hall
    clear hall
    have hbr := hb.below hB
    by_cases hlt : j < bs.length
    · obtain ⟨b, off, rfl, hbl, d0, d1, d2, d3⟩ := hbr.get hlt
      have hmem : bs.getD j default ∈ bs := by rw [List.getD_eq_getElem?_getD, List.getElem?_eq_getElem hlt]; exact List.getElem_mem _
      generalize hx : bs.getD j default = x at *
      have Hx := Lib.hid hx
      clear hx
      have hnn : (0 : Int) ≤ j := by omega
      have hT := hp.tell wr x hmem hB
      have HT := Lib.hid hT
      clear hT hmem
      go_wp2_with (refine (HT.out).mono ?_; rintro e w1 ⟨rfl, hb1⟩)
      case roundEnd =>
        have hpx : p x = false := by cases h : p x <;> simp_all
        go_roundw
        case rel => exact ⟨j + 1, by omega, by go_num, hB.trans (hb1.mono hB.size), take_succ_any hlt Hall.out (by rw [Hx.out]; exact hpx)⟩
        case measure => simp [intOf]; omega
      all_goals
        have hpx : p x = true := by assumption
        go_ret
        refine ⟨?_, hB.trans (hb1.mono hB.size)⟩
        rw [idxB_hit hlt Hall.out (by rw [Hx.out]; exact hpx)]; rfl
    · go_wp2_with fail
      go_ret
      rw [List.take_of_length_le (by omega)] at Hall
      refine ⟨?_, hB⟩
      rw [idxB_miss Hall.out]; rfl

/-- Does a list not keep a bound? -/
def brkB (xs : List Int) (b : Bd) : Bool := decide (b.most < gi xs b.tow - gi xs b.frm)
def farB (x : Int) : Bool := withinB x (-1000000000) 1000000000
def brE (p : Int) (bs : List Bd) (xs : List Int) : Int := if chk p bs = 0 then (if (xs.length : Int) = p ∧ xs.all farB = true then 0 else 1) else chk p bs
def brH (p : Int) (bs : List Bd) (xs : List Int) : Bool := decide (brE p bs xs = 0) && bs.any (brkB xs)

theorem gi_getD {l : List Int} {i : Int} : gi l i = l.getD i.toNat 0 := rfl

theorem gbroken1_any (al : Option Addr) (m c : Nat) (xs : List Int) (b : Bd) (XB : Nat) (w : World) (hx : IntsAt w al m c xs) (hc : w.cell? ⟨XB, 0, none⟩ = some (.slice al m c)) (f0 : 0 ≤ b.frm) (f1 : b.frm < xs.length) (t0 : 0 ≤ b.tow) (t1 : b.tow < xs.length) (hfar : xs.all farB = true) :
    Calls Tryz.prog 73 #[.agg #[.int .i64 b.frm, .int .i64 b.tow, .int .i64 b.most, .int .i64 b.bid], .pointer (some ⟨XB, 0, none⟩)] w fun e w' => e = .returned (.bool (brkB xs b)) ∧ Below w.heap.size w w' := by
  have hXB := World.block_lt_of_cell? w _ hc
  simp only at hXB
  have hsm := hx.small
  obtain rfl := hx.len
  obtain ⟨bk, off, rfl, hbl, d1⟩ := hx.get (i := b.tow.toNat) (by omega)
  obtain ⟨bk2, off2, he, _, d0⟩ := hx.get (i := b.frm.toNat) (by omega)
  simp at he
  obtain ⟨rfl, rfl⟩ := he
  have far := fun i (hi : i < xs.length) => withinB_iff.1 (List.all_eq_true.1 hfar (xs.getD i 0) (by rw [List.getD_eq_getElem?_getD, List.getElem?_eq_getElem hi]; exact List.getElem_mem _))
  obtain ⟨l1, l2⟩ := far b.tow.toNat (by omega)
  obtain ⟨l3, l4⟩ := far b.frm.toNat (by omega)
  clear far
  unfold brkB
  rw [gi_getD, gi_getD]
  generalize xs.getD b.tow.toNat 0 = u at *
  generalize xs.getD b.frm.toNat 0 = v at *
  have hwr : IntKind.i64.wrap (u - v) = u - v := IntWalk.i64_in _ (by omega)
  clear hfar
  go_enter Tryz.func73, Tryz.ntmps73
  go_wp2_with fail
  go_quiet (fail)
  go_wp2
  go_ret
  exact ⟨rfl, belowN ((Below.refl _ _).alloc (Nat.le_refl _) _)⟩

theorem gbroken_any (p : Int) (a : Option Addr) (n cap : Nat) (bs : List Bd) (al : Option Addr) (m c : Nat) (xs : List Int) (w : World) (hb : BdsAt w a n cap bs) (hx : IntsAt w al m c xs) (hpts : ∀ b ∈ bs, 0 ≤ b.frm ∧ b.frm < xs.length ∧ 0 ≤ b.tow ∧ b.tow < xs.length) (hfar : xs.all farB = true) :
    Calls Tryz.prog 36 #[.agg #[.int .i64 p, .slice a n cap], .slice al m c] w fun e w' => e = .returned (.int .i64 (idxB (brkB xs) bs)) ∧ Below w.heap.size w w' := by
  have hmf := makeFunc_run
  generalize hw2 : ((w.alloc (Obj.cells #[.int .i64 p, .slice a n cap] 24)).alloc (Obj.cells #[.slice al m c] 27)) = w2
  have hB2 : Below w.heap.size w w2 := by rw [← hw2]; ((repeat (first | assumption | exact Below.refl _ _ | refine Below.alloc ?_ ?_ _ | refine Below.setCell ?_ ?_ _ | refine Below.drew ?_ | refine belowN ?_ | refine Below.up ?_ (by assumption) ?_)) <;> (first | assumption | omega | (simp; done) | (simp; omega)))
  have c0 : w2.cell? ⟨w.heap.size + 1, 0, none⟩ = some (.slice al m c) := by rw [← hw2]; simp [go_sem]
  have hT : TellsOn w2 73 #[.pointer (some ⟨w.heap.size + 1, 0, none⟩)] bs (brkB xs) := by
    refine ⟨enters_of Tryz.func73 (by kernel_rfl) rfl, fun w3 b hm hb3 => ?_⟩
    obtain ⟨q0, q1, q2, q3⟩ := hpts b hm
    exact gbroken1_any al m c xs b _ w3 ((hx.below hB2).below hb3) (((bcell hb3).1 _ _ (World.block_lt_of_cell? w2 _ c0)).trans c0) q0 q1 q2 q3 hfar
  have hI := gindexFuncOn_any a n cap bs _ _ _ w2 (hb.below hB2) hT
  have z2 : w2.heap.size = w.heap.size + 2 := by rw [← hw2]; simp
  subst hw2
  generalize idxB (brkB xs) bs = r at *
  clear hT hfar hpts
  go_enter Tryz.func36, Tryz.ntmps36
  go_wp2_with (go_at_call 72; refine hI.mono ?_; rintro e w3 ⟨rfl, hb3⟩)
  go_ret
  exact ⟨rfl, hB2.trans (hb3.mono (by simp; omega))⟩

def brkEnd (p : Int) (bs : List Bd) (xs : List Int) (AB : Nat) (w1 : World) (e : Ending) (w' : World) : Prop :=
  (¬ ((xs.length : Int) = p ∧ xs.all farB = true) → e = .panicked gaveUp ∧ Below w1.heap.size w1 w') ∧ ((xs.length : Int) = p ∧ xs.all farB = true → e = .returned (.int .i64 0) ∧ SL.Chg [AB] w1 w' ∧ w'.heap[AB]? = some (.cells #[.int .i64 (idxB (brkB xs) bs)] 3 (0, 0)))

theorem gBreaks1_any (p : Int) (a : Option Addr) (n cap : Nat) (bs : List Bd) (al : Option Addr) (m c : Nat) (xs : List Int) (XB SB AB : Nat) (w1 : World) (hs : Sys p bs) (hpt : Pts p bs) (hb : BdsAt w1 a n cap bs) (hx : IntsAt w1 al m c xs)
    (c0 : w1.cell? ⟨SB, 0, none⟩ = some (.int .i64 p)) (c1 : w1.cell? ⟨SB, 1, none⟩ = some (.slice a n cap)) (cx : w1.cell? ⟨XB, 0, none⟩ = some (.slice al m c)) (hA : w1.heap[AB]? = some (.cells #[.int .i64 (-1)] 3 (0, 0))) :
    Calls Tryz.prog 33 #[.pointer (some ⟨XB, 0, none⟩), .pointer (some ⟨SB, 0, none⟩), .pointer (some ⟨AB, 0, none⟩)] w1 (brkEnd p bs xs AB w1) := by
  have z0 := World.block_lt_of_cell? w1 _ c0
  have z1 := World.block_lt_of_cell? w1 _ cx
  have z2 := (Array.getElem?_eq_some_iff.1 hA).1
  simp only at z0 z1
  have hlen := hx.small
  obtain rfl := hx.len
  unfold brkEnd
  by_cases hl : (xs.length : Int) = p
  · have e1 : ((xs.length : Int) == p) = true := by simpa using hl
    simp only [hl, true_and]
    have hpts : ∀ b ∈ bs, 0 ≤ b.frm ∧ b.frm < xs.length ∧ 0 ≤ b.tow ∧ b.tow < xs.length := by rw [hl]; exact hpt
    have hbr := fun (h : xs.all farB = true) w (hb : BdsAt w a n cap bs) (hx : IntsAt w al xs.length c xs) => gbroken_any p a n cap bs al _ c xs w hb hx hpts h
    generalize idxB (brkB xs) bs = r at *
    have HL := Lib.hid hl
    have Hbr := Lib.hid hbr
    clear hl hpts hbr hpt
    go_enter Tryz.func33, Tryz.ntmps33
    go_wp2_with (go_at_call 34; refine (gneed_yes _).mono ?_; rintro e w2 ⟨rfl, rfl⟩)
    go_loop [14, 5] (fun i _ => ∃ k : Nat, k ≤ xs.length ∧ i = .int .i64 k ∧ (xs.take k).all farB = true) (fun i _ => xs.length - (intOf i).toNat)
    case atStart => exact ⟨0, Nat.zero_le _, rfl, rfl⟩
    case round =>
      obtain ⟨k, hk, rfl, hall⟩ := hrel
      have Hall := Lib.hid hall
      clear hall
      by_cases hlt : k < xs.length
      · obtain ⟨b, off, rfl, hbl, d0⟩ := hx.get hlt
        generalize hy : xs.getD k 0 = y at *
        have Hy := Lib.hid hy
        clear hy
        cases hin : farB y with
        | true =>
          have hin' : withinB y (-1000000000) 1000000000 = true := hin
          go_wp2_with (first
            | (go_at_call 35; refine (gwithin_any _ _ _ _).mono ?_; rintro e w3 ⟨rfl, rfl⟩; rw [hin'])
            | (go_at_call 34; refine (gneed_yes _).mono ?_; rintro e w3 ⟨rfl, rfl⟩))
          go_round
          case rel => exact ⟨k + 1, by omega, by go_num, take_all hlt Hall.out (by rw [Hy.out]; exact hin)⟩
          case measure => simp [intOf]; omega
        | false =>
          have hin' : withinB y (-1000000000) 1000000000 = false := hin
          go_wp2_with (first
            | (go_at_call 35; refine (gwithin_any _ _ _ _).mono ?_; rintro e w3 ⟨rfl, rfl⟩; rw [hin'])
            | (go_at_call 34; refine (gneed_no _).mono ?_; rintro e w3 ⟨rfl, rfl⟩))
          have hno := not_all (f := farB) hlt (by rw [Hy.out]; exact hin)
          exact ⟨rfl, fun _ => ⟨rfl, Below.refl _ _⟩, fun h => by rw [hno] at h; cases h⟩
      · rw [List.take_of_length_le (by omega)] at Hall
        have hbr := Hbr.out Hall.out w1 hb hx
        go_wp2_with (go_at_call 36; refine hbr.mono ?_; rintro e w3 ⟨rfl, hb3⟩
                     have hA3 := (hb3.block AB z2).trans hA
                     have f3 := (SL.cells_of hA3).2
                     have y3 := (SL.cells_of hA3).1 0
                     simp at y3
                     have z3 : AB < w3.heap.size := lt_size hb3 z2)
        go_ret
        exact ⟨(fun h => absurd Hall.out h), fun _ => ⟨rfl, (SL.Chg.of_below hb3).trans (.setCell _ (by simp) _), SL.heap_set hA3 _⟩⟩
  · have e1 : ((xs.length : Int) == p) = false := by simpa using hl
    go_enter Tryz.func33, Tryz.ntmps33
    go_wp2_with (go_at_call 34; refine (gneed_no _).mono ?_; rintro e w2 ⟨rfl, rfl⟩)
    exact ⟨rfl, fun _ => ⟨rfl, Below.refl _ _⟩, fun h => absurd h.1 hl⟩

theorem gBreaks_any (p : Int) (a : Option Addr) (n cap : Nat) (bs : List Bd) (al : Option Addr) (m c : Nat) (xs : List Int) (w : World) (hb : BdsAt w a n cap bs) (hx : IntsAt w al m c xs) :
    Calls Tryz.prog 6 #[.agg #[.int .i64 p, .slice a n cap], .slice al m c] w fun e w' => e = .returned (.tuple #[.int .i64 (if brH p bs xs then idxB (brkB xs) bs else 0), .bool (brH p bs xs), .int .i64 (brE p bs xs)]) ∧ Below w.heap.size w w' := by
  have hmf := makeFunc_run
  generalize hw3 : ((w.alloc (Obj.cells #[.int .i64 p, .slice a n cap] 24)).alloc (Obj.cells #[.slice al m c] 27)).alloc (Obj.cells #[.int .i64 (-1)] 3) = w3
  have hB3 : Below w.heap.size w w3 := by rw [← hw3]; ((repeat (first | assumption | exact Below.refl _ _ | refine Below.alloc ?_ ?_ _ | refine Below.setCell ?_ ?_ _ | refine Below.drew ?_ | refine belowN ?_ | refine Below.up ?_ (by assumption) ?_)) <;> (first | assumption | omega | (simp; done) | (simp; omega)))
  have z3 : w3.heap.size = w.heap.size + 3 := by rw [← hw3]; simp
  have c0 : w3.cell? ⟨w.heap.size, 0, none⟩ = some (.int .i64 p) := by rw [← hw3]; simp [go_sem]
  have c1 : w3.cell? ⟨w.heap.size, 1, none⟩ = some (.slice a n cap) := by rw [← hw3]; simp [go_sem]
  have c2 : w3.cell? ⟨w.heap.size + 1, 0, none⟩ = some (.slice al m c) := by rw [← hw3]; simp [go_sem]
  have h2 : w3.heap[w.heap.size + 2]? = some (.cells #[.int .i64 (-1)] 3 (0, 0)) := by
    rw [← hw3]
    have h := World.alloc_heap_new ((w.alloc (Obj.cells #[.int .i64 p, .slice a n cap] 24)).alloc (Obj.cells #[.slice al m c] 27)) (Obj.cells #[.int .i64 (-1)] 3)
    simp only [World.size_alloc] at h
    exact h
  have hA := gtried_any p a n cap bs 33 #[.pointer (some ⟨w.heap.size + 1, 0, none⟩), .pointer (some ⟨w.heap.size, 0, none⟩), .pointer (some ⟨w.heap.size + 1 + 1, 0, none⟩)] w3 (hb.below hB3)
    [w.heap.size + 2] (by simp; omega)
    (fun c' w' => ((xs.length : Int) = p ∧ xs.all farB = true) ∧ c' = 0 ∧ w'.heap[w.heap.size + 2]? = some (.cells #[.int .i64 (idxB (brkB xs) bs)] 3 (0, 0))) (fun w' => ¬ ((xs.length : Int) = p ∧ xs.all farB = true) ∧ Below w3.heap.size w3 w')
    (fun c' w1 w2 h hc => ⟨h.1, h.2.1, heap_chg h.2.2 hc (by simp; omega)⟩)
    (fun w1 w2 h hc => ⟨h.1, h.2.trans (hc.belowE h.2.size (by simp <;> omega))⟩) (enters_of Tryz.func33 (by kernel_rfl) rfl)
    (fun h0 w1 hb1 hz1 => by
      have hc := (bcell hb1).1
      have hB1 : Below w.heap.size w w1 := hB3.trans (hb1.mono (by omega))
      refine (gBreaks1_any p a n cap bs al m c xs _ _ _ w1 (Sys.of_chk h0) (Pts.of_chk h0) (hb.below hB1) (hx.below hB1) ((hc _ _ (by omega)).trans c0) ((hc _ _ (by omega)).trans c1) ((hc _ _ (by omega)).trans c2) ((hb1.block _ (by omega)).trans h2)).mono ?_
      rintro e w' ⟨e1, e2⟩
      by_cases q : (xs.length : Int) = p ∧ xs.all farB = true
      · obtain ⟨r1, r2, r3⟩ := e2 q
        exact ⟨r2, .inl ⟨0, r1, q, rfl, r3⟩⟩
      · obtain ⟨r1, r2⟩ := e1 q
        exact ⟨.of_below r2, .inr ⟨r1, q, hb1.trans (r2.mono hb1.size)⟩⟩)
  have hcell : ∀ (c' : Int) (w5 : World), SL.Chg [w.heap.size + 2] w3 w5 → (chk p bs ≠ 0 → c' = chk p bs ∧ Below w3.heap.size w3 w5) → (chk p bs = 0 → (((xs.length : Int) = p ∧ xs.all farB = true) ∧ c' = 0 ∧ w5.heap[w.heap.size + 2]? = some (.cells #[.int .i64 (idxB (brkB xs) bs)] 3 (0, 0))) ∨ (c' = 1 ∧ ¬ ((xs.length : Int) = p ∧ xs.all farB = true) ∧ Below w3.heap.size w3 w5)) →
      c' = brE p bs xs ∧ Below w.heap.size w w5 ∧ (brE p bs xs = 0 → w5.cell? ⟨w.heap.size + 2, 0, none⟩ = some (.int .i64 (idxB (brkB xs) bs))) := fun c' w5 hC h1 h2' => by
    have kB : Below w.heap.size w w5 := hB3.trans (hC.belowE (by omega) (by simp))
    by_cases h0 : chk p bs = 0
    · rcases h2' h0 with ⟨ko, rfl, r1⟩ | ⟨rfl, ko, k2⟩
      · have hE : brE p bs xs = 0 := by unfold brE; rw [if_pos h0, if_pos ko]
        refine ⟨hE.symm, kB, fun _ => ?_⟩
        have := (SL.cells_of r1).1 0
        simpa using this
      · have hE : brE p bs xs = 1 := by unfold brE; rw [if_pos h0, if_neg ko]
        exact ⟨hE.symm, kB, fun h => by omega⟩
    · obtain ⟨rfl, k2⟩ := h1 h0
      have hE : brE p bs xs = chk p bs := by unfold brE; rw [if_neg h0]
      exact ⟨hE.symm, kB, fun h => absurd (hE.symm.trans h) h0⟩
  subst hw3
  have hH : brH p bs xs = (decide (brE p bs xs = 0) && decide (0 ≤ idxB (brkB xs) bs)) := by rw [idxB_any]; rfl
  rw [hH]
  clear hH
  generalize idxB (brkB xs) bs = r at *
  generalize brE p bs xs = ce at *
  have HR := Lib.hid (show ∀ R H, (if (decide (ce = 0) && decide (0 ≤ r)) = true then r else 0) = R → (decide (ce = 0) && decide (0 ≤ r)) = H → (ce = 0 → 0 ≤ r → R = r ∧ H = true) ∧ ((ce ≠ 0 ∨ ¬ 0 ≤ r) → R = 0 ∧ H = false) from fun R H h1 h2 => ⟨fun a b => by simp [a, b] at h1 h2; exact ⟨h1.symm, h2⟩, fun a => by rcases a with a | a <;> simp [a] at h1 h2 <;> exact ⟨h1.symm, h2⟩⟩)
  obtain ⟨H, hHH⟩ : ∃ H, (decide (ce = 0) && decide (0 ≤ r)) = H := ⟨_, rfl⟩
  obtain ⟨R, hRR⟩ : ∃ R, (if (decide (ce = 0) && decide (0 ≤ r)) = true then r else 0) = R := ⟨_, rfl⟩
  obtain ⟨hr1, hr2⟩ := HR.out R H hRR hHH
  rw [hRR, hHH]
  have Hr1 := Lib.hid hr1
  have Hr2 := Lib.hid hr2
  clear hRR hHH HR hr1 hr2
  by_cases h0 : ce = 0
  · subst h0
    by_cases hr : 0 ≤ r
    · go_enter Tryz.func6, Tryz.ntmps6
      go_wp2_with fail
      refine hA.mono ?_
      rintro e w5 ⟨c', rfl, hC, k1, k2⟩
      obtain ⟨rfl, hB5, hv⟩ := hcell c' w5 hC k1 k2
      have hv' := hv (by simp)
      clear hA hcell k1 k2 hC hv
      go_wp2
      refine bodyPost_ret (v := .tuple #[.int .i64 r, .bool true, .int .i64 0]) (by simp [results, Tryz.results6, go_sem, *]) rfl ⟨by rw [(Hr1.out (by simp) hr).1, (Hr1.out (by simp) hr).2], hB5⟩
    · go_enter Tryz.func6, Tryz.ntmps6
      go_wp2_with fail
      refine hA.mono ?_
      rintro e w5 ⟨c', rfl, hC, k1, k2⟩
      obtain ⟨rfl, hB5, hv⟩ := hcell c' w5 hC k1 k2
      have hv' := hv (by simp)
      clear hA hcell k1 k2 hC hv
      go_wp2
      refine bodyPost_ret (v := .tuple #[.int .i64 0, .bool false, .int .i64 0]) (by simp [results, Tryz.results6, go_sem, *]) rfl ⟨by rw [(Hr2.out (.inr hr)).1, (Hr2.out (.inr hr)).2], hB5⟩
  · have h0' : (ce != 0) = true := by simpa using h0
    go_enter Tryz.func6, Tryz.ntmps6
    go_wp2_with fail
    refine hA.mono ?_
    rintro e w5 ⟨c', rfl, hC, k1, k2⟩
    obtain ⟨rfl, hB5, hv⟩ := hcell c' w5 hC k1 k2
    clear hA hcell k1 k2 hC hv
    go_wp2
    refine bodyPost_ret (v := .tuple #[.int .i64 0, .bool false, .int .i64 c']) (by simp [results, Tryz.results6, go_sem, *]) rfl ⟨by rw [(Hr2.out (.inl h0)).1, (Hr2.out (.inl h0)).2], hB5⟩

theorem gKeeps_any (p : Int) (a : Option Addr) (n cap : Nat) (bs : List Bd) (al : Option Addr) (m c : Nat) (xs : List Int) (w : World) (hb : BdsAt w a n cap bs) (hx : IntsAt w al m c xs) :
    Calls Tryz.prog 8 #[.agg #[.int .i64 p, .slice a n cap], .slice al m c] w fun e w' => e = .returned (.tuple #[.bool (decide (brE p bs xs = 0) && !brH p bs xs), .int .i64 (brE p bs xs)]) ∧ Below w.heap.size w w' := by
  have hB1 : Below w.heap.size w (w.alloc (Obj.cells #[.int .i64 p, .slice a n cap] 24)) := (Below.refl _ _).alloc (Nat.le_refl _) _
  have hA := gBreaks_any p a n cap bs al m c xs _ (hb.below hB1) (hx.below hB1)
  generalize (if brH p bs xs = true then idxB (brkB xs) bs else 0) = r at *
  generalize brH p bs xs = h at *
  generalize brE p bs xs = ce at *
  by_cases h0 : ce = 0
  · subst h0
    cases h <;>
    · go_enter Tryz.func8, Tryz.ntmps8
      go_wp2_with (go_at_call 6; refine hA.mono ?_; rintro e w2 ⟨rfl, hb2⟩)
      go_ret2
      exact ⟨rfl, hB1.trans (hb2.mono (by simp))⟩
  · have h0' : (ce == 0) = false := by simpa using h0
    go_enter Tryz.func8, Tryz.ntmps8
    go_wp2_with (go_at_call 6; refine hA.mono ?_; rintro e w2 ⟨rfl, hb2⟩)
    go_ret2
    exact ⟨by simp [h0], hB1.trans (hb2.mono (by simp))⟩
end Go.Proofs.YtlkcfohmoeadbaaGreat

/-
  Lemmas and walks for the laws on bounds and their sums; the parts' own heads say what each proves, for every input.
-/
import Derived.Test.YtlkcfohmoeadbaaPk25
import Derived.Test.YtlkcfohmoeadbaaPk28
import Derived.Test.YtlkcfohmoeadbaaPk26
import Derived.Test.YtlkcfohmoeadbaaPk23
set_option linter.unusedSimpArgs false
set_option linter.unusedVariables false
set_option linter.unnecessarySimpa false
/-
  Gauge, walked: broken, Breaks, Keeps.
-/
namespace Go.Proofs.Ytlkcfohmoeadbaa
open Go.RowKit Go.Shelf
set_option maxHeartbeats 4000000
set_option maxRecDepth 100000

/-- A function value that tells of the bounds of a list. -/
structure TellsOn (w0 : World) (k : Nat) (caps : Array Value) (bs : List Bd) (p : Bd → Bool) : Prop where
  ent : ∀ args w, (callFunc k args).run Try.prog w = .ok (.enter k args) w
  tell : ∀ (w : World) (b : Bd), b ∈ bs → Below w0.heap.size w0 w → Calls Try.prog k (#[.agg #[.int .i64 b.frm, .int .i64 b.tow, .int .i64 b.most, .int .i64 b.bid]] ++ caps) w fun e w' => e = .returned (.bool (p b)) ∧ Below w.heap.size w w'

theorem gindexFuncOn_any (a : Option Addr) (n cap : Nat) (bs : List Bd) (k : Nat) (caps : Array Value) (p : Bd → Bool) (w : World) (hb : BdsAt w a n cap bs) (hp : TellsOn w k caps bs p) :
    Calls Try.prog 129 #[.slice a n cap, .func (.func k) #[] caps] w fun e w' => e = .returned (.int .i64 (idxB p bs)) ∧ Below w.heap.size w w' := by
  have hlen := hb.small
  obtain rfl := hb.len
  have hent := hp.ent
  go_enter Try.func129, Try.ntmps129
  go_wp2
  go_loopw [8] (fun i wr => ∃ j : Nat, j ≤ bs.length ∧ i = .int .i64 j ∧ Below w.heap.size w wr ∧ (bs.take j).any p = false) (fun i _ => bs.length - (intOf i).toNat)
  case atStart => exact ⟨0, Nat.zero_le _, rfl, Below.refl _ _, rfl⟩
  case round =>
    obtain ⟨j, hj, rfl, hB, hall⟩ := hrel
    have Hall := Lib.hid hall
    clear hall
    have hbr := hb.below hB
    by_cases hlt : j < bs.length
    · obtain ⟨b, off, rfl, hbl, d0, d1, d2, d3⟩ := hbr.get hlt
      have hmem : bs.getD j default ∈ bs := by rw [List.getD_eq_getElem?_getD, List.getElem?_eq_getElem hlt]; exact List.getElem_mem _
      generalize hx : bs.getD j default = x at *
      have Hx := Lib.hid hx
      clear hx
      have hnn : (0 : Int) ≤ j := by omega
      have hT := hp.tell wr x hmem hB
      have HT := Lib.hid hT
      clear hT hmem
      go_wp2_with (refine (HT.out).mono ?_; rintro e w1 ⟨rfl, hb1⟩)
      case roundEnd =>
        have hpx : p x = false := by cases h : p x <;> simp_all
        go_roundw
        case rel => exact ⟨j + 1, by omega, by go_num, hB.trans (hb1.mono hB.size), take_succ_any hlt Hall.out (by rw [Hx.out]; exact hpx)⟩
        case measure => simp [intOf]; omega
      all_goals
        have hpx : p x = true := by assumption
        go_ret
        refine ⟨?_, hB.trans (hb1.mono hB.size)⟩
        rw [idxB_hit hlt Hall.out (by rw [Hx.out]; exact hpx)]; rfl
    · go_wp2_with fail
      go_ret
      rw [List.take_of_length_le (by omega)] at Hall
      refine ⟨?_, hB⟩
      rw [idxB_miss Hall.out]; rfl

/-- Does a list not keep a bound? -/
def brkB (xs : List Int) (b : Bd) : Bool := decide (b.most < gi xs b.tow - gi xs b.frm)
def farB (x : Int) : Bool := withinB x (-1000000000) 1000000000
def brE (p : Int) (bs : List Bd) (xs : List Int) : Int := if chk p bs = 0 then (if (xs.length : Int) = p ∧ xs.all farB = true then 0 else 1) else chk p bs
def brH (p : Int) (bs : List Bd) (xs : List Int) : Bool := decide (brE p bs xs = 0) && bs.any (brkB xs)

theorem gi_getD {l : List Int} {i : Int} : gi l i = l.getD i.toNat 0 := rfl

theorem gbroken1_any (al : Option Addr) (m c : Nat) (xs : List Int) (b : Bd) (XB : Nat) (w : World) (hx : IntsAt w al m c xs) (hc : w.cell? ⟨XB, 0, none⟩ = some (.slice al m c)) (f0 : 0 ≤ b.frm) (f1 : b.frm < xs.length) (t0 : 0 ≤ b.tow) (t1 : b.tow < xs.length) (hfar : xs.all farB = true) :
    Calls Try.prog 134 #[.agg #[.int .i64 b.frm, .int .i64 b.tow, .int .i64 b.most, .int .i64 b.bid], .pointer (some ⟨XB, 0, none⟩)] w fun e w' => e = .returned (.bool (brkB xs b)) ∧ Below w.heap.size w w' := by
  have hXB := World.block_lt_of_cell? w _ hc
  simp only at hXB
  have hsm := hx.small
  obtain rfl := hx.len
  obtain ⟨bk, off, rfl, hbl, d1⟩ := hx.get (i := b.tow.toNat) (by omega)
  obtain ⟨bk2, off2, he, _, d0⟩ := hx.get (i := b.frm.toNat) (by omega)
  simp at he
  obtain ⟨rfl, rfl⟩ := he
  have far := fun i (hi : i < xs.length) => withinB_iff.1 (List.all_eq_true.1 hfar (xs.getD i 0) (by rw [List.getD_eq_getElem?_getD, List.getElem?_eq_getElem hi]; exact List.getElem_mem _))
  obtain ⟨l1, l2⟩ := far b.tow.toNat (by omega)
  obtain ⟨l3, l4⟩ := far b.frm.toNat (by omega)
  clear far
  unfold brkB
  rw [gi_getD, gi_getD]
  generalize xs.getD b.tow.toNat 0 = u at *
  generalize xs.getD b.frm.toNat 0 = v at *
  have hwr : IntKind.i64.wrap (u - v) = u - v := IntWalk.i64_in _ (by omega)
  clear hfar
  go_enter Try.func134, Try.ntmps134
  go_wp2_with fail
  go_quiet (fail)
  go_wp2
  go_ret
  exact ⟨rfl, belowN ((Below.refl _ _).alloc (Nat.le_refl _) _)⟩

theorem gbroken_any (p : Int) (a : Option Addr) (n cap : Nat) (bs : List Bd) (al : Option Addr) (m c : Nat) (xs : List Int) (w : World) (hb : BdsAt w a n cap bs) (hx : IntsAt w al m c xs) (hpts : ∀ b ∈ bs, 0 ≤ b.frm ∧ b.frm < xs.length ∧ 0 ≤ b.tow ∧ b.tow < xs.length) (hfar : xs.all farB = true) :
    Calls Try.prog 127 #[.agg #[.int .i64 p, .slice a n cap], .slice al m c] w fun e w' => e = .returned (.int .i64 (idxB (brkB xs) bs)) ∧ Below w.heap.size w w' := by
  have hmf := makeFunc_run
  generalize hw2 : ((w.alloc (Obj.cells #[.int .i64 p, .slice a n cap] 24)).alloc (Obj.cells #[.slice al m c] 27)) = w2
  have hB2 : Below w.heap.size w w2 := by rw [← hw2]; ((repeat (first | assumption | exact Below.refl _ _ | refine Below.alloc ?_ ?_ _ | refine Below.setCell ?_ ?_ _ | refine Below.drew ?_ | refine belowN ?_ | refine Below.up ?_ (by assumption) ?_)) <;> (first | assumption | omega | (simp; done) | (simp; omega)))
  have c0 : w2.cell? ⟨w.heap.size + 1, 0, none⟩ = some (.slice al m c) := by rw [← hw2]; simp [go_sem]
  have hT : TellsOn w2 134 #[.pointer (some ⟨w.heap.size + 1, 0, none⟩)] bs (brkB xs) := by
    refine ⟨enters_of Try.func134 (by kernel_rfl) rfl, fun w3 b hm hb3 => ?_⟩
    obtain ⟨q0, q1, q2, q3⟩ := hpts b hm
    exact gbroken1_any al m c xs b _ w3 ((hx.below hB2).below hb3) (((bcell hb3).1 _ _ (World.block_lt_of_cell? w2 _ c0)).trans c0) q0 q1 q2 q3 hfar
  have hI := gindexFuncOn_any a n cap bs _ _ _ w2 (hb.below hB2) hT
  have z2 : w2.heap.size = w.heap.size + 2 := by rw [← hw2]; simp
  subst hw2
  generalize idxB (brkB xs) bs = r at *
  clear hT hfar hpts
  go_enter Try.func127, Try.ntmps127
  go_wp2_with (go_at_call 129; refine hI.mono ?_; rintro e w3 ⟨rfl, hb3⟩)
  go_ret
  exact ⟨rfl, hB2.trans (hb3.mono (by simp; omega))⟩

def brkEnd (p : Int) (bs : List Bd) (xs : List Int) (AB : Nat) (w1 : World) (e : Ending) (w' : World) : Prop :=
  (¬ ((xs.length : Int) = p ∧ xs.all farB = true) → e = .panicked gaveUp ∧ Below w1.heap.size w1 w') ∧ ((xs.length : Int) = p ∧ xs.all farB = true → e = .returned (.int .i64 0) ∧ SL.Chg [AB] w1 w' ∧ w'.heap[AB]? = some (.cells #[.int .i64 (idxB (brkB xs) bs)] 3 (0, 0)))

theorem gBreaks1_any (p : Int) (a : Option Addr) (n cap : Nat) (bs : List Bd) (al : Option Addr) (m c : Nat) (xs : List Int) (XB SB AB : Nat) (w1 : World) (hs : Sys p bs) (hpt : Pts p bs) (hb : BdsAt w1 a n cap bs) (hx : IntsAt w1 al m c xs)
    (c0 : w1.cell? ⟨SB, 0, none⟩ = some (.int .i64 p)) (c1 : w1.cell? ⟨SB, 1, none⟩ = some (.slice a n cap)) (cx : w1.cell? ⟨XB, 0, none⟩ = some (.slice al m c)) (hA : w1.heap[AB]? = some (.cells #[.int .i64 (-1)] 3 (0, 0))) :
    Calls Try.prog 126 #[.pointer (some ⟨XB, 0, none⟩), .pointer (some ⟨SB, 0, none⟩), .pointer (some ⟨AB, 0, none⟩)] w1 (brkEnd p bs xs AB w1) := by
  have z0 := World.block_lt_of_cell? w1 _ c0
  have z1 := World.block_lt_of_cell? w1 _ cx
  have z2 := (Array.getElem?_eq_some_iff.1 hA).1
  simp only at z0 z1
  have hlen := hx.small
  obtain rfl := hx.len
  unfold brkEnd
  by_cases hl : (xs.length : Int) = p
  · have e1 : ((xs.length : Int) == p) = true := by simpa using hl
    simp only [hl, true_and]
    have hpts : ∀ b ∈ bs, 0 ≤ b.frm ∧ b.frm < xs.length ∧ 0 ≤ b.tow ∧ b.tow < xs.length := by rw [hl]; exact hpt
    have hbr := fun (h : xs.all farB = true) w (hb : BdsAt w a n cap bs) (hx : IntsAt w al xs.length c xs) => gbroken_any p a n cap bs al _ c xs w hb hx hpts h
    generalize idxB (brkB xs) bs = r at *
    have HL := Lib.hid hl
    have Hbr := Lib.hid hbr
    clear hl hpts hbr hpt
    go_enter Try.func126, Try.ntmps126
    go_wp2_with (go_at_call 70; refine (gneed_yes _).mono ?_; rintro e w2 ⟨rfl, rfl⟩)
    go_loop [14, 5] (fun i _ => ∃ k : Nat, k ≤ xs.length ∧ i = .int .i64 k ∧ (xs.take k).all farB = true) (fun i _ => xs.length - (intOf i).toNat)
    case atStart => exact ⟨0, Nat.zero_le _, rfl, rfl⟩
    case round =>
      obtain ⟨k, hk, rfl, hall⟩ := hrel
      have Hall := Lib.hid hall
      clear hall
      by_cases hlt : k < xs.length
      · obtain ⟨b, off, rfl, hbl, d0⟩ := hx.get hlt
        generalize hy : xs.getD k 0 = y at *
        have Hy := Lib.hid hy
        clear hy
        cases hin : farB y with
        | true =>
          have hin' : withinB y (-1000000000) 1000000000 = true := hin
          go_wp2_with (first
            | (go_at_call 71; refine (gwithin_any _ _ _ _).mono ?_; rintro e w3 ⟨rfl, rfl⟩; rw [hin'])
            | (go_at_call 70; refine (gneed_yes _).mono ?_; rintro e w3 ⟨rfl, rfl⟩))
          go_round
          case rel => exact ⟨k + 1, by omega, by go_num, take_all hlt Hall.out (by rw [Hy.out]; exact hin)⟩
          case measure => simp [intOf]; omega
        | false =>
          have hin' : withinB y (-1000000000) 1000000000 = false := hin
          go_wp2_with (first
            | (go_at_call 71; refine (gwithin_any _ _ _ _).mono ?_; rintro e w3 ⟨rfl, rfl⟩; rw [hin'])
            | (go_at_call 70; refine (gneed_no _).mono ?_; rintro e w3 ⟨rfl, rfl⟩))
          have hno := not_all (f := farB) hlt (by rw [Hy.out]; exact hin)
          exact ⟨rfl, fun _ => ⟨rfl, Below.refl _ _⟩, fun h => by rw [hno] at h; cases h⟩
      · rw [List.take_of_length_le (by omega)] at Hall
        have hbr := Hbr.out Hall.out w1 hb hx
        go_wp2_with (go_at_call 127; refine hbr.mono ?_; rintro e w3 ⟨rfl, hb3⟩
                     have hA3 := (hb3.block AB z2).trans hA
                     have f3 := (SL.cells_of hA3).2
                     have y3 := (SL.cells_of hA3).1 0
                     simp at y3
                     have z3 : AB < w3.heap.size := lt_size hb3 z2)
        go_ret
        exact ⟨(fun h => absurd Hall.out h), fun _ => ⟨rfl, (SL.Chg.of_below hb3).trans (.setCell _ (by simp) _), SL.heap_set hA3 _⟩⟩
  · have e1 : ((xs.length : Int) == p) = false := by simpa using hl
    go_enter Try.func126, Try.ntmps126
    go_wp2_with (go_at_call 70; refine (gneed_no _).mono ?_; rintro e w2 ⟨rfl, rfl⟩)
    exact ⟨rfl, fun _ => ⟨rfl, Below.refl _ _⟩, fun h => absurd h.1 hl⟩

theorem gBreaks_any (p : Int) (a : Option Addr) (n cap : Nat) (bs : List Bd) (al : Option Addr) (m c : Nat) (xs : List Int) (w : World) (hb : BdsAt w a n cap bs) (hx : IntsAt w al m c xs) :
    Calls Try.prog 100 #[.agg #[.int .i64 p, .slice a n cap], .slice al m c] w fun e w' => e = .returned (.tuple #[.int .i64 (if brH p bs xs then idxB (brkB xs) bs else 0), .bool (brH p bs xs), .int .i64 (brE p bs xs)]) ∧ Below w.heap.size w w' := by
  have hmf := makeFunc_run
  generalize hw3 : ((w.alloc (Obj.cells #[.int .i64 p, .slice a n cap] 24)).alloc (Obj.cells #[.slice al m c] 27)).alloc (Obj.cells #[.int .i64 (-1)] 3) = w3
  have hB3 : Below w.heap.size w w3 := by rw [← hw3]; ((repeat (first | assumption | exact Below.refl _ _ | refine Below.alloc ?_ ?_ _ | refine Below.setCell ?_ ?_ _ | refine Below.drew ?_ | refine belowN ?_ | refine Below.up ?_ (by assumption) ?_)) <;> (first | assumption | omega | (simp; done) | (simp; omega)))
  have z3 : w3.heap.size = w.heap.size + 3 := by rw [← hw3]; simp
  have c0 : w3.cell? ⟨w.heap.size, 0, none⟩ = some (.int .i64 p) := by rw [← hw3]; simp [go_sem]
  have c1 : w3.cell? ⟨w.heap.size, 1, none⟩ = some (.slice a n cap) := by rw [← hw3]; simp [go_sem]
  have c2 : w3.cell? ⟨w.heap.size + 1, 0, none⟩ = some (.slice al m c) := by rw [← hw3]; simp [go_sem]
  have h2 : w3.heap[w.heap.size + 2]? = some (.cells #[.int .i64 (-1)] 3 (0, 0)) := by
    rw [← hw3]
    have h := World.alloc_heap_new ((w.alloc (Obj.cells #[.int .i64 p, .slice a n cap] 24)).alloc (Obj.cells #[.slice al m c] 27)) (Obj.cells #[.int .i64 (-1)] 3)
    simp only [World.size_alloc] at h
    exact h
  have hA := gtried_any p a n cap bs 126 #[.pointer (some ⟨w.heap.size + 1, 0, none⟩), .pointer (some ⟨w.heap.size, 0, none⟩), .pointer (some ⟨w.heap.size + 1 + 1, 0, none⟩)] w3 (hb.below hB3)
    [w.heap.size + 2] (by simp; omega)
    (fun c' w' => ((xs.length : Int) = p ∧ xs.all farB = true) ∧ c' = 0 ∧ w'.heap[w.heap.size + 2]? = some (.cells #[.int .i64 (idxB (brkB xs) bs)] 3 (0, 0))) (fun w' => ¬ ((xs.length : Int) = p ∧ xs.all farB = true) ∧ Below w3.heap.size w3 w')
    (fun c' w1 w2 h hc => ⟨h.1, h.2.1, heap_chg h.2.2 hc (by simp; omega)⟩)
    (fun w1 w2 h hc => ⟨h.1, h.2.trans (hc.belowE h.2.size (by simp <;> omega))⟩) (enters_of Try.func126 (by kernel_rfl) rfl)
    (fun h0 w1 hb1 hz1 => by
      have hc := (bcell hb1).1
      have hB1 : Below w.heap.size w w1 := hB3.trans (hb1.mono (by omega))
      refine (gBreaks1_any p a n cap bs al m c xs _ _ _ w1 (Sys.of_chk h0) (Pts.of_chk h0) (hb.below hB1) (hx.below hB1) ((hc _ _ (by omega)).trans c0) ((hc _ _ (by omega)).trans c1) ((hc _ _ (by omega)).trans c2) ((hb1.block _ (by omega)).trans h2)).mono ?_
      rintro e w' ⟨e1, e2⟩
      by_cases q : (xs.length : Int) = p ∧ xs.all farB = true
      · obtain ⟨r1, r2, r3⟩ := e2 q
        exact ⟨r2, .inl ⟨0, r1, q, rfl, r3⟩⟩
      · obtain ⟨r1, r2⟩ := e1 q
        exact ⟨.of_below r2, .inr ⟨r1, q, hb1.trans (r2.mono hb1.size)⟩⟩)
  have hcell : ∀ (c' : Int) (w5 : World), SL.Chg [w.heap.size + 2] w3 w5 → (chk p bs ≠ 0 → c' = chk p bs ∧ Below w3.heap.size w3 w5) → (chk p bs = 0 → (((xs.length : Int) = p ∧ xs.all farB = true) ∧ c' = 0 ∧ w5.heap[w.heap.size + 2]? = some (.cells #[.int .i64 (idxB (brkB xs) bs)] 3 (0, 0))) ∨ (c' = 1 ∧ ¬ ((xs.length : Int) = p ∧ xs.all farB = true) ∧ Below w3.heap.size w3 w5)) →
      c' = brE p bs xs ∧ Below w.heap.size w w5 ∧ (brE p bs xs = 0 → w5.cell? ⟨w.heap.size + 2, 0, none⟩ = some (.int .i64 (idxB (brkB xs) bs))) := fun c' w5 hC h1 h2' => by
    have kB : Below w.heap.size w w5 := hB3.trans (hC.belowE (by omega) (by simp))
    by_cases h0 : chk p bs = 0
    · rcases h2' h0 with ⟨ko, rfl, r1⟩ | ⟨rfl, ko, k2⟩
      · have hE : brE p bs xs = 0 := by unfold brE; rw [if_pos h0, if_pos ko]
        refine ⟨hE.symm, kB, fun _ => ?_⟩
        have := (SL.cells_of r1).1 0
        simpa using this
      · have hE : brE p bs xs = 1 := by unfold brE; rw [if_pos h0, if_neg ko]
        exact ⟨hE.symm, kB, fun h => by omega⟩
    · obtain ⟨rfl, k2⟩ := h1 h0
      have hE : brE p bs xs = chk p bs := by unfold brE; rw [if_neg h0]
      exact ⟨hE.symm, kB, fun h => absurd (hE.symm.trans h) h0⟩
  subst hw3
  have hH : brH p bs xs = (decide (brE p bs xs = 0) && decide (0 ≤ idxB (brkB xs) bs)) := by rw [idxB_any]; rfl
  rw [hH]
  clear hH
  generalize idxB (brkB xs) bs = r at *
  generalize brE p bs xs = ce at *
  have HR := Lib.hid (show ∀ R H, (if (decide (ce = 0) && decide (0 ≤ r)) = true then r else 0) = R → (decide (ce = 0) && decide (0 ≤ r)) = H → (ce = 0 → 0 ≤ r → R = r ∧ H = true) ∧ ((ce ≠ 0 ∨ ¬ 0 ≤ r) → R = 0 ∧ H = false) from fun R H h1 h2 => ⟨fun a b => by simp [a, b] at h1 h2; exact ⟨h1.symm, h2⟩, fun a => by rcases a with a | a <;> simp [a] at h1 h2 <;> exact ⟨h1.symm, h2⟩⟩)
  obtain ⟨H, hHH⟩ : ∃ H, (decide (ce = 0) && decide (0 ≤ r)) = H := ⟨_, rfl⟩
  obtain ⟨R, hRR⟩ : ∃ R, (if (decide (ce = 0) && decide (0 ≤ r)) = true then r else 0) = R := ⟨_, rfl⟩
  obtain ⟨hr1, hr2⟩ := HR.out R H hRR hHH
  rw [hRR, hHH]
  have Hr1 := Lib.hid hr1
  have Hr2 := Lib.hid hr2
  clear hRR hHH HR hr1 hr2
  by_cases h0 : ce = 0
  · subst h0
    by_cases hr : 0 ≤ r
    · go_enter Try.func100, Try.ntmps100
      go_wp2_with fail
      refine hA.mono ?_
      rintro e w5 ⟨c', rfl, hC, k1, k2⟩
      obtain ⟨rfl, hB5, hv⟩ := hcell c' w5 hC k1 k2
      have hv' := hv (by simp)
      clear hA hcell k1 k2 hC hv
      go_wp2
      refine bodyPost_ret (v := .tuple #[.int .i64 r, .bool true, .int .i64 0]) (by simp [results, Try.results100, go_sem, *]) rfl ⟨by rw [(Hr1.out (by simp) hr).1, (Hr1.out (by simp) hr).2], hB5⟩
    · go_enter Try.func100, Try.ntmps100
      go_wp2_with fail
      refine hA.mono ?_
      rintro e w5 ⟨c', rfl, hC, k1, k2⟩
      obtain ⟨rfl, hB5, hv⟩ := hcell c' w5 hC k1 k2
      have hv' := hv (by simp)
      clear hA hcell k1 k2 hC hv
      go_wp2
      refine bodyPost_ret (v := .tuple #[.int .i64 0, .bool false, .int .i64 0]) (by simp [results, Try.results100, go_sem, *]) rfl ⟨by rw [(Hr2.out (.inr hr)).1, (Hr2.out (.inr hr)).2], hB5⟩
  · have h0' : (ce != 0) = true := by simpa using h0
    go_enter Try.func100, Try.ntmps100
    go_wp2_with fail
    refine hA.mono ?_
    rintro e w5 ⟨c', rfl, hC, k1, k2⟩
    obtain ⟨rfl, hB5, hv⟩ := hcell c' w5 hC k1 k2
    clear hA hcell k1 k2 hC hv
    go_wp2
    refine bodyPost_ret (v := .tuple #[.int .i64 0, .bool false, .int .i64 c']) (by simp [results, Try.results100, go_sem, *]) rfl ⟨by rw [(Hr2.out (.inl h0)).1, (Hr2.out (.inl h0)).2], hB5⟩

theorem gKeeps_any (p : Int) (a : Option Addr) (n cap : Nat) (bs : List Bd) (al : Option Addr) (m c : Nat) (xs : List Int) (w : World) (hb : BdsAt w a n cap bs) (hx : IntsAt w al m c xs) :
    Calls Try.prog 49 #[.agg #[.int .i64 p, .slice a n cap], .slice al m c] w fun e w' => e = .returned (.tuple #[.bool (decide (brE p bs xs = 0) && !brH p bs xs), .int .i64 (brE p bs xs)]) ∧ Below w.heap.size w w' := by
  have hB1 : Below w.heap.size w (w.alloc (Obj.cells #[.int .i64 p, .slice a n cap] 24)) := (Below.refl _ _).alloc (Nat.le_refl _) _
  have hA := gBreaks_any p a n cap bs al m c xs _ (hb.below hB1) (hx.below hB1)
  generalize (if brH p bs xs = true then idxB (brkB xs) bs else 0) = r at *
  generalize brH p bs xs = h at *
  generalize brE p bs xs = ce at *
  by_cases h0 : ce = 0
  · subst h0
    cases h <;>
    · go_enter Try.func49, Try.ntmps49
      go_wp2_with (go_at_call 100; refine hA.mono ?_; rintro e w2 ⟨rfl, hb2⟩)
      go_ret2
      exact ⟨rfl, hB1.trans (hb2.mono (by simp))⟩
  · have h0' : (ce == 0) = false := by simpa using h0
    go_enter Try.func49, Try.ntmps49
    go_wp2_with (go_at_call 100; refine hA.mono ?_; rintro e w2 ⟨rfl, hb2⟩)
    go_ret2
    exact ⟨by simp [h0], hB1.trans (hb2.mono (by simp))⟩
end Go.Proofs.Ytlkcfohmoeadbaa

/-
  Gauge, walked: along.
-/
namespace Go.Proofs.Ytlkcfohmoeadbaa
open Go.RowKit Go.Shelf
set_option maxHeartbeats 4000000
set_option maxRecDepth 100000

def bls (l : List Bool) : Array Value := (l.map Value.bool).toArray
theorem bls_get {l : List Bool} {i : Int} (h0 : 0 ≤ i) (h : i < l.length) : (bls l)[i.toNat]? = some (.bool (l.getD i.toNat false)) := by
  unfold bls
  rw [List.getElem?_toArray, List.getElem?_map, List.getElem?_eq_getElem (by omega), List.getD_eq_getElem?_getD, List.getElem?_eq_getElem (by omega)]
  rfl
theorem bls_set (l : List Bool) (i : Nat) (v : Bool) : (bls l).setIfInBounds i (.bool v) = bls (l.set i v) := by
  unfold bls
  simp [List.map_set]
/-- Marks: which points of 60 are in a list. -/
def MarksOf (l : List Bool) (fs : List Int) : Prop := l.length = 60 ∧ ∀ j : Int, 0 ≤ j → j < 60 → l.getD j.toNat false = fs.any (· == j)
theorem MarksOf.none : MarksOf (List.replicate 60 false) [] := ⟨by simp, fun j _ _ => by rw [List.getD_eq_getElem?_getD, List.getElem?_replicate]; split <;> rfl⟩
theorem MarksOf.add {l : List Bool} {fs : List Int} (h : MarksOf l fs) {x : Int} (x0 : 0 ≤ x) (x1 : x < 60) : MarksOf (l.set x.toNat true) (fs ++ [x]) := by
  refine ⟨by simp [h.1], fun j j0 j1 => ?_⟩
  have h2 := h.2 j j0 j1
  rw [List.getD_eq_getElem?_getD] at h2 ⊢
  rw [List.getElem?_set, List.any_append, ← h2]
  have hl := h.1
  by_cases e : x = j
  · subst e; simp [hl]; rw [if_pos (by omega)]; simp
  · have e2 : x.toNat ≠ j.toNat := by omega
    simp [e2, e]

/-- along's answer: the sum, and whether it is a walk from a to b. -/
def alS (bs : List Bd) (a : Int) (l : List Int) : Int := if wkO bs l (some a) [] [] then wsum bs l else 0
def alB (bs : List Bd) (a b : Int) (l : List Int) : Bool := wkO bs l (some a) [] [] && decide (wend bs l a = b)

theorem bls_zero : bls (List.replicate 60 false) = #[.bool false, .bool false, .bool false, .bool false, .bool false, .bool false, .bool false, .bool false, .bool false, .bool false, .bool false, .bool false, .bool false, .bool false, .bool false, .bool false, .bool false, .bool false, .bool false, .bool false, .bool false, .bool false, .bool false, .bool false, .bool false, .bool false, .bool false, .bool false, .bool false, .bool false, .bool false, .bool false, .bool false, .bool false, .bool false, .bool false, .bool false, .bool false, .bool false, .bool false, .bool false, .bool false, .bool false, .bool false, .bool false, .bool false, .bool false, .bool false, .bool false, .bool false, .bool false, .bool false, .bool false, .bool false, .bool false, .bool false, .bool false, .bool false, .bool false, .bool false] := by rfl

theorem galong_any (p : Int) (a : Option Addr) (n cap : Nat) (bs : List Bd) (x y : Int) (al : Option Addr) (m c : Nat) (xs : List Int) (w : World) (hb : BdsAt w a n cap bs) (hx : IntsAt w al m c xs) (hs : Sys p bs) (hl : xs.length ≤ 1000) :
    Calls Try.prog 105 #[.agg #[.int .i64 p, .slice a n cap], .int .i64 x, .int .i64 y, .slice al m c] w fun e w' => e = .returned (.tuple #[.int .i64 (alS bs x xs), .bool (alB bs x y xs)]) ∧ Below w.heap.size w w' := by
  have hlb := hs.len
  obtain rfl := hb.len
  obtain rfl := hx.len
  have HR0 := Lib.hid (show wkO bs xs (some x) [] [] = false → alS bs x xs = 0 ∧ alB bs x y xs = false from fun h => by unfold alS alB; rw [h]; exact ⟨rfl, rfl⟩)
  have HR1 := Lib.hid (show wkO bs xs (some x) [] [] = true → alS bs x xs = wsum bs xs ∧ alB bs x y xs = decide (wend bs xs x = y) from fun h => by unfold alS alB; rw [h]; exact ⟨rfl, rfl⟩)
  generalize alS bs x xs = RS at *
  generalize alB bs x y xs = RB at *
  go_enter Try.func105, Try.ntmps105
  go_wp2_with fail
  obtain ⟨w3, hw3⟩ : ∃ w3, w3 = ((w.alloc (Obj.cells #[.int .i64 p, .slice a bs.length cap] 24)).alloc (Obj.cells (bls (List.replicate 60 false)) 129)).alloc (Obj.cells (bls (List.replicate 60 false)) 129) := ⟨_, rfl⟩
  have hz : bls (List.replicate 60 false) = #[.bool false, .bool false, .bool false, .bool false, .bool false, .bool false, .bool false, .bool false, .bool false, .bool false, .bool false, .bool false, .bool false, .bool false, .bool false, .bool false, .bool false, .bool false, .bool false, .bool false, .bool false, .bool false, .bool false, .bool false, .bool false, .bool false, .bool false, .bool false, .bool false, .bool false, .bool false, .bool false, .bool false, .bool false, .bool false, .bool false, .bool false, .bool false, .bool false, .bool false, .bool false, .bool false, .bool false, .bool false, .bool false, .bool false, .bool false, .bool false, .bool false, .bool false, .bool false, .bool false, .bool false, .bool false, .bool false, .bool false, .bool false, .bool false, .bool false, .bool false] := bls_zero
  rw [hz] at hw3
  rw [← hw3]
  have hB3 : Below w.heap.size w w3 := by rw [hw3]; ((repeat (first | assumption | exact Below.refl _ _ | refine Below.alloc ?_ ?_ _ | refine Below.setCell ?_ ?_ _ | refine Below.drew ?_ | refine belowN ?_ | refine Below.up ?_ (by assumption) ?_)) <;> (first | assumption | omega | (simp; done) | (simp; omega)))
  have z3 : w3.heap.size = w.heap.size + 3 := by rw [hw3]; simp
  have q1 : w3.cell? ⟨w.heap.size, 1, none⟩ = some (.slice a bs.length cap) := by simp [go_sem, hw3]
  have hF : w3.heap[w.heap.size + 1]? = some (.cells (bls (List.replicate 60 false)) 129 (0, 0)) := by
    rw [hw3, hz, Below.heap_alloc _ _ _ (by simp)]; exact heap_alloc2_new _ _ _
  have hT : w3.heap[w.heap.size + 1 + 1]? = some (.cells (bls (List.replicate 60 false)) 129 (0, 0)) := by
    rw [hw3, hz]
    have h := World.alloc_heap_new ((w.alloc (Obj.cells #[.int .i64 p, .slice a bs.length cap] 24)).alloc (Obj.cells #[.bool false, .bool false, .bool false, .bool false, .bool false, .bool false, .bool false, .bool false, .bool false, .bool false, .bool false, .bool false, .bool false, .bool false, .bool false, .bool false, .bool false, .bool false, .bool false, .bool false, .bool false, .bool false, .bool false, .bool false, .bool false, .bool false, .bool false, .bool false, .bool false, .bool false, .bool false, .bool false, .bool false, .bool false, .bool false, .bool false, .bool false, .bool false, .bool false, .bool false, .bool false, .bool false, .bool false, .bool false, .bool false, .bool false, .bool false, .bool false, .bool false, .bool false, .bool false, .bool false, .bool false, .bool false, .bool false, .bool false, .bool false, .bool false, .bool false, .bool false] 129)) (Obj.cells #[.bool false, .bool false, .bool false, .bool false, .bool false, .bool false, .bool false, .bool false, .bool false, .bool false, .bool false, .bool false, .bool false, .bool false, .bool false, .bool false, .bool false, .bool false, .bool false, .bool false, .bool false, .bool false, .bool false, .bool false, .bool false, .bool false, .bool false, .bool false, .bool false, .bool false, .bool false, .bool false, .bool false, .bool false, .bool false, .bool false, .bool false, .bool false, .bool false, .bool false, .bool false, .bool false, .bool false, .bool false, .bool false, .bool false, .bool false, .bool false, .bool false, .bool false, .bool false, .bool false, .bool false, .bool false, .bool false, .bool false, .bool false, .bool false, .bool false, .bool false] 129)
    simp only [World.size_alloc] at h
    exact h
  clear hw3 hz
  go_loopw [20, 12, 13, 15, 16] (fun i s at_ _ _ wr => ∃ (k : Nat) (S A : Int) (fs ts : List Int) (lf lt : List Bool), k ≤ xs.length ∧ i = .int .i64 k ∧ s = .int .i64 S ∧ at_ = .int .i64 A ∧ Below w.heap.size w wr ∧ w.heap.size + 3 ≤ wr.heap.size ∧ wr.cell? ⟨w.heap.size, 1, none⟩ = some (.slice a bs.length cap) ∧
      wr.heap[w.heap.size + 1]? = some (.cells (bls lf) 129 (0, 0)) ∧ wr.heap[w.heap.size + 1 + 1]? = some (.cells (bls lt) 129 (0, 0)) ∧ MarksOf lf fs ∧ MarksOf lt ts ∧ -(k * 100000000) ≤ S ∧ S ≤ k * 100000000 ∧
      wkO bs xs (some x) [] [] = wkO bs (xs.drop k) (some A) fs ts ∧ wsum bs xs = S + wsum bs (xs.drop k) ∧ wend bs xs x = wend bs (xs.drop k) A) (fun i _ _ _ _ _ => xs.length - (intOf i).toNat)
  case atStart => exact ⟨0, 0, x, [], [], _, _, Nat.zero_le _, rfl, rfl, rfl, hB3, by omega, q1, hF, hT, .none, .none, by omega, by omega, rfl, by simp, rfl⟩
  case round =>
    obtain ⟨k, S, A, fs, ts, lf, lt, hk, rfl, rfl, rfl, hB, hzr, c1, hFr, hTr, mf, mt, hS0, hS1, w1, w2, w4⟩ := hrel
    have W1 := Lib.hid w1
    have W2 := Lib.hid w2
    have W4 := Lib.hid w4
    clear w1 w2 w4
    have s0 : w.heap.size < wr.heap.size := by omega
    have s1 : w.heap.size + 1 < wr.heap.size := by omega
    have s2 : w.heap.size + 1 + 1 < wr.heap.size := by omega
    by_cases hlt : k < xs.length
    · obtain ⟨b, off, rfl, hbl, d0⟩ := (hx.below hB).get hlt
      have hdr : xs.drop k = xs.getD k 0 :: xs.drop (k + 1) := by rw [List.drop_eq_getElem_cons hlt, List.getD_eq_getElem?_getD, List.getElem?_eq_getElem hlt]; rfl
      generalize xs.getD k 0 = i at *
      have Hdr := Lib.hid hdr
      clear hdr
      have hW := fun w1 => gwithin_any i 0 ((bs.length : Int) - 1) w1
      by_cases hi : 0 ≤ i ∧ i < bs.length
      · have e1 : withinB i 0 ((bs.length : Int) - 1) = true := withinB_iff.2 (by omega)
        rw [e1] at hW
        obtain ⟨b2, off2, rfl, hbl2, d1, d2, d3, d4⟩ := (hb.below hB).get (i := i.toNat) (by omega)
        have hmem := bdI_mem hi
        obtain ⟨f0, f1, t0, t1, m0, m1⟩ := hs.inr _ hmem
        have ebd : bs.getD i.toNat default = bdI bs i := rfl
        rw [ebd] at d1 d2 d3 d4
        have HS := Lib.hid (show wkO bs xs (some x) [] [] = (((A == (bdI bs i).frm) && !fs.any (· == (bdI bs i).frm) && !ts.any (· == (bdI bs i).tow)) && wkO bs (xs.drop (k + 1)) (some (bdI bs i).tow) (fs ++ [(bdI bs i).frm]) (ts ++ [(bdI bs i).tow])) from by rw [W1.out, Hdr.out, wkO, decide_eq_true hi]; simp [Bool.and_assoc])
        have HW := Lib.hid (show wsum bs xs = S + ((bdI bs i).most + wsum bs (xs.drop (k + 1))) ∧ wend bs xs x = wend bs (xs.drop (k + 1)) (bdI bs i).tow from ⟨by rw [W2.out, Hdr.out, wsum], by rw [W4.out, Hdr.out, wend]⟩)
        generalize bdI bs i = z at *
        have hmf := mf.2 z.frm f0 f1
        have hmt := mt.2 z.tow t0 t1
        have g1 := ((SL.cells_of hFr).1 z.frm.toNat).trans (bls_get f0 (by rw [mf.1]; omega))
        have g2 := ((SL.cells_of hTr).1 z.tow.toNat).trans (bls_get t0 (by rw [mt.1]; omega))
        have HMF := Lib.hid hmf
        have HMT := Lib.hid hmt
        generalize lf.getD z.frm.toNat false = u at *
        generalize lt.getD z.tow.toNat false = v at *
        clear hmf hmt hmem ebd
        by_cases hcond : z.frm = A ∧ u = false ∧ v = false
        · obtain ⟨hA, rfl, rfl⟩ := hcond
          subst hA
          have nA : (z.frm != z.frm) = false := by simp
          have hwr : IntKind.i64.wrap (S + z.most) = S + z.most := IntWalk.i64_in _ (by omega)
          have HG := Lib.hid (show wkO bs xs (some x) [] [] = wkO bs (xs.drop (k + 1)) (some z.tow) (fs ++ [z.frm]) (ts ++ [z.tow]) from by rw [HS.out, ← HMF.out, ← HMT.out]; simp)
          clear HS
          go_wp2_with (go_at_call 71; refine (hW _).mono ?_; rintro e w5 ⟨rfl, rfl⟩)
          have hX := World.alloc_heap_new wr (Obj.cells #[.int .i64 z.frm, .int .i64 z.tow, .int .i64 z.most, .int .i64 z.bid] 39)
          have hBX : Below wr.heap.size wr (wr.alloc (Obj.cells #[.int .i64 z.frm, .int .i64 z.tow, .int .i64 z.most, .int .i64 z.bid] 39)) := (Below.refl _ _).alloc (Nat.le_refl _) _
          have zX : (wr.alloc (Obj.cells #[.int .i64 z.frm, .int .i64 z.tow, .int .i64 z.most, .int .i64 z.bid] 39)).heap.size = wr.heap.size + 1 := by simp
          obtain ⟨W1', hW1'⟩ : ∃ W1', W1' = wr.alloc (Obj.cells #[.int .i64 z.frm, .int .i64 z.tow, .int .i64 z.most, .int .i64 z.bid] 39) := ⟨_, rfl⟩
          rw [← hW1'] at hX hBX zX ⊢
          clear hW1'
          have hF1 := (hBX.block (w.heap.size + 1) s1).trans hFr
          have hT1 := (hBX.block (w.heap.size + 1 + 1) s2).trans hTr
          obtain ⟨aX, fX⟩ := SL.cells_of hX
          have x0 := aX 0
          have x1 := aX 1
          simp at x0 x1
          clear aX fX
          have c1' := ((bcell hBX).1 _ _ s0).trans c1
          have hl60 := mf.1
          have ht60 := mt.1
          clear d0 d1 d2 d3 d4 g1 g2 c1 W1 W2 W4
          refine SL.rule (by kernel_rfl) ((w.heap.size + 1) :: [w.heap.size + 1 + 1]) [52, 53, 54, 55, 56, 57] [
            SL.pu 52 [] (.pointer (some ⟨wr.heap.size, 0, none⟩)), SL.pu 53 [0] (.int .i64 z.frm), SL.pu 54 [] (.pointer (some ⟨wr.heap.size, 1, none⟩)), SL.pu 55 [2] (.int .i64 z.tow),
            SL.pu 56 [1] (.pointer (some ⟨w.heap.size + 1, z.frm.toNat, none⟩)), SL.boxAt 10 [4, 8] [8] (w.heap.size + 1) 129 (bls (lf.set z.frm.toNat true)),
            SL.pu 57 [3] (.pointer (some ⟨w.heap.size + 1 + 1, z.tow.toNat, none⟩)), SL.boxAt 11 [6, 9] [9] (w.heap.size + 1 + 1) 129 (bls (lt.set z.tow.toNat true)),
            SL.boxAt 10 [] [] (w.heap.size + 1) 129 (bls lf), SL.boxAt 11 [] [] (w.heap.size + 1 + 1) 129 (bls lt)] [5, 7] (by kernel_rfl) (by kernel_rfl) _
            (SL.br_held (N := w.heap.size + 1) (l := [w.heap.size + 1 + 1]) rfl rfl rfl ⟨rfl, hF1, rfl⟩ ⟨rfl, hT1, rfl⟩ (by omega) (by simp; omega)) (SL.br_apart (by simp)) ?_ ?_
          · refine ⟨?_, ?_, ?_, ?_, ?_, ?_, ?_, ?_, trivial⟩
            all_goals refine SL.ob fun us w' Fe hG hu hd hv K hK => ?_
            all_goals simp [SL.frame, SL.put', SL.Used, SL.Seen, SL.pu, SL.row, SL.box, SL.rowIn, SL.boxIn, SL.boxAt, SL.boxAtIn, Bd.v, Bd.cs] at hu hv hK ⊢
            all_goals (have hsz := hG.size; simp only [World.size_drew] at hsz)
            all_goals (have y0 := (hG.undrew.cellsE.1 _ _ (by omega) (by simp; omega)).trans x0)
            all_goals (have y1 := (hG.undrew.cellsE.1 _ _ (by omega) (by simp; omega)).trans x1)
            all_goals clear x0 x1
            all_goals try (go_step; refine hK _ _ _ _ (by simp [Act.put, *]; done) (SL.Chg.refl _ _) rfl rfl (by simp))
            · obtain ⟨⟨u1, _⟩, u2, u4, u5⟩ := hu
              have ff := (SL.cells_of u4).2
              have gg := ((SL.cells_of u4).1 z.frm.toNat).trans (bls_get f0 (by rw [hl60]; omega))
              go_step
              refine hK _ undef _ _ (by simp [Act.put, *]; done) (.setCell _ (by simp [u5]) _) u2 (by rw [← bls_set]; exact SL.heap_set u4 _) rfl ?_
              rw [u5]; simp
            · obtain ⟨⟨u1, _⟩, u2, u4, u5⟩ := hu
              have ff := (SL.cells_of u4).2
              have gg := ((SL.cells_of u4).1 z.tow.toNat).trans (bls_get t0 (by rw [ht60]; omega))
              go_step
              refine hK _ undef _ _ (by simp [Act.put, *]; done) (.setCell _ (by simp [u5]) _) u2 (by rw [← bls_set]; exact SL.heap_set u4 _) rfl ?_
              rw [u5]; simp
          · intro us w6 Fs hG hu hbd hd
            simp [SL.frame, SL.put', SL.Used, SL.Seen, SL.pu, SL.row, SL.box, SL.rowIn, SL.boxIn, SL.boxAt, SL.boxAtIn, Bd.v, Bd.cs] at hu ⊢
            obtain ⟨⟨_, uF, _⟩, _, uT, _⟩ := hu
            have z6 := hG.size
            simp only [World.size_drew] at z6
            have hX6 := (hG.undrew.block wr.heap.size (by omega) (by simp; omega)).trans hX
            obtain ⟨aX, fX⟩ := SL.cells_of hX6
            have x60 := aX 0
            have x61 := aX 1
            have x62 := aX 2
            simp at x60 x61 x62
            have c6 := (hG.undrew.cellsE.1 _ _ (by omega) (by simp; omega)).trans c1'
            clear aX x0 x1 c1' hbd hd fX
            go_wp2_with fail
            go_quiet (fail)
            go_wp2
            go_roundw
            case rel =>
              refine ⟨k + 1, S + z.most, z.tow, fs ++ [z.frm], ts ++ [z.tow], _, _, by omega, by go_num, rfl, rfl, ?_, by simp; omega, by simpa [go_sem] using c6, uF, uT, mf.add f0 f1, mt.add t0 t1, by push_cast; omega, by push_cast; omega, HG.out, by rw [HW.out.1]; omega, HW.out.2⟩
              exact belowN (hB.trans ((hBX.mono (by omega)).trans (hG.belowF (by omega) (by simp; omega))))
            case measure => simp [intOf]; omega
        · have hno : wkO bs xs (some x) [] [] = false := by
            rw [HS.out, ← HMF.out, ← HMT.out]
            by_cases a1 : z.frm = A
            · cases u <;> cases v <;> simp_all
            · have : (A == z.frm) = false := by rw [beq_eq_false_iff_ne]; exact fun e => a1 e.symm
              rw [this]; simp
          obtain ⟨r1, r2⟩ := HR0.out hno
          subst r1
          subst r2
          have hcases : ((z.frm != A) = true) ∨ ((z.frm != A) = false ∧ u = true) ∨ ((z.frm != A) = false ∧ u = false ∧ v = true) := by
            by_cases a1 : z.frm = A
            · cases u <;> cases v <;> simp_all
            · left; simpa using a1
          clear hno hcond
          rcases hcases with a1 | ⟨a1, rfl⟩ | ⟨a1, rfl, rfl⟩
          all_goals
            go_wp2_with (go_at_call 71; refine (hW _).mono ?_; rintro e w5 ⟨rfl, rfl⟩)
            go_ret2
            exact ⟨rfl, hB.alloc (by omega) _⟩
      · have e1 : withinB i 0 ((bs.length : Int) - 1) = false := by rw [Bool.eq_false_iff]; exact fun h => hi (by have := withinB_iff.1 h; omega)
        rw [e1] at hW
        have hno : wkO bs xs (some x) [] [] = false := by rw [W1.out, Hdr.out, wkO, decide_eq_false hi]; simp
        obtain ⟨r1, r2⟩ := HR0.out hno
        subst r1
        subst r2
        clear hno hi
        go_wp2_with (go_at_call 71; refine (hW _).mono ?_; rintro e w5 ⟨rfl, rfl⟩)
        go_ret2
        exact ⟨rfl, hB⟩
    · have hd : xs.drop k = [] := List.drop_eq_nil_of_le (by omega)
      have hyes : wkO bs xs (some x) [] [] = true := by rw [W1.out, hd]; rfl
      obtain ⟨r1, r2⟩ := HR1.out hyes
      have r3 : RS = S := by rw [r1, W2.out, hd]; simp [wsum]
      have r4 : RB = (A == y) := by rw [r2, W4.out, hd]; rw [Bool.eq_iff_iff]; simp [wend]; exact decide_eq_true_iff
      subst r3
      subst r4
      clear hd hyes r1 r2
      go_wp2_with fail
      go_ret2
      exact ⟨rfl, hB⟩
end Go.Proofs.Ytlkcfohmoeadbaa

/-
  Gauge, walked: CheckCircle.
-/
namespace Go.Proofs.Ytlkcfohmoeadbaa
open Go.RowKit Go.Shelf
set_option maxHeartbeats 4000000
set_option maxRecDepth 100000

/-- Is a list a circle that contradicts itself? -/
def ccOk (bs : List Bd) (l : List Int) : Bool := decide (2 ≤ l.length) && wkO bs l none [] [] && decide (wsum bs l < 0) && decide (wend bs l 0 = (bdI bs (l.getD 0 0)).frm)

theorem wend_any {bs : List Bd} {l : List Int} (h : l ≠ []) (a b : Int) : wend bs l a = wend bs l b := by
  cases l with
  | nil => exact absurd rfl h
  | cons i l => rfl

theorem ccOk_short {bs : List Bd} {l : List Int} (h : l.length < 2) : ccOk bs l = false := by unfold ccOk; rw [decide_eq_false (by omega)]; rfl
theorem ccOk_bad {bs : List Bd} {l : List Int} (h2 : 2 ≤ l.length) (h : ¬ (0 ≤ l.getD 0 0 ∧ l.getD 0 0 < bs.length)) : ccOk bs l = false := by
  cases l with
  | nil => simp at h2
  | cons i l => unfold ccOk; rw [wkO_bad (by simpa using h)]; simp
theorem ccOk_al {bs : List Bd} {l : List Int} (h2 : 2 ≤ l.length) : ccOk bs l = (alB bs (bdI bs (l.getD 0 0)).frm (bdI bs (l.getD 0 0)).frm l && decide (alS bs (bdI bs (l.getD 0 0)).frm l < 0)) := by
  cases l with
  | nil => simp at h2
  | cons i l =>
    unfold ccOk alB alS
    have e : (i :: l).getD 0 0 = i := rfl
    rw [e, wkO_none, wend_any (by simp) 0 (bdI bs i).frm, decide_eq_true h2]
    cases wkO bs (i :: l) (some (bdI bs i).frm) [] [] with
    | false => simp
    | true => simp [Bool.and_comm]

theorem gCheckCircle_any (p : Int) (a : Option Addr) (n cap : Nat) (bs : List Bd) (al : Option Addr) (m c : Nat) (xs : List Int) (w : World) (hb : BdsAt w a n cap bs) (hx : IntsAt w al m c xs) (hl : xs.length ≤ 1000) :
    Calls Try.prog 55 #[.agg #[.int .i64 p, .slice a n cap], .slice al m c] w fun e w' => e = .returned (.tuple #[.bool (decide (chk p bs = 0) && ccOk bs xs), .int .i64 (chk p bs)]) ∧ Below w.heap.size w w' := by
  have hB1 : Below w.heap.size w (w.alloc (Obj.cells #[.int .i64 p, .slice a n cap] 24)) := (Below.refl _ _).alloc (Nat.le_refl _) _
  have hbx := hb.below hB1
  have hC := gcheck_any p a n cap bs _ hbx
  by_cases h0 : chk p bs = 0
  · have hs := Sys.of_chk h0
    have hlb := hs.len
    simp only [h0] at hC ⊢
    have Hs := Lib.hid hs
    clear h0 hs
    obtain rfl := hb.len
    have hm := hx.len
    have hml : m ≤ 1000 := by omega
    have Hm := Lib.hid hm
    by_cases h2 : m < 2
    · have e0 : ccOk bs xs = false := ccOk_short (by omega)
      rw [e0]
      clear e0 hm
      have e1 : decide ((m : Int) < 2) = true := by simp; omega
      go_enter Try.func55, Try.ntmps55
      go_wp2_with (go_at_call 63; refine (hC).mono ?_; rintro e w1 ⟨rfl, hb1⟩; obtain ⟨hc1, hf1⟩ := bcell hb1; have hz1a := lt_size hb1 (b := w.heap.size) (by first | assumption | omega | (simp; done) | (simp; omega)))
      go_quiet (fail)
      go_wp2
      go_ret2
      exact ⟨rfl, belowN (hB1.trans (hb1.mono (by simp)))⟩
    · have e1 : decide ((m : Int) < 2) = false := by simp; omega
      have hx1 := fun w1 (hB : Below w.heap.size w w1) => (hx.below hB).get (i := 0) (by omega)
      have hal := ccOk_al (bs := bs) (l := xs) (by omega)
      have hbad := ccOk_bad (bs := bs) (l := xs) (by omega)
      have hwr : IntKind.i64.wrap ((bs.length : Int) - 1) = (bs.length : Int) - 1 := IntWalk.i64_in _ (by omega)
      have hidx : (0 : Int) < (m : Int) := by omega
      have hidxN : 0 < m := by omega
      obtain ⟨i, hi⟩ : ∃ i, xs.getD 0 0 = i := ⟨_, rfl⟩
      simp only [hi] at hx1 hal hbad
      have hW : ∀ w1 : World, Calls Try.prog 71 #[.int .i64 i, .int .i64 0, .int .i64 ((bs.length : Int) - 1)] w1 fun e w' => e = .returned (.bool (withinB i 0 ((bs.length : Int) - 1))) ∧ w' = w1 := fun w1 => (gwithin_any _ _ _ w1).mono fun _ _ h => ⟨h.1, h.2.symm⟩
      have HA := Lib.hid hal
      have HB := Lib.hid hbad
      clear hal hbad hi hm
      by_cases hv : 0 ≤ i ∧ i < bs.length
      · have e2 : withinB i 0 ((bs.length : Int) - 1) = true := withinB_iff.2 (by omega)
        rw [e2] at hW
        rw [HA.out]
        have hG := fun w1 (hB : Below w.heap.size w w1) => galong_any p a bs.length cap bs (bdI bs i).frm (bdI bs i).frm al m c xs w1 (hb.below hB) (hx.below hB) Hs.out hl
        have hd := fun w1 (hB : Below w.heap.size w w1) => (hb.below hB).get (i := i.toNat) (by omega)
        have ebd : bs.getD i.toNat default = bdI bs i := rfl
        simp only [ebd] at hd
        obtain ⟨v0, v1⟩ := hv
        have v0' : (0 : Int) ≤ i := v0
        generalize (bdI bs i) = z at *
        generalize alS bs z.frm xs = RS at *
        generalize alB bs z.frm z.frm xs = RB at *
        have Hd := Lib.hid hd
        have Hx1 := Lib.hid hx1
        clear hd hx1 HA HB ebd
        go_enter Try.func55, Try.ntmps55
        go_wp2_with (go_at_call 63; refine (hC).mono ?_; rintro e w1 ⟨rfl, hb1⟩; obtain ⟨hc1, hf1⟩ := bcell hb1; have hz1a := lt_size hb1 (b := w.heap.size) (by first | assumption | omega | (simp; done) | (simp; omega)))
        have hB2 : Below w.heap.size w w1 := hB1.trans (hb1.mono (by simp))
        obtain ⟨b, off, rfl, hbl, d0⟩ := Hx1.out _ hB2
        simp only [Nat.add_zero] at d0
        obtain ⟨b2, off2, rfl, hbl2, k0, k1, k2, k3⟩ := Hd.out _ hB2
        have zz := hB2.size
        go_quiet ((go_at_call 71; exact Calls.quiet_of_same (hW _)))
        go_wp2
        go_quiet (fail)
        have hG' := hG
        clear hG
        cases RB with
        | false =>
          go_wp2_with (go_at_call 105; refine (hG' _ (by repeat (first | exact hB2 | refine belowN ?_))).mono ?_; rintro e w5 ⟨rfl, hb5⟩)
          go_ret2
          exact ⟨rfl, (show Below w.heap.size w _ by repeat (first | exact hB2 | refine belowN ?_)).trans (hb5.mono (by simp; omega))⟩
        | true =>
          go_wp2_with (go_at_call 105; refine (hG' _ (by repeat (first | exact hB2 | refine belowN ?_))).mono ?_; rintro e w5 ⟨rfl, hb5⟩)
          go_ret2
          exact ⟨rfl, (show Below w.heap.size w _ by repeat (first | exact hB2 | refine belowN ?_)).trans (hb5.mono (by simp; omega))⟩
      · have e2 : withinB i 0 ((bs.length : Int) - 1) = false := by rw [Bool.eq_false_iff]; exact fun h => hv (by have := withinB_iff.1 h; omega)
        rw [e2] at hW
        rw [HB.out hv]
        have Hx1 := Lib.hid hx1
        clear hx1 HA HB hv e2
        go_enter Try.func55, Try.ntmps55
        go_wp2_with (go_at_call 63; refine (hC).mono ?_; rintro e w1 ⟨rfl, hb1⟩; obtain ⟨hc1, hf1⟩ := bcell hb1; have hz1a := lt_size hb1 (b := w.heap.size) (by first | assumption | omega | (simp; done) | (simp; omega)))
        have hB2 : Below w.heap.size w w1 := hB1.trans (hb1.mono (by simp))
        obtain ⟨b, off, rfl, hbl, d0⟩ := Hx1.out _ hB2
        simp only [Nat.add_zero] at d0
        go_quiet ((go_at_call 71; exact Calls.quiet_of_same (hW _)))
        go_wp2
        go_ret2
        exact ⟨rfl, belowN hB2⟩
  · have h0' : (chk p bs != 0) = true := by simpa using h0
    have e0 : (decide (chk p bs = 0) && ccOk bs xs) = false := by rw [decide_eq_false h0]; rfl
    rw [e0]
    clear e0 h0
    generalize chk p bs = ce at *
    go_enter Try.func55, Try.ntmps55
    go_wp2_with (go_at_call 63; refine (hC).mono ?_; rintro e w1 ⟨rfl, hb1⟩; obtain ⟨hc1, hf1⟩ := bcell hb1; have hz1a := lt_size hb1 (b := w.heap.size) (by first | assumption | omega | (simp; done) | (simp; omega)))
    go_ret2
    exact ⟨rfl, hB1.trans (hb1.mono (by simp))⟩
end Go.Proofs.Ytlkcfohmoeadbaa

/-
  Gauge, walked: CheckPath.
-/
namespace Go.Proofs.Ytlkcfohmoeadbaa
open Go.RowKit Go.Shelf
set_option maxHeartbeats 4000000
set_option maxRecDepth 100000

/-- Is a list a path from a to b whose sum is at most a number? -/
def cpB (bs : List Bd) (x y most : Int) (l : List Int) : Bool := alB bs x y l && decide (alS bs x l ≤ most) && (!decide (x = y) || decide (l.length = 0))

def cpEnd (p : Int) (bs : List Bd) (x y most : Int) (xs : List Int) (OB : Nat) (w1 : World) (e : Ending) (w' : World) : Prop :=
  (both p x y = false → e = .panicked gaveUp ∧ Below w1.heap.size w1 w') ∧ (both p x y = true → e = .returned (.int .i64 0) ∧ SL.Chg [OB] w1 w' ∧ w'.heap[OB]? = some (.cells #[.bool (cpB bs x y most xs)] 4 (0, 0)))


theorem gCheckPath1_any (p : Int) (a : Option Addr) (n cap : Nat) (bs : List Bd) (x y most : Int) (al : Option Addr) (m c : Nat) (xs : List Int) (SB BA BB LB MB OB : Nat) (w1 : World) (hs : Sys p bs) (hb : BdsAt w1 a n cap bs) (hx : IntsAt w1 al m c xs) (hl : xs.length ≤ 1000)
    (c0 : w1.cell? ⟨SB, 0, none⟩ = some (.int .i64 p)) (c1 : w1.cell? ⟨SB, 1, none⟩ = some (.slice a n cap)) (ca : w1.cell? ⟨BA, 0, none⟩ = some (.int .i64 x)) (cb : w1.cell? ⟨BB, 0, none⟩ = some (.int .i64 y)) (cl : w1.cell? ⟨LB, 0, none⟩ = some (.slice al m c)) (cm : w1.cell? ⟨MB, 0, none⟩ = some (.int .i64 most))
    (hO : w1.heap[OB]? = some (.cells #[.bool false] 4 (0, 0))) :
    Calls Try.prog 110 #[.pointer (some ⟨SB, 0, none⟩), .pointer (some ⟨BA, 0, none⟩), .pointer (some ⟨BB, 0, none⟩), .pointer (some ⟨LB, 0, none⟩), .pointer (some ⟨MB, 0, none⟩), .pointer (some ⟨OB, 0, none⟩)] w1 (cpEnd p bs x y most xs OB w1) := by
  have z0 := World.block_lt_of_cell? w1 _ c0
  have z1 := World.block_lt_of_cell? w1 _ ca
  have z2 := World.block_lt_of_cell? w1 _ cb
  have z3 := World.block_lt_of_cell? w1 _ cl
  have z4 := World.block_lt_of_cell? w1 _ cm
  have z5 := (Array.getElem?_eq_some_iff.1 hO).1
  simp only at z0 z1 z2 z3 z4
  have hp := hs.p1
  have hp2 := hs.p2
  have hpts := fun (w : World) (al : Option Addr) (m c : Nat) (h : IntsAt w al m c [x, y]) => gpoints_any p a n cap al m c [x, y] w h ⟨hp, hp2⟩
  have hnew : IntsAt (w1.alloc (Obj.cells #[.int .i64 x, .int .i64 y] 3)) (some ⟨w1.heap.size, 0, none⟩) 2 2 [x, y] :=
    ⟨rfl, by simp, RowAt.of_heap (World.alloc_heap_new w1 _)⟩
  have hB1 : Below w1.heap.size w1 (w1.alloc (Obj.cells #[.int .i64 x, .int .i64 y] 3)) := (Below.refl _ _).alloc (Nat.le_refl _) _
  change ∀ (w : World) (al : Option Addr) (m c : Nat) (_ : IntsAt w al m c [x, y]), Calls Try.prog 69 #[.agg #[.int .i64 p, .slice a n cap], .slice al m c] w fun e w' => e = (if both p x y then .returned (.tuple #[]) else .panicked gaveUp) ∧ Below w.heap.size w w' at hpts
  unfold cpEnd
  cases o1 : both p x y with
  | false =>
    simp only [o1] at hpts ⊢
    go_enter Try.func110, Try.ntmps110
    go_wp2_with (go_at_call 69; refine (hpts _ _ _ _ hnew).mono ?_; rintro e w2 ⟨rfl, hb2⟩)
    exact ⟨rfl, fun _ => ⟨rfl, hB1.trans (hb2.mono (by simp))⟩, (fun h => by cases h)⟩
  | true =>
    simp only [o1] at hpts ⊢
    have hG := fun w2 (hB : Below w1.heap.size w1 w2) => galong_any p a n cap bs x y al m c xs w2 (hb.below hB) (hx.below hB) hs hl
    have HO := Lib.hid (show cpB bs x y most xs = (alB bs x y xs && decide (alS bs x xs ≤ most) && (!decide (x = y) || decide (m = 0))) from by unfold cpB; rw [hx.len])
    have hml : m ≤ 1000 := by have := hx.len; omega
    generalize cpB bs x y most xs = O at *
    generalize alS bs x xs = RS at *
    have hend : ∀ w5, Below w1.heap.size w1 w5 → SL.Chg [OB] w1 (w5.setCell ⟨OB, 0, none⟩ (.bool O)) ∧ (w5.setCell ⟨OB, 0, none⟩ (.bool O)).heap[OB]? = some (.cells #[.bool O] 4 (0, 0)) := fun w5 hB =>
      ⟨(SL.Chg.of_below hB).trans (.setCell _ (by simp) _), SL.heap_set ((hB.block OB z5).trans hO) _⟩
    have Hend := Lib.hid hend
    have Hpts := Lib.hid hpts
    clear hend hpts
    have hcases : (alB bs x y xs = false ∧ O = false) ∨ (alB bs x y xs = true ∧ ((most < RS ∧ O = false) ∨ (RS ≤ most ∧ ((x ≠ y ∧ O = true) ∨ (x = y ∧ ((m = 0 ∧ O = true) ∨ (0 < m ∧ O = false))))))) := by
      rw [HO.out]
      cases alB bs x y xs with
      | false => left; simp
      | true =>
        right
        refine ⟨rfl, ?_⟩
        by_cases h1 : RS ≤ most
        · right
          refine ⟨h1, ?_⟩
          by_cases h2 : x = y
          · right
            refine ⟨h2, ?_⟩
            by_cases h3 : m = 0
            · left; simp [h1, h2, h3]
            · right; simp [h1, h2, h3]; omega
          · left; simp [h1, h2]
        · left; simp [h1]; omega
    clear HO
    have go : ∀ (_ : True), True := fun h => h
    rcases hcases with ⟨hA, hO2⟩ | ⟨hA, hr⟩
    · rw [hA] at hG
      subst hO2
      clear hA
      go_enter Try.func110, Try.ntmps110
      go_wp2_with (first
        | (go_at_call 69; refine (Hpts.out _ _ _ _ hnew).mono ?_; rintro e w2 ⟨rfl, hb2⟩; obtain ⟨hc2, hf2⟩ := bcell hb2; have hz2a := lt_size hb2 (b := SB) (by first | assumption | omega | (simp; done) | (simp; omega)); have hz2b := lt_size hb2 (b := BA) (by first | assumption | omega | (simp; done) | (simp; omega)); have hz2c := lt_size hb2 (b := BB) (by first | assumption | omega | (simp; done) | (simp; omega)); have hz2d := lt_size hb2 (b := LB) (by first | assumption | omega | (simp; done) | (simp; omega)); have hz2e := lt_size hb2 (b := MB) (by first | assumption | omega | (simp; done) | (simp; omega)))
        | (go_at_call 105; refine (hG _ (hB1.trans (hb2.mono (by simp)))).mono ?_; rintro e w3 ⟨rfl, hb3⟩; obtain ⟨hc3, hf3⟩ := bcell hb3
           have zz2 := hb2.size
           have zz3 := hb3.size
           simp only [World.size_alloc] at zz2
           have s1 := lt_size hb3 (b := BA) (by first | assumption | omega | (simp; done) | (simp; omega))
           have s2 := lt_size hb3 (b := BB) (by first | assumption | omega | (simp; done) | (simp; omega))
           have s3 := lt_size hb3 (b := LB) (by first | assumption | omega | (simp; done) | (simp; omega))
           have s4 := lt_size hb3 (b := MB) (by first | assumption | omega | (simp; done) | (simp; omega))
           have hBx := (hB1.trans (hb2.mono (by simp))).trans (hb3.mono (by omega))
           have gO := (hBx.block OB z5).trans hO
           have f1 := (SL.cells_of gO).2
           have y1 := (SL.cells_of gO).1 0
           simp at y1
           have s5 : OB < w3.heap.size := by omega))
      go_ret
      first
        | exact ⟨rfl, Hend.out _ hBx⟩
        | exact ⟨(fun h => by cases h), fun _ => ⟨rfl, Hend.out _ hBx⟩⟩
    · rw [hA] at hG
      clear hA
      rcases hr with ⟨h1, hO2⟩ | ⟨h1, hr⟩
      · subst hO2
        go_enter Try.func110, Try.ntmps110
        go_wp2_with (first
          | (go_at_call 69; refine (Hpts.out _ _ _ _ hnew).mono ?_; rintro e w2 ⟨rfl, hb2⟩; obtain ⟨hc2, hf2⟩ := bcell hb2; have hz2a := lt_size hb2 (b := SB) (by first | assumption | omega | (simp; done) | (simp; omega)); have hz2b := lt_size hb2 (b := BA) (by first | assumption | omega | (simp; done) | (simp; omega)); have hz2c := lt_size hb2 (b := BB) (by first | assumption | omega | (simp; done) | (simp; omega)); have hz2d := lt_size hb2 (b := LB) (by first | assumption | omega | (simp; done) | (simp; omega)); have hz2e := lt_size hb2 (b := MB) (by first | assumption | omega | (simp; done) | (simp; omega)))
          | (go_at_call 105; refine (hG _ (hB1.trans (hb2.mono (by simp)))).mono ?_; rintro e w3 ⟨rfl, hb3⟩; obtain ⟨hc3, hf3⟩ := bcell hb3
             have zz2 := hb2.size
             have zz3 := hb3.size
             simp only [World.size_alloc] at zz2
             have s1 := lt_size hb3 (b := BA) (by first | assumption | omega | (simp; done) | (simp; omega))
             have s2 := lt_size hb3 (b := BB) (by first | assumption | omega | (simp; done) | (simp; omega))
             have s3 := lt_size hb3 (b := LB) (by first | assumption | omega | (simp; done) | (simp; omega))
             have s4 := lt_size hb3 (b := MB) (by first | assumption | omega | (simp; done) | (simp; omega))
             have hBx := (hB1.trans (hb2.mono (by simp))).trans (hb3.mono (by omega))
             have gO := (hBx.block OB z5).trans hO
             have f1 := (SL.cells_of gO).2
             have y1 := (SL.cells_of gO).1 0
             simp at y1
             have s5 : OB < w3.heap.size := by omega))
        go_ret
        first
          | exact ⟨rfl, Hend.out _ hBx⟩
          | exact ⟨(fun h => by cases h), fun _ => ⟨rfl, Hend.out _ hBx⟩⟩
      · rcases hr with ⟨h2, hO2⟩ | ⟨h2, hr⟩
        · subst hO2
          have e2 : (x != y) = true := by simpa using h2
          go_enter Try.func110, Try.ntmps110
          go_wp2_with (first
            | (go_at_call 69; refine (Hpts.out _ _ _ _ hnew).mono ?_; rintro e w2 ⟨rfl, hb2⟩; obtain ⟨hc2, hf2⟩ := bcell hb2; have hz2a := lt_size hb2 (b := SB) (by first | assumption | omega | (simp; done) | (simp; omega)); have hz2b := lt_size hb2 (b := BA) (by first | assumption | omega | (simp; done) | (simp; omega)); have hz2c := lt_size hb2 (b := BB) (by first | assumption | omega | (simp; done) | (simp; omega)); have hz2d := lt_size hb2 (b := LB) (by first | assumption | omega | (simp; done) | (simp; omega)); have hz2e := lt_size hb2 (b := MB) (by first | assumption | omega | (simp; done) | (simp; omega)))
            | (go_at_call 105; refine (hG _ (hB1.trans (hb2.mono (by simp)))).mono ?_; rintro e w3 ⟨rfl, hb3⟩; obtain ⟨hc3, hf3⟩ := bcell hb3
               have zz2 := hb2.size
               have zz3 := hb3.size
               simp only [World.size_alloc] at zz2
               have s1 := lt_size hb3 (b := BA) (by first | assumption | omega | (simp; done) | (simp; omega))
               have s2 := lt_size hb3 (b := BB) (by first | assumption | omega | (simp; done) | (simp; omega))
               have s3 := lt_size hb3 (b := LB) (by first | assumption | omega | (simp; done) | (simp; omega))
               have s4 := lt_size hb3 (b := MB) (by first | assumption | omega | (simp; done) | (simp; omega))
               have hBx := (hB1.trans (hb2.mono (by simp))).trans (hb3.mono (by omega))
               have gO := (hBx.block OB z5).trans hO
               have f1 := (SL.cells_of gO).2
               have y1 := (SL.cells_of gO).1 0
               simp at y1
               have s5 : OB < w3.heap.size := by omega))
          go_ret
          first
            | exact ⟨rfl, Hend.out _ hBx⟩
            | exact ⟨(fun h => by cases h), fun _ => ⟨rfl, Hend.out _ hBx⟩⟩
        · subst h2
          have e2 : (x != x) = false := by simp
          rcases hr with ⟨h3, hO2⟩ | ⟨h3, hO2⟩
          · subst hO2
            subst h3
            go_enter Try.func110, Try.ntmps110
            go_wp2_with (first
              | (go_at_call 69; refine (Hpts.out _ _ _ _ hnew).mono ?_; rintro e w2 ⟨rfl, hb2⟩; obtain ⟨hc2, hf2⟩ := bcell hb2; have hz2a := lt_size hb2 (b := SB) (by first | assumption | omega | (simp; done) | (simp; omega)); have hz2b := lt_size hb2 (b := BA) (by first | assumption | omega | (simp; done) | (simp; omega)); have hz2c := lt_size hb2 (b := BB) (by first | assumption | omega | (simp; done) | (simp; omega)); have hz2d := lt_size hb2 (b := LB) (by first | assumption | omega | (simp; done) | (simp; omega)); have hz2e := lt_size hb2 (b := MB) (by first | assumption | omega | (simp; done) | (simp; omega)))
              | (go_at_call 105; refine (hG _ (hB1.trans (hb2.mono (by simp)))).mono ?_; rintro e w3 ⟨rfl, hb3⟩; obtain ⟨hc3, hf3⟩ := bcell hb3
                 have zz2 := hb2.size
                 have zz3 := hb3.size
                 simp only [World.size_alloc] at zz2
                 have s1 := lt_size hb3 (b := BA) (by first | assumption | omega | (simp; done) | (simp; omega))
                 have s2 := lt_size hb3 (b := BB) (by first | assumption | omega | (simp; done) | (simp; omega))
                 have s3 := lt_size hb3 (b := LB) (by first | assumption | omega | (simp; done) | (simp; omega))
                 have s4 := lt_size hb3 (b := MB) (by first | assumption | omega | (simp; done) | (simp; omega))
                 have hBx := (hB1.trans (hb2.mono (by simp))).trans (hb3.mono (by omega))
                 have gO := (hBx.block OB z5).trans hO
                 have f1 := (SL.cells_of gO).2
                 have y1 := (SL.cells_of gO).1 0
                 simp at y1
                 have s5 : OB < w3.heap.size := by omega))
            go_ret
            first
              | exact ⟨rfl, Hend.out _ hBx⟩
              | exact ⟨(fun h => by cases h), fun _ => ⟨rfl, Hend.out _ hBx⟩⟩
          · subst hO2
            have e3 : ((m : Int) == 0) = false := by simp; omega
            go_enter Try.func110, Try.ntmps110
            go_wp2_with (first
              | (go_at_call 69; refine (Hpts.out _ _ _ _ hnew).mono ?_; rintro e w2 ⟨rfl, hb2⟩; obtain ⟨hc2, hf2⟩ := bcell hb2; have hz2a := lt_size hb2 (b := SB) (by first | assumption | omega | (simp; done) | (simp; omega)); have hz2b := lt_size hb2 (b := BA) (by first | assumption | omega | (simp; done) | (simp; omega)); have hz2c := lt_size hb2 (b := BB) (by first | assumption | omega | (simp; done) | (simp; omega)); have hz2d := lt_size hb2 (b := LB) (by first | assumption | omega | (simp; done) | (simp; omega)); have hz2e := lt_size hb2 (b := MB) (by first | assumption | omega | (simp; done) | (simp; omega)))
              | (go_at_call 105; refine (hG _ (hB1.trans (hb2.mono (by simp)))).mono ?_; rintro e w3 ⟨rfl, hb3⟩; obtain ⟨hc3, hf3⟩ := bcell hb3
                 have zz2 := hb2.size
                 have zz3 := hb3.size
                 simp only [World.size_alloc] at zz2
                 have s1 := lt_size hb3 (b := BA) (by first | assumption | omega | (simp; done) | (simp; omega))
                 have s2 := lt_size hb3 (b := BB) (by first | assumption | omega | (simp; done) | (simp; omega))
                 have s3 := lt_size hb3 (b := LB) (by first | assumption | omega | (simp; done) | (simp; omega))
                 have s4 := lt_size hb3 (b := MB) (by first | assumption | omega | (simp; done) | (simp; omega))
                 have hBx := (hB1.trans (hb2.mono (by simp))).trans (hb3.mono (by omega))
                 have gO := (hBx.block OB z5).trans hO
                 have f1 := (SL.cells_of gO).2
                 have y1 := (SL.cells_of gO).1 0
                 simp at y1
                 have s5 : OB < w3.heap.size := by omega))
            go_ret
            first
              | exact ⟨rfl, Hend.out _ hBx⟩
              | exact ⟨(fun h => by cases h), fun _ => ⟨rfl, Hend.out _ hBx⟩⟩

theorem gCheckPath_any (p : Int) (a : Option Addr) (n cap : Nat) (bs : List Bd) (x y most : Int) (al : Option Addr) (m c : Nat) (xs : List Int) (w : World) (hb : BdsAt w a n cap bs) (hx : IntsAt w al m c xs) (hl : xs.length ≤ 1000) :
    Calls Try.prog 59 #[.agg #[.int .i64 p, .slice a n cap], .int .i64 x, .int .i64 y, .int .i64 most, .slice al m c] w fun e w' => e = .returned (.tuple #[.bool (decide (rask p bs x y = 0) && cpB bs x y most xs), .int .i64 (rask p bs x y)]) ∧ Below w.heap.size w w' := by
  have hmf := makeFunc_run
  generalize hw6 : (((((w.alloc (Obj.cells #[.int .i64 p, .slice a n cap] 24)).alloc (Obj.cells #[.int .i64 x] 3)).alloc (Obj.cells #[.int .i64 y] 3)).alloc (Obj.cells #[.int .i64 most] 3)).alloc (Obj.cells #[.slice al m c] 27)).alloc (Obj.cells #[.bool false] 4) = w6
  have hB6 : Below w.heap.size w w6 := by rw [← hw6]; ((repeat (first | assumption | exact Below.refl _ _ | refine Below.alloc ?_ ?_ _ | refine Below.setCell ?_ ?_ _ | refine Below.drew ?_ | refine belowN ?_ | refine Below.up ?_ (by assumption) ?_)) <;> (first | assumption | omega | (simp; done) | (simp; omega)))
  have z6 : w6.heap.size = w.heap.size + 6 := by rw [← hw6]; simp
  have c0 : w6.cell? ⟨w.heap.size, 0, none⟩ = some (.int .i64 p) := by rw [← hw6]; simp [go_sem]
  have c1 : w6.cell? ⟨w.heap.size, 1, none⟩ = some (.slice a n cap) := by rw [← hw6]; simp [go_sem]
  have c2 : w6.cell? ⟨w.heap.size + 1, 0, none⟩ = some (.int .i64 x) := by rw [← hw6]; simp [go_sem]
  have c3 : w6.cell? ⟨w.heap.size + 1 + 1, 0, none⟩ = some (.int .i64 y) := by rw [← hw6]; simp [go_sem]
  have c4 : w6.cell? ⟨w.heap.size + 1 + 1 + 1, 0, none⟩ = some (.int .i64 most) := by rw [← hw6]; simp [go_sem]
  have c5 : w6.cell? ⟨w.heap.size + 1 + 1 + 1 + 1, 0, none⟩ = some (.slice al m c) := by rw [← hw6]; simp [go_sem]
  have h6 : w6.heap[w.heap.size + 5]? = some (.cells #[.bool false] 4 (0, 0)) := by
    rw [← hw6]
    have h := World.alloc_heap_new (((((w.alloc (Obj.cells #[.int .i64 p, .slice a n cap] 24)).alloc (Obj.cells #[.int .i64 x] 3)).alloc (Obj.cells #[.int .i64 y] 3)).alloc (Obj.cells #[.int .i64 most] 3)).alloc (Obj.cells #[.slice al m c] 27)) (Obj.cells #[.bool false] 4)
    simp only [World.size_alloc] at h
    exact h
  have hA := gtried_any p a n cap bs 110 #[.pointer (some ⟨w.heap.size, 0, none⟩), .pointer (some ⟨w.heap.size + 1, 0, none⟩), .pointer (some ⟨w.heap.size + 1 + 1, 0, none⟩), .pointer (some ⟨w.heap.size + 1 + 1 + 1 + 1, 0, none⟩), .pointer (some ⟨w.heap.size + 1 + 1 + 1, 0, none⟩), .pointer (some ⟨w.heap.size + 1 + 1 + 1 + 1 + 1, 0, none⟩)] w6 (hb.below hB6)
    [w.heap.size + 5] (by simp; omega)
    (fun c' w' => both p x y = true ∧ c' = 0 ∧ w'.heap[w.heap.size + 5]? = some (.cells #[.bool (cpB bs x y most xs)] 4 (0, 0))) (fun w' => both p x y = false ∧ Below w6.heap.size w6 w')
    (fun c' w1 w2 h hc => ⟨h.1, h.2.1, heap_chg h.2.2 hc (by simp; omega)⟩)
    (fun w1 w2 h hc => ⟨h.1, h.2.trans (hc.belowE h.2.size (by simp <;> omega))⟩) (enters_of Try.func110 (by kernel_rfl) rfl)
    (fun h0 w1 hb1 hz1 => by
      have hc := (bcell hb1).1
      have hB1 : Below w.heap.size w w1 := hB6.trans (hb1.mono (by omega))
      refine (gCheckPath1_any p a n cap bs x y most al m c xs _ _ _ _ _ _ w1 (Sys.of_chk h0) (hb.below hB1) (hx.below hB1) hl ((hc _ _ (by omega)).trans c0) ((hc _ _ (by omega)).trans c1) ((hc _ _ (by omega)).trans c2) ((hc _ _ (by omega)).trans c3) ((hc _ _ (by omega)).trans c5) ((hc _ _ (by omega)).trans c4) ((hb1.block _ (by omega)).trans h6)).mono ?_
      rintro e w' ⟨e1, e2⟩
      cases q1 : both p x y with
      | false =>
        obtain ⟨r1, r2⟩ := e1 q1
        exact ⟨.of_below r2, .inr ⟨r1, rfl, hb1.trans (r2.mono hb1.size)⟩⟩
      | true =>
        obtain ⟨r1, r2, r3⟩ := e2 q1
        exact ⟨r2, .inl ⟨0, r1, rfl, rfl, r3⟩⟩)
  have hcell : ∀ (c' : Int) (w5 : World), SL.Chg [w.heap.size + 5] w6 w5 → (chk p bs ≠ 0 → c' = chk p bs ∧ Below w6.heap.size w6 w5) → (chk p bs = 0 → (both p x y = true ∧ c' = 0 ∧ w5.heap[w.heap.size + 5]? = some (.cells #[.bool (cpB bs x y most xs)] 4 (0, 0))) ∨ (c' = 1 ∧ both p x y = false ∧ Below w6.heap.size w6 w5)) →
      c' = rask p bs x y ∧ Below w.heap.size w w5 ∧ w5.cell? ⟨w.heap.size + 5, 0, none⟩ = some (.bool (decide (rask p bs x y = 0) && cpB bs x y most xs)) := fun c' w5 hC h1 h2 => by
    have kB : Below w.heap.size w w5 := hB6.trans (hC.belowE (by omega) (by simp))
    have hno : rask p bs x y ≠ 0 → Below w6.heap.size w6 w5 → w5.cell? ⟨w.heap.size + 5, 0, none⟩ = some (.bool (decide (rask p bs x y = 0) && cpB bs x y most xs)) := fun h0 hb => by
      have := (SL.cells_of ((hb.block _ (by omega)).trans h6)).1 0
      rw [decide_eq_false h0]
      simpa using this
    by_cases h0 : chk p bs = 0
    · rcases h2 h0 with ⟨ko, rfl, r1⟩ | ⟨rfl, ko, k2⟩
      · have hE : rask p bs x y = 0 := by unfold rask; rw [if_pos h0, if_pos ko]
        refine ⟨hE.symm, kB, ?_⟩
        have := (SL.cells_of r1).1 0
        rw [hE]
        simpa using this
      · have hE : rask p bs x y = 1 := by unfold rask; rw [if_pos h0, ko]; rfl
        exact ⟨hE.symm, kB, hno (by omega) k2⟩
    · obtain ⟨rfl, k2⟩ := h1 h0
      have hE : rask p bs x y = chk p bs := by unfold rask; rw [if_neg h0]
      exact ⟨hE.symm, kB, hno (by omega) k2⟩
  subst hw6
  generalize (decide (rask p bs x y = 0) && cpB bs x y most xs) = O at *
  generalize rask p bs x y = ce at *
  go_enter Try.func59, Try.ntmps59
  go_wp2_with fail
  refine hA.mono ?_
  rintro e w5 ⟨c', rfl, hC, h1, h2⟩
  obtain ⟨rfl, hB5, hv⟩ := hcell c' w5 hC h1 h2
  clear hA hcell h1 h2 hC
  go_wp2
  refine bodyPost_ret (v := .tuple #[.bool O, .int .i64 c']) (by simp [results, Try.results59, go_sem, *]) rfl ⟨rfl, hB5⟩
end Go.Proofs.Ytlkcfohmoeadbaa

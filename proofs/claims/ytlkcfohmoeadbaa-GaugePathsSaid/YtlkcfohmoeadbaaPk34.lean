/-
  Lemmas and walks for the laws on bounds and their sums; the parts' own heads say what each proves, for every input.
-/
import Derived.Test.YtlkcfohmoeadbaaPk33
import Derived.Test.YtlkcfohmoeadbaaPk32
import Derived.Test.YtlkcfohmoeadbaaPk23
import Derived.Test.YtlkcfohmoeadbaaPk28
set_option linter.unusedSimpArgs false
set_option linter.unusedVariables false
set_option linter.unnecessarySimpa false
/-
  The reference of layer 1, walked: CheckCircle, CheckPath.
-/
namespace Go.Proofs.Ytlkcfohmoeadbaa
open Go.RowKit Go.Shelf
set_option maxHeartbeats 4000000
set_option maxRecDepth 100000

theorem wend_last {bs : List Bd} : ∀ {l : List Int} {m : Nat} {a : Int}, l.length = m + 1 → wend bs l a = (bdI bs (l.getD m 0)).tow
  | [], _, _, h => by simp at h
  | [i], m, a, h => by
    have : m = 0 := by simpa using h.symm
    subst this; rfl
  | i :: k :: l, 0, a, h => by simp at h
  | i :: k :: l, m + 1, a, h => by
    have := wend_last (bs := bs) (l := k :: l) (m := m) (a := (bdI bs i).tow) (by simpa using h)
    rw [wend, this]
    rfl
theorem wkO_valid {bs : List Bd} : ∀ {l : List Int} {a : Option Int} {fs ts : List Int}, wkO bs l a fs ts = true → ∀ i ∈ l, 0 ≤ i ∧ i < bs.length
  | [], _, _, _, _, i, hi => by simp at hi
  | k :: l, a, fs, ts, h, i, hi => by
    simp only [wkO, Bool.and_eq_true, decide_eq_true_eq] at h
    rcases List.mem_cons.1 hi with rfl | hi
    · exact h.1.1.1.1
    · exact wkO_valid h.2 i hi
theorem wsum_small {bs : List Bd} (hin : ∀ b ∈ bs, b.inr) : ∀ {l : List Int}, (∀ i ∈ l, 0 ≤ i ∧ i < bs.length) → -(l.length * 100000000) ≤ wsum bs l ∧ wsum bs l ≤ l.length * 100000000
  | [], _ => by simp [wsum]
  | k :: l, h => by
    have ih := wsum_small hin (l := l) (fun i hi => h i (by simp [hi]))
    have := hin _ (bdI_mem (h k (by simp)))
    have h1 := this.m0
    have h2 := this.m1
    simp only [wsum, List.length_cons]
    push_cast
    omega
theorem getD_mem_int {l : List Int} {k : Nat} (h : k < l.length) : l.getD k 0 ∈ l := by
  rw [List.getD_eq_getElem?_getD, List.getElem?_eq_getElem h]; exact List.getElem_mem _

theorem ccOk_walk {bs : List Bd} {l : List Int} : ccOk bs l = (wkO bs l none [] [] && decide (2 ≤ l.length) && (decide (rwS bs l < 0) && decide ((bdI bs (l.getD 0 0)).frm = (bdI bs (l.getD (l.length - 1) 0)).tow))) := by
  unfold ccOk rwS
  cases hw : wkO bs l none [] [] with
  | false => simp
  | true =>
    by_cases h2 : 2 ≤ l.length
    · rw [wend_last (m := l.length - 1) (by omega), Bool.eq_iff_iff]
      simp only [Bool.and_eq_true, decide_eq_true_eq, if_true, eq_comm (a := (bdI bs (l.getD 0 0)).frm)]
      simp [h2]
    · simp [h2]

theorem wkO_head {bs : List Bd} {i x : Int} {l : List Int} : wkO bs (i :: l) (some x) [] [] = ((x == (bdI bs i).frm) && wkO bs (i :: l) none [] []) := by
  have e1 : wkO bs (i :: l) (some x) [] [] = (decide (0 ≤ i ∧ i < bs.length) && (x == (bdI bs i).frm) && true && true && wkO bs l (some (bdI bs i).tow) [(bdI bs i).frm] [(bdI bs i).tow]) := rfl
  have e2 : wkO bs (i :: l) none [] [] = (decide (0 ≤ i ∧ i < bs.length) && true && true && true && wkO bs l (some (bdI bs i).tow) [(bdI bs i).frm] [(bdI bs i).tow]) := rfl
  rw [e1, e2]
  cases decide (0 ≤ i ∧ i < bs.length) <;> cases (x == (bdI bs i).frm) <;> simp

theorem cpB_walk {bs : List Bd} {x y most : Int} {l : List Int} : cpB bs x y most l = if l.length = 0 ∨ x = y then (decide (x = y) && decide (l.length = 0) && decide (0 ≤ most)) else wkO bs l none [] [] && (decide (rwS bs l ≤ most) && decide ((bdI bs (l.getD 0 0)).frm = x) && decide ((bdI bs (l.getD (l.length - 1) 0)).tow = y)) := by
  unfold cpB alB alS rwS
  cases l with
  | nil => rw [Bool.eq_iff_iff]; simp [wkO, wend, wsum]; exact fun _ => decide_eq_true_iff
  | cons i l =>
    by_cases hxy : x = y
    · subst hxy; simp
    · rw [if_neg (show ¬ ((i :: l).length = 0 ∨ x = y) by simp [hxy]), wkO_head, wend_last (m := (i :: l).length - 1) (by simp)]
      have e0 : (i :: l).getD 0 0 = i := rfl
      rw [e0, Bool.eq_iff_iff]
      cases wkO bs (i :: l) none [] [] with
      | false => simp
      | true =>
        by_cases e : (bdI bs i).frm = x
        · have e2 : (x == (bdI bs i).frm) = true := by simpa using e.symm
          rw [e2]
          simp only [Bool.and_true, Bool.true_and, if_true, Bool.and_eq_true, decide_eq_true_eq, e, hxy, decide_false, Bool.not_false, Bool.true_or, and_true, true_and]
          exact and_comm
        · have e2 : (x == (bdI bs i).frm) = false := by simpa using fun h => e h.symm
          rw [e2]
          simp [e]

theorem rCheckCircle_any (p : Int) (a : Option Addr) (n cap : Nat) (bs : List Bd) (al : Option Addr) (m c : Nat) (xs : List Int) (w : World) (hb : BdsAt w a n cap bs) (hx : IntsAt w al m c xs) (hl : xs.length ≤ 1000) :
    Calls Try.prog 56 #[.agg #[.int .i64 p, .slice a n cap], .slice al m c] w fun e w' => e = .returned (.tuple #[.bool (decide (chk p bs = 0) && ccOk bs xs), .int .i64 (chk p bs)]) ∧ Below w.heap.size w w' := by
  have hsm := hx.small
  obtain rfl := hb.len
  have hbx := hb.below (w' := w.alloc (Obj.cells #[.int .i64 p, .slice a bs.length cap] 24)) ((Below.refl _ _).alloc (Nat.le_refl _) _)
  have hC := rcheck_any p a _ cap bs _ hbx
  by_cases h0 : chk p bs = 0
  · have hs := Sys.of_chk h0
    simp only [h0] at hC ⊢
    have hwalk := fun w1 (h : Below w.heap.size w w1) => rwalk_any p a _ cap bs al m c xs w1 (hb.below h) (hx.below h) hs hl
    have HV := Lib.hid (fun (h : wkO bs xs none [] [] = true) => wkO_valid h)
    have HS := Lib.hid (show wkO bs xs none [] [] = true → -(xs.length * 100000000) ≤ rwS bs xs ∧ rwS bs xs ≤ xs.length * 100000000 from fun h => by unfold rwS; rw [if_pos h]; exact wsum_small hs.inr (wkO_valid h))
    rw [ccOk_walk]
    simp only [decide_true, Bool.true_and]
    have hlen := hx.len
    rw [← hlen] at HS ⊢
    have hgeta := fun (w1 : World) (hB : Below w.heap.size w w1) k (hk : k < xs.length) => (hx.below hB).get (i := k) hk
    have hgetb := fun (w1 : World) (hB : Below w.heap.size w w1) k (hk : k < bs.length) => (hb.below hB).get (i := k) hk
    have Hga := Lib.hid hgeta
    have Hgb := Lib.hid hgetb
    have Hlen := Lib.hid hlen
    have hm : m ≤ 1000 := by omega
    clear hgeta hgetb hlen
    generalize wkO bs xs none [] [] = RB at *
    generalize rwS bs xs = RS at *
    cases RB with
    | false =>
      go_enter Try.func56, Try.ntmps56
      go_wp2_with (first
        | (go_at_call 65; refine (hC).mono ?_; rintro e w1 ⟨rfl, hb1⟩; obtain ⟨hc1, hf1⟩ := bcell hb1; have hz1a := lt_size hb1 (b := w.heap.size) (by first | assumption | omega | (simp; done) | (simp; omega)))
        | (go_at_call 106; refine (hwalk _ (((Below.refl _ w).alloc (Nat.le_refl _) _).trans (hb1.mono (by simp)))).mono ?_; rintro e w2 ⟨rfl, hb2⟩))
      go_ret2
      have z1 := hb1.size
      simp only [World.size_alloc] at z1
      exact ⟨rfl, (((Below.refl _ w).alloc (Nat.le_refl _) _).trans (hb1.mono (by simp))).trans (hb2.mono (by omega))⟩
    | true =>
      have hV := HV.out rfl
      obtain ⟨hS0, hS1⟩ := HS.out rfl
      have HV' := Lib.hid hV
      clear hV HV HS
      cases m with
      | zero =>
        go_enter Try.func56, Try.ntmps56
        go_wp2_with (first
          | (go_at_call 65; refine (hC).mono ?_; rintro e w1 ⟨rfl, hb1⟩; obtain ⟨hc1, hf1⟩ := bcell hb1; have hz1a := lt_size hb1 (b := w.heap.size) (by first | assumption | omega | (simp; done) | (simp; omega)))
          | (go_at_call 106; refine (hwalk _ (((Below.refl _ w).alloc (Nat.le_refl _) _).trans (hb1.mono (by simp)))).mono ?_; rintro e w2 ⟨rfl, hb2⟩))
        go_ret2
        have z1 := hb1.size
        simp only [World.size_alloc] at z1
        exact ⟨rfl, (((Below.refl _ w).alloc (Nat.le_refl _) _).trans (hb1.mono (by simp))).trans (hb2.mono (by omega))⟩
      | succ q =>
        have hq2 : (decide (2 ≤ q + 1)) = !decide ((q : Int) + 1 < 2) := by rw [Bool.eq_iff_iff]; simp; omega
        rw [hq2]
        clear hq2
        by_cases hq : (q : Int) + 1 < 2
        · have hqd : decide ((q : Int) + 1 < 2) = true := by simpa using hq
          go_enter Try.func56, Try.ntmps56
          go_wp2_with (first
            | (go_at_call 65; refine (hC).mono ?_; rintro e w1 ⟨rfl, hb1⟩; obtain ⟨hc1, hf1⟩ := bcell hb1; have hz1a := lt_size hb1 (b := w.heap.size) (by first | assumption | omega | (simp; done) | (simp; omega)))
            | (go_at_call 106; refine (hwalk _ (((Below.refl _ w).alloc (Nat.le_refl _) _).trans (hb1.mono (by simp)))).mono ?_; rintro e w2 ⟨rfl, hb2⟩))
          go_ret2
          have z1 := hb1.size
          simp only [World.size_alloc] at z1
          exact ⟨by simp [hqd], (((Below.refl _ w).alloc (Nat.le_refl _) _).trans (hb1.mono (by simp))).trans (hb2.mono (by omega))⟩
        · have hqd : decide ((q : Int) + 1 < 2) = false := by simpa using hq
          have e9 : q + 1 - 1 = q := by omega
          rw [e9]
          have hwj : IntKind.i64.wrap ((q : Int) + 1 - 1) = q := by rw [show (q : Int) + 1 - 1 = q by omega]; exact IntWalk.i64_in _ (by omega)
          have HD := Lib.hid (show ∀ (A B : Int) (S : Int), (true && (!decide ((q : Int) + 1 < 2)) && (decide (S < 0) && decide (A = B))) = (decide (S < 0) && (A == B)) from fun A B S => by rw [hqd]; simp; rfl)
          by_cases hneg : RS < 0
          · have hnd : decide (RS < 0) = true := by simpa using hneg
            have v0 := HV'.out _ (getD_mem_int (l := xs) (k := 0) (by have := Hlen.out; omega))
            have v1 := HV'.out _ (getD_mem_int (l := xs) (k := q) (by have := Hlen.out; omega))
            rw [show bdI bs (xs.getD 0 0) = bs.getD (xs.getD 0 0).toNat default from rfl, show bdI bs (xs.getD q 0) = bs.getD (xs.getD q 0).toNat default from rfl]
            have Hx0 := Lib.hid (fun w1 hB => Hga.out w1 hB 0 (by have := Hlen.out; omega))
            have Hx1 := Lib.hid (fun w1 hB => Hga.out w1 hB q (by have := Hlen.out; omega))
            generalize xs.getD 0 0 = i0 at *
            generalize xs.getD q 0 = i1 at *
            have Hb0 := Lib.hid (fun w1 hB => Hgb.out w1 hB i0.toNat (by omega))
            have Hb1 := Lib.hid (fun w1 hB => Hgb.out w1 hB i1.toNat (by omega))
            generalize bs.getD i0.toNat default = z0 at *
            generalize bs.getD i1.toNat default = z1 at *
            rw [HD.out]
            clear HD Hga Hgb HV' hqd
            have hqd : decide ((q : Int) + 1 < 2) = false := by simpa using hq
            obtain ⟨j0, j1⟩ := v0
            obtain ⟨j2, j3⟩ := v1
            go_enter Try.func56, Try.ntmps56
            go_wp2_with (first
              | (go_at_call 65; refine (hC).mono ?_; rintro e w1 ⟨rfl, hb1⟩; obtain ⟨hc1, hf1⟩ := bcell hb1; have hz1a := lt_size hb1 (b := w.heap.size) (by first | assumption | omega | (simp; done) | (simp; omega)))
              | (go_at_call 106; refine (hwalk _ (((Below.refl _ w).alloc (Nat.le_refl _) _).trans (hb1.mono (by simp)))).mono ?_; rintro e w2 ⟨rfl, hb2⟩; obtain ⟨hc2, hf2⟩ := bcell hb2; have s2 := lt_size hb2 (b := w.heap.size) (by first | assumption | omega | (simp; done) | (simp; omega))))
            have zz1 := hb1.size
            simp only [World.size_alloc] at zz1
            have hB2 : Below w.heap.size w w2 := (((Below.refl _ w).alloc (Nat.le_refl _) _).trans (hb1.mono (by simp))).trans (hb2.mono (by omega))
            obtain ⟨lb, lo, rfl, hl1, r0⟩ := Hx0.out w2 hB2
            obtain ⟨lb', lo', he, _, r1⟩ := Hx1.out w2 hB2
            simp at he
            obtain ⟨rfl, rfl⟩ := he
            obtain ⟨b, off, rfl, hbl, d0, d1, d2, d3⟩ := Hb0.out w2 hB2
            obtain ⟨b', off', he, _, g0, g1, g2, g3⟩ := Hb1.out w2 hB2
            simp at he
            obtain ⟨rfl, rfl⟩ := he
            simp only [Nat.add_zero] at r0
            go_quiet (fail)
            go_wp2
            go_ret2
            exact ⟨by simp [hnd], belowN hB2⟩
          · have hnd : decide (RS < 0) = false := by simpa using hneg
            rw [HD.out, hnd]
            go_enter Try.func56, Try.ntmps56
            go_wp2_with (first
              | (go_at_call 65; refine (hC).mono ?_; rintro e w1 ⟨rfl, hb1⟩; obtain ⟨hc1, hf1⟩ := bcell hb1; have hz1a := lt_size hb1 (b := w.heap.size) (by first | assumption | omega | (simp; done) | (simp; omega)))
              | (go_at_call 106; refine (hwalk _ (((Below.refl _ w).alloc (Nat.le_refl _) _).trans (hb1.mono (by simp)))).mono ?_; rintro e w2 ⟨rfl, hb2⟩))
            have zz1 := hb1.size
            simp only [World.size_alloc] at zz1
            have hB2 : Below w.heap.size w w2 := (((Below.refl _ w).alloc (Nat.le_refl _) _).trans (hb1.mono (by simp))).trans (hb2.mono (by omega))
            go_quiet (fail)
            go_wp2
            go_ret2
            exact ⟨rfl, belowN hB2⟩
  · have h0' : (chk p bs == 0) = false := by simpa using h0
    rw [decide_eq_false h0]
    generalize chk p bs = ce at *
    go_enter Try.func56, Try.ntmps56
    go_wp2_with (go_at_call 65; refine (hC).mono ?_; rintro e w1 ⟨rfl, hb1⟩; obtain ⟨hc1, hf1⟩ := bcell hb1; have hz1a := lt_size hb1 (b := w.heap.size) (by first | assumption | omega | (simp; done) | (simp; omega)))
    go_ret2
    exact ⟨rfl, ((Below.refl _ _).alloc (Nat.le_refl _) _).trans (hb1.mono (by simp))⟩

theorem rCheckPath_any (p : Int) (a : Option Addr) (n cap : Nat) (bs : List Bd) (x y most : Int) (al : Option Addr) (m c : Nat) (xs : List Int) (w : World) (hb : BdsAt w a n cap bs) (hx : IntsAt w al m c xs) (hl : xs.length ≤ 1000) :
    Calls Try.prog 60 #[.agg #[.int .i64 p, .slice a n cap], .int .i64 x, .int .i64 y, .int .i64 most, .slice al m c] w fun e w' => e = .returned (.tuple #[.bool (decide (rask p bs x y = 0) && cpB bs x y most xs), .int .i64 (rask p bs x y)]) ∧ Below w.heap.size w w' := by
  have hsm := hx.small
  obtain rfl := hb.len
  have hbx := hb.below (w' := w.alloc (Obj.cells #[.int .i64 p, .slice a bs.length cap] 24)) ((Below.refl _ _).alloc (Nat.le_refl _) _)
  have hA := rasked_any p a _ cap bs x y _ hbx
  by_cases h0 : rask p bs x y = 0
  · have hck : chk p bs = 0 := by
      unfold rask at h0
      split at h0
      · assumption
      · contradiction
    have hs := Sys.of_chk hck
    simp only [h0] at hA ⊢
    have hwalk := fun w1 (h : Below w.heap.size w w1) => rwalk_any p a _ cap bs al m c xs w1 (hb.below h) (hx.below h) hs hl
    have HV := Lib.hid (fun (h : wkO bs xs none [] [] = true) => wkO_valid h)
    rw [cpB_walk]
    simp only [decide_true, Bool.true_and]
    have hlen := hx.len
    rw [← hlen]
    have hgeta := fun (w1 : World) (hB : Below w.heap.size w w1) k (hk : k < xs.length) => (hx.below hB).get (i := k) hk
    have hgetb := fun (w1 : World) (hB : Below w.heap.size w w1) k (hk : k < bs.length) => (hb.below hB).get (i := k) hk
    have Hga := Lib.hid hgeta
    have Hgb := Lib.hid hgetb
    have Hlen := Lib.hid hlen
    have hm : m ≤ 1000 := by omega
    clear hgeta hgetb hlen h0 hck
    generalize wkO bs xs none [] [] = RB at *
    generalize rwS bs xs = RS at *
    cases m with
    | zero =>
      have HG := Lib.hid (show ∀ T : Bool, (if 0 = 0 ∨ x = y then (decide (x = y) && decide ((0 : Nat) = 0) && decide (0 ≤ most)) else T) = ((x == y) && decide (0 ≤ most)) from fun T => by rw [if_pos (.inl rfl)]; simp; rfl)
      rw [HG.out]
      clear HG HV
      by_cases e1 : x = y
      · subst e1
        have e1' : (x == x) = true := by simp
        go_enter Try.func60, Try.ntmps60
        go_wp2_with (first
          | (go_at_call 74; refine (hA).mono ?_; rintro e w1 ⟨rfl, hb1⟩; obtain ⟨hc1, hf1⟩ := bcell hb1; have hz1a := lt_size hb1 (b := w.heap.size) (by first | assumption | omega | (simp; done) | (simp; omega)))
          | (go_at_call 106; refine (hwalk _ (((Below.refl _ w).alloc (Nat.le_refl _) _).trans (hb1.mono (by simp)))).mono ?_; rintro e w2 ⟨rfl, hb2⟩; obtain ⟨hc2, hf2⟩ := bcell hb2; have s2 := lt_size hb2 (b := w.heap.size) (by first | assumption | omega | (simp; done) | (simp; omega))))
        have zz1 := hb1.size
        simp only [World.size_alloc] at zz1
        have hB2 : Below w.heap.size w w2 := (((Below.refl _ w).alloc (Nat.le_refl _) _).trans (hb1.mono (by simp))).trans (hb2.mono (by omega))
        go_ret2
        exact ⟨by simp [e1'], hB2⟩
      · have e1' : (x == y) = false := by simpa using e1
        clear e1
        go_enter Try.func60, Try.ntmps60
        go_wp2_with (first
          | (go_at_call 74; refine (hA).mono ?_; rintro e w1 ⟨rfl, hb1⟩; obtain ⟨hc1, hf1⟩ := bcell hb1; have hz1a := lt_size hb1 (b := w.heap.size) (by first | assumption | omega | (simp; done) | (simp; omega)))
          | (go_at_call 106; refine (hwalk _ (((Below.refl _ w).alloc (Nat.le_refl _) _).trans (hb1.mono (by simp)))).mono ?_; rintro e w2 ⟨rfl, hb2⟩; obtain ⟨hc2, hf2⟩ := bcell hb2; have s2 := lt_size hb2 (b := w.heap.size) (by first | assumption | omega | (simp; done) | (simp; omega))))
        have zz1 := hb1.size
        simp only [World.size_alloc] at zz1
        have hB2 : Below w.heap.size w w2 := (((Below.refl _ w).alloc (Nat.le_refl _) _).trans (hb1.mono (by simp))).trans (hb2.mono (by omega))
        go_ret2
        exact ⟨by simp [e1'], hB2⟩
    | succ q =>
      have hmd : ((q : Int) + 1 == 0) = false := by simp; omega
      by_cases e1 : x = y
      · subst e1
        have e1' : (x == x) = true := by simp
        have HG := Lib.hid (show ∀ T : Bool, (if q + 1 = 0 ∨ x = x then (decide (x = x) && decide (q + 1 = 0) && decide (0 ≤ most)) else T) = false from fun T => by rw [if_pos (.inr rfl)]; simp)
        rw [HG.out]
        clear HG HV
        go_enter Try.func60, Try.ntmps60
        go_wp2_with (first
          | (go_at_call 74; refine (hA).mono ?_; rintro e w1 ⟨rfl, hb1⟩; obtain ⟨hc1, hf1⟩ := bcell hb1; have hz1a := lt_size hb1 (b := w.heap.size) (by first | assumption | omega | (simp; done) | (simp; omega)))
          | (go_at_call 106; refine (hwalk _ (((Below.refl _ w).alloc (Nat.le_refl _) _).trans (hb1.mono (by simp)))).mono ?_; rintro e w2 ⟨rfl, hb2⟩; obtain ⟨hc2, hf2⟩ := bcell hb2; have s2 := lt_size hb2 (b := w.heap.size) (by first | assumption | omega | (simp; done) | (simp; omega))))
        have zz1 := hb1.size
        simp only [World.size_alloc] at zz1
        have hB2 : Below w.heap.size w w2 := (((Below.refl _ w).alloc (Nat.le_refl _) _).trans (hb1.mono (by simp))).trans (hb2.mono (by omega))
        go_ret2
        exact ⟨rfl, hB2⟩
      · have e1' : (x == y) = false := by simpa using e1
        have HG := Lib.hid (show ∀ T U : Bool, (if q + 1 = 0 ∨ x = y then U else T) = T from fun T U => by rw [if_neg (by simp [e1])])
        rw [HG.out]
        clear HG e1
        cases RB with
        | false =>
          go_enter Try.func60, Try.ntmps60
          go_wp2_with (first
            | (go_at_call 74; refine (hA).mono ?_; rintro e w1 ⟨rfl, hb1⟩; obtain ⟨hc1, hf1⟩ := bcell hb1; have hz1a := lt_size hb1 (b := w.heap.size) (by first | assumption | omega | (simp; done) | (simp; omega)))
            | (go_at_call 106; refine (hwalk _ (((Below.refl _ w).alloc (Nat.le_refl _) _).trans (hb1.mono (by simp)))).mono ?_; rintro e w2 ⟨rfl, hb2⟩; obtain ⟨hc2, hf2⟩ := bcell hb2; have s2 := lt_size hb2 (b := w.heap.size) (by first | assumption | omega | (simp; done) | (simp; omega))))
          have zz1 := hb1.size
          simp only [World.size_alloc] at zz1
          have hB2 : Below w.heap.size w w2 := (((Below.refl _ w).alloc (Nat.le_refl _) _).trans (hb1.mono (by simp))).trans (hb2.mono (by omega))
          go_ret2
          exact ⟨rfl, hB2⟩
        | true =>
          have hV := HV.out rfl
          have v0 := hV _ (getD_mem_int (l := xs) (k := 0) (by have := Hlen.out; omega))
          have v1 := hV _ (getD_mem_int (l := xs) (k := q) (by have := Hlen.out; omega))
          clear hV HV
          have e9 : q + 1 - 1 = q := by omega
          rw [e9, show bdI bs (xs.getD 0 0) = bs.getD (xs.getD 0 0).toNat default from rfl, show bdI bs (xs.getD q 0) = bs.getD (xs.getD q 0).toNat default from rfl]
          have hwj : IntKind.i64.wrap ((q : Int) + 1 - 1) = q := by rw [show (q : Int) + 1 - 1 = q by omega]; exact IntWalk.i64_in _ (by omega)
          have Hx0 := Lib.hid (fun w1 hB => Hga.out w1 hB 0 (by have := Hlen.out; omega))
          have Hx1 := Lib.hid (fun w1 hB => Hga.out w1 hB q (by have := Hlen.out; omega))
          generalize xs.getD 0 0 = i0 at *
          generalize xs.getD q 0 = i1 at *
          have Hb0 := Lib.hid (fun w1 hB => Hgb.out w1 hB i0.toNat (by omega))
          have Hb1 := Lib.hid (fun w1 hB => Hgb.out w1 hB i1.toNat (by omega))
          generalize bs.getD i0.toNat default = z0 at *
          generalize bs.getD i1.toNat default = z1 at *
          clear Hga Hgb
          obtain ⟨j0, j1⟩ := v0
          obtain ⟨j2, j3⟩ := v1
          have HD := Lib.hid (show (true && (decide (RS ≤ most) && decide (z0.frm = x) && decide (z1.tow = y))) = (decide (RS ≤ most) && (z0.frm == x) && (z1.tow == y)) from by simp; rfl)
          rw [HD.out]
          clear HD
          by_cases g1 : RS ≤ most
          · have g1' : decide (RS ≤ most) = true := by simpa using g1
            by_cases g2 : z0.frm = x
            · have g2' : (z0.frm == x) = true := by simpa using g2
              clear g2
              go_enter Try.func60, Try.ntmps60
              go_wp2_with (first
                | (go_at_call 74; refine (hA).mono ?_; rintro e w1 ⟨rfl, hb1⟩; obtain ⟨hc1, hf1⟩ := bcell hb1; have hz1a := lt_size hb1 (b := w.heap.size) (by first | assumption | omega | (simp; done) | (simp; omega)))
                | (go_at_call 106; refine (hwalk _ (((Below.refl _ w).alloc (Nat.le_refl _) _).trans (hb1.mono (by simp)))).mono ?_; rintro e w2 ⟨rfl, hb2⟩; obtain ⟨hc2, hf2⟩ := bcell hb2; have s2 := lt_size hb2 (b := w.heap.size) (by first | assumption | omega | (simp; done) | (simp; omega))))
              have zz1 := hb1.size
              simp only [World.size_alloc] at zz1
              have hB2 : Below w.heap.size w w2 := (((Below.refl _ w).alloc (Nat.le_refl _) _).trans (hb1.mono (by simp))).trans (hb2.mono (by omega))
              obtain ⟨lb, lo, rfl, hl1, r0⟩ := Hx0.out w2 hB2
              obtain ⟨lb', lo', he, _, r1⟩ := Hx1.out w2 hB2
              simp at he
              obtain ⟨rfl, rfl⟩ := he
              obtain ⟨b, off, rfl, hbl, d0, d1, d2, d3⟩ := Hb0.out w2 hB2
              obtain ⟨b', off', he, _, g0, g4, g5, g3⟩ := Hb1.out w2 hB2
              simp at he
              obtain ⟨rfl, rfl⟩ := he
              simp only [Nat.add_zero] at r0
              clear d1 d2 d3 g0 g5 g3
              go_quiet (fail)
              go_wp2
              go_ret2
              exact ⟨by rw [g1', g2']; rfl, belowN hB2⟩
            · have g2' : (z0.frm == x) = false := by simpa using g2
              clear g2
              go_enter Try.func60, Try.ntmps60
              go_wp2_with (first
                | (go_at_call 74; refine (hA).mono ?_; rintro e w1 ⟨rfl, hb1⟩; obtain ⟨hc1, hf1⟩ := bcell hb1; have hz1a := lt_size hb1 (b := w.heap.size) (by first | assumption | omega | (simp; done) | (simp; omega)))
                | (go_at_call 106; refine (hwalk _ (((Below.refl _ w).alloc (Nat.le_refl _) _).trans (hb1.mono (by simp)))).mono ?_; rintro e w2 ⟨rfl, hb2⟩; obtain ⟨hc2, hf2⟩ := bcell hb2; have s2 := lt_size hb2 (b := w.heap.size) (by first | assumption | omega | (simp; done) | (simp; omega))))
              have zz1 := hb1.size
              simp only [World.size_alloc] at zz1
              have hB2 : Below w.heap.size w w2 := (((Below.refl _ w).alloc (Nat.le_refl _) _).trans (hb1.mono (by simp))).trans (hb2.mono (by omega))
              obtain ⟨lb, lo, rfl, hl1, r0⟩ := Hx0.out w2 hB2
              obtain ⟨b, off, rfl, hbl, d0, d1, d2, d3⟩ := Hb0.out w2 hB2
              simp only [Nat.add_zero] at r0
              clear d1 d2 d3
              go_quiet (fail)
              go_wp2
              go_ret2
              exact ⟨by rw [g1', g2']; rfl, belowN hB2⟩
          · have g1' : decide (RS ≤ most) = false := by simpa using g1
            go_enter Try.func60, Try.ntmps60
            go_wp2_with (first
              | (go_at_call 74; refine (hA).mono ?_; rintro e w1 ⟨rfl, hb1⟩; obtain ⟨hc1, hf1⟩ := bcell hb1; have hz1a := lt_size hb1 (b := w.heap.size) (by first | assumption | omega | (simp; done) | (simp; omega)))
              | (go_at_call 106; refine (hwalk _ (((Below.refl _ w).alloc (Nat.le_refl _) _).trans (hb1.mono (by simp)))).mono ?_; rintro e w2 ⟨rfl, hb2⟩; obtain ⟨hc2, hf2⟩ := bcell hb2; have s2 := lt_size hb2 (b := w.heap.size) (by first | assumption | omega | (simp; done) | (simp; omega))))
            have zz1 := hb1.size
            simp only [World.size_alloc] at zz1
            have hB2 : Below w.heap.size w w2 := (((Below.refl _ w).alloc (Nat.le_refl _) _).trans (hb1.mono (by simp))).trans (hb2.mono (by omega))
            go_quiet (fail)
            go_wp2
            go_ret2
            exact ⟨by rw [g1']; rfl, belowN hB2⟩
  · have h0' : (rask p bs x y == 0) = false := by simpa using h0
    rw [decide_eq_false h0]
    generalize rask p bs x y = ce at *
    go_enter Try.func60, Try.ntmps60
    go_wp2_with (go_at_call 74; refine (hA).mono ?_; rintro e w1 ⟨rfl, hb1⟩; obtain ⟨hc1, hf1⟩ := bcell hb1; have hz1a := lt_size hb1 (b := w.heap.size) (by first | assumption | omega | (simp; done) | (simp; omega)))
    go_ret2
    exact ⟨rfl, ((Below.refl _ _).alloc (Nat.le_refl _) _).trans (hb1.mono (by simp))⟩
end Go.Proofs.Ytlkcfohmoeadbaa

/-
  Plain laws: the reference's walks with just so many bounds, where 1000000000 stands for nothing; the fewest bounds of a circle, point by point.
-/
namespace Go.Proofs.Ytlkcfohmoeadbaa

/-- A list of P numbers says what 60 sums say, with 1000000000 for nothing. -/
def RelF (P : Nat) (x S : List Int) : Prop := x.length = P ∧ ∀ j : Int, 0 ≤ j → j < P → gi x j = if gi S j < FAR then gi S j else 1000000000
def BndF (m : Nat) (S : List Int) : Prop := ∀ j : Int, 0 ≤ j → j < 60 → gi S j < FAR → -(m * 1000000) ≤ gi S j ∧ gi S j ≤ m * 1000000

theorem wS_bnd {p : Int} {bs : List Bd} (hc : chk p bs = 0) {q : Nat} (hq : q < 60) (m : Nat) : BndF m (wS bs q m) := by
  intro j j0 j1 hf
  have hs := Sys.of_chk hc
  obtain ⟨h1, h2⟩ := wS_real hs.inr hq m j j0 j1 hf
  have h3 := wsum_abs (chk_mil hc) (Wk.valid h1)
  rw [h2, List.length_reverse, bkC_len] at h3
  exact h3
theorem lng_bnd {p : Int} {bs : List Bd} (hc : chk p bs = 0) {m : Nat} {now : List Int} (hb : BndF m now) {k : Nat} (hk : k ≤ bs.length) : BndF (m + 1) (lng bs now k).1 := by
  intro j j0 j1 hf
  have hs := Sys.of_chk hc
  obtain ⟨i, hi, _, _, h1, h2⟩ := lng_led hs.inr k hk j j0 j1 hf
  have hm := getD_mem hi
  have h3 := chk_mil hc _ hm
  have h4 := hs.inr _ hm
  have := hb _ h4.f0 h4.f1 h1
  rw [h2]
  push_cast
  omega

theorem relF_step {p : Int} {P : Nat} (hP : p = P) {bs : List Bd} (hc : chk p bs = 0) {m : Nat} (hm : m ≤ 100) {now x y : List Int} (hb : BndF m now) {k : Nat} (hk : k < bs.length) (hx : RelF P x now) (hy : RelF P y (lng bs now k).1) :
    (gi x (bs.getD k default).frm < 1000000000 → RelF P (y.set (bs.getD k default).tow.toNat (min (gi y (bs.getD k default).tow) (gi x (bs.getD k default).frm + (bs.getD k default).most))) (lng bs now (k + 1)).1) ∧ (¬ gi x (bs.getD k default).frm < 1000000000 → RelF P y (lng bs now (k + 1)).1) := by
  have hs := Sys.of_chk hc
  have hp2 := hs.p2
  have hbm := getD_mem hk
  have hb1 := lng_bnd hc hb (show k ≤ bs.length by omega)
  have hL := (lng_len bs now k).1
  show (_ → RelF P _ (lstep now (lng bs now k) k (bs.getD k default)).1) ∧ (_ → RelF P y (lstep now (lng bs now k) k (bs.getD k default)).1)
  generalize bs.getD k default = b at *
  generalize lng bs now k = s at *
  obtain ⟨q0, q1, q2, q3⟩ := Pts.of_chk hc b hbm
  have hmm := chk_mil hc _ hbm
  have ex := hx.2 b.frm q0 (by omega)
  have ey := hy.2 b.tow q2 (by omega)
  have bx := hb b.frm q0 (by omega)
  have by_ := hb1 b.tow q2 (by omega)
  have hF : FAR = 1099511627776 := rfl
  unfold lstep lopen
  by_cases h1 : gi now b.frm < FAR
  · rw [if_pos h1] at ex
    have bx := bx h1
    refine ⟨fun _ => ?_, fun h => by omega⟩
    refine ⟨by simp [hy.1], fun j j0 j1 => ?_⟩
    rw [gi_set q2 (by rw [hy.1]; omega) j0]
    have eyj := hy.2 j j0 j1
    by_cases h2 : gi now b.frm + b.most < gi s.1 b.tow
    · rw [decide_eq_true h1, decide_eq_true h2]
      simp only [Bool.and_self, if_true]
      rw [gi_set q2 (by omega) j0]
      split
      · rename_i e
        rw [if_pos (by omega), ex]
        by_cases h3 : gi s.1 b.tow < FAR
        · rw [if_pos h3] at ey; omega
        · rw [if_neg h3] at ey; omega
      · exact eyj
    · rw [decide_eq_true h1, decide_eq_false h2]
      simp only [Bool.and_false, if_neg (show ¬ (false = true) by simp)]
      split
      · rename_i e
        subst e
        have h3 : gi s.1 b.tow < FAR := by omega
        rw [if_pos h3] at ey eyj ⊢
        omega
      · exact eyj
  · rw [if_neg h1] at ex
    refine ⟨fun h => by omega, fun _ => ?_⟩
    rw [decide_eq_false h1]
    simpa using hy

theorem relF_start {P a : Nat} (hP : P ≤ 60) (ha : a < P) : RelF P ((List.replicate P 1000000000).set a 0) (far0 a) := by
  refine ⟨by simp, fun j j0 j1 => ?_⟩
  rw [gi_far0 (by omega) (by omega) j0 (by omega)]
  have h := gi_set (l := List.replicate P (1000000000 : Int)) (i := (a : Int)) (j := j) (v := 0) (by omega) (by simp; omega) j0
  rw [Int.toNat_natCast] at h
  rw [h]
  have hF : FAR = 1099511627776 := rfl
  by_cases e : j = a
  · simp [e, hF]
  · rw [if_neg e, if_neg e, if_neg (Int.lt_irrefl _)]
    unfold gi
    rw [List.getD_eq_getElem?_getD, List.getElem?_replicate, if_pos (by omega)]
    rfl
theorem relF_fars {P : Nat} (hP : P ≤ 60) : RelF P (List.replicate P 1000000000) fars := by
  refine ⟨by simp, fun j j0 j1 => ?_⟩
  rw [gi_fars j j0 (by omega), if_neg (Int.lt_irrefl _)]
  unfold gi
  rw [List.getD_eq_getElem?_getD, List.getElem?_replicate, if_pos (by omega)]
  rfl

/-- The fewest so far, while the walks from point a are made longer. -/
def FewIn (bs : List Bd) (P a m best : Nat) : Prop :=
  (Few bs P a best ∧ (∀ i, 1 ≤ i → i ≤ m → ¬ cyc bs a i) ∧ (best = 0 ∨ m < best)) ∨ (1 ≤ m ∧ best = m ∧ cyc bs a m ∧ (∀ i, 1 ≤ i → i < m → ¬ cyc bs a i) ∧ ∀ c i, c < a → 1 ≤ i → i < m → ¬ cyc bs c i)
theorem FewIn.start {bs : List Bd} {P a best : Nat} (h : Few bs P a best) : FewIn bs P a 0 best := by
  refine .inl ⟨h, fun i h1 h2 => by omega, ?_⟩
  rcases h with ⟨h, _⟩ | ⟨h, _⟩
  · exact .inl h
  · exact .inr (by omega)
theorem FewIn.hit {bs : List Bd} {P a m best : Nat} (h : FewIn bs P a m best) (hP : m + 1 ≤ P) (hb : best = 0 ∨ m + 1 < best) (hc : cyc bs a (m + 1)) : FewIn bs P a (m + 1) (m + 1) := by
  rcases h with ⟨h1, h2, h3⟩ | ⟨h1, h2, _⟩
  · refine .inr ⟨by omega, rfl, hc, fun i i1 i2 => h2 i i1 (by omega), fun c i hc i1 i2 => ?_⟩
    rcases h1 with ⟨_, h⟩ | ⟨_, _, _, h⟩
    · exact h c i hc i1 (by omega)
    · exact h c i hc i1 (by omega)
  · omega
theorem FewIn.miss {bs : List Bd} {P a m best : Nat} (h : FewIn bs P a m best) (hb : best = 0 ∨ m + 1 < best) (hc : ¬ cyc bs a (m + 1)) : FewIn bs P a (m + 1) best := by
  rcases h with ⟨h1, h2, h3⟩ | ⟨h1, h2, _⟩
  · refine .inl ⟨h1, fun i i1 i2 => ?_, hb⟩
    by_cases e : i = m + 1
    · subst e; exact hc
    · exact h2 i i1 (by omega)
  · omega
theorem FewIn.done {bs : List Bd} {P a m best : Nat} (h : FewIn bs P a m best) (hP : m ≤ P) (hstop : ¬ (m + 1 ≤ P ∧ (best = 0 ∨ m + 1 < best))) : Few bs P (a + 1) best := by
  rcases h with ⟨h1, h2, h3⟩ | ⟨h1, rfl, h2, h3, h4⟩
  · rcases h1 with ⟨rfl, h⟩ | ⟨k1, k2, ⟨c, hc, k3⟩, k4⟩
    · refine .inl ⟨rfl, fun c i hc i1 i2 => ?_⟩
      by_cases e : c = a
      · subst e; exact h2 i i1 (by omega)
      · exact h c i (by omega) i1 i2
    · refine .inr ⟨k1, k2, ⟨c, by omega, k3⟩, fun c i hc i1 i2 => ?_⟩
      by_cases e : c = a
      · subst e; exact h2 i i1 (by omega)
      · exact k4 c i (by omega) i1 i2
  · refine .inr ⟨h1, hP, ⟨a, by omega, h2⟩, fun c i hc i1 i2 => ?_⟩
    by_cases e : c = a
    · subst e; exact h3 i i1 i2
    · exact h4 c i (by omega) i1 i2
theorem Few.zero (bs : List Bd) (P : Nat) : Few bs P 0 0 := .inl ⟨rfl, fun a m h => by omega⟩
theorem Few.le {bs : List Bd} {P A best : Nat} (h : Few bs P A best) : best ≤ P := by
  rcases h with ⟨rfl, _⟩ | ⟨_, h, _⟩ <;> omega
theorem FewIn.le {bs : List Bd} {P a m best : Nat} (h : FewIn bs P a m best) (hm : m ≤ P) : best ≤ P := by
  rcases h with ⟨h, _⟩ | ⟨_, rfl, _⟩
  · exact h.le
  · exact hm
end Go.Proofs.Ytlkcfohmoeadbaa

/-
  Lemmas and walks for the laws on roads and boards: what each function of the program answers, for every input.
-/
import Derived.Test.YtodkbfbbpfghiaaGreatPb06
import Derived.Test.YtodkbfbbpfghiaaGreatPb05
set_option linter.unusedSimpArgs false
set_option linter.unusedVariables false
set_option linter.unnecessarySimpa false
namespace Go.Proofs.YtodkbfbbpfghiaaGreat
open Go.RowKit Go.Shelf
set_option maxHeartbeats 4000000
set_option maxRecDepth 100000
theorem take_get {α : Type} [Inhabited α] {l : List α} {k : Nat} (hk : k < l.length) : l.take (k + 1) = l.take k ++ [l.getD k default] := by
  rw [List.take_succ_eq_append_getElem hk]
  simp [List.getD_eq_getElem?_getD, List.getElem?_eq_getElem hk]
theorem feet_snoc (s : List Pn) (p : Pn) (l h : Int) : feet (s ++ [p]) l h = feet s l h + if inB l h p && p.ft then 1 else 0 := by simp [feet, List.countP_append, List.countP_cons]
theorem some1_snoc (s : List Pn) (p : Pn) (l h : Int) : some1 (s ++ [p]) l h = if inB l h p then 1 else some1 s l h := by
  unfold some1
  rw [List.any_append]
  by_cases h2 : inB l h p = true
  · simp [h2]
  · simp [h2]
theorem feet_le (s : List Pn) (l h : Int) : feet s l h ≤ s.length := List.countP_le_length
theorem r6demand (a : Option Addr) (n cap : Nat) (ps : List Pt) (lo hi : Int) (w : World) (hp : PtsAt w a n cap ps) :
    Calls Tryz.prog 77 #[.slice a n cap, .agg #[.int .i64 lo, .int .i64 hi]] w fun e w' => e = .returned (.int .i64 (dem (pns ps) lo hi)) ∧ Below w.heap.size w w' := by
  have hsm := hp.small
  obtain rfl := hp.len
  have hd : dem (pns ps) lo hi = max (feet (pns ps) lo hi) (some1 (pns ps) lo hi) := rfl
  generalize dem (pns ps) lo hi = D at *
  have Hd := Lib.hid hd
  clear hd
  have hB0 := one_alloc w (Obj.cells #[.int .i64 lo, .int .i64 hi] 33)
  go_enter Tryz.func77, Tryz.ntmps77
  go_wp2_with fail
  go_loopw [5, 6, 7] (fun f s i wr => ∃ k : Nat, k ≤ ps.length ∧ i = .int .i64 k ∧ f = .int .i64 (feet (pns (ps.take k)) lo hi) ∧ s = .int .i64 (some1 (pns (ps.take k)) lo hi) ∧ Below w.heap.size w wr ∧ w.heap.size < wr.heap.size ∧ wr.cell? ⟨w.heap.size, 0, none⟩ = some (.int .i64 lo) ∧ wr.cell? ⟨w.heap.size, 1, none⟩ = some (.int .i64 hi)) (fun _ _ i _ => ps.length - (RowKit.intOf i).toNat)
  case atStart => exact ⟨0, Nat.zero_le _, rfl, rfl, rfl, hB0, by simp, by simp [go_sem], by simp [go_sem]⟩
  case round =>
    obtain ⟨k, hk, rfl, rfl, rfl, hB, hz, q0, q1⟩ := hrel
    have hnn : (0 : Int) ≤ k := by omega
    have hfl := feet_le (pns (ps.take k)) lo hi
    simp only [pns_len, List.length_take] at hfl
    by_cases hlt : k < ps.length
    · have i1 : (k : Int) < (ps.length : Int) := by omega
      obtain ⟨b, o, rfl, _, d0, d1, d2, d3, d4, d5, d6, d7⟩ := (hp.below hB).get hlt
      have ht : pns (ps.take (k + 1)) = pns (ps.take k) ++ [(ps.getD k default).n] := by rw [take_get hlt]; simp [pns]
      have Hf := Lib.hid (show feet (pns (ps.take (k + 1))) lo hi = _ by rw [ht, feet_snoc])
      have Hs := Lib.hid (show some1 (pns (ps.take (k + 1))) lo hi = _ by rw [ht, some1_snoc])
      clear ht
      generalize ps.getD k default = p at *
      have hin : inB lo hi p.n = (decide (lo ≤ p.lo) && decide (p.hi ≤ hi)) := rfl
      have hft : p.n.ft = p.ft := rfl
      rw [hin] at Hf Hs
      rw [hft] at Hf
      clear hin hft
      generalize feet (pns (ps.take k)) lo hi = F at *
      generalize some1 (pns (ps.take k)) lo hi = S at *
      cases e1 : decide (lo ≤ p.lo)
      · rw [e1] at Hf Hs
        go_wp2_with fail
        go_quiet (fail)
        go_wp2
        go_roundw
        case rel => exact ⟨k + 1, by omega, by go_num, by rw [Hf.out]; simp, by rw [Hs.out]; simp, belowN hB, by simpa using hz, q0, q1⟩
        case measure => simp [RowKit.intOf]; omega
      · cases e2 : decide (p.hi ≤ hi)
        · rw [e1, e2] at Hf Hs
          go_wp2_with fail
          go_quiet (fail)
          go_wp2
          go_roundw
          case rel => exact ⟨k + 1, by omega, by go_num, by rw [Hf.out]; simp, by rw [Hs.out]; simp, belowN hB, by simpa using hz, q0, q1⟩
          case measure => simp [RowKit.intOf]; omega
        · rw [e1, e2] at Hf Hs
          cases e3 : p.ft
          · rw [e3] at Hf d5
            go_wp2_with fail
            go_quiet (fail)
            go_wp2
            go_roundw
            case rel => exact ⟨k + 1, by omega, by go_num, by rw [Hf.out]; simp, by rw [Hs.out]; simp, belowN hB, by simpa using hz, q0, q1⟩
            case measure => simp [RowKit.intOf]; omega
          · rw [e3] at Hf d5
            go_wp2_with fail
            go_quiet (fail)
            go_wp2
            go_roundw
            case rel => exact ⟨k + 1, by omega, by go_num, by rw [Hf.out]; simp, by rw [Hs.out]; simp, belowN hB, by simpa using hz, q0, q1⟩
            case measure => simp [RowKit.intOf]; omega
    · rw [List.take_of_length_le (by omega)] at *
      generalize feet (pns ps) lo hi = F at *
      generalize some1 (pns ps) lo hi = S at *
      have hmx : (if (F : Int) < (S : Int) then (S : Int) else (F : Int)) = (D : Int) := by rw [Hd.out]; split <;> omega
      have hmx2 : (if F < S then (S : Int) else (F : Int)) = (D : Int) := by rw [Hd.out]; split <;> omega
      go_wp2_with fail
      go_ret
      exact ⟨rfl, hB⟩
def Cs.dem (c : Cs) (lo hi : Int) : Int := if c.chk = 0 then (YtodkbfbbpfghiaaGreat.dem c.s lo hi : Int) else 0
theorem r6Demand (c : Cs) (lo hi : Int) (w : World) (hc : CsAt w c) :
    Calls Tryz.prog 22 #[c.v, .agg #[.int .i64 lo, .int .i64 hi]] w fun e w' => e = .returned (.tuple #[.int .i64 (c.dem lo hi), .int .i64 c.chk]) ∧ Below w.heap.size w w' := by
  have hC := fun w1 (h : CsAt w1 c) => r6chk c w1 h
  have hD := fun w1 (h : CsAt w1 c) => r6demand c.a _ c.cap c.ps lo hi w1 h.ps
  have hr : c.dem lo hi = if c.chk = 0 then (YtodkbfbbpfghiaaGreat.dem (pns c.ps) lo hi : Int) else 0 := rfl
  generalize c.dem lo hi = R at *
  generalize YtodkbfbbpfghiaaGreat.dem (pns c.ps) lo hi = D at *
  generalize c.chk = E at *
  obtain ⟨ware, lim, byr, a, cap, ps⟩ := c
  simp only [Cs.v] at *
  have hB2 : Below w.heap.size w ((w.alloc (Obj.cells #[.string ware, .int .i64 lim, .int .i64 byr, .slice a ps.length cap] 24)).alloc (Obj.cells #[.int .i64 lo, .int .i64 hi] 33)) := by ((repeat (first | assumption | exact Below.refl _ _ | refine Below.alloc ?_ ?_ _ | refine Below.setCell ?_ ?_ _ | refine Below.drew ?_ | refine belowN ?_ | refine Below.up ?_ (by assumption) ?_)) <;> (first | assumption | omega | (simp; done) | (simp; omega)))
  have hbx := hc.below hB2
  by_cases h0 : E = 0
  · subst h0
    rw [if_pos rfl] at hr
    subst hr
    go_enter Tryz.func22, Tryz.ntmps22
    go_wp2_with (first
      | (go_at_call 59; refine (hC _ hbx).mono ?_; rintro e w1 ⟨rfl, hb1⟩; obtain ⟨hc1, hf1⟩ := bcell hb1; have hz1 := lt_size hb1 (b := w.heap.size) (by first | assumption | omega | (simp; done) | (simp; omega)); have hz2 := lt_size hb1 (b := w.heap.size + 1) (by first | assumption | omega | (simp; done) | (simp; omega)); have hby := hbx.below hb1)
      | (go_at_call 77; refine (hD _ hby).mono ?_; rintro e w2 ⟨rfl, hb2⟩))
    go_ret2
    exact ⟨rfl, (hB2.ch2 hb1).ch2 hb2⟩
  · have h2 : (E != 0) = true := by simpa using h0
    rw [if_neg h0] at hr
    subst hr
    clear h0
    go_enter Tryz.func22, Tryz.ntmps22
    go_wp2_with (go_at_call 59; refine (hC _ hbx).mono ?_; rintro e w1 ⟨rfl, hb1⟩)
    go_ret2
    exact ⟨rfl, hB2.ch2 hb1⟩
theorem r6Vessels (a : Option Addr) (n cap : Nat) (v : List Int) (w : World) (hx : IntsAt w a n cap v) (hr : ∀ x ∈ v, -1000000000 ≤ x ∧ x ≤ 1000000000) :
    Calls Tryz.prog 64 #[.slice a n cap] w fun e w' => e = .returned (.int .i64 (vesL v)) ∧ Below w.heap.size w w' := by
  have hsm := hx.small
  obtain rfl := hx.len
  obtain ⟨T, hT⟩ : ∃ T, vesL v = T := ⟨_, rfl⟩
  have HT := Lib.hid hT
  rw [hT]
  clear hT
  go_enter Tryz.func64, Tryz.ntmps64
  go_wp2_with fail
  go_loopw [3, 4] (fun m i wr => ∃ k : Nat, k ≤ v.length ∧ i = .int .i64 k ∧ m = .int .i64 (vesL (v.take k)) ∧ Below w.heap.size w wr) (fun _ i _ => v.length - (RowKit.intOf i).toNat)
  case atStart => exact ⟨0, Nat.zero_le _, rfl, rfl, Below.refl _ _⟩
  case round =>
    obtain ⟨k, hk, rfl, rfl, hB⟩ := hrel
    have hnn : (0 : Int) ≤ k := by omega
    by_cases hlt : k < v.length
    · have i1 : (k : Int) < (v.length : Int) := by omega
      obtain ⟨b, o, rfl, _, d0⟩ := (hx.below hB).get hlt
      have hxx := hr _ (mem_getD hlt)
      have Hs := Lib.hid (show vesL (v.take (k + 1)) = max (vesL (v.take k)) (v.getD k 0 + 1) by rw [take_get hlt, vesL_snoc]; rfl)
      generalize v.getD k 0 = x at *
      generalize vesL (v.take k) = M at *
      obtain ⟨N, hN⟩ : ∃ N, max M (x + 1) = N := ⟨_, rfl⟩
      have hmx : (if M < x + 1 then x + 1 else M) = N := by rw [← hN]; split <;> omega
      have HN := Lib.hid hN
      obtain ⟨x1, x2⟩ := hxx
      clear hN
      go_wp2_with fail
      go_roundw
      case rel => exact ⟨k + 1, by omega, by go_num, by rw [Hs.out, HN.out], hB⟩
      case measure => simp [RowKit.intOf]; omega
    · rw [List.take_of_length_le (by omega)] at *
      go_wp2_with fail
      go_ret
      exact ⟨ret_int HT.out, hB⟩
theorem insI_len (x : Int) (l : List Int) : (insI x l).length ≤ l.length + 1 := by
  induction l with
  | nil => simp [insI]
  | cons y l ih =>
    unfold insI
    split
    · simp; omega
    · split <;> simp
def uniN (l : List Int) (k : Nat) : List Int := ascOf (l.take k)
theorem uniN_succ {l : List Int} {k : Nat} (hk : k < l.length) : uniN l (k + 1) = insI (l.getD k 0) (uniN l k) := by
  unfold uniN ascOf
  rw [take_get hk, List.foldl_append]
  rfl
theorem uniN_len (l : List Int) (k : Nat) : (uniN l k).length ≤ k := by
  induction k with
  | zero => simp [uniN, ascOf]
  | succ k ih =>
    rcases Nat.lt_or_ge k l.length with h | h
    · rw [uniN_succ h]
      have := insI_len (l.getD k 0) (uniN l k)
      omega
    · have : uniN l (k + 1) = uniN l k := by
        unfold uniN
        rw [List.take_of_length_le (by omega), List.take_of_length_le (by omega)]
      rw [this]; omega
theorem uniN_all (l : List Int) : uniN l l.length = ascOf l := by unfold uniN; rw [List.take_length]
/-- The first of a row; what is behind them. -/
theorem rowTake {w : World} {a : Option Addr} {cap : Nat} {vs : List Value} (h : RowAt w a cap vs) (i : Nat) (c2 : Nat) (hc : a = none → c2 = 0) : RowAt w a c2 (vs.take i) := by
  refine ⟨fun h0 => ?_, fun x hx => ?_⟩
  · obtain ⟨h1, h2⟩ := h.nil h0
    subst h1
    exact ⟨by simp, hc h0⟩
  · obtain ⟨h1, h2, h3⟩ := h.at_ x hx
    refine ⟨h1, h2, fun j u hj => h3 j u ?_⟩
    have hl : j < (vs.take i).length := (List.getElem?_eq_some_iff.1 hj).1
    rw [List.getElem?_take_of_lt (by simp at hl; omega)] at hj
    exact hj
theorem rowDrop {w : World} {b off cap : Nat} {vs : List Value} (h : RowAt w (some ⟨b, off, none⟩) cap vs) (i : Nat) {a2 : Option Addr} {c2 : Nat} (ha : a2 = some ⟨b, off + i, none⟩ ∨ (vs.length ≤ i ∧ ∃ o2, a2 = some ⟨b, o2, none⟩)) : RowAt w a2 c2 (vs.drop i) := by
  obtain ⟨_, h2, h3⟩ := h.at_ _ rfl
  rcases ha with rfl | ⟨hl, o2, rfl⟩
  · refine ⟨fun h => (by cases h), fun x hx => ?_⟩
    obtain rfl := Option.some.inj hx
    refine ⟨rfl, h2, fun j u hj => ?_⟩
    have := h3 (i + j) u (by simpa [List.getElem?_drop] using hj)
    simpa [Nat.add_assoc] using this
  · rw [List.drop_eq_nil_of_le hl]
    refine ⟨fun h => (by cases h), fun x hx => ?_⟩
    obtain rfl := Option.some.inj hx
    exact ⟨rfl, h2, fun j u hj => by simp at hj⟩
theorem r6sameInts (a1 a2 : Option Addr) (n1 n2 c1 c2 : Nat) (xs : List Int) (w : World) (hx : LAt w a1 n1 c1 xs) (hy : LAt w a2 n2 c2 xs) :
    Calls Tryz.prog 30 #[.slice a1 n1 c1, .slice a2 n2 c2] w fun e w' => e = .returned (.bool true) ∧ Below w.heap.size w w' := by
  have hlx := hx.small
  obtain rfl := hx.len
  obtain rfl := hy.len
  go_enter Tryz.func30, Tryz.ntmps30
  go_wp2_with fail
  go_loopw [5] (fun i wr => ∃ k : Nat, k ≤ xs.length ∧ i = .int .i64 k ∧ Below w.heap.size w wr) (fun i _ => xs.length - (RowKit.intOf i).toNat)
  case atStart => exact ⟨0, Nat.zero_le _, rfl, Below.refl _ _⟩
  case round =>
    obtain ⟨k, hk, rfl, hB⟩ := hrel
    by_cases hlt : k < xs.length
    · obtain ⟨b1, o1, rfl, _, d0⟩ := (hx.below hB).get hlt
      obtain ⟨b2, o2, rfl, _, d1⟩ := (hy.below hB).get hlt
      have hnn : (0 : Int) ≤ k := by omega
      have i1 : (k : Int) < (xs.length : Int) := by omega
      generalize xs.getD k 0 = u at *
      have e' : (u != u) = false := by simp
      go_wp2_with fail
      go_quiet (fail)
      go_wp2
      go_roundw
      case rel => exact ⟨k + 1, by omega, by go_num, belowN hB⟩
      case measure => simp [RowKit.intOf]; omega
    · go_wp2_with fail
      go_ret
      exact ⟨rfl, hB⟩
theorem eqRg (w : World) (x y : Int) : (Op.equalIn 10000 33 (.agg #[.int .i64 x, .int .i64 y]) (.agg #[.int .i64 x, .int .i64 y])).run Tryz.prog w = .ok true w := by
  rw [show (10000 : Nat) = 9999 + 1 from rfl, run_equalIn_struct w 9999 _ _ _ (by kernel_rfl) (by kernel_rfl)]
  simp [go_sem, Op.eqFields, Program.fieldsOf, Tryz.underlying33, Tryz.underlying3]
theorem gdRg : Tryz.prog.eqGuardType Tryz.prog.depth 33 = false := by kernel_rfl
theorem eqSp (w : World) (x y z u : Int) : (Op.equalIn 10000 47 (.agg #[.int .i64 x, .int .i64 y, .int .i64 z, .int .i64 u]) (.agg #[.int .i64 x, .int .i64 y, .int .i64 z, .int .i64 u])).run Tryz.prog w = .ok true w := by
  rw [show (10000 : Nat) = 9999 + 1 from rfl, run_equalIn_struct w 9999 _ _ _ (by kernel_rfl) (by kernel_rfl)]
  simp [go_sem, Op.eqFields, Program.fieldsOf, Tryz.underlying47, Tryz.underlying3]
theorem gdSp : Tryz.prog.eqGuardType Tryz.prog.depth 47 = false := by kernel_rfl
theorem r6sameRanges (a1 a2 : Option Addr) (n1 n2 c1 c2 : Nat) (rs : List (Int × Int)) (w : World) (hx : RngsAt w a1 n1 c1 rs) (hy : RngsAt w a2 n2 c2 rs) :
    Calls Tryz.prog 63 #[.slice a1 n1 c1, .slice a2 n2 c2] w fun e w' => e = .returned (.bool true) ∧ Below w.heap.size w w' := by
  have hlx := hx.small
  obtain rfl := hx.len
  obtain rfl := hy.len
  go_enter Tryz.func63, Tryz.ntmps63
  go_wp2_with fail
  go_loopw [5] (fun i wr => ∃ k : Nat, k ≤ rs.length ∧ i = .int .i64 k ∧ Below w.heap.size w wr) (fun i _ => rs.length - (RowKit.intOf i).toNat)
  case atStart => exact ⟨0, Nat.zero_le _, rfl, Below.refl _ _⟩
  case round =>
    obtain ⟨k, hk, rfl, hB⟩ := hrel
    by_cases hlt : k < rs.length
    · obtain ⟨b1, o1, rfl, _, d0, d1⟩ := (hx.below hB).get hlt
      obtain ⟨b2, o2, rfl, _, e0, e1⟩ := (hy.below hB).get hlt
      have hnn : (0 : Int) ≤ k := by omega
      have i1 : (k : Int) < (rs.length : Int) := by omega
      have hq := fun w => eqRg w (rs.getD k default).1 (rs.getD k default).2
      have gd := gdRg
      generalize (rs.getD k default).1 = u at *
      generalize (rs.getD k default).2 = v at *
      go_wp2_with fail
      go_quiet (fail)
      go_wp2
      go_roundw
      case rel => exact ⟨k + 1, by omega, by go_num, belowN hB⟩
      case measure => simp [RowKit.intOf]; omega
    · go_wp2_with fail
      go_ret
      exact ⟨rfl, hB⟩

/-- Two parts that hold the same, wherever their lists lie. -/
structure SameP (p q : Pt) : Prop where
  sh : p.sh = q.sh
  re : p.re = q.re
  lo : p.lo = q.lo
  hi : p.hi = q.hi
  lob : p.lob = q.lob
  hib : p.hib = q.hib
  ft : p.ft = q.ft
  fby : p.fby = q.fby
theorem SameP.refl (p : Pt) : SameP p p := ⟨rfl, rfl, rfl, rfl, rfl, rfl, rfl, rfl⟩
theorem r6samePart (p q : Pt) (w : World) (hs : SameP p q) (hp : PtAt w p) (hq : PtAt w q) :
    Calls Tryz.prog 74 #[p.v, q.v] w fun e w' => e = .returned (.bool true) ∧ Below w.heap.size w w' := by
  obtain ⟨sa, sc, sh, lo, hi, lob, hib, ft, fby, ra, rc, re⟩ := p
  obtain ⟨sa2, sc2, sh2, lo2, hi2, lob2, hib2, ft2, fby2, ra2, rc2, re2⟩ := q
  obtain ⟨s1, s2, s3, s4, s5, s6, s7, s8⟩ := hs
  simp only at s1 s2 s3 s4 s5 s6 s7 s8
  subst s1; subst s2; subst s3; subst s4; subst s5; subst s6; subst s7; subst s8
  obtain ⟨h1, h2⟩ := hp
  obtain ⟨k1, k2⟩ := hq
  simp only at h1 h2 k1 k2
  simp only [Pt.v]
  have heq := fun w => eqSp w lo hi lob hib
  have gd := gdSp
  have e1 : (ft == ft) = true := by simp
  have e2 : (fby == fby) = true := by simp
  have hB2 : Below w.heap.size w ((w.alloc (Obj.cells #[.slice sa sh.length sc, .int .i64 lo, .int .i64 hi, .int .i64 lob, .int .i64 hib, .bool ft, .int .i64 fby, .slice ra re.length rc] 49)).alloc (Obj.cells #[.slice sa2 sh.length sc2, .int .i64 lo, .int .i64 hi, .int .i64 lob, .int .i64 hib, .bool ft, .int .i64 fby, .slice ra2 re.length rc2] 49)) := by ((repeat (first | assumption | exact Below.refl _ _ | refine Below.alloc ?_ ?_ _ | refine Below.setCell ?_ ?_ _ | refine Below.drew ?_ | refine belowN ?_ | refine Below.up ?_ (by assumption) ?_)) <;> (first | assumption | omega | (simp; done) | (simp; omega)))
  go_enter Tryz.func74, Tryz.ntmps74
  go_wp2_with (first
    | (go_at_call 30; have hg := hb1; clear hg; refine (r6sameInts _ _ _ _ _ _ _ _ (h2.below (hB2.ch2 hb1)) (k2.below (hB2.ch2 hb1))).mono ?_; rintro e w2 ⟨rfl, hb2⟩)
    | (go_at_call 30; refine (r6sameInts _ _ _ _ _ _ _ _ (h1.below hB2) (k1.below hB2)).mono ?_; rintro e w1 ⟨rfl, hb1⟩; obtain ⟨hc1, hf1⟩ := bcell hb1; have z1 := lt_size hb1 (b := w.heap.size) (by first | assumption | omega | (simp; done) | (simp; omega)); have z2 := lt_size hb1 (b := w.heap.size + 1) (by first | assumption | omega | (simp; done) | (simp; omega))))
  go_ret
  exact ⟨rfl, (hB2.ch2 hb1).ch2 hb2⟩

/-- Two cases that hold the same. -/
structure SameC (c d : Cs) : Prop where
  ware : c.ware = d.ware
  lim : c.lim = d.lim
  byr : c.byr = d.byr
  len : c.ps.length = d.ps.length
  each : ∀ i, i < c.ps.length → SameP (c.ps.getD i default) (d.ps.getD i default)
theorem r6sameCase (c d : Cs) (w : World) (hs : SameC c d) (hc : CsAt w c) (hd : CsAt w d) :
    Calls Tryz.prog 20 #[c.v, d.v] w fun e w' => e = .returned (.bool true) ∧ Below w.heap.size w w' := by
  obtain ⟨ware, lim, byr, a, cap, ps⟩ := c
  obtain ⟨ware2, lim2, byr2, a2, cap2, qs⟩ := d
  obtain ⟨s1, s2, s3, s4, s5⟩ := hs
  simp only at s1 s2 s3 s4 s5
  subst s1; subst s2; subst s3
  simp only [Cs.v]
  have hsm : ps.length ≤ 140737488351232 := hc.ps.small
  rw [← s4]
  have hd' : PtsAt w a2 ps.length cap2 qs := by rw [s4]; exact hd.ps
  have hc' : PtsAt w a ps.length cap ps := hc.ps
  have S4 := Lib.hid s4
  clear s4 hc hd
  have e2 : (lim != lim) = false := by simp
  have e3 : (byr != byr) = false := by simp
  have e4 : ((ps.length : Int) != (ps.length : Int)) = false := by simp
  have hB2 : Below w.heap.size w ((w.alloc (Obj.cells #[.string ware, .int .i64 lim, .int .i64 byr, .slice a ps.length cap] 24)).alloc (Obj.cells #[.string ware, .int .i64 lim, .int .i64 byr, .slice a2 ps.length cap2] 24)) := by ((repeat (first | assumption | exact Below.refl _ _ | refine Below.alloc ?_ ?_ _ | refine Below.setCell ?_ ?_ _ | refine Below.drew ?_ | refine belowN ?_ | refine Below.up ?_ (by assumption) ?_)) <;> (first | assumption | omega | (simp; done) | (simp; omega)))
  go_enter Tryz.func20, Tryz.ntmps20
  go_wp2_with fail
  go_loopw [5] (fun i wr => ∃ k : Nat, k ≤ ps.length ∧ i = .int .i64 k ∧ Below w.heap.size w wr ∧ w.heap.size + 1 < wr.heap.size ∧ wr.cell? ⟨w.heap.size, 3, none⟩ = some (.slice a ps.length cap) ∧ wr.cell? ⟨w.heap.size + 1, 3, none⟩ = some (.slice a2 ps.length cap2)) (fun i _ => ps.length - (RowKit.intOf i).toNat)
  case atStart => exact ⟨0, Nat.zero_le _, rfl, hB2, by simp, by simp [go_sem], by simp [go_sem]⟩
  case round =>
    obtain ⟨k, hk, rfl, hB, hz, q1, q2⟩ := hrel
    have hnn : (0 : Int) ≤ k := by omega
    by_cases hlt : k < ps.length
    · have i1 : (k : Int) < (ps.length : Int) := by omega
      have hlt2 : k < qs.length := by rw [← S4.out]; exact hlt
      have hsame := s5 k hlt
      have hpe := (hc'.below hB).each _ (Pt.mem hlt)
      have hqe := (hd'.below hB).each _ (Pt.mem hlt2)
      obtain ⟨b1, o1, rfl, l1, d0, d1, d2, d3, d4, d5, d6, d7⟩ := (hc'.below hB).get hlt
      obtain ⟨b2, o2, rfl, l2, f0, f1, f2, f3, f4, f5, f6, f7⟩ := (hd'.below hB).get hlt2
      generalize ps.getD k default = p at *
      generalize qs.getD k default = q at *
      have hS := fun w1 (h : Below wr.heap.size wr w1) => r6samePart p q w1 hsame (hpe.below h) (hqe.below h)
      simp only [Pt.v] at hS
      have z0 : w.heap.size < wr.heap.size := by omega
      clear hsame hpe hqe
      go_wp2_with fail
      refine (wpIn_wide (n := 0)).1 ?_
      refine SLF.rule (ro := none) (by kernel_rfl) [] [41, 42, 43, 44, 45, 46, 47, 48, 49, 50, 51, 52] [SLF.pq 41 [] (.pointer (some ⟨w.heap.size, 3, none⟩)), SLF.pq 42 [0] (.slice (some ⟨b1, o1, none⟩) ps.length cap), SLF.pq 43 [] (.int .i64 k), SLF.pq 44 [1, 2] (.pointer (some ⟨b1, o1 + k * 8, none⟩)), SLF.pq 45 [3] (p.v), SLF.pq 46 [] (.pointer (some ⟨w.heap.size + 1, 3, none⟩)), SLF.pq 47 [5] (.slice (some ⟨b2, o2, none⟩) ps.length cap2), SLF.pq 48 [] (.int .i64 k), SLF.pq 49 [6, 7] (.pointer (some ⟨b2, o2 + k * 8, none⟩)), SLF.pq 50 [8] (q.v), SL.pu 51 [4, 9] (.bool true), SLF.pq 52 [10] (.bool false)]
        [11] (by kernel_rfl) (by kernel_rfl) (fun _ => []) (SL.none_held rfl) (by simp) ?_ ?_
      · refine ⟨?_, ?_, ?_, ?_, ?_, ?_, ?_, ?_, ?_, ?_, ?_, ?_, trivial⟩
        all_goals refine SLF.ob fun us w' Fe hG hu hd hv Kx hK => ?_
        all_goals simp [SL.frame, SL.put', SL.Used, SL.Seen, SL.pu, SL.row, SL.box, SL.rowIn, SL.boxIn, SL.boxAt, SL.boxAtIn, Bd.v, Bd.cs, SLF.pq, Pt.v] at hu hv hK
        all_goals (have hB5 : Below wr.heap.size wr w' := hG.below')
        all_goals (have hcc := (bcell hB5).1)
        all_goals (rw [← hcc _ _ z0] at q1; rw [← hcc _ _ hz] at q2)
        all_goals (rw [← hcc _ _ l1] at d0 d1 d2 d3 d4 d5 d6 d7; rw [← hcc _ _ l2] at f0 f1 f2 f3 f4 f5 f6 f7)
        all_goals clear hcc hd hv hG
        all_goals first
          | refine SLF.wpo_do (SLF.wanted_free rfl) (by intro c h; cases h) ?_
          | refine SLF.wpo_do (SLF.wanted_by rfl rfl (by simp [SL.frame, SL.put', hu]; done)) (by intro c h; cases h) ?_
        all_goals simp [SL.frame, SL.put', SL.Used, SL.Seen, SL.pu, SL.row, SL.box, SL.rowIn, SL.boxIn, SL.boxAt, SL.boxAtIn, Bd.v, Bd.cs]
        all_goals try (go_step; exact hK _ _ _ _ (by simp [Act.put, *]; done) (SL.Chg.refl _ _) rfl rfl (by simp) (by simp))
        go_step
        refine (hS _ hB5).mono ?_
        rintro e w2 ⟨rfl, hb3⟩
        exact hK _ _ w2 _ (by simp [Act.put, *]; done) (.of_below hb3) rfl rfl (by simp)
      · intro us w5 Fs hG hu hbd hd
        simp [SL.frame, SL.put', SL.Used, SL.Seen, SL.pu, SL.row, SL.box, SL.rowIn, SL.boxIn, SL.boxAt, SL.boxAtIn, Bd.v, Bd.cs, SLF.pq] at hu ⊢
        have hB5 : Below wr.heap.size wr w5 := hG.below'
        have hcc := (bcell hB5).1
        obtain ⟨u52, _⟩ := hu
        simp only [u52]
        clear hbd hd hG d0 d1 d2 d3 d4 d5 d6 d7 f0 f1 f2 f3 f4 f5 f6 f7
        go_wp2_with fail
        go_roundw
        case rel => exact ⟨k + 1, by omega, by go_num, hB.ch2 hB5, by have := hB5.size; omega, (hcc _ _ z0).trans q1, (hcc _ _ hz).trans q2⟩
        case measure => simp [RowKit.intOf]; omega
    · go_wp2_with fail
      go_ret
      exact ⟨rfl, hB⟩
end Go.Proofs.YtodkbfbbpfghiaaGreat
namespace Go.Proofs.YtodkbfbbpfghiaaGreat
open Go
/-- Two parts as one; its lists lie where said. -/
def gluPt (sa : Option Addr) (sc : Nat) (ra : Option Addr) (rc : Nat) (p q : Pt) : Pt :=
  { sa := sa, sc := sc, sh := ascOf (p.sh ++ q.sh), lo := if p.lo < q.lo then q.lo else p.lo, hi := if q.hi < p.hi then q.hi else p.hi,
    lob := if p.lo < q.lo then q.lob else p.lob, hib := if q.hi < p.hi then q.hib else p.hib, ft := p.ft || q.ft, fby := max p.fby q.fby, ra := ra, rc := rc, re := ascOf (p.re ++ q.re) }
theorem gluPt_n (sa : Option Addr) (sc : Nat) (ra : Option Addr) (rc : Nat) (p q : Pt) : (gluPt sa sc ra rc p q).n = gluP p.n q.n := by
  unfold gluPt gluP Pt.n
  simp only [Pn.mk.injEq]
  refine ⟨?_, ?_, trivial⟩ <;> split <;> omega
theorem map_erase {α β : Type} (f : α → β) : ∀ (l : List α) (i : Nat), (l.eraseIdx i).map f = (l.map f).eraseIdx i
  | [], _ => rfl
  | x :: l, 0 => rfl
  | x :: l, i + 1 => by simp [map_erase f l i]
theorem pns_erase (ps : List Pt) (a : Nat) : pns (ps.eraseIdx a) = (pns ps).eraseIdx a := map_erase _ _ _
def mixPt (ps : List Pt) (a b : Nat) (g : Pt) : List Pt := (ps.set a g).eraseIdx b
theorem mixPt_len {ps : List Pt} {a b : Nat} {g : Pt} (hb : b < ps.length) : (mixPt ps a b g).length = ps.length - 1 := by
  unfold mixPt; rw [List.length_eraseIdx]; simp [hb]
theorem getD_erasePt {s : List Pt} {a : Nat} (i : Nat) : (s.eraseIdx a).getD i default = s.getD (upI a i) default := by
  simp only [List.getD_eq_getElem?_getD, List.getElem?_eraseIdx, upI]
  split <;> rfl
theorem mixPt_get {ps : List Pt} {a b i : Nat} {g : Pt} (hab : a < b) (hb : b < ps.length) : (mixPt ps a b g).getD i default = if i = a then g else ps.getD (upI b i) default := by
  unfold mixPt
  rw [getD_erasePt]
  simp only [List.getD_eq_getElem?_getD, List.getElem?_set]
  unfold upI
  by_cases e : i = a
  · subst e; rw [if_pos hab]; have : i < ps.length := by omega
    simp [this]
  · rw [if_neg e, if_neg (by split <;> omega)]
theorem mixPt_pns {ps : List Pt} {a b : Nat} {g : Pt} (ha : a < ps.length) (hb : b < ps.length) (hg : g.n = gluP (ps.getD a default).n (ps.getD b default).n) : pns (mixPt ps a b g) = merS (pns ps) a b := by
  unfold mixPt merS
  rw [pns_get ps ha, pns_get ps hb, ← hg, pns_erase]
  simp [pns, List.map_set]
theorem SameP.n {p q : Pt} (h : SameP p q) : p.n = q.n := by unfold Pt.n; rw [h.lo, h.hi, h.ft]
theorem SameP.symm {p q : Pt} (h : SameP p q) : SameP q p := ⟨h.sh.symm, h.re.symm, h.lo.symm, h.hi.symm, h.lob.symm, h.hib.symm, h.ft.symm, h.fby.symm⟩
theorem SameP.trans {p q r : Pt} (h : SameP p q) (k : SameP q r) : SameP p r := ⟨h.sh.trans k.sh, h.re.trans k.re, h.lo.trans k.lo, h.hi.trans k.hi, h.lob.trans k.lob, h.hib.trans k.hib, h.ft.trans k.ft, h.fby.trans k.fby⟩
theorem SameC.symm {c d : Cs} (h : SameC c d) : SameC d c := ⟨h.ware.symm, h.lim.symm, h.byr.symm, h.len.symm, fun i hi => (h.each i (by rw [h.len]; exact hi)).symm⟩
theorem SameC.trans {c d e : Cs} (h : SameC c d) (k : SameC d e) : SameC c e := ⟨h.ware.trans k.ware, h.lim.trans k.lim, h.byr.trans k.byr, h.len.trans k.len, fun i hi => (h.each i hi).trans (k.each i (by rw [← h.len]; exact hi))⟩
theorem SameC.refl (c : Cs) : SameC c c := ⟨rfl, rfl, rfl, rfl, fun _ _ => SameP.refl _⟩
/-- What a part holds, wherever its lists lie. -/
def Pt.bare (p : Pt) : Pt := ⟨none, 0, p.sh, p.lo, p.hi, p.lob, p.hib, p.ft, p.fby, none, 0, p.re⟩
theorem SameP.bare {p q : Pt} : SameP p q ↔ p.bare = q.bare := by
  unfold Pt.bare
  constructor
  · rintro ⟨a, b, c, d, e, f, g, h⟩; rw [a, b, c, d, e, f, g, h]
  · intro h; simp only [Pt.mk.injEq, true_and] at h
    exact ⟨h.1, h.2.2.2.2.2.2.2, h.2.1, h.2.2.1, h.2.2.2.1, h.2.2.2.2.1, h.2.2.2.2.2.1, h.2.2.2.2.2.2.1⟩
theorem SameC.bares {c d : Cs} (h : SameC c d) : c.ps.map Pt.bare = d.ps.map Pt.bare := by
  apply List.ext_getElem
  · simpa using h.len
  · intro i h1 h2
    have := SameP.bare.1 (h.each i (by simpa using h1))
    simp only [List.length_map] at h1 h2
    simpa [List.getD_eq_getElem?_getD, h1, h2] using this
theorem disB_bare : ∀ (ps : List Pt), disB (ps.map Pt.bare) = disB ps
  | [] => rfl
  | p :: l => by
    have ih := disB_bare l
    simp only [List.map_cons, disB, ih, List.all_map]
    rfl
theorem cchk_bare (ware : List UInt8) (lim by_ : Int) (ps : List Pt) : cchk ware lim by_ (ps.map Pt.bare) = cchk ware lim by_ ps := by
  unfold cchk
  rw [disB_bare, List.length_map, List.all_map]
  rfl
theorem pns_bare (ps : List Pt) : pns (ps.map Pt.bare) = pns ps := by
  unfold pns; rw [List.map_map]; rfl
theorem SameC.chk {c d : Cs} (h : SameC c d) : c.chk = d.chk := by
  unfold Cs.chk
  rw [← cchk_bare, ← cchk_bare _ _ _ d.ps, h.bares, h.ware, h.lim, h.byr]
theorem SameC.s {c d : Cs} (h : SameC c d) : c.s = d.s := by
  unfold Cs.s
  rw [← pns_bare, ← pns_bare d.ps, h.bares]
theorem ptB_parts {p : Pt} (h : ptB p = true) : (1 ≤ p.sh.length ∧ p.sh.length ≤ 40 ∧ risB 1 1000000 p.sh = true) ∧ (p.re.length ≤ 200 ∧ risB 1 1000000 p.re = true) ∧
    toldB p.lob (decide (p.lo = 0)) = true ∧ toldB p.hib (decide (p.hi = 1000)) = true ∧ toldB p.fby (!p.ft) = true := by
  unfold ptB at h
  simp only [Bool.and_eq_true, decide_eq_true_eq] at h
  exact ⟨⟨h.1.1.1.1.1.1.1.1.1.1, h.1.1.1.1.1.1.1.1.1.2, h.1.1.1.1.1.1.1.1.2⟩, ⟨h.1.1.1.1.2, h.1.1.1.2⟩, h.1.1.2, h.1.2, h.2⟩
theorem toldB_iff {id : Int} {no : Bool} : toldB id no = true ↔ 0 ≤ id ∧ id ≤ 1000000 ∧ (no = true → id = 0) := by
  unfold toldB
  cases no <;> simp [and_assoc]
end Go.Proofs.YtodkbfbbpfghiaaGreat
namespace Go.Proofs.YtodkbfbbpfghiaaGreat
open Go.RowKit Go.Shelf
set_option maxHeartbeats 40000000
set_option maxRecDepth 100000
/-- A value made of two rows. -/
def SL.rows2 (s : Nat) (u e : List Nat) (base : Nat) (t : TypeId) (n : Nat) (xs : List Value) (m : Nat) (ys : List Value) (f : Value → Value → Value) : SL.Sp :=
  { sub := s, use := u, eat := e, A := fun x w F => ∃ y z, x = f y z ∧ w.ownsRow base t 1 y n xs ∧ w.ownsRow base t 1 z m ys ∧ F = y.ownBlock.toList ++ z.ownBlock.toList,
    st := by
      rintro v w w' F ⟨y, z, rfl, h1, h2, rfl⟩ hk _
      exact ⟨y, z, rfl, SL.row_stab h1 (fun k h => hk k (by simp only [List.mem_append]; exact .inl h)), SL.row_stab h2 (fun k h => hk k (by simp only [List.mem_append]; exact .inr h)), rfl⟩ }
/-- A box whose cells hold two rows. -/
def SL.boxRows2 (s : Nat) (u e : List Nat) (base : Nat) (bt t : TypeId) (n : Nat) (xs : List Value) (m : Nat) (ys : List Value) (f : Value → Value → Array Value) : SL.Sp :=
  { sub := s, use := u, eat := e, A := fun x w F => ∃ N y z, x = .pointer (some ⟨N, 0, none⟩) ∧ base ≤ N ∧ w.heap[N]? = some (.cells (f y z) bt (0, 0)) ∧ (y.ownBlock ≠ some N ∧ z.ownBlock ≠ some N) ∧ w.ownsRow base t 1 y n xs ∧ w.ownsRow base t 1 z m ys ∧ F = N :: (y.ownBlock.toList ++ z.ownBlock.toList),
    st := by
      rintro v w w' F ⟨N, y, z, rfl, hb, h, hn, h1, h2, rfl⟩ hk _
      exact ⟨N, y, z, rfl, hb, by rw [hk N (by simp)]; exact h, hn, SL.row_stab h1 (fun k h => hk k (by simp only [List.mem_cons, List.mem_append]; exact .inr (.inl h))), SL.row_stab h2 (fun k h => hk k (by simp only [List.mem_cons, List.mem_append]; exact .inr (.inr h))), rfl⟩ }
theorem elemR : Elem Tryz.prog 35 33 (.agg #[.int .i64 0, .int .i64 0]) 2 16 := ⟨Tryz.underlying35, info_parts (by kernel_rfl), rfl, by decide⟩
theorem elemP : Elem Tryz.prog 22 49 (.agg #[.slice none 0 0, .int .i64 0, .int .i64 0, .int .i64 0, .int .i64 0, .bool false, .int .i64 0, .slice none 0 0]) 8 96 := ⟨Tryz.underlying22, info_parts (by kernel_rfl), rfl, by decide⟩
theorem cell8w {W : World} {N : Nat} {a b c d e f g h : Value} {t : TypeId} (hh : W.heap[N]? = some (.cells #[a, b, c, d, e, f, g, h] t (0, 0))) :
    W.cell? ⟨N, 0, none⟩ = some a ∧ W.cell? ⟨N, 1, none⟩ = some b ∧ W.cell? ⟨N, 2, none⟩ = some c ∧ W.cell? ⟨N, 3, none⟩ = some d ∧ W.cell? ⟨N, 4, none⟩ = some e ∧ W.cell? ⟨N, 5, none⟩ = some f ∧ W.cell? ⟨N, 6, none⟩ = some g ∧ W.cell? ⟨N, 7, none⟩ = some h ∧ (∀ i, W.frozen? ⟨N, i, none⟩ = false) ∧ N < W.heap.size := by
  have k := (SL.cells_of hh).1
  exact ⟨by simpa using k 0, by simpa using k 1, by simpa using k 2, by simpa using k 3, by simpa using k 4, by simpa using k 5, by simpa using k 6, by simpa using k 7, (SL.cells_of hh).2, (Array.getElem?_eq_some_iff.1 hh).1⟩

/-- A part whose lists are its own. -/
structure OwnPt (w : World) (base : Nat) (p : Pt) : Prop where
  sh : w.ownsRow base 3 1 (.slice p.sa p.sh.length p.sc) p.sh.length (p.sh.map (.int .i64))
  re : w.ownsRow base 3 1 (.slice p.ra p.re.length p.rc) p.re.length (p.re.map (.int .i64))
theorem OwnPt.at_ {w : World} {base : Nat} {p : Pt} (h : OwnPt w base p) (h1 : p.sh.length ≤ 10000) (h2 : p.re.length ≤ 10000) : PtAt w p := ⟨(IntsAt.of_owns h.sh (by omega)).lat, (IntsAt.of_owns h.re (by omega)).lat⟩
theorem OwnPt.up {w w' : World} {base : Nat} {p : Pt} (h : OwnPt w base p) (hb : Below w.heap.size w w') : OwnPt w' base p := ⟨h.sh.up hb (Nat.le_refl _), h.re.up hb (Nat.le_refl _)⟩
theorem ascOf_len (l : List Int) : (ascOf l).length ≤ l.length := by rw [← uniN_all]; exact uniN_len l l.length
def MergedPost (w : World) (p q : Pt) (e : Ending) (w' : World) : Prop := ∃ sa sc ra rc, e = .returned (gluPt sa sc ra rc p q).v ∧ Below w.heap.size w w' ∧ OwnPt w' w.heap.size (gluPt sa sc ra rc p q)
end Go.Proofs.YtodkbfbbpfghiaaGreat
/-
  Words of the regions' rule made of parts: rows, blocks, pure facts, put side by side; parts whose lists are their own.
-/
namespace Go.Proofs.YtodkbfbbpfghiaaGreat.SL
open Go Go.RowKit Go.Proofs.YtodkbfbbpfghiaaGreat

/-- What holds of a world, and the blocks that it holds for itself. -/
structure As where
  A : World → List Nat → Prop
  st : ∀ (w w' : World) (F : List Nat), A w F → (∀ k ∈ F, w'.heap[k]? = w.heap[k]?) → w.heap.size ≤ w'.heap.size → A w' F
abbrev As.row (base : Nat) (t : TypeId) (size : Nat) (v : Value) (n : Nat) (xs : List Value) : As :=
  { A := fun w F => w.ownsRow base t size v n xs ∧ F = v.ownBlock.toList, st := fun _ _ _ h hk _ => ⟨row_stab h.1 (h.2 ▸ hk), h.2⟩ }
abbrev As.blk (base N : Nat) (t : TypeId) (cs : Array Value) : As :=
  { A := fun w F => base ≤ N ∧ w.heap[N]? = some (.cells cs t (0, 0)) ∧ F = [N], st := by rintro w w' F ⟨hb, h, rfl⟩ hk _; exact ⟨hb, by rw [hk N (by simp)]; exact h, rfl⟩ }
abbrev As.pure (p : Prop) : As := { A := fun _ F => p ∧ F = [], st := fun _ _ _ h _ _ => h }
abbrev As.sep (a b : As) : As :=
  { A := fun w F => ∃ F1 F2, a.A w F1 ∧ b.A w F2 ∧ F = F1 ++ F2,
    st := by
      rintro w w' F ⟨F1, F2, h1, h2, rfl⟩ hk hs
      exact ⟨F1, F2, a.st _ _ _ h1 (fun k h => hk k (List.mem_append.2 (.inl h))) hs, b.st _ _ _ h2 (fun k h => hk k (List.mem_append.2 (.inr h))) hs, rfl⟩ }
/-- The same, and no block is held twice. -/
abbrev As.sepd (a b : As) : As :=
  { A := fun w F => ∃ F1 F2, a.A w F1 ∧ b.A w F2 ∧ (∀ k ∈ F1, k ∉ F2) ∧ F = F1 ++ F2,
    st := by
      rintro w w' F ⟨F1, F2, h1, h2, hd, rfl⟩ hk hs
      exact ⟨F1, F2, a.st _ _ _ h1 (fun k h => hk k (List.mem_append.2 (.inl h))) hs, b.st _ _ _ h2 (fun k h => hk k (List.mem_append.2 (.inr h))) hs, hd, rfl⟩ }
abbrev As.ex {α : Type} (f : α → As) : As := { A := fun w F => ∃ x, (f x).A w F, st := fun w w' F h hk hs => h.elim fun x hx => ⟨x, (f x).st w w' F hx hk hs⟩ }
def aw (s : Nat) (u e : List Nat) (f : Value → As) : Sp := { sub := s, use := u, eat := e, A := fun x => (f x).A, st := fun v => (f v).st }
theorem aw_sub (s : Nat) (u e : List Nat) (f : Value → As) : (aw s u e f).sub = s := rfl
theorem aw_use (s : Nat) (u e : List Nat) (f : Value → As) : (aw s u e f).use = u := rfl
theorem aw_eat (s : Nat) (u e : List Nat) (f : Value → As) : (aw s u e f).eat = e := rfl
theorem aw_V (s : Nat) (u e : List Nat) (f : Value → As) : (aw s u e f).V = fun _ => True := rfl
theorem aw_quiet (s : Nat) (u e : List Nat) (f : Value → As) : (aw s u e f).quiet = false := rfl
theorem aw_in {s : Nat} {u e : List Nat} {f : Value → As} {v : Value} {w : World} {F : List Nat} (h : (f v).A w F) : (aw s u e f).A v w F := h
theorem aw_out {s : Nat} {u e : List Nat} {f : Value → As} {v : Value} {w : World} {F : List Nat} (h : (aw s u e f).A v w F) : (f v).A w F := h

/-- A row is held from the beginning. -/
theorem row_held {ops : List Oper} {Γ : List Sp} {a0 : Act} {w : World} {x : Sp} {v : Value} {base n size : Nat} {t : TypeId} {xs : List Value} (h : Γ.length = ops.length + 1) (hx : Γ[ops.length]? = some x)
    (hA : x.A (a0.tmps.getD x.sub undef) w.drew v.ownBlock.toList) (hr : w.ownsRow base t size v n xs) :
    ∀ i y, ops.length ≤ i → Γ[i]? = some y → y.A (a0.tmps.getD y.sub undef) w.drew ((fun i => if i = ops.length then v.ownBlock.toList else []) i) ∧ ∀ k ∈ (fun i => if i = ops.length then v.ownBlock.toList else []) i, k ∈ v.ownBlock.toList ∧ k < w.heap.size := by
  intro i y hi hy
  by_cases e : i = ops.length
  · subst e
    rw [hx] at hy
    cases hy
    simp only [if_pos]
    exact ⟨hA, fun k hk => ⟨hk, (row_bounds hr k hk).2⟩⟩
  · rw [List.getElem?_eq_none (by omega)] at hy
    cases hy
end Go.Proofs.YtodkbfbbpfghiaaGreat.SL
namespace Go.Proofs.YtodkbfbbpfghiaaGreat
open Go Go.RowKit
/-- The blocks of a part's lists. -/
def Pt.blocks (p : Pt) : List Nat := (Value.slice p.sa p.sh.length p.sc).ownBlock.toList ++ (Value.slice p.ra p.re.length p.rc).ownBlock.toList
theorem OwnPt.stab {w w' : World} {base : Nat} {p : Pt} (h : OwnPt w base p) (hk : ∀ k ∈ p.blocks, w'.heap[k]? = w.heap[k]?) : OwnPt w' base p :=
  ⟨SL.row_stab h.sh fun k hm => hk k (List.mem_append.2 (.inl hm)), SL.row_stab h.re fun k hm => hk k (List.mem_append.2 (.inr hm))⟩
theorem OwnPt.base {w : World} {base base' : Nat} {p : Pt} (h : OwnPt w base p) (hb : base' ≤ base) : OwnPt w base' p := ⟨SL.row_base h.sh hb, SL.row_base h.re hb⟩
theorem OwnPt.bounds {w : World} {base : Nat} {p : Pt} (h : OwnPt w base p) : ∀ k ∈ p.blocks, base ≤ k ∧ k < w.heap.size := fun k hk => by
  rcases List.mem_append.1 hk with hk | hk
  · exact SL.row_bounds h.sh k hk
  · exact SL.row_bounds h.re k hk
abbrev SL.As.own (base : Nat) (p : Pt) : SL.As := { A := fun w F => OwnPt w base p ∧ F = p.blocks, st := fun _ _ _ h hk _ => ⟨h.1.stab (h.2 ▸ hk), h.2⟩ }
/-- Two parts as one, wherever its lists lie. -/
def GluOf (g p q : Pt) : Prop := ∃ sa sc ra rc, g = gluPt sa sc ra rc p q
end Go.Proofs.YtodkbfbbpfghiaaGreat
namespace Go.Proofs.YtodkbfbbpfghiaaGreat
open Go.RowKit Go.Shelf
set_option maxHeartbeats 40000000
set_option maxRecDepth 100000
def MergedPost2 (w : World) (p q : Pt) (e : Ending) (w' : World) : Prop := ∃ g : Pt, GluOf g p q ∧ e = .returned g.v ∧ Below w.heap.size w w' ∧ OwnPt w' w.heap.size g
/-- The row of parts, and the part that was made, which lies apart from it. -/
structure MixAt (w : World) (base : Nat) (v : Value) (qs : List Pt) (g : Pt) : Prop where
  row : w.ownsRow base 49 8 v qs.length (pcs qs)
  own : OwnPt w base g
  apart : ∀ k ∈ v.ownBlock.toList, k ∉ g.blocks
/-- No case. -/
def Cs.zero : Cs := ⟨ByteArray.empty, 0, 0, none, 0, []⟩
theorem Cs.zero_at (w : World) : CsAt w Cs.zero := ⟨by decide, ⟨rfl, by simp [Cs.zero], RowAt.nilAt _, fun p hp => by simp [Cs.zero] at hp⟩⟩
/-- Two parts as one: the error, and what it says. -/
def Cs.mergeE (c : Cs) (a b : Nat) : Int :=
  if clB c.s a b then 60 else if 40 < (ascOf ((c.ps.getD (min a b) default).sh ++ (c.ps.getD (max a b) default).sh)).length ∨ 200 < (ascOf ((c.ps.getD (min a b) default).re ++ (c.ps.getD (max a b) default).re)).length then 2 else 0
structure MrgOf (c : Cs) (a b : Nat) (d : Cs) : Prop where
  ware : d.ware = c.ware
  lim : d.lim = c.lim
  byr : d.byr = c.byr
  ps : ∃ g, GluOf g (c.ps.getD (min a b) default) (c.ps.getD (max a b) default) ∧ d.ps = mixPt c.ps (min a b) (max a b) g
theorem GluOf.sh {g p q : Pt} (h : GluOf g p q) : g.sh = ascOf (p.sh ++ q.sh) := by obtain ⟨_, _, _, _, rfl⟩ := h; rfl
theorem GluOf.re {g p q : Pt} (h : GluOf g p q) : g.re = ascOf (p.re ++ q.re) := by obtain ⟨_, _, _, _, rfl⟩ := h; rfl
theorem MixAt.pts {w : World} {base n : Nat} {va : Option Addr} {vc : Nat} {ps M : List Pt} {g : Pt} (h : MixAt w base (.slice va n vc) M g) (hn : n = M.length) (hs : M.length ≤ 1000) (hm : ∀ p ∈ M, p ∈ ps ∨ p = g) (h1 : g.sh.length ≤ 10000) (h2 : g.re.length ≤ 10000) (hp : ∀ p ∈ ps, PtAt w p) : PtsAt w va n vc M := by
  subst hn
  refine ⟨rfl, by omega, RowAt.of_owns h.row, fun p hpm => ?_⟩
  rcases hm p hpm with hm | rfl
  · exact hp p hm
  · exact h.own.at_ h1 h2
theorem MixAt.stab {w w' : World} {base : Nat} {v : Value} {M : List Pt} {g : Pt} (h : MixAt w base v M g) (hk : ∀ k, base ≤ k → k < w.heap.size → w'.heap[k]? = w.heap[k]?) : MixAt w' base v M g :=
  ⟨SL.row_stab h.row fun k hm => hk k (SL.row_bounds h.row k hm).1 (SL.row_bounds h.row k hm).2, h.own.stab fun k hm => hk k (h.own.bounds k hm).1 (h.own.bounds k hm).2, h.apart⟩
theorem heap_setC (w : World) (p : Addr) (v : Value) {k : Nat} (h : p.block ≠ k) : (w.setCell p v).heap[k]? = w.heap[k]? := Below.heap_setCell _ _ _ _ (fun e => h e.symm)
theorem heap_allocC (w : World) (o : Obj) {k : Nat} (h : k < w.heap.size) : (w.alloc o).heap[k]? = w.heap[k]? := Below.heap_alloc _ _ _ h
theorem MixAt.at_ {w : World} {base : Nat} {v : Value} {ps : List Pt} {a b : Nat} {g : Pt} (h : MixAt w base v (mixPt ps a b g) g) (h1 : g.sh.length ≤ 10000) (h2 : g.re.length ≤ 10000) (hl : ps.length ≤ 1000) (hp : ∀ p ∈ ps, PtAt w p) :
    ∃ va vc, v = .slice va (mixPt ps a b g).length vc ∧ (∀ x, va = some x → base ≤ x.block) ∧ PtsAt w va (mixPt ps a b g).length vc (mixPt ps a b g) := by
  obtain ⟨va, vc, rfl, hva⟩ := owns_slice h.row
  refine ⟨va, vc, rfl, fun x hx => (hva x hx).1, rfl, ?_, RowAt.of_owns h.row, fun p hm => ?_⟩
  · have : (mixPt ps a b g).length ≤ ps.length := by unfold mixPt; rw [List.length_eraseIdx, List.length_set]; split <;> omega
    omega
  · unfold mixPt at hm
    rcases List.mem_or_eq_of_mem_set (List.mem_of_mem_eraseIdx hm) with hm | rfl
    · exact hp p hm
    · exact h.own.at_ h1 h2
end Go.Proofs.YtodkbfbbpfghiaaGreat

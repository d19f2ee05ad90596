/-
  Lemmas and walks for the laws on roads and boards: what each function of the program answers, for every input.
-/
import Derived.Test.YtodkbfbbpfghiaaGreatPa05
import Derived.Test.YtodkbfbbpfghiaaGreatPa04
set_option linter.unusedSimpArgs false
set_option linter.unusedVariables false
set_option linter.unnecessarySimpa false
namespace Go.Proofs.YtodkbfbbpfghiaaGreat
open Go.RowKit Go.Shelf
set_option maxHeartbeats 4000000
set_option maxRecDepth 100000
theorem take_get {α : Type} [Inhabited α] {l : List α} {k : Nat} (hk : k < l.length) : l.take (k + 1) = l.take k ++ [l.getD k default] := by
  rw [List.take_succ_eq_append_getElem hk]
  simp [List.getD_eq_getElem?_getD, List.getElem?_eq_getElem hk]
theorem feet_snoc (s : List Pn) (p : Pn) (l h : Int) : feet (s ++ [p]) l h = feet s l h + if inB l h p && p.ft then 1 else 0 := by simp [feet, List.countP_append, List.countP_cons]
theorem some1_snoc (s : List Pn) (p : Pn) (l h : Int) : some1 (s ++ [p]) l h = if inB l h p then 1 else some1 s l h := by
  unfold some1
  rw [List.any_append]
  by_cases h2 : inB l h p = true
  · simp [h2]
  · simp [h2]
theorem feet_le (s : List Pn) (l h : Int) : feet s l h ≤ s.length := List.countP_le_length
theorem r6demand (a : Option Addr) (n cap : Nat) (ps : List Pt) (lo hi : Int) (w : World) (hp : PtsAt w a n cap ps) :
    Calls Tryz.prog 77 #[.slice a n cap, .agg #[.int .i64 lo, .int .i64 hi]] w fun e w' => e = .returned (.int .i64 (dem (pns ps) lo hi)) ∧ Below w.heap.size w w' := by
  have hsm := hp.small
  obtain rfl := hp.len
  have hd : dem (pns ps) lo hi = max (feet (pns ps) lo hi) (some1 (pns ps) lo hi) := rfl
  generalize dem (pns ps) lo hi = D at *
  have Hd := Lib.hid hd
  clear hd
  have hB0 := one_alloc w (Obj.cells #[.int .i64 lo, .int .i64 hi] 33)
  go_enter Tryz.func77, Tryz.ntmps77
  go_wp2_with fail
  go_loopw [5, 6, 7] (fun f s i wr => ∃ k : Nat, k ≤ ps.length ∧ i = .int .i64 k ∧ f = .int .i64 (feet (pns (ps.take k)) lo hi) ∧ s = .int .i64 (some1 (pns (ps.take k)) lo hi) ∧ Below w.heap.size w wr ∧ w.heap.size < wr.heap.size ∧ wr.cell? ⟨w.heap.size, 0, none⟩ = some (.int .i64 lo) ∧ wr.cell? ⟨w.heap.size, 1, none⟩ = some (.int .i64 hi)) (fun _ _ i _ => ps.length - (RowKit.intOf i).toNat)
  case atStart => exact ⟨0, Nat.zero_le _, rfl, rfl, rfl, hB0, by simp, by simp [go_sem], by simp [go_sem]⟩
  case round =>
    obtain ⟨k, hk, rfl, rfl, rfl, hB, hz, q0, q1⟩ := hrel
    have hnn : (0 : Int) ≤ k := by omega
    have hfl := feet_le (pns (ps.take k)) lo hi
    simp only [pns_len, List.length_take] at hfl
    by_cases hlt : k < ps.length
    · have i1 : (k : Int) < (ps.length : Int) := by omega
      obtain ⟨b, o, rfl, _, d0, d1, d2, d3, d4, d5, d6, d7⟩ := (hp.below hB).get hlt
      have ht : pns (ps.take (k + 1)) = pns (ps.take k) ++ [(ps.getD k default).n] := by rw [take_get hlt]; simp [pns]
      have Hf := Lib.hid (show feet (pns (ps.take (k + 1))) lo hi = _ by rw [ht, feet_snoc])
      have Hs := Lib.hid (show some1 (pns (ps.take (k + 1))) lo hi = _ by rw [ht, some1_snoc])
      clear ht
      generalize ps.getD k default = p at *
      have hin : inB lo hi p.n = (decide (lo ≤ p.lo) && decide (p.hi ≤ hi)) := rfl
      have hft : p.n.ft = p.ft := rfl
      rw [hin] at Hf Hs
      rw [hft] at Hf
      clear hin hft
      generalize feet (pns (ps.take k)) lo hi = F at *
      generalize some1 (pns (ps.take k)) lo hi = S at *
      cases e1 : decide (lo ≤ p.lo)
      · rw [e1] at Hf Hs
        go_wp2_with fail
        go_quiet (fail)
        go_wp2
        go_roundw
        case rel => exact ⟨k + 1, by omega, by go_num, by rw [Hf.out]; simp, by rw [Hs.out]; simp, belowN hB, by simpa using hz, q0, q1⟩
        case measure => simp [RowKit.intOf]; omega
      · cases e2 : decide (p.hi ≤ hi)
        · rw [e1, e2] at Hf Hs
          go_wp2_with fail
          go_quiet (fail)
          go_wp2
          go_roundw
          case rel => exact ⟨k + 1, by omega, by go_num, by rw [Hf.out]; simp, by rw [Hs.out]; simp, belowN hB, by simpa using hz, q0, q1⟩
          case measure => simp [RowKit.intOf]; omega
        · rw [e1, e2] at Hf Hs
          cases e3 : p.ft
          · rw [e3] at Hf d5
            go_wp2_with fail
            go_quiet (fail)
            go_wp2
            go_roundw
            case rel => exact ⟨k + 1, by omega, by go_num, by rw [Hf.out]; simp, by rw [Hs.out]; simp, belowN hB, by simpa using hz, q0, q1⟩
            case measure => simp [RowKit.intOf]; omega
          · rw [e3] at Hf d5
            go_wp2_with fail
            go_quiet (fail)
            go_wp2
            go_roundw
            case rel => exact ⟨k + 1, by omega, by go_num, by rw [Hf.out]; simp, by rw [Hs.out]; simp, belowN hB, by simpa using hz, q0, q1⟩
            case measure => simp [RowKit.intOf]; omega
    · rw [List.take_of_length_le (by omega)] at *
      generalize feet (pns ps) lo hi = F at *
      generalize some1 (pns ps) lo hi = S at *
      have hmx : (if (F : Int) < (S : Int) then (S : Int) else (F : Int)) = (D : Int) := by rw [Hd.out]; split <;> omega
      have hmx2 : (if F < S then (S : Int) else (F : Int)) = (D : Int) := by rw [Hd.out]; split <;> omega
      go_wp2_with fail
      go_ret
      exact ⟨rfl, hB⟩
def Cs.dem (c : Cs) (lo hi : Int) : Int := if c.chk = 0 then (YtodkbfbbpfghiaaGreat.dem c.s lo hi : Int) else 0
theorem r6Demand (c : Cs) (lo hi : Int) (w : World) (hc : CsAt w c) :
    Calls Tryz.prog 22 #[c.v, .agg #[.int .i64 lo, .int .i64 hi]] w fun e w' => e = .returned (.tuple #[.int .i64 (c.dem lo hi), .int .i64 c.chk]) ∧ Below w.heap.size w w' := by
  have hC := fun w1 (h : CsAt w1 c) => r6chk c w1 h
  have hD := fun w1 (h : CsAt w1 c) => r6demand c.a _ c.cap c.ps lo hi w1 h.ps
  have hr : c.dem lo hi = if c.chk = 0 then (YtodkbfbbpfghiaaGreat.dem (pns c.ps) lo hi : Int) else 0 := rfl
  generalize c.dem lo hi = R at *
  generalize YtodkbfbbpfghiaaGreat.dem (pns c.ps) lo hi = D at *
  generalize c.chk = E at *
  obtain ⟨ware, lim, byr, a, cap, ps⟩ := c
  simp only [Cs.v] at *
  have hB2 : Below w.heap.size w ((w.alloc (Obj.cells #[.string ware, .int .i64 lim, .int .i64 byr, .slice a ps.length cap] 24)).alloc (Obj.cells #[.int .i64 lo, .int .i64 hi] 33)) := by ((repeat (first | assumption | exact Below.refl _ _ | refine Below.alloc ?_ ?_ _ | refine Below.setCell ?_ ?_ _ | refine Below.drew ?_ | refine belowN ?_ | refine Below.up ?_ (by assumption) ?_)) <;> (first | assumption | omega | (simp; done) | (simp; omega)))
  have hbx := hc.below hB2
  by_cases h0 : E = 0
  · subst h0
    rw [if_pos rfl] at hr
    subst hr
    go_enter Tryz.func22, Tryz.ntmps22
    go_wp2_with (first
      | (go_at_call 59; refine (hC _ hbx).mono ?_; rintro e w1 ⟨rfl, hb1⟩; obtain ⟨hc1, hf1⟩ := bcell hb1; have hz1 := lt_size hb1 (b := w.heap.size) (by first | assumption | omega | (simp; done) | (simp; omega)); have hz2 := lt_size hb1 (b := w.heap.size + 1) (by first | assumption | omega | (simp; done) | (simp; omega)); have hby := hbx.below hb1)
      | (go_at_call 77; refine (hD _ hby).mono ?_; rintro e w2 ⟨rfl, hb2⟩))
    go_ret2
    exact ⟨rfl, (hB2.ch2 hb1).ch2 hb2⟩
  · have h2 : (E != 0) = true := by simpa using h0
    rw [if_neg h0] at hr
    subst hr
    clear h0
    go_enter Tryz.func22, Tryz.ntmps22
    go_wp2_with (go_at_call 59; refine (hC _ hbx).mono ?_; rintro e w1 ⟨rfl, hb1⟩)
    go_ret2
    exact ⟨rfl, hB2.ch2 hb1⟩
theorem insI_before : ∀ {l : List Int} {x : Int}, Asc l → insI x l = if before l x < l.length ∧ l.getD (before l x) 0 = x then l else l.take (before l x) ++ x :: l.drop (before l x)
  | [], x, _ => by simp [insI, before]
  | y :: l, x, h => by
    have h1 := List.pairwise_cons.1 h
    have ih := insI_before (l := l) (x := x) h1.2
    rcases (by omega : y < x ∨ y = x ∨ x < y) with hy | hy | hy
    · have e : before (y :: l) x = before l x + 1 := by simp [before, hy]
      rw [e]
      unfold insI
      rw [if_pos hy, ih]
      simp only [List.length_cons, List.getD_cons_succ, List.take_succ_cons, List.drop_succ_cons, List.cons_append, Nat.add_lt_add_iff_right]
      split <;> rfl
    · subst hy
      have e : before (y :: l) y = 0 := by
        unfold before
        rw [List.countP_eq_zero]
        intro z hz
        rcases List.mem_cons.1 hz with rfl | hz
        · simp
        · have := h1.1 z hz; simp; omega
      rw [e]
      unfold insI
      rw [if_neg (by omega), if_pos rfl]
      simp
    · have e : before (y :: l) x = 0 := by
        unfold before
        rw [List.countP_eq_zero]
        intro z hz
        rcases List.mem_cons.1 hz with rfl | hz
        · simp; omega
        · have := h1.1 z hz; simp; omega
      rw [e]
      unfold insI
      rw [if_neg (by omega), if_neg (by omega)]
      simp; omega
theorem insI_len (x : Int) (l : List Int) : (insI x l).length ≤ l.length + 1 := by
  induction l with
  | nil => simp [insI]
  | cons y l ih =>
    unfold insI
    split
    · simp; omega
    · split <;> simp
def uniN (l : List Int) (k : Nat) : List Int := ascOf (l.take k)
theorem uniN_asc (l : List Int) (k : Nat) : Asc (uniN l k) := ascOf_asc _
theorem uniN_succ {l : List Int} {k : Nat} (hk : k < l.length) : uniN l (k + 1) = insI (l.getD k 0) (uniN l k) := by
  unfold uniN ascOf
  rw [take_get hk, List.foldl_append]
  rfl
theorem uniN_len (l : List Int) (k : Nat) : (uniN l k).length ≤ k := by
  induction k with
  | zero => simp [uniN, ascOf]
  | succ k ih =>
    rcases Nat.lt_or_ge k l.length with h | h
    · rw [uniN_succ h]
      have := insI_len (l.getD k 0) (uniN l k)
      omega
    · have : uniN l (k + 1) = uniN l k := by
        unfold uniN
        rw [List.take_of_length_le (by omega), List.take_of_length_le (by omega)]
      rw [this]; omega
theorem uniN_all (l : List Int) : uniN l l.length = ascOf l := by unfold uniN; rw [List.take_length]
theorem app_get {a b : List Int} {k : Nat} : (a ++ b).getD k 0 = if k < a.length then a.getD k 0 else b.getD (k - a.length) 0 := by
  simp only [List.getD_eq_getElem?_getD]
  split
  · rename_i h; rw [List.getElem?_append_left h]
  · rename_i h; rw [List.getElem?_append_right (by omega)]

/-- The first of a row; what is behind them. -/
theorem rowTake {w : World} {a : Option Addr} {cap : Nat} {vs : List Value} (h : RowAt w a cap vs) (i : Nat) (c2 : Nat) (hc : a = none → c2 = 0) : RowAt w a c2 (vs.take i) := by
  refine ⟨fun h0 => ?_, fun x hx => ?_⟩
  · obtain ⟨h1, h2⟩ := h.nil h0
    subst h1
    exact ⟨by simp, hc h0⟩
  · obtain ⟨h1, h2, h3⟩ := h.at_ x hx
    refine ⟨h1, h2, fun j u hj => h3 j u ?_⟩
    have hl : j < (vs.take i).length := (List.getElem?_eq_some_iff.1 hj).1
    rw [List.getElem?_take_of_lt (by simp at hl; omega)] at hj
    exact hj
theorem rowDrop {w : World} {b off cap : Nat} {vs : List Value} (h : RowAt w (some ⟨b, off, none⟩) cap vs) (i : Nat) {a2 : Option Addr} {c2 : Nat} (ha : a2 = some ⟨b, off + i, none⟩ ∨ (vs.length ≤ i ∧ ∃ o2, a2 = some ⟨b, o2, none⟩)) : RowAt w a2 c2 (vs.drop i) := by
  obtain ⟨_, h2, h3⟩ := h.at_ _ rfl
  rcases ha with rfl | ⟨hl, o2, rfl⟩
  · refine ⟨fun h => (by cases h), fun x hx => ?_⟩
    obtain rfl := Option.some.inj hx
    refine ⟨rfl, h2, fun j u hj => ?_⟩
    have := h3 (i + j) u (by simpa [List.getElem?_drop] using hj)
    simpa [Nat.add_assoc] using this
  · rw [List.drop_eq_nil_of_le hl]
    refine ⟨fun h => (by cases h), fun x hx => ?_⟩
    obtain rfl := Option.some.inj hx
    exact ⟨rfl, h2, fun j u hj => by simp at hj⟩
theorem owns_cap {w : World} {base : Nat} {e : TypeId} {size n cap : Nat} {x : Addr} {xs : List Value} (h : w.ownsRow base e size (.slice (some x) n cap) n xs) : n ≤ cap ∧ x.off = 0 ∧ x.spot = none := by
  obtain ⟨_, ⟨hv, _⟩ | ⟨g, cap', cur, hv, hb, hg, hn, _⟩⟩ := h
  · simp at hv
  · simp at hv
    obtain ⟨rfl, rfl⟩ := hv
    exact ⟨hn, rfl, rfl⟩
theorem r6union (a1 : Option Addr) (n1 c1 : Nat) (xs : List Int) (a2 : Option Addr) (n2 c2 : Nat) (ys : List Int) (w : World) (hx : LAt w a1 n1 c1 xs) (hy : LAt w a2 n2 c2 ys) (h1 : xs.length ≤ 1000) (h2 : ys.length ≤ 1000) :
    Calls Tryz.prog 142 #[.slice a1 n1 c1, .slice a2 n2 c2] w fun e w' => ∃ v, e = .returned v ∧ Below w.heap.size w w' ∧ w'.ownsRow w.heap.size 3 1 v (ascOf (xs ++ ys)).length ((ascOf (xs ++ ys)).map (.int .i64)) := by
  obtain rfl := hx.len
  obtain rfl := hy.len
  obtain ⟨T, hT⟩ : ∃ T, ascOf (xs ++ ys) = T := ⟨_, rfl⟩
  have hT' := (uniN_all (xs ++ ys)).trans hT
  have HT := Lib.hid hT'
  rw [hT]
  clear hT hT'
  have hwl : IntKind.i64.wrap ((xs.length : Int) + (ys.length : Int)) = (xs.length : Int) + ys.length := IntWalk.i64_in _ (by omega)
  go_enter Tryz.func142, Tryz.ntmps142
  go_wp2_with fail
  go_loopw [5, 6] (fun o i wr => ∃ k : Nat, k ≤ xs.length + ys.length ∧ i = .int .i64 k ∧ Below w.heap.size w wr ∧ wr.ownsRow w.heap.size 3 1 o (uniN (xs ++ ys) k).length ((uniN (xs ++ ys) k).map (.int .i64))) (fun _ i _ => xs.length + ys.length - (RowKit.intOf i).toNat)
  case atStart => exact ⟨0, Nat.zero_le _, rfl, Below.refl _ _, World.ownsRow_nil _ _ _ _⟩
  case round =>
    rename Value => v
    obtain ⟨k, hk, rfl, hB, hown⟩ := hrel
    have hnn : (0 : Int) ≤ k := by omega
    obtain ⟨va, vc, rfl, hva⟩ := owns_slice hown
    have hul := uniN_len (xs ++ ys) k
    by_cases hlt : k < xs.length + ys.length
    · have i0 : (k : Int) < (xs.length : Int) + (ys.length : Int) := by omega
      have hlt' : k < (xs ++ ys).length := by simp; omega
      have Hsu := Lib.hid (uniN_succ hlt')
      have Hasc := Lib.hid (uniN_asc (xs ++ ys) k)
      have hgt := @app_get xs ys k
      generalize uniN (xs ++ ys) k = U at *
      by_cases hlx : k < xs.length
      · obtain ⟨b, o, rfl, hbl, d0⟩ := (hx.below hB).get hlx
        have i1 : (k : Int) < (xs.length : Int) := by omega
        rw [if_pos hlx] at hgt
        rw [hgt] at Hsu
        clear hgt hwl
        generalize xs.getD k 0 = x at *
        go_wp2_with fail
        go_loop [8] (fun i => ∃ q : Nat, q ≤ before U x ∧ i = .int .i64 q) (fun i => U.length - (RowKit.intOf i).toNat)
        case atStart => exact ⟨0, Nat.zero_le _, rfl⟩
        case round =>
          obtain ⟨q, hq, rfl⟩ := hrel
          have hqn : (0 : Int) ≤ q := by omega
          have hble := before_le U x
          by_cases hql : q < U.length
          · have q1 : (q : Int) < (U.length : Int) := by omega
            obtain ⟨g, o8, hvg, hgl, e0⟩ := (IntsAt.of_owns hown (by omega)).get hql
            subst hvg
            have hbi := @before_iff U x q Hasc.out.le hql
            obtain ⟨u, hu⟩ : ∃ u, U.getD q 0 = u := ⟨_, rfl⟩
            rw [hu] at e0 hbi
            have Hu := Lib.hid hu
            clear hu
            cases hux : decide (u < x)
            · have hqe : q = before U x := by
                have : ¬ u < x := by simpa using hux
                omega
              have Hqe := Lib.hid hqe
              clear hqe
              cases heq : (u == x)
              · obtain ⟨hcap, ho8, _⟩ := owns_cap hown
                simp only at ho8
                subst ho8
                rw [Nat.zero_add] at e0
                have hvq : ¬ (vc = q) := by omega
                have HI := Lib.hid (show insI x U = U.take q ++ [x] ++ U.drop q by
                  rw [insI_before Hasc.out, if_neg (by rw [← Hqe.out]; exact (fun h => by have := h.2; rw [Hu.out] at this; simp [this] at heq)), ← Hqe.out]; simp)
                have hrt : RowAt wr (some ⟨g, 0, none⟩) vc ((U.take q).map (.int .i64)) := by rw [List.map_take]; exact rowTake (RowAt.of_owns hown) q vc (fun h => by cases h)
                have hlen1 : (U.take q).length = q := by simp; omega
                have hlen2 : (U.drop q).length = U.length - q := by simp
                have Hl1 := Lib.hid hlen1
                have Hl2 := Lib.hid hlen2
                clear hlen1 hlen2
                go_wp2_with (first
                  | (at_builtin; have hg := ho2; clear hg; have hdr : RowAt w3 (some ⟨g, q, none⟩) (vc - q) ((U.drop q).map (.int .i64)) := (by rw [List.map_drop]; exact (rowDrop ((RowAt.of_owns hown).below ((hb1.alloc hb1.size _).trans hb2)) q (.inl (by simp)))); refine wpList_app elemI rfl _ _ rfl ho2 rfl rfl hdr (by rw [List.length_map, Hl2.out]; omega) (ones_int _) (by unfold maxLen; omega) (by omega) (by have h1 := hb1.size; have h2 := hb2.size; simp only [World.size_alloc] at h2; omega) ?_)
                  | (at_builtin; have hg := ho1; clear hg; refine wpList_app elemI rfl _ _ rfl (ho1.up (one_alloc w2 (Obj.cells #[.int .i64 x] 3)) (Nat.le_refl _)) rfl rfl (RowAt.of_heap (World.alloc_heap_new w2 _)) rfl (ones_int [x]) (by unfold maxLen; omega) (by omega) (by have := hb1.size; simp; omega) ?_; intro v2 w3 ho2 hg2 hb2 _ _; obtain ⟨sa2, sc2, rfl, _⟩ := owns_slice ho2)
                  | (at_builtin; refine wpList_app elemI rfl _ _ rfl (World.ownsRow_nil wr wr.heap.size _ _) rfl rfl hrt (by rw [List.length_map, Hl1.out]; omega) (ones_int _) (by unfold maxLen; omega) (by omega) (Nat.le_refl _) ?_; intro v1 w2 ho1 hg1 hb1 _ _; rw [Nat.zero_add, List.nil_append] at ho1; obtain ⟨sa1, sc1, rfl, _⟩ := owns_slice ho1))
                intro v3 w4 ho3 hg3 hb3 _ _
                go_wp2
                go_roundw
                case rel => exact ⟨k + 1, by omega, by go_num, hB.trans ((((hb1.alloc hb1.size _).trans hb2).trans hb3).mono hB.size), by
                  rw [Hsu.out, HI.out]
                  have hh := SL.row_base ho3 (show w.heap.size ≤ wr.heap.size from hB.size)
                  have e : (q + 1 + (U.length - q)) = (U.take q ++ [x] ++ U.drop q).length := by rw [List.length_append, List.length_append, Hl1.out, Hl2.out]; (first | rfl | (have := HqU.out; simp; omega))
                  rw [List.map_append, List.map_append, ← e, List.map_take, List.map_drop]
                  simpa only [List.map_cons, List.map_nil, List.append_assoc, List.cons_append, List.nil_append] using hh⟩
                case measure => simp [RowKit.intOf]; omega
              · go_wp2_with fail
                go_roundw
                case rel => exact ⟨k + 1, by omega, by go_num, hB, by rw [Hsu.out, insI_before Hasc.out, if_pos (by rw [← Hqe.out]; exact ⟨hql, by rw [Hu.out]; simpa using heq⟩)]; exact hown⟩
                case measure => simp [RowKit.intOf]; omega
            · have hqb : q < before U x := hbi.2 (by simpa using hux)
              have Hqb := Lib.hid hqb
              clear hqb hbi
              go_wp2_with fail
              go_round
              case rel => exact ⟨q + 1, by have := Hqb.out; omega, by go_num⟩
              case measure => simp [RowKit.intOf]; omega
          · have hqe : q = before U x := by omega
            have Hqe := Lib.hid hqe
            have hqU : q = U.length := by omega
            clear hqe
            have hqd : decide ((q : Int) < (U.length : Int)) = false := by simp; omega
            have hqd2 : decide (q < U.length) = false := by simp; omega
            have HqU := Lib.hid hqU
            clear hqU
            rcases va with _ | ⟨g, o8, gs⟩
            · have hU0 : U = [] ∧ vc = 0 := by
                obtain ⟨hl, ⟨hv, hn⟩ | ⟨g, cap', cur, hv, _⟩⟩ := hown
                · simp at hv; exact hv
                · simp at hv
              obtain ⟨hUn, hvc⟩ := hU0
              subst hvc
              subst hUn
              have hq0 : q = 0 := by have := HqU.out; simpa using this
              subst hq0
              clear hbl hqd hqd2 hble hq hqn hva
              go_wp2_with (first
                | (at_builtin; have hg := ho2; clear hg; refine wpList_app elemI rfl _ _ rfl ho2 rfl rfl (RowAt.nilAt _) rfl (by simp) (by unfold maxLen; omega) (by omega) (by have h1 := hb1.size; have h2 := hb2.size; simp only [World.size_alloc] at h2; omega) ?_)
                | (at_builtin; have hg := ho1; clear hg; refine wpList_app elemI rfl _ _ rfl (ho1.up (one_alloc w2 (Obj.cells #[.int .i64 x] 3)) (Nat.le_refl _)) rfl rfl (RowAt.of_heap (World.alloc_heap_new w2 _)) rfl (ones_int [x]) (by unfold maxLen; omega) (by omega) (by have := hb1.size; simp; omega) ?_; intro v2 w3 ho2 hg2 hb2 _ _; obtain ⟨sa2, sc2, rfl, _⟩ := owns_slice ho2)
                | (at_builtin; refine wpList_app elemI rfl _ _ rfl (World.ownsRow_nil wr wr.heap.size _ _) rfl rfl (RowAt.nilAt _) rfl (by simp) (by unfold maxLen; omega) (by omega) (Nat.le_refl _) ?_; intro v1 w2 ho1 hg1 hb1 hn1 _; obtain rfl := hn1.2 ⟨rfl, rfl⟩; clear hn1))
              intro v3 w4 ho3 hg3 hb3 _ _
              go_wp2
              go_roundw
              case rel => exact ⟨k + 1, by omega, by go_num, hB.trans ((((hb1.alloc hb1.size _).trans hb2).trans hb3).mono hB.size), by
                rw [Hsu.out]
                have hh := SL.row_base ho3 (show w.heap.size ≤ wr.heap.size from hB.size)
                exact hh⟩
              case measure => simp [RowKit.intOf]; omega
            · obtain ⟨hcap, ho8, hgs⟩ := owns_cap hown
              simp only at ho8 hgs
              subst ho8
              subst hgs
              by_cases hvq : vc = q
              · have hvq' := hvq.symm
                subst hvq'
                have HI := Lib.hid (show insI x U = U.take q ++ [x] ++ U.drop q by
                  rw [insI_before Hasc.out, if_neg (by rw [← Hqe.out]; exact (fun h => by omega)), ← Hqe.out]; simp)
                have hrt : RowAt wr (some ⟨g, 0, none⟩) q ((U.take q).map (.int .i64)) := by rw [List.map_take]; exact rowTake (RowAt.of_owns hown) q q (fun h => by cases h)
                have hlen1 : (U.take q).length = q := by simp; omega
                have hlen2 : (U.drop q).length = U.length - q := by simp
                have Hl1 := Lib.hid hlen1
                have Hl2 := Lib.hid hlen2
                clear hlen1 hlen2
                go_wp2_with (first
                  | (at_builtin; have hg := ho2; clear hg; have hdr : RowAt w3 (some ⟨g, 0, none⟩) 0 ((U.drop q).map (.int .i64)) := (by rw [List.map_drop]; exact (rowDrop ((RowAt.of_owns hown).below ((hb1.alloc hb1.size _).trans hb2)) _ (.inr ⟨by rw [List.length_map, HqU.out]; exact Nat.le_refl _, 0, rfl⟩))); refine wpList_app elemI rfl _ _ rfl ho2 rfl rfl hdr (by rw [List.length_map, Hl2.out]; omega) (ones_int _) (by unfold maxLen; omega) (by omega) (by have h1 := hb1.size; have h2 := hb2.size; simp only [World.size_alloc] at h2; omega) ?_)
                  | (at_builtin; have hg := ho1; clear hg; refine wpList_app elemI rfl _ _ rfl (ho1.up (one_alloc w2 (Obj.cells #[.int .i64 x] 3)) (Nat.le_refl _)) rfl rfl (RowAt.of_heap (World.alloc_heap_new w2 _)) rfl (ones_int [x]) (by unfold maxLen; omega) (by omega) (by have := hb1.size; simp; omega) ?_; intro v2 w3 ho2 hg2 hb2 _ _; obtain ⟨sa2, sc2, rfl, _⟩ := owns_slice ho2)
                  | (at_builtin; refine wpList_app elemI rfl _ _ rfl (World.ownsRow_nil wr wr.heap.size _ _) rfl rfl hrt (by rw [List.length_map, Hl1.out]; omega) (ones_int _) (by unfold maxLen; omega) (by omega) (Nat.le_refl _) ?_; intro v1 w2 ho1 hg1 hb1 _ _; rw [Nat.zero_add, List.nil_append] at ho1; obtain ⟨sa1, sc1, rfl, _⟩ := owns_slice ho1))
                intro v3 w4 ho3 hg3 hb3 _ _
                go_wp2
                go_roundw
                case rel => exact ⟨k + 1, by omega, by go_num, hB.trans ((((hb1.alloc hb1.size _).trans hb2).trans hb3).mono hB.size), by
                  rw [Hsu.out, HI.out]
                  have hh := SL.row_base ho3 (show w.heap.size ≤ wr.heap.size from hB.size)
                  have e : (q + 1) = (U.take q ++ [x] ++ U.drop q).length := by rw [List.length_append, List.length_append, Hl1.out, Hl2.out]; (first | rfl | (have := HqU.out; simp; omega))
                  rw [List.map_append, List.map_append, ← e, List.map_take, List.map_drop]
                  simpa only [List.map_cons, List.map_nil, List.append_assoc, List.cons_append, List.nil_append] using hh⟩
                case measure => simp [RowKit.intOf]; omega
              · have HI := Lib.hid (show insI x U = U.take q ++ [x] ++ U.drop q by
                  rw [insI_before Hasc.out, if_neg (by rw [← Hqe.out]; exact (fun h => by omega)), ← Hqe.out]; simp)
                have hrt : RowAt wr (some ⟨g, 0, none⟩) vc ((U.take q).map (.int .i64)) := by rw [List.map_take]; exact rowTake (RowAt.of_owns hown) q vc (fun h => by cases h)
                have hlen1 : (U.take q).length = q := by simp; omega
                have hlen2 : (U.drop q).length = U.length - q := by simp
                have Hl1 := Lib.hid hlen1
                have Hl2 := Lib.hid hlen2
                clear hlen1 hlen2
                go_wp2_with (first
                  | (at_builtin; have hg := ho2; clear hg; have hdr : RowAt w3 (some ⟨g, q, none⟩) (vc - q) ((U.drop q).map (.int .i64)) := (by rw [List.map_drop]; exact (rowDrop ((RowAt.of_owns hown).below ((hb1.alloc hb1.size _).trans hb2)) q (.inl (by simp)))); refine wpList_app elemI rfl _ _ rfl ho2 rfl rfl hdr (by rw [List.length_map, Hl2.out]; omega) (ones_int _) (by unfold maxLen; omega) (by omega) (by have h1 := hb1.size; have h2 := hb2.size; simp only [World.size_alloc] at h2; omega) ?_)
                  | (at_builtin; have hg := ho1; clear hg; refine wpList_app elemI rfl _ _ rfl (ho1.up (one_alloc w2 (Obj.cells #[.int .i64 x] 3)) (Nat.le_refl _)) rfl rfl (RowAt.of_heap (World.alloc_heap_new w2 _)) rfl (ones_int [x]) (by unfold maxLen; omega) (by omega) (by have := hb1.size; simp; omega) ?_; intro v2 w3 ho2 hg2 hb2 _ _; obtain ⟨sa2, sc2, rfl, _⟩ := owns_slice ho2)
                  | (at_builtin; refine wpList_app elemI rfl _ _ rfl (World.ownsRow_nil wr wr.heap.size _ _) rfl rfl hrt (by rw [List.length_map, Hl1.out]; omega) (ones_int _) (by unfold maxLen; omega) (by omega) (Nat.le_refl _) ?_; intro v1 w2 ho1 hg1 hb1 _ _; rw [Nat.zero_add, List.nil_append] at ho1; obtain ⟨sa1, sc1, rfl, _⟩ := owns_slice ho1))
                intro v3 w4 ho3 hg3 hb3 _ _
                go_wp2
                go_roundw
                case rel => exact ⟨k + 1, by omega, by go_num, hB.trans ((((hb1.alloc hb1.size _).trans hb2).trans hb3).mono hB.size), by
                  rw [Hsu.out, HI.out]
                  have hh := SL.row_base ho3 (show w.heap.size ≤ wr.heap.size from hB.size)
                  have e : (q + 1 + (U.length - q)) = (U.take q ++ [x] ++ U.drop q).length := by rw [List.length_append, List.length_append, Hl1.out, Hl2.out]; (first | rfl | (have := HqU.out; simp; omega))
                  rw [List.map_append, List.map_append, ← e, List.map_take, List.map_drop]
                  simpa only [List.map_cons, List.map_nil, List.append_assoc, List.cons_append, List.nil_append] using hh⟩
                case measure => simp [RowKit.intOf]; omega
      · obtain ⟨b, o, rfl, hbl, d0⟩ := (hy.below hB).get (i := k - xs.length) (by omega)
        rw [if_neg hlx] at hgt
        rw [hgt] at Hsu
        clear hgt hwl
        have i1 : decide ((k : Int) < (xs.length : Int)) = false := by simp; omega
        have i2 : decide (k < xs.length) = false := by simp; omega
        have e1 : (k : Int) - (xs.length : Int) = ((k - xs.length : Nat) : Int) := by omega
        have i3 : ((k - xs.length : Nat) : Int) < (ys.length : Int) := by omega
        have i4 : (0 : Int) ≤ ((k - xs.length : Nat) : Int) := by omega
        have i5 : k - xs.length < ys.length := by omega
        generalize ys.getD (k - xs.length) 0 = x at *
        go_wp2_with fail
        go_loop [8] (fun i => ∃ q : Nat, q ≤ before U x ∧ i = .int .i64 q) (fun i => U.length - (RowKit.intOf i).toNat)
        case atStart => exact ⟨0, Nat.zero_le _, rfl⟩
        case round =>
          obtain ⟨q, hq, rfl⟩ := hrel
          have hqn : (0 : Int) ≤ q := by omega
          have hble := before_le U x
          by_cases hql : q < U.length
          · have q1 : (q : Int) < (U.length : Int) := by omega
            obtain ⟨g, o8, hvg, hgl, e0⟩ := (IntsAt.of_owns hown (by omega)).get hql
            subst hvg
            have hbi := @before_iff U x q Hasc.out.le hql
            obtain ⟨u, hu⟩ : ∃ u, U.getD q 0 = u := ⟨_, rfl⟩
            rw [hu] at e0 hbi
            have Hu := Lib.hid hu
            clear hu
            cases hux : decide (u < x)
            · have hqe : q = before U x := by
                have : ¬ u < x := by simpa using hux
                omega
              have Hqe := Lib.hid hqe
              clear hqe
              cases heq : (u == x)
              · obtain ⟨hcap, ho8, _⟩ := owns_cap hown
                simp only at ho8
                subst ho8
                rw [Nat.zero_add] at e0
                have hvq : ¬ (vc = q) := by omega
                have HI := Lib.hid (show insI x U = U.take q ++ [x] ++ U.drop q by
                  rw [insI_before Hasc.out, if_neg (by rw [← Hqe.out]; exact (fun h => by have := h.2; rw [Hu.out] at this; simp [this] at heq)), ← Hqe.out]; simp)
                have hrt : RowAt wr (some ⟨g, 0, none⟩) vc ((U.take q).map (.int .i64)) := by rw [List.map_take]; exact rowTake (RowAt.of_owns hown) q vc (fun h => by cases h)
                have hlen1 : (U.take q).length = q := by simp; omega
                have hlen2 : (U.drop q).length = U.length - q := by simp
                have Hl1 := Lib.hid hlen1
                have Hl2 := Lib.hid hlen2
                clear hlen1 hlen2
                go_wp2_with (first
                  | (at_builtin; have hg := ho2; clear hg; have hdr : RowAt w3 (some ⟨g, q, none⟩) (vc - q) ((U.drop q).map (.int .i64)) := (by rw [List.map_drop]; exact (rowDrop ((RowAt.of_owns hown).below ((hb1.alloc hb1.size _).trans hb2)) q (.inl (by simp)))); refine wpList_app elemI rfl _ _ rfl ho2 rfl rfl hdr (by rw [List.length_map, Hl2.out]; omega) (ones_int _) (by unfold maxLen; omega) (by omega) (by have h1 := hb1.size; have h2 := hb2.size; simp only [World.size_alloc] at h2; omega) ?_)
                  | (at_builtin; have hg := ho1; clear hg; refine wpList_app elemI rfl _ _ rfl (ho1.up (one_alloc w2 (Obj.cells #[.int .i64 x] 3)) (Nat.le_refl _)) rfl rfl (RowAt.of_heap (World.alloc_heap_new w2 _)) rfl (ones_int [x]) (by unfold maxLen; omega) (by omega) (by have := hb1.size; simp; omega) ?_; intro v2 w3 ho2 hg2 hb2 _ _; obtain ⟨sa2, sc2, rfl, _⟩ := owns_slice ho2)
                  | (at_builtin; refine wpList_app elemI rfl _ _ rfl (World.ownsRow_nil wr wr.heap.size _ _) rfl rfl hrt (by rw [List.length_map, Hl1.out]; omega) (ones_int _) (by unfold maxLen; omega) (by omega) (Nat.le_refl _) ?_; intro v1 w2 ho1 hg1 hb1 _ _; rw [Nat.zero_add, List.nil_append] at ho1; obtain ⟨sa1, sc1, rfl, _⟩ := owns_slice ho1))
                intro v3 w4 ho3 hg3 hb3 _ _
                go_wp2
                go_roundw
                case rel => exact ⟨k + 1, by omega, by go_num, hB.trans ((((hb1.alloc hb1.size _).trans hb2).trans hb3).mono hB.size), by
                  rw [Hsu.out, HI.out]
                  have hh := SL.row_base ho3 (show w.heap.size ≤ wr.heap.size from hB.size)
                  have e : (q + 1 + (U.length - q)) = (U.take q ++ [x] ++ U.drop q).length := by rw [List.length_append, List.length_append, Hl1.out, Hl2.out]; (first | rfl | (have := HqU.out; simp; omega))
                  rw [List.map_append, List.map_append, ← e, List.map_take, List.map_drop]
                  simpa only [List.map_cons, List.map_nil, List.append_assoc, List.cons_append, List.nil_append] using hh⟩
                case measure => simp [RowKit.intOf]; omega
              · go_wp2_with fail
                go_roundw
                case rel => exact ⟨k + 1, by omega, by go_num, hB, by rw [Hsu.out, insI_before Hasc.out, if_pos (by rw [← Hqe.out]; exact ⟨hql, by rw [Hu.out]; simpa using heq⟩)]; exact hown⟩
                case measure => simp [RowKit.intOf]; omega
            · have hqb : q < before U x := hbi.2 (by simpa using hux)
              have Hqb := Lib.hid hqb
              clear hqb hbi
              go_wp2_with fail
              go_round
              case rel => exact ⟨q + 1, by have := Hqb.out; omega, by go_num⟩
              case measure => simp [RowKit.intOf]; omega
          · have hqe : q = before U x := by omega
            have Hqe := Lib.hid hqe
            have hqU : q = U.length := by omega
            clear hqe
            have hqd : decide ((q : Int) < (U.length : Int)) = false := by simp; omega
            have hqd2 : decide (q < U.length) = false := by simp; omega
            have HqU := Lib.hid hqU
            clear hqU
            rcases va with _ | ⟨g, o8, gs⟩
            · have hU0 : U = [] ∧ vc = 0 := by
                obtain ⟨hl, ⟨hv, hn⟩ | ⟨g, cap', cur, hv, _⟩⟩ := hown
                · simp at hv; exact hv
                · simp at hv
              obtain ⟨hUn, hvc⟩ := hU0
              subst hvc
              subst hUn
              have hq0 : q = 0 := by have := HqU.out; simpa using this
              subst hq0
              clear hbl hqd hqd2 hble hq hqn hva
              go_wp2_with (first
                | (at_builtin; have hg := ho2; clear hg; refine wpList_app elemI rfl _ _ rfl ho2 rfl rfl (RowAt.nilAt _) rfl (by simp) (by unfold maxLen; omega) (by omega) (by have h1 := hb1.size; have h2 := hb2.size; simp only [World.size_alloc] at h2; omega) ?_)
                | (at_builtin; have hg := ho1; clear hg; refine wpList_app elemI rfl _ _ rfl (ho1.up (one_alloc w2 (Obj.cells #[.int .i64 x] 3)) (Nat.le_refl _)) rfl rfl (RowAt.of_heap (World.alloc_heap_new w2 _)) rfl (ones_int [x]) (by unfold maxLen; omega) (by omega) (by have := hb1.size; simp; omega) ?_; intro v2 w3 ho2 hg2 hb2 _ _; obtain ⟨sa2, sc2, rfl, _⟩ := owns_slice ho2)
                | (at_builtin; refine wpList_app elemI rfl _ _ rfl (World.ownsRow_nil wr wr.heap.size _ _) rfl rfl (RowAt.nilAt _) rfl (by simp) (by unfold maxLen; omega) (by omega) (Nat.le_refl _) ?_; intro v1 w2 ho1 hg1 hb1 hn1 _; obtain rfl := hn1.2 ⟨rfl, rfl⟩; clear hn1))
              intro v3 w4 ho3 hg3 hb3 _ _
              go_wp2
              go_roundw
              case rel => exact ⟨k + 1, by omega, by go_num, hB.trans ((((hb1.alloc hb1.size _).trans hb2).trans hb3).mono hB.size), by
                rw [Hsu.out]
                have hh := SL.row_base ho3 (show w.heap.size ≤ wr.heap.size from hB.size)
                exact hh⟩
              case measure => simp [RowKit.intOf]; omega
            · obtain ⟨hcap, ho8, hgs⟩ := owns_cap hown
              simp only at ho8 hgs
              subst ho8
              subst hgs
              by_cases hvq : vc = q
              · have hvq' := hvq.symm
                subst hvq'
                have HI := Lib.hid (show insI x U = U.take q ++ [x] ++ U.drop q by
                  rw [insI_before Hasc.out, if_neg (by rw [← Hqe.out]; exact (fun h => by omega)), ← Hqe.out]; simp)
                have hrt : RowAt wr (some ⟨g, 0, none⟩) q ((U.take q).map (.int .i64)) := by rw [List.map_take]; exact rowTake (RowAt.of_owns hown) q q (fun h => by cases h)
                have hlen1 : (U.take q).length = q := by simp; omega
                have hlen2 : (U.drop q).length = U.length - q := by simp
                have Hl1 := Lib.hid hlen1
                have Hl2 := Lib.hid hlen2
                clear hlen1 hlen2
                go_wp2_with (first
                  | (at_builtin; have hg := ho2; clear hg; have hdr : RowAt w3 (some ⟨g, 0, none⟩) 0 ((U.drop q).map (.int .i64)) := (by rw [List.map_drop]; exact (rowDrop ((RowAt.of_owns hown).below ((hb1.alloc hb1.size _).trans hb2)) _ (.inr ⟨by rw [List.length_map, HqU.out]; exact Nat.le_refl _, 0, rfl⟩))); refine wpList_app elemI rfl _ _ rfl ho2 rfl rfl hdr (by rw [List.length_map, Hl2.out]; omega) (ones_int _) (by unfold maxLen; omega) (by omega) (by have h1 := hb1.size; have h2 := hb2.size; simp only [World.size_alloc] at h2; omega) ?_)
                  | (at_builtin; have hg := ho1; clear hg; refine wpList_app elemI rfl _ _ rfl (ho1.up (one_alloc w2 (Obj.cells #[.int .i64 x] 3)) (Nat.le_refl _)) rfl rfl (RowAt.of_heap (World.alloc_heap_new w2 _)) rfl (ones_int [x]) (by unfold maxLen; omega) (by omega) (by have := hb1.size; simp; omega) ?_; intro v2 w3 ho2 hg2 hb2 _ _; obtain ⟨sa2, sc2, rfl, _⟩ := owns_slice ho2)
                  | (at_builtin; refine wpList_app elemI rfl _ _ rfl (World.ownsRow_nil wr wr.heap.size _ _) rfl rfl hrt (by rw [List.length_map, Hl1.out]; omega) (ones_int _) (by unfold maxLen; omega) (by omega) (Nat.le_refl _) ?_; intro v1 w2 ho1 hg1 hb1 _ _; rw [Nat.zero_add, List.nil_append] at ho1; obtain ⟨sa1, sc1, rfl, _⟩ := owns_slice ho1))
                intro v3 w4 ho3 hg3 hb3 _ _
                go_wp2
                go_roundw
                case rel => exact ⟨k + 1, by omega, by go_num, hB.trans ((((hb1.alloc hb1.size _).trans hb2).trans hb3).mono hB.size), by
                  rw [Hsu.out, HI.out]
                  have hh := SL.row_base ho3 (show w.heap.size ≤ wr.heap.size from hB.size)
                  have e : (q + 1) = (U.take q ++ [x] ++ U.drop q).length := by rw [List.length_append, List.length_append, Hl1.out, Hl2.out]; (first | rfl | (have := HqU.out; simp; omega))
                  rw [List.map_append, List.map_append, ← e, List.map_take, List.map_drop]
                  simpa only [List.map_cons, List.map_nil, List.append_assoc, List.cons_append, List.nil_append] using hh⟩
                case measure => simp [RowKit.intOf]; omega
              · have HI := Lib.hid (show insI x U = U.take q ++ [x] ++ U.drop q by
                  rw [insI_before Hasc.out, if_neg (by rw [← Hqe.out]; exact (fun h => by omega)), ← Hqe.out]; simp)
                have hrt : RowAt wr (some ⟨g, 0, none⟩) vc ((U.take q).map (.int .i64)) := by rw [List.map_take]; exact rowTake (RowAt.of_owns hown) q vc (fun h => by cases h)
                have hlen1 : (U.take q).length = q := by simp; omega
                have hlen2 : (U.drop q).length = U.length - q := by simp
                have Hl1 := Lib.hid hlen1
                have Hl2 := Lib.hid hlen2
                clear hlen1 hlen2
                go_wp2_with (first
                  | (at_builtin; have hg := ho2; clear hg; have hdr : RowAt w3 (some ⟨g, q, none⟩) (vc - q) ((U.drop q).map (.int .i64)) := (by rw [List.map_drop]; exact (rowDrop ((RowAt.of_owns hown).below ((hb1.alloc hb1.size _).trans hb2)) q (.inl (by simp)))); refine wpList_app elemI rfl _ _ rfl ho2 rfl rfl hdr (by rw [List.length_map, Hl2.out]; omega) (ones_int _) (by unfold maxLen; omega) (by omega) (by have h1 := hb1.size; have h2 := hb2.size; simp only [World.size_alloc] at h2; omega) ?_)
                  | (at_builtin; have hg := ho1; clear hg; refine wpList_app elemI rfl _ _ rfl (ho1.up (one_alloc w2 (Obj.cells #[.int .i64 x] 3)) (Nat.le_refl _)) rfl rfl (RowAt.of_heap (World.alloc_heap_new w2 _)) rfl (ones_int [x]) (by unfold maxLen; omega) (by omega) (by have := hb1.size; simp; omega) ?_; intro v2 w3 ho2 hg2 hb2 _ _; obtain ⟨sa2, sc2, rfl, _⟩ := owns_slice ho2)
                  | (at_builtin; refine wpList_app elemI rfl _ _ rfl (World.ownsRow_nil wr wr.heap.size _ _) rfl rfl hrt (by rw [List.length_map, Hl1.out]; omega) (ones_int _) (by unfold maxLen; omega) (by omega) (Nat.le_refl _) ?_; intro v1 w2 ho1 hg1 hb1 _ _; rw [Nat.zero_add, List.nil_append] at ho1; obtain ⟨sa1, sc1, rfl, _⟩ := owns_slice ho1))
                intro v3 w4 ho3 hg3 hb3 _ _
                go_wp2
                go_roundw
                case rel => exact ⟨k + 1, by omega, by go_num, hB.trans ((((hb1.alloc hb1.size _).trans hb2).trans hb3).mono hB.size), by
                  rw [Hsu.out, HI.out]
                  have hh := SL.row_base ho3 (show w.heap.size ≤ wr.heap.size from hB.size)
                  have e : (q + 1 + (U.length - q)) = (U.take q ++ [x] ++ U.drop q).length := by rw [List.length_append, List.length_append, Hl1.out, Hl2.out]; (first | rfl | (have := HqU.out; simp; omega))
                  rw [List.map_append, List.map_append, ← e, List.map_take, List.map_drop]
                  simpa only [List.map_cons, List.map_nil, List.append_assoc, List.cons_append, List.nil_append] using hh⟩
                case measure => simp [RowKit.intOf]; omega
    · have hk2 : k = xs.length + ys.length := by omega
      have hl2 : (xs ++ ys).length = xs.length + ys.length := by simp
      have H2 := HT.out
      rw [hl2, ← hk2] at H2
      clear HT
      subst H2
      have i0 : decide ((k : Int) < (xs.length : Int) + (ys.length : Int)) = false := by simp; omega
      have Hk2 := Lib.hid hk2
      clear hk2 hl2
      go_wp2_with fail
      go_ret
      exact ⟨_, rfl, hB, hown⟩
theorem r6sameInts (a1 a2 : Option Addr) (n1 n2 c1 c2 : Nat) (xs : List Int) (w : World) (hx : LAt w a1 n1 c1 xs) (hy : LAt w a2 n2 c2 xs) :
    Calls Tryz.prog 30 #[.slice a1 n1 c1, .slice a2 n2 c2] w fun e w' => e = .returned (.bool true) ∧ Below w.heap.size w w' := by
  have hlx := hx.small
  obtain rfl := hx.len
  obtain rfl := hy.len
  go_enter Tryz.func30, Tryz.ntmps30
  go_wp2_with fail
  go_loopw [5] (fun i wr => ∃ k : Nat, k ≤ xs.length ∧ i = .int .i64 k ∧ Below w.heap.size w wr) (fun i _ => xs.length - (RowKit.intOf i).toNat)
  case atStart => exact ⟨0, Nat.zero_le _, rfl, Below.refl _ _⟩
  case round =>
    obtain ⟨k, hk, rfl, hB⟩ := hrel
    by_cases hlt : k < xs.length
    · obtain ⟨b1, o1, rfl, _, d0⟩ := (hx.below hB).get hlt
      obtain ⟨b2, o2, rfl, _, d1⟩ := (hy.below hB).get hlt
      have hnn : (0 : Int) ≤ k := by omega
      have i1 : (k : Int) < (xs.length : Int) := by omega
      generalize xs.getD k 0 = u at *
      have e' : (u != u) = false := by simp
      go_wp2_with fail
      go_quiet (fail)
      go_wp2
      go_roundw
      case rel => exact ⟨k + 1, by omega, by go_num, belowN hB⟩
      case measure => simp [RowKit.intOf]; omega
    · go_wp2_with fail
      go_ret
      exact ⟨rfl, hB⟩
theorem eqRg (w : World) (x y : Int) : (Op.equalIn 10000 33 (.agg #[.int .i64 x, .int .i64 y]) (.agg #[.int .i64 x, .int .i64 y])).run Tryz.prog w = .ok true w := by
  rw [show (10000 : Nat) = 9999 + 1 from rfl, run_equalIn_struct w 9999 _ _ _ (by kernel_rfl) (by kernel_rfl)]
  simp [go_sem, Op.eqFields, Program.fieldsOf, Tryz.underlying33, Tryz.underlying3]
theorem gdRg : Tryz.prog.eqGuardType Tryz.prog.depth 33 = false := by kernel_rfl
theorem eqSp (w : World) (x y z u : Int) : (Op.equalIn 10000 47 (.agg #[.int .i64 x, .int .i64 y, .int .i64 z, .int .i64 u]) (.agg #[.int .i64 x, .int .i64 y, .int .i64 z, .int .i64 u])).run Tryz.prog w = .ok true w := by
  rw [show (10000 : Nat) = 9999 + 1 from rfl, run_equalIn_struct w 9999 _ _ _ (by kernel_rfl) (by kernel_rfl)]
  simp [go_sem, Op.eqFields, Program.fieldsOf, Tryz.underlying47, Tryz.underlying3]
theorem gdSp : Tryz.prog.eqGuardType Tryz.prog.depth 47 = false := by kernel_rfl
theorem r6sameRanges (a1 a2 : Option Addr) (n1 n2 c1 c2 : Nat) (rs : List (Int × Int)) (w : World) (hx : RngsAt w a1 n1 c1 rs) (hy : RngsAt w a2 n2 c2 rs) :
    Calls Tryz.prog 63 #[.slice a1 n1 c1, .slice a2 n2 c2] w fun e w' => e = .returned (.bool true) ∧ Below w.heap.size w w' := by
  have hlx := hx.small
  obtain rfl := hx.len
  obtain rfl := hy.len
  go_enter Tryz.func63, Tryz.ntmps63
  go_wp2_with fail
  go_loopw [5] (fun i wr => ∃ k : Nat, k ≤ rs.length ∧ i = .int .i64 k ∧ Below w.heap.size w wr) (fun i _ => rs.length - (RowKit.intOf i).toNat)
  case atStart => exact ⟨0, Nat.zero_le _, rfl, Below.refl _ _⟩
  case round =>
    obtain ⟨k, hk, rfl, hB⟩ := hrel
    by_cases hlt : k < rs.length
    · obtain ⟨b1, o1, rfl, _, d0, d1⟩ := (hx.below hB).get hlt
      obtain ⟨b2, o2, rfl, _, e0, e1⟩ := (hy.below hB).get hlt
      have hnn : (0 : Int) ≤ k := by omega
      have i1 : (k : Int) < (rs.length : Int) := by omega
      have hq := fun w => eqRg w (rs.getD k default).1 (rs.getD k default).2
      have gd := gdRg
      generalize (rs.getD k default).1 = u at *
      generalize (rs.getD k default).2 = v at *
      go_wp2_with fail
      go_quiet (fail)
      go_wp2
      go_roundw
      case rel => exact ⟨k + 1, by omega, by go_num, belowN hB⟩
      case measure => simp [RowKit.intOf]; omega
    · go_wp2_with fail
      go_ret
      exact ⟨rfl, hB⟩

/-- Two parts that hold the same, wherever their lists lie. -/
structure SameP (p q : Pt) : Prop where
  sh : p.sh = q.sh
  re : p.re = q.re
  lo : p.lo = q.lo
  hi : p.hi = q.hi
  lob : p.lob = q.lob
  hib : p.hib = q.hib
  ft : p.ft = q.ft
  fby : p.fby = q.fby
theorem SameP.refl (p : Pt) : SameP p p := ⟨rfl, rfl, rfl, rfl, rfl, rfl, rfl, rfl⟩
theorem r6samePart (p q : Pt) (w : World) (hs : SameP p q) (hp : PtAt w p) (hq : PtAt w q) :
    Calls Tryz.prog 74 #[p.v, q.v] w fun e w' => e = .returned (.bool true) ∧ Below w.heap.size w w' := by
  obtain ⟨sa, sc, sh, lo, hi, lob, hib, ft, fby, ra, rc, re⟩ := p
  obtain ⟨sa2, sc2, sh2, lo2, hi2, lob2, hib2, ft2, fby2, ra2, rc2, re2⟩ := q
  obtain ⟨s1, s2, s3, s4, s5, s6, s7, s8⟩ := hs
  simp only at s1 s2 s3 s4 s5 s6 s7 s8
  subst s1; subst s2; subst s3; subst s4; subst s5; subst s6; subst s7; subst s8
  obtain ⟨h1, h2⟩ := hp
  obtain ⟨k1, k2⟩ := hq
  simp only at h1 h2 k1 k2
  simp only [Pt.v]
  have heq := fun w => eqSp w lo hi lob hib
  have gd := gdSp
  have e1 : (ft == ft) = true := by simp
  have e2 : (fby == fby) = true := by simp
  have hB2 : Below w.heap.size w ((w.alloc (Obj.cells #[.slice sa sh.length sc, .int .i64 lo, .int .i64 hi, .int .i64 lob, .int .i64 hib, .bool ft, .int .i64 fby, .slice ra re.length rc] 49)).alloc (Obj.cells #[.slice sa2 sh.length sc2, .int .i64 lo, .int .i64 hi, .int .i64 lob, .int .i64 hib, .bool ft, .int .i64 fby, .slice ra2 re.length rc2] 49)) := by ((repeat (first | assumption | exact Below.refl _ _ | refine Below.alloc ?_ ?_ _ | refine Below.setCell ?_ ?_ _ | refine Below.drew ?_ | refine belowN ?_ | refine Below.up ?_ (by assumption) ?_)) <;> (first | assumption | omega | (simp; done) | (simp; omega)))
  go_enter Tryz.func74, Tryz.ntmps74
  go_wp2_with (first
    | (go_at_call 30; have hg := hb1; clear hg; refine (r6sameInts _ _ _ _ _ _ _ _ (h2.below (hB2.ch2 hb1)) (k2.below (hB2.ch2 hb1))).mono ?_; rintro e w2 ⟨rfl, hb2⟩)
    | (go_at_call 30; refine (r6sameInts _ _ _ _ _ _ _ _ (h1.below hB2) (k1.below hB2)).mono ?_; rintro e w1 ⟨rfl, hb1⟩; obtain ⟨hc1, hf1⟩ := bcell hb1; have z1 := lt_size hb1 (b := w.heap.size) (by first | assumption | omega | (simp; done) | (simp; omega)); have z2 := lt_size hb1 (b := w.heap.size + 1) (by first | assumption | omega | (simp; done) | (simp; omega))))
  go_ret
  exact ⟨rfl, (hB2.ch2 hb1).ch2 hb2⟩

/-- Two cases that hold the same. -/
structure SameC (c d : Cs) : Prop where
  ware : c.ware = d.ware
  lim : c.lim = d.lim
  byr : c.byr = d.byr
  len : c.ps.length = d.ps.length
  each : ∀ i, i < c.ps.length → SameP (c.ps.getD i default) (d.ps.getD i default)
theorem r6sameCase (c d : Cs) (w : World) (hs : SameC c d) (hc : CsAt w c) (hd : CsAt w d) :
    Calls Tryz.prog 20 #[c.v, d.v] w fun e w' => e = .returned (.bool true) ∧ Below w.heap.size w w' := by
  obtain ⟨ware, lim, byr, a, cap, ps⟩ := c
  obtain ⟨ware2, lim2, byr2, a2, cap2, qs⟩ := d
  obtain ⟨s1, s2, s3, s4, s5⟩ := hs
  simp only at s1 s2 s3 s4 s5
  subst s1; subst s2; subst s3
  simp only [Cs.v]
  have hsm : ps.length ≤ 140737488351232 := hc.ps.small
  rw [← s4]
  have hd' : PtsAt w a2 ps.length cap2 qs := by rw [s4]; exact hd.ps
  have hc' : PtsAt w a ps.length cap ps := hc.ps
  have S4 := Lib.hid s4
  clear s4 hc hd
  have e2 : (lim != lim) = false := by simp
  have e3 : (byr != byr) = false := by simp
  have e4 : ((ps.length : Int) != (ps.length : Int)) = false := by simp
  have hB2 : Below w.heap.size w ((w.alloc (Obj.cells #[.string ware, .int .i64 lim, .int .i64 byr, .slice a ps.length cap] 24)).alloc (Obj.cells #[.string ware, .int .i64 lim, .int .i64 byr, .slice a2 ps.length cap2] 24)) := by ((repeat (first | assumption | exact Below.refl _ _ | refine Below.alloc ?_ ?_ _ | refine Below.setCell ?_ ?_ _ | refine Below.drew ?_ | refine belowN ?_ | refine Below.up ?_ (by assumption) ?_)) <;> (first | assumption | omega | (simp; done) | (simp; omega)))
  go_enter Tryz.func20, Tryz.ntmps20
  go_wp2_with fail
  go_loopw [5] (fun i wr => ∃ k : Nat, k ≤ ps.length ∧ i = .int .i64 k ∧ Below w.heap.size w wr ∧ w.heap.size + 1 < wr.heap.size ∧ wr.cell? ⟨w.heap.size, 3, none⟩ = some (.slice a ps.length cap) ∧ wr.cell? ⟨w.heap.size + 1, 3, none⟩ = some (.slice a2 ps.length cap2)) (fun i _ => ps.length - (RowKit.intOf i).toNat)
  case atStart => exact ⟨0, Nat.zero_le _, rfl, hB2, by simp, by simp [go_sem], by simp [go_sem]⟩
  case round =>
    obtain ⟨k, hk, rfl, hB, hz, q1, q2⟩ := hrel
    have hnn : (0 : Int) ≤ k := by omega
    by_cases hlt : k < ps.length
    · have i1 : (k : Int) < (ps.length : Int) := by omega
      have hlt2 : k < qs.length := by rw [← S4.out]; exact hlt
      have hsame := s5 k hlt
      have hpe := (hc'.below hB).each _ (Pt.mem hlt)
      have hqe := (hd'.below hB).each _ (Pt.mem hlt2)
      obtain ⟨b1, o1, rfl, l1, d0, d1, d2, d3, d4, d5, d6, d7⟩ := (hc'.below hB).get hlt
      obtain ⟨b2, o2, rfl, l2, f0, f1, f2, f3, f4, f5, f6, f7⟩ := (hd'.below hB).get hlt2
      generalize ps.getD k default = p at *
      generalize qs.getD k default = q at *
      have hS := fun w1 (h : Below wr.heap.size wr w1) => r6samePart p q w1 hsame (hpe.below h) (hqe.below h)
      simp only [Pt.v] at hS
      have z0 : w.heap.size < wr.heap.size := by omega
      clear hsame hpe hqe
      go_wp2_with fail
      refine (wpIn_wide (n := 0)).1 ?_
      refine SLF.rule (ro := none) (by kernel_rfl) [] [41, 42, 43, 44, 45, 46, 47, 48, 49, 50, 51, 52] [SLF.pq 41 [] (.pointer (some ⟨w.heap.size, 3, none⟩)), SLF.pq 42 [0] (.slice (some ⟨b1, o1, none⟩) ps.length cap), SLF.pq 43 [] (.int .i64 k), SLF.pq 44 [1, 2] (.pointer (some ⟨b1, o1 + k * 8, none⟩)), SLF.pq 45 [3] (p.v), SLF.pq 46 [] (.pointer (some ⟨w.heap.size + 1, 3, none⟩)), SLF.pq 47 [5] (.slice (some ⟨b2, o2, none⟩) ps.length cap2), SLF.pq 48 [] (.int .i64 k), SLF.pq 49 [6, 7] (.pointer (some ⟨b2, o2 + k * 8, none⟩)), SLF.pq 50 [8] (q.v), SL.pu 51 [4, 9] (.bool true), SLF.pq 52 [10] (.bool false)]
        [11] (by kernel_rfl) (by kernel_rfl) (fun _ => []) (SL.none_held rfl) (by simp) ?_ ?_
      · refine ⟨?_, ?_, ?_, ?_, ?_, ?_, ?_, ?_, ?_, ?_, ?_, ?_, trivial⟩
        all_goals refine SLF.ob fun us w' Fe hG hu hd hv Kx hK => ?_
        all_goals simp [SL.frame, SL.put', SL.Used, SL.Seen, SL.pu, SL.row, SL.box, SL.rowIn, SL.boxIn, SL.boxAt, SL.boxAtIn, Bd.v, Bd.cs, SLF.pq, Pt.v] at hu hv hK
        all_goals (have hB5 : Below wr.heap.size wr w' := hG.below')
        all_goals (have hcc := (bcell hB5).1)
        all_goals (rw [← hcc _ _ z0] at q1; rw [← hcc _ _ hz] at q2)
        all_goals (rw [← hcc _ _ l1] at d0 d1 d2 d3 d4 d5 d6 d7; rw [← hcc _ _ l2] at f0 f1 f2 f3 f4 f5 f6 f7)
        all_goals clear hcc hd hv hG
        all_goals first
          | refine SLF.wpo_do (SLF.wanted_free rfl) (by intro c h; cases h) ?_
          | refine SLF.wpo_do (SLF.wanted_by rfl rfl (by simp [SL.frame, SL.put', hu]; done)) (by intro c h; cases h) ?_
        all_goals simp [SL.frame, SL.put', SL.Used, SL.Seen, SL.pu, SL.row, SL.box, SL.rowIn, SL.boxIn, SL.boxAt, SL.boxAtIn, Bd.v, Bd.cs]
        all_goals try (go_step; exact hK _ _ _ _ (by simp [Act.put, *]; done) (SL.Chg.refl _ _) rfl rfl (by simp) (by simp))
        go_step
        refine (hS _ hB5).mono ?_
        rintro e w2 ⟨rfl, hb3⟩
        exact hK _ _ w2 _ (by simp [Act.put, *]; done) (.of_below hb3) rfl rfl (by simp)
      · intro us w5 Fs hG hu hbd hd
        simp [SL.frame, SL.put', SL.Used, SL.Seen, SL.pu, SL.row, SL.box, SL.rowIn, SL.boxIn, SL.boxAt, SL.boxAtIn, Bd.v, Bd.cs, SLF.pq] at hu ⊢
        have hB5 : Below wr.heap.size wr w5 := hG.below'
        have hcc := (bcell hB5).1
        obtain ⟨u52, _⟩ := hu
        simp only [u52]
        clear hbd hd hG d0 d1 d2 d3 d4 d5 d6 d7 f0 f1 f2 f3 f4 f5 f6 f7
        go_wp2_with fail
        go_roundw
        case rel => exact ⟨k + 1, by omega, by go_num, hB.ch2 hB5, by have := hB5.size; omega, (hcc _ _ z0).trans q1, (hcc _ _ hz).trans q2⟩
        case measure => simp [RowKit.intOf]; omega
    · go_wp2_with fail
      go_ret
      exact ⟨rfl, hB⟩
end Go.Proofs.YtodkbfbbpfghiaaGreat

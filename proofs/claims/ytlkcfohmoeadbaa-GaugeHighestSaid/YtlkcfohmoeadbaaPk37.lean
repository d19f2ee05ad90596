/-
  Lemmas and walks for the laws on bounds and their sums; the parts' own heads say what each proves, for every input.
-/
import Derived.Test.YtlkcfohmoeadbaaPk33
import Derived.Test.YtlkcfohmoeadbaaPk36
import Derived.Test.YtlkcfohmoeadbaaPk35
set_option linter.unusedSimpArgs false
set_option linter.unusedVariables false
set_option linter.unnecessarySimpa false
/-
  Plain laws: the solution with the greatest numbers that are at most 0; the same number more in all.
-/
namespace Go.Proofs.Ytlkcfohmoeadbaa

theorem gi_map {l : List Int} {d j : Int} (h : j.toNat < l.length) : gi (l.map (· + d)) j = gi l j + d := by
  unfold gi
  simp [List.getD_eq_getElem?_getD, List.getElem?_eq_getElem h]
theorem solR_in {p : Int} {bs : List Bd} (hc : chk p bs = 0) (hok : okB p bs = true) {i : Nat} (hi : i < (solR p bs).length) : -59000000 ≤ (solR p bs).getD i 0 ∧ (solR p bs).getD i 0 ≤ 0 := by
  have hs := Sys.of_chk hc
  have hl := solR_len (p := p) bs ⟨hs.p1, hs.p2⟩
  have h := sol_in hc hok (j := (i : Int)) (by omega) (by omega)
  have e : (solR p bs).getD i 0 = gi (gsol p bs).1.r i := by
    have := gi_take' (l := (gsol p bs).1.r) (P := p.toNat) (j := (i : Int)) (by omega) (by omega)
    rw [← this]
    rfl
  rw [e]
  exact h
theorem high_kept {p : Int} {bs : List Bd} (hc : chk p bs = 0) (hok : okB p bs = true) {d : Int} (h0 : -1000 ≤ d) (h1 : d ≤ 1000) : brE p bs ((solR p bs).map (· + d)) = 0 ∧ brH p bs ((solR p bs).map (· + d)) = false := by
  have hs := Sys.of_chk hc
  have hp := hs.p2
  have hp1 := hs.p1
  have hl := solR_len (p := p) bs ⟨hs.p1, hs.p2⟩
  obtain ⟨k1, k2⟩ := solR_kept hc hok
  obtain ⟨_, k3, _, k4⟩ := kept_iff.1 (show (decide (brE p bs (solR p bs) = 0) && !brH p bs (solR p bs)) = true by rw [k1, k2]; rfl)
  have := (kept_iff (p := p) (bs := bs) (xs := (solR p bs).map (· + d))).2 ⟨hc, by rw [List.length_map]; exact k3, ?_, fun b hb => ?_⟩
  · simp only [Bool.and_eq_true, decide_eq_true_eq, Bool.not_eq_true'] at this
    exact this
  · rw [List.all_eq_true]
    intro x hx
    obtain ⟨y, hy, rfl⟩ := List.mem_map.1 hx
    obtain ⟨i, hi, rfl⟩ := List.mem_iff_getElem.1 hy
    have := solR_in hc hok hi
    rw [List.getD_eq_getElem?_getD, List.getElem?_eq_getElem hi] at this
    simp only [Option.getD_some] at this
    exact withinB_iff.2 (by omega)
  · obtain ⟨q0, q1, q2, q3⟩ := Pts.of_chk hc b hb
    rw [gi_map (by omega), gi_map (by omega)]
    have := k4 b hb
    omega
theorem high_max {p : Int} {bs : List Bd} {xs : List Int} (hk : (decide (brE p bs xs = 0) && !brH p bs xs) = true) (h0 : xs.all (fun v => decide (v ≤ 0)) = true) {i : Nat} (hi : i < xs.length) : xs.getD i 0 ≤ (solR p bs).getD i 0 ∧ i < (solR p bs).length := by
  obtain ⟨hc, h2, h3, h4⟩ := kept_iff.1 hk
  have hs := Sys.of_chk hc
  have hp := hs.p2
  have hl := solR_len (p := p) bs ⟨hs.p1, hs.p2⟩
  have h := sol_max hs h4 (fun j j0 j1 => by
    by_cases hj : j.toNat < xs.length
    · have := List.all_eq_true.1 h0 (gi xs j) (by unfold gi; rw [List.getD_eq_getElem?_getD, List.getElem?_eq_getElem hj]; exact List.getElem_mem _)
      simpa using this
    · unfold gi
      rw [List.getD_eq_getElem?_getD, List.getElem?_eq_none (by omega)]
      simp) (j := (i : Int)) (by omega) (by omega)
  have e : (solR p bs).getD i 0 = gi (gsol p bs).1.r i := by
    have := gi_take' (l := (gsol p bs).1.r) (P := p.toNat) (j := (i : Int)) (by omega) (by omega)
    rw [← this]
    rfl
  rw [e]
  exact ⟨by simpa [gi] using h, by omega⟩

theorem take_all' {f : Int → Bool} {l : List Int} {k : Nat} (hk : k < l.length) : (l.take (k + 1)).all f = ((l.take k).all f && f (l.getD k 0)) := by
  rw [List.take_succ_eq_append_getElem hk, List.all_append]
  simp [List.getD_eq_getElem?_getD, List.getElem?_eq_getElem hk]
theorem map_step {S : List Int} {d : Int} {k : Nat} (hk : k < S.length) : ((S.take k).map (· + d) ++ S.drop k).set k (S.getD k 0 + d) = (S.take (k + 1)).map (· + d) ++ S.drop (k + 1) := by
  rw [List.set_append_right _ _ (by simp; omega)]
  have e : k - ((S.take k).map (· + d)).length = 0 := by simp; omega
  rw [e, List.drop_eq_getElem_cons hk, List.set_cons_zero, List.take_succ_eq_append_getElem hk, List.map_append, List.append_assoc, List.getD_eq_getElem?_getD, List.getElem?_eq_getElem hk]
  rfl
theorem map_at {S : List Int} {d : Int} {k : Nat} (hk : k < S.length) : gi ((S.take k).map (· + d) ++ S.drop k) k = S.getD k 0 := by
  unfold gi
  rw [Int.toNat_natCast, List.getD_eq_getElem?_getD, List.getElem?_append_right (by simp; omega)]
  have e : k - ((S.take k).map (· + d)).length = 0 := by simp; omega
  rw [e, List.getElem?_drop, List.getD_eq_getElem?_getD]
  simp
end Go.Proofs.Ytlkcfohmoeadbaa

/-
  The law GaugeHighest, walked: it returns true.
-/
namespace Go.Proofs.Ytlkcfohmoeadbaa
open Go.RowKit Go.Shelf
set_option maxHeartbeats 8000000
set_option maxRecDepth 100000

theorem law_highest (p : Int) (a : Option Addr) (n cap : Nat) (bs : List Bd) (a1 : Option Addr) (n1 c1 : Nat) (xs : List Int) (d : Int) (w : World) (hb : BdsAt w a n cap bs) (hn : n ≤ 140737488351232) (hx : IntsAt w a1 n1 c1 xs) :
    Calls Try.prog 12 #[.agg #[.int .i64 p, .slice a n cap], .slice a1 n1 c1, .int .i64 d] w fun e w' => e = .returned (.bool true) ∧ Below w.heap.size w w' := by
  have hW := fun w1 => lwide_any p a n cap w1 hn
  have s1 : n1 ≤ 140737488351232 := by have := hx.len; have := hx.small; omega
  by_cases hn4 : n ≤ 403
  · have h1 : decide (n ≤ 403) = true := by simpa using hn4
    simp only [h1] at hW
    by_cases k1 : (n1 : Int) ≤ 70
    · by_cases k3 : -1000 ≤ d
      · by_cases k4 : d ≤ 1000
        · have hsol := fun w1 (h : Below w.heap.size w w1) => gSolve_any p a n cap bs w1 (hb.below h)
          by_cases hc : chk p bs = 0
          · cases hok : okB p bs with
            | false =>
              simp only [hc, hok, Bool.and_false] at hsol
              clear hn4 hn h1 hc hok
              go_enter Try.func12, Try.ntmps12
              go_wp2_with (first
                | (go_at_call 20; refine (hW _).mono ?_; rintro e w0 ⟨rfl, hb0⟩; obtain ⟨hc0, hf0⟩ := bcell hb0; have hz0a := lt_size hb0 (b := w.heap.size) (by first | assumption | omega | (simp; done) | (simp; omega)))
                | (go_at_call 22; refine (hsol _ (by ((repeat (first | exact Below.refl _ _ | assumption | refine Below.al ?_ _ | refine Below.ch ?_ (by assumption) | refine belowN ?_))))).mono ?_; rintro e w1 ⟨v1, rfl, hb1, _⟩)
                | (go_at_call 21; refine (lalive_any _).mono ?_; rintro e w9 ⟨rfl, hb9⟩; obtain ⟨hc9, hf9⟩ := bcell hb9))
              go_ret
              exact ⟨rfl, by ((repeat (first | exact Below.refl _ _ | assumption | refine Below.al ?_ _ | refine Below.ch ?_ (by assumption) | refine belowN ?_)))⟩
            | true =>
              simp only [hc, hok, decide_true, Bool.and_self, not_true_eq_false, true_and, forall_const, false_implies] at hsol
              have hS := Sys.of_chk hc
              have hsz : (solR p bs).length = p.toNat := solR_len _ ⟨hS.p1, hS.p2⟩
              have hp1 := hS.p1
              have hp2 := hS.p2
              have hin := fun i hi => solR_in hc hok (i := i) hi
              obtain ⟨q1, q2⟩ := high_kept hc hok k3 k4
              have hke := fun w1 (h : Below w.heap.size w w1) b c (h2 : IntsAt w1 b ((solR p bs).map (· + d)).length c ((solR p bs).map (· + d))) => gKeeps_any p a n cap bs b _ c ((solR p bs).map (· + d)) w1 (hb.below h) h2
              simp only [q1, q2, decide_true, Bool.not_false, Bool.and_self] at hke
              have hkx := fun w1 (h : Below w.heap.size w w1) => gKeeps_any p a n cap bs a1 n1 c1 xs w1 (hb.below h) (hx.below h)
              have hmx := fun h i (hi : i < xs.length) (h0 : xs.all (fun v => decide (v ≤ 0)) = true) => high_max (p := p) (bs := bs) (xs := xs) h h0 hi
              generalize hK : (decide (brE p bs xs = 0) && !brH p bs xs) = K at *
              generalize brE p bs xs = EX at *
              have HKE : K = true → EX = 0 := fun h => by
                rw [← hK] at h
                simp only [Bool.and_eq_true, decide_eq_true_eq] at h
                exact h.1
              clear hK
              rw [← hsz] at hsol
              have hq : (solR p bs).length ≤ 60 ∧ 1 ≤ (solR p bs).length := by omega
              generalize solR p bs = S at *
              have Hin := Lib.hid hin
              have Hmx := Lib.hid hmx
              have HKE' := Lib.hid HKE
              obtain ⟨hq1, hq2⟩ := hq
              clear hn4 hn h1 hc hok hS hsz hin hmx q1 q2 HKE hp1 hp2
              go_enter Try.func12, Try.ntmps12
              go_wp2_with (first
                | (go_at_call 20; refine (hW _).mono ?_; rintro e w0 ⟨rfl, hb0⟩; obtain ⟨hc0, hf0⟩ := bcell hb0; have hz0a := lt_size hb0 (b := w.heap.size) (by first | assumption | omega | (simp; done) | (simp; omega)))
                | (go_at_call 22; refine (hsol _ (by ((repeat (first | exact Below.refl _ _ | assumption | refine Below.al ?_ _ | refine Below.ch ?_ (by assumption) | refine belowN ?_))))).mono ?_; rintro e w1 ⟨v1, rfl, hb1, ho1⟩; obtain ⟨hc1, hf1⟩ := bcell hb1; have s3 := lt_size hb1 (b := w.heap.size) (by first | assumption | omega | (simp; done) | (simp; omega)); obtain ⟨ya, yc, rfl, hry⟩ := owns_RowG (P := S.length) ho1 hq2
                   have hB1 : Below w.heap.size w w1 := by ((repeat (first | exact Below.refl _ _ | assumption | refine Below.al ?_ _ | refine Below.ch ?_ (by assumption) | refine belowN ?_))))
                | (at_builtin; refine wpList_app elemI rfl _ _ rfl (World.ownsRow_lit (base := w1.heap.size) (e := 3) (size := 1) w1 #[] 0 (Nat.le_refl _) (by decide) rfl) rfl rfl ((RowAt.of_owns ho1).below ((Below.refl _ _).alloc (Nat.le_refl _) _)) (by simp) (ones_int S) ?_ ?_ ?_ ?_))
              · unfold maxLen; omega
              · omega
              · simp
              · intro v2 w2 ho2 hg2 hb2 _ hat2
                have ho2' : w2.ownsRow w1.heap.size 3 1 v2 S.length (S.map (.int .i64)) := by simpa using ho2
                obtain ⟨g, c, rfl, hrh⟩ := owns_RowG ho2' hq2
                have hB2 : Below w1.heap.size w1 w2 := ((Below.refl _ _).alloc (Nat.le_refl _) _).trans hb2
                clear ho2 ho2' hg2 hb2 hat2
                go_wp2_with fail
                go_loopw [53, 11] (fun i _ wr => ∃ k : Nat, k ≤ S.length ∧ i = .int .i64 k ∧ Below w1.heap.size w1 wr ∧ RowG wr w1.heap.size g S.length c ((S.take k).map (· + d) ++ S.drop k)) (fun i _ _ => S.length - (intOf i).toNat)
                case atStart => exact ⟨0, Nat.zero_le _, rfl, hB2, by simpa using hrh⟩
                case round =>
                  obtain ⟨k, hk, rfl, hBr, hrr⟩ := hrel
                  rename World => w3
                  clear hrh hB2
                  by_cases hlt : k < S.length
                  · have hcell := hrr.cell (j := (k : Int)) (by omega) (by simp; omega)
                    rw [Int.toNat_natCast, map_at hlt] at hcell
                    have hfr := hrr.free k
                    have hset := hrr.set k (S.getD k 0 + d)
                    rw [map_step hlt] at hset
                    obtain ⟨z0, z1⟩ := Hin.out k hlt
                    generalize S.getD k 0 = z at *
                    have hwr : IntKind.i64.wrap (z + d) = z + d := IntWalk.i64_in _ (by omega)
                    have hgl := hrr.lt
                    have hBn := hBr.trans ((Below.refl w1.heap.size w3).setCell (p := ⟨g, k, none⟩) hgl.1 (.int .i64 (z + d)))
                    go_wp2_with fail
                    go_roundw
                    case rel => exact ⟨k + 1, by omega, by go_num, hBn, hset⟩
                    case measure => simp [intOf]; omega
                  · obtain rfl : k = S.length := by omega
                    rw [List.take_of_length_le (Nat.le_refl _), List.drop_eq_nil_of_le (Nat.le_refl _), List.append_nil] at hrr
                    have hI3 : IntsAt w3 (some ⟨g, 0, none⟩) (S.map (· + d)).length c (S.map (· + d)) := by
                      rw [List.length_map]
                      exact IntsAt.of_owns hrr (by simp; omega)
                    have hry3 := hry.below hBr
                    obtain ⟨hc3, hf3⟩ := bcell hBr
                    have s4 := lt_size hBr (b := w.heap.size) (by first | assumption | omega | (simp; done) | (simp; omega))
                    have hl3 : (S.map (· + d)).length = S.length := List.length_map ..
                    rw [hl3] at hke hI3
                    clear hl3
                    go_wp2_with (first
                      | (go_at_call 49; clear hrr; refine (hke _ (by ((repeat (first | exact Below.refl _ _ | assumption | refine Below.al ?_ _ | refine Below.ch ?_ (by assumption) | refine belowN ?_)))) _ _ hI3).mono ?_; rintro e w4 ⟨rfl, hb4⟩; obtain ⟨hc4, hf4⟩ := bcell hb4; have s5 := lt_size hb4 (b := w.heap.size) (by first | assumption | omega | (simp; done) | (simp; omega)))
                      | (go_at_call 49; refine (hkx _ (by ((repeat (first | exact Below.refl _ _ | assumption | refine Below.al ?_ _ | refine Below.ch ?_ (by assumption) | refine belowN ?_))))).mono ?_; rintro e w5 ⟨rfl, hb5⟩; obtain ⟨hc5, hf5⟩ := bcell hb5; have hz5a := lt_size hb5 (b := w.heap.size) (by first | assumption | omega | (simp; done) | (simp; omega))))
                    have hB5 : Below w.heap.size w w5 := by ((repeat (first | exact Below.refl _ _ | assumption | refine Below.al ?_ _ | refine Below.ch ?_ (by assumption) | refine belowN ?_)))
                    have hry5 := hry.below ((hBr.ch hb4).ch hb5)
                    have hx5 := hx.below hB5
                    have hxl := hx5.len
                    have Hxl := Lib.hid hxl
                    clear hxl hke hkx hI3 hry3 hc3 hf3 hc4 hf4 hc5 hf5 hc1 hf1 hc0 hf0 hry ho1
                    go_loopw [89, 16, 14] (fun i _ kv wr => ∃ k : Nat, k ≤ n1 ∧ i = .int .i64 k ∧ kv = .bool (K && (xs.take k).all (fun v => decide (v ≤ 0))) ∧ wr = w5) (fun i _ _ _ => n1 - (intOf i).toNat)
                    case atStart => exact ⟨0, Nat.zero_le _, rfl, by simp, rfl⟩
                    case round =>
                      obtain ⟨k, hk, rfl, rfl, rfl⟩ := hrel
                      rename World => wz
                      by_cases hlt : k < n1
                      · obtain ⟨xb, xo, rfl, xl, g1⟩ := hx5.get (i := k) (by rw [← Hxl.out]; exact hlt)
                        have hst := take_all' (f := fun v => decide (v ≤ 0)) (l := xs) (k := k) (by rw [← Hxl.out]; exact hlt)
                        generalize xs.getD k 0 = z at *
                        have Hst := Lib.hid (show (K && (xs.take (k + 1)).all fun v => decide (v ≤ 0)) = ((K && (xs.take k).all fun v => decide (v ≤ 0)) && decide (z ≤ 0)) from by rw [hst, Bool.and_assoc])
                        clear hst
                        generalize (K && (xs.take k).all fun v => decide (v ≤ 0)) = C at *
                        cases C with
                        | false =>
                          go_wp2_with fail
                          go_roundw
                          case rel => exact ⟨k + 1, by omega, by go_num, by rw [Hst.out]; rfl, by first | trivial | rfl⟩
                          case measure => simp [intOf]; omega
                        | true =>
                          go_wp2_with fail
                          go_roundw
                          case rel => exact ⟨k + 1, by omega, by go_num, by rw [Hst.out]; rfl, by first | trivial | rfl⟩
                          case measure => simp [intOf]; omega
                      · obtain rfl : k = n1 := by omega
                        have htk : xs.take k = xs := List.take_of_length_le (by rw [Hxl.out]; exact Nat.le_refl _)
                        rw [htk]
                        have HC := Lib.hid (show (K && xs.all fun v => decide (v ≤ 0)) = true → EX = 0 ∧ ∀ i, i < xs.length → xs.getD i 0 ≤ S.getD i 0 ∧ i < S.length from fun h => by
                          simp only [Bool.and_eq_true] at h
                          exact ⟨HKE'.out h.1, fun i hi => Hmx.out h.1 i hi h.2⟩)
                        clear htk
                        generalize (K && xs.all fun v => decide (v ≤ 0)) = C at *
                        cases C with
                        | false =>
                          clear HC
                          go_wp2_with fail
                          go_loopw [17] (fun i wr => i = .int .i64 0 ∧ wr = wz) (fun _ _ => 0)
                          case atStart => exact ⟨rfl, rfl⟩
                          case round =>
                            obtain ⟨rfl, rfl⟩ := hrel
                            go_wp2_with (go_at_call 21; refine (lalive_any _).mono ?_; rintro e w9 ⟨rfl, hb9⟩; obtain ⟨hc9, hf9⟩ := bcell hb9)
                            all_goals
                              go_ret
                              exact ⟨rfl, by ((repeat (first | exact Below.refl _ _ | assumption | refine Below.al ?_ _ | refine Below.ch ?_ (by assumption) | refine belowN ?_)))⟩
                        | true =>
                          obtain ⟨rfl, hall⟩ := HC.out rfl
                          have Hall := Lib.hid hall
                          clear hall HC
                          go_wp2_with fail
                          go_loopw [17] (fun i wr => ∃ q j : Nat, q ≤ k ∧ i = .int .i64 q ∧ wr = wz.drewN j) (fun i _ => k - (intOf i).toNat)
                          case atStart => exact ⟨0, 0, Nat.zero_le _, rfl, rfl⟩
                          case round =>
                            obtain ⟨q, j, hq, rfl, rfl⟩ := hrel
                            have hB6 : Below w.heap.size w (wz.drewN j) := belowN hB5
                            by_cases hlt : q < k
                            · obtain ⟨r1, r2⟩ := Hall.out q (by rw [← Hxl.out]; exact hlt)
                              obtain ⟨xb, xo, rfl, xl, g1⟩ := hx5.get (i := q) (by rw [← Hxl.out]; exact hlt)
                              have g2 := hry5.cell (j := (q : Int)) (by omega) (by rw [Int.toNat_natCast]; exact r2)
                              rw [Int.toNat_natCast, show gi S q = S.getD q 0 from rfl] at g2
                              generalize xs.getD q 0 = z at *
                              generalize S.getD q 0 = y at *
                              have hnd : decide (y < z) = false := decide_eq_false (by omega)
                              have r3 : (q : Int) < (k : Int) := by omega
                              have r4 : (q : Int) < (S.length : Int) := by omega
                              go_wp2_with fail
                              go_quiet (fail)
                              go_wp2_with fail
                              go_roundw
                              case rel => exact ⟨q + 1, _, by omega, by go_num, rfl⟩
                              case measure => simp [intOf]; omega
                            · go_wp2_with (go_at_call 21; refine (lalive_any _).mono ?_; rintro e w9 ⟨rfl, hb9⟩; obtain ⟨hc9, hf9⟩ := bcell hb9)
                              go_ret
                              exact ⟨rfl, by ((repeat (first | exact Below.refl _ _ | assumption | refine Below.al ?_ _ | refine Below.ch ?_ (by assumption) | refine belowN ?_)))⟩
          · have hcn : (chk p bs != 0) = true := by simpa using hc
            generalize (decide (chk p bs = 0) && okB p bs) = Q at *
            generalize chk p bs = E at *
            clear hn4 hn h1
            go_enter Try.func12, Try.ntmps12
            go_wp2_with (first
              | (go_at_call 20; refine (hW _).mono ?_; rintro e w0 ⟨rfl, hb0⟩; obtain ⟨hc0, hf0⟩ := bcell hb0; have hz0a := lt_size hb0 (b := w.heap.size) (by first | assumption | omega | (simp; done) | (simp; omega)))
              | (go_at_call 22; refine (hsol _ (by ((repeat (first | exact Below.refl _ _ | assumption | refine Below.al ?_ _ | refine Below.ch ?_ (by assumption) | refine belowN ?_))))).mono ?_; rintro e w1 ⟨v1, rfl, hb1, _⟩)
              | (go_at_call 21; refine (lalive_any _).mono ?_; rintro e w9 ⟨rfl, hb9⟩; obtain ⟨hc9, hf9⟩ := bcell hb9))
            go_ret
            exact ⟨rfl, by ((repeat (first | exact Below.refl _ _ | assumption | refine Below.al ?_ _ | refine Below.ch ?_ (by assumption) | refine belowN ?_)))⟩
        · go_enter Try.func12, Try.ntmps12
          go_wp2_with (first
            | (go_at_call 20; refine (hW _).mono ?_; rintro e w0 ⟨rfl, hb0⟩; obtain ⟨hc0, hf0⟩ := bcell hb0; have hz0a := lt_size hb0 (b := w.heap.size) (by first | assumption | omega | (simp; done) | (simp; omega)))
            | (go_at_call 21; refine (lalive_any _).mono ?_; rintro e w9 ⟨rfl, hb9⟩; obtain ⟨hc9, hf9⟩ := bcell hb9))
          go_ret
          exact ⟨rfl, by ((repeat (first | exact Below.refl _ _ | assumption | refine Below.al ?_ _ | refine Below.ch ?_ (by assumption) | refine belowN ?_)))⟩
      · go_enter Try.func12, Try.ntmps12
        go_wp2_with (first
          | (go_at_call 20; refine (hW _).mono ?_; rintro e w0 ⟨rfl, hb0⟩; obtain ⟨hc0, hf0⟩ := bcell hb0; have hz0a := lt_size hb0 (b := w.heap.size) (by first | assumption | omega | (simp; done) | (simp; omega)))
          | (go_at_call 21; refine (lalive_any _).mono ?_; rintro e w9 ⟨rfl, hb9⟩; obtain ⟨hc9, hf9⟩ := bcell hb9))
        go_ret
        exact ⟨rfl, by ((repeat (first | exact Below.refl _ _ | assumption | refine Below.al ?_ _ | refine Below.ch ?_ (by assumption) | refine belowN ?_)))⟩
    · go_enter Try.func12, Try.ntmps12
      go_wp2_with (first
        | (go_at_call 20; refine (hW _).mono ?_; rintro e w0 ⟨rfl, hb0⟩; obtain ⟨hc0, hf0⟩ := bcell hb0; have hz0a := lt_size hb0 (b := w.heap.size) (by first | assumption | omega | (simp; done) | (simp; omega)))
        | (go_at_call 21; refine (lalive_any _).mono ?_; rintro e w9 ⟨rfl, hb9⟩; obtain ⟨hc9, hf9⟩ := bcell hb9))
      go_ret
      exact ⟨rfl, by ((repeat (first | exact Below.refl _ _ | assumption | refine Below.al ?_ _ | refine Below.ch ?_ (by assumption) | refine belowN ?_)))⟩
  · have h1 : decide (n ≤ 403) = false := by simpa using hn4
    simp only [h1] at hW
    go_enter Try.func12, Try.ntmps12
    go_wp2_with (first
      | (go_at_call 20; refine (hW _).mono ?_; rintro e w0 ⟨rfl, hb0⟩; obtain ⟨hc0, hf0⟩ := bcell hb0; have hz0a := lt_size hb0 (b := w.heap.size) (by first | assumption | omega | (simp; done) | (simp; omega)))
      | (go_at_call 21; refine (lalive_any _).mono ?_; rintro e w9 ⟨rfl, hb9⟩; obtain ⟨hc9, hf9⟩ := bcell hb9))
    go_ret
    exact ⟨rfl, by ((repeat (first | exact Below.refl _ _ | assumption | refine Below.al ?_ _ | refine Below.ch ?_ (by assumption) | refine belowN ?_)))⟩
end Go.Proofs.Ytlkcfohmoeadbaa

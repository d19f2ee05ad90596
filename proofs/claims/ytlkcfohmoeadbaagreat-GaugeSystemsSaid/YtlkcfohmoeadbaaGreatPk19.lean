/-
  Lemmas and walks for the laws on bounds and their sums; the parts' own heads say what each proves, for every input.
-/
import Derived.Test.YtlkcfohmoeadbaaGreatPk18
import Derived.Test.YtlkcfohmoeadbaaGreatPk15
import Derived.Test.YtlkcfohmoeadbaaGreatPk10
import Derived.Test.YtlkcfohmoeadbaaGreatPk11
set_option linter.unusedSimpArgs false
set_option linter.unusedVariables false
set_option linter.unnecessarySimpa false
/-
  Gauge, walked: Circle, where the system is as said.
-/
namespace Go.Proofs.YtlkcfohmoeadbaaGreat
open Go.RowKit Go.Shelf
set_option maxHeartbeats 4000000
set_option maxRecDepth 100000

theorem zeros60_len : zeros60.length = 60 := by simp [zeros60]
theorem SL.Chg.mono2 {E F : List Nat} {w w' : World} (h : SL.Chg E w w') (hE : ∀ k ∈ E, k ∈ F) : SL.Chg F w w' := ⟨h.os, h.tape, h.output, h.size, fun k hk hn => h.block k hk (fun hm => hn (hE k hm))⟩
theorem SL.Chg.undrawn2 {E : List Nat} {w w' : World} (h : SL.Chg E w.drew w') : SL.Chg E w w' := ⟨h.os, h.tape, h.output, h.size, h.block⟩
/-- A pair of rows, made into one value. -/
def SL.pairR (s : Nat) (u e : List Nat) (base n : Nat) (xs ys : List Value) : SL.Sp :=
  { sub := s, use := u, eat := e, A := fun x w F => ∃ y z, x = .agg #[y, z] ∧ w.ownsRow base 77 60 y n xs ∧ w.ownsRow base 76 60 z n ys ∧ (∀ k ∈ y.ownBlock.toList, k ∉ z.ownBlock.toList) ∧ F = y.ownBlock.toList ++ z.ownBlock.toList,
    st := by
      rintro v w w' F ⟨y, z, rfl, h2, h3, h6, rfl⟩ hk _
      exact ⟨y, z, rfl, SL.row_stab h2 (fun k hk' => hk k (by simp only [List.mem_append]; exact .inl hk')), SL.row_stab h3 (fun k hk' => hk k (by simp only [List.mem_append]; exact .inr hk')), h6, rfl⟩ }

theorem crcL_hit {P q r : Nat} {bs : List Bd} (hq : q < P) (hr : r < P) (hno : ∀ t, t < r * P + q → crcT P bs t = false) (h : crcT P bs (r * P + q) = true) : crcL P bs = (bkC bs q (r + 1) (q : Int)).reverse := by
  have hlt : r * P + q < P * P := by
    have : (r + 1) * P ≤ P * P := Nat.mul_le_mul_right P hr
    rw [Nat.add_mul] at this; omega
  have hf : (List.range (P * P)).find? (crcT P bs) = some (r * P + q) := by
    rw [List.find?_eq_some_iff_getElem]
    refine ⟨h, r * P + q, by simpa using hlt, by simp, fun j hj => ?_⟩
    simp [hno j hj]
  unfold crcL
  simp only [Int.toNat_natCast]
  rw [hf]
  simp only []
  rw [Nat.mul_comm r P, Nat.mul_add_mod, Nat.mod_eq_of_lt hq, Nat.mul_add_div (by omega), Nat.div_eq_of_lt hq, Nat.add_zero]
theorem crcL_none {P : Nat} {bs : List Bd} (hno : ∀ t, t < P * P → crcT P bs t = false) : crcL P bs = [] := by
  have hf : (List.range (P * P)).find? (crcT P bs) = none := by
    rw [List.find?_eq_none]
    intro t ht
    rw [List.mem_range] at ht
    simp [hno t ht]
  unfold crcL
  simp only [Int.toNat_natCast]
  rw [hf]

theorem gCircle_ok (P : Nat) (a : Option Addr) (n cap : Nat) (bs : List Bd) (w : World) (hb : BdsAt w a n cap bs) (h0 : chk P bs = 0) :
    Calls Tryz.prog 29 #[.agg #[.int .i64 P, .slice a n cap]] w fun e w' => ∃ v, e = .returned (.tuple #[v, .bool (decide (crcL P bs ≠ [])), .int .i64 0]) ∧ Below w.heap.size w w' ∧ w'.ownsRow w.heap.size 3 1 v (crcL P bs).length ((crcL P bs).map (.int .i64)) := by
  obtain ⟨hp1, hp2, h402, hin⟩ := Sys.of_chk h0
  obtain rfl := hb.len
  have hb0 : Below w.heap.size w (w.alloc (Obj.cells #[.int .i64 P, .slice a bs.length cap] 24)) := (Below.refl _ _).alloc (Nat.le_refl _) _
  have hC := gcheck_any P a bs.length cap bs _ (hb.below hb0)
  rw [h0] at hC
  have hmk := fun w1 => run_make_walks w1 P hp1 hp2
  simp only [Int.toNat_natCast] at hmk
  have hmk2 := run_make_last
  go_enter Tryz.func29, Tryz.ntmps29
  go_wp2_with fail
  go_step3
  go_wp2_with (go_at_call 10; refine hC.mono ?_; rintro e w1 ⟨rfl, hb1⟩
               have s0 : w1.cell? ⟨w.heap.size, 0, none⟩ = some (.int .i64 P) := by rw [(bcell hb1).1 _ _ (by simp)]; simp [go_sem]
               have s1 : w1.cell? ⟨w.heap.size, 1, none⟩ = some (.slice a bs.length cap) := by rw [(bcell hb1).1 _ _ (by simp)]; simp [go_sem]
               have zs : w.heap.size < w1.heap.size := lt_size hb1 (by simp))
  have hB1 : Below w.heap.size w w1 := hb0.trans (hb1.mono (by simp))
  have hax : ∀ z, a = some z → z.block < w1.heap.size := fun z hz => Nat.lt_of_lt_of_le (hb.at_ z hz).2.1 hB1.size
  have hbw1 := hb.below hB1
  have hst := CW.start w1 P bs
  have hfe := fars_len
  go_loopw [22] (fun i wr => ∃ (k : Nat) (V : Nat → Value) (cs : Array Value), k ≤ P ∧ i = .int .i64 k ∧ Below w1.heap.size w1 wr ∧ CW P w1.heap.size bs (fun q => if q < k then 1 else 0) wr V cs ∧ (∀ q, k ≤ q → q < P → V (q * 2) = .slice none 0 0 ∧ V (q * 2 + 1) = .slice none 0 0)) (fun i _ => P - (intOf i).toNat)
  case atStart =>
    exact ⟨0, _, _, Nat.zero_le _, rfl, (Below.refl _ _).alloc (Nat.le_refl _) _, hst.congr (fun q _ => by simp), fun _ _ _ => ⟨rfl, rfl⟩⟩
  case round =>
    obtain ⟨k, V, cs, hk, rfl, hB, hW, hnil⟩ := hrel
    by_cases hlt : k < P
    · have zw := hB.size
      have zWB := (Array.getElem?_eq_some_iff.1 hW.box).1
      have hsz : (ints fars).size = 60 := by rw [ints_size, fars_len]
      have hc0 : (ints fars)[k]? = some (.int .i64 (gi fars k)) := by
        have := gi_cell (l := fars) (i := (k : Int)) (by omega) (by rw [fars_len]; omega)
        simpa using this
      obtain ⟨hV1, hV2⟩ := hnil k (Nat.le_refl _) hlt
      go_wp2_with (first
        | (go_at_call 64; refine (gempty_any _).mono ?_; rintro e w2 ⟨rfl, hb2⟩)
        | (refine wpList_strow_new rfl _ _ rfl rfl rfl rfl rfl hfe ?_))
      have hzz := zeros60_len
      have hfl := far0_len (k : Int)
      have hr8 : (w2.alloc (Obj.cells ((ints fars).setIfInBounds k (.int .i64 0)) 77)).heap[w2.heap.size]? = some (.cells (ints (far0 k)) 77 (0, 0)) := by
        rw [World.alloc_heap_new, ints_set]; rfl
      have hB2 : Below wr.heap.size wr (w2.alloc (Obj.cells ((ints fars).setIfInBounds k (.int .i64 0)) 77)) := hb2.alloc hb2.size _
      generalize w2.alloc (Obj.cells ((ints fars).setIfInBounds k (.int .i64 0)) 77) = W2 at *
      have hW2 := hW.below hB2
      have zb := (Array.getElem?_eq_some_iff.1 hW2.box).1
      have z8 := (Array.getElem?_eq_some_iff.1 hr8).1
      have zw2 := hB2.size
      have zx := hb2.size
      have g1 := hW2.get (k * 2) (by omega)
      have g2 := hW2.get (k * 2 + 1) (by omega)
      refine SL.rule (by kernel_rfl) [w1.heap.size] [28, 29, 30, 31, 32, 33, 34] [SL.pu 28 [] (.slice (some ⟨w1.heap.size, 0, none⟩) P P), SL.pu 29 [] (.int .i64 k), SL.pu 30 [] (.agg (ints (far0 k))), SL.row 31 [2] [] W2.heap.size 77 60 1 (flat [far0 k]), SL.row 32 [] [] W2.heap.size 76 60 1 (flat [zeros60]),
        SL.pairR 33 [3, 4] [3, 4] W2.heap.size 1 (flat [far0 k]) (flat [zeros60]), SL.pu 34 [0, 1] (.pointer (some ⟨w1.heap.size, k * 2, none⟩)), SL.box2 [5, 6, 8] [5, 8] w1.heap.size (k * 2) cs W2.heap.size 1 (flat [far0 k]) (flat [zeros60]) [] [] W2.heap.size,
        SLF.at_ 0 [] [] w1.heap.size 82 cs] [7] (by kernel_rfl) (by kernel_rfl) _ (SL.one_held (N := w1.heap.size) rfl rfl ⟨hW2.box, rfl⟩ zb) SL.one_apart ?_ ?_
      · refine ⟨?_, ?_, ?_, ?_, ?_, ?_, ?_, ?_, trivial⟩
        all_goals refine SL.ob fun us w9 Fe hG hu hd hv K hK => ?_
        all_goals simp [SL.frame, SL.put', SL.Used, SL.Seen, SL.pu, SL.row, SL.box, SL.rowIn, SL.boxIn, SL.boxAt, SL.boxAtIn, Bd.v, Bd.cs, SLF.at_, SL.pairR, SL.box2] at hu hv hK ⊢
        all_goals (have hcc := hG.undrawn.block)
        all_goals (have hsz9 := hG.undrawn.size)
        all_goals (have hidx : ((k : Int) < (P : Int)) := by omega)
        all_goals try (go_step; refine hK _ _ _ _ (by simp [Act.put, *]; done) (SL.Chg.refl _ _) rfl rfl (by simp))
        · refine wp_load_row _ _ rfl w2.heap.size (by simp [Act.eval, SL.frame, SL.put']) _ _ _ _ ((hcc _ z8 (by simp; omega)).trans hr8) Tryz.underlying77 rfl (by rw [ints_size, hfl]; kernel_rfl) ?_
          exact hK _ _ _ _ rfl (SL.Chg.refl _ _) rfl rfl (by simp)
        · have hsi : (ints (far0 (k : Int))).size = 60 := by rw [ints_size, hfl]
          have hfi := fold_ints (far0 (k : Int)) hfl
          go_step
          exact hK _ (.slice (some ⟨w9.heap.size, 0, none⟩) 1 1) (w9.alloc (.cells (ints (far0 k)) 77)) _ (by simp [Act.put, *]; done) (.alloc _ _ _) (by simpa [flat, ints] using World.ownsRow_lit (base := W2.heap.size) (size := 60) w9 (ints (far0 k)) 1 (by omega) (by decide) (by rw [hsi])) rfl (by simp [Value.ownBlock])
        · go_step
          exact hK _ (.slice (some ⟨w9.heap.size, 0, none⟩) 1 1) (w9.alloc (.cells (ints zeros60) 76)) _ (by simp [Act.put, *]; done) (.alloc _ _ _) (by simpa [flat, ints] using World.ownsRow_lit (base := W2.heap.size) (size := 60) w9 (ints zeros60) 1 (by omega) (by decide) (by rw [ints_size, hzz])) rfl (by simp [Value.ownBlock])
        · obtain ⟨⟨u1, u2⟩, u3, u4⟩ := hu
          obtain ⟨sa, c, hsl, _⟩ := owns_slice u1
          obtain ⟨sa2, c2, hsl2, _⟩ := owns_slice u3
          have hdis := hd 3 4 (by simp [SL.pairR]) (by simp [SL.pairR]) (by simp)
          rw [u2, u4] at hdis
          go_step
          refine hK _ (.agg #[.slice sa 1 c, .slice sa2 1 c2]) _ _ (by simp [Act.put, *]; done) (.refl _ _) _ _ rfl (hsl ▸ u1) (hsl2 ▸ u3) (fun k' hk1 hk2 => hdis k' (by rw [hsl]; simpa using hk1) (by rw [hsl2]; simpa using hk2)) rfl ?_
          rw [u2, u4, hsl, hsl2]; simp; intro k' h; exact .inl h
        · obtain ⟨⟨y, z, u1, u2, u3, u4, u5⟩, ⟨u6, _⟩, u7, u8⟩ := hu
          obtain ⟨sa, c, hsl, _⟩ := owns_slice u2
          obtain ⟨sa2, cc, hsl2, _⟩ := owns_slice u3
          subst hsl
          subst hsl2
          have c1 := ((SL.cells_of u7).1 (k * 2)).trans g1
          have c2 := ((SL.cells_of u7).1 (k * 2 + 1)).trans g2
          have f1 := (SL.cells_of u7).2
          rw [hV1] at c1
          rw [hV2] at c2
          have hney : w1.heap.size ∉ (Value.slice sa 1 c).ownBlock.toList := fun h => by have := (SL.row_bounds u2 _ h).1; omega
          have hnez : w1.heap.size ∉ (Value.slice sa2 1 cc).ownBlock.toList := fun h => by have := (SL.row_bounds u3 _ h).1; omega
          go_step
          refine hK _ undef _ _ (by simp [Act.put, *]; done) (.trans (.setCell _ (by simp [u8]) _) (.setCell _ (by simp [u8]) _)) _ _ (SL.heap_set (SL.heap_set u7 _) _) (SL.row_set (p := ⟨w1.heap.size, _, none⟩) (SL.row_set (p := ⟨w1.heap.size, _, none⟩) u2 hney _) hney _) (SL.row_set (p := ⟨w1.heap.size, _, none⟩) (SL.row_set (p := ⟨w1.heap.size, _, none⟩) u3 hnez _) hnez _) (fun k' h => (SL.row_bounds u2 k' (by simpa using h)).1) (fun k' h => (SL.row_bounds u3 k' (by simpa using h)).1) u4 rfl ?_
          rw [u8, u5]; simp
          exact fun k' h => .inl (.inl h)
      · intro us w9 Fs hG hu hbd hd
        simp [SL.frame, SL.put', SL.Used, SL.Seen, SL.pu, SL.row, SL.box, SL.rowIn, SL.boxIn, SL.boxAt, SL.boxAtIn, Bd.v, Bd.cs, SLF.at_, SL.pairR, SL.box2] at hu ⊢
        obtain ⟨y, z, j1, j2, j3, j4, j5, j6, _⟩ := hu
        go_wp2
        go_roundw
        case rel =>
          have hG2 := hG.undrawn2
          have e1 : flat [far0 (k : Int)] = flat ((List.range 1).map (wS bs k)) := rfl
          have e2 : flat [zeros60] = flat ((List.range 1).map (wL bs k)) := rfl
          refine ⟨k + 1, _, _, by omega, by go_num, (hB.trans (hB2.mono (by omega))).trans (hG2.belowE (by omega) (by simp)), (CW.upd hW2 (m := 1) hlt (hG2.mono2 (by simp)) j1 (by rw [← e1]; exact SL.row_base j2 (by omega)) (by rw [← e2]; exact SL.row_base j3 (by omega)) (fun k' h1 h2 => j6 k' (by simpa using h1) (by simpa using h2))
            (fun k' h => .inr (by have := j4 k' (by simpa using h); simpa using this)) (fun k' h => .inr (by have := j5 k' (by simpa using h); simpa using this))).congr (fun q hq => ?_), fun q h1 h2 => ?_⟩
          · by_cases e : q = k
            · rw [if_pos e, if_pos (by omega)]
            · rw [if_neg e]
              by_cases e' : q < k
              · rw [if_pos e', if_pos (by omega)]
              · rw [if_neg e', if_neg (by omega)]
          · rw [if_neg (by omega), if_neg (by omega), if_neg (by omega), if_neg (by omega)]
            exact hnil q (by omega) h2
        case measure => simp [intOf]; omega
    · obtain rfl : k = P := by omega
      have hW1 := hW.congr (n' := fun _ => 1) (fun q hq => by simp [hq])
      have hs0 := ((bcell hB).1 _ 0 zs).trans s0
      have hs1 := ((bcell hB).1 _ 1 zs).trans s1
      have zw0 : w.heap.size < wr.heap.size := Nat.lt_of_lt_of_le zs hB.size
      clear hnil hmk hmk2 hst
      go_wp2_with fail
      go_step3
      go_wp2_with fail
      go_loopw [38, 9] (fun i o wo => o = .slice none 0 0 ∧ ∃ (r : Nat) (V : Nat → Value) (cs : Array Value), r ≤ k ∧ i = .int .i64 r ∧ Below w1.heap.size w1 wo ∧ CW k w1.heap.size bs (fun _ => r + 1) wo V cs ∧ ∀ t, t < r * k → crcT k bs t = false) (fun i _ _ => k - (intOf i).toNat)
      case atStart => exact ⟨rfl, 0, V, cs, Nat.zero_le _, rfl, hB, hW1, fun t ht => by omega⟩
      case round =>
        rename World => wo
        obtain ⟨rfl, r, Vo, cso, hr, rfl, hBo, hWo, hnoo⟩ := hrel
        by_cases hrl : r < k
        · go_wp2_with fail
          go_loopw [42, 9] (fun i o wi => o = .slice none 0 0 ∧ ∃ (q : Nat) (V : Nat → Value) (cs : Array Value), q ≤ k ∧ i = .int .i64 q ∧ Below w1.heap.size w1 wi ∧ CW k w1.heap.size bs (fun q' => if q' < q then r + 2 else r + 1) wi V cs ∧ ∀ t, t < r * k + q → crcT k bs t = false) (fun i _ _ => k - (intOf i).toNat)
          case atStart => exact ⟨rfl, 0, Vo, cso, Nat.zero_le _, rfl, hBo, hWo.congr (fun q hq => by simp), hnoo⟩
          case round =>
            rename World => wi
            obtain ⟨rfl, q, Vi, csi, hq, rfl, hBi, hWi, hnoi⟩ := hrel
            by_cases hql : q < k
            · have hq60 : q < 60 := by omega
              have zi := hBi.size
              have hi0 := ((bcell hBi).1 _ 0 zs).trans s0
              have hi1 := ((bcell hBi).1 _ 1 zs).trans s1
              have zwi : w.heap.size < wi.heap.size := Nat.lt_of_lt_of_le zs hBi.size
              have r1 := hWi.r1 q hql
              have r2 := hWi.r2 q hql
              rw [if_neg (Nat.lt_irrefl q)] at r1 r2
              have hgd : ((List.range (r + 1)).map (wS bs q)).getD r [] = wS bs q r := range_getD _ _ _ (by omega)
              have hlg := glonger_any k a bs.length cap bs w1.heap.size (q * 2) csi (Vi (q * 2)) (Vi (q * 2 + 1)) r (w1.heap.size + 1) ((List.range (r + 1)).map (wS bs q)) ((List.range (r + 1)).map (wL bs q)) wi (hbw1.below hBi) h402 hin (by omega)
                (by intro x hx; obtain ⟨i, _, rfl⟩ := List.mem_map.1 hx; exact wS_len _ _ _) (by intro x hx; obtain ⟨i, _, rfl⟩ := List.mem_map.1 hx; exact wL_len _ _ _)
                (by rw [hgd]; intro j j0 j1; have := wS_rng hin hq60 r j j0 j1; omega) hWi.box (hWi.get _ (by omega)) (hWi.get _ (by omega)) r1 r2 (hWi.dis _ _ (by omega) (by omega) (by omega))
                (fun h => by have := (hWi.block (i := q * 2) (by omega) _ h).1; omega) (fun h => by have := (hWi.block (i := q * 2 + 1) (by omega) _ h).1; omega) (by have := (Array.getElem?_eq_some_iff.1 hWi.box).1; omega)
                (fun z hz => by
                  have := hax z hz
                  exact ⟨by omega, fun h => by have := (hWi.block (i := q * 2) (by omega) _ h).1; omega, fun h => by have := (hWi.block (i := q * 2 + 1) (by omega) _ h).1; omega⟩)
              rw [hgd, show (lng bs (wS bs q r) bs.length).1 = wS bs q (r + 1) from rfl, show (lng bs (wS bs q r) bs.length).2 = wL bs q (r + 1) from rfl,
                show (List.range (r + 1)).map (wS bs q) ++ [wS bs q (r + 1)] = (List.range (r + 2)).map (wS bs q) by simp [List.range_succ], show (List.range (r + 1)).map (wL bs q) ++ [wL bs q (r + 1)] = (List.range (r + 2)).map (wL bs q) by simp [List.range_succ]] at hlg
              have htq : crcT k bs (r * k + q) = decide (gi (wS bs q (r + 1)) (q : Int) < 0) := by
                unfold crcT
                rw [Nat.mul_comm, Nat.mul_add_mod, Nat.mod_eq_of_lt hql, Nat.mul_add_div (by omega), Nat.div_eq_of_lt hql, Nat.add_zero]
              clear r1 r2
              go_wp2_with fail
              refine hlg.mono ?_
              rintro e w3 ⟨rfl, u1, u2, hL⟩
              have hW3 := hWi.upd (m := r + 2) hql hL.chg hL.box hL.r1 hL.r2 hL.dis hL.new1 hL.new2
              have hB3 : Below w1.heap.size w1 w3 := hBi.trans (hL.chg.belowE zi (fun y hy => by
                rcases List.mem_cons.1 hy with h | h
                · omega
                · rcases List.mem_append.1 h with h | h
                  · have := (hWi.block (i := q * 2) (by omega) _ h).1; omega
                  · have := (hWi.block (i := q * 2 + 1) (by omega) _ h).1; omega))
              have g1 : w3.cell? ⟨w1.heap.size, q * 2, none⟩ = some u1 := by
                have := ((SL.cells_of hW3.box).1 (q * 2)).trans (hW3.get (q * 2) (by omega))
                simpa using this
              have g2 : w3.cell? ⟨w1.heap.size, q * 2 + 1, none⟩ = some u2 := by
                have := ((SL.cells_of hW3.box).1 (q * 2 + 1)).trans (hW3.get (q * 2 + 1) (by omega))
                simpa using this
              have hr1 := hL.r1
              have hr2 := hL.r2
              clear hlg
              obtain ⟨gg, cc, rfl, _, hgl, _, hcc1, hcc2, _, hrow⟩ := rows_at hr1 (by intro x hx; obtain ⟨i, _, rfl⟩ := List.mem_map.1 hx; exact wS_len _ _ _) (by omega)
              have hS : w3.cell? ⟨gg, (r + 1) * 60 + q, none⟩ = some (.int .i64 (gi (wS bs q (r + 1)) (q : Int))) := by
                have hl := wS_len bs q (r + 1)
                refine hrow (r + 1) (by omega) q _ ?_
                rw [range_getD _ _ _ (by omega)]
                simp [gi, List.getD_eq_getElem?_getD, List.getElem?_eq_getElem (show q < (wS bs q (r + 1)).length by omega)]
              have hk0 := ((bcell hB3).1 _ 0 zs).trans s0
              have hk1 := ((bcell hB3).1 _ 1 zs).trans s1
              have hbk := gback_walk k a bs.length cap bs q (r + 1) (q : Int) w1.heap.size (q * 2) u2 (w1.heap.size + 1)
              have hwr : IntKind.i64.wrap ((r : Int) + 2 - 1) = (r : Int) + 1 := by rw [show (r : Int) + 2 - 1 = (r : Int) + 1 by omega]; exact IntWalk.i64_in _ (by omega)
              have hx0 : (0 : Int) ≤ (r : Int) + 1 := by omega
              have hx1 : ((r : Int) + 1).toNat = r + 1 := by omega
              have hCn : CW k w1.heap.size bs (fun q' => if q' < q + 1 then r + 2 else r + 1) w3 _ _ := hW3.congr (fun q' hq' => by
                by_cases e : q' = q
                · rw [if_pos e, if_pos (by omega)]
                · rw [if_neg e]
                  by_cases e' : q' < q
                  · rw [if_pos e', if_pos (by omega)]
                  · rw [if_neg e', if_neg (by omega)])
              by_cases hneg : gi (wS bs q (r + 1)) (q : Int) < 0
              · have hneg' : decide (gi (wS bs q (r + 1)) (q : Int) < 0) = true := by simpa using hneg
                rw [hneg'] at htq
                have Htq := Lib.hid htq
                have hfar : gi (wS bs q (r + 1)) (q : Int) < FAR := by unfold FAR; omega
                clear htq hW3
                generalize gi (wS bs q (r + 1)) (q : Int) = gv at *
                go_wp2_with fail
                go_quiet (fail)
                go_wp2_with fail
                refine (hbk (w3.drewN nq) (hbw1.below (belowN hB3)) h402 hin (by omega) (by omega) (by omega) hfar g2 (SL.row_stab hr2 fun _ _ => rfl)).mono ?_
                rintro e w4 ⟨v, rfl, hb4, ho4⟩
                obtain ⟨sa, sc, rfl, _⟩ := owns_slice ho4
                have hcl : crcL k bs = (bkC bs q (r + 1) (q : Int)).reverse := crcL_hit hql hrl hnoi Htq.out
                have hl1 := bkC_len bs q (r + 1) (q : Int)
                rw [show (bkC bs q (r + 1) (q : Int)).reverse = crcL k bs from hcl.symm] at ho4
                have hcn : decide (crcL k bs ≠ []) = true := by
                  rw [hcl]; simp
                  intro h; rw [h] at hl1; simp at hl1
                have hcl2 : (crcL k bs).length = r + 1 := by rw [hcl]; simp [hl1]
                have Hc := Lib.hid (And.intro hcn hcl2)
                clear hcn hcl2 hcl hl1
                have zw3 := hB3.size
                go_wp2_with fail
                try rw [Exit.noGoto_ret]
                refine bodyPost_ret (v := .tuple #[.slice sa (r + 1) sc, .bool true, .int .i64 0]) (by simp [results, Tryz.results29, go_sem, *]) rfl ⟨_, by rw [Hc.out.1], ?_, ?_⟩
                · exact hB1.trans ((belowN hB3).trans (hb4.mono zw3) |>.mono hB1.size)
                · rw [Hc.out.2]
                  exact SL.row_base ho4 (by have := hB1.size; show w.heap.size ≤ w3.heap.size; omega)
              · have hneg' : decide (gi (wS bs q (r + 1)) (q : Int) < 0) = false := by simpa using hneg
                rw [hneg'] at htq
                have Htq := Lib.hid htq
                clear htq hbk hW3
                generalize gi (wS bs q (r + 1)) (q : Int) = gv at *
                go_wp2_with fail
                go_quiet (fail)
                go_wp2
                go_roundw
                case rel =>
                  refine ⟨rfl, q + 1, _, _, by omega, by go_num, belowN hB3, hCn.below (belowN (Below.refl _ _)), fun t ht => ?_⟩
                  by_cases e : t = r * k + q
                  · rw [e]; exact Htq.out
                  · exact hnoi t (by omega)
                case measure => simp [intOf]; omega
            · obtain rfl : q = k := by omega
              go_wp2_with fail
              go_roundw
              case rel => exact ⟨rfl, r + 1, Vi, csi, by omega, by go_num, hBi, hWi.congr (fun q' hq' => by simp [hq']), fun t ht => hnoi t (by rw [Nat.add_mul] at ht; omega)⟩
              case measure => simp [intOf]; omega
        · obtain rfl : r = k := by omega
          go_wp2_with fail
          try rw [Exit.noGoto_ret]
          have hcl : crcL r bs = [] := crcL_none hnoo
          refine bodyPost_ret (v := .tuple #[.slice none 0 0, .bool false, .int .i64 0]) (by simp [results, Tryz.results29, go_sem, *]) rfl ⟨_, by rw [hcl]; rfl, hB1.trans (hBo.mono hB1.size), ?_⟩
          rw [hcl]
          exact World.ownsRow_nil _ _ _ _

def crcB (p : Int) (bs : List Bd) : Bool := decide (chk p bs = 0) && decide (crcL p bs ≠ [])
def circL (p : Int) (bs : List Bd) : List Int := if chk p bs = 0 then crcL p bs else []

theorem gCircle_any (p : Int) (a : Option Addr) (n cap : Nat) (bs : List Bd) (w : World) (hb : BdsAt w a n cap bs) :
    Calls Tryz.prog 29 #[.agg #[.int .i64 p, .slice a n cap]] w fun e w' => ∃ v, e = .returned (.tuple #[v, .bool (crcB p bs), .int .i64 (chk p bs)]) ∧ Below w.heap.size w w' ∧ w'.ownsRow w.heap.size 3 1 v (circL p bs).length ((circL p bs).map (.int .i64)) := by
  by_cases h0 : chk p bs = 0
  · have hp := (Sys.of_chk h0).p1
    obtain ⟨P, rfl⟩ := Int.eq_ofNat_of_zero_le (show 0 ≤ p by omega)
    refine (gCircle_ok P a n cap bs w hb h0).mono ?_
    rintro e w' ⟨v, rfl, hB, ho⟩
    exact ⟨v, by simp [crcB, h0], hB, by simpa [circL, h0] using ho⟩
  · have h0' : (chk p bs == 0) = false := by simpa using h0
    have hb0 : Below w.heap.size w (w.alloc (Obj.cells #[.int .i64 p, .slice a n cap] 24)) := (Below.refl _ _).alloc (Nat.le_refl _) _
    have hC := gcheck_any p a n cap bs _ (hb.below hb0)
    have e1 : crcB p bs = false := by simp [crcB, h0]
    have e2 : circL p bs = [] := by simp [circL, h0]
    rw [e1, e2]
    clear e1 e2
    generalize chk p bs = c at *
    go_enter Tryz.func29, Tryz.ntmps29
    go_wp2_with fail
    go_step3
    go_wp2_with (go_at_call 10; refine (hC).mono ?_; rintro e w1 ⟨rfl, hb1⟩; obtain ⟨hc1, hf1⟩ := bcell hb1; have hz1a := lt_size hb1 (b := w.heap.size) (by first | assumption | omega | (simp; done) | (simp; omega)))
    try rw [Exit.noGoto_ret]
    refine bodyPost_ret (v := .tuple #[.slice none 0 0, .bool false, .int .i64 c]) (by simp [results, Tryz.results29, go_sem, *]) rfl ⟨_, rfl, hb0.trans (hb1.mono (by simp)), World.ownsRow_nil _ _ _ _⟩
end Go.Proofs.YtlkcfohmoeadbaaGreat

/-
  The chapter's example, as data.
-/
namespace Go.Proofs.YtlkcfohmoeadbaaGreat
set_option maxRecDepth 100000

def T3 : List Bd := [⟨0, 1, 5, 7⟩, ⟨1, 0, -2, 8⟩, ⟨1, 2, 4, 9⟩, ⟨2, 1, -4, 9⟩]
def C3 : List Bd := T3 ++ [⟨1, 0, -6, 5⟩]

theorem d_chk : chk 3 T3 = 0 := by decide +kernel
theorem d_with : withE 3 T3 ⟨1, 0, -6, 5⟩ = 0 := by decide +kernel
theorem d_chkC : chk 3 C3 = 0 := by decide +kernel
theorem d_ok : okB 3 T3 = true := by decide +kernel
theorem d_sol : solR 3 T3 = [-6, -4, 0] := by decide +kernel
theorem d_ask (x y : Int) (h : both 3 x y = true) : askE 3 T3 x y = 0 := by simp [askE, d_chk, d_ok, h]
theorem d_gr1 : grN 3 T3 0 2 = 9 := by decide +kernel
theorem d_gr2 : grB 3 T3 0 2 = true := by decide +kernel
theorem d_le1 : grN 3 T3 1 0 = -2 := by decide +kernel
theorem d_le2 : grB 3 T3 1 0 = true := by decide +kernel
theorem d_at1 : attE 3 T3 0 1 3 = 0 := by decide +kernel
theorem d_at2 : attF 3 T3 0 1 3 = true := by decide +kernel
theorem d_at3 : solR 3 (attT T3 0 1 3) = [-7, -4, 0] := by decide +kernel
theorem d_re : restsL 3 T3 0 2 true = [7, 9] := by decide +kernel
theorem d_do1 : dbtB 3 C3 = true := by decide +kernel
theorem d_do2 : dbtL 3 C3 = [5, 7] := by decide +kernel
theorem d_ci1 : crcB 3 C3 = true := by decide +kernel
theorem d_ci2 : (circL 3 C3).length = 2 := by decide +kernel
theorem d_cg1 : cgE 3 T3 ⟨0, 1, 3, 6⟩ 0 = 0 := by decide +kernel
theorem d_cg2 : cgL 3 T3 ⟨0, 1, 3, 6⟩ 0 = [1, 2] := by decide +kernel
theorem d_ri : rigL 3 T3 3 = [0, 1, 1] := by decide +kernel
end Go.Proofs.YtlkcfohmoeadbaaGreat

/-
  The laws' helpers, walked: three, wide, small, Same.
-/
namespace Go.Proofs.YtlkcfohmoeadbaaGreat
open Go.RowKit Go.Shelf
set_option maxHeartbeats 1000000
set_option maxRecDepth 100000

theorem drew_below {B n : Nat} {a b : World} (h : Below B a b) : Below B a (b.drewN n) := belowN h

theorem rsame_any (a1 a2 : Option Addr) (n1 n2 c1 c2 : Nat) (xs ys : List Int) (w : World) (hx : IntsAt w a1 n1 c1 xs) (hy : IntsAt w a2 n2 c2 ys) :
    Calls Tryz.prog 21 #[.slice a1 n1 c1, .slice a2 n2 c2] w fun e w' => e = .returned (.bool (decide (xs = ys))) ∧ Below w.heap.size w w' := by
  have hlx := hx.small
  have hly := hy.small
  obtain rfl := hx.len
  obtain rfl := hy.len
  by_cases hl : xs.length = ys.length
  · have hl' : ((xs.length : Int) != (ys.length : Int)) = false := by simp [hl]
    have Hl := Lib.hid hl
    clear hl
    go_enter Tryz.func21, Tryz.ntmps21
    go_wp2_with fail
    go_loopw [5] (fun i wr => ∃ k : Nat, k ≤ xs.length ∧ i = .int .i64 k ∧ Below w.heap.size w wr ∧ ∀ j, j < k → xs.getD j 0 = ys.getD j 0) (fun i _ => xs.length - (intOf i).toNat)
    case atStart => exact ⟨0, Nat.zero_le _, rfl, Below.refl _ _, fun j hj => by omega⟩
    case round =>
      obtain ⟨k, hk, rfl, hB, hall⟩ := hrel
      have Hall := Lib.hid hall
      clear hall
      by_cases hlt : k < xs.length
      · obtain ⟨b1, o1, rfl, _, d0⟩ := (hx.below hB).get hlt
        obtain ⟨b2, o2, rfl, _, d1⟩ := (hy.below hB).get (i := k) (by rw [← Hl.out]; exact hlt)
        have hlt2 : k < ys.length := by rw [← Hl.out]; exact hlt
        have hnn : (0 : Int) ≤ k := by omega
        have i1 : (k : Int) < (xs.length : Int) := by omega
        have i2 : (k : Int) < (ys.length : Int) := by omega
        by_cases e : xs.getD k 0 = ys.getD k 0
        · obtain ⟨u, hu⟩ : ∃ u, xs.getD k 0 = u := ⟨_, rfl⟩
          have He := Lib.hid e
          rw [hu] at d0
          rw [← e, hu] at d1
          have e' : (u != u) = false := by simp
          clear e hu
          go_wp2_with fail
          go_quiet (fail)
          go_wp2
          go_roundw
          case rel => exact ⟨k + 1, by omega, by go_num, belowN hB, fun j hj => by
            by_cases h : j = k
            · rw [h]; exact He.out
            · exact Hall.out j (by omega)⟩
          case measure => simp [intOf]; omega
        · obtain ⟨u, hu⟩ : ∃ u, xs.getD k 0 = u := ⟨_, rfl⟩
          obtain ⟨v, hv⟩ : ∃ v, ys.getD k 0 = v := ⟨_, rfl⟩
          have He := Lib.hid e
          rw [hu] at d0
          rw [hv] at d1
          rw [hu, hv] at e
          have e' : (u != v) = true := by simpa using e
          clear e hu hv
          go_wp2_with fail
          go_quiet (fail)
          go_wp2
          go_ret
          refine ⟨ret_bool ?_, belowN hB⟩
          symm
          rw [decide_eq_false_iff_not]
          intro h
          exact He.out (by rw [h])
      · go_wp2_with fail
        go_ret
        refine ⟨ret_bool ?_, hB⟩
        symm
        rw [decide_eq_true_eq]
        apply List.ext_getElem Hl.out
        intro i h1 h2
        have := Hall.out i (by omega)
        simpa [List.getD_eq_getElem?_getD, List.getElem?_eq_getElem h1, List.getElem?_eq_getElem h2] using this
  · have hl' : ((xs.length : Int) != (ys.length : Int)) = true := by simp; omega
    go_enter Tryz.func21, Tryz.ntmps21
    go_wp2
    go_ret
    exact ⟨ret_bool (by simp; intro h; rw [h] at hl; exact hl rfl), Below.refl _ _⟩

theorem lwide_any (p : Int) (a : Option Addr) (n cap : Nat) (w : World) (hn : n ≤ 140737488351232) :
    Calls Tryz.prog 4 #[.agg #[.int .i64 p, .slice a n cap]] w fun e w' => e = .returned (.bool (decide (n ≤ 403))) ∧ Below w.heap.size w w' := by
  by_cases h : (n : Int) ≤ 403
  · go_enter Tryz.func4, Tryz.ntmps4
    go_wp2
    go_ret
    exact ⟨ret_bool (by symm; simp; omega), (Below.refl _ _).alloc (Nat.le_refl _) _⟩
  · go_enter Tryz.func4, Tryz.ntmps4
    go_wp2
    go_ret
    exact ⟨ret_bool (by symm; simp; omega), (Below.refl _ _).alloc (Nat.le_refl _) _⟩

theorem lthree_any (w : World) : Calls Tryz.prog 22 #[] w fun e w' => ∃ v, e = .returned (.agg #[.int .i64 3, v]) ∧ w'.ownsRow w.heap.size 26 4 v 4 (bcs T3) ∧ Below w.heap.size w w' := by
  go_enter Tryz.func22, Tryz.ntmps22
  go_wp2
  refine bodyPost_ret (v := .agg #[.int .i64 3, .slice (some ⟨w.heap.size + 1, 0, none⟩) 4 4]) (by simp [results, Tryz.results22, go_sem, *]) rfl ⟨_, rfl, ?_, by ((repeat (first | assumption | exact Below.refl _ _ | refine Below.alloc ?_ ?_ _ | refine Below.setCell ?_ ?_ _ | refine Below.drew ?_ | refine belowN ?_ | refine Below.up ?_ (by assumption) ?_)) <;> (first | assumption | omega | (simp; done) | (simp; omega)))⟩
  have h := World.ownsRow_lit (base := w.heap.size) (e := 26) (size := 4) (w.alloc (Obj.cells #[.int .i64 3, .slice (some ⟨w.heap.size + 1, 0, none⟩) 4 4] 24)) (bcs T3).toArray 4 (by simp) (by decide) rfl
  rw [World.size_alloc] at h
  exact h

/-- The example's calls. -/
theorem aWith (a : Option Addr) (c : Nat) (w : World) (hb : BdsAt w a 4 c T3) : Calls Tryz.prog 12 #[.agg #[.int .i64 3, .slice a 4 c], .agg #[.int .i64 1, .int .i64 0, .int .i64 (-6), .int .i64 5]] w fun e w' => ∃ v, e = .returned (.tuple #[.agg #[.int .i64 3, v], .int .i64 0]) ∧ w'.ownsRow w.heap.size 26 4 v 5 (bcs C3) ∧ Below w.heap.size w w' := by
  refine (gWith_any 3 a 4 c T3 ⟨1, 0, -6, 5⟩ w hb).mono ?_
  rintro e w' ⟨v, rfl, ho, h⟩
  have hl : withL 3 T3 ⟨1, 0, -6, 5⟩ = C3 := by simp [withL, d_with, C3]
  rw [hl] at ho
  exact ⟨v, by rw [d_with]; rfl, ho, h⟩
theorem aSolve (a : Option Addr) (c : Nat) (w : World) (hb : BdsAt w a 4 c T3) : Calls Tryz.prog 23 #[.agg #[.int .i64 3, .slice a 4 c]] w fun e w' => ∃ v, e = .returned (.tuple #[v, .bool true, .int .i64 0]) ∧ w'.ownsRow w.heap.size 3 1 v 3 ([-6, -4, 0].map (.int .i64)) ∧ Below w.heap.size w w' := by
  refine (gSolve_any 3 a 4 c T3 w hb).mono ?_
  rintro e w' ⟨v, rfl, h, _, ho⟩
  have := ho d_chk d_ok
  rw [d_sol] at this
  exact ⟨v, by rw [d_chk, d_ok]; rfl, this, h⟩
theorem aGreatest (a : Option Addr) (c : Nat) (w : World) (hb : BdsAt w a 4 c T3) : Calls Tryz.prog 24 #[.agg #[.int .i64 3, .slice a 4 c], .int .i64 0, .int .i64 2] w fun e w' => e = .returned (.tuple #[.int .i64 9, .bool true, .int .i64 0]) ∧ Below w.heap.size w w' := by
  have h := gGreatest_any 3 a 4 c T3 0 2 w hb
  rw [d_gr1, d_gr2, d_ask 0 2 (by decide)] at h
  exact h
theorem aLeast (a : Option Addr) (c : Nat) (w : World) (hb : BdsAt w a 4 c T3) : Calls Tryz.prog 25 #[.agg #[.int .i64 3, .slice a 4 c], .int .i64 0, .int .i64 1] w fun e w' => e = .returned (.tuple #[.int .i64 2, .bool true, .int .i64 0]) ∧ Below w.heap.size w w' := by
  have h := gLeast_any 3 a 4 c T3 0 1 w hb
  rw [d_le1, d_le2, d_ask 1 0 (by decide)] at h
  exact h
theorem aAttain (a : Option Addr) (c : Nat) (w : World) (hb : BdsAt w a 4 c T3) : Calls Tryz.prog 26 #[.agg #[.int .i64 3, .slice a 4 c], .int .i64 0, .int .i64 1, .int .i64 3] w fun e w' => ∃ v, e = .returned (.tuple #[v, .bool true, .int .i64 0]) ∧ w'.ownsRow w.heap.size 3 1 v 3 ([-7, -4, 0].map (.int .i64)) ∧ Below w.heap.size w w' := by
  refine (gAttain_any 3 a 4 c T3 0 1 3 w hb).mono ?_
  rw [d_at1, d_at2, d_at3]
  rintro e w' ⟨v, rfl, h, _, ho⟩
  exact ⟨v, rfl, ho rfl, h⟩
theorem aRests (a : Option Addr) (c : Nat) (w : World) (hb : BdsAt w a 4 c T3) : Calls Tryz.prog 27 #[.agg #[.int .i64 3, .slice a 4 c], .int .i64 0, .int .i64 2, .bool true] w fun e w' => ∃ v, e = .returned (.tuple #[v, .int .i64 0]) ∧ w'.ownsRow w.heap.size 3 1 v 2 ([7, 9].map (.int .i64)) ∧ Below w.heap.size w w' := by
  refine (gRests_any 3 a 4 c T3 0 2 true w hb).mono ?_
  rw [d_ask 0 2 (by decide), d_re]
  rintro e w' ⟨v, rfl, h, ho⟩
  exact ⟨v, rfl, ho, h⟩
theorem aDoubt (a : Option Addr) (c : Nat) (w : World) (hb : BdsAt w a 5 c C3) : Calls Tryz.prog 28 #[.agg #[.int .i64 3, .slice a 5 c]] w fun e w' => ∃ v, e = .returned (.tuple #[v, .bool true, .int .i64 0]) ∧ w'.ownsRow w.heap.size 3 1 v 2 ([5, 7].map (.int .i64)) ∧ Below w.heap.size w w' := by
  refine (gDoubt_any 3 a 5 c C3 w hb).mono ?_
  rw [d_do1, d_do2, d_chkC]
  rintro e w' ⟨v, rfl, h, ho⟩
  exact ⟨v, rfl, ho, h⟩
theorem aCircle (a : Option Addr) (c : Nat) (w : World) (hb : BdsAt w a 5 c C3) : Calls Tryz.prog 29 #[.agg #[.int .i64 3, .slice a 5 c]] w fun e w' => ∃ sa sc, e = .returned (.tuple #[.slice sa 2 sc, .bool true, .int .i64 0]) ∧ Below w.heap.size w w' := by
  refine (gCircle_any 3 a 5 c C3 w hb).mono ?_
  rw [d_ci1, d_chkC]
  rintro e w' ⟨v, rfl, h, ho⟩
  obtain ⟨sa, sc, rfl, _⟩ := owns_slice ho
  rw [d_ci2]
  exact ⟨sa, sc, rfl, h⟩
theorem aChanged (a : Option Addr) (c : Nat) (w : World) (hb : BdsAt w a 4 c T3) : Calls Tryz.prog 30 #[.agg #[.int .i64 3, .slice a 4 c], .agg #[.int .i64 0, .int .i64 1, .int .i64 3, .int .i64 6], .int .i64 0] w fun e w' => ∃ v, e = .returned (.tuple #[v, .int .i64 0]) ∧ w'.ownsRow w.heap.size 3 1 v 2 ([1, 2].map (.int .i64)) ∧ Below w.heap.size w w' := by
  refine (gChanged_any 3 a 4 c T3 ⟨0, 1, 3, 6⟩ 0 w hb).mono ?_
  rw [d_cg1, d_cg2]
  rintro e w' ⟨v, rfl, h, ho⟩
  exact ⟨v, rfl, ho, h⟩
theorem aRigid (a : Option Addr) (c : Nat) (w : World) (hb : BdsAt w a 4 c T3) : Calls Tryz.prog 31 #[.agg #[.int .i64 3, .slice a 4 c]] w fun e w' => ∃ v, e = .returned (.tuple #[v, .int .i64 0]) ∧ w'.ownsRow w.heap.size 3 1 v 3 ([0, 1, 1].map (.int .i64)) ∧ Below w.heap.size w w' := by
  refine (gRigid_any 3 a 4 c T3 w hb).mono ?_
  rw [d_ask 0 0 (by decide), show (3 : Int).toNat = 3 from rfl, d_ri]
  rintro e w' ⟨v, rfl, h, _, ho⟩
  exact ⟨v, rfl, ho rfl, h⟩
end Go.Proofs.YtlkcfohmoeadbaaGreat

/-
  Lemmas and walks for the laws on bounds and their sums; the parts' own heads say what each proves, for every input.
-/
import Derived.Test.YtlkcfohmoeadbaaGreatPk12
import Derived.Test.YtlkcfohmoeadbaaGreatPk04
import Derived.Test.YtlkcfohmoeadbaaGreatPk13
import Derived.Test.YtlkcfohmoeadbaaGreatPk10
import Derived.Test.YtlkcfohmoeadbaaGreatPk23
import Derived.Test.YtlkcfohmoeadbaaGreatPk17
set_option linter.unusedSimpArgs false
set_option linter.unusedVariables false
set_option linter.unnecessarySimpa false
/-
  The reference of layer 1, walked: less, with, only, all.
-/
namespace Go.Proofs.YtlkcfohmoeadbaaGreat
open Go.RowKit Go.Shelf
set_option maxHeartbeats 1000000
set_option maxRecDepth 100000
theorem IntsAt.sub {w : World} {b off cap : Nat} {xs : List Int} (h : RowAt w (some ⟨b, off, none⟩) cap (xs.map (.int .i64))) (i : Nat) {a2 : Option Addr} {c2 : Nat} (ha : a2 = some ⟨b, off + i, none⟩ ∨ (xs.length ≤ i ∧ ∃ o2, a2 = some ⟨b, o2, none⟩)) : RowAt w a2 c2 ((xs.drop i).map (.int .i64)) := by
  obtain ⟨_, h2, h3⟩ := h.at_ _ rfl
  rcases ha with rfl | ⟨hl, o2, rfl⟩
  · refine ⟨fun h => (by cases h), fun x hx => ?_⟩
    obtain rfl := Option.some.inj hx
    refine ⟨rfl, h2, fun j u hj => ?_⟩
    have := h3 (i + j) u (by simpa [List.getElem?_map, List.getElem?_drop] using hj)
    simpa [Nat.add_assoc] using this
  · rw [List.drop_eq_nil_of_le hl]
    refine ⟨fun h => (by cases h), fun x hx => ?_⟩
    obtain rfl := Option.some.inj hx
    exact ⟨rfl, h2, fun j u hj => by simp at hj⟩
theorem IntsAt.take {w : World} {a : Option Addr} {cap : Nat} {xs : List Int} (h : RowAt w a cap (xs.map (.int .i64))) (i : Nat) : RowAt w a cap ((xs.take i).map (.int .i64)) := by
  refine ⟨fun h0 => ?_, fun x hx => ?_⟩
  · obtain ⟨h1, h2⟩ := h.nil h0
    simp at h1
    subst h1
    exact ⟨by simp, h2⟩
  · obtain ⟨h1, h2, h3⟩ := h.at_ x hx
    refine ⟨h1, h2, fun j u hj => h3 j u ?_⟩
    have hl : j < (xs.take i).length := by have := (List.getElem?_eq_some_iff.1 hj).1; simpa using this
    rw [List.getElem?_map, List.getElem?_take_of_lt (by simp at hl; omega)] at hj
    rw [List.getElem?_map]; exact hj

theorem RowAt.chg {w w' : World} {a : Option Addr} {cap : Nat} {vs : List Value} {E : List Nat} (h : RowAt w a cap vs) (hc : SL.Chg E w w') (hE : ∀ x, a = some x → x.block ∉ E) : RowAt w' a cap vs := by
  refine ⟨h.nil, fun x hx => ?_⟩
  obtain ⟨h1, h2, h3⟩ := h.at_ x hx
  exact ⟨h1, by have := hc.size; omega, fun i u hi => Eq.trans (World.cell?_of_block (w := w) (a := ⟨x.block, x.off + i, none⟩) (hc.block _ h2 (hE x hx))) (h3 i u hi)⟩

theorem insI_at {n : Int} : ∀ (k : Nat) (xs : List Int), k ≤ xs.length → (∀ j, j < k → xs.getD j 0 < n) → insI n xs = xs.take k ++ insI n (xs.drop k)
  | 0, xs, _, _ => by simp
  | k + 1, [], h, _ => by simp at h
  | k + 1, x :: xs, h, hj => by
    have h0 := hj 0 (by omega)
    simp at h0
    have ih := insI_at (n := n) k xs (by simpa using h) (fun j hk => by have := hj (j + 1) (by omega); simpa using this)
    simp only [insI, if_pos h0, List.take_succ_cons, List.drop_succ_cons, List.cons_append, ih]

theorem insI_end {n : Int} {xs : List Int} (h : ∀ j, j < xs.length → xs.getD j 0 < n) : insI n xs = xs ++ [n] := by
  rw [insI_at xs.length xs (Nat.le_refl _) h]; simp [insI]
theorem insI_same {n : Int} {xs : List Int} {k : Nat} (hk : k < xs.length) (h : ∀ j, j < k → xs.getD j 0 < n) (he : xs.getD k 0 = n) : insI n xs = xs := by
  rw [insI_at k xs (by omega) h, List.drop_eq_getElem_cons hk]
  have : xs[k] = n := by rw [← he]; simp [List.getD_eq_getElem?_getD, List.getElem?_eq_getElem hk]
  rw [insI, if_neg (by omega), if_pos this, ← List.drop_eq_getElem_cons hk, List.take_append_drop]
theorem insI_mid {n : Int} {xs : List Int} {k : Nat} (hk : k < xs.length) (h : ∀ j, j < k → xs.getD j 0 < n) (he : n < xs.getD k 0) : insI n xs = xs.take k ++ [n] ++ xs.drop k := by
  rw [insI_at k xs (by omega) h, List.drop_eq_getElem_cons hk]
  have : n < xs[k] := by
    have : xs.getD k 0 = xs[k] := by simp [List.getD_eq_getElem?_getD, List.getElem?_eq_getElem hk]
    omega
  rw [insI, if_neg (by omega), if_neg (by omega)]
  simp


theorem rwith_any (v : Value) (xs : List Int) (x : Int) (base : Nat) (w : World) (hown : w.ownsRow base 3 1 v xs.length (xs.map (.int .i64))) (hn : xs.length ≤ 100000) (hbase : base ≤ w.heap.size) :
    Calls Tryz.prog 51 #[v, .int .i64 x] w fun e w' => ∃ v', e = .returned v' ∧ w'.ownsRow base 3 1 v' (insI x xs).length ((insI x xs).map (.int .i64)) ∧ Below w.heap.size w w' := by
  obtain ⟨sa, c, rfl, _⟩ := owns_slice hown
  have hx := IntsAt.of_owns hown (by omega)
  rcases hown.2 with ⟨hv, h0⟩ | ⟨b, cap, cur, hv, hbg, _, hcap, _⟩
  · simp at hv
    obtain ⟨rfl, hxl, rfl⟩ := hv
    have hxe : xs = [] := by simpa using hxl
    subst hxe
    have ht := RowAt.nilAt w
    have hd := RowAt.nilAt w
    have Hlen := Lib.hid (show 0 + 1 + 0 = 0 + 1 from rfl)
    go_enter Tryz.func51, Tryz.ntmps51
    go_wp2_with fail
    go_loop [5] (fun i => i = .int .i64 0) (fun _ => 0)
    case atStart => rfl
    case round =>
      subst hrel
      go_wp2_with fail
      refine SL.rule (by kernel_rfl) [] [33, 34, 35, 36, 37, 38, 39, 40, 41, 42, 43, 44, 4] [
        SL.row 33 [] [] w.heap.size 3 1 0 [], SL.pu 34 [] (.slice none 0 0), SL.pu 35 [] (.int .i64 0), SL.pu 36 [1, 2] (.slice none 0 0),
        SL.row 37 [0, 3] [0] w.heap.size 3 1 0 (([] : List Int).map (.int .i64)),
        SL.pu 38 [] (.int .i64 x), SL.row 39 [5] [] w.heap.size 3 1 1 ([x].map (.int .i64)),
        SL.row 40 [4, 6] [4] w.heap.size 3 1 (0 + 1) ((([] : List Int) ++ [x]).map (.int .i64)),
        SL.pu 41 [] (.slice none 0 0), SL.pu 42 [] (.int .i64 0), SL.pu 43 [8, 9] (.slice none 0 0),
        SL.row 44 [7, 10] [7] w.heap.size 3 1 (0 + 1) ((([] : List Int) ++ [x] ++ ([] : List Int)).map (.int .i64)),
        SL.row 4 [11] [11] w.heap.size 3 1 (0 + 1) ((([] : List Int) ++ [x] ++ ([] : List Int)).map (.int .i64))] [12] (by kernel_rfl) (by kernel_rfl) (fun _ => []) (SL.none_held rfl) (by simp) ?_ ?_
      · refine ⟨?_, ?_, ?_, ?_, ?_, ?_, ?_, ?_, ?_, ?_, ?_, ?_, ?_, trivial⟩
        all_goals refine SL.ob fun us w' Fe hG hu hd_ hv K hK => ?_
        all_goals simp [SL.frame, SL.put', SL.Used, SL.Seen, SL.pu, SL.row] at hu hv hK ⊢
        all_goals (have hsz := hG.size; simp only [World.size_drew] at hsz)
        all_goals try (go_step; refine hK _ _ _ _ (by simp [Act.put, *]; done) (SL.Chg.refl _ _) rfl rfl (by simp))
        · go_step
          refine hK _ (.slice (some ⟨w'.heap.size, 0, none⟩) 0 0) _ _ (by simp [Act.put, *]; done) (.alloc _ _ _) ?_ rfl (by simp [Value.ownBlock])
          have := World.ownsRow_lit (base := w.heap.size) (e := 3) (size := 1) w' #[] 0 hsz (by decide) rfl
          simpa using this
        · obtain ⟨⟨u1, u2⟩, u3, _⟩ := hu
          refine wp_app elemI _ _ rfl u1 rfl u3 (ht.chg hG.undrew (fun _ _ => by simp)) (m := 0) (by simp; try omega) (by first | exact ones_int _ | (intro u hu; simp at hu)) (by unfold maxLen; omega) (by omega) hsz ?_
          intro v' w2 ho hg hb _ hat
          refine hK _ v' w2 _ rfl ?_ (by simpa using ho) rfl ?_
          · exact .of_own hg (by rw [u2]; simp)
          · rw [u2]; exact SL.app_bounds u1 ho hat
        · go_step
          refine hK _ (.slice (some ⟨w'.heap.size, 0, none⟩) 1 1) _ _ (by simp [Act.put, *]; done) (.alloc _ _ _) ?_ rfl (by simp [Value.ownBlock])
          have := World.ownsRow_lit (base := w.heap.size) (e := 3) (size := 1) w' #[.int .i64 x] 1 hsz (by decide) rfl
          simpa using this
        · obtain ⟨⟨u1, u2⟩, u3, u4⟩ := hu
          obtain ⟨sa, c, hsl, _⟩ := owns_slice u3
          refine wp_app elemI _ _ rfl u1 rfl hsl (RowAt.of_owns (hsl ▸ u3)) (m := 1) rfl (by simp [Value.oneCell']) (by unfold maxLen; omega) (by omega) hsz ?_
          intro v' w2 ho hg hb _ hat
          refine hK _ v' w2 _ rfl ?_ (by simpa using ho) rfl ?_
          · exact .of_own hg (by rw [u2]; simp)
          · rw [u2]; exact SL.app_bounds u1 ho hat
        · obtain ⟨⟨u1, u2⟩, u3, _⟩ := hu
          refine wp_app elemI _ _ rfl u1 rfl u3 (hd.chg hG.undrew (fun _ _ => by simp)) (m := 0) (by simp) (by first | exact ones_int _ | (intro u hu; simp at hu)) (by unfold maxLen; omega) (by omega) hsz ?_
          intro v' w2 ho hg hb _ hat
          try rw [Hlen.out] at ho
          refine hK _ v' w2 _ rfl ?_ (by simpa using ho) rfl ?_
          · exact .of_own hg (by rw [u2]; simp)
          · rw [u2]; exact SL.app_bounds u1 ho hat
        · obtain ⟨u2, u3⟩ := hu
          obtain ⟨sa, c, hsl, _⟩ := owns_slice u2
          go_step
          refine hK _ (.slice sa (0 + 1) c) _ _ (by simp [Act.put, *]; done) (.refl _ _) ?_ rfl ?_
          · rw [← hsl]; simpa using u2
          · rw [u3, hsl]; exact fun k h => .inl h
      · intro us w' Fs hG hu hbd hd_
        simp [SL.frame, SL.put', SL.Used, SL.Seen, SL.pu, SL.row] at hu ⊢
        obtain ⟨u2, u3⟩ := hu
        obtain ⟨sa, c, hsl, _⟩ := owns_slice u2
        go_wp2
        go_ret
        exact ⟨_, rfl, SL.row_base (by simpa [insI] using u2) hbase, hG.below'⟩
  · simp at hv
    obtain ⟨rfl, rfl⟩ := hv
    have hbl := (hx.row.at_ _ rfl).2.1
    go_enter Tryz.func51, Tryz.ntmps51
    go_wp2_with fail
    go_loop [5] (fun i => ∃ k : Nat, k ≤ xs.length ∧ i = .int .i64 k ∧ ∀ j, j < k → xs.getD j 0 < x) (fun i => xs.length - (match i with | .int _ q => q.toNat | _ => 0))
    case atStart => exact ⟨0, Nat.zero_le _, rfl, fun j h => by omega⟩
    case round =>
      obtain ⟨k, hk, rfl, hall⟩ := hrel
      have Hall := Lib.hid hall
      clear hall
      obtain ⟨a2, ha2⟩ : ∃ a2, (if c = k then some (⟨b, 0, none⟩ : Addr) else some ⟨b, k, none⟩) = a2 := ⟨_, rfl⟩
      have ht := IntsAt.take hx.row k
      have hd := IntsAt.sub hx.row k (a2 := a2) (c2 := c - k) (by
        rw [← ha2]
        by_cases e : c = k
        · rw [if_pos e]; exact .inr ⟨by omega, _, rfl⟩
        · rw [if_neg e]; exact .inl (by simp))
      have Hlen := Lib.hid (show k + 1 + (xs.length - k) = xs.length + 1 by omega)
      by_cases hlt : k < xs.length
      · obtain ⟨b1, off, hb1, _, d0⟩ := hx.get hlt
        simp at hb1
        obtain ⟨rfl, rfl⟩ := hb1
        obtain ⟨y, hy⟩ : ∃ y, xs.getD k 0 = y := ⟨_, rfl⟩
        rw [hy, Nat.zero_add] at d0
        have Hy := Lib.hid hy
        clear hy
        by_cases h1 : y < x
        · go_wp2_with fail
          go_round
          case rel => exact ⟨k + 1, by omega, by go_num, fun j hj => by
            by_cases e : j = k
            · rw [e, Hy.out]; exact h1
            · exact Hall.out j (by omega)⟩
          case measure => simp; omega
        · by_cases h2 : y = x
          · subst h2
            go_wp2_with fail
            go_ret
            exact ⟨_, rfl, by rw [insI_same hlt Hall.out Hy.out]; exact hown, Below.refl _ _⟩
          · have h2' : (y == x) = false := by simpa using h2
            obtain rfl : some (⟨b, k, none⟩ : Addr) = a2 := by rw [← ha2, if_neg (by omega)]
            have hins := insI_mid (n := x) hlt Hall.out (by rw [Hy.out]; omega)
            have hl2 : (xs.take k ++ [x] ++ xs.drop k).length = xs.length + 1 := by simp; omega
            have Hins := Lib.hid hins
            have Hl2 := Lib.hid hl2
            clear hins hl2 ha2
            go_wp2_with fail
            refine SL.rule (by kernel_rfl) [] [33, 34, 35, 36, 37, 38, 39, 40, 41, 42, 43, 44, 4] [
              SL.row 33 [] [] w.heap.size 3 1 0 [], SL.pu 34 [] (.slice (some ⟨b, 0, none⟩) xs.length c), SL.pu 35 [] (.int .i64 k), SL.pu 36 [1, 2] (.slice (some ⟨b, 0, none⟩) k c),
              SL.row 37 [0, 3] [0] w.heap.size 3 1 k ((xs.take k).map (.int .i64)),
              SL.pu 38 [] (.int .i64 x), SL.row 39 [5] [] w.heap.size 3 1 1 ([x].map (.int .i64)),
              SL.row 40 [4, 6] [4] w.heap.size 3 1 (k + 1) (((xs.take k) ++ [x]).map (.int .i64)),
              SL.pu 41 [] (.slice (some ⟨b, 0, none⟩) xs.length c), SL.pu 42 [] (.int .i64 k), SL.pu 43 [8, 9] (.slice (some ⟨b, k, none⟩) (xs.length - k) (c - k)),
              SL.row 44 [7, 10] [7] w.heap.size 3 1 (xs.length + 1) (((xs.take k) ++ [x] ++ (xs.drop k)).map (.int .i64)),
              SL.row 4 [11] [11] w.heap.size 3 1 (xs.length + 1) (((xs.take k) ++ [x] ++ (xs.drop k)).map (.int .i64))] [12] (by kernel_rfl) (by kernel_rfl) (fun _ => []) (SL.none_held rfl) (by simp) ?_ ?_
            · refine ⟨?_, ?_, ?_, ?_, ?_, ?_, ?_, ?_, ?_, ?_, ?_, ?_, ?_, trivial⟩
              all_goals refine SL.ob fun us w' Fe hG hu hd_ hv K hK => ?_
              all_goals simp [SL.frame, SL.put', SL.Used, SL.Seen, SL.pu, SL.row] at hu hv hK ⊢
              all_goals (have hsz := hG.size; simp only [World.size_drew] at hsz)
              all_goals try (go_step; refine hK _ _ _ _ (by simp [Act.put, *]; done) (SL.Chg.refl _ _) rfl rfl (by simp))
              · go_step
                refine hK _ (.slice (some ⟨w'.heap.size, 0, none⟩) 0 0) _ _ (by simp [Act.put, *]; done) (.alloc _ _ _) ?_ rfl (by simp [Value.ownBlock])
                have := World.ownsRow_lit (base := w.heap.size) (e := 3) (size := 1) w' #[] 0 hsz (by decide) rfl
                simpa using this
              · obtain ⟨⟨u1, u2⟩, u3, _⟩ := hu
                refine wp_app elemI _ _ rfl u1 rfl u3 (ht.chg hG.undrew (fun _ _ => by simp)) (m := k) (by simp; try omega) (by first | exact ones_int _ | (intro u hu; simp at hu)) (by unfold maxLen; omega) (by omega) hsz ?_
                intro v' w2 ho hg hb _ hat
                refine hK _ v' w2 _ rfl ?_ (by simpa using ho) rfl ?_
                · exact .of_own hg (by rw [u2]; simp)
                · rw [u2]; exact SL.app_bounds u1 ho hat
              · go_step
                refine hK _ (.slice (some ⟨w'.heap.size, 0, none⟩) 1 1) _ _ (by simp [Act.put, *]; done) (.alloc _ _ _) ?_ rfl (by simp [Value.ownBlock])
                have := World.ownsRow_lit (base := w.heap.size) (e := 3) (size := 1) w' #[.int .i64 x] 1 hsz (by decide) rfl
                simpa using this
              · obtain ⟨⟨u1, u2⟩, u3, u4⟩ := hu
                obtain ⟨sa, c, hsl, _⟩ := owns_slice u3
                refine wp_app elemI _ _ rfl u1 rfl hsl (RowAt.of_owns (hsl ▸ u3)) (m := 1) rfl (by simp [Value.oneCell']) (by unfold maxLen; omega) (by omega) hsz ?_
                intro v' w2 ho hg hb _ hat
                refine hK _ v' w2 _ rfl ?_ (by simpa using ho) rfl ?_
                · exact .of_own hg (by rw [u2]; simp)
                · rw [u2]; exact SL.app_bounds u1 ho hat
              · obtain ⟨⟨u1, u2⟩, u3, _⟩ := hu
                refine wp_app elemI _ _ rfl u1 rfl u3 (hd.chg hG.undrew (fun _ _ => by simp)) (m := (xs.length - k)) (by simp) (by first | exact ones_int _ | (intro u hu; simp at hu)) (by unfold maxLen; omega) (by omega) hsz ?_
                intro v' w2 ho hg hb _ hat
                try rw [Hlen.out] at ho
                refine hK _ v' w2 _ rfl ?_ (by simpa using ho) rfl ?_
                · exact .of_own hg (by rw [u2]; simp)
                · rw [u2]; exact SL.app_bounds u1 ho hat
              · obtain ⟨u2, u3⟩ := hu
                obtain ⟨sa, c, hsl, _⟩ := owns_slice u2
                go_step
                refine hK _ (.slice sa (xs.length + 1) c) _ _ (by simp [Act.put, *]; done) (.refl _ _) ?_ rfl ?_
                · rw [← hsl]; simpa using u2
                · rw [u3, hsl]; exact fun k h => .inl h
            · intro us w' Fs hG hu hbd hd_
              simp [SL.frame, SL.put', SL.Used, SL.Seen, SL.pu, SL.row] at hu ⊢
              obtain ⟨u2, u3⟩ := hu
              obtain ⟨sa, c, hsl, _⟩ := owns_slice u2
              go_wp2
              go_ret
              exact ⟨_, rfl, by rw [Hins.out, Hl2.out]; exact SL.row_base (by simpa using u2) hbase, hG.below'⟩
      · obtain rfl : k = xs.length := by omega
        have Hins := Lib.hid (insI_end (n := x) Hall.out)
        have Hl2 := Lib.hid (show (xs ++ [x]).length = xs.length + 1 by simp)
        go_wp2_with fail
        refine SL.rule (by kernel_rfl) [] [33, 34, 35, 36, 37, 38, 39, 40, 41, 42, 43, 44, 4] [
          SL.row 33 [] [] w.heap.size 3 1 0 [], SL.pu 34 [] (.slice (some ⟨b, 0, none⟩) xs.length c), SL.pu 35 [] (.int .i64 xs.length), SL.pu 36 [1, 2] (.slice (some ⟨b, 0, none⟩) xs.length c),
          SL.row 37 [0, 3] [0] w.heap.size 3 1 xs.length ((xs.take xs.length).map (.int .i64)),
          SL.pu 38 [] (.int .i64 x), SL.row 39 [5] [] w.heap.size 3 1 1 ([x].map (.int .i64)),
          SL.row 40 [4, 6] [4] w.heap.size 3 1 (xs.length + 1) (((xs.take xs.length) ++ [x]).map (.int .i64)),
          SL.pu 41 [] (.slice (some ⟨b, 0, none⟩) xs.length c), SL.pu 42 [] (.int .i64 xs.length), SL.pu 43 [8, 9] (.slice a2 0 (c - xs.length)),
          SL.row 44 [7, 10] [7] w.heap.size 3 1 (xs.length + 1) (((xs.take xs.length) ++ [x] ++ (xs.drop xs.length)).map (.int .i64)),
          SL.row 4 [11] [11] w.heap.size 3 1 (xs.length + 1) (((xs.take xs.length) ++ [x] ++ (xs.drop xs.length)).map (.int .i64))] [12] (by kernel_rfl) (by kernel_rfl) (fun _ => []) (SL.none_held rfl) (by simp) ?_ ?_
        · refine ⟨?_, ?_, ?_, ?_, ?_, ?_, ?_, ?_, ?_, ?_, ?_, ?_, ?_, trivial⟩
          all_goals refine SL.ob fun us w' Fe hG hu hd_ hv K hK => ?_
          all_goals simp [SL.frame, SL.put', SL.Used, SL.Seen, SL.pu, SL.row] at hu hv hK ⊢
          all_goals (have hsz := hG.size; simp only [World.size_drew] at hsz)
          all_goals try (go_step; refine hK _ _ _ _ (by simp [Act.put, *]; done) (SL.Chg.refl _ _) rfl rfl (by simp))
          · go_step
            refine hK _ (.slice (some ⟨w'.heap.size, 0, none⟩) 0 0) _ _ (by simp [Act.put, *]; done) (.alloc _ _ _) ?_ rfl (by simp [Value.ownBlock])
            have := World.ownsRow_lit (base := w.heap.size) (e := 3) (size := 1) w' #[] 0 hsz (by decide) rfl
            simpa using this
          · obtain ⟨⟨u1, u2⟩, u3, _⟩ := hu
            refine wp_app elemI _ _ rfl u1 rfl u3 (ht.chg hG.undrew (fun _ _ => by simp)) (m := xs.length) (by simp; try omega) (by first | exact ones_int _ | (intro u hu; simp at hu)) (by unfold maxLen; omega) (by omega) hsz ?_
            intro v' w2 ho hg hb _ hat
            refine hK _ v' w2 _ rfl ?_ (by simpa using ho) rfl ?_
            · exact .of_own hg (by rw [u2]; simp)
            · rw [u2]; exact SL.app_bounds u1 ho hat
          · go_step
            refine hK _ (.slice (some ⟨w'.heap.size, 0, none⟩) 1 1) _ _ (by simp [Act.put, *]; done) (.alloc _ _ _) ?_ rfl (by simp [Value.ownBlock])
            have := World.ownsRow_lit (base := w.heap.size) (e := 3) (size := 1) w' #[.int .i64 x] 1 hsz (by decide) rfl
            simpa using this
          · obtain ⟨⟨u1, u2⟩, u3, u4⟩ := hu
            obtain ⟨sa, c, hsl, _⟩ := owns_slice u3
            refine wp_app elemI _ _ rfl u1 rfl hsl (RowAt.of_owns (hsl ▸ u3)) (m := 1) rfl (by simp [Value.oneCell']) (by unfold maxLen; omega) (by omega) hsz ?_
            intro v' w2 ho hg hb _ hat
            refine hK _ v' w2 _ rfl ?_ (by simpa using ho) rfl ?_
            · exact .of_own hg (by rw [u2]; simp)
            · rw [u2]; exact SL.app_bounds u1 ho hat
          · obtain ⟨⟨u1, u2⟩, u3, _⟩ := hu
            refine wp_app elemI _ _ rfl u1 rfl u3 (hd.chg hG.undrew (fun _ _ => by simp)) (m := 0) (by simp) (by first | exact ones_int _ | (intro u hu; simp at hu)) (by unfold maxLen; omega) (by omega) hsz ?_
            intro v' w2 ho hg hb _ hat
            try rw [Hlen.out] at ho
            refine hK _ v' w2 _ rfl ?_ (by simpa using ho) rfl ?_
            · exact .of_own hg (by rw [u2]; simp)
            · rw [u2]; exact SL.app_bounds u1 ho hat
          · obtain ⟨u2, u3⟩ := hu
            obtain ⟨sa, c, hsl, _⟩ := owns_slice u2
            go_step
            refine hK _ (.slice sa (xs.length + 1) c) _ _ (by simp [Act.put, *]; done) (.refl _ _) ?_ rfl ?_
            · rw [← hsl]; simpa using u2
            · rw [u3, hsl]; exact fun k h => .inl h
        · intro us w' Fs hG hu hbd hd_
          simp [SL.frame, SL.put', SL.Used, SL.Seen, SL.pu, SL.row] at hu ⊢
          obtain ⟨u2, u3⟩ := hu
          obtain ⟨sa, c, hsl, _⟩ := owns_slice u2
          go_wp2
          go_ret
          exact ⟨_, rfl, by rw [Hins.out, Hl2.out]; exact SL.row_base (by simpa using u2) hbase, hG.below'⟩
end Go.Proofs.YtlkcfohmoeadbaaGreat

/-
  The reference of layer 1, walked: only, all.
-/
namespace Go.Proofs.YtlkcfohmoeadbaaGreat
open Go.RowKit Go.Shelf
set_option maxHeartbeats 1000000
set_option maxRecDepth 100000

def ralS (l : List Int) (b : Bd) : List Int := if 0 < b.bid then insI b.bid l else l
theorem rall_idsL {bs : List Bd} (h : ∀ b ∈ bs, 0 ≤ b.bid ∧ b.bid ≤ 1000000) : bs.foldl ralS [] = idsL bs := by
  suffices hh : ∀ (bs : List Bd) (l : List Int), (∀ b ∈ bs, 0 ≤ b.bid ∧ b.bid ≤ 1000000) → bs.foldl ralS l = bs.foldl (fun l b => if b.bid = 0 then l else insI b.bid l) l from hh bs [] h
  intro bs
  induction bs with
  | nil => intro l _; rfl
  | cons b bs ih =>
    intro l h
    have h0 := h b (List.mem_cons_self)
    simp only [List.foldl_cons]
    rw [ih _ (fun c hc => h c (List.mem_cons_of_mem _ hc))]
    congr 1
    unfold ralS
    by_cases e : b.bid = 0
    · rw [if_pos e, if_neg (by omega)]
    · rw [if_neg e, if_pos (by omega)]

theorem insI_len (n : Int) : ∀ l : List Int, (insI n l).length ≤ l.length + 1
  | [] => by simp [insI]
  | x :: l => by have := insI_len n l; simp only [insI]; split <;> (try split) <;> simp_all
theorem ral_len (bs : List Bd) : (bs.foldl ralS []).length ≤ bs.length := by
  suffices hh : ∀ (bs : List Bd) (l : List Int), (bs.foldl ralS l).length ≤ l.length + bs.length by simpa using hh bs []
  intro bs
  induction bs with
  | nil => intro l; simp
  | cons b bs ih =>
    intro l
    have h1 := ih (ralS l b)
    have h2 := insI_len b.bid l
    simp only [List.foldl_cons, List.length_cons]
    have h3 : (ralS l b).length ≤ l.length + 1 := by unfold ralS; split <;> omega
    omega

end Go.Proofs.YtlkcfohmoeadbaaGreat

/-
  The reference of layer 1, walked: only.
-/
namespace Go.Proofs.YtlkcfohmoeadbaaGreat
open Go.RowKit Go.Shelf
set_option maxHeartbeats 4000000
set_option maxRecDepth 100000

def SL.br (n N : Nat) (l : List Nat) : Nat → List Nat := fun i => if i = n then [N] else if i = n + 1 then l else []
/-- A box and a row are held from the beginning. -/
theorem SL.br_held {ops : List Oper} {Γ : List SL.Sp} {a0 : Act} {w : World} {x y : SL.Sp} {N : Nat} {l : List Nat} (h : Γ.length = ops.length + 2) (hx : Γ[ops.length]? = some x) (hy : Γ[ops.length + 1]? = some y)
    (hA : x.A (a0.tmps.getD x.sub undef) w.drew [N]) (hB : y.A (a0.tmps.getD y.sub undef) w.drew l) (hN : N < w.heap.size) (hl : ∀ k ∈ l, k < w.heap.size) :
    ∀ i s, ops.length ≤ i → Γ[i]? = some s → s.A (a0.tmps.getD s.sub undef) w.drew (SL.br ops.length N l i) ∧ ∀ k ∈ SL.br ops.length N l i, k ∈ N :: l ∧ k < w.heap.size := by
  intro i s hi hs
  unfold SL.br
  by_cases e : i = ops.length
  · subst e; rw [hx] at hs; cases hs; rw [if_pos rfl]; exact ⟨hA, fun k hk => by simp at hk; subst hk; exact ⟨by simp, hN⟩⟩
  · by_cases e1 : i = ops.length + 1
    · subst e1; rw [hy] at hs; cases hs; rw [if_neg (by omega), if_pos rfl]; exact ⟨hB, fun k hk => ⟨List.mem_cons_of_mem _ hk, hl k hk⟩⟩
    · rw [List.getElem?_eq_none (by omega)] at hs; cases hs
theorem SL.br_apart {n N : Nat} {l : List Nat} (h : N ∉ l) : ∀ i j, i ≠ j → n ≤ i → n ≤ j → ∀ k ∈ SL.br n N l i, k ∉ SL.br n N l j := by
  intro i j hij _ _ k hk
  unfold SL.br at *
  split at hk
  · simp at hk; subst hk
    rw [if_neg (by omega)]
    split
    · exact h
    · simp
  · split at hk
    · split
      · simp; intro e; subst e; exact h hk
      · rw [if_neg (by omega)]; simp
    · simp at hk

theorem ronly_any (p : Int) (a : Option Addr) (n cap : Nat) (bs : List Bd) (al : Option Addr) (m c : Nat) (xs : List Int) (w : World) (hb : BdsAt w a n cap bs) (hx : IntsAt w al m c xs) (hs : bs.length ≤ 400) :
    Calls Tryz.prog 48 #[.agg #[.int .i64 p, .slice a n cap], .slice al m c] w fun e w' => ∃ v, e = .returned (.agg #[.int .i64 p, v]) ∧ w'.ownsRow w.heap.size 26 4 v (bs.filter (onlyB xs)).length (bcs (bs.filter (onlyB xs))) ∧ Below w.heap.size w w' := by
  obtain rfl := hb.len
  go_enter Tryz.func48, Tryz.ntmps48
  go_wp2_with fail
  go_loopw [6] (fun i wr => ∃ k : Nat, k ≤ bs.length ∧ i = .int .i64 k ∧ Below w.heap.size w wr ∧ w.heap.size + 3 ≤ wr.heap.size ∧ wr.cell? ⟨w.heap.size, 1, none⟩ = some (.slice a bs.length cap) ∧ wr.heap[w.heap.size + 1]? = some (.cells #[.int .i64 0, .slice none 0 0] 24 (0,0)) ∧ ∃ v, wr.heap[w.heap.size + 2]? = some (.cells #[.int .i64 p, v] 24 (0,0)) ∧ wr.ownsRow (w.heap.size + 3) 26 4 v ((bs.take k).filter (onlyB xs)).length (bcs ((bs.take k).filter (onlyB xs)))) (fun i _ => bs.length - (intOf i).toNat)
  case atStart =>
    refine ⟨0, Nat.zero_le _, rfl, by ((repeat (first | assumption | exact Below.refl _ _ | refine Below.alloc ?_ ?_ _ | refine Below.setCell ?_ ?_ _ | refine Below.drew ?_ | refine belowN ?_ | refine Below.up ?_ (by assumption) ?_)) <;> (first | assumption | omega | (simp; done) | (simp; omega))), by simp, by simp [go_sem], ?_, .slice none 0 0, ?_, World.ownsRow_nil _ _ _ _⟩
    · rw [Below.heap_alloc _ _ _ (by simp)]; exact heap_alloc2_new _ _ _
    · have h := World.alloc_heap_new ((w.alloc (Obj.cells #[.int .i64 p, .slice a bs.length cap] 24)).alloc (Obj.cells #[.int .i64 0, .slice none 0 0] 24)) (Obj.cells #[.int .i64 p, .slice none 0 0] 24)
      rw [World.size_alloc, World.size_alloc] at h
      exact h
  case round =>
    obtain ⟨j, hj, rfl, hB, hz, c1, h1, v, h2, hown⟩ := hrel
    obtain ⟨a2, f2⟩ := SL.cells_of h2
    obtain ⟨a1, f1⟩ := SL.cells_of h1
    have c20 := a2 0
    have c21 := a2 1
    have c10 := a1 0
    have c11 := a1 1
    simp at c20 c21 c10 c11
    clear a1 a2
    have hxw := hx.below hB
    by_cases hlt : j < bs.length
    · obtain ⟨b, off, rfl, hbl, d0, d1, d2, d3⟩ := (hb.below hB).get hlt
      obtain ⟨b', off', he, hbl', _⟩ := hb.get hlt
      simp at he
      obtain ⟨rfl, rfl⟩ := he
      have Hyes := Lib.hid (filter_take_yes (q := onlyB xs) hlt)
      have Hno := Lib.hid (filter_take_no (q := onlyB xs) hlt)
      have hL := filter_take_len (onlyB xs) bs j
      generalize hxx : bs.getD j default = x at *
      clear hxx
      generalize hl : (bs.take j).filter (onlyB xs) = l at *
      clear hl
      have hH := rhas_any al m c xs x.bid wr hxw
      have Hq := Lib.hid (show onlyB xs x = (x.bid == 0 || xs.any (· == x.bid)) from rfl)
      generalize xs.any (· == x.bid) = q at *
      have hcases : (q = true ∨ (q = false ∧ (x.bid == 0) = true)) ∨ (q = false ∧ (x.bid == 0) = false) := by
        cases q <;> cases (x.bid == 0) <;> simp
      rcases hcases with hyes | ⟨rfl, hz0⟩
      · have hYes := Hyes.out (by rw [Hq.out]; rcases hyes with h | ⟨_, h⟩ <;> simp [h])
        have HYes := Lib.hid hYes
        clear hYes
        rcases hyes with rfl | ⟨rfl, hz0⟩
        · go_wp2_with (go_at_call 75; refine hH.mono ?_; rintro e w2 ⟨rfl, rfl⟩)
          have hvb := SL.row_bounds hown
          have hnm : ∀ k, k < w.heap.size + 2 → k ∉ (w.heap.size + 2) :: v.ownBlock.toList := fun k hk h => by
            rcases List.mem_cons.1 h with e | e
            · omega
            · have := (hvb _ e).1; omega
          refine SL.rule (by kernel_rfl) ((w.heap.size + 2) :: v.ownBlock.toList) [36, 37, 38, 39, 40, 41, 42, 43, 44, 45] [
            SL.pu 36 [] (.pointer (some ⟨w.heap.size + 1 + 1, 1, none⟩)), SL.pu 37 [0, 11] v, SL.pu 38 [] (.pointer (some ⟨w.heap.size, 1, none⟩)), SL.pu 39 [2] (.slice (some ⟨b, off, none⟩) bs.length cap), SL.pu 40 [] (.int .i64 j), SL.pu 41 [3, 4] (.pointer (some ⟨b, off + j * 4, none⟩)), SL.pu 42 [5] x.v,
            SL.row 43 [6] [] (w.heap.size + 3) 26 4 1 x.cs, SL.row 44 [1, 7, 12] [12] (w.heap.size + 3) 26 4 (l.length + 1) (bcs l ++ x.cs), SL.pu 45 [] (.pointer (some ⟨w.heap.size + 1 + 1, 1, none⟩)),
            SL.boxAtIn 5 [8, 9, 11] [8, 11] (w.heap.size + 1 + 1) 24 (w.heap.size + 3) 26 4 (l.length + 1) (bcs l ++ x.cs) (fun u => #[.int .i64 p, u]),
            SL.boxAt 5 [] [] (w.heap.size + 1 + 1) 24 #[.int .i64 p, v], SL.rowV (w.heap.size + 3) 26 4 l.length v (bcs l)] [10] (by kernel_rfl) (by kernel_rfl) _
            (SL.br_held (N := w.heap.size + 1 + 1) (l := v.ownBlock.toList) rfl rfl rfl ⟨rfl, h2, rfl⟩ ⟨hown, rfl⟩ (by omega) (fun k hk => (hvb k hk).2)) (SL.br_apart (fun h => by have := (hvb _ h).1; omega)) ?_ ?_
          · refine ⟨?_, ?_, ?_, ?_, ?_, ?_, ?_, ?_, ?_, ?_, ?_, trivial⟩
            all_goals refine SL.ob fun us w' Fe hG hu hd hv K hK => ?_
            all_goals simp [SL.frame, SL.put', SL.Used, SL.Seen, SL.pu, SL.row, SL.box, SL.rowIn, SL.boxIn, SL.boxAt, SL.boxAtIn, Bd.v, Bd.cs, SL.rowV] at hu hv hK ⊢
            all_goals (have hsz := hG.size; simp only [World.size_drew] at hsz)
            all_goals (have hcc := hG.undrew.cellsE.1)
            all_goals (have r1 : w'.cell? ⟨w.heap.size, 1, none⟩ = some (.slice (some ⟨b, off, none⟩) bs.length cap) := (hcc _ _ (by omega) (hnm _ (by omega))).trans c1)
            all_goals (have e0 := (hcc _ _ (by omega) (hnm _ (by omega))).trans d0)
            all_goals (have e1 := (hcc _ _ (by omega) (hnm _ (by omega))).trans d1)
            all_goals (have e2 := (hcc _ _ (by omega) (hnm _ (by omega))).trans d2)
            all_goals (have e3 := (hcc _ _ (by omega) (hnm _ (by omega))).trans d3)
            all_goals clear hcc d0 d1 d2 d3 c1 c20 c21 c10 c11 f1 f2
            all_goals try (go_step; refine hK _ _ _ _ (by simp [Act.put, *]; done) (SL.Chg.refl _ _) rfl rfl (by simp))
            · obtain ⟨⟨u1, _⟩, _, u4, _⟩ := hu
              have y1 := (SL.cells_of u4).1 1
              simp at y1
              go_step
              refine hK _ _ _ _ (by simp [Act.put, *]; done) (SL.Chg.refl _ _) rfl rfl (by simp)
            · go_step
              refine hK _ _ _ _ (by simp [Act.put, *]; done) (.alloc _ _ _) (World.ownsRow_lit w' _ 1 (by omega) (by decide) rfl) rfl (by simp [Value.ownBlock])
            · obtain ⟨⟨u1, _⟩, ⟨u2, u3⟩, u4, u5⟩ := hu
              obtain ⟨sa, c', hsl, _⟩ := owns_slice u2
              refine wp_app elemB _ _ rfl u4 u1 hsl (RowAt.of_owns (hsl ▸ u2)) (m := 1) rfl (by simp [Value.oneCell']) (by unfold maxLen; omega) (by omega) (by omega) ?_
              intro v' w2 ho hg hb9 _ hat
              refine hK _ v' w2 _ rfl ?_ ho rfl ?_
              · exact .of_own hg (by rw [u5]; simp)
              · rw [u5]; exact SL.app_bounds u4 ho hat
            · obtain ⟨⟨u2, u3⟩, ⟨u6, _⟩, hu4, u4, u5⟩ := hu
              obtain ⟨sa, c', hsl, _⟩ := owns_slice u2
              have y1 := (SL.cells_of u4).1 1
              have g0 := (SL.cells_of u4).2
              simp at y1
              have hne : w.heap.size + 1 + 1 ∉ (Value.slice sa (l.length + 1) c').ownBlock.toList := fun h => by have := (SL.row_bounds (hsl ▸ u2) _ h).1; omega
              rw [hsl] at u2 u3
              go_step
              refine hK _ undef _ _ (by simp [Act.put, *]; done) (.setCell _ (by simp [u5]) _) hu4 _ (SL.heap_set u4 _) (SL.row_set u2 hne _) rfl ?_
              rw [u5, u3]; simp; exact fun k h => .inl (.inl h)
          · intro us w' Fs hG hu hbd hd
            simp [SL.frame, SL.put', SL.Used, SL.Seen, SL.pu, SL.row, SL.box, SL.rowIn, SL.boxIn, SL.boxAt, SL.boxAtIn, Bd.v, Bd.cs, SL.rowV] at hu ⊢
            obtain ⟨u4, y, hh, ho, hF⟩ := hu
            have hsz := hG.size
            simp only [World.size_drew] at hsz
            have hk1 := (hG.undrew.block (w.heap.size + 1) (by omega) (hnm _ (by omega))).trans h1
            have hcc := (hG.undrew.cellsE.1 w.heap.size 1 (by omega) (hnm _ (by omega))).trans c1
            clear c1 c20 c21 c10 c11 f1 f2
            go_wp2
            go_roundw
            case rel =>
              refine ⟨j + 1, by omega, by go_num, hB.trans (hG.belowF (by have := hB.size; omega) (fun k hk => ?_)), by omega, hcc, hk1, y, hh, ?_⟩
              · rcases List.mem_cons.1 hk with e | e
                · omega
                · have := (hvb _ e).1; omega
              · rw [HYes.out, bcs_append]
                simpa [bcs, Bd.cs] using ho
            case measure => simp [intOf]; omega
        · go_wp2_with (go_at_call 75; refine hH.mono ?_; rintro e w2 ⟨rfl, rfl⟩)
          have hvb := SL.row_bounds hown
          have hnm : ∀ k, k < w.heap.size + 2 → k ∉ (w.heap.size + 2) :: v.ownBlock.toList := fun k hk h => by
            rcases List.mem_cons.1 h with e | e
            · omega
            · have := (hvb _ e).1; omega
          refine SL.rule (by kernel_rfl) ((w.heap.size + 2) :: v.ownBlock.toList) [36, 37, 38, 39, 40, 41, 42, 43, 44, 45] [
            SL.pu 36 [] (.pointer (some ⟨w.heap.size + 1 + 1, 1, none⟩)), SL.pu 37 [0, 11] v, SL.pu 38 [] (.pointer (some ⟨w.heap.size, 1, none⟩)), SL.pu 39 [2] (.slice (some ⟨b, off, none⟩) bs.length cap), SL.pu 40 [] (.int .i64 j), SL.pu 41 [3, 4] (.pointer (some ⟨b, off + j * 4, none⟩)), SL.pu 42 [5] x.v,
            SL.row 43 [6] [] (w.heap.size + 3) 26 4 1 x.cs, SL.row 44 [1, 7, 12] [12] (w.heap.size + 3) 26 4 (l.length + 1) (bcs l ++ x.cs), SL.pu 45 [] (.pointer (some ⟨w.heap.size + 1 + 1, 1, none⟩)),
            SL.boxAtIn 5 [8, 9, 11] [8, 11] (w.heap.size + 1 + 1) 24 (w.heap.size + 3) 26 4 (l.length + 1) (bcs l ++ x.cs) (fun u => #[.int .i64 p, u]),
            SL.boxAt 5 [] [] (w.heap.size + 1 + 1) 24 #[.int .i64 p, v], SL.rowV (w.heap.size + 3) 26 4 l.length v (bcs l)] [10] (by kernel_rfl) (by kernel_rfl) _
            (SL.br_held (N := w.heap.size + 1 + 1) (l := v.ownBlock.toList) rfl rfl rfl ⟨rfl, h2, rfl⟩ ⟨hown, rfl⟩ (by omega) (fun k hk => (hvb k hk).2)) (SL.br_apart (fun h => by have := (hvb _ h).1; omega)) ?_ ?_
          · refine ⟨?_, ?_, ?_, ?_, ?_, ?_, ?_, ?_, ?_, ?_, ?_, trivial⟩
            all_goals refine SL.ob fun us w' Fe hG hu hd hv K hK => ?_
            all_goals simp [SL.frame, SL.put', SL.Used, SL.Seen, SL.pu, SL.row, SL.box, SL.rowIn, SL.boxIn, SL.boxAt, SL.boxAtIn, Bd.v, Bd.cs, SL.rowV] at hu hv hK ⊢
            all_goals (have hsz := hG.size; simp only [World.size_drew] at hsz)
            all_goals (have hcc := hG.undrew.cellsE.1)
            all_goals (have r1 : w'.cell? ⟨w.heap.size, 1, none⟩ = some (.slice (some ⟨b, off, none⟩) bs.length cap) := (hcc _ _ (by omega) (hnm _ (by omega))).trans c1)
            all_goals (have e0 := (hcc _ _ (by omega) (hnm _ (by omega))).trans d0)
            all_goals (have e1 := (hcc _ _ (by omega) (hnm _ (by omega))).trans d1)
            all_goals (have e2 := (hcc _ _ (by omega) (hnm _ (by omega))).trans d2)
            all_goals (have e3 := (hcc _ _ (by omega) (hnm _ (by omega))).trans d3)
            all_goals clear hcc d0 d1 d2 d3 c1 c20 c21 c10 c11 f1 f2
            all_goals try (go_step; refine hK _ _ _ _ (by simp [Act.put, *]; done) (SL.Chg.refl _ _) rfl rfl (by simp))
            · obtain ⟨⟨u1, _⟩, _, u4, _⟩ := hu
              have y1 := (SL.cells_of u4).1 1
              simp at y1
              go_step
              refine hK _ _ _ _ (by simp [Act.put, *]; done) (SL.Chg.refl _ _) rfl rfl (by simp)
            · go_step
              refine hK _ _ _ _ (by simp [Act.put, *]; done) (.alloc _ _ _) (World.ownsRow_lit w' _ 1 (by omega) (by decide) rfl) rfl (by simp [Value.ownBlock])
            · obtain ⟨⟨u1, _⟩, ⟨u2, u3⟩, u4, u5⟩ := hu
              obtain ⟨sa, c', hsl, _⟩ := owns_slice u2
              refine wp_app elemB _ _ rfl u4 u1 hsl (RowAt.of_owns (hsl ▸ u2)) (m := 1) rfl (by simp [Value.oneCell']) (by unfold maxLen; omega) (by omega) (by omega) ?_
              intro v' w2 ho hg hb9 _ hat
              refine hK _ v' w2 _ rfl ?_ ho rfl ?_
              · exact .of_own hg (by rw [u5]; simp)
              · rw [u5]; exact SL.app_bounds u4 ho hat
            · obtain ⟨⟨u2, u3⟩, ⟨u6, _⟩, hu4, u4, u5⟩ := hu
              obtain ⟨sa, c', hsl, _⟩ := owns_slice u2
              have y1 := (SL.cells_of u4).1 1
              have g0 := (SL.cells_of u4).2
              simp at y1
              have hne : w.heap.size + 1 + 1 ∉ (Value.slice sa (l.length + 1) c').ownBlock.toList := fun h => by have := (SL.row_bounds (hsl ▸ u2) _ h).1; omega
              rw [hsl] at u2 u3
              go_step
              refine hK _ undef _ _ (by simp [Act.put, *]; done) (.setCell _ (by simp [u5]) _) hu4 _ (SL.heap_set u4 _) (SL.row_set u2 hne _) rfl ?_
              rw [u5, u3]; simp; exact fun k h => .inl (.inl h)
          · intro us w' Fs hG hu hbd hd
            simp [SL.frame, SL.put', SL.Used, SL.Seen, SL.pu, SL.row, SL.box, SL.rowIn, SL.boxIn, SL.boxAt, SL.boxAtIn, Bd.v, Bd.cs, SL.rowV] at hu ⊢
            obtain ⟨u4, y, hh, ho, hF⟩ := hu
            have hsz := hG.size
            simp only [World.size_drew] at hsz
            have hk1 := (hG.undrew.block (w.heap.size + 1) (by omega) (hnm _ (by omega))).trans h1
            have hcc := (hG.undrew.cellsE.1 w.heap.size 1 (by omega) (hnm _ (by omega))).trans c1
            clear c1 c20 c21 c10 c11 f1 f2
            go_wp2
            go_roundw
            case rel =>
              refine ⟨j + 1, by omega, by go_num, hB.trans (hG.belowF (by have := hB.size; omega) (fun k hk => ?_)), by omega, hcc, hk1, y, hh, ?_⟩
              · rcases List.mem_cons.1 hk with e | e
                · omega
                · have := (hvb _ e).1; omega
              · rw [HYes.out, bcs_append]
                simpa [bcs, Bd.cs] using ho
            case measure => simp [intOf]; omega
      · go_wp2_with (go_at_call 75; refine hH.mono ?_; rintro e w2 ⟨rfl, rfl⟩)
        go_roundw
        case rel => exact ⟨j + 1, by omega, by go_num, hB, hz, c1, h1, v, h2, by rw [Hno.out (by rw [Hq.out, hz0]; rfl)]; exact hown⟩
        case measure => simp [intOf]; omega
    · rw [List.take_of_length_le (by omega)] at hown
      obtain ⟨sa, sc, rfl, _⟩ := owns_slice hown
      go_wp2_with fail
      refine bodyPost_ret (v := .agg #[.int .i64 p, .slice sa (bs.filter (onlyB xs)).length sc]) (by simp [results, Tryz.results48, go_sem, *]) rfl ⟨_, rfl, ?_, ?_⟩
      · have hne : w.heap.size + 1 ∉ (Value.slice sa (bs.filter (onlyB xs)).length sc).ownBlock.toList := fun h => by have := (SL.row_bounds hown _ h).1; omega
        exact SL.row_base (SL.row_set (SL.row_set hown hne _) hne _) (by omega)
      · exact (hB.setCell (by simp) _).setCell (by simp) _
end Go.Proofs.YtlkcfohmoeadbaaGreat

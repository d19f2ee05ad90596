/-
  Lemmas and walks for the laws on bounds and their sums; the parts' own heads say what each proves, for every input.
-/
import Derived.Test.YtlkcfohmoeadbaaPk12
import Derived.Test.YtlkcfohmoeadbaaPk04
import Derived.Test.YtlkcfohmoeadbaaPk13
import Derived.Test.YtlkcfohmoeadbaaPk10
import Derived.Test.YtlkcfohmoeadbaaPk23
import Derived.Test.YtlkcfohmoeadbaaPk17
import Derived.Test.YtlkcfohmoeadbaaPk25
import Derived.Test.YtlkcfohmoeadbaaPk15
import Derived.Test.YtlkcfohmoeadbaaPk24
import Derived.Test.YtlkcfohmoeadbaaPk22
set_option linter.unusedSimpArgs false
set_option linter.unusedVariables false
set_option linter.unnecessarySimpa false
/-
  The reference of layer 1, walked: less, with, only, all.
-/
namespace Go.Proofs.Ytlkcfohmoeadbaa
open Go.RowKit Go.Shelf
set_option maxHeartbeats 1000000
set_option maxRecDepth 100000
theorem IntsAt.sub {w : World} {b off cap : Nat} {xs : List Int} (h : RowAt w (some ⟨b, off, none⟩) cap (xs.map (.int .i64))) (i : Nat) {a2 : Option Addr} {c2 : Nat} (ha : a2 = some ⟨b, off + i, none⟩ ∨ (xs.length ≤ i ∧ ∃ o2, a2 = some ⟨b, o2, none⟩)) : RowAt w a2 c2 ((xs.drop i).map (.int .i64)) := by
  obtain ⟨_, h2, h3⟩ := h.at_ _ rfl
  rcases ha with rfl | ⟨hl, o2, rfl⟩
  · refine ⟨fun h => (by cases h), fun x hx => ?_⟩
    obtain rfl := Option.some.inj hx
    refine ⟨rfl, h2, fun j u hj => ?_⟩
    have := h3 (i + j) u (by simpa [List.getElem?_map, List.getElem?_drop] using hj)
    simpa [Nat.add_assoc] using this
  · rw [List.drop_eq_nil_of_le hl]
    refine ⟨fun h => (by cases h), fun x hx => ?_⟩
    obtain rfl := Option.some.inj hx
    exact ⟨rfl, h2, fun j u hj => by simp at hj⟩
theorem IntsAt.take {w : World} {a : Option Addr} {cap : Nat} {xs : List Int} (h : RowAt w a cap (xs.map (.int .i64))) (i : Nat) : RowAt w a cap ((xs.take i).map (.int .i64)) := by
  refine ⟨fun h0 => ?_, fun x hx => ?_⟩
  · obtain ⟨h1, h2⟩ := h.nil h0
    simp at h1
    subst h1
    exact ⟨by simp, h2⟩
  · obtain ⟨h1, h2, h3⟩ := h.at_ x hx
    refine ⟨h1, h2, fun j u hj => h3 j u ?_⟩
    have hl : j < (xs.take i).length := by have := (List.getElem?_eq_some_iff.1 hj).1; simpa using this
    rw [List.getElem?_map, List.getElem?_take_of_lt (by simp at hl; omega)] at hj
    rw [List.getElem?_map]; exact hj

theorem RowAt.chg {w w' : World} {a : Option Addr} {cap : Nat} {vs : List Value} {E : List Nat} (h : RowAt w a cap vs) (hc : SL.Chg E w w') (hE : ∀ x, a = some x → x.block ∉ E) : RowAt w' a cap vs := by
  refine ⟨h.nil, fun x hx => ?_⟩
  obtain ⟨h1, h2, h3⟩ := h.at_ x hx
  exact ⟨h1, by have := hc.size; omega, fun i u hi => Eq.trans (World.cell?_of_block (w := w) (a := ⟨x.block, x.off + i, none⟩) (hc.block _ h2 (hE x hx))) (h3 i u hi)⟩

theorem rless_any (b off n cap : Nat) (xs : List Int) (i : Nat) (w : World) (hx : IntsAt w (some ⟨b, off, none⟩) n cap xs) (hi : i < xs.length) (hcap : n ≤ cap) (hn : n ≤ 100000) :
    Calls Try.prog 86 #[.slice (some ⟨b, off, none⟩) n cap, .int .i64 i] w fun e w' => ∃ v, e = .returned v ∧ w'.ownsRow w.heap.size 3 1 v (xs.length - 1) ((xs.take i ++ xs.drop (i + 1)).map (.int .i64)) ∧ Below w.heap.size w w' := by
  obtain rfl := hx.len
  obtain ⟨a2, ha2⟩ : ∃ a2, (if cap = i + 1 then some (⟨b, off, none⟩ : Addr) else some ⟨b, off + (i + 1), none⟩) = a2 := ⟨_, rfl⟩
  have hd := IntsAt.sub hx.row (i + 1) (a2 := a2) (c2 := cap - (i + 1)) (by
    rw [← ha2]
    by_cases e : cap = i + 1
    · rw [if_pos e]; exact .inr ⟨by omega, _, rfl⟩
    · rw [if_neg e]; exact .inl rfl)
  have ht := IntsAt.take hx.row i
  have hbl : b < w.heap.size := (hx.row.at_ _ rfl).2.1
  have hw1 : IntKind.i64.wrap ((i : Int) + 1) = (i : Int) + 1 := IntWalk.i64_in _ (by omega)
  have h2 : ∀ z, a2 = some z → z.block < w.heap.size := fun z hz => (hd.at_ z hz).2.1
  have hlen : i + (xs.length - (i + 1)) = xs.length - 1 := by omega
  have Hlen := Lib.hid hlen
  clear hlen
  go_enter Try.func86, Try.ntmps86
  go_wp2_with fail
  refine SL.rule (by kernel_rfl) [] [5, 6, 7, 8, 9, 10, 11, 12, 13, 14, 4] [
    SL.row 5 [] [] w.heap.size 3 1 0 [], SL.pu 6 [] (.slice (some ⟨b, off, none⟩) xs.length cap), SL.pu 7 [] (.int .i64 i), SL.pu 8 [1, 2] (.slice (some ⟨b, off, none⟩) i cap),
    SL.row 9 [0, 3] [0] w.heap.size 3 1 i ((xs.take i).map (.int .i64)),
    SL.pu 10 [] (.slice (some ⟨b, off, none⟩) xs.length cap), SL.pu 11 [] (.int .i64 i), SL.pu 12 [6] (.int .i64 (i + 1)), SL.pu 13 [5, 7] (.slice a2 (xs.length - (i + 1)) (cap - (i + 1))),
    SL.row 14 [4, 8] [4] w.heap.size 3 1 (xs.length - 1) ((xs.take i ++ xs.drop (i + 1)).map (.int .i64)),
    SL.row 4 [9] [9] w.heap.size 3 1 (xs.length - 1) ((xs.take i ++ xs.drop (i + 1)).map (.int .i64))] [10] (by kernel_rfl) (by kernel_rfl) (fun _ => []) (SL.none_held rfl) (by simp) ?_ ?_
  · refine ⟨?_, ?_, ?_, ?_, ?_, ?_, ?_, ?_, ?_, ?_, ?_, trivial⟩
    all_goals refine SL.ob fun us w' Fe hG hu hd_ hv K hK => ?_
    all_goals simp [SL.frame, SL.put', SL.Used, SL.Seen, SL.pu, SL.row] at hu hv hK ⊢
    all_goals (have hsz := hG.size; simp only [World.size_drew] at hsz)
    all_goals try (go_step; refine hK _ _ _ _ (by simp [Act.put, *]; done) (SL.Chg.refl _ _) rfl rfl (by simp))
    · go_step
      refine hK _ (.slice (some ⟨w'.heap.size, 0, none⟩) 0 0) _ _ (by simp [Act.put, *]; done) (.alloc _ _ _) ?_ rfl (by simp [Value.ownBlock])
      have := World.ownsRow_lit (base := w.heap.size) (e := 3) (size := 1) w' #[] 0 hsz (by decide) rfl
      simpa using this
    · obtain ⟨⟨u1, u2⟩, u3, _⟩ := hu
      refine wp_app elemI _ _ rfl u1 rfl u3 (ht.chg hG.undrew (fun _ _ => by simp)) (by simp [Nat.min_eq_left (Nat.le_of_lt hi)]) (ones_int _) (by unfold maxLen; omega) (by omega) hsz ?_
      intro v' w2 ho hg hb _ hat
      refine hK _ v' w2 _ rfl ?_ (by simpa using ho) rfl ?_
      · exact .of_own hg (by rw [u2]; simp)
      · rw [u2]; exact SL.app_bounds u1 ho hat
    · obtain ⟨⟨u1, u2⟩, u3, _⟩ := hu
      refine wp_app elemI _ _ rfl u1 rfl u3 (hd.chg hG.undrew (fun _ _ => by simp)) (m := xs.length - (i + 1)) (by simp) (ones_int _) (by unfold maxLen; omega) (by omega) hsz ?_
      intro v' w2 ho hg hb _ hat
      rw [Hlen.out] at ho
      refine hK _ v' w2 _ rfl ?_ (by simpa using ho) rfl ?_
      · exact .of_own hg (by rw [u2]; simp)
      · rw [u2]; exact SL.app_bounds u1 ho hat
    · obtain ⟨u2, u3⟩ := hu
      obtain ⟨sa, c, hsl, _⟩ := owns_slice u2
      go_step
      refine hK _ (.slice sa (xs.length - 1) c) _ _ (by simp [Act.put, *]; done) (.refl _ _) ?_ rfl ?_
      · rw [← hsl]; simpa using u2
      · rw [u3, hsl]; exact fun k h => .inl h
  · intro us w' Fs hG hu hbd hd_
    simp [SL.frame, SL.put', SL.Used, SL.Seen, SL.pu, SL.row] at hu ⊢
    obtain ⟨u2, u3⟩ := hu
    obtain ⟨sa, c, hsl, _⟩ := owns_slice u2
    go_wp2
    go_ret
    exact ⟨_, rfl, by simpa using u2, hG.below'⟩

theorem insI_at {n : Int} : ∀ (k : Nat) (xs : List Int), k ≤ xs.length → (∀ j, j < k → xs.getD j 0 < n) → insI n xs = xs.take k ++ insI n (xs.drop k)
  | 0, xs, _, _ => by simp
  | k + 1, [], h, _ => by simp at h
  | k + 1, x :: xs, h, hj => by
    have h0 := hj 0 (by omega)
    simp at h0
    have ih := insI_at (n := n) k xs (by simpa using h) (fun j hk => by have := hj (j + 1) (by omega); simpa using this)
    simp only [insI, if_pos h0, List.take_succ_cons, List.drop_succ_cons, List.cons_append, ih]

theorem insI_end {n : Int} {xs : List Int} (h : ∀ j, j < xs.length → xs.getD j 0 < n) : insI n xs = xs ++ [n] := by
  rw [insI_at xs.length xs (Nat.le_refl _) h]; simp [insI]
theorem insI_same {n : Int} {xs : List Int} {k : Nat} (hk : k < xs.length) (h : ∀ j, j < k → xs.getD j 0 < n) (he : xs.getD k 0 = n) : insI n xs = xs := by
  rw [insI_at k xs (by omega) h, List.drop_eq_getElem_cons hk]
  have : xs[k] = n := by rw [← he]; simp [List.getD_eq_getElem?_getD, List.getElem?_eq_getElem hk]
  rw [insI, if_neg (by omega), if_pos this, ← List.drop_eq_getElem_cons hk, List.take_append_drop]
theorem insI_mid {n : Int} {xs : List Int} {k : Nat} (hk : k < xs.length) (h : ∀ j, j < k → xs.getD j 0 < n) (he : n < xs.getD k 0) : insI n xs = xs.take k ++ [n] ++ xs.drop k := by
  rw [insI_at k xs (by omega) h, List.drop_eq_getElem_cons hk]
  have : n < xs[k] := by
    have : xs.getD k 0 = xs[k] := by simp [List.getD_eq_getElem?_getD, List.getElem?_eq_getElem hk]
    omega
  rw [insI, if_neg (by omega), if_neg (by omega)]
  simp


theorem rwith_any (v : Value) (xs : List Int) (x : Int) (base : Nat) (w : World) (hown : w.ownsRow base 3 1 v xs.length (xs.map (.int .i64))) (hn : xs.length ≤ 100000) (hbase : base ≤ w.heap.size) :
    Calls Try.prog 124 #[v, .int .i64 x] w fun e w' => ∃ v', e = .returned v' ∧ w'.ownsRow base 3 1 v' (insI x xs).length ((insI x xs).map (.int .i64)) ∧ Below w.heap.size w w' := by
  obtain ⟨sa, c, rfl, _⟩ := owns_slice hown
  have hx := IntsAt.of_owns hown (by omega)
  rcases hown.2 with ⟨hv, h0⟩ | ⟨b, cap, cur, hv, hbg, _, hcap, _⟩
  · simp at hv
    obtain ⟨rfl, hxl, rfl⟩ := hv
    have hxe : xs = [] := by simpa using hxl
    subst hxe
    have ht := RowAt.nilAt w
    have hd := RowAt.nilAt w
    have Hlen := Lib.hid (show 0 + 1 + 0 = 0 + 1 from rfl)
    go_enter Try.func124, Try.ntmps124
    go_wp2_with fail
    go_loop [5] (fun i => i = .int .i64 0) (fun _ => 0)
    case atStart => rfl
    case round =>
      subst hrel
      go_wp2_with fail
      refine SL.rule (by kernel_rfl) [] [33, 34, 35, 36, 37, 38, 39, 40, 41, 42, 43, 44, 4] [
        SL.row 33 [] [] w.heap.size 3 1 0 [], SL.pu 34 [] (.slice none 0 0), SL.pu 35 [] (.int .i64 0), SL.pu 36 [1, 2] (.slice none 0 0),
        SL.row 37 [0, 3] [0] w.heap.size 3 1 0 (([] : List Int).map (.int .i64)),
        SL.pu 38 [] (.int .i64 x), SL.row 39 [5] [] w.heap.size 3 1 1 ([x].map (.int .i64)),
        SL.row 40 [4, 6] [4] w.heap.size 3 1 (0 + 1) ((([] : List Int) ++ [x]).map (.int .i64)),
        SL.pu 41 [] (.slice none 0 0), SL.pu 42 [] (.int .i64 0), SL.pu 43 [8, 9] (.slice none 0 0),
        SL.row 44 [7, 10] [7] w.heap.size 3 1 (0 + 1) ((([] : List Int) ++ [x] ++ ([] : List Int)).map (.int .i64)),
        SL.row 4 [11] [11] w.heap.size 3 1 (0 + 1) ((([] : List Int) ++ [x] ++ ([] : List Int)).map (.int .i64))] [12] (by kernel_rfl) (by kernel_rfl) (fun _ => []) (SL.none_held rfl) (by simp) ?_ ?_
      · refine ⟨?_, ?_, ?_, ?_, ?_, ?_, ?_, ?_, ?_, ?_, ?_, ?_, ?_, trivial⟩
        all_goals refine SL.ob fun us w' Fe hG hu hd_ hv K hK => ?_
        all_goals simp [SL.frame, SL.put', SL.Used, SL.Seen, SL.pu, SL.row] at hu hv hK ⊢
        all_goals (have hsz := hG.size; simp only [World.size_drew] at hsz)
        all_goals try (go_step; refine hK _ _ _ _ (by simp [Act.put, *]; done) (SL.Chg.refl _ _) rfl rfl (by simp))
        · go_step
          refine hK _ (.slice (some ⟨w'.heap.size, 0, none⟩) 0 0) _ _ (by simp [Act.put, *]; done) (.alloc _ _ _) ?_ rfl (by simp [Value.ownBlock])
          have := World.ownsRow_lit (base := w.heap.size) (e := 3) (size := 1) w' #[] 0 hsz (by decide) rfl
          simpa using this
        · obtain ⟨⟨u1, u2⟩, u3, _⟩ := hu
          refine wp_app elemI _ _ rfl u1 rfl u3 (ht.chg hG.undrew (fun _ _ => by simp)) (m := 0) (by simp; try omega) (by first | exact ones_int _ | (intro u hu; simp at hu)) (by unfold maxLen; omega) (by omega) hsz ?_
          intro v' w2 ho hg hb _ hat
          refine hK _ v' w2 _ rfl ?_ (by simpa using ho) rfl ?_
          · exact .of_own hg (by rw [u2]; simp)
          · rw [u2]; exact SL.app_bounds u1 ho hat
        · go_step
          refine hK _ (.slice (some ⟨w'.heap.size, 0, none⟩) 1 1) _ _ (by simp [Act.put, *]; done) (.alloc _ _ _) ?_ rfl (by simp [Value.ownBlock])
          have := World.ownsRow_lit (base := w.heap.size) (e := 3) (size := 1) w' #[.int .i64 x] 1 hsz (by decide) rfl
          simpa using this
        · obtain ⟨⟨u1, u2⟩, u3, u4⟩ := hu
          obtain ⟨sa, c, hsl, _⟩ := owns_slice u3
          refine wp_app elemI _ _ rfl u1 rfl hsl (RowAt.of_owns (hsl ▸ u3)) (m := 1) rfl (by simp [Value.oneCell']) (by unfold maxLen; omega) (by omega) hsz ?_
          intro v' w2 ho hg hb _ hat
          refine hK _ v' w2 _ rfl ?_ (by simpa using ho) rfl ?_
          · exact .of_own hg (by rw [u2]; simp)
          · rw [u2]; exact SL.app_bounds u1 ho hat
        · obtain ⟨⟨u1, u2⟩, u3, _⟩ := hu
          refine wp_app elemI _ _ rfl u1 rfl u3 (hd.chg hG.undrew (fun _ _ => by simp)) (m := 0) (by simp) (by first | exact ones_int _ | (intro u hu; simp at hu)) (by unfold maxLen; omega) (by omega) hsz ?_
          intro v' w2 ho hg hb _ hat
          try rw [Hlen.out] at ho
          refine hK _ v' w2 _ rfl ?_ (by simpa using ho) rfl ?_
          · exact .of_own hg (by rw [u2]; simp)
          · rw [u2]; exact SL.app_bounds u1 ho hat
        · obtain ⟨u2, u3⟩ := hu
          obtain ⟨sa, c, hsl, _⟩ := owns_slice u2
          go_step
          refine hK _ (.slice sa (0 + 1) c) _ _ (by simp [Act.put, *]; done) (.refl _ _) ?_ rfl ?_
          · rw [← hsl]; simpa using u2
          · rw [u3, hsl]; exact fun k h => .inl h
      · intro us w' Fs hG hu hbd hd_
        simp [SL.frame, SL.put', SL.Used, SL.Seen, SL.pu, SL.row] at hu ⊢
        obtain ⟨u2, u3⟩ := hu
        obtain ⟨sa, c, hsl, _⟩ := owns_slice u2
        go_wp2
        go_ret
        exact ⟨_, rfl, SL.row_base (by simpa [insI] using u2) hbase, hG.below'⟩
  · simp at hv
    obtain ⟨rfl, rfl⟩ := hv
    have hbl := (hx.row.at_ _ rfl).2.1
    go_enter Try.func124, Try.ntmps124
    go_wp2_with fail
    go_loop [5] (fun i => ∃ k : Nat, k ≤ xs.length ∧ i = .int .i64 k ∧ ∀ j, j < k → xs.getD j 0 < x) (fun i => xs.length - (match i with | .int _ q => q.toNat | _ => 0))
    case atStart => exact ⟨0, Nat.zero_le _, rfl, fun j h => by omega⟩
    case round =>
      obtain ⟨k, hk, rfl, hall⟩ := hrel
      have Hall := Lib.hid hall
      clear hall
      obtain ⟨a2, ha2⟩ : ∃ a2, (if c = k then some (⟨b, 0, none⟩ : Addr) else some ⟨b, k, none⟩) = a2 := ⟨_, rfl⟩
      have ht := IntsAt.take hx.row k
      have hd := IntsAt.sub hx.row k (a2 := a2) (c2 := c - k) (by
        rw [← ha2]
        by_cases e : c = k
        · rw [if_pos e]; exact .inr ⟨by omega, _, rfl⟩
        · rw [if_neg e]; exact .inl (by simp))
      have Hlen := Lib.hid (show k + 1 + (xs.length - k) = xs.length + 1 by omega)
      by_cases hlt : k < xs.length
      · obtain ⟨b1, off, hb1, _, d0⟩ := hx.get hlt
        simp at hb1
        obtain ⟨rfl, rfl⟩ := hb1
        obtain ⟨y, hy⟩ : ∃ y, xs.getD k 0 = y := ⟨_, rfl⟩
        rw [hy, Nat.zero_add] at d0
        have Hy := Lib.hid hy
        clear hy
        by_cases h1 : y < x
        · go_wp2_with fail
          go_round
          case rel => exact ⟨k + 1, by omega, by go_num, fun j hj => by
            by_cases e : j = k
            · rw [e, Hy.out]; exact h1
            · exact Hall.out j (by omega)⟩
          case measure => simp; omega
        · by_cases h2 : y = x
          · subst h2
            go_wp2_with fail
            go_ret
            exact ⟨_, rfl, by rw [insI_same hlt Hall.out Hy.out]; exact hown, Below.refl _ _⟩
          · have h2' : (y == x) = false := by simpa using h2
            obtain rfl : some (⟨b, k, none⟩ : Addr) = a2 := by rw [← ha2, if_neg (by omega)]
            have hins := insI_mid (n := x) hlt Hall.out (by rw [Hy.out]; omega)
            have hl2 : (xs.take k ++ [x] ++ xs.drop k).length = xs.length + 1 := by simp; omega
            have Hins := Lib.hid hins
            have Hl2 := Lib.hid hl2
            clear hins hl2 ha2
            go_wp2_with fail
            refine SL.rule (by kernel_rfl) [] [33, 34, 35, 36, 37, 38, 39, 40, 41, 42, 43, 44, 4] [
              SL.row 33 [] [] w.heap.size 3 1 0 [], SL.pu 34 [] (.slice (some ⟨b, 0, none⟩) xs.length c), SL.pu 35 [] (.int .i64 k), SL.pu 36 [1, 2] (.slice (some ⟨b, 0, none⟩) k c),
              SL.row 37 [0, 3] [0] w.heap.size 3 1 k ((xs.take k).map (.int .i64)),
              SL.pu 38 [] (.int .i64 x), SL.row 39 [5] [] w.heap.size 3 1 1 ([x].map (.int .i64)),
              SL.row 40 [4, 6] [4] w.heap.size 3 1 (k + 1) (((xs.take k) ++ [x]).map (.int .i64)),
              SL.pu 41 [] (.slice (some ⟨b, 0, none⟩) xs.length c), SL.pu 42 [] (.int .i64 k), SL.pu 43 [8, 9] (.slice (some ⟨b, k, none⟩) (xs.length - k) (c - k)),
              SL.row 44 [7, 10] [7] w.heap.size 3 1 (xs.length + 1) (((xs.take k) ++ [x] ++ (xs.drop k)).map (.int .i64)),
              SL.row 4 [11] [11] w.heap.size 3 1 (xs.length + 1) (((xs.take k) ++ [x] ++ (xs.drop k)).map (.int .i64))] [12] (by kernel_rfl) (by kernel_rfl) (fun _ => []) (SL.none_held rfl) (by simp) ?_ ?_
            · refine ⟨?_, ?_, ?_, ?_, ?_, ?_, ?_, ?_, ?_, ?_, ?_, ?_, ?_, trivial⟩
              all_goals refine SL.ob fun us w' Fe hG hu hd_ hv K hK => ?_
              all_goals simp [SL.frame, SL.put', SL.Used, SL.Seen, SL.pu, SL.row] at hu hv hK ⊢
              all_goals (have hsz := hG.size; simp only [World.size_drew] at hsz)
              all_goals try (go_step; refine hK _ _ _ _ (by simp [Act.put, *]; done) (SL.Chg.refl _ _) rfl rfl (by simp))
              · go_step
                refine hK _ (.slice (some ⟨w'.heap.size, 0, none⟩) 0 0) _ _ (by simp [Act.put, *]; done) (.alloc _ _ _) ?_ rfl (by simp [Value.ownBlock])
                have := World.ownsRow_lit (base := w.heap.size) (e := 3) (size := 1) w' #[] 0 hsz (by decide) rfl
                simpa using this
              · obtain ⟨⟨u1, u2⟩, u3, _⟩ := hu
                refine wp_app elemI _ _ rfl u1 rfl u3 (ht.chg hG.undrew (fun _ _ => by simp)) (m := k) (by simp; try omega) (by first | exact ones_int _ | (intro u hu; simp at hu)) (by unfold maxLen; omega) (by omega) hsz ?_
                intro v' w2 ho hg hb _ hat
                refine hK _ v' w2 _ rfl ?_ (by simpa using ho) rfl ?_
                · exact .of_own hg (by rw [u2]; simp)
                · rw [u2]; exact SL.app_bounds u1 ho hat
              · go_step
                refine hK _ (.slice (some ⟨w'.heap.size, 0, none⟩) 1 1) _ _ (by simp [Act.put, *]; done) (.alloc _ _ _) ?_ rfl (by simp [Value.ownBlock])
                have := World.ownsRow_lit (base := w.heap.size) (e := 3) (size := 1) w' #[.int .i64 x] 1 hsz (by decide) rfl
                simpa using this
              · obtain ⟨⟨u1, u2⟩, u3, u4⟩ := hu
                obtain ⟨sa, c, hsl, _⟩ := owns_slice u3
                refine wp_app elemI _ _ rfl u1 rfl hsl (RowAt.of_owns (hsl ▸ u3)) (m := 1) rfl (by simp [Value.oneCell']) (by unfold maxLen; omega) (by omega) hsz ?_
                intro v' w2 ho hg hb _ hat
                refine hK _ v' w2 _ rfl ?_ (by simpa using ho) rfl ?_
                · exact .of_own hg (by rw [u2]; simp)
                · rw [u2]; exact SL.app_bounds u1 ho hat
              · obtain ⟨⟨u1, u2⟩, u3, _⟩ := hu
                refine wp_app elemI _ _ rfl u1 rfl u3 (hd.chg hG.undrew (fun _ _ => by simp)) (m := (xs.length - k)) (by simp) (by first | exact ones_int _ | (intro u hu; simp at hu)) (by unfold maxLen; omega) (by omega) hsz ?_
                intro v' w2 ho hg hb _ hat
                try rw [Hlen.out] at ho
                refine hK _ v' w2 _ rfl ?_ (by simpa using ho) rfl ?_
                · exact .of_own hg (by rw [u2]; simp)
                · rw [u2]; exact SL.app_bounds u1 ho hat
              · obtain ⟨u2, u3⟩ := hu
                obtain ⟨sa, c, hsl, _⟩ := owns_slice u2
                go_step
                refine hK _ (.slice sa (xs.length + 1) c) _ _ (by simp [Act.put, *]; done) (.refl _ _) ?_ rfl ?_
                · rw [← hsl]; simpa using u2
                · rw [u3, hsl]; exact fun k h => .inl h
            · intro us w' Fs hG hu hbd hd_
              simp [SL.frame, SL.put', SL.Used, SL.Seen, SL.pu, SL.row] at hu ⊢
              obtain ⟨u2, u3⟩ := hu
              obtain ⟨sa, c, hsl, _⟩ := owns_slice u2
              go_wp2
              go_ret
              exact ⟨_, rfl, by rw [Hins.out, Hl2.out]; exact SL.row_base (by simpa using u2) hbase, hG.below'⟩
      · obtain rfl : k = xs.length := by omega
        have Hins := Lib.hid (insI_end (n := x) Hall.out)
        have Hl2 := Lib.hid (show (xs ++ [x]).length = xs.length + 1 by simp)
        go_wp2_with fail
        refine SL.rule (by kernel_rfl) [] [33, 34, 35, 36, 37, 38, 39, 40, 41, 42, 43, 44, 4] [
          SL.row 33 [] [] w.heap.size 3 1 0 [], SL.pu 34 [] (.slice (some ⟨b, 0, none⟩) xs.length c), SL.pu 35 [] (.int .i64 xs.length), SL.pu 36 [1, 2] (.slice (some ⟨b, 0, none⟩) xs.length c),
          SL.row 37 [0, 3] [0] w.heap.size 3 1 xs.length ((xs.take xs.length).map (.int .i64)),
          SL.pu 38 [] (.int .i64 x), SL.row 39 [5] [] w.heap.size 3 1 1 ([x].map (.int .i64)),
          SL.row 40 [4, 6] [4] w.heap.size 3 1 (xs.length + 1) (((xs.take xs.length) ++ [x]).map (.int .i64)),
          SL.pu 41 [] (.slice (some ⟨b, 0, none⟩) xs.length c), SL.pu 42 [] (.int .i64 xs.length), SL.pu 43 [8, 9] (.slice a2 0 (c - xs.length)),
          SL.row 44 [7, 10] [7] w.heap.size 3 1 (xs.length + 1) (((xs.take xs.length) ++ [x] ++ (xs.drop xs.length)).map (.int .i64)),
          SL.row 4 [11] [11] w.heap.size 3 1 (xs.length + 1) (((xs.take xs.length) ++ [x] ++ (xs.drop xs.length)).map (.int .i64))] [12] (by kernel_rfl) (by kernel_rfl) (fun _ => []) (SL.none_held rfl) (by simp) ?_ ?_
        · refine ⟨?_, ?_, ?_, ?_, ?_, ?_, ?_, ?_, ?_, ?_, ?_, ?_, ?_, trivial⟩
          all_goals refine SL.ob fun us w' Fe hG hu hd_ hv K hK => ?_
          all_goals simp [SL.frame, SL.put', SL.Used, SL.Seen, SL.pu, SL.row] at hu hv hK ⊢
          all_goals (have hsz := hG.size; simp only [World.size_drew] at hsz)
          all_goals try (go_step; refine hK _ _ _ _ (by simp [Act.put, *]; done) (SL.Chg.refl _ _) rfl rfl (by simp))
          · go_step
            refine hK _ (.slice (some ⟨w'.heap.size, 0, none⟩) 0 0) _ _ (by simp [Act.put, *]; done) (.alloc _ _ _) ?_ rfl (by simp [Value.ownBlock])
            have := World.ownsRow_lit (base := w.heap.size) (e := 3) (size := 1) w' #[] 0 hsz (by decide) rfl
            simpa using this
          · obtain ⟨⟨u1, u2⟩, u3, _⟩ := hu
            refine wp_app elemI _ _ rfl u1 rfl u3 (ht.chg hG.undrew (fun _ _ => by simp)) (m := xs.length) (by simp; try omega) (by first | exact ones_int _ | (intro u hu; simp at hu)) (by unfold maxLen; omega) (by omega) hsz ?_
            intro v' w2 ho hg hb _ hat
            refine hK _ v' w2 _ rfl ?_ (by simpa using ho) rfl ?_
            · exact .of_own hg (by rw [u2]; simp)
            · rw [u2]; exact SL.app_bounds u1 ho hat
          · go_step
            refine hK _ (.slice (some ⟨w'.heap.size, 0, none⟩) 1 1) _ _ (by simp [Act.put, *]; done) (.alloc _ _ _) ?_ rfl (by simp [Value.ownBlock])
            have := World.ownsRow_lit (base := w.heap.size) (e := 3) (size := 1) w' #[.int .i64 x] 1 hsz (by decide) rfl
            simpa using this
          · obtain ⟨⟨u1, u2⟩, u3, u4⟩ := hu
            obtain ⟨sa, c, hsl, _⟩ := owns_slice u3
            refine wp_app elemI _ _ rfl u1 rfl hsl (RowAt.of_owns (hsl ▸ u3)) (m := 1) rfl (by simp [Value.oneCell']) (by unfold maxLen; omega) (by omega) hsz ?_
            intro v' w2 ho hg hb _ hat
            refine hK _ v' w2 _ rfl ?_ (by simpa using ho) rfl ?_
            · exact .of_own hg (by rw [u2]; simp)
            · rw [u2]; exact SL.app_bounds u1 ho hat
          · obtain ⟨⟨u1, u2⟩, u3, _⟩ := hu
            refine wp_app elemI _ _ rfl u1 rfl u3 (hd.chg hG.undrew (fun _ _ => by simp)) (m := 0) (by simp) (by first | exact ones_int _ | (intro u hu; simp at hu)) (by unfold maxLen; omega) (by omega) hsz ?_
            intro v' w2 ho hg hb _ hat
            try rw [Hlen.out] at ho
            refine hK _ v' w2 _ rfl ?_ (by simpa using ho) rfl ?_
            · exact .of_own hg (by rw [u2]; simp)
            · rw [u2]; exact SL.app_bounds u1 ho hat
          · obtain ⟨u2, u3⟩ := hu
            obtain ⟨sa, c, hsl, _⟩ := owns_slice u2
            go_step
            refine hK _ (.slice sa (xs.length + 1) c) _ _ (by simp [Act.put, *]; done) (.refl _ _) ?_ rfl ?_
            · rw [← hsl]; simpa using u2
            · rw [u3, hsl]; exact fun k h => .inl h
        · intro us w' Fs hG hu hbd hd_
          simp [SL.frame, SL.put', SL.Used, SL.Seen, SL.pu, SL.row] at hu ⊢
          obtain ⟨u2, u3⟩ := hu
          obtain ⟨sa, c, hsl, _⟩ := owns_slice u2
          go_wp2
          go_ret
          exact ⟨_, rfl, by rw [Hins.out, Hl2.out]; exact SL.row_base (by simpa using u2) hbase, hG.below'⟩
end Go.Proofs.Ytlkcfohmoeadbaa

/-
  The reference of layer 1, walked: only, all.
-/
namespace Go.Proofs.Ytlkcfohmoeadbaa
open Go.RowKit Go.Shelf
set_option maxHeartbeats 1000000
set_option maxRecDepth 100000

def ralS (l : List Int) (b : Bd) : List Int := if 0 < b.bid then insI b.bid l else l
theorem rall_idsL {bs : List Bd} (h : ∀ b ∈ bs, 0 ≤ b.bid ∧ b.bid ≤ 1000000) : bs.foldl ralS [] = idsL bs := by
  suffices hh : ∀ (bs : List Bd) (l : List Int), (∀ b ∈ bs, 0 ≤ b.bid ∧ b.bid ≤ 1000000) → bs.foldl ralS l = bs.foldl (fun l b => if b.bid = 0 then l else insI b.bid l) l from hh bs [] h
  intro bs
  induction bs with
  | nil => intro l _; rfl
  | cons b bs ih =>
    intro l h
    have h0 := h b (List.mem_cons_self)
    simp only [List.foldl_cons]
    rw [ih _ (fun c hc => h c (List.mem_cons_of_mem _ hc))]
    congr 1
    unfold ralS
    by_cases e : b.bid = 0
    · rw [if_pos e, if_neg (by omega)]
    · rw [if_neg e, if_pos (by omega)]

theorem insI_len (n : Int) : ∀ l : List Int, (insI n l).length ≤ l.length + 1
  | [] => by simp [insI]
  | x :: l => by have := insI_len n l; simp only [insI]; split <;> (try split) <;> simp_all
theorem ral_len (bs : List Bd) : (bs.foldl ralS []).length ≤ bs.length := by
  suffices hh : ∀ (bs : List Bd) (l : List Int), (bs.foldl ralS l).length ≤ l.length + bs.length by simpa using hh bs []
  intro bs
  induction bs with
  | nil => intro l; simp
  | cons b bs ih =>
    intro l
    have h1 := ih (ralS l b)
    have h2 := insI_len b.bid l
    simp only [List.foldl_cons, List.length_cons]
    have h3 : (ralS l b).length ≤ l.length + 1 := by unfold ralS; split <;> omega
    omega

theorem rall_any (p : Int) (a : Option Addr) (n cap : Nat) (bs : List Bd) (w : World) (hb : BdsAt w a n cap bs) (hs : bs.length ≤ 400) (hid : ∀ b ∈ bs, 0 ≤ b.bid ∧ b.bid ≤ 1000000) :
    Calls Try.prog 84 #[.agg #[.int .i64 p, .slice a n cap]] w fun e w' => ∃ v, e = .returned v ∧ w'.ownsRow w.heap.size 3 1 v (idsL bs).length ((idsL bs).map (.int .i64)) ∧ Below w.heap.size w w' := by
  obtain rfl := hb.len
  rw [← rall_idsL hid]
  go_enter Try.func84, Try.ntmps84
  go_wp2_with fail
  go_loopw [4, 3] (fun i v wr => ∃ k : Nat, k ≤ bs.length ∧ i = .int .i64 k ∧ Below w.heap.size w wr ∧ w.heap.size < wr.heap.size ∧ wr.cell? ⟨w.heap.size, 1, none⟩ = some (.slice a bs.length cap) ∧
    wr.ownsRow (w.heap.size + 1) 3 1 v ((bs.take k).foldl ralS []).length (((bs.take k).foldl ralS []).map (.int .i64))) (fun i _ _ => bs.length - (intOf i).toNat)
  case atStart => exact ⟨0, Nat.zero_le _, rfl, (Below.refl _ _).alloc (Nat.le_refl _) _, by simp, by simp [go_sem], World.ownsRow_nil _ _ _ _⟩
  case round =>
    obtain ⟨k, hk, rfl, hB, hz, c1, hown⟩ := hrel
    by_cases hlt : k < bs.length
    · obtain ⟨b, off, rfl, hbl, d0, d1, d2, d3⟩ := (hb.below hB).get hlt
      have hl := ral_len (bs.take k)
      have Hs := Lib.hid (show (bs.take (k + 1)).foldl ralS [] = ralS ((bs.take k).foldl ralS []) (bs.getD k default) by
        rw [List.take_succ_eq_append_getElem hlt, List.foldl_append]; simp [List.getD_eq_getElem?_getD, List.getElem?_eq_getElem hlt])
      generalize bs.getD k default = x at *
      generalize (bs.take k).foldl ralS [] = l at *
      have hl2 : l.length ≤ 400 := by simp at hl; omega
      by_cases hx : 0 < x.bid
      · have hW := rwith_any _ l x.bid (w.heap.size + 1) wr hown (by omega) (by omega)
        go_wp2_with (go_at_call 124; refine hW.mono ?_; rintro e w2 ⟨v2, rfl, ho2, hb2⟩; obtain ⟨hc2, hf2⟩ := bcell hb2; have hz2 := lt_size hb2 (b := w.heap.size) (by first | assumption | omega | (simp; done) | (simp; omega)))
        go_roundw
        case rel =>
          refine ⟨k + 1, by omega, by go_num, hB.trans (hb2.mono (by omega)), by omega, ?_, ?_⟩
          · rw [hc2 _ _ (by omega)]; exact c1
          · rw [Hs.out, ralS, if_pos hx]; exact ho2
        case measure => simp [intOf]; omega
      · go_wp2_with fail
        go_roundw
        case rel => exact ⟨k + 1, by omega, by go_num, hB, hz, c1, by rw [Hs.out, ralS, if_neg hx]; exact hown⟩
        case measure => simp [intOf]; omega
    · rw [List.take_of_length_le (by omega)] at hown
      go_wp2_with fail
      go_ret
      exact ⟨_, rfl, SL.row_base hown (by omega), hB⟩
end Go.Proofs.Ytlkcfohmoeadbaa

/-
  The reference of layer 1, walked: only.
-/
namespace Go.Proofs.Ytlkcfohmoeadbaa
open Go.RowKit Go.Shelf
set_option maxHeartbeats 4000000
set_option maxRecDepth 100000

def SL.br (n N : Nat) (l : List Nat) : Nat → List Nat := fun i => if i = n then [N] else if i = n + 1 then l else []
/-- A box and a row are held from the beginning. -/
theorem SL.br_held {ops : List Oper} {Γ : List SL.Sp} {a0 : Act} {w : World} {x y : SL.Sp} {N : Nat} {l : List Nat} (h : Γ.length = ops.length + 2) (hx : Γ[ops.length]? = some x) (hy : Γ[ops.length + 1]? = some y)
    (hA : x.A (a0.tmps.getD x.sub undef) w.drew [N]) (hB : y.A (a0.tmps.getD y.sub undef) w.drew l) (hN : N < w.heap.size) (hl : ∀ k ∈ l, k < w.heap.size) :
    ∀ i s, ops.length ≤ i → Γ[i]? = some s → s.A (a0.tmps.getD s.sub undef) w.drew (SL.br ops.length N l i) ∧ ∀ k ∈ SL.br ops.length N l i, k ∈ N :: l ∧ k < w.heap.size := by
  intro i s hi hs
  unfold SL.br
  by_cases e : i = ops.length
  · subst e; rw [hx] at hs; cases hs; rw [if_pos rfl]; exact ⟨hA, fun k hk => by simp at hk; subst hk; exact ⟨by simp, hN⟩⟩
  · by_cases e1 : i = ops.length + 1
    · subst e1; rw [hy] at hs; cases hs; rw [if_neg (by omega), if_pos rfl]; exact ⟨hB, fun k hk => ⟨List.mem_cons_of_mem _ hk, hl k hk⟩⟩
    · rw [List.getElem?_eq_none (by omega)] at hs; cases hs
theorem SL.br_apart {n N : Nat} {l : List Nat} (h : N ∉ l) : ∀ i j, i ≠ j → n ≤ i → n ≤ j → ∀ k ∈ SL.br n N l i, k ∉ SL.br n N l j := by
  intro i j hij _ _ k hk
  unfold SL.br at *
  split at hk
  · simp at hk; subst hk
    rw [if_neg (by omega)]
    split
    · exact h
    · simp
  · split at hk
    · split
      · simp; intro e; subst e; exact h hk
      · rw [if_neg (by omega)]; simp
    · simp at hk

theorem ronly_any (p : Int) (a : Option Addr) (n cap : Nat) (bs : List Bd) (al : Option Addr) (m c : Nat) (xs : List Int) (w : World) (hb : BdsAt w a n cap bs) (hx : IntsAt w al m c xs) (hs : bs.length ≤ 400) :
    Calls Try.prog 85 #[.agg #[.int .i64 p, .slice a n cap], .slice al m c] w fun e w' => ∃ v, e = .returned (.agg #[.int .i64 p, v]) ∧ w'.ownsRow w.heap.size 39 4 v (bs.filter (onlyB xs)).length (bcs (bs.filter (onlyB xs))) ∧ Below w.heap.size w w' := by
  obtain rfl := hb.len
  go_enter Try.func85, Try.ntmps85
  go_wp2_with fail
  go_loopw [6] (fun i wr => ∃ k : Nat, k ≤ bs.length ∧ i = .int .i64 k ∧ Below w.heap.size w wr ∧ w.heap.size + 3 ≤ wr.heap.size ∧ wr.cell? ⟨w.heap.size, 1, none⟩ = some (.slice a bs.length cap) ∧ wr.heap[w.heap.size + 1]? = some (.cells #[.int .i64 0, .slice none 0 0] 24 (0,0)) ∧ ∃ v, wr.heap[w.heap.size + 2]? = some (.cells #[.int .i64 p, v] 24 (0,0)) ∧ wr.ownsRow (w.heap.size + 3) 39 4 v ((bs.take k).filter (onlyB xs)).length (bcs ((bs.take k).filter (onlyB xs)))) (fun i _ => bs.length - (intOf i).toNat)
  case atStart =>
    refine ⟨0, Nat.zero_le _, rfl, by ((repeat (first | assumption | exact Below.refl _ _ | refine Below.alloc ?_ ?_ _ | refine Below.setCell ?_ ?_ _ | refine Below.drew ?_ | refine belowN ?_ | refine Below.up ?_ (by assumption) ?_)) <;> (first | assumption | omega | (simp; done) | (simp; omega))), by simp, by simp [go_sem], ?_, .slice none 0 0, ?_, World.ownsRow_nil _ _ _ _⟩
    · rw [Below.heap_alloc _ _ _ (by simp)]; exact heap_alloc2_new _ _ _
    · have h := World.alloc_heap_new ((w.alloc (Obj.cells #[.int .i64 p, .slice a bs.length cap] 24)).alloc (Obj.cells #[.int .i64 0, .slice none 0 0] 24)) (Obj.cells #[.int .i64 p, .slice none 0 0] 24)
      rw [World.size_alloc, World.size_alloc] at h
      exact h
  case round =>
    obtain ⟨j, hj, rfl, hB, hz, c1, h1, v, h2, hown⟩ := hrel
    obtain ⟨a2, f2⟩ := SL.cells_of h2
    obtain ⟨a1, f1⟩ := SL.cells_of h1
    have c20 := a2 0
    have c21 := a2 1
    have c10 := a1 0
    have c11 := a1 1
    simp at c20 c21 c10 c11
    clear a1 a2
    have hxw := hx.below hB
    by_cases hlt : j < bs.length
    · obtain ⟨b, off, rfl, hbl, d0, d1, d2, d3⟩ := (hb.below hB).get hlt
      obtain ⟨b', off', he, hbl', _⟩ := hb.get hlt
      simp at he
      obtain ⟨rfl, rfl⟩ := he
      have Hyes := Lib.hid (filter_take_yes (q := onlyB xs) hlt)
      have Hno := Lib.hid (filter_take_no (q := onlyB xs) hlt)
      have hL := filter_take_len (onlyB xs) bs j
      generalize hxx : bs.getD j default = x at *
      clear hxx
      generalize hl : (bs.take j).filter (onlyB xs) = l at *
      clear hl
      have hH := rhas_any al m c xs x.bid wr hxw
      have Hq := Lib.hid (show onlyB xs x = (x.bid == 0 || xs.any (· == x.bid)) from rfl)
      generalize xs.any (· == x.bid) = q at *
      have hcases : (q = true ∨ (q = false ∧ (x.bid == 0) = true)) ∨ (q = false ∧ (x.bid == 0) = false) := by
        cases q <;> cases (x.bid == 0) <;> simp
      rcases hcases with hyes | ⟨rfl, hz0⟩
      · have hYes := Hyes.out (by rw [Hq.out]; rcases hyes with h | ⟨_, h⟩ <;> simp [h])
        have HYes := Lib.hid hYes
        clear hYes
        rcases hyes with rfl | ⟨rfl, hz0⟩
        · go_wp2_with (go_at_call 125; refine hH.mono ?_; rintro e w2 ⟨rfl, rfl⟩)
          have hvb := SL.row_bounds hown
          have hnm : ∀ k, k < w.heap.size + 2 → k ∉ (w.heap.size + 2) :: v.ownBlock.toList := fun k hk h => by
            rcases List.mem_cons.1 h with e | e
            · omega
            · have := (hvb _ e).1; omega
          refine SL.rule (by kernel_rfl) ((w.heap.size + 2) :: v.ownBlock.toList) [36, 37, 38, 39, 40, 41, 42, 43, 44, 45] [
            SL.pu 36 [] (.pointer (some ⟨w.heap.size + 1 + 1, 1, none⟩)), SL.pu 37 [0, 11] v, SL.pu 38 [] (.pointer (some ⟨w.heap.size, 1, none⟩)), SL.pu 39 [2] (.slice (some ⟨b, off, none⟩) bs.length cap), SL.pu 40 [] (.int .i64 j), SL.pu 41 [3, 4] (.pointer (some ⟨b, off + j * 4, none⟩)), SL.pu 42 [5] x.v,
            SL.row 43 [6] [] (w.heap.size + 3) 39 4 1 x.cs, SL.row 44 [1, 7, 12] [12] (w.heap.size + 3) 39 4 (l.length + 1) (bcs l ++ x.cs), SL.pu 45 [] (.pointer (some ⟨w.heap.size + 1 + 1, 1, none⟩)),
            SL.boxAtIn 5 [8, 9, 11] [8, 11] (w.heap.size + 1 + 1) 24 (w.heap.size + 3) 39 4 (l.length + 1) (bcs l ++ x.cs) (fun u => #[.int .i64 p, u]),
            SL.boxAt 5 [] [] (w.heap.size + 1 + 1) 24 #[.int .i64 p, v], SL.rowV (w.heap.size + 3) 39 4 l.length v (bcs l)] [10] (by kernel_rfl) (by kernel_rfl) _
            (SL.br_held (N := w.heap.size + 1 + 1) (l := v.ownBlock.toList) rfl rfl rfl ⟨rfl, h2, rfl⟩ ⟨hown, rfl⟩ (by omega) (fun k hk => (hvb k hk).2)) (SL.br_apart (fun h => by have := (hvb _ h).1; omega)) ?_ ?_
          · refine ⟨?_, ?_, ?_, ?_, ?_, ?_, ?_, ?_, ?_, ?_, ?_, trivial⟩
            all_goals refine SL.ob fun us w' Fe hG hu hd hv K hK => ?_
            all_goals simp [SL.frame, SL.put', SL.Used, SL.Seen, SL.pu, SL.row, SL.box, SL.rowIn, SL.boxIn, SL.boxAt, SL.boxAtIn, Bd.v, Bd.cs, SL.rowV] at hu hv hK ⊢
            all_goals (have hsz := hG.size; simp only [World.size_drew] at hsz)
            all_goals (have hcc := hG.undrew.cellsE.1)
            all_goals (have r1 : w'.cell? ⟨w.heap.size, 1, none⟩ = some (.slice (some ⟨b, off, none⟩) bs.length cap) := (hcc _ _ (by omega) (hnm _ (by omega))).trans c1)
            all_goals (have e0 := (hcc _ _ (by omega) (hnm _ (by omega))).trans d0)
            all_goals (have e1 := (hcc _ _ (by omega) (hnm _ (by omega))).trans d1)
            all_goals (have e2 := (hcc _ _ (by omega) (hnm _ (by omega))).trans d2)
            all_goals (have e3 := (hcc _ _ (by omega) (hnm _ (by omega))).trans d3)
            all_goals clear hcc d0 d1 d2 d3 c1 c20 c21 c10 c11 f1 f2
            all_goals try (go_step; refine hK _ _ _ _ (by simp [Act.put, *]; done) (SL.Chg.refl _ _) rfl rfl (by simp))
            · obtain ⟨⟨u1, _⟩, _, u4, _⟩ := hu
              have y1 := (SL.cells_of u4).1 1
              simp at y1
              go_step
              refine hK _ _ _ _ (by simp [Act.put, *]; done) (SL.Chg.refl _ _) rfl rfl (by simp)
            · go_step
              refine hK _ _ _ _ (by simp [Act.put, *]; done) (.alloc _ _ _) (World.ownsRow_lit w' _ 1 (by omega) (by decide) rfl) rfl (by simp [Value.ownBlock])
            · obtain ⟨⟨u1, _⟩, ⟨u2, u3⟩, u4, u5⟩ := hu
              obtain ⟨sa, c', hsl, _⟩ := owns_slice u2
              refine wp_app elemB _ _ rfl u4 u1 hsl (RowAt.of_owns (hsl ▸ u2)) (m := 1) rfl (by simp [Value.oneCell']) (by unfold maxLen; omega) (by omega) (by omega) ?_
              intro v' w2 ho hg hb9 _ hat
              refine hK _ v' w2 _ rfl ?_ ho rfl ?_
              · exact .of_own hg (by rw [u5]; simp)
              · rw [u5]; exact SL.app_bounds u4 ho hat
            · obtain ⟨⟨u2, u3⟩, ⟨u6, _⟩, hu4, u4, u5⟩ := hu
              obtain ⟨sa, c', hsl, _⟩ := owns_slice u2
              have y1 := (SL.cells_of u4).1 1
              have g0 := (SL.cells_of u4).2
              simp at y1
              have hne : w.heap.size + 1 + 1 ∉ (Value.slice sa (l.length + 1) c').ownBlock.toList := fun h => by have := (SL.row_bounds (hsl ▸ u2) _ h).1; omega
              rw [hsl] at u2 u3
              go_step
              refine hK _ undef _ _ (by simp [Act.put, *]; done) (.setCell _ (by simp [u5]) _) hu4 _ (SL.heap_set u4 _) (SL.row_set u2 hne _) rfl ?_
              rw [u5, u3]; simp; exact fun k h => .inl (.inl h)
          · intro us w' Fs hG hu hbd hd
            simp [SL.frame, SL.put', SL.Used, SL.Seen, SL.pu, SL.row, SL.box, SL.rowIn, SL.boxIn, SL.boxAt, SL.boxAtIn, Bd.v, Bd.cs, SL.rowV] at hu ⊢
            obtain ⟨u4, y, hh, ho, hF⟩ := hu
            have hsz := hG.size
            simp only [World.size_drew] at hsz
            have hk1 := (hG.undrew.block (w.heap.size + 1) (by omega) (hnm _ (by omega))).trans h1
            have hcc := (hG.undrew.cellsE.1 w.heap.size 1 (by omega) (hnm _ (by omega))).trans c1
            clear c1 c20 c21 c10 c11 f1 f2
            go_wp2
            go_roundw
            case rel =>
              refine ⟨j + 1, by omega, by go_num, hB.trans (hG.belowF (by have := hB.size; omega) (fun k hk => ?_)), by omega, hcc, hk1, y, hh, ?_⟩
              · rcases List.mem_cons.1 hk with e | e
                · omega
                · have := (hvb _ e).1; omega
              · rw [HYes.out, bcs_append]
                simpa [bcs, Bd.cs] using ho
            case measure => simp [intOf]; omega
        · go_wp2_with (go_at_call 125; refine hH.mono ?_; rintro e w2 ⟨rfl, rfl⟩)
          have hvb := SL.row_bounds hown
          have hnm : ∀ k, k < w.heap.size + 2 → k ∉ (w.heap.size + 2) :: v.ownBlock.toList := fun k hk h => by
            rcases List.mem_cons.1 h with e | e
            · omega
            · have := (hvb _ e).1; omega
          refine SL.rule (by kernel_rfl) ((w.heap.size + 2) :: v.ownBlock.toList) [36, 37, 38, 39, 40, 41, 42, 43, 44, 45] [
            SL.pu 36 [] (.pointer (some ⟨w.heap.size + 1 + 1, 1, none⟩)), SL.pu 37 [0, 11] v, SL.pu 38 [] (.pointer (some ⟨w.heap.size, 1, none⟩)), SL.pu 39 [2] (.slice (some ⟨b, off, none⟩) bs.length cap), SL.pu 40 [] (.int .i64 j), SL.pu 41 [3, 4] (.pointer (some ⟨b, off + j * 4, none⟩)), SL.pu 42 [5] x.v,
            SL.row 43 [6] [] (w.heap.size + 3) 39 4 1 x.cs, SL.row 44 [1, 7, 12] [12] (w.heap.size + 3) 39 4 (l.length + 1) (bcs l ++ x.cs), SL.pu 45 [] (.pointer (some ⟨w.heap.size + 1 + 1, 1, none⟩)),
            SL.boxAtIn 5 [8, 9, 11] [8, 11] (w.heap.size + 1 + 1) 24 (w.heap.size + 3) 39 4 (l.length + 1) (bcs l ++ x.cs) (fun u => #[.int .i64 p, u]),
            SL.boxAt 5 [] [] (w.heap.size + 1 + 1) 24 #[.int .i64 p, v], SL.rowV (w.heap.size + 3) 39 4 l.length v (bcs l)] [10] (by kernel_rfl) (by kernel_rfl) _
            (SL.br_held (N := w.heap.size + 1 + 1) (l := v.ownBlock.toList) rfl rfl rfl ⟨rfl, h2, rfl⟩ ⟨hown, rfl⟩ (by omega) (fun k hk => (hvb k hk).2)) (SL.br_apart (fun h => by have := (hvb _ h).1; omega)) ?_ ?_
          · refine ⟨?_, ?_, ?_, ?_, ?_, ?_, ?_, ?_, ?_, ?_, ?_, trivial⟩
            all_goals refine SL.ob fun us w' Fe hG hu hd hv K hK => ?_
            all_goals simp [SL.frame, SL.put', SL.Used, SL.Seen, SL.pu, SL.row, SL.box, SL.rowIn, SL.boxIn, SL.boxAt, SL.boxAtIn, Bd.v, Bd.cs, SL.rowV] at hu hv hK ⊢
            all_goals (have hsz := hG.size; simp only [World.size_drew] at hsz)
            all_goals (have hcc := hG.undrew.cellsE.1)
            all_goals (have r1 : w'.cell? ⟨w.heap.size, 1, none⟩ = some (.slice (some ⟨b, off, none⟩) bs.length cap) := (hcc _ _ (by omega) (hnm _ (by omega))).trans c1)
            all_goals (have e0 := (hcc _ _ (by omega) (hnm _ (by omega))).trans d0)
            all_goals (have e1 := (hcc _ _ (by omega) (hnm _ (by omega))).trans d1)
            all_goals (have e2 := (hcc _ _ (by omega) (hnm _ (by omega))).trans d2)
            all_goals (have e3 := (hcc _ _ (by omega) (hnm _ (by omega))).trans d3)
            all_goals clear hcc d0 d1 d2 d3 c1 c20 c21 c10 c11 f1 f2
            all_goals try (go_step; refine hK _ _ _ _ (by simp [Act.put, *]; done) (SL.Chg.refl _ _) rfl rfl (by simp))
            · obtain ⟨⟨u1, _⟩, _, u4, _⟩ := hu
              have y1 := (SL.cells_of u4).1 1
              simp at y1
              go_step
              refine hK _ _ _ _ (by simp [Act.put, *]; done) (SL.Chg.refl _ _) rfl rfl (by simp)
            · go_step
              refine hK _ _ _ _ (by simp [Act.put, *]; done) (.alloc _ _ _) (World.ownsRow_lit w' _ 1 (by omega) (by decide) rfl) rfl (by simp [Value.ownBlock])
            · obtain ⟨⟨u1, _⟩, ⟨u2, u3⟩, u4, u5⟩ := hu
              obtain ⟨sa, c', hsl, _⟩ := owns_slice u2
              refine wp_app elemB _ _ rfl u4 u1 hsl (RowAt.of_owns (hsl ▸ u2)) (m := 1) rfl (by simp [Value.oneCell']) (by unfold maxLen; omega) (by omega) (by omega) ?_
              intro v' w2 ho hg hb9 _ hat
              refine hK _ v' w2 _ rfl ?_ ho rfl ?_
              · exact .of_own hg (by rw [u5]; simp)
              · rw [u5]; exact SL.app_bounds u4 ho hat
            · obtain ⟨⟨u2, u3⟩, ⟨u6, _⟩, hu4, u4, u5⟩ := hu
              obtain ⟨sa, c', hsl, _⟩ := owns_slice u2
              have y1 := (SL.cells_of u4).1 1
              have g0 := (SL.cells_of u4).2
              simp at y1
              have hne : w.heap.size + 1 + 1 ∉ (Value.slice sa (l.length + 1) c').ownBlock.toList := fun h => by have := (SL.row_bounds (hsl ▸ u2) _ h).1; omega
              rw [hsl] at u2 u3
              go_step
              refine hK _ undef _ _ (by simp [Act.put, *]; done) (.setCell _ (by simp [u5]) _) hu4 _ (SL.heap_set u4 _) (SL.row_set u2 hne _) rfl ?_
              rw [u5, u3]; simp; exact fun k h => .inl (.inl h)
          · intro us w' Fs hG hu hbd hd
            simp [SL.frame, SL.put', SL.Used, SL.Seen, SL.pu, SL.row, SL.box, SL.rowIn, SL.boxIn, SL.boxAt, SL.boxAtIn, Bd.v, Bd.cs, SL.rowV] at hu ⊢
            obtain ⟨u4, y, hh, ho, hF⟩ := hu
            have hsz := hG.size
            simp only [World.size_drew] at hsz
            have hk1 := (hG.undrew.block (w.heap.size + 1) (by omega) (hnm _ (by omega))).trans h1
            have hcc := (hG.undrew.cellsE.1 w.heap.size 1 (by omega) (hnm _ (by omega))).trans c1
            clear c1 c20 c21 c10 c11 f1 f2
            go_wp2
            go_roundw
            case rel =>
              refine ⟨j + 1, by omega, by go_num, hB.trans (hG.belowF (by have := hB.size; omega) (fun k hk => ?_)), by omega, hcc, hk1, y, hh, ?_⟩
              · rcases List.mem_cons.1 hk with e | e
                · omega
                · have := (hvb _ e).1; omega
              · rw [HYes.out, bcs_append]
                simpa [bcs, Bd.cs] using ho
            case measure => simp [intOf]; omega
      · go_wp2_with (go_at_call 125; refine hH.mono ?_; rintro e w2 ⟨rfl, rfl⟩)
        go_roundw
        case rel => exact ⟨j + 1, by omega, by go_num, hB, hz, c1, h1, v, h2, by rw [Hno.out (by rw [Hq.out, hz0]; rfl)]; exact hown⟩
        case measure => simp [intOf]; omega
    · rw [List.take_of_length_le (by omega)] at hown
      obtain ⟨sa, sc, rfl, _⟩ := owns_slice hown
      go_wp2_with fail
      refine bodyPost_ret (v := .agg #[.int .i64 p, .slice sa (bs.filter (onlyB xs)).length sc]) (by simp [results, Try.results85, go_sem, *]) rfl ⟨_, rfl, ?_, ?_⟩
      · have hne : w.heap.size + 1 ∉ (Value.slice sa (bs.filter (onlyB xs)).length sc).ownBlock.toList := fun h => by have := (SL.row_bounds hown _ h).1; omega
        exact SL.row_base (SL.row_set (SL.row_set hown hne _) hne _) (by omega)
      · exact (hB.setCell (by simp) _).setCell (by simp) _
end Go.Proofs.Ytlkcfohmoeadbaa

/-
  The reference of layer 1, walked: Doubt.
-/
namespace Go.Proofs.Ytlkcfohmoeadbaa
open Go.RowKit Go.Shelf
set_option maxHeartbeats 4000000
set_option maxRecDepth 100000

/-- A value of which something is known. -/
def SL.ex (s : Nat) (u : List Nat) (R : Value → Prop) : SL.Sp := { sub := s, use := u, eat := [], A := fun x _ F => R x ∧ F = [], st := fun _ _ _ _ h _ _ => h }

theorem rless_own (v : Value) (xs : List Int) (i base : Nat) (w : World) (hown : w.ownsRow base 3 1 v xs.length (xs.map (.int .i64))) (hi : i < xs.length) (hn : xs.length ≤ 100000) :
    Calls Try.prog 86 #[v, .int .i64 i] w fun e w' => ∃ v', e = .returned v' ∧ w'.ownsRow w.heap.size 3 1 v' (xs.take i ++ xs.drop (i + 1)).length ((xs.take i ++ xs.drop (i + 1)).map (.int .i64)) ∧ Below w.heap.size w w' := by
  obtain ⟨sa, c, rfl, _⟩ := owns_slice hown
  have hx := IntsAt.of_owns hown (by omega)
  rcases hown.2 with ⟨_, h0⟩ | ⟨b, cap, cur, hv, hbg, _, hcap, _⟩
  · omega
  · simp at hv
    obtain ⟨rfl, rfl⟩ := hv
    have hl : (xs.take i ++ xs.drop (i + 1)).length = xs.length - 1 := by simp; omega
    rw [hl]
    exact rless_any b 0 _ _ xs i w hx hi hcap hn

theorem onlyB_len (xs : List Int) (bs : List Bd) : (bs.filter (onlyB xs)).length ≤ bs.length := List.length_filter_le _ _
theorem rkeep_len (st : List Bd → Bool) (bs : List Bd) (k : Nat) : (rkeep st bs k).length ≤ 2 * bs.length := by
  have h1 := loAt_len (st := st) (bs := bs) k
  have h2 := idsL_len bs
  unfold rkeep
  simp
  omega
theorem rkeep_lt {st : List Bd → Bool} {bs : List Bd} {k : Nat} (hk : k < (idsL bs).length) : k < (rkeep st bs (k + 1)).length := by
  unfold rkeep
  simp
  omega

theorem rDoubt_any (p : Int) (a : Option Addr) (n cap : Nat) (bs : List Bd) (w : World) (hb : BdsAt w a n cap bs) :
    Calls Try.prog 31 #[.agg #[.int .i64 p, .slice a n cap]] w fun e w' => ∃ v, e = .returned (.tuple #[v, .bool (dbtB p bs), .int .i64 (chk p bs)]) ∧ Below w.heap.size w w' ∧
      w'.ownsRow w.heap.size 3 1 v (dbtL p bs).length ((dbtL p bs).map (.int .i64)) := by
  have hb0 : Below w.heap.size w (w.alloc (Obj.cells #[.int .i64 p, .slice a n cap] 24)) := (Below.refl _ _).alloc (Nat.le_refl _) _
  have hbx := hb.below hb0
  have hC := rcheck_any p a n cap bs _ hbx
  by_cases h0 : chk p bs = 0
  · have hs := Sys.of_chk h0
    have hpt := Pts.of_chk h0
    have h400 := chk_400 h0
    have hS := fun w1 (hb1 : BdsAt w1 a n cap bs) => rsolve_any p a n cap bs w1 hb1 hs hpt
    have hL := fun w1 (hb1 : BdsAt w1 a n cap bs) => rall_any p a n cap bs w1 hb1 h400 (chk_bids h0)
    simp only [(rsol_gsol hs hpt).1] at hS
    rw [h0] at hC ⊢
    have e1 : dbtB p bs = !okB p bs := by simp [dbtB, h0]
    have e2 : dbtL p bs = if !okB p bs then loL (fun t => !okB p t) bs else [] := by rw [dbtL, e1]
    rw [e1, e2]
    clear e1 e2
    cases ho : okB p bs with
    | true =>
      simp only [ho] at hS
      generalize (rsol p bs).1 = X at *
      go_enter Try.func31, Try.ntmps31
      go_wp2_with (first
        | (go_at_call 65; refine (hC).mono ?_; rintro e w1 ⟨rfl, hb1⟩; obtain ⟨hc1, hf1⟩ := bcell hb1; have hz1a := lt_size hb1 (b := w.heap.size) (by first | assumption | omega | (simp; done) | (simp; omega)))
        | (go_at_call 66; refine (hS _ (hbx.below hb1)).mono ?_; rintro e w2 ⟨v2, rfl, hb2, ho2⟩))
      have hz1 := hb1.size
      simp only [World.size_alloc] at hz1
      refine bodyPost_ret (v := .tuple #[.slice none 0 0, .bool false, .int .i64 0]) (by simp [results, Try.results31, go_sem, *]) rfl ⟨_, rfl, (hb0.trans (hb1.mono (by simp))).trans (hb2.mono (by omega)), World.ownsRow_nil _ _ _ _⟩
    | false =>
      simp only [ho] at hS
      generalize (rsol p bs).1 = X at *
      obtain ⟨st, hst⟩ : ∃ st : List Bd → Bool, st = fun t => !okB p t := ⟨_, rfl⟩
      have HS2 := Lib.hid (fun (T : List Bd) (hT : ∀ b ∈ T, b ∈ bs) (hTl : T.length ≤ bs.length) (w : World) (a : Option Addr) (cap : Nat) (hb : BdsAt w a T.length cap T) => by
        have hcT := chk_sub h0 hT hTl
        have h := rsolve_any p a T.length cap T w hb (Sys.of_chk hcT) (Pts.of_chk hcT)
        rw [(rsol_gsol (Sys.of_chk hcT) (Pts.of_chk hcT)).1] at h
        exact h)
      rw [← hst]
      have Hst := Lib.hid hst
      clear hst
      go_enter Try.func31, Try.ntmps31
      go_wp2_with (first
        | (go_at_call 65; refine (hC).mono ?_; rintro e w1 ⟨rfl, hb1⟩; obtain ⟨hc1, hf1⟩ := bcell hb1; have hz1a := lt_size hb1 (b := w.heap.size) (by first | assumption | omega | (simp; done) | (simp; omega)))
        | (go_at_call 66; refine (hS _ (hbx.below hb1)).mono ?_; rintro e w2 ⟨v2, rfl, hb2, ho2⟩; obtain ⟨hc2, hf2⟩ := bcell hb2; have hz2a := lt_size hb2 (b := w.heap.size) (by first | assumption | omega | (simp; done) | (simp; omega)))
        | (go_at_call 84; refine (hL _ ((hbx.below hb1).below hb2)).mono ?_; rintro e w3 ⟨v3, rfl, ho3, hb3⟩; obtain ⟨hc3, hf3⟩ := bcell hb3; have hz3a := lt_size hb3 (b := w.heap.size) (by first | assumption | omega | (simp; done) | (simp; omega)); obtain ⟨sa, sc, rfl, _⟩ := owns_slice ho3))
      have hz1 := hb1.size
      have hz2 := hb2.size
      have hz3 := hb3.size
      simp only [World.size_alloc] at hz1
      have hBw : Below w.heap.size w w3 := ((hb0.trans (hb1.mono (by simp))).trans (hb2.mono (by omega))).trans (hb3.mono (by omega))
      have s0 : w3.cell? ⟨w.heap.size, 0, none⟩ = some (.int .i64 p) := by simp [go_sem, *]
      have s1 : w3.cell? ⟨w.heap.size, 1, none⟩ = some (.slice a n cap) := by simp [go_sem, *]
      have hidl := idsL_len bs
      have Hw9 := Lib.hid (show wrap64 (((idsL bs).length : Int) - 1) = ((idsL bs).length : Int) - 1 from IntWalk.wrap64_in _ (by omega))
      have ho9 := SL.row_base ho3 (base' := w.heap.size + 1) (by omega)
      clear hc1 hf1 hc2 hf2 hc3 hf3 ho2 ho3 hC hS hL ho
      go_loopw [9, 8] (fun i v wr => ∃ k : Nat, k ≤ (idsL bs).length ∧ i = .int .i64 ((k : Int) - 1) ∧ Below w.heap.size w wr ∧ w3.heap.size ≤ wr.heap.size ∧ wr.cell? ⟨w.heap.size, 0, none⟩ = some (.int .i64 p) ∧ wr.cell? ⟨w.heap.size, 1, none⟩ = some (.slice a n cap) ∧
        wr.ownsRow (w.heap.size + 1) 3 1 v (rkeep st bs k).length ((rkeep st bs k).map (.int .i64))) (fun i _ _ => ((intOf i) + 1).toNat)
      case atStart => exact ⟨(idsL bs).length, Nat.le_refl _, congrArg (Value.int .i64) Hw9.out, hBw, Nat.le_refl _, s0, s1, by rw [rkeep_top]; exact ho9⟩
      case round =>
        obtain ⟨k, hk, rfl, hB, hz, c0, c1, hown⟩ := hrel
        cases k with
        | zero =>
          rw [rkeep_zero] at hown
          obtain ⟨ka, kc, rfl, _⟩ := owns_slice hown
          go_wp2_with fail
          refine bodyPost_ret (v := .tuple #[.slice ka (loL st bs).length kc, .bool true, .int .i64 0]) (by simp [results, Try.results31, go_sem, *]) rfl ⟨_, rfl, hB, by simpa using SL.row_base hown (by omega)⟩
        | succ k =>
          obtain ⟨ka, kc, rfl, _⟩ := owns_slice hown
          have hm : ((k + 1 : Nat) : Int) - 1 = k := by omega
          rw [hm]
          have hnn : (0 : Int) ≤ k := by omega
          have hless := rless_own (.slice ka (rkeep st bs (k + 1)).length kc) (rkeep st bs (k + 1)) k (w.heap.size + 1)
          rw [rkeep_less hk] at hless
          have Hstep := Lib.hid (rkeep_step (st := st) hk)
          have hrl := rkeep_len st bs (k + 1)
          have hKl : ((idsL bs).take k ++ (loAt st bs (k + 1)).2.reverse).length ≤ 140737488351232 := by
            have := loAt_len (st := st) (bs := bs) (k + 1)
            simp
            omega
          have hrt := rkeep_lt (st := st) hk
          generalize rkeep st bs (k + 1) = R at *
          generalize (idsL bs).take k ++ (loAt st bs (k + 1)).2.reverse = K at *
          have hTs : ∀ b ∈ bs.filter (onlyB K), b ∈ bs := fun b hb => (List.mem_filter.1 hb).1
          have hTl := onlyB_len K bs
          have Honly := Lib.hid (fun (w1 : World) (hb1 : BdsAt w1 a n cap bs) (al : Option Addr) (m c : Nat) (hx : IntsAt w1 al m c K) => ronly_any p a n cap bs al m c K w1 hb1 hx h400)
          have HSo := Lib.hid (HS2.out _ hTs hTl)
          have hstT : st (bs.filter (onlyB K)) = !okB p (bs.filter (onlyB K)) := by rw [Hst.out]
          generalize bs.filter (onlyB K) = T at *
          generalize (rsol p T).1 = X at *
          have Hless := Lib.hid hless
          clear hless hm
          have hbwr := hb.below hB
          have hax : ∀ z, a = some z → z.block < w.heap.size := fun z hz => (hb.at_ z hz).2.1
          go_wp2_with fail
          refine SL.rule (by kernel_rfl) [] [33, 34, 35, 36, 37, 38, 32, 39, 40, 10, 11] [
            SL.pu 33 [] (.agg #[.int .i64 p, .slice a n cap]), SL.pu 34 [] (.slice ka R.length kc), SL.pu 35 [] (.int .i64 k), SL.row 36 [1, 2] [] wr.heap.size 3 1 K.length (K.map (.int .i64)),
            SL.rowIn 37 [0, 3] [] wr.heap.size 39 4 T.length (bcs T) (fun u => .agg #[.int .i64 p, u]), SL.ex 38 [4] (fun x => ∃ z, x = .tuple #[z, .bool (okB p T)]), SL.ex 32 [5] (fun x => ∃ z, x = .tuple #[z, .bool (okB p T)]),
            SL.ex 39 [6] (fun _ => True), SL.pu 40 [6] (.bool (okB p T)), SL.ex 10 [7] (fun _ => True), SL.pu 11 [8] (.bool (okB p T))] [10] (by kernel_rfl) (by kernel_rfl) (fun _ => []) (SL.none_held rfl) (by simp) ?_ ?_
          · refine ⟨?_, ?_, ?_, ?_, ?_, ?_, ?_, ?_, ?_, ?_, ?_, trivial⟩
            all_goals refine SL.ob fun us w' Fe hG hu hd hv K' hK => ?_
            all_goals simp [SL.frame, SL.put', SL.Used, SL.Seen, SL.pu, SL.row, SL.box, SL.rowIn, SL.boxIn, SL.boxAt, SL.boxAtIn, Bd.v, Bd.cs, SL.ex] at hu hv hK ⊢
            all_goals (have hsz := hG.size; simp only [World.size_drew] at hsz)
            all_goals (have hgb := hG.below')
            all_goals (have r0 : w'.cell? ⟨w.heap.size, 0, none⟩ = some (.int .i64 p) := ((bcell hgb).1 _ _ (by omega)).trans c0)
            all_goals (have r1 : w'.cell? ⟨w.heap.size, 1, none⟩ = some (.slice a n cap) := ((bcell hgb).1 _ _ (by omega)).trans c1)
            all_goals try (go_step; refine hK _ _ _ _ (by simp [Act.put, *]; done) (SL.Chg.refl _ _) rfl rfl (by simp))
            · obtain ⟨⟨u1, _⟩, u2, _⟩ := hu
              go_step
              refine (Hless.out _ (World.ownsRow.up hown hgb (Nat.le_refl _)) hrt (by omega)).mono ?_
              rintro e w2 ⟨v, rfl, ho2, hb2⟩
              exact hK _ v w2 _ (by simp [Act.put, *]) (.of_below hb2) (SL.row_base ho2 hsz) rfl (SL.row_bounds ho2)
            · obtain ⟨⟨u1, _⟩, u2, u3⟩ := hu
              obtain ⟨sa, c', hsl, _⟩ := owns_slice u2
              rw [hsl] at u2 u3
              go_step
              refine (Honly.out _ (hbwr.below hgb) _ _ _ (IntsAt.of_owns u2 hKl)).mono ?_
              rintro e w2 ⟨v, rfl, ho2, hb2⟩
              exact hK _ _ w2 _ (by simp [Act.put, *]; done) (.of_below hb2) v rfl (SL.row_base ho2 hsz) rfl (SL.row_bounds ho2)
            · obtain ⟨y, u1, u2, u3⟩ := hu
              obtain ⟨sa, c', hsl, _⟩ := owns_slice u2
              rw [hsl] at u1 u2 u3
              go_step
              refine (HSo.out _ _ _ (BdsAt.of_owns u2 (by omega))).mono ?_
              rintro e w2 ⟨v, rfl, hb2, ho2⟩
              exact hK _ _ w2 _ (by simp [Act.put, *]; done) (.of_below hb2) v rfl rfl (by simp)
            · obtain ⟨⟨z, u1⟩, u2⟩ := hu
              go_step
              exact hK _ _ _ _ (by simp [Act.put, *]; done) (SL.Chg.refl _ _) z rfl rfl (by simp)
            · obtain ⟨⟨z, u1⟩, u2⟩ := hu
              go_step
              exact hK _ z _ _ (by simp [Act.put, *]; done) (SL.Chg.refl _ _) rfl (by simp)
            · obtain ⟨⟨z, u1⟩, u2⟩ := hu
              go_step
              exact hK _ _ _ _ (by simp [Act.put, *]; done) (SL.Chg.refl _ _) rfl rfl (by simp)
            · go_step
              exact hK _ (us 39) _ _ (by simp [Act.put, *]; done) (SL.Chg.refl _ _) rfl (by simp)
          · intro us w' Fs hG hu hbd hd
            simp [SL.frame, SL.put', SL.Used, SL.Seen, SL.pu, SL.row, SL.box, SL.rowIn, SL.boxIn, SL.boxAt, SL.boxAtIn, Bd.v, Bd.cs, SL.ex] at hu ⊢
            obtain ⟨u11, _⟩ := hu
            have hgb := hG.below'
            have hsz := hG.size
            simp only [World.size_drew] at hsz
            have r0 : w'.cell? ⟨w.heap.size, 0, none⟩ = some (.int .i64 p) := ((bcell hgb).1 _ _ (by omega)).trans c0
            have r1 : w'.cell? ⟨w.heap.size, 1, none⟩ = some (.slice a n cap) := ((bcell hgb).1 _ _ (by omega)).trans c1
            have how := World.ownsRow.up hown hgb (Nat.le_refl _)
            have hwk : IntKind.i64.wrap ((k : Int) - 1) = (k : Int) - 1 := IntWalk.i64_in _ (by omega)
            have hBw' : Below w.heap.size w w' := hB.trans (hgb.mono (by omega))
            clear c0 c1 hown hB
            cases hq : okB p T with
            | true =>
              rw [hq] at u11 hstT
              simp only [u11]
              go_wp2_with fail
              go_roundw
              case rel => exact ⟨k, by omega, rfl, hBw', by omega, r0, r1, by rw [Hstep.out, hstT]; exact how⟩
              case measure => simp [intOf]
            | false =>
              rw [hq] at u11 hstT
              simp only [u11]
              go_wp2_with (go_at_call 86; refine (Hless.out _ how hrt (by omega)).mono ?_; rintro e w5 ⟨v5, rfl, ho5, hb5⟩)
              have hz5 := hb5.size
              go_roundw
              case rel => exact ⟨k, by omega, rfl, hBw'.trans (hb5.mono (by omega)), by omega, ((bcell hb5).1 _ _ (by omega)).trans r0, ((bcell hb5).1 _ _ (by omega)).trans r1, by rw [Hstep.out, hstT]; exact SL.row_base ho5 (by omega)⟩
              case measure => simp [intOf]
  · have h0' : (chk p bs == 0) = false := by simpa using h0
    have e1 : dbtB p bs = false := by simp [dbtB, h0]
    have e2 : dbtL p bs = [] := by rw [dbtL, e1]; rfl
    rw [e1, e2]
    clear e1 e2
    generalize chk p bs = c at *
    go_enter Try.func31, Try.ntmps31
    go_wp2_with (go_at_call 65; refine (hC).mono ?_; rintro e w1 ⟨rfl, hb1⟩; obtain ⟨hc1, hf1⟩ := bcell hb1; have hz1a := lt_size hb1 (b := w.heap.size) (by first | assumption | omega | (simp; done) | (simp; omega)))
    refine bodyPost_ret (v := .tuple #[.slice none 0 0, .bool false, .int .i64 c]) (by simp [results, Try.results31, go_sem, *]) rfl ⟨_, rfl, hb0.trans (hb1.mono (by simp)), World.ownsRow_nil _ _ _ _⟩
end Go.Proofs.Ytlkcfohmoeadbaa

/-
  The reference of layer 1, walked: Rests.
-/
namespace Go.Proofs.Ytlkcfohmoeadbaa
open Go.RowKit Go.Shelf
set_option maxHeartbeats 4000000
set_option maxRecDepth 100000

theorem gr_hit {x y : Int} (hx : x ≤ FAR) (hy : y ≠ FAR) : (decide (x ≠ FAR) && ((if x = FAR then 0 else x) == y)) = (x == y) := by
  by_cases h : x = FAR
  · rw [h]
    have : (FAR == y) = false := by simpa using fun e => hy e.symm
    simp [this]
  · simp [h]

/-- Rests from one point to another, once the want is known. -/
def rrL (p : Int) (bs : List Bd) (f t : Int) : List Int := if gD p bs f t = FAR then [] else loL (fun T => gD p T f t == gD p bs f t) bs


theorem rRests_dir (p : Int) (a : Option Addr) (n cap : Nat) (bs : List Bd) (x y : Int) (up : Bool) (w : World) (hb : BdsAt w a n cap bs) (he : askE p bs x y = 0) :
    Calls Try.prog 29 #[.agg #[.int .i64 p, .slice a n cap], .int .i64 x, .int .i64 y, .bool up] w fun e w' => ∃ v, e = .returned (.tuple #[v, .int .i64 0]) ∧ Below w.heap.size w w' ∧
      w'.ownsRow w.heap.size 3 1 v (rstL p bs x y up).length ((rstL p bs x y up).map (.int .i64)) := by
  obtain ⟨h0, hxy, hok⟩ := askE_zero he
  have hyx : both p y x = true := by rw [both_comm]; exact hxy
  have hb0 : Below w.heap.size w (w.alloc (Obj.cells #[.int .i64 p, .slice a n cap] 24)) := (Below.refl _ _).alloc (Nat.le_refl _) _
  have hbx := hb.below hb0
  have hG := rGreatest_any p a n cap bs x y _ hbx
  rw [he] at hG
  have hs := Sys.of_chk h0
  have h400 := chk_400 h0
  have hidl := idsL_len bs
  have hL := fun w1 (hb1 : BdsAt w1 a n cap bs) => rall_any p a n cap bs w1 hb1 h400 (chk_bids h0)
  have Hw9 := Lib.hid (show wrap64 (((idsL bs).length : Int) - 1) = ((idsL bs).length : Int) - 1 from IntWalk.wrap64_in _ (by omega))
  generalize grN p bs x y = G1 at *
  generalize grB p bs x y = G2 at *
  cases up with
  | true =>
    have hg := fun w1 (hb1 : BdsAt w1 a n cap bs) => rgreatest_any p a n cap bs x y w1 hb1 h0 hok hxy
    have HS2 := Lib.hid (fun (T : List Bd) (hT : ∀ b ∈ T, b ∈ bs) (hTl : T.length ≤ bs.length) (w : World) (a : Option Addr) (cap : Nat) (hb : BdsAt w a T.length cap T) =>
      rgreatest_any p a T.length cap T x y w hb (chk_sub h0 hT hTl) (okB_sub h0 hok hT hTl) hxy)
    have e2 : rstL p bs x y true = rrL p bs x y := rfl
    rw [e2]
    unfold rrL
    by_cases hq : gD p bs x y = FAR
    · rw [if_pos hq]
      simp only [hq, if_true] at hg
      clear e2
      go_enter Try.func29, Try.ntmps29
      go_wp2_with (first
        | (go_at_call 38; refine (hG).mono ?_; rintro e w1 ⟨rfl, hb1⟩; obtain ⟨hc1, hf1⟩ := bcell hb1; have hz1a := lt_size hb1 (b := w.heap.size) (by first | assumption | omega | (simp; done) | (simp; omega)))
        | (go_at_call 83; refine (hg _ (hbx.below hb1)).mono ?_; rintro e w2 ⟨rfl, hb2⟩; obtain ⟨hc2, hf2⟩ := bcell hb2; have hz2a := lt_size hb2 (b := w.heap.size) (by first | assumption | omega | (simp; done) | (simp; omega)))
        | (go_at_call 84; refine (hL _ ((hbx.below hb1).below hb2)).mono ?_; rintro e w3 ⟨v3, rfl, ho3, hb3⟩; obtain ⟨hc3, hf3⟩ := bcell hb3; have hz3a := lt_size hb3 (b := w.heap.size) (by first | assumption | omega | (simp; done) | (simp; omega)); obtain ⟨sa, sc, rfl, _⟩ := owns_slice ho3))
      have hz1 := hb1.size
      simp only [World.size_alloc] at hz1
      refine bodyPost_ret (v := .tuple #[.slice none 0 0, .int .i64 0]) (by simp [results, Try.results29, go_sem, *]) rfl ⟨_, rfl, (hb0.trans (hb1.mono (by simp))).trans (hb2.mono (by omega)), World.ownsRow_nil _ _ _ _⟩
    · rw [if_neg hq]
      have hgt : decide (gD p bs x y ≠ FAR) = true := by simpa using hq
      simp only [hq, if_false, hgt] at hg
      obtain ⟨st, hst⟩ : ∃ st : List Bd → Bool, st = fun T => gD p T x y == gD p bs x y := ⟨_, rfl⟩
      rw [← hst]
      obtain ⟨⟨x0, x1⟩, y0, y1⟩ := both_in hxy
      have Hst := Lib.hid (fun (T : List Bd) (hT : ∀ b ∈ T, b ∈ bs) (hTl : T.length ≤ bs.length) => show (decide (gD p T x y ≠ FAR) && ((if gD p T x y = FAR then 0 else gD p T x y) == gD p bs x y)) = st T by
        rw [hst]; exact gr_hit (gD_range (Sys.of_chk (chk_sub h0 hT hTl)) x0 x1 y0 y1).2 hq)
      clear hst e2 hgt hq he h0 hxy hyx hok hs
      generalize gD p bs x y = q at *
      go_enter Try.func29, Try.ntmps29
      go_wp2_with (first
        | (go_at_call 38; refine (hG).mono ?_; rintro e w1 ⟨rfl, hb1⟩; obtain ⟨hc1, hf1⟩ := bcell hb1; have hz1a := lt_size hb1 (b := w.heap.size) (by first | assumption | omega | (simp; done) | (simp; omega)))
        | (go_at_call 83; refine (hg _ (hbx.below hb1)).mono ?_; rintro e w2 ⟨rfl, hb2⟩; obtain ⟨hc2, hf2⟩ := bcell hb2; have hz2a := lt_size hb2 (b := w.heap.size) (by first | assumption | omega | (simp; done) | (simp; omega)))
        | (go_at_call 84; refine (hL _ ((hbx.below hb1).below hb2)).mono ?_; rintro e w3 ⟨v3, rfl, ho3, hb3⟩; obtain ⟨hc3, hf3⟩ := bcell hb3; have hz3a := lt_size hb3 (b := w.heap.size) (by first | assumption | omega | (simp; done) | (simp; omega)); obtain ⟨sa, sc, rfl, _⟩ := owns_slice ho3))
      have hz1 := hb1.size
      have hz2 := hb2.size
      have hz3 := hb3.size
      simp only [World.size_alloc] at hz1
      have hBw : Below w.heap.size w w3 := ((hb0.trans (hb1.mono (by simp))).trans (hb2.mono (by omega))).trans (hb3.mono (by omega))
      have s0 : w3.cell? ⟨w.heap.size, 0, none⟩ = some (.int .i64 p) := by simp [go_sem, *]
      have s1 : w3.cell? ⟨w.heap.size, 1, none⟩ = some (.slice a n cap) := by simp [go_sem, *]
      have ho9 := SL.row_base ho3 (base' := w.heap.size + 1) (by omega)
      clear hc1 hf1 hc2 hf2 hc3 hf3 ho3 hG hg hL
      go_loopw [18, 17] (fun i v wr => ∃ k : Nat, k ≤ (idsL bs).length ∧ i = .int .i64 ((k : Int) - 1) ∧ Below w.heap.size w wr ∧ w3.heap.size ≤ wr.heap.size ∧ wr.cell? ⟨w.heap.size, 0, none⟩ = some (.int .i64 p) ∧ wr.cell? ⟨w.heap.size, 1, none⟩ = some (.slice a n cap) ∧
        wr.ownsRow (w.heap.size + 1) 3 1 v (rkeep st bs k).length ((rkeep st bs k).map (.int .i64))) (fun i _ _ => ((intOf i) + 1).toNat)
      case atStart => exact ⟨(idsL bs).length, Nat.le_refl _, (by first | rfl | exact congrArg (Value.int .i64) Hw9.out), hBw, Nat.le_refl _, s0, s1, by rw [rkeep_top]; exact ho9⟩
      case round =>
        obtain ⟨k, hk, rfl, hB, hz, c0, c1, hown⟩ := hrel
        cases k with
        | zero =>
          rw [rkeep_zero] at hown
          obtain ⟨ka, kc, rfl, _⟩ := owns_slice hown
          go_wp2_with fail
          refine bodyPost_ret (v := .tuple #[.slice ka (loL st bs).length kc, .int .i64 0]) (by simp [results, Try.results29, go_sem, *]) rfl ⟨_, rfl, hB, SL.row_base hown (by omega)⟩
        | succ k =>
          obtain ⟨ka, kc, rfl, _⟩ := owns_slice hown
          have hm : ((k + 1 : Nat) : Int) - 1 = k := by omega
          rw [hm]
          have hnn : (0 : Int) ≤ k := by omega
          have hless := rless_own (.slice ka (rkeep st bs (k + 1)).length kc) (rkeep st bs (k + 1)) k (w.heap.size + 1)
          rw [rkeep_less hk] at hless
          have Hstep := Lib.hid (rkeep_step (st := st) hk)
          have hrl := rkeep_len st bs (k + 1)
          have hKl : ((idsL bs).take k ++ (loAt st bs (k + 1)).2.reverse).length ≤ 140737488351232 := by
            have := loAt_len (st := st) (bs := bs) (k + 1)
            simp
            omega
          have hrt := rkeep_lt (st := st) hk
          generalize rkeep st bs (k + 1) = R at *
          generalize (idsL bs).take k ++ (loAt st bs (k + 1)).2.reverse = K at *
          have hTs : ∀ b ∈ bs.filter (onlyB K), b ∈ bs := fun b hb => (List.mem_filter.1 hb).1
          have hTl := onlyB_len K bs
          have Honly := Lib.hid (fun (w1 : World) (hb1 : BdsAt w1 a n cap bs) (al : Option Addr) (m c : Nat) (hx : IntsAt w1 al m c K) => ronly_any p a n cap bs al m c K w1 hb1 hx h400)
          have HSo := Lib.hid (HS2.out _ hTs hTl)
          have HstT := Lib.hid (Hst.out _ hTs hTl)
          generalize bs.filter (onlyB K) = T at *
          obtain ⟨gv, hgv⟩ : ∃ gv, (if gD p T x y = FAR then 0 else gD p T x y) = gv := ⟨_, rfl⟩
          obtain ⟨gb, hgb_⟩ : ∃ gb, decide (gD p T x y ≠ FAR) = gb := ⟨_, rfl⟩
          rw [hgv, hgb_] at HSo HstT
          have Hless := Lib.hid hless
          clear hless hm hgv hgb_
          have hbwr := hb.below hB
          have hax : ∀ z, a = some z → z.block < w.heap.size := fun z hz => (hb.at_ z hz).2.1
          go_wp2_with fail
          refine SL.rule (by kernel_rfl) [] [57, 58, 59, 60, 61, 62, 63, 64, 56, 65, 66, 19, 20] [
            SL.pu 57 [] (.agg #[.int .i64 p, .slice a n cap]), SL.pu 58 [] (.slice ka R.length kc), SL.pu 59 [] (.int .i64 k), SL.row 60 [1, 2] [] wr.heap.size 3 1 K.length (K.map (.int .i64)),
            SL.rowIn 61 [0, 3] [] wr.heap.size 39 4 T.length (bcs T) (fun u => .agg #[.int .i64 p, u]), SL.pu 62 [] (.int .i64 x), SL.pu 63 [] (.int .i64 y), SL.pu 64 [4, 5, 6] (.tuple #[.int .i64 gv, .bool gb]), SL.pu 56 [7] (.tuple #[.int .i64 gv, .bool gb]),
            SL.pu 65 [8] (.int .i64 gv), SL.pu 66 [8] (.bool gb), SL.pu 19 [9] (.int .i64 gv), SL.pu 20 [10] (.bool gb)] [11, 12] (by kernel_rfl) (by kernel_rfl) (fun _ => []) (SL.none_held rfl) (by simp) ?_ ?_
          · refine ⟨?_, ?_, ?_, ?_, ?_, ?_, ?_, ?_, ?_, ?_, ?_, ?_, ?_, trivial⟩
            all_goals refine SL.ob fun us w' Fe hG hu hd hv K' hK => ?_
            all_goals simp [SL.frame, SL.put', SL.Used, SL.Seen, SL.pu, SL.row, SL.box, SL.rowIn, SL.boxIn, SL.boxAt, SL.boxAtIn, Bd.v, Bd.cs] at hu hv hK ⊢
            all_goals (have hsz := hG.size; simp only [World.size_drew] at hsz)
            all_goals (have hgb := hG.below')
            all_goals (have r0 : w'.cell? ⟨w.heap.size, 0, none⟩ = some (.int .i64 p) := ((bcell hgb).1 _ _ (by omega)).trans c0)
            all_goals (have r1 : w'.cell? ⟨w.heap.size, 1, none⟩ = some (.slice a n cap) := ((bcell hgb).1 _ _ (by omega)).trans c1)
            all_goals try (go_step; refine hK _ _ _ _ (by simp [Act.put, *]; done) (SL.Chg.refl _ _) rfl rfl (by simp))
            · obtain ⟨⟨u1, _⟩, u2, _⟩ := hu
              go_step
              refine (Hless.out _ (World.ownsRow.up hown hgb (Nat.le_refl _)) hrt (by omega)).mono ?_
              rintro e w2 ⟨v, rfl, ho2, hb2⟩
              exact hK _ v w2 _ (by simp [Act.put, *]) (.of_below hb2) (SL.row_base ho2 hsz) rfl (SL.row_bounds ho2)
            · obtain ⟨⟨u1, _⟩, u2, u3⟩ := hu
              obtain ⟨sa, c', hsl, _⟩ := owns_slice u2
              rw [hsl] at u2 u3
              go_step
              refine (Honly.out _ (hbwr.below hgb) _ _ _ (IntsAt.of_owns u2 hKl)).mono ?_
              rintro e w2 ⟨v, rfl, ho2, hb2⟩
              exact hK _ _ w2 _ (by simp [Act.put, *]; done) (.of_below hb2) v rfl (SL.row_base ho2 hsz) rfl (SL.row_bounds ho2)
            · obtain ⟨⟨y, u1, u2, u3⟩, ⟨u4, _⟩, u5, _⟩ := hu
              obtain ⟨sa, c', hsl, _⟩ := owns_slice u2
              rw [hsl] at u1 u2 u3
              go_step
              refine (HSo.out _ _ _ (BdsAt.of_owns u2 (by omega))).mono ?_
              rintro e w2 ⟨rfl, hb2⟩
              exact hK _ _ w2 _ (by simp [Act.put, *]; done) (.of_below hb2) rfl rfl (by simp)
          · intro us w' Fs hG hu hbd hd
            simp [SL.frame, SL.put', SL.Used, SL.Seen, SL.pu, SL.row, SL.box, SL.rowIn, SL.boxIn, SL.boxAt, SL.boxAtIn, Bd.v, Bd.cs] at hu ⊢
            obtain ⟨⟨u19, _⟩, u20, _⟩ := hu
            have hgb := hG.below'
            have hsz := hG.size
            simp only [World.size_drew] at hsz
            have r0 : w'.cell? ⟨w.heap.size, 0, none⟩ = some (.int .i64 p) := ((bcell hgb).1 _ _ (by omega)).trans c0
            have r1 : w'.cell? ⟨w.heap.size, 1, none⟩ = some (.slice a n cap) := ((bcell hgb).1 _ _ (by omega)).trans c1
            have how := World.ownsRow.up hown hgb (Nat.le_refl _)
            have hwk : IntKind.i64.wrap ((k : Int) - 1) = (k : Int) - 1 := IntWalk.i64_in _ (by omega)
            have hBw' : Below w.heap.size w w' := hB.trans (hgb.mono (by omega))
            clear c0 c1 hown hB
            simp only [u19, u20]
            have hcase : (gb = true ∧ gv = q) ∨ (gb = false) ∨ (gb = true ∧ gv ≠ q) := by
              cases gb
              · simp
              · by_cases e : gv = q <;> simp [e]
            rcases hcase with ⟨rfl, rfl⟩ | rfl | ⟨rfl, e⟩
            · have hyes : st T = true := by rw [← HstT.out]; simp
              go_wp2_with (go_at_call 86; refine (Hless.out _ how hrt (by omega)).mono ?_; rintro e w5 ⟨v5, rfl, ho5, hb5⟩)
              have hz5 := hb5.size
              go_roundw
              case rel => exact ⟨k, by omega, rfl, hBw'.trans (hb5.mono (by omega)), by omega, ((bcell hb5).1 _ _ (by omega)).trans r0, ((bcell hb5).1 _ _ (by omega)).trans r1, by rw [Hstep.out, hyes]; exact SL.row_base ho5 (by omega)⟩
              case measure => simp [intOf]
            · have hno : st T = false := by rw [← HstT.out]; simp
              go_wp2_with fail
              go_roundw
              case rel => exact ⟨k, by omega, rfl, hBw', by omega, r0, r1, by rw [Hstep.out, hno]; exact how⟩
              case measure => simp [intOf]
            · have hno : st T = false := by rw [← HstT.out]; simpa using e
              have e' : (gv == q) = false := by simpa using e
              go_wp2_with fail
              go_roundw
              case rel => exact ⟨k, by omega, rfl, hBw', by omega, r0, r1, by rw [Hstep.out, hno]; exact how⟩
              case measure => simp [intOf]
  | false =>
    have hg := fun w1 (hb1 : BdsAt w1 a n cap bs) => rgreatest_any p a n cap bs y x w1 hb1 h0 hok hyx
    have HS2 := Lib.hid (fun (T : List Bd) (hT : ∀ b ∈ T, b ∈ bs) (hTl : T.length ≤ bs.length) (w : World) (a : Option Addr) (cap : Nat) (hb : BdsAt w a T.length cap T) =>
      rgreatest_any p a T.length cap T y x w hb (chk_sub h0 hT hTl) (okB_sub h0 hok hT hTl) hyx)
    have e2 : rstL p bs x y false = rrL p bs y x := rfl
    rw [e2]
    unfold rrL
    by_cases hq : gD p bs y x = FAR
    · rw [if_pos hq]
      simp only [hq, if_true] at hg
      clear e2
      go_enter Try.func29, Try.ntmps29
      go_wp2_with (first
        | (go_at_call 38; refine (hG).mono ?_; rintro e w1 ⟨rfl, hb1⟩; obtain ⟨hc1, hf1⟩ := bcell hb1; have hz1a := lt_size hb1 (b := w.heap.size) (by first | assumption | omega | (simp; done) | (simp; omega)))
        | (go_at_call 83; refine (hg _ (hbx.below hb1)).mono ?_; rintro e w2 ⟨rfl, hb2⟩; obtain ⟨hc2, hf2⟩ := bcell hb2; have hz2a := lt_size hb2 (b := w.heap.size) (by first | assumption | omega | (simp; done) | (simp; omega)))
        | (go_at_call 84; refine (hL _ ((hbx.below hb1).below hb2)).mono ?_; rintro e w3 ⟨v3, rfl, ho3, hb3⟩; obtain ⟨hc3, hf3⟩ := bcell hb3; have hz3a := lt_size hb3 (b := w.heap.size) (by first | assumption | omega | (simp; done) | (simp; omega)); obtain ⟨sa, sc, rfl, _⟩ := owns_slice ho3))
      have hz1 := hb1.size
      simp only [World.size_alloc] at hz1
      refine bodyPost_ret (v := .tuple #[.slice none 0 0, .int .i64 0]) (by simp [results, Try.results29, go_sem, *]) rfl ⟨_, rfl, (hb0.trans (hb1.mono (by simp))).trans (hb2.mono (by omega)), World.ownsRow_nil _ _ _ _⟩
    · rw [if_neg hq]
      have hgt : decide (gD p bs y x ≠ FAR) = true := by simpa using hq
      simp only [hq, if_false, hgt] at hg
      obtain ⟨st, hst⟩ : ∃ st : List Bd → Bool, st = fun T => gD p T y x == gD p bs y x := ⟨_, rfl⟩
      rw [← hst]
      obtain ⟨⟨x0, x1⟩, y0, y1⟩ := both_in hxy
      have Hst := Lib.hid (fun (T : List Bd) (hT : ∀ b ∈ T, b ∈ bs) (hTl : T.length ≤ bs.length) => show (decide (gD p T y x ≠ FAR) && ((if gD p T y x = FAR then 0 else gD p T y x) == gD p bs y x)) = st T by
        rw [hst]; exact gr_hit (gD_range (Sys.of_chk (chk_sub h0 hT hTl)) y0 y1 x0 x1).2 hq)
      clear hst e2 hgt hq he h0 hxy hyx hok hs
      generalize gD p bs y x = q at *
      go_enter Try.func29, Try.ntmps29
      go_wp2_with (first
        | (go_at_call 38; refine (hG).mono ?_; rintro e w1 ⟨rfl, hb1⟩; obtain ⟨hc1, hf1⟩ := bcell hb1; have hz1a := lt_size hb1 (b := w.heap.size) (by first | assumption | omega | (simp; done) | (simp; omega)))
        | (go_at_call 83; refine (hg _ (hbx.below hb1)).mono ?_; rintro e w2 ⟨rfl, hb2⟩; obtain ⟨hc2, hf2⟩ := bcell hb2; have hz2a := lt_size hb2 (b := w.heap.size) (by first | assumption | omega | (simp; done) | (simp; omega)))
        | (go_at_call 84; refine (hL _ ((hbx.below hb1).below hb2)).mono ?_; rintro e w3 ⟨v3, rfl, ho3, hb3⟩; obtain ⟨hc3, hf3⟩ := bcell hb3; have hz3a := lt_size hb3 (b := w.heap.size) (by first | assumption | omega | (simp; done) | (simp; omega)); obtain ⟨sa, sc, rfl, _⟩ := owns_slice ho3))
      have hz1 := hb1.size
      have hz2 := hb2.size
      have hz3 := hb3.size
      simp only [World.size_alloc] at hz1
      have hBw : Below w.heap.size w w3 := ((hb0.trans (hb1.mono (by simp))).trans (hb2.mono (by omega))).trans (hb3.mono (by omega))
      have s0 : w3.cell? ⟨w.heap.size, 0, none⟩ = some (.int .i64 p) := by simp [go_sem, *]
      have s1 : w3.cell? ⟨w.heap.size, 1, none⟩ = some (.slice a n cap) := by simp [go_sem, *]
      have ho9 := SL.row_base ho3 (base' := w.heap.size + 1) (by omega)
      clear hc1 hf1 hc2 hf2 hc3 hf3 ho3 hG hg hL
      go_loopw [18, 17] (fun i v wr => ∃ k : Nat, k ≤ (idsL bs).length ∧ i = .int .i64 ((k : Int) - 1) ∧ Below w.heap.size w wr ∧ w3.heap.size ≤ wr.heap.size ∧ wr.cell? ⟨w.heap.size, 0, none⟩ = some (.int .i64 p) ∧ wr.cell? ⟨w.heap.size, 1, none⟩ = some (.slice a n cap) ∧
        wr.ownsRow (w.heap.size + 1) 3 1 v (rkeep st bs k).length ((rkeep st bs k).map (.int .i64))) (fun i _ _ => ((intOf i) + 1).toNat)
      case atStart => exact ⟨(idsL bs).length, Nat.le_refl _, (by first | rfl | exact congrArg (Value.int .i64) Hw9.out), hBw, Nat.le_refl _, s0, s1, by rw [rkeep_top]; exact ho9⟩
      case round =>
        obtain ⟨k, hk, rfl, hB, hz, c0, c1, hown⟩ := hrel
        cases k with
        | zero =>
          rw [rkeep_zero] at hown
          obtain ⟨ka, kc, rfl, _⟩ := owns_slice hown
          go_wp2_with fail
          refine bodyPost_ret (v := .tuple #[.slice ka (loL st bs).length kc, .int .i64 0]) (by simp [results, Try.results29, go_sem, *]) rfl ⟨_, rfl, hB, SL.row_base hown (by omega)⟩
        | succ k =>
          obtain ⟨ka, kc, rfl, _⟩ := owns_slice hown
          have hm : ((k + 1 : Nat) : Int) - 1 = k := by omega
          rw [hm]
          have hnn : (0 : Int) ≤ k := by omega
          have hless := rless_own (.slice ka (rkeep st bs (k + 1)).length kc) (rkeep st bs (k + 1)) k (w.heap.size + 1)
          rw [rkeep_less hk] at hless
          have Hstep := Lib.hid (rkeep_step (st := st) hk)
          have hrl := rkeep_len st bs (k + 1)
          have hKl : ((idsL bs).take k ++ (loAt st bs (k + 1)).2.reverse).length ≤ 140737488351232 := by
            have := loAt_len (st := st) (bs := bs) (k + 1)
            simp
            omega
          have hrt := rkeep_lt (st := st) hk
          generalize rkeep st bs (k + 1) = R at *
          generalize (idsL bs).take k ++ (loAt st bs (k + 1)).2.reverse = K at *
          have hTs : ∀ b ∈ bs.filter (onlyB K), b ∈ bs := fun b hb => (List.mem_filter.1 hb).1
          have hTl := onlyB_len K bs
          have Honly := Lib.hid (fun (w1 : World) (hb1 : BdsAt w1 a n cap bs) (al : Option Addr) (m c : Nat) (hx : IntsAt w1 al m c K) => ronly_any p a n cap bs al m c K w1 hb1 hx h400)
          have HSo := Lib.hid (HS2.out _ hTs hTl)
          have HstT := Lib.hid (Hst.out _ hTs hTl)
          generalize bs.filter (onlyB K) = T at *
          obtain ⟨gv, hgv⟩ : ∃ gv, (if gD p T y x = FAR then 0 else gD p T y x) = gv := ⟨_, rfl⟩
          obtain ⟨gb, hgb_⟩ : ∃ gb, decide (gD p T y x ≠ FAR) = gb := ⟨_, rfl⟩
          rw [hgv, hgb_] at HSo HstT
          have Hless := Lib.hid hless
          clear hless hm hgv hgb_
          have hbwr := hb.below hB
          have hax : ∀ z, a = some z → z.block < w.heap.size := fun z hz => (hb.at_ z hz).2.1
          go_wp2_with fail
          refine SL.rule (by kernel_rfl) [] [57, 58, 59, 60, 61, 62, 63, 64, 56, 65, 66, 19, 20] [
            SL.pu 57 [] (.agg #[.int .i64 p, .slice a n cap]), SL.pu 58 [] (.slice ka R.length kc), SL.pu 59 [] (.int .i64 k), SL.row 60 [1, 2] [] wr.heap.size 3 1 K.length (K.map (.int .i64)),
            SL.rowIn 61 [0, 3] [] wr.heap.size 39 4 T.length (bcs T) (fun u => .agg #[.int .i64 p, u]), SL.pu 62 [] (.int .i64 y), SL.pu 63 [] (.int .i64 x), SL.pu 64 [4, 5, 6] (.tuple #[.int .i64 gv, .bool gb]), SL.pu 56 [7] (.tuple #[.int .i64 gv, .bool gb]),
            SL.pu 65 [8] (.int .i64 gv), SL.pu 66 [8] (.bool gb), SL.pu 19 [9] (.int .i64 gv), SL.pu 20 [10] (.bool gb)] [11, 12] (by kernel_rfl) (by kernel_rfl) (fun _ => []) (SL.none_held rfl) (by simp) ?_ ?_
          · refine ⟨?_, ?_, ?_, ?_, ?_, ?_, ?_, ?_, ?_, ?_, ?_, ?_, ?_, trivial⟩
            all_goals refine SL.ob fun us w' Fe hG hu hd hv K' hK => ?_
            all_goals simp [SL.frame, SL.put', SL.Used, SL.Seen, SL.pu, SL.row, SL.box, SL.rowIn, SL.boxIn, SL.boxAt, SL.boxAtIn, Bd.v, Bd.cs] at hu hv hK ⊢
            all_goals (have hsz := hG.size; simp only [World.size_drew] at hsz)
            all_goals (have hgb := hG.below')
            all_goals (have r0 : w'.cell? ⟨w.heap.size, 0, none⟩ = some (.int .i64 p) := ((bcell hgb).1 _ _ (by omega)).trans c0)
            all_goals (have r1 : w'.cell? ⟨w.heap.size, 1, none⟩ = some (.slice a n cap) := ((bcell hgb).1 _ _ (by omega)).trans c1)
            all_goals try (go_step; refine hK _ _ _ _ (by simp [Act.put, *]; done) (SL.Chg.refl _ _) rfl rfl (by simp))
            · obtain ⟨⟨u1, _⟩, u2, _⟩ := hu
              go_step
              refine (Hless.out _ (World.ownsRow.up hown hgb (Nat.le_refl _)) hrt (by omega)).mono ?_
              rintro e w2 ⟨v, rfl, ho2, hb2⟩
              exact hK _ v w2 _ (by simp [Act.put, *]) (.of_below hb2) (SL.row_base ho2 hsz) rfl (SL.row_bounds ho2)
            · obtain ⟨⟨u1, _⟩, u2, u3⟩ := hu
              obtain ⟨sa, c', hsl, _⟩ := owns_slice u2
              rw [hsl] at u2 u3
              go_step
              refine (Honly.out _ (hbwr.below hgb) _ _ _ (IntsAt.of_owns u2 hKl)).mono ?_
              rintro e w2 ⟨v, rfl, ho2, hb2⟩
              exact hK _ _ w2 _ (by simp [Act.put, *]; done) (.of_below hb2) v rfl (SL.row_base ho2 hsz) rfl (SL.row_bounds ho2)
            · obtain ⟨⟨y, u1, u2, u3⟩, ⟨u4, _⟩, u5, _⟩ := hu
              obtain ⟨sa, c', hsl, _⟩ := owns_slice u2
              rw [hsl] at u1 u2 u3
              go_step
              refine (HSo.out _ _ _ (BdsAt.of_owns u2 (by omega))).mono ?_
              rintro e w2 ⟨rfl, hb2⟩
              exact hK _ _ w2 _ (by simp [Act.put, *]; done) (.of_below hb2) rfl rfl (by simp)
          · intro us w' Fs hG hu hbd hd
            simp [SL.frame, SL.put', SL.Used, SL.Seen, SL.pu, SL.row, SL.box, SL.rowIn, SL.boxIn, SL.boxAt, SL.boxAtIn, Bd.v, Bd.cs] at hu ⊢
            obtain ⟨⟨u19, _⟩, u20, _⟩ := hu
            have hgb := hG.below'
            have hsz := hG.size
            simp only [World.size_drew] at hsz
            have r0 : w'.cell? ⟨w.heap.size, 0, none⟩ = some (.int .i64 p) := ((bcell hgb).1 _ _ (by omega)).trans c0
            have r1 : w'.cell? ⟨w.heap.size, 1, none⟩ = some (.slice a n cap) := ((bcell hgb).1 _ _ (by omega)).trans c1
            have how := World.ownsRow.up hown hgb (Nat.le_refl _)
            have hwk : IntKind.i64.wrap ((k : Int) - 1) = (k : Int) - 1 := IntWalk.i64_in _ (by omega)
            have hBw' : Below w.heap.size w w' := hB.trans (hgb.mono (by omega))
            clear c0 c1 hown hB
            simp only [u19, u20]
            have hcase : (gb = true ∧ gv = q) ∨ (gb = false) ∨ (gb = true ∧ gv ≠ q) := by
              cases gb
              · simp
              · by_cases e : gv = q <;> simp [e]
            rcases hcase with ⟨rfl, rfl⟩ | rfl | ⟨rfl, e⟩
            · have hyes : st T = true := by rw [← HstT.out]; simp
              go_wp2_with (go_at_call 86; refine (Hless.out _ how hrt (by omega)).mono ?_; rintro e w5 ⟨v5, rfl, ho5, hb5⟩)
              have hz5 := hb5.size
              go_roundw
              case rel => exact ⟨k, by omega, rfl, hBw'.trans (hb5.mono (by omega)), by omega, ((bcell hb5).1 _ _ (by omega)).trans r0, ((bcell hb5).1 _ _ (by omega)).trans r1, by rw [Hstep.out, hyes]; exact SL.row_base ho5 (by omega)⟩
              case measure => simp [intOf]
            · have hno : st T = false := by rw [← HstT.out]; simp
              go_wp2_with fail
              go_roundw
              case rel => exact ⟨k, by omega, rfl, hBw', by omega, r0, r1, by rw [Hstep.out, hno]; exact how⟩
              case measure => simp [intOf]
            · have hno : st T = false := by rw [← HstT.out]; simpa using e
              have e' : (gv == q) = false := by simpa using e
              go_wp2_with fail
              go_roundw
              case rel => exact ⟨k, by omega, rfl, hBw', by omega, r0, r1, by rw [Hstep.out, hno]; exact how⟩
              case measure => simp [intOf]

theorem rRests_any (p : Int) (a : Option Addr) (n cap : Nat) (bs : List Bd) (x y : Int) (up : Bool) (w : World) (hb : BdsAt w a n cap bs) :
    Calls Try.prog 29 #[.agg #[.int .i64 p, .slice a n cap], .int .i64 x, .int .i64 y, .bool up] w fun e w' => ∃ v, e = .returned (.tuple #[v, .int .i64 (askE p bs x y)]) ∧ Below w.heap.size w w' ∧
      w'.ownsRow w.heap.size 3 1 v (restsL p bs x y up).length ((restsL p bs x y up).map (.int .i64)) := by
  unfold restsL
  by_cases he : askE p bs x y = 0
  · rw [if_pos he, he]
    exact rRests_dir p a n cap bs x y up w hb he
  · rw [if_neg he]
    have he' : (askE p bs x y == 0) = false := by simpa using he
    have hb0 : Below w.heap.size w (w.alloc (Obj.cells #[.int .i64 p, .slice a n cap] 24)) := (Below.refl _ _).alloc (Nat.le_refl _) _
    have hbx := hb.below hb0
    have hG := rGreatest_any p a n cap bs x y _ hbx
    clear he
    generalize askE p bs x y = c at *
    generalize grN p bs x y = g1 at *
    generalize grB p bs x y = g2 at *
    go_enter Try.func29, Try.ntmps29
    go_wp2_with (go_at_call 38; refine (hG).mono ?_; rintro e w1 ⟨rfl, hb1⟩; obtain ⟨hc1, hf1⟩ := bcell hb1; have hz1a := lt_size hb1 (b := w.heap.size) (by first | assumption | omega | (simp; done) | (simp; omega)))
    refine bodyPost_ret (v := .tuple #[.slice none 0 0, .int .i64 c]) (by simp [results, Try.results29, go_sem, *]) rfl ⟨_, rfl, hb0.trans (hb1.mono (by simp)), World.ownsRow_nil _ _ _ _⟩
end Go.Proofs.Ytlkcfohmoeadbaa

/-
  The reference of layer 1, walked: Rigid.
-/
namespace Go.Proofs.Ytlkcfohmoeadbaa
open Go.RowKit Go.Shelf
set_option maxHeartbeats 4000000
set_option maxRecDepth 100000

theorem rRigid_any (p : Int) (a : Option Addr) (n cap : Nat) (bs : List Bd) (w : World) (hb : BdsAt w a n cap bs) :
    Calls Try.prog 33 #[.agg #[.int .i64 p, .slice a n cap]] w fun e w' => ∃ v, e = .returned (.tuple #[v, .int .i64 (askE p bs 0 0)]) ∧ Below w.heap.size w w' ∧
      (askE p bs 0 0 ≠ 0 → v = .slice none 0 0) ∧ (askE p bs 0 0 = 0 → w'.ownsRow w.heap.size 3 1 v p.toNat ((rigL p bs p.toNat).map (.int .i64))) := by
  have hb0 : Below w.heap.size w (w.alloc (Obj.cells #[.int .i64 p, .slice a n cap] 24)) := (Below.refl _ _).alloc (Nat.le_refl _) _
  have hbx := hb.below hb0
  have hG := rGreatest_any p a n cap bs 0 0 _ hbx
  by_cases he : askE p bs 0 0 = 0
  · obtain ⟨hc, _, hok⟩ := askE_zero he
    have hs := Sys.of_chk hc
    have hp1 := hs.p1
    have hp2 := hs.p2
    have HF := Lib.hid (fun (i j : Nat) (hi : (i : Int) < p) (hj : (j : Int) < p) w1 (hb1 : BdsAt w1 a n cap bs) => rfixed_any p a n cap bs i j w1 hb1 hc hok (by simp [both, inP, withinB]; omega))
    rw [he] at hG ⊢
    have H0 := Lib.hid (fun (i : Nat) (hi : (i : Int) < p) => fxB_self hs hok (a := i) (by omega) hi)
    simp only [ne_eq, not_true_eq_false, false_implies, true_and, forall_const]
    clear he hc hok hs
    generalize grN p bs 0 0 = g1 at *
    generalize grB p bs 0 0 = g2 at *
    generalize hP : p.toNat = P at *
    have hPp : (P : Int) = p := by omega
    have hP60 : P ≤ 60 := by omega
    have HP := Lib.hid hPp
    clear hPp hP hp1 hp2
    go_enter Try.func33, Try.ntmps33
    go_wp2_with (go_at_call 38; refine (hG).mono ?_; rintro e w1 ⟨rfl, hb1⟩; obtain ⟨hc1, hf1⟩ := bcell hb1; have hz1a := lt_size hb1 (b := w.heap.size) (by first | assumption | omega | (simp; done) | (simp; omega)))
    have hz1 := hb1.size
    simp only [World.size_alloc] at hz1
    have hBw : Below w.heap.size w w1 := hb0.trans (hb1.mono (by simp))
    have s0 : w1.cell? ⟨w.heap.size, 0, none⟩ = some (.int .i64 p) := by simp [go_sem, *]
    have s1 : w1.cell? ⟨w.heap.size, 1, none⟩ = some (.slice a n cap) := by simp [go_sem, *]
    clear hc1 hf1 hG
    go_loopw [8, 7] (fun i v wr => ∃ k : Nat, k ≤ P ∧ i = .int .i64 k ∧ Below w.heap.size w wr ∧ w1.heap.size ≤ wr.heap.size ∧ wr.cell? ⟨w.heap.size, 0, none⟩ = some (.int .i64 p) ∧ wr.cell? ⟨w.heap.size, 1, none⟩ = some (.slice a n cap) ∧
      wr.ownsRow (w.heap.size + 1) 3 1 v k ((rigL p bs k).map (.int .i64))) (fun i _ _ => P - (intOf i).toNat)
    case atStart => exact ⟨0, Nat.zero_le _, rfl, hBw, Nat.le_refl _, s0, s1, World.ownsRow_nil _ _ _ _⟩
    case round =>
      obtain ⟨k, hk, rfl, hB, hz, c0, c1, hown⟩ := hrel
      by_cases hlt : k < P
      · have t1 : (k : Int) < p := by have := HP.out; omega
        have Hk := Lib.hid (H0.out k t1)
        go_wp2_with fail
        go_loopw [10, 9] (fun q f wi => ∃ m : Nat, m ≤ k ∧ q = .int .i64 ((m : Int) - 1) ∧ f = .int .i64 (rigFrom p bs k (k - m) m : Nat) ∧ Below wr.heap.size wr wi) (fun q _ _ => ((intOf q) + 1).toNat)
        case atStart => exact ⟨k, Nat.le_refl _, by first | rfl | exact congrArg (Value.int .i64) (IntWalk.wrap64_in _ (by omega)), by simp [rigFrom], Below.refl _ _⟩
        case round =>
          rename World => wi
          obtain ⟨m, hm, rfl, rfl, hBi⟩ := hrel
          have hzi := hBi.size
          have y0 : wi.cell? ⟨w.heap.size, 0, none⟩ = some (.int .i64 p) := ((bcell hBi).1 _ _ (by omega)).trans c0
          have y1 : wi.cell? ⟨w.heap.size, 1, none⟩ = some (.slice a n cap) := ((bcell hBi).1 _ _ (by omega)).trans c1
          cases m with
          | zero =>
            have hq : rigFrom p bs k (k - 0) 0 = rigQ p bs k := rfl
            rw [hq]
            obtain ⟨q, hqv⟩ : ∃ q, rigQ p bs k = q := ⟨_, rfl⟩
            rw [hqv]
            have howi := hown.up hBi (Nat.le_refl _)
            go_wp2_with (at_builtin; refine wpList_app elemI rfl _ _ rfl (howi.up ((Below.refl _ _).alloc (Nat.le_refl _) (Obj.cells #[.int .i64 (q : Nat)] 3)) (Nat.le_refl _)) rfl rfl (RowAt.of_heap (World.alloc_heap_new wi _)) (by simp) (ones_int [((q : Nat) : Int)]) ?_ ?_ ?_ ?_)
            · unfold maxLen; omega
            · omega
            · simp; omega
            · intro v' w5 ho5 hg5 hb5 _ hat
              have hBa : Below (w.heap.size + 1) wi w5 := ((Below.refl _ _).alloc (by omega) _).trans hb5
              have x0 : w5.cell? ⟨w.heap.size, 0, none⟩ = some (.int .i64 p) := by rw [(bcell hBa).1 _ _ (by simp)]; exact y0
              have x1 : w5.cell? ⟨w.heap.size, 1, none⟩ = some (.slice a n cap) := by rw [(bcell hBa).1 _ _ (by simp)]; exact y1
              clear y0 y1 c0 c1
              go_wp2
              go_roundw
              case rel =>
                refine ⟨k + 1, by omega, by go_num, (hB.trans (hBi.mono (by omega))).trans (hBa.mono (by omega)), by have := hBa.size; omega, x0, x1, ?_⟩
                rw [rigL_succ, hqv, List.map_append]
                simpa using ho5
              case measure => simp [intOf]; omega
          | succ m =>
            have hm1 : ((m + 1 : Nat) : Int) - 1 = m := by omega
            rw [hm1]
            have hnn : (0 : Int) ≤ m := by omega
            have hF := HF.out m k (by omega) t1 wi (hb.below (hB.trans (hBi.mono (by omega))))
            have hsub : k - m = (k - (m + 1)) + 1 := by omega
            have Hsub := Lib.hid hsub
            have hwm : IntKind.i64.wrap ((m : Int) - 1) = (m : Int) - 1 := IntWalk.i64_in _ (by omega)
            clear hsub hm1
            generalize (if fxB p bs (m : Nat) (k : Nat) = true then gD p bs (m : Nat) (k : Nat) else 0) = gv at *
            cases hfx : fxB p bs (m : Nat) (k : Nat) with
            | true =>
              rw [hfx] at hF
              have Hr : rigFrom p bs k (k - m) m = m := rigFrom_hit hfx
              have HR := Lib.hid Hr
              clear Hr hfx
              go_wp2_with (go_at_call 90; refine hF.mono ?_; rintro e w5 ⟨rfl, hb5⟩)
              go_roundw
              case rel => exact ⟨m, by omega, rfl, by rw [HR.out], hBi.trans (hb5.mono hzi)⟩
              case measure => simp [intOf]
            | false =>
              rw [hfx] at hF
              have HR := Lib.hid (show rigFrom p bs k (k - m) m = rigFrom p bs k (k - (m + 1)) (m + 1) by rw [Hsub.out]; exact rigFrom_miss hfx)
              clear hfx
              generalize rigFrom p bs k (k - (m + 1)) (m + 1) = z at *
              go_wp2_with (go_at_call 90; refine hF.mono ?_; rintro e w5 ⟨rfl, hb5⟩)
              go_roundw
              case rel => exact ⟨m, by omega, rfl, by rw [HR.out], hBi.trans (hb5.mono hzi)⟩
              case measure => simp [intOf]
      · obtain rfl : k = P := by omega
        have t1 : ¬ ((k : Int) < p) := by have := HP.out; omega
        obtain ⟨ka, kc, rfl, _⟩ := owns_slice hown
        go_wp2_with fail
        refine bodyPost_ret (v := .tuple #[.slice ka k kc, .int .i64 0]) (by simp [results, Try.results33, go_sem, *]) rfl ⟨_, rfl, hB, SL.row_base hown (by omega)⟩
  · have he' : (askE p bs 0 0 == 0) = false := by simpa using he
    have hE : ∀ w' v, v = Value.slice none 0 0 → (askE p bs 0 0 ≠ 0 → v = .slice none 0 0) ∧ (askE p bs 0 0 = 0 → World.ownsRow w' w.heap.size 3 1 v p.toNat ((rigL p bs p.toNat).map (.int .i64))) := fun w' v hv => ⟨fun _ => hv, fun h => absurd h he⟩
    clear he
    generalize askE p bs 0 0 = c at *
    generalize grN p bs 0 0 = g1 at *
    generalize grB p bs 0 0 = g2 at *
    go_enter Try.func33, Try.ntmps33
    go_wp2_with (go_at_call 38; refine (hG).mono ?_; rintro e w1 ⟨rfl, hb1⟩; obtain ⟨hc1, hf1⟩ := bcell hb1; have hz1a := lt_size hb1 (b := w.heap.size) (by first | assumption | omega | (simp; done) | (simp; omega)))
    refine bodyPost_ret (v := .tuple #[.slice none 0 0, .int .i64 c]) (by simp [results, Try.results33, go_sem, *]) rfl ⟨_, rfl, hb0.trans (hb1.mono (by simp)), hE _ _ rfl⟩
end Go.Proofs.Ytlkcfohmoeadbaa

/-
  The law GaugeRests, walked: it returns true.
-/
namespace Go.Proofs.Ytlkcfohmoeadbaa
open Go.RowKit Go.Shelf
set_option maxHeartbeats 4000000
set_option maxRecDepth 100000

theorem rsame_own {sa ta : Option Addr} {sc tc n m B1 B2 : Nat} {X : List Int} {w1 w2 w : World} (h1 : w1.ownsRow B1 3 1 (.slice sa n sc) n (X.map (.int .i64))) (h2 : w2.ownsRow B2 3 1 (.slice ta m tc) m (X.map (.int .i64))) (hb1 : Below w1.heap.size w1 w) (hb2 : Below w2.heap.size w2 w) (hX : X.length ≤ 1000) :
    Calls Try.prog 24 #[.slice sa n sc, .slice ta m tc] w fun e w' => e = .returned (.bool true) ∧ Below w.heap.size w w' := by
  have e1 : X.length = n := by have := h1.1; simpa using this
  have e2 : X.length = m := by have := h2.1; simpa using this
  subst e1
  subst e2
  have i1 := (IntsAt.of_owns h1 (by omega)).below hb1
  have i2 := (IntsAt.of_owns h2 (by omega)).below hb2
  refine (rsame_any sa ta _ _ sc tc X X w i1 i2).mono ?_
  rintro e w' ⟨rfl, h⟩
  exact ⟨by simp, h⟩

theorem loL_len (st : List Bd → Bool) (bs : List Bd) : (loL st bs).length ≤ bs.length := by
  have h1 := loAt_len (st := st) (bs := bs) 0
  have h2 := idsL_len bs
  unfold loL
  simp
  omega

theorem law_rests (p : Int) (a : Option Addr) (n cap : Nat) (bs : List Bd) (x y : Int) (up : Bool) (w : World) (hb : BdsAt w a n cap bs) (hn : n ≤ 140737488351232) :
    Calls Try.prog 5 #[.agg #[.int .i64 p, .slice a n cap], .int .i64 x, .int .i64 y, .bool up] w fun e w' => e = .returned (.bool true) ∧ Below w.heap.size w w' := by
  have hbx := hb.below (w' := w.alloc (Obj.cells #[.int .i64 p, .slice a n cap] 24)) ((Below.refl _ _).alloc (Nat.le_refl _) _)
  have hW := fun w1 => lsmall_any p a n cap w1 hn
  by_cases hn4 : (decide (p ≤ 9) && decide (n ≤ 20)) = true
  · simp only [hn4] at hW
    have hA := fun w1 (hb1 : BdsAt w1 a n cap bs) => gRests_any p a n cap bs x y up w1 hb1
    have hB := fun w1 (hb1 : BdsAt w1 a n cap bs) => rRests_any p a n cap bs x y up w1 hb1
    have hC := fun w1 (hb1 : BdsAt w1 a n cap bs) => gDoubt_any p a n cap bs w1 hb1
    have hD := fun w1 (hb1 : BdsAt w1 a n cap bs) => rDoubt_any p a n cap bs w1 hb1
    have hbl : bs.length ≤ 20 := by have := hb.len; simp at hn4; omega
    have l1 : (restsL p bs x y up).length ≤ 1000 := by
      unfold restsL rstL
      split
      · split
        · simp
        · have := loL_len (fun t => gD p t (rstX x y up) (rstX y x up) == gD p bs (rstX x y up) (rstX y x up)) bs; omega
      · simp
    have l2 : (dbtL p bs).length ≤ 1000 := by
      unfold dbtL
      split
      · have := loL_len (fun t => !okB p t) bs; omega
      · simp
    obtain ⟨Z, hZ, hE, hF⟩ : ∃ Z : List Int, Z.length ≤ 1000 ∧
        (∀ w1, BdsAt w1 a n cap bs → Calls Try.prog 32 #[.agg #[.int .i64 p, .slice a n cap]] w1 fun e w' => ∃ v, e = .returned (.tuple #[v, .int .i64 (askE p bs 0 0)]) ∧ Below w1.heap.size w1 w' ∧ w'.ownsRow w1.heap.size 3 1 v Z.length (Z.map (.int .i64))) ∧
        (∀ w1, BdsAt w1 a n cap bs → Calls Try.prog 33 #[.agg #[.int .i64 p, .slice a n cap]] w1 fun e w' => ∃ v, e = .returned (.tuple #[v, .int .i64 (askE p bs 0 0)]) ∧ Below w1.heap.size w1 w' ∧ w'.ownsRow w1.heap.size 3 1 v Z.length (Z.map (.int .i64))) := by
      by_cases he : askE p bs 0 0 = 0
      · have hp := (Sys.of_chk (askE_zero he).1).p2
        refine ⟨rigL p bs p.toNat, by rw [rigL_len]; omega, fun w1 hb1 => (gRigid_any p a n cap bs w1 hb1).mono ?_, fun w1 hb1 => (rRigid_any p a n cap bs w1 hb1).mono ?_⟩
        · rintro e w' ⟨v, rfl, h1, _, h2⟩
          exact ⟨v, rfl, h1, by rw [rigL_len]; exact h2 he⟩
        · rintro e w' ⟨v, rfl, h1, _, h2⟩
          exact ⟨v, rfl, h1, by rw [rigL_len]; exact h2 he⟩
      · refine ⟨[], by simp, fun w1 hb1 => (gRigid_any p a n cap bs w1 hb1).mono ?_, fun w1 hb1 => (rRigid_any p a n cap bs w1 hb1).mono ?_⟩
        · rintro e w' ⟨v, rfl, h1, h2, _⟩
          exact ⟨v, rfl, h1, by rw [h2 he]; exact World.ownsRow_nil _ _ _ _⟩
        · rintro e w' ⟨v, rfl, h1, h2, _⟩
          exact ⟨v, rfl, h1, by rw [h2 he]; exact World.ownsRow_nil _ _ _ _⟩
    generalize restsL p bs x y up = X at *
    generalize dbtL p bs = Y at *
    generalize askE p bs x y = E1 at *
    generalize dbtB p bs = D1 at *
    generalize chk p bs = E2 at *
    generalize askE p bs 0 0 = E3 at *
    have n1 : (E1 == E1) = true := by simp
    have n2 : (E2 == E2) = true := by simp
    have n3 : (E3 == E3) = true := by simp
    have n4 : (D1 == D1) = true := by simp
    clear hn4 hn hbl
    go_enter Try.func5, Try.ntmps5
    go_wp2_with (first
      | (go_at_call 27; refine (hW _).mono ?_; rintro e w0 ⟨rfl, hb0⟩; obtain ⟨hc0, hf0⟩ := bcell hb0; have hz0a := lt_size hb0 (b := w.heap.size) (by first | assumption | omega | (simp; done) | (simp; omega)))
      | (go_at_call 28; refine (hA _ (hbx.below hb0)).mono ?_; rintro e w1 ⟨v1, rfl, hb1, ho1⟩; obtain ⟨hc1, hf1⟩ := bcell hb1; have hz1a := lt_size hb1 (b := w.heap.size) (by first | assumption | omega | (simp; done) | (simp; omega)); obtain ⟨a1, c1, rfl, _⟩ := owns_slice ho1)
      | (go_at_call 29; refine (hB _ ((hbx.below hb0).below hb1)).mono ?_; rintro e w2 ⟨v2, rfl, hb2, ho2⟩; obtain ⟨hc2, hf2⟩ := bcell hb2; have hz2a := lt_size hb2 (b := w.heap.size) (by first | assumption | omega | (simp; done) | (simp; omega)); obtain ⟨a2, c2, rfl, _⟩ := owns_slice ho2)
      | (go_at_call 30; refine (hC _ (((hbx.below hb0).below hb1).below hb2)).mono ?_; rintro e w3 ⟨v3, rfl, hb3, ho3⟩; obtain ⟨hc3, hf3⟩ := bcell hb3; have hz3a := lt_size hb3 (b := w.heap.size) (by first | assumption | omega | (simp; done) | (simp; omega)); obtain ⟨a3, c3, rfl, _⟩ := owns_slice ho3)
      | (go_at_call 31; refine (hD _ ((((hbx.below hb0).below hb1).below hb2).below hb3)).mono ?_; rintro e w4 ⟨v4, rfl, hb4, ho4⟩; obtain ⟨hc4, hf4⟩ := bcell hb4; have hz4a := lt_size hb4 (b := w.heap.size) (by first | assumption | omega | (simp; done) | (simp; omega)); obtain ⟨a4, c4, rfl, _⟩ := owns_slice ho4)
      | (go_at_call 32; refine (hE _ (((((hbx.below hb0).below hb1).below hb2).below hb3).below hb4)).mono ?_; rintro e w5 ⟨v5, rfl, hb5, ho5⟩; obtain ⟨hc5, hf5⟩ := bcell hb5; have hz5a := lt_size hb5 (b := w.heap.size) (by first | assumption | omega | (simp; done) | (simp; omega)); obtain ⟨a5, c5, rfl, _⟩ := owns_slice ho5)
      | (go_at_call 33; refine (hF _ ((((((hbx.below hb0).below hb1).below hb2).below hb3).below hb4).below hb5)).mono ?_; rintro e w6 ⟨v6, rfl, hb6, ho6⟩; obtain ⟨hc6, hf6⟩ := bcell hb6; have hz6a := lt_size hb6 (b := w.heap.size) (by first | assumption | omega | (simp; done) | (simp; omega)); obtain ⟨a6, c6, rfl, _⟩ := owns_slice ho6
         have z0 := hb0.size
         have z1 := hb1.size
         have z2 := hb2.size
         have z3 := hb3.size
         have z4 := hb4.size
         have z5 := hb5.size
         have z6 := hb6.size
         simp only [World.size_alloc] at z0)
      | (go_at_call 21; refine (lalive_any _).mono ?_; rintro e w7 ⟨rfl, hb7⟩
         have q56 := (hb6.mono (Nat.le_refl _)).trans (hb7.mono z6)
         have q45 := (hb5.mono (Nat.le_refl _)).trans (q56.mono z5)
         have q34 := (hb4.mono (Nat.le_refl _)).trans (q45.mono z4)
         have q23 := (hb3.mono (Nat.le_refl _)).trans (q34.mono z3)
         have q12 := (hb2.mono (Nat.le_refl _)).trans (q23.mono z2)
         have z7 := hb7.size)
      | (go_at_call 24; have hg := hb9; clear hg; refine (rsame_own ho5 ho6 (q56.trans ((hb8.mono (by omega)).trans (hb9.mono (by omega)))) (hb7.trans ((hb8.mono (by omega)).trans (hb9.mono (by omega)))) hZ).mono ?_; rintro e w10 ⟨rfl, hb10⟩)
      | (go_at_call 24; have hg := hb8; clear hg; refine (rsame_own ho3 ho4 (q34.trans (hb8.mono (by omega))) (q45.trans (hb8.mono (by omega))) l2).mono ?_; rintro e w9 ⟨rfl, hb9⟩; have z9 := hb9.size)
      | (go_at_call 24; refine (rsame_own ho1 ho2 q12 q23 l1).mono ?_; rintro e w8 ⟨rfl, hb8⟩; have z8 := hb8.size))
    go_ret
    have q01 := (hb1.mono (Nat.le_refl _)).trans (q12.mono z1)
    exact ⟨rfl, ((((((Below.refl _ w).alloc (Nat.le_refl _) _).trans (hb0.mono (by simp))).trans (q01.mono (by omega))).trans (hb8.mono (by omega))).trans (hb9.mono (by omega))).trans (hb10.mono (by omega))⟩
  · have hn4' : (decide (p ≤ 9) && decide (n ≤ 20)) = false := by simpa using hn4
    simp only [hn4'] at hW
    clear hn4 hn4'
    go_enter Try.func5, Try.ntmps5
    go_wp2_with (first
      | (go_at_call 27; refine (hW _).mono ?_; rintro e w0 ⟨rfl, hb0⟩; obtain ⟨hc0, hf0⟩ := bcell hb0; have hz0a := lt_size hb0 (b := w.heap.size) (by first | assumption | omega | (simp; done) | (simp; omega)))
      | (go_at_call 21; refine (lalive_any _).mono ?_; rintro e w3 ⟨rfl, hb3⟩; obtain ⟨hc3, hf3⟩ := bcell hb3; have hz3a := lt_size hb3 (b := w.heap.size) (by first | assumption | omega | (simp; done) | (simp; omega))))
    go_ret
    have z0 := hb0.size
    simp at z0
    exact ⟨rfl, (((Below.refl _ w).alloc (Nat.le_refl _) _).trans (hb0.mono (by simp))).trans (hb3.mono (by omega))⟩
end Go.Proofs.Ytlkcfohmoeadbaa

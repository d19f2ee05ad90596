/-
  The laws' helper alive, walked: it returns true.
-/
import Derived.Test.YtlkcfohmoeadbaaGreatPk19
set_option linter.unusedSimpArgs false
set_option linter.unusedVariables false
set_option linter.unnecessarySimpa false
namespace Go.Proofs.YtlkcfohmoeadbaaGreat
open Go.RowKit Go.Shelf
set_option maxHeartbeats 4000000
set_option maxRecDepth 100000

theorem lit3 (w : World) (x y z : Int) : IntsAt (w.alloc (Obj.cells #[.int .i64 x, .int .i64 y, .int .i64 z] 3)) (some ⟨w.heap.size, 0, none⟩) 3 3 [x, y, z] := ⟨rfl, by simp, RowAt.of_heap (World.alloc_heap_new w _)⟩
theorem lit2 (w : World) (x y : Int) : IntsAt (w.alloc (Obj.cells #[.int .i64 x, .int .i64 y] 3)) (some ⟨w.heap.size, 0, none⟩) 2 2 [x, y] := ⟨rfl, by simp, RowAt.of_heap (World.alloc_heap_new w _)⟩
theorem own_ints {w w' : World} {base : Nat} {a : Option Addr} {n c : Nat} {xs : List Int} (h : w.ownsRow base 3 1 (.slice a n c) n (xs.map (.int .i64))) (hb : Below w.heap.size w w') (hs : xs.length ≤ 100) : IntsAt w' a n c xs := (IntsAt.of_owns h (by omega)).below hb

theorem rsame_yes (a1 a2 : Option Addr) (n1 n2 c1 c2 : Nat) (xs : List Int) (w : World) (hx : IntsAt w a1 n1 c1 xs) (hy : IntsAt w a2 n2 c2 xs) :
    Calls Tryz.prog 21 #[.slice a1 n1 c1, .slice a2 n2 c2] w fun e w' => e = .returned (.bool true) ∧ Below w.heap.size w w' := by
  refine (rsame_any a1 a2 n1 n2 c1 c2 xs xs w hx hy).mono ?_
  rintro e w' ⟨rfl, h⟩
  exact ⟨by simp, h⟩

theorem lalive_any (w : World) : Calls Tryz.prog 5 #[] w fun e w' => e = .returned (.bool true) ∧ Below w.heap.size w w' := by
  go_enter Tryz.func5, Tryz.ntmps5
  go_wp2_with (first
    | (go_at_call 22; refine (lthree_any _).mono ?_; rintro e w0 ⟨v0, rfl, ho0, hb0⟩; obtain ⟨ta, tc, rfl, hta⟩ := owns_slice ho0
       have hT : BdsAt (w0.alloc (Obj.cells #[.int .i64 3, .slice ta 4 tc] 24)) ta 4 tc T3 := (BdsAt.of_owns ho0 (by decide)).below ((Below.refl _ _).alloc (Nat.le_refl _) _)
       have zw := hb0.size
       have zt0 : w0.heap.size < (w0.alloc (Obj.cells #[.int .i64 3, .slice ta 4 tc] 24)).heap.size := by simp
       have t0a : (w0.alloc (Obj.cells #[.int .i64 3, .slice ta 4 tc] 24)).cell? ⟨w0.heap.size, 0, none⟩ = some (.int .i64 3) := by simp [go_sem]
       have t0b : (w0.alloc (Obj.cells #[.int .i64 3, .slice ta 4 tc] 24)).cell? ⟨w0.heap.size, 1, none⟩ = some (.slice ta 4 tc) := by simp [go_sem])
    | (go_at_call 12; refine (aWith _ _ _ (hT)).mono ?_; rintro e w1 ⟨v1, rfl, ho1, hb1⟩; obtain ⟨ca, cc, rfl, hca⟩ := owns_slice ho1
       have hbx1 : Below (w0.alloc (Obj.cells #[.int .i64 3, .slice ta 4 tc] 24)).heap.size (w0.alloc (Obj.cells #[.int .i64 3, .slice ta 4 tc] 24)) (w1.alloc (Obj.cells #[.int .i64 3, .slice ca 5 cc] 24)) := hb1.alloc hb1.size _
       have hT1 := hT.below hbx1
       have zt1 : w0.heap.size < w1.heap.size := lt_size hb1 zt0
       have t1a := ((bcell hb1).1 w0.heap.size 0 zt0).trans t0a
       have t1b := ((bcell hb1).1 w0.heap.size 1 zt0).trans t0b
       have hC1 : BdsAt (w1.alloc (Obj.cells #[.int .i64 3, .slice ca 5 cc] 24)) ca 5 cc C3 := (BdsAt.of_owns ho1 (by decide)).below ((Below.refl _ _).alloc (Nat.le_refl _) _)
       have zu1 : w1.heap.size < (w1.alloc (Obj.cells #[.int .i64 3, .slice ca 5 cc] 24)).heap.size := by simp
       have zx1 : w0.heap.size < (w1.alloc (Obj.cells #[.int .i64 3, .slice ca 5 cc] 24)).heap.size := by simp; omega
       have u1a : (w1.alloc (Obj.cells #[.int .i64 3, .slice ca 5 cc] 24)).cell? ⟨w1.heap.size, 0, none⟩ = some (.int .i64 3) := by simp [go_sem]
       have u1b : (w1.alloc (Obj.cells #[.int .i64 3, .slice ca 5 cc] 24)).cell? ⟨w1.heap.size, 1, none⟩ = some (.slice ca 5 cc) := by simp [go_sem]
       have s1a : (w1.alloc (Obj.cells #[.int .i64 3, .slice ca 5 cc] 24)).cell? ⟨w0.heap.size, 0, none⟩ = some (.int .i64 3) := by rw [(bcell hbx1).1 _ _ zt0]; exact t0a
       have s1b : (w1.alloc (Obj.cells #[.int .i64 3, .slice ca 5 cc] 24)).cell? ⟨w0.heap.size, 1, none⟩ = some (.slice ta 4 tc) := by rw [(bcell hbx1).1 _ _ zt0]; exact t0b
       clear t0a t0b t1a t1b
       have hB1 : Below w.heap.size w (w1.alloc (Obj.cells #[.int .i64 3, .slice ca 5 cc] 24)) := ((hb0.alloc zw _).trans (hb1.mono (by simp; omega))).alloc (by have := hb1.size; simp at this; omega) _)
    | (go_at_call 23; refine (aSolve _ _ _ (hT1)).mono ?_; rintro e w2 ⟨v2, rfl, ho2, hb2⟩; obtain ⟨a2, c2, rfl, _⟩ := owns_slice ho2
       have hT2 := hT1.below hb2
       have hC2 := hC1.below hb2
       have zx2 : w0.heap.size < w2.heap.size := lt_size hb2 zx1
       have zu2 : w1.heap.size < w2.heap.size := lt_size hb2 zu1
       have s2a := ((bcell hb2).1 w0.heap.size 0 zx1).trans s1a
       have u2a := ((bcell hb2).1 w1.heap.size 0 zu1).trans u1a
       have s2b := ((bcell hb2).1 w0.heap.size 1 zx1).trans s1b
       have u2b := ((bcell hb2).1 w1.heap.size 1 zu1).trans u1b
       clear s1a s1b u1a u1b
       have hB2 : Below w.heap.size w w2 := hB1.trans (hb2.mono hB1.size))
    | (go_at_call 24; refine (aGreatest _ _ _ (hT2)).mono ?_; rintro e w3 ⟨rfl, hb3⟩
       have hT3 := hT2.below hb3
       have hC3 := hC2.below hb3
       have zx3 : w0.heap.size < w3.heap.size := lt_size hb3 zx2
       have zu3 : w1.heap.size < w3.heap.size := lt_size hb3 zu2
       have s3a := ((bcell hb3).1 w0.heap.size 0 zx2).trans s2a
       have u3a := ((bcell hb3).1 w1.heap.size 0 zu2).trans u2a
       have s3b := ((bcell hb3).1 w0.heap.size 1 zx2).trans s2b
       have u3b := ((bcell hb3).1 w1.heap.size 1 zu2).trans u2b
       clear s2a s2b u2a u2b
       have hB3 : Below w.heap.size w w3 := hB2.trans (hb3.mono hB2.size))
    | (go_at_call 25; refine (aLeast _ _ _ (hT3)).mono ?_; rintro e w4 ⟨rfl, hb4⟩
       have hT4 := hT3.below hb4
       have hC4 := hC3.below hb4
       have zx4 : w0.heap.size < w4.heap.size := lt_size hb4 zx3
       have zu4 : w1.heap.size < w4.heap.size := lt_size hb4 zu3
       have s4a := ((bcell hb4).1 w0.heap.size 0 zx3).trans s3a
       have u4a := ((bcell hb4).1 w1.heap.size 0 zu3).trans u3a
       have s4b := ((bcell hb4).1 w0.heap.size 1 zx3).trans s3b
       have u4b := ((bcell hb4).1 w1.heap.size 1 zu3).trans u3b
       clear s3a s3b u3a u3b
       have hB4 : Below w.heap.size w w4 := hB3.trans (hb4.mono hB3.size))
    | (go_at_call 26; refine (aAttain _ _ _ (hT4)).mono ?_; rintro e w5 ⟨v5, rfl, ho5, hb5⟩; obtain ⟨a5, c5, rfl, _⟩ := owns_slice ho5
       have hT5 := hT4.below hb5
       have hC5 := hC4.below hb5
       have zx5 : w0.heap.size < w5.heap.size := lt_size hb5 zx4
       have zu5 : w1.heap.size < w5.heap.size := lt_size hb5 zu4
       have s5a := ((bcell hb5).1 w0.heap.size 0 zx4).trans s4a
       have u5a := ((bcell hb5).1 w1.heap.size 0 zu4).trans u4a
       have s5b := ((bcell hb5).1 w0.heap.size 1 zx4).trans s4b
       have u5b := ((bcell hb5).1 w1.heap.size 1 zu4).trans u4b
       clear s4a s4b u4a u4b
       have hB5 : Below w.heap.size w w5 := hB4.trans (hb5.mono hB4.size))
    | (go_at_call 27; refine (aRests _ _ _ (hT5)).mono ?_; rintro e w6 ⟨v6, rfl, ho6, hb6⟩; obtain ⟨a6, c6, rfl, _⟩ := owns_slice ho6
       have hT6 := hT5.below hb6
       have hC6 := hC5.below hb6
       have zx6 : w0.heap.size < w6.heap.size := lt_size hb6 zx5
       have zu6 : w1.heap.size < w6.heap.size := lt_size hb6 zu5
       have s6a := ((bcell hb6).1 w0.heap.size 0 zx5).trans s5a
       have u6a := ((bcell hb6).1 w1.heap.size 0 zu5).trans u5a
       have s6b := ((bcell hb6).1 w0.heap.size 1 zx5).trans s5b
       have u6b := ((bcell hb6).1 w1.heap.size 1 zu5).trans u5b
       clear s5a s5b u5a u5b
       have hB6 : Below w.heap.size w w6 := hB5.trans (hb6.mono hB5.size))
    | (go_at_call 28; refine (aDoubt _ _ _ (hC6)).mono ?_; rintro e w7 ⟨v7, rfl, ho7, hb7⟩; obtain ⟨a7, c7, rfl, _⟩ := owns_slice ho7
       have hT7 := hT6.below hb7
       have hC7 := hC6.below hb7
       have zx7 : w0.heap.size < w7.heap.size := lt_size hb7 zx6
       have zu7 : w1.heap.size < w7.heap.size := lt_size hb7 zu6
       have s7a := ((bcell hb7).1 w0.heap.size 0 zx6).trans s6a
       have u7a := ((bcell hb7).1 w1.heap.size 0 zu6).trans u6a
       have s7b := ((bcell hb7).1 w0.heap.size 1 zx6).trans s6b
       have u7b := ((bcell hb7).1 w1.heap.size 1 zu6).trans u6b
       clear s6a s6b u6a u6b
       have hB7 : Below w.heap.size w w7 := hB6.trans (hb7.mono hB6.size))
    | (go_at_call 29; refine (aCircle _ _ _ (hC7)).mono ?_; rintro e w8 ⟨a8, c8, rfl, hb8⟩
       have hT8 := hT7.below hb8
       have hC8 := hC7.below hb8
       have zx8 : w0.heap.size < w8.heap.size := lt_size hb8 zx7
       have zu8 : w1.heap.size < w8.heap.size := lt_size hb8 zu7
       have s8a := ((bcell hb8).1 w0.heap.size 0 zx7).trans s7a
       have u8a := ((bcell hb8).1 w1.heap.size 0 zu7).trans u7a
       have s8b := ((bcell hb8).1 w0.heap.size 1 zx7).trans s7b
       have u8b := ((bcell hb8).1 w1.heap.size 1 zu7).trans u7b
       clear s7a s7b u7a u7b
       have hB8 : Below w.heap.size w w8 := hB7.trans (hb8.mono hB7.size))
    | (go_at_call 30; refine (aChanged _ _ _ (hT8)).mono ?_; rintro e w9 ⟨v9, rfl, ho9, hb9⟩; obtain ⟨a9, c9, rfl, _⟩ := owns_slice ho9
       have hT9 := hT8.below hb9
       have hC9 := hC8.below hb9
       have zx9 : w0.heap.size < w9.heap.size := lt_size hb9 zx8
       have zu9 : w1.heap.size < w9.heap.size := lt_size hb9 zu8
       have s9a := ((bcell hb9).1 w0.heap.size 0 zx8).trans s8a
       have u9a := ((bcell hb9).1 w1.heap.size 0 zu8).trans u8a
       have s9b := ((bcell hb9).1 w0.heap.size 1 zx8).trans s8b
       have u9b := ((bcell hb9).1 w1.heap.size 1 zu8).trans u8b
       clear s8a s8b u8a u8b
       have hB9 : Below w.heap.size w w9 := hB8.trans (hb9.mono hB8.size))
    | (go_at_call 31; refine (aRigid _ _ _ (hT9)).mono ?_; rintro e w10 ⟨v10, rfl, ho10, hb10⟩; obtain ⟨a10, c10, rfl, _⟩ := owns_slice ho10
       have hT10 := hT9.below hb10
       have hC10 := hC9.below hb10
       have zx10 : w0.heap.size < w10.heap.size := lt_size hb10 zx9
       have zu10 : w1.heap.size < w10.heap.size := lt_size hb10 zu9
       have s10a := ((bcell hb10).1 w0.heap.size 0 zx9).trans s9a
       have u10a := ((bcell hb10).1 w1.heap.size 0 zu9).trans u9a
       have s10b := ((bcell hb10).1 w0.heap.size 1 zx9).trans s9b
       have u10b := ((bcell hb10).1 w1.heap.size 1 zu9).trans u9b
       clear s9a s9b u9a u9b
       have hB10 : Below w.heap.size w w10 := hB9.trans (hb10.mono hB9.size)))
  have z2_4 : w2.heap.size ≤ w3.heap.size := hb3.size
  have z2_5 : w2.heap.size ≤ w4.heap.size := Nat.le_trans z2_4 hb4.size
  have z2_6 : w2.heap.size ≤ w5.heap.size := Nat.le_trans z2_5 hb5.size
  have z2_7 : w2.heap.size ≤ w6.heap.size := Nat.le_trans z2_6 hb6.size
  have z2_8 : w2.heap.size ≤ w7.heap.size := Nat.le_trans z2_7 hb7.size
  have z2_9 : w2.heap.size ≤ w8.heap.size := Nat.le_trans z2_8 hb8.size
  have z2_10 : w2.heap.size ≤ w9.heap.size := Nat.le_trans z2_9 hb9.size
  have hI2 := own_ints (xs := [-6, -4, 0]) ho2 (((((((((Below.refl _ _).trans (hb3.mono (Nat.le_refl _))).trans (hb4.mono z2_4)).trans (hb5.mono z2_5)).trans (hb6.mono z2_6)).trans (hb7.mono z2_7)).trans (hb8.mono z2_8)).trans (hb9.mono z2_9)).trans (hb10.mono z2_10)) (by decide)
  have z5_7 : w5.heap.size ≤ w6.heap.size := hb6.size
  have z5_8 : w5.heap.size ≤ w7.heap.size := Nat.le_trans z5_7 hb7.size
  have z5_9 : w5.heap.size ≤ w8.heap.size := Nat.le_trans z5_8 hb8.size
  have z5_10 : w5.heap.size ≤ w9.heap.size := Nat.le_trans z5_9 hb9.size
  have hI5 := own_ints (xs := [-7, -4, 0]) ho5 ((((((Below.refl _ _).trans (hb6.mono (Nat.le_refl _))).trans (hb7.mono z5_7)).trans (hb8.mono z5_8)).trans (hb9.mono z5_9)).trans (hb10.mono z5_10)) (by decide)
  have z6_8 : w6.heap.size ≤ w7.heap.size := hb7.size
  have z6_9 : w6.heap.size ≤ w8.heap.size := Nat.le_trans z6_8 hb8.size
  have z6_10 : w6.heap.size ≤ w9.heap.size := Nat.le_trans z6_9 hb9.size
  have hI6 := own_ints (xs := [7, 9]) ho6 (((((Below.refl _ _).trans (hb7.mono (Nat.le_refl _))).trans (hb8.mono z6_8)).trans (hb9.mono z6_9)).trans (hb10.mono z6_10)) (by decide)
  have z7_9 : w7.heap.size ≤ w8.heap.size := hb8.size
  have z7_10 : w7.heap.size ≤ w9.heap.size := Nat.le_trans z7_9 hb9.size
  have hI7 := own_ints (xs := [5, 7]) ho7 ((((Below.refl _ _).trans (hb8.mono (Nat.le_refl _))).trans (hb9.mono z7_9)).trans (hb10.mono z7_10)) (by decide)
  have hI9 := own_ints (xs := [1, 2]) ho9 ((Below.refl _ _).trans (hb10.mono (Nat.le_refl _))) (by decide)
  have hI10 := own_ints (xs := [0, 1, 1]) ho10 (Below.refl _ _) (by decide)
  have hB := hB10
  clear s10a s10b u10a u10b
  refine (rsame_yes _ _ _ _ _ _ _ _ (hI2.below ((Below.refl _ _).alloc (Nat.le_refl _) _)) (lit3 _ _ _ _)).mono ?_
  rintro e w11 ⟨rfl, hb11⟩
  have b11 : Below w10.heap.size w10 w11 := ((Below.refl _ _).alloc (Nat.le_refl _) _).trans (hb11.mono (by simp))
  replace hI5 := hI5.below b11
  replace hI6 := hI6.below b11
  replace hI7 := hI7.below b11
  replace hI9 := hI9.below b11
  replace hI10 := hI10.below b11
  replace hB := hB.trans (b11.mono hB.size)
  go_wp2_with fail
  refine (rsame_yes _ _ _ _ _ _ _ _ (hI5.below ((Below.refl _ _).alloc (Nat.le_refl _) _)) (lit3 _ _ _ _)).mono ?_
  rintro e w12 ⟨rfl, hb12⟩
  have b12 : Below w11.heap.size w11 w12 := ((Below.refl _ _).alloc (Nat.le_refl _) _).trans (hb12.mono (by simp))
  replace hI6 := hI6.below b12
  replace hI7 := hI7.below b12
  replace hI9 := hI9.below b12
  replace hI10 := hI10.below b12
  replace hB := hB.trans (b12.mono hB.size)
  go_wp2_with fail
  refine (rsame_yes _ _ _ _ _ _ _ _ (hI6.below ((Below.refl _ _).alloc (Nat.le_refl _) _)) (lit2 _ _ _)).mono ?_
  rintro e w13 ⟨rfl, hb13⟩
  have b13 : Below w12.heap.size w12 w13 := ((Below.refl _ _).alloc (Nat.le_refl _) _).trans (hb13.mono (by simp))
  replace hI7 := hI7.below b13
  replace hI9 := hI9.below b13
  replace hI10 := hI10.below b13
  replace hB := hB.trans (b13.mono hB.size)
  go_wp2_with fail
  refine (rsame_yes _ _ _ _ _ _ _ _ (hI7.below ((Below.refl _ _).alloc (Nat.le_refl _) _)) (lit2 _ _ _)).mono ?_
  rintro e w14 ⟨rfl, hb14⟩
  have b14 : Below w13.heap.size w13 w14 := ((Below.refl _ _).alloc (Nat.le_refl _) _).trans (hb14.mono (by simp))
  replace hI9 := hI9.below b14
  replace hI10 := hI10.below b14
  replace hB := hB.trans (b14.mono hB.size)
  go_wp2_with fail
  refine (rsame_yes _ _ _ _ _ _ _ _ (hI9.below ((Below.refl _ _).alloc (Nat.le_refl _) _)) (lit2 _ _ _)).mono ?_
  rintro e w15 ⟨rfl, hb15⟩
  have b15 : Below w14.heap.size w14 w15 := ((Below.refl _ _).alloc (Nat.le_refl _) _).trans (hb15.mono (by simp))
  replace hI10 := hI10.below b15
  replace hB := hB.trans (b15.mono hB.size)
  go_wp2_with fail
  refine (rsame_yes _ _ _ _ _ _ _ _ (hI10.below ((Below.refl _ _).alloc (Nat.le_refl _) _)) (lit3 _ _ _ _)).mono ?_
  rintro e w16 ⟨rfl, hb16⟩
  have b16 : Below w15.heap.size w15 w16 := ((Below.refl _ _).alloc (Nat.le_refl _) _).trans (hb16.mono (by simp))
  replace hB := hB.trans (b16.mono hB.size)
  go_wp2_with fail
  go_ret
  exact ⟨rfl, hB⟩
end Go.Proofs.YtlkcfohmoeadbaaGreat

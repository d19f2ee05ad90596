/-
  The reference of layer 1, walked: Fewest.
-/
import Derived.Test.YtlkcfohmoeadbaaPk34
import Derived.Test.YtlkcfohmoeadbaaPk33
import Derived.Lib.MinMax
set_option linter.unusedSimpArgs false
set_option linter.unusedVariables false
set_option linter.unnecessarySimpa false
namespace Go.Proofs.Ytlkcfohmoeadbaa
open Go.RowKit Go.Shelf
set_option maxHeartbeats 8000000
set_option maxRecDepth 100000

/-- The boxed system, as it lies in a world behind w. -/
structure Sy (w : World) (p : Int) (a : Option Addr) (n cap : Nat) (wr : World) : Prop where
  b : Below w.heap.size w wr
  z : w.heap.size < wr.heap.size
  c0 : wr.cell? ⟨w.heap.size, 0, none⟩ = some (.int .i64 p)
  c1 : wr.cell? ⟨w.heap.size, 1, none⟩ = some (.slice a n cap)
theorem Sy.up {w : World} {p : Int} {a : Option Addr} {n cap : Nat} {wr wr' : World} (h : Sy w p a n cap wr) (hb : Below (w.heap.size + 1) wr wr') : Sy w p a n cap wr' :=
  ⟨h.b.trans (hb.mono (by omega)), by have := hb.size; have := h.z; omega, ((bcell hb).1 _ _ (Nat.lt_succ_self _)).trans h.c0, ((bcell hb).1 _ _ (Nat.lt_succ_self _)).trans h.c1⟩
theorem Sy.start (w : World) (p : Int) (a : Option Addr) (n cap : Nat) : Sy w p a n cap (w.alloc (Obj.cells #[.int .i64 p, .slice a n cap] 24)) :=
  ⟨(Below.refl _ _).alloc (Nat.le_refl _) _, by simp, by simp [go_sem], by simp [go_sem]⟩

/-- A row of ints that the call owns at a block of its own. -/
def RowG (wr : World) (base g P c : Nat) (x : List Int) : Prop := wr.ownsRow base 3 1 (.slice (some ⟨g, 0, none⟩) P c) P (x.map (.int .i64))
theorem RowG.lt {wr : World} {base g P c : Nat} {x : List Int} (h : RowG wr base g P c x) : base ≤ g ∧ g < wr.heap.size := SL.row_bounds h g (by simp [Value.ownBlock])
theorem RowG.cell {wr : World} {base g P c : Nat} {x : List Int} (h : RowG wr base g P c x) {j : Int} (h0 : 0 ≤ j) (h1 : j.toNat < x.length) : wr.cell? ⟨g, j.toNat, none⟩ = some (.int .i64 (gi x j)) := row_cell h h0 h1
theorem RowG.free {wr : World} {base g P c : Nat} {x : List Int} (h : RowG wr base g P c x) (j : Nat) : wr.frozen? ⟨g, j, none⟩ = false := row_free h j
theorem RowG.len {wr : World} {base g P c : Nat} {x : List Int} (h : RowG wr base g P c x) : x.length = P := by have := h.1; simpa using this
theorem RowG.stab {wr wr' : World} {base g P c : Nat} {x : List Int} (h : RowG wr base g P c x) (hk : wr'.heap[g]? = wr.heap[g]?) : RowG wr' base g P c x := SL.row_stab h (fun k hk' => by simp [Value.ownBlock] at hk'; subst hk'; exact hk)
theorem RowG.set {wr : World} {base g P c : Nat} {x : List Int} (h : RowG wr base g P c x) (j : Nat) (u : Int) : RowG (wr.setCell ⟨g, j, none⟩ (.int .i64 u)) base g P c (x.set j u) := by
  have := (World.ownsRow.stored h j (.int .i64 u)).1
  unfold RowG
  rw [List.map_set]
  exact this
theorem RowG.other {wr : World} {base g P c : Nat} {x : List Int} (h : RowG wr base g P c x) {q : Addr} (hq : q.block ≠ g) (u : Value) : RowG (wr.setCell q u) base g P c x := h.stab (Below.heap_setCell _ _ _ _ (fun e => hq e.symm))
theorem RowG.below {wr wr' : World} {base g P c : Nat} {x : List Int} (h : RowG wr base g P c x) (hb : Below wr.heap.size wr wr') : RowG wr' base g P c x := h.stab (hb.block _ h.lt.2)
theorem RowG.drewN {wr : World} {base g P c m : Nat} {x : List Int} (h : RowG wr base g P c x) : RowG (wr.drewN m) base g P c x := row_drewN h m
theorem owns_RowG {wr : World} {base P : Nat} {v : Value} {x : List Int} (h : wr.ownsRow base 3 1 v P (x.map (.int .i64))) (hP : 1 ≤ P) : ∃ g c, v = .slice (some ⟨g, 0, none⟩) P c ∧ RowG wr base g P c x := by
  obtain ⟨hl, ⟨_, hn⟩ | ⟨g, cap, cur, hv, hr⟩⟩ := id h
  · omega
  · subst hv; exact ⟨g, cap, rfl, h⟩

theorem fill_set {k P : Nat} {x : List Int} {v : Int} (hk : k < P) (hx : x.length = P) : (List.replicate k v ++ x.drop k).set k v = List.replicate (k + 1) v ++ x.drop (k + 1) := by
  rw [List.set_append_right _ _ (by simp), List.length_replicate, Nat.sub_self, List.drop_eq_getElem_cons (by omega), List.set_cons_zero, List.replicate_succ', List.append_assoc]
  rfl

theorem relF_rng {P m : Nat} {x S : List Int} (h : RelF P x S) (hb : BndF m S) (hm : m ≤ 100) (hP : P ≤ 60) : ∀ j : Int, 0 ≤ j → j < P → -100000000 ≤ gi x j ∧ gi x j ≤ 1000000000 := by
  intro j j0 j1
  have h1 := h.2 j j0 j1
  have h2 := hb j j0 (by omega)
  rw [h1]
  split
  · rename_i hf
    have := h2 hf
    omega
  · omega


theorem rFewest_any (P : Nat) (a : Option Addr) (n cap : Nat) (bs : List Bd) (w : World) (hb : BdsAt w a n cap bs) (h0 : chk P bs = 0) :
    Calls Try.prog 58 #[.agg #[.int .i64 P, .slice a n cap]] w fun e w' => e = .returned (.int .i64 ((crcL P bs).length : Nat)) ∧ Below w.heap.size w w' := by
  have hs := Sys.of_chk h0
  have hpt := Pts.of_chk h0
  obtain ⟨hp1, hp2, h402, hin⟩ := hs
  have Hc := Lib.hid h0
  have Hin := Lib.hid hin
  have Hpt := Lib.hid hpt
  obtain rfl := hb.len
  have HU := Lib.hid (fun best (h : Few bs P P best) => h.uniq (crcL_few h0).1)
  generalize (crcL P bs).length = R at *
  clear h0 hin hpt
  go_enter Try.func58, Try.ntmps58
  go_wp2_with fail
  go_loopw [3, 4] (fun bv iv wr => ∃ (A best : Nat), bv = .int .i64 best ∧ iv = .int .i64 A ∧ A ≤ P ∧ best ≤ P ∧ Few bs P A best ∧ Sy w P a bs.length cap wr) (fun _ iv _ => P - (intOf iv).toNat)
  case atStart => exact ⟨0, 0, rfl, rfl, Nat.zero_le _, Nat.zero_le _, Few.zero _ _, Sy.start _ _ _ _ _⟩
  case round =>
    obtain ⟨A, best, rfl, rfl, hAP, hbP, hF, hSy⟩ := hrel
    rename World => w1
    have HF := Lib.hid hF
    clear hF
    obtain ⟨yB, yz, y0, y1⟩ := id hSy
    by_cases hlt : A < P
    · go_wp2_with fail
      go_loopw [5, 6] (fun xv iv w2 => ∃ k : Nat, k ≤ P ∧ iv = .int .i64 k ∧ Sy w P a bs.length cap w2 ∧ w2.ownsRow (w.heap.size + 1) 3 1 xv k ((List.replicate k (1000000000 : Int)).map (.int .i64))) (fun _ iv _ => P - (intOf iv).toNat)
      case atStart => exact ⟨0, Nat.zero_le _, rfl, hSy, World.ownsRow_nil _ _ _ _⟩
      case round =>
        obtain ⟨k, hk, rfl, hS2, hox⟩ := hrel
        rename World => w2
        clear y0 y1 hSy yB yz
        obtain ⟨yB, yz, y0, y1⟩ := id hS2
        by_cases hlt2 : k < P
        · obtain ⟨xa, xc, rfl, _⟩ := owns_slice hox
          go_wp2_with (at_builtin; refine wpList_app elemI rfl _ _ rfl (World.ownsRow.up hox ((Below.refl _ _).alloc (Nat.le_refl _) (Obj.cells #[.int .i64 1000000000] 3)) (Nat.le_refl _)) rfl rfl (RowAt.of_heap (World.alloc_heap_new w2 _)) (by simp) (ones_int [(1000000000 : Int)]) ?_ ?_ ?_ ?_)
          · unfold maxLen; omega
          · omega
          · simp; omega
          · intro v' w5 ho5 hg5 hb5 _ _
            have hBa : Below (w.heap.size + 1) w2 w5 := ((Below.refl _ _).alloc (by omega) _).trans hb5
            have hS5 := hS2.up hBa
            clear y0 y1
            go_wp2
            go_roundw
            case rel =>
              refine ⟨k + 1, by omega, by go_num, hS5, ?_⟩
              rw [List.replicate_succ', List.map_append]
              simpa using ho5
            case measure => simp [intOf]; omega
        · obtain rfl : k = P := by omega
          obtain ⟨g, c, rfl, hrx⟩ := owns_RowG hox (by omega)
          have hgl := hrx.lt
          have hc1 := hrx.cell (j := (A : Int)) (by omega) (by simp; omega)
          have hc2 := hrx.free A
          rw [Int.toNat_natCast] at hc1
          have hrx2 := hrx.set A 0
          have hS3 := hS2.up ((Below.refl _ _).setCell (p := ⟨g, A, none⟩) hgl.1 (.int .i64 0))
          have hR0 := relF_start (a := A) (show k ≤ 60 by omega) hlt
          have HR0 := Lib.hid hR0
          clear hR0 hox
          go_wp2_with fail
          clear y0 y1 hS2 yB yz
          go_loopw [3, 5, 7] (fun bv xv mv w3 => ∃ (m b2 g2 c2 : Nat) (x : List Int), bv = .int .i64 b2 ∧ mv = .int .i64 ((m : Int) + 1) ∧ xv = .slice (some ⟨g2, 0, none⟩) k c2 ∧ m ≤ k ∧ b2 ≤ k ∧ FewIn bs k A m b2 ∧ RelF k x (wS bs A m) ∧ Sy w k a bs.length cap w3 ∧ RowG w3 (w.heap.size + 1) g2 k c2 x) (fun _ _ mv _ => k + 1 - (intOf mv).toNat)
          case atStart => exact ⟨0, best, g, c, _, rfl, by first | rfl | go_num, rfl, Nat.zero_le _, hbP, FewIn.start HF.out, HR0.out, hS3, hrx2⟩
          case round =>
            obtain ⟨m, b2, g2, c2, x, rfl, rfl, rfl, hm, hb2, hI, hR, hS4, hrx4⟩ := hrel
            rename World => w3
            have HI := Lib.hid hI
            have HR := Lib.hid hR
            clear hI hR hc1 hc2 hS3 HR0
            obtain ⟨yB, yz, y0, y1⟩ := id hS4
            have hxl := hrx4.len
            have Hxl := Lib.hid hxl
            clear hxl
            have hgl4 := hrx4.lt
            by_cases hcond : m + 1 ≤ k ∧ (b2 = 0 ∨ m + 1 < b2)
            · obtain ⟨hm1, hbc⟩ := hcond
              have HBC := Lib.hid hbc
              have e1 : decide ((m : Int) + 1 ≤ (k : Int)) = true := decide_eq_true (by omega)
              have hor : ((b2 : Int) == 0) = true ∨ (((b2 : Int) == 0) = false ∧ decide ((m : Int) + 1 < (b2 : Int)) = true) := by
                rcases hbc with h | h
                · left; simp [h]
                · right; exact ⟨by simp; omega, decide_eq_true (by omega)⟩
              clear hbc
              have hS3 := hS4
              rcases hor with e2 | ⟨e2, e3⟩
              · go_wp2_with (at_builtin; refine wpList_app elemI rfl _ _ rfl (World.ownsRow_lit (base := w.heap.size + 1) (e := 3) (size := 1) w3 #[] 0 (by omega) (by decide) rfl) rfl rfl ((RowAt.of_owns hrx4).below ((Below.refl _ _).alloc (Nat.le_refl _) _)) (by simp [Hxl.out]) (ones_int x) ?_ ?_ ?_ ?_)
                · unfold maxLen; omega
                · omega
                · simp; omega
                · intro vy w4 hoy hgy hby _ haty
                  have hz4 := hgy.size
                  simp only [World.size_alloc] at hz4
                  have hB4 : Below (w.heap.size + 1) w3 w4 := ((Below.refl _ _).alloc (by omega) _).trans hby
                  have hA3 : Below w3.heap.size w3 (w3.alloc (Obj.cells #[] 3)) := (Below.refl _ _).alloc (Nat.le_refl _) _
                  have hx4 : RowG w4 (w.heap.size + 1) g2 k c2 x := (hrx4.below hA3).stab (hgy.block g2 (by simp; omega) (by simp [Value.ownBlock]; omega))
                  have hS5 := hS4.up hB4
                  have hoy : w4.ownsRow (w.heap.size + 1) 3 1 vy k (x.map (.int .i64)) := by simpa using hoy
                  obtain ⟨gy, cy, rfl, hry⟩ := owns_RowG hoy (by omega)
                  have hne : gy ≠ g2 := by
                    rcases haty with h | h
                    · simp [Value.ownBlock] at h; omega
                    · simp [Value.ownBlock] at h; omega
                  clear y0 y1 yB yz hoy hS4 hS3 haty hgy hby
                  go_wp2_with fail
                  go_loopw [9] (fun iv w5 => ∃ (q : Nat), q ≤ k ∧ iv = .int .i64 q ∧ Sy w k a bs.length cap w5 ∧ RowG w5 (w.heap.size + 1) g2 k c2 x ∧ RowG w5 (w.heap.size + 1) gy k cy (List.replicate q 1000000000 ++ x.drop q)) (fun iv _ => k - (intOf iv).toNat)
                  case atStart => exact ⟨0, Nat.zero_le _, rfl, hS5, hx4, by simpa using hry⟩
                  case round =>
                    obtain ⟨q, hq, rfl, hS6, hx6, hy6⟩ := hrel
                    rename World => w5
                    clear hx4 hS5 hry hrx4
                    obtain ⟨yB, yz, y0, y1⟩ := id hS6
                    have hyl := hy6.len
                    by_cases hq2 : q < k
                    · have hfs := hy6.free q
                      have hcs := hy6.cell (j := (q : Int)) (by omega) (by rw [hyl]; omega)
                      rw [Int.toNat_natCast] at hcs
                      have hgy2 := hy6.lt
                      have hn1 := hy6.set q 1000000000
                      rw [fill_set hq2 Hxl.out] at hn1
                      have hn2 := hx6.other (q := ⟨gy, q, none⟩) hne (.int .i64 1000000000)
                      have hn3 := hS6.up ((Below.refl _ _).setCell (p := ⟨gy, q, none⟩) hgy2.1 (.int .i64 1000000000))
                      clear hyl
                      go_wp2_with fail
                      go_roundw
                      case rel => exact ⟨q + 1, by omega, by go_num, hn3, hn2, hn1⟩
                      case measure => simp [intOf]; omega
                    · obtain rfl : q = k := by omega
                      have hfill : List.replicate q (1000000000 : Int) ++ x.drop q = List.replicate q 1000000000 := by rw [List.drop_eq_nil_of_le (by rw [Hxl.out]; exact Nat.le_refl _), List.append_nil]
                      rw [hfill] at hy6
                      have HRy := Lib.hid (relF_fars (P := q) (by omega))
                      clear hfill hyl
                      go_wp2_with fail
                      go_loopw [10] (fun iv w6 => ∃ (j : Nat) (y : List Int), j ≤ bs.length ∧ iv = .int .i64 j ∧ RelF q y (lng bs (wS bs A m) j).1 ∧ Sy w q a bs.length cap w6 ∧ RowG w6 (w.heap.size + 1) g2 q c2 x ∧ RowG w6 (w.heap.size + 1) gy q cy y) (fun iv _ => bs.length - (intOf iv).toNat)
                      case atStart => exact ⟨0, _, Nat.zero_le _, rfl, HRy.out, hS6, hx6, hy6⟩
                      case round =>
                        obtain ⟨j, y, hj, rfl, hRy, hS7, hx7, hy7⟩ := hrel
                        rename World => w6
                        clear y0 y1 yB yz hS6 hx6 hy6 HRy
                        have HRy := Lib.hid hRy
                        clear hRy
                        obtain ⟨yB, yz, y0, y1⟩ := id hS7
                        have hyl := hy7.len
                        have Hyl := Lib.hid hyl
                        clear hyl
                        by_cases hj2 : j < bs.length
                        · obtain ⟨b, off, rfl, hbl, d0, d1, d2, d3⟩ := (hb.below yB).get hj2
                          have hmem := getD_mem hj2
                          obtain ⟨f0, f1, t0, t1⟩ := Hpt.out _ hmem
                          have hmm := chk_mil Hc.out _ hmem
                          have Hst := Lib.hid (relF_step (P := q) rfl Hc.out (show m ≤ 100 by omega) (wS_bnd Hc.out (show A < 60 by omega) m) hj2 HR.out HRy.out)
                          have hr1 := relF_rng HR.out (wS_bnd Hc.out (show A < 60 by omega) m) (show m ≤ 100 by omega) (show q ≤ 60 by omega) _ f0 f1
                          generalize bs.getD j default = z at *
                          clear hmem
                          have k1 := hx7.cell f0 (by rw [Hxl.out]; omega)
                          have hgx := hx7.lt
                          have hgy3 := hy7.lt
                          have hA6 : Below w6.heap.size w6 (w6.alloc (Obj.cells #[.int .i64 z.frm, .int .i64 z.tow, .int .i64 z.most, .int .i64 z.bid] 39)) := (Below.refl _ _).alloc (Nat.le_refl _) _
                          have k2 : (w6.alloc (Obj.cells #[.int .i64 z.frm, .int .i64 z.tow, .int .i64 z.most, .int .i64 z.bid] 39)).cell? ⟨g2, z.frm.toNat, none⟩ = some (.int .i64 (gi x z.frm)) := ((bcell hA6).1 _ _ hgx.2).trans k1
                          have kx := hx7.below hA6
                          have ky := hy7.below hA6
                          have kS := hS7.up ((Below.refl (w.heap.size + 1) w6).alloc (by omega) (Obj.cells #[.int .i64 z.frm, .int .i64 z.tow, .int .i64 z.most, .int .i64 z.bid] 39))
                          have kb := World.alloc_heap_new w6 (Obj.cells #[.int .i64 z.frm, .int .i64 z.tow, .int .i64 z.most, .int .i64 z.bid] 39)
                          by_cases ht : gi x z.frm < 1000000000
                          · have hnx := Hst.out.1 ht
                            have Hnx := Lib.hid hnx
                            clear hnx Hst
                            have hwr : IntKind.i64.wrap (gi x z.frm + z.most) = gi x z.frm + z.most := IntWalk.i64_in _ (by omega)
                            have k0 : (0 : Int) ≤ z.frm := f0
                            go_wp2_with fail
                            generalize w6.alloc (Obj.cells #[.int .i64 z.frm, .int .i64 z.tow, .int .i64 z.most, .int .i64 z.bid] 39) = W7 at *
                            have zz7 := hA6.size
                            have zb := (Array.getElem?_eq_some_iff.1 kb).1
                            have zx := kx.lt
                            have zy := ky.lt
                            clear k1 y0 y1 d0 d1 d2 d3
                            refine SL.rule (by kernel_rfl) [gy] [75, 76, 77, 78, 79, 80, 81, 82, 83, 84, 85, 86, 87, 88, 89, 90, 91, 92] [SL.pu 75 [] (.slice (some ⟨gy, 0, none⟩) q cy), SL.pu 76 [] (.pointer (some ⟨w6.heap.size, 1, none⟩)), SL.pu 77 [1] (.int .i64 z.tow), SL.pu 78 [] (.slice (some ⟨gy, 0, none⟩) q cy), SL.pu 79 [] (.pointer (some ⟨w6.heap.size, 1, none⟩)), SL.pu 80 [4] (.int .i64 z.tow),
                              SL.pu 81 [3, 5] (.pointer (some ⟨gy, z.tow.toNat, none⟩)), SL.pu 82 [6, 19] (.int .i64 (gi y z.tow)), SL.pu 83 [] (.slice (some ⟨g2, 0, none⟩) q c2), SL.pu 84 [] (.pointer (some ⟨w6.heap.size, 0, none⟩)), SL.pu 85 [9] (.int .i64 z.frm), SL.pu 86 [8, 10] (.pointer (some ⟨g2, z.frm.toNat, none⟩)), SL.pu 87 [11] (.int .i64 (gi x z.frm)),
                              SL.pu 88 [] (.pointer (some ⟨w6.heap.size, 2, none⟩)), SL.pu 89 [13] (.int .i64 z.most), SL.pu 90 [12, 14] (.int .i64 (gi x z.frm + z.most)), SL.pu 91 [7, 15] (.int .i64 (min (gi y z.tow) (gi x z.frm + z.most))), SL.pu 92 [0, 2] (.pointer (some ⟨gy, z.tow.toNat, none⟩)),
                              { SL.rowV (w.heap.size + 1) 3 1 q (.slice (some ⟨gy, 0, none⟩) q cy) ((y.set z.tow.toNat (min (gi y z.tow) (gi x z.frm + z.most))).map (.int .i64)) with use := [16, 17, 19], eat := [19] },
                              SL.rowV (w.heap.size + 1) 3 1 q (.slice (some ⟨gy, 0, none⟩) q cy) (y.map (.int .i64))] [18] (by kernel_rfl) (by kernel_rfl) _ (SL.one_held (N := gy) rfl rfl ⟨ky, rfl⟩ zy.2) SL.one_apart ?_ ?_
                            · refine ⟨?_, ?_, ?_, ?_, ?_, ?_, ?_, ?_, ?_, ?_, ?_, ?_, ?_, ?_, ?_, ?_, ?_, ?_, ?_, trivial⟩
                              all_goals refine SL.ob fun us w9 Fe hG hu hd hv K hK => ?_
                              all_goals simp [SL.frame, SL.put', SL.Used, SL.Seen, SL.pu, SL.row, SL.box, SL.rowIn, SL.boxIn, SL.boxAt, SL.boxAtIn, Bd.v, Bd.cs, SL.rowV] at hu hv hK ⊢
                              all_goals (have hcc := hG.undrew.block)
                              all_goals (have b0 := (SL.cells_of ((hcc _ zb (by simp; omega)).trans kb)).1 0)
                              all_goals (have b1 := (SL.cells_of ((hcc _ zb (by simp; omega)).trans kb)).1 1)
                              all_goals (have b2 := (SL.cells_of ((hcc _ zb (by simp; omega)).trans kb)).1 2)
                              all_goals (have bx := (kx.stab (hcc _ zx.2 (by simp; omega))).cell f0 (by rw [Hxl.out]; omega))
                              all_goals simp at b0 b1 b2
                              all_goals clear hcc k2
                              all_goals try (go_step; refine hK _ _ _ _ (by simp [Act.put, *]; done) (SL.Chg.refl _ _) rfl rfl (by simp))
                              · obtain ⟨⟨u1, _⟩, u2, u3⟩ := hu
                                have c9 := row_cell (j := z.tow) u2 t0 (by rw [Hyl.out]; omega)
                                go_step
                                exact hK _ _ _ _ (by simp [Act.put, *]; done) (SL.Chg.refl _ _) rfl rfl (by simp)
                              · obtain ⟨⟨u1, _⟩, ⟨u2, _⟩, u3, u4⟩ := hu
                                have f9 := row_free u3
                                have c9 := row_cell (j := z.tow) u3 t0 (by rw [Hyl.out]; omega)
                                have hst := (World.ownsRow.stored u3 z.tow.toNat (.int .i64 (min (gi y z.tow) (gi x z.frm + z.most)))).1
                                go_step
                                refine hK _ undef _ _ (by simp [Act.put, *]; done) (.setCell _ (by simp [u4, Value.ownBlock]) _) hst rfl ?_
                                rw [u4]; simp [Value.ownBlock]
                            · intro us w9 Fs hG hu hbd hd
                              simp [SL.frame, SL.put', SL.Used, SL.Seen, SL.pu, SL.row, SL.box, SL.rowIn, SL.boxIn, SL.boxAt, SL.boxAtIn, Bd.v, Bd.cs, SL.rowV] at hu ⊢
                              obtain ⟨hr9, _⟩ := hu
                              have hG2 := hG.undrew
                              have hz9 := hG2.size
                              have hS9 := kS.up (hG2.belowE (by omega) (by simp; omega))
                              have hx9 := kx.stab (hG2.block _ zx.2 (by simp; omega))
                              clear hbd hd
                              go_wp2
                              go_roundw
                              case rel => exact ⟨j + 1, _, by omega, by go_num, Hnx.out, hS9, hx9, by unfold RowG; rw [List.map_set]; exact hr9⟩
                              case measure => simp [intOf]; omega
                          · have hnx := Hst.out.2 ht
                            have Hnx := Lib.hid hnx
                            clear hnx Hst
                            go_wp2_with fail
                            go_roundw
                            case rel => exact ⟨j + 1, y, by omega, by go_num, Hnx.out, kS, kx, ky⟩
                            case measure => simp [intOf]; omega
                        · obtain rfl : j = bs.length := by omega
                          have HRm : Hid (RelF q y (wS bs A (m + 1))) := Lib.hid HRy.out
                          have hcA := hy7.cell (j := (A : Int)) (by omega) (by rw [Hyl.out]; omega)
                          rw [Int.toNat_natCast] at hcA
                          have hcyc : gi y A < 0 ↔ cyc bs A (m + 1) := by
                            have := HRm.out.2 (A : Int) (by omega) (by omega)
                            unfold cyc
                            have hF : FAR = 1099511627776 := rfl
                            rw [this]
                            split <;> omega
                          have Hcyc := Lib.hid hcyc
                          clear hcyc
                          by_cases hneg : gi y A < 0
                          · have hI2 := HI.out.hit hm1 HBC.out (Hcyc.out.1 hneg)
                            have HI2 := Lib.hid hI2
                            clear hI2
                            go_wp2_with fail
                            go_roundw
                            case rel => exact ⟨m + 1, m + 1, gy, cy, y, by go_num, by go_num, rfl, hm1, hm1, HI2.out, HRm.out, hS7, hy7⟩
                            case measure => simp [intOf]; omega
                          · have hI2 := HI.out.miss HBC.out (fun h => hneg (Hcyc.out.2 h))
                            have HI2 := Lib.hid hI2
                            clear hI2
                            go_wp2_with fail
                            go_roundw
                            case rel => exact ⟨m + 1, b2, gy, cy, y, rfl, by go_num, rfl, hm1, hb2, HI2.out, HRm.out, hS7, hy7⟩
                            case measure => simp [intOf]; omega
              · go_wp2_with (at_builtin; refine wpList_app elemI rfl _ _ rfl (World.ownsRow_lit (base := w.heap.size + 1) (e := 3) (size := 1) w3 #[] 0 (by omega) (by decide) rfl) rfl rfl ((RowAt.of_owns hrx4).below ((Below.refl _ _).alloc (Nat.le_refl _) _)) (by simp [Hxl.out]) (ones_int x) ?_ ?_ ?_ ?_)
                · unfold maxLen; omega
                · omega
                · simp; omega
                · intro vy w4 hoy hgy hby _ haty
                  have hz4 := hgy.size
                  simp only [World.size_alloc] at hz4
                  have hB4 : Below (w.heap.size + 1) w3 w4 := ((Below.refl _ _).alloc (by omega) _).trans hby
                  have hA3 : Below w3.heap.size w3 (w3.alloc (Obj.cells #[] 3)) := (Below.refl _ _).alloc (Nat.le_refl _) _
                  have hx4 : RowG w4 (w.heap.size + 1) g2 k c2 x := (hrx4.below hA3).stab (hgy.block g2 (by simp; omega) (by simp [Value.ownBlock]; omega))
                  have hS5 := hS4.up hB4
                  have hoy : w4.ownsRow (w.heap.size + 1) 3 1 vy k (x.map (.int .i64)) := by simpa using hoy
                  obtain ⟨gy, cy, rfl, hry⟩ := owns_RowG hoy (by omega)
                  have hne : gy ≠ g2 := by
                    rcases haty with h | h
                    · simp [Value.ownBlock] at h; omega
                    · simp [Value.ownBlock] at h; omega
                  clear y0 y1 yB yz hoy hS4 hS3 haty hgy hby
                  go_wp2_with fail
                  go_loopw [9] (fun iv w5 => ∃ (q : Nat), q ≤ k ∧ iv = .int .i64 q ∧ Sy w k a bs.length cap w5 ∧ RowG w5 (w.heap.size + 1) g2 k c2 x ∧ RowG w5 (w.heap.size + 1) gy k cy (List.replicate q 1000000000 ++ x.drop q)) (fun iv _ => k - (intOf iv).toNat)
                  case atStart => exact ⟨0, Nat.zero_le _, rfl, hS5, hx4, by simpa using hry⟩
                  case round =>
                    obtain ⟨q, hq, rfl, hS6, hx6, hy6⟩ := hrel
                    rename World => w5
                    clear hx4 hS5 hry hrx4
                    obtain ⟨yB, yz, y0, y1⟩ := id hS6
                    have hyl := hy6.len
                    by_cases hq2 : q < k
                    · have hfs := hy6.free q
                      have hcs := hy6.cell (j := (q : Int)) (by omega) (by rw [hyl]; omega)
                      rw [Int.toNat_natCast] at hcs
                      have hgy2 := hy6.lt
                      have hn1 := hy6.set q 1000000000
                      rw [fill_set hq2 Hxl.out] at hn1
                      have hn2 := hx6.other (q := ⟨gy, q, none⟩) hne (.int .i64 1000000000)
                      have hn3 := hS6.up ((Below.refl _ _).setCell (p := ⟨gy, q, none⟩) hgy2.1 (.int .i64 1000000000))
                      clear hyl
                      go_wp2_with fail
                      go_roundw
                      case rel => exact ⟨q + 1, by omega, by go_num, hn3, hn2, hn1⟩
                      case measure => simp [intOf]; omega
                    · obtain rfl : q = k := by omega
                      have hfill : List.replicate q (1000000000 : Int) ++ x.drop q = List.replicate q 1000000000 := by rw [List.drop_eq_nil_of_le (by rw [Hxl.out]; exact Nat.le_refl _), List.append_nil]
                      rw [hfill] at hy6
                      have HRy := Lib.hid (relF_fars (P := q) (by omega))
                      clear hfill hyl
                      go_wp2_with fail
                      go_loopw [10] (fun iv w6 => ∃ (j : Nat) (y : List Int), j ≤ bs.length ∧ iv = .int .i64 j ∧ RelF q y (lng bs (wS bs A m) j).1 ∧ Sy w q a bs.length cap w6 ∧ RowG w6 (w.heap.size + 1) g2 q c2 x ∧ RowG w6 (w.heap.size + 1) gy q cy y) (fun iv _ => bs.length - (intOf iv).toNat)
                      case atStart => exact ⟨0, _, Nat.zero_le _, rfl, HRy.out, hS6, hx6, hy6⟩
                      case round =>
                        obtain ⟨j, y, hj, rfl, hRy, hS7, hx7, hy7⟩ := hrel
                        rename World => w6
                        clear y0 y1 yB yz hS6 hx6 hy6 HRy
                        have HRy := Lib.hid hRy
                        clear hRy
                        obtain ⟨yB, yz, y0, y1⟩ := id hS7
                        have hyl := hy7.len
                        have Hyl := Lib.hid hyl
                        clear hyl
                        by_cases hj2 : j < bs.length
                        · obtain ⟨b, off, rfl, hbl, d0, d1, d2, d3⟩ := (hb.below yB).get hj2
                          have hmem := getD_mem hj2
                          obtain ⟨f0, f1, t0, t1⟩ := Hpt.out _ hmem
                          have hmm := chk_mil Hc.out _ hmem
                          have Hst := Lib.hid (relF_step (P := q) rfl Hc.out (show m ≤ 100 by omega) (wS_bnd Hc.out (show A < 60 by omega) m) hj2 HR.out HRy.out)
                          have hr1 := relF_rng HR.out (wS_bnd Hc.out (show A < 60 by omega) m) (show m ≤ 100 by omega) (show q ≤ 60 by omega) _ f0 f1
                          generalize bs.getD j default = z at *
                          clear hmem
                          have k1 := hx7.cell f0 (by rw [Hxl.out]; omega)
                          have hgx := hx7.lt
                          have hgy3 := hy7.lt
                          have hA6 : Below w6.heap.size w6 (w6.alloc (Obj.cells #[.int .i64 z.frm, .int .i64 z.tow, .int .i64 z.most, .int .i64 z.bid] 39)) := (Below.refl _ _).alloc (Nat.le_refl _) _
                          have k2 : (w6.alloc (Obj.cells #[.int .i64 z.frm, .int .i64 z.tow, .int .i64 z.most, .int .i64 z.bid] 39)).cell? ⟨g2, z.frm.toNat, none⟩ = some (.int .i64 (gi x z.frm)) := ((bcell hA6).1 _ _ hgx.2).trans k1
                          have kx := hx7.below hA6
                          have ky := hy7.below hA6
                          have kS := hS7.up ((Below.refl (w.heap.size + 1) w6).alloc (by omega) (Obj.cells #[.int .i64 z.frm, .int .i64 z.tow, .int .i64 z.most, .int .i64 z.bid] 39))
                          have kb := World.alloc_heap_new w6 (Obj.cells #[.int .i64 z.frm, .int .i64 z.tow, .int .i64 z.most, .int .i64 z.bid] 39)
                          by_cases ht : gi x z.frm < 1000000000
                          · have hnx := Hst.out.1 ht
                            have Hnx := Lib.hid hnx
                            clear hnx Hst
                            have hwr : IntKind.i64.wrap (gi x z.frm + z.most) = gi x z.frm + z.most := IntWalk.i64_in _ (by omega)
                            have k0 : (0 : Int) ≤ z.frm := f0
                            go_wp2_with fail
                            generalize w6.alloc (Obj.cells #[.int .i64 z.frm, .int .i64 z.tow, .int .i64 z.most, .int .i64 z.bid] 39) = W7 at *
                            have zz7 := hA6.size
                            have zb := (Array.getElem?_eq_some_iff.1 kb).1
                            have zx := kx.lt
                            have zy := ky.lt
                            clear k1 y0 y1 d0 d1 d2 d3
                            refine SL.rule (by kernel_rfl) [gy] [75, 76, 77, 78, 79, 80, 81, 82, 83, 84, 85, 86, 87, 88, 89, 90, 91, 92] [SL.pu 75 [] (.slice (some ⟨gy, 0, none⟩) q cy), SL.pu 76 [] (.pointer (some ⟨w6.heap.size, 1, none⟩)), SL.pu 77 [1] (.int .i64 z.tow), SL.pu 78 [] (.slice (some ⟨gy, 0, none⟩) q cy), SL.pu 79 [] (.pointer (some ⟨w6.heap.size, 1, none⟩)), SL.pu 80 [4] (.int .i64 z.tow),
                              SL.pu 81 [3, 5] (.pointer (some ⟨gy, z.tow.toNat, none⟩)), SL.pu 82 [6, 19] (.int .i64 (gi y z.tow)), SL.pu 83 [] (.slice (some ⟨g2, 0, none⟩) q c2), SL.pu 84 [] (.pointer (some ⟨w6.heap.size, 0, none⟩)), SL.pu 85 [9] (.int .i64 z.frm), SL.pu 86 [8, 10] (.pointer (some ⟨g2, z.frm.toNat, none⟩)), SL.pu 87 [11] (.int .i64 (gi x z.frm)),
                              SL.pu 88 [] (.pointer (some ⟨w6.heap.size, 2, none⟩)), SL.pu 89 [13] (.int .i64 z.most), SL.pu 90 [12, 14] (.int .i64 (gi x z.frm + z.most)), SL.pu 91 [7, 15] (.int .i64 (min (gi y z.tow) (gi x z.frm + z.most))), SL.pu 92 [0, 2] (.pointer (some ⟨gy, z.tow.toNat, none⟩)),
                              { SL.rowV (w.heap.size + 1) 3 1 q (.slice (some ⟨gy, 0, none⟩) q cy) ((y.set z.tow.toNat (min (gi y z.tow) (gi x z.frm + z.most))).map (.int .i64)) with use := [16, 17, 19], eat := [19] },
                              SL.rowV (w.heap.size + 1) 3 1 q (.slice (some ⟨gy, 0, none⟩) q cy) (y.map (.int .i64))] [18] (by kernel_rfl) (by kernel_rfl) _ (SL.one_held (N := gy) rfl rfl ⟨ky, rfl⟩ zy.2) SL.one_apart ?_ ?_
                            · refine ⟨?_, ?_, ?_, ?_, ?_, ?_, ?_, ?_, ?_, ?_, ?_, ?_, ?_, ?_, ?_, ?_, ?_, ?_, ?_, trivial⟩
                              all_goals refine SL.ob fun us w9 Fe hG hu hd hv K hK => ?_
                              all_goals simp [SL.frame, SL.put', SL.Used, SL.Seen, SL.pu, SL.row, SL.box, SL.rowIn, SL.boxIn, SL.boxAt, SL.boxAtIn, Bd.v, Bd.cs, SL.rowV] at hu hv hK ⊢
                              all_goals (have hcc := hG.undrew.block)
                              all_goals (have b0 := (SL.cells_of ((hcc _ zb (by simp; omega)).trans kb)).1 0)
                              all_goals (have b1 := (SL.cells_of ((hcc _ zb (by simp; omega)).trans kb)).1 1)
                              all_goals (have b2 := (SL.cells_of ((hcc _ zb (by simp; omega)).trans kb)).1 2)
                              all_goals (have bx := (kx.stab (hcc _ zx.2 (by simp; omega))).cell f0 (by rw [Hxl.out]; omega))
                              all_goals simp at b0 b1 b2
                              all_goals clear hcc k2
                              all_goals try (go_step; refine hK _ _ _ _ (by simp [Act.put, *]; done) (SL.Chg.refl _ _) rfl rfl (by simp))
                              · obtain ⟨⟨u1, _⟩, u2, u3⟩ := hu
                                have c9 := row_cell (j := z.tow) u2 t0 (by rw [Hyl.out]; omega)
                                go_step
                                exact hK _ _ _ _ (by simp [Act.put, *]; done) (SL.Chg.refl _ _) rfl rfl (by simp)
                              · obtain ⟨⟨u1, _⟩, ⟨u2, _⟩, u3, u4⟩ := hu
                                have f9 := row_free u3
                                have c9 := row_cell (j := z.tow) u3 t0 (by rw [Hyl.out]; omega)
                                have hst := (World.ownsRow.stored u3 z.tow.toNat (.int .i64 (min (gi y z.tow) (gi x z.frm + z.most)))).1
                                go_step
                                refine hK _ undef _ _ (by simp [Act.put, *]; done) (.setCell _ (by simp [u4, Value.ownBlock]) _) hst rfl ?_
                                rw [u4]; simp [Value.ownBlock]
                            · intro us w9 Fs hG hu hbd hd
                              simp [SL.frame, SL.put', SL.Used, SL.Seen, SL.pu, SL.row, SL.box, SL.rowIn, SL.boxIn, SL.boxAt, SL.boxAtIn, Bd.v, Bd.cs, SL.rowV] at hu ⊢
                              obtain ⟨hr9, _⟩ := hu
                              have hG2 := hG.undrew
                              have hz9 := hG2.size
                              have hS9 := kS.up (hG2.belowE (by omega) (by simp; omega))
                              have hx9 := kx.stab (hG2.block _ zx.2 (by simp; omega))
                              clear hbd hd
                              go_wp2
                              go_roundw
                              case rel => exact ⟨j + 1, _, by omega, by go_num, Hnx.out, hS9, hx9, by unfold RowG; rw [List.map_set]; exact hr9⟩
                              case measure => simp [intOf]; omega
                          · have hnx := Hst.out.2 ht
                            have Hnx := Lib.hid hnx
                            clear hnx Hst
                            go_wp2_with fail
                            go_roundw
                            case rel => exact ⟨j + 1, y, by omega, by go_num, Hnx.out, kS, kx, ky⟩
                            case measure => simp [intOf]; omega
                        · obtain rfl : j = bs.length := by omega
                          have HRm : Hid (RelF q y (wS bs A (m + 1))) := Lib.hid HRy.out
                          have hcA := hy7.cell (j := (A : Int)) (by omega) (by rw [Hyl.out]; omega)
                          rw [Int.toNat_natCast] at hcA
                          have hcyc : gi y A < 0 ↔ cyc bs A (m + 1) := by
                            have := HRm.out.2 (A : Int) (by omega) (by omega)
                            unfold cyc
                            have hF : FAR = 1099511627776 := rfl
                            rw [this]
                            split <;> omega
                          have Hcyc := Lib.hid hcyc
                          clear hcyc
                          by_cases hneg : gi y A < 0
                          · have hI2 := HI.out.hit hm1 HBC.out (Hcyc.out.1 hneg)
                            have HI2 := Lib.hid hI2
                            clear hI2
                            go_wp2_with fail
                            go_roundw
                            case rel => exact ⟨m + 1, m + 1, gy, cy, y, by go_num, by go_num, rfl, hm1, hm1, HI2.out, HRm.out, hS7, hy7⟩
                            case measure => simp [intOf]; omega
                          · have hI2 := HI.out.miss HBC.out (fun h => hneg (Hcyc.out.2 h))
                            have HI2 := Lib.hid hI2
                            clear hI2
                            go_wp2_with fail
                            go_roundw
                            case rel => exact ⟨m + 1, b2, gy, cy, y, rfl, by go_num, rfl, hm1, hb2, HI2.out, HRm.out, hS7, hy7⟩
                            case measure => simp [intOf]; omega
            · have hdone := HI.out.done hm hcond
              have HD := Lib.hid hdone
              clear hdone
              have hor : decide ((m : Int) + 1 ≤ (k : Int)) = false ∨ (decide ((m : Int) + 1 ≤ (k : Int)) = true ∧ ((b2 : Int) == 0) = false ∧ decide ((m : Int) + 1 < (b2 : Int)) = false) := by
                by_cases h : m + 1 ≤ k
                · right
                  refine ⟨decide_eq_true (by omega), by simp; omega, decide_eq_false (by omega)⟩
                · left; exact decide_eq_false (by omega)
              clear hcond
              rcases hor with e1 | ⟨e1, e2, e3⟩
              all_goals
                go_wp2_with fail
                go_roundw
                case rel => exact ⟨A + 1, b2, rfl, by go_num, by omega, hb2, HD.out, hS4⟩
                case measure => simp [intOf]; omega
    · obtain rfl : A = P := by omega
      have hR := HU.out _ HF.out
      subst hR
      go_wp2_with fail
      go_ret
      exact ⟨rfl, yB⟩
end Go.Proofs.Ytlkcfohmoeadbaa

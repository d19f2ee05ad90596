/-
  The law Sharp, walked, and its statement.
-/
import Derived.Test.YtelkcohhagblaaaGreatSc01
import Derived.Test.YtelkcohhagblaaaGreatSc02
import Derived.Test.YtelkcohhagblaaaGreatSc05
import Derived.Test.YtelkcohhagblaaaGreatSc07
import Derived.Test.YtelkcohhagblaaaGreatSc08
import Derived.Test.YtelkcohhagblaaaGreatSc04
import Derived.Test.YtelkcohhagblaaaGreatSc06
import Derived.Test.YtelkcohhagblaaaGreatSc26
import Derived.Test.YtelkcohhagblaaaGreatChecked
import Derived.ProofKit
import Derived.SizedLaws
import Derived.Lib.SmallJoins
import Derived.Deep.Slices
import Derived.Deep.Fields
import Derived.OpenShut
import Derived.Test.YtelkcohhagblaaaGreatSc44
import Derived.Test.YtelkcohhagblaaaGreatSc38
import Derived.Test.YtelkcohhagblaaaGreatSc36
import Derived.Test.YtelkcohhagblaaaGreatRows
set_option linter.unusedSimpArgs false
set_option linter.unusedVariables false
set_option linter.unnecessarySimpa false
namespace Go.Proofs.YtelkcohhagblaaaGreat.SL
open Go Go.RowKit
/-- What append leaves: the same block, or a new one. -/
theorem app_bounds {w w' : World} {base : Nat} {t : TypeId} {size n m : Nat} {v v' : Value} {xs ys : List Value} (_ : w.ownsRow base t size v n xs) (h' : w'.ownsRow base t size v' m ys) (hat : v'.ownBlock = v.ownBlock ∨ v'.ownBlock = some w.heap.size) :
 ∀ k ∈ v'.ownBlock.toList, k ∈ v.ownBlock.toList ∨ (w.heap.size ≤ k ∧ k < w'.heap.size) := by
 intro k hk
 have hb := row_bounds h' k hk
 rcases hat with h | h
 ·rw [h] at hk; exact .inl hk
 ·rw [h] at hk; simp at hk; subst hk; exact .inr ⟨Nat.le_refl _, hb.2⟩

end Go.Proofs.YtelkcohhagblaaaGreat.SL
namespace Go.Proofs.YtelkcohhagblaaaGreat
open Go.RowKit
theorem BdsAt.nilAt (w : World) : BdsAt w none 0 0 [] := ⟨rfl, by simp, fun _ => ⟨rfl, rfl⟩, fun x h => by cases h⟩

theorem RowAt.nilAt (w : World) : RowAt w none 0 [] := ⟨fun _ => ⟨rfl, rfl⟩, fun x h => by cases h⟩

theorem IntsAt.nilAt (w : World) : IntsAt w none 0 0 [] := ⟨rfl, by simp, RowAt.nilAt w⟩

end Go.Proofs.YtelkcohhagblaaaGreat
namespace Go.Proofs.YtelkcohhagblaaaGreat
def OkS (s : List Pn) : Prop := ∀ p ∈ s, 0 ≤ p.lo ∧ p.lo ≤ p.hi ∧ p.hi ≤ 1000

end Go.Proofs.YtelkcohhagblaaaGreat
namespace Go.Proofs.YtelkcohhagblaaaGreat
theorem OkS.erase {s : List Pn} (hs : OkS s) (a : Nat) : OkS (s.eraseIdx a) := fun p hp => hs p (List.mem_of_mem_eraseIdx hp)
end Go.Proofs.YtelkcohhagblaaaGreat
namespace Go.Proofs.YtelkcohhagblaaaGreat
open Go Go.RowKit
theorem ItmsAt.nilAt (w : World) : ItmsAt w none 0 0 [] := ⟨rfl, by simp, RowAt.nilAt w, fun x hx => by cases hx⟩
end Go.Proofs.YtelkcohhagblaaaGreat
namespace Go.Proofs.YtelkcohhagblaaaGreat
open Go.RowKit Go.Shelf
set_option maxHeartbeats 4000000
set_option maxRecDepth 100000
def Cs.ask (c : Cs) (l : List Int) : Int := askE_w c.ware.data.toList c.lim c.byr c.ps l
end Go.Proofs.YtelkcohhagblaaaGreat
namespace Go.Proofs.YtelkcohhagblaaaGreat
open Go.RowKit Go.Shelf
set_option maxHeartbeats 1000000
theorem gcopiedB_any (a : Option Addr) (n cap : Nat) (bs : List Bd) (w : World) (hb : BdsAt w a n cap bs) (hs : bs.length ≤ 100000) :
 Calls Tryz.prog 175 #[.slice a n cap] w fun e w' => ∃ v, e = .returned v ∧ w'.ownsRow w.heap.size 69 4 v bs.length (bcs bs) ∧ Below w.heap.size w w' := by
 obtain rfl := hb.len
 go_enter Tryz.func175, Tryz.ntmps175
 go_wp2_with (at_builtin; refine wpList_app elemB rfl _ _ rfl (World.ownsRow_nil _ w.heap.size _ _) rfl rfl hb.row (bcs_length bs) (bcs_one bs) ?_ ?_ ?_ ?_)
 ·unfold maxLen; omega
 ·omega
 ·simp
 ·intro v' w' hown hg hb1 _ _
  go_wp2
  go_ret
  exact ⟨v', rfl, by simpa using hown, hb1⟩

set_option maxRecDepth 100000 in
theorem gtied_any (p a b n : Int) (ad : Option Addr) (len cap : Nat) (bs : List Bd) (w : World) (hb : BdsAt w ad len cap bs) (hs : bs.length ≤ 400) (hn : -100000000 ≤ n ∧ n ≤ 100000000) :
 Calls Tryz.prog 117 #[.agg #[.int .i64 p, .slice ad len cap], .int .i64 a, .int .i64 b, .int .i64 n] w fun e w' =>
  ∃ v, e = .returned (.agg #[.int .i64 p, v]) ∧ w'.ownsRow w.heap.size 69 4 v (bs.length + 2) (bcs (bs ++ [⟨a, b, n, 0⟩, ⟨b, a, -n, 0⟩])) ∧ Below w.heap.size w w' := by
 obtain rfl := hb.len
 go_enter Tryz.func117, Tryz.ntmps117
 go_wp2_with fail
 refine SL.rule (by kernel_rfl) [w.heap.size + 1] [9, 10, 11, 12, 13, 14, 15, 16, 17, 18, 19, 20, 21, 22, 23, 24, 25, 8] [
  SL.pu 9 [] (.pointer (some ⟨w.heap.size, 0, none⟩)), SL.pu 10 [0] (.int .i64 p), SL.pu 11 [] (.pointer (some ⟨w.heap.size, 1, none⟩)), SL.pu 12 [2] (.slice ad bs.length cap),
  SL.row 13 [3] [] w.heap.size 69 4 bs.length (bcs bs), SL.pu 14 [] (.int .i64 a), SL.pu 15 [] (.int .i64 b), SL.pu 16 [] (.int .i64 n), SL.pu 17 [5, 6, 7] (.agg #[.int .i64 a, .int .i64 b, .int .i64 n, .int .i64 0]),
  SL.pu 18 [] (.int .i64 b), SL.pu 19 [] (.int .i64 a), SL.pu 20 [] (.int .i64 n), SL.pu 21 [11] (.int .i64 (-n)), SL.pu 22 [9, 10, 12] (.agg #[.int .i64 b, .int .i64 a, .int .i64 (-n), .int .i64 0]),
  SL.row 23 [8, 13] [] w.heap.size 69 4 2 (bcs [⟨a, b, n, 0⟩, ⟨b, a, -n, 0⟩]), SL.row 24 [4, 14] [4] w.heap.size 69 4 (bs.length + 2) (bcs bs ++ bcs [⟨a, b, n, 0⟩, ⟨b, a, -n, 0⟩]),
  SL.rowIn 25 [1, 15] [15] w.heap.size 69 4 (bs.length + 2) (bcs bs ++ bcs [⟨a, b, n, 0⟩, ⟨b, a, -n, 0⟩]) (fun u => .agg #[.int .i64 p, u]),
  SL.boxAtIn 8 [16, 18] [16, 18] (w.heap.size + 1) 57 w.heap.size 69 4 (bs.length + 2) (bcs bs ++ bcs [⟨a, b, n, 0⟩, ⟨b, a, -n, 0⟩]) (fun u => #[.int .i64 p, u]),
  SL.boxAt 8 [] [] (w.heap.size + 1) 57 #[.int .i64 0, .slice none 0 0]] [17] (by kernel_rfl) (by kernel_rfl) _ (SL.one_held (N := w.heap.size + 1) rfl rfl ?_ ?_) SL.one_apart ?_ ?_
 ·have h8 := heap_alloc_new (w.alloc (Obj.cells #[Value.int IntKind.i64 p, Value.slice ad bs.length cap] 57)) (Obj.cells #[Value.int IntKind.i64 0, Value.slice none 0 0] 57)
  simp only [World.size_alloc] at h8
  exact ⟨rfl, h8, rfl⟩
 ·simp
 ·refine ⟨?_, ?_, ?_, ?_, ?_, ?_, ?_, ?_, ?_, ?_, ?_, ?_, ?_, ?_, ?_, ?_, ?_, ?_, trivial⟩
  all_goals refine SL.ob fun us w' Fe hG hu hd hv K hK => ?_
  all_goals simp [SL.frame, SL.put', SL.Used, SL.Seen, SL.pu, SL.row, SL.box, SL.rowIn, SL.boxIn, SL.boxAt, SL.boxAtIn, Bd.v, Bd.cs] at hu hv hK ⊢
  all_goals (obtain ⟨hg1, hg2⟩ := hG.cellsF; simp only [World.size_alloc] at hg1 hg2)
  all_goals (have hsz := hG.size; simp only [World.size_drew, World.size_alloc] at hsz)
  all_goals try (go_step; refine hK _ _ _ _ (by simp [Act.put, *]; done) (SL.Chg.refl _ _) rfl rfl (by simp))
  ·go_step
   refine (gcopiedB_any _ _ _ _ _ (hb.below ((((Below.refl _ w).alloc (Nat.le_refl _) _).alloc (by simp) _).trans (hG.belowF (B := w.heap.size) (by simp; omega) (by simp)))) (by omega)).mono ?_
   rintro e w2 ⟨v, rfl, ho2, hb2⟩
   exact hK _ v w2 _ (by simp [Act.put, *]) (.of_below hb2) (SL.row_base ho2 (by omega)) rfl (SL.row_bounds ho2)
  ·go_step
   refine hK _ _ _ _ (by simp [Act.put, *]; done) (.alloc _ _ _) (World.ownsRow_lit w' _ 2 (by omega) (by decide) rfl) rfl (by simp [Value.ownBlock])
  ·obtain ⟨⟨u1, u2⟩, u3, u4⟩ := hu
   obtain ⟨sa, c, hsl, _⟩ := owns_slice u3
   refine wp_app elemB _ _ rfl u1 rfl hsl (RowAt.of_owns (hsl ▸ u3)) (bcs_length _) (bcs_one _) (by unfold maxLen; omega) (by omega) (by omega) ?_
   intro v' w2 ho hg hb _ hat
   refine hK _ v' w2 _ rfl ?_ ho rfl ?_
   ·exact .of_own hg (by rw [u2]; simp)
   ·rw [u2]; exact SL.app_bounds u1 ho hat
  ·obtain ⟨⟨u1, _⟩, u2, u3⟩ := hu
   obtain ⟨sa, c, hsl, _⟩ := owns_slice u2
   go_step
   refine hK _ _ _ _ (by simp [Act.put, *]; done) (.refl _ _) _ rfl (hsl ▸ u2) rfl ?_
   rw [u3]; simp [hsl]; exact fun k h => .inl h
  ·obtain ⟨⟨u, hu1, u2, u3⟩, hu4, u4, u5⟩ := hu
   obtain ⟨sa, c, hsl, _⟩ := owns_slice u2
   subst hsl
   have c0 := (SL.cells_of u4).1 0
   have c1 := (SL.cells_of u4).1 1
   have f0 := (SL.cells_of u4).2
   simp at c0 c1
   have hne : w.heap.size + 1 ∉ (Value.slice sa (bs.length + 2) c).ownBlock.toList := by
    have := hd 18 16 (by simp [SL.boxAtIn]) (by simp [SL.boxAtIn]) (by simp) (w.heap.size + 1) (by rw [u5]; simp)
    rwa [u3] at this
   go_step
   refine hK _ undef _ _ (by simp [Act.put, *]; done) (.trans (.setCell _ (by simp [u5]) _) (.setCell _ (by simp [u5]) _)) hu4 _ (SL.heap_set (SL.heap_set u4 _) _) (SL.row_set (SL.row_set u2 hne _) hne _) rfl ?_
   rw [u5, u3]; simp; exact fun k h => .inl (.inl h)
 ·intro us w' Fs hG hu hbd hd
  simp [SL.frame, SL.put', SL.Used, SL.Seen, SL.pu, SL.row, SL.box, SL.rowIn, SL.boxIn, SL.boxAt, SL.boxAtIn, Bd.v, Bd.cs] at hu ⊢
  obtain ⟨u8, y, hh, ho, hF⟩ := hu
  obtain ⟨sa, c, hsl, _⟩ := owns_slice ho
  subst hsl
  have c0 := (SL.cells_of hh).1 0
  have c1 := (SL.cells_of hh).1 1
  simp at c0 c1
  simp only [u8]
  go_wp2
  refine bodyPost_ret (v := .agg #[.int .i64 p, .slice sa (bs.length + 2) c]) (by simp [results, Tryz.results117, go_sem, *]) rfl ⟨_, rfl, by rw [bcs_append]; exact ho, (((Below.refl _ w).alloc (Nat.le_refl _) _).alloc (by simp) _).trans (hG.belowF (B := w.heap.size) (by simp; omega) (by simp))⟩
end Go.Proofs.YtelkcohhagblaaaGreat
namespace Go.Proofs.YtelkcohhagblaaaGreat
open Go.RowKit Go.Shelf
set_option maxHeartbeats 1000000
set_option maxRecDepth 100000
theorem solR_len {p : Int} (bs : List Bd) (h : 1 ≤ p ∧ p ≤ 60) : (solR p bs).length = p.toNat := by
 simp [solR, (gsol_len p bs).1]; omega

end Go.Proofs.YtelkcohhagblaaaGreat
namespace Go.Proofs.YtelkcohhagblaaaGreat
open Go.RowKit Go.Shelf
set_option maxHeartbeats 1000000
set_option maxRecDepth 100000
def attE (p : Int) (bs : List Bd) (x y n : Int) : Int := if chk p bs = 0 then (if both p x y then (if nearB n then (if okB p bs then 0 else 10) else 1) else 1) else chk p bs

/-- What Attain$1 ends in. -/
def attEnd (p : Int) (bs : List Bd) (x y n : Int) (OB FB : Nat) (w1 : World) (e : Ending) (w' : World) : Prop :=
 ((both p x y && nearB n) = false → e = .panicked gaveUp ∧ Below w1.heap.size w1 w') ∧ ((both p x y && nearB n) = true → okB p bs = false → e = .returned (.int .i64 10) ∧ Below w1.heap.size w1 w') ∧
 ((both p x y && nearB n) = true → okB p bs = true → e = .returned (.int .i64 0) ∧ SL.Chg [OB, FB] w1 w' ∧ ∃ v, w'.heap[OB]? = some (.cells #[v] 61 (0, 0)) ∧ w'.heap[FB]? = some (.cells #[.bool (attF p bs x y n)] 4 (0, 0)) ∧
   (attF p bs x y n = false → v = .slice none 0 0) ∧ (attF p bs x y n = true → w'.ownsRow w1.heap.size 3 1 v p.toNat ((solR p (attT bs x y n)).map (.int .i64))))

theorem gAttain1_any (p : Int) (a : Option Addr) (len cap : Nat) (bs : List Bd) (x y n : Int) (SB BA BB NB OB FB : Nat) (w1 : World) (hs : Sys p bs) (h4 : bs.length ≤ 400) (hb : BdsAt w1 a len cap bs)
 (c0 : w1.cell? ⟨SB, 0, none⟩ = some (.int .i64 p)) (c1 : w1.cell? ⟨SB, 1, none⟩ = some (.slice a len cap)) (ca : w1.cell? ⟨BA, 0, none⟩ = some (.int .i64 x)) (cb : w1.cell? ⟨BB, 0, none⟩ = some (.int .i64 y)) (cn : w1.cell? ⟨NB, 0, none⟩ = some (.int .i64 n))
 (hO : w1.heap[OB]? = some (.cells #[.slice none 0 0] 61 (0, 0))) (hF : w1.heap[FB]? = some (.cells #[.bool false] 4 (0, 0))) (hne : OB ≠ FB) :
 Calls Tryz.prog 112 #[.pointer (some ⟨SB, 0, none⟩), .pointer (some ⟨BA, 0, none⟩), .pointer (some ⟨BB, 0, none⟩), .pointer (some ⟨NB, 0, none⟩), .pointer (some ⟨OB, 0, none⟩), .pointer (some ⟨FB, 0, none⟩)] w1 (attEnd p bs x y n OB FB w1) := by
 have z0 := World.block_lt_of_cell? w1 _ c0
 have z1 := World.block_lt_of_cell? w1 _ ca
 have z2 := World.block_lt_of_cell? w1 _ cb
 have z3 := World.block_lt_of_cell? w1 _ cn
 have z4 := (Array.getElem?_eq_some_iff.1 hO).1
 have z5 := (Array.getElem?_eq_some_iff.1 hF).1
 simp only at z0 z1 z2 z3
 have hp := hs.p1
 have hp2 := hs.p2
 have hpts := fun (w : World) (al : Option Addr) (m c : Nat) (h : IntsAt w al m c [x, y]) => gpoints_any p a len cap al m c [x, y] w h ⟨hp, hp2⟩
 have hso := fun (w : World) (h : BdsAt w a len cap bs) => gsolvable_any p a len cap bs w h hs
 have hnew : IntsAt (w1.alloc (Obj.cells #[.int .i64 x, .int .i64 y] 3)) (some ⟨w1.heap.size, 0, none⟩) 2 2 [x, y] :=
  ⟨rfl, by simp, RowAt.of_heap (World.alloc_heap_new w1 _)⟩
 have hbn := hb.below (w' := w1.alloc (Obj.cells #[.int .i64 x, .int .i64 y] 3)) ((Below.refl _ _).alloc (Nat.le_refl _) _)
 change ∀ (w : World) (al : Option Addr) (m c : Nat) (_ : IntsAt w al m c [x, y]), Calls Tryz.prog 113 #[.agg #[.int .i64 p, .slice a len cap], .slice al m c] w fun e w' => e = (if both p x y then .returned (.tuple #[]) else .panicked gaveUp) ∧ Below w.heap.size w w' at hpts
 have hT := fun h1 h2 => hs.tied h4 (x := x) (y := y) (n := n) h1 h2
 have hnear := @withinB_iff n (-100000000) 100000000
 change (nearB n = true ↔ _) at hnear
 unfold attEnd
 have hw := fun w => gwithin_any n (-100000000) 100000000 w
 change ∀ w, Calls Tryz.prog 115 #[.int .i64 n, .int .i64 (-100000000), .int .i64 100000000] w fun e w' => e = .returned (.bool (nearB n)) ∧ w = w' at hw
 cases o1 : both p x y with
 | false =>
   simp only [o1] at hpts ⊢
   go_enter Tryz.func112, Tryz.ntmps112
   go_wp2_with (go_at_call 113; refine (hpts _ _ _ _ hnew).mono ?_; rintro e w2 ⟨rfl, hb2⟩)
   exact ⟨rfl, fun _ => ⟨rfl, ((Below.refl _ w1).alloc (Nat.le_refl _) _).trans (hb2.mono (by simp))⟩, (fun h => by cases h), (fun h => by cases h)⟩
 | true =>
   simp only [o1] at hpts ⊢
   cases o2 : nearB n with
   | false =>
     simp only [o2] at hw ⊢
     go_enter Tryz.func112, Tryz.ntmps112
     go_wp2_with (first
      | (go_at_call 113; refine (hpts _ _ _ _ hnew).mono ?_; rintro e w2 ⟨rfl, hb2⟩; obtain ⟨hc2, hf2⟩ := bcell hb2; have hz2a := lt_size hb2 (b := SB) (by first | assumption | omega | (simp; done) | (simp; omega)); have hz2b := lt_size hb2 (b := BA) (by first | assumption | omega | (simp; done) | (simp; omega)); have hz2c := lt_size hb2 (b := BB) (by first | assumption | omega | (simp; done) | (simp; omega)); have hz2d := lt_size hb2 (b := NB) (by first | assumption | omega | (simp; done) | (simp; omega)))
      | (go_at_call 115; refine (hw _).mono ?_; rintro e w3 ⟨rfl, rfl⟩)
      | (go_at_call 114; refine (gneed_no _).mono ?_; rintro e w3 ⟨rfl, rfl⟩))
     exact ⟨rfl, fun _ => ⟨rfl, ((Below.refl _ w1).alloc (Nat.le_refl _) _).trans (hb2.mono (by simp))⟩, (fun h => by cases h), (fun h => by cases h)⟩
   | true =>
     simp only [o2] at hw ⊢
     cases o3 : okB p bs with
     | false =>
       simp only [o3] at hso ⊢
       go_enter Tryz.func112, Tryz.ntmps112
       go_wp2_with (first
        | (go_at_call 113; refine (hpts _ _ _ _ hnew).mono ?_; rintro e w2 ⟨rfl, hb2⟩; obtain ⟨hc2, hf2⟩ := bcell hb2; have hz2a := lt_size hb2 (b := SB) (by first | assumption | omega | (simp; done) | (simp; omega)); have hz2b := lt_size hb2 (b := BA) (by first | assumption | omega | (simp; done) | (simp; omega)); have hz2c := lt_size hb2 (b := BB) (by first | assumption | omega | (simp; done) | (simp; omega)); have hz2d := lt_size hb2 (b := NB) (by first | assumption | omega | (simp; done) | (simp; omega)))
        | (go_at_call 115; refine (hw _).mono ?_; rintro e w3 ⟨rfl, rfl⟩)
        | (go_at_call 114; refine (gneed_yes _).mono ?_; rintro e w3 ⟨rfl, rfl⟩)
        | (go_at_call 116; refine (hso _ (hbn.below hb2)).mono ?_; rintro e w3 ⟨rfl, hb3⟩))
       have hz2 := hb2.size
       simp only [World.size_alloc] at hz2
       go_ret
       exact ⟨(fun h => by cases h), fun _ _ => ⟨rfl, (((Below.refl _ w1).alloc (Nat.le_refl _) _).trans (hb2.mono (by simp))).trans (hb3.mono (by omega))⟩, (fun _ h => by cases h)⟩
     | true =>
       simp only [o3] at hso ⊢
       have hpts' := Lib.hid hpts
       have hso' := Lib.hid hso
       clear hpts hso
       have hend : ∀ (v : Value) (f : Bool) (w5 : World), Below w1.heap.size w1 w5 → attF p bs x y n = f → (f = false → v = .slice none 0 0) → (f = true → w5.ownsRow w1.heap.size 3 1 v p.toNat ((solR p (attT bs x y n)).map (.int .i64))) →
        SL.Chg [OB, FB] w1 ((w5.setCell ⟨OB, 0, none⟩ v).setCell ⟨FB, 0, none⟩ (.bool f)) ∧ ∃ v', ((w5.setCell ⟨OB, 0, none⟩ v).setCell ⟨FB, 0, none⟩ (.bool f)).heap[OB]? = some (.cells #[v'] 61 (0, 0)) ∧
        ((w5.setCell ⟨OB, 0, none⟩ v).setCell ⟨FB, 0, none⟩ (.bool f)).heap[FB]? = some (.cells #[.bool (attF p bs x y n)] 4 (0, 0)) ∧ (attF p bs x y n = false → v' = .slice none 0 0) ∧
        (attF p bs x y n = true → ((w5.setCell ⟨OB, 0, none⟩ v).setCell ⟨FB, 0, none⟩ (.bool f)).ownsRow w1.heap.size 3 1 v' p.toNat ((solR p (attT bs x y n)).map (.int .i64))) := fun v f w5 hB5 hf h1 h2 => by
        subst hf
        have gO := (hB5.block OB z4).trans hO
        have gF := (hB5.block FB z5).trans hF
        refine ⟨(SL.Chg.of_below hB5).trans ((SL.Chg.setCell _ (by simp) _).trans (.setCell _ (by simp) _)), v, ?_, ?_, h1, fun h => ?_⟩
        ·rw [Below.heap_setCell _ _ _ _ (by simpa using hne)]; exact SL.heap_set gO _
        ·exact SL.heap_set ((Below.heap_setCell _ _ _ _ (by simpa using hne.symm)).trans gF) _
        ·exact SL.row_set (SL.row_set (h2 h) (fun h => by have := (SL.row_bounds (h2 ‹_›) _ h).1; simp at this; omega) _) (fun h => by have := (SL.row_bounds (h2 ‹_›) _ h).1; simp at this; omega) _
       have Hend := Lib.hid hend
       clear hend
       by_cases exy : x = y
       ·subst exy
        have exx : (x == x) = true := by simp
        by_cases en : n = 0
        ·subst en
         have hT0 : attT bs x x 0 = bs := by simp [attT]
         have hF0 : attF p bs x x 0 = true := by simp [attF, hT0, o3]
         have hsol := fun w (h : BdsAt w a len cap bs) => gsolved_any p a len cap bs w h hs
         simp only [o3] at hsol
         have HF0 := Lib.hid hF0
         have HT0 := Lib.hid hT0
         have Hsol := Lib.hid hsol
         clear hT0 hF0 hsol
         go_enter Tryz.func112, Tryz.ntmps112
         go_wp2_with (first
          | (go_at_call 113; refine (hpts'.out _ _ _ _ hnew).mono ?_; rintro e w2 ⟨rfl, hb2⟩; obtain ⟨hc2, hf2⟩ := bcell hb2; have hz2a := lt_size hb2 (b := SB) (by first | assumption | omega | (simp; done) | (simp; omega)); have hz2b := lt_size hb2 (b := BA) (by first | assumption | omega | (simp; done) | (simp; omega)); have hz2c := lt_size hb2 (b := BB) (by first | assumption | omega | (simp; done) | (simp; omega)); have hz2d := lt_size hb2 (b := NB) (by first | assumption | omega | (simp; done) | (simp; omega)))
          | (go_at_call 115; refine (hw _).mono ?_; rintro e w3 ⟨rfl, rfl⟩)
          | (go_at_call 114; refine (gneed_yes _).mono ?_; rintro e w3 ⟨rfl, rfl⟩)
          | (go_at_call 116; refine (hso'.out _ (hbn.below hb2)).mono ?_; rintro e w3 ⟨rfl, hb3⟩; obtain ⟨hc3, hf3⟩ := bcell hb3; have hz3a := lt_size hb3 (b := SB) (by first | assumption | omega | (simp; done) | (simp; omega)); have hz3b := lt_size hb3 (b := BA) (by first | assumption | omega | (simp; done) | (simp; omega)); have hz3c := lt_size hb3 (b := BB) (by first | assumption | omega | (simp; done) | (simp; omega)); have hz3d := lt_size hb3 (b := NB) (by first | assumption | omega | (simp; done) | (simp; omega)))
          | (go_at_call 118; refine (Hsol.out _ (((hbn.below hb2).below hb3).below ((Below.refl _ _).alloc (Nat.le_refl _) _))).mono ?_; rintro e w5 ⟨v, rfl, hb5, _, ho⟩
             have hz2 := hb2.size
             simp only [World.size_alloc] at hz2
             have hz3 := hb3.size
             have hB5 : Below w1.heap.size w1 w5 := (((((Below.refl _ w1).alloc (Nat.le_refl _) _).trans (hb2.mono (by simp))).trans (hb3.mono (by omega))).alloc (by omega) _).trans (hb5.mono (by simp; omega))
             obtain ⟨sa, sc, rfl, _⟩ := owns_slice (ho trivial)
             have gO := (hB5.block OB z4).trans hO
             have gF := (hB5.block FB z5).trans hF
             have f1 := (SL.cells_of gO).2
             have f2 := (SL.cells_of gF).2
             have y1 := (SL.cells_of gO).1 0
             have y2 := (SL.cells_of gF).1 0
             simp at y1 y2
             clear hc2 hc3 hf2 hf3 gO gF))
         go_ret
         refine ⟨(fun h => by cases h), (fun _ h => by cases h), fun _ _ => ⟨rfl, Hend.out _ _ _ hB5 HF0.out (fun h => by cases h) (fun _ => ?_)⟩⟩
         rw [HT0.out]
         exact SL.row_base (ho trivial) (by simp; omega)
        ·have en' : (n != 0) = true := by simpa using en
         go_enter Tryz.func112, Tryz.ntmps112
         go_wp2_with (first
          | (go_at_call 113; refine (hpts'.out _ _ _ _ hnew).mono ?_; rintro e w2 ⟨rfl, hb2⟩; obtain ⟨hc2, hf2⟩ := bcell hb2; have hz2a := lt_size hb2 (b := SB) (by first | assumption | omega | (simp; done) | (simp; omega)); have hz2b := lt_size hb2 (b := BA) (by first | assumption | omega | (simp; done) | (simp; omega)); have hz2c := lt_size hb2 (b := BB) (by first | assumption | omega | (simp; done) | (simp; omega)); have hz2d := lt_size hb2 (b := NB) (by first | assumption | omega | (simp; done) | (simp; omega)))
          | (go_at_call 115; refine (hw _).mono ?_; rintro e w3 ⟨rfl, rfl⟩)
          | (go_at_call 114; refine (gneed_yes _).mono ?_; rintro e w3 ⟨rfl, rfl⟩)
          | (go_at_call 116; refine (hso'.out _ (hbn.below hb2)).mono ?_; rintro e w3 ⟨rfl, hb3⟩; obtain ⟨hc3, hf3⟩ := bcell hb3; have hz3a := lt_size hb3 (b := SB) (by first | assumption | omega | (simp; done) | (simp; omega)); have hz3b := lt_size hb3 (b := BA) (by first | assumption | omega | (simp; done) | (simp; omega)); have hz3c := lt_size hb3 (b := BB) (by first | assumption | omega | (simp; done) | (simp; omega)); have hz3d := lt_size hb3 (b := NB) (by first | assumption | omega | (simp; done) | (simp; omega))))
         have hz2 := hb2.size
         simp only [World.size_alloc] at hz2
         have hB3 : Below w1.heap.size w1 w3 := ((((Below.refl _ w1).alloc (Nat.le_refl _) _).trans (hb2.mono (by simp))).trans (hb3.mono (by omega)))
         have hF0 : attF p bs x x n = false := by simp [attF, en]
         go_ret
         refine ⟨(fun h => by cases h), (fun _ h => by cases h), fun _ _ => ⟨rfl, .of_below hB3, _, (hB3.block OB z4).trans hO, ?_, fun _ => rfl, fun h => ?_⟩⟩
         ·rw [hF0]; exact (hB3.block FB z5).trans hF
         ·rw [hF0] at h; cases h
       ·have exy1 : (x == y) = false := by simpa using exy
        have exy2 : (x != y) = true := by simpa using exy
        have hT0 : attT bs x y n = bs ++ [⟨x, y, n, 0⟩, ⟨y, x, -n, 0⟩] := by simp [attT, exy]
        have hF0 : attF p bs x y n = okB p (attT bs x y n) := by simp [attF, exy]
        have hst := hT o1 o2
        rw [← hT0] at hst
        have htie := fun w (h : BdsAt w a len cap bs) => gtied_any p x y n a len cap bs w h h4 (hnear.1 o2)
        rw [← hT0] at htie
        have htl : (attT bs x y n).length = bs.length + 2 := by rw [hT0]; simp
        have hsol := fun w a c (h : BdsAt w a (bs.length + 2) c (attT bs x y n)) => gsolved_any p a _ c _ w h hst
        have HF0 := Lib.hid hF0
        have Htie := Lib.hid htie
        clear hF0 htie hT0
        cases o4 : okB p (attT bs x y n) with
        | true =>
          simp only [o4] at hsol HF0
          have Hsol := Lib.hid hsol
          clear hsol
          go_enter Tryz.func112, Tryz.ntmps112
          go_wp2_with (first
           | (go_at_call 113; refine (hpts'.out _ _ _ _ hnew).mono ?_; rintro e w2 ⟨rfl, hb2⟩; obtain ⟨hc2, hf2⟩ := bcell hb2; have hz2a := lt_size hb2 (b := SB) (by first | assumption | omega | (simp; done) | (simp; omega)); have hz2b := lt_size hb2 (b := BA) (by first | assumption | omega | (simp; done) | (simp; omega)); have hz2c := lt_size hb2 (b := BB) (by first | assumption | omega | (simp; done) | (simp; omega)); have hz2d := lt_size hb2 (b := NB) (by first | assumption | omega | (simp; done) | (simp; omega)))
           | (go_at_call 115; refine (hw _).mono ?_; rintro e w3 ⟨rfl, rfl⟩)
           | (go_at_call 114; refine (gneed_yes _).mono ?_; rintro e w3 ⟨rfl, rfl⟩)
           | (go_at_call 116; refine (hso'.out _ (hbn.below hb2)).mono ?_; rintro e w3 ⟨rfl, hb3⟩; obtain ⟨hc3, hf3⟩ := bcell hb3; have hz3a := lt_size hb3 (b := SB) (by first | assumption | omega | (simp; done) | (simp; omega)); have hz3b := lt_size hb3 (b := BA) (by first | assumption | omega | (simp; done) | (simp; omega)); have hz3c := lt_size hb3 (b := BB) (by first | assumption | omega | (simp; done) | (simp; omega)); have hz3d := lt_size hb3 (b := NB) (by first | assumption | omega | (simp; done) | (simp; omega)))
           | (go_at_call 117; refine (Htie.out _ (((hbn.below hb2).below hb3).below ((Below.refl _ _).alloc (Nat.le_refl _) _))).mono ?_; rintro e w4 ⟨v4, rfl, ho4, hb4⟩
              obtain ⟨sa4, sc4, rfl, hsa4⟩ := owns_slice ho4
              have hbt := BdsAt.of_owns ho4 (by omega)
              have hz2 := hb2.size
              simp only [World.size_alloc] at hz2
              have hz3 := hb3.size
              have hz4 := hb4.size
              simp only [World.size_alloc] at hz4
              have g8 : w4.heap[w3.heap.size]? = some (.cells #[.int .i64 p, .slice a len cap] 57 (0, 0)) := (hb4.block _ (by simp)).trans (World.alloc_heap_new _ _)
              have f8 := (SL.cells_of g8).2
              have y80 := (SL.cells_of g8).1 0
              have y81 := (SL.cells_of g8).1 1
              simp at y80 y81)
           | (go_at_call 118; refine (Hsol.out _ _ _ (hbt.chg (E := [w3.heap.size]) ((SL.Chg.setCell _ (by simp) _).trans (.setCell _ (by simp) _)) (fun x hx => by have := (hsa4 x hx).1; simp at this ⊢; omega))).mono ?_; rintro e w5 ⟨v, rfl, hb5, hno, ho⟩
              have hB4 : Below w1.heap.size w1 w4 := ((((((Below.refl _ w1).alloc (Nat.le_refl _) _).trans (hb2.mono (by simp))).trans (hb3.mono (by omega))).alloc (by omega) _)).trans (hb4.mono (by simp; omega))
              have hB5 : Below w1.heap.size w1 w5 := ((hB4.setCell (by simp; omega) _).setCell (by simp; omega) _).trans (hb5.mono (by simp; omega))
              obtain ⟨sa, sc, rfl, _⟩ := owns_slice (ho trivial)
              have gO := (hB5.block OB z4).trans hO
              have gF := (hB5.block FB z5).trans hF
              have f1 := (SL.cells_of gO).2
              have f2 := (SL.cells_of gF).2
              have y1 := (SL.cells_of gO).1 0
              have y2 := (SL.cells_of gF).1 0
              simp at y1 y2
              clear hc2 hc3 hf2 hf3 gO gF g8 f8 y80 y81))
          go_ret
          exact ⟨(fun h => by cases h), (fun _ h => by cases h), fun _ _ => ⟨rfl, Hend.out _ _ _ hB5 HF0.out (fun h => by cases h) (fun _ => SL.row_base (ho trivial) (by simp; omega))⟩⟩
        | false =>
          simp only [o4] at hsol HF0
          have Hsol := Lib.hid hsol
          clear hsol
          go_enter Tryz.func112, Tryz.ntmps112
          go_wp2_with (first
           | (go_at_call 113; refine (hpts'.out _ _ _ _ hnew).mono ?_; rintro e w2 ⟨rfl, hb2⟩; obtain ⟨hc2, hf2⟩ := bcell hb2; have hz2a := lt_size hb2 (b := SB) (by first | assumption | omega | (simp; done) | (simp; omega)); have hz2b := lt_size hb2 (b := BA) (by first | assumption | omega | (simp; done) | (simp; omega)); have hz2c := lt_size hb2 (b := BB) (by first | assumption | omega | (simp; done) | (simp; omega)); have hz2d := lt_size hb2 (b := NB) (by first | assumption | omega | (simp; done) | (simp; omega)))
           | (go_at_call 115; refine (hw _).mono ?_; rintro e w3 ⟨rfl, rfl⟩)
           | (go_at_call 114; refine (gneed_yes _).mono ?_; rintro e w3 ⟨rfl, rfl⟩)
           | (go_at_call 116; refine (hso'.out _ (hbn.below hb2)).mono ?_; rintro e w3 ⟨rfl, hb3⟩; obtain ⟨hc3, hf3⟩ := bcell hb3; have hz3a := lt_size hb3 (b := SB) (by first | assumption | omega | (simp; done) | (simp; omega)); have hz3b := lt_size hb3 (b := BA) (by first | assumption | omega | (simp; done) | (simp; omega)); have hz3c := lt_size hb3 (b := BB) (by first | assumption | omega | (simp; done) | (simp; omega)); have hz3d := lt_size hb3 (b := NB) (by first | assumption | omega | (simp; done) | (simp; omega)))
           | (go_at_call 117; refine (Htie.out _ (((hbn.below hb2).below hb3).below ((Below.refl _ _).alloc (Nat.le_refl _) _))).mono ?_; rintro e w4 ⟨v4, rfl, ho4, hb4⟩
              obtain ⟨sa4, sc4, rfl, hsa4⟩ := owns_slice ho4
              have hbt := BdsAt.of_owns ho4 (by omega)
              have hz2 := hb2.size
              simp only [World.size_alloc] at hz2
              have hz3 := hb3.size
              have hz4 := hb4.size
              simp only [World.size_alloc] at hz4
              have g8 : w4.heap[w3.heap.size]? = some (.cells #[.int .i64 p, .slice a len cap] 57 (0, 0)) := (hb4.block _ (by simp)).trans (World.alloc_heap_new _ _)
              have f8 := (SL.cells_of g8).2
              have y80 := (SL.cells_of g8).1 0
              have y81 := (SL.cells_of g8).1 1
              simp at y80 y81)
           | (go_at_call 118; refine (Hsol.out _ _ _ (hbt.chg (E := [w3.heap.size]) ((SL.Chg.setCell _ (by simp) _).trans (.setCell _ (by simp) _)) (fun x hx => by have := (hsa4 x hx).1; simp at this ⊢; omega))).mono ?_; rintro e w5 ⟨v, rfl, hb5, hno, ho⟩
              have hB4 : Below w1.heap.size w1 w4 := ((((((Below.refl _ w1).alloc (Nat.le_refl _) _).trans (hb2.mono (by simp))).trans (hb3.mono (by omega))).alloc (by omega) _)).trans (hb4.mono (by simp; omega))
              have hB5 : Below w1.heap.size w1 w5 := ((hB4.setCell (by simp; omega) _).setCell (by simp; omega) _).trans (hb5.mono (by simp; omega))
              obtain rfl : v = .slice none 0 0 := hno trivial
              have gO := (hB5.block OB z4).trans hO
              have gF := (hB5.block FB z5).trans hF
              have f1 := (SL.cells_of gO).2
              have f2 := (SL.cells_of gF).2
              have y1 := (SL.cells_of gO).1 0
              have y2 := (SL.cells_of gF).1 0
              simp at y1 y2
              clear hc2 hc3 hf2 hf3 gO gF g8 f8 y80 y81))
          go_ret
          exact ⟨(fun h => by cases h), (fun _ h => by cases h), fun _ _ => ⟨rfl, Hend.out _ _ _ hB5 HF0.out (fun _ => rfl) (fun h => by cases h)⟩⟩
end Go.Proofs.YtelkcohhagblaaaGreat
namespace Go.Proofs.YtelkcohhagblaaaGreat
open Go.RowKit Go.Shelf
set_option maxHeartbeats 1000000
set_option maxRecDepth 100000
theorem row_drewN {w : World} {base : Nat} {t : TypeId} {size n : Nat} {v : Value} {xs : List Value} (h : w.ownsRow base t size v n xs) (m : Nat) : (w.drewN m).ownsRow base t size v n xs := SL.row_stab h fun _ _ => rfl

theorem gAttain_any (p : Int) (a : Option Addr) (len cap : Nat) (bs : List Bd) (x y n : Int) (w : World) (hb : BdsAt w a len cap bs) :
 Calls Tryz.prog 52 #[.agg #[.int .i64 p, .slice a len cap], .int .i64 x, .int .i64 y, .int .i64 n] w fun e w' => ∃ v, e = .returned (.tuple #[v, .bool (decide (attE p bs x y n = 0) && attF p bs x y n), .int .i64 (attE p bs x y n)]) ∧ Below w.heap.size w w' ∧
  ((decide (attE p bs x y n = 0) && attF p bs x y n) = false → v = .slice none 0 0) ∧ ((decide (attE p bs x y n = 0) && attF p bs x y n) = true → w'.ownsRow w.heap.size 3 1 v p.toNat ((solR p (attT bs x y n)).map (.int .i64))) := by
 have hmf := makeFunc_run
 generalize hw6 : (((((w.alloc (Obj.cells #[.int .i64 p, .slice a len cap] 57)).alloc (Obj.cells #[.int .i64 x] 3)).alloc (Obj.cells #[.int .i64 y] 3)).alloc (Obj.cells #[.int .i64 n] 3)).alloc (Obj.cells #[.slice none 0 0] 61)).alloc (Obj.cells #[.bool false] 4) = w6
 have hB6 : Below w.heap.size w w6 := by rw [← hw6]; ((repeat (first | assumption | exact Below.refl _ _ | refine Below.alloc ?_ ?_ _ | refine Below.setCell ?_ ?_ _ | refine Below.drew ?_ | refine belowN ?_ | refine Below.up ?_ (by assumption) ?_)) <;> (first | assumption | omega | (simp; done) | (simp; omega)))
 have z6 : w6.heap.size = w.heap.size + 6 := by rw [← hw6]; simp
 have c0 : w6.cell? ⟨w.heap.size, 0, none⟩ = some (.int .i64 p) := by rw [← hw6]; simp [go_sem]
 have c1 : w6.cell? ⟨w.heap.size, 1, none⟩ = some (.slice a len cap) := by rw [← hw6]; simp [go_sem]
 have c2 : w6.cell? ⟨w.heap.size + 1, 0, none⟩ = some (.int .i64 x) := by rw [← hw6]; simp [go_sem]
 have c3 : w6.cell? ⟨w.heap.size + 1 + 1, 0, none⟩ = some (.int .i64 y) := by rw [← hw6]; simp [go_sem]
 have c4 : w6.cell? ⟨w.heap.size + 1 + 1 + 1, 0, none⟩ = some (.int .i64 n) := by rw [← hw6]; simp [go_sem]
 have h5 : w6.heap[w.heap.size + 4]? = some (.cells #[.slice none 0 0] 61 (0, 0)) := by
  rw [← hw6, Below.heap_alloc _ _ _ (by simp)]
  have h := World.alloc_heap_new ((((w.alloc (Obj.cells #[.int .i64 p, .slice a len cap] 57)).alloc (Obj.cells #[.int .i64 x] 3)).alloc (Obj.cells #[.int .i64 y] 3)).alloc (Obj.cells #[.int .i64 n] 3)) (Obj.cells #[.slice none 0 0] 61)
  simp only [World.size_alloc] at h
  exact h
 have h6 : w6.heap[w.heap.size + 5]? = some (.cells #[.bool false] 4 (0, 0)) := by
  rw [← hw6]
  have h := World.alloc_heap_new (((((w.alloc (Obj.cells #[.int .i64 p, .slice a len cap] 57)).alloc (Obj.cells #[.int .i64 x] 3)).alloc (Obj.cells #[.int .i64 y] 3)).alloc (Obj.cells #[.int .i64 n] 3)).alloc (Obj.cells #[.slice none 0 0] 61)) (Obj.cells #[.bool false] 4)
  simp only [World.size_alloc] at h
  exact h
 have hA := gtried_any p a len cap bs 112 #[.pointer (some ⟨w.heap.size, 0, none⟩), .pointer (some ⟨w.heap.size + 1, 0, none⟩), .pointer (some ⟨w.heap.size + 1 + 1, 0, none⟩), .pointer (some ⟨w.heap.size + 1 + 1 + 1, 0, none⟩), .pointer (some ⟨w.heap.size + 1 + 1 + 1 + 1, 0, none⟩), .pointer (some ⟨w.heap.size + 1 + 1 + 1 + 1 + 1, 0, none⟩)] w6 (hb.below hB6)
  [w.heap.size + 4, w.heap.size + 5] (by simp; omega)
  (fun c w' => c = attE p bs x y n ∧ (c = 0 → attOut p bs x y n (w.heap.size + 4) (w.heap.size + 5) (w6.heap.size + 2) w') ∧ (c ≠ 0 → Below w6.heap.size w6 w')) (fun w' => attE p bs x y n = 1 ∧ Below w6.heap.size w6 w')
  (fun c w1 w2 h hc => ⟨h.1, fun h0 => (h.2.1 h0).chg hc (by simp <;> omega) (by simp <;> omega) (by simp), fun h0 => (h.2.2 h0).trans (hc.belowE (h.2.2 h0).size (by simp <;> omega))⟩)
  (fun w1 w2 h hc => ⟨h.1, h.2.trans (hc.belowE h.2.size (by simp <;> omega))⟩) (enters_of Tryz.func112 (by kernel_rfl) rfl)
  (fun h0 w1 hb1 hz1 => by
   have hc := (bcell hb1).1
   have hB1 : Below w.heap.size w w1 := hB6.trans (hb1.mono (by omega))
   refine (gAttain1_any p a len cap bs x y n _ _ _ _ _ _ w1 (Sys.of_chk h0) (by unfold chk at h0; split at h0 <;> omega) (hb.below hB1) ((hc _ _ (by omega)).trans c0) ((hc _ _ (by omega)).trans c1) ((hc _ _ (by omega)).trans c2) ((hc _ _ (by omega)).trans c3) ((hc _ _ (by omega)).trans c4) ((hb1.block _ (by omega)).trans h5) ((hb1.block _ (by omega)).trans h6) (by omega)).mono ?_
   rintro e w' ⟨e1, e2, e3⟩
   cases q1 : (both p x y && nearB n) with
   | false =>
     obtain ⟨r1, r2⟩ := e1 q1
     have hB : Below w6.heap.size w6 w' := hb1.trans (r2.mono hb1.size)
     refine ⟨.of_below r2, .inr ⟨r1, ?_, hB⟩⟩
     cases k1 : both p x y <;> cases k2 : nearB n <;> simp_all [attE]
   | true =>
     have q2 : both p x y = true ∧ nearB n = true := by simpa using q1
     cases q3 : okB p bs with
     | false =>
       obtain ⟨r1, r2⟩ := e2 q1 q3
       have hB : Below w6.heap.size w6 w' := hb1.trans (r2.mono hb1.size)
       exact ⟨.of_below r2, .inl ⟨10, r1, by simp [attE, h0, q2, q3], (fun h => by cases h), fun _ => hB⟩⟩
     | true =>
       obtain ⟨r1, r2, v, r3, r4, r5, r6⟩ := e3 q1 q3
       exact ⟨r2, .inl ⟨0, r1, by simp [attE, h0, q2, q3], fun _ => ⟨v, r3, r4, r5, fun h => SL.row_base (r6 h) hz1⟩, fun h => absurd rfl h⟩⟩)
 have hcell : ∀ (c : Int) (w5 : World), SL.Chg [w.heap.size + 4, w.heap.size + 5] w6 w5 → (chk p bs ≠ 0 → c = chk p bs ∧ Below w6.heap.size w6 w5) → (chk p bs = 0 → (c = attE p bs x y n ∧ (c = 0 → attOut p bs x y n (w.heap.size + 4) (w.heap.size + 5) (w6.heap.size + 2) w5) ∧ (c ≠ 0 → Below w6.heap.size w6 w5)) ∨ (c = 1 ∧ attE p bs x y n = 1 ∧ Below w6.heap.size w6 w5)) →
  c = attE p bs x y n ∧ Below w.heap.size w w5 ∧ ∃ v, w5.cell? ⟨w.heap.size + 4, 0, none⟩ = some v ∧ w5.cell? ⟨w.heap.size + 5, 0, none⟩ = some (.bool (decide (attE p bs x y n = 0) && attF p bs x y n)) ∧ ((decide (attE p bs x y n = 0) && attF p bs x y n) = false → v = .slice none 0 0) ∧ ((decide (attE p bs x y n = 0) && attF p bs x y n) = true → w5.ownsRow w.heap.size 3 1 v p.toNat ((solR p (attT bs x y n)).map (.int .i64))) := fun c w5 hC h1 h2 => by
  have hno : attE p bs x y n ≠ 0 → Below w6.heap.size w6 w5 → Below w.heap.size w w5 ∧ ∃ v, w5.cell? ⟨w.heap.size + 4, 0, none⟩ = some v ∧ w5.cell? ⟨w.heap.size + 5, 0, none⟩ = some (.bool (decide (attE p bs x y n = 0) && attF p bs x y n)) ∧ ((decide (attE p bs x y n = 0) && attF p bs x y n) = false → v = .slice none 0 0) ∧ ((decide (attE p bs x y n = 0) && attF p bs x y n) = true → w5.ownsRow w.heap.size 3 1 v p.toNat ((solR p (attT bs x y n)).map (.int .i64))) := fun h0 hb => by
   have g5 := (SL.cells_of ((hb.block _ (by omega)).trans h5)).1 0
   have g6 := (SL.cells_of ((hb.block _ (by omega)).trans h6)).1 0
   simp at g5 g6
   exact ⟨hB6.trans (hb.mono (by omega)), _, g5, by simp [h0, g6], fun _ => rfl, fun h => by simp [h0] at h⟩
  by_cases h0 : chk p bs = 0
  ·rcases h2 h0 with ⟨rfl, k1, k2⟩ | ⟨rfl, k1, k2⟩
   ·by_cases h3 : attE p bs x y n = 0
    ·obtain ⟨v, r1, r2, r3, r4⟩ := k1 h3
     have g5 := (SL.cells_of r1).1 0
     have g6 := (SL.cells_of r2).1 0
     simp at g5 g6
     exact ⟨rfl, hB6.trans (hC.belowE (by omega) (by simp)), v, g5, by simp [h3, g6], fun h => r3 (by simpa [h3] using h), fun h => SL.row_base (r4 (by simpa [h3] using h)) (by omega)⟩
    ·exact ⟨rfl, hno h3 (k2 h3)⟩
   ·exact ⟨k1.symm, hno (by omega) k2⟩
  ·obtain ⟨rfl, k2⟩ := h1 h0
   have h3 : attE p bs x y n = chk p bs := by simp [attE, h0]
   exact ⟨h3.symm, hno (by omega) k2⟩
 subst hw6
 generalize hf : (decide (attE p bs x y n = 0) && attF p bs x y n) = f at *
 generalize attE p bs x y n = c at *
 go_enter Tryz.func52, Tryz.ntmps52
 go_wp2_with fail
 refine hA.mono ?_
 rintro e w5 ⟨c', rfl, hC, h1, h2⟩
 obtain ⟨rfl, hB5, v, hv, hfc, r1, r2⟩ := hcell c' w5 hC h1 h2
 clear hA hcell h1 h2 hC
 go_wp2_with fail
 go_quiet (fail)
 go_wp2
 refine bodyPost_ret (v := .tuple #[v, .bool f, .int .i64 c']) (by simp [results, Tryz.results52, go_sem, *]) rfl ⟨v, rfl, belowN hB5, r1, fun h => row_drewN (r2 h) _⟩
end Go.Proofs.YtelkcohhagblaaaGreat
namespace Go.Proofs.YtelkcohhagblaaaGreat
theorem mem_pts {p j : Int} (h0 : 0 ≤ j) (h1 : j < p) : j ∈ (List.range p.toNat).map fun (i : Nat) => (i : Int) := List.mem_map.2 ⟨j.toNat, by simp; omega, by simp; omega⟩

theorem askE_eq {p : Int} {bs : List Bd} {x y : Int} (h : chk p bs = 0) (hxy : both p x y = true) (hok : okB p bs = true) : askE p bs x y = 0 := by simp [askE, h, hxy, hok]
end Go.Proofs.YtelkcohhagblaaaGreat
namespace Go.Proofs.YtelkcohhagblaaaGreat
theorem countP_lt {α : Type} {P Q : α → Bool} : ∀ {l : List α}, (∀ x ∈ l, P x = true → Q x = true) → ∀ {a : α}, a ∈ l → Q a = true → P a = false → l.countP P + 1 ≤ l.countP Q
 | [], _, a, ha, _, _ => by simp at ha
 | x :: l, h, a, ha, hq, hp => by
   have hl : ∀ x ∈ l, P x = true → Q x = true := fun y hy => h y (List.mem_cons_of_mem _ hy)
   rw [List.countP_cons, List.countP_cons]
   rcases List.mem_cons.1 ha with rfl | ha
   ·have := List.countP_mono_left (p := P) (q := Q) (l := l) hl
    rw [if_pos hq, if_neg (by rw [hp]; simp)]
    omega
   ·have h1 := countP_lt hl ha hq hp
    by_cases hx : P x = true
    ·rw [if_pos hx, if_pos (h x (List.mem_cons_self) hx)]
     omega
    ·rw [if_neg hx]
     split <;> omega

theorem sol_le {p : Int} {bs : List Bd} (hs : Sys p bs) {j : Int} (j0 : 0 ≤ j) (j1 : j < 60) : gi (gsol p bs).1.r j ≤ 0 := by
 have := settle_le hs.inr (p + 1).toNat ⟨List.replicate 60 0, List.replicate 60 (-1), 0⟩ (by simp) j j0 j1
 simp only at this
 rw [gi_zeros] at this
 exact this

/-- No solution that is at most 0 is greater anywhere. -/
theorem sol_max {p : Int} {bs : List Bd} (hs : Sys p bs) {y : Int → Int} (hy : keepsB bs y) (h0 : ∀ j : Int, 0 ≤ j → j < 60 → y j ≤ 0) {j : Int} (j0 : 0 ≤ j) (j1 : j < 60) : y j ≤ gi (gsol p bs).1.r j := by
 have := settle_above (c := 0) hs.inr hy (p + 1).toNat ⟨List.replicate 60 0, List.replicate 60 (-1), 0⟩ (by simp) (fun i i0 i1 _ => by
  try simp only
  rw [gi_zeros]
  have := h0 i i0 i1
  omega) j j0 j1 (by
   have := sol_le hs j0 j1
   show gi (gsol p bs).1.r j < FAR
   unfold FAR
   omega)
 have h2 : y j + 0 ≤ gi (gsol p bs).1.r j := this
 omega

/-- There is no gap of more than a million between the sums. -/
theorem sol_gap {p : Int} {bs : List Bd} (h : chk p bs = 0) (hok : okB p bs = true) {t : Int} (ht : t ≤ 1000000) (hno : ∀ j : Int, 0 ≤ j → j < p → ¬ (t - 1000000 ≤ gi (gsol p bs).1.r j ∧ gi (gsol p bs).1.r j < t)) {j : Int} (j0 : 0 ≤ j) (j1 : j < p) : ¬ gi (gsol p bs).1.r j < t := by
 intro hj
 have hs := Sys.of_chk h
 have hp := hs.p2
 have hk := okB_keeps hs hok
 have hm := chk_mil h
 have hpt := Pts.of_chk h
 have key := sol_max (y := fun i => if 0 ≤ i ∧ i < p ∧ gi (gsol p bs).1.r i < t - 1000000 then gi (gsol p bs).1.r i + 1 else gi (gsol p bs).1.r i) hs (fun b hb => by
  have k1 := hk b hb
  have k2 := hm b hb
  obtain ⟨q0, q1, q2, q3⟩ := hpt b hb
  have n1 := hno _ q0 q1
  have n2 := hno _ q2 q3
  try simp only
  split <;> split <;> omega) (fun i i0 i1 => by
  have := sol_le (bs := bs) hs i0 i1
  try simp only
  split <;> omega) j0 (by omega)
 have n := hno j j0 j1
 try simp only at key
 rw [if_pos ⟨j0, j1, by omega⟩] at key
 omega

theorem sol_low {p : Int} {bs : List Bd} (h : chk p bs = 0) (hok : okB p bs = true) {j : Int} (j0 : 0 ≤ j) (j1 : j < p) : -((p - 1) * 1000000) ≤ gi (gsol p bs).1.r j := by
 have key : ∀ k : Nat, (∃ i : Int, 0 ≤ i ∧ i < p ∧ gi (gsol p bs).1.r i < 1000000 - k * 1000000) → k ≤ (List.range p.toNat).countP fun (i : Nat) => decide (1000000 - k * 1000000 ≤ gi (gsol p bs).1.r i) := by
  intro k
  induction k with
  | zero => intro _; omega
  | succ k ih =>
    rintro ⟨i, i0, i1, hi⟩
    have h1 := ih ⟨i, i0, i1, by push_cast at hi; omega⟩
    apply Classical.byContradiction
    intro hc
    refine sol_gap h hok (t := 1000000 - k * 1000000) (by omega) (fun l l0 l1 hl => ?_) i0 i1 (by push_cast at hi; omega)
    have h2 := countP_lt (l := List.range p.toNat) (P := fun (i : Nat) => decide (1000000 - k * 1000000 ≤ gi (gsol p bs).1.r i)) (Q := fun (i : Nat) => decide (1000000 - (k + 1 : Nat) * 1000000 ≤ gi (gsol p bs).1.r i)) (fun x _ hx => by
     simp only [decide_eq_true_eq] at hx ⊢
     push_cast
     omega) (a := l.toNat) (by simp; omega) (by
     simp only [decide_eq_true_eq]
     rw [Int.toNat_of_nonneg l0]
     push_cast
     omega) (by
     simp only [decide_eq_false_iff_not]
     rw [Int.toNat_of_nonneg l0]
     omega)
    omega
 apply Classical.byContradiction
 intro hc
 have hp : ((p.toNat : Nat) : Int) = p := by omega
 have h1 := key p.toNat ⟨j, j0, j1, by rw [hp]; omega⟩
 have h2 := countP_lt (l := List.range p.toNat) (P := fun (i : Nat) => decide (1000000 - (p.toNat : Nat) * 1000000 ≤ gi (gsol p bs).1.r i)) (Q := fun _ => true) (fun _ _ _ => rfl) (a := j.toNat) (by simp; omega) rfl (by
  simp only [decide_eq_false_iff_not]
  rw [Int.toNat_of_nonneg j0, hp]
  omega)
 have h3 : (List.range p.toNat).countP (fun _ => true) = p.toNat := by simp
 omega
end Go.Proofs.YtelkcohhagblaaaGreat
namespace Go.Proofs.YtelkcohhagblaaaGreat
theorem Wk.valid {bs : List Bd} : ∀ {L : List Int} {u v : Int}, Wk bs u L v → ∀ i ∈ L, 0 ≤ i ∧ i < bs.length
 | [], _, _, _, i, hi => by simp at hi
 | k :: L, u, v, h, i, hi => by
   rcases List.mem_cons.1 hi with rfl | hi
   ·exact h.1
   ·exact Wk.valid h.2.2 i hi

theorem tows_pts {bs : List Bd} {p : Int} (hpt : ∀ b ∈ bs, 0 ≤ b.frm ∧ b.frm < p ∧ 0 ≤ b.tow ∧ b.tow < p) {L : List Int} (h : ∀ i ∈ L, 0 ≤ i ∧ i < bs.length) : ∀ x ∈ tows bs L, 0 ≤ x ∧ x < p := by
 intro x hx
 obtain ⟨i, hi, rfl⟩ := List.mem_map.1 hx
 have := hpt _ (bdI_mem (h i hi))
 exact ⟨this.2.2.1, this.2.2.2⟩

/-- Ints below n, each once, are at most n. -/
theorem nodup_len : ∀ (n : Nat) (l : List Int), l.Nodup → (∀ x ∈ l, 0 ≤ x ∧ x < n) → l.length ≤ n
 | 0, l, _, h => by
   cases l with
   | nil => simp
   | cons x l => have := h x (by simp); omega
 | n + 1, l, hn, h => by
   have h1 := nodup_len n (l.erase n) (hn.erase _) (fun x hx => by
    have h2 := (hn.mem_erase_iff).1 hx
    have h3 := h x h2.2
    have := h2.1
    omega)
   rw [List.length_erase] at h1
   split at h1 <;> omega

end Go.Proofs.YtelkcohhagblaaaGreat
namespace Go.Proofs.YtelkcohhagblaaaGreat
theorem pass_inv2 {bs : List Bd} {Q : List Int → List Int → Prop} (hin : ∀ b ∈ bs, b.inr) (hQ : ∀ r l k, r.length = 60 → l.length = 60 → k < bs.length → Q r l → opens FAR r (bs.getD k default) = true → Q (r.set (bs.getD k default).tow.toNat (gi r (bs.getD k default).frm + (bs.getD k default).most)) (l.set (bs.getD k default).tow.toNat k)) {s : RL} (hl : s.r.length = 60) (hl2 : s.last.length = 60) (h : Q s.r s.last) :
 ∀ k, k ≤ bs.length → Q (s.pass FAR bs k).r (s.pass FAR bs k).last
 | 0, _ => h
 | k + 1, hk => by
   have h1 := pass_inv2 hin hQ hl hl2 h k (by omega)
   have hlen := RL.pass_len FAR bs s k
   simp only [RL.pass, RL.step]
   cases ho : opens FAR (s.pass FAR bs k).r (bs.getD k default) with
   | false => simpa using h1
   | true =>
     simp only [if_true, RL.upd]
     exact hQ _ _ k (hlen.1.trans hl) (hlen.2.trans hl2) (by omega) h1 ho
theorem settle_inv2 {bs : List Bd} {Q : List Int → List Int → Prop} (hin : ∀ b ∈ bs, b.inr) (hQ : ∀ r l k, r.length = 60 → l.length = 60 → k < bs.length → Q r l → opens FAR r (bs.getD k default) = true → Q (r.set (bs.getD k default).tow.toNat (gi r (bs.getD k default).frm + (bs.getD k default).most)) (l.set (bs.getD k default).tow.toNat k)) :
 ∀ (n : Nat) (s : RL), s.r.length = 60 → s.last.length = 60 → Q s.r s.last → Q (settle FAR bs n s).1.r (settle FAR bs n s).1.last
 | 0, _, _, _, h => h
 | n + 1, s, hl, hl2, h => by
   have h1 := pass_inv2 hin hQ hl hl2 h bs.length (Nat.le_refl _)
   have hlen := RL.pass_len FAR bs s bs.length
   simp only [settle]
   split
   ·exact h1
   ·exact settle_inv2 hin hQ n _ (hlen.1.trans hl) (hlen.2.trans hl2) h1

theorem chn_len (bs : List Bd) (l : List Int) : ∀ n j, (chn bs l n j).length = n
 | 0, _ => rfl
 | n + 1, j => by simp [chn, chn_len bs l n]
theorem gfrom_PI {p : Int} {bs : List Bd} (hs : Sys p bs) {y : Int → Int} (hy : keepsB bs y) {a : Int} (a0 : 0 ≤ a) (a1 : a < p) : PI bs y a (gfrom p bs a).1.r (gfrom p bs a).1.last := by
 have hp := hs.p2
 refine settle_inv2 (Q := PI bs y a) hs.inr (fun r l k hr hl hk h ho => h.step hs.inr hy hr hl hk a0 (by omega) ho) (p + 1).toNat ⟨far0 a, List.replicate 60 (-1), 0⟩ (far0_len a) (by simp) ⟨fun j j0 j1 hj => ?_, ?_, fun j j0 j1 hj hja => ?_, fun j j0 j1 hj => ?_⟩
 ·simp only at hj ⊢
  rw [gi_far0 a0 (by omega) j0 j1] at hj ⊢
  split at hj
  ·rename_i e; subst e; simp
  ·exact absurd hj (Int.lt_irrefl _)
 ·simp only
  rw [gi_far0 a0 (by omega) a0 (by omega), if_pos rfl]
 ·simp only at hj
  rw [gi_far0 a0 (by omega) j0 j1, if_neg hja] at hj
  exact absurd hj (Int.lt_irrefl _)
 ·simp only at hj
  rw [gi_far0 a0 (by omega) j0 j1] at hj
  split at hj
  ·rename_i e; exact ⟨0, e⟩
  ·exact absurd hj (Int.lt_irrefl _)

/-- Is a list a path from a to b, no point left or come to twice, with a sum of n? -/
structure Pth (bs : List Bd) (a b n : Int) (L : List Int) : Prop where
 wk : Wk bs a L b
 sum : wsum bs L = n
 fs : (frms bs L).Nodup
 ts : (tows bs L).Nodup
 len : L.length ≤ 60

theorem gfrom_path {p : Int} {bs : List Bd} (hc : chk p bs = 0) (hok : okB p bs = true) {a b : Int} (a0 : 0 ≤ a) (a1 : a < p) (b0 : 0 ≤ b) (b1 : b < p) (hf : gD p bs a b < FAR) :
 ∃ n, Rch bs (gfrom p bs a).1.last a n b ∧ Pth bs a b (gD p bs a b) (chn bs (gfrom p bs a).1.last n b).reverse ∧ n ≤ 60 := by
 have hs := Sys.of_chk hc
 have hp := hs.p2
 have hPI := gfrom_PI hs (okB_keeps hs hok) a0 a1
 have hst := settle_still hs.inr (p + 1).toNat ⟨far0 a, List.replicate 60 (-1), 0⟩ (far0_len a) (gfrom_done hs (Pts.of_chk hc) hok a0 a1)
 obtain ⟨n, hn⟩ := hPI.reach b b0 (by omega) hf
 obtain ⟨k1, k2, _, k4, _, k6⟩ := hPI.path hs.inr hst n b b0 (by omega) hf hn
 have hv := Wk.valid k1
 have hlen : (chn bs (gfrom p bs a).1.last n b).reverse.length ≤ 60 := by
  have h1 := nodup_len 60 _ k4 (fun x hx => by
   have := tows_pts (p := 60) (fun b hb => by have := hs.inr b hb; exact ⟨this.f0, this.f1, this.t0, this.t1⟩) (L := chn bs (gfrom p bs a).1.last n b) (fun i hi => hv i (by simpa using hi)) x hx
   omega)
  simp [tows] at h1
  simpa using h1
 refine ⟨n, hn, ⟨k1, k2, ?_, ?_, hlen⟩, by rw [List.length_reverse, chn_len] at hlen; exact hlen⟩
 ·have : frms bs (chn bs (gfrom p bs a).1.last n b).reverse = (frms bs (chn bs (gfrom p bs a).1.last n b)).reverse := by simp [frms]
  rw [this]; exact ((List.reverse_perm _).nodup_iff).2 k6
 ·have : tows bs (chn bs (gfrom p bs a).1.last n b).reverse = (tows bs (chn bs (gfrom p bs a).1.last n b)).reverse := by simp [tows]
  rw [this]; exact ((List.reverse_perm _).nodup_iff).2 k4

end Go.Proofs.YtelkcohhagblaaaGreat
namespace Go.Proofs.YtelkcohhagblaaaGreat
theorem okB_of_keepsS {p : Int} {bs : List Bd} (hs : Sys p bs) (hpt : Pts p bs) {y : Int → Int} (hy : keepsB bs y) : okB p bs = true := by
 have hp := hs.p2
 have hp1 := hs.p1
 obtain ⟨v, hv, hm⟩ := least_of (fun j => - y j) ((List.range p.toNat).map fun (i : Nat) => (i : Int)) (by
  intro e
  have := mem_pts (p := p) (j := 0) (by omega) (by omega)
  rw [e] at this
  simp at this)
 refine BF.settles hp hs.inr hy hpt (p + 1).toNat ((List.range p.toNat).map fun (i : Nat) => (i : Int)) (- y v) ⟨List.replicate 60 0, List.replicate 60 (-1), 0⟩ (by simp; omega) ⟨fun j hj => hj, fun j j0 j1 hj => ?_, fun j j0 j1 hj hf => ?_, fun j _ _ a b => absurd a b, fun b hb hf => ?_⟩ (by simp)
 ·exact absurd (mem_pts j0 j1) hj
 ·have := hm j hj
  simp only at this ⊢
  rw [gi_zeros]
  omega
 ·obtain ⟨q0, q1, _⟩ := hpt b hb
  exact absurd (mem_pts q0 q1) hf

theorem nearB_iff {n : Int} : nearB n = true ↔ -100000000 ≤ n ∧ n ≤ 100000000 := withinB_iff

/-- A list that keeps all bounds is bounded by greatest differences. -/
theorem keeps_gD {p : Int} {bs : List Bd} (hc : chk p bs = 0) (hok : okB p bs = true) {z : Int → Int} (hz : keepsB bs z) {x y : Int} (x0 : 0 ≤ x) (x1 : x < p) (y0 : 0 ≤ y) (y1 : y < p) (hf : gD p bs x y < FAR) : z y - z x ≤ gD p bs x y := by
 obtain ⟨n, _, hp, _⟩ := gfrom_path hc hok x0 x1 y0 y1 hf
 have := Wk.keeps hz hp.wk
 rw [hp.sum] at this
 exact this

theorem Pts.tiedT {p : Int} {bs : List Bd} (h : Pts p bs) {x y n : Int} (hxy : both p x y = true) : Pts p (bs ++ [⟨x, y, n, 0⟩, ⟨y, x, -n, 0⟩]) := by
 obtain ⟨⟨h1, h2⟩, h3, h5⟩ := both_in hxy
 intro b hb
 rcases List.mem_append.1 hb with hb | hb
 ·exact h b hb
 ·simp at hb
  rcases hb with rfl | rfl <;> simp <;> omega

/-- A list in which a difference is n: the least of three that keep all bounds. -/
def tz (p : Int) (bs : List Bd) (x y n : Int) (j : Int) : Int :=
 min (min (if gD p bs x j < FAR then gD p bs x j else gi (gsol p bs).1.r j + 160000000) (if gD p bs y j < FAR then n + gD p bs y j else gi (gsol p bs).1.r j + 160000000)) (gi (gsol p bs).1.r j + 160000000)

theorem sol_in {p : Int} {bs : List Bd} (hc : chk p bs = 0) (hok : okB p bs = true) {j : Int} (j0 : 0 ≤ j) (j1 : j < p) : -59000000 ≤ gi (gsol p bs).1.r j ∧ gi (gsol p bs).1.r j ≤ 0 := by
 have hs := Sys.of_chk hc
 have hp := hs.p2
 have h1 := sol_low hc hok j0 j1
 exact ⟨by omega, sol_le hs j0 (by omega)⟩

theorem tz_spec {p : Int} {bs : List Bd} (hc : chk p bs = 0) (hok : okB p bs = true) {x y n : Int} (hxy : both p x y = true) (hn : nearB n = true) (h1 : gD p bs x y < FAR → n ≤ gD p bs x y) (h2 : gD p bs y x < FAR → -n ≤ gD p bs y x) :
 keepsB bs (tz p bs x y n) ∧ tz p bs x y n x = 0 ∧ tz p bs x y n y = n ∧ ∀ j : Int, 0 ≤ j → j < p → -160000000 ≤ tz p bs x y n j ∧ tz p bs x y n j ≤ 160000000 := by
 have hs := Sys.of_chk hc
 have hp := hs.p2
 have hk := okB_keeps hs hok
 have hpt := Pts.of_chk hc
 obtain ⟨⟨x0, x1⟩, y0, y1⟩ := both_in hxy
 obtain ⟨n0, n1⟩ := nearB_iff.1 hn
 have sx := sol_in hc hok x0 x1
 have sy := sol_in hc hok y0 y1
 have ex := gD_self hs hok x0 x1
 have ey := gD_self hs hok y0 y1
 have hF : FAR = 1099511627776 := rfl
 refine ⟨fun b hb => ?_, ?_, ?_, fun j j0 j1 => ?_⟩
 ·obtain ⟨f0, f1, t0, t1⟩ := hpt b hb
  have k := hk b hb
  have g1 := gfrom_still hc hok x0 x1 hb
  have g2 := gfrom_still hc hok y0 y1 hb
  unfold tz
  generalize gD p bs x b.frm = A at *
  generalize gD p bs x b.tow = A' at *
  generalize gD p bs y b.frm = B at *
  generalize gD p bs y b.tow = B' at *
  by_cases hA : A < FAR
  ·obtain ⟨g11, g12⟩ := g1 hA
   rw [if_pos hA, if_pos g12]
   by_cases hB : B < FAR
   ·obtain ⟨g21, g22⟩ := g2 hB
    rw [if_pos hB, if_pos g22]; omega
   ·rw [if_neg hB]; split <;> omega
  ·rw [if_neg hA]
   by_cases hB : B < FAR
   ·obtain ⟨g21, g22⟩ := g2 hB
    rw [if_pos hB, if_pos g22]; split <;> omega
   ·rw [if_neg hB]; split <;> split <;> omega
 ·unfold tz
  rw [ex, if_pos (by omega)]
  split
  ·rename_i h; have := h2 h; omega
  ·omega
 ·unfold tz
  rw [ey, if_pos (show (0 : Int) < FAR by omega)]
  split
  ·rename_i h; have := h1 h; omega
  ·omega
 ·have sj := sol_in hc hok j0 j1
  have l1 := fun h => keeps_gD hc hok hk x0 x1 j0 j1 h
  have l2 := fun h => keeps_gD hc hok hk y0 y1 j0 j1 h
  unfold tz
  generalize gD p bs x j = A at *
  generalize gD p bs y j = B at *
  by_cases hA : A < FAR
  ·have := l1 hA
   rw [if_pos hA]
   by_cases hB : B < FAR
   ·have := l2 hB
    rw [if_pos hB]; omega
   ·rw [if_neg hB]; omega
  ·rw [if_neg hA]
   by_cases hB : B < FAR
   ·have := l2 hB
    rw [if_pos hB]; omega
   ·rw [if_neg hB]; omega

theorem tied_diff {bs : List Bd} {x y n : Int} {z : Int → Int} (hz : keepsB (bs ++ [⟨x, y, n, 0⟩, ⟨y, x, -n, 0⟩]) z) : z y - z x = n := by
 have h1 : z y - z x ≤ n := hz ⟨x, y, n, 0⟩ (by simp)
 have h2 : z x - z y ≤ -n := hz ⟨y, x, -n, 0⟩ (by simp)
 omega
theorem tied_keeps {bs : List Bd} {x y n : Int} {z : Int → Int} (hz : keepsB bs z) (h : z y - z x = n) : keepsB (bs ++ [⟨x, y, n, 0⟩, ⟨y, x, -n, 0⟩]) z := by
 intro b hb
 rcases List.mem_append.1 hb with hb | hb
 ·exact hz b hb
 ·simp at hb
  rcases hb with rfl | rfl
  ·show z y - z x ≤ n; omega
  ·show z x - z y ≤ -n; omega

theorem chk_400' {p : Int} {bs : List Bd} (h : chk p bs = 0) : bs.length ≤ 400 := by unfold chk at h; split at h <;> omega

theorem tied_ok {p : Int} {bs : List Bd} (hc : chk p bs = 0) (hok : okB p bs = true) {x y n : Int} (hxy : both p x y = true) (hn : nearB n = true) :
 okB p (bs ++ [⟨x, y, n, 0⟩, ⟨y, x, -n, 0⟩]) = true ↔ (gD p bs x y < FAR → n ≤ gD p bs x y) ∧ (gD p bs y x < FAR → -n ≤ gD p bs y x) := by
 have hs := Sys.of_chk hc
 obtain ⟨⟨x0, x1⟩, y0, y1⟩ := both_in hxy
 have hst := hs.tied (chk_400' hc) hxy hn
 constructor
 ·intro h
  have hz := okB_keeps hst h
  have hd := tied_diff hz
  have hzb : keepsB bs (gi (gsol p (bs ++ [⟨x, y, n, 0⟩, ⟨y, x, -n, 0⟩])).1.r) := fun b hb => hz b (List.mem_append_left _ hb)
  exact ⟨fun hf => by have := keeps_gD hc hok hzb x0 x1 y0 y1 hf; omega, fun hf => by have := keeps_gD hc hok hzb y0 y1 x0 x1 hf; omega⟩
 ·rintro ⟨h1, h2⟩
  obtain ⟨k1, k2, k3, _⟩ := tz_spec hc hok hxy hn h1 h2
  exact okB_of_keepsS hst (Pts.tiedT (Pts.of_chk hc) hxy) (tied_keeps k1 (by rw [k2, k3]; omega))

/-- The solution in which a difference is n lies near. -/
theorem tied_low {p : Int} {bs : List Bd} (hc : chk p bs = 0) (hok : okB p bs = true) {x y n : Int} (hxy : both p x y = true) (hn : nearB n = true) (h : okB p (bs ++ [⟨x, y, n, 0⟩, ⟨y, x, -n, 0⟩]) = true) {j : Int} (j0 : 0 ≤ j) (j1 : j < p) :
 -400000000 ≤ gi (gsol p (bs ++ [⟨x, y, n, 0⟩, ⟨y, x, -n, 0⟩])).1.r j := by
 have hs := Sys.of_chk hc
 have hp := hs.p2
 have hst := hs.tied (chk_400' hc) hxy hn
 obtain ⟨h1, h2⟩ := (tied_ok hc hok hxy hn).1 h
 obtain ⟨k1, k2, k3, k4⟩ := tz_spec hc hok hxy hn h1 h2
 have kt := tied_keeps k1 (show tz p bs x y n y - tz p bs x y n x = n by rw [k2, k3]; omega)
 have hpt := Pts.tiedT (n := n) (Pts.of_chk hc) hxy
 have := sol_max (y := fun i => if 0 ≤ i ∧ i < p then tz p bs x y n i - 160000000 else 0) hst (fun b hb => by
  obtain ⟨q0, q1, q2, q3⟩ := hpt b hb
  have := kt b hb
  try simp only
  rw [if_pos ⟨q2, q3⟩, if_pos ⟨q0, q1⟩]
  omega) (fun i i0 i1 => by
  try simp only
  split
  ·rename_i hi; have := k4 i hi.1 hi.2; omega
  ·omega) j0 (by omega)
 try simp only at this
 rw [if_pos ⟨j0, j1⟩] at this
 have := k4 j j0 j1
 omega

/-- Attain finds a solution exactly if n lies from the least to the greatest difference. -/
theorem attF_iff {p : Int} {bs : List Bd} {x y n : Int} (hE : askE p bs x y = 0) (hn : nearB n = true) :
 attF p bs x y n = ((!grB p bs x y || decide (n ≤ grN p bs x y)) && (!grB p bs y x || decide (-grN p bs y x ≤ n))) := by
 obtain ⟨hc, hxy, hok⟩ := askE_zero hE
 obtain ⟨⟨x0, x1⟩, y0, y1⟩ := both_in hxy
 have hE2 : askE p bs y x = 0 := askE_eq hc (both_mk y0 y1 x0 x1) hok
 have hs := Sys.of_chk hc
 have u1 := (gD_range hs x0 x1 y0 y1).2
 have u2 := (gD_range hs y0 y1 x0 x1).2
 have hF : FAR = 1099511627776 := rfl
 by_cases e : x = y
 ·subst e
  have ex := gD_self hs hok x0 x1
  have g1 : grB p bs x x = true := by unfold grB; exact decide_eq_true ⟨hE, by rw [ex]; omega⟩
  have g2 : grN p bs x x = 0 := by unfold grN; rw [if_pos ⟨hE, by rw [ex]; omega⟩, ex]
  rw [g1, g2]
  unfold attF attT
  rw [if_pos rfl, hok, Bool.eq_iff_iff]
  simp
  omega
 ·unfold attF attT
  rw [if_neg e, Bool.eq_iff_iff]
  have := tied_ok hc hok hxy hn
  simp only [e, decide_false, Bool.false_and, Bool.not_false, Bool.true_and, this, Bool.and_eq_true, Bool.or_eq_true, Bool.not_eq_true', decide_eq_true_eq]
  unfold grB grN
  simp only [hE, hE2, true_and]
  by_cases a1 : gD p bs x y = FAR
  ·by_cases a2 : gD p bs y x = FAR
   ·simp [a1, a2]
   ·simp [a1, a2]; omega
  ·by_cases a2 : gD p bs y x = FAR
   ·simp [a1, a2]; omega
   ·simp [a1, a2]; omega
end Go.Proofs.YtelkcohhagblaaaGreat
namespace Go.Proofs.YtelkcohhagblaaaGreat
open Go
theorem way_ok {l : List Itm} {day id fr tw : Int} (h : wayE l day id fr tw = 0) : WayOk l day id fr tw := by
 unfold wayE at h
 split at h
 ·rename_i h0
  split at h
  ·rename_i h1
   split at h
   ·rename_i h2
    exact ⟨look_ok h0, h1.1, h1.2.1, h1.2.2, h2⟩
   ·omega
  ·omega
 ·contradiction
theorem WayOk.ask {l : List Itm} {day id fr tw : Int} (h : WayOk l day id fr tw) : askE (wayP l day id) (wayB l day id) fr tw = 0 ∧ askE (wayP l day id) (wayB l day id) tw fr = 0 := by
 obtain ⟨h0, h1, h2, h3, h4⟩ := h
 have hp : wayP l day id = (lookS l day id).co + 1 := rfl
 exact ⟨askE_in h0.ways h4 (by omega) (by omega) (by omega) (by omega), askE_in h0.ways h4 (by omega) (by omega) (by omega) (by omega)⟩
theorem turn_ok {l : List Itm} {day id fr tw : Int} (h : turnE l day id fr tw = 0) : TurnOk l day id fr tw := by
 unfold turnE at h
 split at h
 ·rename_i h0
  split at h
  ·rename_i h1
   split at h
   ·rename_i h2
    exact ⟨look_ok h0, h1.1, h1.2.1, h1.2.2, h2⟩
   ·omega
  ·omega
 ·contradiction
end Go.Proofs.YtelkcohhagblaaaGreat
namespace Go.Proofs.YtelkcohhagblaaaGreat
open Go.ChangeShapes Go.WideShapes Go.ChangeAt Go.RowKit Go.Joins Go.Deep
set_option maxRecDepth 100000
set_option maxHeartbeats 2000000
theorem Tryz.own : ownKnob Tryz.prog.godebug = none := by kernel_rfl
theorem Tryz.laidOut : laidOutB Tryz.prog = true := by kernel_rfl
theorem Tryz.cI : Tryz.prog.cellsOf 3 = 1 := by kernel_rfl
theorem Tryz.cU : Tryz.prog.cellsOf 5 = 1 := by kernel_rfl
theorem Tryz.cS : Tryz.prog.cellsOf 9 = 1 := by kernel_rfl
theorem Tryz.cB : Tryz.prog.cellsOf 4 = 1 := by kernel_rfl
theorem Tryz.cItem : Tryz.prog.cellsOf 24 = 16 := by kernel_rfl
theorem Tryz.bItem : Tryz.prog.bytesOf 24 = 144 := by kernel_rfl
theorem itm_add {b o : Nat} (k : Nat) : (⟨b, o, none⟩ : Addr).add k = ⟨b, o + k, none⟩ := by
 unfold Addr.add
 split
 ·rename_i h; subst h; simp
 ·rfl
theorem itm_where {W : World} {base : Nat} {t e : TypeId} {a : Addr} {n cap : Nat} (ht : Tryz.prog.underlying t = some (.slice e)) (hv : Value.okWide Tryz.prog W .any base t (.slice (some a) n cap)) : a.spot = none ∧ a.block < W.heap.size := by
 simp only [Value.okWide, ht, Cell.okWide, Cell.ok] at hv
 obtain ⟨_, _, _, hsp, row, cells, hsh, _⟩ := hv
 refine ⟨hsp, ?_⟩
 simp only [World.shape?] at hsh
 by_cases hlt : a.block < W.heap.size
 ·exact hlt
 ·rw [Array.getElem?_eq_none (by omega)] at hsh
  simp at hsh
theorem itm_slice {W : World} {base : Nat} {t e : TypeId} {v : Value} (ht : Tryz.prog.underlying t = some (.slice e)) (hv : Value.okWide Tryz.prog W .any base t v) : ∃ a n cap, v = .slice a n cap := by
 simp only [Value.okWide, ht, Cell.okWide, Cell.ok] at hv
 cases v <;> simp at hv
 exact ⟨_, _, _, rfl⟩
theorem u8_in {x : Int} (h : (Lit.int .u8 x).wf = true) : 0 ≤ x ∧ x ≤ 255 := by
 have h1 : IntKind.u8.min = 0 := by decide
 have h2 : IntKind.u8.max = 255 := by decide
 have h3 : (decide (IntKind.u8.min ≤ x) && decide (x ≤ IntKind.u8.max)) = true := h
 rw [h1, h2] at h3
 simpa using h3
section
variable {H : Type} {enc : TypeId × Value → H} {w : World} {base : Nat}
theorem int_cw {t : TypeId} {k : IntKind} {n i : Nat} {v : Value} {xs : List (DataW H × List MemPlace)} (ht : Tryz.prog.underlying t = some (.int k)) (h : DataW.trod enc Tryz.prog w base (fun _ => true) true n t [v] = xs[i]?) (hi : i < xs.length) : ∃ x, v = .int k x ∧ (Lit.int k x).wf = true := by
 rw [List.getElem?_eq_getElem hi] at h
 obtain ⟨x, e0, _, e2⟩ := DataW.trod_int ht h
 simp at e0
 exact ⟨x, e0, e2⟩
theorem str_cw {t : TypeId} {n i : Nat} {v : Value} {xs : List (DataW H × List MemPlace)} (ht : Tryz.prog.underlying t = some .string) (h : DataW.trod enc Tryz.prog w base (fun _ => true) true n t [v] = xs[i]?) (hi : i < xs.length) : ∃ x : ByteArray, v = .string x ∧ x.size ≤ maxLen := by
 rw [List.getElem?_eq_getElem hi] at h
 obtain ⟨x, e0, _, e2⟩ := DataW.trod_string ht h
 simp at e0
 exact ⟨x, e0, e2⟩
theorem bool_cw {t : TypeId} {n i : Nat} {v : Value} {xs : List (DataW H × List MemPlace)} (ht : Tryz.prog.underlying t = some .bool) (h : DataW.trod enc Tryz.prog w base (fun _ => true) true n t [v] = xs[i]?) (hi : i < xs.length) : ∃ x, v = .bool x := by
 rw [List.getElem?_eq_getElem hi] at h
 obtain ⟨x, e0, _⟩ := DataW.trod_bool ht h
 simp at e0
 exact ⟨x, e0⟩
theorem list16 {l : List Value} (h : l.length = 16) : ∃ c0 c1 c2 c3 c4 c5 c6 c7 c8 c9 c10 c11 c12 c13 c14 c15, l = [c0, c1, c2, c3, c4, c5, c6, c7, c8, c9, c10, c11, c12, c13, c14, c15] := by
 match l, h with
 | [c0, c1, c2, c3, c4, c5, c6, c7, c8, c9, c10, c11, c12, c13, c14, c15], _ => exact ⟨c0, c1, c2, c3, c4, c5, c6, c7, c8, c9, c10, c11, c12, c13, c14, c15, rfl⟩
/-- An item in its cells. -/
theorem item_cells {n : Nat} {cs : List Value} {y : DataW H × List MemPlace} (h : DataW.trod enc Tryz.prog w base (fun _ => true) true n 24 cs = some y) : ∃ x : Itm, cs = x.cs ∧ x.Wide := by
 obtain ⟨xs, m, rfl, rfl, hl, hxl, hf⟩ := DataW.trod_struct Tryz.underlying24 h
 rw [Tryz.cItem] at hl
 obtain ⟨c0, c1, c2, c3, c4, c5, c6, c7, c8, c9, c10, c11, c12, c13, c14, c15, rfl⟩ := list16 hl
 have hx : xs.length = 16 := hxl
 have f0 : DataW.trod enc Tryz.prog w base (fun _ => true) true m 3 [c0] = xs[0]? := by have := hf 0 _ rfl; simpa [Tryz.cI] using this
 have f1 : DataW.trod enc Tryz.prog w base (fun _ => true) true m 3 [c1] = xs[1]? := by have := hf 1 _ rfl; simpa [Tryz.cI] using this
 have f2 : DataW.trod enc Tryz.prog w base (fun _ => true) true m 5 [c2] = xs[2]? := by have := hf 2 _ rfl; simpa [Tryz.cU] using this
 have f3 : DataW.trod enc Tryz.prog w base (fun _ => true) true m 9 [c3] = xs[3]? := by have := hf 3 _ rfl; simpa [Tryz.cS] using this
 have f4 : DataW.trod enc Tryz.prog w base (fun _ => true) true m 3 [c4] = xs[4]? := by have := hf 4 _ rfl; simpa [Tryz.cI] using this
 have f5 : DataW.trod enc Tryz.prog w base (fun _ => true) true m 3 [c5] = xs[5]? := by have := hf 5 _ rfl; simpa [Tryz.cI] using this
 have f6 : DataW.trod enc Tryz.prog w base (fun _ => true) true m 3 [c6] = xs[6]? := by have := hf 6 _ rfl; simpa [Tryz.cI] using this
 have f7 : DataW.trod enc Tryz.prog w base (fun _ => true) true m 4 [c7] = xs[7]? := by have := hf 7 _ rfl; simpa [Tryz.cB] using this
 have f8 : DataW.trod enc Tryz.prog w base (fun _ => true) true m 3 [c8] = xs[8]? := by have := hf 8 _ rfl; simpa [Tryz.cI] using this
 have f9 : DataW.trod enc Tryz.prog w base (fun _ => true) true m 3 [c9] = xs[9]? := by have := hf 9 _ rfl; simpa [Tryz.cI] using this
 have f10 : DataW.trod enc Tryz.prog w base (fun _ => true) true m 3 [c10] = xs[10]? := by have := hf 10 _ rfl; simpa [Tryz.cI] using this
 have f11 : DataW.trod enc Tryz.prog w base (fun _ => true) true m 3 [c11] = xs[11]? := by have := hf 11 _ rfl; simpa [Tryz.cI] using this
 have f12 : DataW.trod enc Tryz.prog w base (fun _ => true) true m 3 [c12] = xs[12]? := by have := hf 12 _ rfl; simpa [Tryz.cI] using this
 have f13 : DataW.trod enc Tryz.prog w base (fun _ => true) true m 9 [c13] = xs[13]? := by have := hf 13 _ rfl; simpa [Tryz.cS] using this
 have f14 : DataW.trod enc Tryz.prog w base (fun _ => true) true m 3 [c14] = xs[14]? := by have := hf 14 _ rfl; simpa [Tryz.cI] using this
 have f15 : DataW.trod enc Tryz.prog w base (fun _ => true) true m 3 [c15] = xs[15]? := by have := hf 15 _ rfl; simpa [Tryz.cI] using this
 obtain ⟨x0, rfl, e0⟩ := int_cw Tryz.underlying3 f0 (by omega)
 obtain ⟨x1, rfl, e1⟩ := int_cw Tryz.underlying3 f1 (by omega)
 obtain ⟨x2, rfl, e2⟩ := int_cw Tryz.underlying5 f2 (by omega)
 obtain ⟨x3, rfl, e3⟩ := str_cw Tryz.underlying9 f3 (by omega)
 obtain ⟨x4, rfl, e4⟩ := int_cw Tryz.underlying3 f4 (by omega)
 obtain ⟨x5, rfl, e5⟩ := int_cw Tryz.underlying3 f5 (by omega)
 obtain ⟨x6, rfl, e6⟩ := int_cw Tryz.underlying3 f6 (by omega)
 obtain ⟨x7, rfl⟩ := bool_cw Tryz.underlying4 f7 (by omega)
 obtain ⟨x8, rfl, e8⟩ := int_cw Tryz.underlying3 f8 (by omega)
 obtain ⟨x9, rfl, e9⟩ := int_cw Tryz.underlying3 f9 (by omega)
 obtain ⟨x10, rfl, e10⟩ := int_cw Tryz.underlying3 f10 (by omega)
 obtain ⟨x11, rfl, e11⟩ := int_cw Tryz.underlying3 f11 (by omega)
 obtain ⟨x12, rfl, e12⟩ := int_cw Tryz.underlying3 f12 (by omega)
 obtain ⟨x13, rfl, e13⟩ := str_cw Tryz.underlying9 f13 (by omega)
 obtain ⟨x14, rfl, e14⟩ := int_cw Tryz.underlying3 f14 (by omega)
 obtain ⟨x15, rfl, e15⟩ := int_cw Tryz.underlying3 f15 (by omega)
 have hu : 0 ≤ x2 ∧ x2 ≤ 255 := u8_in e2
 exact ⟨⟨x0, x1, x2, x3, x4, x5, x6, x7, x8, x9, x10, x11, x12, x13, x14, x15⟩, rfl, ⟨e3, e13, hu, e0, e15⟩⟩
end
theorem items_open {H : Type} {enc : TypeId × Value → H} {W : World} {base : Nat} {v : Value} {d : DataW H} {p : List MemPlace} (hv : Value.okWide Tryz.prog W .any base 22 v)
 (h : DataW.Trod enc Tryz.prog W 0 (fun _ => true) true 22 v d p) (hs : ∀ n ∈ d.weights Tryz.prog 22, n ≤ reachBytes) : ∃ a n cap l, v = .slice a n cap ∧ ItmsAt W a n cap l ∧ l.length ≤ cap := by
 obtain ⟨a0, n0, c0, rfl⟩ := itm_slice Tryz.underlying22 hv
 obtain ⟨fuel, hf⟩ := h
 rcases open_slice Tryz.underlying22 (show DataW.trod enc Tryz.prog W 0 (fun _ => true) true fuel 22 [.slice a0 n0 c0] = some (d, p) from hf) with ⟨hc, _⟩ | ⟨a, len, cap, m', k, D, Pl, hc, _, hl, _, hm, hx, hat⟩
 ·simp at hc
  obtain ⟨rfl, rfl, rfl⟩ := hc
  exact ⟨none, 0, 0, [], rfl, ItmsAt.nilAt _, Nat.le_refl _⟩
 ·simp only [List.cons.injEq, Value.slice.injEq, and_true] at hc
  obtain ⟨rfl, rfl, rfl⟩ := hc
  simp only [if_true] at hm
  subst hm
  simp only [Prod.mk.injEq] at hx
  obtain ⟨rfl, _⟩ := hx
  have hb : m' * 144 ≤ reachBytes := by
   have := hs _ (by simp only [DataW.weights, Tryz.underlying22]; exact List.mem_cons_self ..)
   rw [Tryz.bItem] at this
   simp only [List.length_map, List.length_range] at this
   rw [show n0 + (m' - n0) = m' by omega] at this
   exact this
  unfold reachBytes at hb
  obtain ⟨h1, h2⟩ := itm_where Tryz.underlying22 hv
  obtain ⟨ab, ao, sp⟩ := a
  simp only at h1 h2
  subst h1
  have hex : ∀ i, ∃ x : Itm, i < n0 → x.Wide ∧ ∀ j, j < 16 → W.cell? ⟨ab, ao + i * 16 + j, none⟩ = x.cs[j]? := fun i => by
   by_cases hi : i < n0
   ·obtain ⟨cs, e1, e2⟩ := hat i (by omega)
    rw [Tryz.cItem] at e1
    obtain ⟨_, hcl, hct⟩ := World.cells?_some e1
    obtain ⟨x, rfl, hw⟩ := item_cells e2
    refine ⟨x, fun _ => ⟨hw, fun j hj => ?_⟩⟩
    have := hct j hj
    rw [itm_add, itm_add] at this
    rw [this]
   ·exact ⟨Itm.zero, fun h => absurd h hi⟩
  obtain ⟨F, hF⟩ := Classical.axiomOfChoice hex
  refine ⟨_, n0, m', (List.range n0).map F, rfl, ⟨by simp, by simp; omega, ⟨fun h => (by cases h), fun x hx => ?_⟩, fun x hx => ?_⟩, by simp; omega⟩
  ·obtain rfl := Option.some.inj hx
   refine ⟨rfl, h2, fun i u hu => ?_⟩
   have hil := (List.getElem?_eq_some_iff.1 hu).1
   rw [ics_length] at hil
   simp at hil
   have hk : i / 16 < n0 := by omega
   have hfg := flatS_get (f := Itm.cs) (k := 16) (fun _ => rfl) ((List.range n0).map F) (i / 16) (i % 16) (by simpa using hk) (by omega)
   rw [show i / 16 * 16 + i % 16 = i by omega] at hfg
   have hu := hfg.symm.trans hu
   have hgd : ((List.range n0).map F).getD (i / 16) default = F (i / 16) := by simp [List.getD_eq_getElem?_getD, hk]
   rw [hgd] at hu
   have := (hF (i / 16) hk).2 (i % 16) (by omega)
   simp only
   rw [show ao + i = ao + i / 16 * 16 + i % 16 by omega, this, hu]
  ·obtain ⟨i, hi, rfl⟩ := List.mem_map.1 hx
   rw [List.mem_range] at hi
   exact (hF i hi).1
end Go.Proofs.YtelkcohhagblaaaGreat
namespace Go.Proofs.YtelkcohhagblaaaGreat
open Go.RowKit Go.Shelf
set_option maxHeartbeats 8000000
set_option maxRecDepth 100000
def shortB (x : Itm) : Bool := decide (x.wa.size ≤ 100) && decide (x.st.size ≤ 100)
theorem lone (x : Itm) (w : World) : Calls Tryz.prog 19 #[x.v] w fun e w' => e = .returned (.bool (shortB x)) ∧ Below w.heap.size w w' := by
 have hal := one_alloc w (Obj.cells #[.int .i64 x.id, .int .i64 x.kn, .int .u8 x.kd, .string x.wa, .int .i64 x.pit, .int .i64 x.ly, .int .i64 x.co, .bool x.ft, .int .i64 x.sh, .int .i64 x.fr, .int .i64 x.tw, .int .i64 x.lo, .int .i64 x.hi, .string x.st, .int .i64 x.li, .int .i64 x.vo] 24)
 have hX := World.alloc_heap_new w (Obj.cells #[.int .i64 x.id, .int .i64 x.kn, .int .u8 x.kd, .string x.wa, .int .i64 x.pit, .int .i64 x.ly, .int .i64 x.co, .bool x.ft, .int .i64 x.sh, .int .i64 x.fr, .int .i64 x.tw, .int .i64 x.lo, .int .i64 x.hi, .string x.st, .int .i64 x.li, .int .i64 x.vo] 24)
 have d3 := (ItmCells.of_heap hX).1.c3
 have d13 := (ItmCells.of_heap hX).1.c13
 simp only [Itm.v, Itm.cs]
 unfold shortB
 obtain ⟨A, hA⟩ : ∃ A, x.wa.size = A := ⟨_, rfl⟩
 obtain ⟨B, hB⟩ : ∃ B, x.st.size = B := ⟨_, rfl⟩
 rw [hA, hB]
 clear hX
 by_cases h1 : A ≤ 100
 ·have e1 : (A : Int) ≤ 100 := by omega
  have d1 : decide (A ≤ 100) = true := decide_eq_true h1
  rw [d1, Bool.true_and]
  by_cases h2 : B ≤ 100
  ·have e2 : (B : Int) ≤ 100 := by omega
   have d2 : decide (B ≤ 100) = true := decide_eq_true h2
   rw [d2]
   go_enter Tryz.func19, Tryz.ntmps19
   go_wp2_with fail
   go_ret
   exact ⟨rfl, hal⟩
  ·have e2 : ¬ (B : Int) ≤ 100 := by omega
   have d2 : decide (B ≤ 100) = false := decide_eq_false h2
   rw [d2]
   go_enter Tryz.func19, Tryz.ntmps19
   go_wp2_with fail
   go_ret
   exact ⟨rfl, hal⟩
 ·have e1 : ¬ (A : Int) ≤ 100 := by omega
  have d1 : decide (A ≤ 100) = false := decide_eq_false h1
  rw [d1, Bool.false_and]
  go_enter Tryz.func19, Tryz.ntmps19
  go_wp2_with fail
  go_ret
  exact ⟨rfl, hal⟩
def fewB (l : List Itm) (m : Nat) : Bool := (l.take m).all shortB && decide (l.length ≤ m)
theorem all_succ {l : List Itm} {k : Nat} (hk : k < l.length) : (l.take (k + 1)).all shortB = ((l.take k).all shortB && shortB (l.getD k default)) := by
 rw [List.take_succ_eq_append_getElem hk, List.all_append, List.getD_eq_getElem?_getD, List.getElem?_eq_getElem hk]
 simp
theorem all_no {l : List Itm} {k m : Nat} (hk : k < l.length) (hm : k < m) (h : shortB (l.getD k default) = false) : (l.take m).all shortB = false := by
 rw [List.all_eq_false]
 refine ⟨l.getD k default, ?_, by rw [h]; simp⟩
 rw [List.getD_eq_getElem?_getD, List.getElem?_eq_getElem hk]
 have : l[k] ∈ l.take m := List.mem_take_iff_getElem.2 ⟨k, by omega, rfl⟩
 exact this
theorem lfew (m : Nat) (a : Option Addr) (n cap : Nat) (l : List Itm) (w : World) (h : ItmsAt w a n cap l) (hm : m ≤ 1000) : Calls Tryz.prog 18 #[.slice a n cap, .int .i64 m] w fun e w' => e = .returned (.bool (fewB l m)) ∧ Below w.heap.size w w' := by
 obtain rfl := h.len
 have hsm := h.small
 have HP := Lib.hid (show ∀ w' b, fewB l m = b → Below w.heap.size w w' → (fun e w' => e = Ending.returned (.bool (fewB l m)) ∧ Below w.heap.size w w' : Ending → World → Prop) (.returned (.bool b)) w' from fun w' b h1 h2 => ⟨by rw [h1], h2⟩)
 generalize (fun e w' => e = Ending.returned (.bool (fewB l m)) ∧ Below w.heap.size w w' : Ending → World → Prop) = Post at *
 go_enter Tryz.func18, Tryz.ntmps18
 go_wp2_with fail
 go_loopw [5] (fun i wr => ∃ k : Nat, k ≤ l.length ∧ k ≤ m ∧ i = .int .i64 k ∧ Hid ((l.take k).all shortB = true) ∧ Below w.heap.size w wr) (fun i _ => l.length - (RowKit.intOf i).toNat)
 case atStart => exact ⟨0, Nat.zero_le _, Nat.zero_le _, rfl, Lib.hid rfl, Below.refl _ _⟩
 case round =>
  obtain ⟨k, hk, hkm, rfl, hall, hB⟩ := hrel
  have hnn : (0 : Int) ≤ k := by omega
  by_cases hlt : k < l.length
  ·have i1 : (k : Int) < (l.length : Int) := by omega
   by_cases hlm : k < m
   ·have i2 : (k : Int) < (m : Int) := by omega
    obtain ⟨b, o, rfl, hb, hdc⟩ := (h.below hB).get hlt
    have Hs := Lib.hid (all_succ hlt)
    have Hn := Lib.hid (all_no hlt hlm)
    generalize l.getD k default = x at *
    have hcl := lone x wr
    cases hv : shortB x with
    | true =>
      rw [hv] at hcl Hs
      have h2 := Lib.hid (show (l.take (k + 1)).all shortB = true by rw [Hs.out, hall.out]; rfl)
      clear hv Hn
      go_wp2_with (first
       | (refine wpList_loadI rfl _ rfl rfl hdc ?_)
       | (go_at_call 19; (with_reducible refine hcl.mono ?_); rintro e w2 ⟨rfl, hb2⟩))
      go_roundw
      case rel => exact ⟨k + 1, by omega, by omega, by go_num, h2, hB.ch2 hb2⟩
      case measure => simp [RowKit.intOf]; omega
    | false =>
      have HE := Lib.hid (fun w' hb => HP.out w' false (by unfold fewB; rw [Hn.out hv]; rfl) hb)
      rw [hv] at hcl
      clear hv Hn Hs
      go_wp2_with (first
       | (refine wpList_loadI rfl _ rfl rfl hdc ?_)
       | (go_at_call 19; (with_reducible refine hcl.mono ?_); rintro e w2 ⟨rfl, hb2⟩))
      exact HE.out _ (hB.ch2 hb2)
   ·have i2 : ¬ (k : Int) < (m : Int) := by omega
    have i3 : ¬ (l.length : Int) ≤ (m : Int) := by omega
    have HE := Lib.hid (HP.out wr false (by unfold fewB; rw [decide_eq_false (by omega), Bool.and_false]) hB)
    go_wp2_with fail
    exact HE.out
  ·have i1 : ¬ (k : Int) < (l.length : Int) := by omega
   have hkl : k = l.length := by omega
   have i3 : (l.length : Int) ≤ (m : Int) := by omega
   have HE := Lib.hid (HP.out wr true (by unfold fewB; rw [decide_eq_true (by omega), Bool.and_true, List.take_of_length_le (by omega)]; have := hall.out; rw [hkl, List.take_length] at this; exact this) hB)
   clear hkl
   go_wp2_with fail
   exact HE.out
def outC (l : List Itm) (day id : Int) : Int := if lookE l day id = 0 then (lookS l day id).co else 0
def outW (l : List Itm) (day id : Int) : List Bd := if lookE l day id = 0 then wayB l day id else []
def outT (l : List Itm) (day id : Int) : List Bd := if lookE l day id = 0 then turnB l day id else []
/-- An outline with rows of its own, and an error. -/
def OutE (w : World) (E co : Int) (ws ts : List Bd) (e : Ending) (w' : World) : Prop := ∃ v1 v2, e = .returned (.tuple #[.agg #[.int .i64 co, v1, v2], .int .i64 E]) ∧ Below w.heap.size w w' ∧ w'.ownsRow w.heap.size 69 4 v1 ws.length (bcs ws) ∧ w'.ownsRow w.heap.size 69 4 v2 ts.length (bcs ts)
theorem sOutline_any (a : Option Addr) (n cap : Nat) (l : List Itm) (day id : Int) (w : World) (h : ItmsAt w a n cap l) (hcap : l.length ≤ cap) :
 Calls Tryz.prog 36 #[.slice a n cap, .int .i64 day, .int .i64 id] w (OutE w (lookE l day id) (outC l day id) (outW l day id) (outT l day id)) := by
 have hB0 := one_alloc w (Obj.cells #[.int .i64 0, .slice none 0 0, .slice none 0 0] 52)
 have hR0 := World.alloc_heap_new w (Obj.cells #[.int .i64 0, .slice none 0 0, .slice none 0 0] 52)
 have hL := slooked_any a n cap l day id _ (h.below hB0) hcap
 have hw := h.wide
 unfold LookPost at hL
 have HP := Lib.hid (show ∀ w' v1 v2 E co W T, lookE l day id = E → outC l day id = co → outW l day id = W → outT l day id = T → Below w.heap.size w w' → w'.ownsRow w.heap.size 69 4 v1 W.length (bcs W) → w'.ownsRow w.heap.size 69 4 v2 T.length (bcs T) → OutE w (lookE l day id) (outC l day id) (outW l day id) (outT l day id) (.returned (.tuple #[.agg #[.int .i64 co, v1, v2], .int .i64 E])) w' from
  fun w' v1 v2 E co W T h1 h2 h3 h4 h5 h6 h7 => by subst h1 h2 h3 h4; exact ⟨v1, v2, rfl, h5, h6, h7⟩)
 generalize OutE w (lookE l day id) (outC l day id) (outW l day id) (outT l day id) = Post at *
 by_cases h0 : lookE l day id = 0
 ·have hlk := look_ok h0
  have hS : lookR l day id = countL l day := by unfold lookR; rw [if_pos h0]
  have hZ : lookZ l day id = lookS l day id := by unfold lookZ; rw [if_pos h0]
  have h1 : outC l day id = (lookS l day id).co := by unfold outC; rw [if_pos h0]
  have h2 : outW l day id = wayB l day id := by unfold outW; rw [if_pos h0]
  have h3 : outT l day id = turnB l day id := by unfold outT; rw [if_pos h0]
  have HPf := Lib.hid (fun w' v1 v2 => HP.out w' v1 v2 0 _ _ _ h0 h1 h2 h3)
  have hsl := Nat.le_trans (countL_len l day) hlk.cat.few
  have hcw := wides hw (fun x (hx : x ∈ countL l day) => (countL_sub hx).1)
  have hms : ∀ x ∈ countL l day, x.kd = 2 ∨ x.kd = 3 → x.sh = (lookS l day id).id → -10000 ≤ x.lo ∧ x.lo ≤ 10000 := fun x hx hk hs => by
   rw [hlk.sid] at hs
   rcases hk with hk | hk
   ·exact (hlk.wms x (by unfold keptL; rw [List.mem_filter]; exact ⟨hx, by simp [hk, hs]⟩)).lo
   ·exact (hlk.tms x (by unfold keptL; rw [List.mem_filter]; exact ⟨hx, by simp [hk, hs]⟩)).lo
  have hOu := fun W va vc (hi : ItmsAt W va (countL l day).length vc (countL l day)) => soutline va _ vc (countL l day) (lookS l day id) W hi hsl hlk.co hms
  unfold OutPost at hOu
  simp only [hlk.sid] at hOu
  change ∀ W va vc, ItmsAt W va (countL l day).length vc (countL l day) → Calls Tryz.prog _ _ W (fun e w' => ∃ v1 v2, e = .returned (.agg #[.int .i64 (lookS l day id).co, v1, v2]) ∧ Below W.heap.size W w' ∧ w'.ownsRow W.heap.size 69 4 v1 (wayB l day id).length (bcs (wayB l day id)) ∧ w'.ownsRow W.heap.size 69 4 v2 (turnB l day id).length (bcs (turnB l day id))) at hOu
  rw [hS, hZ, h0] at hL
  clear hS hZ hms hlk h0 h1 h2 h3 HP
  generalize wayB l day id = WB at *
  generalize turnB l day id = TB at *
  generalize countL l day = S at *
  generalize lookS l day id = y at *
  simp only [Shd.v, Shd.cs] at hL hOu
  go_enter Tryz.func36, Tryz.ntmps36
  go_wp2_with (first
   | (go_at_call 82; (with_reducible refine hL.mono ?_); rintro e w2 ⟨v, rfl, hb2, ho2⟩; obtain ⟨va, vc, rfl, _⟩ := owns_slice ho2; have hi2 := (ItmsAt.of_owns ho2 (by omega) hcw).below (one_alloc w2 (Obj.cells #[.int .i64 y.id, .string y.wa, .int .i64 y.pit, .int .i64 y.ly, .int .i64 y.co, .bool y.ft] 72)); have hY2 := World.alloc_heap_new w2 (Obj.cells #[.int .i64 y.id, .string y.wa, .int .i64 y.pit, .int .i64 y.ly, .int .i64 y.co, .bool y.ft] 72); obtain ⟨p0, p1, p2, p3, p4, p5, pf⟩ := cell6 hY2; have hR2 := alKeep (o' := Obj.cells #[.int .i64 y.id, .string y.wa, .int .i64 y.pit, .int .i64 y.ly, .int .i64 y.co, .bool y.ft] 72) ((hb2.block w.heap.size (by simp)).trans hR0))
   | (go_at_call 83; (with_reducible refine (hOu _ va vc hi2).mono ?_); rintro e w3 ⟨v1, v2, rfl, hb3, ho31, ho32⟩; obtain ⟨a1, c1, rfl, _⟩ := owns_slice ho31; obtain ⟨a2, c2, rfl, _⟩ := owns_slice ho32; have hR3 := (hb3.block w.heap.size (Array.getElem?_eq_some_iff.1 hR2).1).trans hR2; obtain ⟨q0, q1, q2, qf, ql⟩ := cell3s hR3))
  obtain ⟨k1, k2⟩ := set3 hR3 (.int .i64 y.co) (.slice a1 WB.length c1) (.slice a2 TB.length c2)
  have hB3 := ((hB0.ch2 hb2).ch2 (one_alloc w2 (Obj.cells #[.int .i64 y.id, .string y.wa, .int .i64 y.pit, .int .i64 y.ly, .int .i64 y.co, .bool y.ft] 72))).ch2 hb3
  have hz2 := hb2.size
  rw [World.size_alloc] at hz2
  have hr1 := SL.row_base (SL.row_stab ho31 fun k hk => k2.block k (SL.row_bounds ho31 k hk).2 (by have := (SL.row_bounds ho31 k hk).1; simp at this ⊢; omega)) (show w.heap.size ≤ (w2.alloc (Obj.cells #[.int .i64 y.id, .string y.wa, .int .i64 y.pit, .int .i64 y.ly, .int .i64 y.co, .bool y.ft] 72)).heap.size by simp; omega)
  have hr2 := SL.row_base (SL.row_stab ho32 fun k hk => k2.block k (SL.row_bounds ho32 k hk).2 (by have := (SL.row_bounds ho32 k hk).1; simp at this ⊢; omega)) (show w.heap.size ≤ (w2.alloc (Obj.cells #[.int .i64 y.id, .string y.wa, .int .i64 y.pit, .int .i64 y.ly, .int .i64 y.co, .bool y.ft] 72)).heap.size by simp; omega)
  have hBF := hB3.trans (k2.belowE_w hB3.size (by simp))
  obtain ⟨g0, g1, g2, gf, gl⟩ := cell3s k1
  have HF := Lib.hid (HPf.out _ _ _ hBF hr1 hr2)
  clear hr1 hr2 hBF k1 k2 ho31 ho32 ho2 hR3 hR2 q0 q1 q2 qf ql hb3 hb2 hB3
  generalize ((w3.setCell ⟨w.heap.size, 0, none⟩ (.int .i64 y.co)).setCell ⟨w.heap.size, 1, none⟩ (.slice a1 WB.length c1)).setCell ⟨w.heap.size, 2, none⟩ (.slice a2 TB.length c2) = WF at *
  exact bodyPost_ret (v := .tuple #[.agg #[.int .i64 y.co, .slice a1 WB.length c1, .slice a2 TB.length c2], .int .i64 0]) (by simp [results, Tryz.results36, go_sem, g0, g1, g2]) rfl HF.out
 ·have h1 : outC l day id = 0 := by unfold outC; rw [if_neg h0]
  have h2 : outW l day id = [] := by unfold outW; rw [if_neg h0]
  have h3 : outT l day id = [] := by unfold outT; rw [if_neg h0]
  generalize lookE l day id = E at *
  have e2 : (E != 0) = true := by simpa using h0
  have HF := Lib.hid (fun w' hb => HP.out w' (.slice none 0 0) (.slice none 0 0) E 0 [] [] rfl h1 h2 h3 hb (World.ownsRow_nil _ _ _ _) (World.ownsRow_nil _ _ _ _))
  generalize lookZ l day id = y at *
  generalize lookR l day id = S at *
  simp only [Shd.v, Shd.cs] at hL
  clear h0 h1 h2 h3 HP
  go_enter Tryz.func36, Tryz.ntmps36
  go_wp2_with (go_at_call 82; (with_reducible refine hL.mono ?_); rintro e w2 ⟨v, rfl, hb2, ho2⟩; obtain ⟨va, vc, rfl, _⟩ := owns_slice ho2; have hR2 := alKeep (o' := Obj.cells #[.int .i64 y.id, .string y.wa, .int .i64 y.pit, .int .i64 y.ly, .int .i64 y.co, .bool y.ft] 72) ((hb2.block w.heap.size (by simp)).trans hR0); obtain ⟨q0, q1, q2, qf, ql⟩ := cell3s hR2)
  obtain ⟨k1, k2⟩ := set3 hR2 (.int .i64 0) (.slice none 0 0) (.slice none 0 0)
  have hB2 := (hB0.ch2 hb2).ch2 (one_alloc w2 (Obj.cells #[.int .i64 y.id, .string y.wa, .int .i64 y.pit, .int .i64 y.ly, .int .i64 y.co, .bool y.ft] 72))
  have hBF := hB2.trans (k2.belowE_w hB2.size (by simp))
  obtain ⟨g0, g1, g2, gf, gl⟩ := cell3s k1
  have HF2 := Lib.hid (HF.out _ hBF)
  clear hBF k1 k2 ho2 hR2 q0 q1 q2 qf ql hb2 hB2
  generalize (((w2.alloc (Obj.cells #[.int .i64 y.id, .string y.wa, .int .i64 y.pit, .int .i64 y.ly, .int .i64 y.co, .bool y.ft] 72)).setCell ⟨w.heap.size, 0, none⟩ (.int .i64 0)).setCell ⟨w.heap.size, 1, none⟩ (.slice none 0 0)).setCell ⟨w.heap.size, 2, none⟩ (.slice none 0 0) = WF at *
  exact bodyPost_ret (v := .tuple #[.agg #[.int .i64 0, .slice none 0 0, .slice none 0 0], .int .i64 E]) (by simp [results, Tryz.results36, go_sem, g0, g1, g2]) rfl HF2.out
end Go.Proofs.YtelkcohhagblaaaGreat
namespace Go.Proofs.YtelkcohhagblaaaGreat
open Go
theorem gi_takeS {l : List Int} {n : Nat} {i : Int} (h0 : 0 ≤ i) (h : i.toNat < n) : gi (l.take n) i = gi l i := by
 unfold gi
 rw [List.getD_eq_getElem?_getD, List.getD_eq_getElem?_getD, List.getElem?_take_of_lt h]
/-- What is attained: the length, the difference, the bounds kept. -/
theorem att_val {p : Int} {bs : List Bd} {x y n : Int} (hE : askE p bs x y = 0) (hn : nearB n = true) (hxy : x ≠ y) (hF : attF p bs x y n = true) :
 ((solR p (attT bs x y n)).length : Int) = p ∧ gi (solR p (attT bs x y n)) y - gi (solR p (attT bs x y n)) x = n ∧ (-100000000000 ≤ gi (solR p (attT bs x y n)) x ∧ gi (solR p (attT bs x y n)) x ≤ 100000000000) ∧ (-100000000000 ≤ gi (solR p (attT bs x y n)) y ∧ gi (solR p (attT bs x y n)) y ≤ 100000000000) ∧
   ∃ z : Int → Int, keepsB bs z ∧ z y - z x = n := by
 obtain ⟨hc, hb, hok⟩ := askE_zero hE
 obtain ⟨⟨x0, x1⟩, y0, y1⟩ := both_in hb
 have hs := Sys.of_chk hc
 have hp1 := hs.p1
 have hp2 := hs.p2
 have hT : attT bs x y n = bs ++ [⟨x, y, n, 0⟩, ⟨y, x, -n, 0⟩] := by unfold attT; rw [if_neg hxy]
 have hF2 : okB p (bs ++ [⟨x, y, n, 0⟩, ⟨y, x, -n, 0⟩]) = true := by unfold attF at hF; rw [hT] at hF; simp [hxy] at hF; exact hF
 rw [hT]
 have hst := hs.tied (chk_400' hc) hb hn
 have hz := okB_keeps hst hF2
 have hd := tied_diff hz
 have hlx := tied_low hc hok hb hn hF2 x0 x1
 have hly := tied_low hc hok hb hn hF2 y0 y1
 have hhx := sol_le hst x0 (by omega)
 have hhy := sol_le hst y0 (by omega)
 have hlen : ((solR p (bs ++ [⟨x, y, n, 0⟩, ⟨y, x, -n, 0⟩])).length : Int) = p := by
  rw [solR_len _ ⟨hp1, hp2⟩]; omega
 refine ⟨hlen, ?_⟩
 unfold solR
 rw [gi_takeS y0 (by omega), gi_takeS x0 (by omega)]
 exact ⟨hd, ⟨by omega, by omega⟩, ⟨by omega, by omega⟩, _, fun b hb => hz b (List.mem_append_left _ hb), hd⟩
/-- Ways grow by one at least from corner to corner. -/
theorem ways_grow {co : Int} {ms : List Itm} {z : Int → Int} (h : keepsB (waysB co ms) z) (i : Nat) : ∀ d : Nat, i + d ≤ co.toNat → (d : Int) ≤ z ((i + d : Nat) : Int) - z (i : Int)
 | 0, _ => by simp
 | d + 1, hd => by
   have ih := ways_grow h i d (by omega)
   have hb : (⟨((i + d : Nat) : Int) + 1, ((i + d : Nat) : Int), -1, 0⟩ : Bd) ∈ waysB co ms := by
    unfold waysB sidesL
    refine List.mem_append_left _ (List.mem_map.2 ⟨i + d, List.mem_range.2 (by omega), rfl⟩)
   have := h _ hb
   simp only at this
   have e : ((i + (d + 1) : Nat) : Int) = ((i + d : Nat) : Int) + 1 := by omega
   rw [e]
   omega
theorem nearB_of {n : Int} (h1 : -100000000 ≤ n) (h2 : n ≤ 100000000) : nearB n = true := nearB_iff.2 ⟨h1, h2⟩
/-- A way attained. -/
theorem way_att {l : List Itm} {day id fr tw n : Int} (h : wayE l day id fr tw = 0) (hn : nearB n = true) :
 attE (wayP l day id) (wayB l day id) fr tw n = 0 ∧ (wayK l day id fr tw = true → attF (wayP l day id) (wayB l day id) fr tw n = (decide (wayLo l day id fr tw ≤ n) && decide (n ≤ wayHi l day id fr tw))) ∧
  (attF (wayP l day id) (wayB l day id) fr tw n = true → 1 ≤ n) := by
 have hw := way_ok h
 obtain ⟨a1, a2⟩ := hw.ask
 obtain ⟨q0, q1, q2⟩ := askE_zero a1
 have hp : wayP l day id = (lookS l day id).co + 1 := rfl
 refine ⟨by unfold attE; rw [if_pos q0, if_pos q1, if_pos hn, if_pos q2], fun hk => ?_, fun hF => ?_⟩
 ·rw [attF_iff a1 hn]
  have hb := hw.back
  have b1 : grB (wayP l day id) (wayB l day id) fr tw = true := by unfold wayK at hk; rw [Bool.and_eq_true] at hk; exact hk.2
  have b2 : grB (wayP l day id) (wayB l day id) tw fr = true := by unfold grB; simp only [decide_eq_true_eq]; exact ⟨a2, by omega⟩
  have hl : wayLo l day id fr tw = - grN (wayP l day id) (wayB l day id) tw fr := by unfold wayLo; rw [if_pos hk]
  have hh : wayHi l day id fr tw = grN (wayP l day id) (wayB l day id) fr tw := by unfold wayHi; rw [if_pos hk]
  rw [b1, b2, hl, hh, Bool.and_comm]
  simp
 ·obtain ⟨_, _, _, _, z, hz, hd⟩ := att_val a1 hn (by have := hw.pl; omega) hF
  have := ways_grow hz fr.toNat (tw - fr).toNat (by have := hw.pf; have := hw.pl; have := hw.pt; omega)
  have h1 := hw.pf
  have h2 := hw.pl
  rw [show ((fr.toNat + (tw - fr).toNat : Nat) : Int) = tw by omega, show ((fr.toNat : Nat) : Int) = fr by omega] at this
  omega
/-- A turn attained. -/
theorem turn_att {l : List Itm} {day id fr tw n : Int} (h : turnE l day id fr tw = 0) (hn : nearB n = true) :
 attE (turnP l day id) (turnB l day id) fr tw n = 0 ∧ attF (turnP l day id) (turnB l day id) fr tw n = (decide (turnLo l day id fr tw ≤ n) && decide (n ≤ turnHi l day id fr tw)) := by
 have hw := turn_ok h
 have hp : turnP l day id = (lookS l day id).co := rfl
 have k1 := hw.pf
 have k2 := hw.pl
 have k3 := hw.pt
 have a1 := askE_in hw.look.turns hw.ok (x := fr) (y := tw) (by omega) (by omega) (by omega) (by omega)
 have a2 := askE_in hw.look.turns hw.ok (x := tw) (y := fr) (by omega) (by omega) (by omega) (by omega)
 obtain ⟨q0, q1, q2⟩ := askE_zero a1
 refine ⟨by unfold attE; rw [if_pos q0, if_pos q1, if_pos hn, if_pos q2], ?_⟩
 rw [attF_iff a1 hn]
 have hf := hw.far
 have b1 : grB (turnP l day id) (turnB l day id) fr tw = true := by unfold grB; simp only [decide_eq_true_eq]; exact ⟨a1, by omega⟩
 have b2 : grB (turnP l day id) (turnB l day id) tw fr = true := by unfold grB; simp only [decide_eq_true_eq]; exact ⟨a2, by omega⟩
 have hl : turnLo l day id fr tw = - grN (turnP l day id) (turnB l day id) tw fr := by unfold turnLo; rw [if_pos h]
 have hh : turnHi l day id fr tw = grN (turnP l day id) (turnB l day id) fr tw := by unfold turnHi; rw [if_pos h]
 rw [b1, b2, hl, hh, Bool.and_comm]
 simp
theorem turn_ask {l : List Itm} {day id fr tw : Int} (h : turnE l day id fr tw = 0) : askE (turnP l day id) (turnB l day id) fr tw = 0 := by
 have hw := turn_ok h
 have hp : turnP l day id = (lookS l day id).co := rfl
 have k1 := hw.pf
 have k2 := hw.pl
 have k3 := hw.pt
 have a1 := askE_in hw.look.turns hw.ok (x := fr) (y := tw) (by omega) (by omega) (by omega) (by omega)
 exact a1
end Go.Proofs.YtelkcohhagblaaaGreat
namespace Go.Proofs.YtelkcohhagblaaaGreat
open Go.RowKit Go.Shelf
set_option maxHeartbeats 8000000
set_option maxRecDepth 100000
def attY (p : Int) (bs : List Bd) (x y n : Int) : List Int := if attF p bs x y n then solR p (attT bs x y n) else []
theorem sAtt (p : Int) (a : Option Addr) (c : Nat) (bs : List Bd) (x y n : Int) (w : World) (hb : BdsAt w a bs.length c bs) (hA : attE p bs x y n = 0) (hp : 1 ≤ p ∧ p ≤ 60) :
 Calls Tryz.prog 52 #[.agg #[.int .i64 p, .slice a bs.length c], .int .i64 x, .int .i64 y, .int .i64 n] w fun e w' => ∃ v, e = .returned (.tuple #[v, .bool (attF p bs x y n), .int .i64 0]) ∧ Below w.heap.size w w' ∧
  w'.ownsRow w.heap.size 3 1 v (attY p bs x y n).length ((attY p bs x y n).map (.int .i64)) := by
 have h := gAttain_any p a _ c bs x y n w hb
 rw [hA] at h
 simp only [decide_true, Bool.true_and] at h
 refine h.mono ?_
 rintro e w' ⟨v, rfl, hb2, h1, h2⟩
 refine ⟨v, rfl, hb2, ?_⟩
 unfold attY
 cases hF : attF p bs x y n with
 | false =>
   rw [h1 hF]
   exact World.ownsRow_nil _ _ _ _
 | true =>
   have := h2 hF
   rw [if_pos rfl, solR_len _ hp]
   exact this
theorem lsharpS (a : Option Addr) (n cap : Nat) (l : List Itm) (day id fr tw m : Int) (w : World) (h : ItmsAt w a n cap l) (hcap : l.length ≤ cap) :
 Calls Tryz.prog 11 #[.slice a n cap, .int .i64 day, .int .i64 id, .int .i64 fr, .int .i64 tw, .int .i64 m] w fun e w' => e = .returned (.bool true) ∧ Below w.heap.size w w' := by
 have hSh := fun W => lshelved W
 have hFe := lfew 25 a n cap l w h (by omega)
 have h25 : ((25 : Nat) : Int) = 25 := rfl
 rw [h25] at hFe
 have tok1 : True := trivial
 have tok2 : True := trivial
 cases hF : fewB l 25 with
 | false =>
   rw [hF] at hFe
   clear hF
   go_enter Tryz.func11, Tryz.ntmps11
   go_wp2_with (first
    | (go_at_call 18; (with_reducible refine hFe.mono ?_); rintro e w1 ⟨rfl, hb⟩; have hi := h.below hb; have hB := hb)
    | (go_at_call 20; (with_reducible refine (hSh _).mono ?_); rintro e w9 ⟨rfl, hb⟩; have hB := hB.ch2 hb))
   go_ret
   exact ⟨rfl, hB⟩
 | true =>
   rw [hF] at hFe
   clear hF
   by_cases m1 : -100000000 ≤ m
   ·by_cases m2 : m ≤ 100000000
    ·have hn := nearB_of m1 m2
     have hOu := fun W hi => sOutline_any a n cap l day id W hi hcap
     have hWy := fun W hi => sWay_any soutline a n cap l day id fr tw W hi hcap
     have hTn := fun W hi => sTurn_any soutline a n cap l day id fr tw W hi hcap
     unfold OutE at hOu
     unfold QuadI at hWy
     unfold TriI at hTn
     by_cases h0 : lookE l day id = 0
     ·have hlk := look_ok h0
      have hco := hlk.co
      have hck := hlk.ways
      have hct := hlk.turns
      have hwl := chk_len hck
      have htl := chk_len hct
      have hC : outC l day id = (lookS l day id).co := by unfold outC; rw [if_pos h0]
      have hW : outW l day id = wayB l day id := by unfold outW; rw [if_pos h0]
      have hT : outT l day id = turnB l day id := by unfold outT; rw [if_pos h0]
      have hpW : wayP l day id = (lookS l day id).co + 1 := rfl
      have hpT : turnP l day id = (lookS l day id).co := rfl
      rw [h0, hC, hW, hT] at hOu
      have hWA := fun hh => way_att (l := l) (day := day) (id := id) (fr := fr) (tw := tw) hh hn
      have hTA := fun hh => turn_att (l := l) (day := day) (id := id) (fr := fr) (tw := tw) hh hn
      have hrg : rngB (lookS l day id).co 3 16 = true := rngB_iff.2 hco
      have hWs := fun W a1 c1 a2 c2 (h1 : BdsAt W a1 (wayB l day id).length c1 (wayB l day id)) (h2 : BdsAt W a2 (turnB l day id).length c2 (turnB l day id)) => sWays_any (lookS l day id).co a1 _ c1 _ a2 _ c2 _ W (by omega) h1 h2 ⟨by omega, by omega⟩
      have hTs := fun W a1 c1 a2 c2 (h1 : BdsAt W a1 (wayB l day id).length c1 (wayB l day id)) (h2 : BdsAt W a2 (turnB l day id).length c2 (turnB l day id)) => sTurns_any (lookS l day id).co a1 _ c1 _ a2 _ c2 _ W (by omega) h1 h2 ⟨by omega, by omega⟩
      unfold SysPost sysIf sysBs at hWs hTs
      simp only [hrg, if_true] at hWs hTs
      have hA1 := fun (hE : wayE l day id fr tw = 0) W a c (hb : BdsAt W a (wayB l day id).length c (wayB l day id)) => sAtt ((lookS l day id).co + 1) a c (wayB l day id) fr tw m W hb (by rw [← hpW]; exact (hWA hE).1) (by omega)
      have hA2 := fun (hE : turnE l day id fr tw = 0) W a c (hb : BdsAt W a (turnB l day id).length c (turnB l day id)) => sAtt (lookS l day id).co a c (turnB l day id) fr tw m W hb (by rw [← hpT]; exact (hTA hE).1) (by omega)
      have HWf := Lib.hid (fun hh => (hWA hh).2)
      have HTf := Lib.hid (fun hh => (hTA hh).2)
      have HWv := Lib.hid (fun (hE : wayE l day id fr tw = 0) (hF : attF (wayP l day id) (wayB l day id) fr tw m = true) => And.intro (att_val (way_ok hE).ask.1 hn (by have := (way_ok hE).pl; omega) hF) (And.intro (way_ok hE).pf (And.intro (way_ok hE).pl (way_ok hE).pt)))
      rw [hpW] at HWf HWv
      have HTv := Lib.hid (fun (hE : turnE l day id fr tw = 0) (hF : attF (turnP l day id) (turnB l day id) fr tw m = true) => And.intro (att_val (turn_ask hE) hn (by have := (turn_ok hE).pl; omega) hF) (And.intro (turn_ok hE).pf (And.intro (turn_ok hE).pl (turn_ok hE).pt)))
      rw [hpT] at HTv
      rw [hpT] at HTf
      obtain ⟨CO, hCO⟩ : ∃ C, (lookS l day id).co = C := ⟨_, rfl⟩
      rw [hCO] at hOu hWs hTs hA1 hA2 HWf HTf HWv HTv hco
      clear hlk hck hct hC hW hT hpW hpT hWA hTA hrg hCO
      generalize wayB l day id = WB at *
      generalize turnB l day id = TB at *
      generalize wayLo l day id fr tw = lo at *
      generalize wayHi l day id fr tw = hi' at *
      generalize wayK l day id fr tw = K at *
      generalize wayE l day id fr tw = E1 at *
      generalize turnLo l day id fr tw = tl at *
      generalize turnHi l day id fr tw = th at *
      generalize turnE l day id fr tw = E2 at *
      go_enter Tryz.func11, Tryz.ntmps11
      go_upto_if 59 with (first
       | (go_at_call 18; (with_reducible refine hFe.mono ?_); rintro e w1 ⟨rfl, hb⟩; have hi := h.below hb; have hB := hb)
       | (go_at_call 36; (with_reducible refine (hOu _ hi).mono ?_); rintro e w2 ⟨v1, v2, rfl, hb, ho1, ho2⟩; obtain ⟨oa, oc, rfl, _⟩ := owns_slice ho1; obtain ⟨pa, pc, rfl, _⟩ := owns_slice ho2; have hal := one_alloc w2 (Obj.cells #[.int .i64 CO, .slice oa WB.length oc, .slice pa TB.length pc] 52); have hi := (hi.below hb).below hal; have hB := (hB.ch2 hb).ch2 hal; have hO := World.alloc_heap_new w2 (Obj.cells #[.int .i64 CO, .slice oa WB.length oc, .slice pa TB.length pc] 52); have hq1 := (BdsAt.of_owns ho1 (by omega)).below hal; have hq2 := (BdsAt.of_owns ho2 (by omega)).below hal)
       | (go_at_call 28; (with_reducible refine (hWy _ hi).mono ?_); rintro e w3 ⟨rfl, hb⟩; have hi := hi.below hb; have hB := hB.ch2 hb; have hO := (hb.block _ (Array.getElem?_eq_some_iff.1 hO).1).trans hO; have hq1 := hq1.below hb; have hq2 := hq2.below hb; obtain ⟨q0, q1, q2, qf, ql⟩ := cell3s hO))
      go_cut [19, 20, 21] (fun _ _ _ wx => Below w3.heap.size w3 wx)
      case first =>
       as_aux_lemma =>
       by_cases c1 : E1 = 0
       ·subst c1
        have hA := hA1 rfl
        have hF1 := HWf.out rfl
        have hV1 := HWv.out rfl
        obtain ⟨hF1, hF2⟩ := hF1
        have hB : Below w3.heap.size w3 w3 := Below.refl _ _
        obtain ⟨Y, hY⟩ : ∃ Y, attY (CO + 1) WB fr tw m = Y := ⟨_, rfl⟩
        rw [hY] at hA
        have hYl : Y.length ≤ 100 := by
         rw [← hY]
         unfold attY
         split
         ·rw [solR_len _ ⟨by omega, by omega⟩]; omega
         ·simp
        unfold attY at hY
        clear hTn hTs hA2 HTf HTv HWf HWv hOu hFe hSh hWy hA1
        have hA1 := hA
        clear hA
        cases hF : attF (CO + 1) WB fr tw m with
        | false =>
          rw [hF] at hF1 hA1
          have hK : K = false ∨ (K = true ∧ decide (lo ≤ m) = false) ∨ (K = true ∧ decide (lo ≤ m) = true ∧ decide (m ≤ hi') = false) := by
           cases K with
           | false => exact .inl rfl
           | true =>
             have h1 := hF1 rfl
             by_cases k1 : lo ≤ m
             ·by_cases k2 : m ≤ hi'
              ·simp [k1, k2] at h1
              ·exact .inr (.inr ⟨rfl, by simpa using k1, by simpa using k2⟩)
             ·exact .inr (.inl ⟨rfl, by simpa using k1⟩)
          clear hF1 hF2 hV1 hY hF
          rcases hK with rfl | ⟨rfl, k1⟩ | ⟨rfl, k1, k2⟩
          ·go_wp2_with (first
            | (go_at_call 39; (with_reducible refine (hWs _ oa oc pa pc hq1 hq2).mono ?_); rintro e w4 ⟨v4, rfl, hb, ho4⟩; obtain ⟨ra, rc, rfl, _⟩ := owns_slice ho4; have hs4 := BdsAt.of_owns ho4 (by omega); have hi := hi.below hb; have hB := hB.ch2 hb; have hO := (hb.block _ (Array.getElem?_eq_some_iff.1 hO).1).trans hO; have hq1 := hq1.below hb; have hq2 := hq2.below hb)
            | (go_at_call 52; clear tok1; (with_reducible refine (hA1 _ ra rc hs4).mono ?_); rintro e w5 ⟨v5, rfl, hb, ho5⟩; obtain ⟨ya, yc, rfl, _⟩ := owns_slice ho5; have hY1 := IntsAt.of_owns ho5 (by omega); have hi := hi.below hb; have hB := hB.ch2 hb; have hO := (hb.block _ (Array.getElem?_eq_some_iff.1 hO).1).trans hO; have hq1 := hq1.below hb; have hq2 := hq2.below hb; clear q0 q1 q2 qf ql; obtain ⟨q0, q1, q2, qf, ql⟩ := cell3s hO))
           clear hA1 hWs hq1 hq2 hs4 ho4 hY1 ho5
           apply SLG.rule0 ?hm1 [] [70, 71, 72, 73, 74, 75, 76, 77, 78, 79, 80, 81, 82, 83, 84, 85, 86, 87, 88, 89, 90, 91, 92, 93, 94, 95, 96, 97, 98, 99, 100, 101, 102, 103, 104, 105, 106, 107, 108, 109, 110, 111, 112, 113, 114] [SLF.pq 70 [] _, SLF.pq 71 [0] _, SLF.pq 72 [1] _, SLF.pq 73 [2] _, SLF.pq 74 [2, 3] _, SLF.pq 75 [4] _, SLF.pq 76 [4] _, SLF.pq 77 [4] _, SLF.pq 78 [4, 6, 7] _, SLF.pq 79 [4, 8] _, SLF.pq 80 [9] _, SLF.pq 81 [9] _, SLF.pq 82 [9, 10, 11] _, SLF.pq 83 [4, 9, 12] _, SLF.pq 84 [4, 5, 13] _, SLF.pq 85 [2, 4, 14] _, SLF.pq 86 [2, 15] _, SLF.pq 87 [16] _, SLF.pq 88 [17] _, SLF.pq 89 [17, 18] _, SLF.pq 90 [19] _, SLF.pq 91 [19, 20] _, SLF.pq 92 [19] _, SLF.pq 93 [19, 22] _, SLF.pq 94 [19, 23] _, SLF.pq 95 [19, 21, 24] _, SLF.pq 96 [19, 25] _, SLF.pq 97 [26] _, SLF.pq 98 [26] _, SLF.pq 99 [26, 27, 28] _, SLF.pq 100 [26, 29] _, SLF.pq 101 [26] _, SLF.pq 102 [26] _, SLF.pq 103 [26, 31, 32] _, SLF.pq 104 [26, 33] _, SLF.pq 105 [26, 30, 34] _, SLF.pq 106 [26] _, SLF.pq 107 [26, 35, 36] _, SLF.pq 108 [19, 26, 37] _, SLF.pq 109 [19, 38] _, SLF.pq 110 [39] _, SLF.pq 111 [39, 40] _, SLF.pq 112 [19, 39, 41] _, SLF.pq 113 [17, 19, 42] _, SLF.pq 114 [17, 43] _] [44] ?hck1 ?hkp1 (fun _ => []) ?hin1 ?hdj1 ?hfr1 ?ob1 ?en1
           case hm1 => kernel_rfl
           case hin1 => exact SL.none_held rfl
           case hdj1 => simp
           case hfr1 => intro us; simp only [SL.frame, SL.put']; simp; exact rfl
           case ob1 =>
            refine ⟨?_, ?_, ?_, ?_, ?_, ?_, ?_, ?_, ?_, ?_, ?_, ?_, ?_, ?_, ?_, ?_, ?_, ?_, ?_, ?_, ?_, ?_, ?_, ?_, ?_, ?_, ?_, ?_, ?_, ?_, ?_, ?_, ?_, ?_, ?_, ?_, ?_, ?_, ?_, ?_, ?_, ?_, ?_, ?_, ?_, trivial⟩
            all_goals first
             | (intro us w' Fe hG hu hd hv Kx hK
                try dsimp only
                simp [SL.O] at hu hK
                have hB5 : Below w5.heap.size w5 w' := hG.below'
                obtain ⟨hc5, hf5⟩ := bcell hB5
                have hs5 := hB5.size
                clear hv hG
                first
                 | (refine SLF.wpo_do (SLF.wanted_free rfl) ?hd1 ?_; (case hd1 => intro c h; cases h))
                 | (refine SLF.wpo_do (SLF.wanted_by rfl rfl ?hv1) ?hd1 ?_; (case hv1 => simp [hu]; done); (case hd1 => intro c h; cases h))
                 | (refine' SLF.wpo_not (SLG.wanted_not rfl rfl ?hv1 ?hn1) ?_; (case hv1 => simp [hu]; exact rfl); (case hn1 => first | (simp; done) | (simp [undef]; done)))
                clear hd
                first
                 | (go_step; exact hK _ _ _ (SL.Chg.refl _ _) (by first | exact rfl | (simp only [hu]; exact rfl)) rfl (by simp) rfl)
                 | exact hK _ _ _ (SL.Chg.refl _ _) rfl rfl (by simp) rfl)
             | skip
           case hck1 => kernel_rfl
           case hkp1 => kernel_rfl
           intro us w7 Fs hG hu hbd hd
           simp [SL.Used, SLF.pq] at hu
           obtain ⟨h44, _⟩ := hu
           rw [h44]
           have hB7 := hB.ch2 hG.below'
           clear hG hbd hd h44
           go_wp2_with fail
           go_meet
           exact hB7
          ·go_wp2_with (first
            | (go_at_call 39; (with_reducible refine (hWs _ oa oc pa pc hq1 hq2).mono ?_); rintro e w4 ⟨v4, rfl, hb, ho4⟩; obtain ⟨ra, rc, rfl, _⟩ := owns_slice ho4; have hs4 := BdsAt.of_owns ho4 (by omega); have hi := hi.below hb; have hB := hB.ch2 hb; have hO := (hb.block _ (Array.getElem?_eq_some_iff.1 hO).1).trans hO; have hq1 := hq1.below hb; have hq2 := hq2.below hb)
            | (go_at_call 52; clear tok1; (with_reducible refine (hA1 _ ra rc hs4).mono ?_); rintro e w5 ⟨v5, rfl, hb, ho5⟩; obtain ⟨ya, yc, rfl, _⟩ := owns_slice ho5; have hY1 := IntsAt.of_owns ho5 (by omega); have hi := hi.below hb; have hB := hB.ch2 hb; have hO := (hb.block _ (Array.getElem?_eq_some_iff.1 hO).1).trans hO; have hq1 := hq1.below hb; have hq2 := hq2.below hb; clear q0 q1 q2 qf ql; obtain ⟨q0, q1, q2, qf, ql⟩ := cell3s hO))
           clear hA1 hWs hq1 hq2 hs4 ho4 hY1 ho5
           apply SLG.rule0 ?hm2 [] [70, 71, 72, 73, 74, 75, 76, 77, 78, 79, 80, 81, 82, 83, 84, 85, 86, 87, 88, 89, 90, 91, 92, 93, 94, 95, 96, 97, 98, 99, 100, 101, 102, 103, 104, 105, 106, 107, 108, 109, 110, 111, 112, 113, 114] [SLF.pq 70 [] _, SLF.pq 71 [0] _, SLF.pq 72 [1] _, SLF.pq 73 [2] _, SLF.pq 74 [2, 3] _, SLF.pq 75 [4] _, SLF.pq 76 [4] _, SLF.pq 77 [4] _, SLF.pq 78 [4, 6, 7] _, SLF.pq 79 [4, 8] _, SLF.pq 80 [9] _, SLF.pq 81 [9] _, SLF.pq 82 [9, 10, 11] _, SLF.pq 83 [4, 9, 12] _, SLF.pq 84 [4, 5, 13] _, SLF.pq 85 [2, 4, 14] _, SLF.pq 86 [2, 15] _, SLF.pq 87 [16] _, SLF.pq 88 [17] _, SLF.pq 89 [17, 18] _, SLF.pq 90 [19] _, SLF.pq 91 [19, 20] _, SLF.pq 92 [19] _, SLF.pq 93 [19, 22] _, SLF.pq 94 [19, 23] _, SLF.pq 95 [19, 21, 24] _, SLF.pq 96 [19, 25] _, SLF.pq 97 [26] _, SLF.pq 98 [26] _, SLF.pq 99 [26, 27, 28] _, SLF.pq 100 [26, 29] _, SLF.pq 101 [26] _, SLF.pq 102 [26] _, SLF.pq 103 [26, 31, 32] _, SLF.pq 104 [26, 33] _, SLF.pq 105 [26, 30, 34] _, SLF.pq 106 [26] _, SLF.pq 107 [26, 35, 36] _, SLF.pq 108 [19, 26, 37] _, SLF.pq 109 [19, 38] _, SLF.pq 110 [39] _, SLF.pq 111 [39, 40] _, SLF.pq 112 [19, 39, 41] _, SLF.pq 113 [17, 19, 42] _, SLF.pq 114 [17, 43] _] [44] ?hck2 ?hkp2 (fun _ => []) ?hin2 ?hdj2 ?hfr2 ?ob2 ?en2
           case hm2 => kernel_rfl
           case hin2 => exact SL.none_held rfl
           case hdj2 => simp
           case hfr2 => intro us; simp only [SL.frame, SL.put']; simp; exact rfl
           case ob2 =>
            refine ⟨?_, ?_, ?_, ?_, ?_, ?_, ?_, ?_, ?_, ?_, ?_, ?_, ?_, ?_, ?_, ?_, ?_, ?_, ?_, ?_, ?_, ?_, ?_, ?_, ?_, ?_, ?_, ?_, ?_, ?_, ?_, ?_, ?_, ?_, ?_, ?_, ?_, ?_, ?_, ?_, ?_, ?_, ?_, ?_, ?_, trivial⟩
            all_goals first
             | (intro us w' Fe hG hu hd hv Kx hK
                try dsimp only
                simp [SL.O] at hu hK
                have hB5 : Below w5.heap.size w5 w' := hG.below'
                obtain ⟨hc5, hf5⟩ := bcell hB5
                have hs5 := hB5.size
                clear hv hG
                first
                 | (refine SLF.wpo_do (SLF.wanted_free rfl) ?hd2 ?_; (case hd2 => intro c h; cases h))
                 | (refine SLF.wpo_do (SLF.wanted_by rfl rfl ?hv2) ?hd2 ?_; (case hv2 => simp [hu]; done); (case hd2 => intro c h; cases h))
                 | (refine' SLF.wpo_not (SLG.wanted_not rfl rfl ?hv2 ?hn2) ?_; (case hv2 => simp [hu]; exact rfl); (case hn2 => first | (simp; done) | (simp [undef]; done)))
                clear hd
                first
                 | (go_step; exact hK _ _ _ (SL.Chg.refl _ _) (by first | exact rfl | (simp only [hu]; exact rfl)) rfl (by simp) rfl)
                 | exact hK _ _ _ (SL.Chg.refl _ _) rfl rfl (by simp) rfl)
             | skip
           case hck2 => kernel_rfl
           case hkp2 => kernel_rfl
           intro us w7 Fs hG hu hbd hd
           simp [SL.Used, SLF.pq] at hu
           obtain ⟨h44, _⟩ := hu
           rw [h44]
           have hB7 := hB.ch2 hG.below'
           clear hG hbd hd h44
           go_wp2_with fail
           go_meet
           exact hB7
          ·go_wp2_with (first
            | (go_at_call 39; (with_reducible refine (hWs _ oa oc pa pc hq1 hq2).mono ?_); rintro e w4 ⟨v4, rfl, hb, ho4⟩; obtain ⟨ra, rc, rfl, _⟩ := owns_slice ho4; have hs4 := BdsAt.of_owns ho4 (by omega); have hi := hi.below hb; have hB := hB.ch2 hb; have hO := (hb.block _ (Array.getElem?_eq_some_iff.1 hO).1).trans hO; have hq1 := hq1.below hb; have hq2 := hq2.below hb)
            | (go_at_call 52; clear tok1; (with_reducible refine (hA1 _ ra rc hs4).mono ?_); rintro e w5 ⟨v5, rfl, hb, ho5⟩; obtain ⟨ya, yc, rfl, _⟩ := owns_slice ho5; have hY1 := IntsAt.of_owns ho5 (by omega); have hi := hi.below hb; have hB := hB.ch2 hb; have hO := (hb.block _ (Array.getElem?_eq_some_iff.1 hO).1).trans hO; have hq1 := hq1.below hb; have hq2 := hq2.below hb; clear q0 q1 q2 qf ql; obtain ⟨q0, q1, q2, qf, ql⟩ := cell3s hO))
           clear hA1 hWs hq1 hq2 hs4 ho4 hY1 ho5
           apply SLG.rule0 ?hm3 [] [70, 71, 72, 73, 74, 75, 76, 77, 78, 79, 80, 81, 82, 83, 84, 85, 86, 87, 88, 89, 90, 91, 92, 93, 94, 95, 96, 97, 98, 99, 100, 101, 102, 103, 104, 105, 106, 107, 108, 109, 110, 111, 112, 113, 114] [SLF.pq 70 [] _, SLF.pq 71 [0] _, SLF.pq 72 [1] _, SLF.pq 73 [2] _, SLF.pq 74 [2, 3] _, SLF.pq 75 [4] _, SLF.pq 76 [4] _, SLF.pq 77 [4] _, SLF.pq 78 [4, 6, 7] _, SLF.pq 79 [4, 8] _, SLF.pq 80 [9] _, SLF.pq 81 [9] _, SLF.pq 82 [9, 10, 11] _, SLF.pq 83 [4, 9, 12] _, SLF.pq 84 [4, 5, 13] _, SLF.pq 85 [2, 4, 14] _, SLF.pq 86 [2, 15] _, SLF.pq 87 [16] _, SLF.pq 88 [17] _, SLF.pq 89 [17, 18] _, SLF.pq 90 [19] _, SLF.pq 91 [19, 20] _, SLF.pq 92 [19] _, SLF.pq 93 [19, 22] _, SLF.pq 94 [19, 23] _, SLF.pq 95 [19, 21, 24] _, SLF.pq 96 [19, 25] _, SLF.pq 97 [26] _, SLF.pq 98 [26] _, SLF.pq 99 [26, 27, 28] _, SLF.pq 100 [26, 29] _, SLF.pq 101 [26] _, SLF.pq 102 [26] _, SLF.pq 103 [26, 31, 32] _, SLF.pq 104 [26, 33] _, SLF.pq 105 [26, 30, 34] _, SLF.pq 106 [26] _, SLF.pq 107 [26, 35, 36] _, SLF.pq 108 [19, 26, 37] _, SLF.pq 109 [19, 38] _, SLF.pq 110 [39] _, SLF.pq 111 [39, 40] _, SLF.pq 112 [19, 39, 41] _, SLF.pq 113 [17, 19, 42] _, SLF.pq 114 [17, 43] _] [44] ?hck3 ?hkp3 (fun _ => []) ?hin3 ?hdj3 ?hfr3 ?ob3 ?en3
           case hm3 => kernel_rfl
           case hin3 => exact SL.none_held rfl
           case hdj3 => simp
           case hfr3 => intro us; simp only [SL.frame, SL.put']; simp; exact rfl
           case ob3 =>
            refine ⟨?_, ?_, ?_, ?_, ?_, ?_, ?_, ?_, ?_, ?_, ?_, ?_, ?_, ?_, ?_, ?_, ?_, ?_, ?_, ?_, ?_, ?_, ?_, ?_, ?_, ?_, ?_, ?_, ?_, ?_, ?_, ?_, ?_, ?_, ?_, ?_, ?_, ?_, ?_, ?_, ?_, ?_, ?_, ?_, ?_, trivial⟩
            all_goals first
             | (intro us w' Fe hG hu hd hv Kx hK
                try dsimp only
                simp [SL.O] at hu hK
                have hB5 : Below w5.heap.size w5 w' := hG.below'
                obtain ⟨hc5, hf5⟩ := bcell hB5
                have hs5 := hB5.size
                clear hv hG
                first
                 | (refine SLF.wpo_do (SLF.wanted_free rfl) ?hd3 ?_; (case hd3 => intro c h; cases h))
                 | (refine SLF.wpo_do (SLF.wanted_by rfl rfl ?hv3) ?hd3 ?_; (case hv3 => simp [hu]; done); (case hd3 => intro c h; cases h))
                 | (refine' SLF.wpo_not (SLG.wanted_not rfl rfl ?hv3 ?hn3) ?_; (case hv3 => simp [hu]; exact rfl); (case hn3 => first | (simp; done) | (simp [undef]; done)))
                clear hd
                first
                 | (go_step; exact hK _ _ _ (SL.Chg.refl _ _) (by first | exact rfl | (simp only [hu]; exact rfl)) rfl (by simp) rfl)
                 | exact hK _ _ _ (SL.Chg.refl _ _) rfl rfl (by simp) rfl)
             | skip
           case hck3 => kernel_rfl
           case hkp3 => kernel_rfl
           intro us w7 Fs hG hu hbd hd
           simp [SL.Used, SLF.pq] at hu
           obtain ⟨h44, _⟩ := hu
           rw [h44]
           have hB7 := hB.ch2 hG.below'
           clear hG hbd hd h44
           go_wp2_with fail
           go_meet
           exact hB7
        | true =>
          rw [hF] at hF1 hA1 hY
          have hpos := hF2 hF
          obtain ⟨⟨v1, v2, ⟨v3, v4⟩, ⟨v5, v6⟩, _⟩, v7, v8, v9⟩ := hV1 hF
          rw [if_pos rfl] at hY
          rw [hY] at v1 v2 v3 v4 v5 v6
          have hK : K = false ∨ (K = true ∧ decide (lo ≤ m) = true ∧ decide (m ≤ hi') = true) := by
           cases K with
           | false => exact .inl rfl
           | true =>
             have h1 := (hF1 rfl).symm
             rw [Bool.and_eq_true] at h1
             exact .inr ⟨rfl, h1⟩
          clear hF1 hF2 hV1 hY hF
          have n1 : decide (m < 1) = false := by simp; omega
          have e5 : ((Y.length : Int) != CO + 1) = false := by simp; omega
          have x1 : tw < (Y.length : Int) := by omega
          have x2 : fr < (Y.length : Int) := by omega
          have x3 : 0 ≤ tw := by omega
          have hwr : IntKind.i64.wrap (gi Y tw - gi Y fr) = gi Y tw - gi Y fr := IntWalk.i64_in _ (by omega)
          have e6 : ((gi Y tw - gi Y fr) != m) = false := by simp; omega
          have V1 := Lib.hid v1
          clear v1 v2
          rcases hK with rfl | ⟨rfl, k1, k2⟩
          ·go_wp2_with (first
            | (go_at_call 39; (with_reducible refine (hWs _ oa oc pa pc hq1 hq2).mono ?_); rintro e w4 ⟨v4, rfl, hb, ho4⟩; obtain ⟨ra, rc, rfl, _⟩ := owns_slice ho4; have hs4 := BdsAt.of_owns ho4 (by omega); have hi := hi.below hb; have hB := hB.ch2 hb; have hO := (hb.block _ (Array.getElem?_eq_some_iff.1 hO).1).trans hO; have hq1 := hq1.below hb; have hq2 := hq2.below hb)
            | (go_at_call 52; clear tok1; (with_reducible refine (hA1 _ ra rc hs4).mono ?_); rintro e w5 ⟨v5, rfl, hb, ho5⟩; obtain ⟨ya, yc, rfl, _⟩ := owns_slice ho5; have hY1 := IntsAt.of_owns ho5 (by omega); have hi := hi.below hb; have hB := hB.ch2 hb; have hO := (hb.block _ (Array.getElem?_eq_some_iff.1 hO).1).trans hO; have hq1 := hq1.below hb; have hq2 := hq2.below hb; clear q0 q1 q2 qf ql; obtain ⟨q0, q1, q2, qf, ql⟩ := cell3s hO))
           obtain ⟨yb, yo, rfl, yl, g1⟩ := hY1.get (i := tw.toNat) (by omega)
           obtain ⟨yb', yo', he, _, g2⟩ := hY1.get (i := fr.toNat) (by omega)
           simp at he
           obtain ⟨rfl, rfl⟩ := he
           rw [show Y.getD tw.toNat 0 = gi Y tw from rfl] at g1
           rw [show Y.getD fr.toNat 0 = gi Y fr from rfl] at g2
           generalize gi Y tw = Yt at *
           generalize gi Y fr = Yf at *
           clear hA1 hWs hq1 hq2 hs4 ho4 hY1 ho5
           apply SLG.rule0 ?hm4 [] [70, 71, 72, 73, 74, 75, 76, 77, 78, 79, 80, 81, 82, 83, 84, 85, 86, 87, 88, 89, 90, 91, 92, 93, 94, 95, 96, 97, 98, 99, 100, 101, 102, 103, 104, 105, 106, 107, 108, 109, 110, 111, 112, 113, 114] [SLF.pq 70 [] _, SLF.pq 71 [0] _, SLF.pq 72 [1] _, SLF.pq 73 [2] _, SLF.pq 74 [2, 3] _, SLF.pq 75 [4] _, SLF.pq 76 [4] _, SLF.pq 77 [4] _, SLF.pq 78 [4, 6, 7] _, SLF.pq 79 [4, 8] _, SLF.pq 80 [9] _, SLF.pq 81 [9] _, SLF.pq 82 [9, 10, 11] _, SLF.pq 83 [4, 9, 12] _, SLF.pq 84 [4, 5, 13] _, SLF.pq 85 [2, 4, 14] _, SLF.pq 86 [2, 15] _, SLF.pq 87 [16] _, SLF.pq 88 [17] _, SLF.pq 89 [17, 18] _, SLF.pq 90 [19] _, SLF.pq 91 [19, 20] _, SLF.pq 92 [19] _, SLF.pq 93 [19, 22] _, SLF.pq 94 [19, 23] _, SLF.pq 95 [19, 21, 24] _, SLF.pq 96 [19, 25] _, SLF.pq 97 [26] _, SLF.pq 98 [26] _, SLF.pq 99 [26, 27, 28] _, SLF.pq 100 [26, 29] _, SLF.pq 101 [26] _, SLF.pq 102 [26] _, SLF.pq 103 [26, 31, 32] _, SLF.pq 104 [26, 33] _, SLF.pq 105 [26, 30, 34] _, SLF.pq 106 [26] _, SLF.pq 107 [26, 35, 36] _, SLF.pq 108 [19, 26, 37] _, SLF.pq 109 [19, 38] _, SLF.pq 110 [39] _, SLF.pq 111 [39, 40] _, SLF.pq 112 [19, 39, 41] _, SLF.pq 113 [17, 19, 42] _, SLF.pq 114 [17, 43] _] [44] ?hck4 ?hkp4 (fun _ => []) ?hin4 ?hdj4 ?hfr4 ?ob4 ?en4
           case hm4 => kernel_rfl
           case hin4 => exact SL.none_held rfl
           case hdj4 => simp
           case hfr4 => intro us; simp only [SL.frame, SL.put']; simp; exact rfl
           case ob4 =>
            refine ⟨?_, ?_, ?_, ?_, ?_, ?_, ?_, ?_, ?_, ?_, ?_, ?_, ?_, ?_, ?_, ?_, ?_, ?_, ?_, ?_, ?_, ?_, ?_, ?_, ?_, ?_, ?_, ?_, ?_, ?_, ?_, ?_, ?_, ?_, ?_, ?_, ?_, ?_, ?_, ?_, ?_, ?_, ?_, ?_, ?_, trivial⟩
            all_goals first
             | (intro us w' Fe hG hu hd hv Kx hK
                try dsimp only
                simp [SL.O] at hu hK
                have hB5 : Below w5.heap.size w5 w' := hG.below'
                obtain ⟨hc5, hf5⟩ := bcell hB5
                have hs5 := hB5.size
                clear hv hG
                first
                 | (refine SLF.wpo_do (SLF.wanted_free rfl) ?hd4 ?_; (case hd4 => intro c h; cases h))
                 | (refine SLF.wpo_do (SLF.wanted_by rfl rfl ?hv4) ?hd4 ?_; (case hv4 => simp [hu]; done); (case hd4 => intro c h; cases h))
                 | (refine' SLF.wpo_not (SLG.wanted_not rfl rfl ?hv4 ?hn4) ?_; (case hv4 => simp [hu]; exact rfl); (case hn4 => first | (simp; done) | (simp [undef]; done)))
                clear hd
                first
                 | (go_step; exact hK _ _ _ (SL.Chg.refl _ _) (by first | exact rfl | (simp only [hu]; exact rfl)) rfl (by simp) rfl)
                 | exact hK _ _ _ (SL.Chg.refl _ _) rfl rfl (by simp) rfl)
             | skip
           case hck4 => kernel_rfl
           case hkp4 => kernel_rfl
           intro us w7 Fs hG hu hbd hd
           simp [SL.Used, SLF.pq] at hu
           obtain ⟨h44, _⟩ := hu
           rw [h44]
           have hB7 := hB.ch2 hG.below'
           clear hG hbd hd h44
           go_wp2_with fail
           go_meet
           exact hB7
          ·go_wp2_with (first
            | (go_at_call 39; (with_reducible refine (hWs _ oa oc pa pc hq1 hq2).mono ?_); rintro e w4 ⟨v4, rfl, hb, ho4⟩; obtain ⟨ra, rc, rfl, _⟩ := owns_slice ho4; have hs4 := BdsAt.of_owns ho4 (by omega); have hi := hi.below hb; have hB := hB.ch2 hb; have hO := (hb.block _ (Array.getElem?_eq_some_iff.1 hO).1).trans hO; have hq1 := hq1.below hb; have hq2 := hq2.below hb)
            | (go_at_call 52; clear tok1; (with_reducible refine (hA1 _ ra rc hs4).mono ?_); rintro e w5 ⟨v5, rfl, hb, ho5⟩; obtain ⟨ya, yc, rfl, _⟩ := owns_slice ho5; have hY1 := IntsAt.of_owns ho5 (by omega); have hi := hi.below hb; have hB := hB.ch2 hb; have hO := (hb.block _ (Array.getElem?_eq_some_iff.1 hO).1).trans hO; have hq1 := hq1.below hb; have hq2 := hq2.below hb; clear q0 q1 q2 qf ql; obtain ⟨q0, q1, q2, qf, ql⟩ := cell3s hO))
           obtain ⟨yb, yo, rfl, yl, g1⟩ := hY1.get (i := tw.toNat) (by omega)
           obtain ⟨yb', yo', he, _, g2⟩ := hY1.get (i := fr.toNat) (by omega)
           simp at he
           obtain ⟨rfl, rfl⟩ := he
           rw [show Y.getD tw.toNat 0 = gi Y tw from rfl] at g1
           rw [show Y.getD fr.toNat 0 = gi Y fr from rfl] at g2
           generalize gi Y tw = Yt at *
           generalize gi Y fr = Yf at *
           clear hA1 hWs hq1 hq2 hs4 ho4 hY1 ho5
           apply SLG.rule0 ?hm5 [] [70, 71, 72, 73, 74, 75, 76, 77, 78, 79, 80, 81, 82, 83, 84, 85, 86, 87, 88, 89, 90, 91, 92, 93, 94, 95, 96, 97, 98, 99, 100, 101, 102, 103, 104, 105, 106, 107, 108, 109, 110, 111, 112, 113, 114] [SLF.pq 70 [] _, SLF.pq 71 [0] _, SLF.pq 72 [1] _, SLF.pq 73 [2] _, SLF.pq 74 [2, 3] _, SLF.pq 75 [4] _, SLF.pq 76 [4] _, SLF.pq 77 [4] _, SLF.pq 78 [4, 6, 7] _, SLF.pq 79 [4, 8] _, SLF.pq 80 [9] _, SLF.pq 81 [9] _, SLF.pq 82 [9, 10, 11] _, SLF.pq 83 [4, 9, 12] _, SLF.pq 84 [4, 5, 13] _, SLF.pq 85 [2, 4, 14] _, SLF.pq 86 [2, 15] _, SLF.pq 87 [16] _, SLF.pq 88 [17] _, SLF.pq 89 [17, 18] _, SLF.pq 90 [19] _, SLF.pq 91 [19, 20] _, SLF.pq 92 [19] _, SLF.pq 93 [19, 22] _, SLF.pq 94 [19, 23] _, SLF.pq 95 [19, 21, 24] _, SLF.pq 96 [19, 25] _, SLF.pq 97 [26] _, SLF.pq 98 [26] _, SLF.pq 99 [26, 27, 28] _, SLF.pq 100 [26, 29] _, SLF.pq 101 [26] _, SLF.pq 102 [26] _, SLF.pq 103 [26, 31, 32] _, SLF.pq 104 [26, 33] _, SLF.pq 105 [26, 30, 34] _, SLF.pq 106 [26] _, SLF.pq 107 [26, 35, 36] _, SLF.pq 108 [19, 26, 37] _, SLF.pq 109 [19, 38] _, SLF.pq 110 [39] _, SLF.pq 111 [39, 40] _, SLF.pq 112 [19, 39, 41] _, SLF.pq 113 [17, 19, 42] _, SLF.pq 114 [17, 43] _] [44] ?hck5 ?hkp5 (fun _ => []) ?hin5 ?hdj5 ?hfr5 ?ob5 ?en5
           case hm5 => kernel_rfl
           case hin5 => exact SL.none_held rfl
           case hdj5 => simp
           case hfr5 => intro us; simp only [SL.frame, SL.put']; simp; exact rfl
           case ob5 =>
            refine ⟨?_, ?_, ?_, ?_, ?_, ?_, ?_, ?_, ?_, ?_, ?_, ?_, ?_, ?_, ?_, ?_, ?_, ?_, ?_, ?_, ?_, ?_, ?_, ?_, ?_, ?_, ?_, ?_, ?_, ?_, ?_, ?_, ?_, ?_, ?_, ?_, ?_, ?_, ?_, ?_, ?_, ?_, ?_, ?_, ?_, trivial⟩
            all_goals first
             | (intro us w' Fe hG hu hd hv Kx hK
                try dsimp only
                simp [SL.O] at hu hK
                have hB5 : Below w5.heap.size w5 w' := hG.below'
                obtain ⟨hc5, hf5⟩ := bcell hB5
                have hs5 := hB5.size
                clear hv hG
                first
                 | (refine SLF.wpo_do (SLF.wanted_free rfl) ?hd5 ?_; (case hd5 => intro c h; cases h))
                 | (refine SLF.wpo_do (SLF.wanted_by rfl rfl ?hv5) ?hd5 ?_; (case hv5 => simp [hu]; done); (case hd5 => intro c h; cases h))
                 | (refine' SLF.wpo_not (SLG.wanted_not rfl rfl ?hv5 ?hn5) ?_; (case hv5 => simp [hu]; exact rfl); (case hn5 => first | (simp; done) | (simp [undef]; done)))
                clear hd
                first
                 | (go_step; exact hK _ _ _ (SL.Chg.refl _ _) (by first | exact rfl | (simp only [hu]; exact rfl)) rfl (by simp) rfl)
                 | exact hK _ _ _ (SL.Chg.refl _ _) rfl rfl (by simp) rfl)
             | skip
           case hck5 => kernel_rfl
           case hkp5 => kernel_rfl
           intro us w7 Fs hG hu hbd hd
           simp [SL.Used, SLF.pq] at hu
           obtain ⟨h44, _⟩ := hu
           rw [h44]
           have hB7 := hB.ch2 hG.below'
           clear hG hbd hd h44
           go_wp2_with fail
           go_meet
           exact hB7
       ·have e4 : (E1 == 0) = false := by simpa using c1
        clear hTn hTs hA2 HTf HTv HWf HWv hOu hFe hSh hWy hA1 hWs c1
        go_wp2_with fail
        go_meet
        exact Below.refl _ _
      case rest =>
       obtain ⟨wn, rfl⟩ : ∃ wn, wn = wc := ⟨_, rfl⟩
       have hi := hi.below hcut
       have hB := hB.ch2 hcut
       have hO := (hcut.block _ (Array.getElem?_eq_some_iff.1 hO).1).trans hO
       have hq1 := hq1.below hcut
       have hq2 := hq2.below hcut
       clear q0 q1 q2 qf ql
       obtain ⟨q0, q1, q2, qf, ql⟩ := cell3s hO
       clear hcut HWf HWv hWs hWy hA1 hOu hFe
       by_cases c2 : E2 = 0
       ·subst c2
        have hA := hA2 rfl
        have hF1 := HTf.out rfl
        have hV1 := HTv.out rfl
        obtain ⟨Y, hY⟩ : ∃ Y, attY CO TB fr tw m = Y := ⟨_, rfl⟩
        rw [hY] at hA
        have hYl : Y.length ≤ 100 := by
         rw [← hY]
         unfold attY
         split
         ·rw [solR_len _ ⟨by omega, by omega⟩]; omega
         ·simp
        unfold attY at hY
        clear HTf HTv hA2
        have hA2 := hA
        clear hA
        cases hF : attF CO TB fr tw m with
        | false =>
          rw [hF] at hF1 hA2
          have hK : decide (tl ≤ m) = false ∨ (decide (tl ≤ m) = true ∧ decide (m ≤ th) = false) := by
           cases k1 : decide (tl ≤ m) with
           | false => exact .inl rfl
           | true =>
             rw [k1] at hF1
             exact .inr ⟨rfl, by simpa using hF1.symm⟩
          clear hF1 hV1 hY hF
          rcases hK with k1 | ⟨k1, k2⟩
          ·go_wp2_with (first
            | (go_at_call 30; (with_reducible refine (hTn _ hi).mono ?_); rintro e w6 ⟨rfl, hb⟩; have hi := hi.below hb; have hB := hB.ch2 hb; have hO := (hb.block _ (Array.getElem?_eq_some_iff.1 hO).1).trans hO; have hq1 := hq1.below hb; have hq2 := hq2.below hb; clear q0 q1 q2 qf ql; obtain ⟨q0, q1, q2, qf, ql⟩ := cell3s hO)
            | (go_at_call 41; (with_reducible refine (hTs _ oa oc pa pc hq1 hq2).mono ?_); rintro e w7 ⟨v7, rfl, hb, ho7⟩; obtain ⟨ta, tc, rfl, _⟩ := owns_slice ho7; have hs7 := BdsAt.of_owns ho7 (by omega); have hi := hi.below hb; have hB := hB.ch2 hb; have hO := (hb.block _ (Array.getElem?_eq_some_iff.1 hO).1).trans hO)
            | (go_at_call 52; clear tok2; (with_reducible refine (hA2 _ ta tc hs7).mono ?_); rintro e w8 ⟨v8, rfl, hb, ho8⟩; obtain ⟨za, zc, rfl, _⟩ := owns_slice ho8; have hY2 := IntsAt.of_owns ho8 (by omega); have hi := hi.below hb; have hB := hB.ch2 hb; have hO := (hb.block _ (Array.getElem?_eq_some_iff.1 hO).1).trans hO; clear q0 q1 q2 qf ql; obtain ⟨q0, q1, q2, qf, ql⟩ := cell3s hO)
            | (go_at_call 20; (with_reducible refine (hSh _).mono ?_); rintro e w9 ⟨rfl, hb⟩; have hB := hB.ch2 hb))
           clear hA2 hTs hq1 hq2 hs7 ho7 hY2 ho8
           apply SLG.rule0 ?hm6 [] [137, 138, 139, 140, 141, 142, 143, 144, 145, 146, 147, 148, 149, 150, 151, 152, 153, 154, 155, 156, 157, 158, 159, 160, 161, 162, 163, 164, 165, 166, 167, 168, 169, 170, 171, 172, 173] [SLF.pq 137 [] _, SLF.pq 138 [0] _, SLF.pq 139 [1] _, SLF.pq 140 [2] _, SLF.pq 141 [2] _, SLF.pq 142 [2] _, SLF.pq 143 [2, 4, 5] _, SLF.pq 144 [2, 6] _, SLF.pq 145 [7] _, SLF.pq 146 [7] _, SLF.pq 147 [7, 8, 9] _, SLF.pq 148 [2, 7, 10] _, SLF.pq 149 [2, 3, 11] _, SLF.pq 150 [2, 12] _, SLF.pq 151 [13] _, SLF.pq 152 [14] _, SLF.pq 153 [14, 15] _, SLF.pq 154 [16] _, SLF.pq 155 [16, 17] _, SLF.pq 156 [16] _, SLF.pq 157 [16, 19] _, SLF.pq 158 [16, 18, 20] _, SLF.pq 159 [16, 21] _, SLF.pq 160 [22] _, SLF.pq 161 [22] _, SLF.pq 162 [22, 23, 24] _, SLF.pq 163 [22, 25] _, SLF.pq 164 [22] _, SLF.pq 165 [22] _, SLF.pq 166 [22, 27, 28] _, SLF.pq 167 [22, 29] _, SLF.pq 168 [22, 26, 30] _, SLF.pq 169 [22] _, SLF.pq 170 [22, 31, 32] _, SLF.pq 171 [16, 22, 33] _, SLF.pq 172 [14, 16, 34] _, SLF.pq 173 [14, 35] _] [36] ?hck6 ?hkp6 (fun _ => []) ?hin6 ?hdj6 ?hfr6 ?ob6 ?en6
           case hm6 => kernel_rfl
           case hin6 => exact SL.none_held rfl
           case hdj6 => simp
           case hfr6 => intro us; simp only [SL.frame, SL.put']; simp; exact rfl
           case ob6 =>
            refine ⟨?_, ?_, ?_, ?_, ?_, ?_, ?_, ?_, ?_, ?_, ?_, ?_, ?_, ?_, ?_, ?_, ?_, ?_, ?_, ?_, ?_, ?_, ?_, ?_, ?_, ?_, ?_, ?_, ?_, ?_, ?_, ?_, ?_, ?_, ?_, ?_, ?_, trivial⟩
            all_goals first
             | (intro us w' Fe hG hu hd hv Kx hK
                try dsimp only
                simp [SL.O] at hu hK
                have hB5 : Below w8.heap.size w8 w' := hG.below'
                obtain ⟨hc5, hf5⟩ := bcell hB5
                have hs5 := hB5.size
                clear hv hG
                first
                 | (refine SLF.wpo_do (SLF.wanted_free rfl) ?hd6 ?_; (case hd6 => intro c h; cases h))
                 | (refine SLF.wpo_do (SLF.wanted_by rfl rfl ?hv6) ?hd6 ?_; (case hv6 => simp [hu]; done); (case hd6 => intro c h; cases h))
                 | (refine' SLF.wpo_not (SLG.wanted_not rfl rfl ?hv6 ?hn6) ?_; (case hv6 => simp [hu]; exact rfl); (case hn6 => first | (simp; done) | (simp [undef]; done)))
                clear hd
                first
                 | (go_step; exact hK _ _ _ (SL.Chg.refl _ _) (by first | exact rfl | (simp only [hu]; exact rfl)) rfl (by simp) rfl)
                 | exact hK _ _ _ (SL.Chg.refl _ _) rfl rfl (by simp) rfl)
             | skip
           case hck6 => kernel_rfl
           case hkp6 => kernel_rfl
           intro us w7 Fs hG hu hbd hd
           simp [SL.Used, SLF.pq] at hu
           obtain ⟨h36, _⟩ := hu
           rw [h36]
           have hB := hB.ch2 hG.below'
           clear hG hbd hd h36
           go_wp2_with (first
            | (go_at_call 30; (with_reducible refine (hTn _ hi).mono ?_); rintro e w6 ⟨rfl, hb⟩; have hi := hi.below hb; have hB := hB.ch2 hb; have hO := (hb.block _ (Array.getElem?_eq_some_iff.1 hO).1).trans hO; have hq1 := hq1.below hb; have hq2 := hq2.below hb; clear q0 q1 q2 qf ql; obtain ⟨q0, q1, q2, qf, ql⟩ := cell3s hO)
            | (go_at_call 41; (with_reducible refine (hTs _ oa oc pa pc hq1 hq2).mono ?_); rintro e w7 ⟨v7, rfl, hb, ho7⟩; obtain ⟨ta, tc, rfl, _⟩ := owns_slice ho7; have hs7 := BdsAt.of_owns ho7 (by omega); have hi := hi.below hb; have hB := hB.ch2 hb; have hO := (hb.block _ (Array.getElem?_eq_some_iff.1 hO).1).trans hO)
            | (go_at_call 52; clear tok2; (with_reducible refine (hA2 _ ta tc hs7).mono ?_); rintro e w8 ⟨v8, rfl, hb, ho8⟩; obtain ⟨za, zc, rfl, _⟩ := owns_slice ho8; have hY2 := IntsAt.of_owns ho8 (by omega); have hi := hi.below hb; have hB := hB.ch2 hb; have hO := (hb.block _ (Array.getElem?_eq_some_iff.1 hO).1).trans hO; clear q0 q1 q2 qf ql; obtain ⟨q0, q1, q2, qf, ql⟩ := cell3s hO)
            | (go_at_call 20; (with_reducible refine (hSh _).mono ?_); rintro e w9 ⟨rfl, hb⟩; have hB := hB.ch2 hb))
           go_ret
           exact ⟨rfl, hB⟩
          ·go_wp2_with (first
            | (go_at_call 30; (with_reducible refine (hTn _ hi).mono ?_); rintro e w6 ⟨rfl, hb⟩; have hi := hi.below hb; have hB := hB.ch2 hb; have hO := (hb.block _ (Array.getElem?_eq_some_iff.1 hO).1).trans hO; have hq1 := hq1.below hb; have hq2 := hq2.below hb; clear q0 q1 q2 qf ql; obtain ⟨q0, q1, q2, qf, ql⟩ := cell3s hO)
            | (go_at_call 41; (with_reducible refine (hTs _ oa oc pa pc hq1 hq2).mono ?_); rintro e w7 ⟨v7, rfl, hb, ho7⟩; obtain ⟨ta, tc, rfl, _⟩ := owns_slice ho7; have hs7 := BdsAt.of_owns ho7 (by omega); have hi := hi.below hb; have hB := hB.ch2 hb; have hO := (hb.block _ (Array.getElem?_eq_some_iff.1 hO).1).trans hO)
            | (go_at_call 52; clear tok2; (with_reducible refine (hA2 _ ta tc hs7).mono ?_); rintro e w8 ⟨v8, rfl, hb, ho8⟩; obtain ⟨za, zc, rfl, _⟩ := owns_slice ho8; have hY2 := IntsAt.of_owns ho8 (by omega); have hi := hi.below hb; have hB := hB.ch2 hb; have hO := (hb.block _ (Array.getElem?_eq_some_iff.1 hO).1).trans hO; clear q0 q1 q2 qf ql; obtain ⟨q0, q1, q2, qf, ql⟩ := cell3s hO)
            | (go_at_call 20; (with_reducible refine (hSh _).mono ?_); rintro e w9 ⟨rfl, hb⟩; have hB := hB.ch2 hb))
           clear hA2 hTs hq1 hq2 hs7 ho7 hY2 ho8
           apply SLG.rule0 ?hm7 [] [137, 138, 139, 140, 141, 142, 143, 144, 145, 146, 147, 148, 149, 150, 151, 152, 153, 154, 155, 156, 157, 158, 159, 160, 161, 162, 163, 164, 165, 166, 167, 168, 169, 170, 171, 172, 173] [SLF.pq 137 [] _, SLF.pq 138 [0] _, SLF.pq 139 [1] _, SLF.pq 140 [2] _, SLF.pq 141 [2] _, SLF.pq 142 [2] _, SLF.pq 143 [2, 4, 5] _, SLF.pq 144 [2, 6] _, SLF.pq 145 [7] _, SLF.pq 146 [7] _, SLF.pq 147 [7, 8, 9] _, SLF.pq 148 [2, 7, 10] _, SLF.pq 149 [2, 3, 11] _, SLF.pq 150 [2, 12] _, SLF.pq 151 [13] _, SLF.pq 152 [14] _, SLF.pq 153 [14, 15] _, SLF.pq 154 [16] _, SLF.pq 155 [16, 17] _, SLF.pq 156 [16] _, SLF.pq 157 [16, 19] _, SLF.pq 158 [16, 18, 20] _, SLF.pq 159 [16, 21] _, SLF.pq 160 [22] _, SLF.pq 161 [22] _, SLF.pq 162 [22, 23, 24] _, SLF.pq 163 [22, 25] _, SLF.pq 164 [22] _, SLF.pq 165 [22] _, SLF.pq 166 [22, 27, 28] _, SLF.pq 167 [22, 29] _, SLF.pq 168 [22, 26, 30] _, SLF.pq 169 [22] _, SLF.pq 170 [22, 31, 32] _, SLF.pq 171 [16, 22, 33] _, SLF.pq 172 [14, 16, 34] _, SLF.pq 173 [14, 35] _] [36] ?hck7 ?hkp7 (fun _ => []) ?hin7 ?hdj7 ?hfr7 ?ob7 ?en7
           case hm7 => kernel_rfl
           case hin7 => exact SL.none_held rfl
           case hdj7 => simp
           case hfr7 => intro us; simp only [SL.frame, SL.put']; simp; exact rfl
           case ob7 =>
            refine ⟨?_, ?_, ?_, ?_, ?_, ?_, ?_, ?_, ?_, ?_, ?_, ?_, ?_, ?_, ?_, ?_, ?_, ?_, ?_, ?_, ?_, ?_, ?_, ?_, ?_, ?_, ?_, ?_, ?_, ?_, ?_, ?_, ?_, ?_, ?_, ?_, ?_, trivial⟩
            all_goals first
             | (intro us w' Fe hG hu hd hv Kx hK
                try dsimp only
                simp [SL.O] at hu hK
                have hB5 : Below w8.heap.size w8 w' := hG.below'
                obtain ⟨hc5, hf5⟩ := bcell hB5
                have hs5 := hB5.size
                clear hv hG
                first
                 | (refine SLF.wpo_do (SLF.wanted_free rfl) ?hd7 ?_; (case hd7 => intro c h; cases h))
                 | (refine SLF.wpo_do (SLF.wanted_by rfl rfl ?hv7) ?hd7 ?_; (case hv7 => simp [hu]; done); (case hd7 => intro c h; cases h))
                 | (refine' SLF.wpo_not (SLG.wanted_not rfl rfl ?hv7 ?hn7) ?_; (case hv7 => simp [hu]; exact rfl); (case hn7 => first | (simp; done) | (simp [undef]; done)))
                clear hd
                first
                 | (go_step; exact hK _ _ _ (SL.Chg.refl _ _) (by first | exact rfl | (simp only [hu]; exact rfl)) rfl (by simp) rfl)
                 | exact hK _ _ _ (SL.Chg.refl _ _) rfl rfl (by simp) rfl)
             | skip
           case hck7 => kernel_rfl
           case hkp7 => kernel_rfl
           intro us w7 Fs hG hu hbd hd
           simp [SL.Used, SLF.pq] at hu
           obtain ⟨h36, _⟩ := hu
           rw [h36]
           have hB := hB.ch2 hG.below'
           clear hG hbd hd h36
           go_wp2_with (first
            | (go_at_call 30; (with_reducible refine (hTn _ hi).mono ?_); rintro e w6 ⟨rfl, hb⟩; have hi := hi.below hb; have hB := hB.ch2 hb; have hO := (hb.block _ (Array.getElem?_eq_some_iff.1 hO).1).trans hO; have hq1 := hq1.below hb; have hq2 := hq2.below hb; clear q0 q1 q2 qf ql; obtain ⟨q0, q1, q2, qf, ql⟩ := cell3s hO)
            | (go_at_call 41; (with_reducible refine (hTs _ oa oc pa pc hq1 hq2).mono ?_); rintro e w7 ⟨v7, rfl, hb, ho7⟩; obtain ⟨ta, tc, rfl, _⟩ := owns_slice ho7; have hs7 := BdsAt.of_owns ho7 (by omega); have hi := hi.below hb; have hB := hB.ch2 hb; have hO := (hb.block _ (Array.getElem?_eq_some_iff.1 hO).1).trans hO)
            | (go_at_call 52; clear tok2; (with_reducible refine (hA2 _ ta tc hs7).mono ?_); rintro e w8 ⟨v8, rfl, hb, ho8⟩; obtain ⟨za, zc, rfl, _⟩ := owns_slice ho8; have hY2 := IntsAt.of_owns ho8 (by omega); have hi := hi.below hb; have hB := hB.ch2 hb; have hO := (hb.block _ (Array.getElem?_eq_some_iff.1 hO).1).trans hO; clear q0 q1 q2 qf ql; obtain ⟨q0, q1, q2, qf, ql⟩ := cell3s hO)
            | (go_at_call 20; (with_reducible refine (hSh _).mono ?_); rintro e w9 ⟨rfl, hb⟩; have hB := hB.ch2 hb))
           go_ret
           exact ⟨rfl, hB⟩
        | true =>
          rw [hF] at hF1 hA2 hY
          obtain ⟨⟨v1, v2, ⟨v3, v4⟩, ⟨v5, v6⟩, _⟩, v7, v8, v9⟩ := hV1 hF
          rw [if_pos rfl] at hY
          rw [hY] at v1 v2 v3 v4 v5 v6
          have hK := hF1.symm
          rw [Bool.and_eq_true] at hK
          obtain ⟨k1, k2⟩ := hK
          clear hF1 hV1 hY hF
          have e5 : ((Y.length : Int) != CO) = false := by simp; omega
          have x1 : tw < (Y.length : Int) := by omega
          have x2 : fr < (Y.length : Int) := by omega
          have x3 : 0 ≤ tw := by omega
          have hwr : IntKind.i64.wrap (gi Y tw - gi Y fr) = gi Y tw - gi Y fr := IntWalk.i64_in _ (by omega)
          have e6 : ((gi Y tw - gi Y fr) != m) = false := by simp; omega
          have V1 := Lib.hid v1
          clear v1 v2
          go_wp2_with (first
           | (go_at_call 30; (with_reducible refine (hTn _ hi).mono ?_); rintro e w6 ⟨rfl, hb⟩; have hi := hi.below hb; have hB := hB.ch2 hb; have hO := (hb.block _ (Array.getElem?_eq_some_iff.1 hO).1).trans hO; have hq1 := hq1.below hb; have hq2 := hq2.below hb; clear q0 q1 q2 qf ql; obtain ⟨q0, q1, q2, qf, ql⟩ := cell3s hO)
           | (go_at_call 41; (with_reducible refine (hTs _ oa oc pa pc hq1 hq2).mono ?_); rintro e w7 ⟨v7, rfl, hb, ho7⟩; obtain ⟨ta, tc, rfl, _⟩ := owns_slice ho7; have hs7 := BdsAt.of_owns ho7 (by omega); have hi := hi.below hb; have hB := hB.ch2 hb; have hO := (hb.block _ (Array.getElem?_eq_some_iff.1 hO).1).trans hO)
           | (go_at_call 52; clear tok2; (with_reducible refine (hA2 _ ta tc hs7).mono ?_); rintro e w8 ⟨v8, rfl, hb, ho8⟩; obtain ⟨za, zc, rfl, _⟩ := owns_slice ho8; have hY2 := IntsAt.of_owns ho8 (by omega); have hi := hi.below hb; have hB := hB.ch2 hb; have hO := (hb.block _ (Array.getElem?_eq_some_iff.1 hO).1).trans hO; clear q0 q1 q2 qf ql; obtain ⟨q0, q1, q2, qf, ql⟩ := cell3s hO)
           | (go_at_call 20; (with_reducible refine (hSh _).mono ?_); rintro e w9 ⟨rfl, hb⟩; have hB := hB.ch2 hb))
          obtain ⟨yb, yo, rfl, yl, g1⟩ := hY2.get (i := tw.toNat) (by omega)
          obtain ⟨yb', yo', he, _, g2⟩ := hY2.get (i := fr.toNat) (by omega)
          simp at he
          obtain ⟨rfl, rfl⟩ := he
          rw [show Y.getD tw.toNat 0 = gi Y tw from rfl] at g1
          rw [show Y.getD fr.toNat 0 = gi Y fr from rfl] at g2
          generalize gi Y tw = Yt at *
          generalize gi Y fr = Yf at *
          clear hA2 hTs hq1 hq2 hs7 ho7 hY2 ho8
          apply SLG.rule0 ?hm8 [] [137, 138, 139, 140, 141, 142, 143, 144, 145, 146, 147, 148, 149, 150, 151, 152, 153, 154, 155, 156, 157, 158, 159, 160, 161, 162, 163, 164, 165, 166, 167, 168, 169, 170, 171, 172, 173] [SLF.pq 137 [] _, SLF.pq 138 [0] _, SLF.pq 139 [1] _, SLF.pq 140 [2] _, SLF.pq 141 [2] _, SLF.pq 142 [2] _, SLF.pq 143 [2, 4, 5] _, SLF.pq 144 [2, 6] _, SLF.pq 145 [7] _, SLF.pq 146 [7] _, SLF.pq 147 [7, 8, 9] _, SLF.pq 148 [2, 7, 10] _, SLF.pq 149 [2, 3, 11] _, SLF.pq 150 [2, 12] _, SLF.pq 151 [13] _, SLF.pq 152 [14] _, SLF.pq 153 [14, 15] _, SLF.pq 154 [16] _, SLF.pq 155 [16, 17] _, SLF.pq 156 [16] _, SLF.pq 157 [16, 19] _, SLF.pq 158 [16, 18, 20] _, SLF.pq 159 [16, 21] _, SLF.pq 160 [22] _, SLF.pq 161 [22] _, SLF.pq 162 [22, 23, 24] _, SLF.pq 163 [22, 25] _, SLF.pq 164 [22] _, SLF.pq 165 [22] _, SLF.pq 166 [22, 27, 28] _, SLF.pq 167 [22, 29] _, SLF.pq 168 [22, 26, 30] _, SLF.pq 169 [22] _, SLF.pq 170 [22, 31, 32] _, SLF.pq 171 [16, 22, 33] _, SLF.pq 172 [14, 16, 34] _, SLF.pq 173 [14, 35] _] [36] ?hck8 ?hkp8 (fun _ => []) ?hin8 ?hdj8 ?hfr8 ?ob8 ?en8
          case hm8 => kernel_rfl
          case hin8 => exact SL.none_held rfl
          case hdj8 => simp
          case hfr8 => intro us; simp only [SL.frame, SL.put']; simp; exact rfl
          case ob8 =>
           refine ⟨?_, ?_, ?_, ?_, ?_, ?_, ?_, ?_, ?_, ?_, ?_, ?_, ?_, ?_, ?_, ?_, ?_, ?_, ?_, ?_, ?_, ?_, ?_, ?_, ?_, ?_, ?_, ?_, ?_, ?_, ?_, ?_, ?_, ?_, ?_, ?_, ?_, trivial⟩
           all_goals first
            | (intro us w' Fe hG hu hd hv Kx hK
               try dsimp only
               simp [SL.O] at hu hK
               have hB5 : Below w8.heap.size w8 w' := hG.below'
               obtain ⟨hc5, hf5⟩ := bcell hB5
               have hs5 := hB5.size
               clear hv hG
               first
                | (refine SLF.wpo_do (SLF.wanted_free rfl) ?hd8 ?_; (case hd8 => intro c h; cases h))
                | (refine SLF.wpo_do (SLF.wanted_by rfl rfl ?hv8) ?hd8 ?_; (case hv8 => simp [hu]; done); (case hd8 => intro c h; cases h))
                | (refine' SLF.wpo_not (SLG.wanted_not rfl rfl ?hv8 ?hn8) ?_; (case hv8 => simp [hu]; exact rfl); (case hn8 => first | (simp; done) | (simp [undef]; done)))
               clear hd
               first
                | (go_step; exact hK _ _ _ (SL.Chg.refl _ _) (by first | exact rfl | (simp only [hu]; exact rfl)) rfl (by simp) rfl)
                | exact hK _ _ _ (SL.Chg.refl _ _) rfl rfl (by simp) rfl)
            | skip
          case hck8 => kernel_rfl
          case hkp8 => kernel_rfl
          intro us w7 Fs hG hu hbd hd
          simp [SL.Used, SLF.pq] at hu
          obtain ⟨h36, _⟩ := hu
          rw [h36]
          have hB := hB.ch2 hG.below'
          clear hG hbd hd h36
          go_wp2_with (first
           | (go_at_call 30; (with_reducible refine (hTn _ hi).mono ?_); rintro e w6 ⟨rfl, hb⟩; have hi := hi.below hb; have hB := hB.ch2 hb; have hO := (hb.block _ (Array.getElem?_eq_some_iff.1 hO).1).trans hO; have hq1 := hq1.below hb; have hq2 := hq2.below hb; clear q0 q1 q2 qf ql; obtain ⟨q0, q1, q2, qf, ql⟩ := cell3s hO)
           | (go_at_call 41; (with_reducible refine (hTs _ oa oc pa pc hq1 hq2).mono ?_); rintro e w7 ⟨v7, rfl, hb, ho7⟩; obtain ⟨ta, tc, rfl, _⟩ := owns_slice ho7; have hs7 := BdsAt.of_owns ho7 (by omega); have hi := hi.below hb; have hB := hB.ch2 hb; have hO := (hb.block _ (Array.getElem?_eq_some_iff.1 hO).1).trans hO)
           | (go_at_call 52; clear tok2; (with_reducible refine (hA2 _ ta tc hs7).mono ?_); rintro e w8 ⟨v8, rfl, hb, ho8⟩; obtain ⟨za, zc, rfl, _⟩ := owns_slice ho8; have hY2 := IntsAt.of_owns ho8 (by omega); have hi := hi.below hb; have hB := hB.ch2 hb; have hO := (hb.block _ (Array.getElem?_eq_some_iff.1 hO).1).trans hO; clear q0 q1 q2 qf ql; obtain ⟨q0, q1, q2, qf, ql⟩ := cell3s hO)
           | (go_at_call 20; (with_reducible refine (hSh _).mono ?_); rintro e w9 ⟨rfl, hb⟩; have hB := hB.ch2 hb))
          go_ret
          exact ⟨rfl, hB⟩
       ·have e4 : (E2 == 0) = false := by simpa using c2
        clear hTs hA2 HTf HTv c2
        go_wp2_with (first
         | (go_at_call 30; (with_reducible refine (hTn _ hi).mono ?_); rintro e w6 ⟨rfl, hb⟩; have hi := hi.below hb; have hB := hB.ch2 hb; have hO := (hb.block _ (Array.getElem?_eq_some_iff.1 hO).1).trans hO; have hq1 := hq1.below hb; have hq2 := hq2.below hb; clear q0 q1 q2 qf ql; obtain ⟨q0, q1, q2, qf, ql⟩ := cell3s hO)
         | (go_at_call 41; (with_reducible refine (hTs _ oa oc pa pc hq1 hq2).mono ?_); rintro e w7 ⟨v7, rfl, hb, ho7⟩; obtain ⟨ta, tc, rfl, _⟩ := owns_slice ho7; have hs7 := BdsAt.of_owns ho7 (by omega); have hi := hi.below hb; have hB := hB.ch2 hb; have hO := (hb.block _ (Array.getElem?_eq_some_iff.1 hO).1).trans hO)
         | (go_at_call 52; clear tok2; (with_reducible refine (hA2 _ ta tc hs7).mono ?_); rintro e w8 ⟨v8, rfl, hb, ho8⟩; obtain ⟨za, zc, rfl, _⟩ := owns_slice ho8; have hY2 := IntsAt.of_owns ho8 (by omega); have hi := hi.below hb; have hB := hB.ch2 hb; have hO := (hb.block _ (Array.getElem?_eq_some_iff.1 hO).1).trans hO; clear q0 q1 q2 qf ql; obtain ⟨q0, q1, q2, qf, ql⟩ := cell3s hO)
         | (go_at_call 20; (with_reducible refine (hSh _).mono ?_); rintro e w9 ⟨rfl, hb⟩; have hB := hB.ch2 hb))
        go_ret
        exact ⟨rfl, hB⟩
     ·have hC : outC l day id = 0 := by unfold outC; rw [if_neg h0]
      have hW : outW l day id = [] := by unfold outW; rw [if_neg h0]
      have hT : outT l day id = [] := by unfold outT; rw [if_neg h0]
      have hw1 : (outW l day id).length ≤ 10 := by rw [hW]; simp
      have hw2 : (outT l day id).length ≤ 10 := by rw [hT]; simp
      generalize lookE l day id = E at *
      have e3 : (E != 0) = true := by simpa using h0
      clear h0 hC hW hT hWy hTn
      generalize outC l day id = CO at *
      generalize outW l day id = WB at *
      generalize outT l day id = TB at *
      go_enter Tryz.func11, Tryz.ntmps11
      go_wp2_with (first
       | (go_at_call 18; (with_reducible refine hFe.mono ?_); rintro e w1 ⟨rfl, hb⟩; have hi := h.below hb; have hB := hb)
       | (go_at_call 36; (with_reducible refine (hOu _ hi).mono ?_); rintro e w2 ⟨v1, v2, rfl, hb, ho1, ho2⟩; obtain ⟨oa, oc, rfl, _⟩ := owns_slice ho1; obtain ⟨pa, pc, rfl, _⟩ := owns_slice ho2; have hal := one_alloc w2 (Obj.cells #[.int .i64 CO, .slice oa WB.length oc, .slice pa TB.length pc] 52); have hi := (hi.below hb).below hal; have hB := (hB.ch2 hb).ch2 hal; have hO := World.alloc_heap_new w2 (Obj.cells #[.int .i64 CO, .slice oa WB.length oc, .slice pa TB.length pc] 52); have hq1 := (BdsAt.of_owns ho1 (by omega)).below hal; have hq2 := (BdsAt.of_owns ho2 (by omega)).below hal)
       | (go_at_call 20; (with_reducible refine (hSh _).mono ?_); rintro e w9 ⟨rfl, hb⟩; have hB := hB.ch2 hb))
      go_ret
      exact ⟨rfl, hB⟩
    ·have e2 : ¬ m ≤ 100000000 := m2
     go_enter Tryz.func11, Tryz.ntmps11
     go_wp2_with (first
      | (go_at_call 18; (with_reducible refine hFe.mono ?_); rintro e w1 ⟨rfl, hb⟩; have hi := h.below hb; have hB := hb)
      | (go_at_call 20; (with_reducible refine (hSh _).mono ?_); rintro e w9 ⟨rfl, hb⟩; have hB := hB.ch2 hb))
     go_ret
     exact ⟨rfl, hB⟩
   ·go_enter Tryz.func11, Tryz.ntmps11
    go_wp2_with (first
     | (go_at_call 18; (with_reducible refine hFe.mono ?_); rintro e w1 ⟨rfl, hb⟩; have hi := h.below hb; have hB := hb)
     | (go_at_call 20; (with_reducible refine (hSh _).mono ?_); rintro e w9 ⟨rfl, hb⟩; have hB := hB.ch2 hb))
    go_ret
    exact ⟨rfl, hB⟩
end Go.Proofs.YtelkcohhagblaaaGreat
namespace Go.Proofs.YtelkcohhagblaaaGreat
open Go.ChangeShapes Go.WideShapes Go.ChangeAt Go.RowKit Go.Joins Go.Deep
set_option maxRecDepth 100000 in
theorem sherdSharp_lifted (os : Os) (started : os.Started) (H : Type) (enc : TypeId × Value → H) :
 ReturnsInHanded {} Tryz.checked os 11 .any (Rows.sherdSharpSpec.pre6 enc Tryz.prog Tryz.f11 Rows.sherdSharpRow.domain false) (Rows.sherdSharpSpec.post enc Tryz.prog Tryz.f11 false true false false) := by
 refine returnsInHanded_of_change_sized (C := Tryz.checked) Tryz.own started (by kernel_rfl) Tryz.func11
  (ChangeSpec.witness6 (enc := enc) (C := Tryz.checked) false ⟨#[], #[.slice none 0 0, .int .i64 0, .int .i64 0, .int .i64 0, .int .i64 0, .int .i64 0], []⟩ 8 (by kernel_rfl) (by kernel_rfl) (by kernel_rfl) (by kernel_rfl)) ?_
 intro W base args ds gs before hval0 hW _ hsz0 _
 have hsz : (DataW.weightsEach Tryz.prog (Tryz.f11.params.toList ++ Rows.sherdSharpSpec.plain.varTypes Tryz.prog) (ds ++ gs)).all (· ≤ reachBytes) = true := hsz0
 clear hsz0
 have hval : ∀ (j : Nat) t v, Tryz.f11.params[j]? = some t → args[j]? = some v → Value.okWide Tryz.prog W .any base t v := hval0
 have hW' := hW
 obtain ⟨p, q, hA0, hV, rfl, _, _⟩ := hW
 have hA : DataW.TrodAll enc Tryz.prog W 0 (fun _ => true) true Tryz.f11.params.toList args.toList ds p := hA0
 rw [Tryz.params11] at hA hval hsz
 obtain ⟨v0, vs0, d0, ds0, p0, q0, hargs, rfl, rfl, h0, r0⟩ := trodAll_cons hA
 obtain ⟨v1, vs1, d1, ds1, p1, q1, rfl, rfl, rfl, h1, r1⟩ := trodAll_cons r0
 obtain ⟨v2, vs2, d2, ds2, p2, q2, rfl, rfl, rfl, h2, r2⟩ := trodAll_cons r1
 obtain ⟨v3, vs3, d3, ds3, p3, q3, rfl, rfl, rfl, h3, r3⟩ := trodAll_cons r2
 obtain ⟨v4, vs4, d4, ds4, p4, q4, rfl, rfl, rfl, h4, r4⟩ := trodAll_cons r3
 obtain ⟨v5, vs5, d5, ds5, p5, q5, rfl, rfl, rfl, h5, r5⟩ := trodAll_cons r4
 obtain ⟨rfl, rfl, rfl⟩ := trodAll_nil r5
 obtain rfl : args = #[v0, v1, v2, v3, v4, v5] := by cases args; simp_all
 obtain ⟨rfl, rfl⟩ := trodVars_none hV
 clear hA0 hval0
 have hlt : ∀ x ∈ p0 ++ p1 ++ p2 ++ p3 ++ p4 ++ p5, x.block < W.heap.size := fun x hx => by have := hW'.lt x (by simpa using hx); simpa using this
 obtain ⟨a0, n0, k0, xs0, rfl, hb0, hn0⟩ := items_open (hval 0 22 v0 rfl rfl) h0 (fun n hn => by
  have := List.all_eq_true.1 hsz _ (DataW.weights_mem_each (j := 0) rfl rfl n hn)
  simpa using this)
 obtain ⟨x1, rfl⟩ := okWide_int Tryz.underlying3 (hval 1 3 v1 rfl rfl)
 obtain ⟨x2, rfl⟩ := okWide_int Tryz.underlying3 (hval 2 3 v2 rfl rfl)
 obtain ⟨x3, rfl⟩ := okWide_int Tryz.underlying3 (hval 3 3 v3 rfl rfl)
 obtain ⟨x4, rfl⟩ := okWide_int Tryz.underlying3 (hval 4 3 v4 rfl rfl)
 obtain ⟨x5, rfl⟩ := okWide_int Tryz.underlying3 (hval 5 3 v5 rfl rfl)
 refine (lsharpS a0 n0 k0 xs0 x1 x2 x3 x4 x5 W hb0 hn0).mono fun e W' ⟨he, hw⟩ => ?_
 subst he
 exact ⟨_, rfl, ⟨_, _, _, [], _, [], hW', trodAll_mk1 (shut_bool Tryz.underlying4 _), (trodAll_cons_mk (Below.trod Tryz.laidOut (by kernel_rfl) (of_decide_eq_true (by kernel_rfl)) h0 hw (fun x hx => hlt x (by simp [hx]))) (trodAll_cons_mk (Below.trod Tryz.laidOut (by kernel_rfl) (of_decide_eq_true (by kernel_rfl)) h1 hw (fun x hx => hlt x (by simp [hx]))) (trodAll_cons_mk (Below.trod Tryz.laidOut (by kernel_rfl) (of_decide_eq_true (by kernel_rfl)) h2 hw (fun x hx => hlt x (by simp [hx]))) (trodAll_cons_mk (Below.trod Tryz.laidOut (by kernel_rfl) (of_decide_eq_true (by kernel_rfl)) h3 hw (fun x hx => hlt x (by simp [hx]))) (trodAll_cons_mk (Below.trod Tryz.laidOut (by kernel_rfl) (of_decide_eq_true (by kernel_rfl)) h4 hw (fun x hx => hlt x (by simp [hx]))) (trodAll_cons_mk (Below.trod Tryz.laidOut (by kernel_rfl) (of_decide_eq_true (by kernel_rfl)) h5 hw (fun x hx => hlt x (by simp [hx]))) trodAll_mk0)))))), rfl, hw.frame _, fun h => by cases h⟩⟩
set_option maxRecDepth 100000 in
set_option maxHeartbeats 8000000 in
theorem sherdSharp_closed : joinedFacts Tryz.prog 11 Tryz.f11 Rows.sherdSharpSpec Rows.sherdSharpRow = true := by
 unfold joinedFacts
 repeat' (with_reducible refine (Bool.and_eq_true _ _).mpr ⟨?_, ?_⟩)
 all_goals as_aux_lemma => kernel_rfl
theorem sherdSharp_holds : Rows.SherdSharpSaid :=
 OpenClaim.holds_of_wide 11 Tryz.f11 rfl rfl rfl rfl rfl rfl rfl ⟨rfl, rfl, rfl, rfl, rfl⟩ rfl rfl rfl rfl rfl (by kernel_rfl) Tryz.func11 sherdSharp_closed
  (of_decide_eq_true (by kernel_rfl)) (by unfold Func.isWrapper; rw [if_neg (of_decide_eq_false (by kernel_rfl))]; exact ⟨rfl, rfl⟩)
  (fun os started H enc _ => sherdSharp_lifted os started H enc)
#print axioms sherdSharp_holds
end Go.Proofs.YtelkcohhagblaaaGreat

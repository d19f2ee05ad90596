/-
  Lemmas and walks for the laws on roads and boards: what each function of the program answers, for every input.
-/
import Derived.Test.YtelkcohhagblaaaGreatSc08
set_option linter.unusedSimpArgs false
set_option linter.unusedVariables false
set_option linter.unnecessarySimpa false
namespace Go.Proofs.YtelkcohhagblaaaGreat
open Go.RowKit Go.Shelf Go.Maps
set_option maxHeartbeats 4000000
set_option maxRecDepth 100000
theorem makeFuncS (fn : Fn) (first cap : Array Value) (w : World) : (Instr.makeFunc fn first cap).run Tryz.prog w = .ok (.func fn first cap) w := rfl
theorem sstands (a : Option Addr) (n cap : Nat) (w : World) :
 Calls Tryz.prog 109 #[.slice a n cap] w fun e w' => e = .returned (.func (.func 172) #[] #[.pointer (some ⟨w.heap.size, 0, none⟩)]) ∧ w' = w.alloc (.cells #[.slice a n cap] 22) := by
 have hmk := makeFuncS
 go_enter Tryz.func109, Tryz.ntmps109
 go_wp2
 go_ret
 exact ⟨rfl, rfl⟩
theorem map_grown {H : Type} {P : Program} {k : TypeId} {R : Value → Option (DataW H × List MemPlace)} {W : World} {b n : Nat} {D : DataW H} (h : W.ownsMap P k R b n D) : ∃ o : Obj, W.heap[b]? = some o ∧ o.isWalk = true := by
 obtain ⟨es, clock, hb, _⟩ := h
 exact ⟨_, hb, rfl⟩
theorem lookup_run_bool {H : Type} {P : Program} {w : World} {t k e : TypeId} (K : Keyed P k) (ht : P.underlying t = some (.map k e)) (he : P.underlying e = some .bool) (hz : (zeroValue e).run P w = .ok (.bool false) w) {b n : Nat} {D : DataW H}
 (hown : w.ownsMap P k (plainElem P e) b n D) {key : Value} {kl : Lit} (hkey : keyOf P k key = some kl) {c : Bool} (hat : D.atKey kl (.lit (.bool false)) = .lit (.bool c)) :
 (Instr.lookup t (.map (some b)) key false).run P w = .ok (.bool c) w := by
 obtain ⟨v, ps, hrun, hv⟩ := hown.lookup K ht hz (plainElem_bool he false) hkey
 obtain ⟨c', rfl, hc⟩ := plainElem_bool_inv he hv
 have hcc : c' = c := by
  have h1 := congrArg Prod.fst hc
  simp only at h1
  rw [hat] at h1
  injection h1 with h1
  injection h1 with h1
  exact h1.symm
 rw [hcc] at hrun
 exact hrun
theorem sstands1 (a : Option Addr) (n cap : Nat) (l : List Itm) (BL : Nat) (hl : l.length ≤ 1000) :
 IterAt Tryz.prog 172 #[.pointer (some ⟨BL, 0, none⟩)] (fun W => W.cell? ⟨BL, 0, none⟩ = some (.slice a n cap) ∧ ItmsAt W a n cap l) Itm.v (standL l) := by
 intro B lid J Jx W hBW hJ hJx hJC h0 hy
 refine callsIn_of_wp Tryz.func172 rfl trivial ?_
 simp only [Tryz.ntmps172, List.size_toArray, List.length_cons, List.length_nil, Nat.reduceAdd, Nat.reduceSub, Array.replicate_succ, Array.replicate_zero, List.push_toArray, List.append_toArray, List.nil_append, List.cons_append]
 obtain ⟨c0, hx0⟩ := hJC _ _ h0
 obtain rfl := hx0.len
 have hmm := @run_makeMap Tryz.prog
 have hfw : ∀ f, Fence.wide.fn f := fun _ => trivial
 have hdp : Fence.wide.depth = none := rfl
 have hJ0 : J [] (W.alloc (.map #[] 0)) := hJ _ _ _ none h0 (below_grown (one_alloc W _)) (fun r e => by cases e)
 have hM0 := World.ownsMap_made (H := Unit) W Tryz.prog 3 (plainElem Tryz.prog 4)
 simp only [Itm.v, Itm.cs] at hy
 have HY := Lib.hid hy
 have HC := Lib.hid hJC
 have HJ := Lib.hid hJ
 have zS := World.block_lt_of_cell? W _ c0
 simp only at zS
 clear hy hJC hJ hx0
 gi_wp2_with fail
 obtain ⟨MB, hMB⟩ : ∃ MB, W.heap.size = MB := ⟨_, rfl⟩
 rw [hMB] at hM0 hBW ⊢
 have zW : W.heap.size ≤ MB := Nat.le_of_eq hMB
 clear hMB
 gi_loopw [11] (fun i wr => ∃ k : Nat, k ≤ l.length ∧ i = .int .i64 k ∧ J [] wr ∧ ∃ D : DataW Unit, wr.ownsMap Tryz.prog 3 (plainElem Tryz.prog 4) MB k D ∧ SeenIs D (voidsL (l.take k))) (fun i _ => l.length - (RowKit.intOf i).toNat)
 case atStart => exact ⟨0, Nat.zero_le _, rfl, hJ0, _, hM0, SeenIs.nil⟩
 case round =>
  as_aux_lemma =>
  obtain ⟨k, hk, rfl, hj, D, hown, hsee⟩ := hrel
  have hnn : (0 : Int) ≤ k := by omega
  obtain ⟨c1, hx1⟩ := HC.out _ _ hj
  have zS1 := World.block_lt_of_cell? wr _ c1
  simp only at zS1
  by_cases hlt : k < l.length
  ·have i1 : (k : Int) < (l.length : Int) := by omega
   obtain ⟨b, o, rfl, hbl, ⟨d0, d1, d2, d3, d4, d5, d6, d7, d8, d9, d10, d11, d12, d13, d14, d15⟩⟩ := hx1.get hlt
   have Hv := Lib.hid (voids_succ hlt)
   have hwd := hx1.wide _ (Itm.mem hlt)
   have hkey : keyOf Tryz.prog 3 (.int .i64 (l.getD k default).vo) = some (.int .i64 (l.getD k default).vo) := keyOf_int_mk Tryz.underlying3 hwd.vow
   have Hkey := Lib.hid hkey
   clear hkey hwd hx1 c1
   generalize l.getD k default = x at *
   have HS := Lib.hid hsee
   have hal := one_alloc wr (Obj.cells #[.int .i64 x.id, .int .i64 x.kn, .int .u8 x.kd, .string x.wa, .int .i64 x.pit, .int .i64 x.ly, .int .i64 x.co, .bool x.ft, .int .i64 x.sh, .int .i64 x.fr, .int .i64 x.tw, .int .i64 x.lo, .int .i64 x.hi, .string x.st, .int .i64 x.li, .int .i64 x.vo] 24)
   have hj2 := HJ.out _ _ _ none hj (below_grown hal) (fun r e => by cases e)
   have hown2 := hown.kept (below_grown hal) (by simp)
   have HJ2 := Lib.hid hj2
   clear hsee hal hj hj2 hown
   by_cases h7 : x.kd = 7
   ·have h7' : (x.kd == 7) = true := by simpa using h7
    have Hv2 := Lib.hid (Hv.out.trans (by rw [if_pos h7]))
    clear h7
    gi_wp2_with (gi_at_mapUpdate; refine wpListIn_mapUpdate_own _ rfl _ _ _ 186 rfl 3 4 keyI Tryz.underlying186 _ MB _ _ rfl hown2 (by unfold maxLen; omega) _ _ _ rfl rfl Hkey.out _ [] (plainElem_bool Tryz.underlying4 true) ?_; intro w4 hown4 hgrow4)
    go_roundw
    case rel => exact ⟨k + 1, by omega, by go_num, HJ.out _ _ _ (some MB) HJ2.out hgrow4 (fun r e => by cases e; exact ⟨zW, map_grown hown2⟩), _, hown4, by rw [Hv2.out]; exact HS.out.put x.vo⟩
    case measure => simp [RowKit.intOf]; omega
   ·have h7' : (x.kd == 7) = false := by simpa using h7
    have Hv2 := Lib.hid (Hv.out.trans (by rw [if_neg h7, List.append_nil]))
    clear h7
    gi_wp2_with fail
    go_roundw
    case rel => exact ⟨k + 1, by omega, by go_num, HJ2.out, _, hown2.mono (by omega), by rw [Hv2.out]; exact HS.out⟩
    case measure => simp [RowKit.intOf]; omega
  ·have hk2 : k = l.length := by omega
   subst hk2
   rw [List.take_length] at hsee
   clear hx1
   gi_wp2_with fail
   obtain ⟨wo, hwo⟩ : ∃ wo : World, wo = wr := ⟨_, rfl⟩
   rw [← hwo] at hj hown c1 zS1 ⊢
   clear hwo
   have HSee := Lib.hid hsee
   clear hsee
   gi_loopw [24] (fun i wq => ∃ k : Nat, k ≤ l.length ∧ i = .int .i64 k ∧ J (standN l k) wq ∧ wq.ownsMap Tryz.prog 3 (plainElem Tryz.prog 4) MB l.length D) (fun i _ => l.length - (RowKit.intOf i).toNat)
   case atStart => exact ⟨0, Nat.zero_le _, rfl, by simpa [standN] using hj, hown⟩
   case round =>
    as_aux_lemma =>
    clear c1 zS1 hj hown
    obtain ⟨k, hk, rfl, hj, hown⟩ := hrel
    have hnn : (0 : Int) ≤ k := by omega
    obtain ⟨c1, hx1⟩ := HC.out _ _ hj
    have zS1 := World.block_lt_of_cell? wr _ c1
    simp only at zS1
    by_cases hlt : k < l.length
    ·have i1 : (k : Int) < (l.length : Int) := by omega
     obtain ⟨b, o, rfl, hbl, ⟨d0, d1, d2, d3, d4, d5, d6, d7, d8, d9, d10, d11, d12, d13, d14, d15⟩⟩ := hx1.get hlt
     have Hsu := Lib.hid (standN_succ hlt)
     have Hsp := Lib.hid (standN_split hlt)
     have hwd := hx1.wide _ (Itm.mem hlt)
     have hkey : keyOf Tryz.prog 3 (.int .i64 (l.getD k default).id) = some (.int .i64 (l.getD k default).id) := keyOf_int_mk Tryz.underlying3 hwd.idw
     have Hkey := Lib.hid hkey
     clear hkey hwd hx1 c1
     generalize l.getD k default = x at *
     have hl := HSee.out.at_ x.id
     have hVV : decide (x.id ∈ voidsL l) = voidB l x.id := by
      cases h : voidB l x.id
      ·rw [decide_eq_false_iff_not, mem_voids, h]; simp
      ·rw [decide_eq_true_eq, mem_voids, h]
     rw [hVV] at hl
     clear hVV
     generalize voidB l x.id = V at *
     obtain ⟨B1, hB1⟩ : ∃ B, (x.kd != 7) = B := ⟨_, rfl⟩
     rw [hB1] at Hsu Hsp
     have Hl := Lib.hid hl
     have hal := one_alloc wr (Obj.cells #[.int .i64 x.id, .int .i64 x.kn, .int .u8 x.kd, .string x.wa, .int .i64 x.pit, .int .i64 x.ly, .int .i64 x.co, .bool x.ft, .int .i64 x.sh, .int .i64 x.fr, .int .i64 x.tw, .int .i64 x.lo, .int .i64 x.hi, .string x.st, .int .i64 x.li, .int .i64 x.vo] 24)
     have hj2 := HJ.out _ _ _ none hj (below_grown hal) (fun r e => by cases e)
     have hown2 := hown.kept (below_grown hal) (by simp)
     have HJ2 := Lib.hid hj2
     clear hl hal hj hj2 hown
     cases B1
     ·have Hs2 := Lib.hid (Hsu.out.trans (by rw [Bool.false_and, if_neg (by simp), List.append_nil]))
      gi_wp2_with fail
      go_roundw
      case rel => exact ⟨k + 1, by omega, by go_num, by rw [Hs2.out]; exact HJ2.out, hown2⟩
      case measure => simp [RowKit.intOf]; omega
     ·cases V
      ·have Hs2 : Hid (standN l (k + 1) = standN l k ++ [x]) := Lib.hid (by rw [Hsu.out]; rfl)
       obtain ⟨post, hpost⟩ := Hsp.out rfl
       have HY2 := HY.out _ x post _ hpost HJ2.out
       have HP := Lib.hid hpost
       clear hpost
       obtain ⟨fn, tmps, assign, body, hyy, hR⟩ := HY2
       have HR2 := Lib.hid hR
       clear hR hfw hdp
       have hlr := lookup_run_bool keyI Tryz.underlying186 Tryz.underlying4 (zvB _) hown2 Hkey.out Hl.out
       gi_wp2_with fail
       refine ⟨rfl, HR2.out.mono ?_⟩
       rintro e W3 ⟨hkw, ⟨rfl, hJ3⟩ | ⟨rfl, hJ3⟩⟩
       ·have HO := Lib.hid (ownsMap_keepsW hown2 hkw hBW)
        gi_wp2
        go_roundw
        case rel => exact ⟨k + 1, by omega, by go_num, by rw [Hs2.out]; exact hJ3, HO.out⟩
        case measure => simp [RowKit.intOf]; omega
       ·gi_wp2
        exact bodyPost_ret (v := .tuple #[]) (by simp [results, Tryz.results172]) rfl ⟨⟨_, rfl⟩, .inr ⟨_, _, _, HP.out, hJ3⟩⟩
      ·have Hs2 := Lib.hid (Hsu.out.trans (by rw [if_neg (by simp), List.append_nil]))
       have hlr := lookup_run_bool keyI Tryz.underlying186 Tryz.underlying4 (zvB _) hown2 Hkey.out Hl.out
       gi_wp2_with fail
       go_roundw
       case rel => exact ⟨k + 1, by omega, by go_num, by rw [Hs2.out]; exact HJ2.out, hown2⟩
       case measure => simp [RowKit.intOf]; omega
    ·have hk2 : k = l.length := by omega
     subst hk2
     rw [standN_all] at hj
     clear hx1
     gi_wp2_with fail
     go_end0
     exact ⟨⟨_, rfl⟩, .inl hj⟩
end Go.Proofs.YtelkcohhagblaaaGreat

/- What the functions answer, for every input. -/
import Derived.Test.YtelkcohhagblaaaGreatSe43
import Derived.Test.YtelkcohhagblaaaGreatSe31
import Derived.Test.YtelkcohhagblaaaGreatSe35
import Derived.Test.YtelkcohhagblaaaGreatSe37
set_option linter.unusedSimpArgs false
set_option linter.unusedVariables false
set_option linter.unnecessarySimpa false
namespace Go.Proofs.YtelkcohhagblaaaGreat
open Go.RowKit Go.Shelf
set_option maxHeartbeats 8000000
set_option maxRecDepth 100000
def itmX:Itm:={ Itm.zero with id:=9,kn:=6,kd:=7,vo:=1 }
theorem itmX_wide:itmX.Wide:=⟨by unfold maxLen;decide,by unfold maxLen;decide,by decide,by decide,by decide⟩
theorem ex_lim:limL (cntL shelfL 6) belL=(2,8)∧(chkI shelfL).2=0:=by
 exact Z2t
theorem ex_ape:apE shelfL itmX=8:=by kernel_rfl
theorem ex_way2b:wayLo shelfL 2 1 0 3=0∧wayHi shelfL 2 1 0 3=0:=by
 exact Z2t
theorem ex_way3b:wayLo shelfL 5 1 0 1=0∧wayHi shelfL 5 1 0 1=0∧wayK shelfL 5 1 0 1=false:=by
 refine ⟨?_,?_,?_⟩ <;> kernel_rfl
theorem dub_one {l:List Dub} {k:Int} {ids:List Int} (h:dubKs l=[(k,ids)]):∃ v,l=[⟨k,v,ids⟩]:=by
 match l,h with
 | [d],h =>
   simp [dubKs] at h
   obtain ⟨h1,h2⟩:=h
   exact ⟨d.v,by cases d;simp at h1 h2;rw [h1,h2]⟩
theorem lshelved (w:World):Calls Tryz.prog 20 #[] w fun e w'=>e=.returned (.bool true)∧Below w.heap.size w w':=by
 have hSh:=fun W=>lshelf W
 have hW1:=fun W a c (hc:8≤c) (hi:ItmsAt W a 8 c shelfL)=>sWay_any soutline a 8 c shelfL 1 1 0 1 W hi hc
 have hW2:=fun W a c (hc:8≤c) (hi:ItmsAt W a 8 c shelfL)=>sWay_any soutline a 8 c shelfL 2 1 0 3 W hi hc
 have hW3:=fun W a c (hc:8≤c) (hi:ItmsAt W a 8 c shelfL)=>sWay_any soutline a 8 c shelfL 5 1 0 1 W hi hc
 have hCo:=fun W a c (hc:8≤c) (hi:ItmsAt W a 8 c shelfL)=>sColour_any a 8 c shelfL 3 1 W hi hc
 have hCu:=fun W a c (hc:8≤c) (hi:ItmsAt W a 8 c shelfL)=>sCurves_any a 8 c shelfL 3 1 W hi hc
 have hRe:=fun W a c (hc:8≤c) (hi:ItmsAt W a 8 c shelfL)=>sRests_any a 8 c shelfL 4 1 0 1 true W hi hc
 have hDo:=fun W a c (hc:8≤c) (hi:ItmsAt W a 8 c shelfL)=>sDoubts_any a 8 c shelfL 5 1 W hi hc
 have hLi:=fun W a c (hc:8≤c) (hi:ItmsAt W a 8 c shelfL)=>sLimitOf_any a 8 c shelfL 6 belL W hi hc
 have hTu:=fun W a c (hc:8≤c) (hi:ItmsAt W a 8 c shelfL)=>sTurn_any soutline a 8 c shelfL 5 1 0 3 W hi hc
 have hAp:=fun W a c (hc:8≤c) (hi:ItmsAt W a 8 c shelfL)=>sAppend_any itmX a 8 c shelfL W hi hc (fun y hy w1=>sCheckItem_any y w1 (by
  rcases hy with hy | rfl
  ·exact shelf_wide y hy
  ·exact itmX_wide))
 unfold QuadI at hW1 hW2 hW3
 unfold TriI at hTu
 unfold IntE at hRe
 unfold RowE at hAp
 unfold DubPost dubE at hDo
 rw [if_pos ex_dubs.1,ex_dubs.2,ex_dubs.1] at hDo
 rw [ex_way1.1,ex_way1.2.1,ex_way1.2.2.1,ex_way1.2.2.2] at hW1
 rw [ex_way2b.1,ex_way2b.2,ex_way2.1,ex_way2.2] at hW2
 rw [ex_way3b.1,ex_way3b.2.1,ex_way3b.2.2,ex_way3] at hW3
 rw [ex_col.1,ex_col.2] at hCo
 rw [ex_cur.1,ex_cur.2] at hCu
 rw [ex_rests.1,ex_rests.2] at hRe
 rw [ex_turn.1,ex_turn.2.1,ex_turn.2.2] at hTu
 rw [ex_lim.1,ex_lim.2] at hLi
 rw [ex_ape] at hAp
 simp only [Spn.v,Spn.cs,belL] at hCo hLi
 simp only [Itm.v,Itm.cs,itmX,Itm.zero] at hAp
 have hEq:=fun w=>eqSpn w 450 500 5 4
 have hGd:=gdSpn
 have hSI:=fun W a1 a2 c1 c2 n1 n2 xs (h1:IntsAt W a1 n1 c1 xs) (h2:IntsAt W a2 n2 c2 xs)=>r2sameInts a1 a2 n1 n2 c1 c2 xs W h1 h2
 have tok1:True:=trivial
 have tok2:True:=trivial
 go_enter Tryz.func20,Tryz.ntmps20
 go_wp2_with (first
  | (go_at_call 72;(with_reducible refine (hSh _).mono ?_);rintro e w1 ⟨a,c,rfl,hi1,hc,hb1⟩)
  | (go_at_call 28;(with_reducible refine (hW1 _ a c hc hi1).mono ?_);rintro e w2 ⟨rfl,hb2⟩;have hi2:=hi1.below hb2)
  | (go_at_call 28;(with_reducible refine (hW2 _ a c hc hi2).mono ?_);rintro e w3 ⟨rfl,hb3⟩;have hi3:=hi2.below hb3)
  | (go_at_call 28;(with_reducible refine (hW3 _ a c hc hi3).mono ?_);rintro e w4 ⟨rfl,hb4⟩;have hi4:=hi3.below hb4)
  | (go_at_call 32;(with_reducible refine (hCo _ a c hc hi4).mono ?_);rintro e w5 ⟨rfl,hb5⟩;have hal5:=one_alloc w5 (Obj.cells #[.int .i64 450,.int .i64 500,.int .i64 5,.int .i64 4] 43);have hi5:=(hi4.below hb5).below hal5;have hC5:=World.alloc_heap_new w5 (Obj.cells #[.int .i64 450,.int .i64 500,.int .i64 5,.int .i64 4] 43))
  | (go_at_call 34;(with_reducible refine (hCu _ a c hc hi5).mono ?_);rintro e w6 ⟨rfl,hb6⟩;have hi6:=hi5.below hb6)
  | (go_at_call 44;(with_reducible refine (hRe _ a c hc hi6).mono ?_);rintro e w7 ⟨v7,rfl,hb7,ho7⟩;have hi7:=hi6.below hb7;obtain ⟨ra,rc,rfl,_⟩:=owns_slice ho7)
  | (go_at_call 53;(with_reducible refine (hDo _ a c hc hi7).mono ?_);rintro e w8 ⟨v8,l8,rfl,hb8,hD8,hl8⟩;have hi8:=hi7.below hb8;obtain ⟨dv,rfl⟩:=dub_one hl8;clear hl8;have hr8:=hD8.row;have hd8:=hD8.ids _ (List.mem_singleton.2 rfl);obtain ⟨da,dc,rfl,_⟩:=owns_slice hr8;simp only at hd8;obtain ⟨ia,ic,rfl,_⟩:=owns_slice hd8)
  | (go_at_call 64;(with_reducible refine (hLi _ a c hc hi8).mono ?_);rintro e w9 ⟨rfl,hb9⟩;have hi9:=hi8.below hb9)
  | (go_at_call 30;(with_reducible refine (hTu _ a c hc hi9).mono ?_);rintro e w10 ⟨rfl,hb10⟩;have hi10:=hi9.below hb10)
  | (go_at_call 23;(with_reducible refine (hAp _ a c hc hi10).mono ?_);rintro e w11 ⟨v11,rfl,hb11,ho11⟩;obtain ⟨pa,pc,rfl,_⟩:=owns_slice ho11;have hB8:=(((hb9.ch2 hb10).ch2 hb11));have hB6:=((hb6.ch2 hb7).ch2 hb8).trans (hB8.mono (by have:=((hb6.ch2 hb7).ch2 hb8).size;omega));have hC11:=(hB6.block _ (by simp)).trans hC5;obtain ⟨q0,q1,q2,q3,qf,ql⟩:=cell4s hC11;have hI7:IntsAt (w11.alloc (Obj.cells #[.int .i64 2,.int .i64 3] 3)) ra 2 rc [2,3]:=(own_ints (xs:=[2,3]) ho7 (hb8.trans (hB8.mono hb8.size)) (by simp)).below (one_alloc w11 (Obj.cells #[.int .i64 2,.int .i64 3] 3));have hL1:IntsAt (w11.alloc (Obj.cells #[.int .i64 2,.int .i64 3] 3)) (some ⟨w11.heap.size,0,none⟩) 2 2 [2,3]:=⟨rfl,by simp,RowAt.of_heap (cap:=2) (World.alloc_heap_new w11 (Obj.cells #[.int .i64 2,.int .i64 3] 3))⟩;have hal11:=one_alloc w11 (Obj.cells #[.int .i64 2,.int .i64 3] 3))
  | (go_at_call 48;clear tok1;(with_reducible refine (hSI _ _ _ _ _ _ _ _ hI7 hL1).mono ?_);rintro e w12 ⟨rfl,hb12⟩;have hB812:=(hB8.ch2 hal11).ch2 hb12;obtain ⟨gb,go',rfl,gz,g0⟩:=((RowAt.of_owns hr8).below hB812).cell (i:=0) (u:=.int .u8 1) rfl;rw [Nat.add_zero] at g0;obtain ⟨gb2,go2,ge,gz2,g1⟩:=((RowAt.of_owns hr8).below hB812).cell (i:=1) (u:=.slice ia 3 ic) rfl;simp only [Option.some.injEq,Addr.mk.injEq,and_true] at ge;obtain ⟨rfl,rfl⟩:=ge;have hI8:IntsAt (w12.alloc (Obj.cells #[.int .i64 2,.int .i64 3,.int .i64 7] 3)) ia 3 ic [2,3,7]:=(own_ints (xs:=[2,3,7]) hd8 hB812 (by simp)).below (one_alloc w12 (Obj.cells #[.int .i64 2,.int .i64 3,.int .i64 7] 3));have hL2:IntsAt (w12.alloc (Obj.cells #[.int .i64 2,.int .i64 3,.int .i64 7] 3)) (some ⟨w12.heap.size,0,none⟩) 3 3 [2,3,7]:=⟨rfl,by simp,RowAt.of_heap (cap:=3) (World.alloc_heap_new w12 (Obj.cells #[.int .i64 2,.int .i64 3,.int .i64 7] 3))⟩;have hal12:=one_alloc w12 (Obj.cells #[.int .i64 2,.int .i64 3,.int .i64 7] 3))
  | (go_at_call 48;clear tok2;(with_reducible refine (hSI _ _ _ _ _ _ _ _ hI8 hL2).mono ?_);rintro e w13 ⟨rfl,hb13⟩))
 go_ret
 exact ⟨rfl,(((((((((((hb1.ch2 hb2).ch2 hb3).ch2 hb4).ch2 hb5).ch2 hal5).ch2 hb6).ch2 hb7).ch2 hb8).ch2 hB812).ch2 hal12).ch2 hb13)⟩
end Go.Proofs.YtelkcohhagblaaaGreat

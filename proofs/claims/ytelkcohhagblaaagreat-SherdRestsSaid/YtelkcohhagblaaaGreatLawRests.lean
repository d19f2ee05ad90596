/-
  The law Rests, walked, and its statement.
-/
import Derived.Test.YtelkcohhagblaaaGreatSe45
import Derived.Test.YtelkcohhagblaaaGreatSe52
import Derived.Test.YtelkcohhagblaaaGreatSe51
import Derived.Test.YtelkcohhagblaaaGreatSe27
import Derived.Test.YtelkcohhagblaaaGreatSe53
import Derived.Test.YtelkcohhagblaaaGreatSe54
import Derived.Test.YtelkcohhagblaaaGreatSe49
import Derived.Test.YtelkcohhagblaaaGreatSe42
import Derived.Test.YtelkcohhagblaaaGreatSe43
import Derived.Test.YtelkcohhagblaaaGreatRows
import Derived.OpenShut
set_option linter.unusedSimpArgs false
set_option linter.unusedVariables false
set_option linter.unnecessarySimpa false
namespace Go.Proofs.YtelkcohhagblaaaGreat
theorem Z9s {P:Prop}(h:P:=by
 refine hK _ v' w6 _ Zh (.of_own hg6 (fun k e=>by simp [SL.row,e1,e])) ⟨ho6,rfl⟩ ?_
 intro k hk
 simp [SL.row,e1] at hk ⊢
 exact Z1a):P:=h
theorem Z9t {P:Prop}(h:P:=by
 exact HF.out _ _ (hZ1.ch2 hb2) (SL.row_base ho2 hZ1.size)):P:=h
theorem Z9m {P:Prop}(h:P:=by
 go_enter Tryz.func47,Tryz.ntmps47
 go_wp2_with (first
  | (go_at_call 33;(with_reducible refine hC.mono ?_);rintro e w1 ⟨rfl,hb1⟩;have hS1:=World.alloc_heap_new w1 (Obj.cells #[.int .i64 o.lo,.int .i64 o.hi,.int .i64 o.lob,.int .i64 o.hib] 43);have hZ1:=hb1.ch2 (one_alloc w1 (Obj.cells #[.int .i64 o.lo,.int .i64 o.hi,.int .i64 o.lob,.int .i64 o.hib] 43)))
  | (go_at_call 105;clear tok1;(with_reducible refine (hp1 _).mono ?_);rintro e w2 ⟨v2,rfl,hb2,ho2⟩;obtain ⟨pa,pc,rfl,_⟩:=owns_slice ho2;obtain ⟨x0,x1,x2,x3,xf,xl⟩:=cell4s ((hb2.block w1.heap.size (by simp)).trans hS1)))
 exact Z9t):P:=h
theorem Z9n {P:Prop}(h:P:=by
 go_wp2_with (go_at_call 104;(with_reducible refine hcall.mono ?_);rintro e w8 ⟨rfl,hb8⟩)
 go_roundw
 case rel=>exact ⟨k,R,by omega,by go_num,Hsub.out,Hst.out.symm,(HR.out.up (HB7.out.ch2 hb8) (Nat.le_refl _)),(HB.out.ch2 HB7.out).ch2 hb8⟩
 case measure=>simp [RowKit.intOf] <;> omega):P:=h
theorem Z9o {P:Prop}(h:P:=by
 exact bodyPost_ret (v:=.tuple #[.int .i64 G1,.bool G2]) (by simp [results,Tryz.results104,go_sem]) rfl ⟨rfl,(hC4.ch2 al4).ch2 hb5⟩):P:=h
theorem Z9p {P:Prop}(h:P:=by
 simp [Asc]):P:=h
theorem Z9q {P:Prop}(h:P:=by
 simp [hx]):P:=h
theorem Z9r {P:Prop}(h:P:=by
 rw [List.length_append];omega):P:=h
end Go.Proofs.YtelkcohhagblaaaGreat

namespace Go.Proofs.YtelkcohhagblaaaGreat
open Go.RowKit Go.Shelf
set_option maxHeartbeats 8000000
set_option maxRecDepth 100000
theorem endN_up {co fr tw:Int} {m:List Itm}:(endN co fr tw true m).1=grN (co +1) (waysB co m) fr tw∧(endN co fr tw true m).2=grB (co +1) (waysB co m) fr tw:=by
 unfold endN
 simp
theorem r2end_any (co:Int) (a:Option Addr) (n cap:Nat) (l:List Itm) (fr tw:Int) (up:Bool) (w:World) (h:ItmsAt w a n cap l) (hco:0≤co∧co≤1000) (hs:l.length≤1000) (hlo:∀ x ∈ l, -10000≤x.lo∧x.lo≤10000) :
 Calls Tryz.prog 104 #[.int .i64 co,.slice a n cap,.int .i64 fr,.int .i64 tw,.bool up] w fun e w'=>e=.returned (.tuple #[.int .i64 (endN co fr tw up l).1,.bool (endN co fr tw up l).2])∧Below w.heap.size w w':=by
 have hS:=fun W=>r2sides_any co W hco
 have hQ:=fun W (hi:ItmsAt W a n cap l)=>r2bounds_any a n cap l W hi hs hlo
 have hGr:=fun W b c (hb:BdsAt W b (waysB co l).length c (waysB co l))=>rGreatest_any (co +1) b _ c (waysB co l) fr tw W hb
 have hLe:=fun W b c (hb:BdsAt W b (waysB co l).length c (waysB co l))=>rLeast_any (co +1) b _ c (waysB co l) fr tw W hb
 have hwr:IntKind.i64.wrap (co +1)=co +1:=IntWalk.i64_in _ (by omega)
 have e1:=endN_up (co:=co) (fr:=fr) (tw:=tw) (m:=l)
 have e2:=endN_low (co:=co) (fr:=fr) (tw:=tw) (m:=l)
 have hWB:waysB co l=sidesL co.toNat ++msB l:=rfl
 have hn1:(sidesL co.toNat).length≤1000:=by rw [sides_len];omega
 have hn2:(msB l).length≤2000:=by rw [msB_two];omega
 unfold RowPost at hS hQ
 rw [hWB] at hGr hLe e1 e2
 clear hWB hlo
 generalize sidesL co.toNat=D at *
 generalize msB l=M at *
 rw [List.length_append] at hGr hLe
 cases up with
 | true =>
   rw [e1.1,e1.2]
   clear e1 e2 hLe
   generalize grN (co +1) (D ++M) fr tw=G1 at *
   generalize grB (co +1) (D ++M) fr tw=G2 at *
   go_enter Tryz.func104,Tryz.ntmps104
   go_wp2_with (first
    | (go_at_call 94;(with_reducible refine (hS _).mono ?_);rintro e w2 ⟨v2,rfl,hb2,ho2⟩;obtain ⟨sa,sc,rfl,_⟩:=owns_slice ho2)
    | (go_at_call 95;(with_reducible refine (hQ _ (h.below hb2)).mono ?_);rintro e w3 ⟨v3,rfl,hb3,ho3⟩;obtain ⟨ba,bc,rfl,_⟩:=owns_slice ho3;have hr3:=ho2.up hb3 (Nat.le_refl _);have hC3:=hb2.ch2 hb3)
    | (at_builtin;refine wpList_app elemB rfl _ _ rfl hr3 rfl rfl (RowAt.of_owns ho3) (bcs_length M) (bcs_one M) Z1s (by omega) hC3.size ?_;intro v4 w4 hr4 hg4 hb4 _ _;obtain ⟨wa',wc',rfl,_⟩:=owns_slice hr4;have hC4:=hC3.trans hb4;have al4:=one_alloc w4 (Obj.cells #[.int .i64 (co +1),.slice wa' (D.length +M.length) wc'] 57);have q4:=(BdsAt.of_owns (by rw [bcs_append];exact hr4) Z9r:BdsAt w4 wa' _ wc' (D ++M)).below al4)
    | (go_at_call 87;(with_reducible refine (hGr _ _ _ q4).mono ?_);rintro e w5 ⟨rfl,hb5⟩))
   exact Z9o
 | false =>
   rw [e2.1,e2.2]
   clear e1 e2 hGr
   generalize - grN (co +1) (D ++M) tw fr=G1 at *
   generalize grB (co +1) (D ++M) tw fr=G2 at *
   go_enter Tryz.func104,Tryz.ntmps104
   go_wp2_with (first
    | (go_at_call 94;(with_reducible refine (hS _).mono ?_);rintro e w2 ⟨v2,rfl,hb2,ho2⟩;obtain ⟨sa,sc,rfl,_⟩:=owns_slice ho2)
    | (go_at_call 95;(with_reducible refine (hQ _ (h.below hb2)).mono ?_);rintro e w3 ⟨v3,rfl,hb3,ho3⟩;obtain ⟨ba,bc,rfl,_⟩:=owns_slice ho3;have hr3:=ho2.up hb3 (Nat.le_refl _);have hC3:=hb2.ch2 hb3)
    | (at_builtin;refine wpList_app elemB rfl _ _ rfl hr3 rfl rfl (RowAt.of_owns ho3) (bcs_length M) (bcs_one M) Z1s (by omega) hC3.size ?_;intro v4 w4 hr4 hg4 hb4 _ _;obtain ⟨wa',wc',rfl,_⟩:=owns_slice hr4;have hC4:=hC3.trans hb4;have al4:=one_alloc w4 (Obj.cells #[.int .i64 (co +1),.slice wa' (D.length +M.length) wc'] 57);have q4:=(BdsAt.of_owns (by rw [bcs_append];exact hr4) Z9r:BdsAt w4 wa' _ wc' (D ++M)).below al4)
    | (go_at_call 88;(with_reducible refine (hLe _ _ _ q4).mono ?_);rintro e w5 ⟨rfl,hb5⟩))
   exact Z9o
set_option maxHeartbeats 16000000
theorem row_fstT {w:World} {a:Option Addr} {cap:Nat} {S:List Itm} (h:RowAt w a cap (ics S)) (q:Nat):RowAt w a cap (ics (S.take q)):=by
 rw [← List.take_append_drop q S,ics_append] at h
 constructor
 ·intro ha
  have:=h.nil ha
  rw [List.append_eq_nil_iff] at this
  exact ⟨this.1.1,this.2⟩
 ·intro x hx
  refine ⟨(h.at_ x hx).1,(h.at_ x hx).2.1,fun i u hi=>(h.at_ x hx).2.2 i u ?_⟩
  rw [List.getElem?_append_left (List.getElem?_eq_some_iff.1 hi).1]
  exact hi
theorem row_fromT {w:World} {b o oc q:Nat} {S:List Itm} (h:RowAt w (some ⟨b,o,none⟩) oc (ics S)) (hq:q≤S.length) (hc:S.length≤oc):RowAt w (if oc=q then some ⟨b,o,none⟩ else some ⟨b,o +q * 16,none⟩) (oc - q) (ics (S.drop q)):=by
 split
 ·rename_i e
  rw [List.drop_eq_nil_of_le (by omega)]
  constructor
  ·intro ha;cases ha
  ·intro x hx
   cases hx
   exact ⟨rfl,(h.at_ _ rfl).2.1,fun i u hi=>by simp [ics] at hi⟩
 ·constructor
  ·intro ha;cases ha
  ·intro x hx
   cases hx
   refine ⟨rfl,(h.at_ _ rfl).2.1,fun i u hi=>?_⟩
   have hl:(ics (S.take q)).length=q * 16:=by rw [ics_length,List.length_take,Nat.min_eq_left hq]
   have hi2:(ics S)[q * 16 +i]?=some u:=by
    rw [← List.take_append_drop q S,ics_append,List.getElem?_append_right (by omega),hl]
    simpa using hi
   have:=(h.at_ _ rfl).2.2 (q * 16 +i) u hi2
   simpa [Nat.add_assoc] using this
theorem ascR_take {R:List Itm} {k:Nat} (hk:k<R.length):ascOf (ascOf ((R.take k).map (·.id)) ++[(R.getD k default).id])=ascOf ((R.take (k +1)).map (·.id)):=by
 refine asc_ext (ascOf_asc _) (ascOf_asc _) fun x=>?_
 rw [mem_ascOf,mem_ascOf,List.mem_append,mem_ascOf,List.take_succ_eq_append_getElem hk,List.getD_eq_getElem?_getD,List.getElem?_eq_getElem hk,List.map_append,List.mem_append]
 rfl
theorem asc_fresh {R:List Itm} (hn:R.Pairwise fun x y=>x.id≠y.id) {k:Nat} (hk:k<R.length):(R.getD k default).id ∉ ascOf ((R.take k).map (·.id)):=by
 rw [mem_ascOf]
 intro hm
 obtain ⟨y,hy,e⟩:=List.mem_map.1 hm
 obtain ⟨i,hi,e2⟩:=List.getElem_of_mem hy
 rw [List.length_take] at hi
 rw [List.getElem_take] at e2
 have:=List.pairwise_iff_getElem.1 hn i k (by omega) hk (by omega)
 rw [List.getD_eq_getElem?_getD,List.getElem?_eq_getElem hk] at e
 rw [e2] at this
 exact this e
theorem spare_step {nd:List Itm→Bool} {R:List Itm} {k:Nat}:spareK nd R (k +1)=spareK nd (if nd (R.take k ++R.drop (k +1)) then R else R.take k ++R.drop (k +1)) k:=by
 rw [← erase_eq]
 rfl
theorem r2Rests_any (a:Option Addr) (n cap:Nat) (l:List Itm) (day id fr tw:Int) (up:Bool) (w:World) (h:ItmsAt w a n cap l) (hcap:l.length≤cap) (hs:l.length≤1000) :
 Calls Tryz.prog 45 #[.slice a n cap,.int .i64 day,.int .i64 id,.int .i64 fr,.int .i64 tw,.bool up] w (IntE w (wayE l day id fr tw) (wRestsL l day id fr tw up)):=by
 have hSo:=fun W hi=>r2SherdOf_any a n cap l day id W hi hcap hs
 have hWy:=fun W hi=>r2Way_any a n cap l day id fr tw W hi hcap hs
 have hOf:=fun W hi=>r2of_any a n cap l day id 2 W hi hs
 have hw:=h.wide
 have HP:=Lib.hid (show ∀ w' v E A,wayE l day id fr tw=E→wRestsL l day id fr tw up=A→Below w.heap.size w w'→w'.ownsRow w.heap.size 3 1 v A.length (A.map (.int .i64))→IntE w (wayE l day id fr tw) (wRestsL l day id fr tw up) (.returned (.tuple #[v,.int .i64 E])) w' from fun w' v E A h0 h1 h2 h3=>⟨v,by rw [h0],h2,by rw [h1];exact h3⟩)
 generalize IntE w (wayE l day id fr tw) (wRestsL l day id fr tw up)=Post at *
 unfold QuadI at hWy
 unfold RowPost at hOf
 have hWE:lookE l day id≠0→wayE l day id fr tw=lookE l day id:=fun h0=>by unfold wayE;rw [if_neg h0]
 have hWR:wayE l day id fr tw≠0→wRestsL l day id fr tw up=[]:=fun h0=>by unfold wRestsL;rw [if_neg h0]
 by_cases h0:wayE l day id fr tw=0
 ·have hwo:=way_ok h0
  have hlk:=hwo.look
  have hl0:lookE l day id=0:=by
   by_cases e:lookE l day id=0
   ·exact e
   ·have:=hWE e;omega
  have hZ:lookZ l day id=lookS l day id:=by unfold lookZ;rw [if_pos hl0]
  have hRs:wRestsL l day id fr tw up=idsI (spareL (endNeeds (lookS l day id).co fr tw up (keptL (countL l day) 2 id)) (keptL (countL l day) 2 id)):=by unfold wRestsL;rw [if_pos h0]
  have hkl:(keptL (countL l day) 2 id).length≤1000:=Nat.le_trans (List.length_filter_le _ _) (Nat.le_trans (countL_len l day) hs)
  have hkw:∀ x ∈ keptL (countL l day) 2 id,x.Wide:=fun x hx=>hw x (countL_sub (List.mem_filter.1 hx).1).1
  have hkn:(keptL (countL l day) 2 id).Pairwise fun x y=>x.id≠y.id:=(countL_ids hlk.cat.ids day).filter _
  have hko:∀ x ∈ keptL (countL l day) 2 id, -10000≤x.lo∧x.lo≤10000:=fun x hx=>(hlk.wms x hx).lo
  have hco:=hlk.co
  rw [hZ,hl0] at hSo
  rw [h0] at hWy HP
  rw [hRs] at HP
  have HPf:=Lib.hid (fun w' v A=>HP.out w' v 0 A rfl)
  clear HP hWE hWR hwo hlk hl0 hZ hRs h0 hw
  generalize keptL (countL l day) 2 id=K at *
  generalize lookS l day id=y at *
  generalize wayLo l day id fr tw=V1 at *
  generalize wayHi l day id fr tw=V2 at *
  generalize wayK l day id fr tw=V3 at *
  have hEn:=fun W b c (M:List Itm) (hi:ItmsAt W b M.length c M) (hM:M.Sublist K)=>r2end_any y.co b _ c M fr tw up W hi (by omega) (by have:=hM.length_le;omega) (fun x hx=>hko x (hM.subset hx))
  have hnd:∀ M,endNeeds y.co fr tw up K M=!((endN y.co fr tw up M).1 == (endN y.co fr tw up K).1 && (endN y.co fr tw up M).2 == (endN y.co fr tw up K).2):=fun M=>rfl
  have HK:=Lib.hid hkn
  have HW:=Lib.hid hkw
  have Hnd:=Lib.hid hnd
  clear hko hnd hkn
  generalize endNeeds y.co fr tw up K=nd at *
  obtain ⟨n0,hn0⟩:∃ q,(endN y.co fr tw up K).1=q:=⟨_,rfl⟩
  obtain ⟨b0,hb0⟩:∃ q,(endN y.co fr tw up K).2=q:=⟨_,rfl⟩
  have hEK:=fun W b c hi=>hEn W b c K hi (List.Sublist.refl _)
  rw [hn0,hb0] at hEK Hnd
  clear hn0 hb0
  simp only [Shd.v,Shd.cs] at hSo
  go_enter Tryz.func45,Tryz.ntmps45
  go_wp2_with (first
   | (go_at_call 60;(with_reducible refine (hSo _ h).mono ?_);rintro e w1 ⟨rfl,hb1⟩;have hA1:=World.alloc_heap_new w1 (Obj.cells #[.int .i64 y.id,.string y.wa,.int .i64 y.pit,.int .i64 y.ly,.int .i64 y.co,.bool y.ft] 72);have hZ1:=hb1.ch2 (one_alloc w1 (Obj.cells #[.int .i64 y.id,.string y.wa,.int .i64 y.pit,.int .i64 y.ly,.int .i64 y.co,.bool y.ft] 72)))
   | (go_at_call 29;(with_reducible refine (hWy _ (h.below hZ1)).mono ?_);rintro e w2 ⟨rfl,hb2⟩)
   | (go_at_call 90;(with_reducible refine (hOf _ (h.below (hZ1.ch2 hb2))).mono ?_);rintro e w3 ⟨v3,rfl,hb3,ho3⟩;obtain ⟨ra,rc,rfl,_⟩:=owns_slice ho3;have hk3:=ItmsAt.of_owns ho3 (by omega) hkw;have hY3:=((hb2.ch2 hb3).block w1.heap.size (by simp)).trans hA1;obtain ⟨y0,y1,y2,y3,y4,y5,yf,yl⟩:=cell6 hY3)
   | (go_at_call 104;(with_reducible refine (hEK _ _ _ hk3).mono ?_);rintro e w4 ⟨rfl,hb4⟩))
  have hro4:=ho3.up hb4 (Nat.le_refl _)
  have hB4:=Lib.hid ((((hZ1.ch2 hb2).ch2 hb3).ch2 hb4))
  have hY4:=(hb4.block _ yl).trans hY3
  have HY:=Lib.hid hY4
  have zY:=(Array.getElem?_eq_some_iff.1 hY4).1
  have hbs:=Nat.le_trans hb3.size hb4.size
  clear hA1 hZ1 hb1 hb2 hb3 hb4 hk3 hY3 y0 y1 y2 y3 y4 y5 yf yl ho3 hY4 hSo hWy hOf hEK h
  have hz4:=hbs
  go_loopw [16,19] (fun r i wr=>∃ (q:Nat) (R:List Itm),q≤R.length∧i=.int .i64 ((q:Int) - 1)∧R.Sublist K∧spareK nd R q=spareL nd K∧wr.ownsRow w2.heap.size 24 16 r R.length (ics R)∧Below w4.heap.size w4 wr) (fun _ i _=>((RowKit.intOf i) +1).toNat)
  case atStart=>exact ⟨K.length,K,Nat.le_refl _,by go_num,List.Sublist.refl _,rfl,hro4,Below.refl _ _⟩
  case round =>
   obtain ⟨q,R,hq,rfl,hsub,hsp,hro,hB⟩:=hrel
   have hRl:=hsub.length_le
   have Hsp:=Lib.hid hsp
   have Hsub:=Lib.hid hsub
   clear hsp hsub hro4
   obtain ⟨ra,rc,rfl,_⟩:=owns_slice hro
   have hYr:=(hB.block _ zY).trans HY.out
   have zYr:=(Array.getElem?_eq_some_iff.1 hYr).1
   cases q with
   | succ k =>
     have e1:((k +1:Nat):Int) - 1=k:=by omega
     rw [e1]
     clear e1
     have hrow:=RowAt.of_owns hro
     have hrc:=row_cap hro
     rcases ra with _ | ⟨bo,oo,so⟩
     ·have e:=(hrow.nil rfl).1
      have e2:=ics_length R
      rw [e] at e2
      simp at e2
      omega
     obtain ⟨hso,hbz,_⟩:=hrow.at_ _ rfl
     simp only at hso
     subst hso
     obtain ⟨M,hM⟩:∃ M,R.take k ++R.drop (k +1)=M:=⟨_,rfl⟩
     have hMl:M.length=k +(R.length - (k +1)):=by rw [← hM,List.length_append,List.length_take,List.length_drop,Nat.min_eq_left (by omega)]
     have HM:=Lib.hid hM
     have HMl:=Lib.hid hMl
     have hMs:M.Sublist K:=by rw [← hM,← erase_eq];exact (List.eraseIdx_sublist _ _).trans Hsub.out
     have HMs:=Lib.hid hMs
     have hMk:=hMs.length_le
     have HR:=Lib.hid hro
     have HB:=Lib.hid hB
     have HRow:=Lib.hid hrow
     have HYr:=Lib.hid hYr
     have j0:(0:Int)≤(k:Int):=by omega
     have j1:(k:Int)≤(rc:Int):=by omega
     have j2:(k:Int) +1≤(R.length:Int):=by omega
     have j3:(k:Int) +1≤(rc:Int):=by omega
     have j4:(0:Int)≤(k:Int) +1:=by omega
     have j5:(R.length:Int)≤(rc:Int):=by omega
     have hwr:IntKind.i64.wrap ((k:Int) +1)=(k:Int) +1:=IntWalk.i64_in _ (by omega)
     have hq2:k +1≤R.length:=hq
     clear hM hMl hMs hro hB hrow hYr hq
     go_wp2_with fail
     apply SLG.rule0 ?hm [] [70,71,72,73,74,75,76,77,78,79,20] [SL.row 70 [] [] wr.heap.size 24 16 0 [],SLF.pq 71 [] _,SLF.pq 72 [] _,SLF.pq 73 [1,2] _,SL.row 74 [0,3] [0] wr.heap.size 24 16 k (ics (R.take k)),SLF.pq 75 [] _,SLF.pq 76 [] _,SLF.pq 77 [6] _,SLF.pq 78 [5,7] _,SL.row 79 [4,8] [4] wr.heap.size 24 16 M.length (ics M),SL.row 20 [9] [9] wr.heap.size 24 16 M.length (ics M)] [10] ?hck ?hkp (fun _=>[]) ?hin ?hdj ?hfr ?ob ?en1
     case hm=>kernel_rfl
     case hin=>exact SL.none_held rfl
     case hdj=>simp
     case hfr=>intro us;simp only [SL.frame,SL.put'];simp;exact rfl
     case ob =>
      refine ⟨?_,?_,?_,?_,?_,?_,?_,?_,?_,?_,?_,trivial⟩
      all_goals first
       | (intro us w' Fe hG hu hd hv Kx hK
          try dsimp only
          simp [SL.O] at hu hK
          have hB5:Below wr.heap.size wr w':=hG.below'
          exact Z7r)
       | skip
      ·refine SLG.ob_sp rfl rfl rfl fun us w' Fe hG hu hd Kx hK=>?_
       try dsimp only
       simp [SL.O] at hu
       have hB5:Below wr.heap.size wr w':=hG.below'
       obtain ⟨hc5,hf5⟩:=bcell hB5
       have hs5:=hB5.size
       refine SLF.wpo_do (SLF.wanted_free rfl) ?hd ?_
       case hd=>intro c h;cases h
       clear hu hc5 hf5
       go_step
       exact hK _ (.slice (some ⟨w'.heap.size,0,none⟩) 0 0) _ _ Zh (.alloc _ _ _) ⟨World.ownsRow_lit w' #[] 0 hs5 (by decide) rfl,rfl⟩ (fun j hj=>.inr (by simp [Value.ownBlock] at hj;subst hj;simp))
      ·refine SLG.ob_sp rfl rfl rfl fun us w' Fe hG hu hd Kx hK=>?_
       try dsimp only
       simp [SL.O] at hu
       have hB5:Below wr.heap.size wr w':=hG.below'
       obtain ⟨hc5,hf5⟩:=bcell hB5
       have hs5:=hB5.size
       refine SLF.wpo_do (SLF.wanted_free rfl) ?hd ?_
       case hd=>intro c h;cases h
       obtain ⟨⟨ho,e1⟩,e2,_⟩:=hu
       have hsr:=(row_fstT HRow.out k).below hB5
       clear hc5 hf5
       refine wp_app elemT _ _ rfl ho rfl e2 hsr (by rw [ics_length,List.length_take,Nat.min_eq_left (by omega)]) (ics_one _) Z1s (by omega) (by omega) ?_
       intro v' w6 ho6 hg6 hb6 _ hat
       rw [Nat.zero_add,List.nil_append] at ho6
       exact Z9s
      ·refine SLG.ob_sp rfl rfl rfl fun us w' Fe hG hu hd Kx hK=>?_
       try dsimp only
       simp [SL.O] at hu
       have hB5:Below wr.heap.size wr w':=hG.below'
       obtain ⟨hc5,hf5⟩:=bcell hB5
       have hs5:=hB5.size
       refine SLF.wpo_do (SLF.wanted_free rfl) ?hd ?_
       case hd=>intro c h;cases h
       obtain ⟨⟨ho,e1⟩,e2,_⟩:=hu
       have hsr:=(row_fromT HRow.out (q:=k +1) hq2 hrc).below hB5
       clear hc5 hf5
       refine wp_app elemT _ _ rfl ho rfl e2 hsr (by rw [ics_length,List.length_drop]) (ics_one _) Z1s (by omega) (by omega) ?_
       intro v' w6 ho6 hg6 hb6 _ hat
       rw [← ics_append,HM.out,← HMl.out] at ho6
       exact Z9s
      ·refine SLG.ob_sp rfl rfl rfl fun us w' Fe hG hu hd Kx hK=>?_
       try dsimp only
       simp [SL.O] at hu
       have hB5:Below wr.heap.size wr w':=hG.below'
       obtain ⟨hc5,hf5⟩:=bcell hB5
       have hs5:=hB5.size
       refine SLF.wpo_do (SLF.wanted_free rfl) ?hd ?_
       case hd=>intro c h;cases h
       obtain ⟨ho,e4⟩:=hu
       clear hc5 hf5
       go_step
       exact hK _ _ _ _ Zh (SL.Chg.refl _ _) ⟨ho,rfl⟩ (fun k hk=>.inl (by simp [SL.row,e4] at hk ⊢;exact hk))
     case hck=>kernel_rfl
     case hkp=>kernel_rfl
     intro us w7 Fs hG hu hbd hd
     simp [SL.Used,SL.row,SLF.pq] at hu
     obtain ⟨ho7,_⟩:=hu
     obtain ⟨la,lc,hv,_⟩:=owns_slice ho7
     have hb7:Below wr.heap.size wr w7:=hG.below'
     rw [hv] at ho7 ⊢
     clear hG hbd hd hv
     obtain ⟨y0,y1,y2,y3,y4,y5,yf,yl⟩:=cell6 ((hb7.block _ zYr).trans HYr.out)
     have hk7:=ItmsAt.of_owns ho7 (by omega) (fun x hx=>HW.out x (HMs.out.subset hx))
     have hcall:=hEn _ _ _ M hk7 HMs.out
     have hnd:=Hnd.out M
     generalize (endN y.co fr tw up M).1=n1 at *
     generalize (endN y.co fr tw up M).2=b1 at *
     have HO7:=Lib.hid ho7
     have HB7:=Lib.hid hb7
     clear ho7 hb7 hk7
     have Hst:=Lib.hid (spare_step (nd:=nd) (R:=R) (k:=k))
     rw [HM.out,hnd,Hsp.out] at Hst
     clear hnd
     cases hc1:(n1 == n0) with
     | true =>
       cases hc2:(b1 == b0) with
       | true =>
         rw [hc1,hc2] at Hst
         go_wp2_with (go_at_call 104;(with_reducible refine hcall.mono ?_);rintro e w8 ⟨rfl,hb8⟩)
         go_roundw
         case rel=>exact ⟨k,M,by have:=HMl.out;omega,by go_num,HMs.out,Hst.out.symm,SL.row_base (HO7.out.up hb8 (Nat.le_refl _)) (Nat.le_trans hz4 HB.out.size),(HB.out.ch2 HB7.out).ch2 hb8⟩
         case measure=>simp [RowKit.intOf] <;> omega
       | false =>
         rw [hc1,hc2] at Hst
         exact Z9n
     | false =>
       rw [hc1] at Hst
       exact Z9n
   | zero =>
     have e1:((0:Nat):Int) - 1= -1:=rfl
     rw [e1]
     clear e1
     have hR:R=spareL nd K:=Hsp.out
     have HPg:=Lib.hid (fun w' v=>HPf.out w' v (idsI R) (by rw [hR]))
     have hk5:=ItmsAt.of_owns hro (by omega) (fun x hx=>HW.out x (Hsub.out.subset hx))
     have hRn:=HK.out.sublist Hsub.out
     have HBr:=Lib.hid (hB4.out.ch2 hB)
     have HRn:=Lib.hid hRn
     obtain ⟨w5,rfl⟩:∃ w5,w5=wr:=⟨_,rfl⟩
     clear hR hRn Hsp Hsub HPf hro hB hYr hEn Hnd hq HY HW HK zYr
     go_wp2_with fail
     go_loopw [23,24] (fun r i wr=>∃ k:Nat,k≤R.length∧i=.int .i64 k∧wr.ownsRow w5.heap.size 3 1 r (ascOf ((R.take k).map (·.id))).length ((ascOf ((R.take k).map (·.id))).map (.int .i64))∧Below w5.heap.size w5 wr) (fun _ i _=>R.length - (RowKit.intOf i).toNat)
     case atStart=>exact ⟨0,Nat.zero_le _,rfl,World.ownsRow_nil _ _ _ _,Below.refl _ _⟩
     case round =>
      obtain ⟨k,hk,rfl,hro,hB⟩:=hrel
      have hnn:(0:Int)≤k:=by omega
      obtain ⟨ua,uc,rfl,_⟩:=owns_slice hro
      by_cases hlt:k<R.length
      ·have i1:(k:Int)<(R.length:Int):=by omega
       obtain ⟨b,o,rfl,_,⟨d0,d1,d2,d3,d4,d5,d6,d7,d8,d9,d10,d11,d12,d13,d14,d15⟩⟩:=(hk5.below hB).get hlt
       have hal:=Nat.le_trans (ascOf_len ((R.take k).map (·.id))) (by rw [List.length_map,List.length_take];omega:_≤1000)
       have hcall:=r2put_any ua _ uc (ascOf ((R.take k).map (·.id))) (R.getD k default).id wr (IntsAt.of_owns hro (by omega)) (row_cap hro) (ascOf_asc _) (asc_fresh HRn.out hlt) (by omega)
       rw [ascR_take hlt] at hcall
       unfold RowPost at hcall
       have HB:=Lib.hid hB
       clear hro hB hk5
       generalize R.getD k default=x at *
       generalize (ascOf ((R.take k).map (·.id))).length=N0 at *
       go_wp2_with (go_at_call 105;(with_reducible refine hcall.mono ?_);rintro e w8 ⟨v8,rfl,hb8,ho8⟩;have HQ:=Lib.hid (And.intro ho8 hb8);clear ho8 hb8)
       go_roundw
       case rel=>exact ⟨k +1,by omega,by go_num,SL.row_base HQ.out.1 HB.out.size,HB.out.ch2 HQ.out.2⟩
       case measure=>simp [RowKit.intOf] <;> omega
      ·have htk:R.take k=R:=List.take_of_length_le (by omega)
       rw [htk] at hro ⊢
       have i1:¬ (k:Int)<(R.length:Int):=by omega
       have HF:=Lib.hid (HPg.out wr (.slice ua (ascOf (R.map (·.id))).length uc) (HBr.out.ch2 hB) (SL.row_base hro HBr.out.size))
       clear htk hro hB
       exact Z4t
 ·by_cases hl0:lookE l day id=0
  ·have hF:=Lib.hid (fun w' v=>HP.out w' v _ _ rfl (hWR h0))
   have hZ:lookZ l day id=lookS l day id:=by unfold lookZ;rw [if_pos hl0]
   rw [hl0] at hSo
   clear hWE hWR HP hOf hZ
   generalize wayE l day id fr tw=E at *
   generalize lookZ l day id=y at *
   generalize wayLo l day id fr tw=V1 at *
   generalize wayHi l day id fr tw=V2 at *
   generalize wayK l day id fr tw=V3 at *
   have e2:(E != 0)=true:=by simpa using h0
   clear h0
   simp only [Shd.v,Shd.cs] at hSo
   go_enter Tryz.func45,Tryz.ntmps45
   go_wp2_with (first
    | (go_at_call 60;(with_reducible refine (hSo _ h).mono ?_);rintro e w1 ⟨rfl,hb1⟩;have hZ1:=hb1.ch2 (one_alloc w1 (Obj.cells #[.int .i64 y.id,.string y.wa,.int .i64 y.pit,.int .i64 y.ly,.int .i64 y.co,.bool y.ft] 72)))
    | (go_at_call 29;(with_reducible refine (hWy _ (h.below hZ1)).mono ?_);rintro e w2 ⟨rfl,hb2⟩))
   exact hF.out _ _ (hZ1.ch2 hb2) (World.ownsRow_nil _ _ _ _)
  ·have hF:=Lib.hid (fun w' v=>HP.out w' v _ _ (hWE hl0) (hWR h0))
   clear hWE hWR HP hOf hWy
   generalize lookE l day id=E at *
   generalize lookZ l day id=y at *
   have e2:(E != 0)=true:=by simpa using hl0
   clear hl0 h0
   simp only [Shd.v,Shd.cs] at hSo
   go_enter Tryz.func45,Tryz.ntmps45
   go_wp2_with (go_at_call 60;(with_reducible refine (hSo _ h).mono ?_);rintro e w1 ⟨rfl,hb1⟩;have hZ1:=hb1.ch2 (one_alloc w1 (Obj.cells #[.int .i64 y.id,.string y.wa,.int .i64 y.pit,.int .i64 y.ly,.int .i64 y.co,.bool y.ft] 72)))
   exact hF.out _ _ hZ1 (World.ownsRow_nil _ _ _ _)
theorem col_by (l:List Itm) (hl:∀ x ∈ l,0≤x.id):0≤(colL l).lob∧0≤(colL l).hib:=by
 have key:∀ (l:List Itm) (o:Spn),(∀ x ∈ l,0≤x.id)→0≤o.lob∧0≤o.hib→0≤(l.foldl colS o).lob∧0≤(l.foldl colS o).hib:=by
  intro l
  induction l with
  | nil=>intro o _ h;exact h
  | cons x l ih =>
    intro o hl h
    rw [List.foldl_cons]
    refine ih _ (fun y hy=>hl y (by simp [hy])) ?_
    have hx:=hl x (by simp)
    unfold colS
    constructor
    ·simp only;split <;> omega
    ·simp only;split <;> omega
 exact key l _ hl ⟨by simp,by simp⟩
theorem colRests_at {l:List Itm} {day id:Int} (h:colE l day id=0):0≤(colR l day id).lob∧0≤(colR l day id).hib:=by
 have h0:lookE l day id=0:=by
  unfold colE at h
  split at h
  ·assumption
  ·exact h
 have hlk:=look_ok h0
 unfold colR
 rw [if_pos h]
 exact col_by _ fun x hx=>by
  have:=itemB_id (hlk.cat.item x (mem_count.1 (List.mem_filter.1 hx).1).1)
  omega
theorem asc_two (p q:Int) (hp:0≤p) (hq:0≤q):ascOf (([p,q]).filter fun n=>n != 0)=if 0<p then (if 0<q∧q≠p then ascOf ([p] ++[q]) else [p]) else (if 0<q then [q] else []):=by
 have one:∀ z:Int,ascOf [z]=[z]:=fun z=>asc_ext (ascOf_asc _) Z9p fun x=>by rw [mem_ascOf]
 by_cases h1:0<p
 ·have e1:(p != 0)=true:=by simp;omega
  rw [if_pos h1]
  by_cases h2:0<q
  ·have e2:(q != 0)=true:=by simp;omega
   simp only [List.filter_cons,e1,e2,if_true,List.filter_nil]
   split
   ·rfl
   ·rename_i h3
    have h4:q=p:=by
     by_cases e:q=p
     ·exact e
     ·exact absurd ⟨h2,e⟩ h3
    subst h4
    exact asc_ext (ascOf_asc _) Z9p fun x=>by rw [mem_ascOf];simp
  ·have h3:q=0:=by omega
   subst h3
   simp [e1,one]
 ·have h3:p=0:=by omega
  subst h3
  by_cases h2:0<q
  ·have e2:(q != 0)=true:=by simp;omega
   simp [e2,one,h2]
  ·have h3:q=0:=by omega
   subst h3
   rfl
theorem asc_one (z:Int):ascOf ([] ++[z])=[z]:=asc_ext (ascOf_asc _) Z9p fun x=>by rw [mem_ascOf];rfl
theorem r2ColourRests_any (a:Option Addr) (n cap:Nat) (l:List Itm) (day id:Int) (w:World) (h:ItmsAt w a n cap l) (hcap:l.length≤cap) (hs:l.length≤1000) :
 Calls Tryz.prog 47 #[.slice a n cap,.int .i64 day,.int .i64 id] w (IntE w (colE l day id) (colRestsL l day id)):=by
 have hC:=r2Colour_any a n cap l day id w h hcap hs
 have HP:=Lib.hid (show ∀ w' v E A,colE l day id=E→colRestsL l day id=A→Below w.heap.size w w'→w'.ownsRow w.heap.size 3 1 v A.length (A.map (.int .i64))→IntE w (colE l day id) (colRestsL l day id) (.returned (.tuple #[v,.int .i64 E])) w' from fun w' v E A h0 h1 h2 h3=>⟨v,by rw [h0],h2,by rw [h1];exact h3⟩)
 generalize IntE w (colE l day id) (colRestsL l day id)=Post at *
 have hA:colRestsL l day id=if colE l day id=0 then ascOf (([(colR l day id).lob,(colR l day id).hib]).filter fun n=>n != 0) else []:=rfl
 have hab:=@colRests_at l day id
 have hpt:=fun W S x (hS:Asc S) (hx:x ∉ S) (hl:S.length≤100000) a c (hi:IntsAt W a S.length c S) (hc:S.length≤c)=>r2put_any a _ c S x W hi hc hS hx hl
 unfold RowPost at hpt
 simp only [Spn.v,Spn.cs] at hC
 generalize colR l day id=o at *
 by_cases h0:colE l day id=0
 ·obtain ⟨ha,hb⟩:=hab h0
  rw [if_pos h0,asc_two _ _ ha hb] at hA
  have HPf:=Lib.hid (fun w' v A=>HP.out w' v 0 A h0)
  rw [h0] at hC
  clear HP hab h0
  have hp1:=fun W=>hpt W [] o.lob Z9p (by simp) (by simp) none 0 (IntsAt.nilAt W) (Nat.le_refl _)
  have hp2:=fun W=>hpt W [] o.hib Z9p (by simp) (by simp) none 0 (IntsAt.nilAt W) (Nat.le_refl _)
  rw [asc_one] at hp1 hp2
  simp only [List.length_nil,List.length_cons,Nat.zero_add] at hp1 hp2
  have hp3:=fun W a c (hne:¬ o.hib=o.lob)=>hpt W [o.lob] o.hib Z9p (by simpa using hne) (by simp) a c
  simp only [List.length_nil,List.length_cons,Nat.zero_add] at hp3
  clear hpt
  have tok1:True:=trivial
  by_cases c1:0<o.lob
  ·have d1:decide (0<o.lob)=true:=decide_eq_true c1
   rw [if_pos c1] at hA
   by_cases c2:0<o.hib
   ·have d2:decide (0<o.hib)=true:=decide_eq_true c2
    by_cases c3:o.hib=o.lob
    ·have d3:(o.hib != o.lob)=false:=by simpa using c3
     rw [if_neg (fun h=>h.2 c3)] at hA
     have HF:=Lib.hid (fun w' v=>HPf.out w' v _ hA)
     clear HPf hA c1 c2 c3 ha hb hp2 hp3
     exact Z9m
    ·have d3:(o.hib != o.lob)=true:=by simpa using c3
     have hne:¬ o.hib=o.lob:=c3
     rw [if_pos ⟨c2,c3⟩] at hA
     have HF:=Lib.hid (fun w' v=>HPf.out w' v _ hA)
     clear HPf hA c1 c2 c3 ha hb hp2
     go_enter Tryz.func47,Tryz.ntmps47
     go_wp2_with (first
      | (go_at_call 33;(with_reducible refine hC.mono ?_);rintro e w1 ⟨rfl,hb1⟩;have hS1:=World.alloc_heap_new w1 (Obj.cells #[.int .i64 o.lo,.int .i64 o.hi,.int .i64 o.lob,.int .i64 o.hib] 43);have hZ1:=hb1.ch2 (one_alloc w1 (Obj.cells #[.int .i64 o.lo,.int .i64 o.hi,.int .i64 o.lob,.int .i64 o.hib] 43)))
      | (go_at_call 105;clear tok1;(with_reducible refine (hp1 _).mono ?_);rintro e w2 ⟨v2,rfl,hb2,ho2⟩;obtain ⟨pa,pc,rfl,_⟩:=owns_slice ho2;obtain ⟨x0,x1,x2,x3,xf,xl⟩:=cell4s ((hb2.block w1.heap.size (by simp)).trans hS1))
      | (go_at_call 105;(with_reducible refine (hp3 _ _ _ hne (IntsAt.of_owns ho2 (by simp)) (row_cap ho2)).mono ?_);rintro e w3 ⟨v3,rfl,hb3,ho3⟩))
     exact HF.out _ _ ((hZ1.ch2 hb2).ch2 hb3) (SL.row_base ho3 (hZ1.ch2 hb2).size)
   ·have d2:decide (0<o.hib)=false:=decide_eq_false c2
    rw [if_neg (fun h=>c2 h.1)] at hA
    have HF:=Lib.hid (fun w' v=>HPf.out w' v _ hA)
    clear HPf hA c1 c2 ha hb hp2 hp3
    exact Z9m
  ·have d1:decide (0<o.lob)=false:=decide_eq_false c1
   rw [if_neg c1] at hA
   by_cases c2:0<o.hib
   ·have d2:decide (0<o.hib)=true:=decide_eq_true c2
    have d3:(o.hib != o.lob)=true:=by simp;omega
    rw [if_pos c2] at hA
    have HF:=Lib.hid (fun w' v=>HPf.out w' v _ hA)
    clear HPf hA c1 c2 ha hb hp1 hp3
    go_enter Tryz.func47,Tryz.ntmps47
    go_wp2_with (first
     | (go_at_call 33;(with_reducible refine hC.mono ?_);rintro e w1 ⟨rfl,hb1⟩;have hS1:=World.alloc_heap_new w1 (Obj.cells #[.int .i64 o.lo,.int .i64 o.hi,.int .i64 o.lob,.int .i64 o.hib] 43);have hZ1:=hb1.ch2 (one_alloc w1 (Obj.cells #[.int .i64 o.lo,.int .i64 o.hi,.int .i64 o.lob,.int .i64 o.hib] 43)))
     | (go_at_call 105;clear tok1;(with_reducible refine (hp2 _).mono ?_);rintro e w2 ⟨v2,rfl,hb2,ho2⟩;obtain ⟨pa,pc,rfl,_⟩:=owns_slice ho2;obtain ⟨x0,x1,x2,x3,xf,xl⟩:=cell4s ((hb2.block w1.heap.size (by simp)).trans hS1)))
    exact Z9t
   ·have d2:decide (0<o.hib)=false:=decide_eq_false c2
    rw [if_neg c2] at hA
    have HF:=Lib.hid (fun w'=>HPf.out w' (.slice none 0 0) _ hA)
    clear HPf hA c1 c2 ha hb hp1 hp2 hp3
    go_enter Tryz.func47,Tryz.ntmps47
    go_wp2_with (go_at_call 33;(with_reducible refine hC.mono ?_);rintro e w1 ⟨rfl,hb1⟩;have hS1:=World.alloc_heap_new w1 (Obj.cells #[.int .i64 o.lo,.int .i64 o.hi,.int .i64 o.lob,.int .i64 o.hib] 43);have hZ1:=hb1.ch2 (one_alloc w1 (Obj.cells #[.int .i64 o.lo,.int .i64 o.hi,.int .i64 o.lob,.int .i64 o.hib] 43)))
    exact HF.out _ hZ1 (World.ownsRow_nil _ _ _ _)
 ·have HPf:=Lib.hid (fun w'=>HP.out w' (.slice none 0 0) _ [] rfl (by rw [hA,if_neg h0]))
  generalize colE l day id=E at *
  have e2:(E != 0)=true:=by simpa using h0
  clear h0 HP hA hab hpt
  go_enter Tryz.func47,Tryz.ntmps47
  go_wp2_with (go_at_call 33;(with_reducible refine hC.mono ?_);rintro e w1 ⟨rfl,hb1⟩;have hZ1:=hb1.ch2 (one_alloc w1 (Obj.cells #[.int .i64 o.lo,.int .i64 o.hi,.int .i64 o.lob,.int .i64 o.hib] 43)))
  exact HPf.out _ hZ1 (World.ownsRow_nil _ _ _ _)
set_option maxHeartbeats 8000000
theorem wRests_len (l:List Itm) (day id fr tw:Int) (up:Bool):(wRestsL l day id fr tw up).length≤l.length:=by
 unfold wRestsL
 split
 ·unfold idsI
  refine Nat.le_trans (ascOf_len _) ?_
  rw [List.length_map]
  exact Nat.le_trans (spareL_sub _ _).length_le (Nat.le_trans (List.length_filter_le _ _) (countL_len l day))
 ·simp
theorem colRests_len (l:List Itm) (day id:Int):(colRestsL l day id).length≤2:=by
 unfold colRestsL
 split
 ·exact Nat.le_trans (ascOf_len _) (Nat.le_trans (List.length_filter_le _ _) (by simp))
 ·simp
theorem lrests (a:Option Addr) (n cap:Nat) (l:List Itm) (day id fr tw:Int) (up:Bool) (w:World) (h:ItmsAt w a n cap l) (hcap:l.length≤cap) :
 Calls Tryz.prog 8 #[.slice a n cap,.int .i64 day,.int .i64 id,.int .i64 fr,.int .i64 tw,.bool up] w fun e w'=>e=.returned (.bool true)∧Below w.heap.size w w':=by
 have hSh:=fun W=>lshelved W
 have hFe:=lfew 20 a n cap l w h (by omega)
 have h20:((20:Nat):Int)=20:=rfl
 rw [h20] at hFe
 have hlen:=fun (hF:fewB l 20=true)=>fewB_len hF
 generalize fewB l 20=F at *
 cases F with
 | false =>
   clear hlen
   go_enter Tryz.func8,Tryz.ntmps8
   go_wp2_with (first
    | (go_at_call 18;(with_reducible refine hFe.mono ?_);rintro e w1 ⟨rfl,hb1⟩)
    | (go_at_call 20;(with_reducible refine (hSh _).mono ?_);rintro e w2 ⟨rfl,hb2⟩))
   go_ret
   exact ⟨rfl,hb1.ch2 hb2⟩
 | true =>
   have hl20:=hlen rfl
   clear hlen
   have hR1:=fun W hi=>sRests_any a n cap l day id fr tw up W hi hcap
   have hR2:=fun W hi=>r2Rests_any a n cap l day id fr tw up W hi hcap (by omega)
   have hC1:=fun W hi=>sColRests_any a n cap l day id W hi hcap
   have hC2:=fun W hi=>r2ColourRests_any a n cap l day id W hi hcap (by omega)
   have hn1:=wRests_len l day id fr tw up
   have hn2:=colRests_len l day id
   unfold IntE at hR1 hR2 hC1 hC2
   have Hl:=Lib.hid h.len
   generalize wRestsL l day id fr tw up=A at *
   generalize colRestsL l day id=B at *
   generalize wayE l day id fr tw=E1 at *
   generalize colE l day id=E2 at *
   have tokA:True:=trivial
   go_enter Tryz.func8,Tryz.ntmps8
   go_wp2_with (first
    | (go_at_call 18;(with_reducible refine hFe.mono ?_);rintro e w1 ⟨rfl,hb1⟩;have hi1:=h.below hb1)
    | (go_at_call 44;(with_reducible refine (hR1 _ hi1).mono ?_);rintro e w2 ⟨v2,rfl,hb2,ho2⟩;obtain ⟨a2,c2,rfl,_⟩:=owns_slice ho2;have m2:=IntsAt.of_owns ho2 (by omega);have hi2:=hi1.below hb2;have hB2:=hb1.ch2 hb2)
    | (go_at_call 45;(with_reducible refine (hR2 _ hi2).mono ?_);rintro e w3 ⟨v3,rfl,hb3,ho3⟩;obtain ⟨a3,c3,rfl,_⟩:=owns_slice ho3;have m3:=IntsAt.of_owns ho3 (by omega);have hi3:=hi2.below hb3;have hB3:=hB2.ch2 hb3)
    | (go_at_call 46;(with_reducible refine (hC1 _ hi3).mono ?_);rintro e w4 ⟨v4,rfl,hb4,ho4⟩;obtain ⟨a4,c4,rfl,_⟩:=owns_slice ho4;have m4:=IntsAt.of_owns ho4 (by omega);have hi4:=hi3.below hb4;have hB4:=hB3.ch2 hb4)
    | (go_at_call 47;(with_reducible refine (hC2 _ hi4).mono ?_);rintro e w5 ⟨v5,rfl,hb5,ho5⟩;obtain ⟨a5,c5,rfl,_⟩:=owns_slice ho5;have m5:=IntsAt.of_owns ho5 (by omega);have hB5:=hB4.ch2 hb5)
    | (go_at_call 20;(with_reducible refine (hSh _).mono ?_);rintro e w6 ⟨rfl,hb6⟩;have q2:=(((m2.below hb3).below hb4).below hb5).below hb6;have q3:=((m3.below hb4).below hb5).below hb6;have q4:=(m4.below hb5).below hb6;have q5:=m5.below hb6;have hB6:=hB5.ch2 hb6)
    | (go_at_call 48;clear tokA;(with_reducible refine (r2sameInts a2 a3 _ _ c2 c3 A _ q2 q3).mono ?_);rintro e w7 ⟨rfl,hb7⟩)
    | (go_at_call 48;(with_reducible refine (r2sameInts a4 a5 _ _ c4 c5 B _ (q4.below hb7) (q5.below hb7)).mono ?_);rintro e w8 ⟨rfl,hb8⟩))
   go_ret
   exact ⟨rfl,(hB6.ch2 hb7).ch2 hb8⟩
open Go.ChangeShapes Go.WideShapes Go.ChangeAt Go.RowKit Go.Joins Go.Deep
set_option maxRecDepth 100000 in
theorem sherdRests_lifted (os:Os) (started:os.Started) (H:Type) (enc:TypeId × Value→H) :
 ReturnsInHanded {} Tryz.checked os 8 .any (Rows.sherdRestsSpec.pre6 enc Tryz.prog Tryz.f8 Rows.sherdRestsRow.domain false) (Rows.sherdRestsSpec.post enc Tryz.prog Tryz.f8 false true false false):=by
 refine returnsInHanded_of_change_sized (C:=Tryz.checked) Tryz.own started Zk Tryz.func8
  (ChangeSpec.witness6 (enc:=enc) (C:=Tryz.checked) false ⟨#[],#[.slice none 0 0,.int .i64 0,.int .i64 0,.int .i64 0,.int .i64 0,.bool false],[]⟩ 8 Zk Zk Zk Zk) ?_
 intro W base args ds gs before hval0 hW _ hsz0 _
 have hsz:(DataW.weightsEach Tryz.prog (Tryz.f8.params.toList ++Rows.sherdRestsSpec.plain.varTypes Tryz.prog) (ds ++gs)).all (·≤reachBytes)=true:=hsz0
 clear hsz0
 have hval:∀ (j:Nat) t v,Tryz.f8.params[j]?=some t→args[j]?=some v→Value.okWide Tryz.prog W .any base t v:=hval0
 have hW':=hW
 obtain ⟨p,q,hA0,hV,rfl,_,_⟩:=hW
 have hA:DataW.TrodAll enc Tryz.prog W 0 (fun _=>true) true Tryz.f8.params.toList args.toList ds p:=hA0
 rw [Tryz.params8] at hA hval hsz
 obtain ⟨v0,vs0,d0,ds0,p0,q0,hargs,rfl,rfl,h0,r0⟩:=trodAll_cons hA
 obtain ⟨v1,vs1,d1,ds1,p1,q1,rfl,rfl,rfl,h1,r1⟩:=trodAll_cons r0
 obtain ⟨v2,vs2,d2,ds2,p2,q2,rfl,rfl,rfl,h2,r2⟩:=trodAll_cons r1
 obtain ⟨v3,vs3,d3,ds3,p3,q3,rfl,rfl,rfl,h3,r3⟩:=trodAll_cons r2
 obtain ⟨v4,vs4,d4,ds4,p4,q4,rfl,rfl,rfl,h4,r4⟩:=trodAll_cons r3
 obtain ⟨v5,vs5,d5,ds5,p5,q5,rfl,rfl,rfl,h5,r5⟩:=trodAll_cons r4
 obtain ⟨rfl,rfl,rfl⟩:=trodAll_nil r5
 obtain rfl:args=#[v0,v1,v2,v3,v4,v5]:=by cases args;simp_all
 obtain ⟨rfl,rfl⟩:=trodVars_none hV
 clear hA0 hval0
 have hlt:∀ x ∈ p0 ++p1 ++p2 ++p3 ++p4 ++p5,x.block<W.heap.size:=fun x hx=>by have:=hW'.lt x (by simpa using hx);simpa using this
 obtain ⟨a0,n0,k0,xs0,rfl,hb0,hn0⟩:=items_open (hval 0 22 v0 rfl rfl) h0 (fun n hn=>by
  have:=List.all_eq_true.1 hsz _ (DataW.weights_mem_each (j:=0) rfl rfl n hn)
  simpa using this)
 obtain ⟨x1,rfl⟩:=okWide_int Tryz.underlying3 (hval 1 3 v1 rfl rfl)
 obtain ⟨x2,rfl⟩:=okWide_int Tryz.underlying3 (hval 2 3 v2 rfl rfl)
 obtain ⟨x3,rfl⟩:=okWide_int Tryz.underlying3 (hval 3 3 v3 rfl rfl)
 obtain ⟨x4,rfl⟩:=okWide_int Tryz.underlying3 (hval 4 3 v4 rfl rfl)
 obtain ⟨x5,rfl⟩:=okWide_bool Tryz.underlying4 (hval 5 4 v5 rfl rfl)
 refine (lrests a0 n0 k0 xs0 x1 x2 x3 x4 x5 W hb0 hn0).mono fun e W' ⟨he,hw⟩=>?_
 subst he
 exact ⟨_,rfl,⟨_,_,_,[],_,[],hW',trodAll_mk1 (shut_bool Tryz.underlying4 _),(trodAll_cons_mk (Below.trod Tryz.laidOut Zk (of_decide_eq_true Zk) h0 hw (fun x hx=>hlt x Z9q)) (trodAll_cons_mk (Below.trod Tryz.laidOut Zk (of_decide_eq_true Zk) h1 hw (fun x hx=>hlt x Z9q)) (trodAll_cons_mk (Below.trod Tryz.laidOut Zk (of_decide_eq_true Zk) h2 hw (fun x hx=>hlt x Z9q)) (trodAll_cons_mk (Below.trod Tryz.laidOut Zk (of_decide_eq_true Zk) h3 hw (fun x hx=>hlt x Z9q)) (trodAll_cons_mk (Below.trod Tryz.laidOut Zk (of_decide_eq_true Zk) h4 hw (fun x hx=>hlt x Z9q)) (trodAll_cons_mk (Below.trod Tryz.laidOut Zk (of_decide_eq_true Zk) h5 hw (fun x hx=>hlt x Z9q)) trodAll_mk0)))))),rfl,hw.frame _,fun h=>by cases h⟩⟩
set_option maxRecDepth 100000 in
set_option maxHeartbeats 8000000 in
theorem sherdRests_closed:joinedFacts Tryz.prog 8 Tryz.f8 Rows.sherdRestsSpec Rows.sherdRestsRow=true:=by
 unfold joinedFacts
 repeat' (with_reducible refine (Bool.and_eq_true _ _).mpr ⟨?_,?_⟩)
 all_goals as_aux_lemma=>kernel_rfl
theorem sherdRests_holds:Rows.SherdRestsSaid :=
 OpenClaim.holds_of_wide 8 Tryz.f8 rfl rfl rfl rfl rfl rfl rfl ⟨rfl,rfl,rfl,rfl,rfl⟩ rfl rfl rfl rfl rfl Zk Tryz.func8 sherdRests_closed
  (of_decide_eq_true Zk) (by unfold Func.isWrapper;rw [if_neg (of_decide_eq_false Zk)];exact ⟨rfl,rfl⟩)
  (fun os started H enc _=>sherdRests_lifted os started H enc)
#print axioms sherdRests_holds
end Go.Proofs.YtelkcohhagblaaaGreat

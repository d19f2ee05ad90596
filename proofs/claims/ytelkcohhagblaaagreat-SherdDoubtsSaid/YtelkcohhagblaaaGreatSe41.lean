/- What the functions answer, for every input. -/
import Derived.Test.YtelkcohhagblaaaGreatSe40
set_option linter.unusedSimpArgs false
set_option linter.unusedVariables false
set_option linter.unnecessarySimpa false
namespace Go.Proofs.YtelkcohhagblaaaGreat
open Go.RowKit Go.Shelf
set_option maxHeartbeats 8000000
set_option maxRecDepth 100000
theorem clashP_stay {l:List Itm} {i:Nat} (h:clashP l i≠[]):∀ d,clashP l (i +d)=clashP l i
 | 0=>rfl
 | d +1=>by
   have ih:=clashP_stay h d
   show clashP l (i +d +1)=_
   conv=>lhs;unfold clashP
   rw [ih]
   cases hc:clashP l i with
   | nil=>exact absurd hc h
   | cons x p=>rfl
theorem clashP_hit {l:List Itm} {i:Nat} {b:Itm} (hi:i<l.length) (h0:clashP l i=[]) (h:clashTo (l.take i) (l.getD i default)=some b):clashL l=[b,l.getD i default]:=by
 have h1:clashP l (i +1)=[b,l.getD i default]:=by
  conv=>lhs;unfold clashP
  rw [h0];simp only [h]
 obtain ⟨d,hd⟩:∃ d,l.length=i +1 +d:=⟨l.length - (i +1),by omega⟩
 unfold clashL
 rw [hd,clashP_stay (by rw [h1];simp) d,h1]
theorem clashP_miss {l:List Itm} {i:Nat} (h0:clashP l i=[]) (h:clashTo (l.take i) (l.getD i default)=none):clashP l (i +1)=[]:=by
 conv=>lhs;unfold clashP
 rw [h0];simp only [h]
theorem clashTo_succ {l:List Itm} {q:Nat} {x:Itm} (hq:q<l.length) (h:clashTo (l.take q) x=none) (hv:clashI x (l.getD q default)=false):clashTo (l.take (q +1)) x=none:=by
 unfold clashTo at h ⊢
 rw [List.take_succ_eq_append_getElem hq,List.find?_append,h]
 rw [List.getD_eq_getElem?_getD,List.getElem?_eq_getElem hq] at hv
 simp at hv
 simp [hv]
theorem clashTo_hit {l:List Itm} {q k:Nat} {x:Itm} (hq:q<k) (hk:k≤l.length) (h:clashTo (l.take q) x=none) (hv:clashI x (l.getD q default)=true):clashTo (l.take k) x=some (l.getD q default):=by
 unfold clashTo at h ⊢
 have e:l.take k=l.take q ++l.getD q default::(l.take k).drop (q +1):=by
  have e1:(l.take k).take q=l.take q:=by rw [List.take_take,Nat.min_eq_left (by omega)]
  have e2:(l.take k)[q]'(by rw [List.length_take];omega)=l.getD q default:=by rw [List.getD_eq_getElem?_getD,List.getElem?_eq_getElem (by omega)];simp
  rw [← e1,← e2,List.getElem_cons_drop,List.take_append_drop]
 rw [e,List.find?_append,h]
 simp only [Option.none_or,List.find?_cons,hv]
theorem row_cap {w:World} {base:Nat} {t:TypeId} {size n cap:Nat} {a:Option Addr} {xs:List Value} (h:w.ownsRow base t size (.slice a n cap) n xs):n≤cap:=by
 obtain ⟨_,⟨h0,h00⟩ | ⟨g,c,cur,hv,_,_,hnc,_⟩⟩:=h
 ·omega
 ·exact Z79
theorem sdoubtedK (a:Option Addr) (n cap:Nat) (s:List Itm) (y:Shd) (w:World) (h:ShelfOk s y) (hs:ItmsAt w a n cap s) :
 Calls Tryz.prog 121 #[.slice a n cap,.int .u8 4,y.v] w (RowPost w 24 16 (doubtL s 4 y).length (ics (doubtL s 4 y))):=by
 have hwid:∀ x ∈ keptL s 4 y.id,x.Wide:=fun x hx=>hs.wide x (List.mem_filter.1 hx).1
 have hd:doubtL s 4 y=clashL (keptL s 4 y.id):=rfl
 have HP:=Lib.hid (show ∀ v w',Below w.heap.size w w'→w'.ownsRow w.heap.size 24 16 v (doubtL s 4 y).length (ics (doubtL s 4 y))→RowPost w 24 16 (doubtL s 4 y).length (ics (doubtL s 4 y)) (.returned v) w' from fun v w' h1 h2=>⟨v,rfl,h1,h2⟩)
 generalize RowPost w 24 16 (doubtL s 4 y).length (ics (doubtL s 4 y))=Post at *
 rw [hd] at HP
 have hs3:ItmsAt (((w.alloc (Obj.cells #[.slice a n cap] 116)).alloc (Obj.cells #[.int .u8 4] 5)).alloc (Obj.cells #[.int .i64 y.id,.string y.wa,.int .i64 y.pit,.int .i64 y.ly,.int .i64 y.co,.bool y.ft] 72)) a n cap s:=hs.below (((one_alloc _ _).ch2 (one_alloc _ _)).ch2 (one_alloc _ _))
 have hB3:Below w.heap.size w (((w.alloc (Obj.cells #[.slice a n cap] 116)).alloc (Obj.cells #[.int .u8 4] 5)).alloc (Obj.cells #[.int .i64 y.id,.string y.wa,.int .i64 y.pit,.int .i64 y.ly,.int .i64 y.co,.bool y.ft] 72)):=((one_alloc _ _).ch2 (one_alloc _ _)).ch2 (one_alloc _ _)
 have hD3:DubAt (((w.alloc (Obj.cells #[.slice a n cap] 116)).alloc (Obj.cells #[.int .u8 4] 5)).alloc (Obj.cells #[.int .i64 y.id,.string y.wa,.int .i64 y.pit,.int .i64 y.ly,.int .i64 y.co,.bool y.ft] 72)) w.heap.size a n cap 4 y:=by
  have e1:=World.alloc_heap_new (w.alloc (Obj.cells #[.slice a n cap] 116)) (Obj.cells #[.int .u8 4] 5)
  have e2:=World.alloc_heap_new ((w.alloc (Obj.cells #[.slice a n cap] 116)).alloc (Obj.cells #[.int .u8 4] 5)) (Obj.cells #[.int .i64 y.id,.string y.wa,.int .i64 y.pit,.int .i64 y.ly,.int .i64 y.co,.bool y.ft] 72)
  exact Z1u
 have hz3:(((w.alloc (Obj.cells #[.slice a n cap] 116)).alloc (Obj.cells #[.int .u8 4] 5)).alloc (Obj.cells #[.int .i64 y.id,.string y.wa,.int .i64 y.pit,.int .i64 y.ly,.int .i64 y.co,.bool y.ft] 72)).heap.size=w.heap.size +1 +1 +1:=by simp
 have hlen:=h.few 4
 have hz:=h.len
 have hCol:=scolK a n cap s 4 y.id _ hs3 (by omega)
 rw [hz3] at hCol
 have c0:=(SL.cells_of hD3.c0).1 0
 have c1:=(SL.cells_of hD3.c1).1 0
 simp at c0 c1
 have z0:=(Array.getElem?_eq_some_iff.1 hD3.c0).1
 obtain ⟨p0,p1,p2,p3,p4,p5,pf⟩:=cell6 hD3.c2
 have HD3:=Lib.hid hD3
 clear hd h hs hD3 hs3
 generalize keptL s 4 y.id=L at *
 simp only [Shd.v,Shd.cs] at *
 go_enter Tryz.func121,Tryz.ntmps121
 go_wp2_with (first
  | (go_at_call 99;refine (skept _ _ _ _ _ _).mono ?_;rintro e w1 ⟨rfl,rfl⟩)
  | (go_at_call 98;(with_reducible refine hCol.mono ?_);rintro e w2 ⟨v2,rfl,hb2,ho2⟩;obtain ⟨va,vc,rfl,_⟩:=owns_slice ho2;have hD2:=HD3.out.below Z30;clear hCol c0 c1 p0 p1 p2 p3 p4 p5 pf z0;have c0:=(SL.cells_of hD2.c0).1 0;have c1:=(SL.cells_of hD2.c1).1 0;simp at c0 c1;have z0:=(Array.getElem?_eq_some_iff.1 hD2.c0).1;obtain ⟨p0,p1,p2,p3,p4,p5,pf⟩:=cell6 hD2.c2;have hi2:=ItmsAt.of_owns ho2 (by omega) hwid;have hcv:=row_cap ho2;clear hD2 ho2))
 have HB2:=Lib.hid (hB3.trans (hb2.mono (by omega)))
 clear hb2 c0 c1 p0 p1 p2 p3 p4 p5 pf z0 hB3 HD3 hz3
 go_loopw [24] (fun i wr=>∃ k:Nat,k≤L.length∧i=.int .i64 k∧Hid (clashP L k=[])∧Below w2.heap.size w2 wr) (fun i _=>L.length - (RowKit.intOf i).toNat)
 case atStart=>exact ⟨0,Nat.zero_le _,rfl,Lib.hid rfl,Below.refl _ _⟩
 case round =>
  obtain ⟨k,hk,rfl,hcl,hB⟩:=hrel
  have hnn:(0:Int)≤k:=by omega
  by_cases hlt:k<L.length
  ·have i1:(k:Int)<(L.length:Int):=by omega
   obtain ⟨b,o,rfl,hb,hdc⟩:=(hi2.below hB).get hlt
   have hiw:=hi2.below hB
   have Hhit:=Lib.hid (fun z=>clashP_hit (b:=z) hlt hcl.out)
   have Hmis:=Lib.hid (clashP_miss hcl.out)
   generalize L.getD k default=x at *
   have hal:=one_alloc wr (Obj.cells #[.int .i64 x.id,.int .i64 x.kn,.int .u8 x.kd,.string x.wa,.int .i64 x.pit,.int .i64 x.ly,.int .i64 x.co,.bool x.ft,.int .i64 x.sh,.int .i64 x.fr,.int .i64 x.tw,.int .i64 x.lo,.int .i64 x.hi,.string x.st,.int .i64 x.li,.int .i64 x.vo] 24)
   have hX:=World.alloc_heap_new wr (Obj.cells #[.int .i64 x.id,.int .i64 x.kn,.int .u8 x.kd,.string x.wa,.int .i64 x.pit,.int .i64 x.ly,.int .i64 x.co,.bool x.ft,.int .i64 x.sh,.int .i64 x.fr,.int .i64 x.tw,.int .i64 x.lo,.int .i64 x.hi,.string x.st,.int .i64 x.li,.int .i64 x.vo] 24)
   have hcap2:(k:Int)≤(vc:Int):=by omega
   go_wp2_with (first
    | (refine wpList_loadI rfl _ rfl rfl hdc ?_)
    | (refine wpList_storeI_new rfl _ _ rfl rfl rfl rfl ?_))
   have hBW:=hB.ch2 hal
   have hiW:=hiw.below hal
   have hzW:wr.heap.size<(wr.alloc (Obj.cells #[.int .i64 x.id,.int .i64 x.kn,.int .u8 x.kd,.string x.wa,.int .i64 x.pit,.int .i64 x.ly,.int .i64 x.co,.bool x.ft,.int .i64 x.sh,.int .i64 x.fr,.int .i64 x.tw,.int .i64 x.lo,.int .i64 x.hi,.string x.st,.int .i64 x.li,.int .i64 x.vo] 24)).heap.size:=by simp
   clear hB hal hdc hiw hb
   generalize wr.alloc (Obj.cells #[.int .i64 x.id,.int .i64 x.kn,.int .u8 x.kd,.string x.wa,.int .i64 x.pit,.int .i64 x.ly,.int .i64 x.co,.bool x.ft,.int .i64 x.sh,.int .i64 x.fr,.int .i64 x.tw,.int .i64 x.lo,.int .i64 x.hi,.string x.st,.int .i64 x.li,.int .i64 x.vo] 24)=W1 at *
   generalize wr.heap.size=B1 at *
   clear wr
   go_loopw [33] (fun j wq=>∃ q:Nat,q≤k∧j=.int .i64 q∧Hid (clashTo (L.take q) x=none)∧Below W1.heap.size W1 wq) (fun j _=>k - (RowKit.intOf j).toNat)
   case atStart=>exact ⟨0,Nat.zero_le _,rfl,Lib.hid rfl,Below.refl _ _⟩
   case round =>
    obtain ⟨q,hq,rfl,hct,hBq⟩:=hrel
    have hnq:(0:Int)≤q:=by omega
    have hXq:=(hBq.block B1 hzW).trans hX
    by_cases hlq:q<k
    ·have i2:(q:Int)<(k:Int):=by omega
     obtain ⟨b',o',he,hb',hdq⟩:=(hiW.below hBq).get (i:=q) (by omega)
     simp only [Option.some.injEq,Addr.mk.injEq,and_true] at he
     obtain ⟨rfl,rfl⟩:=he
     have Hs:=Lib.hid (fun hv=>clashTo_succ (l:=L) (q:=q) (x:=x) (by omega) hct.out hv)
     have Hh:=Lib.hid (fun hv=>Hhit.out _ (clashTo_hit (l:=L) (x:=x) hlq (by omega) hct.out hv))
     generalize L.getD q default=z at *
     have hal:=one_alloc wr (Obj.cells #[.int .i64 z.id,.int .i64 z.kn,.int .u8 z.kd,.string z.wa,.int .i64 z.pit,.int .i64 z.ly,.int .i64 z.co,.bool z.ft,.int .i64 z.sh,.int .i64 z.fr,.int .i64 z.tw,.int .i64 z.lo,.int .i64 z.hi,.string z.st,.int .i64 z.li,.int .i64 z.vo] 24)
     have hZ:=World.alloc_heap_new wr (Obj.cells #[.int .i64 z.id,.int .i64 z.kn,.int .u8 z.kd,.string z.wa,.int .i64 z.pit,.int .i64 z.ly,.int .i64 z.co,.bool z.ft,.int .i64 z.sh,.int .i64 z.fr,.int .i64 z.tw,.int .i64 z.lo,.int .i64 z.hi,.string z.st,.int .i64 z.li,.int .i64 z.vo] 24)
     have hXz:=alKeep (o':=Obj.cells #[.int .i64 z.id,.int .i64 z.kn,.int .u8 z.kd,.string z.wa,.int .i64 z.pit,.int .i64 z.ly,.int .i64 z.co,.bool z.ft,.int .i64 z.sh,.int .i64 z.fr,.int .i64 z.tw,.int .i64 z.lo,.int .i64 z.hi,.string z.st,.int .i64 z.li,.int .i64 z.vo] 24) hXq
     have hXc:=(ItmCells.of_heap hXz).1
     have hZc:=(ItmCells.of_heap hZ).1
     have hcl:=fun W=>sclash_any x z W
     have hzq:=(Array.getElem?_eq_some_iff.1 hXz).1
     cases hv:clashI x z with
     | false =>
       have hs2:=Lib.hid (Hs.out hv)
       rw [hv] at hcl
       clear hv Hs Hh
       go_wp2_with (first
        | (refine wpList_loadI rfl _ rfl rfl hdq ?_)
        | (refine wpList_storeI_new rfl _ _ rfl rfl rfl rfl ?_)
        | (refine wpList_loadI rfl _ rfl rfl hXc ?_)
        | (refine wpList_loadI rfl _ rfl rfl hZc ?_)
        | (go_at_call 127;(with_reducible refine (hcl _).mono ?_);rintro e w5 ⟨rfl,hb5⟩))
       go_roundw
       case rel=>exact ⟨q +1,by omega,by go_num,hs2,(hBq.ch2 hal).ch2 hb5⟩
       case measure=>simp [RowKit.intOf];omega
     | true =>
       have hh2:=Lib.hid (Hh.out hv)
       rw [hv] at hcl
       clear hv Hs Hh
       go_wp2_with (first
        | (refine wpList_loadI rfl _ rfl rfl hdq ?_)
        | (refine wpList_storeI_new rfl _ _ rfl rfl rfl rfl ?_)
        | (refine wpList_loadI rfl _ rfl rfl hXc ?_)
        | (refine wpList_loadI rfl _ rfl rfl hZc ?_)
        | (go_at_call 127;(with_reducible refine (hcl _).mono ?_);rintro e w5 ⟨rfl,hb5⟩;have hX5:=(hb5.block _ (Array.getElem?_eq_some_iff.1 hXz).1).trans hXz;have hZ5:=(hb5.block _ (by simp)).trans hZ;obtain ⟨⟨d0,d1,d2,d3,d4,d5,d6,d7,d8,d9,d10,d11,d12,d13,d14,d15⟩,df,dl⟩:=ItmCells.of_heap hX5;obtain ⟨⟨f0,f1,f2,f3,f4,f5,f6,f7,f8,f9,f10,f11,f12,f13,f14,f15⟩,ff,fl⟩:=ItmCells.of_heap hZ5;clear hXc hZc hdq))
       have hB5:=(((HB2.out.ch2 hBW).ch2 hBq).ch2 hal).ch2 hb5
       have hO:(w5.alloc (Obj.cells (ics [z,x]).toArray 24)).ownsRow w.heap.size 24 16 (.slice (some ⟨w5.heap.size,0,none⟩) 2 2) 2 (ics [z,x]):=⟨rfl,.inr ⟨w5.heap.size,2,(ics [z,x]).toArray,rfl,hB5.size,World.alloc_heap_new _ _,by omega,by unfold maxLen;omega,rfl,rfl⟩⟩
       have hf:=HP.out _ _ (hB5.ch2 (one_alloc w5 (Obj.cells (ics [z,x]).toArray 24))) (by rw [hh2.out];exact hO)
       exact hf
    ·have hqk:q=k:=by omega
     have i2:¬ (q:Int)<(k:Int):=by omega
     subst hqk
     have hs2:=Lib.hid (Hmis.out hct.out)
     go_wp2_with fail
     go_roundw
     case rel=>exact ⟨q +1,by omega,by go_num,hs2,hBW.ch2 hBq⟩
     case measure=>simp [RowKit.intOf];omega
  ·have hk2:k=L.length:=by omega
   have i1:¬ (k:Int)<(L.length:Int):=by omega
   have hcl2:clashL L=[]:=by unfold clashL;rw [← hk2];exact hcl.out
   have HE:=Lib.hid (HP.out (.slice none 0 0) wr (HB2.out.ch2 hB) (by rw [hcl2];exact World.ownsRow_nil _ _ _ _))
   clear hcl2 hk2
   exact Z36
end Go.Proofs.YtelkcohhagblaaaGreat

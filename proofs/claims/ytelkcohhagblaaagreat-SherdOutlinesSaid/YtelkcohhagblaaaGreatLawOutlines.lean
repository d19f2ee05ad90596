/-
  The law Outlines, walked, and its statement.
-/
import Derived.Test.YtelkcohhagblaaaGreatSe45
import Derived.Test.YtelkcohhagblaaaGreatSe52
import Derived.Test.YtelkcohhagblaaaGreatSe49
import Derived.Test.YtelkcohhagblaaaGreatSe02
import Derived.Test.YtelkcohhagblaaaGreatSe50
import Derived.Test.YtelkcohhagblaaaGreatSe51
import Derived.Test.YtelkcohhagblaaaGreatRows
import Derived.OpenShut
set_option linter.unusedSimpArgs false
set_option linter.unusedVariables false
set_option linter.unnecessarySimpa false
namespace Go.Proofs.YtelkcohhagblaaaGreat
theorem Z9m {P:Prop}(h:P:=by
 as_aux_lemma =>
  go_enter Tryz.func7,Tryz.ntmps7
  go_wp2_with (first
   | (go_at_call 18;(with_reducible refine (hFe _ hB0).mono ?_);rintro e w1 ⟨rfl,hb1⟩;obtain ⟨d0,d1,d2,df,dl⟩:=cell3s ((hb1.block w.heap.size (by simp)).trans hX0);have hB1:=hB0.ch2 hb1)
   | (go_at_call 20;(with_reducible refine (hSh _).mono ?_);rintro e w3 ⟨rfl,hb3⟩))
  go_ret
  exact ⟨rfl,hB1.ch2 hb3⟩):P:=h
theorem Z9n {P:Prop}(h:P:=by
 obtain rfl:50=u:=by simpa using hu
 simp only [Cell.okWide,Tryz.underlying50,Cell.ok] at h3
 obtain ⟨_,_,_,hsp,row,cells,hsh,_⟩:=h3
 refine ⟨hsp,?_⟩
 simp only [World.shape?] at hsh
 by_cases hlt:a.block<w.heap.size
 ·exact hlt
 ·rw [Array.getElem?_eq_none (by omega)] at hsh
  simp at hsh):P:=h
theorem Z9o {P:Prop}(h:P:=by
 simp [hx]):P:=h
end Go.Proofs.YtelkcohhagblaaaGreat

namespace Go.Proofs.YtelkcohhagblaaaGreat
open Go.ChangeShapes Go.WideShapes Go.ChangeAt Go.RowKit Go.Joins Go.Deep
set_option maxRecDepth 100000
set_option maxHeartbeats 2000000
theorem Tryz.cellsOutl:Tryz.prog.cellsOf 52=3:=by kernel_rfl
theorem Tryz.cellsBd:Tryz.prog.cellsOf 69=4:=by kernel_rfl
theorem Tryz.bytesBd:Tryz.prog.bytesOf 69=32:=by kernel_rfl
theorem Tryz.cellTypesOutl:Tryz.prog.cellTypes Tryz.prog.depth 52=some [3,50,50]:=by kernel_rfl
section
variable {H:Type} {enc:TypeId × Value→H} {P:Program} {w:World} {base:Nat} {spare:Nat→Bool} {held:Bool}
/-- A slice of structs of one-cell fields, opened. -/
theorem slice_fields {t e:TypeId} {fs:Array Field} {fuel:Nat} {cs:List Value} {x:DataW H × List MemPlace} (ht:P.underlying t=some (.slice e)) (he:P.underlying e=some (.struct fs))
 (hone:oneCellFields P fs=true) (hC:P.cellsOf e=fs.size) (h:DataW.trod enc P w base spare held fuel t cs=some x) :
 (cs=[.slice none 0 0]∧x=(.nil,[])) ∨
 ∃ (a:Addr) (len cap m:Nat) (D:Nat→DataW H) (Pl:Nat→List MemPlace),cs=[.slice (some a) len cap]∧len≤cap∧m=(if spare a.block then cap else len) ∧
   x=(.slice ((List.range len).map D) ((List.range (m - len)).map fun j=>D (len +j)),MemPlace.row a (m * fs.size) ++(List.range m).flatMap Pl) ∧
   ∀ i,i<m→∀ (j:Nat) (f:Field),fs[j]?=some f→∃ (v:Value) (y:DataW H × List MemPlace) (n:Nat),w.cell? (a.add (i * fs.size +j))=some v∧DataW.trod enc P w base spare held n f.type [v]=some y:=by
 rcases open_slice ht h with h0 | ⟨a,len,cap,m,n,D,Pl,hcs,_,hl,_,hmm,hx,hi⟩
 ·exact .inl h0
 ·refine .inr ⟨a,len,cap,m,D,Pl,hcs,hl,hmm,by rw [hC] at hx;exact hx,fun i him j f hj=>?_⟩
  obtain ⟨cs',hc,ht'⟩:=hi i him
  rw [hC] at hc
  obtain ⟨ys,n',_,_,_,hyl,hf⟩:=DataW.trod_struct he ht'
  obtain ⟨_,hcl,hat⟩:=World.cells?_some hc
  obtain ⟨ho,hk⟩:=hone_of hone j f hj
  have hjl:j<fs.size:=(Array.getElem?_eq_some_iff.1 hj).1
  have hcell:=hat j hjl
  have hv:cs'[j]?=some (cs'[j]'(by omega)):=List.getElem?_eq_getElem (by omega)
  have h1:=hf j f hj
  rw [ho,hk] at h1
  have hone':(cs'.drop j).take 1=[cs'[j]'(by omega)]:=by
   rw [List.drop_eq_getElem_cons (by omega)]
   rfl
  rw [hone'] at h1
  have hys:ys[j]?=some (ys[j]'(by omega)):=List.getElem?_eq_getElem (by omega)
  exact ⟨_,_,_,by rw [← Go.Deep.add_add,hcell,hv],h1.trans hys⟩
end
theorem out_block {r:Reach} {w:World} {base:Nat} {x y z:Value} (h:Value.okWide Tryz.prog w r base 52 (.agg #[x,y,z])) :
 (∀ a n cap,y=.slice (some a) n cap→a.spot=none∧a.block<w.heap.size)∧(∀ a n cap,z=.slice (some a) n cap→a.spot=none∧a.block<w.heap.size):=by
 simp only [Value.okWide,Tryz.underlying52] at h
 obtain ⟨cs,he,_,ts,h1,_,h2⟩:=h
 rw [Tryz.cellTypesOutl] at h1
 obtain rfl:=Option.some.inj h1
 obtain rfl:#[x,y,z]=cs:=by simpa using he
 refine ⟨?_,?_⟩
 ·rintro a n cap rfl
  obtain ⟨u,hu,h3⟩:=h2 1 _ rfl
  exact Z9n
 ·rintro a n cap rfl
  obtain ⟨u,hu,h3⟩:=h2 2 _ rfl
  exact Z9n
/-- A slice of bounds, opened. -/
theorem bds_open {H:Type} {enc:TypeId × Value→H} {W:World} {n:Nat} {v:Value} {y:DataW H × List MemPlace}
 (h:DataW.trod enc Tryz.prog W 0 (fun _=>true) true n 50 [v]=some y) (hblk:∀ a n cap,v=.slice (some a) n cap→a.spot=none∧a.block<W.heap.size) (hs:∀ n ∈ y.1.weights Tryz.prog 50,n≤reachBytes) :
 ∃ (a:Option Addr) (n cap:Nat) (bs:List Bd),v=.slice a n cap∧BdsAt W a n cap bs:=by
 rcases slice_fields Tryz.underlying50 Tryz.underlying69 Zk Tryz.cellsBd h with ⟨hcs,hx⟩ | ⟨a,len,cap,m',D,Pl,hcs,hl,hm,hx,hat⟩
 ·simp at hcs
  subst hcs
  exact ⟨none,0,0,[],rfl,⟨rfl,by simp,fun _=>⟨rfl,rfl⟩,fun x hx=>by simp at hx⟩⟩
 ·simp at hcs
  subst hcs
  simp only [if_true] at hm
  subst hm
  subst hx
  have hbytes:m' * 32≤reachBytes:=by
   have:=hs ((((List.range len).map D).length +((List.range (m' - len)).map fun j=>D (len +j)).length) * Tryz.prog.bytesOf 69) (by
    simp [DataW.weights,Tryz.underlying50])
   rw [Tryz.bytesBd] at this
   simp only [List.length_map,List.length_range] at this
   omega
  unfold reachBytes at hbytes
  obtain ⟨hsp,hb⟩:=hblk a len m' rfl
  have hk:∀ i,i<m'→∀ j,j<4→∃ z,W.cell? (a.add (i * 4 +j))=some (.int .i64 z):=fun i hi j hj=>by
   match j,hj with
   | 0,_=>obtain ⟨v,y,n,e1,e2⟩:=hat i hi 0 _ rfl;obtain ⟨x,e0,_,_⟩:=DataW.trod_int Tryz.underlying3 e2;simp at e0;subst e0;exact ⟨x,e1⟩
   | 1,_=>obtain ⟨v,y,n,e1,e2⟩:=hat i hi 1 _ rfl;obtain ⟨x,e0,_,_⟩:=DataW.trod_int Tryz.underlying3 e2;simp at e0;subst e0;exact ⟨x,e1⟩
   | 2,_=>obtain ⟨v,y,n,e1,e2⟩:=hat i hi 2 _ rfl;obtain ⟨x,e0,_,_⟩:=DataW.trod_int Tryz.underlying3 e2;simp at e0;subst e0;exact ⟨x,e1⟩
   | 3,_=>obtain ⟨v,y,n,e1,e2⟩:=hat i hi 3 _ rfl;obtain ⟨x,e0,_,_⟩:=DataW.trod_int Tryz.underlying3 e2;simp at e0;subst e0;exact ⟨x,e1⟩
  obtain ⟨ab,ao,sp0⟩:=a
  simp only at hsp hb
  subst hsp
  let Z:Nat→Int:=fun k=>match W.cell? ⟨ab,ao +k,none⟩ with | some (.int .i64 z)=>z | _=>0
  have hZ:∀ i,i<m'→∀ j,j<4→W.cell? ⟨ab,ao +(i * 4 +j),none⟩=some (.int .i64 (Z (i * 4 +j))):=fun i hi j hj=>by
   obtain ⟨z,hz⟩:=hk i hi j hj
   rw [itm_add] at hz
   simp only [Z,hz]
  refine ⟨some ⟨ab,ao,none⟩,len,m',(List.range len).map fun i=>⟨Z (i * 4 +0),Z (i * 4 +1),Z (i * 4 +2),Z (i * 4 +3)⟩,rfl,⟨by simp,by simp;omega,fun h=>by simp at h,fun x hx=>?_⟩⟩
  obtain rfl:=Option.some.inj hx
  refine ⟨rfl,hb,fun i hi=>?_⟩
  simp only [List.length_map,List.length_range] at hi
  have e:((List.range len).map fun i=>(⟨Z (i * 4 +0),Z (i * 4 +1),Z (i * 4 +2),Z (i * 4 +3)⟩:Bd)).getD i default=⟨Z (i * 4 +0),Z (i * 4 +1),Z (i * 4 +2),Z (i * 4 +3)⟩:=by
   simp [List.getD,hi]
  rw [e]
  have c0:=hZ i (by omega) 0 (by omega)
  have c1:=hZ i (by omega) 1 (by omega)
  have c2:=hZ i (by omega) 2 (by omega)
  have c3:=hZ i (by omega) 3 (by omega)
  simp only [← Nat.add_assoc] at c0 c1 c2 c3
  exact ⟨by simpa using c0,c1,c2,c3⟩
/-- An outline by value. -/
theorem outline_open {H:Type} {enc:TypeId × Value→H} {W:World} {base:Nat} {v:Value} {d:DataW H} {p:List MemPlace} (hv:Value.okWide Tryz.prog W .any base 52 v)
 (h:DataW.Trod enc Tryz.prog W 0 (fun _=>true) true 52 v d p) (hs:∀ n ∈ d.weights Tryz.prog 52,n≤reachBytes) :
 ∃ (co:Int) (wa:Option Addr) (wn wc:Nat) (ws:List Bd) (ta:Option Addr) (tn tc:Nat) (ts:List Bd),v=.agg #[.int .i64 co,.slice wa wn wc,.slice ta tn tc]∧BdsAt W wa wn wc ws∧BdsAt W ta tn tc ts:=by
 have hv0:=hv
 obtain ⟨c0,c1,c2,y0,y1,y2,m,rfl,rfl,rfl,h0,h1,h2⟩:=open_agg3 Tryz.underlying52 Zk Tryz.cellsOutl hv h
 obtain ⟨co,e0,_,_⟩:=DataW.trod_int Tryz.underlying3 h0
 simp at e0
 subst e0
 obtain ⟨b1,b2⟩:=out_block hv0
 obtain ⟨wa,wn,wc,ws,rfl,hw⟩:=bds_open h1 b1 (fun n hn=>hs n (by
  simp only [DataW.weights,Tryz.underlying52,DataW.weightsEach,List.mem_append,List.map_cons,List.map_nil]
  exact .inr (.inl hn)))
 obtain ⟨ta,tn,tc,ts,rfl,ht⟩:=bds_open h2 b2 (fun n hn=>hs n (by
  simp only [DataW.weights,Tryz.underlying52,DataW.weightsEach,List.mem_append,List.map_cons,List.map_nil]
  exact .inr (.inr (.inl hn))))
 exact ⟨co,wa,wn,wc,ws,ta,tn,tc,ts,rfl,hw,ht⟩
open Go.RowKit Go.Shelf
set_option maxHeartbeats 8000000
set_option maxRecDepth 100000
theorem sysBs_le (co:Int) (bs:List Bd):(sysBs co bs).length≤bs.length:=by
 unfold sysBs
 split
 ·exact Nat.le_refl _
 ·simp
theorem loutlines (a:Option Addr) (n cap:Nat) (l:List Itm) (day id co:Int) (wa:Option Addr) (wn wc:Nat) (ws:List Bd) (ta:Option Addr) (tn tc:Nat) (ts:List Bd) (w:World) (h:ItmsAt w a n cap l) (hcap:l.length≤cap) (hw:BdsAt w wa wn wc ws) (ht:BdsAt w ta tn tc ts) :
 Calls Tryz.prog 7 #[.slice a n cap,.int .i64 day,.int .i64 id,.agg #[.int .i64 co,.slice wa wn wc,.slice ta tn tc]] w fun e w'=>e=.returned (.bool true)∧Below w.heap.size w w':=by
 have hSh:=fun W=>lshelved W
 have hB0:=one_alloc w (Obj.cells #[.int .i64 co,.slice wa wn wc,.slice ta tn tc] 52)
 have hX0:=World.alloc_heap_new w (Obj.cells #[.int .i64 co,.slice wa wn wc,.slice ta tn tc] 52)
 have hFe:=fun W (hb:Below w.heap.size w W)=>lfew 30 a n cap l W (h.below hb) (by omega)
 have h30:((30:Nat):Int)=30:=rfl
 rw [h30] at hFe
 have hlen:=fun (hF:fewB l 30=true)=>fewB_len hF
 generalize fewB l 30=F at *
 cases F with
 | false =>
   clear hlen
   exact Z9m
 | true =>
   have hl30:=hlen rfl
   clear hlen
   by_cases hwn:wn≤40
   ·have i1:¬ (40:Int)<(wn:Int):=by omega
    by_cases htn:tn≤40
    ·have i2:¬ (40:Int)<(tn:Int):=by omega
     have hwl:=hw.len
     have htl:=ht.len
     have hO1:=fun W hi=>sOutline_any a n cap l day id W hi hcap
     have hO2:=fun W hi=>r2Outline_any a n cap l day id W hi hcap (by omega)
     have hW1:=fun W hi hj=>sWays_all co wa wn wc ws ta tn tc ts W hi hj (by omega)
     have hW2:=fun W hi hj=>r2Ways_any co wa wn wc ws ta tn tc ts W hi hj (by omega)
     have hT1:=fun W hi hj=>sTurns_all co wa wn wc ws ta tn tc ts W hi hj (by omega)
     have hT2:=fun W hi hj=>r2Turns_any co wa wn wc ws ta tn tc ts W hi hj (by omega)
     unfold OutE at hO1 hO2
     unfold SysPost at hW1 hW2 hT1 hT2
     have hWl:=outW_len l day id
     have hTl:=outT_len l day id
     have hs1:=sysBs_le co ws
     have hs2:=sysBs_le co ts
     rw [← hwl] at hs1
     rw [← htl] at hs2
     have Hwl:=Lib.hid hwl
     have Htl:=Lib.hid htl
     have Hl:=Lib.hid h.len
     clear hwl htl
     generalize outC l day id=q at *
     generalize outW l day id=WB at *
     generalize outT l day id=TB at *
     generalize lookE l day id=E3 at *
     generalize sysIf co (co +1)=g1 at *
     generalize sysIf co co=g2 at *
     generalize sysBs co ws=S1 at *
     generalize sysBs co ts=S2 at *
     have tokA:True:=trivial
     go_enter Tryz.func7,Tryz.ntmps7
     go_wp2_with (first
      | (go_at_call 18;(with_reducible refine (hFe _ hB0).mono ?_);rintro e w1 ⟨rfl,hb1⟩;have hX1:=(hb1.block w.heap.size (by simp)).trans hX0;obtain ⟨d0,d1,d2,df,dl⟩:=cell3s hX1;have hB1:=hB0.ch2 hb1)
      | (go_at_call 36;(with_reducible refine (hO1 _ (h.below hB1)).mono ?_);rintro e w2 ⟨v1,v2,rfl,hb2,p1,p2⟩;obtain ⟨o1,c1,rfl,_⟩:=owns_slice p1;obtain ⟨o2,c2,rfl,_⟩:=owns_slice p2;have al2:=one_alloc w2 (Obj.cells #[.int .i64 q,.slice o1 WB.length c1,.slice o2 TB.length c2] 52);have hA2:=World.alloc_heap_new w2 (Obj.cells #[.int .i64 q,.slice o1 WB.length c1,.slice o2 TB.length c2] 52);have q1:=(BdsAt.of_owns p1 (by omega)).below al2;have q2:=(BdsAt.of_owns p2 (by omega)).below al2;have hZ2:=hb2.ch2 al2)
      | (go_at_call 37;(with_reducible refine (hO2 _ (h.below (hB1.ch2 hZ2))).mono ?_);rintro e w3 ⟨v3,v4,rfl,hb3,p3,p4⟩;obtain ⟨o3,c3,rfl,_⟩:=owns_slice p3;obtain ⟨o4,c4,rfl,_⟩:=owns_slice p4;have al3:=one_alloc w3 (Obj.cells #[.int .i64 q,.slice o3 WB.length c3,.slice o4 TB.length c4] 52);have hA3:=alKeep (o':=(Obj.cells #[.int .i64 q,.slice o3 WB.length c3,.slice o4 TB.length c4] 52)) ((hb3.block w2.heap.size (by simp)).trans hA2);have q5:=(q1.below hb3).below al3;have q6:=(q2.below hb3).below al3;have q3:=(BdsAt.of_owns p3 (by omega)).below al3;have q4:=(BdsAt.of_owns p4 (by omega)).below al3;have hZ3:=(hZ2.ch2 hb3).ch2 al3;obtain ⟨x0,x1,x2,xf,xl⟩:=cell3s hA3)
      | (go_at_call 38;(with_reducible refine (r2sameO q o1 o2 o3 o4 _ _ _ _ c1 c2 c3 c4 WB TB _ q5 q6 q3 q4).mono ?_);rintro e w4 ⟨rfl,hb4⟩;have hZ4:=hZ3.ch2 hb4;clear d0 d1 d2 df;obtain ⟨d0,d1,d2,df,_⟩:=cell3s ((hZ4.block w.heap.size dl).trans hX1);have hB4:=hB1.ch2 hZ4;have hw4:=hw.below hB4;have ht4:=ht.below hB4)
      | (go_at_call 39;(with_reducible refine (hW1 _ hw4 ht4).mono ?_);rintro e w5 ⟨v5,rfl,hb5,p5⟩;obtain ⟨r5,k5,rfl,_⟩:=owns_slice p5;have al5:=one_alloc w5 (Obj.cells #[.int .i64 g1,.slice r5 S1.length k5] 57);have hA5:=World.alloc_heap_new w5 (Obj.cells #[.int .i64 g1,.slice r5 S1.length k5] 57);have m5:=(BdsAt.of_owns p5 (by omega)).below al5;have hZ5:=(hZ4.ch2 hb5).ch2 al5;have hw5:=(hw4.below hb5).below al5;have ht5:=(ht4.below hb5).below al5;clear d0 d1 d2 df;obtain ⟨d0,d1,d2,df,_⟩:=cell3s ((hZ5.block w.heap.size dl).trans hX1))
      | (go_at_call 40;(with_reducible refine (hW2 _ hw5 ht5).mono ?_);rintro e w6 ⟨v6,rfl,hb6,p6⟩;obtain ⟨r6,k6,rfl,_⟩:=owns_slice p6;have al6:=one_alloc w6 (Obj.cells #[.int .i64 g1,.slice r6 S1.length k6] 57);have hA6:=World.alloc_heap_new w6 (Obj.cells #[.int .i64 g1,.slice r6 S1.length k6] 57);have m6:=(BdsAt.of_owns p6 (by omega)).below al6;have hZ6:=(hZ5.ch2 hb6).ch2 al6;have hw6:=(hw5.below hb6).below al6;have ht6:=(ht5.below hb6).below al6;have hQ5:=hb6.ch2 al6;clear d0 d1 d2 df;obtain ⟨d0,d1,d2,df,_⟩:=cell3s ((hZ6.block w.heap.size dl).trans hX1))
      | (go_at_call 41;(with_reducible refine (hT1 _ hw6 ht6).mono ?_);rintro e w7 ⟨v7,rfl,hb7,p7⟩;obtain ⟨r7,k7,rfl,_⟩:=owns_slice p7;have al7:=one_alloc w7 (Obj.cells #[.int .i64 g2,.slice r7 S2.length k7] 57);have hA7:=World.alloc_heap_new w7 (Obj.cells #[.int .i64 g2,.slice r7 S2.length k7] 57);have m7:=(BdsAt.of_owns p7 (by omega)).below al7;have hZ7:=(hZ6.ch2 hb7).ch2 al7;have hw7:=(hw6.below hb7).below al7;have ht7:=(ht6.below hb7).below al7;have hQ5:=hQ5.ch2 (hb7.ch2 al7);have hQ6:=hb7.ch2 al7;clear d0 d1 d2 df;obtain ⟨d0,d1,d2,df,_⟩:=cell3s ((hZ7.block w.heap.size dl).trans hX1))
      | (go_at_call 42;(with_reducible refine (hT2 _ hw7 ht7).mono ?_);rintro e w8 ⟨v8,rfl,hb8,p8⟩;obtain ⟨r8,k8,rfl,_⟩:=owns_slice p8;have al8:=one_alloc w8 (Obj.cells #[.int .i64 g2,.slice r8 S2.length k8] 57);have hA8:=World.alloc_heap_new w8 (Obj.cells #[.int .i64 g2,.slice r8 S2.length k8] 57);have m8:=(BdsAt.of_owns p8 (by omega)).below al8;have hZ8:=(hZ7.ch2 hb8).ch2 al8;have hw8:=(hw7.below hb8).below al8;have ht8:=(ht7.below hb8).below al8;have hQ5:=hQ5.ch2 (hb8.ch2 al8);have hQ6:=hQ6.ch2 (hb8.ch2 al8);have hQ7:=hb8.ch2 al8;clear d0 d1 d2 df;obtain ⟨d0,d1,d2,df,_⟩:=cell3s ((hZ8.block w.heap.size dl).trans hX1))
      | (go_at_call 20;(with_reducible refine (hSh _).mono ?_);rintro e w9 ⟨rfl,hb9⟩;clear d0 d1 d2 df;obtain ⟨s50,s51,s5f,_⟩:=cell2s (((hQ5.ch2 hb9).block w5.heap.size (by simp)).trans hA5);obtain ⟨s60,s61,s6f,_⟩:=cell2s (((hQ6.ch2 hb9).block w6.heap.size (by simp)).trans hA6);obtain ⟨s70,s71,s7f,_⟩:=cell2s (((hQ7.ch2 hb9).block w7.heap.size (by simp)).trans hA7);obtain ⟨s80,s81,s8f,_⟩:=cell2s (((hb9).block w8.heap.size (by simp)).trans hA8);have hZ9:=hZ8.ch2 hb9)
      | (go_at_call 43;clear tokA;(with_reducible refine (r2sameB r5 r6 _ _ k5 k6 S1 _ (m5.below (hQ5.ch2 hb9)) (m6.below (hQ6.ch2 hb9))).mono ?_);rintro e w10 ⟨rfl,hb10⟩;clear s50 s51 s5f s60 s61 s6f s70 s71 s7f s80 s81 s8f;obtain ⟨s70,s71,s7f,_⟩:=cell2s ((((hQ7.ch2 hb9).ch2 hb10).block w7.heap.size (by simp)).trans hA7);obtain ⟨s80,s81,s8f,_⟩:=cell2s (((hb9.ch2 hb10).block w8.heap.size (by simp)).trans hA8);have hZ10:=hZ9.ch2 hb10)
      | (go_at_call 43;(with_reducible refine (r2sameB r7 r8 _ _ k7 k8 S2 _ ((m7.below (hQ7.ch2 hb9)).below hb10) ((m8.below hb9).below hb10)).mono ?_);rintro e w11 ⟨rfl,hb11⟩))
     go_ret
     exact ⟨rfl,hB1.ch2 (hZ10.ch2 hb11)⟩
    ·have i2:(40:Int)<(tn:Int):=by omega
     clear hwn htn
     exact Z9m
   ·have i1:(40:Int)<(wn:Int):=by omega
    clear hwn
    exact Z9m
open Go.ChangeShapes Go.WideShapes Go.ChangeAt Go.RowKit Go.Joins Go.Deep
set_option maxRecDepth 100000 in
theorem sherdOutlines_lifted (os:Os) (started:os.Started) (H:Type) (enc:TypeId × Value→H) :
 ReturnsInHanded {} Tryz.checked os 7 .any (Rows.sherdOutlinesSpec.pre6 enc Tryz.prog Tryz.f7 Rows.sherdOutlinesRow.domain false) (Rows.sherdOutlinesSpec.post enc Tryz.prog Tryz.f7 false true false false):=by
 refine returnsInHanded_of_change_sized (C:=Tryz.checked) Tryz.own started Zk Tryz.func7
  (ChangeSpec.witness6 (enc:=enc) (C:=Tryz.checked) false ⟨#[],#[.slice none 0 0,.int .i64 0,.int .i64 0,.agg #[.int .i64 0,.slice none 0 0,.slice none 0 0]],[]⟩ 8 Zk Zk Zk Zk) ?_
 intro W base args ds gs before hval0 hW _ hsz0 _
 have hsz:(DataW.weightsEach Tryz.prog (Tryz.f7.params.toList ++Rows.sherdOutlinesSpec.plain.varTypes Tryz.prog) (ds ++gs)).all (·≤reachBytes)=true:=hsz0
 clear hsz0
 have hval:∀ (j:Nat) t v,Tryz.f7.params[j]?=some t→args[j]?=some v→Value.okWide Tryz.prog W .any base t v:=hval0
 have hW':=hW
 obtain ⟨p,q,hA0,hV,rfl,_,_⟩:=hW
 have hA:DataW.TrodAll enc Tryz.prog W 0 (fun _=>true) true Tryz.f7.params.toList args.toList ds p:=hA0
 rw [Tryz.params7] at hA hval hsz
 obtain ⟨v0,vs0,d0,ds0,p0,q0,hargs,rfl,rfl,h0,r0⟩:=trodAll_cons hA
 obtain ⟨v1,vs1,d1,ds1,p1,q1,rfl,rfl,rfl,h1,r1⟩:=trodAll_cons r0
 obtain ⟨v2,vs2,d2,ds2,p2,q2,rfl,rfl,rfl,h2,r2⟩:=trodAll_cons r1
 obtain ⟨v3,vs3,d3,ds3,p3,q3,rfl,rfl,rfl,h3,r3⟩:=trodAll_cons r2
 obtain ⟨rfl,rfl,rfl⟩:=trodAll_nil r3
 obtain rfl:args=#[v0,v1,v2,v3]:=by cases args;simp_all
 obtain ⟨rfl,rfl⟩:=trodVars_none hV
 clear hA0 hval0
 have hlt:∀ x ∈ p0 ++p1 ++p2 ++p3,x.block<W.heap.size:=fun x hx=>by have:=hW'.lt x (by simpa using hx);simpa using this
 obtain ⟨a0,n0,k0,xs0,rfl,hb0,hn0⟩:=items_open (hval 0 22 v0 rfl rfl) h0 (fun n hn=>by
  have:=List.all_eq_true.1 hsz _ (DataW.weights_mem_each (j:=0) rfl rfl n hn)
  simpa using this)
 obtain ⟨x1,rfl⟩:=okWide_int Tryz.underlying3 (hval 1 3 v1 rfl rfl)
 obtain ⟨x2,rfl⟩:=okWide_int Tryz.underlying3 (hval 2 3 v2 rfl rfl)
 obtain ⟨c3,wa3,wn3,wc3,ws3,ta3,tn3,tc3,ts3,rfl,hb3,ht3⟩:=outline_open (hval 3 52 v3 rfl rfl) h3 (fun n hn=>by
  have:=List.all_eq_true.1 hsz _ (DataW.weights_mem_each (j:=3) rfl rfl n hn)
  simpa using this)
 refine (loutlines a0 n0 k0 xs0 x1 x2 c3 wa3 wn3 wc3 ws3 ta3 tn3 tc3 ts3 W hb0 hn0 hb3 ht3).mono fun e W' ⟨he,hw⟩=>?_
 subst he
 exact ⟨_,rfl,⟨_,_,_,[],_,[],hW',trodAll_mk1 (shut_bool Tryz.underlying4 _),(trodAll_cons_mk (Below.trod Tryz.laidOut Zk (of_decide_eq_true Zk) h0 hw (fun x hx=>hlt x Z9o)) (trodAll_cons_mk (Below.trod Tryz.laidOut Zk (of_decide_eq_true Zk) h1 hw (fun x hx=>hlt x Z9o)) (trodAll_cons_mk (Below.trod Tryz.laidOut Zk (of_decide_eq_true Zk) h2 hw (fun x hx=>hlt x Z9o)) (trodAll_cons_mk (Below.trod Tryz.laidOut Zk (of_decide_eq_true Zk) h3 hw (fun x hx=>hlt x Z9o)) trodAll_mk0)))),rfl,hw.frame _,fun h=>by cases h⟩⟩
set_option maxRecDepth 100000 in
set_option maxHeartbeats 8000000 in
theorem sherdOutlines_closed:joinedFacts Tryz.prog 7 Tryz.f7 Rows.sherdOutlinesSpec Rows.sherdOutlinesRow=true:=by
 unfold joinedFacts
 repeat' (with_reducible refine (Bool.and_eq_true _ _).mpr ⟨?_,?_⟩)
 all_goals as_aux_lemma=>kernel_rfl
theorem sherdOutlines_holds:Rows.SherdOutlinesSaid :=
 OpenClaim.holds_of_wide 7 Tryz.f7 rfl rfl rfl rfl rfl rfl rfl ⟨rfl,rfl,rfl,rfl,rfl⟩ rfl rfl rfl rfl rfl Zk Tryz.func7 sherdOutlines_closed
  (of_decide_eq_true Zk) (by unfold Func.isWrapper;rw [if_neg (of_decide_eq_false Zk)];exact ⟨rfl,rfl⟩)
  (fun os started H enc _=>sherdOutlines_lifted os started H enc)
#print axioms sherdOutlines_holds
end Go.Proofs.YtelkcohhagblaaaGreat

/- What the functions answer, for every input. -/
import Derived.Test.YtelkcohhagblaaaGreatSe09
import Derived.Test.YtelkcohhagblaaaGreatSe08
import Derived.Test.YtelkcohhagblaaaGreatSe04
set_option linter.unusedSimpArgs false
set_option linter.unusedVariables false
set_option linter.unnecessarySimpa false
namespace Go.Proofs.YtelkcohhagblaaaGreat
open Go.RowKit Go.Shelf Go.Maps
set_option maxHeartbeats 4000000
set_option maxRecDepth 100000
attribute [local go_sem] Oper.semAt_some

/-- What named holds while it looks: the Id, what is found, and whether. -/
structure NmI (w:World) (id:Int) (sl:Value) (x:Itm) (b:Bool) (W:World):Prop where
 c0:W.heap[w.heap.size]?=some (.cells #[.int .i64 id] 3)
 c1:W.heap[w.heap.size +1]?=some (.cells x.cs.toArray 24)
 c2:W.heap[w.heap.size +1 +1]?=some (.cells #[.bool b] 4)
 c3:W.heap[w.heap.size +1 +1 +1]?=some (.cells #[sl] 22)
 below:Below w.heap.size w W
theorem NmI.grown {w:World} {id:Int} {sl:Value} {x:Itm} {b:Bool} {W W':World} (h:NmI w id sl x b W) (hk:KeepC_w W W') (hb:Below w.heap.size w W'):NmI w id sl x b W' :=
 ⟨hk.cells _ _ _ _ h.c0,hk.cells _ _ _ _ h.c1,hk.cells _ _ _ _ h.c2,hk.cells _ _ _ _ h.c3,hb⟩
theorem alKeep {W:World} {o o':Obj} {b:Nat} (h:W.heap[b]?=some o):(W.alloc o').heap[b]?=some o:=(Below.heap_alloc _ _ _ (Array.getElem?_eq_some_iff.1 h).1).trans h
theorem sixteen {W:World} {N:Nat} {t:TypeId} {y0 y1 y2 y3 y4 y5 y6 y7 y8 y9 y10 y11 y12 y13 y14 y15 v0 v1 v2 v3 v4 v5 v6 v7 v8 v9 v10 v11 v12 v13 v14 v15:Value} (h:W.heap[N]?=some (.cells #[y0,y1,y2,y3,y4,y5,y6,y7,y8,y9,y10,y11,y12,y13,y14,y15] t (0,0))) :
 (((((((((((((((((W).setCell ⟨N,0,none⟩ v0).setCell ⟨N,1,none⟩ v1).setCell ⟨N,2,none⟩ v2).setCell ⟨N,3,none⟩ v3).setCell ⟨N,4,none⟩ v4).setCell ⟨N,5,none⟩ v5).setCell ⟨N,6,none⟩ v6).setCell ⟨N,7,none⟩ v7).setCell ⟨N,8,none⟩ v8).setCell ⟨N,9,none⟩ v9).setCell ⟨N,10,none⟩ v10).setCell ⟨N,11,none⟩ v11).setCell ⟨N,12,none⟩ v12).setCell ⟨N,13,none⟩ v13).setCell ⟨N,14,none⟩ v14).setCell ⟨N,15,none⟩ v15).heap[N]?=some (.cells #[v0,v1,v2,v3,v4,v5,v6,v7,v8,v9,v10,v11,v12,v13,v14,v15] t (0,0))∧SL.Chg [N] W (((((((((((((((((W).setCell ⟨N,0,none⟩ v0).setCell ⟨N,1,none⟩ v1).setCell ⟨N,2,none⟩ v2).setCell ⟨N,3,none⟩ v3).setCell ⟨N,4,none⟩ v4).setCell ⟨N,5,none⟩ v5).setCell ⟨N,6,none⟩ v6).setCell ⟨N,7,none⟩ v7).setCell ⟨N,8,none⟩ v8).setCell ⟨N,9,none⟩ v9).setCell ⟨N,10,none⟩ v10).setCell ⟨N,11,none⟩ v11).setCell ⟨N,12,none⟩ v12).setCell ⟨N,13,none⟩ v13).setCell ⟨N,14,none⟩ v14).setCell ⟨N,15,none⟩ v15):=by
 refine ⟨?_,.trans (.trans (.trans (.trans (.trans (.trans (.trans (.trans (.trans (.trans (.trans (.trans (.trans (.trans (.trans (.setCell _ (by simp) _) (.setCell _ (by simp) _)) (.setCell _ (by simp) _)) (.setCell _ (by simp) _)) (.setCell _ (by simp) _)) (.setCell _ (by simp) _)) (.setCell _ (by simp) _)) (.setCell _ (by simp) _)) (.setCell _ (by simp) _)) (.setCell _ (by simp) _)) (.setCell _ (by simp) _)) (.setCell _ (by simp) _)) (.setCell _ (by simp) _)) (.setCell _ (by simp) _)) (.setCell _ (by simp) _)) (.setCell _ (by simp) _)⟩
 have k:=SL.heap_set (SL.heap_set (SL.heap_set (SL.heap_set (SL.heap_set (SL.heap_set (SL.heap_set (SL.heap_set (SL.heap_set (SL.heap_set (SL.heap_set (SL.heap_set (SL.heap_set (SL.heap_set (SL.heap_set (SL.heap_set h v0 (i:=0)) v1 (i:=1)) v2 (i:=2)) v3 (i:=3)) v4 (i:=4)) v5 (i:=5)) v6 (i:=6)) v7 (i:=7)) v8 (i:=8)) v9 (i:=9)) v10 (i:=10)) v11 (i:=11)) v12 (i:=12)) v13 (i:=13)) v14 (i:=14)) v15 (i:=15)
 simpa using k
theorem NmI.put {w:World} {id:Int} {sl:Value} {y:Itm} {c:Bool} {W:World} (h:NmI w id sl y c W) (x:Itm) (b:Bool) :
 NmI w id sl x b ((((((((((((((((((W).setCell ⟨w.heap.size +1,0,none⟩ (.int .i64 x.id)).setCell ⟨w.heap.size +1,1,none⟩ (.int .i64 x.kn)).setCell ⟨w.heap.size +1,2,none⟩ (.int .u8 x.kd)).setCell ⟨w.heap.size +1,3,none⟩ (.string x.wa)).setCell ⟨w.heap.size +1,4,none⟩ (.int .i64 x.pit)).setCell ⟨w.heap.size +1,5,none⟩ (.int .i64 x.ly)).setCell ⟨w.heap.size +1,6,none⟩ (.int .i64 x.co)).setCell ⟨w.heap.size +1,7,none⟩ (.bool x.ft)).setCell ⟨w.heap.size +1,8,none⟩ (.int .i64 x.sh)).setCell ⟨w.heap.size +1,9,none⟩ (.int .i64 x.fr)).setCell ⟨w.heap.size +1,10,none⟩ (.int .i64 x.tw)).setCell ⟨w.heap.size +1,11,none⟩ (.int .i64 x.lo)).setCell ⟨w.heap.size +1,12,none⟩ (.int .i64 x.hi)).setCell ⟨w.heap.size +1,13,none⟩ (.string x.st)).setCell ⟨w.heap.size +1,14,none⟩ (.int .i64 x.li)).setCell ⟨w.heap.size +1,15,none⟩ (.int .i64 x.vo)).setCell ⟨w.heap.size +1 +1,0,none⟩ (.bool b))∧SL.Chg [w.heap.size +1,w.heap.size +1 +1] W ((((((((((((((((((W).setCell ⟨w.heap.size +1,0,none⟩ (.int .i64 x.id)).setCell ⟨w.heap.size +1,1,none⟩ (.int .i64 x.kn)).setCell ⟨w.heap.size +1,2,none⟩ (.int .u8 x.kd)).setCell ⟨w.heap.size +1,3,none⟩ (.string x.wa)).setCell ⟨w.heap.size +1,4,none⟩ (.int .i64 x.pit)).setCell ⟨w.heap.size +1,5,none⟩ (.int .i64 x.ly)).setCell ⟨w.heap.size +1,6,none⟩ (.int .i64 x.co)).setCell ⟨w.heap.size +1,7,none⟩ (.bool x.ft)).setCell ⟨w.heap.size +1,8,none⟩ (.int .i64 x.sh)).setCell ⟨w.heap.size +1,9,none⟩ (.int .i64 x.fr)).setCell ⟨w.heap.size +1,10,none⟩ (.int .i64 x.tw)).setCell ⟨w.heap.size +1,11,none⟩ (.int .i64 x.lo)).setCell ⟨w.heap.size +1,12,none⟩ (.int .i64 x.hi)).setCell ⟨w.heap.size +1,13,none⟩ (.string x.st)).setCell ⟨w.heap.size +1,14,none⟩ (.int .i64 x.li)).setCell ⟨w.heap.size +1,15,none⟩ (.int .i64 x.vo)).setCell ⟨w.heap.size +1 +1,0,none⟩ (.bool b)):=by
 have k1:=h.c1
 have k2:=h.c2
 have z0:=(Array.getElem?_eq_some_iff.1 h.c0).1
 have z2:=(Array.getElem?_eq_some_iff.1 k2).1
 have z3:=(Array.getElem?_eq_some_iff.1 h.c3).1
 simp only [Itm.cs] at k1
 obtain ⟨hA,hc⟩:=sixteen (v0:=.int .i64 x.id) (v1:=.int .i64 x.kn) (v2:=.int .u8 x.kd) (v3:=.string x.wa) (v4:=.int .i64 x.pit) (v5:=.int .i64 x.ly) (v6:=.int .i64 x.co) (v7:=.bool x.ft) (v8:=.int .i64 x.sh) (v9:=.int .i64 x.fr) (v10:=.int .i64 x.tw) (v11:=.int .i64 x.lo) (v12:=.int .i64 x.hi) (v13:=.string x.st) (v14:=.int .i64 x.li) (v15:=.int .i64 x.vo) k1
 have hb:=h.below.trans (hc.belowE_w (B:=w.heap.size) (by omega) (by simp))
 have hc0:=(hc.block _ z0 (by simp)).trans h.c0
 have hc2:=(hc.block _ z2 (by simp)).trans h.c2
 have hc3:=(hc.block _ z3 Zj).trans h.c3
 generalize ((((((((((((((((W).setCell ⟨w.heap.size +1,0,none⟩ (.int .i64 x.id)).setCell ⟨w.heap.size +1,1,none⟩ (.int .i64 x.kn)).setCell ⟨w.heap.size +1,2,none⟩ (.int .u8 x.kd)).setCell ⟨w.heap.size +1,3,none⟩ (.string x.wa)).setCell ⟨w.heap.size +1,4,none⟩ (.int .i64 x.pit)).setCell ⟨w.heap.size +1,5,none⟩ (.int .i64 x.ly)).setCell ⟨w.heap.size +1,6,none⟩ (.int .i64 x.co)).setCell ⟨w.heap.size +1,7,none⟩ (.bool x.ft)).setCell ⟨w.heap.size +1,8,none⟩ (.int .i64 x.sh)).setCell ⟨w.heap.size +1,9,none⟩ (.int .i64 x.fr)).setCell ⟨w.heap.size +1,10,none⟩ (.int .i64 x.tw)).setCell ⟨w.heap.size +1,11,none⟩ (.int .i64 x.lo)).setCell ⟨w.heap.size +1,12,none⟩ (.int .i64 x.hi)).setCell ⟨w.heap.size +1,13,none⟩ (.string x.st)).setCell ⟨w.heap.size +1,14,none⟩ (.int .i64 x.li)).setCell ⟨w.heap.size +1,15,none⟩ (.int .i64 x.vo)=W2 at *
 refine ⟨⟨(Below.heap_setCell _ _ _ _ Z3o).trans hc0,(Below.heap_setCell _ _ _ _ Z3k).trans hA,?_,(Below.heap_setCell _ _ _ _ (by show w.heap.size +1 +1 +1≠w.heap.size +1 +1;omega)).trans hc3,hb.setCell Zj _⟩,(hc.monoW (fun k hk=>by simp at hk;simp [hk])).trans (.setCell _ (by simp) _)⟩
 have:=SL.heap_set (i:=0) hc2 (.bool b)
 simpa using this
theorem find_snoc {pre:List Itm} {f:Itm→Bool} {x:Itm} (h:pre.find? f=none) (hx:f x=false):(pre ++[x]).find? f=none:=by
 rw [List.find?_append,h]
 simp [hx]
theorem find_mid {l pre post:List Itm} {f:Itm→Bool} {x:Itm} (e:l=pre ++x::post) (h:pre.find? f=none) (hx:f x=true):l.find? f=some x:=by
 rw [e,List.find?_append,h,List.find?_cons,hx]
 rfl
theorem named_leaves {w W:World} {id:Int} {sl:Value} {x:Itm} {b:Bool} {B:Nat} {tmps:Array Value} {D:List Deferred} {Post:Ending→World→Prop} (h4:tmps.getD 4 undef=.pointer (some ⟨w.heap.size +1,0,none⟩)) (h5:tmps.getD 5 undef=.pointer (some ⟨w.heap.size +1 +1,0,none⟩))
 (hB:w.heap.size +1 +1 +1 +1≤B) (hD:Marks_w B D W) (hN:NmI w id sl x b W) (hP:∀ W',Below w.heap.size w W'→Post (.returned (.tuple #[x.v,.bool b])) W') :
 LeavesInM Fence.wide 0 Tryz.prog Tryz.f166 tmps Post D .returning W:=by
 refine leaves_marks_w (B:=B) (by simp) (fun W=>NmI w id sl x b W) ?_ ?_ D W hD hN
 ·rintro W1 k hk a1 hd
  have hg:=grownBy_putObj' W1 k (.deferred none)
  exact a1.grown (KeepC_w.of_grown hg fun r e=>by cases e;exact ⟨_,hd,rfl⟩) (a1.below.grown hg a1.below.size (fun r e=>by cases e;omega))
 ·rintro W1 hN1
  have k1:=hN1.c1
  simp only [Itm.cs] at k1
  obtain ⟨⟨y0,y1,y2,y3,y4,y5,y6,y7,y8,y9,y10,y11,y12,y13,y14,y15⟩,_,_⟩:=ItmCells.of_heap k1
  have g0:=(SL.cells_of hN1.c2).1 0
  simp at g0
  have h4':tmps[4]?.getD undef=.pointer (some ⟨w.heap.size +1,0,none⟩):=by simpa using h4
  have h5':tmps[5]?.getD undef=.pointer (some ⟨w.heap.size +1 +1,0,none⟩):=by simpa using h5
  have hp:=hP W1 hN1.below
  simp only [Itm.v,Itm.cs] at hp
  clear k1 hN1 hP hN hD
  refine ⟨_,?_,hp⟩
  simp [results,Tryz.results166,asAddr,go_sem,h4',h5',y0,y1,y2,y3,y4,y5,y6,y7,y8,y9,y10,y11,y12,y13,y14,y15,g0]
theorem snamed_any (a:Option Addr) (n cap:Nat) (l:List Itm) (id:Int) (w:World) (h:ItmsAt w a n cap l) (hl:l.length≤1000) :
 Calls Tryz.prog 166 #[.slice a n cap,.int .i64 id] w (FindPost w (findI l id)):=by
 obtain rfl:=h.len
 have HP:=Lib.hid (show ∀ (o:Option Itm) w',(standL l).find? (fun x=>x.id == id)=o→Below w.heap.size w w'→FindPost w (findI l id) (.returned (.tuple #[(o.getD Itm.zero).v,.bool o.isSome])) w' from fun o w' h1 h2=>⟨by unfold findI;rw [h1],h2⟩)
 generalize FindPost w (findI l id)=Post at *
 simp only [Itm.v,Itm.cs] at HP
 refine (callsIn_wide (n:=0)).1 (callsIn_of_wp_marks Tryz.func166 rfl trivial ?_)
 simp only [Tryz.ntmps166,List.size_toArray,List.length_cons,List.length_nil,Nat.reduceAdd,Nat.reduceSub,Array.replicate_succ,Array.replicate_zero,List.push_toArray,List.append_toArray,List.nil_append,List.cons_append]
 refine wpIn_wide.2 ?_
 go_wp2_with (go_at_call 109;refine (sstands _ _ _ _).mono ?_;rintro e w1 ⟨rfl,rfl⟩)
 generalize hW0:(((w.alloc (Obj.cells #[.int .i64 id] 3)).alloc (Obj.cells #[.int .i64 0,.int .i64 0,.int .u8 0,.string ⟨#[]⟩,.int .i64 0,.int .i64 0,.int .i64 0,.bool false,.int .i64 0,.int .i64 0,.int .i64 0,.int .i64 0,.int .i64 0,.string ⟨#[]⟩,.int .i64 0,.int .i64 0] 24)).alloc (Obj.cells #[.bool false] 4)).alloc (Obj.cells #[.slice a l.length cap] 22)=W0
 have hN0:NmI w id (.slice a l.length cap) Itm.zero false W0:=by
  rw [← hW0]
  refine ⟨?_,?_,?_,?_,?_⟩
  ·exact alKeep (alKeep (alKeep (World.alloc_heap_new w _)))
  ·have:=World.alloc_heap_new (w.alloc (Obj.cells #[.int .i64 id] 3)) (Obj.cells #[.int .i64 0,.int .i64 0,.int .u8 0,.string ⟨#[]⟩,.int .i64 0,.int .i64 0,.int .i64 0,.bool false,.int .i64 0,.int .i64 0,.int .i64 0,.int .i64 0,.int .i64 0,.string ⟨#[]⟩,.int .i64 0,.int .i64 0] 24)
   rw [World.size_alloc] at this
   exact alKeep (alKeep this)
  ·have:=World.alloc_heap_new ((w.alloc (Obj.cells #[.int .i64 id] 3)).alloc (Obj.cells #[.int .i64 0,.int .i64 0,.int .u8 0,.string ⟨#[]⟩,.int .i64 0,.int .i64 0,.int .i64 0,.bool false,.int .i64 0,.int .i64 0,.int .i64 0,.int .i64 0,.int .i64 0,.string ⟨#[]⟩,.int .i64 0,.int .i64 0] 24)) (Obj.cells #[.bool false] 4)
   rw [World.size_alloc,World.size_alloc] at this
   exact alKeep this
  ·have:=World.alloc_heap_new (((w.alloc (Obj.cells #[.int .i64 id] 3)).alloc (Obj.cells #[.int .i64 0,.int .i64 0,.int .u8 0,.string ⟨#[]⟩,.int .i64 0,.int .i64 0,.int .i64 0,.bool false,.int .i64 0,.int .i64 0,.int .i64 0,.int .i64 0,.int .i64 0,.string ⟨#[]⟩,.int .i64 0,.int .i64 0] 24)).alloc (Obj.cells #[.bool false] 4)) (Obj.cells #[.slice a l.length cap] 22)
   rw [World.size_alloc,World.size_alloc,World.size_alloc] at this
   exact this
  ·exact (((one_alloc w _).ch2 (one_alloc _ _)).ch2 (one_alloc _ _)).ch2 (one_alloc _ _)
 have hz0:W0.heap.size=w.heap.size +1 +1 +1 +1:=by rw [← hW0];simp
 clear hW0
 have hC:∀ x b W,NmI w id (.slice a l.length cap) x b W→W.cell? ⟨w.heap.size +1 +1 +1,0,none⟩=some (.slice a l.length cap)∧ItmsAt W a l.length cap l:=fun x b W hN=>⟨by have:=(SL.cells_of hN.c3).1 0;simpa using this,h.below hN.below⟩
 have gro:∀ x b W W' row,NmI w id (.slice a l.length cap) x b W→W.grownBy W' row→(∀ r,row=some r→W0.heap.size≤r∧∃ o:Obj,W.heap[r]?=some o∧o.isCells=false)→NmI w id (.slice a l.length cap) x b W':=fun x b W W' row hN hg hr =>
  hN.grown (KeepC_w.of_grown hg fun r e=>(hr r e).2) (hN.below.grown hg hN.below.size fun r e=>by have:=(hr r e).1;omega)
 have HS:=Lib.hid (sstands1 a l.length cap l (w.heap.size +1 +1 +1) hl)
 generalize hL:standL l=L at *
 refine range_iter' (gf:=172) (lb:=#[.pointer (some ⟨w.heap.size +1 +1 +1,0,none⟩)]) Z2a (enters_of Tryz.func172 Zk rfl) HS.out
  (fun pre W=>NmI w id (.slice a l.length cap) Itm.zero false W∧pre.find? (fun x=>x.id == id)=none)
  (fun c s W=>c=Code.ret∧∃ pre x,s=pre ++[x]∧pre.find? (fun x=>x.id == id)=none∧(x.id == id)=true∧NmI w id (.slice a l.length cap) x true W)
  ?_ ?_ ?_ ⟨hN0,rfl⟩ [6,9] (fun x us W=>∃ b,us 6=.pointer (some ⟨b,0,none⟩)∧W.heap[b]?=some (.cells x.cs.toArray 24)∧W0.heap.size≤b) ?_ ?_ ?_ ?_ ?_
 ·exact Z6z
 ·rintro c s W1 W2 row ⟨h0,pre,x,h1,h2,h3,h4⟩ hg hr
  exact ⟨h0,pre,x,h1,h2,h3,gro _ _ _ _ _ h4 hg hr⟩
 ·rintro s W ⟨h1,h2⟩
  exact hC _ _ _ h1
 ·exact Zl
 ·rintro lid pre x post W1 K he ⟨hN,hp⟩ hK
  have hw:W0.heap.size≤W1.heap.size:=by
   have:=(Array.getElem?_eq_some_iff.1 hN.c3).1
   omega
  exact Zb
 ·rintro lid pre x post us W1 hl' he ⟨hN,hp⟩ ⟨b,h6,hb,hbz⟩
  simp only [frame'_w,SL.put',List.toList_toArray,List.contains_cons,List.contains_nil,Nat.reduceAdd,Nat.reduceBEq,Bool.or_false,Bool.or_true,Bool.false_or,Bool.true_or,if_true,Bool.false_eq_true,if_false,h6]
  have Hp:=Lib.hid hp
  have HN:=Lib.hid hN
  simp only [Itm.cs] at hb
  obtain ⟨⟨d0,d1,d2,d3,d4,d5,d6,d7,d8,d9,d10,d11,d12,d13,d14,d15⟩,hfz,hbl⟩:=ItmCells.of_heap hb
  have e0:=(SL.cells_of hN.c0).1 0
  simp at e0
  have k1:=hN.c1
  have k2:=hN.c2
  have z1:=(Array.getElem?_eq_some_iff.1 k1).1
  have z2:=(Array.getElem?_eq_some_iff.1 k2).1
  have n1:b≠w.heap.size +1:=by omega
  have n2:b≠w.heap.size +1 +1:=by omega
  simp only [Itm.cs,Itm.zero] at k1
  obtain ⟨⟨y0,y1,y2,y3,y4,y5,y6,y7,y8,y9,y10,y11,y12,y13,y14,y15⟩,yfz,_⟩:=ItmCells.of_heap (x:=Itm.zero) k1
  simp only [Itm.zero] at y0 y1 y2 y3 y4 y5 y6 y7 y8 y9 y10 y11 y12 y13 y14 y15
  have g0:=(SL.cells_of k2).1 0
  have gz:=(SL.cells_of k2).2
  simp at g0
  have HZ:=Lib.hid hz0
  clear hp hN hb k1 k2 gro hC hN0 hz0 hL he HP HS hl' hbz hfz h hl
  refine wpIn_block ?_
  by_cases hx:x.id=id
  ·subst hx
   gi_wp2_with fail
   obtain ⟨q1,q2⟩:=HN.out.put x true
   have hz:=HZ.out
   exact ⟨keeps_of_chg_w q2 Zj,rfl,pre,x,rfl,Hp.out,by simp,q1⟩
  ·have Hx:=Lib.hid hx
   have hx':(x.id == id)=false:=by simpa using hx
   gi_wp2_with fail
   exact ⟨keeps_of_chg_w (E:=[]) (.refl _ _) (by simp),HN.out,find_snoc Hp.out (by simpa using Hx.out)⟩
 ·rintro D W2 hD ⟨hN,hp⟩ hdef
  have Hp:=Lib.hid hp
  have HN:=Lib.hid hN
  have k1:=hN.c1
  have k2:=hN.c2
  have z1:=(Array.getElem?_eq_some_iff.1 k1).1
  have z2:=(Array.getElem?_eq_some_iff.1 k2).1
  simp only [Itm.cs,Itm.zero] at k1
  obtain ⟨⟨y0,y1,y2,y3,y4,y5,y6,y7,y8,y9,y10,y11,y12,y13,y14,y15⟩,yfz,_⟩:=ItmCells.of_heap (x:=Itm.zero) k1
  simp only [Itm.zero] at y0 y1 y2 y3 y4 y5 y6 y7 y8 y9 y10 y11 y12 y13 y14 y15
  have g0:=(SL.cells_of k2).1 0
  have gz:=(SL.cells_of k2).2
  simp at g0
  have HZ:=Lib.hid hz0
  clear hp hN k1 k2 gro hC hN0 hz0 hL h hl HS
  go_wp2_with fail
  obtain ⟨q1,q2⟩:=HN.out.put Itm.zero false
  have hz:=HZ.out
  exact named_leaves (B:=W0.heap.size) rfl rfl (by omega) ⟨by simp;exact ⟨hD,(q2.block _ (Array.getElem?_eq_some_iff.1 hdef).1 Zj).trans hdef⟩,by simp⟩ q1 (fun W' hb=>HP.out none W' Hp.out hb)
 ·rintro D c pre x post W2 hD he ⟨rfl,pre',x',he',hp,hx,hN⟩ hdef
  have HN:=Lib.hid hN
  have Hf:=Lib.hid (find_mid he (by
   have:=List.append_inj' he' rfl
   rw [this.1];exact hp) (by
   have:=List.append_inj' he' rfl
   have e:=this.2
   simp at e
   rw [e];exact hx))
  have hxx:x=x':=by
   have:=(List.append_inj' he' rfl).2
   simpa using this
  subst hxx
  have hz:=hz0
  clear he he' hp hx hN gro hC hN0 hz0 hL h hl HS
  go_wp2_with fail
  exact named_leaves (B:=W0.heap.size) rfl rfl (by omega) ⟨by simp;exact ⟨hD,hdef⟩,by simp⟩ HN.out (fun W' hb=>HP.out (some x) W' Hf.out hb)
set_option maxHeartbeats 8000000
attribute [local go_sem] Oper.semAt_some

/-- What of holds while it looks: the error, the item, a number, the list. -/
structure OfI (w:World) (E Y O BL:Nat) (e:Int) (y:Itm) (q:Int) (sl:Value) (W:World):Prop where
 cE:W.heap[E]?=some (.cells #[.int .i64 e] 28 (0,0))
 cY:W.heap[Y]?=some (.cells y.cs.toArray 24 (0,0))
 cO:O≠E→W.heap[O]?=some (.cells #[.int .i64 q] 3 (0,0))
 cB:W.heap[BL]?=some (.cells #[sl] 22 (0,0))
 below:Below w.heap.size w W
theorem OfI.grown {w:World} {E Y O BL:Nat} {e:Int} {y:Itm} {q:Int} {sl:Value} {W W':World} (h:OfI w E Y O BL e y q sl W) (hk:KeepC_w W W') (hb:Below w.heap.size w W'):OfI w E Y O BL e y q sl W' :=
 ⟨hk.cells _ _ _ _ h.cE,hk.cells _ _ _ _ h.cY,fun hn=>hk.cells _ _ _ _ (h.cO hn),hk.cells _ _ _ _ h.cB,hb⟩
theorem one_set {W:World} {N:Nat} {t:TypeId} {v:Value} (h:W.heap[N]?=some (.cells #[v] t (0,0))) (u:Value):(W.setCell ⟨N,0,none⟩ u).heap[N]?=some (.cells #[u] t (0,0)):=by
 have:=SL.heap_set (i:=0) h u
 simpa using this
theorem OfI.err {w:World} {E Y O BL:Nat} {e:Int} {y:Itm} {q:Int} {sl:Value} {W:World} (h:OfI w E Y O BL e y q sl W) (h1:Y≠E) (h2:BL≠E) (h3:w.heap.size≤E) (e':Int):OfI w E Y O BL e' y q sl (W.setCell ⟨E,0,none⟩ (.int .i64 e')) :=
 ⟨one_set h.cE _,(Below.heap_setCell _ _ _ _ h1).trans h.cY,fun hn=>(Below.heap_setCell _ _ _ _ hn).trans (h.cO hn),(Below.heap_setCell _ _ _ _ h2).trans h.cB,h.below.setCell h3 _⟩
theorem OfI.num {w:World} {E Y O BL:Nat} {e:Int} {y:Itm} {q:Int} {sl:Value} {W:World} (h:OfI w E Y O BL e y q sl W) (h0:O≠E) (h1:Y≠O) (h2:BL≠O) (h3:w.heap.size≤O) (q':Int):OfI w E Y O BL e y q' sl (W.setCell ⟨O,0,none⟩ (.int .i64 q')) :=
 ⟨(Below.heap_setCell _ _ _ _ (Ne.symm h0)).trans h.cE,(Below.heap_setCell _ _ _ _ h1).trans h.cY,fun hn=>one_set (h.cO hn) _,(Below.heap_setCell _ _ _ _ h2).trans h.cB,h.below.setCell h3 _⟩
/-- A number is returned. -/
def EPost (w:World) (v:Int) (e:Ending) (w':World):Prop:=e=.returned (.int .i64 v)∧Below w.heap.size w w'
theorem of_leaves {w W:World} {E:Nat} {e:Int} {B:Nat} {tmps:Array Value} {D:List Deferred} {Post:Ending→World→Prop} (h4:tmps.getD 4 undef=.pointer (some ⟨E,0,none⟩))
 (hB:E<B) (hw:w.heap.size≤B) (hD:Marks_w B D W) (hE:W.heap[E]?=some (.cells #[.int .i64 e] 28 (0,0))) (hb:Below w.heap.size w W) (hP:∀ W',Below w.heap.size w W'→Post (.returned (.int .i64 e)) W') :
 LeavesInM Fence.wide 0 Tryz.prog Tryz.f137 tmps Post D .returning W:=by
 refine leaves_marks_w (B:=B) (by simp) (fun W=>W.heap[E]?=some (.cells #[.int .i64 e] 28 (0,0))∧Below w.heap.size w W) ?_ ?_ D W hD ⟨hE,hb⟩
 ·exact Z27
 ·rintro W1 ⟨a1,a2⟩
  have g0:=(SL.cells_of a1).1 0
  simp at g0
  have h4':tmps[4]?.getD undef=.pointer (some ⟨E,0,none⟩):=by simpa using h4
  have hp:=hP W1 a2
  clear a1 a2 hP hE hb hD
  refine ⟨_,?_,hp⟩
  simp [results,Tryz.results137,asAddr,go_sem,h4',g0]
theorem any_own (l:List Itm) (y:Itm):((standL l).any fun z=>y.kd == 1 && z.sh == y.id)=decide (y.kd=1∧0<ownN l y.id):=by
 rw [Bool.eq_iff_iff,decide_eq_true_eq,List.any_eq_true]
 unfold ownN
 constructor
 ·rintro ⟨z,hz,h⟩
  simp at h
  exact ⟨h.1,List.length_pos_iff.2 (List.ne_nil_of_mem (List.mem_filter.2 ⟨hz,by simpa using h.2⟩))⟩
 ·rintro ⟨h1,h2⟩
  obtain ⟨z,hz⟩:=List.exists_mem_of_length_pos h2
  rw [List.mem_filter] at hz
  exact ⟨z,hz.1,by simpa [h1] using hz.2⟩
theorem any_snoc {pre:List Itm} {f:Itm→Bool} {x:Itm} (h:pre.any f=false) (hx:f x=false):(pre ++[x]).any f=false:=by rw [List.any_append,h];simp [hx]
theorem any_mid {l pre post:List Itm} {f:Itm→Bool} {x:Itm} (e:l=pre ++x::post) (hx:f x=true):l.any f=true:=by rw [e,List.any_append];simp [hx]
/-- What is known when the list is gone through. -/
theorem of_start {w w2:World} {x y:Itm} {a:Option Addr} {n cap:Nat} (hb2:Below ((w.alloc (Obj.cells #[.int .i64 x.id,.int .i64 x.kn,.int .u8 x.kd,.string x.wa,.int .i64 x.pit,.int .i64 x.ly,.int .i64 x.co,.bool x.ft,.int .i64 x.sh,.int .i64 x.fr,.int .i64 x.tw,.int .i64 x.lo,.int .i64 x.hi,.string x.st,.int .i64 x.li,.int .i64 x.vo] 24)).alloc (Obj.cells #[.int .i64 0] 28)).heap.size ((w.alloc (Obj.cells #[.int .i64 x.id,.int .i64 x.kn,.int .u8 x.kd,.string x.wa,.int .i64 x.pit,.int .i64 x.ly,.int .i64 x.co,.bool x.ft,.int .i64 x.sh,.int .i64 x.fr,.int .i64 x.tw,.int .i64 x.lo,.int .i64 x.hi,.string x.st,.int .i64 x.li,.int .i64 x.vo] 24)).alloc (Obj.cells #[.int .i64 0] 28)) w2) :
 OfI w (w.heap.size +1) w2.heap.size (w.heap.size +1) (w2.heap.size +1) 0 y 0 (.slice a n cap) ((w2.alloc (Obj.cells y.cs.toArray 24)).alloc (Obj.cells #[.slice a n cap] 22)):=by
 have hB:Below w.heap.size w w2:=((one_alloc w _).ch2 (one_alloc _ _)).ch2 hb2
 have hE:=World.alloc_heap_new (w.alloc (Obj.cells #[.int .i64 x.id,.int .i64 x.kn,.int .u8 x.kd,.string x.wa,.int .i64 x.pit,.int .i64 x.ly,.int .i64 x.co,.bool x.ft,.int .i64 x.sh,.int .i64 x.fr,.int .i64 x.tw,.int .i64 x.lo,.int .i64 x.hi,.string x.st,.int .i64 x.li,.int .i64 x.vo] 24)) (Obj.cells #[.int .i64 0] 28)
 rw [World.size_alloc] at hE
 have hE2:=(hb2.block (w.heap.size +1) (by simp)).trans hE
 refine ⟨alKeep (alKeep hE2),alKeep (World.alloc_heap_new w2 _),fun h=>absurd rfl h,?_,(hB.ch2 (one_alloc _ _)).ch2 (one_alloc _ _)⟩
 have:=World.alloc_heap_new (w2.alloc (Obj.cells y.cs.toArray 24)) (Obj.cells #[.slice a n cap] 22)
 rw [World.size_alloc] at this
 exact this
theorem of_err {w w2:World} {cs:Array Value} (hb2:Below ((w.alloc (Obj.cells cs 24)).alloc (Obj.cells #[.int .i64 0] 28)).heap.size ((w.alloc (Obj.cells cs 24)).alloc (Obj.cells #[.int .i64 0] 28)) w2) :
 w2.heap[w.heap.size +1]?=some (.cells #[.int .i64 0] 28 (0,0))∧Below w.heap.size w w2:=by
 have hE:=World.alloc_heap_new (w.alloc (Obj.cells cs 24)) (Obj.cells #[.int .i64 0] 28)
 rw [World.size_alloc] at hE
 exact ⟨(hb2.block (w.heap.size +1) (by simp)).trans hE,((one_alloc w _).ch2 (one_alloc _ _)).ch2 hb2⟩
theorem sof7 (x:Itm) (h7:x.kd=7) (a:Option Addr) (n cap:Nat) (l:List Itm) (w:World) (h:ItmsAt w a n cap l) (hl:l.length≤1000) :
 Calls Tryz.prog 137 #[.slice a n cap,x.v] w (EPost w (ofE l x)):=by
 obtain rfl:=h.len
 obtain ⟨id,kn,kd,wa,pit,ly,co,ft,sh,fr,tw,lo,hi,st,li,vo⟩:=x
 simp only at h7
 subst h7
 have hNm:=fun w1 (h:ItmsAt w1 a l.length cap l)=>snamed_any a l.length cap l vo w1 h hl
 unfold FindPost at hNm
 have hE:ofE l ⟨id,kn,7,wa,pit,ly,co,ft,sh,fr,tw,lo,hi,st,li,vo⟩=match findI l vo with
  | none=>5
  | some y=>if ((standL l).any fun z=>y.kd == 1 && z.sh == y.id)=true then 8 else 0:=by
  unfold ofE
  rw [if_pos rfl]
  simp only
  cases findI l vo with
  | none=>rfl
  | some y=>simp only [any_own,decide_eq_true_eq]
 have HP:=Lib.hid (show ∀ v w',Below w.heap.size w w'→ofE l ⟨id,kn,7,wa,pit,ly,co,ft,sh,fr,tw,lo,hi,st,li,vo⟩=v→EPost w (ofE l ⟨id,kn,7,wa,pit,ly,co,ft,sh,fr,tw,lo,hi,st,li,vo⟩) (.returned (.int .i64 v)) w' from fun v w' h1 h2=>⟨by rw [h2],h1⟩)
 generalize EPost w (ofE l ⟨id,kn,7,wa,pit,ly,co,ft,sh,fr,tw,lo,hi,st,li,vo⟩)=Post at *
 rw [hE] at HP
 clear hE
 generalize findI l vo=o at *
 have HS:=Lib.hid (fun BL=>sstands1 a l.length cap l BL hl)
 generalize hL:standL l=L at *
 clear hL
 cases o with
 | none =>
   simp only [Option.getD,Option.isSome,Itm.zero] at hNm HP
   simp only [Itm.v,Itm.cs]
   simp only [Itm.v,Itm.cs] at hNm
   exact Z3
 | some y =>
   simp only [Option.getD,Option.isSome] at hNm HP
   simp only [Itm.v,Itm.cs]
   simp only [Itm.v,Itm.cs] at hNm
   refine (callsIn_wide (n:=0)).1 (callsIn_of_wp_marks Tryz.func137 rfl trivial ?_)
   simp only [Tryz.ntmps137,List.size_toArray,List.length_cons,List.length_nil,Nat.reduceAdd,Nat.reduceSub,Array.replicate_succ,Array.replicate_zero,List.push_toArray,List.append_toArray,List.nil_append,List.cons_append]
   refine wpIn_wide.2 ?_
   go_wp2_with (first
    | (go_at_call 166;(with_reducible refine (hNm _ (h.below Z5)).mono ?_);rintro e w2 ⟨rfl,hb2⟩;obtain ⟨hc2,hf2⟩:=bcell hb2;have hzE:=lt_size hb2 (b:=w.heap.size +1) Z9;have hzX:=lt_size hb2 (b:=w.heap.size) Z9)
    | (go_at_call 109;refine (sstands _ _ _ _).mono ?_;rintro e w1 ⟨rfl,rfl⟩))
   have hO:=of_start (x:=⟨id,kn,7,wa,pit,ly,co,ft,sh,fr,tw,lo,hi,st,li,vo⟩) (y:=y) (a:=a) (n:=l.length) (cap:=cap) hb2
   simp only [Itm.cs] at hO
   have hw2:w.heap.size +1<w2.heap.size:=hzE
   have hbw:Below w.heap.size w w2:=((one_alloc w _).ch2 (one_alloc _ _)).ch2 hb2
   clear hc2 hf2 hb2 hzE hzX hNm
   generalize hW0:((w2.alloc (Obj.cells #[.int .i64 y.id,.int .i64 y.kn,.int .u8 y.kd,.string y.wa,.int .i64 y.pit,.int .i64 y.ly,.int .i64 y.co,.bool y.ft,.int .i64 y.sh,.int .i64 y.fr,.int .i64 y.tw,.int .i64 y.lo,.int .i64 y.hi,.string y.st,.int .i64 y.li,.int .i64 y.vo] 24)).alloc (Obj.cells #[.slice a l.length cap] 22))=W0 at *
   have hz0:W0.heap.size=w2.heap.size +1 +1:=by rw [← hW0];simp
   clear hW0
   generalize w2.heap.size=M at *
   have hC:∀ e W,OfI w (w.heap.size +1) M (w.heap.size +1) (M +1) e y 0 (.slice a l.length cap) W→W.cell? ⟨M +1,0,none⟩=some (.slice a l.length cap)∧ItmsAt W a l.length cap l:=fun e W hN=>⟨by have:=(SL.cells_of hN.cB).1 0;simpa using this,h.below hN.below⟩
   have gro:∀ e W W' row,OfI w (w.heap.size +1) M (w.heap.size +1) (M +1) e y 0 (.slice a l.length cap) W→W.grownBy W' row→(∀ r,row=some r→W0.heap.size≤r∧∃ o:Obj,W.heap[r]?=some o∧o.isCells=false)→OfI w (w.heap.size +1) M (w.heap.size +1) (M +1) e y 0 (.slice a l.length cap) W':=fun e W W' row hN hg hr =>
    hN.grown (KeepC_w.of_grown hg fun r e=>(hr r e).2) (hN.below.grown hg hN.below.size fun r e=>by have:=(hr r e).1;omega)
   refine range_iter' (gf:=172) (lb:=#[.pointer (some ⟨M +1,0,none⟩)]) Z2a (enters_of Tryz.func172 Zk rfl) (HS.out (M +1))
    (fun pre W=>OfI w (w.heap.size +1) M (w.heap.size +1) (M +1) 0 y 0 (.slice a l.length cap) W∧pre.any (fun z=>y.kd == 1 && z.sh == y.id)=false)
    (fun c s W=>c=Code.ret∧∃ pre x,s=pre ++[x]∧(y.kd == 1 && x.sh == y.id)=true∧OfI w (w.heap.size +1) M (w.heap.size +1) (M +1) 8 y 0 (.slice a l.length cap) W)
    ?_ ?_ ?_ ⟨hO,rfl⟩ [7,27] (fun x us W=>∃ b,us 7=.pointer (some ⟨b,0,none⟩)∧W.heap[b]?=some (.cells x.cs.toArray 24 (0,0))∧W0.heap.size≤b) ?_ ?_ ?_ ?_ ?_
   ·rintro pre W1 W2 row ⟨h1,h2⟩ hg hr
    exact ⟨gro _ _ _ _ h1 hg hr,h2⟩
   ·rintro c s W1 W2 row ⟨h0,pre,x,h1,h2,h3⟩ hg hr
    exact ⟨h0,pre,x,h1,h2,gro _ _ _ _ h3 hg hr⟩
   ·rintro s W ⟨h1,h2⟩
    exact hC _ _ h1
   ·exact Zl
   ·rintro lid pre x post W1 K he ⟨hN,hp⟩ hK
    have hw:W0.heap.size≤W1.heap.size:=by
     exact Z7d
    exact Zb
   ·rintro lid pre x post us W1 hl' he ⟨hN,hp⟩ ⟨b,h6,hb,hbz⟩
    simp only [frame'_w,SL.put',List.toList_toArray,List.contains_cons,List.contains_nil,Nat.reduceAdd,Nat.reduceBEq,Bool.or_false,Bool.or_true,Bool.false_or,Bool.true_or,if_true,Bool.false_eq_true,if_false,h6]
    have Hp:=Lib.hid hp
    have HN:=Lib.hid hN
    simp only [Itm.cs] at hb
    obtain ⟨⟨d0,d1,d2,d3,d4,d5,d6,d7,d8,d9,d10,d11,d12,d13,d14,d15⟩,hfz,hbl⟩:=ItmCells.of_heap hb
    have k1:=hN.cE
    have k2:=hN.cY
    have z1:=(Array.getElem?_eq_some_iff.1 k1).1
    have z2:=(Array.getElem?_eq_some_iff.1 k2).1
    simp only [Itm.cs] at k2
    obtain ⟨⟨y0,y1,y2,y3,y4,y5,y6,y7,y8,y9,y10,y11,y12,y13,y14,y15⟩,yfz,_⟩:=ItmCells.of_heap (x:=y) k2
    have g0:=(SL.cells_of k1).1 0
    have gz:=(SL.cells_of k1).2
    simp at g0
    have HZ:=Lib.hid hz0
    have HM:=Lib.hid hw2
    clear hp hN hb k1 k2 gro hC hO hz0 he HP HS hl' hbz hfz h hl hbw hw2
    refine wpIn_block ?_
    by_cases h1:y.kd=1
    ·by_cases hx:x.sh=y.id
     ·have e1:(y.kd == 1)=true:=by simpa using h1
      have e2:(x.sh == y.id)=true:=by simpa using hx
      have Hx:=Lib.hid (show (y.kd == 1 && x.sh == y.id)=true by simp [h1,hx])
      clear h1 hx
      gi_wp2_with fail
      have hz:=HZ.out
      have hm:=HM.out
      exact ⟨keeps_of_chg_w (E:=[w.heap.size +1]) (.setCell _ (by simp) _) Zj,rfl,pre,x,rfl,Hx.out,HN.out.err (by omega) (by omega) (by omega) _⟩
     ·have e1:(y.kd == 1)=true:=by simpa using h1
      have e2:(x.sh == y.id)=false:=by simpa using hx
      have Hx:=Lib.hid (show (y.kd == 1 && x.sh == y.id)=false by simp [hx])
      clear h1 hx
      exact Z3j
    ·have e1:(y.kd == 1)=false:=by simpa using h1
     have Hx:=Lib.hid (show (y.kd == 1 && x.sh == y.id)=false by simp [h1])
     clear h1
     exact Z3j
   ·rintro D W2 hD ⟨hN,hp⟩ hdef
    have Hp:=Lib.hid hp
    have HN:=Lib.hid hN
    have k1:=hN.cE
    have z1:=(Array.getElem?_eq_some_iff.1 k1).1
    have g0:=(SL.cells_of k1).1 0
    have gz:=(SL.cells_of k1).2
    simp at g0
    have HZ:=Lib.hid hz0
    have HM:=Lib.hid hw2
    clear hp hN k1 gro hC hz0 hw2 hO h hl HS
    go_wp2_with fail
    have hz:=HZ.out
    have hm:=HM.out
    have q1:=HN.out.err (by omega) (by omega) (by omega) 0
    exact of_leaves (B:=W0.heap.size) rfl (by omega) (by omega) ⟨by simp;exact ⟨hD,(Below.heap_setCell _ _ _ _ Z6y).trans hdef⟩,by simp⟩ q1.cE q1.below (fun W' hb=>HP.out 0 W' hb (by rw [Hp.out];rfl))
   ·rintro D c pre x post W2 hD he ⟨rfl,pre',x',he',hx,hN⟩ hdef
    have HN:=Lib.hid hN
    have Hf:=Lib.hid (any_mid (f:=fun z=>y.kd == 1 && z.sh == y.id) he (by
     have e:=(List.append_inj' he' rfl).2
     simp only [List.cons.injEq,and_true] at e
     rw [e];exact hx))
    have HZ:=Lib.hid hz0
    have HM:=Lib.hid hw2
    clear he he' hx hN gro hC hz0 hw2 hO h hl HS
    go_wp2_with fail
    have hz:=HZ.out
    have hm:=HM.out
    exact of_leaves (B:=W0.heap.size) rfl (by omega) (by omega) ⟨by simp;exact ⟨hD,hdef⟩,by simp⟩ HN.out.cE HN.out.below (fun W' hb=>HP.out 8 W' hb (by rw [Hf.out];rfl))
end Go.Proofs.YtelkcohhagblaaaGreat

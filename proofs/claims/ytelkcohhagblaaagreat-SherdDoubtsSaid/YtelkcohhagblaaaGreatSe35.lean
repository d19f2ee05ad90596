/- What the functions answer, for every input. -/
import Derived.Test.YtelkcohhagblaaaGreatSe34
import Derived.Test.YtelkcohhagblaaaGreatSe11
import Derived.Test.YtelkcohhagblaaaGreatSe29
set_option linter.unusedSimpArgs false
set_option linter.unusedVariables false
set_option linter.unnecessarySimpa false
namespace Go.Proofs.YtelkcohhagblaaaGreat
open Go.RowKit Go.Shelf
set_option maxHeartbeats 8000000
set_option maxRecDepth 100000
attribute [local go_sem] Oper.semAt_some

/-- What colour holds while it goes through the measurements. -/
structure ColO (w:World) (a:Option Addr) (n cap:Nat) (id:Int) (o:Spn) (W:World):Prop where
 cR:W.heap[w.heap.size]?=some (.cells #[.int .i64 0,.int .i64 0,.int .i64 0,.int .i64 0] 43 (0,0))
 cO:W.heap[w.heap.size +1]?=some (.cells #[.int .i64 o.lo,.int .i64 o.hi,.int .i64 o.lob,.int .i64 o.hib] 43 (0,0))
 cS:W.heap[w.heap.size +1 +1]?=some (.cells #[.slice a n cap] 116 (0,0))
 cK:W.heap[w.heap.size +1 +1 +1]?=some (.cells #[.int .u8 4] 5 (0,0))
 cI:W.heap[w.heap.size +1 +1 +1 +1]?=some (.cells #[.int .i64 id] 3 (0,0))
 below:Below w.heap.size w W
theorem ColO.grown {w:World} {a:Option Addr} {n cap:Nat} {id:Int} {o:Spn} {W W':World} (h:ColO w a n cap id o W) (hk:KeepC_w W W') (hb:Below w.heap.size w W'):ColO w a n cap id o W' :=
 ⟨hk.cells _ _ _ _ h.cR,hk.cells _ _ _ _ h.cO,hk.cells _ _ _ _ h.cS,hk.cells _ _ _ _ h.cK,hk.cells _ _ _ _ h.cI,hb⟩
theorem ColO.set {w:World} {a:Option Addr} {n cap:Nat} {id:Int} {o o':Spn} {W W':World} (h:ColO w a n cap id o W) (hc:SL.Chg [w.heap.size +1] W W') (hO:W'.heap[w.heap.size +1]?=some (.cells #[.int .i64 o'.lo,.int .i64 o'.hi,.int .i64 o'.lob,.int .i64 o'.hib] 43 (0,0))):ColO w a n cap id o' W' :=
 ⟨(hc.block _ (Array.getElem?_eq_some_iff.1 h.cR).1 (by simp)).trans h.cR,hO,(hc.block _ (Array.getElem?_eq_some_iff.1 h.cS).1 (by simp)).trans h.cS,(hc.block _ (Array.getElem?_eq_some_iff.1 h.cK).1 Zj).trans h.cK,(hc.block _ (Array.getElem?_eq_some_iff.1 h.cI).1 Zj).trans h.cI,h.below.trans (hc.belowE_w h.below.size (by simp))⟩
theorem cell4s {W:World} {N:Nat} {a b c d:Value} {t:TypeId} (hh:W.heap[N]?=some (.cells #[a,b,c,d] t (0,0))):W.cell? ⟨N,0,none⟩=some a∧W.cell? ⟨N,1,none⟩=some b∧W.cell? ⟨N,2,none⟩=some c∧W.cell? ⟨N,3,none⟩=some d∧(∀ i,W.frozen? ⟨N,i,none⟩=false)∧N<W.heap.size:=by
 have k:=(SL.cells_of hh).1
 exact ⟨k 0,k 1,k 2,k 3,(SL.cells_of hh).2,(Array.getElem?_eq_some_iff.1 hh).1⟩
theorem col_leaves {w W:World} {R:Nat} {o:Spn} {B:Nat} {tmps:Array Value} {D:List Deferred} {Post:Ending→World→Prop} (h4:tmps.getD 4 undef=.pointer (some ⟨R,0,none⟩))
 (hB:R<B) (hw:w.heap.size≤B) (hD:Marks_w B D W) (hR:W.heap[R]?=some (.cells #[.int .i64 o.lo,.int .i64 o.hi,.int .i64 o.lob,.int .i64 o.hib] 43 (0,0))) (hb:Below w.heap.size w W) (hP:∀ W',Below w.heap.size w W'→Post (.returned (.agg #[.int .i64 o.lo,.int .i64 o.hi,.int .i64 o.lob,.int .i64 o.hib])) W') :
 LeavesInM Fence.wide 0 Tryz.prog Tryz.f89 tmps Post D .returning W:=by
 refine leaves_marks_w (B:=B) (by simp) (fun W=>W.heap[R]?=some (.cells #[.int .i64 o.lo,.int .i64 o.hi,.int .i64 o.lob,.int .i64 o.hib] 43 (0,0))∧Below w.heap.size w W) ?_ ?_ D W hD ⟨hR,hb⟩
 ·exact Z27
 ·rintro W1 ⟨a1,a2⟩
  obtain ⟨g0,g1,g2,g3,_,_⟩:=cell4s a1
  have h4':tmps[4]?.getD undef=.pointer (some ⟨R,0,none⟩):=by simpa using h4
  have hp:=hP W1 a2
  clear a1 a2 hP hR hb hD
  refine ⟨_,?_,hp⟩
  simp [results,Tryz.results89,asAddr,go_sem,h4',g0,g1,g2,g3]
theorem col_in {w:World} {a:Option Addr} {n cap:Nat} {id:Int} {o o':Spn} {pre:List Itm} {x:Itm} {W:World} (h1:(pre ++[x]).foldl colS ⟨0,1000,0,0⟩=colS o x) (h2:colS o x=o') (h:ColO w a n cap id o' W):ColO w a n cap id ((pre ++[x]).foldl colS ⟨0,1000,0,0⟩) W:=by
 rw [h1,h2];exact h
theorem col_snoc (pre:List Itm) (x:Itm) (o:Spn):(pre ++[x]).foldl colS o=colS (pre.foldl colS o) x:=by rw [List.foldl_append];rfl
theorem scolour_any (a:Option Addr) (n cap:Nat) (s:List Itm) (id:Int) (w:World) (h:ItmsAt w a n cap s) (hl:s.length≤10000) :
 Calls Tryz.prog 89 #[.slice a n cap,.int .i64 id] w fun e w'=>e=.returned (colL (keptL s 4 id)).v∧Below w.heap.size w w':=by
 obtain rfl:=h.len
 have HP:=Lib.hid (show ∀ w' (o:Spn),(keptL s 4 id).foldl colS ⟨0,1000,0,0⟩=o→Below w.heap.size w w'→(fun e w'=>e=Ending.returned (colL (keptL s 4 id)).v∧Below w.heap.size w w':Ending→World→Prop) (.returned o.v) w' from fun w' o h1 h2=>⟨by subst h1;rfl,h2⟩)
 generalize (fun e w'=>e=Ending.returned (colL (keptL s 4 id)).v∧Below w.heap.size w w':Ending→World→Prop)=Post at *
 simp only [Spn.v,Spn.cs] at HP
 have HS:=Lib.hid (fun BS BK BI=>skept1 a s.length cap s 4 id BS BK BI hl)
 refine (callsIn_wide (n:=0)).1 (callsIn_of_wp_marks Tryz.func89 rfl trivial ?_)
 simp only [Tryz.ntmps89,List.size_toArray,List.length_cons,List.length_nil,Nat.reduceAdd,Nat.reduceSub,Array.replicate_succ,Array.replicate_zero,List.push_toArray,List.append_toArray,List.nil_append,List.cons_append]
 refine wpIn_wide.2 ?_
 go_wp2_with (go_at_call 99;refine (skept _ _ _ _ _ _).mono ?_;rintro e w1 ⟨rfl,rfl⟩)
 generalize hL:keptL s 4 id=L at *
 clear hL
 have hB0:ColO w a s.length cap id ⟨0,1000,0,0⟩ (((((w.alloc (Obj.cells #[.int .i64 0,.int .i64 0,.int .i64 0,.int .i64 0] 43)).alloc (Obj.cells #[.int .i64 0,.int .i64 1000,.int .i64 0,.int .i64 0] 43)).alloc (Obj.cells #[.slice a s.length cap] 116)).alloc (Obj.cells #[.int .u8 4] 5)).alloc (Obj.cells #[.int .i64 id] 3)):=by
  have e1:=World.alloc_heap_new (w.alloc (Obj.cells #[.int .i64 0,.int .i64 0,.int .i64 0,.int .i64 0] 43)) (Obj.cells #[.int .i64 0,.int .i64 1000,.int .i64 0,.int .i64 0] 43)
  have e2:=World.alloc_heap_new ((w.alloc (Obj.cells #[.int .i64 0,.int .i64 0,.int .i64 0,.int .i64 0] 43)).alloc (Obj.cells #[.int .i64 0,.int .i64 1000,.int .i64 0,.int .i64 0] 43)) (Obj.cells #[.slice a s.length cap] 116)
  have e3:=World.alloc_heap_new (((w.alloc (Obj.cells #[.int .i64 0,.int .i64 0,.int .i64 0,.int .i64 0] 43)).alloc (Obj.cells #[.int .i64 0,.int .i64 1000,.int .i64 0,.int .i64 0] 43)).alloc (Obj.cells #[.slice a s.length cap] 116)) (Obj.cells #[.int .u8 4] 5)
  have e4:=World.alloc_heap_new ((((w.alloc (Obj.cells #[.int .i64 0,.int .i64 0,.int .i64 0,.int .i64 0] 43)).alloc (Obj.cells #[.int .i64 0,.int .i64 1000,.int .i64 0,.int .i64 0] 43)).alloc (Obj.cells #[.slice a s.length cap] 116)).alloc (Obj.cells #[.int .u8 4] 5)) (Obj.cells #[.int .i64 id] 3)
  rw [World.size_alloc] at e1
  rw [World.size_alloc,World.size_alloc] at e2
  rw [World.size_alloc,World.size_alloc,World.size_alloc] at e3
  rw [World.size_alloc,World.size_alloc,World.size_alloc,World.size_alloc] at e4
  exact ⟨alKeep (alKeep (alKeep (alKeep (World.alloc_heap_new w _)))),alKeep (alKeep (alKeep e1)),alKeep (alKeep e2),alKeep e3,e4,((((one_alloc w _).ch2 (one_alloc _ _)).ch2 (one_alloc _ _)).ch2 (one_alloc _ _)).ch2 (one_alloc _ _)⟩
 generalize hW0:(((((w.alloc (Obj.cells #[.int .i64 0,.int .i64 0,.int .i64 0,.int .i64 0] 43)).alloc (Obj.cells #[.int .i64 0,.int .i64 1000,.int .i64 0,.int .i64 0] 43)).alloc (Obj.cells #[.slice a s.length cap] 116)).alloc (Obj.cells #[.int .u8 4] 5)).alloc (Obj.cells #[.int .i64 id] 3))=W0 at *
 have hz0:W0.heap.size=w.heap.size +1 +1 +1 +1 +1:=by rw [← hW0];simp
 clear hW0
 have hC:∀ o W,ColO w a s.length cap id o W→W.cell? ⟨w.heap.size +1 +1,0,none⟩=some (.slice a s.length cap)∧W.cell? ⟨w.heap.size +1 +1 +1,0,none⟩=some (.int .u8 4)∧W.cell? ⟨w.heap.size +1 +1 +1 +1,0,none⟩=some (.int .i64 id)∧ItmsAt W a s.length cap s:=fun o W hN =>
  ⟨by have:=(SL.cells_of hN.cS).1 0;simpa using this,by have:=(SL.cells_of hN.cK).1 0;simpa using this,by have:=(SL.cells_of hN.cI).1 0;simpa using this,h.below hN.below⟩
 have gro:∀ o W W' row,ColO w a s.length cap id o W→W.grownBy W' row→(∀ r,row=some r→W0.heap.size≤r∧∃ o:Obj,W.heap[r]?=some o∧o.isCells=false)→ColO w a s.length cap id o W':=fun o W W' row hN hg hr =>
  hN.grown (KeepC_w.of_grown hg fun r e=>(hr r e).2) (hN.below.grown hg hN.below.size fun r e=>by have:=(hr r e).1;omega)
 refine range_iter' (gf:=165) (lb:=#[.pointer (some ⟨w.heap.size +1 +1,0,none⟩),.pointer (some ⟨w.heap.size +1 +1 +1,0,none⟩),.pointer (some ⟨w.heap.size +1 +1 +1 +1,0,none⟩)]) Z2a (enters_of Tryz.func165 Zk rfl) (HS.out _ _ _)
  (fun pre W=>ColO w a s.length cap id (pre.foldl colS ⟨0,1000,0,0⟩) W)
  (fun _ _ _=>False)
  ?_ ?_ ?_ hB0 [6,11] (fun x us W=>∃ b,us 6=.pointer (some ⟨b,0,none⟩)∧W.heap[b]?=some (.cells x.cs.toArray 24 (0,0))∧W0.heap.size≤b) ?_ ?_ ?_ ?_ ?_
 ·exact Z52
 ·exact Z29
 ·rintro s W h1
  exact hC _ _ h1
 ·exact Zl
 ·exact Z6p
 ·rintro lid pre x post us W1 hl' he hN ⟨b,h6,hb,hbz⟩
  simp only [frame'_w,SL.put',List.toList_toArray,List.contains_cons,List.contains_nil,Nat.reduceAdd,Nat.reduceBEq,Bool.or_false,Bool.or_true,Bool.false_or,Bool.true_or,if_true,Bool.false_eq_true,if_false,h6]
  have Hsn:=Lib.hid (col_snoc pre x ⟨0,1000,0,0⟩)
  generalize pre.foldl colS ⟨0,1000,0,0⟩=o at *
  obtain ⟨lo,hi,lob,hib⟩:=o
  have HN:=Lib.hid hN
  simp only [Itm.cs] at hb
  have hO:=hN.cO
  simp only at hO
  have d11:=(ItmCells.of_heap hb).1.c11
  have d12:=(ItmCells.of_heap hb).1.c12
  have d0:=(ItmCells.of_heap hb).1.c0
  obtain ⟨q0,q1,q2,q3,qf,ql1⟩:=cell4s hO
  have hO1:=hO
  have hBw1:=hN.below
  have zb1:=(Array.getElem?_eq_some_iff.1 hb).1
  have zW:W0.heap.size≤W1.heap.size:=by
   exact Z2g
  have hnb:b ∉ [w.heap.size +1]:=by simp;omega
  have HZ:=Lib.hid hz0
  have hw1:w.heap.size +1<W0.heap.size:=by omega
  clear hO hN gro hC hB0 hz0 he HP HS hl' h hl
  refine wpIn_block ?_
  by_cases hc1:lo<x.lo
  ·have e1:decide (lo<x.lo)=true:=by simpa using hc1
   gi_wp2_with fail
   apply SLG.rule (ro:=some lid) ?hm [w.heap.size +1] [17,18,19,20,21,22] [SLF.pq 17 [] _,SLF.pq 18 [0] _,SLF.pq 19 [] _,SLF.pq 20 [2] _,SLF.pq 21 [] _,SL.boxAt 5 [1,4,8] [8] (w.heap.size +1) 43 #[.int .i64 x.lo,.int .i64 hi,.int .i64 lob,.int .i64 hib],SLF.pq 22 [] _,SL.boxAt 5 [3,5,6] [5] (w.heap.size +1) 43 #[.int .i64 x.lo,.int .i64 hi,.int .i64 x.id,.int .i64 hib],SL.boxAt 5 [] [] (w.heap.size +1) 43 #[.int .i64 lo,.int .i64 hi,.int .i64 lob,.int .i64 hib]] [7] ?hck ?hkp (fun i=>if i=8 then [w.heap.size +1] else []) ?hin ?hdj ?hfr ?ob ?en1
   case hm=>kernel_rfl
   case hin=>exact SL.one_held rfl rfl ⟨rfl,hO1,rfl⟩ ql1
   case hdj=>exact SL.one_apart
   case hfr=>intro us;simp only [SL.frame,SL.put'];simp;exact rfl
   case ob =>
    refine ⟨?_,?_,?_,?_,?_,?_,?_,?_,trivial⟩
    all_goals first
     | (exact Z7k)
     | skip
    ·refine SLG.ob_no rfl rfl rfl fun us w' Fe hG hu hd Kx hK=>?_
     try dsimp only
     simp [SL.O] at hu
     have hB5:Below w.heap.size w w':=hBw1.trans (hG.belowF hBw1.size (by simp))
     obtain ⟨hc5,hf5⟩:=bcell hB5
     have hs5:=hB5.size
     obtain ⟨hc6,hf6⟩:=hG.cellsF;have p1:=(hc6 b (0 +11) zb1 hnb).trans d11;have p2:=(hc6 b (0 +12) zb1 hnb).trans d12;have p0:=(hc6 b 0 zb1 hnb).trans d0
     refine SLF.wpo_do (SLF.wanted_free rfl) ?hd ?_
     case hd=>intro c h;cases h
     obtain ⟨⟨e1,_⟩,⟨e4,_⟩,e5,hbl,e8⟩:=hu
     obtain ⟨y0,y1,y2,y3,yf,yl⟩:=cell4s hbl
     clear hc5 hf5 hc6 hf6 p0 p1 p2
     go_step
     refine hK _ _ (.setCell _ Z3e _) ⟨e5,by simpa using SL.heap_set hbl (.int .i64 x.lo) (i:=0),rfl⟩ ?_
     exact Zm
    ·refine SLG.ob_no rfl rfl rfl fun us w' Fe hG hu hd Kx hK=>?_
     try dsimp only
     simp [SL.O] at hu
     have hB5:Below w.heap.size w w':=hBw1.trans (hG.belowF hBw1.size (by simp))
     obtain ⟨hc5,hf5⟩:=bcell hB5
     have hs5:=hB5.size
     obtain ⟨hc6,hf6⟩:=hG.cellsF;have p1:=(hc6 b (0 +11) zb1 hnb).trans d11;have p2:=(hc6 b (0 +12) zb1 hnb).trans d12;have p0:=(hc6 b 0 zb1 hnb).trans d0
     refine SLF.wpo_do (SLF.wanted_free rfl) ?hd ?_
     case hd=>intro c h;cases h
     obtain ⟨⟨e1,_⟩,⟨e5,hbl,e8⟩,e4,_⟩:=hu
     obtain ⟨y0,y1,y2,y3,yf,yl⟩:=cell4s hbl
     clear hc5 hf5 hc6 hf6 p0 p1 p2
     go_step
     refine hK _ _ (.setCell _ Z3e _) ⟨e5,by simpa using SL.heap_set hbl (.int .i64 x.id) (i:=2),rfl⟩ ?_
     exact Zm
   case hck=>kernel_rfl
   case hkp=>kernel_rfl
   intro us7 w7 Fs7 hG hu hbd hd
   simp [SL.Used,SL.boxAt] at hu
   obtain ⟨e57,hO7,_⟩:=hu
   have hG7:SL.Chg [w.heap.size +1] W1 w7:=hG.undrew
   have hN7:ColO w a s.length cap id ⟨x.lo,hi,x.id,hib⟩ w7:=HN.out.set hG7 hO7
   have hb7:=(hG7.block b zb1 hnb).trans hb
   have zb7:=(Array.getElem?_eq_some_iff.1 hb7).1
   have hBw7:=hN7.below
   clear d11 d12 d0 q0 q1 q2 q3 qf
   have d11:=(ItmCells.of_heap hb7).1.c11
   have d12:=(ItmCells.of_heap hb7).1.c12
   have d0:=(ItmCells.of_heap hb7).1.c0
   obtain ⟨q0,q1,q2,q3,qf,ql7⟩:=cell4s hO7
   have HN7:=Lib.hid hN7
   clear hG hbd hd hN7 hb7 e57
   by_cases hc2:x.hi<hi
   ·have e2:decide (x.hi<hi)=true:=by simpa using hc2
    have Hco:Hid (colS ⟨lo,hi,lob,hib⟩ x=⟨x.lo,x.hi,x.id,x.id⟩):=Lib.hid (by unfold colS;rw [if_pos hc1,if_pos hc2,if_pos hc1,if_pos hc2])
    clear hc1 hc2
    gi_wp2_with fail
    apply SLG.rule (ro:=some lid) ?hm [w.heap.size +1] [28,29,30,31,32,33] [SLF.pq 28 [] _,SLF.pq 29 [0] _,SLF.pq 30 [] _,SLF.pq 31 [2] _,SLF.pq 32 [] _,SL.boxAt 5 [1,4,8] [8] (w.heap.size +1) 43 #[.int .i64 x.lo,.int .i64 x.hi,.int .i64 x.id,.int .i64 hib],SLF.pq 33 [] _,SL.boxAt 5 [3,5,6] [5] (w.heap.size +1) 43 #[.int .i64 x.lo,.int .i64 x.hi,.int .i64 x.id,.int .i64 x.id],SL.boxAt 5 [] [] (w.heap.size +1) 43 #[.int .i64 x.lo,.int .i64 hi,.int .i64 x.id,.int .i64 hib]] [7] ?hck ?hkp (fun i=>if i=8 then [w.heap.size +1] else []) ?hin ?hdj ?hfr ?ob ?en2
    case hm=>kernel_rfl
    case hin=>exact SL.one_held rfl rfl ⟨rfl,hO7,rfl⟩ ql7
    case hdj=>exact SL.one_apart
    case hfr=>intro us;simp only [SL.frame,SL.put'];simp;exact rfl
    case ob =>
     refine ⟨?_,?_,?_,?_,?_,?_,?_,?_,trivial⟩
     all_goals first
      | (intro us w' Fe hG hu hd hv Kx hK
         try dsimp only
         simp [SL.O] at hu hK
         have hB5:Below w.heap.size w w':=hBw7.trans (hG.belowF hBw7.size (by simp))
         obtain ⟨hc5,hf5⟩:=bcell hB5
         have hs5:=hB5.size
         obtain ⟨hc6,hf6⟩:=hG.cellsF;have p1:=(hc6 b (0 +11) zb7 hnb).trans d11;have p2:=(hc6 b (0 +12) zb7 hnb).trans d12;have p0:=(hc6 b 0 zb7 hnb).trans d0
         clear hv
         exact Z5z)
      | skip
     ·refine SLG.ob_no rfl rfl rfl fun us w' Fe hG hu hd Kx hK=>?_
      try dsimp only
      simp [SL.O] at hu
      have hB5:Below w.heap.size w w':=hBw7.trans (hG.belowF hBw7.size (by simp))
      obtain ⟨hc5,hf5⟩:=bcell hB5
      have hs5:=hB5.size
      obtain ⟨hc6,hf6⟩:=hG.cellsF;have p1:=(hc6 b (0 +11) zb7 hnb).trans d11;have p2:=(hc6 b (0 +12) zb7 hnb).trans d12;have p0:=(hc6 b 0 zb7 hnb).trans d0
      exact Z6m
     ·refine SLG.ob_no rfl rfl rfl fun us w' Fe hG hu hd Kx hK=>?_
      try dsimp only
      simp [SL.O] at hu
      have hB5:Below w.heap.size w w':=hBw7.trans (hG.belowF hBw7.size (by simp))
      obtain ⟨hc5,hf5⟩:=bcell hB5
      have hs5:=hB5.size
      obtain ⟨hc6,hf6⟩:=hG.cellsF;have p1:=(hc6 b (0 +11) zb7 hnb).trans d11;have p2:=(hc6 b (0 +12) zb7 hnb).trans d12;have p0:=(hc6 b 0 zb7 hnb).trans d0
      exact Z6l
    case hck=>kernel_rfl
    case hkp=>kernel_rfl
    intro us8 w8 Fs8 hG hu hbd hd
    simp [SL.Used,SL.boxAt] at hu
    obtain ⟨e58,hO8,_⟩:=hu
    have hG8:SL.Chg [w.heap.size +1] w7 w8:=hG.undrew
    have HN8:=Lib.hid (show ColO w a s.length cap id ⟨x.lo,x.hi,x.id,x.id⟩ w8 from HN7.out.set hG8 hO8)
    clear hG hbd hd hO8 e58 d11 d12 d0 q0 q1 q2 q3 qf
    gi_wp2_with fail
    exact ⟨keeps_of_chg_w (E:=[w.heap.size +1]) (hG7.trans hG8) Zj,col_in Hsn.out Hco.out HN8.out⟩
   ·have e2:decide (x.hi<hi)=false:=by simpa using hc2
    have Hco:Hid (colS ⟨lo,hi,lob,hib⟩ x=⟨x.lo,hi,x.id,hib⟩):=Lib.hid (by unfold colS;rw [if_pos hc1,if_neg hc2,if_pos hc1,if_neg hc2])
    clear hc1 hc2
    gi_wp2_with fail
    exact ⟨keeps_of_chg_w (E:=[w.heap.size +1]) hG7 Zj,col_in Hsn.out Hco.out HN7.out⟩
  ·have e1:decide (lo<x.lo)=false:=by simpa using hc1
   by_cases hc2:x.hi<hi
   ·have e2:decide (x.hi<hi)=true:=by simpa using hc2
    have Hco:Hid (colS ⟨lo,hi,lob,hib⟩ x=⟨lo,x.hi,lob,x.id⟩):=Lib.hid (by unfold colS;rw [if_neg hc1,if_pos hc2,if_neg hc1,if_pos hc2])
    clear hc1 hc2
    gi_wp2_with fail
    apply SLG.rule (ro:=some lid) ?hm [w.heap.size +1] [28,29,30,31,32,33] [SLF.pq 28 [] _,SLF.pq 29 [0] _,SLF.pq 30 [] _,SLF.pq 31 [2] _,SLF.pq 32 [] _,SL.boxAt 5 [1,4,8] [8] (w.heap.size +1) 43 #[.int .i64 lo,.int .i64 x.hi,.int .i64 lob,.int .i64 hib],SLF.pq 33 [] _,SL.boxAt 5 [3,5,6] [5] (w.heap.size +1) 43 #[.int .i64 lo,.int .i64 x.hi,.int .i64 lob,.int .i64 x.id],SL.boxAt 5 [] [] (w.heap.size +1) 43 #[.int .i64 lo,.int .i64 hi,.int .i64 lob,.int .i64 hib]] [7] ?hck ?hkp (fun i=>if i=8 then [w.heap.size +1] else []) ?hin ?hdj ?hfr ?ob ?en3
    case hm=>kernel_rfl
    case hin=>exact SL.one_held rfl rfl ⟨rfl,hO1,rfl⟩ ql1
    case hdj=>exact SL.one_apart
    case hfr=>intro us;simp only [SL.frame,SL.put'];simp;exact rfl
    case ob =>
     refine ⟨?_,?_,?_,?_,?_,?_,?_,?_,trivial⟩
     all_goals first
      | (exact Z7k)
      | skip
     ·refine SLG.ob_no rfl rfl rfl fun us w' Fe hG hu hd Kx hK=>?_
      try dsimp only
      simp [SL.O] at hu
      have hB5:Below w.heap.size w w':=hBw1.trans (hG.belowF hBw1.size (by simp))
      obtain ⟨hc5,hf5⟩:=bcell hB5
      have hs5:=hB5.size
      obtain ⟨hc6,hf6⟩:=hG.cellsF;have p1:=(hc6 b (0 +11) zb1 hnb).trans d11;have p2:=(hc6 b (0 +12) zb1 hnb).trans d12;have p0:=(hc6 b 0 zb1 hnb).trans d0
      exact Z6m
     ·refine SLG.ob_no rfl rfl rfl fun us w' Fe hG hu hd Kx hK=>?_
      try dsimp only
      simp [SL.O] at hu
      have hB5:Below w.heap.size w w':=hBw1.trans (hG.belowF hBw1.size (by simp))
      obtain ⟨hc5,hf5⟩:=bcell hB5
      have hs5:=hB5.size
      obtain ⟨hc6,hf6⟩:=hG.cellsF;have p1:=(hc6 b (0 +11) zb1 hnb).trans d11;have p2:=(hc6 b (0 +12) zb1 hnb).trans d12;have p0:=(hc6 b 0 zb1 hnb).trans d0
      exact Z6l
    case hck=>kernel_rfl
    case hkp=>kernel_rfl
    intro us8 w8 Fs8 hG hu hbd hd
    simp [SL.Used,SL.boxAt] at hu
    obtain ⟨e58,hO8,_⟩:=hu
    have hG8:SL.Chg [w.heap.size +1] W1 w8:=hG.undrew
    have HN8:=Lib.hid (show ColO w a s.length cap id ⟨lo,x.hi,lob,x.id⟩ w8 from HN.out.set hG8 hO8)
    clear hG hbd hd hO8 e58 d11 d12 d0 q0 q1 q2 q3 qf
    gi_wp2_with fail
    exact ⟨keeps_of_chg_w (E:=[w.heap.size +1]) hG8 Zj,col_in Hsn.out Hco.out HN8.out⟩
   ·have e2:decide (x.hi<hi)=false:=by simpa using hc2
    have Hco:Hid (colS ⟨lo,hi,lob,hib⟩ x=⟨lo,hi,lob,hib⟩):=Lib.hid (by unfold colS;rw [if_neg hc1,if_neg hc2,if_neg hc1,if_neg hc2])
    clear hc1 hc2
    gi_wp2_with fail
    exact ⟨keeps_of_chg_w (E:=[]) (.refl _ _) (by simp),col_in Hsn.out Hco.out HN.out⟩
 ·rintro D W2 hD hN hdef
  generalize hfo:L.foldl colS ⟨0,1000,0,0⟩=o at *
  have Hfo:=Lib.hid hfo
  have HN:=Lib.hid hN
  have hO:=hN.cO
  have hR:=hN.cR
  obtain ⟨q0,q1,q2,q3,qf,ql⟩:=cell4s hO
  obtain ⟨r0,r1,r2,r3,rf,rl⟩:=cell4s hR
  have HR:=Lib.hid hR
  have hw1:w.heap.size +1<W0.heap.size:=by omega
  clear hN gro hC hB0 hz0 HS h hl hO hR hfo
  go_wp2_with fail
  have hb:=HN.out.below.trans ((SLG.chg_set4 (E:=[w.heap.size]) (N:=w.heap.size) W2 (by simp) (.int .i64 o.lo) (.int .i64 o.hi) (.int .i64 o.lob) (.int .i64 o.hib)).belowE_w HN.out.below.size (by simp))
  exact col_leaves (o:=o) (B:=W0.heap.size) rfl (by omega) (by omega) ⟨by simp;exact ⟨hD,((SLG.chg_set4 (E:=[w.heap.size]) (N:=w.heap.size) W2 (by simp) (.int .i64 o.lo) (.int .i64 o.hi) (.int .i64 o.lob) (.int .i64 o.hib)).block D (Array.getElem?_eq_some_iff.1 hdef).1 Zj).trans hdef⟩,by simp⟩ (SLG.heap_set4 HR.out ..) hb (fun W' hb=>HP.out W' o rfl hb)
 ·exact Z19
theorem setsL_map (l:List Itm):(l.map fun x=>x.st).map (fun s=>s.data.toList)=setsL l:=by simp [setsL]
theorem strsAt_of {w:World} {base:Nat} {a:Option Addr} {n cap:Nat} {l:List Itm} (h:w.ownsRow base 9 1 (.slice a n cap) n (strL l)) (hn:n=l.length):StrsAt w a n cap (l.map fun x=>x.st) :=
 ⟨by simp [hn],by have:=RowAt.of_owns h;simpa [strL,Function.comp_def] using this⟩
/-- The classes common to the sets of some items, by common over sets. -/
theorem scomS (a:Option Addr) (n cap:Nat) (l:List Itm) (w:World) (base:Nat) (hl:l.length≤10000) (hn:n=l.length) (h:w.ownsRow base 9 1 (.slice a n cap) n (strL l)) :
 Calls Tryz.prog 91 #[.slice a n cap] w fun e w'=>e=.returned (.string ⟨(comC (setsL l)).toArray⟩)∧Below w.heap.size w w':=by
 have:=scommon_any a n cap (l.map fun x=>x.st) w (strsAt_of h hn) Z7f
 rw [setsL_map] at this
 exact this
theorem sCurves_any (a:Option Addr) (n cap:Nat) (l:List Itm) (day id:Int) (w:World) (h:ItmsAt w a n cap l) (hcap:l.length≤cap) :
 Calls Tryz.prog 34 #[.slice a n cap,.int .i64 day,.int .i64 id] w fun e w'=>e=.returned (.tuple #[.string ⟨(curR l day id).toArray⟩,.int .i64 (curE l day id)])∧Below w.heap.size w w':=by
 have hL:=slooked_any a n cap l day id w h hcap
 have hw:=h.wide
 have hE:curE l day id=if lookE l day id=0 then (if comC (setsL (keptL (countL l day) 5 id))=[] then 21 else 0) else lookE l day id:=rfl
 have hR:curR l day id=if curE l day id=0 then comC (setsL (keptL (countL l day) 5 id)) else []:=rfl
 unfold LookPost at hL
 have hRl:lookE l day id=0→lookR l day id=countL l day∧(countL l day).length≤300:=fun h0=>⟨by unfold lookR;rw [if_pos h0],Nat.le_trans (countL_len l day) (look_ok h0).cat.few⟩
 have hcw:=wides hw (fun x (hx:x ∈ countL l day)=>(countL_sub hx).1)
 have HP:=Lib.hid (show ∀ w' (o:List UInt8) E,curR l day id=o→curE l day id=E→Below w.heap.size w w'→(fun e w'=>e=Ending.returned (.tuple #[.string ⟨(curR l day id).toArray⟩,.int .i64 (curE l day id)])∧Below w.heap.size w w':Ending→World→Prop) (.returned (.tuple #[.string ⟨o.toArray⟩,.int .i64 E])) w' from fun w' o E h1 h2 h3=>⟨by rw [h1,h2],h3⟩)
 generalize (fun e w'=>e=Ending.returned (.tuple #[.string ⟨(curR l day id).toArray⟩,.int .i64 (curE l day id)])∧Below w.heap.size w w':Ending→World→Prop)=Post at *
 have HR:=Lib.hid hR
 have HE:=Lib.hid hE
 clear hR hE
 generalize lookZ l day id=x at *
 simp only [Shd.v,Shd.cs] at hL
 by_cases h0:lookE l day id=0
 ·obtain ⟨hr,hr2⟩:=hRl h0
  rw [hr,h0] at hL
  clear hRl hr
  have hSe:=fun W va vc (hi:ItmsAt W va (countL l day).length vc (countL l day))=>ssets_any va _ vc (countL l day) id W hi (by omega)
  have Hc:=Lib.hid (show curE l day id=(if comC (setsL (keptL (countL l day) 5 id))=[] then 21 else 0) by rw [HE.out,if_pos h0])
  have hkl:(keptL (countL l day) 5 id).length≤10000:=Nat.le_trans (List.length_filter_le _ _) (by omega)
  have hCm:=fun W a c base (ho:W.ownsRow base 9 1 (.slice a (keptL (countL l day) 5 id).length c) (keptL (countL l day) 5 id).length (strL (keptL (countL l day) 5 id)))=>scomS a _ c (keptL (countL l day) 5 id) W base hkl rfl ho
  unfold RowPost at hSe
  clear HE h0
  generalize countL l day=S at *
  generalize comC (setsL (keptL S 5 id))=o at *
  generalize keptL S 5 id=K at *
  by_cases hc:o=[]
  ·have He:Hid (curE l day id=21):=Lib.hid (by rw [Hc.out,if_pos hc])
   have Hr:Hid (curR l day id=[]):=Lib.hid Z3x
   subst hc
   clear HR Hc
   go_enter Tryz.func34,Tryz.ntmps34
   go_wp2_with (first
    | (go_at_call 82;(with_reducible refine hL.mono ?_);rintro e w2 ⟨v,rfl,hb2,ho2⟩;obtain ⟨va,vc,rfl,_⟩:=owns_slice ho2;have hi2:=(ItmsAt.of_owns ho2 (by omega) hcw).below (one_alloc w2 (Obj.cells #[.int .i64 x.id,.string x.wa,.int .i64 x.pit,.int .i64 x.ly,.int .i64 x.co,.bool x.ft] 72)))
    | (go_at_call 92;(with_reducible refine (hSe _ va vc hi2).mono ?_);rintro e w4 ⟨v4,rfl,hb4,ho4⟩;obtain ⟨sa,sc,rfl,_⟩:=owns_slice ho4)
    | (go_at_call 91;(with_reducible refine (hCm _ _ _ _ ho4).mono ?_);rintro e w5 ⟨rfl,hb5⟩))
   have hB5:=((hb2.ch2 (one_alloc w2 (Obj.cells #[.int .i64 x.id,.string x.wa,.int .i64 x.pit,.int .i64 x.ly,.int .i64 x.co,.bool x.ft] 72))).ch2 hb4).ch2 hb5
   exact HP.out _ [] _ Hr.out He.out hB5
  ·have e1:o.isEmpty=false:=by simpa using hc
   have He:Hid (curE l day id=0):=Lib.hid (by rw [Hc.out,if_neg hc])
   have Hr:Hid (curR l day id=o):=Lib.hid Z3x
   clear HR Hc
   clear hc
   go_enter Tryz.func34,Tryz.ntmps34
   go_wp2_with (first
    | (go_at_call 82;(with_reducible refine hL.mono ?_);rintro e w2 ⟨v,rfl,hb2,ho2⟩;obtain ⟨va,vc,rfl,_⟩:=owns_slice ho2;have hi2:=(ItmsAt.of_owns ho2 (by omega) hcw).below (one_alloc w2 (Obj.cells #[.int .i64 x.id,.string x.wa,.int .i64 x.pit,.int .i64 x.ly,.int .i64 x.co,.bool x.ft] 72)))
    | (go_at_call 92;(with_reducible refine (hSe _ va vc hi2).mono ?_);rintro e w4 ⟨v4,rfl,hb4,ho4⟩;obtain ⟨sa,sc,rfl,_⟩:=owns_slice ho4)
    | (go_at_call 91;(with_reducible refine (hCm _ _ _ _ ho4).mono ?_);rintro e w5 ⟨rfl,hb5⟩))
   have hB5:=((hb2.ch2 (one_alloc w2 (Obj.cells #[.int .i64 x.id,.string x.wa,.int .i64 x.pit,.int .i64 x.ly,.int .i64 x.co,.bool x.ft] 72))).ch2 hb4).ch2 hb5
   exact HP.out _ o _ Hr.out He.out hB5
 ·have He0:curE l day id=lookE l day id:=by rw [HE.out,if_neg h0]
  have Hr:Hid (curR l day id=[]):=Lib.hid Z4r
  have hle:(lookR l day id).length≤300:=by unfold lookR;rw [if_neg h0];simp
  have hcw2:∀ y ∈ lookR l day id,y.Wide:=by unfold lookR;rw [if_neg h0];intro y hy;cases hy
  generalize lookE l day id=E at *
  have e2:(E != 0)=true:=by simpa using h0
  have He:Hid (curE l day id=E):=Lib.hid He0
  clear h0 He0 HE HR hRl
  generalize lookR l day id=S at *
  go_enter Tryz.func34,Tryz.ntmps34
  go_wp2_with (go_at_call 82;(with_reducible refine hL.mono ?_);rintro e w2 ⟨v,rfl,hb2,ho2⟩;obtain ⟨va,vc,rfl,_⟩:=owns_slice ho2)
  exact HP.out _ _ _ Hr.out He.out (hb2.ch2 (one_alloc _ _))
/-- The limit of a ware: the last of those that count. -/
def limB (wa:ByteArray) (x:Itm):Bool:=x.kd == 6 && x.wa.toList == wa.toList
def limS (wa:ByteArray) (o:Int × Int) (x:Itm):Int × Int:=if limB wa x then (x.li,x.id) else o
def limL (s:List Itm) (wa:ByteArray):Int × Int:=s.foldl (limS wa) (0,0)
theorem limS_succ {s:List Itm} {wa:ByteArray} {k:Nat} (hk:k<s.length):limL (s.take (k +1)) wa=limS wa (limL (s.take k) wa) (s.getD k default):=by
 unfold limL
 rw [List.take_succ_eq_append_getElem hk,List.foldl_append,List.getD_eq_getElem?_getD,List.getElem?_eq_getElem hk]
 rfl
theorem sLimitOf_any (a:Option Addr) (n cap:Nat) (l:List Itm) (day:Int) (wa:ByteArray) (w:World) (h:ItmsAt w a n cap l) (hcap:l.length≤cap) :
 Calls Tryz.prog 64 #[.slice a n cap,.int .i64 day,.string wa] w fun e w'=>e=.returned (.tuple #[.int .i64 (limL (cntL l day) wa).1,.int .i64 (limL (cntL l day) wa).2,.int .i64 (chkI l).2])∧Below w.heap.size w w':=by
 have hO:=sopened_any a n cap l day w h hcap
 have hsl:(chkI l).2=0→(cntL l day).length≤300:=fun h0=>by
  unfold cntL
  rw [if_pos h0]
  exact Nat.le_trans (countL_len l day) (chk_ok.1 h0).few
 have hn:(chkI l).2≠0→cntL l day=[]:=fun h0=>by unfold cntL;rw [if_neg h0]
 have hcw:=wides h.wide (fun x (hx:x ∈ cntL l day)=>cnt_mem hx)
 unfold RowE at hO
 generalize cntL l day=S at *
 generalize (chkI l).2=C at *
 obtain ⟨Q,hQ⟩:∃ Q,limL S wa=Q:=⟨_,rfl⟩
 have HP:=Lib.hid (show ∀ w' (p:Int × Int),limL S wa=p→Below w.heap.size w w'→(fun e w'=>e=Ending.returned (.tuple #[.int .i64 (limL S wa).1,.int .i64 (limL S wa).2,.int .i64 C])∧Below w.heap.size w w':Ending→World→Prop) (.returned (.tuple #[.int .i64 p.1,.int .i64 p.2,.int .i64 C])) w' from fun w' p hp hb=>by subst hp;exact ⟨rfl,hb⟩)
 generalize (fun e w'=>e=Ending.returned (.tuple #[.int .i64 (limL S wa).1,.int .i64 (limL S wa).2,.int .i64 C])∧Below w.heap.size w w':Ending→World→Prop)=Post at *
 clear hQ
 by_cases h0:C=0
 ·subst h0
  have hs3:=hsl rfl
  clear hsl hn
  go_enter Tryz.func64,Tryz.ntmps64
  go_wp2_with (go_at_call 130;(with_reducible refine hO.mono ?_);rintro e w1 ⟨v,rfl,hb1,ho1⟩;obtain ⟨va,vc,rfl,_⟩:=owns_slice ho1;have hi1:=ItmsAt.of_owns ho1 (by omega) hcw)
  clear hO ho1
  go_loopw [6,7,23] (fun p q i wr=>∃ k:Nat,k≤S.length∧i=.int .i64 k∧Below w1.heap.size w1 wr∧∃ P:Int × Int,p=.int .i64 P.1∧q=.int .i64 P.2∧Hid (limL (S.take k) wa=P)) (fun _ _ i _=>S.length - (RowKit.intOf i).toNat)
  case atStart=>exact ⟨0,Nat.zero_le _,rfl,Below.refl _ _,(0,0),rfl,rfl,Lib.hid rfl⟩
  case round =>
   obtain ⟨k,hk,rfl,hB,⟨P1,P2⟩,rfl,rfl,hF⟩:=hrel
   have hnn:(0:Int)≤k:=by omega
   by_cases hlt:k<S.length
   ·have i1:(k:Int)<(S.length:Int):=by omega
    obtain ⟨b,o,rfl,hbl,hdc⟩:=(hi1.below hB).get hlt
    have Hsu:=Lib.hid (limS_succ (wa:=wa) hlt)
    generalize S.getD k default=x at *
    obtain ⟨B1,hB1⟩:∃ B,(x.kd == 6)=B:=⟨_,rfl⟩
    obtain ⟨B2,hB2⟩:∃ B,(x.wa.toList == wa.toList)=B:=⟨_,rfl⟩
    have Hl:=Lib.hid (show limB wa x=(B1 && B2) by unfold limB;rw [hB1,hB2])
    have hal:=one_alloc wr (Obj.cells #[.int .i64 x.id,.int .i64 x.kn,.int .u8 x.kd,.string x.wa,.int .i64 x.pit,.int .i64 x.ly,.int .i64 x.co,.bool x.ft,.int .i64 x.sh,.int .i64 x.fr,.int .i64 x.tw,.int .i64 x.lo,.int .i64 x.hi,.string x.st,.int .i64 x.li,.int .i64 x.vo] 24)
    cases B1
    ·exact Z1g
    cases B2
    ·exact Z1g
    ·go_wp2_with (first
      | (refine wpList_loadI rfl _ rfl rfl hdc ?_)
      | (refine wpList_storeI_new rfl _ _ rfl rfl rfl rfl ?_))
     have hX:=World.alloc_heap_new wr (Obj.cells #[.int .i64 x.id,.int .i64 x.kn,.int .u8 x.kd,.string x.wa,.int .i64 x.pit,.int .i64 x.ly,.int .i64 x.co,.bool x.ft,.int .i64 x.sh,.int .i64 x.fr,.int .i64 x.tw,.int .i64 x.lo,.int .i64 x.hi,.string x.st,.int .i64 x.li,.int .i64 x.vo] 24)
     have hBw:=hB.ch2 hal
     have hFn:Hid (limL (S.take (k +1)) wa=(x.li,x.id)):=Lib.hid Z78
     generalize wr.heap.size=N at *
     generalize wr.alloc (Obj.cells #[.int .i64 x.id,.int .i64 x.kn,.int .u8 x.kd,.string x.wa,.int .i64 x.pit,.int .i64 x.ly,.int .i64 x.co,.bool x.ft,.int .i64 x.sh,.int .i64 x.fr,.int .i64 x.tw,.int .i64 x.lo,.int .i64 x.hi,.string x.st,.int .i64 x.li,.int .i64 x.vo] 24)=w5 at *
     have zX:=(Array.getElem?_eq_some_iff.1 hX).1
     have d0:=(ItmCells.of_heap hX).1.c0
     have d14:=(ItmCells.of_heap hX).1.c14
     clear hX hdc hal hB1 hB2 hB
     apply SLG.rule0 ?hm [] [36,37,38,39,6,7] [SLF.pq 36 [] _,SLF.pq 37 [0] _,SLF.pq 38 [] _,SLF.pq 39 [2] _,SLF.pq 6 [1] _,SLF.pq 7 [3] _] [4,5] ?hck ?hkp (fun _=>[]) ?hin ?hdj ?hfr ?ob ?en4
     case hm=>kernel_rfl
     case hin=>exact SL.none_held rfl
     case hdj=>simp
     case hfr=>intro us;simp only [SL.frame,SL.put'];simp;exact rfl
     case ob =>
      refine ⟨?_,?_,?_,?_,?_,?_,trivial⟩
      all_goals first
       | (intro us w' Fe hG hu hd hv Kx hK
          try dsimp only
          simp [SL.O] at hu hK
          have hB5:Below w5.heap.size w5 w':=hG.below'
          obtain ⟨hc5,hf5⟩:=bcell hB5
          have hs5:=hB5.size
          have p0:=(hc5 N 0 zX).trans d0;have p14:=(hc5 N (0 +14) zX).trans d14
          clear hv hG
          exact Z5z)
       | skip
     case hck=>kernel_rfl
     case hkp=>kernel_rfl
     intro us w7 Fs hG hu hbd hd
     simp [SL.Used,SLF.pq] at hu
     obtain ⟨⟨h6,_⟩,h7,_⟩:=hu
     have hB7:=hBw.ch2 (hG.below':Below w5.heap.size w5 w7)
     rw [h6,h7]
     clear hG hbd hd h6 h7 d0 d14 zX hBw
     go_wp2_with fail
     go_roundw
     case rel=>exact ⟨k +1,by omega,by go_num,hB7,(x.li,x.id),rfl,rfl,hFn⟩
     case measure=>simp [RowKit.intOf];omega
   ·have hk2:k=S.length:=by omega
    subst hk2
    rw [List.take_length] at hF
    go_wp2_with fail
    refine bodyPost_ret (v:=.tuple #[.int .i64 P1,.int .i64 P2,.int .i64 0]) Z5a rfl (HP.out _ (P1,P2) hF.out (hb1.ch2 hB))
 ·have e2:(C != 0)=true:=by simpa using h0
  have hS:=hn h0
  subst hS
  clear hn hsl h0
  go_enter Tryz.func64,Tryz.ntmps64
  go_wp2_with (go_at_call 130;(with_reducible refine hO.mono ?_);rintro e w1 ⟨v,rfl,hb1,ho1⟩;obtain ⟨va,vc,rfl,_⟩:=owns_slice ho1)
  refine bodyPost_ret (v:=.tuple #[.int .i64 0,.int .i64 0,.int .i64 C]) Z5a rfl (HP.out _ (0,0) rfl hb1)
set_option maxHeartbeats 4000000
theorem cloneB (a:Option Addr) (n cap:Nat) (ps:List Bd) (w:World) (hx:BdsAt w a n cap ps) (hs:ps.length≤10000) :
 Calls Tryz.prog 163 #[.slice a n cap] w (RowPost w 69 4 ps.length (bcs ps)):=by
 obtain rfl:=hx.len
 match a,hx with
 | none,hx =>
   obtain ⟨h0,h1⟩:=hx.row.nil rfl
   have hl:=bcs_length ps
   rw [h0] at hl
   have h2:ps=[]:=List.eq_nil_of_length_eq_zero (by simp at hl;omega)
   subst h2
   refine (AnyE.slices_Clone_nil Tryz.cloneBA _ _ w).mono ?_
   exact Z2p
 | some ⟨b,o,sp⟩,hx =>
   obtain ⟨h1,h2,h3⟩:=hx.row.at_ _ rfl
   simp only at h1
   subst h1
   obtain ⟨i,hi,hz,hz1,hz2⟩:=elemB.info
   refine (AnyE.slices_Clone Tryz.cloneBA i _ 4 32 hi hz hz1 hz2 elemB.zs (by omega) (fun w=>Tryz.sizeOf69 w) b o ps.length cap (bcs ps) w (bcs_length ps) Z1s (by omega) (fun j u hj=>h3 j u hj) (bcs_one ps)).mono ?_
   exact Z4s
theorem cell2s {W:World} {N:Nat} {u v:Value} {t:TypeId} (hh:W.heap[N]?=some (.cells #[u,v] t (0,0))):W.cell? ⟨N,0,none⟩=some u∧W.cell? ⟨N,1,none⟩=some v∧(∀ i,W.frozen? ⟨N,i,none⟩=false)∧N<W.heap.size:=by
 have k:=(SL.cells_of hh).1
 exact ⟨k 0,k 1,(SL.cells_of hh).2,(Array.getElem?_eq_some_iff.1 hh).1⟩
/-- A system with bounds of its own. -/
def SysPost (w:World) (p:Int) (bs:List Bd) (e:Ending) (w':World):Prop:=∃ v,e=.returned (.agg #[.int .i64 p,v])∧Below w.heap.size w w'∧w'.ownsRow w.heap.size 69 4 v bs.length (bcs bs)
def sysIf (co p:Int):Int:=if rngB co 3 16 then p else 0
def sysBs (co:Int) (bs:List Bd):List Bd:=if rngB co 3 16 then bs else []
theorem ssystem_any (co:Int) (va vb:Value) (p:Int) (a:Option Addr) (n cap:Nat) (bs:List Bd) (w:World) (hva:∃ a n c,va=.slice a n c) (hvb:∃ a n c,vb=.slice a n c) (hb:BdsAt w a n cap bs) (hs:bs.length≤10000) :
 Calls Tryz.prog 97 #[.agg #[.int .i64 co,va,vb],.int .i64 p,.slice a n cap] w (SysPost w (sysIf co p) (sysBs co bs)):=by
 obtain ⟨xa,xn,xc,rfl⟩:=hva
 obtain ⟨ya,yn,yc,rfl⟩:=hvb
 have hI:=fun w1=>sin_any co 3 16 w1
 have hB0:=(one_alloc w (Obj.cells #[.int .i64 co,.slice xa xn xc,.slice ya yn yc] 52)).ch2 (one_alloc _ (Obj.cells #[.int .i64 0,.slice none 0 0] 57))
 have hC:=cloneB a n cap bs _ (hb.below hB0) hs
 have hR:=World.alloc_heap_new (w.alloc (Obj.cells #[.int .i64 co,.slice xa xn xc,.slice ya yn yc] 52)) (Obj.cells #[.int .i64 0,.slice none 0 0] 57)
 rw [World.size_alloc] at hR
 unfold sysIf sysBs
 cases hR3:rngB co 3 16 with
 | false =>
   rw [hR3] at hI
   simp only [Bool.false_eq_true,if_false]
   have HP:=Lib.hid (show ∀ w',Below w.heap.size w w'→SysPost w 0 [] (.returned (.agg #[.int .i64 0,.slice none 0 0])) w' from fun w' h1=>⟨_,rfl,h1,World.ownsRow_nil _ _ _ _⟩)
   generalize SysPost w 0 []=Post at *
   clear hC hR3 hb
   go_enter Tryz.func97,Tryz.ntmps97
   go_wp2_with (go_at_call 77;(with_reducible refine (hI _).mono ?_);rintro e w1 ⟨rfl,rfl⟩)
   exact bodyPost_ret (v:=.agg #[.int .i64 0,.slice none 0 0]) (by simp [results,Tryz.results97,go_sem]) rfl (HP.out _ hB0)
 | true =>
   rw [hR3] at hI
   simp only [if_true]
   have HP:=Lib.hid (show ∀ v w',Below w.heap.size w w'→w'.ownsRow w.heap.size 69 4 v bs.length (bcs bs)→SysPost w p bs (.returned (.agg #[.int .i64 p,v])) w' from fun v w' h1 h2=>⟨_,rfl,h1,h2⟩)
   generalize SysPost w p bs=Post at *
   clear hR3 hb
   go_enter Tryz.func97,Tryz.ntmps97
   go_wp2_with (first
    | (go_at_call 77;(with_reducible refine (hI _).mono ?_);rintro e w1 ⟨rfl,rfl⟩)
    | (go_at_call 163;(with_reducible refine hC.mono ?_);rintro e w2 ⟨v,rfl,hb2,ho2⟩;obtain ⟨sa,sc,rfl,_⟩:=owns_slice ho2;have hR2:=(hb2.block (w.heap.size +1) (by simp)).trans hR;obtain ⟨q0,q1,qf,ql⟩:=cell2s hR2))
   have hK:=SLG.heap_set2 hR2 (.int .i64 p) (.slice sa bs.length sc)
   have hN:w.heap.size +1 ∉ (Value.slice sa bs.length sc).ownBlock.toList:=fun hm=>by
    exact Z3l
   have hO:=SL.row_base (SLG.row_set2 ho2 hN (.int .i64 p) (.slice sa bs.length sc)) hB0.size
   have hB2:=(hB0.ch2 hb2).trans ((SLG.chg_set2 (E:=[w.heap.size +1]) (N:=w.heap.size +1) w2 (by simp) (.int .i64 p) (.slice sa bs.length sc)).belowE_w (hB0.ch2 hb2).size (by simp))
   obtain ⟨k0,k1,kf,kl⟩:=cell2s hK
   clear hK q0 q1 qf ql hR2 hR hb2 ho2 hN hB0 hC
   generalize (w2.setCell ⟨w.heap.size +1,0,none⟩ (.int .i64 p)).setCell ⟨w.heap.size +1,1,none⟩ (.slice sa bs.length sc)=W at *
   exact bodyPost_ret (v:=.agg #[.int .i64 p,.slice sa bs.length sc]) (by simp [results,Tryz.results97,go_sem,k0,k1]) rfl (HP.out _ _ hB2 hO)
theorem sWays_any (co:Int) (wa:Option Addr) (wn wc:Nat) (ws:List Bd) (ta:Option Addr) (tn tc:Nat) (ts:List Bd) (w:World) (hco: -1000000≤co∧co≤1000000) (hw:BdsAt w wa wn wc ws) (ht:BdsAt w ta tn tc ts) (hs:ws.length≤10000∧ts.length≤10000) :
 Calls Tryz.prog 39 #[.agg #[.int .i64 co,.slice wa wn wc,.slice ta tn tc]] w (SysPost w (sysIf co (co +1)) (sysBs co ws)):=by
 have hB0:=(one_alloc w (Obj.cells #[.int .i64 co,.slice wa wn wc,.slice ta tn tc] 52)).ch2 (one_alloc _ (Obj.cells #[.int .i64 0,.slice none 0 0] 57))
 have hC:=ssystem_any co (.slice wa wn wc) (.slice ta tn tc) (co +1) wa wn wc ws _ ⟨_,_,_,rfl⟩ ⟨_,_,_,rfl⟩ (hw.below hB0) (by omega)
 have hR:=World.alloc_heap_new (w.alloc (Obj.cells #[.int .i64 co,.slice wa wn wc,.slice ta tn tc] 52)) (Obj.cells #[.int .i64 0,.slice none 0 0] 57)
 rw [World.size_alloc] at hR
 have HP:=Lib.hid (show ∀ v w',Below w.heap.size w w'→w'.ownsRow w.heap.size 69 4 v (sysBs co ws).length (bcs (sysBs co ws))→SysPost w (sysIf co (co +1)) (sysBs co ws) (.returned (.agg #[.int .i64 (sysIf co (co +1)),v])) w' from fun v w' h1 h2=>⟨_,rfl,h1,h2⟩)
 generalize SysPost w (sysIf co (co +1)) (sysBs co ws)=Post at *
 unfold SysPost at hC
 generalize sysIf co (co +1)=p at *
 generalize sysBs co ws=bs at *
 clear hw ht
 have hwr:IntKind.i64.wrap (co +1)=co +1:=IntWalk.i64_in _ (by omega)
 go_enter Tryz.func39,Tryz.ntmps39
 go_wp2_with (go_at_call 97;(with_reducible refine hC.mono ?_);rintro e w2 ⟨v,rfl,hb2,ho2⟩;obtain ⟨sa,sc,rfl,_⟩:=owns_slice ho2;have hR2:=(hb2.block (w.heap.size +1) (by simp)).trans hR;obtain ⟨q0,q1,qf,ql⟩:=cell2s hR2)
 have hK:=SLG.heap_set2 hR2 (.int .i64 p) (.slice sa bs.length sc)
 have hN:w.heap.size +1 ∉ (Value.slice sa bs.length sc).ownBlock.toList:=fun hm=>by
  exact Z3l
 have hO:=SL.row_base (SLG.row_set2 ho2 hN (.int .i64 p) (.slice sa bs.length sc)) hB0.size
 have hB2:=(hB0.ch2 hb2).trans ((SLG.chg_set2 (E:=[w.heap.size +1]) (N:=w.heap.size +1) w2 (by simp) (.int .i64 p) (.slice sa bs.length sc)).belowE_w (hB0.ch2 hb2).size (by simp))
 obtain ⟨k0,k1,kf,kl⟩:=cell2s hK
 clear hK q0 q1 qf ql hR2 hR hb2 ho2 hN hB0 hC
 generalize (w2.setCell ⟨w.heap.size +1,0,none⟩ (.int .i64 p)).setCell ⟨w.heap.size +1,1,none⟩ (.slice sa bs.length sc)=W at *
 exact bodyPost_ret (v:=.agg #[.int .i64 p,.slice sa bs.length sc]) (by simp [results,Tryz.results39,go_sem,k0,k1]) rfl (HP.out _ _ hB2 hO)
theorem sTurns_any (co:Int) (wa:Option Addr) (wn wc:Nat) (ws:List Bd) (ta:Option Addr) (tn tc:Nat) (ts:List Bd) (w:World) (hco: -1000000≤co∧co≤1000000) (hw:BdsAt w wa wn wc ws) (ht:BdsAt w ta tn tc ts) (hs:ws.length≤10000∧ts.length≤10000) :
 Calls Tryz.prog 41 #[.agg #[.int .i64 co,.slice wa wn wc,.slice ta tn tc]] w (SysPost w (sysIf co co) (sysBs co ts)):=by
 have hB0:=(one_alloc w (Obj.cells #[.int .i64 co,.slice wa wn wc,.slice ta tn tc] 52)).ch2 (one_alloc _ (Obj.cells #[.int .i64 0,.slice none 0 0] 57))
 have hC:=ssystem_any co (.slice wa wn wc) (.slice ta tn tc) co ta tn tc ts _ ⟨_,_,_,rfl⟩ ⟨_,_,_,rfl⟩ (ht.below hB0) (by omega)
 have hR:=World.alloc_heap_new (w.alloc (Obj.cells #[.int .i64 co,.slice wa wn wc,.slice ta tn tc] 52)) (Obj.cells #[.int .i64 0,.slice none 0 0] 57)
 rw [World.size_alloc] at hR
 have HP:=Lib.hid (show ∀ v w',Below w.heap.size w w'→w'.ownsRow w.heap.size 69 4 v (sysBs co ts).length (bcs (sysBs co ts))→SysPost w (sysIf co co) (sysBs co ts) (.returned (.agg #[.int .i64 (sysIf co co),v])) w' from fun v w' h1 h2=>⟨_,rfl,h1,h2⟩)
 generalize SysPost w (sysIf co co) (sysBs co ts)=Post at *
 unfold SysPost at hC
 generalize sysIf co co=p at *
 generalize sysBs co ts=bs at *
 clear hw ht
 skip
 go_enter Tryz.func41,Tryz.ntmps41
 go_wp2_with (go_at_call 97;(with_reducible refine hC.mono ?_);rintro e w2 ⟨v,rfl,hb2,ho2⟩;obtain ⟨sa,sc,rfl,_⟩:=owns_slice ho2;have hR2:=(hb2.block (w.heap.size +1) (by simp)).trans hR;obtain ⟨q0,q1,qf,ql⟩:=cell2s hR2)
 have hK:=SLG.heap_set2 hR2 (.int .i64 p) (.slice sa bs.length sc)
 have hN:w.heap.size +1 ∉ (Value.slice sa bs.length sc).ownBlock.toList:=fun hm=>by
  exact Z3l
 have hO:=SL.row_base (SLG.row_set2 ho2 hN (.int .i64 p) (.slice sa bs.length sc)) hB0.size
 have hB2:=(hB0.ch2 hb2).trans ((SLG.chg_set2 (E:=[w.heap.size +1]) (N:=w.heap.size +1) w2 (by simp) (.int .i64 p) (.slice sa bs.length sc)).belowE_w (hB0.ch2 hb2).size (by simp))
 obtain ⟨k0,k1,kf,kl⟩:=cell2s hK
 clear hK q0 q1 qf ql hR2 hR hb2 ho2 hN hB0 hC
 generalize (w2.setCell ⟨w.heap.size +1,0,none⟩ (.int .i64 p)).setCell ⟨w.heap.size +1,1,none⟩ (.slice sa bs.length sc)=W at *
 exact bodyPost_ret (v:=.agg #[.int .i64 p,.slice sa bs.length sc]) (by simp [results,Tryz.results41,go_sem,k0,k1]) rfl (HP.out _ _ hB2 hO)
end Go.Proofs.YtelkcohhagblaaaGreat

/- What the functions answer, for every input. -/
import Derived.Test.YtelkcohhagblaaaGreatSe36
import Derived.Test.YtelkcohhagblaaaGreatSe35
set_option linter.unusedSimpArgs false
set_option linter.unusedVariables false
set_option linter.unnecessarySimpa false
namespace Go.Proofs.YtelkcohhagblaaaGreat
open Go.RowKit Go.Shelf
set_option maxHeartbeats 8000000
set_option maxRecDepth 100000
attribute [local go_sem] Oper.semAt_some

/-- What outline holds: the sherd, the result's place, the outline so far. -/
structure OutI (w:World) (y:Shd) (v1 v2:Value) (L1 L2:List Bd) (W:World):Prop where
 cX:W.heap[w.heap.size]?=some (.cells #[.int .i64 y.id,.string y.wa,.int .i64 y.pit,.int .i64 y.ly,.int .i64 y.co,.bool y.ft] 72 (0,0))
 cR:W.heap[w.heap.size +1]?=some (.cells #[.int .i64 0,.slice none 0 0,.slice none 0 0] 52 (0,0))
 cO:W.heap[w.heap.size +1 +1]?=some (.cells #[.int .i64 y.co,v1,v2] 52 (0,0))
 r1:W.ownsRow (w.heap.size +1 +1 +1) 69 4 v1 L1.length (bcs L1)
 r2:W.ownsRow (w.heap.size +1 +1 +1) 69 4 v2 L2.length (bcs L2)
 dj:∀ k ∈ v1.ownBlock.toList,k ∉ v2.ownBlock.toList
 below:Below w.heap.size w W
theorem cell3s {W:World} {N:Nat} {a b c:Value} {t:TypeId} (hh:W.heap[N]?=some (.cells #[a,b,c] t (0,0))):W.cell? ⟨N,0,none⟩=some a∧W.cell? ⟨N,1,none⟩=some b∧W.cell? ⟨N,2,none⟩=some c∧(∀ i,W.frozen? ⟨N,i,none⟩=false)∧N<W.heap.size:=by
 have k:=(SL.cells_of hh).1
 exact ⟨k 0,k 1,k 2,(SL.cells_of hh).2,(Array.getElem?_eq_some_iff.1 hh).1⟩
theorem sides_succ (k:Nat):sidesL (k +1)=sidesL k ++[⟨(k:Int) +1,k, -1,0⟩]:=by unfold sidesL;rw [List.range_succ,List.map_append];rfl
theorem bends_succ (k:Nat):bendsL (k +1)=bendsL k ++[⟨(k:Int),(k:Int) +1,179,0⟩,⟨(k:Int) +1,k,179,0⟩]:=by unfold bendsL;rw [List.range_succ,List.flatMap_append];rfl
/-- The ways grown, and laid back. -/
theorem OutI.grow1 {w:World} {y:Shd} {v1 v2 v':Value} {L1 L2 N:List Bd} {W w6:World} (h:OutI w y v1 v2 L1 L2 W) (hc:SL.Chg v1.ownBlock.toList W w6) (ho:w6.ownsRow (w.heap.size +1 +1 +1) 69 4 v' (L1 ++N).length (bcs (L1 ++N))) (hat:v'.ownBlock=v1.ownBlock∨∃ k,v'.ownBlock=some k∧W.heap.size≤k) :
 OutI w y v' v2 (L1 ++N) L2 (w6.setCell ⟨w.heap.size +1 +1,1,none⟩ v')∧SL.Chg (v1.ownBlock.toList ++[w.heap.size +1 +1]) W (w6.setCell ⟨w.heap.size +1 +1,1,none⟩ v')∧w6.heap[w.heap.size +1 +1]?=some (.cells #[.int .i64 y.co,v1,v2] 52 (0,0)):=by
 have hb1:=fun k hk=>SL.row_bounds h.r1 k hk
 have zO:=(Array.getElem?_eq_some_iff.1 h.cO).1
 have n0:∀ j,j≤w.heap.size +1 +1→j ∉ v1.ownBlock.toList:=fun j hj hm=>by have:=(hb1 j hm).1;omega
 have kX:=(hc.block _ (Array.getElem?_eq_some_iff.1 h.cX).1 (n0 _ (by omega))).trans h.cX
 have kR:=(hc.block _ (Array.getElem?_eq_some_iff.1 h.cR).1 (n0 _ (by omega))).trans h.cR
 have kO:=(hc.block _ zO (n0 _ (by omega))).trans h.cO
 have hr2:w6.ownsRow (w.heap.size +1 +1 +1) 69 4 v2 L2.length (bcs L2):=SL.row_stab h.r2 fun k hk=>hc.block k (SL.row_bounds h.r2 k hk).2 fun hm=>h.dj k hm hk
 have m1:w.heap.size +1 +1 ∉ v'.ownBlock.toList:=fun hm=>by have:=(SL.row_bounds ho _ hm).1;omega
 have m2:w.heap.size +1 +1 ∉ v2.ownBlock.toList:=fun hm=>by have:=(SL.row_bounds h.r2 _ hm).1;omega
 have hB6:Below w.heap.size w w6:=h.below.trans (hc.belowE_w h.below.size fun k hk=>by have:=(hb1 k hk).1;omega)
 refine ⟨⟨(Below.heap_setCell _ _ _ _ Z3o).trans kX,(Below.heap_setCell _ _ _ _ Z3k).trans kR,by simpa using SL.heap_set kO v' (i:=1),SL.row_set ho m1 v',SL.row_set hr2 m2 v',?_,hB6.setCell (show w.heap.size≤w.heap.size +1 +1 by omega) _⟩,(hc.monoW (fun k hk=>by simp [hk])).trans (.setCell _ (by simp) _),kO⟩
 intro k hk hm
 rcases hat with e | ⟨j,e,hj⟩
 ·rw [e] at hk;exact h.dj k hk hm
 ·rw [e] at hk
  simp at hk
  have:=(SL.row_bounds h.r2 k hm).2
  omega
/-- The turns grown, and laid back. -/
theorem OutI.grow2 {w:World} {y:Shd} {v1 v2 v':Value} {L1 L2 N:List Bd} {W w6:World} (h:OutI w y v1 v2 L1 L2 W) (hc:SL.Chg v2.ownBlock.toList W w6) (ho:w6.ownsRow (w.heap.size +1 +1 +1) 69 4 v' (L2 ++N).length (bcs (L2 ++N))) (hat:v'.ownBlock=v2.ownBlock∨∃ k,v'.ownBlock=some k∧W.heap.size≤k) :
 OutI w y v1 v' L1 (L2 ++N) (w6.setCell ⟨w.heap.size +1 +1,2,none⟩ v')∧SL.Chg (v2.ownBlock.toList ++[w.heap.size +1 +1]) W (w6.setCell ⟨w.heap.size +1 +1,2,none⟩ v')∧w6.heap[w.heap.size +1 +1]?=some (.cells #[.int .i64 y.co,v1,v2] 52 (0,0)):=by
 have hb1:=fun k hk=>SL.row_bounds h.r2 k hk
 have zO:=(Array.getElem?_eq_some_iff.1 h.cO).1
 have n0:∀ j,j≤w.heap.size +1 +1→j ∉ v2.ownBlock.toList:=fun j hj hm=>by have:=(hb1 j hm).1;omega
 have kX:=(hc.block _ (Array.getElem?_eq_some_iff.1 h.cX).1 (n0 _ (by omega))).trans h.cX
 have kR:=(hc.block _ (Array.getElem?_eq_some_iff.1 h.cR).1 (n0 _ (by omega))).trans h.cR
 have kO:=(hc.block _ zO (n0 _ (by omega))).trans h.cO
 have hr1:w6.ownsRow (w.heap.size +1 +1 +1) 69 4 v1 L1.length (bcs L1):=SL.row_stab h.r1 fun k hk=>hc.block k (SL.row_bounds h.r1 k hk).2 fun hm=>h.dj k hk hm
 have m1:w.heap.size +1 +1 ∉ v'.ownBlock.toList:=fun hm=>by have:=(SL.row_bounds ho _ hm).1;omega
 have m2:w.heap.size +1 +1 ∉ v1.ownBlock.toList:=fun hm=>by have:=(SL.row_bounds h.r1 _ hm).1;omega
 have hB6:Below w.heap.size w w6:=h.below.trans (hc.belowE_w h.below.size fun k hk=>by have:=(hb1 k hk).1;omega)
 refine ⟨⟨(Below.heap_setCell _ _ _ _ Z3o).trans kX,(Below.heap_setCell _ _ _ _ Z3k).trans kR,by simpa using SL.heap_set kO v' (i:=2),SL.row_set hr1 m2 v',SL.row_set ho m1 v',?_,hB6.setCell (show w.heap.size≤w.heap.size +1 +1 by omega) _⟩,(hc.monoW (fun k hk=>by simp [hk])).trans (.setCell _ (by simp) _),kO⟩
 intro k hk hm
 rcases hat with e | ⟨j,e,hj⟩
 ·rw [e] at hm;exact h.dj k hk hm
 ·rw [e] at hm
  simp at hm
  have:=(SL.row_bounds h.r1 k hk).2
  omega
theorem OutI.grown {w:World} {y:Shd} {v1 v2:Value} {L1 L2:List Bd} {W W':World} (h:OutI w y v1 v2 L1 L2 W) (hk:KeepC_w W W') (hb:Below w.heap.size w W'):OutI w y v1 v2 L1 L2 W' :=
 ⟨hk.cells _ _ _ _ h.cX,hk.cells _ _ _ _ h.cR,hk.cells _ _ _ _ h.cO,row_keepC_w h.r1 hk,row_keepC_w h.r2 hk,h.dj,hb⟩
/-- The ways grown and laid back by a region. -/
theorem OutI.put1 {w:World} {y:Shd} {v1 v2 v':Value} {L1 L2 N:List Bd} {W w6:World} (h:OutI w y v1 v2 L1 L2 W) (hc:SL.Chg ((w.heap.size +1 +1)::v1.ownBlock.toList) W w6) (hO:w6.heap[w.heap.size +1 +1]?=some (.cells #[.int .i64 y.co,v',v2] 52 (0,0)))
 (ho:w6.ownsRow (w.heap.size +1 +1 +1) 69 4 v' N.length (bcs N)) (hat:∀ k ∈ v'.ownBlock.toList,k ∈ v1.ownBlock.toList∨W.heap.size≤k):OutI w y v' v2 N L2 w6:=by
 have hb1:=fun k hk=>SL.row_bounds h.r1 k hk
 have n0:∀ j,j<w.heap.size +1 +1→j ∉ (w.heap.size +1 +1)::v1.ownBlock.toList:=fun j hj hm=>by
  exact Z47
 have hr2:w6.ownsRow (w.heap.size +1 +1 +1) 69 4 v2 L2.length (bcs L2):=SL.row_stab h.r2 fun k hk=>hc.block k (SL.row_bounds h.r2 k hk).2 fun hm=>by
  rcases List.mem_cons.1 hm with e | hm
  ·have:=(SL.row_bounds h.r2 k hk).1;omega
  ·exact h.dj k hm hk
 refine ⟨(hc.block _ (Array.getElem?_eq_some_iff.1 h.cX).1 (n0 _ (by omega))).trans h.cX,(hc.block _ (Array.getElem?_eq_some_iff.1 h.cR).1 (n0 _ (by omega))).trans h.cR,hO,ho,hr2,?_,h.below.trans (hc.belowE_w h.below.size fun k hk=>?_)⟩
 ·intro k hk hm
  rcases hat k hk with e | e
  ·exact h.dj k e hm
  ·have:=(SL.row_bounds h.r2 k hm).2;omega
 ·exact Z48
/-- The turns grown and laid back by a region. -/
theorem OutI.put2 {w:World} {y:Shd} {v1 v2 v':Value} {L1 L2 N:List Bd} {W w6:World} (h:OutI w y v1 v2 L1 L2 W) (hc:SL.Chg ((w.heap.size +1 +1)::v2.ownBlock.toList) W w6) (hO:w6.heap[w.heap.size +1 +1]?=some (.cells #[.int .i64 y.co,v1,v'] 52 (0,0)))
 (ho:w6.ownsRow (w.heap.size +1 +1 +1) 69 4 v' N.length (bcs N)) (hat:∀ k ∈ v'.ownBlock.toList,k ∈ v2.ownBlock.toList∨W.heap.size≤k):OutI w y v1 v' L1 N w6:=by
 have hb1:=fun k hk=>SL.row_bounds h.r2 k hk
 have n0:∀ j,j<w.heap.size +1 +1→j ∉ (w.heap.size +1 +1)::v2.ownBlock.toList:=fun j hj hm=>by
  exact Z47
 have hr1:w6.ownsRow (w.heap.size +1 +1 +1) 69 4 v1 L1.length (bcs L1):=SL.row_stab h.r1 fun k hk=>hc.block k (SL.row_bounds h.r1 k hk).2 fun hm=>by
  rcases List.mem_cons.1 hm with e | hm
  ·have:=(SL.row_bounds h.r1 k hk).1;omega
  ·exact h.dj k hk hm
 refine ⟨(hc.block _ (Array.getElem?_eq_some_iff.1 h.cX).1 (n0 _ (by omega))).trans h.cX,(hc.block _ (Array.getElem?_eq_some_iff.1 h.cR).1 (n0 _ (by omega))).trans h.cR,hO,hr1,ho,?_,h.below.trans (hc.belowE_w h.below.size fun k hk=>?_)⟩
 ·intro k hk hm
  rcases hat k hm with e | e
  ·exact h.dj k hk e
  ·have:=(SL.row_bounds h.r1 k hk).2;omega
 ·exact Z48
/-- What outline holds within a range over a kind. -/
structure KptI (w:World) (a:Option Addr) (n cap B:Nat) (kd:Int) (y:Shd) (L1 L2:List Bd) (W:World):Prop where
 ou:∃ v1 v2,OutI w y v1 v2 L1 L2 W∧∀ k ∈ v1.ownBlock.toList ++v2.ownBlock.toList,k<B∨B +1 +1<k
 cS:W.heap[B]?=some (.cells #[.slice a n cap] 116 (0,0))
 cK:W.heap[B +1]?=some (.cells #[.int .u8 kd] 5 (0,0))
 cI:W.heap[B +1 +1]?=some (.cells #[.int .i64 y.id] 3 (0,0))
 lo:w.heap.size +1 +1 +1≤B
theorem KptI.below {w:World} {a:Option Addr} {n cap B:Nat} {kd:Int} {y:Shd} {L1 L2:List Bd} {W:World} (h:KptI w a n cap B kd y L1 L2 W):Below w.heap.size w W:=by
 obtain ⟨v1,v2,h1,_⟩:=h.ou
 exact h1.below
theorem KptI.grown {w:World} {a:Option Addr} {n cap B:Nat} {kd:Int} {y:Shd} {L1 L2:List Bd} {W W':World} (h:KptI w a n cap B kd y L1 L2 W) (hk:KeepC_w W W') (hb:Below w.heap.size w W'):KptI w a n cap B kd y L1 L2 W':=by
 obtain ⟨v1,v2,h1,h2⟩:=h.ou
 exact ⟨⟨v1,v2,h1.grown hk hb,h2⟩,hk.cells _ _ _ _ h.cS,hk.cells _ _ _ _ h.cK,hk.cells _ _ _ _ h.cI,h.lo⟩
theorem KptI.start {w:World} {a:Option Addr} {n cap:Nat} {kd:Int} {y:Shd} {v1 v2:Value} {L1 L2:List Bd} {W:World} (h:OutI w y v1 v2 L1 L2 W) :
 KptI w a n cap W.heap.size kd y L1 L2 (((W.alloc (Obj.cells #[.slice a n cap] 116)).alloc (Obj.cells #[.int .u8 kd] 5)).alloc (Obj.cells #[.int .i64 y.id] 3)):=by
 have e0:=World.alloc_heap_new W (Obj.cells #[.slice a n cap] 116)
 have e1:=World.alloc_heap_new (W.alloc (Obj.cells #[.slice a n cap] 116)) (Obj.cells #[.int .u8 kd] 5)
 have e2:=World.alloc_heap_new ((W.alloc (Obj.cells #[.slice a n cap] 116)).alloc (Obj.cells #[.int .u8 kd] 5)) (Obj.cells #[.int .i64 y.id] 3)
 rw [World.size_alloc] at e1
 rw [World.size_alloc,World.size_alloc] at e2
 have hb:Below W.heap.size W (((W.alloc (Obj.cells #[.slice a n cap] 116)).alloc (Obj.cells #[.int .u8 kd] 5)).alloc (Obj.cells #[.int .i64 y.id] 3)):=((one_alloc W _).ch2 (one_alloc _ _)).ch2 (one_alloc _ _)
 refine ⟨⟨v1,v2,h.grown (.of_below hb) (h.below.ch2 hb),fun k hk=>.inl ?_⟩,alKeep (alKeep e0),alKeep e1,e2,(Array.getElem?_eq_some_iff.1 h.cO).1⟩
 rcases List.mem_append.1 hk with h1 | h1
 ·exact (SL.row_bounds h.r1 k h1).2
 ·exact (SL.row_bounds h.r2 k h1).2
theorem sColour_any (a:Option Addr) (n cap:Nat) (l:List Itm) (day id:Int) (w:World) (h:ItmsAt w a n cap l) (hcap:l.length≤cap) :
 Calls Tryz.prog 32 #[.slice a n cap,.int .i64 day,.int .i64 id] w fun e w'=>e=.returned (.tuple #[(colR l day id).v,.int .i64 (colE l day id)])∧Below w.heap.size w w':=by
 have hB0:=one_alloc w (Obj.cells #[.int .i64 0,.int .i64 0,.int .i64 0,.int .i64 0] 43)
 have hR0:=World.alloc_heap_new w (Obj.cells #[.int .i64 0,.int .i64 0,.int .i64 0,.int .i64 0] 43)
 have hL:=slooked_any a n cap l day id _ (h.below hB0) hcap
 have hw:=h.wide
 have hE:colE l day id=if lookE l day id=0 then (if (colL (keptL (countL l day) 4 id)).hi<(colL (keptL (countL l day) 4 id)).lo then 21 else 0) else lookE l day id:=rfl
 have hR:colR l day id=if colE l day id=0 then colL (keptL (countL l day) 4 id) else ⟨0,0,0,0⟩:=rfl
 unfold LookPost at hL
 have hRl:lookE l day id=0→lookR l day id=countL l day∧(countL l day).length≤300:=fun h0=>⟨by unfold lookR;rw [if_pos h0],Nat.le_trans (countL_len l day) (look_ok h0).cat.few⟩
 have hcw:=wides hw (fun x (hx:x ∈ countL l day)=>(countL_sub hx).1)
 have HP:=Lib.hid (show ∀ w' (o:Spn) E,colR l day id=o→colE l day id=E→Below w.heap.size w w'→(fun e w'=>e=Ending.returned (.tuple #[(colR l day id).v,.int .i64 (colE l day id)])∧Below w.heap.size w w':Ending→World→Prop) (.returned (.tuple #[o.v,.int .i64 E])) w' from fun w' o E h1 h2 h3=>⟨by rw [h1,h2],h3⟩)
 generalize (fun e w'=>e=Ending.returned (.tuple #[(colR l day id).v,.int .i64 (colE l day id)])∧Below w.heap.size w w':Ending→World→Prop)=Post at *
 have HR:=Lib.hid hR
 have HE:=Lib.hid hE
 clear hR hE
 generalize lookZ l day id=x at *
 simp only [Shd.v,Shd.cs] at hL
 by_cases h0:lookE l day id=0
 ·obtain ⟨hr,hr2⟩:=hRl h0
  rw [hr,h0] at hL
  clear hRl hr
  have hCo:=fun W va vc (hi:ItmsAt W va (countL l day).length vc (countL l day))=>scolour_any va _ vc (countL l day) id W hi (by omega)
  have Hc:=Lib.hid (show colE l day id=(if (colL (keptL (countL l day) 4 id)).hi<(colL (keptL (countL l day) 4 id)).lo then 21 else 0) by rw [HE.out,if_pos h0])
  have HR2:=HR
  clear HE h0
  generalize countL l day=S at *
  generalize colL (keptL S 4 id)=o at *
  simp only [Spn.v,Spn.cs] at hCo HP
  by_cases hc:o.hi<o.lo
  ·have e1:decide (o.hi<o.lo)=true:=by simpa using hc
   have He:Hid (colE l day id=21):=Lib.hid (by rw [Hc.out,if_pos hc])
   have Hr:Hid (colR l day id=⟨0,0,0,0⟩):=Lib.hid Z3x
   clear hc
   go_enter Tryz.func32,Tryz.ntmps32
   go_wp2_with (first
    | (go_at_call 82;(with_reducible refine hL.mono ?_);rintro e w2 ⟨v,rfl,hb2,ho2⟩;obtain ⟨va,vc,rfl,_⟩:=owns_slice ho2;have hR2:=(hb2.block w.heap.size (by simp)).trans hR0;have hi2:=(ItmsAt.of_owns ho2 (by omega) hcw).below (one_alloc w2 (Obj.cells #[.int .i64 x.id,.string x.wa,.int .i64 x.pit,.int .i64 x.ly,.int .i64 x.co,.bool x.ft] 72));have hR3:=alKeep (o':=Obj.cells #[.int .i64 x.id,.string x.wa,.int .i64 x.pit,.int .i64 x.ly,.int .i64 x.co,.bool x.ft] 72) hR2)
    | (go_at_call 89;(with_reducible refine (hCo _ va vc hi2).mono ?_);rintro e w4 ⟨rfl,hb4⟩;have hR4:=(hb4.block w.heap.size (Array.getElem?_eq_some_iff.1 hR3).1).trans hR3;obtain ⟨q0,q1,q2,q3,qf,ql⟩:=cell4s hR4))
   have hB4:=((hB0.ch2 hb2).ch2 (one_alloc w2 (Obj.cells #[.int .i64 x.id,.string x.wa,.int .i64 x.pit,.int .i64 x.ly,.int .i64 x.co,.bool x.ft] 72))).ch2 hb4
   have hK4:=alKeep (o':=Obj.cells #[.int .i64 o.lo,.int .i64 o.hi,.int .i64 o.lob,.int .i64 o.hib] 43) (SLG.heap_set4 hR4 (.int .i64 (0)) (.int .i64 (0)) (.int .i64 (0)) (.int .i64 (0)))
   have HB:=Lib.hid ((hB4.trans ((SLG.chg_set4 (E:=[w.heap.size]) (N:=w.heap.size) w4 (by simp) (.int .i64 (0)) (.int .i64 (0)) (.int .i64 (0)) (.int .i64 (0))).belowE_w hB4.size (by simp))).ch2 (one_alloc _ (Obj.cells #[.int .i64 o.lo,.int .i64 o.hi,.int .i64 o.lob,.int .i64 o.hib] 43)))
   obtain ⟨k0,k1,k2,k3,kf,kl⟩:=cell4s hK4
   have HB2:=HB.out
   clear hK4 HB q0 q1 q2 q3 qf ql
   generalize ((((w4.setCell ⟨w.heap.size,0,none⟩ (.int .i64 (0))).setCell ⟨w.heap.size,1,none⟩ (.int .i64 (0))).setCell ⟨w.heap.size,2,none⟩ (.int .i64 (0))).setCell ⟨w.heap.size,3,none⟩ (.int .i64 (0))).alloc (Obj.cells #[.int .i64 o.lo,.int .i64 o.hi,.int .i64 o.lob,.int .i64 o.hib] 43)=WF at *
   exact bodyPost_ret (v:=.tuple #[.agg #[.int .i64 (0),.int .i64 (0),.int .i64 (0),.int .i64 (0)],.int .i64 21]) Z3d rfl (HP.out WF _ _ Hr.out He.out HB2)
  ·have e1:decide (o.hi<o.lo)=false:=by simpa using hc
   have He:Hid (colE l day id=0):=Lib.hid (by rw [Hc.out,if_neg hc])
   have Hr:Hid (colR l day id=o):=Lib.hid Z3x
   clear hc
   go_enter Tryz.func32,Tryz.ntmps32
   go_wp2_with (first
    | (go_at_call 82;(with_reducible refine hL.mono ?_);rintro e w2 ⟨v,rfl,hb2,ho2⟩;obtain ⟨va,vc,rfl,_⟩:=owns_slice ho2;have hR2:=(hb2.block w.heap.size (by simp)).trans hR0;have hi2:=(ItmsAt.of_owns ho2 (by omega) hcw).below (one_alloc w2 (Obj.cells #[.int .i64 x.id,.string x.wa,.int .i64 x.pit,.int .i64 x.ly,.int .i64 x.co,.bool x.ft] 72));have hR3:=alKeep (o':=Obj.cells #[.int .i64 x.id,.string x.wa,.int .i64 x.pit,.int .i64 x.ly,.int .i64 x.co,.bool x.ft] 72) hR2)
    | (go_at_call 89;(with_reducible refine (hCo _ va vc hi2).mono ?_);rintro e w4 ⟨rfl,hb4⟩;have hR4:=(hb4.block w.heap.size (Array.getElem?_eq_some_iff.1 hR3).1).trans hR3;obtain ⟨q0,q1,q2,q3,qf,ql⟩:=cell4s hR4))
   have hB4:=((hB0.ch2 hb2).ch2 (one_alloc w2 (Obj.cells #[.int .i64 x.id,.string x.wa,.int .i64 x.pit,.int .i64 x.ly,.int .i64 x.co,.bool x.ft] 72))).ch2 hb4
   have hK4:=alKeep (o':=Obj.cells #[.int .i64 o.lo,.int .i64 o.hi,.int .i64 o.lob,.int .i64 o.hib] 43) (SLG.heap_set4 hR4 (.int .i64 (o.lo)) (.int .i64 (o.hi)) (.int .i64 (o.lob)) (.int .i64 (o.hib)))
   have HB:=Lib.hid ((hB4.trans ((SLG.chg_set4 (E:=[w.heap.size]) (N:=w.heap.size) w4 (by simp) (.int .i64 (o.lo)) (.int .i64 (o.hi)) (.int .i64 (o.lob)) (.int .i64 (o.hib))).belowE_w hB4.size (by simp))).ch2 (one_alloc _ (Obj.cells #[.int .i64 o.lo,.int .i64 o.hi,.int .i64 o.lob,.int .i64 o.hib] 43)))
   obtain ⟨k0,k1,k2,k3,kf,kl⟩:=cell4s hK4
   have HB2:=HB.out
   clear hK4 HB q0 q1 q2 q3 qf ql
   generalize ((((w4.setCell ⟨w.heap.size,0,none⟩ (.int .i64 (o.lo))).setCell ⟨w.heap.size,1,none⟩ (.int .i64 (o.hi))).setCell ⟨w.heap.size,2,none⟩ (.int .i64 (o.lob))).setCell ⟨w.heap.size,3,none⟩ (.int .i64 (o.hib))).alloc (Obj.cells #[.int .i64 o.lo,.int .i64 o.hi,.int .i64 o.lob,.int .i64 o.hib] 43)=WF at *
   exact bodyPost_ret (v:=.tuple #[.agg #[.int .i64 (o.lo),.int .i64 (o.hi),.int .i64 (o.lob),.int .i64 (o.hib)],.int .i64 0]) Z3d rfl (HP.out WF _ _ Hr.out He.out HB2)
 ·have He0:colE l day id=lookE l day id:=by rw [HE.out,if_neg h0]
  have Hr:Hid (colR l day id=⟨0,0,0,0⟩):=Lib.hid Z4r
  have hle:(lookR l day id).length≤300:=by unfold lookR;rw [if_neg h0];simp
  have hcw2:∀ y ∈ lookR l day id,y.Wide:=by unfold lookR;rw [if_neg h0];intro y hy;cases hy
  generalize lookE l day id=E at *
  have e2:(E != 0)=true:=by simpa using h0
  have He:Hid (colE l day id=E):=Lib.hid He0
  simp only [Spn.v,Spn.cs] at HP
  clear h0 He0 HE HR hRl
  generalize lookR l day id=S at *
  go_enter Tryz.func32,Tryz.ntmps32
  go_wp2_with (go_at_call 82;(with_reducible refine hL.mono ?_);rintro e w2 ⟨v,rfl,hb2,ho2⟩;obtain ⟨va,vc,rfl,_⟩:=owns_slice ho2;have hR2:=(hb2.block w.heap.size (by simp)).trans hR0;obtain ⟨q0,q1,q2,q3,qf,ql⟩:=cell4s hR2)
  have hB2:=hB0.ch2 hb2
  have hK4:=alKeep (o':=Obj.cells #[.int .i64 x.id,.string x.wa,.int .i64 x.pit,.int .i64 x.ly,.int .i64 x.co,.bool x.ft] 72) (SLG.heap_set4 hR2 (.int .i64 (0)) (.int .i64 (0)) (.int .i64 (0)) (.int .i64 (0)))
  have HB:=Lib.hid ((hB2.trans ((SLG.chg_set4 (E:=[w.heap.size]) (N:=w.heap.size) w2 (by simp) (.int .i64 (0)) (.int .i64 (0)) (.int .i64 (0)) (.int .i64 (0))).belowE_w hB2.size (by simp))).ch2 (one_alloc _ (Obj.cells #[.int .i64 x.id,.string x.wa,.int .i64 x.pit,.int .i64 x.ly,.int .i64 x.co,.bool x.ft] 72)))
  obtain ⟨k0,k1,k2,k3,kf,kl⟩:=cell4s hK4
  have HB2:=HB.out
  clear hK4 HB q0 q1 q2 q3 qf ql
  generalize ((((w2.setCell ⟨w.heap.size,0,none⟩ (.int .i64 (0))).setCell ⟨w.heap.size,1,none⟩ (.int .i64 (0))).setCell ⟨w.heap.size,2,none⟩ (.int .i64 (0))).setCell ⟨w.heap.size,3,none⟩ (.int .i64 (0))).alloc (Obj.cells #[.int .i64 x.id,.string x.wa,.int .i64 x.pit,.int .i64 x.ly,.int .i64 x.co,.bool x.ft] 72)=WF at *
  exact bodyPost_ret (v:=.tuple #[.agg #[.int .i64 (0),.int .i64 (0),.int .i64 (0),.int .i64 (0)],.int .i64 E]) Z3d rfl (HP.out WF _ _ Hr.out He.out HB2)
end Go.Proofs.YtelkcohhagblaaaGreat

/- What the functions answer, for every input. -/
import Derived.Test.YtelkcohhagblaaaGreatSe37
import Derived.Test.YtelkcohhagblaaaGreatSe10
set_option linter.unusedSimpArgs false
set_option linter.unusedVariables false
set_option linter.unnecessarySimpa false
namespace Go.Proofs.YtelkcohhagblaaaGreat
open Go.RowKit Go.Shelf
set_option maxHeartbeats 8000000
set_option maxRecDepth 100000
attribute [local go_sem] Oper.semAt_some
theorem sto_k {Fe:Nat→List Nat} {w':World} {N base n i:Nat} {cs:Array Value} {f:Value→Array Value} {v:Value} {bs:List Value} {t t2:TypeId} {K:World→Prop} (hbl:w'.heap[N]?=some (.cells cs t (0,0))) (hf:cs.setIfInBounds i v=f v) (hR:w'.ownsRow base t2 4 v n bs) (hN:∀ k ∈ v.ownBlock.toList,k ∉ [N]) (e4:Fe 4=v.ownBlock.toList) (e7:Fe 7=[N])
 (hK:∀ (w1:World) (F:List Nat),SL.Chg (List.flatMap Fe [4,7]) w' w1→(∃ v',∃ F1 F2,(0≤N∧w1.heap[N]?=some (.cells (f v') t (0,0))∧F1=[N])∧(w1.ownsRow base t2 4 v' n bs∧F2=v'.ownBlock.toList)∧F=F1 ++F2)→(∀ k ∈ F,k ∈ List.flatMap Fe [4,7]∨w'.heap.size≤k∧k<w1.heap.size)→K w1):K (w'.setCell ⟨N,i,none⟩ v):=by
 have e:List.flatMap Fe [4,7]=v.ownBlock.toList ++[N]:=by simp [e4,e7]
 refine hK _ ([N] ++v.ownBlock.toList) (.setCell _ (by rw [e];simp) _) ⟨v,_,_,⟨Nat.zero_le _,by rw [SL.heap_set hbl v,hf],rfl⟩,⟨SL.row_set hR (fun hm=>hN _ hm (by simp)) _,rfl⟩,rfl⟩ ?_
 intro k hk
 left
 rw [e]
 simp at hk ⊢
 rcases hk with h | h
 ·exact .inr h
 ·exact .inl h
theorem set3 {W:World} {N:Nat} {a b c:Value} {t:TypeId} (h:W.heap[N]?=some (.cells #[a,b,c] t (0,0))) (x y z:Value):(((W.setCell ⟨N,0,none⟩ x).setCell ⟨N,1,none⟩ y).setCell ⟨N,2,none⟩ z).heap[N]?=some (.cells #[x,y,z] t (0,0))∧SL.Chg [N] W (((W.setCell ⟨N,0,none⟩ x).setCell ⟨N,1,none⟩ y).setCell ⟨N,2,none⟩ z):=by
 have k:=SL.heap_set (SL.heap_set (SL.heap_set h x (i:=0)) y (i:=1)) z (i:=2)
 exact ⟨by simpa using k,((SL.Chg.setCell _ (by simp) x).trans (.setCell _ (by simp) y)).trans (.setCell _ (by simp) z)⟩
theorem grown_def {W W':World} {row:Option Nat} {D:Nat} {o:Obj} (hg:W.grownBy W' row) (h:W.heap[D]?=some o) (hr:∀ r,row=some r→D<r):W'.heap[D]?=some o :=
 (hg.block D (Array.getElem?_eq_some_iff.1 h).1 (fun e=>by have:=hr D e.symm;omega)).trans h
theorem out_leaves {w W:World} {co:Int} {v1 v2:Value} {L1 L2:List Bd} {B base:Nat} {tmps:Array Value} {D:List Deferred} {Post:Ending→World→Prop} (h4:tmps.getD 4 undef=.pointer (some ⟨w.heap.size +1,0,none⟩))
 (hw:w.heap.size≤base) (hB:base≤B) (hD:Marks_w B D W) (hR:W.heap[w.heap.size +1]?=some (.cells #[.int .i64 co,v1,v2] 52 (0,0))) (r1:W.ownsRow base 69 4 v1 L1.length (bcs L1)) (r2:W.ownsRow base 69 4 v2 L2.length (bcs L2)) (hb:Below w.heap.size w W)
 (hP:∀ W',Below w.heap.size w W'→W'.ownsRow w.heap.size 69 4 v1 L1.length (bcs L1)→W'.ownsRow w.heap.size 69 4 v2 L2.length (bcs L2)→Post (.returned (.agg #[.int .i64 co,v1,v2])) W') :
 LeavesInM Fence.wide 0 Tryz.prog Tryz.f83 tmps Post D .returning W:=by
 refine leaves_marks_w (B:=B) (by simp) (fun W=>W.heap[w.heap.size +1]?=some (.cells #[.int .i64 co,v1,v2] 52 (0,0))∧W.ownsRow base 69 4 v1 L1.length (bcs L1)∧W.ownsRow base 69 4 v2 L2.length (bcs L2)∧Below w.heap.size w W) ?_ ?_ D W hD ⟨hR,r1,r2,hb⟩
 ·rintro W1 k hk ⟨a1,a2,a3,a4⟩ hd
  have hg:=grownBy_putObj' W1 k (.deferred none)
  have hk2:=KeepC_w.of_grown hg fun r e=>by cases e;exact ⟨_,hd,rfl⟩
  exact ⟨hk2.cells _ _ _ _ a1,row_keepC_w a2 hk2,row_keepC_w a3 hk2,a4.grown hg a4.size (fun r e=>by cases e;omega)⟩
 ·rintro W1 ⟨a1,a2,a3,a4⟩
  obtain ⟨g0,g1,g2,_,_⟩:=cell3s a1
  have h4':tmps[4]?.getD undef=.pointer (some ⟨w.heap.size +1,0,none⟩):=by simpa using h4
  have hp:=hP W1 a4 (SL.row_base a2 hw) (SL.row_base a3 hw)
  clear a1 a2 a3 a4 hP hR hb hD r1 r2
  refine ⟨_,?_,hp⟩
  simp [results,Tryz.results83,asAddr,go_sem,h4',g0,g1,g2]
theorem soutline:OutOk:=by
 intro a n cap s y w h hs hco hms
 obtain rfl:=h.len
 obtain ⟨K,hK⟩:∃ K:Nat,y.co=K:=⟨y.co.toNat,by omega⟩
 have HP:=Lib.hid (show ∀ w' v1 v2,Below w.heap.size w w'→w'.ownsRow w.heap.size 69 4 v1 (waysB y.co (keptL s 2 y.id)).length (bcs (waysB y.co (keptL s 2 y.id)))→w'.ownsRow w.heap.size 69 4 v2 (turnsB y.co (keptL s 3 y.id)).length (bcs (turnsB y.co (keptL s 3 y.id)))→OutPost w y.co (waysB y.co (keptL s 2 y.id)) (turnsB y.co (keptL s 3 y.id)) (.returned (.agg #[.int .i64 y.co,v1,v2])) w' from fun w' v1 v2 h1 h2 h3=>⟨v1,v2,rfl,h1,h2,h3⟩)
 generalize OutPost w y.co (waysB y.co (keptL s 2 y.id)) (turnsB y.co (keptL s 3 y.id))=Post at *
 have HK:=Lib.hid hK
 have hK16:K≤16:=by omega
 clear hK
 have hI0:OutI w y (.slice none 0 0) (.slice none 0 0) (sidesL 0) (bendsL 0) (((w.alloc (Obj.cells #[.int .i64 y.id,.string y.wa,.int .i64 y.pit,.int .i64 y.ly,.int .i64 y.co,.bool y.ft] 72)).alloc (Obj.cells #[.int .i64 0,.slice none 0 0,.slice none 0 0] 52)).alloc (Obj.cells #[.int .i64 y.co,.slice none 0 0,.slice none 0 0] 52)):=by
  have e1:=World.alloc_heap_new (w.alloc (Obj.cells #[.int .i64 y.id,.string y.wa,.int .i64 y.pit,.int .i64 y.ly,.int .i64 y.co,.bool y.ft] 72)) (Obj.cells #[.int .i64 0,.slice none 0 0,.slice none 0 0] 52)
  have e2:=World.alloc_heap_new ((w.alloc (Obj.cells #[.int .i64 y.id,.string y.wa,.int .i64 y.pit,.int .i64 y.ly,.int .i64 y.co,.bool y.ft] 72)).alloc (Obj.cells #[.int .i64 0,.slice none 0 0,.slice none 0 0] 52)) (Obj.cells #[.int .i64 y.co,.slice none 0 0,.slice none 0 0] 52)
  rw [World.size_alloc] at e1
  rw [World.size_alloc,World.size_alloc] at e2
  exact ⟨alKeep (alKeep (World.alloc_heap_new w _)),alKeep e1,e2,World.ownsRow_nil _ _ _ _,World.ownsRow_nil _ _ _ _,fun k hk=>by simp [Value.ownBlock] at hk,((one_alloc w _).ch2 (one_alloc _ _)).ch2 (one_alloc _ _)⟩
 simp only [Shd.v,Shd.cs]
 refine (callsIn_wide (n:=0)).1 (callsIn_of_wp_marks Tryz.func83 rfl trivial ?_)
 simp only [Tryz.ntmps83,List.size_toArray,List.length_cons,List.length_nil,Nat.reduceAdd,Nat.reduceSub,Array.replicate_succ,Array.replicate_zero,List.push_toArray,List.append_toArray,List.nil_append,List.cons_append]
 refine wpIn_wide.2 ?_
 go_wp2_with fail
 generalize (((w.alloc (Obj.cells #[.int .i64 y.id,.string y.wa,.int .i64 y.pit,.int .i64 y.ly,.int .i64 y.co,.bool y.ft] 72)).alloc (Obj.cells #[.int .i64 0,.slice none 0 0,.slice none 0 0] 52)).alloc (Obj.cells #[.int .i64 y.co,.slice none 0 0,.slice none 0 0] 52))=W0 at *
 go_loopw [6,15] (fun _ i wr=>∃ k:Nat,k≤K∧i=.int .i64 k∧∃ va,OutI w y va (.slice none 0 0) (sidesL k) (bendsL 0) wr) (fun _ i _=>K - (RowKit.intOf i).toNat)
 case atStart=>exact ⟨0,Nat.zero_le _,rfl,_,hI0⟩
 case round =>
  obtain ⟨k,hk,rfl,va,hI⟩:=hrel
  have hnn:(0:Int)≤k:=by omega
  have hyk:=HK.out
  by_cases hlt:k<K
  ·have i1:(k:Int)<y.co:=by omega
   obtain ⟨xa,xc,rfl,_⟩:=owns_slice hI.r1
   obtain ⟨q0,q1,q2,qf,ql⟩:=cell3s hI.cO
   have hsl:=World.alloc_heap_new wr (Obj.cells #[.int .i64 ((k:Int) +1),.int .i64 k,.int .i64 (-1),.int .i64 0] 69)
   have hal:=one_alloc wr (Obj.cells #[.int .i64 ((k:Int) +1),.int .i64 k,.int .i64 (-1),.int .i64 0] 69)
   have hr1:=hI.r1.up hal (Nat.le_refl _)
   have hsz:=hI.below.size
   have Hln:=Lib.hid (sidesL_len k)
   have HI:=Lib.hid hI
   clear hI hI0 hyk
   go_wp2_with (at_builtin;refine wpList_app elemB rfl _ _ rfl hr1 rfl rfl (RowAt.of_heap hsl) (m:=1) (by rfl) (fun u hu=>bcs_one [(⟨(k:Int) +1,k, -1,0⟩:Bd)] u hu) Z5h (by have:=Hln.out;omega) Zj ?_)
   intro v' w6 ho hg hb6 _ hat
   have hcg:SL.Chg (Value.slice xa (sidesL k).length xc).ownBlock.toList wr w6:=(SL.Chg.of_below hal).trans (.of_own hg (fun k hk=>by simp [hk]))
   have hoS:w6.ownsRow (w.heap.size +1 +1 +1) 69 4 v' (sidesL k ++[(⟨(k:Int) +1,k, -1,0⟩:Bd)]).length (bcs (sidesL k ++[(⟨(k:Int) +1,k, -1,0⟩:Bd)])):=by rw [List.length_append,bcs_append];exact ho
   have hatS:v'.ownBlock=(Value.slice xa (sidesL k).length xc).ownBlock∨∃ j,v'.ownBlock=some j∧wr.heap.size≤j:=by
    exact Z40
   obtain ⟨hI2,hc2,hO6⟩:=HI.out.grow1 hcg hoS hatS
   obtain ⟨y0,y1,y2,yf,yl⟩:=cell3s hO6
   obtain ⟨xb,xd,hv',_⟩:=owns_slice hoS
   obtain ⟨NN,hNN⟩:∃ N,(sidesL k ++[(⟨(k:Int) +1,k, -1,0⟩:Bd)]).length=N:=⟨_,rfl⟩
   rw [hNN] at hv'
   subst hv'
   clear hNN
   have HI2:=Lib.hid hI2
   clear hcg hoS hatS hI2 hc2 hO6 ho hg hb6 hat q0 q1 q2 qf ql hsl hal hr1
   go_wp2_with fail
   go_roundw
   case rel=>exact ⟨k +1,by omega,by go_num,_,by rw [sides_succ];exact HI2.out⟩
   case measure=>simp [RowKit.intOf];omega
  ·have hk2:k=K:=by omega
   have i1:¬ (k:Int)<y.co:=by omega
   subst hk2
   have HI:=Lib.hid hI
   obtain ⟨p0,p1,p2,p3,p4,p5,pf,pl⟩:=cell6 hI.cX
   have hwr:IntKind.i64.wrap (y.co - 1)=y.co - 1:=IntWalk.i64_in _ (by omega)
   clear hI hI0 hyk
   go_wp2_with fail
   clear p0 p1 p2 p3 p4 p5 pf pl
   go_loopw [7,31] (fun _ i wr=>∃ q:Nat,q +1≤k∧i=.int .i64 q∧∃ vb,OutI w y va vb (sidesL k) (bendsL q) wr) (fun _ i _=>k - (RowKit.intOf i).toNat)
   case atStart=>exact ⟨0,by have:=HK.out;omega,rfl,_,HI.out⟩
   case round =>
    clear HI
    obtain ⟨q,hq,rfl,vb,hI⟩:=hrel
    have hnn:(0:Int)≤q:=by omega
    have hyk:=HK.out
    by_cases hlt:q +1<k
    ·have i2:(q:Int)<y.co - 1:=by omega
     obtain ⟨xa,xc,rfl,_⟩:=owns_slice hI.r2
     obtain ⟨q0,q1,q2,qf,ql⟩:=cell3s hI.cO
     have hsl:=World.alloc_heap_new wr (Obj.cells #[.int .i64 q,.int .i64 ((q:Int) +1),.int .i64 179,.int .i64 0,.int .i64 ((q:Int) +1),.int .i64 q,.int .i64 179,.int .i64 0] 69)
     have hal:=one_alloc wr (Obj.cells #[.int .i64 q,.int .i64 ((q:Int) +1),.int .i64 179,.int .i64 0,.int .i64 ((q:Int) +1),.int .i64 q,.int .i64 179,.int .i64 0] 69)
     have hr1:=hI.r2.up hal (Nat.le_refl _)
     have hsz:=hI.below.size
     have Hln:=Lib.hid (bendsL_len q)
     have HI:=Lib.hid hI
     clear hI hyk
     go_wp2_with (at_builtin;refine wpList_app elemB rfl _ _ rfl hr1 rfl rfl (RowAt.of_heap hsl) (m:=2) (by rfl) (fun u hu=>bcs_one [(⟨(q:Int),(q:Int) +1,179,0⟩:Bd),⟨(q:Int) +1,q,179,0⟩] u hu) Z5h (by have:=Hln.out;omega) Zj ?_)
     intro v' w6 ho hg hb6 _ hat
     have hcg:SL.Chg (Value.slice xa (bendsL q).length xc).ownBlock.toList wr w6:=(SL.Chg.of_below hal).trans (.of_own hg (fun k hk=>by simp [hk]))
     have hoS:w6.ownsRow (w.heap.size +1 +1 +1) 69 4 v' (bendsL q ++[(⟨(q:Int),(q:Int) +1,179,0⟩:Bd),⟨(q:Int) +1,q,179,0⟩]).length (bcs (bendsL q ++[(⟨(q:Int),(q:Int) +1,179,0⟩:Bd),⟨(q:Int) +1,q,179,0⟩])):=by rw [List.length_append,bcs_append];exact ho
     have hatS:v'.ownBlock=(Value.slice xa (bendsL q).length xc).ownBlock∨∃ j,v'.ownBlock=some j∧wr.heap.size≤j:=by
      exact Z40
     obtain ⟨hI2,hc2,hO6⟩:=HI.out.grow2 hcg hoS hatS
     obtain ⟨y0,y1,y2,yf,yl⟩:=cell3s hO6
     obtain ⟨xb,xd,hv',_⟩:=owns_slice hoS
     obtain ⟨NN,hNN⟩:∃ N,(bendsL q ++[(⟨(q:Int),(q:Int) +1,179,0⟩:Bd),⟨(q:Int) +1,q,179,0⟩]).length=N:=⟨_,rfl⟩
     rw [hNN] at hv'
     subst hv'
     clear hNN
     have HI2:=Lib.hid hI2
     clear hcg hoS hatS hI2 hc2 hO6 ho hg hb6 hat q0 q1 q2 qf ql hsl hal hr1
     go_wp2_with fail
     go_roundw
     case rel=>exact ⟨q +1,by omega,by go_num,_,by rw [bends_succ];exact HI2.out⟩
     case measure=>simp [RowKit.intOf];omega
    ·have i2:¬ (q:Int)<y.co - 1:=by omega
     have hqk:q=k - 1:=by omega
     subst hqk
     have HI:=Lib.hid hI
     obtain ⟨p0,p1,p2,p3,p4,p5,pf,pl⟩:=cell6 hI.cX
     clear hI hyk
     go_wp2_with (go_at_call 99;refine (skept _ _ _ _ _ _).mono ?_;rintro e w1 ⟨rfl,rfl⟩)
     have hou:=HI.out
     have hK0:KptI w a s.length cap wr.heap.size 2 y (sidesL k) (bendsL (k - 1)) (((wr.alloc (Obj.cells #[.slice a s.length cap] 116)).alloc (Obj.cells #[.int .u8 2] 5)).alloc (Obj.cells #[.int .i64 y.id] 3)):=KptI.start hou
     generalize hW1:(((wr.alloc (Obj.cells #[.slice a s.length cap] 116)).alloc (Obj.cells #[.int .u8 2] 5)).alloc (Obj.cells #[.int .i64 y.id] 3))=W1 at *
     have hz1:W1.heap.size=wr.heap.size +1 +1 +1:=by rw [← hW1];simp
     clear hW1 p0 p1 p2 p3 p4 p5 pf pl hou
     have HS:=Lib.hid (fun kd BS BK BI=>skept1 a s.length cap s kd y.id BS BK BI (by omega))
     clear HI
     generalize wr.heap.size=B1 at *
     clear wr
     have gro:∀ kd B L1 L2 W W' N row,B +1 +1<N→KptI w a s.length cap B kd y L1 L2 W→W.grownBy W' row→(∀ r,row=some r→N≤r∧∃ o:Obj,W.heap[r]?=some o∧o.isCells=false)→KptI w a s.length cap B kd y L1 L2 W':=fun kd B L1 L2 W W' N row hN h1 hg hr =>
      h1.grown (KeepC_w.of_grown hg fun r e=>(hr r e).2) (h1.below.grown hg h1.below.size fun r e=>by have:=(hr r e).1;have:=h1.lo;omega)
     have hC:∀ kd B L1 L2 W,KptI w a s.length cap B kd y L1 L2 W→W.cell? ⟨B,0,none⟩=some (.slice a s.length cap)∧W.cell? ⟨B +1,0,none⟩=some (.int .u8 kd)∧W.cell? ⟨B +1 +1,0,none⟩=some (.int .i64 y.id)∧ItmsAt W a s.length cap s:=fun kd B L1 L2 W hN =>
      ⟨by have:=(SL.cells_of hN.cS).1 0;simpa using this,by have:=(SL.cells_of hN.cK).1 0;simpa using this,by have:=(SL.cells_of hN.cI).1 0;simpa using this,h.below hN.below⟩
     refine range_iter' (gf:=165) (lb:=#[.pointer (some ⟨B1,0,none⟩),.pointer (some ⟨B1 +1,0,none⟩),.pointer (some ⟨B1 +1 +1,0,none⟩)]) Z2a (enters_of Tryz.func165 Zk rfl) (HS.out 2 _ _ _)
      (fun pre W=>KptI w a s.length cap B1 2 y (sidesL k ++msB pre) (bendsL (k - 1)) W)
      (fun _ _ _=>False)
      ?_ ?_ ?_ (by simpa [msB] using hK0) [8,52] (fun x us W=>∃ b,us 8=.pointer (some ⟨b,0,none⟩)∧W.heap[b]?=some (.cells x.cs.toArray 24 (0,0))∧W1.heap.size≤b) ?_ ?_ ?_ ?_ ?_
     ·rintro pre Wa Wb row h1 hg hr
      exact gro _ _ _ _ _ _ _ _ (by omega) h1 hg hr
     ·exact Z5n
     ·rintro pre W h1
      exact hC _ _ _ _ _ h1
     ·exact Z75
     ·rintro lid pre x post Wa K he hN hK
      have hw:W1.heap.size≤Wa.heap.size:=by
       exact Z2g
      have hK2:=hK
      clear hK
      simp only [Itm.v,Itm.cs]
      have HK3:=Lib.hid hK2
      clear hK2
      gi_wp2_with fail
      refine HK3.out _ _ ?_ ?_ ?_ ?_ ?_
      ·exact Z11
      ·exact Z2u
      ·rfl
      ·rfl
      ·exact Z5d
     ·rintro lid pre x post us Wa hl' he hN ⟨b,h6,hb,hbz⟩
      simp only [frame'_w,SL.put',List.toList_toArray,List.contains_cons,List.contains_nil,Nat.reduceAdd,Nat.reduceBEq,Bool.or_false,Bool.or_true,Bool.false_or,Bool.true_or,if_true,Bool.false_eq_true,if_false,h6]
      obtain ⟨⟨v1,v2,hO,hnb⟩,hcS,hcK,hcI,hlo⟩:=hN
      have hxm:x ∈ keptL s 2 y.id:=by rw [he];simp
      have hxs:x ∈ s∧x.kd=2∧x.sh=y.id:=by simpa [keptL] using hxm
      have hxlo:=hms x hxs.1 (.inl hxs.2.1) hxs.2.2
      have hpl:pre.length≤300:=by
       have h1:=congrArg List.length he
       have h2:(keptL s 2 y.id).length≤s.length:=List.length_filter_le _ _
       simp at h1
       omega
      have hLn:(sidesL k ++msB pre).length≤1000:=by rw [List.length_append,sidesL_len,msB_len];omega
      have Hms:=Lib.hid (show sidesL k ++msB (pre ++[x])=(sidesL k ++msB pre) ++bothL x by unfold msB;simp)
      generalize sidesL k ++msB pre=L at *
      have hrow:=hO.r1
      obtain ⟨va,vc,rfl,_⟩:=owns_slice hrow
      obtain ⟨n1,hn1⟩:∃ N,L.length=N:=⟨_,rfl⟩
      rw [hn1] at hrow hO hnb hLn
      have hb1:=fun k hk=>SL.row_bounds hrow k hk
      have hcO:=hO.cO
      have hBw:=hO.below
      have zb:=(Array.getElem?_eq_some_iff.1 hb).1
      have zO:=(Array.getElem?_eq_some_iff.1 hcO).1
      have zW:W1.heap.size≤Wa.heap.size:=by
       exact Z4p
      have hApart:([[w.heap.size +1 +1],(Value.slice va n1 vc).ownBlock.toList]:List (List Nat)).Pairwise fun L M=>∀ k ∈ L,k ∉ M:=by
       exact Z2b
      have hF0:∀ j ∈ (w.heap.size +1 +1)::(Value.slice va n1 vc).ownBlock.toList,w.heap.size≤j:=by
       exact Z3a
      have hOW:w.heap.size +1 +1<W1.heap.size:=by omega
      have hnbE:b ∉ (w.heap.size +1 +1)::(Value.slice va n1 vc).ownBlock.toList:=by
       exact Z1c
      simp only [Itm.cs] at hb
      have HN:=Lib.hid (show KptI w a s.length cap B1 2 y L (bendsL (k - 1)) Wa from ⟨⟨_,v2,hO,hnb⟩,hcS,hcK,hcI,hlo⟩)
      have HO:=Lib.hid hO
      have HNB:=Lib.hid hnb
      have Hn1:=Lib.hid hn1
      have HB1:=Lib.hid hb1
      clear hO hnb hcS hcK hcI hlo hn1 hb1 gro hC he hxm hxs hpl hms HP HS hl' h hs hK0 hz1
      refine wpIn_block ?_
      apply SLG.rule (ro:=some lid) ?hm ((w.heap.size +1 +1)::(Value.slice va n1 vc).ownBlock.toList) [53,54,55,56,57,58] [SLF.pq 53 [] _,SL.pu 54 [0,7] (.slice va n1 vc),SL.pu 55 [] (.agg #[.int .i64 x.id,.int .i64 x.kn,.int .u8 x.kd,.string x.wa,.int .i64 x.pit,.int .i64 x.ly,.int .i64 x.co,.bool x.ft,.int .i64 x.sh,.int .i64 x.fr,.int .i64 x.tw,.int .i64 x.lo,.int .i64 x.hi,.string x.st,.int .i64 x.li,.int .i64 x.vo]),SL.row 56 [2] [] Wa.heap.size 69 4 2 (bcs (bothL x)),SL.aw 57 [1,3,8] [8] (fun v=>.row (w.heap.size +1 +1 +1) 69 4 v (n1 +2) (bcs L ++bcs (bothL x))),SLF.pq 58 [] _,SL.aw 0 [4,5,7] [4,7] (fun _=>.ex fun v:Value=>.sep (.blk 0 (w.heap.size +1 +1) 52 #[.int .i64 y.co,v,v2]) (.row (w.heap.size +1 +1 +1) 69 4 v (n1 +2) (bcs L ++bcs (bothL x)))),SL.boxAt 5 [] [] (w.heap.size +1 +1) 52 #[.int .i64 y.co,.slice va n1 vc,v2],SL.aw 0 [] [] (fun _=>.row (w.heap.size +1 +1 +1) 69 4 (.slice va n1 vc) n1 (bcs L))] [6] ?hck ?hkp (SL.heldL 7 [[w.heap.size +1 +1],(Value.slice va n1 vc).ownBlock.toList]) ?hin ?hdj ?hfr ?ob ?en1
      case hm=>kernel_rfl
      case hin=>exact SL.held_all [SL.boxAt 5 [] [] (w.heap.size +1 +1) 52 #[.int .i64 y.co,.slice va n1 vc,v2],SL.aw 0 [] [] (fun _=>.row (w.heap.size +1 +1 +1) 69 4 (.slice va n1 vc) n1 (bcs L))] rfl ⟨⟨⟨rfl,hcO,rfl⟩,fun j hj=>⟨by simp at hj;simp [hj],by simp at hj;omega⟩⟩,⟨SL.aw_in ⟨hrow,rfl⟩,fun j hj=>⟨by simp at hj ⊢;simp [hj],(HB1.out j hj).2⟩⟩,trivial⟩
      case hdj=>exact SL.heldL_apart hApart
      case hfr=>intro us;simp only [SL.frame,SL.put'];simp;exact rfl
      case ob =>
       refine ⟨?_,?_,?_,?_,?_,?_,?_,trivial⟩
       all_goals first
        | (exact Z7q)
        | skip
       ·exact Z69
       ·exact Z68
       ·exact Z65
       ·exact Z63
       ·refine SLG.ob_no rfl rfl rfl fun us w' Fe hG hu hd Kx hK=>?_
        try dsimp only
        simp [SL.O] at hu
        have hB5:Below w.heap.size w w':=hBw.trans (hG.belowF hBw.size hF0)
        obtain ⟨hc5,hf5⟩:=bcell hB5
        have hs5:=hB5.size
        obtain ⟨hc6,hf6⟩:=hG.cellsF
        refine SLF.wpo_do (SLF.wanted_free rfl) ?hd ?_
        case hd=>intro c h;cases h
        obtain ⟨h4,⟨e5,_⟩,_,hbl,e7⟩:=hu
        obtain ⟨hr4,e4⟩:=SL.aw_out h4
        have hd1:=hd 4 7 Z3m Z3m (by simp)
        rw [e4,e7] at hd1
        obtain ⟨xa,xc,hv,_⟩:=owns_slice hr4
        have HR:=Lib.hid (hv ▸ hr4:w'.ownsRow (w.heap.size +1 +1 +1) 69 4 (.slice xa (n1 +2) xc) (n1 +2) (bcs L ++bcs (bothL x)))
        have HD:=Lib.hid hd1
        have HE4:=Lib.hid e4
        clear hr4 h4 hd1 e4
        obtain ⟨y0,y1,y2,yf,yl⟩:=cell3s hbl
        clear hc5 hf5 hc6 hf6
        go_step
        exact sto_k (f:=fun v=>#[.int .i64 y.co,v,v2]) hbl (by simp) HR.out (by rw [← hv];exact HD.out) (by rw [← hv];exact HE4.out) e7 (fun w1 F h1 h2 h3=>hK w1 F h1 (SL.aw_in h2) h3)
      case hck=>kernel_rfl
      case hkp=>kernel_rfl
      intro us7 w7 Fs7 hG hu hbd hd
      simp [SL.Used,SL.aw_sub] at hu
      obtain ⟨v',F1,F2,⟨_,hbl,rfl⟩,⟨hr,rfl⟩,hF⟩:=SL.aw_out hu
      have hG7:SL.Chg ((w.heap.size +1 +1)::(Value.slice va n1 vc).ownBlock.toList) Wa w7:=hG.undrew
      have hat:∀ k ∈ v'.ownBlock.toList,k ∈ (Value.slice va n1 vc).ownBlock.toList∨Wa.heap.size≤k:=fun k hk=>by
       exact Z1q
      have hr':w7.ownsRow (w.heap.size +1 +1 +1) 69 4 v' (L ++bothL x).length (bcs (L ++bothL x)):=by rw [List.length_append,bcs_append,Hn1.out];exact hr
      have hN:=HN.out
      have hB:∀ j,B1≤j→j≤B1 +1 +1→j<Wa.heap.size→w7.heap[j]?=Wa.heap[j]?:=fun j h1 h2 h3=>hG7.block j h3 fun hm=>by
       rcases List.mem_cons.1 hm with e | hm
       ·have:=hN.lo;omega
       ·have:=HNB.out j (List.mem_append.2 (.inl hm));omega
      refine ⟨keeps_cellsT hG7 fun j hj=>?_,?_⟩
      ·exact Z3h
      ·show KptI _ _ _ _ _ _ _ (sidesL k ++msB (pre ++[x])) _ _
       rw [Hms.out]
       refine ⟨⟨v',v2,HO.out.put1 hG7 hbl hr' hat,fun j hj=>?_⟩,(hB _ (by omega) (by omega) (Array.getElem?_eq_some_iff.1 hN.cS).1).trans hN.cS,(hB _ (by omega) (by omega) (Array.getElem?_eq_some_iff.1 hN.cK).1).trans hN.cK,(hB _ (by omega) (by omega) (Array.getElem?_eq_some_iff.1 hN.cI).1).trans hN.cI,hN.lo⟩
       have zI:=(Array.getElem?_eq_some_iff.1 hN.cI).1
       rcases List.mem_append.1 hj with h1 | h1
       ·rcases hat j h1 with h2 | h2
        ·exact HNB.out j (List.mem_append.2 (.inl h2))
        ·right;omega
       ·exact HNB.out j (List.mem_append.2 (.inr h1))
     ·rintro D1 W2 hD1 hN hdef1
      have HW:=Lib.hid (show sidesL k ++msB (keptL s 2 y.id)=waysB y.co (keptL s 2 y.id) by unfold waysB;rw [HK.out];rfl)
      have HT:=Lib.hid (show ∀ p,bendsL (k - 1) ++msB p=turnsB y.co p from fun p=>by unfold turnsB;rw [HK.out];rfl)
      have hlo1:=hN.lo
      obtain ⟨⟨u1,u2,hou, -⟩, -, -, -, -⟩:=hN
      rw [HW.out] at hou
      have HI:=Lib.hid hou
      obtain ⟨p0,p1,p2,p3,p4,p5,pf,pl⟩:=cell6 hou.cX
      have hD2:D1<W2.heap.size:=(Array.getElem?_eq_some_iff.1 hdef1).1
      have HD1:=Lib.hid hdef1
      have GRO:=Lib.hid gro
      have HC:=Lib.hid hC
      clear hou hdef1 gro hC hK0
      go_wp2_with (go_at_call 99;refine (skept _ _ _ _ _ _).mono ?_;rintro e w1 ⟨rfl,rfl⟩)
      have gro:=GRO.out
      have hC:=HC.out
      have hK0:KptI w a s.length cap W2.heap.size 3 y (waysB y.co (keptL s 2 y.id)) (bendsL (k - 1)) (((W2.alloc (Obj.cells #[.slice a s.length cap] 116)).alloc (Obj.cells #[.int .u8 3] 5)).alloc (Obj.cells #[.int .i64 y.id] 3)):=KptI.start HI.out
      have hdef1':(((W2.alloc (Obj.cells #[.slice a s.length cap] 116)).alloc (Obj.cells #[.int .u8 3] 5)).alloc (Obj.cells #[.int .i64 y.id] 3)).heap[D1]?=some (.deferred (some [])):=alKeep (alKeep (alKeep HD1.out))
      generalize hW3:(((W2.alloc (Obj.cells #[.slice a s.length cap] 116)).alloc (Obj.cells #[.int .u8 3] 5)).alloc (Obj.cells #[.int .i64 y.id] 3))=W3 at *
      have hz3:W3.heap.size=W2.heap.size +1 +1 +1:=by rw [← hW3];simp
      have hD3:D1<W3.heap.size:=by omega
      have hD0:w.heap.size +1 +1 +1≤D1:=by omega
      have hw2:w.heap.size +1 +1<W2.heap.size:=(Array.getElem?_eq_some_iff.1 HI.out.cO).1
      clear hW3 p0 p1 p2 p3 p4 p5 pf pl HI HD1 hD2
      generalize W2.heap.size=B2 at *
      clear W2
      refine range_iter' (gf:=165) (lb:=#[.pointer (some ⟨B2,0,none⟩),.pointer (some ⟨B2 +1,0,none⟩),.pointer (some ⟨B2 +1 +1,0,none⟩)]) Z2a (enters_of Tryz.func165 Zk rfl) (HS.out 3 _ _ _)
       (fun pre W=>KptI w a s.length cap B2 3 y (waysB y.co (keptL s 2 y.id)) (bendsL (k - 1) ++msB pre) W∧W.heap[D1]?=some (.deferred (some [])))
       (fun _ _ _=>False)
       ?_ ?_ ?_ ⟨by simpa [msB] using hK0,hdef1'⟩ [9,63] (fun x us W=>∃ b,us 9=.pointer (some ⟨b,0,none⟩)∧W.heap[b]?=some (.cells x.cs.toArray 24 (0,0))∧W3.heap.size≤b) ?_ ?_ ?_ ?_ ?_
      ·rintro pre Wa Wb row ⟨h1,h2⟩ hg hr
       exact ⟨gro _ _ _ _ _ _ _ _ (by omega) h1 hg hr,grown_def hg h2 (fun r e=>by have:=(hr r e).1;omega)⟩
      ·exact Z5n
      ·rintro pre W h1
       exact hC _ _ _ _ _ h1.1
      ·exact Z75
      ·rintro lid pre x post Wa K he ⟨hN,hdf⟩ hK
       have hw:W3.heap.size≤Wa.heap.size:=by
        exact Z2g
       have hK2:=hK
       clear hK
       simp only [Itm.v,Itm.cs]
       have HK3:=Lib.hid hK2
       clear hK2
       gi_wp2_with fail
       refine HK3.out _ _ ?_ ?_ ?_ ?_ ?_
       ·exact Z11
       ·exact ⟨hN.grown ⟨by simp,fun _ _ _ _ h=>alKeep h⟩ (hN.below.ch2 (one_alloc _ _)),alKeep hdf⟩
       ·rfl
       ·rfl
       ·exact Z5d
      ·rintro lid pre x post us Wa hl' he ⟨hN,hdf⟩ ⟨b,h6,hb,hbz⟩
       simp only [frame'_w,SL.put',List.toList_toArray,List.contains_cons,List.contains_nil,Nat.reduceAdd,Nat.reduceBEq,Bool.or_false,Bool.or_true,Bool.false_or,Bool.true_or,if_true,Bool.false_eq_true,if_false,h6]
       obtain ⟨⟨v1,v2,hO,hnb⟩,hcS,hcK,hcI,hlo⟩:=hN
       have hxm:x ∈ keptL s 3 y.id:=by rw [he];simp
       have hxs:x ∈ s∧x.kd=3∧x.sh=y.id:=by simpa [keptL] using hxm
       have hxlo:=hms x hxs.1 (.inr hxs.2.1) hxs.2.2
       have hpl:pre.length≤300:=by
        have h1:=congrArg List.length he
        have h2:(keptL s 3 y.id).length≤s.length:=List.length_filter_le _ _
        simp at h1
        omega
       have hLn:(bendsL (k - 1) ++msB pre).length≤1000:=by rw [List.length_append,bendsL_len,msB_len];omega
       have Hms:=Lib.hid (show bendsL (k - 1) ++msB (pre ++[x])=(bendsL (k - 1) ++msB pre) ++bothL x by unfold msB;simp)
       generalize bendsL (k - 1) ++msB pre=L at *
       have hrow:=hO.r2
       obtain ⟨va,vc,rfl,_⟩:=owns_slice hrow
       obtain ⟨n1,hn1⟩:∃ N,L.length=N:=⟨_,rfl⟩
       rw [hn1] at hrow hO hnb hLn
       have hb1:=fun k hk=>SL.row_bounds hrow k hk
       have hcO:=hO.cO
       have hBw:=hO.below
       have zb:=(Array.getElem?_eq_some_iff.1 hb).1
       have zO:=(Array.getElem?_eq_some_iff.1 hcO).1
       have zW:W3.heap.size≤Wa.heap.size:=by
        exact Z4p
       have hApart:([[w.heap.size +1 +1],(Value.slice va n1 vc).ownBlock.toList]:List (List Nat)).Pairwise fun L M=>∀ k ∈ L,k ∉ M:=by
        exact Z2b
       have hF0:∀ j ∈ (w.heap.size +1 +1)::(Value.slice va n1 vc).ownBlock.toList,w.heap.size≤j:=by
        exact Z3a
       have hOW:w.heap.size +1 +1<W3.heap.size:=by omega
       have hnbE:b ∉ (w.heap.size +1 +1)::(Value.slice va n1 vc).ownBlock.toList:=by
        exact Z1c
       have hnD:D1 ∉ (w.heap.size +1 +1)::(Value.slice va n1 vc).ownBlock.toList:=by
        intro hm
        rcases List.mem_cons.1 hm with e | hm
        ·rw [e,hcO] at hdf
         simp at hdf
        ·obtain ⟨_,⟨hv,_⟩ | ⟨g,cap',cur,hv,_,hg,_⟩⟩:=hrow
         ·rw [hv] at hm;simp [Value.ownBlock] at hm
         ·rw [hv] at hm
          simp [Value.ownBlock] at hm
          subst hm
          rw [hg] at hdf
          simp at hdf
       have HDF:=Lib.hid hdf
       clear hdf
       simp only [Itm.cs] at hb
       have HN:=Lib.hid (show KptI w a s.length cap B2 3 y (waysB y.co (keptL s 2 y.id)) L Wa from ⟨⟨v1,_,hO,hnb⟩,hcS,hcK,hcI,hlo⟩)
       have HO:=Lib.hid hO
       have HNB:=Lib.hid hnb
       have Hn1:=Lib.hid hn1
       have HB1:=Lib.hid hb1
       clear hO hnb hcS hcK hcI hlo hn1 hb1 gro hC he hxm hxs hpl hms HP HS hl' h hs hK0 hz3 hdef1' HW HT GRO HC
       refine wpIn_block ?_
       apply SLG.rule (ro:=some lid) ?hm ((w.heap.size +1 +1)::(Value.slice va n1 vc).ownBlock.toList) [64,65,66,67,68,69] [SLF.pq 64 [] _,SL.pu 65 [0,7] (.slice va n1 vc),SL.pu 66 [] (.agg #[.int .i64 x.id,.int .i64 x.kn,.int .u8 x.kd,.string x.wa,.int .i64 x.pit,.int .i64 x.ly,.int .i64 x.co,.bool x.ft,.int .i64 x.sh,.int .i64 x.fr,.int .i64 x.tw,.int .i64 x.lo,.int .i64 x.hi,.string x.st,.int .i64 x.li,.int .i64 x.vo]),SL.row 67 [2] [] Wa.heap.size 69 4 2 (bcs (bothL x)),SL.aw 68 [1,3,8] [8] (fun v=>.row (w.heap.size +1 +1 +1) 69 4 v (n1 +2) (bcs L ++bcs (bothL x))),SLF.pq 69 [] _,SL.aw 0 [4,5,7] [4,7] (fun _=>.ex fun v:Value=>.sep (.blk 0 (w.heap.size +1 +1) 52 #[.int .i64 y.co,v1,v]) (.row (w.heap.size +1 +1 +1) 69 4 v (n1 +2) (bcs L ++bcs (bothL x)))),SL.boxAt 5 [] [] (w.heap.size +1 +1) 52 #[.int .i64 y.co,v1,.slice va n1 vc],SL.aw 0 [] [] (fun _=>.row (w.heap.size +1 +1 +1) 69 4 (.slice va n1 vc) n1 (bcs L))] [6] ?hck ?hkp (SL.heldL 7 [[w.heap.size +1 +1],(Value.slice va n1 vc).ownBlock.toList]) ?hin ?hdj ?hfr ?ob ?en2
       case hm=>kernel_rfl
       case hin=>exact SL.held_all [SL.boxAt 5 [] [] (w.heap.size +1 +1) 52 #[.int .i64 y.co,v1,.slice va n1 vc],SL.aw 0 [] [] (fun _=>.row (w.heap.size +1 +1 +1) 69 4 (.slice va n1 vc) n1 (bcs L))] rfl ⟨⟨⟨rfl,hcO,rfl⟩,fun j hj=>⟨by simp at hj;simp [hj],by simp at hj;omega⟩⟩,⟨SL.aw_in ⟨hrow,rfl⟩,fun j hj=>⟨by simp at hj ⊢;simp [hj],(HB1.out j hj).2⟩⟩,trivial⟩
       case hdj=>exact SL.heldL_apart hApart
       case hfr=>intro us;simp only [SL.frame,SL.put'];simp;exact rfl
       case ob =>
        refine ⟨?_,?_,?_,?_,?_,?_,?_,trivial⟩
        all_goals first
         | (exact Z7q)
         | skip
        ·exact Z69
        ·exact Z68
        ·exact Z65
        ·exact Z63
        ·refine SLG.ob_no rfl rfl rfl fun us w' Fe hG hu hd Kx hK=>?_
         try dsimp only
         simp [SL.O] at hu
         have hB5:Below w.heap.size w w':=hBw.trans (hG.belowF hBw.size hF0)
         obtain ⟨hc5,hf5⟩:=bcell hB5
         have hs5:=hB5.size
         obtain ⟨hc6,hf6⟩:=hG.cellsF
         refine SLF.wpo_do (SLF.wanted_free rfl) ?hd ?_
         case hd=>intro c h;cases h
         obtain ⟨h4,⟨e5,_⟩,_,hbl,e7⟩:=hu
         obtain ⟨hr4,e4⟩:=SL.aw_out h4
         have hd1:=hd 4 7 Z3m Z3m (by simp)
         rw [e4,e7] at hd1
         obtain ⟨xa,xc,hv,_⟩:=owns_slice hr4
         have HR:=Lib.hid (hv ▸ hr4:w'.ownsRow (w.heap.size +1 +1 +1) 69 4 (.slice xa (n1 +2) xc) (n1 +2) (bcs L ++bcs (bothL x)))
         have HD:=Lib.hid hd1
         have HE4:=Lib.hid e4
         clear hr4 h4 hd1 e4
         obtain ⟨y0,y1,y2,yf,yl⟩:=cell3s hbl
         clear hc5 hf5 hc6 hf6
         go_step
         exact sto_k (f:=fun v=>#[.int .i64 y.co,v1,v]) hbl (by simp) HR.out (by rw [← hv];exact HD.out) (by rw [← hv];exact HE4.out) e7 (fun w1 F h1 h2 h3=>hK w1 F h1 (SL.aw_in h2) h3)
       case hck=>kernel_rfl
       case hkp=>kernel_rfl
       intro us7 w7 Fs7 hG hu hbd hd
       simp [SL.Used,SL.aw_sub] at hu
       obtain ⟨v',F1,F2,⟨_,hbl,rfl⟩,⟨hr,rfl⟩,hF⟩:=SL.aw_out hu
       have hG7:SL.Chg ((w.heap.size +1 +1)::(Value.slice va n1 vc).ownBlock.toList) Wa w7:=hG.undrew
       have hat:∀ k ∈ v'.ownBlock.toList,k ∈ (Value.slice va n1 vc).ownBlock.toList∨Wa.heap.size≤k:=fun k hk=>by
        exact Z1q
       have hr':w7.ownsRow (w.heap.size +1 +1 +1) 69 4 v' (L ++bothL x).length (bcs (L ++bothL x)):=by rw [List.length_append,bcs_append,Hn1.out];exact hr
       have hN:=HN.out
       have hB:∀ j,B2≤j→j≤B2 +1 +1→j<Wa.heap.size→w7.heap[j]?=Wa.heap[j]?:=fun j h1 h2 h3=>hG7.block j h3 fun hm=>by
        rcases List.mem_cons.1 hm with e | hm
        ·have:=hN.lo;omega
        ·have:=HNB.out j (List.mem_append.2 (.inr hm));omega
       refine ⟨keeps_cellsT hG7 fun j hj=>?_,?_⟩
       ·exact Z3h
       ·show KptI _ _ _ _ _ _ _ _ (bendsL (k - 1) ++msB (pre ++[x])) _∧_
        rw [Hms.out]
        have hG8:=(hG7.block D1 (Array.getElem?_eq_some_iff.1 HDF.out).1 hnD).trans HDF.out
        refine ⟨⟨⟨v1,v',HO.out.put2 hG7 hbl hr' hat,fun j hj=>?_⟩,(hB _ (by omega) (by omega) (Array.getElem?_eq_some_iff.1 hN.cS).1).trans hN.cS,(hB _ (by omega) (by omega) (Array.getElem?_eq_some_iff.1 hN.cK).1).trans hN.cK,(hB _ (by omega) (by omega) (Array.getElem?_eq_some_iff.1 hN.cI).1).trans hN.cI,hN.lo⟩,hG8⟩
        have zI:=(Array.getElem?_eq_some_iff.1 hN.cI).1
        rcases List.mem_append.1 hj with h1 | h1
        ·exact HNB.out j (List.mem_append.2 (.inl h1))
        ·rcases hat j h1 with h2 | h2
         ·exact HNB.out j (List.mem_append.2 (.inr h2))
         ·right;omega
      ·rintro D2 W4 hD2 ⟨hN,hd1⟩ hdef2
       obtain ⟨⟨v1,v2,hou, -⟩, -, -, -, -⟩:=hN
       rw [HT.out] at hou
       have HO:=Lib.hid hou
       have hlo3:w.heap.size +1 +1 +1≤W3.heap.size:=by omega
       obtain ⟨xa,xc,hv1,_⟩:=owns_slice hou.r1
       obtain ⟨ya,yc,hv2,_⟩:=owns_slice hou.r2
       obtain ⟨q0,q1,q2,qf,ql⟩:=cell3s hou.cO
       obtain ⟨r0,r1,r2,rf,rl⟩:=cell3s hou.cR
       have HD1:=Lib.hid hd1
       have HD2:=Lib.hid hdef2
       clear hou hd1 hdef2 gro hC hK0 hdef1' hz3 HS h hs hms GRO HC
       generalize (waysB y.co (keptL s 2 y.id))=A1 at *
       generalize (turnsB y.co (keptL s 3 y.id))=A2 at *
       obtain ⟨n1,hn1⟩:∃ N,A1.length=N:=⟨_,rfl⟩
       obtain ⟨n2,hn2⟩:∃ N,A2.length=N:=⟨_,rfl⟩
       rw [hn1] at hv1
       rw [hn2] at hv2
       clear hn1 hn2
       subst hv1
       subst hv2
       clear HW HT
       go_wp2_with fail
       obtain ⟨k1,k2⟩:=set3 HO.out.cR (.int .i64 y.co) (.slice xa n1 xc) (.slice ya n2 yc)
       have hR1:=SL.row_stab HO.out.r1 fun k hk=>k2.block k (SL.row_bounds HO.out.r1 k hk).2 (by have:=(SL.row_bounds HO.out.r1 k hk).1;simp;omega)
       have hR2:=SL.row_stab HO.out.r2 fun k hk=>k2.block k (SL.row_bounds HO.out.r2 k hk).2 (by have:=(SL.row_bounds HO.out.r2 k hk).1;simp;omega)
       have hE1:=(k2.block D1 (Array.getElem?_eq_some_iff.1 HD1.out).1 Zj).trans HD1.out
       have hE2:=(k2.block D2 (Array.getElem?_eq_some_iff.1 HD2.out).1 Zj).trans HD2.out
       have hb:=HO.out.below.trans (k2.belowE_w HO.out.below.size (by simp))
       exact out_leaves (co:=y.co) (B:=w.heap.size +1 +1 +1) (base:=w.heap.size +1 +1 +1) rfl (by omega) (Nat.le_refl _) ⟨fun d hd=>by
        simp at hd
        rcases hd with rfl | rfl
        ·exact ⟨D2,rfl,by omega,hE2⟩
        ·exact ⟨D1,rfl,hD0,hE1⟩,by simp;omega⟩ k1 hR1 hR2 hb (fun W' h1 h2 h3=>HP.out W' _ _ h1 h2 h3)
      ·exact Z19
     ·exact Z19
end Go.Proofs.YtelkcohhagblaaaGreat

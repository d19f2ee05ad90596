/- What the functions answer, for every input. -/
import Derived.Test.YtelkcohhagblaaaGreatSe33
import Derived.Test.YtelkcohhagblaaaGreatSe29
import Derived.Test.YtelkcohhagblaaaGreatSe27
import Derived.Test.YtelkcohhagblaaaGreatSe15
import Derived.Test.YtelkcohhagblaaaGreatSe06
set_option linter.unusedSimpArgs false
set_option linter.unusedVariables false
set_option linter.unnecessarySimpa false
namespace Go.Proofs.YtelkcohhagblaaaGreat
open Go.RowKit Go.Shelf
set_option maxHeartbeats 8000000
set_option maxRecDepth 100000
/-- A sherd, and whether there is one. -/
def ShdPost (w:World) (o:Option Shd) (e:Ending) (w':World):Prop:=e=.returned (.tuple #[(o.getD Shd.zero).v,.bool o.isSome])∧Below w.heap.size w w'
theorem ssherd_any (a:Option Addr) (n cap:Nat) (s:List Itm) (id:Int) (w:World) (h:ItmsAt w a n cap s) :
 Calls Tryz.prog 150 #[.slice a n cap,.int .i64 id] w (ShdPost w (sherdO s id)):=by
 obtain rfl:=h.len
 have hsm:=h.small
 have HP:=Lib.hid (show ∀ (o:Option Itm) w',s.find? (fun x=>x.id == id && x.kd == 1)=o→Below w.heap.size w w'→ShdPost w (sherdO s id) (.returned (.tuple #[((o.map Itm.shd).getD Shd.zero).v,.bool o.isSome])) w' from fun o w' h1 h2=>by
  unfold sherdO
  rw [h1]
  exact ⟨by cases o <;> rfl,h2⟩)
 generalize ShdPost w (sherdO s id)=Post at *
 go_enter Tryz.func150,Tryz.ntmps150
 go_wp2_with fail
 go_loopw [10] (fun i wr=>∃ k:Nat,k≤s.length∧i=.int .i64 k∧Below w.heap.size w wr∧wr.heap[w.heap.size]?=some (.cells #[.int .i64 0,.string ⟨#[]⟩,.int .i64 0,.int .i64 0,.int .i64 0,.bool false] 72 (0,0))∧Hid ((s.take k).find? (fun x=>x.id == id && x.kd == 1)=none)) (fun i _=>s.length - (RowKit.intOf i).toNat)
 case atStart=>exact ⟨0,Nat.zero_le _,rfl,one_alloc _ _,World.alloc_heap_new _ _,Lib.hid rfl⟩
 case round =>
  obtain ⟨k,hk,rfl,hB,hR,hF⟩:=hrel
  have hnn:(0:Int)≤k:=by omega
  have zR:=(Array.getElem?_eq_some_iff.1 hR).1
  by_cases hlt:k<s.length
  ·have i1:(k:Int)<(s.length:Int):=by omega
   obtain ⟨b,o,rfl,hbl,hdc⟩:=(h.below hB).get hlt
   have Hn:=Lib.hid (fun h=>find_none_take (f:=fun x=>x.id == id && x.kd == 1) hlt hF.out h)
   have Hs:=Lib.hid (fun h=>find_some_at (f:=fun x=>x.id == id && x.kd == 1) hlt hF.out h)
   generalize s.getD k default=x at *
   obtain ⟨B1,hB1⟩:∃ B,(x.id == id)=B:=⟨_,rfl⟩
   obtain ⟨B2,hB2⟩:∃ B,(x.kd == 1)=B:=⟨_,rfl⟩
   simp only [hB1,hB2] at Hn Hs
   have hal:=one_alloc wr (Obj.cells #[.int .i64 x.id,.int .i64 x.kn,.int .u8 x.kd,.string x.wa,.int .i64 x.pit,.int .i64 x.ly,.int .i64 x.co,.bool x.ft,.int .i64 x.sh,.int .i64 x.fr,.int .i64 x.tw,.int .i64 x.lo,.int .i64 x.hi,.string x.st,.int .i64 x.li,.int .i64 x.vo] 24)
   have hR2:=alKeep (o':=Obj.cells #[.int .i64 x.id,.int .i64 x.kn,.int .u8 x.kd,.string x.wa,.int .i64 x.pit,.int .i64 x.ly,.int .i64 x.co,.bool x.ft,.int .i64 x.sh,.int .i64 x.fr,.int .i64 x.tw,.int .i64 x.lo,.int .i64 x.hi,.string x.st,.int .i64 x.li,.int .i64 x.vo] 24) hR
   have HR:=Lib.hid hR
   cases B1
   ·exact Z1r
   cases B2
   ·exact Z1r
   ·have y0:=(SL.cells_of hR).1
    have yf:=(SL.cells_of hR).2
    have q0:=y0 0
    have q1:=y0 1
    have q2:=y0 2
    have q3:=y0 3
    have q4:=y0 4
    have q5:=y0 5
    simp at q0 q1 q2 q3 q4 q5
    clear y0
    go_wp2_with (first
     | (refine wpList_loadI rfl _ rfl rfl hdc ?_)
     | (refine wpList_storeI_new rfl _ _ rfl rfl rfl rfl ?_))
    have HS:=Lib.hid (Hs.out rfl)
    have HB:=Lib.hid ((hB.trans ((SLG.chg_set6 (E:=[w.heap.size]) (N:=w.heap.size) wr (by simp) (.int .i64 x.id) (.string x.wa) (.int .i64 x.pit) (.int .i64 x.ly) (.int .i64 x.co) (.bool x.ft)).belowE_w hB.size (by simp))).ch2 (one_alloc _ (Obj.cells #[.int .i64 x.id,.int .i64 x.kn,.int .u8 x.kd,.string x.wa,.int .i64 x.pit,.int .i64 x.ly,.int .i64 x.co,.bool x.ft,.int .i64 x.sh,.int .i64 x.fr,.int .i64 x.tw,.int .i64 x.lo,.int .i64 x.hi,.string x.st,.int .i64 x.li,.int .i64 x.vo] 24)))
    have hK6:=alKeep (o':=Obj.cells #[.int .i64 x.id,.int .i64 x.kn,.int .u8 x.kd,.string x.wa,.int .i64 x.pit,.int .i64 x.ly,.int .i64 x.co,.bool x.ft,.int .i64 x.sh,.int .i64 x.fr,.int .i64 x.tw,.int .i64 x.lo,.int .i64 x.hi,.string x.st,.int .i64 x.li,.int .i64 x.vo] 24) (SLG.heap_set6 hR (.int .i64 x.id) (.string x.wa) (.int .i64 x.pit) (.int .i64 x.ly) (.int .i64 x.co) (.bool x.ft))
    have y0:=(SL.cells_of hK6).1
    have q0:=y0 0
    have q1:=y0 1
    have q2:=y0 2
    have q3:=y0 3
    have q4:=y0 4
    have q5:=y0 5
    simp only [List.getElem?_toArray,List.getElem?_cons_zero,List.getElem?_cons_succ] at q0 q1 q2 q3 q4 q5
    have HB2:=HB.out
    clear HR hR2 hR hK6 y0 hB hal
    generalize ((((((wr.setCell ⟨w.heap.size,0,none⟩ (.int .i64 x.id)).setCell ⟨w.heap.size,1,none⟩ (.string x.wa)).setCell ⟨w.heap.size,2,none⟩ (.int .i64 x.pit)).setCell ⟨w.heap.size,3,none⟩ (.int .i64 x.ly)).setCell ⟨w.heap.size,4,none⟩ (.int .i64 x.co)).setCell ⟨w.heap.size,5,none⟩ (.bool x.ft)).alloc (Obj.cells #[.int .i64 x.id,.int .i64 x.kn,.int .u8 x.kd,.string x.wa,.int .i64 x.pit,.int .i64 x.ly,.int .i64 x.co,.bool x.ft,.int .i64 x.sh,.int .i64 x.fr,.int .i64 x.tw,.int .i64 x.lo,.int .i64 x.hi,.string x.st,.int .i64 x.li,.int .i64 x.vo] 24)=W at *
    exact bodyPost_ret (v:=.tuple #[.agg #[.int .i64 x.id,.string x.wa,.int .i64 x.pit,.int .i64 x.ly,.int .i64 x.co,.bool x.ft],.bool true]) Z4b rfl (HP.out (some x) _ HS.out HB2)
  ·have hk2:k=s.length:=by omega
   subst hk2
   rw [List.take_length] at hF
   have y0:=(SL.cells_of hR).1
   have yf:=(SL.cells_of hR).2
   have q0:=y0 0
   have q1:=y0 1
   have q2:=y0 2
   have q3:=y0 3
   have q4:=y0 4
   have q5:=y0 5
   simp at q0 q1 q2 q3 q4 q5
   clear y0
   go_wp2_with fail
   have HS:=Lib.hid hF
   have HB:=Lib.hid (hB.trans ((SLG.chg_set6 (E:=[w.heap.size]) (N:=w.heap.size) wr (by simp) (.int .i64 0) (.string ⟨#[]⟩) (.int .i64 0) (.int .i64 0) (.int .i64 0) (.bool false)).belowE_w hB.size (by simp)))
   have hK6:=SLG.heap_set6 hR (.int .i64 0) (.string ⟨#[]⟩) (.int .i64 0) (.int .i64 0) (.int .i64 0) (.bool false)
   have y0:=(SL.cells_of hK6).1
   have q0:=y0 0
   have q1:=y0 1
   have q2:=y0 2
   have q3:=y0 3
   have q4:=y0 4
   have q5:=y0 5
   simp only [List.getElem?_toArray,List.getElem?_cons_zero,List.getElem?_cons_succ] at q0 q1 q2 q3 q4 q5
   have HB2:=HB.out
   clear hR hK6 y0 hB
   generalize (((((wr.setCell ⟨w.heap.size,0,none⟩ (.int .i64 0)).setCell ⟨w.heap.size,1,none⟩ (.string ⟨#[]⟩)).setCell ⟨w.heap.size,2,none⟩ (.int .i64 0)).setCell ⟨w.heap.size,3,none⟩ (.int .i64 0)).setCell ⟨w.heap.size,4,none⟩ (.int .i64 0)).setCell ⟨w.heap.size,5,none⟩ (.bool false)=W at *
   exact bodyPost_ret (v:=.tuple #[.agg #[.int .i64 0,.string ⟨#[]⟩,.int .i64 0,.int .i64 0,.int .i64 0,.bool false],.bool false]) Z4b rfl (HP.out none _ HS.out.out HB2)
attribute [local go_sem] Oper.semAt_some
def strL (l:List Itm):List Value:=l.map fun x=>Value.string x.st
theorem strL_append (a b:List Itm):strL (a ++b)=strL a ++strL b:=by simp [strL]
/-- What sets holds. -/
structure SetI (w:World) (a:Option Addr) (n cap:Nat) (id:Int) (pre:List Itm) (W:World):Prop where
 box:∃ v,W.heap[w.heap.size]?=some (.cells #[v] 96 (0,0))∧W.ownsRow (w.heap.size +1 +1 +1 +1) 9 1 v pre.length (strL pre)
 cS:W.heap[w.heap.size +1]?=some (.cells #[.slice a n cap] 116 (0,0))
 cK:W.heap[w.heap.size +1 +1]?=some (.cells #[.int .u8 5] 5 (0,0))
 cI:W.heap[w.heap.size +1 +1 +1]?=some (.cells #[.int .i64 id] 3 (0,0))
 below:Below w.heap.size w W
theorem SetI.grown {w:World} {a:Option Addr} {n cap:Nat} {id:Int} {pre:List Itm} {W W':World} (h:SetI w a n cap id pre W) (hk:KeepC_w W W') (hb:Below w.heap.size w W'):SetI w a n cap id pre W':=by
 obtain ⟨⟨v,h1,h2⟩,h3,h4,h5,h6⟩:=h
 exact ⟨⟨v,hk.cells _ _ _ _ h1,row_keepC_w h2 hk⟩,hk.cells _ _ _ _ h3,hk.cells _ _ _ _ h4,hk.cells _ _ _ _ h5,hb⟩
theorem ssets_any (a:Option Addr) (n cap:Nat) (s:List Itm) (id:Int) (w:World) (h:ItmsAt w a n cap s) (hl:s.length≤10000) :
 Calls Tryz.prog 92 #[.slice a n cap,.int .i64 id] w (RowPost w 9 1 (keptL s 5 id).length (strL (keptL s 5 id))):=by
 obtain rfl:=h.len
 have hLl:(keptL s 5 id).length≤10000:=Nat.le_trans (List.length_filter_le _ _) hl
 have HP:=Lib.hid (show ∀ w' v,Below w.heap.size w w'→w'.ownsRow w.heap.size 9 1 v (keptL s 5 id).length (strL (keptL s 5 id))→RowPost w 9 1 (keptL s 5 id).length (strL (keptL s 5 id)) (.returned v) w' from fun w' v h1 h2=>⟨v,rfl,h1,h2⟩)
 generalize RowPost w 9 1 (keptL s 5 id).length (strL (keptL s 5 id))=Post at *
 have HS:=Lib.hid (fun BS BK BI=>skept1 a s.length cap s 5 id BS BK BI hl)
 refine (callsIn_wide (n:=0)).1 (callsIn_of_wp_marks Tryz.func92 rfl trivial ?_)
 simp only [Tryz.ntmps92,List.size_toArray,List.length_cons,List.length_nil,Nat.reduceAdd,Nat.reduceSub,Array.replicate_succ,Array.replicate_zero,List.push_toArray,List.append_toArray,List.nil_append,List.cons_append]
 refine wpIn_wide.2 ?_
 go_wp2_with (go_at_call 99;refine (skept _ _ _ _ _ _).mono ?_;rintro e w1 ⟨rfl,rfl⟩)
 generalize hL:keptL s 5 id=L at *
 clear hL
 have hB0:SetI w a s.length cap id [] ((((w.alloc (Obj.cells #[.slice none 0 0] 96)).alloc (Obj.cells #[.slice a s.length cap] 116)).alloc (Obj.cells #[.int .u8 5] 5)).alloc (Obj.cells #[.int .i64 id] 3)):=by
  have e1:=World.alloc_heap_new (w.alloc (Obj.cells #[.slice none 0 0] 96)) (Obj.cells #[.slice a s.length cap] 116)
  have e2:=World.alloc_heap_new ((w.alloc (Obj.cells #[.slice none 0 0] 96)).alloc (Obj.cells #[.slice a s.length cap] 116)) (Obj.cells #[.int .u8 5] 5)
  have e3:=World.alloc_heap_new (((w.alloc (Obj.cells #[.slice none 0 0] 96)).alloc (Obj.cells #[.slice a s.length cap] 116)).alloc (Obj.cells #[.int .u8 5] 5)) (Obj.cells #[.int .i64 id] 3)
  rw [World.size_alloc] at e1
  rw [World.size_alloc,World.size_alloc] at e2
  rw [World.size_alloc,World.size_alloc,World.size_alloc] at e3
  exact ⟨⟨.slice none 0 0,alKeep (alKeep (alKeep (World.alloc_heap_new w _))),World.ownsRow_nil _ _ _ _⟩,alKeep (alKeep e1),alKeep e2,e3,(((one_alloc w _).ch2 (one_alloc _ _)).ch2 (one_alloc _ _)).ch2 (one_alloc _ _)⟩
 generalize hW0:((((w.alloc (Obj.cells #[.slice none 0 0] 96)).alloc (Obj.cells #[.slice a s.length cap] 116)).alloc (Obj.cells #[.int .u8 5] 5)).alloc (Obj.cells #[.int .i64 id] 3))=W0 at *
 have hz0:W0.heap.size=w.heap.size +1 +1 +1 +1:=by rw [← hW0];simp
 clear hW0
 have hC:∀ o W,SetI w a s.length cap id o W→W.cell? ⟨w.heap.size +1,0,none⟩=some (.slice a s.length cap)∧W.cell? ⟨w.heap.size +1 +1,0,none⟩=some (.int .u8 5)∧W.cell? ⟨w.heap.size +1 +1 +1,0,none⟩=some (.int .i64 id)∧ItmsAt W a s.length cap s:=fun o W hN =>
  ⟨by have:=(SL.cells_of hN.cS).1 0;simpa using this,by have:=(SL.cells_of hN.cK).1 0;simpa using this,by have:=(SL.cells_of hN.cI).1 0;simpa using this,h.below hN.below⟩
 have gro:∀ o W W' row,SetI w a s.length cap id o W→W.grownBy W' row→(∀ r,row=some r→W0.heap.size≤r∧∃ o:Obj,W.heap[r]?=some o∧o.isCells=false)→SetI w a s.length cap id o W':=fun o W W' row hN hg hr =>
  hN.grown (KeepC_w.of_grown hg fun r e=>(hr r e).2) (hN.below.grown hg hN.below.size fun r e=>by have:=(hr r e).1;omega)
 refine range_iter' (gf:=165) (lb:=#[.pointer (some ⟨w.heap.size +1,0,none⟩),.pointer (some ⟨w.heap.size +1 +1,0,none⟩),.pointer (some ⟨w.heap.size +1 +1 +1,0,none⟩)]) Z2a (enters_of Tryz.func165 Zk rfl) (HS.out _ _ _)
  (fun pre W=>SetI w a s.length cap id pre W)
  (fun _ _ _=>False)
  ?_ ?_ ?_ hB0 [6,10] (fun x us W=>∃ b,us 6=.pointer (some ⟨b,0,none⟩)∧W.heap[b]?=some (.cells x.cs.toArray 24 (0,0))∧W0.heap.size≤b) ?_ ?_ ?_ ?_ ?_
 ·exact Z52
 ·exact Z29
 ·rintro s W h1
  exact hC _ _ h1
 ·exact Zl
 ·exact Z6p
 ·rintro lid pre x post us W1 hl' he hN ⟨b,h6,hb,hbz⟩
  obtain ⟨⟨v,hbx,hrow⟩,hcS,hcK,hcI,hbe⟩:=hN
  have hpl:pre.length≤10000:=by
   exact Z4l
  simp only [frame'_w,SL.put',List.toList_toArray,List.contains_cons,List.contains_nil,Nat.reduceAdd,Nat.reduceBEq,Bool.or_false,Bool.or_true,Bool.false_or,Bool.true_or,if_true,Bool.false_eq_true,if_false,h6]
  simp only [Itm.cs] at hb
  have d13:=(ItmCells.of_heap hb).1.c13
  have c0:=(SL.cells_of hbx).1 0
  simp at c0
  have zb:w.heap.size<W1.heap.size:=(Array.getElem?_eq_some_iff.1 hbx).1
  have zI:=(Array.getElem?_eq_some_iff.1 hcI).1
  have hbr:=SL.row_bounds hrow
  have hcl:=row_cellsT hrow
  obtain ⟨va,vc,rfl,_⟩:=owns_slice hrow
  have hal:=one_alloc W1 (Obj.cells #[.string x.st] 9)
  have Hic:=Lib.hid (show strL (pre ++[x])=strL pre ++[Value.string x.st] by rw [strL_append];rfl)
  have HcS:=Lib.hid hcS
  have HcK:=Lib.hid hcK
  have HcI:=Lib.hid hcI
  clear he hC hB0 hcS hcK hcI gro HS HP hl' h hl hLl hb
  refine wpIn_block ?_
  gi_wp2_with (gi_at_builtin;refine wpListIn_app elemW rfl _ _ rfl (hrow.up hal (Nat.le_refl _)) rfl rfl (RowAt.of_heap (World.alloc_heap_new W1 _)) (by rfl) (fun u hu=>by simp at hu;subst hu;rfl) Z1s (by omega) Zj ?_)
  intro v' w6 ho hg hb6 _ hat
  obtain ⟨sa,sc,rfl,_⟩:=owns_slice ho
  have hG6:SL.Chg ((Value.slice va pre.length vc).ownBlock.toList) W1 w6:=(SL.Chg.of_below hal).trans (.of_own hg (fun k hk=>by simp [hk]))
  have nb:∀ j,j≤w.heap.size +1 +1 +1→j ∉ (Value.slice va pre.length vc).ownBlock.toList:=fun j hj hm=>by have:=(hbr j hm).1;omega
  have k6:=(hG6.block w.heap.size zb (nb _ (by omega))).trans hbx
  have f6:=(SL.cells_of k6).2
  have y6:=(SL.cells_of k6).1 0
  simp at y6
  have z6:w.heap.size<w6.heap.size:=(Array.getElem?_eq_some_iff.1 k6).1
  have hS:=(hG6.block _ (by omega) (nb _ (by omega))).trans HcS.out
  have hKk:=(hG6.block _ (by omega) (nb _ (by omega))).trans HcK.out
  have hIi:=(hG6.block _ (by omega) (nb _ (by omega))).trans HcI.out
  have HO:=Lib.hid ho
  have H3:=Lib.hid (And.intro hS (And.intro hKk hIi))
  clear ho c0 d13 hS hKk hIi
  gi_wp2
  refine ⟨keeps_cellsT (E:=w.heap.size::(Value.slice va pre.length vc).ownBlock.toList) ((hG6.monoW (fun k hk=>List.mem_cons_of_mem _ hk)).trans (.setCell _ (by simp) _)) (fun y hy=>?_),⟨⟨.slice sa (pre.length +1) sc,?_,?_⟩,?_,?_,?_,?_⟩⟩
  ·exact Z45
  ·exact one_set k6 _
  ·exact Z26
  ·exact (Below.heap_setCell _ _ _ _ (by show w.heap.size +1≠w.heap.size;omega)).trans H3.out.1
  ·exact (Below.heap_setCell _ _ _ _ (by show w.heap.size +1 +1≠w.heap.size;omega)).trans H3.out.2.1
  ·exact (Below.heap_setCell _ _ _ _ (by show w.heap.size +1 +1 +1≠w.heap.size;omega)).trans H3.out.2.2
  ·exact Z3u
 ·rintro D W2 hD2 ⟨⟨v,hbx,hrow⟩,_,_,_,hbe⟩ hdef
  obtain ⟨va,vc,rfl,_⟩:=owns_slice hrow
  have c0:=(SL.cells_of hbx).1 0
  simp at c0
  have HO:=Lib.hid hrow
  clear hB0 hC hrow hbx gro HS h hl
  go_wp2_with fail
  refine leaves_marks_w (B:=W0.heap.size) (by simp) (fun W=>Below w.heap.size w W∧W.ownsRow (w.heap.size +1 +1 +1 +1) 9 1 (.slice va L.length vc) L.length (strL L)) ?_ ?_ _ W2 ⟨by simp;exact ⟨hD2,hdef⟩,by simp⟩ ⟨hbe,HO.out⟩
  ·exact Z28
  ·rintro W3 ⟨a1,a2⟩
   exact ⟨_,by simp [results,Tryz.results92],HP.out _ _ a1 (SL.row_base a2 (by omega))⟩
 ·exact Z19
def lookR (l:List Itm) (day id:Int):List Itm:=if lookE l day id=0 then countL l day else []
def lookZ (l:List Itm) (day id:Int):Shd:=if lookE l day id=0 then lookS l day id else Shd.zero
/-- The items that count, a sherd, and an error. -/
def LookPost (w:World) (E:Int) (s:List Itm) (x:Shd) (e:Ending) (w':World):Prop:=∃ v,e=.returned (.tuple #[v,x.v,.int .i64 E])∧Below w.heap.size w w'∧w'.ownsRow w.heap.size 24 16 v s.length (ics s)
theorem cell6 {W:World} {N:Nat} {a b c d e f:Value} {t:TypeId} (hh:W.heap[N]?=some (.cells #[a,b,c,d,e,f] t (0,0))):W.cell? ⟨N,0,none⟩=some a∧W.cell? ⟨N,1,none⟩=some b∧W.cell? ⟨N,2,none⟩=some c∧W.cell? ⟨N,3,none⟩=some d∧W.cell? ⟨N,4,none⟩=some e∧W.cell? ⟨N,5,none⟩=some f∧(∀ i,W.frozen? ⟨N,i,none⟩=false)∧N<W.heap.size:=by
 have k:=(SL.cells_of hh).1
 exact ⟨k 0,k 1,k 2,k 3,k 4,k 5,(SL.cells_of hh).2,(Array.getElem?_eq_some_iff.1 hh).1⟩
theorem slooked_any (a:Option Addr) (n cap:Nat) (l:List Itm) (day id:Int) (w:World) (h:ItmsAt w a n cap l) (hcap:l.length≤cap) :
 Calls Tryz.prog 82 #[.slice a n cap,.int .i64 day,.int .i64 id] w (LookPost w (lookE l day id) (lookR l day id) (lookZ l day id)):=by
 have hOp:=fun w1 (h1:ItmsAt w1 a n cap l)=>sopened_any a n cap l day w1 h1 hcap
 have hwd:=h.wide
 have hB0:=one_alloc w (Obj.cells #[.int .i64 0,.string ⟨#[]⟩,.int .i64 0,.int .i64 0,.int .i64 0,.bool false] 72)
 have hR0:=World.alloc_heap_new w (Obj.cells #[.int .i64 0,.string ⟨#[]⟩,.int .i64 0,.int .i64 0,.int .i64 0,.bool false] 72)
 unfold RowE at hOp
 have HP:=Lib.hid (show (lookE l day id≠0→∀ w',Below w.heap.size w w'→LookPost w (lookE l day id) (lookR l day id) (lookZ l day id) (.returned (.tuple #[.slice none 0 0,.agg #[.int .i64 0,.string ⟨#[]⟩,.int .i64 0,.int .i64 0,.int .i64 0,.bool false],.int .i64 (lookE l day id)])) w') ∧
  (lookE l day id=0→∀ w' v,Below w.heap.size w w'→w'.ownsRow w.heap.size 24 16 v (countL l day).length (ics (countL l day))→LookPost w (lookE l day id) (lookR l day id) (lookZ l day id) (.returned (.tuple #[v,(lookS l day id).v,.int .i64 (lookE l day id)])) w') from by
  unfold lookR lookZ
  refine ⟨fun h0 w' hb=>?_,fun h0 w' v hb ho=>?_⟩
  ·rw [if_neg h0,if_neg h0]
   exact ⟨_,rfl,hb,World.ownsRow_nil _ _ _ _⟩
  ·rw [if_pos h0,if_pos h0]
   exact ⟨v,rfl,hb,ho⟩)
 generalize LookPost w (lookE l day id) (lookR l day id) (lookZ l day id)=Post at *
 have hE:lookE l day id=if (chkI l).2=0 then (if (sherdO (countL l day) id).isSome then 0 else 20) else (chkI l).2:=rfl
 have hS:lookS l day id=(sherdO (countL l day) id).getD Shd.zero:=rfl
 by_cases h0:(chkI l).2=0
 ·have hL:cntL l day=countL l day:=by unfold cntL;rw [if_pos h0]
  have hln:=countL_len l day
  have hfew:=(chk_ok.1 h0).few
  have hcw:=wides hwd (fun x (hx:x ∈ countL l day)=>(countL_sub hx).1)
  rw [if_pos h0] at hE
  rw [hL,h0] at hOp
  clear hL h0
  have hSh:=fun W va vc (hi:ItmsAt W va (countL l day).length vc (countL l day))=>ssherd_any va _ vc (countL l day) id W hi
  unfold ShdPost at hSh
  generalize sherdO (countL l day) id=o at *
  generalize countL l day=S at *
  generalize lookE l day id=E at *
  generalize lookS l day id=Y at *
  cases o with
  | none =>
    simp only [Option.isSome,Bool.false_eq_true,if_false] at hE
    subst hE
    have hP:=Lib.hid (HP.out.1 (by decide))
    simp only [Option.getD,Option.isSome,Shd.zero,Shd.v,Shd.cs] at hSh
    clear HP hS
    go_enter Tryz.func82,Tryz.ntmps82
    go_wp2_with (first
     | (go_at_call 130;(with_reducible refine (hOp _ (h.below hB0)).mono ?_);rintro e w1 ⟨v1,rfl,hb1,ho1⟩;obtain ⟨va,vc,rfl,_⟩:=owns_slice ho1;have hi1:=ItmsAt.of_owns ho1 (by omega) hcw;have hR1:=(hb1.block w.heap.size (by simp)).trans hR0)
     | (go_at_call 150;(with_reducible refine (hSh _ va vc hi1).mono ?_);rintro e w2 ⟨rfl,hb2⟩;have hR2:=(hb2.block w.heap.size (Array.getElem?_eq_some_iff.1 hR1).1).trans hR1;obtain ⟨q0,q1,q2,q3,q4,q5,qf,ql⟩:=cell6 hR2))
    have hB2:=(hB0.ch2 hb1).ch2 hb2
    have hK6:=alKeep (o':=Obj.cells #[.int .i64 0,.string ⟨#[]⟩,.int .i64 0,.int .i64 0,.int .i64 0,.bool false] 72) (SLG.heap_set6 hR2 (.int .i64 0) (.string ⟨#[]⟩) (.int .i64 0) (.int .i64 0) (.int .i64 0) (.bool false))
    have HB2:=(hB2.trans ((SLG.chg_set6 (E:=[w.heap.size]) (N:=w.heap.size) w2 (by simp) (.int .i64 0) (.string ⟨#[]⟩) (.int .i64 0) (.int .i64 0) (.int .i64 0) (.bool false)).belowE_w hB2.size (by simp))).ch2 (one_alloc _ (Obj.cells #[.int .i64 0,.string ⟨#[]⟩,.int .i64 0,.int .i64 0,.int .i64 0,.bool false] 72))
    clear q0 q1 q2 q3 q4 q5 qf ql hR2 hR1 hR0 hb1 hb2 hB0 hB2 ho1 hi1 hOp hSh
    obtain ⟨q0,q1,q2,q3,q4,q5,qf,ql⟩:=cell6 hK6
    clear hK6
    generalize ((((((w2.setCell ⟨w.heap.size,0,none⟩ (.int .i64 0)).setCell ⟨w.heap.size,1,none⟩ (.string ⟨#[]⟩)).setCell ⟨w.heap.size,2,none⟩ (.int .i64 0)).setCell ⟨w.heap.size,3,none⟩ (.int .i64 0)).setCell ⟨w.heap.size,4,none⟩ (.int .i64 0)).setCell ⟨w.heap.size,5,none⟩ (.bool false)).alloc (Obj.cells #[.int .i64 0,.string ⟨#[]⟩,.int .i64 0,.int .i64 0,.int .i64 0,.bool false] 72)=W at *
    exact bodyPost_ret (v:=.tuple #[.slice none 0 0,.agg #[.int .i64 0,.string ⟨#[]⟩,.int .i64 0,.int .i64 0,.int .i64 0,.bool false],.int .i64 20]) Z4c rfl (hP.out _ HB2)
  | some y =>
    simp only [Option.isSome,if_true] at hE
    subst hE
    simp only [Option.getD] at hS
    subst hS
    have hP:=Lib.hid (HP.out.2 rfl)
    simp only [Option.getD,Option.isSome,Shd.v,Shd.cs] at hSh hP
    clear HP
    go_enter Tryz.func82,Tryz.ntmps82
    go_wp2_with (first
     | (go_at_call 130;(with_reducible refine (hOp _ (h.below hB0)).mono ?_);rintro e w1 ⟨v1,rfl,hb1,ho1⟩;obtain ⟨va,vc,rfl,_⟩:=owns_slice ho1;have hi1:=ItmsAt.of_owns ho1 (by omega) hcw;have hR1:=(hb1.block w.heap.size (by simp)).trans hR0)
     | (go_at_call 150;(with_reducible refine (hSh _ va vc hi1).mono ?_);rintro e w2 ⟨rfl,hb2⟩;have hR2:=(hb2.block w.heap.size (Array.getElem?_eq_some_iff.1 hR1).1).trans hR1;obtain ⟨q0,q1,q2,q3,q4,q5,qf,ql⟩:=cell6 hR2))
    have hX:=World.alloc_heap_new w2 (Obj.cells #[.int .i64 Y.id,.string Y.wa,.int .i64 Y.pit,.int .i64 Y.ly,.int .i64 Y.co,.bool Y.ft] 72)
    have hR3:=alKeep (o':=Obj.cells #[.int .i64 Y.id,.string Y.wa,.int .i64 Y.pit,.int .i64 Y.ly,.int .i64 Y.co,.bool Y.ft] 72) hR2
    have hO3:=ho1.up (hb2.ch2 (one_alloc w2 (Obj.cells #[.int .i64 Y.id,.string Y.wa,.int .i64 Y.pit,.int .i64 Y.ly,.int .i64 Y.co,.bool Y.ft] 72))) (Nat.le_refl _)
    have HB3:=Lib.hid (((hB0.ch2 hb1).ch2 hb2).ch2 (one_alloc w2 (Obj.cells #[.int .i64 Y.id,.string Y.wa,.int .i64 Y.pit,.int .i64 Y.ly,.int .i64 Y.co,.bool Y.ft] 72)))
    have HR:=Lib.hid (fun k hk=>SL.row_bounds ho1 k hk)
    have hzw:w.heap.size<(w.alloc (Obj.cells #[.int .i64 0,.string ⟨#[]⟩,.int .i64 0,.int .i64 0,.int .i64 0,.bool false] 72)).heap.size:=by simp
    have hMw:=ql
    have HR3:=fun k hk=>SL.row_bounds hO3 k hk
    clear q0 q1 q2 q3 q4 q5 qf ql hR2 hR1 hR0 hb1 hb2 hB0 ho1 hi1 hOp hSh
    generalize w2.heap.size=M at *
    generalize w2.alloc (Obj.cells #[.int .i64 Y.id,.string Y.wa,.int .i64 Y.pit,.int .i64 Y.ly,.int .i64 Y.co,.bool Y.ft] 72)=w3 at *
    have zX:=(Array.getElem?_eq_some_iff.1 hX).1
    have zR:=(Array.getElem?_eq_some_iff.1 hR3).1
    obtain ⟨d0,d1,d2,d3,d4,d5,_,_⟩:=cell6 hX
    have hMR:M ∉ [w.heap.size]:=by simp;omega
    apply SLG.rule0 ?hm [w.heap.size] [32,33,6,8] [SLF.pq 32 [] _,SL.pu 33 [] (.agg #[.int .i64 Y.id,.string Y.wa,.int .i64 Y.pit,.int .i64 Y.ly,.int .i64 Y.co,.bool Y.ft]),SLF.pq 6 [0] _,SL.boxAt 7 [1,5] [5] w.heap.size 72 #[.int .i64 Y.id,.string Y.wa,.int .i64 Y.pit,.int .i64 Y.ly,.int .i64 Y.co,.bool Y.ft],SLF.pq 8 [] _,SL.boxAt 7 [] [] w.heap.size 72 #[.int .i64 0,.string ⟨#[]⟩,.int .i64 0,.int .i64 0,.int .i64 0,.bool false]] [2,3,4] ?hck ?hkp (fun i=>if i=5 then [w.heap.size] else []) ?hin ?hdj ?hfr ?ob ?en1
    case hm=>kernel_rfl
    case hin=>exact SL.one_held rfl rfl ⟨rfl,hR3,rfl⟩ zR
    case hdj=>exact SL.one_apart
    case hfr=>intro us;simp only [SL.frame,SL.put'];simp;exact rfl
    case ob =>
     refine ⟨?_,?_,?_,?_,?_,trivial⟩
     all_goals first
      | (intro us w' Fe hG hu hd hv Kx hK
         try dsimp only
         simp [SL.O] at hu hK
         have hB5:Below w.heap.size w w':=HB3.out.trans (hG.belowF HB3.out.size (by simp))
         obtain ⟨hc5,hf5⟩:=bcell hB5
         have hs5:=hB5.size
         obtain ⟨hc6,hf6⟩:=hG.cellsF;have p0:=(hc6 M 0 zX hMR).trans d0;have p1:=(hc6 M 1 zX hMR).trans d1;have p2:=(hc6 M 2 zX hMR).trans d2;have p3:=(hc6 M 3 zX hMR).trans d3;have p4:=(hc6 M 4 zX hMR).trans d4;have p5:=(hc6 M 5 zX hMR).trans d5
         clear hv
         exact Z5z)
      | skip
     ·refine SLG.ob_sp rfl rfl rfl fun us w' Fe hG hu hd Kx hK=>?_
      try dsimp only
      simp [SL.O] at hu
      have hB5:Below w.heap.size w w':=HB3.out.trans (hG.belowF HB3.out.size (by simp))
      obtain ⟨hc5,hf5⟩:=bcell hB5
      have hs5:=hB5.size
      obtain ⟨hc6,hf6⟩:=hG.cellsF;have p0:=(hc6 M 0 zX hMR).trans d0;have p1:=(hc6 M 1 zX hMR).trans d1;have p2:=(hc6 M 2 zX hMR).trans d2;have p3:=(hc6 M 3 zX hMR).trans d3;have p4:=(hc6 M 4 zX hMR).trans d4;have p5:=(hc6 M 5 zX hMR).trans d5
      refine SLF.wpo_do (SLF.wanted_free rfl) ?hd ?_
      case hd=>intro c h;cases h
      clear hu hc5 hf5 hc6 hf6
      go_step
      exact Z8
     ·refine SLG.ob_no rfl rfl rfl fun us w' Fe hG hu hd Kx hK=>?_
      try dsimp only
      simp [SL.O] at hu
      have hB5:Below w.heap.size w w':=HB3.out.trans (hG.belowF HB3.out.size (by simp))
      obtain ⟨hc5,hf5⟩:=bcell hB5
      have hs5:=hB5.size
      obtain ⟨hc6,hf6⟩:=hG.cellsF;have p0:=(hc6 M 0 zX hMR).trans d0;have p1:=(hc6 M 1 zX hMR).trans d1;have p2:=(hc6 M 2 zX hMR).trans d2;have p3:=(hc6 M 3 zX hMR).trans d3;have p4:=(hc6 M 4 zX hMR).trans d4;have p5:=(hc6 M 5 zX hMR).trans d5
      refine SLF.wpo_do (SLF.wanted_free rfl) ?hd ?_
      case hd=>intro c h;cases h
      obtain ⟨⟨e1,_⟩,e7,hbl,e5⟩:=hu
      obtain ⟨q0,q1,q2,q3,q4,q5,qf,ql⟩:=cell6 hbl
      clear hc5 hf5 hc6 hf6 p0 p1 p2 p3 p4 p5
      go_step
      refine hK _ _ (chg_eq (by simp [SL.boxAt,e5]) (SLG.chg_set6 (E:=[w.heap.size]) (N:=w.heap.size) w' (by simp) ..)) ⟨e7,SLG.heap_set6 hbl ..,rfl⟩ ?_
      intro k hk
      left
      simpa [SL.boxAt,e5] using hk
    case hck=>kernel_rfl
    case hkp=>kernel_rfl
    intro us w7 Fs hG hu hbd hd
    simp [SL.Used,SL.pu,SLF.pq,SL.boxAt] at hu
    obtain ⟨⟨e6,_⟩,⟨e7,hbl,_⟩,e8,_⟩:=hu
    have hB7:Below w.heap.size w w7:=HB3.out.trans (hG.belowF HB3.out.size (by simp))
    have HO:=Lib.hid (SL.row_base (SL.row_stab hO3 fun k hk=>hG.block k (HR3 k hk).2 (by
     have h1:=(HR3 k hk).1
     intro hm
     simp only [List.mem_singleton] at hm
     omega)) (Nat.le_of_lt hzw))
    obtain ⟨q0,q1,q2,q3,q4,q5,qf,ql⟩:=cell6 hbl
    rw [e6,e8]
    clear hG hbd hd hbl e6 e8 d0 d1 d2 d3 d4 d5 hX hR3 hO3
    have HB:=Lib.hid hB7
    clear hB7
    go_wp2_with fail
    exact bodyPost_ret (v:=.tuple #[.slice va S.length vc,.agg #[.int .i64 Y.id,.string Y.wa,.int .i64 Y.pit,.int .i64 Y.ly,.int .i64 Y.co,.bool Y.ft],.int .i64 0]) (by simp [results,Tryz.results82,go_sem,q0,q1,q2,q3,q4,q5,e7]) rfl (hP.out _ _ HB.out HO.out)
 ·rw [if_neg h0] at hE
  have hP0:=HP.out.1 (by rw [hE];exact h0)
  rw [hE] at hP0
  have hP:=Lib.hid hP0
  clear hE hP0
  have hL:cntL l day=[]:=by unfold cntL;rw [if_neg h0]
  rw [hL] at hOp
  generalize (chkI l).2=C2 at *
  have e2:(C2 != 0)=true:=by simpa using h0
  clear h0 hL HP hS
  go_enter Tryz.func82,Tryz.ntmps82
  go_wp2_with (go_at_call 130;(with_reducible refine (hOp _ (h.below hB0)).mono ?_);rintro e w1 ⟨v1,rfl,hb1,ho1⟩;obtain ⟨va,vc,rfl,_⟩:=owns_slice ho1;have hR1:=(hb1.block w.heap.size (by simp)).trans hR0;obtain ⟨q0,q1,q2,q3,q4,q5,qf,ql⟩:=cell6 hR1)
  have hB2:=hB0.ch2 hb1
  have hK6:=SLG.heap_set6 hR1 (.int .i64 0) (.string ⟨#[]⟩) (.int .i64 0) (.int .i64 0) (.int .i64 0) (.bool false)
  have HB2:=hB2.trans ((SLG.chg_set6 (E:=[w.heap.size]) (N:=w.heap.size) w1 (by simp) (.int .i64 0) (.string ⟨#[]⟩) (.int .i64 0) (.int .i64 0) (.int .i64 0) (.bool false)).belowE_w hB2.size (by simp))
  clear q0 q1 q2 q3 q4 q5 qf ql hR1 hR0 hb1 hB0 hB2 ho1 hOp
  obtain ⟨q0,q1,q2,q3,q4,q5,qf,ql⟩:=cell6 hK6
  clear hK6
  generalize (((((w1.setCell ⟨w.heap.size,0,none⟩ (.int .i64 0)).setCell ⟨w.heap.size,1,none⟩ (.string ⟨#[]⟩)).setCell ⟨w.heap.size,2,none⟩ (.int .i64 0)).setCell ⟨w.heap.size,3,none⟩ (.int .i64 0)).setCell ⟨w.heap.size,4,none⟩ (.int .i64 0)).setCell ⟨w.heap.size,5,none⟩ (.bool false)=W at *
  exact bodyPost_ret (v:=.tuple #[.slice none 0 0,.agg #[.int .i64 0,.string ⟨#[]⟩,.int .i64 0,.int .i64 0,.int .i64 0,.bool false],.int .i64 C2]) Z4c rfl (hP.out _ HB2)
set_option maxHeartbeats 4000000
theorem sboth_any (x:Itm) (w:World) (hlo: -10000≤x.lo∧x.lo≤10000):Calls Tryz.prog 151 #[x.v] w (RowPost w 69 4 2 (bcs (bothL x))):=by
 have HP:=Lib.hid (show ∀ v w',Below w.heap.size w w'→w'.ownsRow w.heap.size 69 4 v 2 (bcs (bothL x))→RowPost w 69 4 2 (bcs (bothL x)) (.returned v) w' from fun v w' h1 h2=>⟨v,rfl,h1,h2⟩)
 generalize RowPost w 69 4 2 (bcs (bothL x))=Post at *
 have hwr:IntKind.i64.wrap (-x.lo)= -x.lo:=IntWalk.i64_in _ (by omega)
 simp only [Itm.v,Itm.cs]
 go_enter Tryz.func151,Tryz.ntmps151
 go_wp2_with fail
 have ho:=World.ownsRow_lit (base:=w.heap.size) (e:=69) (size:=4) (w.alloc (Obj.cells #[.int .i64 x.id,.int .i64 x.kn,.int .u8 x.kd,.string x.wa,.int .i64 x.pit,.int .i64 x.ly,.int .i64 x.co,.bool x.ft,.int .i64 x.sh,.int .i64 x.fr,.int .i64 x.tw,.int .i64 x.lo,.int .i64 x.hi,.string x.st,.int .i64 x.li,.int .i64 x.vo] 24)) #[.int .i64 x.fr,.int .i64 x.tw,.int .i64 x.hi,.int .i64 x.id,.int .i64 x.tw,.int .i64 x.fr,.int .i64 (-x.lo),.int .i64 x.id] 2 (by simp) (by decide) rfl
 rw [World.size_alloc] at ho
 exact HP.out _ _ ((one_alloc w _).ch2 (one_alloc _ _)) ho
def chkdE (p:Int) (bs:List Bd):Int:=if chk p bs=0 then (if okB p bs then 0 else 21) else chk p bs
theorem schecked_any (p:Int) (a:Option Addr) (n cap:Nat) (bs:List Bd) (w:World) (hb:BdsAt w a n cap bs) :
 Calls Tryz.prog 84 #[.agg #[.int .i64 p,.slice a n cap]] w (EPost w (chkdE p bs)):=by
 have hB0:=one_alloc w (Obj.cells #[.int .i64 p,.slice a n cap] 57)
 have hC:=fun w1 (h1:BdsAt w1 a n cap bs)=>gcheck_any p a n cap bs w1 h1
 have hS:=fun w1 (h1:BdsAt w1 a n cap bs)=>gSolve_any p a n cap bs w1 h1
 have hE:chkdE p bs=if chk p bs=0 then (if okB p bs then 0 else 21) else chk p bs:=rfl
 have HP:=Lib.hid (show ∀ v w',Below w.heap.size w w'→chkdE p bs=v→EPost w (chkdE p bs) (.returned (.int .i64 v)) w' from fun v w' h1 h2=>⟨by rw [h2],h1⟩)
 generalize EPost w (chkdE p bs)=Post at *
 rw [hE] at HP
 generalize okB p bs=K at *
 generalize chk p bs=C at *
 clear hE
 have hb1:=hb.below hB0
 by_cases h0:C=0
 ·subst h0
  simp only [decide_true,Bool.true_and,if_true] at hS HP
  cases K with
  | true =>
    exact Z6n
  | false =>
    exact Z6n
 ·have e2:(C != 0)=true:=by simpa using h0
  rw [if_neg h0] at HP
  clear h0 hS
  go_enter Tryz.func84,Tryz.ntmps84
  go_wp2_with (go_at_call 152;refine (hC _ hb1).mono ?_;rintro e w7 ⟨rfl,hb7⟩;obtain ⟨hc7,hf7⟩:=bcell hb7;have hz7a:=lt_size hb7 (b:=w.heap.size) Z9)
  exact HP.out _ _ (hB0.ch2 hb7) rfl
end Go.Proofs.YtelkcohhagblaaaGreat

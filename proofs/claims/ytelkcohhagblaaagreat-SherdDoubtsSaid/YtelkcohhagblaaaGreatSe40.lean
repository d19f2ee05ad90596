/- What the functions answer, for every input. -/
import Derived.Test.YtelkcohhagblaaaGreatSe39
import Derived.Test.YtelkcohhagblaaaGreatSe29
import Derived.Test.YtelkcohhagblaaaGreatSe35
import Derived.Test.YtelkcohhagblaaaGreatSe26
import Derived.Test.YtelkcohhagblaaaGreatSe08
import Derived.Test.YtelkcohhagblaaaGreatSe03
set_option linter.unusedSimpArgs false
set_option linter.unusedVariables false
set_option linter.unnecessarySimpa false
namespace Go.Proofs.YtelkcohhagblaaaGreat
open Go.RowKit Go.Shelf
set_option maxHeartbeats 8000000
set_option maxRecDepth 100000
/-- What is known of a sherd's items on a shelf. -/
structure ShelfOk (s:List Itm) (y:Shd):Prop where
 len:s.length≤300
 own:∃ o,findI s y.id=some o∧o.kd=1∧o ∈ s
 co:3≤y.co∧y.co≤16
 wms:∀ x ∈ keptL s 2 y.id,MsOk y.co x
 tms:∀ x ∈ keptL s 3 y.id,MsOk (y.co - 1) x
 few:∀ k,(keptL s k y.id).length≤150
theorem standL_count (l:List Itm) (day:Int):standL (countL l day)=countL l day:=by
 have h7:∀ x ∈ countL l day,x.kd≠7:=fun x hx=>(countL_sub hx).2.2
 generalize countL l day=s at *
 unfold standL
 rw [List.filter_eq_self]
 intro x hx
 have hv:voidB s x.id=false:=by
  unfold voidB
  rw [List.any_eq_false]
  intro y hy
  have:=h7 y hy
  simp [this]
 simp [h7 x hx,hv]
theorem LookOk.shelf {l:List Itm} {day id:Int} (h:LookOk l day id):ShelfOk (countL l day) (lookS l day id):=by
 have hd:=countL_ids h.cat.ids day
 obtain ⟨z,hz,e1,e2,e3⟩:=sherdO_some h.some
 refine ⟨Nat.le_trans (countL_len l day) h.cat.few,⟨z,?_,e2,hz⟩,h.co,by rw [h.sid];exact h.wms,by rw [h.sid];exact h.tms,fun k=>?_⟩
 ·unfold findI
  rw [standL_count,h.sid]
  cases hf:(countL l day).find? (fun x=>x.id == id) with
  | none =>
    rw [List.find?_eq_none] at hf
    have:=hf z hz
    simp [e1] at this
  | some v =>
    have h1:=List.mem_of_find?_eq_some hf
    have h2:=List.find?_some hf
    simp at h2
    rw [ids_inj hd h1 hz (by rw [h2,e1])]
 ·rw [h.sid]
  refine Nat.le_trans ?_ h.few
  unfold keptL
  refine List.Sublist.length_le ?_
  have:(fun x:Itm=>x.kd == k && x.sh == id)=fun x=>(x.sh == id) && (x.kd == k):=by funext x;rw [Bool.and_comm]
  rw [this,← List.filter_filter]
  have e:((countL l day).filter fun x=>x.kd == k).filter (fun x=>x.sh == id)=((countL l day).filter fun x=>x.sh == id).filter fun x=>x.kd == k:=by
   rw [List.filter_filter,List.filter_filter]
   congr 1
   funext x
   rw [Bool.and_comm]
  rw [e]
  exact List.filter_sublist
theorem kept_self {s m:List Itm} {k id:Int} (h:m.Sublist (keptL s k id)):keptL m k id=m:=by
 unfold keptL
 rw [List.filter_eq_self]
 intro x hx
 have:=h.subset hx
 unfold keptL at this
 exact (List.mem_filter.1 this).2
theorem ShelfOk.ms {s m:List Itm} {y:Shd} {kd:Int} (h:ShelfOk s y) (hkd:kd=2∨kd=3) (hm:m.Sublist (keptL s kd y.id)) :
 (∀ x ∈ m,x.kd=2∨x.kd=3→x.sh=y.id→ -10000≤x.lo∧x.lo≤10000)∧chk (sysP kd y.co) (sysB kd y.co (keptL m kd y.id))=0∧m.length≤150:=by
 have hl:=Nat.le_trans hm.length_le (h.few kd)
 rw [kept_self hm]
 rcases hkd with rfl | rfl
 ·have hms:∀ x ∈ m,MsOk y.co x:=fun x hx=>h.wms x (hm.subset hx)
  exact ⟨fun x hx _ _=>(hms x hx).lo,chk_ways h.co hms hl,hl⟩
 ·have hms:∀ x ∈ m,MsOk (y.co - 1) x:=fun x hx=>h.tms x (hm.subset hx)
  exact ⟨fun x hx _ _=>(hms x hx).lo,chk_turns h.co hms hl,hl⟩
/-- impossible, at some of a sherd's measurements. -/
theorem simpE (a:Option Addr) (n cap:Nat) (s:List Itm) (kd:Int) (y:Shd) (b:Option Addr) (cap2:Nat) (m:List Itm) (w:World) (h:ShelfOk s y) (hs:ItmsAt w a n cap s) (hkd:kd=2∨kd=3) (hm:m.Sublist (keptL s kd y.id)) (hi:ItmsAt w b m.length cap2 m) :
 Calls Tryz.prog 128 #[.slice a n cap,.int .u8 kd,y.v,.slice b m.length cap2] w fun e w'=>e=.returned (.bool (contraB kd y.co m))∧Below w.heap.size w w':=by
 obtain ⟨o,h1,h2,h3⟩:=h.own
 obtain ⟨k1,k2,k3⟩:=h.ms hkd hm
 have:=simpossible_any a n cap s kd y b m.length cap2 m o w hs h.len hi (by omega) hkd h1 h2 (hs.wide o h3) h.co k1 k2
 rw [kept_self hm] at this
 unfold contraB
 rw [if_neg (by omega)]
 exact this
/-- The cells that doubted's closures take. -/
structure DubAt (w:World) (B:Nat) (a:Option Addr) (n cap:Nat) (kd:Int) (y:Shd):Prop where
 c0:w.heap[B]?=some (.cells #[.slice a n cap] 116 (0,0))
 c1:w.heap[B +1]?=some (.cells #[.int .u8 kd] 5 (0,0))
 c2:w.heap[B +1 +1]?=some (.cells #[.int .i64 y.id,.string y.wa,.int .i64 y.pit,.int .i64 y.ly,.int .i64 y.co,.bool y.ft] 72 (0,0))
theorem DubAt.below {w w':World} {B:Nat} {a:Option Addr} {n cap:Nat} {kd:Int} {y:Shd} (h:DubAt w B a n cap kd y) (hb:Below w.heap.size w w'):DubAt w' B a n cap kd y :=
 ⟨(hb.block _ (Array.getElem?_eq_some_iff.1 h.c0).1).trans h.c0,(hb.block _ (Array.getElem?_eq_some_iff.1 h.c1).1).trans h.c1,(hb.block _ (Array.getElem?_eq_some_iff.1 h.c2).1).trans h.c2⟩
theorem sdoub3 (a:Option Addr) (n cap:Nat) (s:List Itm) (kd:Int) (y:Shd) (b:Option Addr) (cap2 B:Nat) (m:List Itm) (w:World) (h:ShelfOk s y) (hs:ItmsAt w a n cap s) (hkd:kd=2∨kd=3) (hm:m.Sublist (keptL s kd y.id)) (hi:ItmsAt w b m.length cap2 m) (hD:DubAt w B a n cap kd y) :
 Calls Tryz.prog 180 #[.slice b m.length cap2,.pointer (some ⟨B,0,none⟩),.pointer (some ⟨B +1,0,none⟩),.pointer (some ⟨B +1 +1,0,none⟩)] w fun e w'=>e=.returned (.bool (!contraB kd y.co m))∧Below w.heap.size w w':=by
 have hI:=simpE a n cap s kd y b cap2 m w h hs hkd hm hi
 have c0:=(SL.cells_of hD.c0).1 0
 have c1:=(SL.cells_of hD.c1).1 0
 simp at c0 c1
 have z0:=(Array.getElem?_eq_some_iff.1 hD.c0).1
 have z1:=(Array.getElem?_eq_some_iff.1 hD.c1).1
 have z2:=(Array.getElem?_eq_some_iff.1 hD.c2).1
 obtain ⟨p0,p1,p2,p3,p4,p5,pf⟩:=cell6 hD.c2
 generalize contraB kd y.co m=T at *
 simp only [Shd.v,Shd.cs] at hI
 clear hD h hs hm hi
 go_enter Tryz.func180,Tryz.ntmps180
 go_wp2_with (go_at_call 128;(with_reducible refine hI.mono ?_);rintro e w2 ⟨rfl,hb2⟩)
 go_ret
 exact ⟨rfl,hb2⟩
/-- Collect over kept. -/
theorem scolK (a:Option Addr) (n cap:Nat) (s:List Itm) (k id:Int) (w:World) (hs:ItmsAt w a n cap s) (hl:s.length≤10000) :
 Calls Tryz.prog 98 #[.func (.func 165) #[] #[.pointer (some ⟨w.heap.size,0,none⟩),.pointer (some ⟨w.heap.size +1,0,none⟩),.pointer (some ⟨w.heap.size +1 +1,0,none⟩)]] (((w.alloc (.cells #[.slice a n cap] 116)).alloc (.cells #[.int .u8 k] 5)).alloc (.cells #[.int .i64 id] 3)) fun e w'=>∃ v,e=.returned v∧Below w.heap.size w w'∧w'.ownsRow w.heap.size 24 16 v (keptL s k id).length (ics (keptL s k id)):=by
 have e0:=alKeep (o':=Obj.cells #[.int .i64 id] 3) (alKeep (o':=Obj.cells #[.int .u8 k] 5) (World.alloc_heap_new w (Obj.cells #[.slice a n cap] 116)))
 have e1:=World.alloc_heap_new (w.alloc (Obj.cells #[.slice a n cap] 116)) (Obj.cells #[.int .u8 k] 5)
 have e2:=World.alloc_heap_new ((w.alloc (Obj.cells #[.slice a n cap] 116)).alloc (Obj.cells #[.int .u8 k] 5)) (Obj.cells #[.int .i64 id] 3)
 rw [World.size_alloc] at e1
 rw [World.size_alloc,World.size_alloc] at e2
 have e1:=alKeep (o':=Obj.cells #[.int .i64 id] 3) e1
 have hB:Below w.heap.size w (((w.alloc (.cells #[.slice a n cap] 116)).alloc (.cells #[.int .u8 k] 5)).alloc (.cells #[.int .i64 id] 3)):=((one_alloc _ _).ch2 (one_alloc _ _)).ch2 (one_alloc _ _)
 generalize (((w.alloc (.cells #[.slice a n cap] 116)).alloc (.cells #[.int .u8 k] 5)).alloc (.cells #[.int .i64 id] 3))=W at *
 refine (sCollectT 165 _ _ (keptL s k id) W (skept1 a n cap s k id w.heap.size (w.heap.size +1) (w.heap.size +1 +1) hl) (enters_of Tryz.func165 Zk rfl) (fun W' hb=>⟨?_,?_,?_,hs.below (hB.ch2 hb)⟩) (Nat.le_trans (List.length_filter_le _ _) hl)).mono ?_
 ·exact (SL.cells_of ((hb.block _ (Array.getElem?_eq_some_iff.1 e0).1).trans e0)).1 0
 ·exact (SL.cells_of ((hb.block _ (Array.getElem?_eq_some_iff.1 e1).1).trans e1)).1 0
 ·exact (SL.cells_of ((hb.block _ (Array.getElem?_eq_some_iff.1 e2).1).trans e2)).1 0
 ·rintro e w' ⟨v,rfl,hb,ho⟩
  exact ⟨v,rfl,hB.ch2 hb,SL.row_base ho hB.size⟩
theorem sdoubtedM (a:Option Addr) (n cap:Nat) (s:List Itm) (kd:Int) (y:Shd) (w:World) (h:ShelfOk s y) (hs:ItmsAt w a n cap s) (hkd:kd=2∨kd=3) :
 Calls Tryz.prog 121 #[.slice a n cap,.int .u8 kd,y.v] w (RowPost w 24 16 (doubtL s kd y).length (ics (doubtL s kd y))):=by
 have hwid:∀ x ∈ keptL s kd y.id,x.Wide:=fun x hx=>hs.wide x (List.mem_filter.1 hx).1
 have hd:doubtL s kd y=if contraB kd y.co (keptL s kd y.id) then spareL (fun r=>!contraB kd y.co r) (keptL s kd y.id) else []:=by unfold doubtL;rw [if_neg (by omega)]
 have HP:=Lib.hid (show ∀ v w',Below w.heap.size w w'→w'.ownsRow w.heap.size 24 16 v (doubtL s kd y).length (ics (doubtL s kd y))→RowPost w 24 16 (doubtL s kd y).length (ics (doubtL s kd y)) (.returned v) w' from fun v w' h1 h2=>⟨v,rfl,h1,h2⟩)
 generalize RowPost w 24 16 (doubtL s kd y).length (ics (doubtL s kd y))=Post at *
 have hs3:ItmsAt (((w.alloc (Obj.cells #[.slice a n cap] 116)).alloc (Obj.cells #[.int .u8 kd] 5)).alloc (Obj.cells #[.int .i64 y.id,.string y.wa,.int .i64 y.pit,.int .i64 y.ly,.int .i64 y.co,.bool y.ft] 72)) a n cap s:=hs.below (((one_alloc _ _).ch2 (one_alloc _ _)).ch2 (one_alloc _ _))
 have hB3:Below w.heap.size w (((w.alloc (Obj.cells #[.slice a n cap] 116)).alloc (Obj.cells #[.int .u8 kd] 5)).alloc (Obj.cells #[.int .i64 y.id,.string y.wa,.int .i64 y.pit,.int .i64 y.ly,.int .i64 y.co,.bool y.ft] 72)):=((one_alloc _ _).ch2 (one_alloc _ _)).ch2 (one_alloc _ _)
 have hD3:DubAt (((w.alloc (Obj.cells #[.slice a n cap] 116)).alloc (Obj.cells #[.int .u8 kd] 5)).alloc (Obj.cells #[.int .i64 y.id,.string y.wa,.int .i64 y.pit,.int .i64 y.ly,.int .i64 y.co,.bool y.ft] 72)) w.heap.size a n cap kd y:=by
  have e1:=World.alloc_heap_new (w.alloc (Obj.cells #[.slice a n cap] 116)) (Obj.cells #[.int .u8 kd] 5)
  have e2:=World.alloc_heap_new ((w.alloc (Obj.cells #[.slice a n cap] 116)).alloc (Obj.cells #[.int .u8 kd] 5)) (Obj.cells #[.int .i64 y.id,.string y.wa,.int .i64 y.pit,.int .i64 y.ly,.int .i64 y.co,.bool y.ft] 72)
  exact Z1u
 have hz3:(((w.alloc (Obj.cells #[.slice a n cap] 116)).alloc (Obj.cells #[.int .u8 kd] 5)).alloc (Obj.cells #[.int .i64 y.id,.string y.wa,.int .i64 y.pit,.int .i64 y.ly,.int .i64 y.co,.bool y.ft] 72)).heap.size=w.heap.size +1 +1 +1:=by simp
 have hlen:=h.few kd
 have hz:=h.len
 have hI:=fun W b c (hi:ItmsAt W b (keptL s kd y.id).length c (keptL s kd y.id)) (h1:ItmsAt W a n cap s)=>simpE a n cap s kd y b c (keptL s kd y.id) W h h1 hkd (List.Sublist.refl _) hi
 have hSp:=fun W b c (hi:ItmsAt W b (keptL s kd y.id).length c (keptL s kd y.id)) (h1:ItmsAt W a n cap s) (hDW:DubAt W w.heap.size a n cap kd y)=>sspare_any 180 #[.pointer (some ⟨w.heap.size,0,none⟩),.pointer (some ⟨w.heap.size +1,0,none⟩),.pointer (some ⟨w.heap.size +1 +1,0,none⟩)] (fun r=>!contraB kd y.co r) b _ c (keptL s kd y.id) W hi (by omega) (enters_of Tryz.func180 Zk rfl)
  (fun m a' c' w1 hm hb hi' _=>sdoub3 a n cap s kd y a' c' w.heap.size m w1 h (h1.below hb) hkd hm hi' (hDW.below hb))
 have hCol:=scolK a n cap s kd y.id _ hs3 (by omega)
 rw [hz3] at hCol
 have k4:((kd:Int) == 4)=false:=beq_eq_false_iff_ne.2 (by omega)
 have k5:((kd:Int) == 5)=false:=beq_eq_false_iff_ne.2 (by omega)
 have c0:=(SL.cells_of hD3.c0).1 0
 have c1:=(SL.cells_of hD3.c1).1 0
 simp at c0 c1
 have z0:=(Array.getElem?_eq_some_iff.1 hD3.c0).1
 obtain ⟨p0,p1,p2,p3,p4,p5,pf⟩:=cell6 hD3.c2
 unfold RowPost at hSp
 have Hd:=Lib.hid hd
 have HD3:=Lib.hid hD3
 clear hd h hs hkd hD3
 generalize keptL s kd y.id=L at *
 simp only [Shd.v,Shd.cs] at *
 cases hT:contraB kd y.co L with
 | false =>
   rw [hT] at hI Hd
   simp only [Bool.false_eq_true,if_false] at Hd
   rw [Hd.out] at HP
   clear hT
   go_enter Tryz.func121,Tryz.ntmps121
   go_wp2_with (first
    | (go_at_call 99;refine (skept _ _ _ _ _ _).mono ?_;rintro e w1 ⟨rfl,rfl⟩)
    | (go_at_call 98;(with_reducible refine hCol.mono ?_);rintro e w2 ⟨v2,rfl,hb2,ho2⟩;obtain ⟨va,vc,rfl,_⟩:=owns_slice ho2;have hD2:=HD3.out.below Z30;clear hCol c0 c1 p0 p1 p2 p3 p4 p5 pf z0;have c0:=(SL.cells_of hD2.c0).1 0;have c1:=(SL.cells_of hD2.c1).1 0;simp at c0 c1;have z0:=(Array.getElem?_eq_some_iff.1 hD2.c0).1;obtain ⟨p0,p1,p2,p3,p4,p5,pf⟩:=cell6 hD2.c2;have hs2:=hs3.below Z30;have hi2:=ItmsAt.of_owns ho2 (by omega) hwid;have hIm:=hI w2 va vc hi2 hs2;have hS3:=fun w3 (hb3:Below w2.heap.size w2 w3)=>hSp w3 va vc (hi2.below hb3) (hs2.below hb3) (hD2.below hb3);clear hD2 hs2 hi2 hI hSp ho2)
    | (go_at_call 128;(with_reducible refine hIm.mono ?_);rintro e w3 ⟨rfl,hb3⟩;have hS4:=hS3 w3 hb3;clear hS3)
    | (go_at_call 101;(with_reducible refine hS4.mono ?_);rintro e w4 ⟨v4,rfl,hb4,ho4⟩;obtain ⟨xa,xc,rfl,_⟩:=owns_slice ho4))
   exact HP.out _ _ ((hB3.trans (hb2.mono (by omega))).ch2 hb3) (World.ownsRow_nil _ _ _ _)
 | true =>
   rw [hT] at hI Hd
   simp only [if_true] at Hd
   rw [Hd.out] at HP
   clear hT
   go_enter Tryz.func121,Tryz.ntmps121
   go_wp2_with (first
    | (go_at_call 99;refine (skept _ _ _ _ _ _).mono ?_;rintro e w1 ⟨rfl,rfl⟩)
    | (go_at_call 98;(with_reducible refine hCol.mono ?_);rintro e w2 ⟨v2,rfl,hb2,ho2⟩;obtain ⟨va,vc,rfl,_⟩:=owns_slice ho2;have hD2:=HD3.out.below Z30;clear hCol c0 c1 p0 p1 p2 p3 p4 p5 pf z0;have c0:=(SL.cells_of hD2.c0).1 0;have c1:=(SL.cells_of hD2.c1).1 0;simp at c0 c1;have z0:=(Array.getElem?_eq_some_iff.1 hD2.c0).1;obtain ⟨p0,p1,p2,p3,p4,p5,pf⟩:=cell6 hD2.c2;have hs2:=hs3.below Z30;have hi2:=ItmsAt.of_owns ho2 (by omega) hwid;have hIm:=hI w2 va vc hi2 hs2;have hS3:=fun w3 (hb3:Below w2.heap.size w2 w3)=>hSp w3 va vc (hi2.below hb3) (hs2.below hb3) (hD2.below hb3);clear hD2 hs2 hi2 hI hSp ho2)
    | (go_at_call 128;(with_reducible refine hIm.mono ?_);rintro e w3 ⟨rfl,hb3⟩;have hS4:=hS3 w3 hb3;clear hS3)
    | (go_at_call 101;(with_reducible refine hS4.mono ?_);rintro e w4 ⟨v4,rfl,hb4,ho4⟩;obtain ⟨xa,xc,rfl,_⟩:=owns_slice ho4))
   have hB5:=((hB3.trans (hb2.mono (by omega))).ch2 hb3)
   exact Z59
/-- An end of a way, by gauge: Least and Greatest. -/
def EndOk (k:Nat) (P:Int) (B:List Bd) (fr tw N:Int) (IS:Bool) (E:Int):Prop:=∀ W a c,BdsAt W a B.length c B→Calls Tryz.prog k #[.agg #[.int .i64 P,.slice a B.length c],.int .i64 fr,.int .i64 tw] W fun e w'=>e=.returned (.tuple #[.int .i64 N,.bool IS,.int .i64 E])∧Below W.heap.size W w'
/-- The cells that the closure of Rests takes. -/
structure RstAt (w:World) (Bf Bs Bx B9 B10 Bn Bi:Nat) (k:Nat) (a:Option Addr) (n cap:Nat) (y:Shd) (fr tw N0:Int) (I0:Bool):Prop where
 cf:w.heap[Bf]?=some (.cells #[.func (.func k) #[] #[]] 122 (0,0))
 cs:w.heap[Bs]?=some (.cells #[.slice a n cap] 116 (0,0))
 cx:w.heap[Bx]?=some (.cells #[.int .i64 y.id,.string y.wa,.int .i64 y.pit,.int .i64 y.ly,.int .i64 y.co,.bool y.ft] 72 (0,0))
 c9:w.heap[B9]?=some (.cells #[.int .i64 fr] 3 (0,0))
 c10:w.heap[B10]?=some (.cells #[.int .i64 tw] 3 (0,0))
 cn:w.heap[Bn]?=some (.cells #[.int .i64 N0] 3 (0,0))
 ci:w.heap[Bi]?=some (.cells #[.bool I0] 4 (0,0))
theorem RstAt.below {w w':World} {Bf Bs Bx B9 B10 Bn Bi:Nat} {k:Nat} {a:Option Addr} {n cap:Nat} {y:Shd} {fr tw N0:Int} {I0:Bool} (h:RstAt w Bf Bs Bx B9 B10 Bn Bi k a n cap y fr tw N0 I0) (hb:Below w.heap.size w w'):RstAt w' Bf Bs Bx B9 B10 Bn Bi k a n cap y fr tw N0 I0:=by
 obtain ⟨h1,h2,h3,h4,h5,h6,h7⟩:=h
 exact ⟨(hb.block _ (Array.getElem?_eq_some_iff.1 h1).1).trans h1,(hb.block _ (Array.getElem?_eq_some_iff.1 h2).1).trans h2,(hb.block _ (Array.getElem?_eq_some_iff.1 h3).1).trans h3,(hb.block _ (Array.getElem?_eq_some_iff.1 h4).1).trans h4,(hb.block _ (Array.getElem?_eq_some_iff.1 h5).1).trans h5,(hb.block _ (Array.getElem?_eq_some_iff.1 h6).1).trans h6,(hb.block _ (Array.getElem?_eq_some_iff.1 h7).1).trans h7⟩
theorem sRests1 (Bf Bs Bx B9 B10 Bn Bi k:Nat) (a:Option Addr) (n cap:Nat) (y:Shd) (fr tw N0 N E:Int) (I0 IS:Bool) (b:Option Addr) (c M:Nat) (B:List Bd) (P:Int) (w:World) (hR:RstAt w Bf Bs Bx B9 B10 Bn Bi k a n cap y fr tw N0 I0) (hent:∀ args w,(callFunc k args).run Tryz.prog w=.ok (.enter k args) w)
 (hW:∀ w1,Below w.heap.size w w1→Calls Tryz.prog 100 #[.slice a n cap,.int .u8 2,y.v,.slice b M c] w1 (SysPost w1 P B)) (hBl:B.length≤1000) (hE:EndOk k P B fr tw N IS E) :
 Calls Tryz.prog 102 #[.slice b M c,.pointer (some ⟨Bf,0,none⟩),.pointer (some ⟨Bs,0,none⟩),.pointer (some ⟨Bx,0,none⟩),.pointer (some ⟨B9,0,none⟩),.pointer (some ⟨B10,0,none⟩),.pointer (some ⟨Bn,0,none⟩),.pointer (some ⟨Bi,0,none⟩)] w fun e w'=>e=.returned (.bool (!(N == N0 && IS == I0)))∧Below w.heap.size w w':=by
 have f0:=(SL.cells_of hR.cf).1 0
 have s0:=(SL.cells_of hR.cs).1 0
 have g0:=(SL.cells_of hR.c9).1 0
 have t0:=(SL.cells_of hR.c10).1 0
 simp at f0 s0 g0 t0
 obtain ⟨p0,p1,p2,p3,p4,p5,pf⟩:=cell6 hR.cx
 have zf:=(Array.getElem?_eq_some_iff.1 hR.cf).1
 have zs:=(Array.getElem?_eq_some_iff.1 hR.cs).1
 have zx:=(Array.getElem?_eq_some_iff.1 hR.cx).1
 have z9:=(Array.getElem?_eq_some_iff.1 hR.c9).1
 have z10:=(Array.getElem?_eq_some_iff.1 hR.c10).1
 have HR:=Lib.hid hR
 unfold SysPost at hW
 simp only [Shd.v,Shd.cs] at hW
 have HE:=Lib.hid hE
 have HW:=Lib.hid hW
 clear hR hE hW
 go_enter Tryz.func102,Tryz.ntmps102
 go_wp2_with fail
 apply SLG.rule0 ?hm [] [14,15,16,17,18,19,20,21,13,22,23,24,10,11,12] [SLF.pq 14 [] _,SLF.pq 15 [] _,SLF.pq 16 [] _,SLF.pq 17 [] _,SL.aw 18 [1,2,3] [] (fun p=>.ex fun v:Value=>.sep (.pure (p=.agg #[.int .i64 P,v])) (.row w.heap.size 69 4 v B.length (bcs B))),SLF.pq 19 [] _,SLF.pq 20 [] _,SL.pu 21 [0,4,5,6] (.tuple #[.int .i64 N,.bool IS,.int .i64 E]),SLF.pq 13 [7] _,SLF.pq 22 [8] _,SLF.pq 23 [8] _,SLF.pq 24 [8] _,SL.pu 10 [9] (.int .i64 N),SL.pu 11 [10] (.bool IS),SLF.pq 12 [11] _] [12,13] ?hck ?hkp (fun _=>[]) ?hin ?hdj ?hfr ?ob ?en1
 case hm=>kernel_rfl
 case hin=>exact SL.none_held rfl
 case hdj=>simp
 case hfr=>intro us;simp only [SL.frame,SL.put'];simp;exact rfl
 case ob =>
  refine ⟨?_,?_,?_,?_,?_,?_,?_,?_,?_,?_,?_,?_,?_,?_,?_,trivial⟩
  all_goals first
   | (intro us w' Fe hG hu hd hv Kx hK
      try dsimp only
      simp [SL.O] at hu hK
      have hB5:Below w.heap.size w w':=hG.below'
      exact Z7r)
   | skip
  ·refine SLG.ob_sp rfl rfl rfl fun us w' Fe hG hu hd Kx hK=>?_
   try dsimp only
   simp [SL.O] at hu
   have hB5:Below w.heap.size w w':=hG.below'
   exact Z7l
  ·refine SLG.ob_sp rfl rfl rfl fun us w' Fe hG hu hd Kx hK=>?_
   try dsimp only
   simp [SL.O] at hu
   have hB5:Below w.heap.size w w':=hG.below'
   exact Z7o
  ·exact Z7s
  ·exact Z7s
 case hck=>kernel_rfl
 case hkp=>kernel_rfl
 intro us7 w7 Fs7 hG hu hbd hd
 simp [SL.Used,SL.pu] at hu
 obtain ⟨⟨e10,_⟩,e11,_⟩:=hu
 have hB7:Below w.heap.size w w7:=hG.below'
 have hR7:=HR.out.below hB7
 have n0:=(SL.cells_of hR7.cn).1 0
 have i0:=(SL.cells_of hR7.ci).1 0
 simp at n0 i0
 have zn:=(Array.getElem?_eq_some_iff.1 hR7.cn).1
 have zi:=(Array.getElem?_eq_some_iff.1 hR7.ci).1
 rw [e10,e11]
 clear hG hbd hd f0 s0 g0 t0 p0 p1 p2 p3 p4 p5 pf zf zs zx z9 z10 HW HE hR7 e10 e11
 have HB7:=Lib.hid hB7
 cases hn:(N == N0) with
 | false =>
   have hn2:(N != N0)=true:=by rw [bne,hn];rfl
   go_wp2_with fail
   go_ret
   exact ⟨by have h:¬ N=N0:=by simpa using hn
             simp [h],HB7.out⟩
 | true =>
   have hn2:(N != N0)=false:=by rw [bne,hn];rfl
   go_wp2_with fail
   go_ret
   exact ⟨by have h:N=N0:=by simpa using hn
             simp [h,bne],HB7.out⟩
theorem sdoubtful_any (w:World):Calls Tryz.prog 120 #[] w fun e w'=>e=.returned (.agg #[.int .u8 0,.int .u8 2,.int .u8 3,.int .u8 4,.int .u8 5])∧Below w.heap.size w w':=by
 have hal:=one_alloc w (Obj.cells #[.int .u8 0,.int .u8 2,.int .u8 3,.int .u8 4,.int .u8 5] 153)
 have hK:=World.alloc_heap_new w (Obj.cells #[.int .u8 0,.int .u8 2,.int .u8 3,.int .u8 4,.int .u8 5] 153)
 have k:=(SL.cells_of hK).1
 have k0:=k 0
 have k1:=k 1
 have k2:=k 2
 have k3:=k 3
 have k4:=k 4
 simp at k0 k1 k2 k3 k4
 clear hK k
 go_enter Tryz.func120,Tryz.ntmps120
 go_wp2_with fail
 exact bodyPost_ret (v:=.agg #[.int .u8 0,.int .u8 2,.int .u8 3,.int .u8 4,.int .u8 5]) (by simp [results,Tryz.results120,go_sem,k0,k1,k2,k3,k4]) rfl ⟨rfl,hal⟩
theorem sfits_any (a:Option Addr) (n cap:Nat) (s:List Itm) (y:Shd) (w:World) (h:ShelfOk s y) (hs:ItmsAt w a n cap s) :
 Calls Tryz.prog 119 #[.slice a n cap,y.v] w fun e w'=>e=.returned (.int .i64 0)∧Below w.heap.size w w':=by
 obtain rfl:=hs.len
 have hB0:=one_alloc w (Obj.cells #[.int .i64 y.id,.string y.wa,.int .i64 y.pit,.int .i64 y.ly,.int .i64 y.co,.bool y.ft] 72)
 have hY:=World.alloc_heap_new w (Obj.cells #[.int .i64 y.id,.string y.wa,.int .i64 y.pit,.int .i64 y.ly,.int .i64 y.co,.bool y.ft] 72)
 obtain ⟨p0,p1,p2,p3,p4,p5,pf⟩:=cell6 hY
 have hms:∀ x ∈ s,x.kd=2∨x.kd=3→x.sh=y.id→ -10000≤x.lo∧x.lo≤10000:=fun x hx hk he=>by
  rcases hk with hk | hk
  ·exact (h.wms x Z43).lo
  ·exact (h.tms x Z43).lo
 have hOu:=soutline a s.length cap s y (w.alloc (Obj.cells #[.int .i64 y.id,.string y.wa,.int .i64 y.pit,.int .i64 y.ly,.int .i64 y.co,.bool y.ft] 72)) (hs.below hB0) h.len h.co hms
 unfold OutPost at hOu
 have hcw:=chk_ways h.co h.wms (h.few 2)
 have hct:=chk_turns h.co h.tms (h.few 3)
 have hlw:=chk_len hcw
 have hlt:=chk_len hct
 have hrg:rngB y.co 3 16=true:=rngB_iff.2 h.co
 have hco:=h.co
 generalize waysB y.co (keptL s 2 y.id)=WB at *
 generalize turnsB y.co (keptL s 3 y.id)=TB at *
 have hWs:=fun W a1 c1 a2 c2 (h1:BdsAt W a1 WB.length c1 WB) (h2:BdsAt W a2 TB.length c2 TB)=>sWays_any y.co a1 _ c1 _ a2 _ c2 _ W (by omega) h1 h2 ⟨by omega,by omega⟩
 have hTs:=fun W a1 c1 a2 c2 (h1:BdsAt W a1 WB.length c1 WB) (h2:BdsAt W a2 TB.length c2 TB)=>sTurns_any y.co a1 _ c1 _ a2 _ c2 _ W (by omega) h1 h2 ⟨by omega,by omega⟩
 unfold SysPost sysIf sysBs at hWs hTs
 simp only [hrg,if_true] at hWs hTs
 have hC1:=fun W a4 c4 (h4:BdsAt W a4 WB.length c4 WB)=>gcheck_any (y.co +1) a4 _ c4 WB W h4
 have hC2:=fun W a4 c4 (h4:BdsAt W a4 TB.length c4 TB)=>gcheck_any y.co a4 _ c4 TB W h4
 rw [hcw] at hC1
 rw [hct] at hC2
 clear hcw hct hrg hco hms h hs hY
 simp only [Shd.v,Shd.cs] at *
 have tok1:True:=trivial
 have tok2:True:=trivial
 go_enter Tryz.func119,Tryz.ntmps119
 go_wp2_with (first
  | (go_at_call 83;(with_reducible refine hOu.mono ?_);rintro e w3 ⟨v1,v2,rfl,hb3,ho31,ho32⟩;obtain ⟨a1,c1,rfl,_⟩:=owns_slice ho31;obtain ⟨a2,c2,rfl,_⟩:=owns_slice ho32;have hal:=one_alloc w3 (Obj.cells #[.int .i64 y.co,.slice a1 WB.length c1,.slice a2 TB.length c2] 52);have hq1:=(BdsAt.of_owns ho31 (by omega)).below hal;have hq2:=(BdsAt.of_owns ho32 (by omega)).below hal;have hO3:=World.alloc_heap_new w3 (Obj.cells #[.int .i64 y.co,.slice a1 WB.length c1,.slice a2 TB.length c2] 52))
  | (go_at_call 39;(with_reducible refine (hWs _ a1 c1 a2 c2 hq1 hq2).mono ?_);rintro e w4 ⟨v4,rfl,hb4,ho4⟩;obtain ⟨a4,c4,rfl,_⟩:=owns_slice ho4;have hq4:=BdsAt.of_owns ho4 (by omega))
  | (go_at_call 152;clear tok1;(with_reducible refine (hC1 _ a4 c4 hq4).mono ?_);rintro e w5 ⟨rfl,hb5⟩;have hO4:=(hb4.block _ (by simp)).trans hO3;have hO5:=(hb5.block _ (Array.getElem?_eq_some_iff.1 hO4).1).trans hO4;obtain ⟨q0,q1,q2,qf,ql⟩:=cell3s hO5;have hq15:=(hq1.below hb4).below hb5;have hq25:=(hq2.below hb4).below hb5)
  | (go_at_call 41;(with_reducible refine (hTs _ a1 c1 a2 c2 hq15 hq25).mono ?_);rintro e w6 ⟨v6,rfl,hb6,ho6⟩;obtain ⟨a6,c6,rfl,_⟩:=owns_slice ho6;have hq6:=BdsAt.of_owns ho6 (by omega))
  | (go_at_call 152;clear tok2;(with_reducible refine (hC2 _ a6 c6 hq6).mono ?_);rintro e w7 ⟨rfl,hb7⟩))
 go_ret
 exact ⟨rfl,((((((hB0.ch2 hb3).ch2 hal).ch2 hb4).ch2 hb5).ch2 hb6).ch2 hb7)⟩
end Go.Proofs.YtelkcohhagblaaaGreat

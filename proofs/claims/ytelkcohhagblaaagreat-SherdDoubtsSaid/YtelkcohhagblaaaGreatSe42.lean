/- What the functions answer, for every input. -/
import Derived.Test.YtelkcohhagblaaaGreatSe40
import Derived.Laws.EntriesVeiled
import Derived.Test.YtelkcohhagblaaaGreatSe36
import Derived.Test.YtelkcohhagblaaaGreatSe28
import Derived.Test.YtelkcohhagblaaaGreatSe27
set_option linter.unusedSimpArgs false
set_option linter.unusedVariables false
set_option linter.unnecessarySimpa false
namespace Go.Proofs.YtelkcohhagblaaaGreat
open Go.RowKit Go.Shelf
set_option maxHeartbeats 8000000
set_option maxRecDepth 100000
theorem sdoub1 (y:Shd) (b:Option Addr) (cap2 B:Nat) (m:List Itm) (w:World) (hl:m.length≤10000) (hk:keptL m 5 y.id=m) (hi:ItmsAt w b m.length cap2 m) (hD:w.heap[B]?=some (.cells #[.int .i64 y.id,.string y.wa,.int .i64 y.pit,.int .i64 y.ly,.int .i64 y.co,.bool y.ft] 72 (0,0))) :
 Calls Tryz.prog 178 #[.slice b m.length cap2,.pointer (some ⟨B,0,none⟩)] w fun e w'=>e=.returned (.bool (contraB 5 y.co m))∧Below w.heap.size w w':=by
 have hS:=ssets_any b m.length cap2 m y.id w hi hl
 unfold RowPost at hS
 rw [hk] at hS
 have hC:=fun W a c base (ho:W.ownsRow base 9 1 (.slice a m.length c) m.length (strL m))=>scomS a _ c m W base hl rfl ho
 have hT:contraB 5 y.co m=(comC (setsL m)).isEmpty:=rfl
 rw [hT]
 obtain ⟨p0,p1,p2,p3,p4,p5,pf⟩:=cell6 hD
 have z:=(Array.getElem?_eq_some_iff.1 hD).1
 generalize comC (setsL m)=o at *
 clear hT hD hi hk
 cases ho:o.isEmpty
 ·exact Z1i
 ·exact Z1i
theorem sdoub2 (y:Shd) (b:Option Addr) (cap2 B C:Nat) (m:List Itm) (w:World) (hl:m.length≤10000) (hk:keptL m 5 y.id=m) (hi:ItmsAt w b m.length cap2 m) (hD:w.heap[B]?=some (.cells #[.int .i64 y.id,.string y.wa,.int .i64 y.pit,.int .i64 y.ly,.int .i64 y.co,.bool y.ft] 72 (0,0)))
 (hF:w.heap[C]?=some (.cells #[.func (.func 178) #[] #[.pointer (some ⟨B,0,none⟩)]] 136 (0,0))) :
 Calls Tryz.prog 179 #[.slice b m.length cap2,.pointer (some ⟨C,0,none⟩)] w fun e w'=>e=.returned (.bool (!contraB 5 y.co m))∧Below w.heap.size w w':=by
 have h1:=sdoub1 y b cap2 B m w hl hk hi hD
 have c0:=(SL.cells_of hF).1 0
 simp at c0
 have z:=(Array.getElem?_eq_some_iff.1 hF).1
 generalize contraB 5 y.co m=T at *
 clear hF hD hi hk
 go_enter Tryz.func179,Tryz.ntmps179
 go_wp2_with (go_at_call 178;(with_reducible refine h1.mono ?_);rintro e w5 ⟨rfl,hb5⟩)
 go_ret
 exact ⟨rfl,hb5⟩
theorem sdoubtedC (a:Option Addr) (n cap:Nat) (s:List Itm) (y:Shd) (w:World) (h:ShelfOk s y) (hs:ItmsAt w a n cap s) :
 Calls Tryz.prog 121 #[.slice a n cap,.int .u8 5,y.v] w (RowPost w 24 16 (doubtL s 5 y).length (ics (doubtL s 5 y))):=by
 have hwid:∀ x ∈ keptL s 5 y.id,x.Wide:=fun x hx=>hs.wide x (List.mem_filter.1 hx).1
 have hd:doubtL s 5 y=if contraB 5 y.co (keptL s 5 y.id) then spareL (fun r=>!contraB 5 y.co r) (keptL s 5 y.id) else []:=by unfold doubtL;rw [if_neg (by omega)]
 have HP:=Lib.hid (show ∀ v w',Below w.heap.size w w'→w'.ownsRow w.heap.size 24 16 v (doubtL s 5 y).length (ics (doubtL s 5 y))→RowPost w 24 16 (doubtL s 5 y).length (ics (doubtL s 5 y)) (.returned v) w' from fun v w' h1 h2=>⟨v,rfl,h1,h2⟩)
 generalize RowPost w 24 16 (doubtL s 5 y).length (ics (doubtL s 5 y))=Post at *
 have hs3:ItmsAt (((w.alloc (Obj.cells #[.slice a n cap] 116)).alloc (Obj.cells #[.int .u8 5] 5)).alloc (Obj.cells #[.int .i64 y.id,.string y.wa,.int .i64 y.pit,.int .i64 y.ly,.int .i64 y.co,.bool y.ft] 72)) a n cap s:=hs.below (((one_alloc _ _).ch2 (one_alloc _ _)).ch2 (one_alloc _ _))
 have hB3:Below w.heap.size w (((w.alloc (Obj.cells #[.slice a n cap] 116)).alloc (Obj.cells #[.int .u8 5] 5)).alloc (Obj.cells #[.int .i64 y.id,.string y.wa,.int .i64 y.pit,.int .i64 y.ly,.int .i64 y.co,.bool y.ft] 72)):=((one_alloc _ _).ch2 (one_alloc _ _)).ch2 (one_alloc _ _)
 have hD3:DubAt (((w.alloc (Obj.cells #[.slice a n cap] 116)).alloc (Obj.cells #[.int .u8 5] 5)).alloc (Obj.cells #[.int .i64 y.id,.string y.wa,.int .i64 y.pit,.int .i64 y.ly,.int .i64 y.co,.bool y.ft] 72)) w.heap.size a n cap 5 y:=by
  have e1:=World.alloc_heap_new (w.alloc (Obj.cells #[.slice a n cap] 116)) (Obj.cells #[.int .u8 5] 5)
  have e2:=World.alloc_heap_new ((w.alloc (Obj.cells #[.slice a n cap] 116)).alloc (Obj.cells #[.int .u8 5] 5)) (Obj.cells #[.int .i64 y.id,.string y.wa,.int .i64 y.pit,.int .i64 y.ly,.int .i64 y.co,.bool y.ft] 72)
  exact Z1u
 have hz3:(((w.alloc (Obj.cells #[.slice a n cap] 116)).alloc (Obj.cells #[.int .u8 5] 5)).alloc (Obj.cells #[.int .i64 y.id,.string y.wa,.int .i64 y.pit,.int .i64 y.ly,.int .i64 y.co,.bool y.ft] 72)).heap.size=w.heap.size +1 +1 +1:=by simp
 have hlen:=h.few 5
 have hz:=h.len
 have hI:=fun W b c (hi:ItmsAt W b (keptL s 5 y.id).length c (keptL s 5 y.id)) (hD:W.heap[w.heap.size +1 +1]?=some (.cells #[.int .i64 y.id,.string y.wa,.int .i64 y.pit,.int .i64 y.ly,.int .i64 y.co,.bool y.ft] 72 (0,0)))=>sdoub1 y b c (w.heap.size +1 +1) (keptL s 5 y.id) W (by omega) (kept_self (List.Sublist.refl _)) hi hD
 have hSp:=fun W C b c (hi:ItmsAt W b (keptL s 5 y.id).length c (keptL s 5 y.id)) (hD:W.heap[w.heap.size +1 +1]?=some (.cells #[.int .i64 y.id,.string y.wa,.int .i64 y.pit,.int .i64 y.ly,.int .i64 y.co,.bool y.ft] 72 (0,0))) (hF:W.heap[C]?=some (.cells #[.func (.func 178) #[] #[.pointer (some ⟨w.heap.size +1 +1,0,none⟩)]] 136 (0,0)))=>sspare_any 179 #[.pointer (some ⟨C,0,none⟩)] (fun r=>!contraB 5 y.co r) b _ c (keptL s 5 y.id) W hi (by omega) (enters_of Tryz.func179 Zk rfl)
  (fun m a' c' w1 hm hb hi' _=>sdoub2 y a' c' (w.heap.size +1 +1) C m w1 (Nat.le_trans hm.length_le (by omega)) (kept_self hm) hi' ((hb.block _ (Array.getElem?_eq_some_iff.1 hD).1).trans hD) ((hb.block _ (Array.getElem?_eq_some_iff.1 hF).1).trans hF))
 have hCol:=scolK a n cap s 5 y.id _ hs3 (by omega)
 rw [hz3] at hCol
 have c0:=(SL.cells_of hD3.c0).1 0
 have c1:=(SL.cells_of hD3.c1).1 0
 simp at c0 c1
 have z0:=(Array.getElem?_eq_some_iff.1 hD3.c0).1
 obtain ⟨p0,p1,p2,p3,p4,p5,pf⟩:=cell6 hD3.c2
 unfold RowPost at hSp
 have Hd:=Lib.hid hd
 have HD3:=Lib.hid hD3
 clear hd h hs hD3 hs3
 generalize keptL s 5 y.id=L at *
 simp only [Shd.v,Shd.cs] at *
 cases hT:contraB 5 y.co L with
 | false =>
   rw [hT] at hI Hd
   simp only [Bool.false_eq_true,if_false] at Hd
   rw [Hd.out] at HP
   clear hT
   go_enter Tryz.func121,Tryz.ntmps121
   go_wp2_with (first
    | (go_at_call 99;refine (skept _ _ _ _ _ _).mono ?_;rintro e w1 ⟨rfl,rfl⟩)
    | (go_at_call 98;(with_reducible refine hCol.mono ?_);rintro e w2 ⟨v2,rfl,hb2,ho2⟩;obtain ⟨va,vc,rfl,_⟩:=owns_slice ho2;have hD2:=HD3.out.below Z30;clear hCol c0 c1 p0 p1 p2 p3 p4 p5 pf z0;have c0:=(SL.cells_of hD2.c0).1 0;have c1:=(SL.cells_of hD2.c1).1 0;simp at c0 c1;have z0:=(Array.getElem?_eq_some_iff.1 hD2.c0).1;obtain ⟨p0,p1,p2,p3,p4,p5,pf⟩:=cell6 hD2.c2;have hi2:=ItmsAt.of_owns ho2 (by omega) hwid;have hF:=World.alloc_heap_new w2 (Obj.cells #[.func (.func 178) #[] #[.pointer (some ⟨w.heap.size +1 +1,0,none⟩)]] 136);have hal:=one_alloc w2 (Obj.cells #[.func (.func 178) #[] #[.pointer (some ⟨w.heap.size +1 +1,0,none⟩)]] 136);have hIm:=hI _ va vc (hi2.below hal) (alKeep hD2.c2);have hS3:=fun w3 (hb3:Below (w2.alloc (Obj.cells #[.func (.func 178) #[] #[.pointer (some ⟨w.heap.size +1 +1,0,none⟩)]] 136)).heap.size (w2.alloc (Obj.cells #[.func (.func 178) #[] #[.pointer (some ⟨w.heap.size +1 +1,0,none⟩)]] 136)) w3)=>hSp w3 w2.heap.size va vc ((hi2.below hal).below hb3) ((hb3.block _ (Array.getElem?_eq_some_iff.1 (alKeep hD2.c2)).1).trans (alKeep hD2.c2)) ((hb3.block _ (by simp)).trans hF);clear hF hD2 hi2 hI hSp ho2)
    | (go_at_call 178;(with_reducible refine hIm.mono ?_);rintro e w3 ⟨rfl,hb3⟩;have hS4:=hS3 w3 hb3;clear hS3)
    | (go_at_call 101;(with_reducible refine hS4.mono ?_);rintro e w4 ⟨v4,rfl,hb4,ho4⟩;obtain ⟨xa,xc,rfl,_⟩:=owns_slice ho4))
   exact HP.out _ _ (((hB3.trans (hb2.mono (by omega))).ch2 hal).ch2 hb3) (World.ownsRow_nil _ _ _ _)
 | true =>
   rw [hT] at hI Hd
   simp only [if_true] at Hd
   rw [Hd.out] at HP
   clear hT
   go_enter Tryz.func121,Tryz.ntmps121
   go_wp2_with (first
    | (go_at_call 99;refine (skept _ _ _ _ _ _).mono ?_;rintro e w1 ⟨rfl,rfl⟩)
    | (go_at_call 98;(with_reducible refine hCol.mono ?_);rintro e w2 ⟨v2,rfl,hb2,ho2⟩;obtain ⟨va,vc,rfl,_⟩:=owns_slice ho2;have hD2:=HD3.out.below Z30;clear hCol c0 c1 p0 p1 p2 p3 p4 p5 pf z0;have c0:=(SL.cells_of hD2.c0).1 0;have c1:=(SL.cells_of hD2.c1).1 0;simp at c0 c1;have z0:=(Array.getElem?_eq_some_iff.1 hD2.c0).1;obtain ⟨p0,p1,p2,p3,p4,p5,pf⟩:=cell6 hD2.c2;have hi2:=ItmsAt.of_owns ho2 (by omega) hwid;have hF:=World.alloc_heap_new w2 (Obj.cells #[.func (.func 178) #[] #[.pointer (some ⟨w.heap.size +1 +1,0,none⟩)]] 136);have hal:=one_alloc w2 (Obj.cells #[.func (.func 178) #[] #[.pointer (some ⟨w.heap.size +1 +1,0,none⟩)]] 136);have hIm:=hI _ va vc (hi2.below hal) (alKeep hD2.c2);have hS3:=fun w3 (hb3:Below (w2.alloc (Obj.cells #[.func (.func 178) #[] #[.pointer (some ⟨w.heap.size +1 +1,0,none⟩)]] 136)).heap.size (w2.alloc (Obj.cells #[.func (.func 178) #[] #[.pointer (some ⟨w.heap.size +1 +1,0,none⟩)]] 136)) w3)=>hSp w3 w2.heap.size va vc ((hi2.below hal).below hb3) ((hb3.block _ (Array.getElem?_eq_some_iff.1 (alKeep hD2.c2)).1).trans (alKeep hD2.c2)) ((hb3.block _ (by simp)).trans hF);clear hF hD2 hi2 hI hSp ho2)
    | (go_at_call 178;(with_reducible refine hIm.mono ?_);rintro e w3 ⟨rfl,hb3⟩;have hS4:=hS3 w3 hb3;clear hS3)
    | (go_at_call 101;(with_reducible refine hS4.mono ?_);rintro e w4 ⟨v4,rfl,hb4,ho4⟩;obtain ⟨xa,xc,rfl,_⟩:=owns_slice ho4))
   have hB5:=(((hB3.trans (hb2.mono (by omega))).ch2 hal).ch2 hb3)
   exact Z59
/-- A list of ints of one's own, and an error. -/
def IntE (w:World) (E:Int) (A:List Int) (e:Ending) (w':World):Prop:=∃ v,e=.returned (.tuple #[v,.int .i64 E])∧Below w.heap.size w w'∧w'.ownsRow w.heap.size 3 1 v A.length (A.map (.int .i64))
theorem swithM (a:Option Addr) (n cap:Nat) (s:List Itm) (y:Shd) (b:Option Addr) (cap2:Nat) (m:List Itm) (w:World) (h:ShelfOk s y) (hs:ItmsAt w a n cap s) (hm:m.Sublist (keptL s 2 y.id)) (hi:ItmsAt w b m.length cap2 m) :
 Calls Tryz.prog 100 #[.slice a n cap,.int .u8 2,y.v,.slice b m.length cap2] w (SysPost w (y.co +1) (waysB y.co m)):=by
 obtain ⟨o,h1,h2,h3⟩:=h.own
 obtain ⟨k1,k2,k3⟩:=h.ms (.inl rfl) hm
 have:=swith_any a n cap s 2 y b m.length cap2 m o w hs h.len hi (by omega) (.inl rfl) h1 h2 (hs.wide o h3) h.co k1
 rw [kept_self hm] at this
 exact this
def endF (up:Bool):Nat:=if up then 85 else 86
theorem end_ok (co fr tw:Int) (up:Bool) (m:List Itm):EndOk (endF up) (co +1) (waysB co m) fr tw (endN co fr tw up m).1 (endN co fr tw up m).2 (endX co fr tw up m):=by
 intro W a c hb
 unfold endF endN endX
 cases up with
 | true=>exact gGreatest_any (co +1) a _ c (waysB co m) fr tw W hb
 | false =>
   obtain ⟨e1,e2⟩:=endN_low (co:=co) (fr:=fr) (tw:=tw) (m:=m)
   have:=gLeast_any (co +1) a _ c (waysB co m) fr tw W hb
   rw [← e1,← e2] at this
   exact this
theorem sRests_any (a:Option Addr) (n cap:Nat) (l:List Itm) (day id fr tw:Int) (up:Bool) (w:World) (h:ItmsAt w a n cap l) (hcap:l.length≤cap) :
 Calls Tryz.prog 44 #[.slice a n cap,.int .i64 day,.int .i64 id,.int .i64 fr,.int .i64 tw,.bool up] w (IntE w (wayE l day id fr tw) (wRestsL l day id fr tw up)):=by
 have hB0:=(one_alloc w (Obj.cells #[.int .i64 fr] 3)).ch2 (one_alloc _ (Obj.cells #[.int .i64 tw] 3))
 have hWy:=sWay_any soutline a n cap l day id fr tw _ (h.below hB0) hcap
 have h9:=alKeep (o':=Obj.cells #[.int .i64 tw] 3) (World.alloc_heap_new w (Obj.cells #[.int .i64 fr] 3))
 have h10:=World.alloc_heap_new (w.alloc (Obj.cells #[.int .i64 fr] 3)) (Obj.cells #[.int .i64 tw] 3)
 rw [World.size_alloc] at h10
 have hL:=fun w1 (h1:ItmsAt w1 a n cap l)=>slooked_any a n cap l day id w1 h1 hcap
 have hw:=h.wide
 have HP:=Lib.hid (show ∀ w' v E A,wayE l day id fr tw=E→wRestsL l day id fr tw up=A→Below w.heap.size w w'→w'.ownsRow w.heap.size 3 1 v A.length (A.map (.int .i64))→IntE w (wayE l day id fr tw) (wRestsL l day id fr tw up) (.returned (.tuple #[v,.int .i64 E])) w' from fun w' v E A h0 h1 h2 h3=>⟨v,by rw [h0],h2,by rw [h1];exact h3⟩)
 generalize IntE w (wayE l day id fr tw) (wRestsL l day id fr tw up)=Post at *
 unfold QuadI at hWy
 unfold LookPost at hL
 by_cases h0:wayE l day id fr tw=0
 ·have hl0:lookE l day id=0:=by
   have hW:wayE l day id fr tw=if lookE l day id=0 then (if 0≤fr∧fr<tw∧tw≤(lookS l day id).co then (if okB (wayP l day id) (wayB l day id) then 0 else 21) else 1) else lookE l day id:=rfl
   rw [h0] at hW
   by_cases hh:lookE l day id=0
   ·exact hh
   ·rw [if_neg hh] at hW;omega
  have hlk:=look_ok hl0
  have hS:lookR l day id=countL l day:=by unfold lookR;rw [if_pos hl0]
  have hZ:lookZ l day id=lookS l day id:=by unfold lookZ;rw [if_pos hl0]
  have hok:=hlk.shelf
  have hsid:=hlk.sid
  have hcw:=wides hw (fun x (hx:x ∈ countL l day)=>(countL_sub hx).1)
  have hA:wRestsL l day id fr tw up=idsI (spareL (endNeeds (lookS l day id).co fr tw up (keptL (countL l day) 2 id)) (keptL (countL l day) 2 id)):=by unfold wRestsL;rw [if_pos h0]
  have hX:endX (lookS l day id).co fr tw up (keptL (countL l day) 2 id)=0:=by
   have hW:wayE l day id fr tw=if lookE l day id=0 then (if 0≤fr∧fr<tw∧tw≤(lookS l day id).co then (if okB (wayP l day id) (wayB l day id) then 0 else 21) else 1) else lookE l day id:=rfl
   rw [h0,if_pos hl0] at hW
   by_cases h1:0≤fr∧fr<tw∧tw≤(lookS l day id).co
   ·rw [if_pos h1] at hW
    by_cases h2:okB (wayP l day id) (wayB l day id)=true
    ·exact endX_zero up hlk.ways h2 h1.1 h1.2.1 h1.2.2
    ·rw [if_neg h2] at hW;omega
   ·rw [if_neg h1] at hW;omega
  rw [hS,hZ,hl0] at hL
  rw [h0] at hWy
  have HPf:=Lib.hid (fun w' v=>HP.out w' v 0 _ h0 hA)
  clear hS hZ hlk h0 hA hw hl0 HP
  generalize countL l day=S at *
  generalize lookS l day id=y at *
  obtain rfl:=hsid
  generalize wayLo l day y.id fr tw=A1 at *
  generalize wayHi l day y.id fr tw=A2 at *
  generalize wayK l day y.id fr tw=A3 at *
  have hsl:=hok.len
  have hwid:∀ x ∈ keptL S 2 y.id,x.Wide:=fun x hx=>hcw x (List.mem_filter.1 hx).1
  have hkl:=hok.few 2
  simp only [Shd.v,Shd.cs] at hL
  have hz0:((w.alloc (Obj.cells #[.int .i64 fr] 3)).alloc (Obj.cells #[.int .i64 tw] 3)).heap.size=w.heap.size +1 +1:=by simp
  obtain ⟨WB,hWB⟩:∃ B,waysB y.co (keptL S 2 y.id)=B:=⟨_,rfl⟩
  obtain ⟨N0,hN0⟩:∃ N,(endN y.co fr tw up (keptL S 2 y.id)).1=N:=⟨_,rfl⟩
  obtain ⟨I0,hI0⟩:∃ I,(endN y.co fr tw up (keptL S 2 y.id)).2=I:=⟨_,rfl⟩
  have hE0:=end_ok y.co fr tw up (keptL S 2 y.id)
  rw [hX,hN0,hI0,hWB] at hE0
  have hWl:WB.length≤1000:=by
   rw [← hWB]
   have h3:=msB_len (keptL S 2 y.id)
   have h5:=sidesL_len y.co.toNat
   have:=hok.co
   unfold waysB
   rw [List.length_append]
   omega
  have Hnd:Hid (∀ m,endNeeds y.co fr tw up (keptL S 2 y.id) m=!((endN y.co fr tw up m).1 == N0 && (endN y.co fr tw up m).2 == I0)):=Lib.hid (fun m=>by unfold endNeeds;rw [hN0,hI0])
  have HWB:=Lib.hid hWB
  clear hN0 hI0 hX hWB
  cases up with
  | true =>
    have HE:Hid (EndOk 85 (y.co +1) WB fr tw N0 I0 0):=hE0
    clear hE0
    go_enter Tryz.func44,Tryz.ntmps44
    go_wp2_with (first
     | (go_at_call 28;(with_reducible refine hWy.mono ?_);rintro e w1 ⟨rfl,hb1⟩;have h91:=(hb1.block w.heap.size Z4k).trans h9;have h101:=(hb1.block (w.heap.size +1) Z4k).trans h10)
     | (go_at_call 82;(with_reducible refine (hL _ ((h.below hB0).below hb1)).mono ?_);rintro e w2 ⟨v,rfl,hb2,ho2⟩;obtain ⟨va,vc,rfl,_⟩:=owns_slice ho2;have hB3:Below w2.heap.size w2 (((w2.alloc (Obj.cells #[.slice va S.length vc] 116)).alloc (Obj.cells #[.int .i64 y.id,.string y.wa,.int .i64 y.pit,.int .i64 y.ly,.int .i64 y.co,.bool y.ft] 72)).alloc (Obj.cells #[.func (.func 85) #[] #[]] 122)):=((one_alloc _ _).ch2 (one_alloc _ _)).ch2 (one_alloc _ _);have hs3:=(ItmsAt.of_owns ho2 (by omega) hcw).below hB3;have hCol:=scolK va S.length vc S 2 y.id _ hs3 (by omega);rw [World.size_alloc,World.size_alloc,World.size_alloc] at hCol;have q2:=World.alloc_heap_new w2 (Obj.cells #[.slice va S.length vc] 116);have q3:=World.alloc_heap_new (w2.alloc (Obj.cells #[.slice va S.length vc] 116)) (Obj.cells #[.int .i64 y.id,.string y.wa,.int .i64 y.pit,.int .i64 y.ly,.int .i64 y.co,.bool y.ft] 72);have e4:=World.alloc_heap_new ((w2.alloc (Obj.cells #[.slice va S.length vc] 116)).alloc (Obj.cells #[.int .i64 y.id,.string y.wa,.int .i64 y.pit,.int .i64 y.ly,.int .i64 y.co,.bool y.ft] 72)) (Obj.cells #[.func (.func 85) #[] #[]] 122);rw [World.size_alloc] at q3;rw [World.size_alloc,World.size_alloc] at e4;have e2:=alKeep (o':=Obj.cells #[.func (.func 85) #[] #[]] 122) (alKeep (o':=Obj.cells #[.int .i64 y.id,.string y.wa,.int .i64 y.pit,.int .i64 y.ly,.int .i64 y.co,.bool y.ft] 72) q2);have e3:=alKeep (o':=Obj.cells #[.func (.func 85) #[] #[]] 122) q3;clear q2 q3)
     | (go_at_call 99;refine (skept _ _ _ _ _ _).mono ?_;rintro e w4 ⟨rfl,rfl⟩)
     | (go_at_call 98;(with_reducible refine hCol.mono ?_);rintro e w5 ⟨v5,rfl,hb5,ho5⟩;obtain ⟨ma,mc,rfl,_⟩:=owns_slice ho5))
    have hzw2:=hb2.size
    have hzw1:=hb1.size
    rw [hz0] at hzw1
    have ks:=(hb5.block w2.heap.size (by omega)).trans e2
    have kx:=(hb5.block (w2.heap.size +1) (by omega)).trans e3
    have kf:=(hb5.block (w2.heap.size +1 +1) (by omega)).trans e4
    have k9:=(hb5.block w.heap.size (by omega)).trans ((hB3.block w.heap.size (by omega)).trans ((hb2.block w.heap.size (by omega)).trans h91))
    have k10:=(hb5.block (w.heap.size +1) (by omega)).trans ((hB3.block (w.heap.size +1) (by omega)).trans ((hb2.block (w.heap.size +1) (by omega)).trans h101))
    have hB5:Below w.heap.size w w5:=(((hB0.ch2 hb1).ch2 hb2).ch2 hB3).trans (hb5.mono (by omega))
    have hs5:ItmsAt w5 va S.length vc S:=hs3.below Z42
    have hm5:ItmsAt w5 ma (keptL S 2 y.id).length mc (keptL S 2 y.id):=ItmsAt.of_owns ho5 (by omega) hwid
    have hWw:=fun W (hb:Below w5.heap.size w5 W)=>swithM va S.length vc S y ma mc (keptL S 2 y.id) W hok (hs5.below hb) (List.Sublist.refl _) (hm5.below hb)
    unfold SysPost at hWw
    rw [HWB.out] at hWw
    simp only [Shd.v,Shd.cs] at hWw
    have f0:=(SL.cells_of kf).1 0
    have s0:=(SL.cells_of ks).1 0
    have g0:=(SL.cells_of k9).1 0
    have t0:=(SL.cells_of k10).1 0
    simp at f0 s0 g0 t0
    obtain ⟨p0,p1,p2,p3,p4,p5,pf⟩:=cell6 kx
    have zf:=(Array.getElem?_eq_some_iff.1 kf).1
    have zs:=(Array.getElem?_eq_some_iff.1 ks).1
    have zx:=(Array.getElem?_eq_some_iff.1 kx).1
    have z9:=(Array.getElem?_eq_some_iff.1 k9).1
    have z10:=(Array.getElem?_eq_some_iff.1 k10).1
    have HW:=Lib.hid hWw
    have HK:=Lib.hid (And.intro kf (And.intro ks (And.intro kx (And.intro k9 k10))))
    have HB5:=Lib.hid hB5
    have HS5:=Lib.hid hs5
    have HM5:=Lib.hid hm5
    have Hok:=Lib.hid hok
    clear hWw kf ks kx k9 k10 hB5 hs5 hm5 hB3 hs3 hb5 e2 e3 e4 hb2 hb1 h91 h101 hB0 h9 h10 ho5 ho2 hok hL hWy hz0 hCol hwid hcw h
    have hzB:w.heap.size +1<w2.heap.size:=by omega
    clear hzw1 hzw2
    generalize w2.heap.size=B2 at *
    apply SLG.rule0 ?hm [] [55,56,57,58,59,60,61,62,54,63,64,65,23,24,25] [SLF.pq 55 [] _,SLF.pq 56 [] _,SLF.pq 57 [] _,SLF.pq 58 [] _,SL.aw 59 [1,2,3] [] (fun p=>.ex fun v:Value=>.sep (.pure (p=.agg #[.int .i64 (y.co +1),v])) (.row w5.heap.size 69 4 v WB.length (bcs WB))),SLF.pq 60 [] _,SLF.pq 61 [] _,SL.pu 62 [0,4,5,6] (.tuple #[.int .i64 N0,.bool I0,.int .i64 0]),SLF.pq 54 [7] _,SLF.pq 63 [8] _,SLF.pq 64 [8] _,SLF.pq 65 [8] _,SL.box 23 [] [] w5.heap.size 3 #[.int .i64 0],SL.box 24 [] [] w5.heap.size 4 #[.bool false],SL.box 23 [9,12] [12] w5.heap.size 3 #[.int .i64 N0],SL.box 24 [10,13] [13] w5.heap.size 4 #[.bool I0],SL.pu 25 [11] (.int .i64 0)] [14,15,16] ?hck ?hkp (fun _=>[]) ?hin ?hdj ?hfr ?ob ?en1
    case hm=>kernel_rfl
    case hin=>exact SL.none_held rfl
    case hdj=>simp
    case hfr=>intro us;simp only [SL.frame,SL.put'];simp;exact rfl
    case ob =>
     exact Z5s
    case hck=>kernel_rfl
    case hkp=>kernel_rfl
    intro us7 w7 Fs7 hG hu hbd hd
    simp [SL.Used,SL.pu,SL.box] at hu
    obtain ⟨⟨Mn,e23,hbn,hhn,_⟩,⟨Mi,e24,hbi,hhi,_⟩,e25,_⟩:=hu
    have hB7:Below w5.heap.size w5 w7:=hG.below'
    obtain ⟨kf,ks,kx,k9,k10⟩:=HK.out
    have hR7:RstAt w7 (B2 +1 +1) B2 (B2 +1) w.heap.size (w.heap.size +1) Mn Mi 85 va S.length vc y fr tw N0 I0:=⟨(hB7.block _ zf).trans kf,(hB7.block _ zs).trans ks,(hB7.block _ zx).trans kx,(hB7.block _ z9).trans k9,(hB7.block _ z10).trans k10,hhn,hhi⟩
    have hs7:=HS5.out.below hB7
    have hm7:=HM5.out.below hB7
    have hSp:=sspare_any 102 #[.pointer (some ⟨B2 +1 +1,0,none⟩),.pointer (some ⟨B2,0,none⟩),.pointer (some ⟨B2 +1,0,none⟩),.pointer (some ⟨w.heap.size,0,none⟩),.pointer (some ⟨w.heap.size +1,0,none⟩),.pointer (some ⟨Mn,0,none⟩),.pointer (some ⟨Mi,0,none⟩)] (endNeeds y.co fr tw true (keptL S 2 y.id)) ma _ mc (keptL S 2 y.id) w7 hm7 (by omega) (enters_of Tryz.func102 Zk rfl)
     (fun m a' c' w1 hm hb hi' _=>by
      have hml:=hm.length_le
      have h3:=msB_len m
      have h5:=sidesL_len y.co.toNat
      have hco:=Hok.out.co
      have:=sRests1 (B2 +1 +1) B2 (B2 +1) w.heap.size (w.heap.size +1) Mn Mi 85 va S.length vc y fr tw N0 (endN y.co fr tw true m).1 (endX y.co fr tw true m) I0 (endN y.co fr tw true m).2 a' c' m.length (waysB y.co m) (y.co +1) w1 (hR7.below hb) (enters_of Tryz.func85 Zk rfl) (fun w2 hb2=>swithM va S.length vc S y a' c' m w2 Hok.out ((hs7.below hb).below hb2) hm (hi'.below hb2)) Z4q (end_ok y.co fr tw true m)
      rw [Hnd.out]
      exact this)
    unfold RowPost at hSp
    have HB7:=Lib.hid (HB5.out.ch2 hB7)
    have hwX:∀ x ∈ spareL (endNeeds y.co fr tw true (keptL S 2 y.id)) (keptL S 2 y.id),x.Wide:=fun x hx=>hm7.wide x ((spareL_sub _ _).subset hx)
    have hlX:(spareL (endNeeds y.co fr tw true (keptL S 2 y.id)) (keptL S 2 y.id)).length≤150:=Nat.le_trans (spareL_sub _ _).length_le hkl
    rw [e23,e24,e25]
    clear hs7 hm7 hR7 hB7 kf ks kx k9 k10 hG hbd hd hhn hhi e23 e24 e25 f0 s0 g0 t0 p0 p1 p2 p3 p4 p5 pf HW HE HK HB5 HS5 HM5 HWB Hnd hWl
    generalize keptL S 2 y.id=L at *
    generalize spareL (endNeeds y.co fr tw true L) L=X at *
    exact Z12
  | false =>
    have HE:Hid (EndOk 86 (y.co +1) WB fr tw N0 I0 0):=hE0
    clear hE0
    go_enter Tryz.func44,Tryz.ntmps44
    go_wp2_with (first
     | (go_at_call 28;(with_reducible refine hWy.mono ?_);rintro e w1 ⟨rfl,hb1⟩;have h91:=(hb1.block w.heap.size Z4k).trans h9;have h101:=(hb1.block (w.heap.size +1) Z4k).trans h10)
     | (go_at_call 82;(with_reducible refine (hL _ ((h.below hB0).below hb1)).mono ?_);rintro e w2 ⟨v,rfl,hb2,ho2⟩;obtain ⟨va,vc,rfl,_⟩:=owns_slice ho2;have hB3:Below w2.heap.size w2 (((w2.alloc (Obj.cells #[.slice va S.length vc] 116)).alloc (Obj.cells #[.int .i64 y.id,.string y.wa,.int .i64 y.pit,.int .i64 y.ly,.int .i64 y.co,.bool y.ft] 72)).alloc (Obj.cells #[.func (.func 86) #[] #[]] 122)):=((one_alloc _ _).ch2 (one_alloc _ _)).ch2 (one_alloc _ _);have hs3:=(ItmsAt.of_owns ho2 (by omega) hcw).below hB3;have hCol:=scolK va S.length vc S 2 y.id _ hs3 (by omega);rw [World.size_alloc,World.size_alloc,World.size_alloc] at hCol;have q2:=World.alloc_heap_new w2 (Obj.cells #[.slice va S.length vc] 116);have q3:=World.alloc_heap_new (w2.alloc (Obj.cells #[.slice va S.length vc] 116)) (Obj.cells #[.int .i64 y.id,.string y.wa,.int .i64 y.pit,.int .i64 y.ly,.int .i64 y.co,.bool y.ft] 72);have e4:=World.alloc_heap_new ((w2.alloc (Obj.cells #[.slice va S.length vc] 116)).alloc (Obj.cells #[.int .i64 y.id,.string y.wa,.int .i64 y.pit,.int .i64 y.ly,.int .i64 y.co,.bool y.ft] 72)) (Obj.cells #[.func (.func 86) #[] #[]] 122);rw [World.size_alloc] at q3;rw [World.size_alloc,World.size_alloc] at e4;have e2:=alKeep (o':=Obj.cells #[.func (.func 86) #[] #[]] 122) (alKeep (o':=Obj.cells #[.int .i64 y.id,.string y.wa,.int .i64 y.pit,.int .i64 y.ly,.int .i64 y.co,.bool y.ft] 72) q2);have e3:=alKeep (o':=Obj.cells #[.func (.func 86) #[] #[]] 122) q3;clear q2 q3)
     | (go_at_call 99;refine (skept _ _ _ _ _ _).mono ?_;rintro e w4 ⟨rfl,rfl⟩)
     | (go_at_call 98;(with_reducible refine hCol.mono ?_);rintro e w5 ⟨v5,rfl,hb5,ho5⟩;obtain ⟨ma,mc,rfl,_⟩:=owns_slice ho5))
    have hzw2:=hb2.size
    have hzw1:=hb1.size
    rw [hz0] at hzw1
    have ks:=(hb5.block w2.heap.size (by omega)).trans e2
    have kx:=(hb5.block (w2.heap.size +1) (by omega)).trans e3
    have kf:=(hb5.block (w2.heap.size +1 +1) (by omega)).trans e4
    have k9:=(hb5.block w.heap.size (by omega)).trans ((hB3.block w.heap.size (by omega)).trans ((hb2.block w.heap.size (by omega)).trans h91))
    have k10:=(hb5.block (w.heap.size +1) (by omega)).trans ((hB3.block (w.heap.size +1) (by omega)).trans ((hb2.block (w.heap.size +1) (by omega)).trans h101))
    have hB5:Below w.heap.size w w5:=(((hB0.ch2 hb1).ch2 hb2).ch2 hB3).trans (hb5.mono (by omega))
    have hs5:ItmsAt w5 va S.length vc S:=hs3.below Z42
    have hm5:ItmsAt w5 ma (keptL S 2 y.id).length mc (keptL S 2 y.id):=ItmsAt.of_owns ho5 (by omega) hwid
    have hWw:=fun W (hb:Below w5.heap.size w5 W)=>swithM va S.length vc S y ma mc (keptL S 2 y.id) W hok (hs5.below hb) (List.Sublist.refl _) (hm5.below hb)
    unfold SysPost at hWw
    rw [HWB.out] at hWw
    simp only [Shd.v,Shd.cs] at hWw
    have f0:=(SL.cells_of kf).1 0
    have s0:=(SL.cells_of ks).1 0
    have g0:=(SL.cells_of k9).1 0
    have t0:=(SL.cells_of k10).1 0
    simp at f0 s0 g0 t0
    obtain ⟨p0,p1,p2,p3,p4,p5,pf⟩:=cell6 kx
    have zf:=(Array.getElem?_eq_some_iff.1 kf).1
    have zs:=(Array.getElem?_eq_some_iff.1 ks).1
    have zx:=(Array.getElem?_eq_some_iff.1 kx).1
    have z9:=(Array.getElem?_eq_some_iff.1 k9).1
    have z10:=(Array.getElem?_eq_some_iff.1 k10).1
    have HW:=Lib.hid hWw
    have HK:=Lib.hid (And.intro kf (And.intro ks (And.intro kx (And.intro k9 k10))))
    have HB5:=Lib.hid hB5
    have HS5:=Lib.hid hs5
    have HM5:=Lib.hid hm5
    have Hok:=Lib.hid hok
    clear hWw kf ks kx k9 k10 hB5 hs5 hm5 hB3 hs3 hb5 e2 e3 e4 hb2 hb1 h91 h101 hB0 h9 h10 ho5 ho2 hok hL hWy hz0 hCol hwid hcw h
    have hzB:w.heap.size +1<w2.heap.size:=by omega
    clear hzw1 hzw2
    generalize w2.heap.size=B2 at *
    apply SLG.rule0 ?hm [] [55,56,57,58,59,60,61,62,54,63,64,65,23,24,25] [SLF.pq 55 [] _,SLF.pq 56 [] _,SLF.pq 57 [] _,SLF.pq 58 [] _,SL.aw 59 [1,2,3] [] (fun p=>.ex fun v:Value=>.sep (.pure (p=.agg #[.int .i64 (y.co +1),v])) (.row w5.heap.size 69 4 v WB.length (bcs WB))),SLF.pq 60 [] _,SLF.pq 61 [] _,SL.pu 62 [0,4,5,6] (.tuple #[.int .i64 N0,.bool I0,.int .i64 0]),SLF.pq 54 [7] _,SLF.pq 63 [8] _,SLF.pq 64 [8] _,SLF.pq 65 [8] _,SL.box 23 [] [] w5.heap.size 3 #[.int .i64 0],SL.box 24 [] [] w5.heap.size 4 #[.bool false],SL.box 23 [9,12] [12] w5.heap.size 3 #[.int .i64 N0],SL.box 24 [10,13] [13] w5.heap.size 4 #[.bool I0],SL.pu 25 [11] (.int .i64 0)] [14,15,16] ?hck ?hkp (fun _=>[]) ?hin ?hdj ?hfr ?ob ?en2
    case hm=>kernel_rfl
    case hin=>exact SL.none_held rfl
    case hdj=>simp
    case hfr=>intro us;simp only [SL.frame,SL.put'];simp;exact rfl
    case ob =>
     exact Z5s
    case hck=>kernel_rfl
    case hkp=>kernel_rfl
    intro us7 w7 Fs7 hG hu hbd hd
    simp [SL.Used,SL.pu,SL.box] at hu
    obtain ⟨⟨Mn,e23,hbn,hhn,_⟩,⟨Mi,e24,hbi,hhi,_⟩,e25,_⟩:=hu
    have hB7:Below w5.heap.size w5 w7:=hG.below'
    obtain ⟨kf,ks,kx,k9,k10⟩:=HK.out
    have hR7:RstAt w7 (B2 +1 +1) B2 (B2 +1) w.heap.size (w.heap.size +1) Mn Mi 86 va S.length vc y fr tw N0 I0:=⟨(hB7.block _ zf).trans kf,(hB7.block _ zs).trans ks,(hB7.block _ zx).trans kx,(hB7.block _ z9).trans k9,(hB7.block _ z10).trans k10,hhn,hhi⟩
    have hs7:=HS5.out.below hB7
    have hm7:=HM5.out.below hB7
    have hSp:=sspare_any 102 #[.pointer (some ⟨B2 +1 +1,0,none⟩),.pointer (some ⟨B2,0,none⟩),.pointer (some ⟨B2 +1,0,none⟩),.pointer (some ⟨w.heap.size,0,none⟩),.pointer (some ⟨w.heap.size +1,0,none⟩),.pointer (some ⟨Mn,0,none⟩),.pointer (some ⟨Mi,0,none⟩)] (endNeeds y.co fr tw false (keptL S 2 y.id)) ma _ mc (keptL S 2 y.id) w7 hm7 (by omega) (enters_of Tryz.func102 Zk rfl)
     (fun m a' c' w1 hm hb hi' _=>by
      have hml:=hm.length_le
      have h3:=msB_len m
      have h5:=sidesL_len y.co.toNat
      have hco:=Hok.out.co
      have:=sRests1 (B2 +1 +1) B2 (B2 +1) w.heap.size (w.heap.size +1) Mn Mi 86 va S.length vc y fr tw N0 (endN y.co fr tw false m).1 (endX y.co fr tw false m) I0 (endN y.co fr tw false m).2 a' c' m.length (waysB y.co m) (y.co +1) w1 (hR7.below hb) (enters_of Tryz.func86 Zk rfl) (fun w2 hb2=>swithM va S.length vc S y a' c' m w2 Hok.out ((hs7.below hb).below hb2) hm (hi'.below hb2)) Z4q (end_ok y.co fr tw false m)
      rw [Hnd.out]
      exact this)
    unfold RowPost at hSp
    have HB7:=Lib.hid (HB5.out.ch2 hB7)
    have hwX:∀ x ∈ spareL (endNeeds y.co fr tw false (keptL S 2 y.id)) (keptL S 2 y.id),x.Wide:=fun x hx=>hm7.wide x ((spareL_sub _ _).subset hx)
    have hlX:(spareL (endNeeds y.co fr tw false (keptL S 2 y.id)) (keptL S 2 y.id)).length≤150:=Nat.le_trans (spareL_sub _ _).length_le hkl
    rw [e23,e24,e25]
    clear hs7 hm7 hR7 hB7 kf ks kx k9 k10 hG hbd hd hhn hhi e23 e24 e25 f0 s0 g0 t0 p0 p1 p2 p3 p4 p5 pf HW HE HK HB5 HS5 HM5 HWB Hnd hWl
    generalize keptL S 2 y.id=L at *
    generalize spareL (endNeeds y.co fr tw false L) L=X at *
    exact Z12
 ·have hA:wRestsL l day id fr tw up=[]:=by unfold wRestsL;rw [if_neg h0]
  generalize wayE l day id fr tw=E at *
  have e2:(E != 0)=true:=by simpa using h0
  have HF:=Lib.hid (fun w' hb=>HP.out w' (.slice none 0 0) E [] rfl hA hb (World.ownsRow_nil _ _ _ _))
  have hz0:((w.alloc (Obj.cells #[.int .i64 fr] 3)).alloc (Obj.cells #[.int .i64 tw] 3)).heap.size=w.heap.size +1 +1:=by simp
  clear h0 hA HP hL
  go_enter Tryz.func44,Tryz.ntmps44
  go_wp2_with (go_at_call 28;(with_reducible refine hWy.mono ?_);rintro e w1 ⟨rfl,hb1⟩)
  exact HF.out _ (hB0.ch2 hb1)
end Go.Proofs.YtelkcohhagblaaaGreat

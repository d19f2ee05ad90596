/- What the functions answer, for every input. -/
import Derived.Test.YtelkcohhagblaaaGreatSe45
import Derived.Test.YtelkcohhagblaaaGreatSe51
import Derived.Test.YtelkcohhagblaaaGreatSe49
import Derived.Test.YtelkcohhagblaaaGreatSe37
import Derived.Test.YtelkcohhagblaaaGreatSe35
import Derived.Test.YtelkcohhagblaaaGreatSe24
import Derived.Test.YtelkcohhagblaaaGreatSe08
set_option linter.unusedSimpArgs false
set_option linter.unusedVariables false
set_option linter.unnecessarySimpa false
namespace Go.Proofs.YtelkcohhagblaaaGreat
theorem Z90 {P:Prop}(h:P:=by
 simp [results,Tryz.results33,go_sem,k0,k1,k2,k3]):P:=h
theorem Z92 {P:Prop}(h:P:=by
 simpa using hr3):P:=h
theorem Z97 {P:Prop}(h:P:=by
 simp <;> omega):P:=h
theorem Z9e {P:Prop}(h:P:=by
 rw [hR,if_neg (by rw [He0];exact h0)]):P:=h
open Go.RowKit Go.Shelf
set_option maxHeartbeats 16000000
set_option maxRecDepth 100000
theorem colK_succ {K:List Itm} {k:Nat} (hk:k<K.length):colL (K.take (k +1))=colS (colL (K.take k)) (K.getD k default):=by
 unfold colL
 rw [List.take_succ_eq_append_getElem hk,List.foldl_append,List.getD_eq_getElem?_getD,List.getElem?_eq_getElem hk]
 rfl
theorem sp_low {W:World} {N:Nat} {a b c d:Value} {t:TypeId} (h:W.heap[N]?=some (.cells #[a,b,c,d] t (0,0))) (x y:Value):((W.setCell ⟨N,0,none⟩ x).setCell ⟨N,2,none⟩ y).heap[N]?=some (.cells #[x,b,y,d] t (0,0)):=by
 simpa using SL.heap_set (i:=2) (SL.heap_set (i:=0) h x) y
theorem sp_high {W:World} {N:Nat} {a b c d:Value} {t:TypeId} (h:W.heap[N]?=some (.cells #[a,b,c,d] t (0,0))) (x y:Value):((W.setCell ⟨N,1,none⟩ x).setCell ⟨N,3,none⟩ y).heap[N]?=some (.cells #[a,x,c,y] t (0,0)):=by
 simpa using SL.heap_set (i:=3) (SL.heap_set (i:=1) h x) y
theorem chgD {E:List Nat} {w w':World} (h:SL.Chg E w w') (n:Nat):SL.Chg E w (w'.drewN n):=⟨h.os,h.tape,h.output,h.size,h.block⟩
theorem hpD {w:World} {N:Nat} {o:Obj} (h:w.heap[N]?=some o) (n:Nat):(w.drewN n).heap[N]?=some o:=h
theorem chg2 {N i j:Nat} {w w':World} (h:SL.Chg [N] w w') (x y:Value):SL.Chg [N] w ((w'.setCell ⟨N,i,none⟩ x).setCell ⟨N,j,none⟩ y):=(h.trans (.setCell _ (by simp) _)).trans (.setCell _ (by simp) _)
theorem r2Colour_any (a:Option Addr) (n cap:Nat) (l:List Itm) (day id:Int) (w:World) (h:ItmsAt w a n cap l) (hcap:l.length≤cap) (hs:l.length≤1000) :
 Calls Tryz.prog 33 #[.slice a n cap,.int .i64 day,.int .i64 id] w fun e w'=>e=.returned (.tuple #[(colR l day id).v,.int .i64 (colE l day id)])∧Below w.heap.size w w':=by
 have hB0:=one_alloc w (Obj.cells #[.int .i64 0,.int .i64 0,.int .i64 0,.int .i64 0] 43)
 have hR0:=World.alloc_heap_new w (Obj.cells #[.int .i64 0,.int .i64 0,.int .i64 0,.int .i64 0] 43)
 have hL:=r2SherdOf_any a n cap l day id _ (h.below hB0) hcap hs
 have hOf:=fun W hi=>r2of_any a n cap l day id 4 W hi hs
 have hw:=h.wide
 have hE:colE l day id=if lookE l day id=0 then (if (colL (keptL (countL l day) 4 id)).hi<(colL (keptL (countL l day) 4 id)).lo then 21 else 0) else lookE l day id:=rfl
 have hR:colR l day id=if colE l day id=0 then colL (keptL (countL l day) 4 id) else ⟨0,0,0,0⟩:=rfl
 have HP:=Lib.hid (show ∀ w' (o:Spn) E,colR l day id=o→colE l day id=E→Below w.heap.size w w'→(fun e w'=>e=Ending.returned (.tuple #[(colR l day id).v,.int .i64 (colE l day id)])∧Below w.heap.size w w':Ending→World→Prop) (.returned (.tuple #[o.v,.int .i64 E])) w' from fun w' o E h1 h2 h3=>⟨by rw [h1,h2],h3⟩)
 generalize (fun e w'=>e=Ending.returned (.tuple #[(colR l day id).v,.int .i64 (colE l day id)])∧Below w.heap.size w w':Ending→World→Prop)=Post at *
 unfold RowPost at hOf
 have hkl:(keptL (countL l day) 4 id).length≤1000:=Nat.le_trans (List.length_filter_le _ _) (Nat.le_trans (countL_len l day) hs)
 have hkw:∀ x ∈ keptL (countL l day) 4 id,x.Wide:=fun x hx=>hw x (countL_sub (List.mem_filter.1 hx).1).1
 simp only [Spn.v,Spn.cs] at HP
 generalize keptL (countL l day) 4 id=K at *
 by_cases h0:lookE l day id=0
 ·rw [if_pos h0] at hE
  rw [h0] at hL
  have HE:=Lib.hid hE
  have HR:=Lib.hid hR
  clear hE hR h0 hw
  generalize lookZ l day id=y at *
  simp only [Shd.v,Shd.cs] at hL
  go_enter Tryz.func33,Tryz.ntmps33
  go_wp2_with (first
   | (go_at_call 60;(with_reducible refine hL.mono ?_);rintro e w1 ⟨rfl,hb1⟩;have hR1:=(hb1.block w.heap.size (by simp)).trans hR0;have hB1:=hB0.ch2 hb1;have al1:=(one_alloc w1 (Obj.cells #[.int .i64 y.id,.string y.wa,.int .i64 y.pit,.int .i64 y.ly,.int .i64 y.co,.bool y.ft] 72)).ch2 (one_alloc _ (Obj.cells #[.int .i64 0,.int .i64 1000,.int .i64 0,.int .i64 0] 43));have hS1:=World.alloc_heap_new (w1.alloc (Obj.cells #[.int .i64 y.id,.string y.wa,.int .i64 y.pit,.int .i64 y.ly,.int .i64 y.co,.bool y.ft] 72)) (Obj.cells #[.int .i64 0,.int .i64 1000,.int .i64 0,.int .i64 0] 43);rw [World.size_alloc] at hS1)
   | (go_at_call 90;(with_reducible refine (hOf _ (h.below (hB1.ch2 al1))).mono ?_);rintro e w2 ⟨v2,rfl,hb2,ho2⟩;obtain ⟨va,vc,rfl,_⟩:=owns_slice ho2))
  have hS2:=(hb2.block (w1.heap.size +1) (by simp)).trans hS1
  have hR2:=((al1.ch2 hb2).block w.heap.size (Array.getElem?_eq_some_iff.1 hR1).1).trans hR1
  have HB2:=Lib.hid ((hB1.ch2 al1).ch2 hb2)
  have hzz:w.heap.size<w1.heap.size +1:=by have:=(Array.getElem?_eq_some_iff.1 hR1).1;omega
  simp only [World.size_alloc] at ho2
  have hSz:w1.heap.size +1<w1.heap.size +1 +1:=by omega
  generalize hSB:w1.heap.size +1=SB at *
  clear hSB hb2 hB1 al1 hS1 hR1 hb1 hB0 hR0 hL hOf h
  have HZ:=Lib.hid hzz
  clear hzz
  go_loopw [12] (fun i wr=>∃ k:Nat,k≤K.length∧i=.int .i64 k∧wr.heap[SB]?=some (.cells #[.int .i64 (colL (K.take k)).lo,.int .i64 (colL (K.take k)).hi,.int .i64 (colL (K.take k)).lob,.int .i64 (colL (K.take k)).hib] 43 (0,0))∧SL.Chg [SB] w2 wr) (fun i _=>K.length - (RowKit.intOf i).toNat)
  case atStart=>exact ⟨0,Nat.zero_le _,rfl,hS2,SL.Chg.refl _ _⟩
  case round =>
   obtain ⟨k,hk,rfl,hS,hC⟩:=hrel
   have hnn:(0:Int)≤k:=by omega
   have hor:=row_chg ho2 hC Z97
   by_cases hlt:k<K.length
   ·have i1:(k:Int)<(K.length:Int):=by omega
    have hbd:=fun j hj=>(SL.row_bounds hor j hj).1
    obtain ⟨b,o,rfl,hbz,⟨d0,d1,d2,d3,d4,d5,d6,d7,d8,d9,d10,d11,d12,d13,d14,d15⟩⟩:=(ItmsAt.of_owns hor (by omega) hkw).get hlt
    have hbS:b≠SB:=by
     have:=hbd b (by simp [Value.ownBlock])
     omega
    have hSb:SB≠b:=fun e=>hbS e.symm
    have Hsn:=Lib.hid (colK_succ hlt)
    generalize K.getD k default=x at *
    generalize colL (K.take k)=O at *
    obtain ⟨lo,hi,lob,hib⟩:=O
    simp only at hS
    obtain ⟨q0,q1,q2,q3,qf,ql⟩:=cell4s hS
    have HS:=Lib.hid hS
    have HC:=Lib.hid hC
    clear hS hC hor hbd
    cases c1:decide (lo<x.lo) with
    | true =>
      have c1':lo<x.lo:=by simpa using c1
      cases c2:decide (x.hi<hi) with
      | true =>
        have c2':x.hi<hi:=by simpa using c2
        have Hco:Hid (colS ⟨lo,hi,lob,hib⟩ x=⟨x.lo,x.hi,x.id,x.id⟩):=Lib.hid (by unfold colS;rw [if_pos c1',if_pos c2',if_pos c1',if_pos c2'])
        clear c1' c2'
        go_wp2_with fail
        go_quiet (fail)
        go_wp2_with fail
        go_quiet (fail)
        go_wp2_with fail
        go_roundw
        case rel=>exact ⟨k +1,by omega,by go_num,by rw [Hsn.out,Hco.out];exact sp_high (hpD (sp_low (hpD HS.out _) _ _) _) _ _,chg2 (chgD (chg2 (chgD HC.out _) _ _) _) _ _⟩
        case measure=>simp [RowKit.intOf] <;> omega
      | false =>
        have c2':¬ x.hi<hi:=by simpa using c2
        have Hco:Hid (colS ⟨lo,hi,lob,hib⟩ x=⟨x.lo,hi,x.id,hib⟩):=Lib.hid (by unfold colS;rw [if_pos c1',if_neg c2',if_pos c1',if_neg c2'])
        clear c1' c2'
        go_wp2_with fail
        go_quiet (fail)
        go_wp2_with fail
        go_quiet (fail)
        go_wp2_with fail
        go_roundw
        case rel=>exact ⟨k +1,by omega,by go_num,by rw [Hsn.out,Hco.out];exact hpD (sp_low (hpD HS.out _) _ _) _,chgD (chg2 (chgD HC.out _) _ _) _⟩
        case measure=>simp [RowKit.intOf] <;> omega
    | false =>
      have c1':¬ lo<x.lo:=by simpa using c1
      cases c2:decide (x.hi<hi) with
      | true =>
        have c2':x.hi<hi:=by simpa using c2
        have Hco:Hid (colS ⟨lo,hi,lob,hib⟩ x=⟨lo,x.hi,lob,x.id⟩):=Lib.hid (by unfold colS;rw [if_neg c1',if_pos c2',if_neg c1',if_pos c2'])
        clear c1' c2'
        go_wp2_with fail
        go_quiet (fail)
        go_wp2_with fail
        go_quiet (fail)
        go_wp2_with fail
        go_roundw
        case rel=>exact ⟨k +1,by omega,by go_num,by rw [Hsn.out,Hco.out];exact sp_high (hpD HS.out _) _ _,chg2 (chgD HC.out _) _ _⟩
        case measure=>simp [RowKit.intOf] <;> omega
      | false =>
        have c2':¬ x.hi<hi:=by simpa using c2
        have Hco:Hid (colS ⟨lo,hi,lob,hib⟩ x=⟨lo,hi,lob,hib⟩):=Lib.hid (by unfold colS;rw [if_neg c1',if_neg c2',if_neg c1',if_neg c2'])
        clear c1' c2'
        go_wp2_with fail
        go_quiet (fail)
        go_wp2_with fail
        go_quiet (fail)
        go_wp2_with fail
        go_roundw
        case rel=>exact ⟨k +1,by omega,by go_num,by rw [Hsn.out,Hco.out];exact hpD HS.out _,chgD HC.out _⟩
        case measure=>simp [RowKit.intOf] <;> omega
   ·have htk:K.take k=K:=List.take_of_length_le (by omega)
    rw [htk] at hS
    have i1:¬ (k:Int)<(K.length:Int):=by omega
    have hRw:=heap_chg_w hR2 hC (by simp;have:=HZ.out;omega)
    have hBw:=HB2.out.trans (hC.belowE_w HB2.out.size (by simp;have:=HZ.out;omega))
    have hne:w.heap.size≠SB:=by have:=HZ.out;omega
    have hne2:SB≠w.heap.size:=fun e=>hne e.symm
    obtain ⟨q0,q1,q2,q3,qf,ql⟩:=cell4s hS
    obtain ⟨r0,r1,r2,r3,rf,rl⟩:=cell4s hRw
    have HB9:=Lib.hid hBw
    have HR9:=Lib.hid hRw
    clear hS hC hor htk ho2 hR2 hS2 hRw hBw
    generalize colL K=O at *
    obtain ⟨lo,hi,lob,hib⟩:=O
    by_cases hc:hi<lo
    ·have c1:decide (hi<lo)=true:=by simpa using hc
     have He:Hid (colE l day id=21):=Lib.hid (by rw [HE.out,if_pos hc])
     have Hr:Hid (colR l day id=⟨0,0,0,0⟩):=Lib.hid Z3x
     clear hc
     go_wp2_with fail
     have HB:=Lib.hid (HB9.out.trans ((SLG.chg_set4 (E:=[w.heap.size]) (N:=w.heap.size) (wr) (by simp) (.int .i64 (0)) (.int .i64 (0)) (.int .i64 (0)) (.int .i64 (0))).belowE_w HB9.out.size (by simp)))
     obtain ⟨k0,k1,k2,k3,kf,kl⟩:=cell4s (SLG.heap_set4 HR9.out (.int .i64 (0)) (.int .i64 (0)) (.int .i64 (0)) (.int .i64 (0)))
     have HB3:=HB.out
     clear HB
     generalize ((((wr).setCell ⟨w.heap.size,0,none⟩ (.int .i64 (0))).setCell ⟨w.heap.size,1,none⟩ (.int .i64 (0))).setCell ⟨w.heap.size,2,none⟩ (.int .i64 (0))).setCell ⟨w.heap.size,3,none⟩ (.int .i64 (0))=WF at *
     exact bodyPost_ret (v:=.tuple #[.agg #[.int .i64 (0),.int .i64 (0),.int .i64 (0),.int .i64 (0)],.int .i64 21]) Z90 rfl (HP.out WF ⟨_,_,_,_⟩ _ Hr.out He.out HB3)
    ·have c1:decide (hi<lo)=false:=by simpa using hc
     have He:Hid (colE l day id=0):=Lib.hid (by rw [HE.out,if_neg hc])
     have Hr:Hid (colR l day id=⟨lo,hi,lob,hib⟩):=Lib.hid Z3x
     clear hc
     go_wp2_with fail
     have HB:=Lib.hid (HB9.out.trans ((SLG.chg_set4 (E:=[w.heap.size]) (N:=w.heap.size) (wr) (by simp) (.int .i64 (lo)) (.int .i64 (hi)) (.int .i64 (lob)) (.int .i64 (hib))).belowE_w HB9.out.size (by simp)))
     obtain ⟨k0,k1,k2,k3,kf,kl⟩:=cell4s (SLG.heap_set4 HR9.out (.int .i64 (lo)) (.int .i64 (hi)) (.int .i64 (lob)) (.int .i64 (hib)))
     have HB3:=HB.out
     clear HB
     generalize ((((wr).setCell ⟨w.heap.size,0,none⟩ (.int .i64 (lo))).setCell ⟨w.heap.size,1,none⟩ (.int .i64 (hi))).setCell ⟨w.heap.size,2,none⟩ (.int .i64 (lob))).setCell ⟨w.heap.size,3,none⟩ (.int .i64 (hib))=WF at *
     exact bodyPost_ret (v:=.tuple #[.agg #[.int .i64 (lo),.int .i64 (hi),.int .i64 (lob),.int .i64 (hib)],.int .i64 0]) Z90 rfl (HP.out WF ⟨_,_,_,_⟩ _ Hr.out He.out HB3)
 ·have He0:colE l day id=lookE l day id:=by rw [hE,if_neg h0]
  have Hr:Hid (colR l day id=⟨0,0,0,0⟩):=Lib.hid Z9e
  generalize lookE l day id=E at *
  have e2:(E != 0)=true:=by simpa using h0
  have He:Hid (colE l day id=E):=Lib.hid He0
  clear h0 He0 hE hR hOf hw
  generalize lookZ l day id=y at *
  simp only [Shd.v,Shd.cs] at hL
  go_enter Tryz.func33,Tryz.ntmps33
  go_wp2_with (go_at_call 60;(with_reducible refine hL.mono ?_);rintro e w1 ⟨rfl,hb1⟩;have hR1:=alKeep (o':=Obj.cells #[.int .i64 y.id,.string y.wa,.int .i64 y.pit,.int .i64 y.ly,.int .i64 y.co,.bool y.ft] 72) ((hb1.block w.heap.size (by simp)).trans hR0);have hB1:=(hB0.ch2 hb1).ch2 (one_alloc w1 (Obj.cells #[.int .i64 y.id,.string y.wa,.int .i64 y.pit,.int .i64 y.ly,.int .i64 y.co,.bool y.ft] 72));obtain ⟨r0,r1,r2,r3,rf,rl⟩:=cell4s hR1)
  have HB:=Lib.hid (hB1.trans ((SLG.chg_set4 (E:=[w.heap.size]) (N:=w.heap.size) (w1.alloc (Obj.cells #[.int .i64 y.id,.string y.wa,.int .i64 y.pit,.int .i64 y.ly,.int .i64 y.co,.bool y.ft] 72)) (by simp) (.int .i64 (0)) (.int .i64 (0)) (.int .i64 (0)) (.int .i64 (0))).belowE_w hB1.size (by simp)))
  obtain ⟨k0,k1,k2,k3,kf,kl⟩:=cell4s (SLG.heap_set4 hR1 (.int .i64 (0)) (.int .i64 (0)) (.int .i64 (0)) (.int .i64 (0)))
  have HB3:=HB.out
  clear HB
  generalize ((((w1.alloc (Obj.cells #[.int .i64 y.id,.string y.wa,.int .i64 y.pit,.int .i64 y.ly,.int .i64 y.co,.bool y.ft] 72)).setCell ⟨w.heap.size,0,none⟩ (.int .i64 (0))).setCell ⟨w.heap.size,1,none⟩ (.int .i64 (0))).setCell ⟨w.heap.size,2,none⟩ (.int .i64 (0))).setCell ⟨w.heap.size,3,none⟩ (.int .i64 (0))=WF at *
  exact bodyPost_ret (v:=.tuple #[.agg #[.int .i64 (0),.int .i64 (0),.int .i64 (0),.int .i64 (0)],.int .i64 E]) Z90 rfl (HP.out WF ⟨_,_,_,_⟩ _ Hr.out He.out HB3)
set_option maxHeartbeats 8000000
theorem any_byte (l:List UInt8) (c:UInt8):(l.any fun y=>(y.toNat:Int) == (c.toNat:Int))=l.contains c:=by
 rw [Bool.eq_iff_iff,List.any_eq_true]
 simp only [beq_iff_eq,List.contains_iff_mem]
 constructor
 ·rintro ⟨x,hx,e⟩
  have:x=c:=UInt8.toNat_inj.1 (by omega)
  rwa [← this]
 ·intro h
  exact ⟨c,h,rfl⟩
def comP (l:List Itm) (k:Nat):List UInt8:=(letC.take k).filter fun c=>(setsL l).all fun s=>s.contains c
theorem letC_at:∀ k,k<26→(letC.getD k 0).toNat=97 +k:=by decide
theorem comP_len (l:List Itm) (k:Nat):(comP l k).length≤26:=by
 unfold comP
 refine Nat.le_trans (List.length_filter_le _ _) ?_
 rw [List.length_take]
 exact Nat.min_le_right _ _
theorem ba_snoc (l:List UInt8) (c:UInt8):((⟨l.toArray⟩:ByteArray) ++(⟨#[c]⟩:ByteArray))=⟨(l ++[c]).toArray⟩:=by
 apply ByteArray.ext
 simp
theorem comP_all (l:List Itm):comP l 26=comC (setsL l):=rfl
theorem comP_succ {l:List Itm} {k:Nat} (hk:k<26):comP l (k +1)=comP l k ++if (setsL l).all (fun s=>s.contains (letC.getD k 0)) then [letC.getD k 0] else []:=by
 have hl:k<letC.length:=hk
 unfold comP
 rw [List.take_succ_eq_append_getElem hl,List.filter_append,List.getD_eq_getElem?_getD,List.getElem?_eq_getElem hl]
 congr 1
 simp only [Option.getD_some,List.filter_cons,List.filter_nil]
theorem sets_succ {l:List Itm} {j:Nat} (hj:j<l.length) (c:UInt8):((setsL l).take (j +1)).all (fun s=>s.contains c)=(((setsL l).take j).all (fun s=>s.contains c) && (l.getD j default).st.data.toList.contains c):=by
 have hl:j<(setsL l).length:=by unfold setsL;simpa using hj
 rw [List.take_succ_eq_append_getElem hl,List.all_append,List.getD_eq_getElem?_getD,List.getElem?_eq_getElem hj]
 simp [setsL]
theorem r2common_any (a:Option Addr) (n cap:Nat) (l:List Itm) (w:World) (h:ItmsAt w a n cap l) (hs:l.length≤1000) :
 Calls Tryz.prog 93 #[.slice a n cap] w fun e w'=>e=.returned (.string ⟨(comC (setsL l)).toArray⟩)∧Below w.heap.size w w':=by
 obtain rfl:=h.len
 have HP:=Lib.hid (show ∀ w',Below w.heap.size w w'→(fun e w'=>e=Ending.returned (.string ⟨(comC (setsL l)).toArray⟩)∧Below w.heap.size w w':Ending→World→Prop) (.returned (.string ⟨(comP l 26).toArray⟩)) w' from fun w' h=>⟨by rw [comP_all],h⟩)
 generalize (fun e w'=>e=Ending.returned (.string ⟨(comC (setsL l)).toArray⟩)∧Below w.heap.size w w':Ending→World→Prop)=Post at *
 have hwd:=h.wide
 go_enter Tryz.func93,Tryz.ntmps93
 go_wp2_with fail
 go_loopw [3,4] (fun r c wr=>∃ (k:Nat),k≤26∧r=.string ⟨(comP l k).toArray⟩∧c=.int .u8 (97 +(k:Int))∧Below w.heap.size w wr) (fun _ c _=>123 - (RowKit.intOf c).toNat)
 case atStart=>exact ⟨0,Nat.zero_le _,rfl,rfl,Below.refl _ _⟩
 case round =>
  obtain ⟨k,hk,rfl,rfl,hB⟩:=hrel
  by_cases hlt:k<26
  ·have Hs:=Lib.hid (comP_succ (l:=l) hlt)
   have hc8:=letC_at k hlt
   generalize letC.getD k 0=c8 at *
   have hci:(97:Int) +(k:Int)=(c8.toNat:Int):=by omega
   have hcn:(c8.toNat:Int)≤122:=by omega
   have hc0:(0:Int)≤(c8.toNat:Int):=by omega
   rw [hci]
   have Hwr:=Lib.hid (show (c8.toNat:Int) +1=97 +((k +1:Nat):Int) by omega)
   have HB:=Lib.hid hB
   have Hcn:=Lib.hid hc8
   have hin:=fun W s hs=>r2in_any s (c8.toNat:Int) W hs
   simp only [any_byte] at hin
   clear hB hc8 hci
   have hol0:=comP_len l k
   generalize comP l k=O at *
   have hol:¬ 9223372036854775807<O.length +1:=by omega
   clear hol0
   go_wp2_with fail
   go_loop [5,6] (fun al i=>∃ j:Nat,j≤l.length∧i=.int .i64 j∧al=.bool (((setsL l).take j).all fun s=>s.contains c8)) (fun _ i=>l.length - (RowKit.intOf i).toNat)
   case atStart=>exact ⟨0,Nat.zero_le _,rfl,rfl⟩
   case round =>
    obtain ⟨j,hj,rfl,rfl⟩:=hrel
    have hnn:(0:Int)≤j:=by omega
    by_cases hlj:j<l.length
    ·have i1:(j:Int)<(l.length:Int):=by omega
     have Hsu:=Lib.hid (sets_succ hlj c8)
     have hwx:=(hwd _ (Itm.mem hlj)).st
     obtain ⟨b,o,rfl,_,⟨d0,d1,d2,d3,d4,d5,d6,d7,d8,d9,d10,d11,d12,d13,d14,d15⟩⟩:=(h.below HB.out).get hlj
     generalize l.getD j default=x at *
     generalize ((setsL l).take j).all (fun s=>s.contains c8)=AL at *
     have hcall:=hin wr x.st hwx
     generalize x.st.data.toList.contains c8=CT at *
     cases AL with
     | true =>
       go_wp2_with (go_at_call 69;(with_reducible refine hcall.mono ?_);rintro e w8 ⟨rfl,rfl⟩)
       go_round
       case rel=>exact ⟨j +1,by omega,by go_num,by rw [Hsu.out];rfl⟩
       case measure=>simp [RowKit.intOf];omega
     | false =>
       go_wp2_with fail
       go_round
       case rel=>exact ⟨j +1,by omega,by go_num,by rw [Hsu.out];rfl⟩
       case measure=>simp [RowKit.intOf];omega
    ·have htk:(setsL l).take j=setsL l:=List.take_of_length_le (by unfold setsL;simp;omega)
     rw [htk]
     have i1:¬ (j:Int)<(l.length:Int):=by omega
     clear htk
     generalize (setsL l).all (fun s=>s.contains c8)=AL at *
     cases AL with
     | true =>
       have kb:=run_convert_bytes_back (P:=Tryz.prog) (wr.alloc (Obj.cells #[.int .u8 c8.toNat] 5)) 84 9 5 ⟨wr.heap.size,0,none⟩ 1 [c8] Tryz.underlying84 Tryz.underlying5 Tryz.underlying9 (fun j hj=>by
        have hj0:j=0:=by simpa using hj
        subst hj0
        rw [Addr.add_lit]
        exact (SL.cells_of (World.alloc_heap_new wr (Obj.cells #[.int .u8 c8.toNat] 5))).1 0)
       simp only [List.length_cons,List.length_nil,Nat.zero_add] at kb
       go_wp2_with fail
       go_roundw
       case rel=>exact ⟨k +1,by omega,by rw [Hs.out];exact congrArg Value.string (ba_snoc O c8),by rw [Hwr.out],HB.out.ch2 (one_alloc _ _)⟩
       case measure=>simp [RowKit.intOf];omega
     | false =>
       go_wp2_with fail
       go_roundw
       case rel=>exact ⟨k +1,by omega,by rw [Hs.out];simp,by rw [Hwr.out],HB.out⟩
       case measure=>simp [RowKit.intOf];omega
  ·obtain rfl:k=26:=by omega
   have HF:=Lib.hid (HP.out _ hB)
   clear hB h hwd
   generalize comP l 26=O at *
   exact Z4t
theorem r2Curves_any (a:Option Addr) (n cap:Nat) (l:List Itm) (day id:Int) (w:World) (h:ItmsAt w a n cap l) (hcap:l.length≤cap) (hs:l.length≤1000) :
 Calls Tryz.prog 35 #[.slice a n cap,.int .i64 day,.int .i64 id] w fun e w'=>e=.returned (.tuple #[.string ⟨(curR l day id).toArray⟩,.int .i64 (curE l day id)])∧Below w.heap.size w w':=by
 have hL:=r2SherdOf_any a n cap l day id w h hcap hs
 have hOf:=fun W hi=>r2of_any a n cap l day id 5 W hi hs
 have hw:=h.wide
 have hE:curE l day id=if lookE l day id=0 then (if comC (setsL (keptL (countL l day) 5 id))=[] then 21 else 0) else lookE l day id:=rfl
 have hR:curR l day id=if curE l day id=0 then comC (setsL (keptL (countL l day) 5 id)) else []:=rfl
 have HP:=Lib.hid (show ∀ w' (o:List UInt8) E,curR l day id=o→curE l day id=E→Below w.heap.size w w'→(fun e w'=>e=Ending.returned (.tuple #[.string ⟨(curR l day id).toArray⟩,.int .i64 (curE l day id)])∧Below w.heap.size w w':Ending→World→Prop) (.returned (.tuple #[.string ⟨o.toArray⟩,.int .i64 E])) w' from fun w' o E h1 h2 h3=>⟨by rw [h1,h2],h3⟩)
 generalize (fun e w'=>e=Ending.returned (.tuple #[.string ⟨(curR l day id).toArray⟩,.int .i64 (curE l day id)])∧Below w.heap.size w w':Ending→World→Prop)=Post at *
 have hkl:(keptL (countL l day) 5 id).length≤1000:=Nat.le_trans (List.length_filter_le _ _) (Nat.le_trans (countL_len l day) hs)
 have hkw:∀ x ∈ keptL (countL l day) 5 id,x.Wide:=fun x hx=>hw x (countL_sub (List.mem_filter.1 hx).1).1
 have hCm:=fun W b c (hi:ItmsAt W b (keptL (countL l day) 5 id).length c (keptL (countL l day) 5 id))=>r2common_any b _ c (keptL (countL l day) 5 id) W hi hkl
 unfold RowPost at hOf
 generalize keptL (countL l day) 5 id=K at *
 generalize lookZ l day id=y at *
 generalize comC (setsL K)=o at *
 simp only [Shd.v,Shd.cs] at hL
 by_cases h0:lookE l day id=0
 ·rw [if_pos h0] at hE
  rw [h0] at hL
  clear h0 hw
  by_cases hc:o=[]
  ·have He:Hid (curE l day id=21):=Lib.hid (by rw [hE,if_pos hc])
   have Hr:Hid (curR l day id=[]):=Lib.hid (by rw [hR,He.out];rfl)
   subst hc
   clear hE hR
   go_enter Tryz.func35,Tryz.ntmps35
   go_wp2_with (first
    | (go_at_call 60;(with_reducible refine hL.mono ?_);rintro e w1 ⟨rfl,hb1⟩;have hZ1:=hb1.ch2 (one_alloc w1 (Obj.cells #[.int .i64 y.id,.string y.wa,.int .i64 y.pit,.int .i64 y.ly,.int .i64 y.co,.bool y.ft] 72)))
    | (go_at_call 90;(with_reducible refine (hOf _ (h.below hZ1)).mono ?_);rintro e w2 ⟨v2,rfl,hb2,ho2⟩;obtain ⟨va,vc,rfl,_⟩:=owns_slice ho2;have hk2:=ItmsAt.of_owns ho2 (by omega) hkw)
    | (go_at_call 93;(with_reducible refine (hCm _ _ _ hk2).mono ?_);rintro e w3 ⟨rfl,hb3⟩))
   exact HP.out _ [] _ Hr.out He.out ((hZ1.ch2 hb2).ch2 hb3)
  ·have e1:o.isEmpty=false:=by simpa using hc
   have He:Hid (curE l day id=0):=Lib.hid (by rw [hE,if_neg hc])
   have Hr:Hid (curR l day id=o):=Lib.hid (by rw [hR,He.out];rfl)
   clear hE hR hc
   go_enter Tryz.func35,Tryz.ntmps35
   go_wp2_with (first
    | (go_at_call 60;(with_reducible refine hL.mono ?_);rintro e w1 ⟨rfl,hb1⟩;have hZ1:=hb1.ch2 (one_alloc w1 (Obj.cells #[.int .i64 y.id,.string y.wa,.int .i64 y.pit,.int .i64 y.ly,.int .i64 y.co,.bool y.ft] 72)))
    | (go_at_call 90;(with_reducible refine (hOf _ (h.below hZ1)).mono ?_);rintro e w2 ⟨v2,rfl,hb2,ho2⟩;obtain ⟨va,vc,rfl,_⟩:=owns_slice ho2;have hk2:=ItmsAt.of_owns ho2 (by omega) hkw)
    | (go_at_call 93;(with_reducible refine (hCm _ _ _ hk2).mono ?_);rintro e w3 ⟨rfl,hb3⟩))
   exact HP.out _ o _ Hr.out He.out ((hZ1.ch2 hb2).ch2 hb3)
 ·have He0:curE l day id=lookE l day id:=by rw [hE,if_neg h0]
  have Hr:Hid (curR l day id=[]):=Lib.hid Z9e
  generalize lookE l day id=E at *
  have e2:(E != 0)=true:=by simpa using h0
  have He:Hid (curE l day id=E):=Lib.hid He0
  clear h0 He0 hE hR hOf hCm hw
  go_enter Tryz.func35,Tryz.ntmps35
  go_wp2_with (go_at_call 60;(with_reducible refine hL.mono ?_);rintro e w1 ⟨rfl,hb1⟩)
  exact HP.out _ [] _ Hr.out He.out (hb1.ch2 (one_alloc w1 (Obj.cells #[.int .i64 y.id,.string y.wa,.int .i64 y.pit,.int .i64 y.ly,.int .i64 y.co,.bool y.ft] 72)))
/-- A number put into an ascending list where it belongs. -/
theorem asc_put {S:List Int} {x:Int} {k:Nat} (hs:Asc S) (hx:x ∉ S) (hk:k≤S.length) (ha:∀ j,k≤j→j<S.length→x<S.getD j 0) (hb:k=0∨S.getD (k - 1) 0≤x) :
 ascOf (S ++[x])=S.take k ++[x] ++S.drop k:=by
 have hg:∀ i j (hi:i<S.length) (hj:j<S.length),i<j→S[i]<S[j]:=fun i j hi hj hij=>List.pairwise_iff_getElem.1 hs i j hi hj hij
 have h1:∀ y ∈ S.take k,y<x:=fun y hy=>by
  obtain ⟨i,hi,e⟩:=List.getElem_of_mem hy
  rw [List.length_take] at hi
  rw [List.getElem_take] at e
  rcases hb with h0 | h0
  ·omega
  ·have hn:y≠x:=fun e2=>hx (by rw [← e2];exact List.mem_of_mem_take hy)
   rw [List.getD_eq_getElem?_getD,List.getElem?_eq_getElem (by omega)] at h0
   simp only [Option.getD_some] at h0
   rcases Nat.lt_or_ge i (k - 1) with h2 | h2
   ·have:=hg i (k - 1) (by omega) (by omega) h2
    omega
   ·have e3:i=k - 1:=by omega
    subst e3
    omega
 have h2:∀ y ∈ S.drop k,x<y:=fun y hy=>by
  obtain ⟨i,hi,e⟩:=List.getElem_of_mem hy
  rw [List.length_drop] at hi
  rw [List.getElem_drop] at e
  have:=ha (k +i) (by omega) (by omega)
  rw [List.getD_eq_getElem?_getD,List.getElem?_eq_getElem (by omega)] at this
  simp only [Option.getD_some] at this
  omega
 have h3:Asc (S.take k ++[x] ++S.drop k):=by
  unfold Asc
  rw [List.append_assoc,List.pairwise_append]
  refine ⟨hs.sublist (List.take_sublist _ _),?_,?_⟩
  ·rw [List.singleton_append,List.pairwise_cons]
   exact ⟨h2,hs.sublist (List.drop_sublist _ _)⟩
  ·intro u hu v hv
   rw [List.singleton_append,List.mem_cons] at hv
   rcases hv with rfl | hv
   ·exact h1 u hu
   ·exact Int.lt_trans (h1 u hu) (h2 v hv)
 refine asc_ext (ascOf_asc _) h3 fun y=>?_
 rw [mem_ascOf]
 conv=>lhs;rw [← List.take_append_drop k S]
 simp only [List.mem_append,List.mem_singleton]
 constructor
 ·rintro ((h | h) | h) <;> simp [h]
 ·rintro ((h | h) | h) <;> simp [h]
theorem row_fstI {w:World} {a:Option Addr} {cap:Nat} {S:List Int} (h:RowAt w a cap (S.map (.int .i64))) (q:Nat):RowAt w a cap ((S.take q).map (.int .i64)):=by
 rw [← List.take_append_drop q S,List.map_append] at h
 constructor
 ·intro ha
  have:=h.nil ha
  rw [List.append_eq_nil_iff] at this
  exact ⟨this.1.1,this.2⟩
 ·intro x hx
  refine ⟨(h.at_ x hx).1,(h.at_ x hx).2.1,fun i u hi=>(h.at_ x hx).2.2 i u ?_⟩
  rw [List.getElem?_append_left (List.getElem?_eq_some_iff.1 hi).1]
  exact hi
theorem row_fromI {w:World} {b o oc q:Nat} {S:List Int} (h:RowAt w (some ⟨b,o,none⟩) oc (S.map (.int .i64))) (hq:q≤S.length) (hc:S.length≤oc):RowAt w (if oc=q then some ⟨b,o,none⟩ else some ⟨b,o +q,none⟩) (oc - q) ((S.drop q).map (.int .i64)):=by
 split
 ·rename_i e
  rw [List.drop_eq_nil_of_le (by omega)]
  constructor
  ·intro ha;cases ha
  ·intro x hx
   cases hx
   exact ⟨rfl,(h.at_ _ rfl).2.1,fun i u hi=>by simp at hi⟩
 ·constructor
  ·intro ha;cases ha
  ·intro x hx
   cases hx
   refine ⟨rfl,(h.at_ _ rfl).2.1,fun i u hi=>?_⟩
   have hi2:(S.map (Value.int .i64))[q +i]?=some u:=by
    rw [List.getElem?_map] at hi ⊢
    rw [List.getElem?_drop] at hi
    exact hi
   have:=(h.at_ _ rfl).2.2 (q +i) u hi2
   simpa [Nat.add_assoc] using this
theorem intsR_one (l:List Int):∀ u ∈ l.map (Value.int .i64),u.oneCell'=true:=by
 intro u hu
 obtain ⟨x,_,rfl⟩:=List.mem_map.1 hu
 rfl
theorem r2put_any (a:Option Addr) (n cap:Nat) (S:List Int) (x:Int) (w:World) (hS:IntsAt w a n cap S) (hcap:S.length≤cap) (has:Asc S) (hx:x ∉ S) (hl:S.length≤100000) :
 Calls Tryz.prog 105 #[.slice a n cap,.int .i64 x] w (RowPost w 3 1 (ascOf (S ++[x])).length ((ascOf (S ++[x])).map (.int .i64))):=by
 obtain rfl:=hS.len
 have HP:=Lib.hid (show ∀ v w' q,q≤S.length→ascOf (S ++[x])=S.take q ++[x] ++S.drop q→Below w.heap.size w w'→w'.ownsRow w.heap.size 3 1 v (q +1 +(S.length - q)) (((S.take q).map (.int .i64) ++[.int .i64 x]) ++(S.drop q).map (.int .i64))→RowPost w 3 1 (ascOf (S ++[x])).length ((ascOf (S ++[x])).map (.int .i64)) (.returned v) w' from fun v w' q h1 h2 h3 h4=>⟨v,rfl,h3,by
  rw [h2]
  have e:(S.take q ++[x] ++S.drop q).length=q +1 +(S.length - q):=by simp;omega
  rw [e,List.map_append,List.map_append]
  exact h4⟩)
 generalize RowPost w 3 1 (ascOf (S ++[x])).length ((ascOf (S ++[x])).map (.int .i64))=Post at *
 have Has:=Lib.hid has
 have Hx:=Lib.hid hx
 have hrow:=hS.row
 clear has hx
 go_enter Tryz.func105,Tryz.ntmps105
 go_wp2_with fail
 go_loop [5] (fun v=>∃ q:Nat,q≤S.length∧v=.int .i64 q∧(∀ j,q≤j→j<S.length→x<S.getD j 0)) (fun v=>(RowKit.intOf v).toNat)
 case atStart=>exact ⟨S.length,Nat.le_refl _,rfl,fun j h1 h2=>absurd h2 (by omega)⟩
 case round =>
  obtain ⟨q,hq,rfl,hup⟩:=hrel
  have HUp:=Lib.hid hup
  clear hup
  have tok1:True:=trivial
  have tok2:True:=trivial
  cases q with
  | zero =>
    rcases a with _ | ⟨bo,oo,so⟩
    ·obtain ⟨hn1,hn2⟩:=hrow.nil rfl
     have hS0:S=[]:=by simpa using hn1
     subst hn2
     have hs1:RowAt (w.alloc (Obj.cells #[] 3)) none 0 ((S.take 0).map (.int .i64)):=RowAt.nilAt _
     have hsl0:S.length=0:=by rw [hS0];rfl
     have HS0:=Lib.hid hS0
     clear hS
     rw [hsl0]
     clear hn1 hS0 hsl0
     have hlit:=World.ownsRow_lit (base:=w.heap.size) (e:=3) (size:=1) w #[] 0 (Nat.le_refl _) (by decide) rfl
     go_wp2_with (first
      | (at_builtin;clear tok1;refine wpList_app elemI rfl _ _ rfl hlit rfl rfl hs1 Z97 (intsR_one _) Z1s (by omega) (by simp) ?_;intro v3 w3 hr3 hg3 hb3 _ _;replace hr3:w3.ownsRow w.heap.size 3 1 v3 (0) ((S.take (0)).map (.int .i64)):=Z92;obtain ⟨na,nc,rfl,_⟩:=owns_slice hr3;have hC3:=(one_alloc w (Obj.cells #[] 3)).trans hb3;have hsl:=World.alloc_heap_new w3 (Obj.cells #[.int .i64 x] 3);have hal3:=one_alloc w3 (Obj.cells #[.int .i64 x] 3);have hr4:=hr3.up hal3 (Nat.le_refl _);have hC4:=hC3.ch2 hal3;clear hlit hg3 hb3 hr3)
      | (at_builtin;clear tok2;refine wpList_app elemI rfl _ _ rfl hr4 rfl rfl (RowAt.of_heap hsl) (m:=1) (by rfl) (intsR_one [x]) Z1s (by omega) hC4.size ?_;intro v5 w5 hr5 hg5 hb5 _ _;obtain ⟨ma,mc,rfl,_⟩:=owns_slice hr5;have hC5:=hC4.trans hb5;have hs3:=(by rw [HS0.out];exact RowAt.nilAt _:RowAt w5 none 0 ((S.drop 0).map (.int .i64)));clear hr4 hsl hg5 hb5 hal3 hC3)
      | (at_builtin;refine wpList_app elemI rfl _ _ rfl hr5 rfl rfl hs3 (by rw [HS0.out];rfl) (intsR_one _) Z1s (by omega) hC5.size ?_;intro v7 w7 hr7 hg7 hb7 _ _;have HR7:=Lib.hid (And.intro hr7 (hC5.trans hb7));clear hr5 hs3 hr7 hg7 hb7))
     exact HP.out _ _ (0) (by omega) (asc_put Has.out Hx.out (by omega) HUp.out (.inl rfl)) HR7.out.2 (by rw [show S.length - 0=0 by rw [HS0.out];rfl];exact HR7.out.1)
    obtain ⟨hso,ho2,_⟩:=hrow.at_ _ rfl
    simp only at hso
    subst hso
    have j3:(0:Int)≤(cap:Int):=by omega
    have hlit:=World.ownsRow_lit (base:=w.heap.size) (e:=3) (size:=1) w #[] 0 (Nat.le_refl _) (by decide) rfl
    go_wp2_with (first
     | (at_builtin;clear tok1;refine wpList_app elemI rfl _ _ rfl hlit rfl rfl ((row_fstI hrow 0).below (one_alloc w _)) Z97 (intsR_one _) Z1s (by omega) (by simp) ?_;intro v3 w3 hr3 hg3 hb3 _ _;replace hr3:w3.ownsRow w.heap.size 3 1 v3 (0) ((S.take (0)).map (.int .i64)):=Z92;obtain ⟨na,nc,rfl,_⟩:=owns_slice hr3;have hC3:=(one_alloc w (Obj.cells #[] 3)).trans hb3;have hsl:=World.alloc_heap_new w3 (Obj.cells #[.int .i64 x] 3);have hal3:=one_alloc w3 (Obj.cells #[.int .i64 x] 3);have hr4:=hr3.up hal3 (Nat.le_refl _);have hC4:=hC3.ch2 hal3;clear hlit hg3 hb3 hr3)
     | (at_builtin;clear tok2;refine wpList_app elemI rfl _ _ rfl hr4 rfl rfl (RowAt.of_heap hsl) (m:=1) (by rfl) (intsR_one [x]) Z1s (by omega) hC4.size ?_;intro v5 w5 hr5 hg5 hb5 _ _;obtain ⟨ma,mc,rfl,_⟩:=owns_slice hr5;have hC5:=hC4.trans hb5;have hs3:=(hrow.below hC5);clear hr4 hsl hg5 hb5 hal3 hC3)
     | (at_builtin;refine wpList_app elemI rfl _ _ rfl hr5 rfl rfl hs3 (by simp) (intsR_one _) Z1s (by omega) hC5.size ?_;intro v7 w7 hr7 hg7 hb7 _ _;have HR7:=Lib.hid (And.intro hr7 (hC5.trans hb7));clear hr5 hs3 hr7 hg7 hb7))
    exact HP.out _ _ (0) (by omega) (asc_put Has.out Hx.out (by omega) HUp.out (.inl rfl)) HR7.out.2 HR7.out.1
  | succ p =>
    obtain ⟨b2,o2,rfl,hz2,c0⟩:=hS.get (i:=p) (by omega)
    have hwr:IntKind.i64.wrap ((p:Int) +1 - 1)=p:=by rw [show (p:Int) +1 - 1=p by omega];exact IntWalk.i64_in _ (by omega)
    have j0:(0:Int)≤p:=by omega
    have j1:(p:Int)<(S.length:Int):=by omega
    have j2:decide ((0:Int)<(p:Int) +1)=true:=by simp <;> omega
    have j3:(p:Int) +1≤(cap:Int):=by omega
    have j4:(0:Int)≤(p:Int) +1:=by omega
    have j5:(p:Int) +1≤(S.length:Int):=by omega
    obtain ⟨yid,hy⟩:∃ y,S.getD p 0=y:=⟨_,rfl⟩
    rw [hy] at c0
    have Hy:=Lib.hid hy
    clear hy
    by_cases hg:x<yid
    ·have e2:decide (x<yid)=true:=by simpa using hg
     have HG:=Lib.hid hg
     clear hg
     go_wp2_with fail
     go_round
     case rel=>exact ⟨p,by omega,by go_num,fun j h1 h2=>by
      by_cases e:j=p
      ·subst e;rw [Hy.out];exact HG.out
      ·exact HUp.out j (by omega) h2⟩
     case measure=>simp [RowKit.intOf] <;> omega
    ·have e2:decide (x<yid)=false:=by simpa using hg
     have HG:=Lib.hid hg
     clear hg
     have hlit:=World.ownsRow_lit (base:=w.heap.size) (e:=3) (size:=1) w #[] 0 (Nat.le_refl _) (by decide) rfl
     go_wp2_with (first
      | (at_builtin;clear tok1;refine wpList_app elemI rfl _ _ rfl hlit rfl rfl ((row_fstI hrow (p +1)).below (one_alloc w _)) Z97 (intsR_one _) Z1s (by omega) (by simp) ?_;intro v3 w3 hr3 hg3 hb3 _ _;replace hr3:w3.ownsRow w.heap.size 3 1 v3 (p +1) ((S.take (p +1)).map (.int .i64)):=Z92;obtain ⟨na,nc,rfl,_⟩:=owns_slice hr3;have hC3:=(one_alloc w (Obj.cells #[] 3)).trans hb3;have hsl:=World.alloc_heap_new w3 (Obj.cells #[.int .i64 x] 3);have hal3:=one_alloc w3 (Obj.cells #[.int .i64 x] 3);have hr4:=hr3.up hal3 (Nat.le_refl _);have hC4:=hC3.ch2 hal3;clear hlit hg3 hb3 hr3)
      | (at_builtin;clear tok2;refine wpList_app elemI rfl _ _ rfl hr4 rfl rfl (RowAt.of_heap hsl) (m:=1) (by rfl) (intsR_one [x]) Z1s (by omega) hC4.size ?_;intro v5 w5 hr5 hg5 hb5 _ _;obtain ⟨ma,mc,rfl,_⟩:=owns_slice hr5;have hC5:=hC4.trans hb5;have hs3:=((row_fromI hrow (q:=p +1) (by omega) (by omega)).below hC5);clear hr4 hsl hg5 hb5 hal3 hC3)
      | (at_builtin;refine wpList_app elemI rfl _ _ rfl hr5 rfl rfl hs3 (by simp) (intsR_one _) Z1s (by omega) hC5.size ?_;intro v7 w7 hr7 hg7 hb7 _ _;have HR7:=Lib.hid (And.intro hr7 (hC5.trans hb7));clear hr5 hs3 hr7 hg7 hb7))
     exact HP.out _ _ (p +1) (by omega) (asc_put Has.out Hx.out (by omega) HUp.out (.inr (by rw [Nat.add_sub_cancel,Hy.out];have:=HG.out;omega))) HR7.out.2 HR7.out.1
end Go.Proofs.YtelkcohhagblaaaGreat

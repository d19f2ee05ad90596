/- What the functions answer, for every input. -/
import Derived.Test.YtelkcohhagblaaaGreatSe45
import Derived.Test.YtelkcohhagblaaaGreatSe51
import Derived.Test.YtelkcohhagblaaaGreatSe49
import Derived.Test.YtelkcohhagblaaaGreatSe37
import Derived.Test.YtelkcohhagblaaaGreatSe35
set_option linter.unusedSimpArgs false
set_option linter.unusedVariables false
set_option linter.unnecessarySimpa false
namespace Go.Proofs.YtelkcohhagblaaaGreat
theorem Z8n {P:Prop}(h:P:=by
 simp [results,Tryz.results33,go_sem,k0,k1,k2,k3]):P:=h
theorem Z8z {P:Prop}(h:P:=by
 rw [hR,if_neg (by rw [He0];exact h0)]):P:=h
open Go.RowKit Go.Shelf
set_option maxHeartbeats 16000000
set_option maxRecDepth 100000
theorem colK_succ {K:List Itm} {k:Nat} (hk:k<K.length):colL (K.take (k +1))=colS (colL (K.take k)) (K.getD k default):=by
 unfold colL
 rw [List.take_succ_eq_append_getElem hk,List.foldl_append,List.getD_eq_getElem?_getD,List.getElem?_eq_getElem hk]
 rfl
theorem sp_low {W:World} {N:Nat} {a b c d:Value} {t:TypeId} (h:W.heap[N]?=some (.cells #[a,b,c,d] t (0,0))) (x y:Value):((W.setCell ⟨N,0,none⟩ x).setCell ⟨N,2,none⟩ y).heap[N]?=some (.cells #[x,b,y,d] t (0,0)):=by
 simpa using SL.heap_set (i:=2) (SL.heap_set (i:=0) h x) y
theorem sp_high {W:World} {N:Nat} {a b c d:Value} {t:TypeId} (h:W.heap[N]?=some (.cells #[a,b,c,d] t (0,0))) (x y:Value):((W.setCell ⟨N,1,none⟩ x).setCell ⟨N,3,none⟩ y).heap[N]?=some (.cells #[a,x,c,y] t (0,0)):=by
 simpa using SL.heap_set (i:=3) (SL.heap_set (i:=1) h x) y
theorem chgD {E:List Nat} {w w':World} (h:SL.Chg E w w') (n:Nat):SL.Chg E w (w'.drewN n):=⟨h.os,h.tape,h.output,h.size,h.block⟩
theorem hpD {w:World} {N:Nat} {o:Obj} (h:w.heap[N]?=some o) (n:Nat):(w.drewN n).heap[N]?=some o:=h
theorem chg2 {N i j:Nat} {w w':World} (h:SL.Chg [N] w w') (x y:Value):SL.Chg [N] w ((w'.setCell ⟨N,i,none⟩ x).setCell ⟨N,j,none⟩ y):=(h.trans (.setCell _ (by simp) _)).trans (.setCell _ (by simp) _)
theorem r2Colour_any (a:Option Addr) (n cap:Nat) (l:List Itm) (day id:Int) (w:World) (h:ItmsAt w a n cap l) (hcap:l.length≤cap) (hs:l.length≤1000) :
 Calls Tryz.prog 33 #[.slice a n cap,.int .i64 day,.int .i64 id] w fun e w'=>e=.returned (.tuple #[(colR l day id).v,.int .i64 (colE l day id)])∧Below w.heap.size w w':=by
 have hB0:=one_alloc w (Obj.cells #[.int .i64 0,.int .i64 0,.int .i64 0,.int .i64 0] 43)
 have hR0:=World.alloc_heap_new w (Obj.cells #[.int .i64 0,.int .i64 0,.int .i64 0,.int .i64 0] 43)
 have hL:=r2SherdOf_any a n cap l day id _ (h.below hB0) hcap hs
 have hOf:=fun W hi=>r2of_any a n cap l day id 4 W hi hs
 have hw:=h.wide
 have hE:colE l day id=if lookE l day id=0 then (if (colL (keptL (countL l day) 4 id)).hi<(colL (keptL (countL l day) 4 id)).lo then 21 else 0) else lookE l day id:=rfl
 have hR:colR l day id=if colE l day id=0 then colL (keptL (countL l day) 4 id) else ⟨0,0,0,0⟩:=rfl
 have HP:=Lib.hid (show ∀ w' (o:Spn) E,colR l day id=o→colE l day id=E→Below w.heap.size w w'→(fun e w'=>e=Ending.returned (.tuple #[(colR l day id).v,.int .i64 (colE l day id)])∧Below w.heap.size w w':Ending→World→Prop) (.returned (.tuple #[o.v,.int .i64 E])) w' from fun w' o E h1 h2 h3=>⟨by rw [h1,h2],h3⟩)
 generalize (fun e w'=>e=Ending.returned (.tuple #[(colR l day id).v,.int .i64 (colE l day id)])∧Below w.heap.size w w':Ending→World→Prop)=Post at *
 unfold RowPost at hOf
 have hkl:(keptL (countL l day) 4 id).length≤1000:=Nat.le_trans (List.length_filter_le _ _) (Nat.le_trans (countL_len l day) hs)
 have hkw:∀ x ∈ keptL (countL l day) 4 id,x.Wide:=fun x hx=>hw x (countL_sub (List.mem_filter.1 hx).1).1
 simp only [Spn.v,Spn.cs] at HP
 generalize keptL (countL l day) 4 id=K at *
 by_cases h0:lookE l day id=0
 ·rw [if_pos h0] at hE
  rw [h0] at hL
  have HE:=Lib.hid hE
  have HR:=Lib.hid hR
  clear hE hR h0 hw
  generalize lookZ l day id=y at *
  simp only [Shd.v,Shd.cs] at hL
  go_enter Tryz.func33,Tryz.ntmps33
  go_wp2_with (first
   | (go_at_call 60;(with_reducible refine hL.mono ?_);rintro e w1 ⟨rfl,hb1⟩;have hR1:=(hb1.block w.heap.size (by simp)).trans hR0;have hB1:=hB0.ch2 hb1;have al1:=(one_alloc w1 (Obj.cells #[.int .i64 y.id,.string y.wa,.int .i64 y.pit,.int .i64 y.ly,.int .i64 y.co,.bool y.ft] 72)).ch2 (one_alloc _ (Obj.cells #[.int .i64 0,.int .i64 1000,.int .i64 0,.int .i64 0] 43));have hS1:=World.alloc_heap_new (w1.alloc (Obj.cells #[.int .i64 y.id,.string y.wa,.int .i64 y.pit,.int .i64 y.ly,.int .i64 y.co,.bool y.ft] 72)) (Obj.cells #[.int .i64 0,.int .i64 1000,.int .i64 0,.int .i64 0] 43);rw [World.size_alloc] at hS1)
   | (go_at_call 90;(with_reducible refine (hOf _ (h.below (hB1.ch2 al1))).mono ?_);rintro e w2 ⟨v2,rfl,hb2,ho2⟩;obtain ⟨va,vc,rfl,_⟩:=owns_slice ho2))
  have hS2:=(hb2.block (w1.heap.size +1) (by simp)).trans hS1
  have hR2:=((al1.ch2 hb2).block w.heap.size (Array.getElem?_eq_some_iff.1 hR1).1).trans hR1
  have HB2:=Lib.hid ((hB1.ch2 al1).ch2 hb2)
  have hzz:w.heap.size<w1.heap.size +1:=by have:=(Array.getElem?_eq_some_iff.1 hR1).1;omega
  simp only [World.size_alloc] at ho2
  have hSz:w1.heap.size +1<w1.heap.size +1 +1:=by omega
  generalize hSB:w1.heap.size +1=SB at *
  clear hSB hb2 hB1 al1 hS1 hR1 hb1 hB0 hR0 hL hOf h
  have HZ:=Lib.hid hzz
  clear hzz
  go_loopw [12] (fun i wr=>∃ k:Nat,k≤K.length∧i=.int .i64 k∧wr.heap[SB]?=some (.cells #[.int .i64 (colL (K.take k)).lo,.int .i64 (colL (K.take k)).hi,.int .i64 (colL (K.take k)).lob,.int .i64 (colL (K.take k)).hib] 43 (0,0))∧SL.Chg [SB] w2 wr) (fun i _=>K.length - (RowKit.intOf i).toNat)
  case atStart=>exact ⟨0,Nat.zero_le _,rfl,hS2,SL.Chg.refl _ _⟩
  case round =>
   obtain ⟨k,hk,rfl,hS,hC⟩:=hrel
   have hnn:(0:Int)≤k:=by omega
   have hor:=row_chg ho2 hC (by simp <;> omega)
   by_cases hlt:k<K.length
   ·have i1:(k:Int)<(K.length:Int):=by omega
    have hbd:=fun j hj=>(SL.row_bounds hor j hj).1
    obtain ⟨b,o,rfl,hbz,⟨d0,d1,d2,d3,d4,d5,d6,d7,d8,d9,d10,d11,d12,d13,d14,d15⟩⟩:=(ItmsAt.of_owns hor (by omega) hkw).get hlt
    have hbS:b≠SB:=by
     have:=hbd b (by simp [Value.ownBlock])
     omega
    have hSb:SB≠b:=fun e=>hbS e.symm
    have Hsn:=Lib.hid (colK_succ hlt)
    generalize K.getD k default=x at *
    generalize colL (K.take k)=O at *
    obtain ⟨lo,hi,lob,hib⟩:=O
    simp only at hS
    obtain ⟨q0,q1,q2,q3,qf,ql⟩:=cell4s hS
    have HS:=Lib.hid hS
    have HC:=Lib.hid hC
    clear hS hC hor hbd
    cases c1:decide (lo<x.lo) with
    | true =>
      have c1':lo<x.lo:=by simpa using c1
      cases c2:decide (x.hi<hi) with
      | true =>
        have c2':x.hi<hi:=by simpa using c2
        have Hco:Hid (colS ⟨lo,hi,lob,hib⟩ x=⟨x.lo,x.hi,x.id,x.id⟩):=Lib.hid (by unfold colS;rw [if_pos c1',if_pos c2',if_pos c1',if_pos c2'])
        clear c1' c2'
        go_wp2_with fail
        go_quiet (fail)
        go_wp2_with fail
        go_quiet (fail)
        go_wp2_with fail
        go_roundw
        case rel=>exact ⟨k +1,by omega,by go_num,by rw [Hsn.out,Hco.out];exact sp_high (hpD (sp_low (hpD HS.out _) _ _) _) _ _,chg2 (chgD (chg2 (chgD HC.out _) _ _) _) _ _⟩
        case measure=>simp [RowKit.intOf] <;> omega
      | false =>
        have c2':¬ x.hi<hi:=by simpa using c2
        have Hco:Hid (colS ⟨lo,hi,lob,hib⟩ x=⟨x.lo,hi,x.id,hib⟩):=Lib.hid (by unfold colS;rw [if_pos c1',if_neg c2',if_pos c1',if_neg c2'])
        clear c1' c2'
        go_wp2_with fail
        go_quiet (fail)
        go_wp2_with fail
        go_quiet (fail)
        go_wp2_with fail
        go_roundw
        case rel=>exact ⟨k +1,by omega,by go_num,by rw [Hsn.out,Hco.out];exact hpD (sp_low (hpD HS.out _) _ _) _,chgD (chg2 (chgD HC.out _) _ _) _⟩
        case measure=>simp [RowKit.intOf] <;> omega
    | false =>
      have c1':¬ lo<x.lo:=by simpa using c1
      cases c2:decide (x.hi<hi) with
      | true =>
        have c2':x.hi<hi:=by simpa using c2
        have Hco:Hid (colS ⟨lo,hi,lob,hib⟩ x=⟨lo,x.hi,lob,x.id⟩):=Lib.hid (by unfold colS;rw [if_neg c1',if_pos c2',if_neg c1',if_pos c2'])
        clear c1' c2'
        go_wp2_with fail
        go_quiet (fail)
        go_wp2_with fail
        go_quiet (fail)
        go_wp2_with fail
        go_roundw
        case rel=>exact ⟨k +1,by omega,by go_num,by rw [Hsn.out,Hco.out];exact sp_high (hpD HS.out _) _ _,chg2 (chgD HC.out _) _ _⟩
        case measure=>simp [RowKit.intOf] <;> omega
      | false =>
        have c2':¬ x.hi<hi:=by simpa using c2
        have Hco:Hid (colS ⟨lo,hi,lob,hib⟩ x=⟨lo,hi,lob,hib⟩):=Lib.hid (by unfold colS;rw [if_neg c1',if_neg c2',if_neg c1',if_neg c2'])
        clear c1' c2'
        go_wp2_with fail
        go_quiet (fail)
        go_wp2_with fail
        go_quiet (fail)
        go_wp2_with fail
        go_roundw
        case rel=>exact ⟨k +1,by omega,by go_num,by rw [Hsn.out,Hco.out];exact hpD HS.out _,chgD HC.out _⟩
        case measure=>simp [RowKit.intOf] <;> omega
   ·have htk:K.take k=K:=List.take_of_length_le (by omega)
    rw [htk] at hS
    have i1:¬ (k:Int)<(K.length:Int):=by omega
    have hRw:=heap_chg_w hR2 hC (by simp;have:=HZ.out;omega)
    have hBw:=HB2.out.trans (hC.belowE_w HB2.out.size (by simp;have:=HZ.out;omega))
    have hne:w.heap.size≠SB:=by have:=HZ.out;omega
    have hne2:SB≠w.heap.size:=fun e=>hne e.symm
    obtain ⟨q0,q1,q2,q3,qf,ql⟩:=cell4s hS
    obtain ⟨r0,r1,r2,r3,rf,rl⟩:=cell4s hRw
    have HB9:=Lib.hid hBw
    have HR9:=Lib.hid hRw
    clear hS hC hor htk ho2 hR2 hS2 hRw hBw
    generalize colL K=O at *
    obtain ⟨lo,hi,lob,hib⟩:=O
    by_cases hc:hi<lo
    ·have c1:decide (hi<lo)=true:=by simpa using hc
     have He:Hid (colE l day id=21):=Lib.hid (by rw [HE.out,if_pos hc])
     have Hr:Hid (colR l day id=⟨0,0,0,0⟩):=Lib.hid Z3x
     clear hc
     go_wp2_with fail
     have HB:=Lib.hid (HB9.out.trans ((SLG.chg_set4 (E:=[w.heap.size]) (N:=w.heap.size) (wr) (by simp) (.int .i64 (0)) (.int .i64 (0)) (.int .i64 (0)) (.int .i64 (0))).belowE_w HB9.out.size (by simp)))
     obtain ⟨k0,k1,k2,k3,kf,kl⟩:=cell4s (SLG.heap_set4 HR9.out (.int .i64 (0)) (.int .i64 (0)) (.int .i64 (0)) (.int .i64 (0)))
     have HB3:=HB.out
     clear HB
     generalize ((((wr).setCell ⟨w.heap.size,0,none⟩ (.int .i64 (0))).setCell ⟨w.heap.size,1,none⟩ (.int .i64 (0))).setCell ⟨w.heap.size,2,none⟩ (.int .i64 (0))).setCell ⟨w.heap.size,3,none⟩ (.int .i64 (0))=WF at *
     exact bodyPost_ret (v:=.tuple #[.agg #[.int .i64 (0),.int .i64 (0),.int .i64 (0),.int .i64 (0)],.int .i64 21]) Z8n rfl (HP.out WF ⟨_,_,_,_⟩ _ Hr.out He.out HB3)
    ·have c1:decide (hi<lo)=false:=by simpa using hc
     have He:Hid (colE l day id=0):=Lib.hid (by rw [HE.out,if_neg hc])
     have Hr:Hid (colR l day id=⟨lo,hi,lob,hib⟩):=Lib.hid Z3x
     clear hc
     go_wp2_with fail
     have HB:=Lib.hid (HB9.out.trans ((SLG.chg_set4 (E:=[w.heap.size]) (N:=w.heap.size) (wr) (by simp) (.int .i64 (lo)) (.int .i64 (hi)) (.int .i64 (lob)) (.int .i64 (hib))).belowE_w HB9.out.size (by simp)))
     obtain ⟨k0,k1,k2,k3,kf,kl⟩:=cell4s (SLG.heap_set4 HR9.out (.int .i64 (lo)) (.int .i64 (hi)) (.int .i64 (lob)) (.int .i64 (hib)))
     have HB3:=HB.out
     clear HB
     generalize ((((wr).setCell ⟨w.heap.size,0,none⟩ (.int .i64 (lo))).setCell ⟨w.heap.size,1,none⟩ (.int .i64 (hi))).setCell ⟨w.heap.size,2,none⟩ (.int .i64 (lob))).setCell ⟨w.heap.size,3,none⟩ (.int .i64 (hib))=WF at *
     exact bodyPost_ret (v:=.tuple #[.agg #[.int .i64 (lo),.int .i64 (hi),.int .i64 (lob),.int .i64 (hib)],.int .i64 0]) Z8n rfl (HP.out WF ⟨_,_,_,_⟩ _ Hr.out He.out HB3)
 ·have He0:colE l day id=lookE l day id:=by rw [hE,if_neg h0]
  have Hr:Hid (colR l day id=⟨0,0,0,0⟩):=Lib.hid Z8z
  generalize lookE l day id=E at *
  have e2:(E != 0)=true:=by simpa using h0
  have He:Hid (colE l day id=E):=Lib.hid He0
  clear h0 He0 hE hR hOf hw
  generalize lookZ l day id=y at *
  simp only [Shd.v,Shd.cs] at hL
  go_enter Tryz.func33,Tryz.ntmps33
  go_wp2_with (go_at_call 60;(with_reducible refine hL.mono ?_);rintro e w1 ⟨rfl,hb1⟩;have hR1:=alKeep (o':=Obj.cells #[.int .i64 y.id,.string y.wa,.int .i64 y.pit,.int .i64 y.ly,.int .i64 y.co,.bool y.ft] 72) ((hb1.block w.heap.size (by simp)).trans hR0);have hB1:=(hB0.ch2 hb1).ch2 (one_alloc w1 (Obj.cells #[.int .i64 y.id,.string y.wa,.int .i64 y.pit,.int .i64 y.ly,.int .i64 y.co,.bool y.ft] 72));obtain ⟨r0,r1,r2,r3,rf,rl⟩:=cell4s hR1)
  have HB:=Lib.hid (hB1.trans ((SLG.chg_set4 (E:=[w.heap.size]) (N:=w.heap.size) (w1.alloc (Obj.cells #[.int .i64 y.id,.string y.wa,.int .i64 y.pit,.int .i64 y.ly,.int .i64 y.co,.bool y.ft] 72)) (by simp) (.int .i64 (0)) (.int .i64 (0)) (.int .i64 (0)) (.int .i64 (0))).belowE_w hB1.size (by simp)))
  obtain ⟨k0,k1,k2,k3,kf,kl⟩:=cell4s (SLG.heap_set4 hR1 (.int .i64 (0)) (.int .i64 (0)) (.int .i64 (0)) (.int .i64 (0)))
  have HB3:=HB.out
  clear HB
  generalize ((((w1.alloc (Obj.cells #[.int .i64 y.id,.string y.wa,.int .i64 y.pit,.int .i64 y.ly,.int .i64 y.co,.bool y.ft] 72)).setCell ⟨w.heap.size,0,none⟩ (.int .i64 (0))).setCell ⟨w.heap.size,1,none⟩ (.int .i64 (0))).setCell ⟨w.heap.size,2,none⟩ (.int .i64 (0))).setCell ⟨w.heap.size,3,none⟩ (.int .i64 (0))=WF at *
  exact bodyPost_ret (v:=.tuple #[.agg #[.int .i64 (0),.int .i64 (0),.int .i64 (0),.int .i64 (0)],.int .i64 E]) Z8n rfl (HP.out WF ⟨_,_,_,_⟩ _ Hr.out He.out HB3)
set_option maxHeartbeats 8000000
theorem any_byte (l:List UInt8) (c:UInt8):(l.any fun y=>(y.toNat:Int) == (c.toNat:Int))=l.contains c:=by
 rw [Bool.eq_iff_iff,List.any_eq_true]
 simp only [beq_iff_eq,List.contains_iff_mem]
 constructor
 ·rintro ⟨x,hx,e⟩
  have:x=c:=UInt8.toNat_inj.1 (by omega)
  rwa [← this]
 ·intro h
  exact ⟨c,h,rfl⟩
def comP (l:List Itm) (k:Nat):List UInt8:=(letC.take k).filter fun c=>(setsL l).all fun s=>s.contains c
theorem letC_at:∀ k,k<26→(letC.getD k 0).toNat=97 +k:=by decide
theorem comP_len (l:List Itm) (k:Nat):(comP l k).length≤26:=by
 unfold comP
 refine Nat.le_trans (List.length_filter_le _ _) ?_
 rw [List.length_take]
 exact Nat.min_le_right _ _
theorem ba_snoc (l:List UInt8) (c:UInt8):((⟨l.toArray⟩:ByteArray) ++(⟨#[c]⟩:ByteArray))=⟨(l ++[c]).toArray⟩:=by
 apply ByteArray.ext
 simp
theorem comP_all (l:List Itm):comP l 26=comC (setsL l):=rfl
theorem comP_succ {l:List Itm} {k:Nat} (hk:k<26):comP l (k +1)=comP l k ++if (setsL l).all (fun s=>s.contains (letC.getD k 0)) then [letC.getD k 0] else []:=by
 have hl:k<letC.length:=hk
 unfold comP
 rw [List.take_succ_eq_append_getElem hl,List.filter_append,List.getD_eq_getElem?_getD,List.getElem?_eq_getElem hl]
 congr 1
 simp only [Option.getD_some,List.filter_cons,List.filter_nil]
theorem sets_succ {l:List Itm} {j:Nat} (hj:j<l.length) (c:UInt8):((setsL l).take (j +1)).all (fun s=>s.contains c)=(((setsL l).take j).all (fun s=>s.contains c) && (l.getD j default).st.data.toList.contains c):=by
 have hl:j<(setsL l).length:=by unfold setsL;simpa using hj
 rw [List.take_succ_eq_append_getElem hl,List.all_append,List.getD_eq_getElem?_getD,List.getElem?_eq_getElem hj]
 simp [setsL]
theorem r2common_any (a:Option Addr) (n cap:Nat) (l:List Itm) (w:World) (h:ItmsAt w a n cap l) (hs:l.length≤1000) :
 Calls Tryz.prog 93 #[.slice a n cap] w fun e w'=>e=.returned (.string ⟨(comC (setsL l)).toArray⟩)∧Below w.heap.size w w':=by
 obtain rfl:=h.len
 have HP:=Lib.hid (show ∀ w',Below w.heap.size w w'→(fun e w'=>e=Ending.returned (.string ⟨(comC (setsL l)).toArray⟩)∧Below w.heap.size w w':Ending→World→Prop) (.returned (.string ⟨(comP l 26).toArray⟩)) w' from fun w' h=>⟨by rw [comP_all],h⟩)
 generalize (fun e w'=>e=Ending.returned (.string ⟨(comC (setsL l)).toArray⟩)∧Below w.heap.size w w':Ending→World→Prop)=Post at *
 have hwd:=h.wide
 go_enter Tryz.func93,Tryz.ntmps93
 go_wp2_with fail
 go_loopw [3,4] (fun r c wr=>∃ (k:Nat),k≤26∧r=.string ⟨(comP l k).toArray⟩∧c=.int .u8 (97 +(k:Int))∧Below w.heap.size w wr) (fun _ c _=>123 - (RowKit.intOf c).toNat)
 case atStart=>exact ⟨0,Nat.zero_le _,rfl,rfl,Below.refl _ _⟩
 case round =>
  obtain ⟨k,hk,rfl,rfl,hB⟩:=hrel
  by_cases hlt:k<26
  ·have Hs:=Lib.hid (comP_succ (l:=l) hlt)
   have hc8:=letC_at k hlt
   generalize letC.getD k 0=c8 at *
   have hci:(97:Int) +(k:Int)=(c8.toNat:Int):=by omega
   have hcn:(c8.toNat:Int)≤122:=by omega
   have hc0:(0:Int)≤(c8.toNat:Int):=by omega
   rw [hci]
   have Hwr:=Lib.hid (show (c8.toNat:Int) +1=97 +((k +1:Nat):Int) by omega)
   have HB:=Lib.hid hB
   have Hcn:=Lib.hid hc8
   have hin:=fun W s hs=>r2in_any s (c8.toNat:Int) W hs
   simp only [any_byte] at hin
   clear hB hc8 hci
   have hol0:=comP_len l k
   generalize comP l k=O at *
   have hol:¬ 9223372036854775807<O.length +1:=by omega
   clear hol0
   go_wp2_with fail
   go_loop [5,6] (fun al i=>∃ j:Nat,j≤l.length∧i=.int .i64 j∧al=.bool (((setsL l).take j).all fun s=>s.contains c8)) (fun _ i=>l.length - (RowKit.intOf i).toNat)
   case atStart=>exact ⟨0,Nat.zero_le _,rfl,rfl⟩
   case round =>
    obtain ⟨j,hj,rfl,rfl⟩:=hrel
    have hnn:(0:Int)≤j:=by omega
    by_cases hlj:j<l.length
    ·have i1:(j:Int)<(l.length:Int):=by omega
     have Hsu:=Lib.hid (sets_succ hlj c8)
     have hwx:=(hwd _ (Itm.mem hlj)).st
     obtain ⟨b,o,rfl,_,⟨d0,d1,d2,d3,d4,d5,d6,d7,d8,d9,d10,d11,d12,d13,d14,d15⟩⟩:=(h.below HB.out).get hlj
     generalize l.getD j default=x at *
     generalize ((setsL l).take j).all (fun s=>s.contains c8)=AL at *
     have hcall:=hin wr x.st hwx
     generalize x.st.data.toList.contains c8=CT at *
     cases AL with
     | true =>
       go_wp2_with (go_at_call 69;(with_reducible refine hcall.mono ?_);rintro e w8 ⟨rfl,rfl⟩)
       go_round
       case rel=>exact ⟨j +1,by omega,by go_num,by rw [Hsu.out];rfl⟩
       case measure=>simp [RowKit.intOf];omega
     | false =>
       go_wp2_with fail
       go_round
       case rel=>exact ⟨j +1,by omega,by go_num,by rw [Hsu.out];rfl⟩
       case measure=>simp [RowKit.intOf];omega
    ·have htk:(setsL l).take j=setsL l:=List.take_of_length_le (by unfold setsL;simp;omega)
     rw [htk]
     have i1:¬ (j:Int)<(l.length:Int):=by omega
     clear htk
     generalize (setsL l).all (fun s=>s.contains c8)=AL at *
     cases AL with
     | true =>
       have kb:=run_convert_bytes_back (P:=Tryz.prog) (wr.alloc (Obj.cells #[.int .u8 c8.toNat] 5)) 84 9 5 ⟨wr.heap.size,0,none⟩ 1 [c8] Tryz.underlying84 Tryz.underlying5 Tryz.underlying9 (fun j hj=>by
        have hj0:j=0:=by simpa using hj
        subst hj0
        rw [Addr.add_lit]
        exact (SL.cells_of (World.alloc_heap_new wr (Obj.cells #[.int .u8 c8.toNat] 5))).1 0)
       simp only [List.length_cons,List.length_nil,Nat.zero_add] at kb
       go_wp2_with fail
       go_roundw
       case rel=>exact ⟨k +1,by omega,by rw [Hs.out];exact congrArg Value.string (ba_snoc O c8),by rw [Hwr.out],HB.out.ch2 (one_alloc _ _)⟩
       case measure=>simp [RowKit.intOf];omega
     | false =>
       go_wp2_with fail
       go_roundw
       case rel=>exact ⟨k +1,by omega,by rw [Hs.out];simp,by rw [Hwr.out],HB.out⟩
       case measure=>simp [RowKit.intOf];omega
  ·obtain rfl:k=26:=by omega
   have HF:=Lib.hid (HP.out _ hB)
   clear hB h hwd
   generalize comP l 26=O at *
   exact Z4t
theorem r2Curves_any (a:Option Addr) (n cap:Nat) (l:List Itm) (day id:Int) (w:World) (h:ItmsAt w a n cap l) (hcap:l.length≤cap) (hs:l.length≤1000) :
 Calls Tryz.prog 35 #[.slice a n cap,.int .i64 day,.int .i64 id] w fun e w'=>e=.returned (.tuple #[.string ⟨(curR l day id).toArray⟩,.int .i64 (curE l day id)])∧Below w.heap.size w w':=by
 have hL:=r2SherdOf_any a n cap l day id w h hcap hs
 have hOf:=fun W hi=>r2of_any a n cap l day id 5 W hi hs
 have hw:=h.wide
 have hE:curE l day id=if lookE l day id=0 then (if comC (setsL (keptL (countL l day) 5 id))=[] then 21 else 0) else lookE l day id:=rfl
 have hR:curR l day id=if curE l day id=0 then comC (setsL (keptL (countL l day) 5 id)) else []:=rfl
 have HP:=Lib.hid (show ∀ w' (o:List UInt8) E,curR l day id=o→curE l day id=E→Below w.heap.size w w'→(fun e w'=>e=Ending.returned (.tuple #[.string ⟨(curR l day id).toArray⟩,.int .i64 (curE l day id)])∧Below w.heap.size w w':Ending→World→Prop) (.returned (.tuple #[.string ⟨o.toArray⟩,.int .i64 E])) w' from fun w' o E h1 h2 h3=>⟨by rw [h1,h2],h3⟩)
 generalize (fun e w'=>e=Ending.returned (.tuple #[.string ⟨(curR l day id).toArray⟩,.int .i64 (curE l day id)])∧Below w.heap.size w w':Ending→World→Prop)=Post at *
 have hkl:(keptL (countL l day) 5 id).length≤1000:=Nat.le_trans (List.length_filter_le _ _) (Nat.le_trans (countL_len l day) hs)
 have hkw:∀ x ∈ keptL (countL l day) 5 id,x.Wide:=fun x hx=>hw x (countL_sub (List.mem_filter.1 hx).1).1
 have hCm:=fun W b c (hi:ItmsAt W b (keptL (countL l day) 5 id).length c (keptL (countL l day) 5 id))=>r2common_any b _ c (keptL (countL l day) 5 id) W hi hkl
 unfold RowPost at hOf
 generalize keptL (countL l day) 5 id=K at *
 generalize lookZ l day id=y at *
 generalize comC (setsL K)=o at *
 simp only [Shd.v,Shd.cs] at hL
 by_cases h0:lookE l day id=0
 ·rw [if_pos h0] at hE
  rw [h0] at hL
  clear h0 hw
  by_cases hc:o=[]
  ·have He:Hid (curE l day id=21):=Lib.hid (by rw [hE,if_pos hc])
   have Hr:Hid (curR l day id=[]):=Lib.hid (by rw [hR,He.out];rfl)
   subst hc
   clear hE hR
   go_enter Tryz.func35,Tryz.ntmps35
   go_wp2_with (first
    | (go_at_call 60;(with_reducible refine hL.mono ?_);rintro e w1 ⟨rfl,hb1⟩;have hZ1:=hb1.ch2 (one_alloc w1 (Obj.cells #[.int .i64 y.id,.string y.wa,.int .i64 y.pit,.int .i64 y.ly,.int .i64 y.co,.bool y.ft] 72)))
    | (go_at_call 90;(with_reducible refine (hOf _ (h.below hZ1)).mono ?_);rintro e w2 ⟨v2,rfl,hb2,ho2⟩;obtain ⟨va,vc,rfl,_⟩:=owns_slice ho2;have hk2:=ItmsAt.of_owns ho2 (by omega) hkw)
    | (go_at_call 93;(with_reducible refine (hCm _ _ _ hk2).mono ?_);rintro e w3 ⟨rfl,hb3⟩))
   exact HP.out _ [] _ Hr.out He.out ((hZ1.ch2 hb2).ch2 hb3)
  ·have e1:o.isEmpty=false:=by simpa using hc
   have He:Hid (curE l day id=0):=Lib.hid (by rw [hE,if_neg hc])
   have Hr:Hid (curR l day id=o):=Lib.hid (by rw [hR,He.out];rfl)
   clear hE hR hc
   go_enter Tryz.func35,Tryz.ntmps35
   go_wp2_with (first
    | (go_at_call 60;(with_reducible refine hL.mono ?_);rintro e w1 ⟨rfl,hb1⟩;have hZ1:=hb1.ch2 (one_alloc w1 (Obj.cells #[.int .i64 y.id,.string y.wa,.int .i64 y.pit,.int .i64 y.ly,.int .i64 y.co,.bool y.ft] 72)))
    | (go_at_call 90;(with_reducible refine (hOf _ (h.below hZ1)).mono ?_);rintro e w2 ⟨v2,rfl,hb2,ho2⟩;obtain ⟨va,vc,rfl,_⟩:=owns_slice ho2;have hk2:=ItmsAt.of_owns ho2 (by omega) hkw)
    | (go_at_call 93;(with_reducible refine (hCm _ _ _ hk2).mono ?_);rintro e w3 ⟨rfl,hb3⟩))
   exact HP.out _ o _ Hr.out He.out ((hZ1.ch2 hb2).ch2 hb3)
 ·have He0:curE l day id=lookE l day id:=by rw [hE,if_neg h0]
  have Hr:Hid (curR l day id=[]):=Lib.hid Z8z
  generalize lookE l day id=E at *
  have e2:(E != 0)=true:=by simpa using h0
  have He:Hid (curE l day id=E):=Lib.hid He0
  clear h0 He0 hE hR hOf hCm hw
  go_enter Tryz.func35,Tryz.ntmps35
  go_wp2_with (go_at_call 60;(with_reducible refine hL.mono ?_);rintro e w1 ⟨rfl,hb1⟩)
  exact HP.out _ [] _ Hr.out He.out (hb1.ch2 (one_alloc w1 (Obj.cells #[.int .i64 y.id,.string y.wa,.int .i64 y.pit,.int .i64 y.ly,.int .i64 y.co,.bool y.ft] 72)))
end Go.Proofs.YtelkcohhagblaaaGreat

/- What the functions answer, for every input. -/
import Derived.Test.YtelkcohhagblaaaGreatSe08
set_option linter.unusedSimpArgs false
set_option linter.unusedVariables false
set_option linter.unnecessarySimpa false
namespace Go.Proofs.YtelkcohhagblaaaGreat
theorem Z6q {P:Prop}(h:P:=by
 rcases hk with rfl | rfl | rfl | rfl
 ·as_aux_lemma =>
  exact Z3
 ·as_aux_lemma =>
  exact Z3
 ·as_aux_lemma =>
  exact Z3
 ·as_aux_lemma =>
  exact Z3):P:=h
theorem Z73 {P:Prop}(h:P:=by
 as_aux_lemma =>
 rw [if_neg (by simp)] at HP
 exact Z0):P:=h
theorem Z0 {P:Prop}(h:P:=by
 refine (callsIn_wide (n:=0)).1 (callsIn_of_wp_marks Tryz.func137 rfl trivial ?_)
 simp only [Tryz.ntmps137,List.size_toArray,List.length_cons,List.length_nil,Nat.reduceAdd,Nat.reduceSub,Array.replicate_succ,Array.replicate_zero,List.push_toArray,List.append_toArray,List.nil_append,List.cons_append]
 refine wpIn_wide.2 ?_
 go_wp2_with (first
  | (go_at_call 166;(with_reducible refine (hNm _ (h.below Z5)).mono ?_);rintro e w2 ⟨rfl,hb2⟩;obtain ⟨hc2,hf2⟩:=bcell hb2;have hzE:=lt_size hb2 (b:=w.heap.size +1) Z9;have hzX:=lt_size hb2 (b:=w.heap.size) Z9)
  | (go_at_call 109;refine (sstands _ _ _ _).mono ?_;rintro e w1 ⟨rfl,rfl⟩))
 have hO:=of_start2 (y:=y) (a:=a) (n:=l.length) (cap:=cap) hb2
 simp only [Itm.cs] at hO
 have hw2:w.heap.size +1<w2.heap.size:=hzE
 have hbw:Below w.heap.size w w2:=((one_alloc w _).ch2 (one_alloc _ _)).ch2 hb2
 clear hc2 hf2 hb2 hzE hzX hNm
 generalize hW0:(((w2.alloc (Obj.cells #[.int .i64 y.id,.int .i64 y.kn,.int .u8 y.kd,.string y.wa,.int .i64 y.pit,.int .i64 y.ly,.int .i64 y.co,.bool y.ft,.int .i64 y.sh,.int .i64 y.fr,.int .i64 y.tw,.int .i64 y.lo,.int .i64 y.hi,.string y.st,.int .i64 y.li,.int .i64 y.vo] 24)).alloc (Obj.cells #[.int .i64 0] 3)).alloc (Obj.cells #[.slice a l.length cap] 22))=W0 at *
 have hz0:W0.heap.size=w2.heap.size +1 +1 +1:=by rw [← hW0];simp
 clear hW0
 generalize w2.heap.size=M at *
 have hC:∀ e q W,OfI w (w.heap.size +1) M (M +1) (M +1 +1) e y q (.slice a l.length cap) W→W.cell? ⟨M +1 +1,0,none⟩=some (.slice a l.length cap)∧ItmsAt W a l.length cap l:=fun e q W hN=>⟨by have:=(SL.cells_of hN.cB).1 0;simpa using this,h.below hN.below⟩
 have gro:∀ e q W W' row,OfI w (w.heap.size +1) M (M +1) (M +1 +1) e y q (.slice a l.length cap) W→W.grownBy W' row→(∀ r,row=some r→W0.heap.size≤r∧∃ o:Obj,W.heap[r]?=some o∧o.isCells=false)→OfI w (w.heap.size +1) M (M +1) (M +1 +1) e y q (.slice a l.length cap) W':=fun e q W W' row hN hg hr =>
  hN.grown (KeepC_w.of_grown hg fun r e=>(hr r e).2) (hN.below.grown hg hN.below.size fun r e=>by have:=(hr r e).1;omega)
 refine range_iter' (gf:=172) (lb:=#[.pointer (some ⟨M +1 +1,0,none⟩)]) Z2a (enters_of Tryz.func172 Zk rfl) (HS.out (M +1 +1))
  (fun pre W=>OfI w (w.heap.size +1) M (M +1) (M +1 +1) 0 y (pre.filter fun z=>z.sh == y.id).length (.slice a l.length cap) W∧pre.length≤1000)
  (fun _ _ _=>False)
  ?_ ?_ ?_ ⟨hO,by simp⟩ [11,81] (fun x us W=>∃ b,us 11=.pointer (some ⟨b,0,none⟩)∧W.heap[b]?=some (.cells x.cs.toArray 24 (0,0))∧W0.heap.size≤b) ?_ ?_ ?_ ?_ ?_
 ·exact Z6z
 ·exact Z29
 ·rintro s W ⟨h1,h2⟩
  exact hC _ _ _ h1
 ·exact Zl
 ·rintro lid pre x post W1 K he ⟨hN,hp⟩ hK
  have hw:W0.heap.size≤W1.heap.size:=by
   exact Z7d
  have hK2:=hK
  have Hp:=Lib.hid hp
  clear hK hp
  simp only [Itm.v,Itm.cs]
  have HK:=Lib.hid hK2
  clear hK2
  gi_wp2_with fail
  refine HK.out _ _ ?_ ?_ ?_ ?_ ?_
  ·exact Z11
  ·exact Z6u
  ·rfl
  ·rfl
  ·exact Z1b
 ·rintro lid pre x post us W1 hl' he ⟨hN,hp⟩ ⟨b,h6,hb,hbz⟩
  as_aux_lemma =>
  simp only [frame'_w,SL.put',List.toList_toArray,List.contains_cons,List.contains_nil,Nat.reduceAdd,Nat.reduceBEq,Bool.or_false,Bool.or_true,Bool.false_or,Bool.true_or,if_true,Bool.false_eq_true,if_false,h6]
  have hpl:(pre ++[x]).length≤1000:=by
   have h1:=congrArg List.length he
   have h2:=HL.out
   simp at h1 ⊢
   omega
  have Hpl:=Lib.hid hpl
  have Hfs:=Lib.hid (filter_snoc pre x y.id)
  have hq:(pre.filter fun z=>z.sh == y.id).length≤1000:=Nat.le_trans (List.length_filter_le _ _) hp
  generalize (pre.filter fun z=>z.sh == y.id).length=q at *
  have HN:=Lib.hid hN
  simp only [Itm.cs] at hb
  obtain ⟨⟨d0,d1,d2,d3,d4,d5,d6,d7,d8,d9,d10,d11,d12,d13,d14,d15⟩,hfz,hbl⟩:=ItmCells.of_heap hb
  have k1:=hN.cO (by omega)
  have k2:=hN.cY
  have z1:=(Array.getElem?_eq_some_iff.1 k1).1
  have z2:=(Array.getElem?_eq_some_iff.1 k2).1
  simp only [Itm.cs] at k2
  obtain ⟨⟨y0,y1,y2,y3,y4,y5,y6,y7,y8,y9,y10,y11,y12,y13,y14,y15⟩,yfz,_⟩:=ItmCells.of_heap (x:=y) k2
  have g0:=(SL.cells_of k1).1 0
  have gz:=(SL.cells_of k1).2
  simp at g0
  have HZ:=Lib.hid hz0
  have HM:=Lib.hid hw2
  clear hp hpl hN hb k1 k2 gro hC hO hz0 he HP HS hl' hbz hfz h hl hbw hw2
  refine wpIn_block ?_
  by_cases hx:x.sh=y.id
  ·have e2:(x.sh == y.id)=true:=by simpa using hx
   rw [if_pos hx] at Hfs
   clear hx
   gi_wp2_with fail
   have hz:=HZ.out
   have hm:=HM.out
   exact ⟨keeps_of_chg_w (E:=[M +1]) (.setCell _ (by simp) _) Zj,by rw [Hfs.out];exact HN.out.num (by omega) (by omega) (by omega) (by omega) _,Hpl.out⟩
  ·have e2:(x.sh == y.id)=false:=by simpa using hx
   rw [if_neg hx,Int.add_zero] at Hfs
   clear hx
   gi_wp2_with fail
   exact ⟨keeps_of_chg_w (E:=[]) (.refl _ _) (by simp),by rw [Hfs.out];exact HN.out,Hpl.out⟩
 ·rintro D W2 hD ⟨hN,hp⟩ hdef
  as_aux_lemma =>
  have HN:=Lib.hid hN
  have HQ:=HP
  generalize hq:(L.filter fun z=>z.sh == y.id).length=q at *
  have Hq:=Lib.hid hq
  have k1:=hN.cE
  have z1:=(Array.getElem?_eq_some_iff.1 k1).1
  have g0:=(SL.cells_of k1).1 0
  have gz:=(SL.cells_of k1).2
  simp at g0
  have k2:=hN.cO (by omega)
  have z2:=(Array.getElem?_eq_some_iff.1 k2).1
  have y0:=(SL.cells_of k2).1 0
  simp at y0
  have HZ:=Lib.hid hz0
  have HM:=Lib.hid hw2
  clear hp hN k1 k2 gro hC hz0 hw2 hO h hl HS HP hq hbw
  by_cases hc:150≤q
  ·have e1:decide ((150:Int)≤(q:Int))=true:=by simp;omega
   have Hc:=Lib.hid hc
   clear hc
   go_wp2_with fail
   have hz:=HZ.out
   have hm:=HM.out
   have q1:=HN.out.err (by omega) (by omega) (by omega) 2
   exact of_leaves (B:=W0.heap.size) rfl (by omega) (by omega) ⟨by simp;exact ⟨hD,(Below.heap_setCell _ _ _ _ Z6y).trans hdef⟩,by simp⟩ q1.cE q1.below (fun W' hb=>HQ.out 2 W' hb (by rw [if_pos Hc.out]))
  ·have e1:decide ((150:Int)≤(q:Int))=false:=by simp;omega
   have Hc:=Lib.hid hc
   clear hc
   go_wp2_with fail
   have hz:=HZ.out
   have hm:=HM.out
   have q1:=HN.out.err (by omega) (by omega) (by omega) 0
   exact of_leaves (B:=W0.heap.size) rfl (by omega) (by omega) ⟨by simp;exact ⟨hD,(Below.heap_setCell _ _ _ _ Z6y).trans hdef⟩,by simp⟩ q1.cE q1.below (fun W' hb=>HQ.out 0 W' hb (by rw [if_neg Hc.out]))
 ·exact Z19):P:=h
open Go.RowKit Go.Shelf Go.Maps
set_option maxHeartbeats 4000000
set_option maxRecDepth 100000
theorem makeFuncS (fn:Fn) (first cap:Array Value) (w:World):(Instr.makeFunc fn first cap).run Tryz.prog w=.ok (.func fn first cap) w:=rfl
theorem sstands (a:Option Addr) (n cap:Nat) (w:World) :
 Calls Tryz.prog 109 #[.slice a n cap] w fun e w'=>e=.returned (.func (.func 172) #[] #[.pointer (some ⟨w.heap.size,0,none⟩)])∧w'=w.alloc (.cells #[.slice a n cap] 22):=by
 have hmk:=makeFuncS
 go_enter Tryz.func109,Tryz.ntmps109
 exact Z4m
theorem map_grown {H:Type} {P:Program} {k:TypeId} {R:Value→Option (DataW H × List MemPlace)} {W:World} {b n:Nat} {D:DataW H} (h:W.ownsMap P k R b n D):∃ o:Obj,W.heap[b]?=some o∧o.isWalk=true:=by
 obtain ⟨es,clock,hb,_⟩:=h
 exact ⟨_,hb,rfl⟩
theorem lookup_run_bool {H:Type} {P:Program} {w:World} {t k e:TypeId} (K:Keyed P k) (ht:P.underlying t=some (.map k e)) (he:P.underlying e=some .bool) (hz:(zeroValue e).run P w=.ok (.bool false) w) {b n:Nat} {D:DataW H}
 (hown:w.ownsMap P k (plainElem P e) b n D) {key:Value} {kl:Lit} (hkey:keyOf P k key=some kl) {c:Bool} (hat:D.atKey kl (.lit (.bool false))=.lit (.bool c)) :
 (Instr.lookup t (.map (some b)) key false).run P w=.ok (.bool c) w:=by
 obtain ⟨v,ps,hrun,hv⟩:=hown.lookup K ht hz (plainElem_bool he false) hkey
 obtain ⟨c',rfl,hc⟩:=plainElem_bool_inv he hv
 have hcc:c'=c:=by
  have h1:=congrArg Prod.fst hc
  simp only at h1
  rw [hat] at h1
  injection h1 with h1
  injection h1 with h1
  exact h1.symm
 rw [hcc] at hrun
 exact hrun
theorem sstands1 (a:Option Addr) (n cap:Nat) (l:List Itm) (BL:Nat) (hl:l.length≤1000) :
 IterAt Tryz.prog 172 #[.pointer (some ⟨BL,0,none⟩)] (fun W=>W.cell? ⟨BL,0,none⟩=some (.slice a n cap)∧ItmsAt W a n cap l) Itm.v (standL l):=by
 intro B lid J Jx W hBW hJ hJx hJC h0 hy
 refine callsIn_of_wp Tryz.func172 rfl trivial ?_
 simp only [Tryz.ntmps172,List.size_toArray,List.length_cons,List.length_nil,Nat.reduceAdd,Nat.reduceSub,Array.replicate_succ,Array.replicate_zero,List.push_toArray,List.append_toArray,List.nil_append,List.cons_append]
 obtain ⟨c0,hx0⟩:=hJC _ _ h0
 obtain rfl:=hx0.len
 have hmm:=@run_makeMap Tryz.prog
 have hfw:∀ f,Fence.wide.fn f:=fun _=>trivial
 have hdp:Fence.wide.depth=none:=rfl
 have hJ0:J [] (W.alloc (.map #[] 0)):=hJ _ _ _ none h0 (below_grown (one_alloc W _)) (fun r e=>by cases e)
 have hM0:=World.ownsMap_made (H:=Unit) W Tryz.prog 3 (plainElem Tryz.prog 4)
 simp only [Itm.v,Itm.cs] at hy
 have HY:=Lib.hid hy
 have HC:=Lib.hid hJC
 have HJ:=Lib.hid hJ
 have zS:=World.block_lt_of_cell? W _ c0
 simp only at zS
 clear hy hJC hJ hx0
 gi_wp2_with fail
 obtain ⟨MB,hMB⟩:∃ MB,W.heap.size=MB:=⟨_,rfl⟩
 rw [hMB] at hM0 hBW ⊢
 have zW:W.heap.size≤MB:=Nat.le_of_eq hMB
 clear hMB
 gi_loopw [11] (fun i wr=>∃ k:Nat,k≤l.length∧i=.int .i64 k∧J [] wr∧∃ D:DataW Unit,wr.ownsMap Tryz.prog 3 (plainElem Tryz.prog 4) MB k D∧SeenIs D (voidsL (l.take k))) (fun i _=>l.length - (RowKit.intOf i).toNat)
 case atStart=>exact ⟨0,Nat.zero_le _,rfl,hJ0,_,hM0,SeenIs.nil⟩
 case round =>
  as_aux_lemma =>
  obtain ⟨k,hk,rfl,hj,D,hown,hsee⟩:=hrel
  have hnn:(0:Int)≤k:=by omega
  obtain ⟨c1,hx1⟩:=HC.out _ _ hj
  have zS1:=World.block_lt_of_cell? wr _ c1
  simp only at zS1
  by_cases hlt:k<l.length
  ·have i1:(k:Int)<(l.length:Int):=by omega
   obtain ⟨b,o,rfl,hbl,⟨d0,d1,d2,d3,d4,d5,d6,d7,d8,d9,d10,d11,d12,d13,d14,d15⟩⟩:=hx1.get hlt
   have Hv:=Lib.hid (voids_succ hlt)
   have hwd:=hx1.wide _ (Itm.mem hlt)
   have hkey:keyOf Tryz.prog 3 (.int .i64 (l.getD k default).vo)=some (.int .i64 (l.getD k default).vo):=keyOf_int_mk Tryz.underlying3 hwd.vow
   have Hkey:=Lib.hid hkey
   clear hkey hwd hx1 c1
   generalize l.getD k default=x at *
   have HS:=Lib.hid hsee
   have hal:=one_alloc wr (Obj.cells #[.int .i64 x.id,.int .i64 x.kn,.int .u8 x.kd,.string x.wa,.int .i64 x.pit,.int .i64 x.ly,.int .i64 x.co,.bool x.ft,.int .i64 x.sh,.int .i64 x.fr,.int .i64 x.tw,.int .i64 x.lo,.int .i64 x.hi,.string x.st,.int .i64 x.li,.int .i64 x.vo] 24)
   have hj2:=HJ.out _ _ _ none hj (below_grown hal) (fun r e=>by cases e)
   have hown2:=hown.kept (below_grown hal) (by simp)
   have HJ2:=Lib.hid hj2
   clear hsee hal hj hj2 hown
   by_cases h7:x.kd=7
   ·have h7':(x.kd == 7)=true:=by simpa using h7
    have Hv2:=Lib.hid (Hv.out.trans (by rw [if_pos h7]))
    clear h7
    gi_wp2_with (gi_at_mapUpdate;refine wpListIn_mapUpdate_own _ rfl _ _ _ 186 rfl 3 4 keyI Tryz.underlying186 _ MB _ _ rfl hown2 Z1s _ _ _ rfl rfl Hkey.out _ [] (plainElem_bool Tryz.underlying4 true) ?_;intro w4 hown4 hgrow4)
    go_roundw
    case rel=>exact ⟨k +1,by omega,by go_num,HJ.out _ _ _ (some MB) HJ2.out hgrow4 (fun r e=>by cases e;exact ⟨zW,map_grown hown2⟩),_,hown4,by rw [Hv2.out];exact HS.out.put x.vo⟩
    case measure=>simp [RowKit.intOf];omega
   ·have h7':(x.kd == 7)=false:=by simpa using h7
    have Hv2:=Lib.hid (Hv.out.trans (by rw [if_neg h7,List.append_nil]))
    clear h7
    gi_wp2_with fail
    go_roundw
    case rel=>exact ⟨k +1,by omega,by go_num,HJ2.out,_,hown2.mono (by omega),by rw [Hv2.out];exact HS.out⟩
    case measure=>simp [RowKit.intOf];omega
  ·have hk2:k=l.length:=by omega
   subst hk2
   rw [List.take_length] at hsee
   clear hx1
   gi_wp2_with fail
   obtain ⟨wo,hwo⟩:∃ wo:World,wo=wr:=⟨_,rfl⟩
   rw [← hwo] at hj hown c1 zS1 ⊢
   clear hwo
   have HSee:=Lib.hid hsee
   clear hsee
   gi_loopw [24] (fun i wq=>∃ k:Nat,k≤l.length∧i=.int .i64 k∧J (standN l k) wq∧wq.ownsMap Tryz.prog 3 (plainElem Tryz.prog 4) MB l.length D) (fun i _=>l.length - (RowKit.intOf i).toNat)
   case atStart=>exact ⟨0,Nat.zero_le _,rfl,by simpa [standN] using hj,hown⟩
   case round =>
    as_aux_lemma =>
    clear c1 zS1 hj hown
    obtain ⟨k,hk,rfl,hj,hown⟩:=hrel
    have hnn:(0:Int)≤k:=by omega
    obtain ⟨c1,hx1⟩:=HC.out _ _ hj
    have zS1:=World.block_lt_of_cell? wr _ c1
    simp only at zS1
    by_cases hlt:k<l.length
    ·have i1:(k:Int)<(l.length:Int):=by omega
     obtain ⟨b,o,rfl,hbl,⟨d0,d1,d2,d3,d4,d5,d6,d7,d8,d9,d10,d11,d12,d13,d14,d15⟩⟩:=hx1.get hlt
     have Hsu:=Lib.hid (standN_succ hlt)
     have Hsp:=Lib.hid (standN_split hlt)
     have hwd:=hx1.wide _ (Itm.mem hlt)
     have hkey:keyOf Tryz.prog 3 (.int .i64 (l.getD k default).id)=some (.int .i64 (l.getD k default).id):=keyOf_int_mk Tryz.underlying3 hwd.idw
     have Hkey:=Lib.hid hkey
     clear hkey hwd hx1 c1
     generalize l.getD k default=x at *
     have hl:=HSee.out.at_ x.id
     have hVV:decide (x.id ∈ voidsL l)=voidB l x.id:=by
      cases h:voidB l x.id
      ·rw [decide_eq_false_iff_not,mem_voids,h];simp
      ·rw [decide_eq_true_eq,mem_voids,h]
     rw [hVV] at hl
     clear hVV
     generalize voidB l x.id=V at *
     obtain ⟨B1,hB1⟩:∃ B,(x.kd != 7)=B:=⟨_,rfl⟩
     rw [hB1] at Hsu Hsp
     have Hl:=Lib.hid hl
     have hal:=one_alloc wr (Obj.cells #[.int .i64 x.id,.int .i64 x.kn,.int .u8 x.kd,.string x.wa,.int .i64 x.pit,.int .i64 x.ly,.int .i64 x.co,.bool x.ft,.int .i64 x.sh,.int .i64 x.fr,.int .i64 x.tw,.int .i64 x.lo,.int .i64 x.hi,.string x.st,.int .i64 x.li,.int .i64 x.vo] 24)
     have hj2:=HJ.out _ _ _ none hj (below_grown hal) (fun r e=>by cases e)
     have hown2:=hown.kept (below_grown hal) (by simp)
     have HJ2:=Lib.hid hj2
     clear hl hal hj hj2 hown
     cases B1
     ·have Hs2:=Lib.hid (Hsu.out.trans Z4e)
      exact Z2k
     ·cases V
      ·have Hs2:Hid (standN l (k +1)=standN l k ++[x]):=Lib.hid (by rw [Hsu.out];rfl)
       obtain ⟨post,hpost⟩:=Hsp.out rfl
       have HY2:=HY.out _ x post _ hpost HJ2.out
       have HP:=Lib.hid hpost
       clear hpost
       obtain ⟨fn,tmps,assign,body,hyy,hR⟩:=HY2
       have HR2:=Lib.hid hR
       clear hR hfw hdp
       have hlr:=lookup_run_bool keyI Tryz.underlying186 Tryz.underlying4 (zvB _) hown2 Hkey.out Hl.out
       gi_wp2_with fail
       refine ⟨rfl,HR2.out.mono ?_⟩
       rintro e W3 ⟨hkw,⟨rfl,hJ3⟩ | ⟨rfl,hJ3⟩⟩
       ·have HO:=Lib.hid (ownsMap_keepsW hown2 hkw hBW)
        gi_wp2
        go_roundw
        case rel=>exact ⟨k +1,by omega,by go_num,by rw [Hs2.out];exact hJ3,HO.out⟩
        case measure=>simp [RowKit.intOf];omega
       ·gi_wp2
        exact bodyPost_ret (v:=.tuple #[]) (by simp [results,Tryz.results172]) rfl ⟨⟨_,rfl⟩,.inr ⟨_,_,_,HP.out,hJ3⟩⟩
      ·have Hs2:=Lib.hid (Hsu.out.trans Z58)
       have hlr:=lookup_run_bool keyI Tryz.underlying186 Tryz.underlying4 (zvB _) hown2 Hkey.out Hl.out
       exact Z2k
    ·have hk2:k=l.length:=by omega
     subst hk2
     rw [standN_all] at hj
     exact Z3y
end Go.Proofs.YtelkcohhagblaaaGreat

/- What the functions answer, for every input. -/
import Derived.Test.YtelkcohhagblaaaGreatSe45
import Derived.Test.YtelkcohhagblaaaGreatSe48
import Derived.Test.YtelkcohhagblaaaGreatSe31
import Derived.Test.YtelkcohhagblaaaGreatSe10
import Derived.Test.YtelkcohhagblaaaGreatSe24
import Derived.Test.YtelkcohhagblaaaGreatSe27
import Derived.Test.YtelkcohhagblaaaGreatChecked
import Derived.Test.YtelkcohhagblaaaGreatSe07
import Derived.ProofKit
import Derived.SizedLaws
import Derived.Lib.SmallJoins
import Derived.Deep.Slices
import Derived.Deep.Fields
import Derived.OpenShut
import Derived.Test.YtelkcohhagblaaaGreatSe44
import Derived.Test.YtelkcohhagblaaaGreatSe26
import Derived.Test.YtelkcohhagblaaaGreatSe38
import Derived.Test.YtelkcohhagblaaaGreatSe36
import Derived.Test.YtelkcohhagblaaaGreatSe42
import Derived.Test.YtelkcohhagblaaaGreatSe37
import Derived.Test.YtelkcohhagblaaaGreatSe43
import Derived.Test.YtelkcohhagblaaaGreatSe08
import Derived.Test.YtelkcohhagblaaaGreatSe02
set_option linter.unusedSimpArgs false
set_option linter.unusedVariables false
set_option linter.unnecessarySimpa false
namespace Go.Proofs.YtelkcohhagblaaaGreat
theorem Z85 {P:Prop}(h:P:=by
 have Hes:=Lib.hid (Hes.out.trans (show _=L ++[x] by simp))
 have hal:=one_alloc wr (Obj.cells #[.int .i64 x.id,.int .i64 x.kn,.int .u8 x.kd,.string x.wa,.int .i64 x.pit,.int .i64 x.ly,.int .i64 x.co,.bool x.ft,.int .i64 x.sh,.int .i64 x.fr,.int .i64 x.tw,.int .i64 x.lo,.int .i64 x.hi,.string x.st,.int .i64 x.li,.int .i64 x.vo] 24)
 have hsl:=World.alloc_heap_new wr (Obj.cells #[.int .i64 x.id,.int .i64 x.kn,.int .u8 x.kd,.string x.wa,.int .i64 x.pit,.int .i64 x.ly,.int .i64 x.co,.bool x.ft,.int .i64 x.sh,.int .i64 x.fr,.int .i64 x.tw,.int .i64 x.lo,.int .i64 x.hi,.string x.st,.int .i64 x.li,.int .i64 x.vo] 24)
 have hr2:=HR.out.up hal (Nat.le_refl _)
 have hB2:=HB.out.ch2 hal
 have hzB:=HB.out.size
 clear hal
 go_wp2_with (first
  | (go_at_call 185;(with_reducible refine hgo.mono ?_);rintro e w1 ⟨rfl,rfl⟩)
  | (at_builtin;refine wpList_app elemT rfl _ _ rfl hr2 rfl rfl (RowAt.of_heap hsl) (by rfl) (fun u hu=>ics_one [x] u Z3w) Z1s (by omega) Zj ?_;intro v' w3 hr3 hg3 hb3 _ _;obtain ⟨wa,wc,rfl,_⟩:=owns_slice hr3;have HQ:=Lib.hid (And.intro hr3 (hB2.trans hb3));clear hr3 hg3 hb3))
 go_roundw
 case rel=>exact ⟨k +1,by omega,by go_num,by rw [Hes.out,List.length_append,ics_append,ics_one1];exact HQ.out.1,HQ.out.2⟩
 case measure=>simp [RowKit.intOf];omega):P:=h
theorem Z8a {P:Prop}(h:P:=by
 have Hes:=Lib.hid (Hes.out.trans (show _=L by simp))
 go_wp2_with (first
  | fail
  | (go_at_call 185;(with_reducible refine hgo.mono ?_);rintro e w1 ⟨rfl,rfl⟩))
 go_roundw
 case rel=>exact ⟨k +1,by omega,by go_num,by rw [Hes.out];exact HR.out,HB.out⟩
 case measure=>simp [RowKit.intOf];omega):P:=h
theorem Z8j {P:Prop}(h:P:=by
 have htk:N.take k=N:=List.take_of_length_le (by omega)
 rw [htk] at hro ⊢
 clear htk
 go_wp2_with fail
 exact HP.out _ _ (H1.out.ch2 hB) (SL.row_base hro H1.out.size)):P:=h
theorem Z8u {P:Prop}(h:P:=by
 go_enter Tryz.func19,Tryz.ntmps19
 go_wp2_with fail
 go_ret
 exact ⟨rfl,hal⟩):P:=h
theorem Z95 {P:Prop}(h:P:=by
 go_wp2
 go_ret
 exact ⟨ret_bool (HT.out.symm.trans Hr.out).symm,rfl⟩):P:=h
open Go.RowKit Go.Shelf
set_option maxHeartbeats 8000000
set_option maxRecDepth 100000
theorem r2Check_any (a:Option Addr) (n cap:Nat) (l:List Itm) (w:World) (h:ItmsAt w a n cap l) (hcap:l.length≤cap) :
 Calls Tryz.prog 22 #[.slice a n cap] w (PairI w (chkI l).1 (chkI l).2):=by
 obtain rfl:=h.len
 have hsm:=h.small
 have HP:=Lib.hid (show ∀ w',Below w.heap.size w w'→∀ p:Nat × Int,p=chkI l→PairI w (chkI l).1 (chkI l).2 (.returned (.tuple #[.int .i64 p.1,.int .i64 p.2])) w' from fun w' h1 p hp=>by subst hp;exact ⟨rfl,h1⟩)
 generalize PairI w (chkI l).1 (chkI l).2=Post at *
 have hF:=fun (i:Nat) (hi:i<l.length) (hok:∀ y ∈ l.take i,itemB y=true) (w1:World) (h1:ItmsAt w1 a l.length cap l) b o (e:a=some ⟨b,o,none⟩)=>r2refused_any (l.getD i default) a i i (l.take i) w1 (h1.take i i (by omega) (fun h0=>by rw [h0] at e;cases e)) (h.wide _ (Itm.mem hi)) hok
 unfold EPost at hF
 have HF:=Lib.hid hF
 clear hF
 go_enter Tryz.func22,Tryz.ntmps22
 go_wp2_with fail
 go_loopw [4] (fun i wr=>∃ k:Nat,k≤l.length∧i=.int .i64 k∧Below w.heap.size w wr∧chkFrom l (l.length - k) k=chkI l∧∀ y ∈ l.take k,itemB y=true) (fun i _=>l.length - (RowKit.intOf i).toNat)
 case atStart=>exact ⟨0,Nat.zero_le _,rfl,Below.refl _ _,rfl,fun y hy=>by simp at hy⟩
 case round =>
  obtain ⟨k,hk,rfl,hB,hch,hok⟩:=hrel
  have hnn:(0:Int)≤k:=by omega
  by_cases hlt:k<l.length
  ·have i1:(k:Int)<(l.length:Int):=by omega
   have hx1:=h.below hB
   have hst:refE (l.take k) (l.getD k default)=0→∀ y ∈ l.take (k +1),itemB y=true:=fun e y hy=>by
    rw [List.take_succ_eq_append_getElem hlt,List.mem_append] at hy
    rcases hy with hy | hy
    ·exact hok y hy
    ·have:=(refE_zero e).2.1
     rw [List.getD_eq_getElem?_getD,List.getElem?_eq_getElem hlt] at this
     simp at hy
     rw [hy];exact this
   obtain ⟨b,o,rfl,hbl,⟨d0,d1,d2,d3,d4,d5,d6,d7,d8,d9,d10,d11,d12,d13,d14,d15⟩⟩:=hx1.get hlt
   have hfo:=fun W (hw:Below wr.heap.size wr W)=>HF.out k hlt hok W (hx1.below hw) b o rfl
   have Hst:=Lib.hid (fun h=>(chkFrom_step hlt h).symm.trans hch)
   have Hno:=Lib.hid (fun h=>(chkFrom_stop hlt h).symm.trans hch)
   have Hok:=Lib.hid hst
   clear hst hok
   generalize refE (l.take k) (l.getD k default)=E at *
   generalize l.getD k default=x at *
   simp only [Itm.v,Itm.cs] at hfo
   clear hx1 hch
   have i2:(k:Int)≤(cap:Int):=by omega
   go_wp2_with fail
   have hdC:=Lib.hid (And.intro hbl (ItmCells.mk d0 d1 d2 d3 d4 d5 d6 d7 d8 d9 d10 d11 d12 d13 d14 d15))
   clear d0 d1 d2 d3 d4 d5 d6 d7 d8 d9 d10 d11 d12 d13 d14 d15
   apply SLG.rule0 ?hm [] [12,13,14,15,16,17,18,19,20,5] [SLF.pq 12 [] _,SLF.pq 13 [] _,SLF.pq 14 [] _,SLF.pq 15 [0,1,2] _,SLF.pq 16 [] _,SLF.pq 17 [] _,SLF.pq 18 [4,5] _,SL.pu 19 [6] (.agg #[.int .i64 x.id,.int .i64 x.kn,.int .u8 x.kd,.string x.wa,.int .i64 x.pit,.int .i64 x.ly,.int .i64 x.co,.bool x.ft,.int .i64 x.sh,.int .i64 x.fr,.int .i64 x.tw,.int .i64 x.lo,.int .i64 x.hi,.string x.st,.int .i64 x.li,.int .i64 x.vo]),SL.pu 20 [3,7] (.int .i64 E),SLF.pq 5 [8] _] [9] ?hck ?hkp (fun _=>[]) ?hin ?hdj ?hfr ?ob ?en1
   case hm=>kernel_rfl
   case hin=>exact SL.none_held rfl
   case hdj=>simp
   case hfr=>intro us;simp only [SL.frame,SL.put'];simp;exact rfl
   case ob =>
    refine ⟨?_,?_,?_,?_,?_,?_,?_,?_,?_,?_,trivial⟩
    all_goals first
     | (intro us w' Fe hG hu hd hv Kx hK
        try dsimp only
        simp [SL.O] at hu hK
        have hB5:Below wr.heap.size wr w':=hG.below'
        exact Z7r)
     | skip
    ·refine SLG.ob_sp rfl rfl rfl fun us w' Fe hG hu hd Kx hK=>?_
     try dsimp only
     simp [SL.O] at hu
     have hB5:Below wr.heap.size wr w':=hG.below'
     obtain ⟨hc5,hf5⟩:=bcell hB5
     have hs5:=hB5.size
     refine SLF.wpo_do (SLF.wanted_free rfl) ?hd ?_
     case hd=>intro c h;cases h
     obtain ⟨e18,_⟩:=hu
     obtain ⟨zb,⟨y0,y1,y2,y3,y4,y5,y6,y7,y8,y9,y10,y11,y12,y13,y14,y15⟩⟩:=hdC.out
     have q:=fun i=>hc5 b i zb
     clear hc5 hf5
     simp only [← q] at y0 y1 y2 y3 y4 y5 y6 y7 y8 y9 y10 y11 y12 y13 y14 y15
     clear q
     go_step
     exact hK _ _ _ [] Zh (SL.Chg.refl _ _) ⟨rfl,rfl⟩ (fun j hj=>by cases hj)
    ·refine SLG.ob_sp rfl rfl rfl fun us w' Fe hG hu hd Kx hK=>?_
     try dsimp only
     simp [SL.O] at hu
     have hB5:Below wr.heap.size wr w':=hG.below'
     obtain ⟨hc5,hf5⟩:=bcell hB5
     have hs5:=hB5.size
     refine SLF.wpo_do (SLF.wanted_free rfl) ?hd ?_
     case hd=>intro c h;cases h
     obtain ⟨⟨q1,_⟩,q2,_⟩:=hu
     have hcc:=hfo w' hB5
     clear hc5 hf5 hfo
     go_step
     refine hcc.mono ?_
     rintro e w6 ⟨rfl,hb6⟩
     exact hK _ _ _ [] Zh (.of_below hb6) ⟨rfl,rfl⟩ (fun j hj=>by cases hj)
   case hck=>kernel_rfl
   case hkp=>kernel_rfl
   intro us w7 Fs hG hu hbd hd
   simp [SL.Used,SLF.pq] at hu
   obtain ⟨h6,_⟩:=hu
   have hB7:=hB.ch2 (hG.below':Below wr.heap.size wr w7)
   rw [h6]
   clear hG hbd hd h6 hfo hdC
   by_cases hE:E=0
   ·subst hE
    have Hs:=Lib.hid (Hst.out rfl)
    have Hk:=Lib.hid (Hok.out rfl)
    clear Hno Hst Hok
    go_wp2_with fail
    go_roundw
    case rel=>exact ⟨k +1,by omega,by go_num,hB7,Hs.out,Hk.out⟩
    case measure=>simp [RowKit.intOf];omega
   ·have e2:(E != 0)=true:=by simpa using hE
    have Hs:=Lib.hid (Hno.out hE)
    clear Hno Hst hE Hok
    go_wp2_with fail
    exact HP.out _ hB7 (k,E) Hs.out
  ·have hk2:k=l.length:=by omega
   subst hk2
   rw [chkFrom_end] at hch
   have Hch:=Lib.hid hch
   clear hch hok
   go_wp2_with fail
   exact HP.out _ hB _ Hch.out
theorem filt_succ {f:Itm→Bool} {l:List Itm} {k:Nat} (hk:k<l.length):(l.take (k +1)).filter f=(l.take k).filter f ++(if f (l.getD k default)=true then [l.getD k default] else []):=by
 rw [List.take_succ_eq_append_getElem hk,List.filter_append,List.getD_eq_getElem?_getD,List.getElem?_eq_getElem hk]
 congr 1
 cases h:f l[k] <;> simp [h]
theorem filt_len (f:Itm→Bool) (l:List Itm) (k:Nat):((l.take k).filter f).length≤l.length:=Nat.le_trans (List.length_filter_le _ _) (by rw [List.length_take];omega)
theorem r2counting_any (a:Option Addr) (n cap:Nat) (l:List Itm) (day:Int) (w:World) (h:ItmsAt w a n cap l) (hs:l.length≤1000) :
 Calls Tryz.prog 129 #[.slice a n cap,.int .i64 day] w (RowPost w 24 16 (countL l day).length (ics (countL l day))):=by
 obtain rfl:=h.len
 have HP:=Lib.hid (show ∀ v w',Below w.heap.size w w'→w'.ownsRow w.heap.size 24 16 v (countL l day).length (ics (countL l day))→RowPost w 24 16 (countL l day).length (ics (countL l day)) (.returned v) w' from fun v w' h1 h2=>⟨v,rfl,h1,h2⟩)
 generalize RowPost w 24 16 (countL l day).length (ics (countL l day))=Post at *
 go_enter Tryz.func129,Tryz.ntmps129
 go_wp2_with fail
 go_loopw [5,6] (fun r i wr=>∃ k:Nat,k≤l.length∧i=.int .i64 k∧wr.ownsRow w.heap.size 24 16 r ((l.take k).filter fun x=>decide (x.kn≤day)).length (ics ((l.take k).filter fun x=>decide (x.kn≤day)))∧Below w.heap.size w wr) (fun _ i _=>l.length - (RowKit.intOf i).toNat)
 case atStart=>exact ⟨0,Nat.zero_le _,rfl,World.ownsRow_nil _ _ _ _,Below.refl _ _⟩
 case round =>
  obtain ⟨k,hk,rfl,hro,hB⟩:=hrel
  have hnn:(0:Int)≤k:=by omega
  obtain ⟨va,vc,rfl,_⟩:=owns_slice hro
  by_cases hlt:k<l.length
  ·have i1:(k:Int)<(l.length:Int):=by omega
   obtain ⟨b,o,rfl,_,⟨d0,d1,d2,d3,d4,d5,d6,d7,d8,d9,d10,d11,d12,d13,d14,d15⟩⟩:=(h.below hB).get hlt
   have Hes:=Lib.hid (filt_succ (f:=fun x=>decide (x.kn≤day)) hlt)
   have hln:=filt_len (fun x=>decide (x.kn≤day)) l k
   generalize l.getD k default=x at *
   generalize (l.take k).filter (fun x=>decide (x.kn≤day))=L at *
   have HR:=Lib.hid hro
   have HB:=Lib.hid hB
   clear hro hB
   cases hD:decide (x.kn≤day) with
   | true =>
     rw [hD] at Hes
     exact Z85
   | false =>
     rw [hD] at Hes
     exact Z8a
  ·have htk:l.take k=l:=List.take_of_length_le (by omega)
   rw [htk] at hro ⊢
   clear htk
   have hw2:∀ x ∈ l.filter (fun x=>decide (x.kn≤day)),x.Wide:=fun x hx=>h.wide x (List.mem_filter.1 hx).1
   have hE:countL l day=(l.filter fun x=>decide (x.kn≤day)).filter fun x=>x.kd != 7 && !voidB (l.filter fun x=>decide (x.kn≤day)) x.id:=rfl
   rw [hE] at HP
   have hln:=List.length_filter_le (fun x=>decide (x.kn≤day)) l
   generalize l.filter (fun x=>decide (x.kn≤day))=N at *
   have hN:=ItmsAt.of_owns hro (by omega) hw2
   have H1:=Lib.hid hB
   obtain ⟨w2,rfl⟩:∃ w2,w2=wr:=⟨_,rfl⟩
   have i1:¬ (k:Int)<(l.length:Int):=by omega
   clear h hro hE hw2 hlt hk hB
   go_wp2_with fail
   clear i1
   go_loopw [7,8] (fun r i wr=>∃ k:Nat,k≤N.length∧i=.int .i64 k∧wr.ownsRow w2.heap.size 24 16 r ((N.take k).filter fun x=>x.kd != 7 && !voidB N x.id).length (ics ((N.take k).filter fun x=>x.kd != 7 && !voidB N x.id))∧Below w2.heap.size w2 wr) (fun _ i _=>N.length - (RowKit.intOf i).toNat)
   case atStart=>exact ⟨0,Nat.zero_le _,rfl,World.ownsRow_nil _ _ _ _,Below.refl _ _⟩
   case round =>
    obtain ⟨k,hk,rfl,hro,hB⟩:=hrel
    have hnn:(0:Int)≤k:=by omega
    obtain ⟨ua,uc,rfl,_⟩:=owns_slice hro
    by_cases hlt:k<N.length
    ·have i1:(k:Int)<(N.length:Int):=by omega
     have hNr:=hN.below hB
     obtain ⟨b,o,rfl,_,⟨d0,d1,d2,d3,d4,d5,d6,d7,d8,d9,d10,d11,d12,d13,d14,d15⟩⟩:=hNr.get hlt
     have Hes:=Lib.hid (filt_succ (f:=fun x=>x.kd != 7 && !voidB N x.id) hlt)
     have hl2:=filt_len (fun x=>x.kd != 7 && !voidB N x.id) N k
     have hgo:=fun i=>r2gone_any _ N.length vc N i wr hNr
     generalize N.getD k default=x at *
     have hgo:=hgo x.id
     generalize (N.take k).filter (fun x=>x.kd != 7 && !voidB N x.id)=L at *
     have HR:=Lib.hid hro
     have HB:=Lib.hid hB
     clear hro hB hNr hN
     generalize voidB N x.id=V at *
     cases hD:x.kd != 7 with
     | false =>
       rw [hD] at Hes
       exact Z8a
     | true =>
       rw [hD] at Hes
       cases V with
       | false =>
         exact Z85
       | true =>
         exact Z8a
    ·exact Z8j
/-- The measurements of a kind of a sherd, as the reference finds them. -/
theorem r2of_any (a:Option Addr) (n cap:Nat) (l:List Itm) (day id kd:Int) (w:World) (h:ItmsAt w a n cap l) (hs:l.length≤1000) :
 Calls Tryz.prog 90 #[.slice a n cap,.int .i64 day,.int .i64 id,.int .u8 kd] w (RowPost w 24 16 (keptL (countL l day) kd id).length (ics (keptL (countL l day) kd id))):=by
 have hC:=r2counting_any a n cap l day w h hs
 have hw2:∀ x ∈ countL l day,x.Wide:=fun x hx=>h.wide x (countL_sub hx).1
 have hcl:=countL_len l day
 unfold RowPost at hC
 unfold keptL
 generalize countL l day=N at *
 have HP:=Lib.hid (show ∀ v w',Below w.heap.size w w'→w'.ownsRow w.heap.size 24 16 v (N.filter fun x=>x.kd == kd && x.sh == id).length (ics (N.filter fun x=>x.kd == kd && x.sh == id))→RowPost w 24 16 (N.filter fun x=>x.kd == kd && x.sh == id).length (ics (N.filter fun x=>x.kd == kd && x.sh == id)) (.returned v) w' from fun v w' h1 h2=>⟨v,rfl,h1,h2⟩)
 generalize RowPost w 24 16 (N.filter fun x=>x.kd == kd && x.sh == id).length (ics (N.filter fun x=>x.kd == kd && x.sh == id))=Post at *
 go_enter Tryz.func90,Tryz.ntmps90
 go_wp2_with (go_at_call 129;(with_reducible refine hC.mono ?_);rintro e w2 ⟨v2,rfl,hb2,ho2⟩;obtain ⟨va,vc,rfl,_⟩:=owns_slice ho2)
 have hN:=ItmsAt.of_owns ho2 (by omega) hw2
 have H1:=Lib.hid hb2
 clear h ho2 hw2 hC hb2
 go_loopw [10,11] (fun r i wr=>∃ k:Nat,k≤N.length∧i=.int .i64 k∧wr.ownsRow w2.heap.size 24 16 r ((N.take k).filter fun x=>x.kd == kd && x.sh == id).length (ics ((N.take k).filter fun x=>x.kd == kd && x.sh == id))∧Below w2.heap.size w2 wr) (fun _ i _=>N.length - (RowKit.intOf i).toNat)
 case atStart=>exact ⟨0,Nat.zero_le _,rfl,World.ownsRow_nil _ _ _ _,Below.refl _ _⟩
 case round =>
  obtain ⟨k,hk,rfl,hro,hB⟩:=hrel
  have hnn:(0:Int)≤k:=by omega
  obtain ⟨ua,uc,rfl,_⟩:=owns_slice hro
  by_cases hlt:k<N.length
  ·have i1:(k:Int)<(N.length:Int):=by omega
   obtain ⟨b,o,rfl,_,⟨d0,d1,d2,d3,d4,d5,d6,d7,d8,d9,d10,d11,d12,d13,d14,d15⟩⟩:=(hN.below hB).get hlt
   have Hes:=Lib.hid (filt_succ (f:=fun x=>x.kd == kd && x.sh == id) hlt)
   have hl2:=filt_len (fun x=>x.kd == kd && x.sh == id) N k
   generalize N.getD k default=x at *
   generalize (N.take k).filter (fun x=>x.kd == kd && x.sh == id)=L at *
   have HR:=Lib.hid hro
   have HB:=Lib.hid hB
   have hgo:True:=trivial
   clear hro hB hN
   cases hD:x.kd == kd with
   | false =>
     have hD2:decide (x.kd=kd)=false:=by simpa using hD
     rw [hD] at Hes
     exact Z8a
   | true =>
     have hD2:decide (x.kd=kd)=true:=by simpa using hD
     rw [hD] at Hes
     cases hV:x.sh == id with
     | false =>
       have hV2:decide (x.sh=id)=false:=by simpa using hV
       rw [hV] at Hes
       exact Z8a
     | true =>
       have hV2:decide (x.sh=id)=true:=by simpa using hV
       rw [hV] at Hes
       exact Z85
  ·exact Z8j
open Go.ChangeShapes Go.WideShapes Go.ChangeAt Go.RowKit Go.Joins Go.Deep
set_option maxRecDepth 100000
set_option maxHeartbeats 2000000
theorem Tryz.own:ownKnob Tryz.prog.godebug=none:=by kernel_rfl
theorem Tryz.laidOut:laidOutB Tryz.prog=true:=by kernel_rfl
theorem Tryz.cI:Tryz.prog.cellsOf 3=1:=by kernel_rfl
theorem Tryz.cU:Tryz.prog.cellsOf 5=1:=by kernel_rfl
theorem Tryz.cS:Tryz.prog.cellsOf 9=1:=by kernel_rfl
theorem Tryz.cB:Tryz.prog.cellsOf 4=1:=by kernel_rfl
theorem Tryz.cItem:Tryz.prog.cellsOf 24=16:=by kernel_rfl
theorem Tryz.bItem:Tryz.prog.bytesOf 24=144:=by kernel_rfl
theorem itm_add {b o:Nat} (k:Nat):(⟨b,o,none⟩:Addr).add k=⟨b,o +k,none⟩:=by
 unfold Addr.add
 split
 ·rename_i h;subst h;simp
 ·rfl
theorem itm_where {W:World} {base:Nat} {t e:TypeId} {a:Addr} {n cap:Nat} (ht:Tryz.prog.underlying t=some (.slice e)) (hv:Value.okWide Tryz.prog W .any base t (.slice (some a) n cap)):a.spot=none∧a.block<W.heap.size:=by
 simp only [Value.okWide,ht,Cell.okWide,Cell.ok] at hv
 obtain ⟨_,_,_,hsp,row,cells,hsh,_⟩:=hv
 refine ⟨hsp,?_⟩
 simp only [World.shape?] at hsh
 by_cases hlt:a.block<W.heap.size
 ·exact hlt
 ·rw [Array.getElem?_eq_none (by omega)] at hsh
  simp at hsh
theorem itm_slice {W:World} {base:Nat} {t e:TypeId} {v:Value} (ht:Tryz.prog.underlying t=some (.slice e)) (hv:Value.okWide Tryz.prog W .any base t v):∃ a n cap,v=.slice a n cap:=by
 simp only [Value.okWide,ht,Cell.okWide,Cell.ok] at hv
 cases v <;> simp at hv
 exact ⟨_,_,_,rfl⟩
theorem u8_in {x:Int} (h:(Lit.int .u8 x).wf=true):0≤x∧x≤255:=by
 have h1:IntKind.u8.min=0:=by decide
 have h2:IntKind.u8.max=255:=by decide
 have h3:(decide (IntKind.u8.min≤x) && decide (x≤IntKind.u8.max))=true:=h
 rw [h1,h2] at h3
 simpa using h3
section
variable {H:Type} {enc:TypeId × Value→H} {w:World} {base:Nat}
theorem int_cw {t:TypeId} {k:IntKind} {n i:Nat} {v:Value} {xs:List (DataW H × List MemPlace)} (ht:Tryz.prog.underlying t=some (.int k)) (h:DataW.trod enc Tryz.prog w base (fun _=>true) true n t [v]=xs[i]?) (hi:i<xs.length):∃ x,v=.int k x∧(Lit.int k x).wf=true:=by
 rw [List.getElem?_eq_getElem hi] at h
 obtain ⟨x,e0,_,e2⟩:=DataW.trod_int ht h
 simp at e0
 exact ⟨x,e0,e2⟩
theorem str_cw {t:TypeId} {n i:Nat} {v:Value} {xs:List (DataW H × List MemPlace)} (ht:Tryz.prog.underlying t=some .string) (h:DataW.trod enc Tryz.prog w base (fun _=>true) true n t [v]=xs[i]?) (hi:i<xs.length):∃ x:ByteArray,v=.string x∧x.size≤maxLen:=by
 rw [List.getElem?_eq_getElem hi] at h
 obtain ⟨x,e0,_,e2⟩:=DataW.trod_string ht h
 simp at e0
 exact ⟨x,e0,e2⟩
theorem bool_cw {t:TypeId} {n i:Nat} {v:Value} {xs:List (DataW H × List MemPlace)} (ht:Tryz.prog.underlying t=some .bool) (h:DataW.trod enc Tryz.prog w base (fun _=>true) true n t [v]=xs[i]?) (hi:i<xs.length):∃ x,v=.bool x:=by
 rw [List.getElem?_eq_getElem hi] at h
 obtain ⟨x,e0,_⟩:=DataW.trod_bool ht h
 simp at e0
 exact ⟨x,e0⟩
theorem list16 {l:List Value} (h:l.length=16):∃ c0 c1 c2 c3 c4 c5 c6 c7 c8 c9 c10 c11 c12 c13 c14 c15,l=[c0,c1,c2,c3,c4,c5,c6,c7,c8,c9,c10,c11,c12,c13,c14,c15]:=by
 match l,h with
 | [c0,c1,c2,c3,c4,c5,c6,c7,c8,c9,c10,c11,c12,c13,c14,c15],_=>exact ⟨c0,c1,c2,c3,c4,c5,c6,c7,c8,c9,c10,c11,c12,c13,c14,c15,rfl⟩
/-- An item in its cells. -/
theorem item_cells {n:Nat} {cs:List Value} {y:DataW H × List MemPlace} (h:DataW.trod enc Tryz.prog w base (fun _=>true) true n 24 cs=some y):∃ x:Itm,cs=x.cs∧x.Wide:=by
 obtain ⟨xs,m,rfl,rfl,hl,hxl,hf⟩:=DataW.trod_struct Tryz.underlying24 h
 rw [Tryz.cItem] at hl
 obtain ⟨c0,c1,c2,c3,c4,c5,c6,c7,c8,c9,c10,c11,c12,c13,c14,c15,rfl⟩:=list16 hl
 have hx:xs.length=16:=hxl
 have f0:DataW.trod enc Tryz.prog w base (fun _=>true) true m 3 [c0]=xs[0]?:=by have:=hf 0 _ rfl;simpa [Tryz.cI] using this
 have f1:DataW.trod enc Tryz.prog w base (fun _=>true) true m 3 [c1]=xs[1]?:=by have:=hf 1 _ rfl;simpa [Tryz.cI] using this
 have f2:DataW.trod enc Tryz.prog w base (fun _=>true) true m 5 [c2]=xs[2]?:=by have:=hf 2 _ rfl;simpa [Tryz.cU] using this
 have f3:DataW.trod enc Tryz.prog w base (fun _=>true) true m 9 [c3]=xs[3]?:=by have:=hf 3 _ rfl;simpa [Tryz.cS] using this
 have f4:DataW.trod enc Tryz.prog w base (fun _=>true) true m 3 [c4]=xs[4]?:=by have:=hf 4 _ rfl;simpa [Tryz.cI] using this
 have f5:DataW.trod enc Tryz.prog w base (fun _=>true) true m 3 [c5]=xs[5]?:=by have:=hf 5 _ rfl;simpa [Tryz.cI] using this
 have f6:DataW.trod enc Tryz.prog w base (fun _=>true) true m 3 [c6]=xs[6]?:=by have:=hf 6 _ rfl;simpa [Tryz.cI] using this
 have f7:DataW.trod enc Tryz.prog w base (fun _=>true) true m 4 [c7]=xs[7]?:=by have:=hf 7 _ rfl;simpa [Tryz.cB] using this
 have f8:DataW.trod enc Tryz.prog w base (fun _=>true) true m 3 [c8]=xs[8]?:=by have:=hf 8 _ rfl;simpa [Tryz.cI] using this
 have f9:DataW.trod enc Tryz.prog w base (fun _=>true) true m 3 [c9]=xs[9]?:=by have:=hf 9 _ rfl;simpa [Tryz.cI] using this
 have f10:DataW.trod enc Tryz.prog w base (fun _=>true) true m 3 [c10]=xs[10]?:=by have:=hf 10 _ rfl;simpa [Tryz.cI] using this
 have f11:DataW.trod enc Tryz.prog w base (fun _=>true) true m 3 [c11]=xs[11]?:=by have:=hf 11 _ rfl;simpa [Tryz.cI] using this
 have f12:DataW.trod enc Tryz.prog w base (fun _=>true) true m 3 [c12]=xs[12]?:=by have:=hf 12 _ rfl;simpa [Tryz.cI] using this
 have f13:DataW.trod enc Tryz.prog w base (fun _=>true) true m 9 [c13]=xs[13]?:=by have:=hf 13 _ rfl;simpa [Tryz.cS] using this
 have f14:DataW.trod enc Tryz.prog w base (fun _=>true) true m 3 [c14]=xs[14]?:=by have:=hf 14 _ rfl;simpa [Tryz.cI] using this
 have f15:DataW.trod enc Tryz.prog w base (fun _=>true) true m 3 [c15]=xs[15]?:=by have:=hf 15 _ rfl;simpa [Tryz.cI] using this
 obtain ⟨x0,rfl,e0⟩:=int_cw Tryz.underlying3 f0 (by omega)
 obtain ⟨x1,rfl,e1⟩:=int_cw Tryz.underlying3 f1 (by omega)
 obtain ⟨x2,rfl,e2⟩:=int_cw Tryz.underlying5 f2 (by omega)
 obtain ⟨x3,rfl,e3⟩:=str_cw Tryz.underlying9 f3 (by omega)
 obtain ⟨x4,rfl,e4⟩:=int_cw Tryz.underlying3 f4 (by omega)
 obtain ⟨x5,rfl,e5⟩:=int_cw Tryz.underlying3 f5 (by omega)
 obtain ⟨x6,rfl,e6⟩:=int_cw Tryz.underlying3 f6 (by omega)
 obtain ⟨x7,rfl⟩:=bool_cw Tryz.underlying4 f7 (by omega)
 obtain ⟨x8,rfl,e8⟩:=int_cw Tryz.underlying3 f8 (by omega)
 obtain ⟨x9,rfl,e9⟩:=int_cw Tryz.underlying3 f9 (by omega)
 obtain ⟨x10,rfl,e10⟩:=int_cw Tryz.underlying3 f10 (by omega)
 obtain ⟨x11,rfl,e11⟩:=int_cw Tryz.underlying3 f11 (by omega)
 obtain ⟨x12,rfl,e12⟩:=int_cw Tryz.underlying3 f12 (by omega)
 obtain ⟨x13,rfl,e13⟩:=str_cw Tryz.underlying9 f13 (by omega)
 obtain ⟨x14,rfl,e14⟩:=int_cw Tryz.underlying3 f14 (by omega)
 obtain ⟨x15,rfl,e15⟩:=int_cw Tryz.underlying3 f15 (by omega)
 have hu:0≤x2∧x2≤255:=u8_in e2
 exact ⟨⟨x0,x1,x2,x3,x4,x5,x6,x7,x8,x9,x10,x11,x12,x13,x14,x15⟩,rfl,⟨e3,e13,hu,e0,e15⟩⟩
end
theorem items_open {H:Type} {enc:TypeId × Value→H} {W:World} {base:Nat} {v:Value} {d:DataW H} {p:List MemPlace} (hv:Value.okWide Tryz.prog W .any base 22 v)
 (h:DataW.Trod enc Tryz.prog W 0 (fun _=>true) true 22 v d p) (hs:∀ n ∈ d.weights Tryz.prog 22,n≤reachBytes):∃ a n cap l,v=.slice a n cap∧ItmsAt W a n cap l∧l.length≤cap:=by
 obtain ⟨a0,n0,c0,rfl⟩:=itm_slice Tryz.underlying22 hv
 obtain ⟨fuel,hf⟩:=h
 rcases open_slice Tryz.underlying22 (show DataW.trod enc Tryz.prog W 0 (fun _=>true) true fuel 22 [.slice a0 n0 c0]=some (d,p) from hf) with ⟨hc,_⟩ | ⟨a,len,cap,m',k,D,Pl,hc,_,hl,_,hm,hx,hat⟩
 ·simp at hc
  obtain ⟨rfl,rfl,rfl⟩:=hc
  exact ⟨none,0,0,[],rfl,ItmsAt.nilAt _,Nat.le_refl _⟩
 ·simp only [List.cons.injEq,Value.slice.injEq,and_true] at hc
  obtain ⟨rfl,rfl,rfl⟩:=hc
  simp only [if_true] at hm
  subst hm
  simp only [Prod.mk.injEq] at hx
  obtain ⟨rfl,_⟩:=hx
  have hb:m' * 144≤reachBytes:=by
   have:=hs _ (by simp only [DataW.weights,Tryz.underlying22];exact List.mem_cons_self ..)
   rw [Tryz.bItem] at this
   simp only [List.length_map,List.length_range] at this
   rw [show n0 +(m' - n0)=m' by omega] at this
   exact this
  unfold reachBytes at hb
  obtain ⟨h1,h2⟩:=itm_where Tryz.underlying22 hv
  obtain ⟨ab,ao,sp⟩:=a
  simp only at h1 h2
  subst h1
  have hex:∀ i,∃ x:Itm,i<n0→x.Wide∧∀ j,j<16→W.cell? ⟨ab,ao +i * 16 +j,none⟩=x.cs[j]?:=fun i=>by
   by_cases hi:i<n0
   ·obtain ⟨cs,e1,e2⟩:=hat i (by omega)
    rw [Tryz.cItem] at e1
    obtain ⟨_,hcl,hct⟩:=World.cells?_some e1
    obtain ⟨x,rfl,hw⟩:=item_cells e2
    refine ⟨x,fun _=>⟨hw,fun j hj=>?_⟩⟩
    have:=hct j hj
    rw [itm_add,itm_add] at this
    rw [this]
   ·exact ⟨Itm.zero,fun h=>absurd h hi⟩
  obtain ⟨F,hF⟩:=Classical.axiomOfChoice hex
  refine ⟨_,n0,m',(List.range n0).map F,rfl,⟨by simp,by simp;omega,⟨fun h=>(by cases h),fun x hx=>?_⟩,fun x hx=>?_⟩,by simp;omega⟩
  ·obtain rfl:=Option.some.inj hx
   refine ⟨rfl,h2,fun i u hu=>?_⟩
   have hil:=(List.getElem?_eq_some_iff.1 hu).1
   rw [ics_length] at hil
   simp at hil
   have hk:i / 16<n0:=by omega
   have hfg:=flatS_get (f:=Itm.cs) (k:=16) (fun _=>rfl) ((List.range n0).map F) (i / 16) (i % 16) Z46 (by omega)
   rw [show i / 16 * 16 +i % 16=i by omega] at hfg
   have hu:=hfg.symm.trans hu
   have hgd:((List.range n0).map F).getD (i / 16) default=F (i / 16):=by simp [List.getD_eq_getElem?_getD,hk]
   rw [hgd] at hu
   have:=(hF (i / 16) hk).2 (i % 16) (by omega)
   simp only
   rw [show ao +i=ao +i / 16 * 16 +i % 16 by omega,this,hu]
  ·obtain ⟨i,hi,rfl⟩:=List.mem_map.1 hx
   rw [List.mem_range] at hi
   exact (hF i hi).1
open Go.RowKit Go.Shelf
set_option maxHeartbeats 8000000
set_option maxRecDepth 100000
def shortB (x:Itm):Bool:=decide (x.wa.size≤100) && decide (x.st.size≤100)
theorem lone (x:Itm) (w:World):Calls Tryz.prog 19 #[x.v] w fun e w'=>e=.returned (.bool (shortB x))∧Below w.heap.size w w':=by
 have hal:=one_alloc w (Obj.cells #[.int .i64 x.id,.int .i64 x.kn,.int .u8 x.kd,.string x.wa,.int .i64 x.pit,.int .i64 x.ly,.int .i64 x.co,.bool x.ft,.int .i64 x.sh,.int .i64 x.fr,.int .i64 x.tw,.int .i64 x.lo,.int .i64 x.hi,.string x.st,.int .i64 x.li,.int .i64 x.vo] 24)
 have hX:=World.alloc_heap_new w (Obj.cells #[.int .i64 x.id,.int .i64 x.kn,.int .u8 x.kd,.string x.wa,.int .i64 x.pit,.int .i64 x.ly,.int .i64 x.co,.bool x.ft,.int .i64 x.sh,.int .i64 x.fr,.int .i64 x.tw,.int .i64 x.lo,.int .i64 x.hi,.string x.st,.int .i64 x.li,.int .i64 x.vo] 24)
 have d3:=(ItmCells.of_heap hX).1.c3
 have d13:=(ItmCells.of_heap hX).1.c13
 simp only [Itm.v,Itm.cs]
 unfold shortB
 obtain ⟨A,hA⟩:∃ A,x.wa.size=A:=⟨_,rfl⟩
 obtain ⟨B,hB⟩:∃ B,x.st.size=B:=⟨_,rfl⟩
 rw [hA,hB]
 clear hX
 by_cases h1:A≤100
 ·have e1:(A:Int)≤100:=by omega
  have d1:decide (A≤100)=true:=decide_eq_true h1
  rw [d1,Bool.true_and]
  by_cases h2:B≤100
  ·have e2:(B:Int)≤100:=by omega
   have d2:decide (B≤100)=true:=decide_eq_true h2
   rw [d2]
   exact Z8u
  ·have e2:¬ (B:Int)≤100:=by omega
   have d2:decide (B≤100)=false:=decide_eq_false h2
   rw [d2]
   exact Z8u
 ·have e1:¬ (A:Int)≤100:=by omega
  have d1:decide (A≤100)=false:=decide_eq_false h1
  rw [d1,Bool.false_and]
  exact Z8u
def fewB (l:List Itm) (m:Nat):Bool:=(l.take m).all shortB && decide (l.length≤m)
theorem fewB_len {l:List Itm} {m:Nat} (h:fewB l m=true):l.length≤m:=by
 unfold fewB at h
 rw [Bool.and_eq_true] at h
 exact of_decide_eq_true h.2
theorem all_succ {l:List Itm} {k:Nat} (hk:k<l.length):(l.take (k +1)).all shortB=((l.take k).all shortB && shortB (l.getD k default)):=by
 rw [List.take_succ_eq_append_getElem hk,List.all_append,List.getD_eq_getElem?_getD,List.getElem?_eq_getElem hk]
 simp
theorem all_no {l:List Itm} {k m:Nat} (hk:k<l.length) (hm:k<m) (h:shortB (l.getD k default)=false):(l.take m).all shortB=false:=by
 rw [List.all_eq_false]
 refine ⟨l.getD k default,?_,by rw [h];simp⟩
 rw [List.getD_eq_getElem?_getD,List.getElem?_eq_getElem hk]
 have:l[k] ∈ l.take m:=List.mem_take_iff_getElem.2 ⟨k,by omega,rfl⟩
 exact this
theorem lfew (m:Nat) (a:Option Addr) (n cap:Nat) (l:List Itm) (w:World) (h:ItmsAt w a n cap l) (hm:m≤1000):Calls Tryz.prog 18 #[.slice a n cap,.int .i64 m] w fun e w'=>e=.returned (.bool (fewB l m))∧Below w.heap.size w w':=by
 obtain rfl:=h.len
 have hsm:=h.small
 have HP:=Lib.hid (show ∀ w' b,fewB l m=b→Below w.heap.size w w'→(fun e w'=>e=Ending.returned (.bool (fewB l m))∧Below w.heap.size w w':Ending→World→Prop) (.returned (.bool b)) w' from fun w' b h1 h2=>⟨by rw [h1],h2⟩)
 generalize (fun e w'=>e=Ending.returned (.bool (fewB l m))∧Below w.heap.size w w':Ending→World→Prop)=Post at *
 go_enter Tryz.func18,Tryz.ntmps18
 go_wp2_with fail
 go_loopw [5] (fun i wr=>∃ k:Nat,k≤l.length∧k≤m∧i=.int .i64 k∧Hid ((l.take k).all shortB=true)∧Below w.heap.size w wr) (fun i _=>l.length - (RowKit.intOf i).toNat)
 case atStart=>exact ⟨0,Nat.zero_le _,Nat.zero_le _,rfl,Lib.hid rfl,Below.refl _ _⟩
 case round =>
  obtain ⟨k,hk,hkm,rfl,hall,hB⟩:=hrel
  have hnn:(0:Int)≤k:=by omega
  by_cases hlt:k<l.length
  ·have i1:(k:Int)<(l.length:Int):=by omega
   by_cases hlm:k<m
   ·have i2:(k:Int)<(m:Int):=by omega
    obtain ⟨b,o,rfl,hb,hdc⟩:=(h.below hB).get hlt
    have Hs:=Lib.hid (all_succ hlt)
    have Hn:=Lib.hid (all_no hlt hlm)
    generalize l.getD k default=x at *
    have hcl:=lone x wr
    cases hv:shortB x with
    | true =>
      rw [hv] at hcl Hs
      have h2:=Lib.hid (show (l.take (k +1)).all shortB=true by rw [Hs.out,hall.out];rfl)
      clear hv Hn
      go_wp2_with (first
       | (refine wpList_loadI rfl _ rfl rfl hdc ?_)
       | (go_at_call 19;(with_reducible refine hcl.mono ?_);rintro e w2 ⟨rfl,hb2⟩))
      go_roundw
      case rel=>exact ⟨k +1,by omega,by omega,by go_num,h2,hB.ch2 hb2⟩
      case measure=>simp [RowKit.intOf];omega
    | false =>
      have HE:=Lib.hid (fun w' hb=>HP.out w' false (by unfold fewB;rw [Hn.out hv];rfl) hb)
      rw [hv] at hcl
      clear hv Hn Hs
      go_wp2_with (first
       | (refine wpList_loadI rfl _ rfl rfl hdc ?_)
       | (go_at_call 19;(with_reducible refine hcl.mono ?_);rintro e w2 ⟨rfl,hb2⟩))
      exact HE.out _ (hB.ch2 hb2)
   ·have i2:¬ (k:Int)<(m:Int):=by omega
    have i3:¬ (l.length:Int)≤(m:Int):=by omega
    have HE:=Lib.hid (HP.out wr false (by unfold fewB;rw [decide_eq_false (by omega),Bool.and_false]) hB)
    exact Z36
  ·have i1:¬ (k:Int)<(l.length:Int):=by omega
   have hkl:k=l.length:=by omega
   have i3:(l.length:Int)≤(m:Int):=by omega
   have HE:=Lib.hid (HP.out wr true (by unfold fewB;rw [decide_eq_true (by omega),Bool.and_true,List.take_of_length_le (by omega)];have:=hall.out;rw [hkl,List.take_length] at this;exact this) hB)
   clear hkl
   exact Z36
def outC (l:List Itm) (day id:Int):Int:=if lookE l day id=0 then (lookS l day id).co else 0
def outW (l:List Itm) (day id:Int):List Bd:=if lookE l day id=0 then wayB l day id else []
def outT (l:List Itm) (day id:Int):List Bd:=if lookE l day id=0 then turnB l day id else []
/-- An outline with rows of its own, and an error. -/
def OutE (w:World) (E co:Int) (ws ts:List Bd) (e:Ending) (w':World):Prop:=∃ v1 v2,e=.returned (.tuple #[.agg #[.int .i64 co,v1,v2],.int .i64 E])∧Below w.heap.size w w'∧w'.ownsRow w.heap.size 69 4 v1 ws.length (bcs ws)∧w'.ownsRow w.heap.size 69 4 v2 ts.length (bcs ts)
open Go
open Go.RowKit Go.Shelf Go.Sort
set_option maxHeartbeats 4000000
set_option maxRecDepth 100000
open Go.RowKit Go.Shelf
set_option maxHeartbeats 8000000
set_option maxRecDepth 100000
open Go.ChangeShapes Go.WideShapes Go.ChangeAt Go.RowKit Go.Joins Go.Deep
set_option maxRecDepth 100000
set_option maxHeartbeats 2000000
open Go.RowKit Go.Shelf
set_option maxHeartbeats 8000000
set_option maxRecDepth 100000
theorem r2in_any (s:ByteArray) (c:Int) (w:World) (hs:s.size≤maxLen) :
 Calls Tryz.prog 69 #[.string s,.int .u8 c] w fun e w'=>e=.returned (.bool (s.data.toList.any fun y=>(y.toNat:Int) == c))∧w=w':=by
 unfold maxLen at hs
 have hsz:s.size=s.data.toList.length:=rfl
 have Hsz:=Lib.hid hsz
 clear hsz
 obtain ⟨T,hT⟩:∃ T,(s.data.toList.any fun y=>(y.toNat:Int) == c)=T:=⟨_,rfl⟩
 have HT:=Lib.hid hT
 rw [hT]
 clear hT
 go_enter Tryz.func69,Tryz.ntmps69
 go_wp2
 go_loop [5] (fun i=>∃ k:Nat,k≤s.size∧i=.int .i64 k∧(s.data.toList.take k).any (fun y=>(y.toNat:Int) == c)=false) (fun i=>s.size - (RowKit.intOf i).toNat)
 case atStart=>exact ⟨0,Nat.zero_le _,rfl,rfl⟩
 case round =>
  obtain ⟨k,hk,rfl,hno⟩:=hrel
  have Hno:=Lib.hid hno
  clear hno
  by_cases hlt:k<s.size
  ·have hl2:k<s.data.toList.length:=by rw [← Hsz.out];exact hlt
   have Hk:=Lib.hid hl2
   have hget:s.data.toList[k]=s[k]:=rfl
   have Hget:=Lib.hid hget
   clear hget hl2
   by_cases e:((s[k]).toNat:Int)=c
   ·have e':(((s[k]).toNat:Int) == c)=true:=by simpa using e
    have Hr:Hid ((s.data.toList.any fun y=>(y.toNat:Int) == c)=true):=Lib.hid (List.any_eq_true.2 ⟨s.data.toList[k]'Hk.out,List.getElem_mem _,by exact e'⟩)
    clear e
    exact Z95
   ·have e':(((s[k]).toNat:Int) == c)=false:=by simpa using e
    have Hr:Hid ((s.data.toList.take (k +1)).any (fun y=>(y.toNat:Int) == c)=false):=Lib.hid ((any_take (f:=fun y=>((y:UInt8).toNat:Int) == c) Hk.out).trans (by rw [Hno.out,Bool.false_or];exact e'))
    clear e
    go_wp2
    go_round
    case rel=>exact ⟨k +1,by omega,by go_num,Hr.out⟩
    case measure=>simp [RowKit.intOf];omega
  ·have hke:s.data.toList.take k=s.data.toList:=List.take_of_length_le (by rw [← Hsz.out];omega)
   have Hr:=Lib.hid (hke ▸ Hno.out)
   clear hke
   exact Z95
end Go.Proofs.YtelkcohhagblaaaGreat

/- What the functions answer, for every input. -/
import Derived.Test.YtelkcohhagblaaaGreatSe32
set_option linter.unusedSimpArgs false
set_option linter.unusedVariables false
set_option linter.unnecessarySimpa false
namespace Go.Proofs.YtelkcohhagblaaaGreat
open Go.RowKit Go.Shelf
set_option maxHeartbeats 8000000
set_option maxRecDepth 100000
theorem skept (a:Option Addr) (n cap:Nat) (k id:Int) (w:World) :
 Calls Tryz.prog 99 #[.slice a n cap,.int .u8 k,.int .i64 id] w fun e w'=>e=.returned (.func (.func 165) #[] #[.pointer (some ⟨w.heap.size,0,none⟩),.pointer (some ⟨w.heap.size +1,0,none⟩),.pointer (some ⟨w.heap.size +1 +1,0,none⟩)]) ∧
  w'=((w.alloc (.cells #[.slice a n cap] 116)).alloc (.cells #[.int .u8 k] 5)).alloc (.cells #[.int .i64 id] 3):=by
 have hmk:=makeFuncS
 go_enter Tryz.func99,Tryz.ntmps99
 exact Z4m
def keptN (s:List Itm) (k id:Int) (i:Nat):List Itm:=(s.take i).filter fun x=>x.kd == k && x.sh == id
theorem keptN_all (s:List Itm) (k id:Int):keptN s k id s.length=keptL s k id:=by unfold keptN keptL;rw [List.take_length]
theorem keptN_succ {s:List Itm} {k id:Int} {i:Nat} (hi:i<s.length):keptN s k id (i +1)=keptN s k id i ++(if ((s.getD i default).kd == k && (s.getD i default).sh == id)=true then [s.getD i default] else []):=by
 unfold keptN
 rw [List.take_succ_eq_append_getElem hi,List.filter_append,List.getD_eq_getElem?_getD,List.getElem?_eq_getElem hi]
 simp only [Option.getD_some]
 congr 1
 simp [List.filter_cons]
theorem keptN_split {s:List Itm} {k id:Int} {i:Nat} (hi:i<s.length) (h:((s.getD i default).kd == k && (s.getD i default).sh == id)=true):∃ post,keptL s k id=keptN s k id i ++s.getD i default::post:=by
 have e:s=s.take (i +1) ++s.drop (i +1):=(List.take_append_drop _ _).symm
 refine ⟨(s.drop (i +1)).filter fun x=>x.kd == k && x.sh == id,?_⟩
 have h2:=keptN_succ (s:=s) (k:=k) (id:=id) hi
 rw [if_pos h] at h2
 unfold keptL
 conv=>lhs;rw [e,List.filter_append]
 change keptN s k id (i +1) ++_=_
 rw [h2]
 simp
theorem skept1 (a:Option Addr) (n cap:Nat) (s:List Itm) (k id:Int) (BS BK BI:Nat) (hl:s.length≤10000) :
 IterAt Tryz.prog 165 #[.pointer (some ⟨BS,0,none⟩),.pointer (some ⟨BK,0,none⟩),.pointer (some ⟨BI,0,none⟩)] (fun W=>W.cell? ⟨BS,0,none⟩=some (.slice a n cap)∧W.cell? ⟨BK,0,none⟩=some (.int .u8 k)∧W.cell? ⟨BI,0,none⟩=some (.int .i64 id)∧ItmsAt W a n cap s) Itm.v (keptL s k id):=by
 intro B lid J Jx W hBW hJ hJx hJC h0 hy
 refine callsIn_of_wp Tryz.func165 rfl trivial ?_
 simp only [Tryz.ntmps165,List.size_toArray,List.length_cons,List.length_nil,Nat.reduceAdd,Nat.reduceSub,Array.replicate_succ,Array.replicate_zero,List.push_toArray,List.append_toArray,List.nil_append,List.cons_append]
 obtain ⟨c0,_,_,hx0⟩:=hJC _ _ h0
 obtain rfl:=hx0.len
 have hfw:∀ f,Fence.wide.fn f:=fun _=>trivial
 have hdp:Fence.wide.depth=none:=rfl
 simp only [Itm.v,Itm.cs] at hy
 have HY:=Lib.hid hy
 have HC:=Lib.hid hJC
 have HJ:=Lib.hid hJ
 have zS:=World.block_lt_of_cell? W _ c0
 simp only at zS
 clear hy hJC hJ hx0
 gi_wp2_with fail
 gi_loopw [9] (fun i wq=>∃ q:Nat,q≤s.length∧i=.int .i64 q∧J (keptN s k id q) wq) (fun i _=>s.length - (RowKit.intOf i).toNat)
 case atStart=>exact ⟨0,Nat.zero_le _,rfl,by simpa [keptN] using h0⟩
 case round =>
  as_aux_lemma =>
  clear c0 zS h0
  obtain ⟨q,hq,rfl,hj⟩:=hrel
  have hnn:(0:Int)≤q:=by omega
  obtain ⟨c1,cK,cI,hx1⟩:=HC.out _ _ hj
  have zS1:=World.block_lt_of_cell? wr _ c1
  have zK1:=World.block_lt_of_cell? wr _ cK
  have zI1:=World.block_lt_of_cell? wr _ cI
  simp only at zS1 zK1 zI1
  by_cases hlt:q<s.length
  ·have i1:(q:Int)<(s.length:Int):=by omega
   obtain ⟨b,o,rfl,hbl,⟨d0,d1,d2,d3,d4,d5,d6,d7,d8,d9,d10,d11,d12,d13,d14,d15⟩⟩:=hx1.get hlt
   have Hsu:=Lib.hid (keptN_succ (k:=k) (id:=id) hlt)
   have Hsp:=Lib.hid (keptN_split (k:=k) (id:=id) hlt)
   clear hx1 c1
   generalize s.getD q default=x at *
   obtain ⟨B1,hB1⟩:∃ B,(x.kd == k)=B:=⟨_,rfl⟩
   obtain ⟨B2,hB2⟩:∃ B,(x.sh == id)=B:=⟨_,rfl⟩
   rw [hB1,hB2] at Hsu Hsp
   have hal:=one_alloc wr (Obj.cells #[.int .i64 x.id,.int .i64 x.kn,.int .u8 x.kd,.string x.wa,.int .i64 x.pit,.int .i64 x.ly,.int .i64 x.co,.bool x.ft,.int .i64 x.sh,.int .i64 x.fr,.int .i64 x.tw,.int .i64 x.lo,.int .i64 x.hi,.string x.st,.int .i64 x.li,.int .i64 x.vo] 24)
   have hj2:=HJ.out _ _ _ none hj (below_grown hal) (fun r e=>by cases e)
   have HJ2:=Lib.hid hj2
   clear hal hj hj2
   cases B1
   ·have Hs2:=Lib.hid (Hsu.out.trans Z4e)
    exact Z2q
   ·cases B2
    ·have Hs2:=Lib.hid (Hsu.out.trans Z58)
     exact Z2q
    ·have Hs2:Hid (keptN s k id (q +1)=keptN s k id q ++[x]):=Lib.hid (by rw [Hsu.out];rfl)
     obtain ⟨post,hpost⟩:=Hsp.out rfl
     have HY2:=HY.out _ x post _ hpost HJ2.out
     have HP:=Lib.hid hpost
     clear hpost
     obtain ⟨fn,tmps,assign,body,hyy,hR⟩:=HY2
     have HR2:=Lib.hid hR
     clear hR hfw hdp
     gi_wp2_with fail
     refine ⟨rfl,HR2.out.mono ?_⟩
     rintro e W3 ⟨hkw,⟨rfl,hJ3⟩ | ⟨rfl,hJ3⟩⟩
     ·gi_wp2
      go_roundw
      case rel=>exact ⟨q +1,by omega,by go_num,by rw [Hs2.out];exact hJ3⟩
      case measure=>simp [RowKit.intOf];omega
     ·gi_wp2
      exact bodyPost_ret (v:=.tuple #[]) (by simp [results,Tryz.results165]) rfl ⟨⟨_,rfl⟩,.inr ⟨_,_,_,HP.out,hJ3⟩⟩
  ·have hk2:q=s.length:=by omega
   subst hk2
   rw [keptN_all] at hj
   exact Z3y
end Go.Proofs.YtelkcohhagblaaaGreat

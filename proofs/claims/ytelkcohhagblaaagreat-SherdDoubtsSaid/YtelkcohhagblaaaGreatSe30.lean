/- What the functions answer, for every input. -/
import Derived.Test.YtelkcohhagblaaaGreatSe21
import Derived.Test.YtelkcohhagblaaaGreatSe24
import Derived.Test.YtelkcohhagblaaaGreatSe10
import Derived.Test.YtelkcohhagblaaaGreatSe04
set_option linter.unusedSimpArgs false
set_option linter.unusedVariables false
set_option linter.unnecessarySimpa false
namespace Go.Proofs.YtelkcohhagblaaaGreat
open Go.RowKit Go.Shelf
set_option maxHeartbeats 8000000
set_option maxRecDepth 100000
/-- A number and an error are returned. -/
def PairI (w:World) (a b:Int) (e:Ending) (w':World):Prop:=e=.returned (.tuple #[.int .i64 a,.int .i64 b])∧Below w.heap.size w w'
theorem chkFrom_step {l:List Itm} {i:Nat} (hi:i<l.length) (h:refE (l.take i) (l.getD i default)=0):chkFrom l (l.length - i) i=chkFrom l (l.length - (i +1)) (i +1):=by
 rw [show l.length - i=(l.length - (i +1)) +1 by omega]
 conv=>lhs;unfold chkFrom
 rw [if_pos h]
theorem chkFrom_stop {l:List Itm} {i:Nat} (hi:i<l.length) (h:refE (l.take i) (l.getD i default)≠0):chkFrom l (l.length - i) i=(i,refE (l.take i) (l.getD i default)):=by
 rw [show l.length - i=(l.length - (i +1)) +1 by omega]
 conv=>lhs;unfold chkFrom
 rw [if_neg h]
theorem chkFrom_end {l:List Itm}:chkFrom l (l.length - l.length) l.length=(0,0):=by rw [Nat.sub_self];rfl
theorem sCheck_any (a:Option Addr) (n cap:Nat) (l:List Itm) (w:World) (h:ItmsAt w a n cap l) (hcap:l.length≤cap) (hck:∀ x ∈ l,∀ w1,Calls Tryz.prog 26 #[x.v] w1 (EPost w1 (itemE x))) :
 Calls Tryz.prog 21 #[.slice a n cap] w (PairI w (chkI l).1 (chkI l).2):=by
 obtain rfl:=h.len
 have hsm:=h.small
 have HP:=Lib.hid (show ∀ w',Below w.heap.size w w'→∀ p:Nat × Int,p=chkI l→PairI w (chkI l).1 (chkI l).2 (.returned (.tuple #[.int .i64 p.1,.int .i64 p.2])) w' from fun w' h1 p hp=>by subst hp;exact ⟨rfl,h1⟩)
 generalize PairI w (chkI l).1 (chkI l).2=Post at *
 have hF:=fun (i:Nat) (hi:i<l.length) (w1:World) (h1:ItmsAt w1 a l.length cap l) b o (e:a=some ⟨b,o,none⟩)=>sfollows_any (l.getD i default) a i i (l.take i) w1 (h1.take i i (by omega) (fun h0=>by rw [h0] at e;cases e)) (hck _ (Itm.mem hi))
 unfold EPost at hF
 have HF:=Lib.hid hF
 clear hF hck
 go_enter Tryz.func21,Tryz.ntmps21
 go_wp2_with fail
 go_loopw [9] (fun i wr=>∃ k:Nat,k≤l.length∧i=.int .i64 k∧Below w.heap.size w wr∧chkFrom l (l.length - k) k=chkI l) (fun i _=>l.length - (RowKit.intOf i).toNat)
 case atStart=>exact ⟨0,Nat.zero_le _,rfl,Below.refl _ _,rfl⟩
 case round =>
  obtain ⟨k,hk,rfl,hB,hch⟩:=hrel
  have hnn:(0:Int)≤k:=by omega
  by_cases hlt:k<l.length
  ·have i1:(k:Int)<(l.length:Int):=by omega
   have hx1:=h.below hB
   obtain ⟨b,o,rfl,hbl,⟨d0,d1,d2,d3,d4,d5,d6,d7,d8,d9,d10,d11,d12,d13,d14,d15⟩⟩:=hx1.get hlt
   have hfo:=fun W (hw:Below wr.heap.size wr W)=>HF.out k hlt W (hx1.below hw) b o rfl
   have Hst:=Lib.hid (fun h=>(chkFrom_step hlt h).symm.trans hch)
   have Hno:=Lib.hid (fun h=>(chkFrom_stop hlt h).symm.trans hch)
   generalize refE (l.take k) (l.getD k default)=E at *
   generalize l.getD k default=x at *
   simp only [Itm.v,Itm.cs] at hfo
   have hal:=one_alloc wr (Obj.cells #[.int .i64 x.id,.int .i64 x.kn,.int .u8 x.kd,.string x.wa,.int .i64 x.pit,.int .i64 x.ly,.int .i64 x.co,.bool x.ft,.int .i64 x.sh,.int .i64 x.fr,.int .i64 x.tw,.int .i64 x.lo,.int .i64 x.hi,.string x.st,.int .i64 x.li,.int .i64 x.vo] 24)
   clear hx1 hch
   have i2:(k:Int)≤(cap:Int):=by omega
   have hX:=World.alloc_heap_new wr (Obj.cells #[.int .i64 x.id,.int .i64 x.kn,.int .u8 x.kd,.string x.wa,.int .i64 x.pit,.int .i64 x.ly,.int .i64 x.co,.bool x.ft,.int .i64 x.sh,.int .i64 x.fr,.int .i64 x.tw,.int .i64 x.lo,.int .i64 x.hi,.string x.st,.int .i64 x.li,.int .i64 x.vo] 24)
   have hbl1:=Nat.lt_of_lt_of_le hbl hal.size
   go_wp2_with fail
   generalize wr.alloc (Obj.cells #[.int .i64 x.id,.int .i64 x.kn,.int .u8 x.kd,.string x.wa,.int .i64 x.pit,.int .i64 x.ly,.int .i64 x.co,.bool x.ft,.int .i64 x.sh,.int .i64 x.fr,.int .i64 x.tw,.int .i64 x.lo,.int .i64 x.hi,.string x.st,.int .i64 x.li,.int .i64 x.vo] 24)=w3 at *
   have zX:=(Array.getElem?_eq_some_iff.1 hX).1
   have hfo3:=fun W (hw:Below w3.heap.size w3 W)=>hfo W (hal.ch2 hw)
   have HX:=Lib.hid hX
   clear hX hfo d0 d1 d2 d3 d4 d5 d6 d7 d8 d9 d10 d11 d12 d13 d14 d15
   apply SLG.rule0 ?hm [] [14,15,16,17,18,19,6] [SLF.pq 14 [] _,SLF.pq 15 [] _,SLF.pq 16 [] _,SLF.pq 17 [0,1,2] _,SL.pu 18 [] (.agg #[.int .i64 x.id,.int .i64 x.kn,.int .u8 x.kd,.string x.wa,.int .i64 x.pit,.int .i64 x.ly,.int .i64 x.co,.bool x.ft,.int .i64 x.sh,.int .i64 x.fr,.int .i64 x.tw,.int .i64 x.lo,.int .i64 x.hi,.string x.st,.int .i64 x.li,.int .i64 x.vo]),SL.pu 19 [3,4] (.int .i64 E),SLF.pq 6 [5] _] [6] ?hck ?hkp (fun _=>[]) ?hin ?hdj ?hfr ?ob ?en1
   case hm=>kernel_rfl
   case hin=>exact SL.none_held rfl
   case hdj=>simp
   case hfr=>intro us;simp only [SL.frame,SL.put'];simp;exact rfl
   case ob =>
    refine ⟨?_,?_,?_,?_,?_,?_,?_,trivial⟩
    all_goals first
     | (exact Z7x)
     | skip
    ·refine SLG.ob_sp rfl rfl rfl fun us w' Fe hG hu hd Kx hK=>?_
     try dsimp only
     simp [SL.O] at hu
     have hB5:Below w3.heap.size w3 w':=hG.below'
     obtain ⟨hc5,hf5⟩:=bcell hB5
     have hs5:=hB5.size
     refine SLF.wpo_do (SLF.wanted_free rfl) ?hd ?_
     case hd=>intro c h;cases h
     clear hu
     obtain ⟨⟨y0,y1,y2,y3,y4,y5,y6,y7,y8,y9,y10,y11,y12,y13,y14,y15⟩,yf,yl⟩:=ItmCells.of_heap ((hG.block _ zX (by simp)).trans HX.out)
     exact Z72
    ·refine SLG.ob_sp rfl rfl rfl fun us w' Fe hG hu hd Kx hK=>?_
     try dsimp only
     simp [SL.O] at hu
     have hB5:Below w3.heap.size w3 w':=hG.below'
     obtain ⟨hc5,hf5⟩:=bcell hB5
     have hs5:=hB5.size
     refine SLF.wpo_do (SLF.wanted_free rfl) ?hd ?_
     case hd=>intro c h;cases h
     obtain ⟨⟨q1,_⟩,q2,_⟩:=hu
     have hcc:=hfo3 w' hB5
     clear hc5 hf5 hfo3
     exact Z7e
   case hck=>kernel_rfl
   case hkp=>kernel_rfl
   intro us w7 Fs hG hu hbd hd
   simp [SL.Used,SLF.pq] at hu
   obtain ⟨h6,_⟩:=hu
   have hB7:=(hB.ch2 hal).ch2 (hG.below':Below w3.heap.size w3 w7)
   rw [h6]
   clear hG hbd hd h6 hfo3 HX hal
   by_cases hE:E=0
   ·subst hE
    have Hs:=Lib.hid (Hst.out rfl)
    clear Hno Hst
    go_wp2_with fail
    go_roundw
    case rel=>exact ⟨k +1,by omega,by go_num,hB7,Hs.out⟩
    case measure=>simp [RowKit.intOf];omega
   ·have e2:(E != 0)=true:=by simpa using hE
    have Hs:=Lib.hid (Hno.out hE)
    clear Hno Hst hE
    go_wp2_with fail
    exact HP.out _ hB7 (k,E) Hs.out
  ·have hk2:k=l.length:=by omega
   subst hk2
   rw [chkFrom_end] at hch
   have Hch:=Lib.hid hch
   clear hch
   go_wp2_with fail
   exact HP.out _ hB _ Hch.out
end Go.Proofs.YtelkcohhagblaaaGreat

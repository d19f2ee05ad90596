/- What the functions answer, for every input. -/
import Derived.Test.YtelkcohhagblaaaGreatSe14
import Derived.Test.YtelkcohhagblaaaGreatSe08
import Derived.Test.YtelkcohhagblaaaGreatSe10
import Derived.Test.YtelkcohhagblaaaGreatSe04
set_option linter.unusedSimpArgs false
set_option linter.unusedVariables false
set_option linter.unnecessarySimpa false
namespace Go.Proofs.YtelkcohhagblaaaGreat
open Go.RowKit Go.Shelf
set_option maxHeartbeats 8000000
set_option maxRecDepth 100000
theorem sfollows1 (x:Itm) (id:Int) (XB:Nat) (w:World) (h:w.cell? ⟨XB,0,none⟩=some (.int .i64 id)) :
 Calls Tryz.prog 136 #[x.v,.pointer (some ⟨XB,0,none⟩)] w fun e w'=>e=.returned (.bool (x.id == id))∧Below w.heap.size w w':=by
 have z:=World.block_lt_of_cell? w _ h
 simp only at z
 simp only [Itm.v,Itm.cs]
 go_enter Tryz.func136,Tryz.ntmps136
 go_wp2
 exact Z4i
theorem lateB_pos {l:List Itm} {x:Itm} (h:0<l.length):lateB l x=decide (x.kn<(l.getD (l.length - 1) default).kn):=by
 unfold lateB
 rw [decide_eq_true h,Bool.true_and]
theorem sfollows_any (x:Itm) (a:Option Addr) (n cap:Nat) (l:List Itm) (w:World) (h:ItmsAt w a n cap l) (hCk:∀ w1,Calls Tryz.prog 26 #[x.v] w1 (EPost w1 (itemE x))) :
 Calls Tryz.prog 73 #[.slice a n cap,x.v] w (EPost w (refE l x)):=by
 have hsm:n≤140737488351232:=by rw [h.len];exact h.small
 have hR:refE l x=if 300≤n then 2 else if itemE x≠0 then 1 else if l.any (fun y=>y.id == x.id) then 6 else if lateB l x then 7 else ofE l x:=by
  rw [h.len]
  unfold refE itemE
  cases itemB x <;> rfl
 have hOf:=fun w1 (h1:ItmsAt w1 a n cap l) (hl:n≤1000)=>sof_any x a n cap l w1 h1 (by rw [← h1.len];exact hl)
 have hCF:=fun w1 (h1:ItmsAt w1 a n cap l) XB (hX:w1.cell? ⟨XB,0,none⟩=some (.int .i64 x.id)) =>
  conT_any 136 #[.pointer (some ⟨XB,0,none⟩)] (fun y=>y.id == x.id) a n cap l w1 h1 (enters_of Tryz.func136 Zk rfl)
   (fun y hy w2 hb2=>sfollows1 y x.id XB w2 (((bcell hb2).1 _ 0 (World.block_lt_of_cell? w1 _ hX)).trans hX))
 have hlt:=fun m (hp:n=m +1)=>(show lateB l x=decide (x.kn<(l.getD m default).kn) by
  have hl:l.length=m +1:=by rw [← h.len];exact hp
  rw [lateB_pos (by omega),hl]
  rfl)
 have hL0:n=0→lateB l x=false:=fun e=>by
  have hl:l.length=0:=by rw [← h.len];exact e
  unfold lateB;simp [hl]
 have hget:=fun (W:World) (hw:ItmsAt W a n cap l) m (hp:n=m +1)=>hw.get (show m<l.length by rw [← hw.len];omega)
 have HP:=Lib.hid (show ∀ v w',Below w.heap.size w w'→refE l x=v→EPost w (refE l x) (.returned (.int .i64 v)) w' from fun v w' h1 h2=>⟨by rw [h2],h1⟩)
 generalize EPost w (refE l x)=Post at *
 rw [hR] at HP
 clear hR
 unfold EPost at hCk hOf
 generalize itemE x=E at *
 generalize l.any (fun y=>y.id == x.id)=A at *
 generalize ofE l x=O at *
 generalize lateB l x=T at *
 simp only [Itm.v,Itm.cs] at hCk hOf ⊢
 have hB0:=one_alloc w (Obj.cells #[.int .i64 x.id,.int .i64 x.kn,.int .u8 x.kd,.string x.wa,.int .i64 x.pit,.int .i64 x.ly,.int .i64 x.co,.bool x.ft,.int .i64 x.sh,.int .i64 x.fr,.int .i64 x.tw,.int .i64 x.lo,.int .i64 x.hi,.string x.st,.int .i64 x.li,.int .i64 x.vo] 24)
 have hit:=h.below hB0
 clear h
 by_cases h3:300≤n
 ·have e1:decide ((300:Int)≤(n:Int))=true:=by simp;omega
  rw [if_pos h3] at HP
  clear hCk hOf hCF hlt hget hL0
  go_enter Tryz.func73,Tryz.ntmps73
  go_wp2_with fail
  exact HP.out _ _ hB0 rfl
 ·have e1:decide ((300:Int)≤(n:Int))=false:=by simp;omega
  rw [if_neg h3] at HP
  by_cases hE:E=0
  ·subst hE
   rw [if_neg (by simp)] at HP
   cases A with
   | true =>
     simp only [if_true] at HP
     clear hOf hlt hget hL0
     go_enter Tryz.func73,Tryz.ntmps73
     go_wp2_with (first
      | (go_at_call 26;(with_reducible refine (hCk _).mono ?_);rintro e w1 ⟨rfl,hb1⟩;obtain ⟨hc1,hf1⟩:=bcell hb1)
      | (go_at_call 135;(with_reducible refine (hCF _ (hit.below hb1) w.heap.size Z5b).mono ?_);rintro e w2 ⟨rfl,hb2⟩))
     exact HP.out _ _ ((hB0.ch2 hb1).ch2 hb2) rfl
   | false =>
     simp only [Bool.false_eq_true,if_false] at HP
     have hmk:=makeFuncS
     have HC:=Lib.hid hOf
     clear hOf
     go_enter Tryz.func73,Tryz.ntmps73
     go_wp2_with (first
      | (go_at_call 26;(with_reducible refine (hCk _).mono ?_);rintro e w1 ⟨rfl,hb1⟩;obtain ⟨hc1,hf1⟩:=bcell hb1)
      | (go_at_call 135;(with_reducible refine (hCF _ (hit.below hb1) w.heap.size Z5b).mono ?_);rintro e w2 ⟨rfl,hb2⟩))
     have hB2:=(hB0.ch2 hb1).ch2 hb2
     have c0:w2.cell? ⟨w.heap.size,0 +1,none⟩=some (.int .i64 x.kn):=by
      rw [(bcell hb2).1 _ _ (lt_size hb1 (by simp)),(bcell hb1).1 _ _ (by simp)]
      simp [go_sem]
     have hA2:=(hb2.block w.heap.size (lt_size hb1 (by simp))).trans ((hb1.block w.heap.size (by simp)).trans (World.alloc_heap_new w (Obj.cells #[.int .i64 x.id,.int .i64 x.kn,.int .u8 x.kd,.string x.wa,.int .i64 x.pit,.int .i64 x.ly,.int .i64 x.co,.bool x.ft,.int .i64 x.sh,.int .i64 x.fr,.int .i64 x.tw,.int .i64 x.lo,.int .i64 x.hi,.string x.st,.int .i64 x.li,.int .i64 x.vo] 24)))
     have z0:w.heap.size<w2.heap.size:=Nat.lt_of_lt_of_le (lt_size hb1 (by simp)) hb2.size
     have hi2:=(hit.below hb1).below hb2
     clear hb1 hb2 hit hCk hCF hc1 hf1
     cases n with
     | zero =>
       have hT:=hL0 rfl
       subst hT
       clear hlt hget hL0
       apply SLG.rule0 ?hm [] [18,19,20,21,22,23,24,25,26,27,28,29,30,31,32,17] [SLF.pq 18 [] _,SLF.pq 19 [0] _,SLF.pq 20 [1] _,SLF.pq 21 [2] _,SLF.pq 22 [3] _,SLF.pq 23 [3,4] _,SLF.pq 24 [3] _,SLF.pq 25 [3] _,SLF.pq 26 [3,7] _,SLF.pq 27 [3,8] _,SLF.pq 28 [3,6,9] _,SLF.pq 29 [3,10] _,SLF.pq 30 [3,11] _,SLF.pq 31 [3,5,12] _,SLF.pq 32 [3,13] _,SLF.pq 17 [14] _] [15] ?hck ?hkp (fun _=>[]) ?hin ?hdj ?hfr ?ob ?en1
       case hm=>kernel_rfl
       case hin=>exact SL.none_held rfl
       case hdj=>simp
       case hfr=>intro us;simp only [SL.frame,SL.put'];simp;exact rfl
       case ob =>
        refine ⟨?_,?_,?_,?_,?_,?_,?_,?_,?_,?_,?_,?_,?_,?_,?_,?_,trivial⟩
        all_goals first
         | (intro us w' Fe hG hu hd hv Kx hK
            try dsimp only
            simp [SL.O] at hu hK
            have hB5:Below w2.heap.size w2 w':=hG.below'
            exact Z7v)
         | skip
       case hck=>kernel_rfl
       case hkp=>kernel_rfl
       exact Zy
     | succ m =>
       have hT:=hlt m rfl
       obtain ⟨b,o,rfl,hbl,hcs⟩:=hget w2 hi2 m rfl
       have c1:=hcs.c1
       have hwr:IntKind.i64.wrap ((m:Int) +1 - 1)=m:=by rw [show (m:Int) +1 - 1=m by omega];exact IntWalk.i64_in _ (by omega)
       have i0:(0:Int)≤m:=by omega
       have i1:(m:Int)<(m:Int) +1:=by omega
       have i2:decide ((0:Int)<(m:Int) +1)=true:=by simp <;> omega
       generalize (l.getD m default).kn=kn at *
       clear hcs hlt hget hL0
       cases T with
       | true =>
         have i3:=hT.symm
         clear hT
         apply SLG.rule0 ?hm [] [18,19,20,21,22,23,24,25,26,27,28,29,30,31,32,17] [SLF.pq 18 [] _,SLF.pq 19 [0] _,SLF.pq 20 [1] _,SLF.pq 21 [2] _,SLF.pq 22 [3] _,SLF.pq 23 [3,4] _,SLF.pq 24 [3] _,SLF.pq 25 [3] _,SLF.pq 26 [3,7] _,SLF.pq 27 [3,8] _,SLF.pq 28 [3,6,9] _,SLF.pq 29 [3,10] _,SLF.pq 30 [3,11] _,SLF.pq 31 [3,5,12] _,SLF.pq 32 [3,13] _,SLF.pq 17 [14] _] [15] ?hck ?hkp (fun _=>[]) ?hin ?hdj ?hfr ?ob ?en2
         case hm=>kernel_rfl
         case hin=>exact SL.none_held rfl
         case hdj=>simp
         case hfr=>intro us;simp only [SL.frame,SL.put'];simp;exact rfl
         case ob =>
          exact Z6a
         case hck=>kernel_rfl
         case hkp=>kernel_rfl
         intro us w7 Fs hG hu hbd hd
         simp [SL.Used,SLF.pq] at hu
         obtain ⟨h33,_⟩:=hu
         rw [h33]
         have hB7:Below w2.heap.size w2 w7:=hG.below'
         have HB:=Lib.hid (hB2.ch2 hB7)
         clear hG hbd hd h33 hB7 hB2 hi2 hA2 c0
         go_wp2_with fail
         exact HP.out _ _ HB.out (by simp)
       | false =>
         have i3:=hT.symm
         clear hT
         apply SLG.rule0 ?hm [] [18,19,20,21,22,23,24,25,26,27,28,29,30,31,32,17] [SLF.pq 18 [] _,SLF.pq 19 [0] _,SLF.pq 20 [1] _,SLF.pq 21 [2] _,SLF.pq 22 [3] _,SLF.pq 23 [3,4] _,SLF.pq 24 [3] _,SLF.pq 25 [3] _,SLF.pq 26 [3,7] _,SLF.pq 27 [3,8] _,SLF.pq 28 [3,6,9] _,SLF.pq 29 [3,10] _,SLF.pq 30 [3,11] _,SLF.pq 31 [3,5,12] _,SLF.pq 32 [3,13] _,SLF.pq 17 [14] _] [15] ?hck ?hkp (fun _=>[]) ?hin ?hdj ?hfr ?ob ?en3
         case hm=>kernel_rfl
         case hin=>exact SL.none_held rfl
         case hdj=>simp
         case hfr=>intro us;simp only [SL.frame,SL.put'];simp;exact rfl
         case ob =>
          exact Z6a
         case hck=>kernel_rfl
         case hkp=>kernel_rfl
         exact Zy
  ·have e2:(E != 0)=true:=by simpa using hE
   rw [if_pos hE] at HP
   clear hOf hCF hlt hget hL0
   go_enter Tryz.func73,Tryz.ntmps73
   go_wp2_with (go_at_call 26;(with_reducible refine (hCk _).mono ?_);rintro e w1 ⟨rfl,hb1⟩)
   exact HP.out _ _ (hB0.ch2 hb1) rfl
end Go.Proofs.YtelkcohhagblaaaGreat

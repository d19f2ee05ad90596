/- What the functions answer, for every input. -/
import Derived.Test.YtelkcohhagblaaaGreatSe11
set_option linter.unusedSimpArgs false
set_option linter.unusedVariables false
set_option linter.unnecessarySimpa false
namespace Go.Proofs.YtelkcohhagblaaaGreat
open Go.RowKit Go.Shelf Go.Maps
set_option maxHeartbeats 8000000
set_option maxRecDepth 100000
attribute [local go_sem] Oper.semAt_some
theorem of_start2 {w w2:World} {cs:Array Value} {y:Itm} {a:Option Addr} {n cap:Nat} (hb2:Below ((w.alloc (Obj.cells cs 24)).alloc (Obj.cells #[.int .i64 0] 28)).heap.size ((w.alloc (Obj.cells cs 24)).alloc (Obj.cells #[.int .i64 0] 28)) w2) :
 OfI w (w.heap.size +1) w2.heap.size (w2.heap.size +1) (w2.heap.size +1 +1) 0 y 0 (.slice a n cap) (((w2.alloc (Obj.cells y.cs.toArray 24)).alloc (Obj.cells #[.int .i64 0] 3)).alloc (Obj.cells #[.slice a n cap] 22)):=by
 obtain ⟨q1,q2⟩:=of_err hb2
 have hO:=World.alloc_heap_new (w2.alloc (Obj.cells y.cs.toArray 24)) (Obj.cells #[.int .i64 0] 3)
 rw [World.size_alloc] at hO
 have hB:=World.alloc_heap_new ((w2.alloc (Obj.cells y.cs.toArray 24)).alloc (Obj.cells #[.int .i64 0] 3)) (Obj.cells #[.slice a n cap] 22)
 rw [World.size_alloc,World.size_alloc] at hB
 exact ⟨alKeep (alKeep (alKeep q1)),alKeep (alKeep (World.alloc_heap_new w2 _)),fun _=>alKeep hO,hB,((q2.ch2 (one_alloc _ _)).ch2 (one_alloc _ _)).ch2 (one_alloc _ _)⟩
theorem filter_snoc (pre:List Itm) (x:Itm) (id:Int):(((pre ++[x]).filter fun z=>z.sh == id).length:Int)=((pre.filter fun z=>z.sh == id).length:Int) +if x.sh=id then 1 else 0:=by
 rw [List.filter_append,List.length_append]
 by_cases h:x.sh=id <;> simp [h]
theorem sofM (id kn kd:Int) (wa:ByteArray) (pit ly co:Int) (ft:Bool) (sh fr tw lo hi:Int) (st:ByteArray) (li vo:Int) (hk:kd=2∨kd=3∨kd=4∨kd=5) (a:Option Addr) (n cap:Nat) (l:List Itm) (w:World) (h:ItmsAt w a n cap l) (hl:l.length≤1000) :
 Calls Tryz.prog 137 #[.slice a n cap,Itm.v ⟨id,kn,kd,wa,pit,ly,co,ft,sh,fr,tw,lo,hi,st,li,vo⟩] w (EPost w (ofE l ⟨id,kn,kd,wa,pit,ly,co,ft,sh,fr,tw,lo,hi,st,li,vo⟩)):=by
 obtain rfl:=h.len
 have hNm:=fun w1 (h:ItmsAt w1 a l.length cap l)=>snamed_any a l.length cap l sh w1 h hl
 unfold FindPost at hNm
 have hE:ofE l ⟨id,kn,kd,wa,pit,ly,co,ft,sh,fr,tw,lo,hi,st,li,vo⟩=match findI l sh with
  | none=>5
  | some y=>if y.kd≠1 then 5 else if kd=2∧y.co<tw∨kd=3∧y.co≤tw then 1 else if 150≤((standL l).filter fun z=>z.sh == y.id).length then 2 else 0:=by
  unfold ofE ownN
  rw [if_neg (by simp only;omega),if_pos (by unfold measB;simp;omega)]
  simp only
  cases findI l sh <;> rfl
 have HP:=Lib.hid (show ∀ v w',Below w.heap.size w w'→ofE l ⟨id,kn,kd,wa,pit,ly,co,ft,sh,fr,tw,lo,hi,st,li,vo⟩=v→EPost w (ofE l ⟨id,kn,kd,wa,pit,ly,co,ft,sh,fr,tw,lo,hi,st,li,vo⟩) (.returned (.int .i64 v)) w' from fun v w' h1 h2=>⟨by rw [h2],h1⟩)
 generalize EPost w (ofE l ⟨id,kn,kd,wa,pit,ly,co,ft,sh,fr,tw,lo,hi,st,li,vo⟩)=Post at *
 rw [hE] at HP
 clear hE
 generalize findI l sh=o at *
 have HS:=Lib.hid (fun BL=>sstands1 a l.length cap l BL hl)
 have HL:Hid ((standL l).length≤1000):=Lib.hid (Nat.le_trans (List.length_filter_le _ _) hl)
 generalize standL l=L at *
 cases o with
 | none =>
   simp only [Option.getD,Option.isSome,Itm.zero] at hNm HP
   simp only [Itm.v,Itm.cs] at hNm ⊢
   exact Z6q
 | some y =>
   simp only [Option.getD,Option.isSome] at hNm HP
   simp only [Itm.v,Itm.cs] at hNm ⊢
   by_cases hy:y.kd=1
   ·rw [if_neg (by simp [hy])] at HP
    have ey:(y.kd == 1)=true:=by simpa using hy
    have ey2:(y.kd != 1)=false:=by simpa using hy
    clear hy
    rcases hk with rfl | rfl | rfl | rfl
    ·by_cases hc:y.co<tw
     ·as_aux_lemma =>
      rw [if_pos (by simp [hc])] at HP
      have ec:decide (y.co<tw)=true:=by simpa using hc
      exact Z67
     ·as_aux_lemma =>
      rw [if_neg Zj] at HP
      have ec:decide (y.co<tw)=false:=by simpa using hc
      clear hc
      exact Z0
    ·by_cases hc:y.co≤tw
     ·as_aux_lemma =>
      rw [if_pos (by simp [hc])] at HP
      have ec:decide (y.co≤tw)=true:=by simpa using hc
      exact Z67
     ·as_aux_lemma =>
      rw [if_neg Zj] at HP
      have ec:decide (y.co≤tw)=false:=by simpa using hc
      clear hc
      exact Z0
    ·exact Z73
    ·exact Z73
   ·rw [if_pos hy] at HP
    have ey:(y.kd == 1)=false:=by simpa using hy
    have ey2:(y.kd != 1)=true:=by simpa using hy
    clear hy
    exact Z6q
theorem sof_any (x:Itm) (a:Option Addr) (n cap:Nat) (l:List Itm) (w:World) (h:ItmsAt w a n cap l) (hl:l.length≤1000) :
 Calls Tryz.prog 137 #[.slice a n cap,x.v] w (EPost w (ofE l x)):=by
 by_cases h7:x.kd=7
 ·exact sof7 x h7 a n cap l w h hl
 by_cases hk:x.kd=2∨x.kd=3∨x.kd=4∨x.kd=5
 ·obtain ⟨id,kn,kd,wa,pit,ly,co,ft,sh,fr,tw,lo,hi,st,li,vo⟩:=x
  exact sofM id kn kd wa pit ly co ft sh fr tw lo hi st li vo hk a n cap l w h hl
 ·have hE:ofE l x=0:=by
   unfold ofE
   rw [if_neg h7,if_neg (by unfold measB;simp;omega)]
  rw [hE]
  obtain ⟨id,kn,kd,wa,pit,ly,co,ft,sh,fr,tw,lo,hi,st,li,vo⟩:=x
  simp only at h7 hk
  have HP:=Lib.hid (show ∀ w',Below w.heap.size w w'→EPost w 0 (.returned (.int .i64 0)) w' from fun w' h1=>⟨rfl,h1⟩)
  generalize EPost w 0=Post at *
  have e7:(kd == 7)=false:=by simpa using h7
  have e2:(kd == 2)=false:=by simp;omega
  have e3:(kd == 3)=false:=by simp;omega
  have e4:(kd == 4)=false:=by simp;omega
  have e5:(kd == 5)=false:=by simp;omega
  clear hE hk h7
  simp only [Itm.v,Itm.cs]
  refine (callsIn_wide (n:=0)).1 (callsIn_of_wp_marks Tryz.func137 rfl trivial ?_)
  simp only [Tryz.ntmps137,List.size_toArray,List.length_cons,List.length_nil,Nat.reduceAdd,Nat.reduceSub,Array.replicate_succ,Array.replicate_zero,List.push_toArray,List.append_toArray,List.nil_append,List.cons_append]
  refine wpIn_wide.2 ?_
  go_wp2_with fail
  have hE:=World.alloc_heap_new (w.alloc (Obj.cells #[.int .i64 id,.int .i64 kn,.int .u8 kd,.string wa,.int .i64 pit,.int .i64 ly,.int .i64 co,.bool ft,.int .i64 sh,.int .i64 fr,.int .i64 tw,.int .i64 lo,.int .i64 hi,.string st,.int .i64 li,.int .i64 vo] 24)) (Obj.cells #[.int .i64 0] 28)
  rw [World.size_alloc] at hE
  exact of_leaves (E:=w.heap.size +1) (B:=w.heap.size +1 +1) rfl (by omega) (by omega) ⟨by simp,by simp⟩ hE ((one_alloc w _).ch2 (one_alloc _ _)) (fun W' hb=>HP.out W' hb)
end Go.Proofs.YtelkcohhagblaaaGreat

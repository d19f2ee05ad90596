/- What the functions answer, for every input. -/
import Derived.Test.YtelkcohhagblaaaGreatSe28
import Derived.Test.YtelkcohhagblaaaGreatSe24
import Derived.Test.YtelkcohhagblaaaGreatSe07
import Derived.Lib.IndexLaws
import Derived.Test.YtelkcohhagblaaaGreatSe27
import Derived.Test.YtelkcohhagblaaaGreatSe04
import Derived.Test.YtelkcohhagblaaaGreatSe05
import Derived.Test.YtelkcohhagblaaaGreatSe11
set_option linter.unusedSimpArgs false
set_option linter.unusedVariables false
set_option linter.unnecessarySimpa false
namespace Go.Proofs.YtelkcohhagblaaaGreat
open Go.RowKit Go.Shelf
set_option maxHeartbeats 8000000
set_option maxRecDepth 100000
theorem sspare_any (k:Nat) (caps:Array Value) (nd:List Itm→Bool) (a:Option Addr) (n cap:Nat) (xs:List Itm) (w:World) (hx:ItmsAt w a n cap xs) (hs:xs.length≤10000) (hent:∀ args w,(callFunc k args).run Tryz.prog w=.ok (.enter k args) w)
 (hf:∀ (m:List Itm) (a':Option Addr) (c':Nat) (w1:World),m.Sublist xs→Below w.heap.size w w1→ItmsAt w1 a' m.length c' m→m.length≤c'→Calls Tryz.prog k (#[.slice a' m.length c'] ++caps) w1 fun e w'=>e=.returned (.bool (nd m))∧Below w1.heap.size w1 w') :
 Calls Tryz.prog 101 #[.slice a n cap,.func (.func k) #[] caps] w (RowPost w 24 16 (spareL nd xs).length (ics (spareL nd xs))):=by
 obtain rfl:=hx.len
 have hw:=hx.wide
 have hcl0:=cloneT a xs.length cap xs w hx hs
 have HP:=Lib.hid (show ∀ v w',Below w.heap.size w w'→w'.ownsRow w.heap.size 24 16 v (spareL nd xs).length (ics (spareL nd xs))→RowPost w 24 16 (spareL nd xs).length (ics (spareL nd xs)) (.returned v) w' from fun v w' h1 h2=>⟨v,rfl,h1,h2⟩)
 generalize RowPost w 24 16 (spareL nd xs).length (ics (spareL nd xs))=Post at *
 have Hsp:Hid (spareK nd xs xs.length=spareL nd xs):=rfl
 generalize spareL nd xs=T at *
 have Hf:=Lib.hid hf
 clear hf hx
 go_enter Tryz.func101,Tryz.ntmps101
 go_wp2_with (go_at_call 75;(with_reducible refine hcl0.mono ?_);rintro e w1 ⟨v1,rfl,hb1,ho1⟩;obtain ⟨va,vc,rfl,_⟩:=owns_slice ho1)
 clear hcl0
 go_loopw [5,6] (fun r i wr=>∃ (K:Nat) (R:List Itm),K≤R.length∧i=.int .i64 ((K:Int) - 1)∧Hid (R.Sublist xs∧spareK nd R K=T)∧wr.ownsRow w.heap.size 24 16 r R.length (ics R)∧Below w.heap.size w wr) (fun _ i _=>(RowKit.intOf i +1).toNat)
 case atStart=>exact ⟨xs.length,xs,Nat.le_refl _,rfl,Lib.hid ⟨List.Sublist.refl _,Hsp.out⟩,ho1,hb1⟩
 case round =>
  clear ho1 hb1 Hsp
  obtain ⟨K,R,hK,rfl,hR,hown,hB⟩:=hrel
  obtain ⟨ra,rc,rfl,_⟩:=owns_slice hown
  have hRl:=hR.out.1.length_le
  cases K with
  | zero =>
    have h1:¬ (0:Int)≤((0:Nat):Int) - 1:=by omega
    have hT:R=T:=hR.out.2
    subst hT
    have HE:=Lib.hid (HP.out _ _ hB hown)
    clear hB hown hRl hK
    exact Z36
  | succ i =>
    have e1:(((i +1:Nat):Int) - 1)=(i:Int):=by omega
    rw [e1]
    clear e1
    have h1:(0:Int)≤(i:Int):=by omega
    have hwR:∀ x ∈ R,x.Wide:=fun x hx=>hw x (hR.out.1.subset hx)
    have hI:=ItmsAt.of_owns hown (by omega) hwR
    have hcl:=cloneT ra R.length rc R wr hI (by omega)
    have hdl:=fun v W (h:W.ownsRow wr.heap.size 24 16 v R.length (ics R))=>sDeleteT v wr.heap.size i R W h (by omega) (by omega)
    have HO:=Lib.hid hown
    have HB:=Lib.hid hB
    have hlE:(R.eraseIdx i).length≤10000:=by
     have:=(List.eraseIdx_sublist R i).length_le
     omega
    have hsE:=(List.eraseIdx_sublist R i).trans hR.out.1
    have HT:Hid (spareK nd (if nd (R.eraseIdx i) then R else R.eraseIdx i) i=T):=Lib.hid hR.out.2
    have hlI:i≤(R.eraseIdx i).length:=by rw [List.length_eraseIdx];split <;> omega
    have hnf:=fun a' c' w1 h2 h3 h4=>Hf.out (R.eraseIdx i) a' c' w1 hsE h2 h3 h4
    have hwE:∀ x ∈ R.eraseIdx i,x.Wide:=fun x hx=>hwR x ((List.eraseIdx_sublist R i).subset hx)
    have hzw:=hB.size
    clear hI hown hB
    generalize R.eraseIdx i=E at *
    go_wp2_with (first
     | (go_at_call 75;(with_reducible refine hcl.mono ?_);rintro e w2 ⟨v2,rfl,hb2,ho2⟩)
     | (go_at_call 167;(with_reducible refine (hdl _ _ ho2).mono ?_);rintro e w3 ⟨v3,rfl,ho3,hc3,hv3⟩;obtain ⟨a3,c3,rfl,_⟩:=owns_slice ho3))
    have hb3:Below wr.heap.size wr w3:=hb2.trans (hc3.belowE_w hb2.size fun k hk=>(SL.row_bounds ho2 k hk).1)
    have hI3:=ItmsAt.of_owns ho3 (by omega) hwE
    have hB3:=HB.out.ch2 hb3
    have hc:E.length≤c3:=by
     obtain ⟨_,⟨h0,h00⟩ | ⟨g,c,cur,hv,_,_,hnc,_⟩⟩:=ho3
     ·omega
     ·exact Z79
    have hcall:=hnf a3 c3 w3 hB3 hI3 hc
    have hown3:=SL.row_base ho3 hzw
    have hOR:=HO.out.up hb3 (Nat.le_refl _)
    clear hI3 hdl hcl hnf ho2 ho3 hc3 hb2 hb3 hc
    cases hv:nd E with
    | true =>
      rw [hv] at hcall HT
      simp only [if_true] at HT
      clear hv
      refine hcall.mono ?_
      rintro e w4 ⟨rfl,hb4⟩
      have hB4:=hB3.ch2 hb4
      have hO4:=hOR.up hb4 (Nat.le_refl _)
      clear hOR hown3 hB3 hb4
      go_wp2_with fail
      go_roundw
      case rel=>exact ⟨i,R,by omega,rfl,Lib.hid ⟨hR.out.1,HT.out⟩,hO4,hB4⟩
      case measure=>simp [RowKit.intOf]
    | false =>
      rw [hv] at hcall HT
      simp only [Bool.false_eq_true,if_false] at HT
      clear hv
      refine hcall.mono ?_
      rintro e w4 ⟨rfl,hb4⟩
      have hB4:=hB3.ch2 hb4
      have hO4:=hown3.up hb4 (Nat.le_refl _)
      clear hOR hown3 hB3 hb4
      go_wp2_with fail
      go_roundw
      case rel=>exact ⟨i,E,hlI,rfl,Lib.hid ⟨hsE,HT.out⟩,hO4,hB4⟩
      case measure=>simp [RowKit.intOf]
theorem idxByte (l:List UInt8) (c:UInt8):decide (0≤Lib.indexByte l c)=l.contains c:=by
 have hge:=Lib.indexByte_ge l c
 by_cases h:0≤Lib.indexByte l c
 ·obtain ⟨o,ho⟩:∃ o:Nat,Lib.indexByte l c=o:=⟨(Lib.indexByte l c).toNat,by omega⟩
  have h1:=(Lib.indexByte_some ho).1
  have h2:c ∈ l:=by
   obtain ⟨hlt,he⟩:=List.getElem?_eq_some_iff.1 h1
   rw [← he]
   exact List.getElem_mem _
  simp [h,h2]
 ·have h1:=Lib.indexByte_none (show Lib.indexByte l c= -1 by omega)
  have h2:c ∉ l:=fun hm=>by
   obtain ⟨k,hk,he⟩:=List.getElem_of_mem hm
   exact h1 k (by rw [List.getElem?_eq_getElem hk,he])
  simp [h,h2]
theorem scommon1 (c:UInt8) (st:ByteArray) (B:Nat) (w:World) (h:w.cell? ⟨B,0,none⟩=some (.string st)) :
 Calls Tryz.prog 161 #[.int .u8 c.toNat,.pointer (some ⟨B,0,none⟩)] w fun e w'=>e=.returned (.bool (!st.data.toList.contains c))∧Below w.heap.size w w':=by
 have hC:∀ w1,Calls Tryz.prog 162 #[.string st,.string ⟨#[c]⟩] w1 fun e w'=>e=.returned (.bool (st.data.toList.contains c))∧w'=w1:=fun w1=>by
  have:=Any.strings_Contains_one Tryz.strContA st c w1
  rw [idxByte] at this
  exact this
 generalize st.data.toList.contains c=T at *
 have hal:=one_alloc w (Obj.cells #[.int .u8 c.toNat] 5)
 have hb:=World.alloc_heap_new w (Obj.cells #[.int .u8 c.toNat] 5)
 have z:=World.block_lt_of_cell? w _ h
 simp only at z
 have kb:=run_convert_bytes_back (P:=Tryz.prog) (w.alloc (Obj.cells #[.int .u8 c.toNat] 5)) 84 9 5 ⟨w.heap.size,0,none⟩ 1 [c] Tryz.underlying84 Tryz.underlying5 Tryz.underlying9 (fun j hj=>by
  have hj0:j=0:=by simpa using hj
  subst hj0
  rw [Addr.add_lit]
  exact (SL.cells_of hb).1 0)
 simp only [List.length_cons,List.length_nil,Nat.zero_add] at kb
 clear hb
 go_enter Tryz.func161,Tryz.ntmps161
 go_wp2_with (go_at_call 162;(with_reducible refine (hC _).mono ?_);rintro e w1 ⟨rfl,rfl⟩)
 go_ret
 exact ⟨rfl,hal⟩
/-- A slice of strings. -/
structure StrsAt (w:World) (a:Option Addr) (n cap:Nat) (xs:List ByteArray):Prop where
 len:n=xs.length
 row:RowAt w a cap (xs.map Value.string)
theorem StrsAt.below {w w':World} {a:Option Addr} {n cap:Nat} {xs:List ByteArray} (h:StrsAt w a n cap xs) (hb:Below w.heap.size w w'):StrsAt w' a n cap xs:=⟨h.len,h.row.below hb⟩
theorem StrsAt.get {w:World} {a:Option Addr} {n cap:Nat} {xs:List ByteArray} (h:StrsAt w a n cap xs) {i:Nat} (hi:i<xs.length):∃ b off,a=some ⟨b,off,none⟩∧b<w.heap.size∧w.cell? ⟨b,off +i,none⟩=some (.string (xs.getD i ⟨#[]⟩)) :=
 h.row.cell Z2e
def comK (xs:List ByteArray) (k:Nat):List UInt8:=letC.filter fun c=>(xs.take k).all fun s=>s.data.toList.contains c
theorem comK_all (xs:List ByteArray):comK xs xs.length=comC (xs.map fun s=>s.data.toList):=by
 unfold comK comC
 rw [List.take_length]
 congr 1
 funext c
 rw [List.all_map]
 rfl
theorem comK_succ {xs:List ByteArray} {k:Nat} (h:k<xs.length):comK xs (k +1)=(comK xs k).filter fun c=>!(!(xs.getD k ⟨#[]⟩).data.toList.contains c):=by
 unfold comK
 rw [List.filter_filter]
 congr 1
 funext c
 rw [List.take_succ_eq_append_getElem h,List.all_append,List.getD_eq_getElem?_getD,List.getElem?_eq_getElem h,Bool.and_comm]
 simp
theorem scommon_any (a:Option Addr) (n cap:Nat) (xs:List ByteArray) (w:World) (hx:StrsAt w a n cap xs) (hs:xs.length≤10000) :
 Calls Tryz.prog 91 #[.slice a n cap] w fun e w'=>e=.returned (.string ⟨(comC (xs.map fun s=>s.data.toList)).toArray⟩)∧Below w.heap.size w w':=by
 obtain rfl:=hx.len
 have kc:=fun (w:World) (C:Array Value) (n c:Nat)=>Lib.run_convert_bytes_const (P:=Tryz.prog) w 84 5 C n c Tryz.underlying84 Tryz.underlying5
 have hY0:YAt (w.alloc (.cells (bys letC).toArray 5 (26,27))) w.heap.size (comK xs 0):=by
  refine ⟨[],?_,?_⟩
  ·simp [comK,letC]
  ·rw [World.alloc_heap_new]
   have e:comK xs 0=letC:=by unfold comK;rw [List.filter_eq_self];intro c _;rfl
   rw [e,List.append_nil]
 have hB0:=one_alloc w (.cells (bys letC).toArray 5 (26,27))
 have hl0:(comK xs 0).length=26:=by simp [comK,letC]
 have HP:=Lib.hid (show ∀ w',Below w.heap.size w w'→(fun e w'=>e=Ending.returned (.string ⟨(comC (xs.map fun s=>s.data.toList)).toArray⟩)∧Below w.heap.size w w':Ending→World→Prop) (.returned (.string ⟨(comK xs xs.length).toArray⟩)) w' from fun w' h=>⟨by rw [comK_all],h⟩)
 generalize (fun e w'=>e=Ending.returned (.string ⟨(comC (xs.map fun s=>s.data.toList)).toArray⟩)∧Below w.heap.size w w':Ending→World→Prop)=Post at *
 simp only [bys,letC,List.map_cons,List.map_nil] at hY0 hB0
 go_enter Tryz.func91,Tryz.ntmps91
 go_wp2_with fail
 go_loopw [3,10] (fun r i wr=>∃ (k:Nat),k≤xs.length∧i=.int .i64 k∧r=.slice (some ⟨w.heap.size,0,none⟩) (comK xs k).length 26∧YAt wr w.heap.size (comK xs k)∧Below w.heap.size w wr) (fun _ i _=>xs.length - (RowKit.intOf i).toNat)
 case atStart=>exact ⟨0,Nat.zero_le _,rfl,by rw [hl0],hY0,hB0⟩
 case round =>
  clear hY0 hB0 hl0
  obtain ⟨k,hk,rfl,rfl,hY,hB⟩:=hrel
  have hnn:(0:Int)≤k:=by omega
  have hGz:=hY.lt.1
  by_cases hlt:k<xs.length
  ·have i1:(k:Int)<(xs.length:Int):=by omega
   obtain ⟨b,o,rfl,hb,d0⟩:=(hx.below hB).get hlt
   have Hs:=Lib.hid (comK_succ hlt)
   generalize xs.getD k ⟨#[]⟩=st at *
   have hal:=one_alloc wr (Obj.cells #[.string st] 9)
   have hX:=World.alloc_heap_new wr (Obj.cells #[.string st] 9)
   have hcall:=sDelY 161 #[.pointer (some ⟨wr.heap.size,0,none⟩)] (fun c=>!st.data.toList.contains c) w.heap.size (comK xs k) (wr.alloc (Obj.cells #[.string st] 9)) (hY.up hal) (enters_of Tryz.func161 Zk rfl) (fun x _ w1 hc=>scommon1 x st wr.heap.size w1 (by
    have h1:=(hc.block wr.heap.size (by simp) Zj).trans hX
    exact (SL.cells_of h1).1 0))
   rw [← Hs.out] at hcall
   have HB:=Lib.hid hB
   clear hY hB hX
   generalize (comK xs k).length=m at *
   generalize hcc:comK xs (k +1)=cc at *
   have Hcc:=Lib.hid hcc
   clear hcc
   go_wp2_with (go_at_call 160;(with_reducible refine hcall.mono ?_);rintro e w2 ⟨rfl,hY2,hC2⟩)
   have hB2:=(HB.out.ch2 hal).trans (hC2.belowE_w (B:=w.heap.size) (by have:=HB.out.size;simp;omega) (by simp))
   clear hcall hal hC2
   go_wp2_with fail
   go_roundw
   case rel=>exact ⟨k +1,by omega,by go_num,by rw [Hcc.out],by rw [Hcc.out];exact hY2,hB2⟩
   case measure=>simp [RowKit.intOf];omega
  ·have hk2:k=xs.length:=by omega
   have i1:¬ (k:Int)<(xs.length:Int):=by omega
   have HE:=Lib.hid (HP.out _ hB)
   rw [← hk2] at HE
   generalize hcc:comK xs k=cc at *
   clear hcc
   have kb:=run_convert_bytes_back (P:=Tryz.prog) wr 84 9 5 ⟨w.heap.size,0,none⟩ 26 cc Tryz.underlying84 Tryz.underlying5 Tryz.underlying9 (fun j hj=>by
    rw [Addr.add_lit,Nat.zero_add,hY.cell hj]
    simp [List.getD_eq_getElem?_getD,List.getElem?_eq_getElem hj])
   clear hY hB hk2
   exact Z36
attribute [local go_sem] Oper.semAt_some

/-- What has been collected. -/
structure ColT (w:World) (pre:List Itm) (W:World):Prop where
 box:∃ v,W.heap[w.heap.size]?=some (.cells #[v] 22 (0,0))∧W.ownsRow (w.heap.size +1) 24 16 v pre.length (ics pre)
 below:Below w.heap.size w W
theorem keeps_cellsT {B:Nat} {E:List Nat} {W W':World} (h:SL.Chg E W W') (hE:∀ k ∈ E,k<B∨∃ cs t f,W.heap[k]?=some (Obj.cells cs t f)):KeepsFrom B W W':=by
 refine ⟨h.size,fun k o hk ho hn=>(h.block k (Array.getElem?_eq_some_iff.1 ho).1 (fun hm=>?_)).trans ho⟩
 rcases hE k hm with h1 | ⟨cs,t,f,h1⟩
 ·omega
 ·rw [ho] at h1;cases h1;cases hn
theorem row_cellsT {w:World} {base:Nat} {t:TypeId} {size n:Nat} {v:Value} {xs:List Value} (h:w.ownsRow base t size v n xs):∀ k ∈ v.ownBlock.toList,∃ cs t f,w.heap[k]?=some (Obj.cells cs t f):=by
 obtain ⟨hl,⟨hv,hn⟩ | ⟨g,cap',cur,hv,hbg,hg,hr⟩⟩:=h
 ·subst hv;simp [Value.ownBlock]
 ·subst hv;intro k hk;simp [Value.ownBlock] at hk;subst hk;exact ⟨_,_,_,hg⟩
theorem sAppendSeqT (gf:Nat) (lb:Array Value) (C:World→Prop) (xs:List Itm) (w:World) (hit:IterAt Tryz.prog gf lb C Itm.v xs) (hent:∀ args w,(callFunc gf args).run Tryz.prog w=.ok (.enter gf args) w) (hC:∀ W,Below w.heap.size w W→C W) (hl:xs.length≤10000) :
 Calls Tryz.prog 164 #[.slice none 0 0,.func (.func gf) #[] lb] w (RowPost w 24 16 xs.length (ics xs)):=by
 refine (callsIn_wide (n:=0)).1 (callsIn_of_wp_marks Tryz.func164 rfl trivial ?_)
 simp only [Tryz.ntmps164,List.size_toArray,List.length_cons,List.length_nil,Nat.reduceAdd,Nat.reduceSub,Array.replicate_succ,Array.replicate_zero,List.push_toArray,List.append_toArray,List.nil_append,List.cons_append]
 refine wpIn_wide.2 ?_
 go_wp2_with fail
 generalize hW0:w.alloc (Obj.cells #[.slice none 0 0] 22)=W0
 have hB0:Below w.heap.size w W0:=by rw [← hW0];exact one_alloc _ _
 have hz0:W0.heap.size=w.heap.size +1:=by rw [← hW0];simp
 have hI00:ColT w [] W0:=⟨⟨.slice none 0 0,by rw [← hW0];exact World.alloc_heap_new _ _,World.ownsRow_nil _ _ _ _⟩,hB0⟩
 have hIo:OwnFrom W0.heap.size (ColT w):=by
  rintro pre W1 W2 row ⟨⟨v,h1,h2⟩,h3⟩ hg hr
  have hk:=KeepC_w.of_grown hg fun r e=>(hr r e).2
  exact ⟨⟨v,hk.cells _ _ _ _ h1,row_keepC_w h2 hk⟩,h3.grown hg h3.size fun r e=>by have:=(hr r e).1;omega⟩
 clear hW0
 refine range_iter' (gf:=gf) (lb:=lb) Z2a hent hit
  (fun pre W=>ColT w pre W∧pre.length≤10000)
  (fun _ _ _=>False)
  ?_ ?_ ?_ ⟨hI00,by simp⟩ [5,7] (fun x us W=>∃ b,us 5=.pointer (some ⟨b,0,none⟩)∧W.heap[b]?=some (.cells x.cs.toArray 24 (0,0))∧W0.heap.size≤b) ?_ ?_ ?_ ?_ ?_
 ·rintro pre W1 W2 row ⟨h1,h2⟩ hg hr
  exact ⟨hIo pre W1 W2 row h1 hg hr,h2⟩
 ·exact Z29
 ·rintro s W ⟨h1,h2⟩
  exact hC _ h1.below
 ·exact Zl
 ·rintro lid pre x post W1 K he ⟨hN,hp⟩ hK
  have hw:W0.heap.size≤W1.heap.size:=by
   obtain ⟨⟨v,h1,_⟩,_⟩:=hN
   have:=(Array.getElem?_eq_some_iff.1 h1).1
   omega
  have hK2:=hK
  have Hp:=Lib.hid hp
  clear hK hp
  simp only [Itm.v,Itm.cs]
  have HK:=Lib.hid hK2
  clear hK2
  gi_wp2_with fail
  refine HK.out _ _ ?_ ?_ ?_ ?_ ?_
  ·exact Z11
  ·obtain ⟨⟨v,h1,h2⟩,h3⟩:=hN
   exact ⟨⟨⟨v,alKeep h1,h2.up (one_alloc _ _) (Nat.le_refl _)⟩,h3.ch2 (one_alloc _ _)⟩,Hp.out⟩
  ·rfl
  ·rfl
  ·exact Z1b
 ·rintro lid pre x post us W1 hl' he ⟨⟨⟨v,hbx,hrow⟩,hbe⟩,hp⟩ ⟨b,h6,hb,hbz⟩
  have hpl:(pre ++[x]).length≤10000:=by
   exact Z4l
  have Hpl:=Lib.hid hpl
  have hpn:pre.length≤10000:=hp
  simp only [frame'_w,SL.put',List.toList_toArray,List.contains_cons,List.contains_nil,Nat.reduceAdd,Nat.reduceBEq,Bool.or_false,Bool.or_true,Bool.false_or,Bool.true_or,if_true,Bool.false_eq_true,if_false,h6]
  simp only [Itm.cs] at hb
  obtain ⟨⟨d0,d1,d2,d3,d4,d5,d6,d7,d8,d9,d10,d11,d12,d13,d14,d15⟩,hfz,hbl⟩:=ItmCells.of_heap hb
  have c0:=(SL.cells_of hbx).1 0
  simp at c0
  have zb:w.heap.size<W1.heap.size:=(Array.getElem?_eq_some_iff.1 hbx).1
  have hbr:=SL.row_bounds hrow
  have hcl:=row_cellsT hrow
  obtain ⟨va,vc,rfl,_⟩:=owns_slice hrow
  have hal:=one_alloc W1 (Obj.cells #[.int .i64 x.id,.int .i64 x.kn,.int .u8 x.kd,.string x.wa,.int .i64 x.pit,.int .i64 x.ly,.int .i64 x.co,.bool x.ft,.int .i64 x.sh,.int .i64 x.fr,.int .i64 x.tw,.int .i64 x.lo,.int .i64 x.hi,.string x.st,.int .i64 x.li,.int .i64 x.vo] 24)
  have hic:=ics_append pre [x]
  rw [ics_one1] at hic
  have Hic:=Lib.hid hic
  clear hic he hp hpl hit hC hI00 hIo
  refine wpIn_block ?_
  gi_wp2_with (gi_at_builtin;refine wpListIn_app elemT rfl _ _ rfl (hrow.up hal (Nat.le_refl _)) rfl rfl (RowAt.of_heap (World.alloc_heap_new W1 _)) (by rfl) (fun u hu=>ics_one [x] u Z3w) Z1s (by omega) Zj ?_)
  intro v' w6 ho hg hb6 _ hat
  obtain ⟨sa,sc,rfl,_⟩:=owns_slice ho
  have hG6:SL.Chg ((Value.slice va pre.length vc).ownBlock.toList) W1 w6:=(SL.Chg.of_below hal).trans (.of_own hg (fun k hk=>by simp [hk]))
  have k6:=(hG6.block w.heap.size zb (fun h=>by have:=hbr _ h;omega)).trans hbx
  have f6:=(SL.cells_of k6).2
  have y6:=(SL.cells_of k6).1 0
  simp at y6
  have z6:w.heap.size<w6.heap.size:=(Array.getElem?_eq_some_iff.1 k6).1
  have HO:=Lib.hid ho
  clear ho c0 d0 d1 d2 d3 d4 d5 d6 d7 d8 d9 d10 d11 d12 d13 d14 d15
  gi_wp2
  refine ⟨keeps_cellsT (E:=w.heap.size::(Value.slice va pre.length vc).ownBlock.toList) ((hG6.monoW (fun k hk=>List.mem_cons_of_mem _ hk)).trans (.setCell _ (by simp) _)) (fun y hy=>?_),⟨⟨.slice sa (pre.length +1) sc,?_,?_⟩,?_⟩,Hpl.out⟩
  ·exact Z45
  ·exact one_set k6 _
  ·exact Z26
  ·exact Z3u
 ·rintro D W2 hD2 ⟨⟨⟨v,hbx,hrow⟩,hbe⟩,hp⟩ hdef
  obtain ⟨va,vc,rfl,_⟩:=owns_slice hrow
  have c0:=(SL.cells_of hbx).1 0
  simp at c0
  have HO:=Lib.hid hrow
  clear hI00 hIo hit hC hrow hbx
  go_wp2_with fail
  refine leaves_marks_w (B:=W0.heap.size) (by simp) (fun W=>Below w.heap.size w W∧W.ownsRow (w.heap.size +1) 24 16 (.slice va xs.length vc) xs.length (ics xs)) ?_ ?_ _ W2 ⟨by simp;exact ⟨hD2,hdef⟩,by simp⟩ ⟨hbe,HO.out⟩
  ·exact Z28
  ·rintro W3 ⟨a1,a2⟩
   exact ⟨_,by simp [results,Tryz.results164],_,rfl,a1,SL.row_base a2 (by omega)⟩
 ·exact Z19
theorem sCollectT (gf:Nat) (lb:Array Value) (C:World→Prop) (xs:List Itm) (w:World) (hit:IterAt Tryz.prog gf lb C Itm.v xs) (hent:∀ args w,(callFunc gf args).run Tryz.prog w=.ok (.enter gf args) w) (hC:∀ W,Below w.heap.size w W→C W) (hl:xs.length≤10000) :
 Calls Tryz.prog 98 #[.func (.func gf) #[] lb] w (RowPost w 24 16 xs.length (ics xs)):=by
 have hA:=sAppendSeqT gf lb C xs w hit hent hC hl
 obtain ⟨Q,hQ⟩:∃ Q,RowPost w 24 16 xs.length (ics xs)=Q:=⟨_,rfl⟩
 rw [hQ] at hA ⊢
 have HQ:=Lib.hid hQ
 clear hQ hC hit hent
 go_enter Tryz.func98,Tryz.ntmps98
 go_wp2_with (go_at_call 164;(with_reducible refine hA.mono ?_);rintro e w2 hq;rw [← HQ.out] at hq;obtain ⟨v,rfl,hb,ho⟩:=hq)
 rw [← HQ.out]
 exact ⟨v,rfl,hb,ho⟩
end Go.Proofs.YtelkcohhagblaaaGreat

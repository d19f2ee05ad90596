/- What the functions answer, for every input. -/
import Derived.Test.YtelkcohhagblaaaGreatSe27
import Derived.Test.YtelkcohhagblaaaGreatSe24
import Derived.Test.YtelkcohhagblaaaGreatSe08
import Derived.Lib.SlBytesConst
import Derived.Laws.IdiomStrings
set_option linter.unusedSimpArgs false
set_option linter.unusedVariables false
set_option linter.unnecessarySimpa false
namespace Go.Proofs.YtelkcohhagblaaaGreat
open Go.RowKit Go.Shelf
set_option maxHeartbeats 8000000
set_option maxRecDepth 100000
theorem sunique_any (a:Option Addr) (n cap:Nat) (xs:List Int) (w:World) (hx:IntsAt w a n cap xs) (hs:xs.length≤100000) :
 Calls Tryz.prog 107 #[.slice a n cap] w (RowPost w 3 1 (ascOf xs).length ((ascOf xs).map (.int .i64))):=by
 have hC:=cloneI a n cap xs w hx (by omega)
 have hS:=fun v w1 (ho:w1.ownsRow w.heap.size 3 1 v xs.length (xs.map (.int .i64)))=>sortI v xs.length w.heap.size xs w1 ho (by omega)
 have hl:(xs.mergeSort fun x y=>decide (x≤y)).length=xs.length:=sort_len xs
 have hK:=fun v w1 (ho:w1.ownsRow w.heap.size 3 1 v xs.length ((xs.mergeSort fun x y=>decide (x≤y)).map (.int .i64)))=>compactI v xs.length w.heap.size (xs.mergeSort fun x y=>decide (x≤y)) w1 ho (by omega)
 simp only [compact_sorted] at hK
 have HP:=Lib.hid (show ∀ v w',Below w.heap.size w w'→w'.ownsRow w.heap.size 3 1 v (ascOf xs).length ((ascOf xs).map (.int .i64))→RowPost w 3 1 (ascOf xs).length ((ascOf xs).map (.int .i64)) (.returned v) w' from fun v w' h1 h2=>⟨v,rfl,h1,h2⟩)
 generalize RowPost w 3 1 (ascOf xs).length ((ascOf xs).map (.int .i64))=Post at *
 generalize ascOf xs=A at *
 generalize (xs.mergeSort fun x y=>decide (x≤y))=M at *
 have HS:=Lib.hid hS
 have HK:=Lib.hid hK
 clear hS hK hl hx
 go_enter Tryz.func107,Tryz.ntmps107
 go_wp2_with (first
  | (go_at_call 169;(with_reducible refine hC.mono ?_);rintro e w1 ⟨v,rfl,hb1,ho1⟩;have h2:=HS.out v w1 ho1;have hbd:=fun k hk=>SL.row_bounds ho1 k hk)
  | (go_at_call 170;(with_reducible refine h2.mono ?_);rintro e w2 ⟨rfl,ho2,hc2⟩;have h3:=HK.out v w2 ho2)
  | (go_at_call 171;(with_reducible refine h3.mono ?_);rintro e w3 ⟨v3,rfl,ho3,hc3,_⟩))
 exact HP.out _ _ ((hb1.trans (hc2.belowE_w hb1.size (fun k hk=>(hbd k hk).1))).trans (hc3.belowE_w (Nat.le_trans hb1.size hc2.size) (fun k hk=>(hbd k hk).1))) ho3
theorem sids_any (a:Option Addr) (n cap:Nat) (l:List Itm) (w:World) (h:ItmsAt w a n cap l) (hs:l.length≤10000) :
 Calls Tryz.prog 103 #[.slice a n cap] w (RowPost w 3 1 (idsI l).length ((idsI l).map (.int .i64))):=by
 obtain rfl:=h.len
 have hU:=fun w1 a n cap (hx:IntsAt w1 a n cap (l.map (·.id)))=>sunique_any a n cap (l.map (·.id)) w1 hx Zj
 have HP:=Lib.hid (show ∀ v w',Below w.heap.size w w'→w'.ownsRow w.heap.size 3 1 v (idsI l).length ((idsI l).map (.int .i64))→RowPost w 3 1 (idsI l).length ((idsI l).map (.int .i64)) (.returned v) w' from fun v w' h1 h2=>⟨v,rfl,h1,h2⟩)
 change ∀ w1 a n cap,IntsAt w1 a n cap (l.map (·.id))→Calls Tryz.prog _ _ w1 (RowPost w1 3 1 (idsI l).length ((idsI l).map (.int .i64))) at hU
 generalize RowPost w 3 1 (idsI l).length ((idsI l).map (.int .i64))=Post at *
 generalize idsI l=A at *
 have HU:=Lib.hid hU
 clear hU
 go_enter Tryz.func103,Tryz.ntmps103
 go_wp2_with fail
 go_loopw [3,8] (fun v i wr=>∃ k:Nat,k≤l.length∧i=.int .i64 k∧Below w.heap.size w wr∧wr.ownsRow w.heap.size 3 1 v k (((l.take k).map (·.id)).map (.int .i64))) (fun _ i _=>l.length - (RowKit.intOf i).toNat)
 case atStart=>exact ⟨0,Nat.zero_le _,rfl,Below.refl _ _,World.ownsRow_nil _ _ _ _⟩
 case round =>
  obtain ⟨k,hk,rfl,hB,hown⟩:=hrel
  have hnn:(0:Int)≤k:=by omega
  by_cases hlt:k<l.length
  ·have i1:(k:Int)<(l.length:Int):=by omega
   obtain ⟨b,o,rfl,hbl,hdc⟩:=(h.below hB).get hlt
   have Hsu:Hid (((l.take (k +1)).map (·.id)).map (Value.int .i64)=((l.take k).map (·.id)).map (Value.int .i64) ++[.int .i64 (l.getD k default).id]):=Lib.hid (by
    rw [List.take_succ_eq_append_getElem hlt,List.getD_eq_getElem?_getD,List.getElem?_eq_getElem hlt,List.map_append,List.map_append]
    rfl)
   generalize l.getD k default=x at *
   generalize ((l.take k).map (·.id)).map (Value.int .i64)=V at *
   have hal:=one_alloc wr (Obj.cells #[.int .i64 x.id,.int .i64 x.kn,.int .u8 x.kd,.string x.wa,.int .i64 x.pit,.int .i64 x.ly,.int .i64 x.co,.bool x.ft,.int .i64 x.sh,.int .i64 x.fr,.int .i64 x.tw,.int .i64 x.lo,.int .i64 x.hi,.string x.st,.int .i64 x.li,.int .i64 x.vo] 24)
   have hown2:=hown.up hal (Nat.le_refl _)
   have hB2:=hB.ch2 hal
   have HO:=Lib.hid hown
   obtain ⟨va,vc,rfl,_⟩:=owns_slice hown
   have hsl:=World.alloc_heap_new (wr.alloc (Obj.cells #[.int .i64 x.id,.int .i64 x.kn,.int .u8 x.kd,.string x.wa,.int .i64 x.pit,.int .i64 x.ly,.int .i64 x.co,.bool x.ft,.int .i64 x.sh,.int .i64 x.fr,.int .i64 x.tw,.int .i64 x.lo,.int .i64 x.hi,.string x.st,.int .i64 x.li,.int .i64 x.vo] 24)) (Obj.cells #[.int .i64 x.id] 3)
   rw [World.size_alloc] at hsl
   have Hsl:=Lib.hid hsl
   clear hown hB hsl
   go_wp2_with (first
    | (refine wpList_loadI rfl _ rfl rfl hdc ?_)
    | (refine wpList_storeI_new rfl _ _ rfl rfl rfl rfl ?_)
    | (at_builtin;refine wpList_app elemI rfl _ _ rfl (hown2.up ((Below.refl _ _).alloc (Nat.le_refl _) (Obj.cells #[.int .i64 x.id] 3)) (Nat.le_refl _)) rfl rfl (RowAt.of_heap Hsl.out) (by simp) (ones_int [x.id]) Z1s (by omega) (Nat.le_trans hB2.size (by simp)) ?_))
   intro v' w6 ho hg hb6 _ hat
   have hBn:=(hB2.ch2 (one_alloc _ (Obj.cells #[.int .i64 x.id] 3))).trans hb6
   have HO6:=Lib.hid ho
   have HBn:=Lib.hid hBn
   clear ho hg hb6 hat hBn
   go_wp2_with fail
   go_roundw
   case rel=>exact ⟨k +1,by omega,by go_num,HBn.out,by rw [Hsu.out];exact HO6.out⟩
   case measure=>simp [RowKit.intOf];omega
  ·have hk2:k=l.length:=by omega
   subst hk2
   rw [List.take_length] at hown
   obtain ⟨va,vc,rfl,_⟩:=owns_slice hown
   have hU:=HU.out wr va l.length vc (IntsAt.of_owns hown Zj) 
   have HB:=Lib.hid hB
   have HR:=Lib.hid hown
   clear hown hB
   go_wp2_with (go_at_call 107;(with_reducible refine hU.mono ?_);rintro e w2 ⟨v,rfl,hb2,ho2⟩)
   exact HP.out _ _ (HB.out.ch2 hb2) (SL.row_base ho2 HB.out.size)
theorem del_cells (xs:List Itm) {i:Nat} (hi:i<xs.length):(setsAt (ics xs) (i * 16) (ics (xs.drop (i +1)))).take ((xs.length - 1) * 16)=ics (xs.eraseIdx i):=by
 have e1:ics xs=ics (xs.take i) ++(ics (xs.drop i)).take ((xs.length - 1 - i) * 16) ++(ics (xs.drop i)).drop ((xs.length - 1 - i) * 16):=by rw [List.append_assoc,List.take_append_drop,← ics_append,List.take_append_drop]
 have e2:(ics (xs.take i)).length=i * 16:=by rw [ics_length,List.length_take];omega
 have e3:(ics (xs.drop (i +1))).length=((ics (xs.drop i)).take ((xs.length - 1 - i) * 16)).length:=by
  rw [List.length_take,ics_length,ics_length,List.length_drop,List.length_drop];omega
 have e4:(ics (xs.drop (i +1))).length=(xs.length - 1 - i) * 16:=by rw [ics_length,List.length_drop];omega
 have h:=setsAt_mid (ics (xs.drop (i +1))) _ (ics (xs.take i)) ((ics (xs.drop i)).drop ((xs.length - 1 - i) * 16)) e3
 rw [e2,← e1] at h
 rw [h,List.take_left' (by rw [List.length_append,e2,e4];omega),← ics_append,← List.eraseIdx_eq_take_drop_succ]
theorem sDeleteN (v:Value) (base i j:Nat) (xs:List Itm) (w:World) (ho:w.ownsRow base 24 16 v xs.length (ics xs)) (hi:i<xs.length) (hs:xs.length≤10000) (hj:j=i +1) :
 Calls Tryz.prog 167 #[v,.int .i64 i,.int .i64 j] w (CutPost w base 24 16 v (xs.eraseIdx i).length (ics (xs.eraseIdx i))):=by
 obtain ⟨a,cap,rfl,_⟩:=owns_slice ho
 have hil:=ics_length xs
 have hne:a≠none:=by
  rintro rfl
  have h1:=(RowAt.of_owns ho).nil rfl
  rw [h1.1] at hil
  simp at hil
  omega
 obtain ⟨G,rfl⟩:∃ G,a=some ⟨G,0,none⟩:=by
  exact Z2s
 have hcap:xs.length≤cap:=by
  exact Z3b
 obtain ⟨N,hN⟩:∃ N,xs.length=N:=⟨_,rfl⟩
 obtain ⟨news,hnews⟩:∃ news,news=ics (xs.drop (i +1)):=⟨_,rfl⟩
 have hnl:news.length=(N - (i +1)) * 16:=by rw [hnews,ics_length,List.length_drop];omega
 have hod:w.drew.ownsRow base 24 16 (.slice (some ⟨G,0,none⟩) xs.length cap) xs.length (ics xs):=SL.row_stab ho fun _ _=>rfl
 obtain ⟨A,hA,hsrc⟩:∃ A:Addr,(if cap=j then (some ⟨G,0,none⟩:Option Addr) else some ⟨G,j * 16,none⟩)=some A∧Hid (∀ t u,news[t]?=some u→w.drew.cell? (A.add t)=some u):=by
  by_cases h:cap=j
  ·refine ⟨⟨G,0,none⟩,by simp [h],fun t u hu=>?_⟩
   have h0:news.length=0:=by rw [hnl];omega
   rw [List.length_eq_zero_iff.1 h0] at hu
   simp at hu
  ·refine ⟨⟨G,j * 16,none⟩,by simp [h],fun t u hu=>?_⟩
   subst hj
   have ht:t<(N - (i +1)) * 16:=by
    have:=(List.getElem?_eq_some_iff.1 hu).1
    rwa [hnl] at this
   rw [Addr.add_lit,hod.cellAt ((i +1) * 16 +t) (by omega)]
   have e:ics xs=ics (xs.take (i +1)) ++ics (xs.drop (i +1)):=by rw [← ics_append,List.take_append_drop]
   rw [e,List.getElem?_append_right Z55,ics_length,List.length_take,← hnews,show (i +1) * 16 +t - min (i +1) xs.length * 16=t by omega]
   exact hu
 clear hne
 have HP:=Lib.hid (show ∀ w',w'.ownsRow base 24 16 (.slice (some ⟨G,0,none⟩) (N - 1) cap) (N - 1) (ics (xs.eraseIdx i))→SL.Chg [G] w w'→CutPost w base 24 16 (.slice (some ⟨G,0,none⟩) xs.length cap) (xs.eraseIdx i).length (ics (xs.eraseIdx i)) (.returned (.slice (some ⟨G,0,none⟩) (N - 1) cap)) w' from
  fun w' h1 h2=>by
   have e:(xs.eraseIdx i).length=N - 1:=by rw [List.length_eraseIdx,if_pos hi,hN]
   rw [e]
   exact ⟨_,rfl,h1,h2,rfl⟩)
 generalize CutPost w base 24 16 (.slice (some ⟨G,0,none⟩) xs.length cap) (xs.eraseIdx i).length (ics (xs.eraseIdx i))=Post at *
 rw [hN] at hi hs hcap hil ho hod ⊢
 have hiN:(j:Int)≤N:=by omega
 have hiN3:(i:Int)≤(j:Int):=by omega
 have hj0:(0:Int)≤j:=by omega
 have mixed:Tryz.prog.follows .mixedOrders=true:=by kernel_rfl
 have hiN2:(N:Int)≤cap:=by omega
 have hi0:(0:Int)≤i:=by omega
 have hij:((i:Int) == (j:Int))=false:=beq_eq_false_iff_ne.2 (by omega)
 obtain ⟨i0,hi0',hz,hz1,hz2⟩:=elemT.info
 have s1:Hid (news.length=(N - j) * 16):=by rw [hj];exact hnl
 have s2:Hid (∀ u ∈ news,u.oneCell'=true):=by
  rw [hnews]
  exact ics_one _
 have s3:Hid (∀ t,t<news.length→(w.drew.cell? ⟨G,0 +i * 16 +t,none⟩).isSome=true∧w.drew.frozen? ⟨G,0 +i * 16 +t,none⟩=false):=by
  intro t ht
  rw [hnl] at ht
  rw [Nat.zero_add]
  refine ⟨?_,hod.frozenAt _⟩
  rw [hod.cellAt (i * 16 +t) (by omega),List.getElem?_eq_getElem (by omega)]
  rfl
 obtain ⟨W1,hW1⟩:∃ W1,W1=w.drew.setCells G (0 +i * 16) news:=⟨_,rfl⟩
 have hW2:W1=putsAt w.drew G (i * 16) news:=by rw [hW1,Nat.zero_add,putsAt_setCells]
 have ho1:W1.ownsRow base 24 16 (.slice (some ⟨G,0,none⟩) N cap) N (setsAt (ics xs) (i * 16) news):=by rw [hW2];exact row_puts news hod
 have hc1:SL.Chg [G] w W1:=by
  rw [hW2]
  exact (SL.Chg.of_below (belowN (n:=1) (Below.refl _ _))).trans (chg_puts (E:=[G]) (G:=G) (by simp) news w.drew (i * 16))
 have hsl:(setsAt (ics xs) (i * 16) news).length=N * 16:=by
  obtain ⟨h1,_⟩:=ho1
  exact h1
 have hM:i +(N - j)=N - 1:=by omega
 obtain ⟨vs,hvl,hvr⟩:=(fun ty=>run_clear_struct (P:=Tryz.prog) W1 22 24 ty (.agg #[.int .i64 0,.int .i64 0,.int .u8 0,.string ⟨#[]⟩,.int .i64 0,.int .i64 0,.int .i64 0,.bool false,.int .i64 0,.int .i64 0,.int .i64 0,.int .i64 0,.int .i64 0,.string ⟨#[]⟩,.int .i64 0,.int .i64 0]) Itm.zero.cs Tryz.underlying22 Tryz.zeroValue24 Zk (fun u hu=>ics_one [Itm.zero] u Z3w) G ((i +(N - j)) * 16) (N - (i +(N - j))) (cap - (i +(N - j))) (by omega)
  (fun j hj=>by
   have hl16:Itm.zero.cs.length=16:=rfl
   rw [hl16] at hj
   rw [ho1.cellAt _ (by omega),List.getElem?_eq_getElem (by omega)];rfl)
  (fun j _=>ho1.frozenAt _)) 0
 have hl16:Itm.zero.cs.length=16:=rfl
 rw [hl16] at hvl
 have ho2:(W1.setCells G ((i +(N - j)) * 16) vs).ownsRow base 24 16 (.slice (some ⟨G,0,none⟩) (N - 1) cap) (N - 1) (ics (xs.eraseIdx i)):=by
  rw [putsAt_setCells]
  have q1:=row_front (row_puts vs (o:=(i +(N - j)) * 16) ho1) (i:=N - 1) (by omega) (by simp)
  rw [hM] at q1 hvl ⊢
  rw [sets_tail (by rw [hsl];omega)] at q1
  have e:=del_cells xs (i:=i) (by omega)
  rw [← hnews,hN] at e
  rw [e] at q1
  exact q1
 have hc2:SL.Chg [G] w (W1.setCells G ((i +(N - j)) * 16) vs):=by
  rw [putsAt_setCells]
  exact hc1.trans (chg_puts (E:=[G]) (G:=G) (by simp) vs W1 _)
 have HF:=Lib.hid (HP.out _ ho2 hc2)
 have hW:Hid (W1=w.drew.setCells G (0 +i * 16) news):=hW1
 have hic:i≤cap:=by omega
 have hjc:j≤cap:=by omega
 have HM:=Lib.hid hM
 clear hj hN hW1 hW2 ho1 hc1 hsl hM ho2 hc2 hvl hl16 hod ho hil hnl hnews HP
 go_enter Tryz.func167,Tryz.ntmps167
 go_wp2_with fail
 go_region_law_o (refine step_append_room rfl (.tmp 22) (.tmp 25) 22 rfl 24 i0 16 Tryz.underlying22 hi0' hz1 G 0 i cap (by simp [Act.eval,Act.put]) A (N - j) (cap - j) news (by simp [Act.eval,Act.put]) s1.out hsrc.out s2.out (by omega) s3.out ?_;rw [← hW.out])
 go_wp2_with fail
 all_goals
  have hm:=HM.out
  first
   | (exfalso;omega)
   | (have hf:=HF.out;rw [← hm] at hf;exact hf)
theorem sDeleteT (v:Value) (base i:Nat) (xs:List Itm) (w:World) (ho:w.ownsRow base 24 16 v xs.length (ics xs)) (hi:i<xs.length) (hs:xs.length≤10000) :
 Calls Tryz.prog 167 #[v,.int .i64 i,.int .i64 ((i:Int) +1)] w (CutPost w base 24 16 v (xs.eraseIdx i).length (ics (xs.eraseIdx i))) :=
 sDeleteN v base i (i +1) xs w ho hi hs rfl
def bys (xs:List UInt8):List Value:=xs.map fun b=>Value.int .u8 b.toNat
theorem bys_length (xs:List UInt8):(bys xs).length=xs.length:=by simp [bys]
theorem bys_append (a b:List UInt8):bys (a ++b)=bys a ++bys b:=by simp [bys]
theorem bys_set (l:List UInt8) (i:Nat) (x:UInt8):bys (l.set i x)=(bys l).set i (.int .u8 x.toNat):=by simp [bys,List.map_set]
theorem bget {l:List UInt8} {k:Nat} (h:k<l.length):l.getD k 0=l[k]:=by simp [List.getD_eq_getElem?_getD,List.getElem?_eq_getElem h]
theorem bmem {l:List UInt8} {i:Nat} (h:i<l.length):l.getD i 0 ∈ l:=by rw [bget h];exact List.getElem_mem _
/-- The first with it. -/
def fstB (f:UInt8→Bool) (l:List UInt8):Nat:=(l.takeWhile fun x=>!f x).length
theorem fstB_hit {f:UInt8→Bool} {l:List UInt8} {k:Nat} (hk:k<l.length) (h:(l.take k).any f=false) (hf:f l[k]=true):fstB f l=k:=by
 unfold fstB
 exact Z1x
/-- Where IndexFunc stops. -/
def IdxY (w:World) (f:UInt8→Bool) (l:List UInt8) (e:Ending) (w':World):Prop:=e=.returned (.int .i64 (if l.any f then (fstB f l:Int) else -1))∧Below w.heap.size w w'
theorem ybget {w:World} {a:Option Addr} {cap:Nat} {xs:List UInt8} (h:RowAt w a cap (bys xs)) {i:Nat} (hi:i<xs.length):∃ b off,a=some ⟨b,off,none⟩∧b<w.heap.size∧w.cell? ⟨b,off +i,none⟩=some (.int .u8 (xs.getD i 0).toNat) :=
 h.cell (by simp [bys,List.getD_eq_getElem?_getD,List.getElem?_eq_getElem hi])
theorem idxY_any (k:Nat) (caps:Array Value) (f:UInt8→Bool) (a:Option Addr) (n cap:Nat) (xs:List UInt8) (w:World) (hn:n=xs.length) (hl:xs.length≤10000) (hx:RowAt w a cap (bys xs)) (hent:∀ args w,(callFunc k args).run Tryz.prog w=.ok (.enter k args) w)
 (hf:∀ x,x ∈ xs→∀ w1,Below w.heap.size w w1→Calls Tryz.prog k (#[.int .u8 x.toNat] ++caps) w1 fun e w'=>e=.returned (.bool (f x))∧Below w1.heap.size w1 w') :
 Calls Tryz.prog 202 #[.slice a n cap,.func (.func k) #[] caps] w (IdxY w f xs):=by
 subst hn
 have HP:=Lib.hid (show ∀ (i:Int) w',(if xs.any f then (fstB f xs:Int) else -1)=i→Below w.heap.size w w'→IdxY w f xs (.returned (.int .i64 i)) w' from fun i w' h hb=>⟨by rw [h],hb⟩)
 generalize IdxY w f xs=Post at *
 go_enter Tryz.func202,Tryz.ntmps202
 go_wp2_with fail
 go_loopw [8] (fun i wr=>∃ j:Nat,j≤xs.length∧i=.int .i64 j∧Below w.heap.size w wr∧(xs.take j).any f=false) (fun i _=>xs.length - (RowKit.intOf i).toNat)
 case atStart=>exact ⟨0,Nat.zero_le _,rfl,Below.refl _ _,rfl⟩
 case round =>
  obtain ⟨j,hj,rfl,hB,hall⟩:=hrel
  have Hall:=Lib.hid hall
  clear hall
  have hnn:(0:Int)≤j:=by omega
  by_cases hlt:j<xs.length
  ·obtain ⟨b,o,rfl,_,d0⟩:=ybget (hx.below hB) hlt
   have i1:(j:Int)<(xs.length:Int):=by omega
   have Hat:=Lib.hid (any_take (f:=f) hlt)
   have Hhit:=Lib.hid (fun h=>And.intro (any_hit (f:=f) hlt h) (fstB_hit hlt Hall.out h))
   have hfx:=hf _ (List.getElem_mem hlt) wr hB
   rw [bget hlt] at d0
   exact Zz
  ·exact Z3f
theorem filterY_succ {l:List UInt8} {p:UInt8→Bool} {k:Nat} (hk:k<l.length):(l.take (k +1)).filter p=(l.take k).filter p ++(if p (l.getD k 0)=true then [l.getD k 0] else []):=by
 rw [List.take_succ_eq_append_getElem hk,List.filter_append,List.getD_eq_getElem?_getD,List.getElem?_eq_getElem hk]
 simp [List.filter_cons]
/-- What DeleteFunc holds. -/
structure DelY (f:UInt8→Bool) (xs cur:List UInt8) (i j:Nat):Prop where
 len:cur.length=xs.length
 le:i<j
 jle:j≤xs.length
 kept:cur.take i=(xs.take j).filter fun x=>!f x
 rest:cur.drop j=xs.drop j
theorem DelY.start {f:UInt8→Bool} {xs:List UInt8} (h:xs.any f=true):DelY f xs xs (fstB f xs) (fstB f xs +1):=by
 have hw:xs.any f=true:=h
 obtain ⟨y,hy,hf⟩:=List.any_eq_true.1 h
 have hsplit:=List.takeWhile_append_dropWhile (p:=fun x=>!f x) (l:=xs)
 have hall:∀ x ∈ xs.takeWhile (fun x=>!f x),(!f x)=true:=fun x hx=>List.all_eq_true.1 List.all_takeWhile x hx
 have hk0:fstB f xs=(xs.takeWhile fun x=>!f x).length:=rfl
 have hhd:∀ z zs,xs.dropWhile (fun x=>!f x)=z::zs→f z=true:=fun z zs hd=>by
  exact Z32
 rw [hk0]
 generalize xs.takeWhile (fun x=>!f x)=T at *
 generalize hd:xs.dropWhile (fun x=>!f x)=D at *
 cases D with
 | nil =>
   exact Z3s
 | cons z zs =>
   have hz:=hhd z zs rfl
   clear hd hhd hk0 h hw hy hf
   subst hsplit
   have hk:T.length<(T ++z::zs).length:=by simp
   have hg:(T ++z::zs).getD T.length 0=z:=by simp [List.getD_eq_getElem?_getD]
   refine ⟨rfl,Nat.lt_succ_self _,hk,?_,rfl⟩
   rw [filterY_succ hk,hg,if_neg (by rw [hz];simp),List.append_nil,List.take_left]
   exact Z5m
theorem DelY.get {f:UInt8→Bool} {xs cur:List UInt8} {i j:Nat} (h:DelY f xs cur i j) (hj:j<xs.length):cur.getD j 0=xs.getD j 0:=by
 exact Z2v
theorem DelY.keep {f:UInt8→Bool} {xs cur:List UInt8} {i j:Nat} (h:DelY f xs cur i j) (hj:j<xs.length) (hf:f (xs.getD j 0)=false):DelY f xs (cur.set i (xs.getD j 0)) (i +1) (j +1):=by
 obtain ⟨h1,h2,h3,h4,h5⟩:=h
 refine ⟨by simpa using h1,by omega,hj,?_,?_⟩
 ·rw [filterY_succ hj,if_pos (by rw [hf];rfl),← h4,List.take_succ_eq_append_getElem Zj,List.take_set_of_le (Nat.le_refl _)]
  simp
 ·exact Z7g
theorem DelY.skip {f:UInt8→Bool} {xs cur:List UInt8} {i j:Nat} (h:DelY f xs cur i j) (hj:j<xs.length) (hf:f (xs.getD j 0)=true):DelY f xs cur i (j +1):=by
 obtain ⟨h1,h2,h3,h4,h5⟩:=h
 refine ⟨h1,by omega,hj,?_,?_⟩
 ·rw [filterY_succ hj,if_neg (by rw [hf];simp),List.append_nil,h4]
 ·exact Z25
/-- The letters' block, its first cells the bytes said. -/
def YAt (w:World) (G:Nat) (cur:List UInt8):Prop:=∃ tl:List Value,cur.length +tl.length=26∧w.heap[G]?=some (.cells (bys cur ++tl).toArray 5 (26,27))
theorem YAt.lt {w:World} {G:Nat} {cur:List UInt8} (h:YAt w G cur):G<w.heap.size∧cur.length≤26:=by
 obtain ⟨tl,h1,h2⟩:=h
 exact ⟨(Array.getElem?_eq_some_iff.1 h2).1,by omega⟩
theorem YAt.raw {w:World} {G:Nat} {cur:List UInt8} (h:YAt w G cur):∀ i,i<26→(w.cell? ⟨G,i,none⟩).isSome=true∧w.frozen? ⟨G,i,none⟩=false:=by
 obtain ⟨tl,h1,h2⟩:=h
 intro i hi
 have hz:(bys cur ++tl).length=26:=by rw [List.length_append,bys_length];exact h1
 refine ⟨?_,?_⟩
 ·simp only [World.cell?,h2]
  simp [hz,hi]
 ·simp only [World.frozen?,h2]
  simp
  omega
theorem YAt.cell {w:World} {G:Nat} {cur:List UInt8} (h:YAt w G cur) {i:Nat} (hi:i<cur.length):w.cell? ⟨G,i,none⟩=some (.int .u8 (cur.getD i 0).toNat):=by
 obtain ⟨tl,h1,h2⟩:=h
 simp only [World.cell?,h2]
 simp only [Option.isSome_none,Bool.false_eq_true,if_false,List.getElem?_toArray]
 rw [List.getElem?_append_left (by rw [bys_length];exact hi)]
 simp [bys,List.getD_eq_getElem?_getD,List.getElem?_eq_getElem hi]
theorem YAt.row {w:World} {G cap:Nat} {cur:List UInt8} (h:YAt w G cur):RowAt w (some ⟨G,0,none⟩) cap (bys cur):=by
 refine ⟨fun e=>(by cases e),fun ad e=>?_⟩
 cases e
 refine ⟨rfl,h.lt.1,fun j u hu=>?_⟩
 have hj:j<cur.length:=by
  have:=(List.getElem?_eq_some_iff.1 hu).1
  rwa [bys_length] at this
 rw [Nat.zero_add,h.cell hj,← hu]
 simp [bys,List.getD_eq_getElem?_getD,List.getElem?_eq_getElem hj]
theorem YAt.chg {w w':World} {G:Nat} {cur:List UInt8} {E:List Nat} (h:YAt w G cur) (hc:SL.Chg E w w') (hE:G ∉ E):YAt w' G cur:=by
 obtain ⟨tl,h1,h2⟩:=h
 exact ⟨tl,h1,(hc.block G (Array.getElem?_eq_some_iff.1 h2).1 hE).trans h2⟩
theorem YAt.up {w w':World} {G:Nat} {cur:List UInt8} (h:YAt w G cur) (hb:Below w.heap.size w w'):YAt w' G cur:=h.chg (E:=[]) (.of_below hb) (by simp)
theorem heap_setF {w:World} {N i:Nat} {cs:Array Value} {t:TypeId} {fr:Nat × Nat} (h:w.heap[N]?=some (.cells cs t fr)) (v:Value):(w.setCell ⟨N,i,none⟩ v).heap[N]?=some (.cells (cs.setIfInBounds i v) t fr):=by
 simp [World.setCell,Array.getElem?_modify,h]
theorem YAt.set {w:World} {G:Nat} {cur:List UInt8} (h:YAt w G cur) {i:Nat} (hi:i<cur.length) (x:UInt8):YAt (w.setCell ⟨G,i,none⟩ (.int .u8 x.toNat)) G (cur.set i x):=by
 obtain ⟨tl,h1,h2⟩:=h
 refine ⟨tl,by simpa using h1,?_⟩
 rw [heap_setF h2,bys_set]
 congr 2
 rw [List.setIfInBounds_toArray,List.set_append_left _ _ (by rw [bys_length];exact hi)]
theorem YAt.puts {G:Nat}:∀ (vs:List Value) {cur:List UInt8} {o:Nat} {w:World},YAt w G cur→cur.length≤o→YAt (putsAt w G o vs) G cur
 | [],_,_,_,h,_=>h
 | v::vs,cur,o,w,h,ho=>by
   refine YAt.puts vs (w:=w.setCell ⟨G,o,none⟩ v) (o:=o +1) ?_ (by omega)
   obtain ⟨tl,h1,h2⟩:=h
   refine ⟨tl.set (o - cur.length) v,by simpa using h1,?_⟩
   rw [heap_setF h2]
   congr 2
   rw [List.setIfInBounds_toArray,List.set_append_right _ _ (by rw [bys_length];exact ho),bys_length]
theorem YAt.take {w:World} {G:Nat} {cur:List UInt8} (h:YAt w G cur) (i:Nat):YAt w G (cur.take i):=by
 obtain ⟨tl,h1,h2⟩:=h
 refine ⟨bys (cur.drop i) ++tl,?_,?_⟩
 ·rw [List.length_append,bys_length,List.length_take,List.length_drop];omega
 ·rw [h2,← List.append_assoc,← bys_append,List.take_append_drop]
theorem sDelY (k:Nat) (caps:Array Value) (f:UInt8→Bool) (G:Nat) (xs:List UInt8) (w:World) (ho:YAt w G xs) (hent:∀ args w,(callFunc k args).run Tryz.prog w=.ok (.enter k args) w)
 (hf:∀ x,x ∈ xs→∀ w1,SL.Chg [G] w w1→Calls Tryz.prog k (#[.int .u8 x.toNat] ++caps) w1 fun e w'=>e=.returned (.bool (f x))∧Below w1.heap.size w1 w') :
 Calls Tryz.prog 160 #[.slice (some ⟨G,0,none⟩) xs.length 26,.func (.func k) #[] caps] w fun e w'=>e=.returned (.slice (some ⟨G,0,none⟩) (xs.filter fun x=>!f x).length 26)∧YAt w' G (xs.filter fun x=>!f x)∧SL.Chg [G] w w':=by
 have hcap:=ho.lt.2
 have hI:=idxY_any k caps f (some ⟨G,0,none⟩) xs.length 26 xs w rfl (by omega) ho.row hent (fun x hx w1 hb=>hf x hx w1 (.of_below hb))
 unfold IdxY at hI
 have HP:=Lib.hid (show ∀ w' n,n=(xs.filter fun x=>!f x).length→YAt w' G (xs.filter fun x=>!f x)→SL.Chg [G] w w'→(fun e w'=>e=Ending.returned (.slice (some ⟨G,0,none⟩) (xs.filter fun x=>!f x).length 26)∧YAt w' G (xs.filter fun x=>!f x)∧SL.Chg [G] w w':Ending→World→Prop) (.returned (.slice (some ⟨G,0,none⟩) n 26)) w' from
  fun w' n hn h1 h2=>by subst hn;exact ⟨rfl,h1,h2⟩)
 generalize (fun e w'=>e=Ending.returned (.slice (some ⟨G,0,none⟩) (xs.filter fun x=>!f x).length 26)∧YAt w' G (xs.filter fun x=>!f x)∧SL.Chg [G] w w':Ending→World→Prop)=Post at *
 cases hA:xs.any f with
 | false =>
   rw [hA] at hI
   have hfl:xs.filter (fun x=>!f x)=xs:=by
    exact Z3n
   rw [hfl] at HP
   have HO:=Lib.hid ho
   simp only [Bool.false_eq_true,if_false] at hI
   clear hf hA hfl ho
   go_enter Tryz.func160,Tryz.ntmps160
   go_wp2_with (go_at_call 202;(with_reducible refine hI.mono ?_);rintro e w1 ⟨rfl,hb1⟩)
   exact HP.out _ _ rfl (HO.out.up hb1) (.of_below hb1)
 | true =>
   rw [hA] at hI
   simp only [if_true] at hI
   have hD:=DelY.start hA
   generalize hk0:fstB f xs=k0 at *
   clear hk0
   have hcapz:(xs.length:Int)≤26:=by omega
   have hn1:((k0:Int) == -1)=false:=beq_eq_false_iff_ne.2 (by omega)
   have Hf:=Lib.hid hf
   have HD:=Lib.hid hD
   have hk0:=hD.jle
   have HO:=Lib.hid ho
   clear hf hA hD ho
   go_enter Tryz.func160,Tryz.ntmps160
   go_wp2_with (go_at_call 202;(with_reducible refine hI.mono ?_);rintro e w1 ⟨rfl,hb1⟩)
   have ho1:=HO.out.up hb1
   have hC1:SL.Chg [G] w w1:=.of_below hb1
   clear hb1 hI
   go_loopw [5,6] (fun i j wr=>∃ (I J:Nat) (cur:List UInt8),i=.int .i64 I∧j=.int .i64 J∧Hid (DelY f xs cur I J)∧YAt wr G cur∧SL.Chg [G] w wr) (fun _ j _=>xs.length - (RowKit.intOf j).toNat)
   case atStart=>exact ⟨k0,k0 +1,xs,rfl,by go_num,HD,ho1,hC1⟩
   case round =>
    obtain ⟨I,J,cur,rfl,rfl,hd,hown,hC⟩:=hrel
    have hIJ:=hd.out.le
    have hJn:=hd.out.jle
    have hlc:=hd.out.len
    have hnn:(0:Int)≤J:=by omega
    have hni:(0:Int)≤I:=by omega
    by_cases hlt:J<xs.length
    ·have i1:(J:Int)<(xs.length:Int):=by omega
     have i2:(I:Int)<(xs.length:Int):=by omega
     have hdc:=hown.cell (i:=J) (by omega)
     rw [hd.out.get hlt] at hdc
     have hx:=bmem hlt
     have Hkeep:=Lib.hid (hd.out.keep hlt)
     have Hskip:=Lib.hid (hd.out.skip hlt)
     have hfx:=fun W h=>Hf.out _ hx W h
     generalize xs.getD J 0=x at *
     have hcl:=hfx wr hC
     have Hrow:=Lib.hid hown
     have HC:=Lib.hid hC
     clear hown hC hfx
     go_wp2_with fail
     refine hcl.mono ?_
     rintro e w2 ⟨rfl,hb2⟩
     have HC2:=Lib.hid (HC.out.trans (SL.Chg.of_below (E:=[G]) hb2))
     have hown2:=Hrow.out.up hb2
     obtain ⟨qd,hrf⟩:=hown2.raw I (by omega)
     have hrc:=hown2.cell (i:=I) (by omega)
     have hGz:=hown2.lt.1
     have HO:=Lib.hid hown2
     clear hcl hown2 Hrow HC hdc qd
     cases hv:f x
     ·have Hk:=Lib.hid (Hkeep.out hv)
      clear Hkeep Hskip hv
      have HQ:=Lib.hid (And.intro (HO.out.set (i:=I) (by omega) x) (SL.Chg.setCell (E:=[G]) w2 (p:=⟨G,I,none⟩) (by simp) (.int .u8 x.toNat)))
      go_wp2_with fail
      exact Z2n
     ·have Hk:=Lib.hid (Hskip.out hv)
      clear Hkeep Hskip hv hrc hrf
      exact Z2r
    ·have hJ:J=xs.length:=by omega
     have Hlen:Hid (xs.length=J):=Lib.hid hJ.symm
     have hJ2:¬ (J:Int)<(xs.length:Int):=by omega
     have hnI:I<xs.length:=by omega
     have hI3:(I:Int)≤(xs.length:Int):=by omega
     have hcr:=fun ty=>run_clear_struct (P:=Tryz.prog) wr 84 5 ty (.int .u8 0) [.int .u8 0] Tryz.underlying84 Tryz.zeroValue5 rfl (fun u hu=>by simp at hu;subst hu;rfl) G I (xs.length - I) (26 - I) (by omega)
      (fun j hj=>(hown.raw (I +j) (by simp at hj;omega)).1) (fun j hj=>(hown.raw (I +j) (by simp at hj;omega)).2)
     obtain ⟨vs,hvl,hvr⟩:=hcr 0
     rw [putsAt_setCells] at hvr
     have qf:=(hown.take I).puts vs (o:=I) (by rw [List.length_take];omega)
     rw [hd.out.kept,hJ,List.take_length] at qf
     have qc:=hC.trans (chg_puts (E:=[G]) (G:=G) (by simp) vs wr I)
     have hIk:I=(xs.filter fun x=>!f x).length:=by
      exact Z3g
     have HF:=Lib.hid (HP.out _ I hIk qf qc)
     clear qf qc hcr hown hC hvl hd hIk hJ hlc
     generalize putsAt wr G I vs=w3 at *
     exact Z4t
end Go.Proofs.YtelkcohhagblaaaGreat

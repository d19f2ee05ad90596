/- What the functions answer, for every input. -/
import Derived.Test.YtelkcohhagblaaaGreatSe07
import Derived.Laws.StructEq
import Derived.Lib.ConvBytes
import Derived.Test.YtelkcohhagblaaaGreatSe06
import Derived.RangeFuncBox
import Derived.OwnWalk
import Derived.Test.YtelkcohhagblaaaGreatSe04
import Derived.Test.YtelkcohhagblaaaGreatSe03
import Derived.Lib.SlicesCompact
import Derived.Test.YtelkcohhagblaaaGreatSe02
import Derived.Maps.OwnSet
import Derived.Maps.OwnIn
set_option linter.unusedSimpArgs false
set_option linter.unusedVariables false
set_option linter.unnecessarySimpa false
namespace Go.Proofs.YtelkcohhagblaaaGreat
open Go.RowKit Go.Shelf
set_option maxHeartbeats 4000000
set_option maxRecDepth 100000
open Go Go.RowKit
/-- An item of a row of one's own. -/
theorem irow {w:World} {base:Nat} {t:TypeId} {n G cap:Nat} {l:List Itm} (h:w.ownsRow base t 16 (.slice (some ⟨G,0,none⟩) n cap) n (ics l)) {i:Nat} (hi:i<l.length) :
 ItmCells w G (i * 16) (l.getD i default)∧(∀ i,w.frozen? ⟨G,i,none⟩=false)∧G<w.heap.size:=by
 have g:=fun j hj=>flatS_get (f:=Itm.cs) (k:=16) (fun _=>rfl) l i j hi hj
 have hl:=h.1
 have hpl:=ics_length l
 have k:=fun (j:Nat) (hj:j<16) (u:Value) (hu:(Itm.cs (l.getD i default))[j]?=some u)=>(show w.cell? ⟨G,i * 16 +j,none⟩=some u by
  have:=(g j hj).trans hu
  rw [h.cellAt (i * 16 +j) (by omega)]
  exact this)
 exact ⟨⟨k 0 (by omega) _ rfl,k 1 (by omega) _ rfl,k 2 (by omega) _ rfl,k 3 (by omega) _ rfl,k 4 (by omega) _ rfl,k 5 (by omega) _ rfl,k 6 (by omega) _ rfl,k 7 (by omega) _ rfl,k 8 (by omega) _ rfl,k 9 (by omega) _ rfl,k 10 (by omega) _ rfl,k 11 (by omega) _ rfl,k 12 (by omega) _ rfl,k 13 (by omega) _ rfl,k 14 (by omega) _ rfl,k 15 (by omega) _ rfl⟩,fun i=>h.frozenAt i,(SL.row_bounds h G (by simp [Value.ownBlock])).2⟩
/-- A list with some cells from o on set anew. -/
def setsAt (l:List Value) (o:Nat):List Value→List Value
 | []=>l
 | v::vs=>setsAt (l.set o v) (o +1) vs
def putsAt (w:World) (G o:Nat):List Value→World
 | []=>w
 | v::vs=>putsAt (w.setCell ⟨G,o,none⟩ v) G (o +1) vs
theorem setsAt_mid:∀ (vs os X Z:List Value),vs.length=os.length→setsAt (X ++os ++Z) X.length vs=X ++vs ++Z
 | [],[],X,Z,_=>by simp [setsAt]
 | v::vs,o::os,X,Z,h=>by
   have e:(X ++o::os ++Z).set X.length v=(X ++[v]) ++os ++Z:=by simp [List.set_append]
   unfold setsAt
   rw [e]
   have:=setsAt_mid vs os (X ++[v]) Z Z3v
   rw [List.length_append] at this
   simp only [List.length_cons,List.length_nil] at this
   rw [this]
   simp
theorem ics_put {l:List Itm} {i:Nat} (h:i<l.length) (g:Itm):ics (l.set i g)=setsAt (ics l) (i * 16) g.cs:=by
 obtain ⟨X,p,Z,rfl,rfl⟩:∃ X p Z,l=X ++p::Z∧i=X.length:=⟨l.take i,l[i],l.drop (i +1),by simp,by simp;omega⟩
 have e1:(X ++p::Z).set X.length g=X ++g::Z:=by simp [List.set_append]
 have e2:ics (X ++p::Z)=ics X ++p.cs ++ics Z:=by simp [ics]
 have e3:ics (X ++g::Z)=ics X ++g.cs ++ics Z:=by simp [ics]
 rw [e1,e2,e3,← ics_length X,setsAt_mid g.cs p.cs (ics X) (ics Z) rfl]
theorem row_puts {base:Nat} {t:TypeId} {size n G cap:Nat}:∀ (vs:List Value) {w:World} {o:Nat} {xs:List Value},w.ownsRow base t size (.slice (some ⟨G,0,none⟩) n cap) n xs→(putsAt w G o vs).ownsRow base t size (.slice (some ⟨G,0,none⟩) n cap) n (setsAt xs o vs)
 | [],_,_,_,h=>h
 | v::vs,w,o,xs,h=>row_puts vs (h.stored o v).1
theorem chg_puts {E:List Nat} {G:Nat} (hE:G ∈ E):∀ (vs:List Value) (w:World) (o:Nat),SL.Chg E w (putsAt w G o vs)
 | [],w,_=>.refl _ _
 | v::vs,w,o=>(SL.Chg.setCell w hE v).trans (chg_puts hE vs _ _)
open Go.RowKit Go.Shelf
set_option maxHeartbeats 4000000
set_option maxRecDepth 100000
theorem any_take {α:Type} {f:α→Bool} {l:List α} {k:Nat} (hk:k<l.length):(l.take (k +1)).any f=((l.take k).any f || f l[k]):=by
 rw [List.take_succ_eq_append_getElem hk,List.any_append];simp
theorem any_hit {α:Type} {f:α→Bool} {l:List α} {k:Nat} (hk:k<l.length) (h:f l[k]=true):l.any f=true:=List.any_eq_true.2 ⟨_,List.getElem_mem hk,h⟩
/-- Where IndexFunc stops: at one with it, or nowhere. -/
def IdxPost (w:World) (any:Bool) (e:Ending) (w':World):Prop:=∃ i:Int,e=.returned (.int .i64 i)∧decide (0≤i)=any∧Below w.heap.size w w'
/-- A slice of bytes. -/
structure BysAt (w:World) (a:Option Addr) (n cap:Nat) (xs:List UInt8):Prop where
 len:n=xs.length
 small:xs.length≤140737488351232
 row:RowAt w a cap (xs.map fun b=>Value.int .u8 b.toNat)
theorem BysAt.below {w w':World} {a:Option Addr} {n cap:Nat} {xs:List UInt8} (h:BysAt w a n cap xs) (hb:Below w.heap.size w w'):BysAt w' a n cap xs:=⟨h.len,h.small,h.row.below hb⟩
theorem BysAt.get {w:World} {a:Option Addr} {n cap:Nat} {xs:List UInt8} (h:BysAt w a n cap xs) {i:Nat} (hi:i<xs.length):∃ b off,a=some ⟨b,off,none⟩∧b<w.heap.size ∧
 w.cell? ⟨b,off +i,none⟩=some (.int .u8 (xs.getD i 0).toNat):=h.row.cell Z2e
theorem getB {xs:List UInt8} {k:Nat} (h:k<xs.length):xs.getD k 0=xs[k]:=by simp [List.getD_eq_getElem?_getD,List.getElem?_eq_getElem h]
/-- A list of ints: where it lies, and what it holds. -/
structure Ls where
 a:Option Addr
 cap:Nat
 l:List Int
instance:Inhabited Ls:=⟨⟨none,0,[]⟩⟩
def Ls.v (x:Ls):Value:=.slice x.a x.l.length x.cap
/-- A slice of lists. -/
structure LssAt (w:World) (a:Option Addr) (n cap:Nat) (xs:List Ls):Prop where
 len:n=xs.length
 small:xs.length≤140737488351232
 row:RowAt w a cap (xs.map Ls.v)
 each:∀ x ∈ xs,IntsAt w x.a x.l.length x.cap x.l
theorem LssAt.below {w w':World} {a:Option Addr} {n cap:Nat} {xs:List Ls} (h:LssAt w a n cap xs) (hb:Below w.heap.size w w'):LssAt w' a n cap xs:=⟨h.len,h.small,h.row.below hb,fun x hx=>(h.each x hx).below hb⟩
theorem LssAt.get {w:World} {a:Option Addr} {n cap:Nat} {xs:List Ls} (h:LssAt w a n cap xs) {i:Nat} (hi:i<xs.length):∃ b off,a=some ⟨b,off,none⟩∧b<w.heap.size ∧
 w.cell? ⟨b,off +i,none⟩=some (.slice (xs.getD i default).a (xs.getD i default).l.length (xs.getD i default).cap):=h.row.cell (by simp [List.getD_eq_getElem?_getD,List.getElem?_eq_getElem hi];rfl)
theorem idxB_any_w (k:Nat) (caps:Array Value) (f:UInt8→Bool) (a:Option Addr) (n cap:Nat) (xs:List UInt8) (w:World) (hx:BysAt w a n cap xs) (hent:∀ args w,(callFunc k args).run Tryz.prog w=.ok (.enter k args) w)
 (hf:∀ x,x ∈ xs→∀ w1,Below w.heap.size w w1→Calls Tryz.prog k (#[.int .u8 x.toNat] ++caps) w1 fun e w'=>e=.returned (.bool (f x))∧Below w1.heap.size w1 w') :
 Calls Tryz.prog 202 #[.slice a n cap,.func (.func k) #[] caps] w (IdxPost w (xs.any f)):=by
 have hl:=hx.small
 obtain rfl:=hx.len
 go_enter Tryz.func202,Tryz.ntmps202
 go_wp2_with fail
 go_loopw [8] (fun i wr=>∃ j:Nat,j≤xs.length∧i=.int .i64 j∧Below w.heap.size w wr∧(xs.take j).any f=false) (fun i _=>xs.length - (RowKit.intOf i).toNat)
 case atStart=>exact ⟨0,Nat.zero_le _,rfl,Below.refl _ _,rfl⟩
 case round =>
  obtain ⟨j,hj,rfl,hB,hall⟩:=hrel
  have Hall:=Lib.hid hall
  clear hall
  have hnn:(0:Int)≤j:=by omega
  by_cases hlt:j<xs.length
  ·obtain ⟨b,o,rfl,_,d0⟩:=(hx.below hB).get hlt
   have i1:(j:Int)<(xs.length:Int):=by omega
   have Hat:=Lib.hid (any_take (f:=f) hlt)
   have Hhit:=Lib.hid (any_hit (f:=f) hlt)
   have hfx:=hf _ (List.getElem_mem hlt) wr hB
   rw [getB hlt] at d0
   generalize xs[j]=x at *
   cases hfv:f x
   ·exact Z6o
   ·rw [hfv] at hfx
    have Hfv:=Lib.hid (Hhit.out hfv)
    clear hfv
    go_wp2_with fail
    refine hfx.mono ?_
    rintro e w2 ⟨rfl,hb2⟩
    go_wp2_with fail
    go_ret
    exact ⟨_,rfl,by rw [Hfv.out];simp,hB.ch2 hb2⟩
  ·rw [List.take_of_length_le (by omega)] at Hall
   go_wp2_with fail
   go_ret
   exact ⟨_,rfl,by rw [Hall.out];rfl,hB⟩
theorem conB_any (k:Nat) (caps:Array Value) (f:UInt8→Bool) (a:Option Addr) (n cap:Nat) (xs:List UInt8) (w:World) (hx:BysAt w a n cap xs) (hent:∀ args w,(callFunc k args).run Tryz.prog w=.ok (.enter k args) w)
 (hf:∀ x,x ∈ xs→∀ w1,Below w.heap.size w w1→Calls Tryz.prog k (#[.int .u8 x.toNat] ++caps) w1 fun e w'=>e=.returned (.bool (f x))∧Below w1.heap.size w1 w') :
 Calls Tryz.prog 194 #[.slice a n cap,.func (.func k) #[] caps] w fun e w'=>e=.returned (.bool (xs.any f))∧Below w.heap.size w w':=by
 have hI:=idxB_any_w k caps f a n cap xs w hx hent hf
 generalize xs.any f=T at *
 clear hf
 go_enter Tryz.func194,Tryz.ntmps194
 go_wp2_with (go_at_call 202;(with_reducible refine hI.mono ?_);rintro e w1 ⟨i,rfl,hi,hb1⟩;have Hi:=Lib.hid hi;clear hi)
 go_ret
 exact ⟨ret_bool Hi.out,hb1⟩
open Go Go.RowKit
theorem if_res {p q:Prop} [Decidable p] [Decidable q] {α:Type} {a b:α}:(if p then (if q then a else b) else b)=if p∧q then a else b:=by
 by_cases h:p <;> by_cases h2:q <;> simp [h,h2]
theorem eqI_all {x y:Itm}:(x.id=y.id∧x.kn=y.kn∧x.kd=y.kd∧x.wa.toList=y.wa.toList∧x.pit=y.pit∧x.ly=y.ly∧x.co=y.co∧x.ft=y.ft∧x.sh=y.sh∧x.fr=y.fr∧x.tw=y.tw∧x.lo=y.lo∧x.hi=y.hi∧x.st.toList=y.st.toList∧x.li=y.li∧x.vo=y.vo) ↔ eqI x y=true:=by
 unfold eqI
 simp only [Bool.and_eq_true,beq_iff_eq,ByteArray.toList_eq]
theorem neqI_run (x y:Itm) (w:World):(binOp .neq 24 x.v y.v).run Tryz.prog w=.ok (.bool (!eqI x y)) w:=by
 simp only [Itm.v,Itm.cs]
 rw [run_neq_struct,run_equalIn_agg _ _ _ _ _ Zk Zk]
 simp [go_sem,Tryz.underlying24]
 simp only [if_res,eqI_all]
 cases eqI x y <;> rfl
open Go.RowKit Go.Shelf
set_option maxHeartbeats 1000000
set_option maxRecDepth 100000
theorem both_in {p x y:Int} (h:both p x y=true):(0≤x∧x<p)∧0≤y∧y<p:=by
 simp [both,inP,withinB] at h
 omega
theorem askE_zero {p x y:Int} {bs:List Bd} (h:askE p bs x y=0):chk p bs=0∧both p x y=true∧okB p bs=true:=by
 unfold askE at h
 split at h
 ·rename_i h0
  split at h
  ·rename_i h1
   split at h
   ·rename_i h2;exact ⟨h0,h1,h2⟩
   ·omega
  ·omega
 ·contradiction
theorem gGreatest1_any (p:Int) (a:Option Addr) (n cap:Nat) (bs:List Bd) (x y:Int) (SB BA BB NB:Nat) (old:Value) (w1:World) (hs:Sys p bs) (hb:BdsAt w1 a n cap bs) (hxy:both p x y=true)
 (c0:w1.cell? ⟨SB,0,none⟩=some (.int .i64 p)) (c1:w1.cell? ⟨SB,1,none⟩=some (.slice a n cap)) (ca:w1.cell? ⟨BA,0,none⟩=some (.int .i64 x)) (cb:w1.cell? ⟨BB,0,none⟩=some (.int .i64 y)) (hN:w1.heap[NB]?=some (.cells #[old] 3 (0,0))) :
 Calls Tryz.prog 155 #[.pointer (some ⟨SB,0,none⟩),.pointer (some ⟨BA,0,none⟩),.pointer (some ⟨BB,0,none⟩),.pointer (some ⟨NB,0,none⟩)] w1 fun e w'=>e=.returned (.tuple #[])∧SL.Chg [NB] w1 w'∧w'.heap[NB]?=some (.cells #[.int .i64 (gD p bs x y)] 3 (0,0)):=by
 obtain ⟨⟨h1,h2⟩,h3,h4⟩:=both_in hxy
 have hNl:NB<w1.heap.size:=(Array.getElem?_eq_some_iff.1 hN).1
 have hG:=ggreatest_any p a n cap bs x y w1 hb hs h1 h2 h3 h4
 go_enter Tryz.func155,Tryz.ntmps155
 go_wp2_with (go_at_call 156;refine hG.mono ?_;rintro e w2 ⟨rfl,hb2⟩
              have hN2:=(hb2.block _ hNl).trans hN
              have cn:=(SL.cells_of hN2).1 0
              have fn:=(SL.cells_of hN2).2 0
              simp at cn)
 go_end0
 exact ⟨rfl,(SL.Chg.of_below hb2).trans (.setCell _ (by simp) _),SL.heap_set hN2 _⟩

/-- What Greatest hands back: the number, and whether there is one. -/
def grN (p:Int) (bs:List Bd) (x y:Int):Int:=if askE p bs x y=0∧gD p bs x y≠FAR then gD p bs x y else 0
def grB (p:Int) (bs:List Bd) (x y:Int):Bool:=decide (askE p bs x y=0∧gD p bs x y≠FAR)
theorem gGreatest_any (p:Int) (a:Option Addr) (n cap:Nat) (bs:List Bd) (x y:Int) (w:World) (hb:BdsAt w a n cap bs) :
 Calls Tryz.prog 85 #[.agg #[.int .i64 p,.slice a n cap],.int .i64 x,.int .i64 y] w fun e w'=>e=.returned (.tuple #[.int .i64 (grN p bs x y),.bool (grB p bs x y),.int .i64 (askE p bs x y)])∧Below w.heap.size w w':=by
 have hmf:=makeFunc_run
 generalize hw4:(((w.alloc (Obj.cells #[.int .i64 p,.slice a n cap] 57)).alloc (Obj.cells #[.int .i64 x] 3)).alloc (Obj.cells #[.int .i64 y] 3)).alloc (Obj.cells #[.int .i64 FAR] 3)=w4
 have hB4:Below w.heap.size w w4:=by rw [← hw4];((repeat (first | assumption | exact Below.refl _ _ | refine Below.alloc ?_ ?_ _ | refine Below.setCell ?_ ?_ _ | refine Below.drew ?_ | refine belowN ?_ | refine Below.up ?_ Z18 ?_)) <;> (first | assumption | omega | (simp;done) | (simp;omega)))
 have z4:w4.heap.size=w.heap.size +4:=by rw [← hw4];simp
 have c0:w4.cell? ⟨w.heap.size,0,none⟩=some (.int .i64 p):=by rw [← hw4];simp [go_sem]
 have c1:w4.cell? ⟨w.heap.size,1,none⟩=some (.slice a n cap):=by rw [← hw4];simp [go_sem]
 have c2:w4.cell? ⟨w.heap.size +1,0,none⟩=some (.int .i64 x):=by rw [← hw4];simp [go_sem]
 have c3:w4.cell? ⟨w.heap.size +1 +1,0,none⟩=some (.int .i64 y):=by rw [← hw4];simp [go_sem]
 have h4:w4.heap[w.heap.size +1 +1 +1]?=some (.cells #[.int .i64 FAR] 3 (0,0)):=by
  have h:=World.alloc_heap_new (((w.alloc (Obj.cells #[.int .i64 p,.slice a n cap] 57)).alloc (Obj.cells #[.int .i64 x] 3)).alloc (Obj.cells #[.int .i64 y] 3)) (Obj.cells #[.int .i64 FAR] 3)
  rw [World.size_alloc,World.size_alloc,World.size_alloc] at h
  rw [← hw4];exact h
 have hA:=gasked_any p a n cap bs x y 155 #[.pointer (some ⟨w.heap.size,0,none⟩),.pointer (some ⟨w.heap.size +1,0,none⟩),.pointer (some ⟨w.heap.size +1 +1,0,none⟩),.pointer (some ⟨w.heap.size +1 +1 +1,0,none⟩)] w4 (hb.below hB4)
  [w.heap.size +1 +1 +1] Zj (fun w'=>w'.heap[w.heap.size +1 +1 +1]?=some (.cells #[.int .i64 (gD p bs x y)] 3 (0,0))) (fun w1 w2 h hc2=>heap_chg h hc2 Zj) (enters_of Tryz.func155 Zk rfl)
  (fun h0 w2 hb2 _=>by
   obtain ⟨q0,q1,q2⟩:=askE_zero h0
   have hc:=(bcell hb2).1
   exact gGreatest1_any p a n cap bs x y _ _ _ _ _ w2 (Sys.of_chk q0) ((hb.below hB4).below hb2) q1 ((hc _ _ (by omega)).trans c0) ((hc _ _ (by omega)).trans c1) ((hc _ _ (by omega)).trans c2) ((hc _ _ (by omega)).trans c3) ((hb2.block _ (by omega)).trans h4))
 have hcell:∀ w5:World,SL.Chg [w.heap.size +1 +1 +1] w4 w5→(askE p bs x y=0→w5.heap[w.heap.size +1 +1 +1]?=some (.cells #[.int .i64 (gD p bs x y)] 3 (0,0)))→(askE p bs x y≠0→Below w4.heap.size w4 w5) →
  w5.cell? ⟨w.heap.size +1 +1 +1,0,none⟩=some (.int .i64 (if askE p bs x y=0 then gD p bs x y else 1099511627776))∧Below w.heap.size w w5:=fun w5 hC hS hnS=>by
  have hB5:Below w.heap.size w w5:=hB4.trans (hC.belowE (by omega) Zj)
  split
  ·rename_i h0
   have:=(SL.cells_of (hS h0)).1 0
   exact ⟨by simpa using this,hB5⟩
  ·rename_i h0
   have:=(SL.cells_of (((hnS h0).block _ (by omega)).trans h4)).1 0
   exact ⟨by simpa [FAR] using this,hB5⟩
 have hgr:grN p bs x y=(if (if askE p bs x y=0 then gD p bs x y else 1099511627776)=1099511627776 then 0 else (if askE p bs x y=0 then gD p bs x y else 1099511627776))∧grB p bs x y=!decide ((if askE p bs x y=0 then gD p bs x y else 1099511627776)=(1099511627776:Int)):=by
  unfold grN grB FAR
  by_cases h0:askE p bs x y=0 <;> by_cases h1:gD p bs x y=1099511627776 <;> simp [h0,h1]
 have Hgr:=Lib.hid hgr
 clear hgr
 subst hw4
 generalize hq:(if askE p bs x y=0 then gD p bs x y else (1099511627776:Int))=q at *
 have Hq:=Lib.hid hq
 clear hq
 by_cases hqf:q=1099511627776
 ·have hqd:(q == 1099511627776)=true:=by simpa using hqf
  go_enter Tryz.func85,Tryz.ntmps85
  go_wp2_with fail
  refine hA.mono ?_
  rintro e w5 ⟨rfl,hC,hS,hnS⟩
  obtain ⟨c5,hB5⟩:=hcell w5 hC hS hnS
  go_wp2
  refine bodyPost_ret (v:=.tuple #[.int .i64 0,.bool false,.int .i64 (askE p bs x y)]) Z53 rfl ⟨?_,hB5⟩
  rw [Hgr.out.1,Hgr.out.2]
  simp [hqf]
 ·have hqd:(q == 1099511627776)=false:=by simpa using hqf
  go_enter Tryz.func85,Tryz.ntmps85
  go_wp2_with fail
  refine hA.mono ?_
  rintro e w5 ⟨rfl,hC,hS,hnS⟩
  obtain ⟨c5,hB5⟩:=hcell w5 hC hS hnS
  go_wp2
  refine bodyPost_ret (v:=.tuple #[.int .i64 q,.bool true,.int .i64 (askE p bs x y)]) Z53 rfl ⟨?_,hB5⟩
  rw [Hgr.out.1,Hgr.out.2]
  simp [hqf]
set_option maxHeartbeats 4000000
/-- A case: what its value holds, and its parts. -/
structure Cs where
 ware:ByteArray
 lim:Int
 byr:Int
 a:Option Addr
 cap:Nat
 ps:List Pt
def Cs.v (c:Cs):Value:=.agg #[.string c.ware,.int .i64 c.lim,.int .i64 c.byr,.slice c.a c.ps.length c.cap]
def Cs.chk (c:Cs):Int:=cchk c.ware.data.toList c.lim c.byr c.ps
def Cs.two (c:Cs) (a b:Int):Int:=two2E c.ware.data.toList c.lim c.byr c.ps a b
def Cs.s (c:Cs):List Pn:=pns c.ps
structure CsAt (w:World) (c:Cs):Prop where
 ware:c.ware.size≤maxLen
 ps:PtsAt w c.a c.ps.length c.cap c.ps
theorem CsAt.below {w w':World} {c:Cs} (h:CsAt w c) (hb:Below w.heap.size w w'):CsAt w' c:=⟨h.ware,h.ps.below hb⟩
theorem getT {l:List Itm} {k:Nat} (h:k<l.length):l.getD k default=l[k]:=by simp [List.getD_eq_getElem?_getD,List.getElem?_eq_getElem h]
/-- The first with it. -/
def fstT (f:Itm→Bool) (l:List Itm):Nat:=(l.takeWhile fun x=>!f x).length
theorem fstT_hit {f:Itm→Bool} {l:List Itm} {k:Nat} (hk:k<l.length) (h:(l.take k).any f=false) (hf:f l[k]=true):fstT f l=k:=by
 unfold fstT
 exact Z1x
/-- Where IndexFunc stops. -/
def IdxT (w:World) (f:Itm→Bool) (l:List Itm) (e:Ending) (w':World):Prop:=e=.returned (.int .i64 (if l.any f then (fstT f l:Int) else -1))∧Below w.heap.size w w'
theorem idxT_any (k:Nat) (caps:Array Value) (f:Itm→Bool) (a:Option Addr) (n cap:Nat) (xs:List Itm) (w:World) (hx:ItmsAt w a n cap xs) (hent:∀ args w,(callFunc k args).run Tryz.prog w=.ok (.enter k args) w)
 (hf:∀ x,x ∈ xs→∀ w1,Below w.heap.size w w1→Calls Tryz.prog k (#[x.v] ++caps) w1 fun e w'=>e=.returned (.bool (f x))∧Below w1.heap.size w1 w') :
 Calls Tryz.prog 183 #[.slice a n cap,.func (.func k) #[] caps] w (IdxT w f xs):=by
 have hl:=hx.small
 obtain rfl:=hx.len
 have HP:=Lib.hid (show ∀ (i:Int) w',(if xs.any f then (fstT f xs:Int) else -1)=i→Below w.heap.size w w'→IdxT w f xs (.returned (.int .i64 i)) w' from fun i w' h hb=>⟨by rw [h],hb⟩)
 generalize IdxT w f xs=Post at *
 simp only [Itm.v,Itm.cs] at hf
 go_enter Tryz.func183,Tryz.ntmps183
 go_wp2_with fail
 go_loopw [8] (fun i wr=>∃ j:Nat,j≤xs.length∧i=.int .i64 j∧Below w.heap.size w wr∧(xs.take j).any f=false) (fun i _=>xs.length - (RowKit.intOf i).toNat)
 case atStart=>exact ⟨0,Nat.zero_le _,rfl,Below.refl _ _,rfl⟩
 case round =>
  obtain ⟨j,hj,rfl,hB,hall⟩:=hrel
  have Hall:=Lib.hid hall
  clear hall
  have hnn:(0:Int)≤j:=by omega
  by_cases hlt:j<xs.length
  ·obtain ⟨b,o,rfl,_,⟨d0,d1,d2,d3,d4,d5,d6,d7,d8,d9,d10,d11,d12,d13,d14,d15⟩⟩:=(hx.below hB).get hlt
   have i1:(j:Int)<(xs.length:Int):=by omega
   have Hat:=Lib.hid (any_take (f:=f) hlt)
   have Hhit:=Lib.hid (fun h=>And.intro (any_hit (f:=f) hlt h) (fstT_hit hlt Hall.out h))
   have hfx:=hf _ (List.getElem_mem hlt) wr hB
   rw [getT hlt] at d0 d1 d2 d3 d4 d5 d6 d7 d8 d9 d10 d11 d12 d13 d14 d15
   exact Zz
  ·exact Z3f
theorem conT_any (k:Nat) (caps:Array Value) (f:Itm→Bool) (a:Option Addr) (n cap:Nat) (xs:List Itm) (w:World) (hx:ItmsAt w a n cap xs) (hent:∀ args w,(callFunc k args).run Tryz.prog w=.ok (.enter k args) w)
 (hf:∀ x,x ∈ xs→∀ w1,Below w.heap.size w w1→Calls Tryz.prog k (#[x.v] ++caps) w1 fun e w'=>e=.returned (.bool (f x))∧Below w1.heap.size w1 w') :
 Calls Tryz.prog 135 #[.slice a n cap,.func (.func k) #[] caps] w fun e w'=>e=.returned (.bool (xs.any f))∧Below w.heap.size w w':=by
 have hI:=idxT_any k caps f a n cap xs w hx hent hf
 unfold IdxT at hI
 have hd:decide (0≤(if xs.any f then (fstT f xs:Int) else -1))=xs.any f:=by
  cases xs.any f <;> simp
 generalize (if xs.any f then (fstT f xs:Int) else -1)=i at *
 generalize xs.any f=T at *
 have Hd:=Lib.hid hd
 clear hf hd
 go_enter Tryz.func135,Tryz.ntmps135
 go_wp2_with (go_at_call 183;(with_reducible refine hI.mono ?_);rintro e w1 ⟨rfl,hb1⟩)
 go_ret
 exact ⟨ret_bool Hd.out,hb1⟩
theorem all_any (l:List UInt8):(l.any fun c=>!chrB c)=!(l.all chrB):=by
 induction l with
 | nil=>rfl
 | cons x l ih=>simp only [List.any_cons,List.all_cons,ih];cases chrB x <;> simp
theorem bysW (w:World) (e:TypeId) (s:ByteArray) (hs:s.size≤140737488351232):BysAt (Lib.bytesWorld w e s) (some ⟨w.heap.size,0,none⟩) s.size (grownCap w s.size 0 e) s.data.toList∧Below w.heap.size w (Lib.bytesWorld w e s):=by
 refine ⟨⟨by simp,by simpa using hs,fun h=>(by cases h),fun x hx=>?_⟩,?_⟩
 ·obtain rfl:=Option.some.inj hx
  refine ⟨rfl,by rw [Lib.bytesWorld_size];exact Nat.lt_succ_self _,fun i u hi=>?_⟩
  have hl:i<s.size:=by have:=(List.getElem?_eq_some_iff.1 hi).1;simpa using this
  simp only [Nat.zero_add]
  rw [Lib.bytesWorld_cell w e s i hl,← hi]
  simp [List.getD_eq_getElem?_getD,hl]
 ·exact ⟨rfl,rfl,rfl,by rw [Lib.bytesWorld_size];omega,fun k hk=>Lib.bytesWorld_at_old w e s k hk⟩
theorem find_none_take {l:List Itm} {f:Itm→Bool} {k:Nat} (hk:k<l.length) (h:(l.take k).find? f=none) (hf:f (l.getD k default)=false):(l.take (k +1)).find? f=none:=by
 rw [List.take_succ_eq_append_getElem hk,List.find?_append,h]
 rw [List.getD_eq_getElem?_getD,List.getElem?_eq_getElem hk] at hf
 simpa using hf
theorem find_some_at {l:List Itm} {f:Itm→Bool} {k:Nat} (hk:k<l.length) (h:(l.take k).find? f=none) (hf:f (l.getD k default)=true):l.find? f=some (l.getD k default):=by
 have e:l=l.take k ++l[k]::l.drop (k +1):=by rw [List.getElem_cons_drop,List.take_append_drop]
 rw [List.getD_eq_getElem?_getD,List.getElem?_eq_getElem hk] at hf ⊢
 simp only [Option.getD_some] at hf ⊢
 conv=>lhs;rw [e]
 rw [List.find?_append,h,List.find?_cons,hf]
 rfl
/-- What find hands back. -/
def FindPost (w:World) (o:Option Itm) (e:Ending) (w':World):Prop:=e=.returned (.tuple #[(o.getD Itm.zero).v,.bool o.isSome])∧Below w.heap.size w w'
set_option maxHeartbeats 1000000
theorem settle_range {bs:List Bd} (hin:∀ b ∈ bs,b.inr) (hl:bs.length≤402):∀ (n:Nat) (lo:Int) (s:RL),RL.ok lo { s with nx:=0 }→∀ j:Int,0≤j→j<60→lo - n * 40200000000≤gi (settle FAR bs n s).1.r j∧gi (settle FAR bs n s).1.r j≤FAR
 | 0,lo,s,h,j,h0,h1=>by have:=h.lows j h0 h1;simp [settle] at this ⊢;omega
 | n +1,lo,s,h,j,h0,h1=>by
   have hp:=RL.ok.pass h hin bs.length (Nat.le_refl _)
   have hr:=hp.reset (m:=402) (Nat.le_trans (RL.pass_nx _ _ _ _) hl)
   simp only [settle]
   split
   ·have:=hr.lows j h0 h1
    simp at this ⊢
    omega
   ·have:=settle_range hin hl n _ _ hr j h0 h1
    simp at this ⊢
    omega
theorem far0_ok {a:Int} (h0:0≤a) (h1:a<60):RL.ok 0 { (⟨far0 a,List.replicate 60 (-1),0⟩:RL) with nx:=0 }:=by
 refine ⟨far0_len a,by simp,fun i q0 q1=>?_⟩
 have:gi (far0 a) i=if i=a then 0 else FAR:=by
  exact Z74
 simp only [this]
 unfold FAR
 split <;> simp
theorem gD_range {p:Int} {bs:List Bd} (hs:Sys p bs) {x y:Int} (h0:0≤x) (h1:x<p) (h2:0≤y) (h3:y<p): -3000000000000≤gD p bs x y∧gD p bs x y≤FAR:=by
 have:=settle_range hs.inr hs.len (p +1).toNat 0 _ (far0_ok h0 (by have:=hs.p2;omega)) y h2 (by have:=hs.p2;omega)
 have h4:=hs.p2
 have h5:=hs.p1
 have h6:(((p +1).toNat:Nat):Int)=p +1:=by omega
 rw [h6] at this
 unfold gD gfrom
 omega
theorem grN_range (p:Int) (bs:List Bd) (x y:Int): -3000000000000≤grN p bs x y∧grN p bs x y≤FAR:=by
 unfold grN
 split
 ·rename_i h
  obtain ⟨q0,q1,q2⟩:=askE_zero h.1
  obtain ⟨⟨h1,h2⟩,h3,h4⟩:=both_in q1
  exact gD_range (Sys.of_chk q0) h1 h2 h3 h4
 ·unfold FAR;omega
theorem gLeast_any (p:Int) (a:Option Addr) (n cap:Nat) (bs:List Bd) (x y:Int) (w:World) (hb:BdsAt w a n cap bs) :
 Calls Tryz.prog 86 #[.agg #[.int .i64 p,.slice a n cap],.int .i64 x,.int .i64 y] w fun e w'=>e=.returned (.tuple #[.int .i64 (- grN p bs y x),.bool (grB p bs y x),.int .i64 (askE p bs y x)])∧Below w.heap.size w w':=by
 have hbx:=hb.below (w':=w.alloc (Obj.cells #[.int .i64 p,.slice a n cap] 57)) ((Below.refl _ _).alloc (Nat.le_refl _) _)
 have hG:=gGreatest_any p a n cap bs y x _ hbx
 obtain ⟨r1,r2⟩:=grN_range p bs y x
 unfold FAR at r2
 generalize grN p bs y x=g1 at *
 generalize grB p bs y x=g2 at *
 generalize askE p bs y x=g3 at *
 go_enter Tryz.func86,Tryz.ntmps86
 go_wp2_with (go_at_call 85;refine hG.mono ?_;rintro e w2 ⟨rfl,hb2⟩)
 refine bodyPost_ret (v:=.tuple #[.int .i64 (-g1),.bool g2,.int .i64 g3]) (by simp [results,Tryz.results86,go_sem, *]) rfl ⟨rfl,((Below.refl _ w).alloc (Nat.le_refl _) _).trans (hb2.mono (by simp))⟩
def attT (bs:List Bd) (x y n:Int):List Bd:=if x=y then bs else bs ++[⟨x,y,n,0⟩,⟨y,x, -n,0⟩]
def nearB (n:Int):Bool:=withinB n (-100000000) 100000000
def attF (p:Int) (bs:List Bd) (x y n:Int):Bool:=!(decide (x=y) && decide (n≠0)) && okB p (attT bs x y n)
theorem Sys.tied {p:Int} {bs:List Bd} (h:Sys p bs) (h4:bs.length≤400) {x y n:Int} (hxy:both p x y=true) (hn:nearB n=true):Sys p (bs ++[⟨x,y,n,0⟩,⟨y,x, -n,0⟩]):=by
 obtain ⟨⟨h1,h2⟩,h3,h5⟩:=both_in hxy
 have h6:=h.p2
 have h7:=withinB_iff.1 hn
 refine ⟨h.p1,h.p2,by simp;omega,fun b hb=>?_⟩
 rw [List.mem_append] at hb
 rcases hb with hb | hb
 ·exact h.inr b hb
 ·simp at hb
  rcases hb with rfl | rfl <;> exact ⟨by simp only [];omega,by simp only [];omega,by simp only [];omega,by simp only [];omega,by simp only [];omega,by simp only [];omega⟩
set_option maxHeartbeats 4000000
theorem sin_any (n a b:Int) (w:World):Calls Tryz.prog 77 #[.int .i64 n,.int .i64 a,.int .i64 b] w fun e w'=>e=.returned (.bool (rngB n a b))∧w=w':=by
 by_cases h1:a≤n <;>
 ·go_enter Tryz.func77,Tryz.ntmps77
  go_wp2
  go_ret
  exact ⟨by simp [rngB, *] <;> omega,rfl⟩
theorem sspans_any (x:Itm) (a b:Int) (w:World):Calls Tryz.prog 142 #[x.v,.int .i64 a,.int .i64 b] w fun e w'=>e=.returned (.bool (rngB x.lo a x.hi && decide (x.hi≤b)))∧Below w.heap.size w w':=by
 have hI:=fun w1=>sin_any x.lo a x.hi w1
 simp only [Itm.v,Itm.cs]
 cases h:rngB x.lo a x.hi
 all_goals
  rw [h] at hI
  go_enter Tryz.func142,Tryz.ntmps142
  go_wp2_with (go_at_call 77;(with_reducible refine (hI _).mono ?_);rintro e w1 ⟨rfl,rfl⟩)
  exact Z4i
theorem sisName1_any (c:UInt8) (w:World):Calls Tryz.prog 195 #[.int .u8 c.toNat] w fun e w'=>e=.returned (.bool (!chrB c))∧Below w.heap.size w w':=by
 have he:(!chrB c)=!chrI (c.toNat:Int):=by rw [chrB_I]
 generalize (!chrB c)=T at *
 have hc0:(0:Int)≤(c.toNat:Int):=by omega
 have hc1:(c.toNat:Int)≤255:=by have:=c.toNat_lt;omega
 have He:=Lib.hid he
 clear he
 generalize (c.toNat:Int)=x at *
 go_enter Tryz.func195,Tryz.ntmps195
 go_wp2
 all_goals
  go_ret
  refine ⟨ret_bool ?_,Below.refl _ _⟩
  rw [He.out]
  unfold chrI
  grind
theorem sisName_any (s:ByteArray) (w:World) (hs:s.size≤maxLen):Calls Tryz.prog 144 #[.string s] w fun e w'=>e=.returned (.bool (nameB s.data.toList))∧Below w.heap.size w w':=by
 unfold maxLen at hs
 have he:=nameB_eq s
 generalize nameB s.data.toList=T at *
 obtain ⟨A,hA⟩:∃ A,s.data.toList.all chrB=A:=⟨_,rfl⟩
 rw [hA] at he
 have He:=Lib.hid he
 clear he
 have hW:=fun w1=>sin_any (s.size:Int) 1 24 w1
 have hent:∀ args w,(callFunc 195 args).run Tryz.prog w=.ok (.enter 195 args) w:=enters_of Tryz.func195 Zk rfl
 have hCon:=fun a cap w1 (h:BysAt w1 a s.size cap s.data.toList)=>conB_any 195 #[] (fun c=>!chrB c) a s.size cap s.data.toList w1 h hent (fun x _ w2 _=>sisName1_any x w2)
 rw [all_any,hA] at hCon
 clear hA
 by_cases h0:0<s.size∧s.size≤24
 ·obtain ⟨h0,h1⟩:=h0
  have hw:rngB (s.size:Int) 1 24=true:=by unfold rngB;simp;omega
  rw [hw] at hW
  have hb0:=Lib.hid (by_at h0)
  have hr0:(0:Int)≤(s[0]).toNat:=by omega
  have hcv:=fun w1=>Lib.run_convert_string_bytes (P:=Tryz.prog) w1 9 84 5 s Tryz.underlying9 Tryz.underlying84 Tryz.underlying5
  have hbw:=fun w1=>bysW w1 5 s (by omega)
  go_enter Tryz.func144,Tryz.ntmps144
  go_wp2_with (first
   | (go_at_call 77;(with_reducible refine (hW _).mono ?_);rintro e w1 ⟨rfl,rfl⟩)
   | (go_at_call 194;refine (hCon _ _ _ (hbw _).1).mono ?_;rintro e w2 ⟨rfl,hb2⟩))
  all_goals
   go_ret
   refine ⟨ret_bool ?_,by first | exact (hbw _).2.ch2 hb2 | exact Below.refl _ _⟩
   rw [He.out]
   have z:=hb0.out
   generalize ((s[0]).toNat:Int)=y at *
   subst z
   clear hcv hbw hCon hW hent
   rw [decide_eq_true h0,decide_eq_true h1]
   generalize by_ s 0=y at *
   first
    | (cases A <;> simp <;> omega)
    | (trace_state;fail)
 ·have hw:rngB (s.size:Int) 1 24=false:=by unfold rngB;rw [Bool.eq_false_iff];simp;omega
  rw [hw] at hW
  have hF:(decide (0<s.size) && decide (s.size≤24))=false:=by rw [Bool.eq_false_iff];simp;omega
  have HF:=Lib.hid hF
  clear hF
  go_enter Tryz.func144,Tryz.ntmps144
  go_wp2_with (go_at_call 77;(with_reducible refine (hW _).mono ?_);rintro e w1 ⟨rfl,rfl⟩)
  go_ret
  refine ⟨ret_bool ?_,Below.refl _ _⟩
  rw [He.out,HF.out]
  rfl
set_option maxHeartbeats 1000000
theorem gi_far0 {a j:Int} (h0:0≤a) (h1:a<60) (q0:0≤j) (q1:j<60):gi (far0 a) j=if j=a then 0 else FAR:=by
 exact Z74
theorem gi_zeros (j:Int):gi (List.replicate 60 0) j=0:=by
 unfold gi
 rw [List.getD_eq_getElem?_getD,List.getElem?_replicate]
 split <;> rfl
theorem okB_keeps {p:Int} {bs:List Bd} (hs:Sys p bs) (h:okB p bs=true):keepsB bs (gi (gsol p bs).1.r) :=
 keeps_of_settle hs.inr (by simp) h (fun j _ _=>by show gi (List.replicate 60 0) j<FAR;rw [gi_zeros];unfold FAR;omega)
theorem gD_self {p:Int} {bs:List Bd} (hs:Sys p bs) (h:okB p bs=true) {a:Int} (h0:0≤a) (h1:a<p):gD p bs a a=0:=by
 have hp:=hs.p2
 have hu:=settle_le hs.inr (p +1).toNat ⟨far0 a,List.replicate 60 (-1),0⟩ (far0_len a) a h0 (by omega)
 have hl:=settle_above (c:= - gi (gsol p bs).1.r a) hs.inr (okB_keeps hs h) (p +1).toNat ⟨far0 a,List.replicate 60 (-1),0⟩ (far0_len a) (fun j q0 q1 hj=>by
  simp only at hj ⊢
  rw [gi_far0 h0 (by omega) q0 q1] at hj ⊢
  split at hj
  ·rename_i e;subst e;simp;omega
  ·exact absurd hj (Int.lt_irrefl _)) a h0 (by omega)
 simp only at hu
 rw [gi_far0 h0 (by omega) h0 (by omega),if_pos rfl] at hu
 have:=hl (by unfold FAR at *;omega)
 unfold gD gfrom
 omega
open Go.RowKit Go.Shelf
set_option maxHeartbeats 1000000
set_option maxRecDepth 100000
def attOut (p:Int) (bs:List Bd) (x y n:Int) (OB FB base:Nat) (w':World):Prop:=∃ v,w'.heap[OB]?=some (.cells #[v] 61 (0,0))∧w'.heap[FB]?=some (.cells #[.bool (attF p bs x y n)] 4 (0,0)) ∧
    (attF p bs x y n=false→v=.slice none 0 0)∧(attF p bs x y n=true→w'.ownsRow base 3 1 v p.toNat ((solR p (attT bs x y n)).map (.int .i64)))
theorem attOut.chg {p:Int} {bs:List Bd} {x y n:Int} {OB FB base:Nat} {w w':World} {E:List Nat} (h:attOut p bs x y n OB FB base w) (hc:SL.Chg E w w') (h1:OB ∉ E) (h2:FB ∉ E) (h3:∀ k ∈ E,k<base):attOut p bs x y n OB FB base w':=by
 obtain ⟨v,q1,q2,q3,q4⟩:=h
 exact ⟨v,heap_chg q1 hc h1,heap_chg q2 hc h2,q3,fun h=>row_chg (q4 h) hc h3⟩
set_option maxHeartbeats 4000000
/-- Two parts that hold the same, wherever their lists lie. -/
structure SameP (p q:Pt):Prop where
 sh:p.sh=q.sh
 re:p.re=q.re
 lo:p.lo=q.lo
 hi:p.hi=q.hi
 lob:p.lob=q.lob
 hib:p.hib=q.hib
 ft:p.ft=q.ft
 fby:p.fby=q.fby
theorem SameP.refl (p:Pt):SameP p p:=⟨rfl,rfl,rfl,rfl,rfl,rfl,rfl,rfl⟩
/-- Two cases that hold the same. -/
structure SameC (c d:Cs):Prop where
 ware:c.ware=d.ware
 lim:c.lim=d.lim
 byr:c.byr=d.byr
 len:c.ps.length=d.ps.length
 each:∀ i,i<c.ps.length→SameP (c.ps.getD i default) (d.ps.getD i default)
/-- Letters so far. -/
def ascN (s:List UInt8):Nat→Bool
 | 0=>true
 | k +1=>ascN s k && (decide (97≤(s.getD k 0).toNat) && decide ((s.getD k 0).toNat≤122) && (decide (k=0) || decide ((s.getD (k - 1) 0).toNat<(s.getD k 0).toNat)))
theorem ascN_iff (s:List UInt8):∀ k,k≤s.length→(ascN s k=true ↔ ∀ i,i<k→(97≤(s.getD i 0).toNat∧(s.getD i 0).toNat≤122)∧(i=0∨(s.getD (i - 1) 0).toNat<(s.getD i 0).toNat))
 | 0,_=>by simp [ascN]
 | k +1,h=>by
   have ih:=ascN_iff s k (by omega)
   unfold ascN
   rw [Bool.and_eq_true,ih]
   simp only [Bool.and_eq_true,Bool.or_eq_true,decide_eq_true_eq]
   constructor
   ·rintro ⟨h1,h2⟩ i hi
    by_cases e:i=k
    ·subst e;exact h2
    ·exact h1 i (by omega)
   ·intro h1
    exact ⟨fun i hi=>h1 i (by omega),h1 k (by omega)⟩
theorem ascS_iff:∀ (s:List UInt8),ascS s=true ↔ ∀ i,i<s.length→(97≤(s.getD i 0).toNat∧(s.getD i 0).toNat≤122)∧(i=0∨(s.getD (i - 1) 0).toNat<(s.getD i 0).toNat)
 | []=>by simp [ascS]
 | [c]=>by
   unfold ascS
   simp only [Bool.and_eq_true,decide_eq_true_eq,List.length_cons,List.length_nil]
   constructor
   ·intro h i hi
    obtain rfl:i=0:=by omega
    exact ⟨by simpa using h,.inl rfl⟩
   ·intro h
    simpa using (h 0 (by omega)).1
 | c::d::l=>by
   have ih:=ascS_iff (d::l)
   unfold ascS
   rw [Bool.and_eq_true,ih]
   simp only [Bool.and_eq_true,decide_eq_true_eq]
   constructor
   ·rintro ⟨⟨⟨h1,h2⟩,h3⟩,h4⟩ i hi
    cases i with
    | zero=>exact ⟨⟨h1,h2⟩,.inl rfl⟩
    | succ i =>
      have:=h4 i Z37
      refine ⟨by simpa using this.1,.inr ?_⟩
      cases i with
      | zero=>simpa using h3
      | succ i =>
        rcases this.2 with e | e
        ·omega
        ·simpa using e
   ·intro h
    refine ⟨⟨by simpa using (h 0 (by simp)).1,?_⟩,fun i hi=>?_⟩
    ·have:=(h 1 (by simp)).2
     rcases this with e | e
     ·omega
     ·simpa using e
    ·have:=h (i +1) Z37
     refine ⟨by simpa using this.1,?_⟩
     cases i with
     | zero=>exact .inl rfl
     | succ i =>
       rcases this.2 with e | e
       ·omega
       ·exact .inr (by simpa using e)
theorem ascN_all (s:List UInt8):ascN s s.length=ascS s:=by
 rw [Bool.eq_iff_iff,ascN_iff s s.length (Nat.le_refl _),ascS_iff]
theorem ascN_pre {s:List UInt8} {k:Nat} (hk:k≤s.length) (h:ascN s k=false):ascS s=false:=by
 rw [Bool.eq_false_iff] at h ⊢
 intro h2
 exact h ((ascN_iff s k hk).2 fun i hi=>(ascS_iff s).1 h2 i (by omega))
def Cs.dem (c:Cs) (lo hi:Int):Int:=if c.chk=0 then (YtelkcohhagblaaaGreat.dem c.s lo hi:Int) else 0
set_option maxHeartbeats 1000000
open Go
theorem SameP.n {p q:Pt} (h:SameP p q):p.n=q.n:=by unfold Pt.n;rw [h.lo,h.hi,h.ft]
theorem SameP.symm {p q:Pt} (h:SameP p q):SameP q p:=⟨h.sh.symm,h.re.symm,h.lo.symm,h.hi.symm,h.lob.symm,h.hib.symm,h.ft.symm,h.fby.symm⟩
theorem SameP.trans {p q r:Pt} (h:SameP p q) (k:SameP q r):SameP p r:=⟨h.sh.trans k.sh,h.re.trans k.re,h.lo.trans k.lo,h.hi.trans k.hi,h.lob.trans k.lob,h.hib.trans k.hib,h.ft.trans k.ft,h.fby.trans k.fby⟩
theorem SameC.symm {c d:Cs} (h:SameC c d):SameC d c:=⟨h.ware.symm,h.lim.symm,h.byr.symm,h.len.symm,fun i hi=>(h.each i (by rw [h.len];exact hi)).symm⟩
theorem SameC.trans {c d e:Cs} (h:SameC c d) (k:SameC d e):SameC c e:=⟨h.ware.trans k.ware,h.lim.trans k.lim,h.byr.trans k.byr,h.len.trans k.len,fun i hi=>(h.each i hi).trans (k.each i (by rw [← h.len];exact hi))⟩
theorem SameC.refl (c:Cs):SameC c c:=⟨rfl,rfl,rfl,rfl,fun _ _=>SameP.refl _⟩
/-- What a part holds, wherever its lists lie. -/
def Pt.bare (p:Pt):Pt:=⟨none,0,p.sh,p.lo,p.hi,p.lob,p.hib,p.ft,p.fby,none,0,p.re⟩
theorem SameP.bare {p q:Pt}:SameP p q ↔ p.bare=q.bare:=by
 unfold Pt.bare
 constructor
 ·rintro ⟨a,b,c,d,e,f,g,h⟩;rw [a,b,c,d,e,f,g,h]
 ·intro h;simp only [Pt.mk.injEq,true_and] at h
  exact ⟨h.1,h.2.2.2.2.2.2.2,h.2.1,h.2.2.1,h.2.2.2.1,h.2.2.2.2.1,h.2.2.2.2.2.1,h.2.2.2.2.2.2.1⟩
theorem SameC.bares {c d:Cs} (h:SameC c d):c.ps.map Pt.bare=d.ps.map Pt.bare:=by
 apply List.ext_getElem
 ·simpa using h.len
 ·intro i h1 h2
  have:=SameP.bare.1 (h.each i (by simpa using h1))
  simp only [List.length_map] at h1 h2
  simpa [List.getD_eq_getElem?_getD,h1,h2] using this
theorem disB_bare:∀ (ps:List Pt),disB (ps.map Pt.bare)=disB ps
 | []=>rfl
 | p::l=>by
   have ih:=disB_bare l
   simp only [List.map_cons,disB,ih,List.all_map]
   rfl
theorem cchk_bare (ware:List UInt8) (lim by_:Int) (ps:List Pt):cchk ware lim by_ (ps.map Pt.bare)=cchk ware lim by_ ps:=by
 unfold cchk
 rw [disB_bare,List.length_map,List.all_map]
 rfl
theorem pns_bare (ps:List Pt):pns (ps.map Pt.bare)=pns ps:=by
 unfold pns;rw [List.map_map];rfl
theorem SameC.chk {c d:Cs} (h:SameC c d):c.chk=d.chk:=by
 unfold Cs.chk
 rw [← cchk_bare,← cchk_bare _ _ _ d.ps,h.bares,h.ware,h.lim,h.byr]
theorem SameC.s {c d:Cs} (h:SameC c d):c.s=d.s:=by
 unfold Cs.s
 rw [← pns_bare,← pns_bare d.ps,h.bares]
open Go.RowKit Go.Shelf
set_option maxHeartbeats 1000000
set_option maxRecDepth 100000
open Go
theorem pw_sort (l:List Int):(l.mergeSort fun x y=>decide (x≤y)).Pairwise (·≤·):=by
 have h:=List.pairwise_mergeSort (le:=fun x y:Int=>decide (x≤y)) (fun a b c h1 h2=>by simp at *;omega) (fun a b=>by simp;omega) l
 exact h.imp fun {a b} h=>by simpa using h
theorem perm_sort (l:List Int):(l.mergeSort fun x y=>decide (x≤y)).Perm l:=List.mergeSort_perm l _
theorem asc_ext {a b:List Int} (ha:Asc a) (hb:Asc b) (h:∀ x,x ∈ a ↔ x ∈ b):a=b:=by
 have hp:a.Perm b:=(List.perm_ext_iff_of_nodup ha.nodup hb.nodup).2 h
 exact hp.eq_of_pairwise (le:=(·≤·)) (fun x y _ _ h1 h2=>by omega) (ha.imp fun {a b} (h:a<b)=>by omega) (hb.imp fun {a b} (h:a<b)=>by omega)
theorem comp_go (d:Array Int) (hs:∀ i j,i≤j→j<d.size→d[i]! ≤d[j]!):∀ m,m≤d.size→Asc (Lib.compactUpTo d m)∧∀ x,x ∈ Lib.compactUpTo d m ↔ ∃ j,j<m∧d[j]! =x
 | 0,_=>by simp [Lib.compactUpTo,Asc]
 | m +1,hm=>by
   obtain ⟨h1,h2⟩:=comp_go d hs m (by omega)
   rw [Lib.compactUpTo_succ]
   have hk:Lib.keeps d m=decide (m=0∨d[m]! ≠d[m - 1]!):=rfl
   cases hc:Lib.keeps d m
   ·rw [hk] at hc
    simp only [decide_eq_false_iff_not,not_or,Classical.not_not] at hc
    simp only [Bool.false_eq_true,if_false,List.append_nil]
    refine ⟨h1,fun x=>?_⟩
    rw [h2]
    constructor
    ·rintro ⟨j,hj,e⟩;exact ⟨j,by omega,e⟩
    ·rintro ⟨j,hj,e⟩
     by_cases hjm:j=m
     ·subst hjm;exact ⟨j - 1,by omega,by rw [← hc.2];exact e⟩
     ·exact ⟨j,by omega,e⟩
   ·rw [hk,decide_eq_true_eq] at hc
    simp only [if_true]
    refine ⟨List.pairwise_append.2 ⟨h1,by simp,fun x hx y hy=>?_⟩,fun x=>?_⟩
    ·simp only [List.mem_singleton] at hy
     subst hy
     obtain ⟨j,hj,rfl⟩:=(h2 x).1 hx
     have a1:=hs j (m - 1) (by omega) (by omega)
     have a2:=hs (m - 1) m (by omega) (by omega)
     rcases hc with h | h
     ·omega
     ·omega
    ·rw [List.mem_append,h2]
     constructor
     ·rintro (⟨j,hj,e⟩ | h)
      ·exact ⟨j,by omega,e⟩
      ·simp at h;exact ⟨m,by omega,h.symm⟩
     ·rintro ⟨j,hj,e⟩
      by_cases hjm:j=m
      ·subst hjm;right;simp [e]
      ·left;exact ⟨j,by omega,e⟩
theorem compact_sorted (l:List Int):Lib.compact (l.mergeSort fun x y=>decide (x≤y))=ascOf l:=by
 have hp:=pw_sort l
 have hm:=perm_sort l
 generalize (l.mergeSort fun x y=>decide (x≤y))=q at *
 have hg:=comp_go q.toArray (fun i j hij hj=>by
  have hj':j<q.length:=by simpa using hj
  have:=pw_get hp hij hj'
  simpa [List.getD_eq_getElem?_getD,hj',show i<q.length by omega] using this) q.length (by simp)
 unfold Lib.compact
 refine asc_ext hg.1 (ascOf_asc _) fun x=>?_
 rw [hg.2,mem_ascOf,← hm.mem_iff]
 constructor
 ·rintro ⟨j,hj,e⟩
  rw [← e]
  simp [hj]
 ·intro h
  obtain ⟨j,hj,e⟩:=List.getElem_of_mem h
  exact ⟨j,hj,by simp [hj,e]⟩
theorem sort_len (l:List Int):(l.mergeSort fun x y=>decide (x≤y)).length=l.length:=(perm_sort l).length_eq
open Go.RowKit Go.Shelf Go.Maps
set_option maxHeartbeats 4000000
set_option maxRecDepth 100000
theorem plainElem_bool_inv {P:Program} {e:TypeId} {H:Type} (he:P.underlying e=some .bool) {v:Value} {z:DataW H × List MemPlace} (h:plainElem P e v=some z):∃ c,v=.bool c∧z=(.lit (.bool c),[]):=by
 unfold plainElem at h
 rw [he] at h
 cases v <;> simp at h
 exact ⟨_,rfl,h.symm⟩
/-- A set of ints: of each number whether it is in the list. -/
structure SeenIs (D:DataW Unit) (xs:List Int):Prop where
 map:IsMap D
 at_:∀ x:Int,D.atKey (.int .i64 x) (.lit (.bool false))=.lit (.bool (decide (x ∈ xs)))
theorem SeenIs.nil:SeenIs (.map []) []:=⟨isMap_empty,fun x=>by simp [DataW.atKey]⟩
theorem SeenIs.put {D:DataW Unit} {xs:List Int} (h:SeenIs D xs) (x:Int):SeenIs (D.put (.int .i64 x) (.lit (.bool true))) (xs ++[x]):=by
 refine ⟨h.map.put _ _,fun y=>?_⟩
 by_cases e:y=x
 ·subst e
  rw [atKey_put_same h.map (show WideAt.IsKeyLit (.int .i64 y) from trivial)]
  simp
 ·rw [atKey_put_other (fun h=>e (by injection h with _ h)),h.at_]
  simp [e]
theorem below_grown {w w':World} (h:Below w.heap.size w w'):w.grownBy w' none:=⟨h.os,h.tape,h.output,h.size,fun k hk _=>h.block k hk⟩
theorem keyI:Keyed Tryz.prog 3:=int_keyed Tryz.underlying3
theorem zvB (w:World):(zeroValue 4).run Tryz.prog w=.ok (.bool false) w:=by simp [go_sem]
open Go.RowKit Go.Shelf
set_option maxHeartbeats 4000000
set_option maxRecDepth 100000
set_option maxHeartbeats 1000000
open Go.Maps
set_option maxHeartbeats 4000000
theorem ownsMap_keepsW {H:Type} {P:Program} {k:TypeId} {R:Value→Option (DataW H × List MemPlace)} {W W':World} {B b n:Nat} {D:DataW H} (h:W.ownsMap P k R b n D) (hk:KeepsW B W W') (hB:B≤b):W'.ownsMap P k R b n D:=by
 obtain ⟨es,clock,hb,F,hs,hD⟩:=h
 exact ⟨es,clock,hk.same b _ hB hb rfl,F,hs,hD⟩
/-- The Ids that are withdrawn by the first items. -/
def voidsL (l:List Itm):List Int:=(l.filter fun y=>y.kd == 7).map (·.vo)
theorem mem_voids {l:List Itm} {id:Int}:id ∈ voidsL l ↔ voidB l id=true:=by
 unfold voidsL voidB
 simp only [List.mem_map,List.mem_filter,List.any_eq_true,Bool.and_eq_true,beq_iff_eq]
 constructor
 ·rintro ⟨y,⟨h1,h2⟩,h3⟩;exact ⟨y,h1,h2,h3⟩
 ·rintro ⟨y,h1,h2,h3⟩;exact ⟨y,⟨h1,h2⟩,h3⟩
theorem voids_succ {l:List Itm} {k:Nat} (hk:k<l.length):voidsL (l.take (k +1))=voidsL (l.take k) ++(if (l.getD k default).kd=7 then [(l.getD k default).vo] else []):=by
 rw [List.take_succ_eq_append_getElem hk,List.getD_eq_getElem?_getD,List.getElem?_eq_getElem hk]
 unfold voidsL
 rw [List.filter_append,List.map_append]
 congr 1
 simp only [Option.getD_some,List.filter_cons,List.filter_nil,beq_iff_eq]
 split <;> rfl
/-- Those that stand among the first. -/
def standN (l:List Itm) (k:Nat):List Itm:=(l.take k).filter fun x=>x.kd != 7 && !voidB l x.id
theorem standN_all (l:List Itm):standN l l.length=standL l:=by unfold standN standL;rw [List.take_length]
theorem standN_succ {l:List Itm} {k:Nat} (hk:k<l.length):standN l (k +1)=standN l k ++(if ((l.getD k default).kd != 7 && !voidB l (l.getD k default).id)=true then [l.getD k default] else []):=by
 unfold standN
 rw [List.take_succ_eq_append_getElem hk,List.getD_eq_getElem?_getD,List.getElem?_eq_getElem hk,List.filter_append]
 congr 1
 simp only [Option.getD_some,List.filter_cons,List.filter_nil]
theorem standN_split {l:List Itm} {k:Nat} (hk:k<l.length) (h:((l.getD k default).kd != 7 && !voidB l (l.getD k default).id)=true):∃ post,standL l=standN l k ++l.getD k default::post:=by
 have e:l=l.take (k +1) ++l.drop (k +1):=(List.take_append_drop _ _).symm
 refine ⟨(l.drop (k +1)).filter fun x=>x.kd != 7 && !voidB l x.id,?_⟩
 have h1:standL l=standN l (k +1) ++(l.drop (k +1)).filter fun x=>x.kd != 7 && !voidB l x.id:=by
  unfold standN standL
  rw [← List.filter_append,List.take_append_drop]
 rw [h1,standN_succ hk,if_pos h]
 simp
open Go.RowKit Go.Shelf
set_option maxHeartbeats 40000000
set_option maxRecDepth 100000
/-- A part whose lists are its own. -/
structure OwnPt (w:World) (base:Nat) (p:Pt):Prop where
 sh:w.ownsRow base 3 1 (.slice p.sa p.sh.length p.sc) p.sh.length (p.sh.map (.int .i64))
 re:w.ownsRow base 3 1 (.slice p.ra p.re.length p.rc) p.re.length (p.re.map (.int .i64))
theorem OwnPt.at_ {w:World} {base:Nat} {p:Pt} (h:OwnPt w base p) (h1:p.sh.length≤10000) (h2:p.re.length≤10000):PtAt w p:=⟨(IntsAt.of_owns h.sh (by omega)).lat,(IntsAt.of_owns h.re (by omega)).lat⟩
theorem OwnPt.up {w w':World} {base:Nat} {p:Pt} (h:OwnPt w base p) (hb:Below w.heap.size w w'):OwnPt w' base p:=⟨h.sh.up hb (Nat.le_refl _),h.re.up hb (Nat.le_refl _)⟩
open Go
def spareK {α:Type} (nd:List α→Bool) (rest:List α):Nat→List α
 | 0=>rest
 | i +1=>spareK nd (if nd (rest.eraseIdx i) then rest else rest.eraseIdx i) i
def spareL {α:Type} (nd:List α→Bool) (l:List α):List α:=spareK nd l l.length
theorem spareK_sub {α:Type} (nd:List α→Bool):∀ (i:Nat) (rest:List α),(spareK nd rest i).Sublist rest
 | 0,rest=>List.Sublist.refl _
 | i +1,rest=>by
   unfold spareK
   refine (spareK_sub nd i _).trans ?_
   split
   ·exact List.Sublist.refl _
   ·exact List.eraseIdx_sublist _ _
def idsI (l:List Itm):List Int:=ascOf (l.map (·.id))
end Go.Proofs.YtelkcohhagblaaaGreat

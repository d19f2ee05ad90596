/- What the functions answer, for every input. -/
import Derived.Test.YtelkcohhagblaaaGreatSe06
import Derived.Defers
import Derived.Recover
import Derived.Laws.Pointers
import Derived.WalkKit
import Derived.Test.YtelkcohhagblaaaGreatSe02
import Derived.Test.YtelkcohhagblaaaGreatSe05
set_option linter.unusedSimpArgs false
set_option linter.unusedVariables false
set_option linter.unnecessarySimpa false
namespace Go.Proofs.YtelkcohhagblaaaGreat
open Go
def earlyL (l:List Itm) (day:Int):List Itm:=l.filter fun x=>decide (x.kn≤day)
def countL (l:List Itm) (day:Int):List Itm:=standL (earlyL l day)
/-- A sherd. -/
structure Shd where
 id:Int
 wa:ByteArray
 pit:Int
 ly:Int
 co:Int
 ft:Bool
def Shd.zero:Shd:=⟨0,⟨#[]⟩,0,0,0,false⟩
instance:Inhabited Shd:=⟨Shd.zero⟩
def Shd.cs (x:Shd):List Value:=[.int .i64 x.id,.string x.wa,.int .i64 x.pit,.int .i64 x.ly,.int .i64 x.co,.bool x.ft]
def Shd.v (x:Shd):Value:=.agg x.cs.toArray
def Itm.shd (x:Itm):Shd:=⟨x.id,x.wa,x.pit,x.ly,x.co,x.ft⟩
/-- The sherd with an Id. -/
def sherdO (s:List Itm) (id:Int):Option Shd:=(s.find? fun x=>x.id == id && x.kd == 1).map Itm.shd
/-- The measurements of a kind of a sherd. -/
def keptL (s:List Itm) (k id:Int):List Itm:=s.filter fun x=>x.kd == k && x.sh == id
theorem standL_sub {l:List Itm} {x:Itm} (h:x ∈ standL l):x ∈ l∧x.kd≠7:=by
 unfold standL at h
 rw [List.mem_filter] at h
 exact ⟨h.1,by have:=h.2;simp at this;exact this.1⟩
theorem countL_sub {l:List Itm} {day:Int} {x:Itm} (h:x ∈ countL l day):x ∈ l∧x.kn≤day∧x.kd≠7:=by
 obtain ⟨h1,h2⟩:=standL_sub h
 unfold earlyL at h1
 rw [List.mem_filter] at h1
 exact ⟨h1.1,by simpa using h1.2,h2⟩
theorem countL_ids {l:List Itm} (h:l.Pairwise fun x y=>x.id≠y.id) (day:Int):(countL l day).Pairwise fun x y=>x.id≠y.id:=(h.filter _).filter _
theorem countL_len (l:List Itm) (day:Int):(countL l day).length≤l.length:=Nat.le_trans (List.length_filter_le _ _) (List.length_filter_le _ _)
theorem ids_inj {s:List Itm} (h:s.Pairwise fun x y=>x.id≠y.id):∀ {x y:Itm},x ∈ s→y ∈ s→x.id=y.id→x=y:=by
 induction s with
 | nil=>intro x y hx;cases hx
 | cons z s ih =>
   rw [List.pairwise_cons] at h
   intro x y hx hy e
   rcases List.mem_cons.1 hx with h1 | h1 <;> rcases List.mem_cons.1 hy with h2 | h2
   ·rw [h1,h2]
   ·subst h1;exact absurd e (h.1 y h2)
   ·subst h2;exact absurd e.symm (h.1 x h1)
   ·exact ih h.2 h1 h2 e
/-- The colour: its ends, and on what they rest. -/
structure Spn where
 lo:Int
 hi:Int
 lob:Int
 hib:Int
instance:Inhabited Spn:=⟨⟨0,0,0,0⟩⟩
def Spn.cs (x:Spn):List Value:=[.int .i64 x.lo,.int .i64 x.hi,.int .i64 x.lob,.int .i64 x.hib]
def Spn.v (x:Spn):Value:=.agg x.cs.toArray
def colS (o:Spn) (x:Itm):Spn:=⟨if o.lo<x.lo then x.lo else o.lo,if x.hi<o.hi then x.hi else o.hi,if o.lo<x.lo then x.id else o.lob,if x.hi<o.hi then x.id else o.hib⟩
def colL (l:List Itm):Spn:=l.foldl colS ⟨0,1000,0,0⟩
/-- The classes that are in all sets. -/
def letC:List UInt8:=[97,98,99,100,101,102,103,104,105,106,107,108,109,110,111,112,113,114,115,116,117,118,119,120,121,122]
def comC (sets:List (List UInt8)):List UInt8:=letC.filter fun c=>sets.all fun s=>s.contains c
def setsL (l:List Itm):List (List UInt8):=l.map fun x=>x.st.data.toList
open Go.RowKit Go.Shelf
open Go.RowKit Go.Shelf
set_option maxHeartbeats 1000000
set_option maxRecDepth 100000
theorem as_foreign (v:Value) (w:World):(Instr.typeAssert (.iface 188 v) 20 188 true).run Tryz.prog w=.ok (.tuple #[v,.bool true]) w:=by kernel_rfl
theorem grec_idle (N:Nat) (w:World):CallsD Tryz.prog 174 #[.pointer (some ⟨N,0,none⟩)] .returning w fun e u' w'=>e=.returned (.tuple #[])∧u'=.returning∧w'=w:=by
 refine callsD_of_wpS Tryz.func174 rfl fun c₀ cs hu=>?_
 apply wpS_seq
 apply wpS_region
 simp [wpOpsS,go_sem,recoverD,hu,Tryz.ntmps174,Exit.thenS]
 refine wpS_of_wp ?_
 go_wp2
 refine ⟨rfl,.returning,by rw [← hu],.tuple #[],results_none rfl _ _ _,rfl,rfl,rfl⟩
theorem grec_panic (N:Nat) (old:Value) (w:World) (hN:w.heap[N]?=some (.cells #[old] 28 (0,0))):CallsD Tryz.prog 174 #[.pointer (some ⟨N,0,none⟩)] (.panicking gaveUp) w fun e u' w' =>
 e=.returned (.tuple #[])∧u'=.panicking [{ v:=foreign,recovered:=true }]∧SL.Chg [N] w w'∧w'.heap[N]?=some (.cells #[.int .i64 1] 28 (0,0)):=by
 have hc:=(SL.cells_of hN).1 0
 have hf:=(SL.cells_of hN).2 0
 have hNl:N<w.heap.size:=(Array.getElem?_eq_some_iff.1 hN).1
 simp at hc
 refine callsD_of_wpS Tryz.func174 rfl fun c₀ cs hu=>?_
 apply wpS_seq
 apply wpS_region
 simp [wpOpsS,go_sem,recoverD,hu,Tryz.ntmps174,Exit.thenS,gaveUp,foreign]
 have has:=as_foreign
 refine wpS_of_wp ?_
 go_wp2
 exact ⟨rfl,_,rfl,.tuple #[],results_none rfl _ _ _,rfl,rfl,SL.Chg.trans (SL.Chg.setCell w (p:=⟨N,0,none⟩) (by simp) _) (SL.Chg.alloc _ _ _),(Below.heap_alloc _ _ _ (by simpa using hNl)).trans (SL.heap_set hN _)⟩
theorem SL.Chg.up {E:List Nat} {w w2 w3:World} (h:SL.Chg E w w2) (hb:Below w.heap.size w2 w3):SL.Chg E w w3 :=
 ⟨hb.os.trans h.os,hb.tape.trans h.tape,hb.output.trans h.output,Nat.le_trans h.size hb.size,fun k hk hn=>(hb.block k hk).trans (h.block k hk hn)⟩
theorem row_chg {w w':World} {base:Nat} {t:TypeId} {size n:Nat} {v:Value} {xs:List Value} {E:List Nat} (h:w.ownsRow base t size v n xs) (hc:SL.Chg E w w') (hE:∀ k ∈ E,k<base):w'.ownsRow base t size v n xs :=
 SL.row_stab h fun k hk=>by
  obtain ⟨h1,h2⟩:=SL.row_bounds h k hk
  exact hc.block k h2 (fun hm=>by have:=hE k hm;omega)
theorem heap_chg {w w':World} {N:Nat} {o:Obj} {E:List Nat} (h:w.heap[N]?=some o) (hc:SL.Chg E w w') (hE:N ∉ E):w'.heap[N]?=some o :=
 (hc.block N (Array.getElem?_eq_some_iff.1 h).1 hE).trans h
theorem gtried_any (p:Int) (a:Option Addr) (n cap:Nat) (bs:List Bd) (k:Nat) (caps:Array Value) (w:World) (hb:BdsAt w a n cap bs) (E:List Nat) (hE:∀ i ∈ E,i<w.heap.size) (R:Int→World→Prop) (Rp:World→Prop)
 (hR:∀ c w1 w2,R c w1→SL.Chg [w.heap.size +1] w1 w2→R c w2) (hRp:∀ w1 w2,Rp w1→SL.Chg [w.heap.size +1] w1 w2→Rp w2) (hent:∀ args w,(callFunc k args).run Tryz.prog w=.ok (.enter k args) w)
 (hdo:chk p bs=0→∀ w1,Below w.heap.size w w1→w.heap.size +2≤w1.heap.size→Calls Tryz.prog k caps w1 fun e w'=>SL.Chg E w1 w'∧((∃ c,e=.returned (.int .i64 c)∧R c w')∨(e=.panicked gaveUp∧Rp w'))) :
 Calls Tryz.prog 111 #[.agg #[.int .i64 p,.slice a n cap],.func (.func k) #[] caps] w fun e w'=>∃ c,e=.returned (.int .i64 c)∧SL.Chg E w w'∧(chk p bs≠0→c=chk p bs∧Below w.heap.size w w')∧(chk p bs=0→R c w'∨(c=1∧Rp w')):=by
 have hmf:=makeFunc_run
 have hbx:=hb.below (w':=(w.alloc (Obj.cells #[.int .i64 p,.slice a n cap] 57)).alloc (Obj.cells #[.int .i64 0] 28)) Z5
 by_cases h0:chk p bs=0
 ·go_enter_defers Tryz.func111,Tryz.ntmps111
  go_wp2_with (go_at_call 152;refine (gcheck_any _ _ _ _ _ _ hbx).mono ?_;rintro e w1 ⟨rfl,hb1⟩;obtain ⟨hc1,hf1⟩:=bcell hb1;have hz1a:=lt_size hb1 (b:=w.heap.size) Z9;have hz1b:=lt_size hb1 (b:=w.heap.size+1) Z9)
  have hE1:w1.heap[w.heap.size +1]?=some (.cells #[.int .i64 0] 28 (0,0)):=(hb1.block _ (by simp)).trans (heap_alloc2_new _ _ _)
  have hB1:Below w.heap.size w w1:=Below.trans Z5 (hb1.mono Zj)
  have hz1:=hb1.size
  simp only [World.size_alloc] at hz1
  clear hc1 hf1
  refine (hdo h0 w1 hB1 (by omega)).mono ?_
  rintro e w2 ⟨hC,(⟨c,rfl,hRc⟩ | ⟨rfl,hP⟩)⟩
  ·have hE2:=(hC.block (w.heap.size +1) (by omega) (fun h=>by have:=hE _ h;omega)).trans hE1
   have c2:=(SL.cells_of hE2).1 0
   have f2:=(SL.cells_of hE2).2 0
   simp at c2
   go_wp2
   refine leaves_cons (f:=174) (args:=#[.pointer (some ⟨w.heap.size +1,0,none⟩)]) (by simp) Z2a ?_
   refine (grec_idle _ _).mono ?_
   rintro e u' w3 ⟨rfl,rfl,rfl⟩
   simp [Leaves,Go.settle,results,Tryz.results111,go_sem,c2]
   have bS:Below w.heap.size w2 (w2.setCell ⟨w.heap.size +1,0,none⟩ (.int .i64 c)):=(Below.refl _ _).setCell (by simp) _
   exact ⟨((SL.Chg.of_below hB1).trans hC).up bS,fun h=>absurd h0 h,fun _=>.inl (hR _ _ _ hRc (.setCell _ (by simp) _))⟩
  ·have hE2:=(hC.block (w.heap.size +1) (by omega) (fun h=>by have:=hE _ h;omega)).trans hE1
   go_wp2
   refine leaves_cons (f:=174) (args:=#[.pointer (some ⟨w.heap.size +1,0,none⟩)]) (by simp) Z2a ?_
   refine (grec_panic _ _ _ hE2).mono ?_
   rintro e u' w3 ⟨rfl,rfl,hC3,hE3⟩
   have c3:=(SL.cells_of hE3).1 0
   simp at c3
   simp [Leaves,Go.settle,results,Tryz.results111,go_sem,c3]
   have bS:Below w.heap.size w2 w3:=hC3.belowE (by have:=hC.size;omega) (by simp)
   exact ⟨((SL.Chg.of_below hB1).trans hC).up bS,fun h=>absurd h0 h,fun _=>.inr (hRp _ _ hP hC3)⟩
 ·have h0':(chk p bs == 0)=false:=by simpa using h0
  go_enter_defers Tryz.func111,Tryz.ntmps111
  go_wp2_with (go_at_call 152;refine (gcheck_any _ _ _ _ _ _ hbx).mono ?_;rintro e w1 ⟨rfl,hb1⟩;obtain ⟨hc1,hf1⟩:=bcell hb1;have hz1a:=lt_size hb1 (b:=w.heap.size) Z9;have hz1b:=lt_size hb1 (b:=w.heap.size+1) Z9)
  have hB1:Below w.heap.size w w1:=Below.trans Z5 (hb1.mono Zj)
  have hE1:w1.heap[w.heap.size +1]?=some (.cells #[.int .i64 0] 28 (0,0)):=(hb1.block _ (by simp)).trans (heap_alloc2_new _ _ _)
  have c2:=(SL.cells_of hE1).1 0
  simp at c2
  have hB2:Below w.heap.size w (w1.setCell ⟨w.heap.size +1,0,none⟩ (.int .i64 (chk p bs))):=hB1.setCell (by simp) _
  simp [bodyPostD,Leaves,Go.settle,results,Tryz.results111,go_sem,c2,h0]
  exact ⟨.of_below hB2,hB2⟩
theorem SL.Chg.undrew {E:List Nat} {w w':World} (h:SL.Chg E w.drew w'):SL.Chg E w w':=⟨h.os,h.tape,h.output,h.size,h.block⟩
open Go
set_option maxRecDepth 100000
theorem chkFrom_skip {l:List Itm}:∀ {k i d:Nat},(∀ j,i≤j→j<i +d→refE (l.take j) (l.getD j default)=0)→chkFrom l (d +k) i=chkFrom l k (i +d)
 | k,i,0,_=>by simp
 | k,i,d +1,h=>by
   have e:d +1 +k=(d +k) +1:=by omega
   rw [e]
   show (if refE (l.take i) (l.getD i default)=0 then chkFrom l (d +k) (i +1) else (i,refE (l.take i) (l.getD i default)))=_
   rw [if_pos (h i (Nat.le_refl _) (by omega))]
   have:=chkFrom_skip (l:=l) (k:=k) (i:=i +1) (d:=d) (fun j h1 h2=>h j (by omega) (by omega))
   rw [this,show i +1 +d=i +(d +1) by omega]
theorem chk_all {l:List Itm} (h:∀ j,j<l.length→refE (l.take j) (l.getD j default)=0):chkI l=(0,0):=by
 have:=chkFrom_skip (l:=l) (k:=0) (i:=0) (d:=l.length) (fun j _ h2=>h j (by omega))
 unfold chkI
 rw [Nat.add_zero] at this
 rw [this]
 rfl
theorem chk_first {l:List Itm} {m:Nat} (hm:m<l.length) (h:∀ j,j<m→refE (l.take j) (l.getD j default)=0) (h2:refE (l.take m) (l.getD m default)≠0):chkI l=(m,refE (l.take m) (l.getD m default)):=by
 have:=chkFrom_skip (l:=l) (k:=l.length - m) (i:=0) (d:=m) (fun j _ h2=>h j (by omega))
 unfold chkI
 rw [show m +(l.length - m)=l.length by omega,Nat.zero_add] at this
 rw [this]
 obtain ⟨k,hk⟩:∃ k,l.length - m=k +1:=⟨l.length - m - 1,by omega⟩
 rw [hk]
 unfold chkFrom
 rw [if_neg h2]
theorem stand_all {l:List Itm} (h:∀ x ∈ l,x.kd≠7):standL l=l:=by
 unfold standL
 rw [List.filter_eq_self]
 intro x hx
 have hv:voidB l x.id=false:=by
  unfold voidB
  rw [List.any_eq_false]
  intro y hy
  have:=h y hy
  simp [this]
 simp [h x hx,hv]
def aL:ByteArray:=⟨#[97]⟩
def mstX:Itm:={ Itm.zero with id:=1,kd:=1,wa:=aL,pit:=1,ly:=1,co:=3 }
def mstC (i:Nat):Itm:={ Itm.zero with id:=(i:Int) +2,kd:=4,sh:=1,hi:=i }
def mstA (n:Nat):List Itm:=mstX::(List.range n).map mstC
def mstI (i:Nat):Itm:={ Itm.zero with id:=(i:Int) +1,kn:=i,kd:=6,wa:=aL,li:=1 +(i:Int).tmod 40 }
def mstB (n:Nat):List Itm:=(List.range n).map mstI
theorem mstA_take {n j:Nat} (h:j≤n):(mstA n).take (j +1)=mstA j:=by
 unfold mstA
 rw [List.take_succ_cons,← List.map_take,List.take_range,Nat.min_eq_left h]
theorem mstA_get {n j:Nat} (h:j<n):(mstA n).getD (j +1) default=mstC j:=by
 unfold mstA
 simp [List.getD_eq_getElem?_getD,h]
theorem mstB_take {n j:Nat} (h:j≤n):(mstB n).take j=mstB j:=by
 unfold mstB
 rw [← List.map_take,List.take_range,Nat.min_eq_left h]
theorem mstB_get {n j:Nat} (h:j<n):(mstB n).getD j default=mstI j:=by
 unfold mstB
 simp [List.getD_eq_getElem?_getD,h]
theorem mstA_len (n:Nat):(mstA n).length=n +1:=by simp [mstA]
theorem mstB_len (n:Nat):(mstB n).length=n:=by simp [mstB]
theorem mstA_succ (n:Nat):mstA (n +1)=mstA n ++[mstC n]:=by simp [mstA,List.range_succ]
theorem mstB_succ (n:Nat):mstB (n +1)=mstB n ++[mstI n]:=by simp [mstB,List.range_succ]
theorem mstC_ok {i:Nat} (h:i≤1000):itemB (mstC i)=true:=by
 have e:(mstC i).form=mstC i:=rfl
 unfold itemB
 rw [e,eqI_refl]
 have h1:rngB ((i:Int) +2) 1 1000000=true:=rngB_iff.2 ⟨by omega,by omega⟩
 have h2:decide ((0:Int)≤(i:Int))=true:=decide_eq_true (by omega)
 have h3:decide ((i:Int)≤1000)=true:=decide_eq_true (by omega)
 show ((rngB ((i:Int) +2) 1 1000000 && rngB 0 0 100000) && ((rngB 1 1 1000000 && decide ((0:Int)≤0) && decide ((0:Int)≤(i:Int)) && decide ((i:Int)≤1000)) && true))=true
 rw [h1,h2,h3]
 decide
theorem mstI_ok {i:Nat} (h:i≤1000):itemB (mstI i)=true:=by
 have e:(mstI i).form=mstI i:=rfl
 have hn:nameB aL.data.toList=true:=by decide
 have h1:(0:Int)≤(i:Int).tmod 40:=Int.tmod_nonneg _ (by omega)
 have h2:(i:Int).tmod 40<40:=Int.tmod_lt_of_pos _ (by omega)
 unfold itemB
 rw [e,eqI_refl]
 have h3:rngB ((i:Int) +1) 1 1000000=true:=rngB_iff.2 ⟨by omega,by omega⟩
 have h4:rngB (i:Int) 0 100000=true:=rngB_iff.2 ⟨by omega,by omega⟩
 have h5:rngB (1 +(i:Int).tmod 40) 1 40=true:=rngB_iff.2 ⟨by omega,by omega⟩
 show ((rngB ((i:Int) +1) 1 1000000 && rngB (i:Int) 0 100000) && ((nameB aL.data.toList && rngB (1 +(i:Int).tmod 40) 1 40) && true))=true
 rw [h3,h4,h5,hn]
 rfl
theorem mstA_own (j:Nat):ownN (mstA j) 1=j:=by
 have hs:standL (mstA j)=mstA j:=stand_all (fun x hx=>by
  unfold mstA at hx
  rcases List.mem_cons.1 hx with rfl | hx
  ·decide
  ·obtain ⟨i,_,rfl⟩:=List.mem_map.1 hx;show (4:Int)≠7;decide)
 unfold ownN
 rw [hs]
 unfold mstA
 rw [List.filter_cons,if_neg (by decide),List.filter_map]
 have:(List.range j).filter ((fun z:Itm=>z.sh == 1) ∘ mstC)=List.range j:=by
  rw [List.filter_eq_self]
  intro i _
  rfl
 rw [this]
 simp
theorem mstA_ref {j:Nat} (h:j≤200):refE (mstA j) (mstC j)=if 150≤j then 2 else 0:=by
 have hs:standL (mstA j)=mstA j:=stand_all (fun x hx=>by
  unfold mstA at hx
  rcases List.mem_cons.1 hx with rfl | hx
  ·decide
  ·obtain ⟨i,_,rfl⟩:=List.mem_map.1 hx;show (4:Int)≠7;decide)
 have ha:(mstA j).any (fun y=>y.id == (mstC j).id)=false:=by
  rw [List.any_eq_false]
  intro y hy
  unfold mstA at hy
  rcases List.mem_cons.1 hy with rfl | hy
  ·show ¬ (((1:Int) == (j:Int) +2)=true)
   simp;omega
  ·obtain ⟨i,hi,rfl⟩:=List.mem_map.1 hy
   rw [List.mem_range] at hi
   show ¬ ((((i:Int) +2) == (j:Int) +2)=true)
   simp;omega
 have hl:lateB (mstA j) (mstC j)=false:=by
  unfold lateB
  have:((mstA j).getD ((mstA j).length - 1) default).kn=0:=by
   rw [mstA_len,Nat.add_sub_cancel]
   cases j with
   | zero=>rfl
   | succ j=>rw [mstA_get (by omega)];rfl
  rw [this]
  show (_ && decide ((0:Int)<0))=false
  simp
 have hf:findI (mstA j) 1=some mstX:=by
  unfold findI
  rw [hs]
  rfl
 unfold refE
 rw [mstA_len,if_neg (by omega),if_neg (by rw [mstC_ok (by omega)];simp),if_neg (by rw [ha];simp),if_neg (by rw [hl];simp)]
 have e:ofE (mstA j) (mstC j)=(match findI (mstA j) 1 with
  | none=>5
  | some y=>if y.kd≠1 then 5 else if (mstC j).kd=2∧y.co<(mstC j).tw∨(mstC j).kd=3∧y.co≤(mstC j).tw then 1 else if 150≤ownN (mstA j) y.id then 2 else 0):=rfl
 rw [e,hf]
 have e2:mstX.id=1:=rfl
 simp only [e2,mstA_own]
 rfl
theorem mstA_ref0:refE [] mstX=0:=by decide +kernel
theorem mstA_chk {n:Nat} (h:n≤160):chkI (mstA n)=if 150<n then (151,2) else (0,0):=by
 have h0:∀ j,j<n +1→j≤150→refE ((mstA n).take j) ((mstA n).getD j default)=0:=fun j h1 h2=>by
  cases j with
  | zero=>exact mstA_ref0
  | succ j =>
    rw [mstA_take (by omega),mstA_get (by omega),mstA_ref (by omega),if_neg (by omega)]
 by_cases hn:150<n
 ·rw [if_pos hn]
  have e:refE ((mstA n).take 151) ((mstA n).getD 151 default)=2:=by
   rw [mstA_take (j:=150) (by omega),mstA_get (j:=150) (by omega),mstA_ref (by omega),if_pos (by omega)]
  have:=chk_first (l:=mstA n) (m:=151) (by rw [mstA_len];omega) (fun j hj=>h0 j (by omega) (by omega)) (by rw [e];decide)
  rw [this,e]
 ·rw [if_neg hn]
  exact chk_all (fun j hj=>h0 j (by rw [mstA_len] at hj;exact hj) (by rw [mstA_len] at hj;omega))
theorem mstB_ref {j:Nat} (h:j≤400):refE (mstB j) (mstI j)=if 300≤j then 2 else 0:=by
 by_cases h3:300≤j
 ·unfold refE
  rw [mstB_len,if_pos h3,if_pos h3]
 have ha:(mstB j).any (fun y=>y.id == (mstI j).id)=false:=by
  rw [List.any_eq_false]
  intro y hy
  unfold mstB at hy
  obtain ⟨i,hi,rfl⟩:=List.mem_map.1 hy
  rw [List.mem_range] at hi
  show ¬ ((((i:Int) +1) == (j:Int) +1)=true)
  simp;omega
 have hl:lateB (mstB j) (mstI j)=false:=by
  unfold lateB
  cases j with
  | zero=>rfl
  | succ j =>
    have:((mstB (j +1)).getD ((mstB (j +1)).length - 1) default).kn=(j:Int):=by
     rw [mstB_len,Nat.add_sub_cancel,mstB_get (by omega)];rfl
    rw [this]
    have e:(mstI (j +1)).kn=((j +1:Nat):Int):=rfl
    rw [e]
    simp
    intro _
    omega
 unfold refE
 rw [mstB_len,if_neg h3,if_neg (by rw [mstI_ok (by omega)];simp),if_neg (by rw [ha];simp),if_neg (by rw [hl];simp),if_neg h3]
 rfl
theorem mstB_chk {n:Nat} (h:n≤350):chkI (mstB n)=if 300<n then (300,2) else (0,0):=by
 have h0:∀ j,j<n→j<300→refE ((mstB n).take j) ((mstB n).getD j default)=0:=fun j h1 h2=>by
  rw [mstB_take (by omega),mstB_get (by omega),mstB_ref (by omega),if_neg (by omega)]
 by_cases hn:300<n
 ·rw [if_pos hn]
  have e:refE ((mstB n).take 300) ((mstB n).getD 300 default)=2:=by
   rw [mstB_take (j:=300) (by omega),mstB_get (j:=300) (by omega),mstB_ref (by omega),if_pos (by omega)]
  have:=chk_first (l:=mstB n) (m:=300) (by rw [mstB_len];omega) (fun j hj=>h0 j (by omega) (by omega)) (by rw [e];decide)
  rw [this,e]
 ·rw [if_neg hn]
  exact chk_all (fun j hj=>by rw [mstB_len] at hj;exact h0 j hj (by omega))
open Go.RowKit Go.Shelf
set_option maxHeartbeats 2000000
set_option maxRecDepth 100000
def by_ (s:ByteArray) (k:Nat):Int:=((s.data.toList.getD k 0).toNat:Int)
theorem by_at {s:ByteArray} {k:Nat} (h:k<s.size):((s[k]).toNat:Int)=by_ s k:=by
 unfold by_
 have h':k<s.data.toList.length:=by simpa using h
 rw [List.getD_eq_getElem?_getD,List.getElem?_eq_getElem h']
 rfl
def chrI (c:Int):Bool:=(decide (97≤c) && decide (c≤122)) || (decide (48≤c) && decide (c≤57)) || decide (c=45)
theorem chrB_I (c:UInt8):chrB c=chrI (c.toNat:Int):=by
 unfold chrB chrI
 rw [Bool.eq_iff_iff]
 simp only [Bool.or_eq_true,Bool.and_eq_true,decide_eq_true_eq]
 omega
theorem nameB_eq (s:ByteArray):nameB s.data.toList=(decide (0<s.size) && decide (s.size≤24) && (decide (97≤by_ s 0) && decide (by_ s 0≤122)) && s.data.toList.all chrB):=by
 have hl:s.data.toList.length=s.size:=by simp
 unfold by_
 revert hl
 generalize s.data.toList=l
 intro hl
 unfold nameB
 cases l with
 | nil=>simp at hl;simp [← hl]
 | cons c l =>
   have:0<s.size:=by rw [← hl];simp
   rw [Bool.eq_iff_iff]
   simp only [hl,Bool.and_eq_true,decide_eq_true_eq,List.getD_cons_zero]
   grind
open Go Go.RowKit
theorem flatS_len {α:Type} {f:α→List Value} {k:Nat} (hf:∀ x,(f x).length=k):∀ (l:List α),(l.flatMap f).length=l.length * k
 | []=>by simp
 | x::l=>by
   have:=flatS_len hf l
   simp only [List.flatMap_cons,List.length_append,hf,this,List.length_cons,Nat.succ_mul]
   omega
theorem flatS_get {α:Type} [Inhabited α] {f:α→List Value} {k:Nat} (hf:∀ x,(f x).length=k):∀ (l:List α) (i j:Nat),i<l.length→j<k→(l.flatMap f)[i * k +j]?=(f (l.getD i default))[j]?
 | [],i,_,h,_=>by simp at h
 | x::l,0,j,_,hj=>by
   simp only [List.flatMap_cons,Nat.zero_mul,Nat.zero_add,List.getD_cons_zero]
   rw [List.getElem?_append_left (by rw [hf];exact hj)]
 | x::l,i +1,j,h,hj=>by
   have ih:=flatS_get hf l i j Z3v hj
   simp only [List.flatMap_cons,List.getD_cons_succ]
   rw [List.getElem?_append_right (by rw [hf,Nat.succ_mul];omega),hf,← ih]
   congr 1
   rw [Nat.succ_mul];omega
theorem rowS_cells {w:World} {a:Option Addr} {cap:Nat} {vs:List Value} (h:RowAt w a cap vs) (hne:vs≠[]):∃ b off,a=some ⟨b,off,none⟩∧b<w.heap.size∧∀ i u,vs[i]?=some u→w.cell? ⟨b,off +i,none⟩=some u:=by
 match a,h with
 | none,h=>exact absurd (h.nil rfl).1 hne
 | some ⟨b,off,sp⟩,h =>
   obtain ⟨h1,h2,h3⟩:=h.at_ _ rfl
   simp only at h1
   subst h1
   exact ⟨b,off,rfl,h2,h3⟩
def ics (l:List Itm):List Value:=l.flatMap Itm.cs
theorem ics_length (l:List Itm):(ics l).length=l.length * 16:=flatS_len (f:=Itm.cs) (k:=16) (fun _=>rfl) l
theorem ics_append (a b:List Itm):ics (a ++b)=ics a ++ics b:=by simp [ics]
theorem ics_one1 (x:Itm):ics [x]=x.cs:=by simp [ics]
theorem ics_one:∀ (l:List Itm),∀ u ∈ ics l,u.oneCell'=true:=by
 intro l u hu
 simp only [ics,List.mem_flatMap] at hu
 obtain ⟨p,_,hb⟩:=hu
 simp [Itm.cs] at hb
 rcases hb with rfl | rfl | rfl | rfl | rfl | rfl | rfl | rfl | rfl | rfl | rfl | rfl | rfl | rfl | rfl | rfl <;> rfl
/-- What a field can hold. -/
structure Itm.Wide (x:Itm):Prop where
 wa:x.wa.size≤maxLen
 st:x.st.size≤maxLen
 kd:0≤x.kd∧x.kd≤255
 idw:(Lit.int .i64 x.id).wf=true
 vow:(Lit.int .i64 x.vo).wf=true
/-- A slice of items. -/
structure ItmsAt (w:World) (a:Option Addr) (n cap:Nat) (l:List Itm):Prop where
 len:n=l.length
 small:l.length≤140737488351232
 row:RowAt w a cap (ics l)
 wide:∀ x ∈ l,x.Wide
theorem ItmsAt.below {w w':World} {a:Option Addr} {n cap:Nat} {l:List Itm} (h:ItmsAt w a n cap l) (hb:Below w.heap.size w w'):ItmsAt w' a n cap l:=⟨h.len,h.small,h.row.below hb,h.wide⟩
theorem Itm.mem {l:List Itm} {i:Nat} (h:i<l.length):l.getD i default ∈ l:=by rw [List.getD_eq_getElem?_getD,List.getElem?_eq_getElem h];exact List.getElem_mem _
/-- The sixteen cells of an item. -/
structure ItmCells (w:World) (b o:Nat) (x:Itm):Prop where
 c0:w.cell? ⟨b,o,none⟩=some (.int .i64 x.id)
 c1:w.cell? ⟨b,o +1,none⟩=some (.int .i64 x.kn)
 c2:w.cell? ⟨b,o +2,none⟩=some (.int .u8 x.kd)
 c3:w.cell? ⟨b,o +3,none⟩=some (.string x.wa)
 c4:w.cell? ⟨b,o +4,none⟩=some (.int .i64 x.pit)
 c5:w.cell? ⟨b,o +5,none⟩=some (.int .i64 x.ly)
 c6:w.cell? ⟨b,o +6,none⟩=some (.int .i64 x.co)
 c7:w.cell? ⟨b,o +7,none⟩=some (.bool x.ft)
 c8:w.cell? ⟨b,o +8,none⟩=some (.int .i64 x.sh)
 c9:w.cell? ⟨b,o +9,none⟩=some (.int .i64 x.fr)
 c10:w.cell? ⟨b,o +10,none⟩=some (.int .i64 x.tw)
 c11:w.cell? ⟨b,o +11,none⟩=some (.int .i64 x.lo)
 c12:w.cell? ⟨b,o +12,none⟩=some (.int .i64 x.hi)
 c13:w.cell? ⟨b,o +13,none⟩=some (.string x.st)
 c14:w.cell? ⟨b,o +14,none⟩=some (.int .i64 x.li)
 c15:w.cell? ⟨b,o +15,none⟩=some (.int .i64 x.vo)
theorem ItmsAt.get {w:World} {a:Option Addr} {n cap:Nat} {l:List Itm} (h:ItmsAt w a n cap l) {i:Nat} (hi:i<l.length):∃ b off,a=some ⟨b,off,none⟩∧b<w.heap.size∧ItmCells w b (off +i * 16) (l.getD i default):=by
 have g:=fun j hj=>flatS_get (f:=Itm.cs) (k:=16) (fun _=>rfl) l i j hi hj
 obtain ⟨b,off,h1,h2,h3⟩:=rowS_cells h.row (by intro e;have:=ics_length l;rw [e] at this;simp at this;omega)
 have k:=fun (j:Nat) (hj:j<16) (u:Value) (hu:(Itm.cs (l.getD i default))[j]?=some u)=>h3 (i * 16 +j) u ((g j hj).trans hu)
 simp only [← Nat.add_assoc] at k
 exact ⟨b,off,h1,h2,k 0 (by omega) _ rfl,k 1 (by omega) _ rfl,k 2 (by omega) _ rfl,k 3 (by omega) _ rfl,k 4 (by omega) _ rfl,k 5 (by omega) _ rfl,k 6 (by omega) _ rfl,k 7 (by omega) _ rfl,k 8 (by omega) _ rfl,k 9 (by omega) _ rfl,k 10 (by omega) _ rfl,k 11 (by omega) _ rfl,k 12 (by omega) _ rfl,k 13 (by omega) _ rfl,k 14 (by omega) _ rfl,k 15 (by omega) _ rfl⟩
theorem ItmsAt.of_owns {w:World} {base:Nat} {e:TypeId} {a:Option Addr} {n cap:Nat} {l:List Itm} (h:w.ownsRow base e 16 (.slice a n cap) n (ics l)) (hs:l.length≤140737488351232) (hw:∀ x ∈ l,x.Wide):ItmsAt w a n cap l :=
 ⟨by have:=h.1;rw [ics_length] at this;omega,hs,RowAt.of_owns h,hw⟩
/-- The first items of a slice. -/
theorem ItmsAt.take {w:World} {a:Option Addr} {n cap:Nat} {l:List Itm} (h:ItmsAt w a n cap l) (i c2:Nat) (hi:i≤l.length) (hc:a=none→c2=0):ItmsAt w a i c2 (l.take i):=by
 refine ⟨by rw [List.length_take];omega,by rw [List.length_take];have:=h.small;omega,⟨fun h0=>?_,fun x hx=>?_⟩,fun x hx=>h.wide x (List.mem_of_mem_take hx)⟩
 ·obtain ⟨h1,h2⟩:=h.row.nil h0
  have:=ics_length l
  rw [h1] at this
  simp at this
  have h3:l=[]:=List.eq_nil_of_length_eq_zero (by omega)
  subst h3
  exact ⟨by simp [ics],hc h0⟩
 ·obtain ⟨h1,h2,h3⟩:=h.row.at_ x hx
  refine ⟨h1,h2,fun j u hj=>h3 j u ?_⟩
  have e:ics l=ics (l.take i) ++ics (l.drop i):=by rw [← ics_append,List.take_append_drop]
  rw [e,List.getElem?_append_left (List.getElem?_eq_some_iff.1 hj).1]
  exact hj
/-- An item in a block of its own. -/
theorem ItmCells.of_heap {w:World} {N:Nat} {x:Itm} {t:TypeId} (h:w.heap[N]?=some (.cells #[.int .i64 x.id,.int .i64 x.kn,.int .u8 x.kd,.string x.wa,.int .i64 x.pit,.int .i64 x.ly,.int .i64 x.co,.bool x.ft,.int .i64 x.sh,.int .i64 x.fr,.int .i64 x.tw,.int .i64 x.lo,.int .i64 x.hi,.string x.st,.int .i64 x.li,.int .i64 x.vo] t (0,0))) :
 ItmCells w N 0 x∧(∀ i,w.frozen? ⟨N,i,none⟩=false)∧N<w.heap.size:=by
 have k:=(SL.cells_of h).1
 exact ⟨⟨k 0,k 1,k 2,k 3,k 4,k 5,k 6,k 7,k 8,k 9,k 10,k 11,k 12,k 13,k 14,k 15⟩,(SL.cells_of h).2,(Array.getElem?_eq_some_iff.1 h).1⟩
open Go.RowKit Go.Shelf
set_option maxHeartbeats 4000000
set_option maxRecDepth 100000
open Go
def bothL (x:Itm):List Bd:=[⟨x.fr,x.tw,x.hi,x.id⟩,⟨x.tw,x.fr, -x.lo,x.id⟩]
def msB (l:List Itm):List Bd:=l.flatMap bothL
def sidesL (n:Nat):List Bd:=(List.range n).map fun (i:Nat)=>⟨(i:Int) +1,i, -1,0⟩
def bendsL (n:Nat):List Bd:=(List.range n).flatMap fun (i:Nat)=>[⟨(i:Int),(i:Int) +1,179,0⟩,⟨(i:Int) +1,i,179,0⟩]
def waysB (co:Int) (ms:List Itm):List Bd:=sidesL co.toNat ++msB ms
def turnsB (co:Int) (ms:List Itm):List Bd:=bendsL (co.toNat - 1) ++msB ms
theorem msB_len (l:List Itm):(msB l).length=2 * l.length:=by
 unfold msB
 induction l with
 | nil=>rfl
 | cons x l ih=>simp only [List.flatMap_cons,List.length_append,ih,List.length_cons];simp [bothL];omega
theorem sidesL_len (n:Nat):(sidesL n).length=n:=by simp [sidesL]
theorem bendsL_len (n:Nat):(bendsL n).length=2 * n:=by
 unfold bendsL
 induction n with
 | zero=>rfl
 | succ n ih=>rw [List.range_succ,List.flatMap_append,List.length_append,ih];simp;omega
/-- A measurement between corners of a sherd. -/
structure MsOk (top:Int) (x:Itm):Prop where
 fr:0≤x.fr
 ft:x.fr<x.tw
 tw:x.tw≤top
 lo: -10000≤x.lo∧x.lo≤10000
 hi: -10000≤x.hi∧x.hi≤10000
 id:1≤x.id∧x.id≤1000000
theorem MsOk.bds {top p:Int} {x:Itm} (h:MsOk top x) (hp:p=top +1):∀ b ∈ bothL x,b.ok p=true:=by
 intro b hb
 obtain ⟨h1,h2,h3,h4,h5,h6⟩:=h
 simp only [bothL,List.mem_cons,List.not_mem_nil,or_false] at hb
 exact Z54
theorem chk_ways {co:Int} {ms:List Itm} (hc:3≤co∧co≤16) (hm:∀ x ∈ ms,MsOk co x) (hl:ms.length≤150):chk (co +1) (waysB co ms)=0:=by
 have h1:=msB_len ms
 have h2:=sidesL_len co.toNat
 have hlen:(waysB co ms).length≤400:=by unfold waysB;rw [List.length_append];omega
 unfold chk
 rw [if_neg (by omega),if_neg (by omega),if_pos]
 rw [List.all_eq_true]
 intro b hb
 unfold waysB at hb
 rcases List.mem_append.1 hb with hb | hb
 ·unfold sidesL at hb
  obtain ⟨i,hi,rfl⟩:=List.mem_map.1 hb
  rw [List.mem_range] at hi
  simp [Bd.ok,withinB]
  omega
 ·unfold msB at hb
  obtain ⟨x,hx,hb⟩:=List.mem_flatMap.1 hb
  exact (hm x hx).bds rfl b hb
theorem chk_turns {co:Int} {ms:List Itm} (hc:3≤co∧co≤16) (hm:∀ x ∈ ms,MsOk (co - 1) x) (hl:ms.length≤150):chk co (turnsB co ms)=0:=by
 have h1:=msB_len ms
 have h2:=bendsL_len (co.toNat - 1)
 have hlen:(turnsB co ms).length≤400:=by unfold turnsB;rw [List.length_append];omega
 unfold chk
 rw [if_neg (by omega),if_neg (by omega),if_pos]
 rw [List.all_eq_true]
 intro b hb
 unfold turnsB at hb
 rcases List.mem_append.1 hb with hb | hb
 ·unfold bendsL at hb
  obtain ⟨i,hi,hb⟩:=List.mem_flatMap.1 hb
  rw [List.mem_range] at hi
  simp only [List.mem_cons,List.not_mem_nil,or_false] at hb
  exact Z54
 ·unfold msB at hb
  obtain ⟨x,hx,hb⟩:=List.mem_flatMap.1 hb
  exact (hm x hx).bds (by omega) b hb

/-- Days do not go back. -/
theorem CatOk.days {l:List Itm} (h:CatOk l):l.Pairwise fun x y=>x.kn≤y.kn:=by
 have step:∀ i,i +1<l.length→(l.getD i default).kn≤(l.getD (i +1) default).kn:=fun i hi=>by
  have:=(refE_zero (h (i +1) hi)).2.2.2.1
  unfold lateB at this
  rw [List.length_take,Nat.min_eq_left (by omega)] at this
  have h2:(l.take (i +1)).getD (i +1 - 1) default=l.getD i default:=by
   rw [List.getD_eq_getElem?_getD,List.getElem?_take_of_lt (by omega),← List.getD_eq_getElem?_getD]
   rfl
  rw [h2] at this
  simp at this
  exact this
 have go:∀ d i,i +d<l.length→(l.getD i default).kn≤(l.getD (i +d) default).kn:=by
  intro d
  induction d with
  | zero=>intro i _;exact Int.le_refl _
  | succ d ih=>intro i hi;exact Int.le_trans (ih i (by omega)) (step (i +d) (by omega))
 rw [List.pairwise_iff_getElem]
 intro i j hi hj hij
 have:=go (j - i) i (by omega)
 rw [show i +(j - i)=j by omega] at this
 simpa [List.getD_eq_getElem?_getD,hi,hj] using this
theorem mem_stand {l:List Itm} {x:Itm}:x ∈ standL l ↔ x ∈ l∧x.kd≠7∧∀ v ∈ l,v.kd=7→v.vo≠x.id:=by
 unfold standL voidB
 rw [List.mem_filter]
 simp only [Bool.and_eq_true,bne_iff_ne,ne_eq,Bool.not_eq_true',List.any_eq_false,beq_iff_eq,not_and]
theorem mem_count {l:List Itm} {day:Int} {x:Itm}:x ∈ countL l day ↔ x ∈ l∧x.kn≤day∧x.kd≠7∧∀ v ∈ l,v.kn≤day→v.kd=7→v.vo≠x.id:=by
 unfold countL
 rw [mem_stand]
 unfold earlyL
 simp only [List.mem_filter,decide_eq_true_eq,and_imp,and_assoc]
/-- What counts late stood all along. -/
theorem count_stand {l:List Itm} (h:CatOk l) {day:Int} {j:Nat} (hj:j<l.length) (hd:(l.getD j default).kn≤day) {x:Itm} (hx:x ∈ countL l day) (hm:x ∈ l.take j):x ∈ standL (l.take j):=by
 obtain ⟨h1,h2,h3,h4⟩:=mem_count.1 hx
 refine mem_stand.2 ⟨hm,h3,fun v hv hk=>h4 v (List.mem_of_mem_take hv) ?_ hk⟩
 obtain ⟨i,hi,rfl⟩:=List.getElem_of_mem hv
 rw [List.length_take] at hi
 have:=List.pairwise_iff_getElem.1 h.days i j (by omega) hj (by omega)
 rw [List.getElem_take]
 rw [List.getD_eq_getElem?_getD,List.getElem?_eq_getElem hj] at hd
 exact Int.le_trans this hd
/-- The sherd of a measurement that counts. -/
theorem meas_of {l:List Itm} (h:CatOk l) {j:Nat} (hj:j<l.length) (hm:measB (l.getD j default).kd=true):∃ y ∈ l.take j,y.id=(l.getD j default).sh∧y.kd=1∧((l.getD j default).kd=2→(l.getD j default).tw≤y.co)∧((l.getD j default).kd=3→(l.getD j default).tw<y.co)∧ownN (l.take j) y.id<150:=by
 have h0:=(refE_zero (h j hj)).2.2.2.2
 generalize l.getD j default=x at *
 unfold ofE at h0
 rw [if_neg (by unfold measB at hm;simp at hm;omega),if_pos hm] at h0
 unfold findI at h0
 cases hf:(standL (l.take j)).find? (fun y=>y.id == x.sh) with
 | none=>rw [hf] at h0;simp at h0
 | some y =>
   rw [hf] at h0
   simp only at h0
   have hp:=List.find?_some hf
   have hmem:=(mem_stand.1 (List.mem_of_find?_eq_some hf)).1
   simp at hp
   split at h0
   ·omega
   rename_i h1
   split at h0
   ·omega
   rename_i h2
   split at h0
   ·omega
   rename_i h3
   refine ⟨y,hmem,hp,by simpa using h1,fun e=>?_,fun e=>?_,by omega⟩
   ·by_cases h5:y.co<x.tw
    ·exact absurd (Or.inl ⟨e,h5⟩) h2
    ·omega
   ·by_cases h5:y.co≤x.tw
    ·exact absurd (Or.inr ⟨e,h5⟩) h2
    ·omega
theorem kindB_ms {x:Itm} (h:itemB x=true) (hk:x.kd=2∨x.kd=3):0≤x.fr∧x.fr<x.tw∧(-10000≤x.lo∧x.lo≤10000)∧(-10000≤x.hi∧x.hi≤10000):=by
 unfold itemB kindB at h
 simp only [Bool.and_eq_true] at h
 have h2:=h.2.1
 rcases hk with hk | hk
 ·rw [if_neg (by omega),if_pos hk] at h2;simp at h2;omega
 ·rw [if_neg (by omega),if_neg (by omega),if_pos hk] at h2;simp at h2;omega
theorem itemB_corners {x:Itm} (h:itemB x=true) (hk:x.kd=1):3≤x.co∧x.co≤16:=by
 unfold itemB kindB at h
 simp only [Bool.and_eq_true] at h
 have h2:=h.2.1
 rw [if_pos hk] at h2
 simp [rngB] at h2
 omega
theorem sherdO_some {s:List Itm} {id:Int} {y:Shd} (h:sherdO s id=some y):∃ x ∈ s,x.id=id∧x.kd=1∧y=x.shd:=by
 unfold sherdO at h
 cases hf:s.find? (fun x=>x.id == id && x.kd == 1) with
 | none=>rw [hf] at h;cases h
 | some x =>
   rw [hf] at h
   have hp:=List.find?_some hf
   simp at hp h
   exact ⟨x,List.mem_of_find?_eq_some hf,hp.1,hp.2,h.symm⟩
theorem kept_ok {l:List Itm} (h:CatOk l) {day id:Int} {y:Shd} (hy:sherdO (countL l day) id=some y):(3≤y.co∧y.co≤16)∧y.id=id∧(∀ x ∈ keptL (countL l day) 2 id,MsOk y.co x)∧∀ x ∈ keptL (countL l day) 3 id,MsOk (y.co - 1) x:=by
 obtain ⟨z,hz,h1,h2,rfl⟩:=sherdO_some hy
 have hzl:=(mem_count.1 hz).1
 have key:∀ x,x ∈ countL l day→x.kd=2∨x.kd=3→x.sh=id→0≤x.fr∧x.fr<x.tw∧(-10000≤x.lo∧x.lo≤10000)∧(-10000≤x.hi∧x.hi≤10000)∧(1≤x.id∧x.id≤1000000)∧(x.kd=2→x.tw≤z.co)∧(x.kd=3→x.tw<z.co):=fun x hx hk hs=>by
  have hxl:=(mem_count.1 hx).1
  have hi:=h.item x hxl
  obtain ⟨a1,a2,a3,a4⟩:=kindB_ms hi hk
  have a5:=itemB_id hi
  obtain ⟨j,hj,e⟩:=List.getElem_of_mem hxl
  have e2:l.getD j default=x:=by rw [List.getD_eq_getElem?_getD,List.getElem?_eq_getElem hj];exact e
  obtain ⟨w,hw,b1,b2,b3,b4,_⟩:=meas_of h hj (by rw [e2];unfold measB;simp;omega)
  rw [e2] at b1 b3 b4
  have:w=z:=ids_inj h.ids (List.mem_of_mem_take hw) hzl (by omega)
  subst this
  exact ⟨a1,a2,a3,a4,⟨a5.1,a5.2.1⟩,b3,b4⟩
 refine ⟨itemB_corners (h.item z hzl) h2,h1,fun x hx=>?_,fun x hx=>?_⟩
 ·unfold keptL at hx
  rw [List.mem_filter] at hx
  obtain ⟨hx,hp⟩:=hx
  simp at hp
  obtain ⟨a1,a2,a3,a4,a5,a6,a7⟩:=key x hx (.inl hp.1) hp.2
  exact ⟨a1,a2,a6 hp.1,a3,a4,a5⟩
 ·unfold keptL at hx
  rw [List.mem_filter] at hx
  obtain ⟨hx,hp⟩:=hx
  simp at hp
  obtain ⟨a1,a2,a3,a4,a5,a6,a7⟩:=key x hx (.inr hp.1) hp.2
  exact ⟨a1,a2,by have:=a7 hp.1;simp [Itm.shd];omega,a3,a4,a5⟩
/-- A sherd has at most 150 measurements that count. -/
theorem kept_few {l:List Itm} (h:CatOk l) (day:Int) {id:Int} (hid:1≤id):((countL l day).filter fun x=>x.sh == id).length≤150:=by
 rcases Nat.eq_zero_or_pos ((countL l day).filter fun x=>x.sh == id).length with h0 | h0
 ·omega
 obtain ⟨F,x,hF⟩:∃ F x,(countL l day).filter (fun x=>x.sh == id)=F ++[x]:=by
  generalize (countL l day).filter (fun x=>x.sh == id)=G at h0
  have hne:G≠[]:=by intro e;rw [e] at h0;simp at h0
  exact ⟨G.dropLast,G.getLast hne,(List.dropLast_concat_getLast hne).symm⟩
 have hx:x ∈ (countL l day).filter fun x=>x.sh == id:=by rw [hF];simp
 rw [List.mem_filter] at hx
 obtain ⟨hx,hxs⟩:=hx
 simp at hxs
 have hxl:=(mem_count.1 hx).1
 obtain ⟨j,hj,e⟩:=List.getElem_of_mem hxl
 have e2:l.getD j default=x:=by rw [List.getD_eq_getElem?_getD,List.getElem?_eq_getElem hj];exact e
 have hms:measB x.kd=true:=by
  cases hm:measB x.kd
  ·have:=itemB_sh (h.item x hxl) hm;omega
  ·rfl
 obtain ⟨y,hy,b1,b2,_,_,b5⟩:=meas_of h hj (by rw [e2];exact hms)
 rw [e2,hxs] at b1
 rw [b1] at b5
 -- all the others stand before it
 have hsub:F.Sublist ((standL (l.take j)).filter fun z=>z.sh == id):=by
  have hpre:(F ++[x]).Sublist l:=by rw [← hF];exact (List.filter_sublist.trans List.filter_sublist).trans List.filter_sublist
  have hnd:=h.ids
  have hFl:F.Sublist (l.take j):=by
   have hsplit:l=l.take j ++x::l.drop (j +1):=by rw [← e,List.getElem_cons_drop,List.take_append_drop]
   rw [hsplit] at hpre hnd
   rcases List.sublist_append_iff.1 hpre with ⟨A,B,hAB,hA,hB⟩
   rcases List.append_eq_append_iff.1 hAB with ⟨C,h1,h2⟩ | ⟨C,h1,h2⟩
   ·-- A is longer than F
    rw [h1] at hA
    exact (List.sublist_append_left F C).trans hA
   ·-- some of F lies behind
    cases C with
    | nil=>simp at h1;rw [h1];exact hA
    | cons c C =>
      exfalso
      rw [h2] at hB
      have hc:c ∈ x::l.drop (j +1):=hB.subset (by simp)
      have hx2:(C ++[x]).Sublist (l.drop (j +1)):=by
       cases hB with
       | cons _ hs=>exact (List.sublist_cons_self c _).trans Z5o
       | cons_cons _ hs=>exact hs
      have hx3:x ∈ l.drop (j +1):=hx2.subset (by simp)
      rw [List.pairwise_append] at hnd
      have:=hnd.2.1
      rw [List.pairwise_cons] at this
      exact this.1 x hx3 rfl
  have hst:F.filter (fun z=>(z.kd != 7 && !voidB (l.take j) z.id) && z.sh == id)=F:=by
   rw [List.filter_eq_self]
   intro z hz
   have hz2:z ∈ (countL l day).filter fun x=>x.sh == id:=by rw [hF];simp [hz]
   rw [List.mem_filter] at hz2
   have hd:(l.getD j default).kn≤day:=by rw [e2];exact (mem_count.1 hx).2.1
   have h7:=count_stand h hj hd hz2.1 (hFl.subset hz)
   unfold standL at h7
   rw [List.mem_filter] at h7
   rw [h7.2,hz2.2]
   rfl
  rw [← hst]
  unfold standL
  rw [List.filter_filter]
  have:=hFl.filter (fun z=>(z.kd != 7 && !voidB (l.take j) z.id) && z.sh == id)
  simpa only [Bool.and_comm] using this
 have:=hsub.length_le
 rw [hF,List.length_append]
 unfold ownN at b5
 simp
 omega
open Go.RowKit Go.Shelf
set_option maxHeartbeats 4000000
set_option maxRecDepth 100000
def SL.three (n N M K:Nat):Nat→List Nat:=fun i=>if i=n then [N] else if i=n +1 then [M] else if i=n +2 then [K] else []
set_option maxHeartbeats 1000000
def both (p x y:Int):Bool:=[x,y].all (inP p)

/-- What asked$1 ends in. -/
def askEnd (p:Int) (bs:List Bd) (x y:Int) (E:List Nat) (S:World→Prop) (w1:World) (e:Ending) (w':World):Prop :=
 (both p x y=false→e=.panicked gaveUp∧Below w1.heap.size w1 w')∧(both p x y=true→okB p bs=false→e=.returned (.int .i64 10)∧Below w1.heap.size w1 w') ∧
 (both p x y=true→okB p bs=true→e=.returned (.int .i64 0)∧SL.Chg E w1 w'∧S w')
theorem gasked1_any (p:Int) (a:Option Addr) (n cap:Nat) (bs:List Bd) (x y:Int) (k:Nat) (caps:Array Value) (SB BA BB WB:Nat) (w1:World) (hs:Sys p bs) (hb:BdsAt w1 a n cap bs)
 (c0:w1.cell? ⟨SB,0,none⟩=some (.int .i64 p)) (c1:w1.cell? ⟨SB,1,none⟩=some (.slice a n cap)) (ca:w1.cell? ⟨BA,0,none⟩=some (.int .i64 x)) (cb:w1.cell? ⟨BB,0,none⟩=some (.int .i64 y)) (cw:w1.cell? ⟨WB,0,none⟩=some (.func (.func k) #[] caps))
 (hent:∀ args w,(callFunc k args).run Tryz.prog w=.ok (.enter k args) w) (E:List Nat) (S:World→Prop)
 (hw:both p x y=true→okB p bs=true→∀ w2,Below w1.heap.size w1 w2→Calls Tryz.prog k caps w2 fun e w'=>e=.returned (.tuple #[])∧SL.Chg E w2 w'∧S w') :
 Calls Tryz.prog 198 #[.pointer (some ⟨SB,0,none⟩),.pointer (some ⟨BA,0,none⟩),.pointer (some ⟨BB,0,none⟩),.pointer (some ⟨WB,0,none⟩)] w1 (askEnd p bs x y E S w1):=by
 have z0:=World.block_lt_of_cell? w1 _ c0
 have z1:=World.block_lt_of_cell? w1 _ ca
 have z2:=World.block_lt_of_cell? w1 _ cb
 have z3:=World.block_lt_of_cell? w1 _ cw
 simp only at z0 z1 z2 z3
 have hp:=hs.p1
 have hp2:=hs.p2
 have hpts:=fun (w:World) (al:Option Addr) (m c:Nat) (h:IntsAt w al m c [x,y])=>gpoints_any p a n cap al m c [x,y] w h ⟨hp,hp2⟩
 have hso:=fun (w:World) (h:BdsAt w a n cap bs)=>gsolvable_any p a n cap bs w h hs
 have hnew:IntsAt (w1.alloc (Obj.cells #[.int .i64 x,.int .i64 y] 3)) (some ⟨w1.heap.size,0,none⟩) 2 2 [x,y] :=
  ⟨rfl,by simp,RowAt.of_heap (World.alloc_heap_new w1 _)⟩
 have hbn:=hb.below (w':=w1.alloc (Obj.cells #[.int .i64 x,.int .i64 y] 3)) ((Below.refl _ _).alloc (Nat.le_refl _) _)
 change ∀ (w:World) (al:Option Addr) (m c:Nat) (_:IntsAt w al m c [x,y]),Calls Tryz.prog 113 #[.agg #[.int .i64 p,.slice a n cap],.slice al m c] w fun e w'=>e=(if both p x y then .returned (.tuple #[]) else .panicked gaveUp)∧Below w.heap.size w w' at hpts
 unfold askEnd
 generalize both p x y=o1 at *
 generalize okB p bs=o2 at *
 cases o1 with
 | false =>
   go_enter Tryz.func198,Tryz.ntmps198
   go_wp2_with (go_at_call 113;refine (hpts _ _ _ _ hnew).mono ?_;rintro e w2 ⟨rfl,hb2⟩)
   exact ⟨rfl,fun _=>⟨rfl,((Below.refl _ w1).alloc (Nat.le_refl _) _).trans (hb2.mono (by simp))⟩,(fun h=>by cases h),(fun h=>by cases h)⟩
 | true =>
   cases o2 with
   | false =>
     go_enter Tryz.func198,Tryz.ntmps198
     go_wp2_with (first
      | (go_at_call 113;refine (hpts _ _ _ _ hnew).mono ?_;rintro e w2 ⟨rfl,hb2⟩;obtain ⟨hc2,hf2⟩:=bcell hb2;have hz2a:=lt_size hb2 (b:=SB) Z9;have hz2b:=lt_size hb2 (b:=BA) Z9;have hz2c:=lt_size hb2 (b:=BB) Z9;have hz2d:=lt_size hb2 (b:=WB) Z9)
      | (go_at_call 116;refine (hso _ (hbn.below hb2)).mono ?_;rintro e w3 ⟨rfl,hb3⟩))
     have hz2:=hb2.size
     simp only [World.size_alloc] at hz2
     go_ret
     exact ⟨(fun h=>by cases h),fun _ _=>⟨rfl,(((Below.refl _ w1).alloc (Nat.le_refl _) _).trans (hb2.mono (by simp))).trans (hb3.mono (by omega))⟩,(fun _ h=>by cases h)⟩
   | true =>
     have hw':=hw rfl rfl
     go_enter Tryz.func198,Tryz.ntmps198
     go_wp2_with (first
      | (go_at_call 113;refine (hpts _ _ _ _ hnew).mono ?_;rintro e w2 ⟨rfl,hb2⟩;obtain ⟨hc2,hf2⟩:=bcell hb2;have hz2a:=lt_size hb2 (b:=SB) Z9;have hz2b:=lt_size hb2 (b:=BA) Z9;have hz2c:=lt_size hb2 (b:=BB) Z9;have hz2d:=lt_size hb2 (b:=WB) Z9)
      | (go_at_call 116;refine (hso _ (hbn.below hb2)).mono ?_;rintro e w3 ⟨rfl,hb3⟩;obtain ⟨hc3,hf3⟩:=bcell hb3;have hz3a:=lt_size hb3 (b:=SB) Z9;have hz3b:=lt_size hb3 (b:=BA) Z9;have hz3c:=lt_size hb3 (b:=BB) Z9;have hz3d:=lt_size hb3 (b:=WB) Z9))
     have hz2:=hb2.size
     simp only [World.size_alloc] at hz2
     have hB3:Below w1.heap.size w1 w3:=(((Below.refl _ w1).alloc (Nat.le_refl _) _).trans (hb2.mono (by simp))).trans (hb3.mono (by omega))
     refine (hw' w3 hB3).mono ?_
     rintro e w4 ⟨rfl,hC,hS⟩
     go_wp2
     go_ret
     exact ⟨(fun h=>by cases h),(fun _ h=>by cases h),fun _ _=>⟨rfl,(SL.Chg.of_below hB3).trans hC,hS⟩⟩

/-- The error that asked hands back. -/
def askE (p:Int) (bs:List Bd) (x y:Int):Int:=if chk p bs=0 then (if both p x y then (if okB p bs then 0 else 10) else 1) else chk p bs
theorem gasked_any (p:Int) (a:Option Addr) (n cap:Nat) (bs:List Bd) (x y:Int) (k:Nat) (caps:Array Value) (w:World) (hb:BdsAt w a n cap bs) (E:List Nat) (hE:∀ i ∈ E,i<w.heap.size) (S:World→Prop)
 (hS:∀ w1 w2,S w1→SL.Chg [w.heap.size +5] w1 w2→S w2) (hent:∀ args w,(callFunc k args).run Tryz.prog w=.ok (.enter k args) w)
 (hw:askE p bs x y=0→∀ w2,Below w.heap.size w w2→w.heap.size +6≤w2.heap.size→Calls Tryz.prog k caps w2 fun e w'=>e=.returned (.tuple #[])∧SL.Chg E w2 w'∧S w') :
 Calls Tryz.prog 154 #[.agg #[.int .i64 p,.slice a n cap],.int .i64 x,.int .i64 y,.func (.func k) #[] caps] w fun e w'=>e=.returned (.int .i64 (askE p bs x y))∧SL.Chg E w w'∧(askE p bs x y=0→S w')∧(askE p bs x y≠0→Below w.heap.size w w'):=by
 have hmf:=makeFunc_run
 -- the world with the boxes
 generalize hw4:(((w.alloc (Obj.cells #[.int .i64 p,.slice a n cap] 57)).alloc (Obj.cells #[.int .i64 x] 3)).alloc (Obj.cells #[.int .i64 y] 3)).alloc (Obj.cells #[.func (.func k) #[] caps] 1)=w4
 have hB4:Below w.heap.size w w4:=by rw [← hw4];((repeat (first | assumption | exact Below.refl _ _ | refine Below.alloc ?_ ?_ _ | refine Below.setCell ?_ ?_ _ | refine Below.drew ?_ | refine belowN ?_ | refine Below.up ?_ Z18 ?_)) <;> (first | assumption | omega | (simp;done) | (simp;omega)))
 have z4:w4.heap.size=w.heap.size +4:=by rw [← hw4];simp
 have c0:w4.cell? ⟨w.heap.size,0,none⟩=some (.int .i64 p):=by rw [← hw4];simp [go_sem]
 have c1:w4.cell? ⟨w.heap.size,1,none⟩=some (.slice a n cap):=by rw [← hw4];simp [go_sem]
 have c2:w4.cell? ⟨w.heap.size +1,0,none⟩=some (.int .i64 x):=by rw [← hw4];simp [go_sem]
 have c3:w4.cell? ⟨w.heap.size +1 +1,0,none⟩=some (.int .i64 y):=by rw [← hw4];simp [go_sem]
 have c4:w4.cell? ⟨w.heap.size +1 +1 +1,0,none⟩=some (.func (.func k) #[] caps):=by rw [← hw4];simp [go_sem]
 have hT:=gtried_any p a n cap bs 198 #[.pointer (some ⟨w.heap.size,0,none⟩),.pointer (some ⟨w.heap.size +1,0,none⟩),.pointer (some ⟨w.heap.size +1 +1,0,none⟩),.pointer (some ⟨w.heap.size +1 +1 +1,0,none⟩)] w4 (hb.below hB4) E (fun i hi=>by have:=hE i hi;omega)
  (fun c w'=>(askE p bs x y=c∧SL.Chg E w w'∧(c=0→S w')∧(c≠0→Below w.heap.size w w'))) (fun w'=>askE p bs x y=1∧Below w.heap.size w w')
  (fun c w1 w2 h hc2=>⟨h.1,h.2.1.up (hc2.belowE h.2.1.size Zj),fun h0=>hS _ _ (h.2.2.1 h0) (by rw [z4] at hc2;exact hc2),fun h0=>(h.2.2.2 h0).trans (hc2.belowE h.2.1.size Zj)⟩)
  (fun w1 w2 h hc2=>⟨h.1,h.2.trans (hc2.belowE h.2.size Zj)⟩) (enters_of Tryz.func198 Zk rfl) (fun h0 w1 hb1 hz1'=>by
   have hc:=(bcell hb1).1
   have hB1:Below w.heap.size w w1:=hB4.trans (hb1.mono (by omega))
   refine (gasked1_any p a n cap bs x y k caps _ _ _ _ w1 (Sys.of_chk h0) (hb.below hB1) ((hc _ _ (by omega)).trans c0) ((hc _ _ (by omega)).trans c1) ((hc _ _ (by omega)).trans c2) ((hc _ _ (by omega)).trans c3) ((hc _ _ (by omega)).trans c4) hent E S
    (fun h1 h2 w2 hb2=>hw (by simp [askE,h0,h1,h2]) w2 (hB1.trans (hb2.mono (by have:=hb1.size;omega))) (by have:=hb2.size;omega))).mono ?_
   rintro e w' ⟨e1,e2,e3⟩
   have hz1:=hb1.size
   cases h1:both p x y with
   | false =>
     obtain ⟨q1,q2⟩:=e1 h1
     have hB:Below w.heap.size w w':=hB1.trans (q2.mono (by omega))
     exact ⟨.of_below (q2),.inr ⟨q1,by simp [askE,h0,h1],hB⟩⟩
   | true =>
     cases h2:okB p bs with
     | false =>
       obtain ⟨q1,q2⟩:=e2 h1 h2
       have hB:Below w.heap.size w w':=hB1.trans (q2.mono (by omega))
       exact ⟨.of_below q2,.inl ⟨10,q1,by simp [askE,h0,h1,h2],.of_below hB,(fun h=>by cases h),fun _=>hB⟩⟩
     | true =>
       obtain ⟨q1,q2,q3⟩:=e3 h1 h2
       exact ⟨q2,.inl ⟨0,q1,by simp [askE,h0,h1,h2],(SL.Chg.of_below hB1).trans q2,fun _=>q3,fun h=>absurd rfl h⟩⟩)
 go_enter Tryz.func154,Tryz.ntmps154
 go_wp2_with fail
 refine hT.mono ?_
 rintro e w5 ⟨c,rfl,hC,h1,h2⟩
 go_wp2
 go_ret
 have hC':SL.Chg E w w5:=(SL.Chg.of_below hB4).trans hC
 by_cases h0:chk p bs=0
 ·rcases h2 h0 with ⟨q1,q2,q3,q4⟩ | ⟨rfl,q1,q2⟩
  ·rw [q1];exact ⟨rfl,q2,q3,q4⟩
  ·rw [q1];exact ⟨rfl,hC',(fun h=>by cases h),fun _=>q2⟩
 ·obtain ⟨rfl,q2⟩:=h1 h0
  have hq:askE p bs x y=chk p bs:=by simp [askE,h0]
  rw [hq]
  exact ⟨rfl,hC',fun h=>absurd h h0,fun _=>hB4.trans (q2.mono (by omega))⟩
/-- The i-th bound. -/
def bdI (bs:List Bd) (i:Int):Bd:=bs.getD i.toNat default
/-- Bounds one behind the other, from u to v. -/
def Wk (bs:List Bd):Int→List Int→Int→Prop
 | u,[],v=>u=v
 | u,i::L,v=>(0≤i∧i<bs.length)∧(bdI bs i).frm=u∧Wk bs (bdI bs i).tow L v
def wsum (bs:List Bd):List Int→Int
 | []=>0
 | i::L=>(bdI bs i).most +wsum bs L
def frms (bs:List Bd) (L:List Int):List Int:=L.map fun i=>(bdI bs i).frm
def tows (bs:List Bd) (L:List Int):List Int:=L.map fun i=>(bdI bs i).tow
theorem bdI_mem {bs:List Bd} {i:Int} (h:0≤i∧i<bs.length):bdI bs i ∈ bs:=by
 unfold bdI
 exact Z1f
theorem Wk.append {bs:List Bd} {w:Int} {B:List Int}:∀ {A:List Int} {u:Int},Wk bs u (A ++B) w ↔ ∃ v,Wk bs u A v∧Wk bs v B w
 | [],u=>by simp [Wk]
 | i::A,u=>by
   simp only [List.cons_append,Wk,Wk.append (A:=A)]
   constructor
   ·rintro ⟨h1,h2,v,h3,h4⟩;exact ⟨v,⟨h1,h2,h3⟩,h4⟩
   ·rintro ⟨v,⟨h1,h2,h3⟩,h4⟩;exact ⟨h1,h2,v,h3,h4⟩
theorem wsum_append (bs:List Bd) (B:List Int):∀ A:List Int,wsum bs (A ++B)=wsum bs A +wsum bs B
 | []=>by simp [wsum]
 | i::A=>by simp only [List.cons_append,wsum,wsum_append bs B A];omega

/-- A walk's points: those from which it goes, and its end; its beginning, and those to which it goes. -/
theorem Wk.turn {bs:List Bd}:∀ {L:List Int} {u v:Int},Wk bs u L v→u::tows bs L=frms bs L ++[v]
 | [],u,v,h=>by cases h;rfl
 | k::L,u,v,h=>by
   have ih:=Wk.turn h.2.2
   simp only [tows,frms,List.map_cons,List.cons_append] at ih ⊢
   rw [ih,h.2.1]

/-- What keeps all bounds keeps walks. -/
theorem Wk.keeps {bs:List Bd} {y:Int→Int} (hy:∀ b ∈ bs,y b.tow - y b.frm≤b.most):∀ {L:List Int} {u v:Int},Wk bs u L v→y v - y u≤wsum bs L
 | [],u,v,h=>by cases h;simp [wsum]
 | k::L,u,v,h=>by
   have ih:=Wk.keeps hy h.2.2
   have:=hy _ (bdI_mem h.1)
   have e:=h.2.1
   subst e
   simp only [wsum];omega

/-- A walk that passes a point twice holds a circle. -/
theorem Wk.split {bs:List Bd}:∀ {L:List Int} {u v:Int},Wk bs u L v→¬ (frms bs L).Nodup→∃ A B C x,L=A ++B ++C∧B≠[]∧C≠[]∧Wk bs u A x∧Wk bs x B x∧Wk bs x C v
 | [],u,v,h,hn=>by simp [frms] at hn
 | k::L,u,v,h,hn=>by
   have hL:frms bs (k::L)=(bdI bs k).frm::frms bs L:=rfl
   rw [hL,List.nodup_cons] at hn
   by_cases hm:(bdI bs k).frm ∈ frms bs L
   ·obtain ⟨i,hi,he⟩:=List.mem_map.1 hm
    obtain ⟨S,T,rfl⟩:=List.append_of_mem hi
    obtain ⟨x,h1,h2⟩:=Wk.append.1 h.2.2
    have hx:x=u:=by rw [← h.2.1,← he];exact h2.2.1.symm
    subst hx
    exact ⟨[],k::S,i::T,x,by simp,by simp,by simp,rfl,⟨h.1,h.2.1,h1⟩,h2⟩
   ·obtain ⟨A,B,C,x,e,hB,hC,h1,h2,h3⟩:=Wk.split h.2.2 (fun h'=>hn ⟨hm,h'⟩)
    exact ⟨k::A,B,C,x,by rw [e];simp,hB,hC,⟨h.1,h.2.1,h1⟩,h2,h3⟩
end Go.Proofs.YtelkcohhagblaaaGreat

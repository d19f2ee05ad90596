/- What the functions answer, for every input. -/
import Derived.Test.YtelkcohhagblaaaGreatSe04
import Derived.Test.YtelkcohhagblaaaGreatSe05
import Derived.Laws.CopyOwn
import Derived.Test.YtelkcohhagblaaaGreatSe02
import Derived.Laws.StructEq
import Derived.Laws.Externs
import Derived.Shelf.Abstract
import Derived.Deep.QuietTactic
import Derived.BigQuiet
set_option linter.unusedSimpArgs false
set_option linter.unusedVariables false
set_option linter.unnecessarySimpa false
namespace Go.Proofs.YtelkcohhagblaaaGreat
open Go.RowKit Go.Shelf
set_option maxHeartbeats 1000000
set_option maxRecDepth 100000
open Go
/-- A part: where its lists lie, and what they hold. -/
structure Pt where
 sa:Option Addr
 sc:Nat
 sh:List Int
 lo:Int
 hi:Int
 lob:Int
 hib:Int
 ft:Bool
 fby:Int
 ra:Option Addr
 rc:Nat
 re:List Int
instance:Inhabited Pt:=⟨⟨none,0,[],0,0,0,0,false,0,none,0,[]⟩⟩
def Pt.n (p:Pt):Pn:=⟨p.lo,p.hi,p.ft⟩
def pns (ps:List Pt):List Pn:=ps.map Pt.n
/-- Strictly ascending, in a range. -/
def risB (lo hi:Int):List Int→Bool
 | []=>true
 | x::l=>decide (lo≤x) && decide (x≤hi) && risB (x +1) hi l
def toldB (id:Int) (no:Bool):Bool:=decide (0≤id) && decide (id≤1000000) && (decide (id=0) || !no)
/-- A part is as said. -/
def ptB (p:Pt):Bool:=decide (1≤p.sh.length) && decide (p.sh.length≤40) && risB 1 1000000 p.sh && decide (0≤p.lo) && decide (p.lo≤p.hi) && decide (p.hi≤1000) &&
 decide (p.re.length≤200) && risB 1 1000000 p.re && toldB p.lob (decide (p.lo=0)) && toldB p.hib (decide (p.hi=1000)) && toldB p.fby (!p.ft)
def chrB (c:UInt8):Bool:=(decide (97≤c.toNat) && decide (c.toNat≤122)) || (decide (48≤c.toNat) && decide (c.toNat≤57)) || decide (c.toNat=45)
def nameB (s:List UInt8):Bool:=match s with
 | []=>false
 | c::l=>decide ((c::l).length≤24) && (decide (97≤c.toNat) && decide (c.toNat≤122)) && (c::l).all chrB
/-- No sherd is in two parts. -/
def disB:List Pt→Bool
 | []=>true
 | p::l=>l.all (fun q=>p.sh.all fun x=>!q.sh.contains x) && disB l
def headB (ware:List UInt8) (lim by_:Int):Bool:=nameB ware && (decide (0≤lim) && decide (lim≤40)) && toldB by_ (decide (lim=0))
/-- What is wrong with a case. -/
def cchk (ware:List UInt8) (lim by_:Int) (ps:List Pt):Int :=
 if 40<ps.length then 2 else if headB ware lim by_ && ps.all ptB && disB ps then 0 else 1
structure CaseOk (ware:List UInt8) (lim by_:Int) (ps:List Pt):Prop where
 many:ps.length≤40
 head:headB ware lim by_=true
 each:∀ p ∈ ps,ptB p=true
 dis:disB ps=true
theorem CaseOk.lim {ware:List UInt8} {lim by_:Int} {ps:List Pt} (h:CaseOk ware lim by_ ps):0≤lim∧lim≤40:=by
 have:=h.head
 unfold headB at this
 simp only [Bool.and_eq_true,decide_eq_true_eq] at this
 exact this.1.2
/-- The error of a case and some parts. -/
def askE_w (ware:List UInt8) (lim by_:Int) (ps:List Pt) (l:List Int):Int :=
 if cchk ware lim by_ ps=0 then (if l.all (fun x=>decide (0≤x) && decide (x<ps.length)) then 0 else 1) else cchk ware lim by_ ps
def two2E (ware:List UInt8) (lim by_:Int) (ps:List Pt) (a b:Int):Int :=
 if askE_w ware lim by_ ps [a,b]=0∧a=b then 1 else askE_w ware lim by_ ps [a,b]
open Go.RowKit Go.Shelf
set_option maxHeartbeats 1000000
set_option maxRecDepth 100000
theorem RL.pass_len (far:Int) (bs:List Bd) (s:RL):∀ k,(s.pass far bs k).r.length=s.r.length∧(s.pass far bs k).last.length=s.last.length
 | 0=>⟨rfl,rfl⟩
 | k +1=>by
   obtain ⟨h1,h2⟩:=RL.pass_len far bs s k
   simp only [RL.pass,RL.step]
   split
   ·simp [RL.upd,h1,h2]
   ·exact ⟨h1,h2⟩
theorem settle_len (far:Int) (bs:List Bd):∀ (n:Nat) (s:RL),(settle far bs n s).1.r.length=s.r.length∧(settle far bs n s).1.last.length=s.last.length
 | 0,_=>⟨rfl,rfl⟩
 | n +1,s=>by
   have h:=RL.pass_len far bs s bs.length
   simp only [settle]
   split
   ·exact h
   ·have h2:=settle_len far bs n (s.pass far bs bs.length)
    exact ⟨h2.1.trans h.1,h2.2.trans h.2⟩

/-- The solution, by passes from zeros. -/
def gsol (p:Int) (bs:List Bd):RL × Bool:=settle FAR bs (p +1).toNat ⟨List.replicate 60 0,List.replicate 60 (-1),0⟩
def okB (p:Int) (bs:List Bd):Bool:=(gsol p bs).2
def solR (p:Int) (bs:List Bd):List Int:=(gsol p bs).1.r.take p.toNat
theorem gsol_len (p:Int) (bs:List Bd):(gsol p bs).1.r.length=60∧(gsol p bs).1.last.length=60:=by
 have:=settle_len FAR bs (p +1).toNat ⟨List.replicate 60 0,List.replicate 60 (-1),0⟩
 exact ⟨this.1.trans rfl,this.2.trans rfl⟩
/-- What stands of a system that may be reckoned with: its points, its bounds. -/
structure Sys (p:Int) (bs:List Bd):Prop where
 p1:1≤p
 p2:p≤60
 len:bs.length≤402
 inr:∀ b ∈ bs,b.inr
theorem Sys.of_chk {p:Int} {bs:List Bd} (h:chk p bs=0):Sys p bs:=by
 unfold chk at h
 split at h
 ·omega
 ·rename_i h1
  split at h
  ·omega
  ·rename_i h2
   refine ⟨by omega,by omega,by omega,fun b hb=>?_⟩
   split at h
   ·rename_i h3
    have h4:=List.all_eq_true.1 h3 b hb
    simp only [Bd.ok,Bool.and_eq_true,withinB_iff] at h4
    exact ⟨by omega,by omega,by omega,by omega,by omega,by omega⟩
   ·omega
theorem ints_slice {w:World} {N:Nat} {l:List Int} {t:TypeId} {n cap:Nat} (h:w.heap[N]?=some (.cells (ints l) t (0,0))) (hn:n≤l.length) (hl:l.length≤100000):IntsAt w (some ⟨N,0,none⟩) n cap (l.take n):=by
 refine ⟨by simp;omega,by simp;omega,⟨(fun h=>by cases h),fun x hx=>?_⟩⟩
 simp at hx
 subst hx
 refine ⟨rfl,(Array.getElem?_eq_some_iff.1 h).1,fun i u hi=>?_⟩
 rw [Nat.zero_add,(SL.cells_of h).1]
 simp only [List.getElem?_map,List.getElem?_take] at hi
 split at hi
 ·simpa [ints] using hi
 ·simp at hi
theorem sl_row (w:World) (N:Nat) (p:Int) (h0:0≤p) (h1:p≤60) :
 (Instr.sliceAt 191 (.pointer (some ⟨N,0,none⟩)) none (some (.int .i64 p)) none).run Tryz.prog w=.ok (.slice (some ⟨N,0,none⟩) p.toNat 60) w:=by
 obtain ⟨i,hi⟩:=Option.isSome_iff_exists.1 (show (Tryz.prog.info? 3).isSome=true by kernel_rfl)
 have hl:Tryz.prog.arrayLen 191=60:=by kernel_rfl
 have he:Tryz.prog.elem 191=3:=by kernel_rfl
 rw [run_sliceAt_array_h (P:=Tryz.prog) (t:=191) (w:=w) ⟨N,0,none⟩ (by rw [hl,he];exact Tryz.underlying191) .i64 p h0 (by rw [hl];exact h1),hl,he,run_sizeOf w hi]
 simp [slicedAt,add_none]
theorem gsolved_any (p:Int) (a:Option Addr) (n cap:Nat) (bs:List Bd) (w:World) (hb:BdsAt w a n cap bs) (hs:Sys p bs) :
 Calls Tryz.prog 118 #[.agg #[.int .i64 p,.slice a n cap]] w fun e w'=>∃ v,e=.returned (.tuple #[v,.bool (okB p bs)])∧Below w.heap.size w w' ∧
  (okB p bs=false→v=.slice none 0 0)∧(okB p bs=true→w'.ownsRow w.heap.size 3 1 v p.toNat ((solR p bs).map (.int .i64))):=by
 obtain rfl:=hb.len
 obtain ⟨p1,p2,h402,hin⟩:=hs
 have hpt:((p.toNat:Nat):Int)=p:=by omega
 have hlen:=gsol_len p bs
 have hok:okB p bs=(gsol p bs).2:=rfl
 have hsol:solR p bs=(gsol p bs).1.r.take p.toNat:=rfl
 have hset:=fun (w1:World) (hb1:BdsAt w1 a bs.length cap bs) (N:Nat) (hN:w1.heap[N]?=some (.cells (ints (List.replicate 60 0)) 191 (0,0))) (hne:∀ x,a=some x→x.block≠N) =>
  gsettled_any p a bs.length cap bs N (List.replicate 60 0) w1 hb1 h402 hin ⟨p1,p2⟩ hN (by simp) (fun i h0 h1=>by
   have:gi (List.replicate 60 0) i=0:=by
    unfold gi
    rw [List.getD_eq_getElem?_getD,List.getElem?_replicate]
    split <;> rfl
   rw [this];unfold FAR;omega) hne
 change ∀ (w1:World) (_:BdsAt w1 a bs.length cap bs) (N:Nat) (_:w1.heap[N]?=some (.cells (ints (List.replicate 60 0)) 191 (0,0))) (_:∀ x,a=some x→x.block≠N),
  Calls Tryz.prog 176 #[.agg #[.int .i64 p,.slice a bs.length cap],.pointer (some ⟨N,0,none⟩)] w1 fun e w'=>e=.returned (.tuple #[.agg (ints (gsol p bs).1.last),.bool (gsol p bs).2])∧SL.Chg [N] w1 w'∧w'.heap[N]?=some (.cells (ints (gsol p bs).1.r) 191 (0,0)) at hset
 generalize gsol p bs=g at *
 obtain ⟨⟨gr,gl,gn⟩,gb⟩:=g
 simp only at hlen hok hsol hset
 obtain ⟨hl1,hl2⟩:=hlen
 simp only [hok,hsol]
 clear hok hsol
 have hax:∀ x,a=some x→x.block<w.heap.size:=fun x hx=>(hb.at_ x hx).2.1
 have hsl:=fun (w':World) (N:Nat)=>sl_row w' N p (by omega) p2
 cases gb <;>
 ·go_enter Tryz.func118,Tryz.ntmps118
  go_wp2_with (first
   | (refine wpList_starr_new rfl _ _ rfl rfl rfl rfl rfl hl2 ?_)
   | (go_at_call 176;refine (hset _ (hb.below Z5) _ ((heap_alloc2_new w _ _).trans rfl) (fun x hx=>by have:=hax x hx;omega)).mono ?_;rintro e w2 ⟨rfl,hc2,hr2⟩
      obtain ⟨hg1,hg2⟩:=SL.Chg.cellsE hc2
      have hg3:=(hg1 w.heap.size 0 Zj (by simp))
      have hg4:=(hg1 w.heap.size 1 Zj (by simp))
      have hz2:=hc2.size
      simp only [World.size_alloc] at hz2
      have hz3:w.heap.size<w2.heap.size:=by omega
      simp [go_sem] at hg3 hg4
      clear hg1 hg2)
   | (go_at_call 177;refine (gcopiedI_any _ _ _ _ _ (ints_slice (l:=gr) ((Below.heap_alloc _ _ _ (by omega)).trans hr2) (by omega) (by omega)) Zj).mono ?_;rintro e w3 ⟨v,rfl,ho3,hb3⟩))
  first
   | (refine bodyPost_ret (v:=.tuple #[.slice none 0 0,.bool false]) Z4z rfl ⟨_,rfl,?_,fun _=>rfl,fun h=>by cases h⟩
      exact ((((Below.refl _ w).alloc (Nat.le_refl _) _).alloc (by simp) _).trans (hc2.belowE Zj (by simp))).alloc (by omega) _)
   | (refine bodyPost_ret (v:=.tuple #[v,.bool true]) Z4z rfl ⟨_,rfl,?_,(fun h=>by cases h),fun _=>?_⟩
      ·exact (((((Below.refl _ w).alloc (Nat.le_refl _) _).alloc (by simp) _).trans (hc2.belowE Zj (by simp))).alloc (by omega) _).trans (hb3.mono Zj)
      ·have h4:=SL.row_base ho3 (base':=w.heap.size) Zj
       simpa [hl1,show min p.toNat 60=p.toNat by omega] using h4)
theorem gsolvable_any (p:Int) (a:Option Addr) (n cap:Nat) (bs:List Bd) (w:World) (hb:BdsAt w a n cap bs) (hs:Sys p bs) :
 Calls Tryz.prog 116 #[.agg #[.int .i64 p,.slice a n cap]] w fun e w'=>e=.returned (.int .i64 (if okB p bs then 0 else 10))∧Below w.heap.size w w':=by
 have hbx:=hb.below (w':=w.alloc (Obj.cells #[.int .i64 p,.slice a n cap] 57)) ((Below.refl _ _).alloc (Nat.le_refl _) _)
 have hS:=fun w1 (hb1:BdsAt w1 a n cap bs)=>gsolved_any p a n cap bs w1 hb1 hs
 generalize okB p bs=o at *
 cases o <;>
 ·go_enter Tryz.func116,Tryz.ntmps116
  go_wp2_with (go_at_call 118;refine (hS _ hbx).mono ?_;rintro e w2 ⟨v,rfl,hb2,hn,ho⟩)
  go_ret
  exact ⟨rfl,((Below.refl _ w).alloc (Nat.le_refl _) _).trans (hb2.mono (by simp))⟩
theorem gSolve_any (p:Int) (a:Option Addr) (n cap:Nat) (bs:List Bd) (w:World) (hb:BdsAt w a n cap bs) :
 Calls Tryz.prog 153 #[.agg #[.int .i64 p,.slice a n cap]] w fun e w'=>∃ v,e=.returned (.tuple #[v,.bool (decide (chk p bs=0) && okB p bs),.int .i64 (chk p bs)])∧Below w.heap.size w w' ∧
  (¬ (chk p bs=0∧okB p bs=true)→v=.slice none 0 0)∧(chk p bs=0→okB p bs=true→w'.ownsRow w.heap.size 3 1 v p.toNat ((solR p bs).map (.int .i64))):=by
 have hbx:=hb.below (w':=w.alloc (Obj.cells #[.int .i64 p,.slice a n cap] 57)) ((Below.refl _ _).alloc (Nat.le_refl _) _)
 by_cases h0:chk p bs=0
 ·have hS:=fun w1 (hb1:BdsAt w1 a n cap bs)=>gsolved_any p a n cap bs w1 hb1 (Sys.of_chk h0)
  go_enter Tryz.func153,Tryz.ntmps153
  go_wp2_with (first
   | (go_at_call 152;refine (gcheck_any _ _ _ _ _ _ hbx).mono ?_;rintro e w1 ⟨rfl,hb1⟩;obtain ⟨hc1,hf1⟩:=bcell hb1;have hz1a:=lt_size hb1 (b:=w.heap.size) Z9)
   | (go_at_call 118;refine (hS _ (hbx.below hb1)).mono ?_;rintro e w2 ⟨v,rfl,hb2,hn,ho⟩))
  refine bodyPost_ret (v:=.tuple #[v,.bool (okB p bs),.int .i64 0]) Z4v rfl ⟨v,by simp [h0],?_,fun h=>hn (by cases hk:okB p bs with | false=>rfl | true=>exact absurd ⟨h0,hk⟩ h),fun _ h=>SL.row_base (ho h) Z5i⟩
  exact (((Below.refl _ w).alloc (Nat.le_refl _) _).trans (hb1.mono (by simp))).trans (hb2.mono Z5i)
 ·have h0':(chk p bs == 0)=false:=by simpa using h0
  go_enter Tryz.func153,Tryz.ntmps153
  go_wp2_with (go_at_call 152;refine (gcheck_any _ _ _ _ _ _ hbx).mono ?_;rintro e w1 ⟨rfl,hb1⟩;obtain ⟨hc1,hf1⟩:=bcell hb1;have hz1a:=lt_size hb1 (b:=w.heap.size) Z9)
  refine bodyPost_ret (v:=.tuple #[.slice none 0 0,.bool false,.int .i64 (chk p bs)]) Z4v rfl ⟨_,by simp [h0],?_,fun _=>rfl,fun h=>absurd h h0⟩
  exact ((Below.refl _ w).alloc (Nat.le_refl _) _).trans (hb1.mono (by simp))

/-- far in all points, nothing in one. -/
def empty0 (k:Nat):List Int:=List.replicate k FAR ++List.replicate (60 - k) 0
theorem empty0_len (k:Nat) (h:k≤60):(empty0 k).length=60:=by simp [empty0];omega
theorem empty0_next (k:Nat) (h:k<60):(empty0 k).set k FAR=empty0 (k +1):=by
 unfold empty0
 exact Z31
def fars:List Int:=List.replicate 60 FAR
theorem fars_len:fars.length=60:=by simp [fars]
theorem empty0_60:empty0 60=fars:=by simp [empty0,fars]
theorem gempty_any (w:World):Calls Tryz.prog 211 #[] w fun e w'=>e=.returned (.agg (ints fars))∧Below w.heap.size w w':=by
 go_enter Tryz.func211,Tryz.ntmps211
 go_wp2_with fail
 go_loopw [3,2] (fun i _ wr=>∃ k:Nat,k≤60∧i=.int .i64 k∧Below w.heap.size w wr∧wr.heap[w.heap.size]?=some (.cells (ints (List.replicate 60 0)) 191 (0,0))∧wr.heap[w.heap.size +1]?=some (.cells (ints (empty0 k)) 191 (0,0))) (fun i _ _=>60 - (RowKit.intOf i).toNat)
 case atStart =>
  refine ⟨0,by omega,rfl,by ((repeat (first | assumption | exact Below.refl _ _ | refine Below.alloc ?_ ?_ _ | refine Below.setCell ?_ ?_ _ | refine Below.drew ?_ | refine belowN ?_ | refine Below.up ?_ Z18 ?_)) <;> (first | assumption | omega | (simp;done) | (simp;omega))),?_,?_⟩
  ·exact (Below.heap_alloc _ _ _ (by simp)).trans ((World.alloc_heap_new w _).trans rfl)
  ·have h:=World.alloc_heap_new (w.alloc (.cells (ints (List.replicate 60 0)) 191)) (.cells (ints (empty0 0)) 191)
   rw [World.size_alloc] at h
   exact h
 case round =>
  obtain ⟨k,hk,rfl,hB,h0,h1⟩:=hrel
  by_cases hlt:k<60
  ·have c2k:=((SL.cells_of h1).1 k).trans (ints_get (empty0 k) k (by rw [empty0_len k hk];exact hlt))
   have f2k:=(SL.cells_of h1).2 k
   have hk0:(0:Int)≤k:=by omega
   go_wp2_with fail
   go_roundw
   case rel =>
    refine ⟨k +1,by omega,by go_num,by ((repeat (first | assumption | exact Below.refl _ _ | refine Below.alloc ?_ ?_ _ | refine Below.setCell ?_ ?_ _ | refine Below.drew ?_ | refine belowN ?_ | refine Below.up ?_ Z18 ?_)) <;> (first | assumption | omega | (simp;done) | (simp;omega))),?_,?_⟩
    ·rw [← h0];exact Below.heap_setCell _ _ _ _ (by simp)
    ·rw [← empty0_next k hlt,← ints_set];exact SL.heap_set h1 _
   case measure=>simp [RowKit.intOf];omega
  ·obtain rfl:k=60:=by omega
   go_wp2_with (first
    | (refine wpList_ldrow rfl _ rfl rfl h1 (empty0_len 60 (by omega)) ?_)
    | (refine wpList_strow rfl _ _ rfl rfl rfl rfl h0 (by simp [ints]) (empty0_len 60 (by omega)) ?_))
   have hr:=setRow_heap wr w.heap.size _ (ints (empty0 60)) 191 _ h0
   have hv:=run_var_row hr (empty0_len 60 (by omega))
   refine bodyPost_ret (v:=.agg (ints (empty0 60))) (by simp [results,Tryz.results211,asAddr,hv,Act.put]) rfl ⟨by rw [empty0_60],below_setRow hB (Nat.le_refl _) _⟩
theorem setRow_other (w:World) (g:Nat) (cs:Array Value) {k:Nat} (h:k≠g):(w.setRow g cs).heap[k]?=w.heap[k]?:=by
 unfold World.setRow;simp [Array.getElem?_modify,Ne.symm h]
theorem chg_setRow {E:List Nat} (w:World) (g:Nat) (cs:Array Value) (h:g ∈ E):SL.Chg E w (w.setRow g cs) :=
 ⟨rfl,rfl,rfl,by simp [World.setRow],fun k _ hn=>setRow_other w g cs (fun e=>hn (e ▸ h))⟩
theorem wpList_strow_op {ops:Array Oper} {rest:List Oper} {o:Oper} {a:Act} {w:World} {Q:Exit→Act→World→Prop} (hgd:o.guard=none) (x y:Operand) (ho:o.op=.store 191 x y) (hd:o.dst=none)
 {g:Nat} (hx:a.eval x=.pointer (some ⟨g,0,none⟩)) {l:List Int} (hy:a.eval y=.agg (ints l)) {t:TypeId} {old:Array Value} (hg:w.heap[g]?=some (.cells old t (0,0))) (ho':old.size=60) (hl:l.length=60)
 (h:∀ W',SL.Chg [g] w W'→W'.heap[g]?=some (.cells (ints l) t (0,0))→wpList Tryz.prog ops Q rest a W'):wpList Tryz.prog ops Q (o::rest) a w :=
 wpList_strow hgd x y ho hd hx hy hg ho' hl (h _ (chg_setRow _ _ _ (by simp)) (setRow_heap _ _ _ _ _ _ hg))
theorem wpList_starr_op {ops:Array Oper} {rest:List Oper} {o:Oper} {a:Act} {w:World} {Q:Exit→Act→World→Prop} (hgd:o.guard=none) (x y:Operand) (ho:o.op=.store 190 x y) (hd:o.dst=none)
 {g:Nat} (hx:a.eval x=.pointer (some ⟨g,0,none⟩)) {l:List Int} (hy:a.eval y=.agg (ints l)) {t:TypeId} {old:Array Value} (hg:w.heap[g]?=some (.cells old t (0,0))) (ho':old.size=60) (hl:l.length=60)
 (h:∀ W',SL.Chg [g] w W'→W'.heap[g]?=some (.cells (ints l) t (0,0))→wpList Tryz.prog ops Q rest a W'):wpList Tryz.prog ops Q (o::rest) a w :=
 wpList_starr hgd x y ho hd hx hy hg ho' hl (h _ (chg_setRow _ _ _ (by simp)) (setRow_heap _ _ _ _ _ _ hg))

/-- The sums from one point. -/
def far0 (a:Int):List Int:=fars.set a.toNat 0
theorem far0_len (a:Int):(far0 a).length=60:=by simp [far0,fars]
def gfrom (p:Int) (bs:List Bd) (a:Int):RL × Bool:=settle FAR bs (p +1).toNat ⟨far0 a,List.replicate 60 (-1),0⟩
def gD (p:Int) (bs:List Bd) (a b:Int):Int:=gi (gfrom p bs a).1.r b
theorem gfrom_len (p:Int) (bs:List Bd) (a:Int):(gfrom p bs a).1.r.length=60∧(gfrom p bs a).1.last.length=60:=by
 have:=settle_len FAR bs (p +1).toNat ⟨far0 a,List.replicate 60 (-1),0⟩
 exact ⟨this.1.trans (far0_len a),this.2.trans rfl⟩
theorem gfrom_any (p:Int) (a:Option Addr) (n cap:Nat) (bs:List Bd) (at_:Int) (w:World) (hb:BdsAt w a n cap bs) (hs:Sys p bs) (h0:0≤at_) (h1:at_<p) :
 Calls Tryz.prog 199 #[.agg #[.int .i64 p,.slice a n cap],.int .i64 at_] w fun e w'=>e=.returned (.tuple #[.agg (ints (gfrom p bs at_).1.r),.agg (ints (gfrom p bs at_).1.last)])∧Below w.heap.size w w':=by
 obtain rfl:=hb.len
 obtain ⟨p1,p2,h402,hin⟩:=hs
 have hlen:=gfrom_len p bs at_
 have hset:=fun (w1:World) (hb1:BdsAt w1 a bs.length cap bs) (N:Nat) (hN:w1.heap[N]?=some (.cells (ints (far0 at_)) 191 (0,0))) (hne:∀ x,a=some x→x.block≠N) =>
  gsettled_any p a bs.length cap bs N (far0 at_) w1 hb1 h402 hin ⟨p1,p2⟩ hN (far0_len _) (fun i q0 q1=>by
   have:gi (far0 at_) i=if i=at_ then 0 else FAR:=by
    unfold far0
    rw [gi_set h0 Z3p q0]
    split
    ·rfl
    ·exact Z2h
   rw [this];unfold FAR;split <;> omega) hne
 change ∀ (w1:World) (_:BdsAt w1 a bs.length cap bs) (N:Nat) (_:w1.heap[N]?=some (.cells (ints (far0 at_)) 191 (0,0))) (_:∀ x,a=some x→x.block≠N),
  Calls Tryz.prog 176 #[.agg #[.int .i64 p,.slice a bs.length cap],.pointer (some ⟨N,0,none⟩)] w1 fun e w'=>e=.returned (.tuple #[.agg (ints (gfrom p bs at_).1.last),.bool (gfrom p bs at_).2])∧SL.Chg [N] w1 w'∧w'.heap[N]?=some (.cells (ints (gfrom p bs at_).1.r) 191 (0,0)) at hset
 generalize gfrom p bs at_=g at *
 obtain ⟨⟨gr,gl,gn⟩,gb⟩:=g
 simp only at hlen hset
 obtain ⟨hl1,hl2⟩:=hlen
 have hax:∀ x,a=some x→x.block<w.heap.size:=fun x hx=>(hb.at_ x hx).2.1
 have hfl:=fars_len
 have hsz:(ints fars).size=60:=by rw [ints_size,fars_len]
 have hc0:(ints fars)[at_.toNat]?=some (.int .i64 (gi fars at_)):=gi_cell h0 Z3p
 go_enter Tryz.func199,Tryz.ntmps199
 go_wp2_with (first
  | (go_at_call 211;refine (gempty_any _).mono ?_;rintro e w1 ⟨rfl,hb1⟩
     have hz1:=hb1.size
     simp only [World.size_alloc] at hz1
     have q0:w1.cell? ⟨w.heap.size,0,none⟩=some (.int .i64 p):=by rw [(bcell hb1).1 _ _ Zj];simp [go_sem]
     have q1:w1.cell? ⟨w.heap.size,1,none⟩=some (.slice a bs.length cap):=by rw [(bcell hb1).1 _ _ Zj];simp [go_sem]
     have hS1:w.heap.size<w1.heap.size:=by omega)
  | (refine wpList_strow_new rfl _ _ rfl rfl rfl rfl rfl hfl ?_)
  | (refine wpList_starr_new rfl _ _ rfl rfl rfl rfl rfl hl2 ?_)
  | (go_at_call 176;refine (hset _ (hb.below Z5) _ ((World.alloc_heap_new _ _).trans (by rw [ints_set];rfl)) (fun x hx=>by have:=hax x hx;omega)).mono ?_;rintro e w2 ⟨rfl,hc2,hr2⟩))
 have hz2:=hc2.size
 simp only [World.size_alloc] at hz2
 have m0:(w2.alloc (Obj.cells (ints gl) 190)).heap[w1.heap.size]?=some (.cells (ints gr) 191 (0,0)):=(Below.heap_alloc _ _ _ (by omega)).trans hr2
 have m1:(w2.alloc (Obj.cells (ints gl) 190)).heap[w2.heap.size]?=some (.cells (ints gl) 190 (0,0)):=World.alloc_heap_new _ _
 have low:∀ k,k<w.heap.size +3→(w2.alloc (Obj.cells (ints gl) 190)).heap[k]?=(((w.alloc (Obj.cells #[.int .i64 p,.slice a bs.length cap] 57)).alloc (Obj.cells (ints (List.replicate 60 0)) 191)).alloc (Obj.cells (ints (List.replicate 60 0)) 190)).heap[k]?:=fun k hk=>by
  rw [Below.heap_alloc _ _ _ (by omega),hc2.block k Zj Zj,Below.heap_alloc _ _ _ (by omega)]
  exact hb1.block k Zj
 have m2:(w2.alloc (Obj.cells (ints gl) 190)).heap[w.heap.size +1]?=some (.cells (ints (List.replicate 60 0)) 191 (0,0)):=by
  rw [low _ (by omega),Below.heap_alloc _ _ _ (by simp)]
  have h:=World.alloc_heap_new (w.alloc (Obj.cells #[.int .i64 p,.slice a bs.length cap] 57)) (Obj.cells (ints (List.replicate 60 0)) 191)
  rw [World.size_alloc] at h
  exact h
 have m3:(w2.alloc (Obj.cells (ints gl) 190)).heap[w.heap.size +1 +1]?=some (.cells (ints (List.replicate 60 0)) 190 (0,0)):=by
  rw [low _ (by omega)]
  have h:=World.alloc_heap_new ((w.alloc (Obj.cells #[.int .i64 p,.slice a bs.length cap] 57)).alloc (Obj.cells (ints (List.replicate 60 0)) 191)) (Obj.cells (ints (List.replicate 60 0)) 190)
  exact Z5c
 have bW:Below w.heap.size w (w2.alloc (Obj.cells (ints gl) 190)):=by
  refine Below.alloc ?_ (by omega) _
  refine Below.trans ?_ (hc2.belowE (B:=w.heap.size) Zj Zj)
  refine Below.alloc ?_ (by omega) _
  refine Below.trans ?_ (hb1.mono Zj)
  ((repeat (first | assumption | exact Below.refl _ _ | refine Below.alloc ?_ ?_ _ | refine Below.setCell ?_ ?_ _ | refine Below.drew ?_ | refine belowN ?_ | refine Below.up ?_ Z18 ?_)) <;> (first | assumption | omega | (simp;done) | (simp;omega)))
 have zW:(w2.alloc (Obj.cells (ints gl) 190)).heap.size=w2.heap.size +1:=by simp
 generalize hW3:w2.alloc (Obj.cells (ints gl) 190)=W3 at *
 clear hW3 low
 refine SL.rule Zk [w.heap.size +1,w.heap.size +1 +1] [17,18] [SL.pu 17 [] (.agg (ints gr)),SL.pu 18 [] (.agg (ints gl)),SLF.at_ 0 [0,4] [4] (w.heap.size +1) 191 (ints gr),SLF.at_ 0 [1,5] [5] (w.heap.size +1 +1) 190 (ints gl),
  SLF.at_ 0 [] [] (w.heap.size +1) 191 (ints (List.replicate 60 0)),SLF.at_ 0 [] [] (w.heap.size +1 +1) 190 (ints (List.replicate 60 0))] [2,3] Zk Zk _ (SLF.two_held rfl rfl rfl ⟨m2,rfl⟩ ⟨m3,rfl⟩ (by omega) (by omega)) (SLF.two_apart (by omega)) ?_ ?_
 ·refine ⟨?_,?_,?_,?_,trivial⟩
  all_goals refine SL.ob fun us w' Fe hG hu hd hv K hK=>?_
  all_goals simp only [SL.frame,SL.put',SL.Used,SL.Seen,SL.pu,SL.row,SL.box,SL.rowIn,SL.boxIn,SL.boxAt,SL.boxAtIn,Bd.v,Bd.cs,SLF.at_] at hu
  ·have hN2:w'.heap[w1.heap.size]?=some (.cells (ints gr) 191 (0,0)):=(hG.block _ Zj Zj).trans m0
   refine wp_load_row _ _ rfl w1.heap.size Z3c _ _ _ _ hN2 Tryz.underlying191 rfl Z5r ?_
   exact Z4g
  ·have hN2:w'.heap[w2.heap.size]?=some (.cells (ints gl) 190 (0,0)):=(hG.block _ Zj Zj).trans m1
   refine wp_load_row _ _ rfl w2.heap.size Z3c _ _ _ _ hN2 Tryz.underlying190 rfl Z5q ?_
   exact Z4g
  ·obtain ⟨⟨u1,_⟩,⟨hh,hF⟩,_⟩:=hu
   refine wp_store_row _ _ _ rfl (w.heap.size +1) (ints gr) Z3c Z5f _ _ hh Z5r (by rw [ints_size,ints_size,hl1];rfl) (ints_one _) ?_
   exact Z34
  ·obtain ⟨⟨u1,_⟩,⟨hh,hF⟩,_⟩:=hu
   refine wp_store_row _ _ _ rfl (w.heap.size +1 +1) (ints gl) Z3c Z5f _ _ hh Z5q (by rw [ints_size,ints_size,hl2];rfl) (ints_one _) ?_
   exact Z34
 ·intro us w' Fs hG hu hbd hd
  simp only [SL.frame,SL.put',SL.Used,SL.Seen,SL.pu,SL.row,SL.box,SL.rowIn,SL.boxIn,SL.boxAt,SL.boxAtIn,Bd.v,Bd.cs,SLF.at_] at hu
  obtain ⟨⟨hh1,_⟩,⟨hh2,_⟩,_⟩:=hu
  simp [SL.frame,SL.put']
  go_wp2
  have v1:=run_var_row hh1 hl1
  have v2:=run_var_arr hh2 hl2
  refine bodyPost_ret (v:=.tuple #[.agg (ints gr),.agg (ints gl)]) (by simp [results,Tryz.results199,asAddr,v1,v2]) rfl ⟨rfl,bW.trans (hG.belowF (by omega) Zj)⟩
open Go Go.RowKit
theorem flat_get_w {α:Type} {f:α→List Value} {k:Nat} (hk:∀ x,(f x).length=k) [Inhabited α]:∀ (l:List α) (i j:Nat),i<l.length→j<k→(l.flatMap f)[i * k +j]?=(f (l.getD i default))[j]?
 | [],i,_,h,_=>by simp at h
 | x::l,0,j,_,hj=>by
   rw [List.flatMap_cons,Nat.zero_mul,Nat.zero_add,List.getElem?_append_left (by rw [hk];exact hj)]
   rfl
 | x::l,i +1,j,h,hj=>by
   have ih:=flat_get_w hk l i j Z3v hj
   rw [List.flatMap_cons,List.getElem?_append_right (by rw [hk,Nat.succ_mul];omega),hk]
   rw [show (i +1) * k +j - k=i * k +j by rw [Nat.succ_mul];omega,ih]
   rfl
theorem flat_len_w {α:Type} {f:α→List Value} {k:Nat} (hk:∀ x,(f x).length=k):∀ (l:List α),(l.flatMap f).length=l.length * k
 | []=>by simp
 | x::l=>by rw [List.flatMap_cons,List.length_append,hk,flat_len_w hk l,List.length_cons,Nat.succ_mul];omega
theorem RowAt.cell {w:World} {a:Option Addr} {cap:Nat} {vs:List Value} (h:RowAt w a cap vs) {i:Nat} {u:Value} (hi:vs[i]?=some u):∃ b off,a=some ⟨b,off,none⟩∧b<w.heap.size∧w.cell? ⟨b,off +i,none⟩=some u:=by
 match a,h with
 | none,h=>rw [(h.nil rfl).1] at hi;simp at hi
 | some ⟨b,off,sp⟩,h =>
   obtain ⟨h1,h2,h3⟩:=h.at_ _ rfl
   simp at h1
   subst h1
   exact ⟨b,off,rfl,h2,h3 i u hi⟩
theorem RowAt.cells {w:World} {a:Option Addr} {cap:Nat} {vs:List Value} (h:RowAt w a cap vs) (hne:vs≠[]):∃ b off,a=some ⟨b,off,none⟩∧b<w.heap.size∧∀ i u,vs[i]?=some u→w.cell? ⟨b,off +i,none⟩=some u:=by
 match a,h with
 | none,h=>exact absurd (h.nil rfl).1 hne
 | some ⟨b,off,sp⟩,h =>
   obtain ⟨h1,h2,h3⟩:=h.at_ _ rfl
   simp at h1
   subst h1
   exact ⟨b,off,rfl,h2,h3⟩
theorem RowAt.chg {w w':World} {a:Option Addr} {cap:Nat} {vs:List Value} {E:List Nat} (h:RowAt w a cap vs) (hc:SL.Chg E w w') (hE:∀ x,a=some x→x.block ∉ E):RowAt w' a cap vs:=by
 refine ⟨h.nil,fun x hx=>?_⟩
 obtain ⟨h1,h2,h3⟩:=h.at_ x hx
 exact ⟨h1,Nat.lt_of_lt_of_le h2 hc.size,fun i u hi=>by rw [(SL.Chg.cellsW hc).1 _ _ h2 (hE x hx)];exact h3 i u hi⟩
def rcs (rs:List (Int × Int)):List Value:=rs.flatMap fun r=>[.int .i64 r.1,.int .i64 r.2]
theorem rcs_length (rs:List (Int × Int)):(rcs rs).length=rs.length * 2:=flat_len_w (f:=fun r:Int × Int=>[Value.int .i64 r.1,.int .i64 r.2]) (k:=2) (fun _=>rfl) rs
/-- A slice of ranges. -/
structure RngsAt (w:World) (a:Option Addr) (n cap:Nat) (rs:List (Int × Int)):Prop where
 len:n=rs.length
 small:rs.length≤140737488351232
 row:RowAt w a cap (rcs rs)
theorem RngsAt.below {w w':World} {a:Option Addr} {n cap:Nat} {rs:List (Int × Int)} (h:RngsAt w a n cap rs) (hb:Below w.heap.size w w'):RngsAt w' a n cap rs:=⟨h.len,h.small,h.row.below hb⟩
theorem RngsAt.get {w:World} {a:Option Addr} {n cap:Nat} {rs:List (Int × Int)} (h:RngsAt w a n cap rs) {i:Nat} (hi:i<rs.length):∃ b off,a=some ⟨b,off,none⟩∧b<w.heap.size ∧
 w.cell? ⟨b,off +i * 2,none⟩=some (.int .i64 (rs.getD i default).1)∧w.cell? ⟨b,off +i * 2 +1,none⟩=some (.int .i64 (rs.getD i default).2):=by
 have g:=fun j hj=>flat_get_w (f:=fun r:Int × Int=>[Value.int .i64 r.1,.int .i64 r.2]) (k:=2) (fun _=>rfl) rs i j hi hj
 obtain ⟨b,off,h1,h2,h3⟩:=h.row.cells (by intro e;have:=rcs_length rs;rw [e] at this;simp at this;omega)
 refine ⟨b,off,h1,h2,h3 _ _ (g 0 (by omega)),?_⟩
 have:=h3 _ _ (g 1 (by omega))
 rwa [← Nat.add_assoc] at this
theorem RngsAt.of_owns {w:World} {base:Nat} {e:TypeId} {a:Option Addr} {n cap:Nat} {rs:List (Int × Int)} (h:w.ownsRow base e 2 (.slice a n cap) n (rcs rs)) (hs:rs.length≤140737488351232):RngsAt w a n cap rs :=
 ⟨by have:=h.1;rw [rcs_length] at this;omega,hs,RowAt.of_owns h⟩

/-- A slice of bools. -/
structure BoolsAt (w:World) (a:Option Addr) (n cap:Nat) (xs:List Bool):Prop where
 len:n=xs.length
 small:xs.length≤140737488351232
 row:RowAt w a cap (xs.map Value.bool)
theorem BoolsAt.below {w w':World} {a:Option Addr} {n cap:Nat} {xs:List Bool} (h:BoolsAt w a n cap xs) (hb:Below w.heap.size w w'):BoolsAt w' a n cap xs:=⟨h.len,h.small,h.row.below hb⟩
theorem BoolsAt.get {w:World} {a:Option Addr} {n cap:Nat} {xs:List Bool} (h:BoolsAt w a n cap xs) {i:Nat} (hi:i<xs.length):∃ b off,a=some ⟨b,off,none⟩∧b<w.heap.size ∧
 w.cell? ⟨b,off +i,none⟩=some (.bool (xs.getD i false)):=h.row.cell Z2e
theorem BoolsAt.of_owns {w:World} {base:Nat} {e:TypeId} {a:Option Addr} {n cap:Nat} {xs:List Bool} (h:w.ownsRow base e 1 (.slice a n cap) n (xs.map Value.bool)) (hs:xs.length≤140737488351232):BoolsAt w a n cap xs :=
 ⟨by have:=h.1;simp at this;exact this.symm,hs,RowAt.of_owns h⟩

/-- What matters of parts, as it lies in a world. -/
structure SpansAt (w:World) (a:Option Addr) (ca:Nat) (f:Option Addr) (cf:Nat) (n:Nat) (s:List Pn):Prop where
 at_:RngsAt w a n ca (s.map fun p=>(p.lo,p.hi))
 ft:BoolsAt w f n cf (s.map (·.ft))
theorem SpansAt.below {w w':World} {a f:Option Addr} {ca cf n:Nat} {s:List Pn} (h:SpansAt w a ca f cf n s) (hb:Below w.heap.size w w'):SpansAt w' a ca f cf n s:=⟨h.at_.below hb,h.ft.below hb⟩
theorem SpansAt.len {w:World} {a f:Option Addr} {ca cf n:Nat} {s:List Pn} (h:SpansAt w a ca f cf n s):n=s.length:=by have:=h.at_.len;simpa using this
theorem SpansAt.small {w:World} {a f:Option Addr} {ca cf n:Nat} {s:List Pn} (h:SpansAt w a ca f cf n s):s.length≤140737488351232:=by have:=h.at_.small;simpa using this
theorem SpansAt.get {w:World} {a f:Option Addr} {ca cf n:Nat} {s:List Pn} (h:SpansAt w a ca f cf n s) {i:Nat} (hi:i<s.length):∃ b o d q,a=some ⟨b,o,none⟩∧f=some ⟨d,q,none⟩∧b<w.heap.size∧d<w.heap.size ∧
 w.cell? ⟨b,o +i * 2,none⟩=some (.int .i64 (s.getD i default).lo)∧w.cell? ⟨b,o +i * 2 +1,none⟩=some (.int .i64 (s.getD i default).hi)∧w.cell? ⟨d,q +i,none⟩=some (.bool (s.getD i default).ft):=by
 obtain ⟨b,o,h1,h2,h3,h4⟩:=h.at_.get (i:=i) Z37
 obtain ⟨d,q,g1,g2,g3⟩:=h.ft.get (i:=i) Z37
 have e1:(s.map fun p:Pn=>(p.lo,p.hi)).getD i default=((s.getD i default).lo,(s.getD i default).hi):=by simp [List.getD_eq_getElem?_getD,hi]
 have e2:(s.map (fun p:Pn=>p.ft)).getD i false=(s.getD i default).ft:=by simp [List.getD_eq_getElem?_getD,hi]
 rw [e1] at h3 h4
 rw [e2] at g3
 exact ⟨b,o,d,q,h1,g1,h2,g2,h3,h4,g3⟩

/-- A part's cells. -/
def Pt.cs (p:Pt):List Value:=[.slice p.sa p.sh.length p.sc,.int .i64 p.lo,.int .i64 p.hi,.int .i64 p.lob,.int .i64 p.hib,.bool p.ft,.int .i64 p.fby,.slice p.ra p.re.length p.rc]
def Pt.v (p:Pt):Value:=.agg #[.slice p.sa p.sh.length p.sc,.int .i64 p.lo,.int .i64 p.hi,.int .i64 p.lob,.int .i64 p.hib,.bool p.ft,.int .i64 p.fby,.slice p.ra p.re.length p.rc]
def pcs (ps:List Pt):List Value:=ps.flatMap Pt.cs
theorem pcs_length (ps:List Pt):(pcs ps).length=ps.length * 8:=flat_len_w (f:=Pt.cs) (k:=8) (fun _=>rfl) ps
/-- A list that a part holds: as it lies in a world; one that is empty and has no room may lie anywhere. -/
def LAt (w:World) (a:Option Addr) (n cap:Nat) (xs:List Int):Prop:=IntsAt w a n cap xs∨(xs=[]∧n=0∧cap=0)
theorem IntsAt.lat {w:World} {a:Option Addr} {n cap:Nat} {xs:List Int} (h:IntsAt w a n cap xs):LAt w a n cap xs:=.inl h
theorem LAt.len {w:World} {a:Option Addr} {n cap:Nat} {xs:List Int} (h:LAt w a n cap xs):n=xs.length:=by
 rcases h with h | ⟨rfl,rfl,_⟩
 ·exact h.len
 ·rfl
theorem LAt.small {w:World} {a:Option Addr} {n cap:Nat} {xs:List Int} (h:LAt w a n cap xs):xs.length≤140737488351232:=by
 rcases h with h | ⟨rfl,rfl,_⟩
 ·exact h.small
 ·simp
theorem LAt.below {w w':World} {a:Option Addr} {n cap:Nat} {xs:List Int} (h:LAt w a n cap xs) (hb:Below w.heap.size w w'):LAt w' a n cap xs:=h.imp (fun h=>h.below hb) id
theorem LAt.ints {w:World} {a:Option Addr} {n cap:Nat} {xs:List Int} (h:LAt w a n cap xs) (hne:xs≠[]):IntsAt w a n cap xs:=h.resolve_right fun e=>hne e.1
theorem LAt.get {w:World} {a:Option Addr} {n cap:Nat} {xs:List Int} (h:LAt w a n cap xs) {i:Nat} (hi:i<xs.length):∃ b off,a=some ⟨b,off,none⟩∧b<w.heap.size ∧
 w.cell? ⟨b,off +i,none⟩=some (.int .i64 (xs.getD i 0)):=(h.ints (fun e=>by rw [e] at hi;simp at hi)).get hi
/-- A part's lists, as they lie in a world. -/
structure PtAt (w:World) (p:Pt):Prop where
 sh:LAt w p.sa p.sh.length p.sc p.sh
 re:LAt w p.ra p.re.length p.rc p.re
theorem PtAt.below {w w':World} {p:Pt} (h:PtAt w p) (hb:Below w.heap.size w w'):PtAt w' p:=⟨h.sh.below hb,h.re.below hb⟩
/-- A slice of parts. -/
structure PtsAt (w:World) (a:Option Addr) (n cap:Nat) (ps:List Pt):Prop where
 len:n=ps.length
 small:ps.length≤140737488351232
 row:RowAt w a cap (pcs ps)
 each:∀ p ∈ ps,PtAt w p
theorem PtsAt.below {w w':World} {a:Option Addr} {n cap:Nat} {ps:List Pt} (h:PtsAt w a n cap ps) (hb:Below w.heap.size w w'):PtsAt w' a n cap ps:=⟨h.len,h.small,h.row.below hb,fun p hp=>(h.each p hp).below hb⟩
theorem Pt.mem {ps:List Pt} {i:Nat} (h:i<ps.length):ps.getD i default ∈ ps:=by rw [List.getD_eq_getElem?_getD,List.getElem?_eq_getElem h];exact List.getElem_mem _
theorem PtsAt.get {w:World} {a:Option Addr} {n cap:Nat} {ps:List Pt} (h:PtsAt w a n cap ps) {i:Nat} (hi:i<ps.length):∃ b off,a=some ⟨b,off,none⟩∧b<w.heap.size ∧
 w.cell? ⟨b,off +i * 8,none⟩=some (.slice (ps.getD i default).sa (ps.getD i default).sh.length (ps.getD i default).sc)∧w.cell? ⟨b,off +i * 8 +1,none⟩=some (.int .i64 (ps.getD i default).lo) ∧
 w.cell? ⟨b,off +i * 8 +2,none⟩=some (.int .i64 (ps.getD i default).hi)∧w.cell? ⟨b,off +i * 8 +3,none⟩=some (.int .i64 (ps.getD i default).lob)∧w.cell? ⟨b,off +i * 8 +4,none⟩=some (.int .i64 (ps.getD i default).hib) ∧
 w.cell? ⟨b,off +i * 8 +5,none⟩=some (.bool (ps.getD i default).ft)∧w.cell? ⟨b,off +i * 8 +6,none⟩=some (.int .i64 (ps.getD i default).fby) ∧
 w.cell? ⟨b,off +i * 8 +7,none⟩=some (.slice (ps.getD i default).ra (ps.getD i default).re.length (ps.getD i default).rc):=by
 have g:=fun j hj=>flat_get_w (f:=Pt.cs) (k:=8) (fun _=>rfl) ps i j hi hj
 obtain ⟨b,off,h1,h2,h3⟩:=h.row.cells (by intro e;have:=pcs_length ps;rw [e] at this;simp at this;omega)
 have k:=fun (j:Nat) (hj:j<8) (u:Value) (hu:(Pt.cs (ps.getD i default))[j]?=some u)=>h3 (i * 8 +j) u ((g j hj).trans hu)
 simp only [← Nat.add_assoc] at k
 exact ⟨b,off,h1,h2,k 0 (by omega) _ rfl,k 1 (by omega) _ rfl,k 2 (by omega) _ rfl,k 3 (by omega) _ rfl,k 4 (by omega) _ rfl,k 5 (by omega) _ rfl,k 6 (by omega) _ rfl,k 7 (by omega) _ rfl⟩
open Go
/-- An item. -/
structure Itm where
 id:Int
 kn:Int
 kd:Int
 wa:ByteArray
 pit:Int
 ly:Int
 co:Int
 ft:Bool
 sh:Int
 fr:Int
 tw:Int
 lo:Int
 hi:Int
 st:ByteArray
 li:Int
 vo:Int
def Itm.zero:Itm:=⟨0,0,0,⟨#[]⟩,0,0,0,false,0,0,0,0,0,⟨#[]⟩,0,0⟩
instance:Inhabited Itm:=⟨Itm.zero⟩
def Itm.cs (x:Itm):List Value:=[.int .i64 x.id,.int .i64 x.kn,.int .u8 x.kd,.string x.wa,.int .i64 x.pit,.int .i64 x.ly,.int .i64 x.co,.bool x.ft,.int .i64 x.sh,.int .i64 x.fr,.int .i64 x.tw,.int .i64 x.lo,.int .i64 x.hi,.string x.st,.int .i64 x.li,.int .i64 x.vo]
def Itm.v (x:Itm):Value:=.agg x.cs.toArray
/-- Two items are the same, field by field. -/
def eqI (x y:Itm):Bool:=x.id == y.id && (x.kn == y.kn && (x.kd == y.kd && (x.wa.data.toList == y.wa.data.toList && (x.pit == y.pit && (x.ly == y.ly && (x.co == y.co && (x.ft == y.ft && (x.sh == y.sh && (x.fr == y.fr && (x.tw == y.tw && (x.lo == y.lo && (x.hi == y.hi && (x.st.data.toList == y.st.data.toList && (x.li == y.li && x.vo == y.vo))))))))))))))
theorem ba_toList {a b:ByteArray} (h:a.data.toList=b.data.toList):a=b:=by
 obtain ⟨⟨x⟩⟩:=a
 obtain ⟨⟨y⟩⟩:=b
 simp at h
 rw [h]
theorem eqI_iff {x y:Itm}:eqI x y=true ↔ x=y:=by
 constructor
 ·intro h
  unfold eqI at h
  simp only [Bool.and_eq_true,beq_iff_eq] at h
  obtain ⟨h1,h2,h3,h4,h5,h6,h7,h8,h9,h10,h11,h12,h13,h14,h15,h16⟩:=h
  have k4:=ba_toList h4
  have k14:=ba_toList h14
  clear h4 h14
  obtain ⟨x1,x2,x3,x4,x5,x6,x7,x8,x9,x10,x11,x12,x13,x14,x15,x16⟩:=x
  obtain ⟨y1,y2,y3,y4,y5,y6,y7,y8,y9,y10,y11,y12,y13,y14,y15,y16⟩:=y
  simp only at h1 h2 h3 k4 h5 h6 h7 h8 h9 h10 h11 h12 h13 k14 h15 h16
  subst h1 h2 h3 k4 h5 h6 h7 h8 h9 h10 h11 h12 h13 k14 h15 h16
  rfl
 ·rintro rfl
  unfold eqI
  simp
theorem eqI_refl (x:Itm):eqI x x=true:=eqI_iff.2 rfl
def rngB (n a b:Int):Bool:=decide (a≤n) && decide (n≤b)
theorem rngB_iff {n a b:Int}:rngB n a b=true ↔ a≤n∧n≤b:=by simp [rngB]
/-- Letters, strictly ascending. -/
def ascS:List UInt8→Bool
 | []=>true
 | [c]=>decide (97≤c.toNat) && decide (c.toNat≤122)
 | c::d::l=>decide (97≤c.toNat) && decide (c.toNat≤122) && decide (c.toNat<d.toNat) && ascS (d::l)
def setS (s:List UInt8):Bool:=ascS s && !s.isEmpty
def measB (k:Int):Bool:=decide (2≤k) && decide (k≤5)
/-- What the kind wants of its fields. -/
def kindB (x:Itm):Bool :=
 if x.kd=1 then nameB x.wa.data.toList && rngB x.pit 1 20 && rngB x.ly 1 50 && rngB x.co 3 16
 else if x.kd=2 then rngB x.sh 1 1000000 && decide (0≤x.fr) && decide (x.fr<x.tw) && decide (x.tw≤16) && decide (1≤x.lo) && decide (x.lo≤x.hi) && decide (x.hi≤10000)
 else if x.kd=3 then rngB x.sh 1 1000000 && decide (0≤x.fr) && decide (x.fr<x.tw) && decide (x.tw≤15) && decide (-2880≤x.lo) && decide (x.lo≤x.hi) && decide (x.hi≤2880)
 else if x.kd=4 then rngB x.sh 1 1000000 && decide (0≤x.lo) && decide (x.lo≤x.hi) && decide (x.hi≤1000)
 else if x.kd=5 then rngB x.sh 1 1000000 && setS x.st.data.toList
 else if x.kd=6 then nameB x.wa.data.toList && rngB x.li 1 40
 else if x.kd=7 then rngB x.vo 1 1000000
 else false
/-- The item with just the fields that its kind uses. -/
def Itm.form (x:Itm):Itm :=
 if x.kd=1 then { Itm.zero with id:=x.id,kn:=x.kn,kd:=x.kd,wa:=x.wa,pit:=x.pit,ly:=x.ly,co:=x.co,ft:=x.ft }
 else if x.kd=2∨x.kd=3 then { Itm.zero with id:=x.id,kn:=x.kn,kd:=x.kd,sh:=x.sh,fr:=x.fr,tw:=x.tw,lo:=x.lo,hi:=x.hi }
 else if x.kd=4 then { Itm.zero with id:=x.id,kn:=x.kn,kd:=x.kd,sh:=x.sh,lo:=x.lo,hi:=x.hi }
 else if x.kd=5 then { Itm.zero with id:=x.id,kn:=x.kn,kd:=x.kd,sh:=x.sh,st:=x.st }
 else if x.kd=6 then { Itm.zero with id:=x.id,kn:=x.kn,kd:=x.kd,wa:=x.wa,li:=x.li }
 else { Itm.zero with id:=x.id,kn:=x.kn,kd:=x.kd,vo:=x.vo }
def headI (x:Itm):Bool:=rngB x.id 1 1000000 && rngB x.kn 0 100000
/-- An item is well-formed. -/
def itemB (x:Itm):Bool:=headI x && (kindB x && eqI x x.form)
def itemE (x:Itm):Int:=if itemB x then 0 else 1

/-- An item of the list withdraws an Id. -/
def voidB (l:List Itm) (id:Int):Bool:=l.any fun y=>y.kd == 7 && y.vo == id
/-- The items that stand. -/
def standL (l:List Itm):List Itm:=l.filter fun x=>x.kd != 7 && !voidB l x.id
def findI (l:List Itm) (id:Int):Option Itm:=(standL l).find? fun x=>x.id == id
def ownN (l:List Itm) (id:Int):Nat:=((standL l).filter fun z=>z.sh == id).length
/-- Why an item that needs others is refused. -/
def ofE (l:List Itm) (x:Itm):Int :=
 if x.kd=7 then
  match findI l x.vo with
  | none=>5
  | some y=>if y.kd=1∧0<ownN l y.id then 8 else 0
 else if measB x.kd then
  match findI l x.sh with
  | none=>5
  | some y=>if y.kd≠1 then 5 else if x.kd=2∧y.co<x.tw∨x.kd=3∧y.co≤x.tw then 1 else if 150≤ownN l y.id then 2 else 0
 else 0
def lateB (l:List Itm) (x:Itm):Bool:=decide (0<l.length) && decide (x.kn<(l.getD (l.length - 1) default).kn)
/-- Why an item is refused behind others. -/
def refE (l:List Itm) (x:Itm):Int :=
 if 300≤l.length then 2 else if itemB x=false then 1 else if l.any (fun y=>y.id == x.id) then 6 else if lateB l x then 7 else ofE l x
/-- The first item that is refused, from one on. -/
def chkFrom (l:List Itm):Nat→Nat→Nat × Int
 | 0,_=>(0,0)
 | k +1,i=>if refE (l.take i) (l.getD i default)=0 then chkFrom l k (i +1) else (i,refE (l.take i) (l.getD i default))
def chkI (l:List Itm):Nat × Int:=chkFrom l l.length 0
/-- A catalogue. -/
def CatOk (l:List Itm):Prop:=∀ i,i<l.length→refE (l.take i) (l.getD i default)=0
theorem chkFrom_zero {l:List Itm}:∀ {k i:Nat},i +k=l.length→((chkFrom l k i).2=0 ↔ ∀ j,i≤j→j<l.length→refE (l.take j) (l.getD j default)=0)
 | 0,i,h=>by simp only [chkFrom,true_iff];intro j h1 h2;omega
 | k +1,i,h=>by
   have ih:=chkFrom_zero (l:=l) (k:=k) (i:=i +1) (by omega)
   unfold chkFrom
   by_cases h0:refE (l.take i) (l.getD i default)=0
   ·rw [if_pos h0,ih]
    constructor
    ·intro hj j h1 h2
     by_cases e:j=i
     ·subst e;exact h0
     ·exact hj j (by omega) h2
    ·intro hj j h1 h2;exact hj j (by omega) h2
   ·rw [if_neg h0]
    simp only [h0,false_iff]
    intro hj
    exact h0 (hj i (Nat.le_refl _) (by omega))
theorem chk_ok {l:List Itm}:(chkI l).2=0 ↔ CatOk l:=by
 unfold chkI CatOk
 rw [chkFrom_zero (by omega)]
 simp
theorem refE_zero {l:List Itm} {x:Itm} (h:refE l x=0):l.length<300∧itemB x=true∧(∀ y ∈ l,y.id≠x.id)∧lateB l x=false∧ofE l x=0:=by
 unfold refE at h
 split at h
 ·omega
 split at h
 ·omega
 split at h
 ·omega
 split at h
 ·omega
 rename_i h1 h2 h3 h4
 refine ⟨by omega,by simpa using h2,fun y hy e=>h3 ?_,by simpa using h4,h⟩
 rw [List.any_eq_true]
 exact ⟨y,hy,by simpa using e⟩
theorem Itm.getm {l:List Itm} {i:Nat} (h:i<l.length):l.getD i default ∈ l:=by
 rw [List.getD_eq_getElem?_getD,List.getElem?_eq_getElem h];exact List.getElem_mem _
theorem CatOk.item {l:List Itm} (h:CatOk l):∀ x ∈ l,itemB x=true:=fun x hx=>by
 obtain ⟨i,hi,rfl⟩:=List.getElem_of_mem hx
 have:=(refE_zero (h i hi)).2.1
 rwa [List.getD_eq_getElem?_getD,List.getElem?_eq_getElem hi] at this
theorem CatOk.few {l:List Itm} (h:CatOk l):l.length≤300:=by
 rcases Nat.eq_zero_or_pos l.length with h0 | h0
 ·omega
 ·have:=(refE_zero (h (l.length - 1) (by omega))).1
  rw [List.length_take] at this
  omega
theorem CatOk.ids {l:List Itm} (h:CatOk l):l.Pairwise fun x y=>x.id≠y.id:=by
 rw [List.pairwise_iff_getElem]
 intro i j hi hj hij
 have:=(refE_zero (h j hj)).2.2.1 l[i] Z4a
 rwa [List.getD_eq_getElem?_getD,List.getElem?_eq_getElem hj] at this
theorem CatOk.take {l:List Itm} (h:CatOk l) (n:Nat):CatOk (l.take n):=fun i hi=>by
 rw [List.length_take] at hi
 have:=h i (by omega)
 rwa [List.take_take,Nat.min_eq_left (by omega),List.getD_eq_getElem?_getD,List.getElem?_take_of_lt (by omega),← List.getD_eq_getElem?_getD]
/-- Only measurements have a sherd. -/
theorem itemB_sh {x:Itm} (h:itemB x=true) (h7:measB x.kd=false):x.sh=0:=by
 unfold itemB at h
 simp only [Bool.and_eq_true] at h
 have e:=eqI_iff.1 h.2.2
 rw [e]
 unfold measB at h7
 unfold Itm.form
 split
 ·rfl
 split
 ·rename_i h1 h2;simp at h7;omega
 split
 ·rename_i h1 h2 h3;simp at h7;omega
 split
 ·rename_i h1 h2 h3 h4;simp at h7;omega
 split <;> rfl
theorem itemB_id {x:Itm} (h:itemB x=true):1≤x.id∧x.id≤1000000∧0≤x.kn∧x.kn≤100000:=by
 unfold itemB headI at h
 simp [rngB] at h
 omega
open Go.RowKit
def zeros60:List Int:=List.replicate 60 0
def lopen (now next:List Int) (b:Bd):Bool:=decide (gi now b.frm<FAR) && decide (gi now b.frm +b.most<gi next b.tow)
def lstep (now:List Int) (s:List Int × List Int) (k:Nat) (b:Bd):List Int × List Int :=
 if lopen now s.1 b then (s.1.set b.tow.toNat (gi now b.frm +b.most),s.2.set b.tow.toNat k) else s
def lng (bs:List Bd) (now:List Int):Nat→List Int × List Int
 | 0=>(fars,zeros60)
 | k +1=>lstep now (lng bs now k) k (bs.getD k default)
def wS (bs:List Bd) (q:Nat):Nat→List Int
 | 0=>far0 q
 | m +1=>(lng bs (wS bs q m) bs.length).1
open Go.Shelf
set_option maxHeartbeats 1000000
set_option maxRecDepth 100000
theorem ggreatest_any (p:Int) (a:Option Addr) (n cap:Nat) (bs:List Bd) (x y:Int) (w:World) (hb:BdsAt w a n cap bs) (hs:Sys p bs) (hx0:0≤x) (hx1:x<p) (hy0:0≤y) (hy1:y<p) :
 Calls Tryz.prog 156 #[.agg #[.int .i64 p,.slice a n cap],.int .i64 x,.int .i64 y] w fun e w'=>e=.returned (.int .i64 (gD p bs x y))∧Below w.heap.size w w':=by
 have hbx:=hb.below (w':=w.alloc (Obj.cells #[.int .i64 p,.slice a n cap] 57)) ((Below.refl _ _).alloc (Nat.le_refl _) _)
 have hlen:=gfrom_len p bs x
 have hgD:gD p bs x y=gi (gfrom p bs x).1.r y:=rfl
 have hF:=fun w1 (hb1:BdsAt w1 a n cap bs)=>gfrom_any p a n cap bs x w1 hb1 hs hx0 hx1
 have hp2:=hs.p2
 rw [hgD]
 clear hgD
 generalize gfrom p bs x=g at *
 obtain ⟨⟨gr,gl,gn⟩,gb⟩:=g
 simp only at hlen hF ⊢
 obtain ⟨hl1,hl2⟩:=hlen
 have hsz:(ints gr).size=60:=by rw [ints_size,hl1]
 have hc0:(ints gr)[y.toNat]?=some (.int .i64 (gi gr y)):=gi_cell hy0 (by omega)
 go_enter Tryz.func156,Tryz.ntmps156
 go_wp2_with (first
  | (go_at_call 199;refine (hF _ hbx).mono ?_;rintro e w1 ⟨rfl,hb1⟩;have hz1:=hb1.size;simp only [World.size_alloc] at hz1)
  | (refine wpList_strow_op rfl _ _ rfl rfl (g:=w1.heap.size) rfl rfl ((Below.heap_alloc _ _ _ (by simp)).trans (World.alloc_heap_new _ _)) rfl hl1 ?_;intro W2 hc2 hh2
     have hz2:=hc2.size
     simp only [World.size_alloc] at hz2)
  | (refine wpList_starr_op rfl _ _ rfl rfl (g:=w1.heap.size +1) rfl rfl ((hc2.block _ (by simp) (by simp)).trans (heap_alloc2_new _ _ _)) rfl hl2 ?_;intro W3 hc3 hh3
     have hz3:=hc3.size
     have hh4:=(hc3.block w1.heap.size (by omega) (by simp)).trans hh2
     have hc5:=((SL.cells_of hh4).1 y.toNat).trans hc0))
 go_ret
 refine ⟨rfl,?_⟩
 refine Below.trans ?_ (hc3.belowE (B:=w.heap.size) (by omega) Zj)
 refine Below.trans ?_ (hc2.belowE (B:=w.heap.size) Zj Zj)
 exact ((((Below.refl _ w).alloc (Nat.le_refl _) _).trans (hb1.mono (by simp))).alloc (by omega) _).alloc Zj _
def inP (p x:Int):Bool:=withinB x 0 (p - 1)
theorem take_all {f:Int→Bool} {l:List Int} {k:Nat} (hk:k<l.length) (h:(l.take k).all f=true) (hx:f (l.getD k 0)=true):(l.take (k +1)).all f=true:=by
 rw [List.take_succ_eq_append_getElem hk,List.all_append,h]
 exact Z4f
theorem not_all {f:Int→Bool} {l:List Int} {k:Nat} (hk:k<l.length) (hx:f (l.getD k 0)=false):l.all f=false:=by
 rw [List.all_eq_false]
 exact ⟨l[k],List.getElem_mem hk,by simpa [List.getD_eq_getElem?_getD,List.getElem?_eq_getElem hk] using hx⟩
theorem gpoints_any (p:Int) (a:Option Addr) (n cap:Nat) (al:Option Addr) (m c:Nat) (xs:List Int) (w:World) (hx:IntsAt w al m c xs) (hp:1≤p∧p≤60) :
 Calls Tryz.prog 113 #[.agg #[.int .i64 p,.slice a n cap],.slice al m c] w fun e w'=>e=(if xs.all (inP p) then .returned (.tuple #[]) else .panicked gaveUp)∧Below w.heap.size w w':=by
 have hlen:=hx.small
 obtain rfl:=hx.len
 generalize hR:(if xs.all (inP p)=true then Ending.returned (Value.tuple #[]) else Ending.panicked gaveUp)=R
 have HR:=Lib.hid hR
 clear hR
 go_enter Tryz.func113,Tryz.ntmps113
 go_wp2_with fail
 go_loopw [8,5] (fun i _ wr=>∃ k:Nat,k≤xs.length∧i=.int .i64 k∧Below w.heap.size w wr∧wr.cell? ⟨w.heap.size,0,none⟩=some (.int .i64 p)∧(xs.take k).all (inP p)=true) (fun i _ _=>xs.length - (RowKit.intOf i).toNat)
 case atStart=>exact ⟨0,Nat.zero_le _,rfl,by ((repeat (first | assumption | exact Below.refl _ _ | refine Below.alloc ?_ ?_ _ | refine Below.setCell ?_ ?_ _ | refine Below.drew ?_ | refine belowN ?_ | refine Below.up ?_ Z18 ?_)) <;> (first | assumption | omega | (simp;done) | (simp;omega))),by simp [go_sem],rfl⟩
 case round =>
  obtain ⟨k,hk,rfl,hB,hc,hall⟩:=hrel
  have Hall:=Lib.hid hall
  clear hall
  by_cases hlt:k<xs.length
  ·obtain ⟨b,off,rfl,hbl,d0⟩:=(hx.below hB).get hlt
   generalize hy:xs.getD k 0=y at *
   have Hy:=Lib.hid hy
   clear hy
   cases hin:inP p y with
   | true =>
     have hin':withinB y 0 (p - 1)=true:=hin
     go_wp2_with (first
      | (go_at_call 115;refine (gwithin_any _ _ _ _).mono ?_;rintro e w1 ⟨rfl,rfl⟩;rw [hin'])
      | (go_at_call 114;refine (gneed_yes _).mono ?_;rintro e w1 ⟨rfl,rfl⟩))
     go_roundw
     case rel=>exact ⟨k +1,by omega,by go_num,hB,hc,take_all hlt Hall.out (by rw [Hy.out];exact hin)⟩
     case measure=>simp [RowKit.intOf];omega
   | false =>
     have hin':withinB y 0 (p - 1)=false:=hin
     go_wp2_with (first
      | (go_at_call 115;refine (gwithin_any _ _ _ _).mono ?_;rintro e w1 ⟨rfl,rfl⟩;rw [hin'])
      | (go_at_call 114;refine (gneed_no _).mono ?_;rintro e w1 ⟨rfl,rfl⟩))
     refine ⟨rfl,?_,hB⟩
     rw [← HR.out,not_all hlt (by rw [Hy.out];exact hin)];rfl
  ·go_wp2_with fail
   go_end0
   rw [List.take_of_length_le (by omega)] at Hall
   exact ⟨by rw [← HR.out,Hall.out];rfl,hB⟩
end Go.Proofs.YtelkcohhagblaaaGreat

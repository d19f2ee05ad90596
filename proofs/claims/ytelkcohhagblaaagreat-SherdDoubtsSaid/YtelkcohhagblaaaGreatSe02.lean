/- What the functions answer, for every input. -/
import Derived.Test.YtelkcohhagblaaaGreatSe01
import Derived.WalkKit
import Derived.WalkSpells
import Derived.WalkLawsBesides
import Derived.Deep.QuietTactic
import Derived.BigQuiet
import Derived.Lib.Hide
import Derived.RegionTactic
import Derived.StillTailTactics
import Derived.Laws.AppendOwnNone
import Derived.Maps.AppendAt
import Derived.Deep.RegionHeld3
import Derived.Deep.DrawnRows
import Derived.Deep.DeepCutAuto
import Derived.Lib.SlKeysI
import Derived.RangeFuncNested
import Derived.RangeFuncBound
import Derived.RangeFuncCalls
import Derived.RangeFuncLeaves
import Derived.OwnWalkIn
import Derived.TacticsInMore
import Derived.LoopNIn
import Derived.LoopIn
set_option linter.unusedSimpArgs false
set_option linter.unusedVariables false
set_option linter.unnecessarySimpa false
namespace Go.Proofs.YtelkcohhagblaaaGreat
theorem Z7a {P:Prop}(h:P:=by
 simp [results,Tryz.results143,go_sem, *]):P:=h
theorem Z7b {P:Prop}(h:P:=by
 simp [results,Tryz.results141,go_sem, *]):P:=h
theorem Zk {P:Prop}(h:P:=by
 kernel_rfl):P:=h
theorem Z22 {P:Prop}(h:P:=by
 simp [results,Tryz.results28,go_sem]):P:=h
theorem Z24 {P:Prop}(h:P:=by
 rw [ints_size,hl];kernel_rfl):P:=h
theorem Z2a {P:Prop}(h:P:=by
 simp [go_sem]):P:=h
theorem Z2c {P:Prop}(h:P:=by
 simp [results,Tryz.results30,go_sem]):P:=h
theorem Z2t {P:Prop}(h:P:=by
 refine ⟨?_,?_⟩ <;> kernel_rfl):P:=h
theorem Z3d {P:Prop}(h:P:=by
 simp [results,Tryz.results32,go_sem,k0,k1,k2,k3]):P:=h
theorem Z4b {P:Prop}(h:P:=by
 simp [results,Tryz.results150,go_sem,q0,q1,q2,q3,q4,q5]):P:=h
theorem Z4c {P:Prop}(h:P:=by
 simp [results,Tryz.results82,go_sem,q0,q1,q2,q3,q4,q5]):P:=h
theorem Z4o {P:Prop}(h:P:=by
 simp [results,Tryz.results100,go_sem,k0,k1]):P:=h
theorem Z4v {P:Prop}(h:P:=by
 simp [results,Tryz.results153,go_sem, *]):P:=h
theorem Z4w {P:Prop}(h:P:=by
 simp [results,Tryz.results148,go_sem, *]):P:=h
theorem Z4x {P:Prop}(h:P:=by
 simp [results,Tryz.results146,go_sem, *]):P:=h
theorem Z4y {P:Prop}(h:P:=by
 simp [results,Tryz.results145,go_sem, *]):P:=h
theorem Z4z {P:Prop}(h:P:=by
 simp [results,Tryz.results118,go_sem, *]):P:=h
theorem Z53 {P:Prop}(h:P:=by
 simp [results,Tryz.results85,go_sem, *]):P:=h
theorem Z5a {P:Prop}(h:P:=by
 simp [results,Tryz.results64,go_sem]):P:=h
theorem Z5b {P:Prop}(h:P:=by
 rw [hc1 _ _ (by simp)];simp [go_sem]):P:=h
theorem Z5q {P:Prop}(h:P:=by
 rw [ints_size,hl2];kernel_rfl):P:=h
theorem Z5r {P:Prop}(h:P:=by
 rw [ints_size,hl1];kernel_rfl):P:=h
open Go.RowKit
theorem bcell {W w1:World} {B:Nat} (hb:Below B W w1):(∀ b o,b<B→w1.cell? ⟨b,o,none⟩=W.cell? ⟨b,o,none⟩)∧(∀ b o,b<B→w1.frozen? ⟨b,o,none⟩=W.frozen? ⟨b,o,none⟩) :=
 ⟨fun b o h=>hb.cell (p:=⟨b,o,none⟩) h,fun b o h=>hb.frozen (p:=⟨b,o,none⟩) h⟩
theorem _root_.Go.RowKit.Below.up {B:Nat} {a b c:World} (h:Below B a b) (h2:Below b.heap.size b c) (hB:B≤b.heap.size):Below B a c:=h.trans (h2.mono hB)
theorem belowN {B n:Nat} {a b:World} (h:Below B a b):Below B a (b.drewN n):=⟨h.os,h.tape,h.output,h.size,fun k hk=>h.block k hk⟩
theorem lt_size {W w1:World} (hb:Below W.heap.size W w1) {b:Nat} (h:b<W.heap.size):b<w1.heap.size:=Nat.lt_of_lt_of_le h hb.size
theorem ret_int {k:IntKind} {a b:Int} (h:a=b):Ending.returned (.int k a)=Ending.returned (.int k b):=by rw [h]
theorem ret_bool {a b:Bool} (h:a=b):Ending.returned (.bool a)=Ending.returned (.bool b):=by rw [h]

/-- A bound, a system, as data. -/
structure Bd where
 frm:Int
 tow:Int
 most:Int
 bid:Int
instance:Inhabited Bd:=⟨⟨0,0,0,0⟩⟩
def Bd.v (b:Bd):Value:=.agg #[.int .i64 b.frm,.int .i64 b.tow,.int .i64 b.most,.int .i64 b.bid]
def Bd.cs (b:Bd):List Value:=[.int .i64 b.frm,.int .i64 b.tow,.int .i64 b.most,.int .i64 b.bid]

/-- A slice of bounds, as it lies in a world. -/
structure BdsAt (w:World) (a:Option Addr) (n cap:Nat) (bs:List Bd):Prop where
 len:n=bs.length
 small:bs.length≤140737488351232
 nil:a=none→bs=[]∧cap=0
 at_:∀ x,a=some x→x.spot=none∧x.block<w.heap.size∧∀ i,i<bs.length →
  w.cell? ⟨x.block,x.off +i * 4,none⟩=some (.int .i64 (bs.getD i default).frm) ∧
  w.cell? ⟨x.block,x.off +i * 4 +1,none⟩=some (.int .i64 (bs.getD i default).tow) ∧
  w.cell? ⟨x.block,x.off +i * 4 +2,none⟩=some (.int .i64 (bs.getD i default).most) ∧
  w.cell? ⟨x.block,x.off +i * 4 +3,none⟩=some (.int .i64 (bs.getD i default).bid)
theorem BdsAt.below {w w':World} {a:Option Addr} {n cap:Nat} {bs:List Bd} (h:BdsAt w a n cap bs) (hb:Below w.heap.size w w'):BdsAt w' a n cap bs:=by
 refine ⟨h.len,h.small,h.nil,fun x hx=>?_⟩
 obtain ⟨h1,h2,h3⟩:=h.at_ x hx
 refine ⟨h1,by have:=hb.size;omega,fun i hi=>?_⟩
 have hc:=(bcell hb).1
 rw [hc _ _ h2,hc _ _ h2,hc _ _ h2,hc _ _ h2]
 exact h3 i hi
theorem BdsAt.get {w:World} {a:Option Addr} {n cap:Nat} {bs:List Bd} (h:BdsAt w a n cap bs) {i:Nat} (hi:i<bs.length):∃ b off,a=some ⟨b,off,none⟩∧b<w.heap.size ∧
 w.cell? ⟨b,off +i * 4,none⟩=some (.int .i64 (bs.getD i default).frm) ∧
 w.cell? ⟨b,off +i * 4 +1,none⟩=some (.int .i64 (bs.getD i default).tow) ∧
 w.cell? ⟨b,off +i * 4 +2,none⟩=some (.int .i64 (bs.getD i default).most) ∧
 w.cell? ⟨b,off +i * 4 +3,none⟩=some (.int .i64 (bs.getD i default).bid):=by
 match a,h with
 | none,h=>have:=(h.nil rfl).1;subst this;simp at hi
 | some ⟨b,off,sp⟩,h =>
   obtain ⟨h1,h2,h3⟩:=h.at_ _ rfl
   simp at h1
   subst h1
   exact ⟨b,off,rfl,h2,h3 i hi⟩

/-- A row of cells, as it lies in a world. -/
structure RowAt (w:World) (a:Option Addr) (cap:Nat) (vs:List Value):Prop where
 nil:a=none→vs=[]∧cap=0
 at_:∀ x,a=some x→x.spot=none∧x.block<w.heap.size∧∀ i u,vs[i]?=some u→w.cell? ⟨x.block,x.off +i,none⟩=some u
theorem RowAt.below {w w':World} {a:Option Addr} {cap:Nat} {vs:List Value} (h:RowAt w a cap vs) (hb:Below w.heap.size w w'):RowAt w' a cap vs:=by
 refine ⟨h.nil,fun x hx=>?_⟩
 obtain ⟨h1,h2,h3⟩:=h.at_ x hx
 exact ⟨h1,Nat.lt_of_lt_of_le h2 hb.size,fun i u hi=>by rw [(bcell hb).1 _ _ h2];exact h3 i u hi⟩
theorem add_none (b off j:Nat):(⟨b,off,none⟩:Addr).add j=⟨b,off +j,none⟩:=by unfold Addr.add;split <;> simp_all

/-- A slice of ints, as it lies in a world. -/
structure IntsAt (w:World) (a:Option Addr) (n cap:Nat) (xs:List Int):Prop where
 len:n=xs.length
 small:xs.length≤140737488351232
 row:RowAt w a cap (xs.map (Value.int .i64))
theorem IntsAt.below {w w':World} {a:Option Addr} {n cap:Nat} {xs:List Int} (h:IntsAt w a n cap xs) (hb:Below w.heap.size w w'):IntsAt w' a n cap xs:=⟨h.len,h.small,h.row.below hb⟩
theorem IntsAt.get {w:World} {a:Option Addr} {n cap:Nat} {xs:List Int} (h:IntsAt w a n cap xs) {i:Nat} (hi:i<xs.length):∃ b off,a=some ⟨b,off,none⟩∧b<w.heap.size ∧
 w.cell? ⟨b,off +i,none⟩=some (.int .i64 (xs.getD i 0)):=by
 match a,h with
 | none,h=>have:=(h.row.nil rfl).1;simp at this;subst this;simp at hi
 | some ⟨b,off,sp⟩,h =>
   obtain ⟨h1,h2,h3⟩:=h.row.at_ _ rfl
   simp at h1
   subst h1
   refine ⟨b,off,rfl,h2,?_⟩
   exact h3 i _ Z2e

/-- What a call owns reads as a row. -/
theorem RowAt.of_owns {w:World} {base:Nat} {e:TypeId} {size:Nat} {a:Option Addr} {n cap:Nat} {vs:List Value} (h:w.ownsRow base e size (.slice a n cap) n vs):RowAt w a cap vs:=by
 obtain ⟨hl,h⟩:=h
 rcases h with ⟨hv,hn⟩ | ⟨g,cap',cur,hv,hb,hg,hn,hm,hs,ht⟩
 ·simp at hv
  obtain ⟨rfl,rfl,rfl⟩:=hv
  simp at hl
  exact ⟨fun _=>⟨hl,rfl⟩,fun x h=>by cases h⟩
 ·simp at hv
  obtain ⟨rfl,rfl⟩:=hv
  refine ⟨(fun h=>by cases h),fun x hx=>?_⟩
  simp at hx
  subst hx
  refine ⟨rfl,(Array.getElem?_eq_some_iff.1 hg).1,fun i u hi=>?_⟩
  simp only [Nat.zero_add]
  rw [← ht] at hi
  rw [cell_of_row w g i cur e (0,0) hg]
  rw [List.getElem?_take] at hi
  split at hi
  ·simpa using hi
  ·cases hi
theorem IntsAt.of_owns {w:World} {base:Nat} {e:TypeId} {a:Option Addr} {n cap:Nat} {xs:List Int} (h:w.ownsRow base e 1 (.slice a n cap) n (xs.map (Value.int .i64))) (hs:xs.length≤140737488351232):IntsAt w a n cap xs:=⟨by have:=h.1;simp at this;exact this.symm,hs,RowAt.of_owns h⟩
theorem _root_.Go.World.ownsRow.up {w w':World} {base base':Nat} {e:TypeId} {size:Nat} {v:Value} {n:Nat} {xs:List Value} (h:w.ownsRow base e size v n xs) (hb:Below w.heap.size w w') (hB:base'≤base):w'.ownsRow base' e size v n xs:=by
 obtain ⟨hl,⟨hv,hn⟩ | ⟨g,cap',cur,hv,hbg,hg,hr⟩⟩:=h
 ·exact ⟨hl,.inl ⟨hv,hn⟩⟩
 ·exact ⟨hl,.inr ⟨g,cap',cur,hv,Nat.le_trans hB hbg,by rw [hb.block g (Array.getElem?_eq_some_iff.1 hg).1];exact hg,hr⟩⟩
theorem RowAt.of_heap {w:World} {N:Nat} {cs:Array Value} {t:TypeId} {fr:Nat × Nat} {cap:Nat} (h:w.heap[N]?=some (.cells cs t fr)):RowAt w (some ⟨N,0,none⟩) cap cs.toList:=by
 refine ⟨(fun h=>by cases h),fun x hx=>?_⟩
 simp at hx
 subst hx
 refine ⟨rfl,(Array.getElem?_eq_some_iff.1 h).1,fun i u hi=>?_⟩
 rw [Nat.zero_add,cell_of_row w N i cs t fr h]
 simpa using hi

/-- What the tables say of an element's type. -/
structure Elem (P:Program) (t e:TypeId) (z:Value) (size bytes:Nat):Prop where
 und:P.underlying t=some (.slice e)
 info:∃ i,P.info? e=some i∧i.zero=some z∧i.size=size∧i.bytes=bytes
 zs:z.cells.size=size
 pos:0<size

/-- 'append(v, x...)', v the call's own, x whatever row. -/
theorem wp_app {P:Program} {w:World} {o:Oper} {a:Act} {K:Act→World→Prop} {Q:Exit→Act→World→Prop} {t e:TypeId} {z:Value} {size bytes:Nat} (T:Elem P t e z size bytes)
 (s x:Operand) (ho:o.op=.call { callee:=.builtin .append,args:=#[s,x],argTypes:=#[t,t] })
 {base:Nat} {v:Value} {n:Nat} {xs:List Value} (hown:w.ownsRow base e size v n xs) (hs:a.eval s=v)
 {sa:Option Addr} {m c:Nat} {news:List Value} (hx:a.eval x=.slice sa m c) (hsrc:RowAt w sa c news) (hl:news.length=m * size) (h1:∀ u ∈ news,u.oneCell'=true)
 (h63:n +m≤maxLen) (hbytes:(n +m) * bytes≤140737488355328) (hbase:base≤w.heap.size)
 (h:∀ v' w',w'.ownsRow base e size v' (n +m) (xs ++news)→w.grownBy w' v.ownBlock→Below base w w'→(v'=.slice none 0 0 ↔ v=.slice none 0 0∧m=0)→(v'.ownBlock=v.ownBlock∨v'.ownBlock=some w.heap.size)→K (a.put o.dst v') w'):o.wp P a w K Q:=by
 obtain ⟨i,hi,hz0,hz1,hz2⟩:=T.info
 have hlt:=hown.lt
 have hbel:∀ w',w.grownBy w' v.ownBlock→Below base w w':=fun w' hg=>(Below.refl base w).grown hg hbase (fun k hk=>(hlt k hk).1)
 match sa,hsrc,hx with
 | none,hsrc,hx =>
   obtain ⟨hn,hc⟩:=hsrc.nil rfl
   subst hn
   subst hc
   have hm:m=0:=by
    have hp:=T.pos
    rcases Nat.eq_zero_or_pos m with h | h
    ·exact h
    ·have:=Nat.mul_pos h hp;simp at hl;omega
   subst hm
   have hrun:=run_append_owned_none (P:=P) (w:=w) base t o.type e i size T.und hi v n xs hown
   unfold Oper.wp
   simp [execOp,ho,resolve,invoke,builtin,hs,hx,hrun,Result.andThen]
   exact h v w (by simpa using hown) ⟨rfl,rfl,rfl,Nat.le_refl _,fun _ _ _=>rfl⟩ (Below.refl _ _) (by simp) (.inl rfl)
 | some ⟨b,off,sp⟩,hsrc,hx =>
   obtain ⟨h2,h3,h4⟩:=hsrc.at_ _ rfl
   simp at h2
   subst h2
   obtain ⟨v',w',hrun,r1,r2,r3,r4⟩:=run_append_own_at (P:=P) (w:=w) base t o.type e i z size bytes T.und hi hz0 hz1 hz2 T.zs T.pos v n xs hown ⟨b,off,none⟩ m c news hl (fun j u hj=>by rw [add_none];exact h4 j u hj) h1 h63 hbytes hbase
   unfold Oper.wp
   simp [execOp,ho,resolve,invoke,builtin,hs,hx,hrun,Result.andThen]
   exact h v' w' r1 r2 (hbel w' r2) r3 r4
theorem wpList_app {P:Program} {w:World} {ops:Array Oper} {rest:List Oper} {o:Oper} {a:Act} {Q:Exit→Act→World→Prop} {t e:TypeId} {z:Value} {size bytes:Nat} (T:Elem P t e z size bytes)
 (hgd:o.guard=none) (s x:Operand) (ho:o.op=.call { callee:=.builtin .append,args:=#[s,x],argTypes:=#[t,t] })
 {base:Nat} {v:Value} {n:Nat} {xs:List Value} (hown:w.ownsRow base e size v n xs) (hs:a.eval s=v)
 {sa:Option Addr} {m c:Nat} {news:List Value} (hx:a.eval x=.slice sa m c) (hsrc:RowAt w sa c news) (hl:news.length=m * size) (h1:∀ u ∈ news,u.oneCell'=true)
 (h63:n +m≤maxLen) (hbytes:(n +m) * bytes≤140737488355328) (hbase:base≤w.heap.size)
 (h:∀ v' w',w'.ownsRow base e size v' (n +m) (xs ++news)→w.grownBy w' v.ownBlock→Below base w w'→(v'=.slice none 0 0 ↔ v=.slice none 0 0∧m=0)→(v'.ownBlock=v.ownBlock∨v'.ownBlock=some w.heap.size)→wpList P ops Q rest (a.put o.dst v') w'):wpList P ops Q (o::rest) a w :=
 wpList_plain hgd fun _ hK=>wp_app T s x ho hown hs hx hsrc hl h1 h63 hbytes hbase fun v' w' k1 k2 k3 k4 k5=>hK _ _ (h v' w' k1 k2 k3 k4 k5)
theorem elemI:Elem Tryz.prog 61 3 (.int .i64 0) 1 8:=⟨Tryz.underlying61,info_parts Zk,rfl,by decide⟩
theorem elemB:Elem Tryz.prog 50 69 (.agg #[.int .i64 0,.int .i64 0,.int .i64 0,.int .i64 0]) 4 32:=⟨Tryz.underlying50,info_parts Zk,rfl,by decide⟩
theorem ones_int (xs:List Int):∀ u ∈ xs.map (Value.int .i64),u.oneCell'=true:=by intro u hu;obtain ⟨_,_,rfl⟩:=List.mem_map.1 hu;rfl

/-- The cells of bounds. -/
def bcs (bs:List Bd):List Value:=bs.flatMap Bd.cs
theorem bcs_length (bs:List Bd):(bcs bs).length=bs.length * 4:=by
 induction bs with
 | nil=>rfl
 | cons b bs ih=>simp [bcs,Bd.cs] at *;omega
theorem bcs_append (cs bs:List Bd):bcs (cs ++bs)=bcs cs ++bcs bs:=by simp [bcs]
theorem bcs_one:∀ (bs:List Bd),∀ u ∈ bcs bs,u.oneCell'=true:=by
 intro bs u hu
 simp only [bcs,List.mem_flatMap] at hu
 obtain ⟨b,_,hb⟩:=hu
 simp [Bd.cs] at hb
 rcases hb with rfl | rfl | rfl | rfl <;> rfl
theorem bcs_get:∀ (bs:List Bd) (i:Nat),i<bs.length→(bcs bs)[i * 4]?=some (.int .i64 (bs.getD i default).frm)∧(bcs bs)[i * 4 +1]?=some (.int .i64 (bs.getD i default).tow) ∧
 (bcs bs)[i * 4 +2]?=some (.int .i64 (bs.getD i default).most)∧(bcs bs)[i * 4 +3]?=some (.int .i64 (bs.getD i default).bid)
 | [],i,h=>by simp at h
 | b::bs,0,_=>by simp [bcs,Bd.cs]
 | b::bs,i +1,h=>by
   have ih:=bcs_get bs i Z3v
   have e:∀ j,j<4→(bcs (b::bs))[(i +1) * 4 +j]?=(bcs bs)[i * 4 +j]?:=by
    intro j _
    show ([_,_,_,_] ++bcs bs)[(i +1) * 4 +j]?=_
    rw [List.getElem?_append_right Zj]
    congr 1
    simp;omega
   have e0:=e 0 (by omega)
   simp only [Nat.add_zero] at e0
   rw [e0,e 1 (by omega),e 2 (by omega),e 3 (by omega)]
   simpa using ih
theorem bcs_cell (bs:List Bd) (j:Nat) (u:Value) (h:(bcs bs)[j]?=some u):∃ i k,i<bs.length∧k<4∧j=i * 4 +k:=by
 have hl:j<(bcs bs).length:=(List.getElem?_eq_some_iff.1 h).1
 rw [bcs_length] at hl
 exact ⟨j / 4,j % 4,by omega,by omega,by omega⟩
theorem BdsAt.row {w:World} {a:Option Addr} {n cap:Nat} {bs:List Bd} (h:BdsAt w a n cap bs):RowAt w a cap (bcs bs):=by
 refine ⟨fun ha=>?_,fun x hx=>?_⟩
 ·obtain ⟨rfl,rfl⟩:=h.nil ha;exact ⟨rfl,rfl⟩
 ·obtain ⟨h1,h2,h3⟩:=h.at_ x hx
  refine ⟨h1,h2,fun j u hj=>?_⟩
  obtain ⟨i,k,hi,hk,rfl⟩:=bcs_cell bs j u hj
  have g:=bcs_get bs i hi
  have c:=h3 i hi
  rw [← Nat.add_assoc]
  match k,hk with
  | 0,_=>simp only [Nat.add_zero] at *;rw [c.1,← g.1,hj]
  | 1,_=>rw [c.2.1,← g.2.1,hj]
  | 2,_=>rw [c.2.2.1,← g.2.2.1,hj]
  | 3,_=>rw [c.2.2.2,← g.2.2.2,hj]
theorem BdsAt.of_row {w:World} {a:Option Addr} {n cap:Nat} {bs:List Bd} (h:RowAt w a cap (bcs bs)) (hn:n=bs.length) (hs:bs.length≤140737488351232):BdsAt w a n cap bs:=by
 refine ⟨hn,hs,fun ha=>?_,fun x hx=>?_⟩
 ·obtain ⟨h1,h2⟩:=h.nil ha
  refine ⟨?_,h2⟩
  have:=bcs_length bs
  rw [h1] at this
  exact List.eq_nil_of_length_eq_zero (by simp at this;omega)
 ·obtain ⟨h1,h2,h3⟩:=h.at_ x hx
  refine ⟨h1,h2,fun i hi=>?_⟩
  have g:=bcs_get bs i hi
  exact ⟨h3 _ _ g.1,by simpa [Nat.add_assoc] using h3 _ _ g.2.1,by simpa [Nat.add_assoc] using h3 _ _ g.2.2.1,by simpa [Nat.add_assoc] using h3 _ _ g.2.2.2⟩
theorem BdsAt.of_owns {w:World} {base:Nat} {e:TypeId} {a:Option Addr} {n cap:Nat} {bs:List Bd} (h:w.ownsRow base e 4 (.slice a n cap) n (bcs bs)) (hs:bs.length≤140737488351232):BdsAt w a n cap bs:=.of_row (RowAt.of_owns h) (by have:=h.1;rw [bcs_length] at this;omega) hs

/-- What is owned is a slice of that many. -/
theorem owns_slice {w:World} {base:Nat} {e:TypeId} {size:Nat} {v:Value} {n:Nat} {xs:List Value} (h:w.ownsRow base e size v n xs):∃ a cap,v=.slice a n cap∧∀ x,a=some x→base≤x.block∧x.block<w.heap.size:=by
 obtain ⟨hl,⟨hv,hn⟩ | ⟨g,cap',cur,hv,hb,hg,_⟩⟩:=h
 ·exact ⟨none,0,by rw [hv,hn],fun x hx=>by cases hx⟩
 ·exact ⟨_,_,hv,fun x hx=>by simp at hx;subst hx;exact ⟨hb,(Array.getElem?_eq_some_iff.1 hg).1⟩⟩
def withinB (n lo hi:Int):Bool:=decide (lo≤n) && decide (n≤hi)
theorem withinB_iff {n lo hi:Int}:withinB n lo hi=true ↔ lo≤n∧n≤hi:=by simp [withinB]
open Go.Maps
/-- An ascending list with a number, once. -/
def insI (n:Int):List Int→List Int
 | []=>[n]
 | x::l=>if x<n then x::insI n l else if x=n then x::l else n::x::l
def Asc (l:List Int):Prop:=l.Pairwise (·<·)
theorem mem_insI {n y:Int}:∀ {l:List Int},y ∈ insI n l ↔ y=n∨y ∈ l
 | []=>by simp [insI]
 | x::l=>by
   simp only [insI]
   split
   ·simp only [List.mem_cons,mem_insI (l:=l)]
    constructor
    ·exact Z5g
    ·exact Z5g
   ·split
    ·rename_i h;subst h;simp
    ·simp
theorem Asc.insI {n:Int}:∀ {l:List Int},Asc l→Asc (insI n l)
 | [],_=>by simp [Asc,YtelkcohhagblaaaGreat.insI]
 | x::l,h=>by
   have h1:=List.pairwise_cons.1 h
   simp only [YtelkcohhagblaaaGreat.insI]
   split
   ·rename_i hx
    refine List.pairwise_cons.2 ⟨fun y hy=>?_,Asc.insI h1.2⟩
    rcases mem_insI.1 hy with rfl | hy
    ·exact hx
    ·exact h1.1 y hy
   ·split
    ·exact h
    ·rename_i h2 h3
     refine List.pairwise_cons.2 ⟨fun y hy=>?_,h⟩
     rcases List.mem_cons.1 hy with rfl | hy
     ·omega
     ·have:=h1.1 y hy;omega
theorem Asc.nodup {l:List Int} (h:Asc l):l.Nodup:=h.imp (fun {a b} (h:a<b)=>by omega)
open Go.RowKit
theorem SL.Chg.cellsW {E:List Nat} {w w':World} (h:SL.Chg E w w'):(∀ b o,b<w.heap.size→b ∉ E→w'.cell? ⟨b,o,none⟩=w.cell? ⟨b,o,none⟩)∧(∀ b o,b<w.heap.size→b ∉ E→w'.frozen? ⟨b,o,none⟩=w.frozen? ⟨b,o,none⟩) :=
 ⟨fun b o hb he=>by have:=h.block b hb he;simp [World.cell?,this],fun b o hb he=>by have:=h.block b hb he;simp [World.frozen?,this]⟩
theorem SL.Chg.belowW {E:List Nat} {w w':World} {B:Nat} (h:SL.Chg E w w') (hB:B≤w.heap.size) (hE:∀ k ∈ E,B≤k):Below B w w' :=
 ⟨h.os,h.tape,h.output,h.size,fun k hk=>h.block k (Nat.lt_of_lt_of_le hk hB) (fun hm=>by have:=hE k hm;omega)⟩
theorem SL.Chg.monoW {E F:List Nat} {w w':World} (h:SL.Chg E w w') (hE:∀ k ∈ E,k ∈ F):SL.Chg F w w':=⟨h.os,h.tape,h.output,h.size,fun k hk hn=>h.block k hk (fun hm=>hn (hE k hm))⟩
theorem _root_.Go.RowKit.Below.ch2 {B:Nat} {a b c:World} (h:Below B a b) (h2:Below b.heap.size b c) (hB:B≤a.heap.size:=by first | exact Nat.le_refl _ | omega):Below B a c:=h.trans (h2.mono (Nat.le_trans hB h.size))
theorem one_alloc (w:World) (o:Obj):Below w.heap.size w (w.alloc o):=(Below.refl _ _).alloc (Nat.le_refl _) _
/-- A block that was there, and what its cells hold. -/
def SL.blk (u e:List Nat) (N:Nat) (t:TypeId) (cs:Array Value):SL.Sp :=
 { sub:=0,use:=u,eat:=e,A:=fun _ w F=>w.heap[N]?=some (.cells cs t (0,0))∧F=[N],
   st:=by rintro v w w' F ⟨h,rfl⟩ hk _;exact ⟨by rw [hk N (by simp)];exact h,rfl⟩ }
/-- How a round is left. -/
def roundEnd {σ:Type} (B:Nat) (I:σ→World→Prop) (Ix:Code→σ→World→Prop) (s:σ) (W:World):Exit→Act→World→Prop
 | .normal,_,W'=>KeepsFrom B W W'∧I s W'
 | .ret,_,W'=>KeepsFrom B W W'∧Ix .ret s W'
 | .exit id,_,W'=>KeepsFrom B W W'∧Ix (.exit id) s W'
 | .goto t,_,W'=>KeepsFrom B W W'∧Ix (.goto t) s W'
 | .panic _,_,_=>False
 | .outgrown,_,_=>False
theorem range_state {P:Program} {σ α:Type} {g:Operand} {ps:Array Tmp} {assign body:Code} {Q:Exit→Act→World→Prop} {a:Act} {w:World}
 {gf:Nat} {lb:Array Value} (hg:a.eval g=.func (.func gf) #[] lb) (eg:∀ args w,(callFunc gf args).run P w=.ok (.enter gf args) w)
 {encs:α→Array Value} (hps:∀ x,(encs x).size=ps.size)
 (I:σ→World→Prop) (Ix:Code→σ→World→Prop) (hI:OwnFrom w.heap.size I) (hIx:∀ c,OwnFrom w.heap.size (Ix c)) (s0:σ) (h0:I s0 w)
 (ok:σ→α→Prop) (upd:σ→α→σ) (Ax:σ→α→Act→World→Prop) (hAx:∀ s x a',OwnFrom w.heap.size (fun (_:Unit) W=>Ax s x a' W))
 (fin finx:σ→Prop)
 (hiter:∀ (l:Nat) (J Jx:σ→World→Prop) (W:World),Below w.heap.size w W→AbidesFrom W.heap.size J→AbidesFrom W.heap.size Jx→(∀ s W,J s W→I s W)→(∀ s W,Jx s W→∃ c,Ix c s W) →
  (∀ s x W1,J s W1→ok s x→YieldAt Fence.wide 0 P l (encs x) W1 fun e W'=>(e=.returned (.bool true)∧J (upd s x) W')∨(e=.returned (.bool false)∧Jx (upd s x) W')) →
  J s0 W→CallsIn Fence.wide 0 P gf (#[.func (.yield l) #[] #[]] ++lb) W fun e W'=>(∃ v,e=.returned v)∧((∃ s,fin s∧J s W')∨(∃ s,finx s∧Jx s W')))
 (hassign:∀ (l:Nat) (s:σ) (x:α) (W:World) (K:Act→World→Prop),I s W→ok s x→(∀ a' W',KeepsFrom w.heap.size W W'→I s W'→Ax s x a' W'→K a' W') →
  assign.wpIn (Fence.wide.inRound l) 0 P (Exit.then K (fun _ _ _=>False)) { tmps:=(ps.zip (encs x)).foldl (fun t (p,v)=>t.setIfInBounds p v) a.tmps,defers:=[] } W)
 (hbody:∀ (l:Nat) (s:σ) (x:α) (a':Act) (W:World),w.heap.size≤l→I s W→ok s x→Ax s x a' W→body.wpIn (Fence.wide.inRound l) 0 P (roundEnd w.heap.size I Ix (upd s x) W) a' W)
 (hdone:∀ (D:Nat) (s:σ) (W:World),w.heap.size≤D→fin s→I s W→W.heap[D]?=some (.deferred (some []))→Q .normal { a with defers:={ target:=.collected D,args:=#[] }::a.defers } W)
 (hstop:∀ (D:Nat) (c:Code) (s:σ) (W:World),w.heap.size≤D→finx s→Ix c s W→W.heap[D]?=some (.deferred (some []))→c.wp P Q { a with defers:={ target:=.collected D,args:=#[] }::a.defers } W) :
 (Code.rangeFunc g ps assign body).wp P Q a w:=by
 refine (wpIn_wide (n:=0)).1 (wpIn_rangeFunc fun fn hfn=>?_)
 obtain ⟨rec,hrec⟩:∃ rec:LoopState→Option Code→Loop,rec=fun st pe=>{ state:=st,pending:=pe,fn,tmps:=a.tmps,params:=ps,assign,body,defers:=w.heap.size }:=⟨_,rfl⟩
 obtain ⟨W1,hW1⟩:∃ W1,(w.alloc (.deferred (some []))).alloc (.loop (rec .ready none))=W1:=⟨_,rfl⟩
 have hL1:W1.heap[w.heap.size +1]?=some (.loop (rec .ready none)):=by
  exact Z39
 have hK1:W1.heap[w.heap.size]?=some (.deferred (some [])):=by
  exact Z41
 have hI1:I s0 W1:=by rw [← hW1];exact hI.alloc _ (hI.alloc _ h0)
 have hb1:Below w.heap.size w W1:=by
  exact Z49
 have hz1:w.heap.size +2≤W1.heap.size:=by rw [← hW1];simp
 -- the two blocks of book-keeping, beside an invariant
 let J:σ→World→Prop:=fun s W=>I s W∧W.heap[w.heap.size +1]?=some (.loop (rec .ready none))∧W.heap[w.heap.size]?=some (.deferred (some []))
 let Jx:σ→World→Prop:=fun s W=>∃ c,Ix c s W∧W.heap[w.heap.size +1]?=some (.loop (rec .done (some c)))∧W.heap[w.heap.size]?=some (.deferred (some []))
 have far:∀ {A B:World} {row:Option Nat} {k:Nat},A.grownBy B row→(∀ r,row=some r→W1.heap.size≤r∧∃ o:Obj,A.heap[r]?=some o∧o.isWalk=true)→k<W1.heap.size→k<A.heap.size→B.heap[k]?=A.heap[k]? :=
  fun hg hr hk hk'=>hg.block _ hk' (fun e=>by have:=(hr _ e.symm).1;omega)
 have low:∀ {A:World} {k:Nat} {o:Obj},A.heap[k]?=some o→k<A.heap.size:=fun h=>(Array.getElem?_eq_some_iff.1 h).1
 have nocells:∀ {A B:World} {row:Option Nat},(∀ r,row=some r→W1.heap.size≤r∧∃ o:Obj,A.heap[r]?=some o∧o.isWalk=true)→(∀ r,row=some r→w.heap.size≤r∧∃ o:Obj,A.heap[r]?=some o∧o.isCells=false) :=
  fun hr r e=>by obtain ⟨h1,o,ho,hw⟩:=hr r e;exact ⟨by omega,o,ho,Obj.not_cells_of_walk hw⟩
 have hJ:AbidesFrom W1.heap.size J:=fun s A B row hs hg' hr =>
  ⟨hI s A B row hs.1 hg' (nocells (B:=B) hr),(far hg' hr (by omega) (low hs.2.1)).trans hs.2.1,(far hg' hr (by omega) (low hs.2.2)).trans hs.2.2⟩
 have hJx:AbidesFrom W1.heap.size Jx:=fun s A B row hs hg' hr=>by
  exact Z2l
 refine ⟨w.heap.size +1,[{ target:=.collected w.heap.size,args:=#[] }],W1,{ target:=.fn (.func gf) lb,args:=#[.func (.yield (w.heap.size +1)) #[] #[]] },W1,gf,
  #[.func (.yield (w.heap.size +1)) #[] #[]] ++lb,W1,?_,?_,fun _ _=>trivial,?_,fun h=>by simp [Fence.wide] at h,?_⟩
 ·exact Z5k
 ·simp only [resolve,hg]
  simp [go_sem]
 ·simp [invoke,go_sem,eg]
 refine (hiter (w.heap.size +1) J Jx W1 hb1 hJ hJx (fun _ _ h=>h.1) (fun _ _ h=>let ⟨c,hc,_⟩:=h;⟨c,hc⟩) ?_ ⟨hI1,hL1,hK1⟩).mono ?_
 ·-- a round
  rintro s x W ⟨hi,hl,hk⟩ hok
  have hy:=run_yield (P:=P) (args:=encs x) hl (by rw [hrec];exact hps x)
  rw [hrec] at hy
  refine ⟨fn,_,assign,body,hy,roundIn_of_wpIn hfn (hassign _ s x W _ hi hok fun a' Wa hka hia hax=>?_)⟩
  have hla:=hka.same _ _ (by omega) hl rfl
  have hda:=hka.same _ _ (Nat.le_refl _) hk rfl
  refine ⟨_,run_beginRound hla (by rw [hrec]),?_⟩
  obtain ⟨Wb,hWb⟩:∃ Wb,Wa.putObj (w.heap.size +1) (.loop { rec .ready none with state:=.busy })=Wb:=⟨_,rfl⟩
  rw [hWb]
  have hlb:Wb.heap[w.heap.size +1]?=some (.loop { rec .ready none with state:=.busy }):=by rw [← hWb];exact World.putObj_heap_same (low hla)
  have hdb:Wb.heap[w.heap.size]?=some (.deferred (some [])):=by rw [← hWb];exact (World.putObj_heap_other (by omega)).trans hda
  have hib:I s Wb:=by rw [← hWb];exact hI.putObj _ hia (by omega) hla rfl
  have hab:Ax s x a' Wb:=by rw [← hWb];exact (hAx s x a').putObj (s:=()) _ hax (by omega) hla rfl
  refine wpIn_mono (hbody _ s x a' Wb (by omega) hib hok hab) ?_
  have out:∀ (jump:Option Code) (W3:World),KeepsFrom w.heap.size Wb W3 →
   (Instr.endRound (w.heap.size +1) jump).run P W3=.ok (.bool jump.isNone) (W3.putObj (w.heap.size +1) (.loop (rec (if jump.isNone then .ready else .done) jump))) ∧
   W3.heap[w.heap.size +1]?=some (.loop { rec .ready none with state:=.busy }) ∧
   (W3.putObj (w.heap.size +1) (.loop (rec (if jump.isNone then .ready else .done) jump))).heap[w.heap.size +1]?=some (.loop (rec (if jump.isNone then .ready else .done) jump)) ∧
   (W3.putObj (w.heap.size +1) (.loop (rec (if jump.isNone then .ready else .done) jump))).heap[w.heap.size]?=some (.deferred (some [])):=fun jump W3 hk3=>by
   exact Z1y
  have jump:∀ (c:Code) (W3:World),KeepsFrom w.heap.size Wb W3→Ix c (upd s x) W3→∃ v w',(Instr.endRound (w.heap.size +1) (some c)).run P W3=.ok v w'∧(Ending.returned v=.returned (.bool true)∧J (upd s x) w'∨Ending.returned v=.returned (.bool false)∧Jx (upd s x) w'):=fun c W3 hk3 hi3=>by
   obtain ⟨hr,hl3,hl4,hk4⟩:=out (some c) W3 hk3
   exact ⟨_,_,hr,.inr ⟨rfl,c,(hIx _).putObj _ hi3 (by omega) hl3 rfl,hl4,hk4⟩⟩
  rintro e a3 W3 hp
  cases e with
  | normal =>
    obtain ⟨hr,hl3,hl4,hk4⟩:=out none W3 hp.1
    exact ⟨_,_,hr,.inl ⟨rfl,hI.putObj _ hp.2 (by omega) hl3 rfl,hl4,hk4⟩⟩
  | ret=>exact jump _ _ hp.1 hp.2
  | exit id=>exact jump _ _ hp.1 hp.2
  | goto t=>exact jump _ _ hp.1 hp.2
  | panic ch=>exact hp.elim
  | outgrown=>exact hp.elim
 ·exact Z14
set_option maxHeartbeats 1000000
def Bd.ok (p:Int) (b:Bd):Bool:=withinB b.frm 0 (p-1) && withinB b.tow 0 (p-1) && !(b.frm == b.tow) && withinB b.most (-1000000) 1000000 && withinB b.bid 0 1000000
def chk (p:Int) (bs:List Bd):Int:=if p > 60∨bs.length > 400 then 2 else if p<1 then 1 else if bs.all (Bd.ok p) then 0 else 1
/-- The numbers of a list, ascending, each once. -/
def ascOf (l:List Int):List Int:=l.foldl (fun a x=>insI x a) []
theorem ascOf_go:∀ (l a:List Int),Asc a→Asc (l.foldl (fun a x=>insI x a) a)∧∀ x,x ∈ l.foldl (fun a x=>insI x a) a ↔ x ∈ a∨x ∈ l
 | [],a,h=>⟨h,by simp⟩
 | y::ys,a,h=>by
   obtain ⟨h1,h2⟩:=ascOf_go ys (insI y a) h.insI
   refine ⟨h1,fun x=>?_⟩
   simp only [List.foldl_cons]
   rw [h2,mem_insI,List.mem_cons]
   constructor
   ·rintro ((h | h) | h) <;> simp [h]
   ·exact Z5g
theorem ascOf_asc (l:List Int):Asc (ascOf l):=(ascOf_go l [] (by simp [Asc])).1
theorem mem_ascOf {l:List Int} {x:Int}:x ∈ ascOf l ↔ x ∈ l:=by
 have:=(ascOf_go l [] (by simp [Asc])).2 x
 unfold ascOf
 simpa using this

/-- How many come before a number. -/
def before (l:List Int) (x:Int):Nat:=l.countP fun y=>decide (y<x)
theorem Asc.le {l:List Int} (h:Asc l):l.Pairwise (·≤·):=h.imp (fun {a b} (h:a<b)=>by omega)
theorem pw_get {l:List Int} (h:l.Pairwise (·≤·)) {i j:Nat} (hij:i≤j) (hj:j<l.length):l.getD i 0≤l.getD j 0:=by
 rcases Nat.lt_or_ge i j with hlt | hge
 ·have:=List.pairwise_iff_getElem.1 h i j (by omega) hj hlt
  simpa [List.getD_eq_getElem?_getD,List.getElem?_eq_getElem,show i<l.length by omega,hj] using this
 ·obtain rfl:i=j:=by omega
  omega
def hisL (s:List Pn):List Int:=ascOf (s.map (·.hi))
/-- The colour below which all is done when so many ends are. -/
def cur (s:List Pn) (j:Nat):Nat:=if j=0 then 0 else ((hisL s).getD (j - 1) 0 +1).toNat
abbrev Best:=Nat × List (Int × Int)
def sumD (s:List Pn) (l:List (Int × Int)):Nat:=(l.map fun r=>dem s r.1 r.2).sum
structure Chain (s:List Pn) (l:List (Int × Int)):Prop where
 each:∀ r ∈ l,0≤r.1∧r.1≤r.2∧r.2≤1000∧0<dem s r.1 r.2
 apart:l.Pairwise fun a b=>a.2<b.1

/-- What holds of a sum and its ranges. -/
structure BestOk (s:List Pn) (c:Nat) (b:Best):Prop where
 sum:sumD s b.2=b.1
 chain:Chain s b.2
 low:∀ r ∈ b.2,r.2<c
theorem BestOk.mono {s:List Pn} {c c':Nat} {b:Best} (h:BestOk s c b) (hc:c≤c'):BestOk s c' b:=⟨h.sum,h.chain,fun r hr=>by have:=h.low r hr;omega⟩
end Go.Proofs.YtelkcohhagblaaaGreat

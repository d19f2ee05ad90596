/- What the functions answer, for every input. -/
import Derived.Test.YtelkcohhagblaaaGreatSe45
import Derived.Test.YtelkcohhagblaaaGreatSe49
import Derived.Test.YtelkcohhagblaaaGreatSe08
import Derived.Test.YtelkcohhagblaaaGreatSe35
import Derived.Test.YtelkcohhagblaaaGreatSe04
import Derived.Test.YtelkcohhagblaaaGreatSe10
set_option linter.unusedSimpArgs false
set_option linter.unusedVariables false
set_option linter.unnecessarySimpa false
namespace Go.Proofs.YtelkcohhagblaaaGreat
theorem Z8c {P:Prop}(h:P:=by
 rw [ho] at Hst
 go_wp2_with fail
 go_quiet (fail)
 go_wp2
 go_roundw
 case rel =>
  have e:=Hst.out
  simp only [Bool.false_eq_true,if_false] at e
  refine ⟨k +1,by omega,by go_num,by rw [e],hCn _,by simp;omega,?_,?_,by rw [e];exact hr1 _⟩
  ·exact ((bcell ((Below.refl wi.heap.size wi).alloc (Nat.le_refl _) _)).1 _ 0 zi).trans si0
  ·exact ((bcell ((Below.refl wi.heap.size wi).alloc (Nat.le_refl _) _)).1 _ 1 zi).trans si1
 case measure=>simp [RowKit.intOf];omega):P:=h
theorem Z8d {P:Prop}(h:P:=by
 refine SLF.wpo_do (SLF.wanted_free rfl) ?hd ?_
 case hd=>intro c h;cases h
 obtain ⟨⟨e2,_⟩,ho,e6⟩:=hu
 obtain ⟨sa,sc,hsl,_⟩:=owns_slice ho
 rw [hsl] at ho e6
 have HO:=Lib.hid ho
 have HE:=Lib.hid e6
 clear hc5 hf5 hc6 hf6 ho e6
 go_step
 have ho:=HO.out
 have e6:=HE.out
 refine hK _ _ _ _ ?_ (SL.Chg.refl _ _) (SL.aw_in ⟨_,[],_,⟨rfl,rfl⟩,⟨ho,rfl⟩,rfl⟩) (fun k hk=>.inl (by simpa [SL.aw_eat,e6] using hk))
 simp [Act.put]):P:=h
theorem Z8f {P:Prop}(h:P:=by
 intro v' w6 ho6 hg6 hb6 _ hat
 rw [Nat.zero_add,List.nil_append] at ho6
 refine hK _ v' w6 _ Zh (.of_own hg6 (fun k e=>by simp [SL.row,e1,e])) ⟨ho6,rfl⟩ ?_
 intro k hk
 simp [SL.row,e1] at hk ⊢
 exact Z1a):P:=h
theorem Z8g {P:Prop}(h:P:=by
 refine SLF.wpo_do (SLF.wanted_free rfl) ?hd ?_
 case hd=>intro c h;cases h
 have hs6:w1.heap.size≤w'.heap.size:=hG.size
 clear hu hc5 hf5 hc6 hf6
 go_step
 exact hK _ (.slice (some ⟨w'.heap.size,0,none⟩) 0 0) _ _ Zh (.alloc _ _ _) ⟨World.ownsRow_lit w' #[] 0 hs6 (by decide) rfl,rfl⟩ (fun j hj=>.inr (by simp [Value.ownBlock] at hj;subst hj;simp))):P:=h
theorem Z8i {P:Prop}(h:P:=by
 have R1:=Lib.hid r1
 have HF:=Lib.hid hF5
 have HE:=Lib.hid e9
 have HL:=Lib.hid hbl
 clear hc5 hf5 hc6 hf6 h7 r1 hd1 hF5 e9 hbl
 go_step
 exact sto2_k HL.out R1.out HN.out (by simpa using HF.out) HE.out (fun w1 F h1 h2 h3=>hK w1 F h1 (SL.aw_in h2) h3)):P:=h
theorem Z8t {P:Prop}(h:P:=by
 simp [results,Tryz.results201,go_sem, *]):P:=h
theorem Z90 {P:Prop}(h:P:=by
 have:=Hlk.out;have:=Hxl.out;omega):P:=h
open Go.RowKit
theorem first5 (a b c d e:Bool):a=false∨(a=true∧b=false)∨(a=true∧b=true∧c=false)∨(a=true∧b=true∧c=true∧d=false)∨(a=true∧b=true∧c=true∧d=true∧e=false)∨(a=true∧b=true∧c=true∧d=true∧e=true):=by
 cases a <;> cases b <;> cases c <;> cases d <;> cases e <;> simp
open Go.RowKit
set_option maxHeartbeats 1000000
theorem rwithin_any (n lo hi:Int) (w:World) :
 Calls Tryz.prog 207 #[.int .i64 n,.int .i64 lo,.int .i64 hi] w fun e w'=>e=.returned (.bool (withinB n lo hi))∧w=w':=by
 by_cases h1:lo≤n <;>
 ·go_enter Tryz.func207,Tryz.ntmps207
  go_wp2
  go_ret
  exact ⟨by simp [withinB, *] <;> omega,rfl⟩
theorem rpoint_any (p:Int) (a:Option Addr) (len cap:Nat) (n:Int) (w:World) :
 Calls Tryz.prog 200 #[.agg #[.int .i64 p,.slice a len cap],.int .i64 n] w fun e w'=>e=.returned (.bool (withinB n 0 (p-1)))∧Below w.heap.size w w':=by
 by_cases h1:0≤n <;>
 ·go_enter Tryz.func200,Tryz.ntmps200
  go_wp2
  go_ret
  exact ⟨by simp [withinB, *] <;> omega,(Below.refl _ _).alloc (Nat.le_refl _) _⟩
theorem take_succ_all {α:Type} [Inhabited α] {f:α→Bool} {l:List α} {k:Nat} (hk:k<l.length) (h:(l.take k).all f=true) (hx:f (l.getD k default)=true):(l.take (k +1)).all f=true:=by
 rw [List.take_succ_eq_append_getElem hk,List.all_append,h]
 exact Z4f
theorem all_false_of {α:Type} [Inhabited α] {f:α→Bool} {l:List α} {k:Nat} (hk:k<l.length) (hx:f (l.getD k default)=false):l.all f=false:=by
 rw [List.all_eq_false]
 exact ⟨l[k],List.getElem_mem hk,by simpa [List.getD_eq_getElem?_getD,List.getElem?_eq_getElem hk] using hx⟩
theorem chk_bad {p:Int} {bs:List Bd} {k:Nat} (h1:¬ 60<p) (h2:¬ 400<bs.length) (h3:¬ p<1) (hk:k<bs.length) (h:Bd.ok p (bs.getD k default)=false):chk p bs=1:=by
 rw [chk,if_neg (by omega),if_neg h3,all_false_of hk h];rfl
theorem chk_good {p:Int} {bs:List Bd} (h1:¬ 60<p) (h2:¬ 400<bs.length) (h3:¬ p<1) (h:bs.all (Bd.ok p)=true):chk p bs=0:=by
 rw [chk,if_neg (by omega),if_neg h3,if_pos h]
theorem rcheck_any (p:Int) (a:Option Addr) (n cap:Nat) (bs:List Bd) (w:World) (hb:BdsAt w a n cap bs) :
 Calls Tryz.prog 181 #[.agg #[.int .i64 p,.slice a n cap]] w fun e w'=>e=.returned (.int .i64 (chk p bs))∧Below w.heap.size w w':=by
 have hlen:=hb.small
 obtain rfl:=hb.len
 by_cases h1:60<p
 ·go_enter Tryz.func181,Tryz.ntmps181
  go_wp2
  go_ret
  exact ⟨by simp [chk,h1],(Below.refl _ _).alloc (Nat.le_refl _) _⟩
 by_cases h2:400<bs.length
 ·go_enter Tryz.func181,Tryz.ntmps181
  go_wp2
  go_ret
  exact ⟨by simp [chk,h2],(Below.refl _ _).alloc (Nat.le_refl _) _⟩
 by_cases h3:p<1
 ·go_enter Tryz.func181,Tryz.ntmps181
  go_wp2
  go_ret
  exact ⟨by simp [chk,h1,h2,h3],(Below.refl _ _).alloc (Nat.le_refl _) _⟩
 go_enter Tryz.func181,Tryz.ntmps181
 go_wp2
 go_loopw [3] (fun i wr=>∃ k:Nat,k≤bs.length∧i=.int .i64 k∧Below (w.heap.size+1) (w.alloc (Obj.cells #[Value.int IntKind.i64 p,Value.slice a bs.length cap] 57)) wr∧(bs.take k).all (Bd.ok p)=true) (fun i _=>bs.length - (RowKit.intOf i).toNat)
 case atStart=>exact ⟨0,Nat.zero_le _,rfl,Below.refl _ _,rfl⟩
 case round =>
  obtain ⟨k,hk,rfl,hB,hall⟩:=hrel
  have hsz:w.heap.size<wr.heap.size:=by have:=hB.size;simp at this;omega
  obtain ⟨hc,hf⟩:=bcell hB
  have Hall:=Lib.hid hall
  clear hall
  by_cases hlt:k<bs.length
  ·obtain ⟨b,off,rfl,hbl,d0,d1,d2,d3⟩:=hb.get hlt
   have hbl':b<w.heap.size +1:=by omega
   generalize hx:bs.getD k default=x at *
   have Hx:=Lib.hid hx
   clear hx
   have hnn:(0:Int)≤k:=by omega
   have hrel1:∀ w2:World,Below wr.heap.size wr w2→Below (w.heap.size+1) (w.alloc (Obj.cells #[Value.int IntKind.i64 p,Value.slice (some ⟨b,off,none⟩) bs.length cap] 57)) w2:=fun w2 h=>hB.trans (h.mono (by omega))
   rcases first5 (withinB x.frm 0 (p-1)) (withinB x.tow 0 (p-1)) (!(x.frm == x.tow)) (withinB x.most (-1000000) 1000000) (withinB x.bid 0 1000000) with h | ⟨g1,h⟩ | ⟨g1,g2,h⟩ | ⟨g1,g2,g3,h⟩ | ⟨g1,g2,g3,g4,h⟩ | ⟨g1,g2,g3,g4,g5⟩
   all_goals try simp only [Bool.not_eq_eq_eq_not,Bool.not_true,Bool.not_false] at *
   all_goals cases hto:withinB x.tow 0 (p-1)
   all_goals try (exfalso;simp_all;done)
   all_goals go_wp2_with (first | (go_at_call 200;refine (rpoint_any _ _ _ _ _ _).mono ?_;rintro e w1 ⟨rfl,hb1⟩;obtain ⟨hc1,hf1⟩:=bcell hb1;have hz1a:=lt_size hb1 (b:=w.heap.size) Z9;have hz1b:=lt_size hb1 (b:=wr.heap.size) Z9) | (go_at_call 207;refine (rwithin_any _ _ _ _).mono ?_;rintro e w1 ⟨rfl,rfl⟩))
   case roundEnd =>
    go_roundw
    case rel=>exact ⟨k +1,by omega,by go_num,hB.trans (Below.mono (B:=wr.heap.size) Z5 (by omega)),take_succ_all hlt Hall.out (by rw [Hx.out];simp [Bd.ok, *])⟩
    case measure=>simp [RowKit.intOf];omega
   all_goals
    go_ret
    have hbad:Bd.ok p x=false:=by simp [Bd.ok, *]
    refine ⟨?_,?_⟩
    ·rw [chk_bad (by omega) h2 (by omega) hlt (by rw [Hx.out];exact hbad)];rfl
    ·exact Below.up (((Below.refl _ w).alloc (Nat.le_refl _) _).trans (hB.mono (by simp))) Z5 (by omega)
  ·go_wp2_with fail
   go_ret
   exact ⟨by rw [List.take_of_length_le (by omega)] at Hall;rw [chk_good (by omega) h2 (by omega) Hall.out];rfl,(((Below.refl _ _).alloc (Nat.le_refl _) _).trans (hB.mono (by simp)))⟩
open Go
end Go.Proofs.YtelkcohhagblaaaGreat
namespace Go.Proofs
open Go.Shelf
end Go.Proofs
namespace Go.Proofs.YtelkcohhagblaaaGreat
open Go.RowKit Go.Shelf
set_option maxHeartbeats 4000000
set_option maxRecDepth 100000
theorem SL.Chg.undrawn {E:List Nat} {w w':World} (h:SL.Chg E w.drew w'):SL.Chg E w w':=⟨h.os,h.tape,h.output,h.size,h.block⟩
/-- A row that is held from the beginning. -/
def SL.rowV (base:Nat) (t:TypeId) (size n:Nat) (v:Value) (xs:List Value):SL.Sp :=
 { sub:=0,use:=[],eat:=[],A:=fun _ w F=>w.ownsRow base t size v n xs∧F=v.ownBlock.toList,st:=fun _ _ _ _ h hk _=>⟨SL.row_stab h.1 (h.2 ▸ hk),h.2⟩ }
open Go.RowKit Go.Shelf
set_option maxHeartbeats 1000000
set_option maxRecDepth 100000
/-- A value made of a row, whose shape is known to those that look at it. -/
def SL.rowSee (s:Nat) (u e:List Nat) (base:Nat) (t:TypeId) (size n:Nat) (xs:List Value) (f:Value→Value):SL.Sp:={ SL.rowIn s u e base t size n xs f with V:=fun x=>∃ y,x=f y }
def SL.puSee (s:Nat) (u see:List Nat) (v:Value):SL.Sp:={ SL.pu s u v with see:=see }
open Go.RowKit Go.Shelf
set_option maxHeartbeats 4000000
set_option maxRecDepth 100000
theorem rpass_len (far:Int) (bs:List Bd) (x:List Int):∀ k,(rpass far bs x k).1.length=x.length
 | 0=>rfl
 | k +1=>by
   have ih:=rpass_len far bs x k
   simp only [rpass]
   split
   ·simp [ih]
   ·exact ih
theorem rpass_rng {bs:List Bd} {x:List Int} {p lo hi:Int} (hin:∀ b ∈ bs,b.inr) (hp:Pts p bs) (hl:x.length=p.toNat) (hx:∀ j:Int,0≤j→j<p→lo≤gi x j∧gi x j≤hi) (far:Int):∀ k:Nat,k≤bs.length→∀ j:Int,0≤j→j<p→lo - k * 100000000≤gi (rpass far bs x k).1 j∧gi (rpass far bs x k).1 j≤hi
 | 0,_=>fun j h0 h1=>by
   have:=hx j h0 h1
   show lo - ((0:Nat):Int) * 100000000≤gi x j∧gi x j≤hi
   omega
 | k +1,hk=>by
   have ih:=rpass_rng hin hp hl hx far k (by omega)
   have hm:bs.getD k default ∈ bs:=by rw [List.getD_eq_getElem?_getD,List.getElem?_eq_getElem (by omega)];exact List.getElem_mem _
   have hb:=hin _ hm
   have hq:=hp _ hm
   intro j h0 h1
   have ihj:=ih j h0 h1
   have hll:=rpass_len far bs x k
   simp only [rpass]
   split
   ·rename_i ho
    simp only [opens,Bool.and_eq_true,decide_eq_true_eq] at ho
    simp only []
    rw [gi_set hq.2.2.1 (by rw [hll,hl];omega) h0]
    have h2:=ih _ hq.1 hq.2.1
    have h3:=ih _ hq.2.2.1 hq.2.2.2
    have h4:=hb.m0
    split <;> (push_cast;omega)
   ·push_cast;omega
theorem row_cell {w:World} {base g n c:Nat} {xs:List Int} (h:w.ownsRow base 3 1 (.slice (some ⟨g,0,none⟩) n c) n (xs.map (.int .i64))) {j:Int} (_h0:0≤j) (h1:j.toNat<xs.length):w.cell? ⟨g,j.toNat,none⟩=some (.int .i64 (gi xs j)):=by
 have h2:=((RowAt.of_owns h).at_ ⟨g,0,none⟩ rfl).2.2 j.toNat (.int .i64 (gi xs j)) (by simp [gi,List.getD_eq_getElem?_getD,List.getElem?_eq_getElem h1])
 simpa using h2
theorem row_free {w:World} {base g n c:Nat} {t:TypeId} {size:Nat} {xs:List Value} (h:w.ownsRow base t size (.slice (some ⟨g,0,none⟩) n c) n xs) (j:Nat):w.frozen? ⟨g,j,none⟩=false:=by
 obtain ⟨_,⟨hv,_⟩ | ⟨g',c',cur,hv,_,hg,_⟩⟩:=h
 ·simp at hv
 ·simp at hv
  obtain ⟨rfl,_⟩:=hv
  exact (SL.cells_of hg).2 j
theorem rsums_any (p:Int) (a:Option Addr) (n cap:Nat) (bs:List Bd) (a2:Option Addr) (n2 c2:Nat) (xs:List Int) (far:Int) (w:World) (hb:BdsAt w a n cap bs) (hs:Sys p bs) (hpt:Pts p bs) (hx:IntsAt w a2 n2 c2 xs) (hxl:xs.length=p.toNat) (hfar:far=1000000000) (hx0:∀ j:Int,0≤j→j<p→ -1000000000≤gi xs j∧gi xs j≤1000000000) :
 Calls Tryz.prog 201 #[.agg #[.int .i64 p,.slice a n cap],.slice a2 n2 c2,.int .i64 far] w fun e w'=>∃ v,e=.returned (.tuple #[v,.bool (rsettle far bs (p +1).toNat xs).2])∧Below w.heap.size w w'∧w'.ownsRow w.heap.size 3 1 v (rsettle far bs (p +1).toNat xs).1.length ((rsettle far bs (p +1).toNat xs).1.map (.int .i64)):=by
 obtain ⟨hp1,hp2,h402,hin⟩:=hs
 obtain rfl:=hb.len
 obtain rfl:=hx.len
 subst hfar
 generalize hres:rsettle 1000000000 bs (p +1).toNat xs=res
 have Hres:=Lib.hid hres
 clear hres
 have hB0:Below w.heap.size w (w.alloc (Obj.cells #[.int .i64 p,.slice a bs.length cap] 57)):=(Below.refl _ _).alloc (Nat.le_refl _) _
 have hxl1:1≤xs.length:=by omega
 have hxl2:xs.length≤60:=by omega
 have Hxl:=Lib.hid hxl
 clear hxl
 have hlit:=World.ownsRow_lit (base:=w.heap.size +1) (e:=3) (size:=1) (w.alloc (Obj.cells #[.int .i64 p,.slice a bs.length cap] 57)) #[] 0 (by simp) (by decide) rfl
 rw [World.size_alloc] at hlit
 have HL:=Lib.hid hlit
 clear hlit
 go_enter Tryz.func201,Tryz.ntmps201
 go_wp2_with (at_builtin;refine wpList_app elemI rfl _ _ rfl HL.out rfl rfl ((hx.row.below hB0).below ((Below.refl _ _).alloc (Nat.le_refl _) _)) (by simp) (ones_int xs) ?_ ?_ ?_ ?_)
 ·unfold maxLen;omega
 ·omega
 ·intro v' w1 hown hg hb1 hnil _
  have hz1:=hb1.size
  simp only [World.size_alloc] at hz1
  have hB1:Below w.heap.size w w1:=(hB0.alloc (by simp) (Obj.cells #[] 3)).trans (hb1.mono (by omega))
  have zs:w.heap.size<w1.heap.size:=by omega
  have s0:w1.cell? ⟨w.heap.size,0,none⟩=some (.int .i64 p):=by rw [(bcell hb1).1 _ _ (by omega)];simp [go_sem]
  have s1:w1.cell? ⟨w.heap.size,1,none⟩=some (.slice a bs.length cap):=by rw [(bcell hb1).1 _ _ (by omega)];simp [go_sem]
  obtain ⟨g,c,rfl,hgb⟩:∃ g c,v'=.slice (some ⟨g,0,none⟩) xs.length c∧w.heap.size +1≤g:=by
   obtain ⟨_,⟨hv,_⟩ | ⟨g,c,cur,hv,hbg,_⟩⟩:=hown
   ·exact absurd hv hnil
   ·exact ⟨g,c,hv,hbg⟩
  have hpp:(((p +1).toNat:Nat):Int)=p +1:=by omega
  generalize hPP:(p +1).toNat=PP at *
  clear hPP
  have hax:∀ z,a=some z→z.block<w.heap.size:=fun z hz=>(hb.at_ z hz).2.1
  clear hnil hg hb1 HL
  go_wp2_with fail
  go_loopw [9] (fun r wo=>∃ (i:Nat) (x:List Int),r=.int .i64 i∧i≤PP∧Below w.heap.size w wo∧w.heap.size<wo.heap.size∧wo.cell? ⟨w.heap.size,0,none⟩=some (.int .i64 p)∧wo.cell? ⟨w.heap.size,1,none⟩=some (.slice a bs.length cap)∧wo.ownsRow (w.heap.size +1) 3 1 (.slice (some ⟨g,0,none⟩) xs.length c) xs.length (x.map (.int .i64)) ∧
   x.length=xs.length∧(∀ j:Int,0≤j→j<p→ -1000000000 - i * 40200000000≤gi x j∧gi x j≤1000000000)∧rsettle 1000000000 bs (PP - i) x=res) (fun r _=>PP - (RowKit.intOf r).toNat)
  case atStart=>exact ⟨0,xs,rfl,Nat.zero_le _,hB1,zs,s0,s1,hown,rfl,by simpa using hx0,by simpa using Hres.out⟩
  case round =>
   rename World=>wo
   obtain ⟨i,x,rfl,hi,hBo,zo,so0,so1,hro,hxx,hrg,hset⟩:=hrel
   have Hset:=Lib.hid hset
   have Hxx:=Lib.hid hxx
   clear hset hxx
   by_cases hlt:i<PP
   ·have hid:decide ((i:Int)≤p)=true:=by simp;omega
    go_wp2_with fail
    go_loopw [11,10] (fun kk fl wi=>∃ k:Nat,k≤bs.length∧kk=.int .i64 k∧fl=.bool (rpass 1000000000 bs x k).2∧Below w.heap.size w wi∧w.heap.size<wi.heap.size∧wi.cell? ⟨w.heap.size,0,none⟩=some (.int .i64 p)∧wi.cell? ⟨w.heap.size,1,none⟩=some (.slice a bs.length cap) ∧
     wi.ownsRow (w.heap.size +1) 3 1 (.slice (some ⟨g,0,none⟩) xs.length c) xs.length ((rpass 1000000000 bs x k).1.map (.int .i64))) (fun kk _ _=>bs.length - (RowKit.intOf kk).toNat)
    case atStart=>exact ⟨0,Nat.zero_le _,rfl,rfl,hBo,zo,so0,so1,hro⟩
    case round =>
     rename World=>wi
     obtain ⟨k,hk,rfl,rfl,hBi,zi,si0,si1,hri⟩:=hrel
     have hrk:=rpass_rng hin hpt (by rw [Hxx.out];exact Hxl.out) hrg 1000000000 k hk
     have hlk:=rpass_len 1000000000 bs x k
     rw [Hxx.out] at hlk
     have Hlk:=Lib.hid hlk
     clear hlk
     by_cases hkl:k<bs.length
     ·obtain ⟨b,off,rfl,hbl,d0,d1,d2,d3⟩:=(hb.below hBi).get hkl
      have hm:bs.getD k default ∈ bs:=by rw [List.getD_eq_getElem?_getD,List.getElem?_eq_getElem hkl];exact List.getElem_mem _
      have hyi:=hin _ hm
      have hyp:=hpt _ hm
      have Hst:=Lib.hid (show rpass 1000000000 bs x (k +1)=(if opens 1000000000 (rpass 1000000000 bs x k).1 (bs.getD k default) then ((rpass 1000000000 bs x k).1.set (bs.getD k default).tow.toNat (gi (rpass 1000000000 bs x k).1 (bs.getD k default).frm +(bs.getD k default).most),false) else rpass 1000000000 bs x k) from rfl)
      generalize bs.getD k default=y at *
      obtain ⟨y0,y1,y2,y3,y4,y5⟩:=hyi
      obtain ⟨z0,z1,z2,z3⟩:=hyp
      generalize hs:rpass 1000000000 bs x k=s at *
      obtain ⟨sx,sf⟩:=s
      simp only at hrk Hst hri Hlk
      clear hs
      have hcell:∀ j:Int,0≤j→j<p→wi.cell? ⟨g,j.toNat,none⟩=some (.int .i64 (gi sx j)):=fun j j0 j1=>by
       have h:=(RowAt.of_owns hri).at_ ⟨g,0,none⟩ rfl
       have h2:=h.2.2 j.toNat (.int .i64 (gi sx j)) (by
        have hl:=Hlk.out
        have hl2:=Hxl.out
        simp [gi,List.getD_eq_getElem?_getD,List.getElem?_eq_getElem (show j.toNat<sx.length by omega)])
       simpa using h2
      have gl:g<wi.heap.size:=(SL.row_bounds hri g (by simp [Value.ownBlock])).2
      have f0:y.frm<(xs.length:Int):=by have:=Hxl.out;omega
      have f1:y.tow<(xs.length:Int):=by have:=Hxl.out;omega
      have c0:=hcell y.frm z0 z1
      have c1:=hcell y.tow z2 z3
      obtain ⟨l0,l1⟩:=hrk y.frm z0 z1
      obtain ⟨l2,l3⟩:=hrk y.tow z2 z3
      have hwr:IntKind.i64.wrap (gi sx y.frm +y.most)=gi sx y.frm +y.most:=IntWalk.i64_in _ (by omega)
      have q0:(wi.alloc (Obj.cells #[.int .i64 y.frm,.int .i64 y.tow,.int .i64 y.most,.int .i64 y.bid] 69)).cell? ⟨g,y.frm.toNat,none⟩=some (.int .i64 (gi sx y.frm)):=by
       rw [(bcell ((Below.refl wi.heap.size wi).alloc (Nat.le_refl _) _)).1 _ _ gl];exact c0
      have q1:(wi.alloc (Obj.cells #[.int .i64 y.frm,.int .i64 y.tow,.int .i64 y.most,.int .i64 y.bid] 69)).cell? ⟨g,y.tow.toNat,none⟩=some (.int .i64 (gi sx y.tow)):=by
       rw [(bcell ((Below.refl wi.heap.size wi).alloc (Nat.le_refl _) _)).1 _ _ gl];exact c1
      have hop:opens 1000000000 sx y=(decide (gi sx y.frm<1000000000) && decide (gi sx y.frm +y.most<gi sx y.tow)):=rfl
      have hCn:∀ o,Below w.heap.size w ((wi.alloc (Obj.cells #[.int .i64 y.frm,.int .i64 y.tow,.int .i64 y.most,.int .i64 y.bid] 69)).drewN o):=fun o=>belowN (hBi.alloc (by omega) _)
      have hr1:∀ o,((wi.alloc (Obj.cells #[.int .i64 y.frm,.int .i64 y.tow,.int .i64 y.most,.int .i64 y.bid] 69)).drewN o).ownsRow (w.heap.size +1) 3 1 (.slice (some ⟨g,0,none⟩) xs.length c) xs.length (sx.map (.int .i64)):=fun o=>SL.row_stab (World.ownsRow.up hri ((Below.refl _ _).alloc (Nat.le_refl _) _) (Nat.le_refl _)) (fun _ _=>rfl)
      by_cases t1:gi sx y.frm<1000000000
      ·have t1':decide (gi sx y.frm<1000000000)=true:=by simpa using t1
       by_cases t2:gi sx y.frm +y.most<gi sx y.tow
       ·have t2':decide (gi sx y.frm +y.most<gi sx y.tow)=true:=by simpa using t2
        have ho:opens 1000000000 sx y=true:=by rw [hop,t1',t2'];rfl
        go_wp2_with fail
        go_quiet (fail)
        go_wp2_with fail
        have kb:((wi.alloc (Obj.cells #[.int .i64 y.frm,.int .i64 y.tow,.int .i64 y.most,.int .i64 y.bid] 69)).drewN nq).heap[wi.heap.size]?=some (.cells #[.int .i64 y.frm,.int .i64 y.tow,.int .i64 y.most,.int .i64 y.bid] 69 (0,0)):=World.alloc_heap_new wi _
        have kr:=hr1 nq
        have kB:=hCn nq
        have kz:wi.heap.size +1≤((wi.alloc (Obj.cells #[.int .i64 y.frm,.int .i64 y.tow,.int .i64 y.most,.int .i64 y.bid] 69)).drewN nq).heap.size:=by simp
        have kcell:((wi.alloc (Obj.cells #[.int .i64 y.frm,.int .i64 y.tow,.int .i64 y.most,.int .i64 y.bid] 69)).drewN nq).cell? ⟨w.heap.size,0,none⟩=some (.int .i64 p)∧((wi.alloc (Obj.cells #[.int .i64 y.frm,.int .i64 y.tow,.int .i64 y.most,.int .i64 y.bid] 69)).drewN nq).cell? ⟨w.heap.size,1,none⟩=some (.slice (some ⟨b,off,none⟩) bs.length cap):=by
         have h:=(bcell ((Below.refl wi.heap.size wi).alloc (Nat.le_refl _) (Obj.cells #[.int .i64 y.frm,.int .i64 y.tow,.int .i64 y.most,.int .i64 y.bid] 69))).1
         exact ⟨(h _ 0 zi).trans si0,(h _ 1 zi).trans si1⟩
        clear q0 q1
        generalize (wi.alloc (Obj.cells #[.int .i64 y.frm,.int .i64 y.tow,.int .i64 y.most,.int .i64 y.bid] 69)).drewN nq=W7 at *
        have yb:=(Array.getElem?_eq_some_iff.1 kb).1
        have yg:g<W7.heap.size:=by omega
        refine SL.rule Zk [g] [57,58,59,60,61,62,63,64,65,66,67,68] [SL.pu 57 [] (.slice (some ⟨g,0,none⟩) xs.length c),SL.pu 58 [] (.pointer (some ⟨wi.heap.size,1,none⟩)),SL.pu 59 [1] (.int .i64 y.tow),SL.pu 60 [] (.slice (some ⟨g,0,none⟩) xs.length c),SL.pu 61 [] (.pointer (some ⟨wi.heap.size,0,none⟩)),SL.pu 62 [4] (.int .i64 y.frm),
         SL.pu 63 [3,5] (.pointer (some ⟨g,y.frm.toNat,none⟩)),SL.pu 64 [6,13] (.int .i64 (gi sx y.frm)),SL.pu 65 [] (.pointer (some ⟨wi.heap.size,2,none⟩)),SL.pu 66 [8] (.int .i64 y.most),SL.pu 67 [7,9] (.int .i64 (gi sx y.frm +y.most)),SL.pu 68 [0,2] (.pointer (some ⟨g,y.tow.toNat,none⟩)),
         { SL.rowV (w.heap.size +1) 3 1 xs.length (.slice (some ⟨g,0,none⟩) xs.length c) ((sx.set y.tow.toNat (gi sx y.frm +y.most)).map (.int .i64)) with use:=[10,11,13],eat:=[13] },
         SL.rowV (w.heap.size +1) 3 1 xs.length (.slice (some ⟨g,0,none⟩) xs.length c) (sx.map (.int .i64))] [12] Zk Zk _ (SL.one_held (N:=g) rfl rfl ⟨kr,rfl⟩ yg) SL.one_apart ?_ ?_
        ·refine ⟨?_,?_,?_,?_,?_,?_,?_,?_,?_,?_,?_,?_,?_,trivial⟩
         all_goals refine SL.ob fun us w9 Fe hG hu hd hv K hK=>?_
         all_goals simp [SL.frame,SL.put',SL.Used,SL.Seen,SL.pu,SL.row,SL.box,SL.rowIn,SL.boxIn,SL.boxAt,SL.boxAtIn,Bd.v,Bd.cs,SL.rowV] at hu hv hK ⊢
         all_goals (have hcc:=hG.undrawn.block)
         all_goals (have b0:=(SL.cells_of ((hcc _ yb Zj).trans kb)).1 0)
         all_goals (have b1:=(SL.cells_of ((hcc _ yb Zj).trans kb)).1 1)
         all_goals (have b2:=(SL.cells_of ((hcc _ yb Zj).trans kb)).1 2)
         all_goals simp at b0 b1 b2
         all_goals clear hcc
         all_goals try (go_step;refine hK _ _ _ _ Z2z (SL.Chg.refl _ _) rfl rfl (by simp))
         ·obtain ⟨⟨u1,_⟩,u2,u3⟩:=hu
          have c9:=row_cell (j:=y.frm) u2 z0 Z90
          exact Z70
         ·obtain ⟨⟨u1,_⟩,⟨u2,_⟩,u3,u4⟩:=hu
          have c9:=row_cell (j:=y.tow) u3 z2 Z90
          have f9:=row_free u3
          have hst:=(World.ownsRow.stored u3 y.tow.toNat (.int .i64 (gi sx y.frm +y.most))).1
          go_step
          refine hK _ undef _ _ Z2z (.setCell _ (by simp [u4,Value.ownBlock]) _) hst rfl ?_
          rw [u4];simp [Value.ownBlock]
        ·intro us w9 Fs hG hu hbd hd
         simp [SL.frame,SL.put',SL.Used,SL.Seen,SL.pu,SL.row,SL.box,SL.rowIn,SL.boxIn,SL.boxAt,SL.boxAtIn,Bd.v,Bd.cs,SL.rowV] at hu ⊢
         obtain ⟨hr9,_⟩:=hu
         have hG2:=hG.undrawn
         have hz9:=hG2.size
         have kcell0:=((SL.Chg.cellsE hG2).1 w.heap.size 0 (by omega) Zj).trans kcell.1
         have kcell1:=((SL.Chg.cellsE hG2).1 w.heap.size 1 (by omega) Zj).trans kcell.2
         clear hbd hd
         go_wp2
         go_roundw
         case rel =>
          have e:=Hst.out
          rw [ho] at e
          simp only [if_true] at e
          exact ⟨k +1,by omega,by go_num,by rw [e],kB.trans (hG2.belowE kB.size Zj),by omega,kcell0,kcell1,by rw [e];simp only [List.map_set];exact hr9⟩
         case measure=>simp [RowKit.intOf];omega
       ·have t2':decide (gi sx y.frm +y.most<gi sx y.tow)=false:=by simpa using t2
        have ho:opens 1000000000 sx y=false:=by rw [hop,t1',t2'];rfl
        exact Z8c
      ·have t1':decide (gi sx y.frm<1000000000)=false:=by simpa using t1
       have ho:opens 1000000000 sx y=false:=by rw [hop,t1'];rfl
       exact Z8c
     ·obtain rfl:k=bs.length:=by omega
      have hrun:rsettle 1000000000 bs (PP - i) x=if (rpass 1000000000 bs x bs.length).2 then ((rpass 1000000000 bs x bs.length).1,true) else rsettle 1000000000 bs (PP - (i +1)) (rpass 1000000000 bs x bs.length).1:=by
       rw [show PP - i=(PP - (i +1)) +1 by omega,rsettle]
      rw [Hset.out] at hrun
      generalize hs:rpass 1000000000 bs x bs.length=s at *
      obtain ⟨sx,sf⟩:=s
      simp only at hrk hri Hlk hrun
      have Hrun:=Lib.hid hrun
      clear hrun hs
      cases sf with
      | true =>
        go_wp2_with fail
        have e:=Hrun.out
        simp only [if_true] at e
        refine bodyPost_ret (v:=.tuple #[.slice (some ⟨g,0,none⟩) xs.length c,.bool true]) Z8t rfl ⟨_,by rw [e],hBi,?_⟩
        rw [e]
        simp only []
        rw [Hlk.out]
        exact SL.row_base hri (by omega)
      | false =>
        go_wp2_with fail
        go_roundw
        case rel =>
         refine ⟨i +1,sx,by go_num,by omega,hBi,zi,si0,si1,hri,Hlk.out,fun j j0 j1=>?_,?_⟩
         ·have:=hrk j j0 j1
          push_cast
          omega
         ·have:=Hrun.out
          simpa using this.symm
        case measure=>simp [RowKit.intOf];omega
   ·have hid:decide ((i:Int)≤p)=false:=by simp;omega
    have hi0:PP - i=0:=by omega
    have hres0:=Hset.out
    rw [hi0] at hres0
    have Hr:=Lib.hid hres0
    clear hres0
    go_wp2_with fail
    have e:=Hr.out
    simp only [rsettle] at e
    refine bodyPost_ret (v:=.tuple #[.slice none 0 0,.bool false]) Z8t rfl ⟨_,by rw [← e],hBo,?_⟩
    rw [← e]
    exact World.ownsRow_nil _ _ _ _
open Go.RowKit Go.Shelf
set_option maxHeartbeats 1000000
set_option maxRecDepth 100000
def rsol (p:Int) (bs:List Bd):List Int × Bool:=rsettle 1000000000 bs (p +1).toNat (List.replicate p.toNat 0)
theorem run_make_ints (w:World) (p:Int) (h1:1≤p) (h2:p≤60):(Instr.makeSlice 61 (.int .i64 p) (.int .i64 p)).run Tryz.prog w=.ok (.slice (some ⟨w.heap.size,0,none⟩) p.toNat p.toNat) (w.alloc (.cells (madeCells #[.int .i64 0] p.toNat) 3)):=by
 obtain ⟨i,hi,hz,hs,hb⟩:=info_parts (show (Tryz.prog.info? 3).map (fun i=>(i.zero,i.size,i.bytes))=some (some (.int .i64 0),1,8) by kernel_rfl)
 have h:=run_make (P:=Tryz.prog) (w:=w) 61 3 i _ Tryz.underlying61 hi hz .i64 .i64 p p (by omega) (Int.le_refl _) (by rw [hb];omega) (by omega)
 rw [hs,Nat.mul_one] at h
 exact h
theorem made_row (w:World) (n base:Nat) (hb:base≤w.heap.size) (hn:n≤100):(w.alloc (.cells (madeCells #[.int .i64 0] n) 3)).ownsRow base 3 1 (.slice (some ⟨w.heap.size,0,none⟩) n n) n ((List.replicate n (0:Int)).map (.int .i64)):=by
 have h:=World.ownsRow_lit (base:=base) (e:=3) (size:=1) w (madeCells #[.int .i64 0] n) n hb Z1s (by rw [size_madeCells];omega)
 rw [toList_madeCells_one] at h
 simpa using h
theorem gi_repl (n:Nat) (j:Int):gi (List.replicate n 0) j=0:=by
 unfold gi
 rw [List.getD_eq_getElem?_getD,List.getElem?_replicate]
 split <;> rfl
theorem rsolve_any (p:Int) (a:Option Addr) (n cap:Nat) (bs:List Bd) (w:World) (hb:BdsAt w a n cap bs) (hs:Sys p bs) (hpt:Pts p bs) :
 Calls Tryz.prog 182 #[.agg #[.int .i64 p,.slice a n cap]] w fun e w'=>∃ v,e=.returned (.tuple #[v,.bool (rsol p bs).2])∧Below w.heap.size w w'∧w'.ownsRow w.heap.size 3 1 v (rsol p bs).1.length ((rsol p bs).1.map (.int .i64)):=by
 have hp1:=hs.p1
 have hp2:=hs.p2
 have hb0:Below w.heap.size w (w.alloc (Obj.cells #[.int .i64 p,.slice a n cap] 57)):=(Below.refl _ _).alloc (Nat.le_refl _) _
 have hbx:=hb.below hb0
 have hmk:=fun w=>run_make_ints w p hp1 hp2
 have hsum:=fun (w:World) (a2:Option Addr) (c2:Nat) (h:BdsAt w a n cap bs) (hx:IntsAt w a2 p.toNat c2 (List.replicate p.toNat 0))=>rsums_any p a n cap bs a2 p.toNat c2 (List.replicate p.toNat 0) 1000000000 w h hs hpt hx (by simp) rfl (fun j _ _=>by rw [gi_repl];omega)
 change ∀ (w:World) (a2:Option Addr) (c2:Nat) (_:BdsAt w a n cap bs) (_:IntsAt w a2 p.toNat c2 (List.replicate p.toNat 0)),Calls Tryz.prog 201 #[.agg #[.int .i64 p,.slice a n cap],.slice a2 p.toNat c2,.int .i64 1000000000] w fun e w'=>∃ v,e=.returned (.tuple #[v,.bool (rsol p bs).2])∧Below w.heap.size w w'∧w'.ownsRow w.heap.size 3 1 v (rsol p bs).1.length ((rsol p bs).1.map (.int .i64)) at hsum
 generalize rsol p bs=R at *
 obtain ⟨Rl,Rf⟩:=R
 simp only at hsum ⊢
 go_enter Tryz.func182,Tryz.ntmps182
 go_wp2_with fail
 refine SL.rule Zk [] [4,5,6,7,8,9,10,2,3] [SL.pu 4 [] (.agg #[.int .i64 p,.slice a n cap]),SL.pu 5 [] (.pointer (some ⟨w.heap.size,0,none⟩)),SL.pu 6 [1] (.int .i64 p),SL.row 7 [2] [] (w.heap.size +1) 3 1 p.toNat ((List.replicate p.toNat (0:Int)).map (.int .i64)),
  SL.rowSee 8 [0,3] [] (w.heap.size +1) 3 1 Rl.length (Rl.map (.int .i64)) (fun u=>.tuple #[u,.bool Rf]),SL.row 9 [4] [4] (w.heap.size +1) 3 1 Rl.length (Rl.map (.int .i64)),SL.puSee 10 [] [4] (.bool Rf),SL.row 2 [5] [5] (w.heap.size +1) 3 1 Rl.length (Rl.map (.int .i64)),SL.pu 3 [6] (.bool Rf)]
  [7,8] Zk Zk (fun _=>[]) (SL.none_held rfl) (by simp) ?_ ?_
 ·refine ⟨?_,?_,?_,?_,?_,?_,?_,?_,?_,trivial⟩
  all_goals refine SL.ob fun us w' Fe hG hu hd hv K hK=>?_
  all_goals simp [SL.frame,SL.put',SL.Used,SL.Seen,SL.pu,SL.row,SL.box,SL.rowIn,SL.boxIn,SL.boxAt,SL.boxAtIn,Bd.v,Bd.cs,SL.rowSee,SL.puSee] at hu hv hK ⊢
  all_goals (have hbw:=hbx.below hG.below')
  all_goals (have hsz:=hG.size;simp only [World.size_drew,World.size_alloc] at hsz)
  all_goals (have g0:w'.cell? ⟨w.heap.size,0,none⟩=some (.int .i64 p):=by rw [(bcell hG.below').1 _ _ (by simp)];simp [go_sem])
  all_goals (have g1:w'.cell? ⟨w.heap.size,1,none⟩=some (.slice a n cap):=by rw [(bcell hG.below').1 _ _ (by simp)];simp [go_sem])
  all_goals try (go_step;refine hK _ _ _ _ Z2z (SL.Chg.refl _ _) rfl rfl (by simp))
  ·go_step
   have h:=made_row w' p.toNat (w.heap.size +1) (by omega) (by omega)
   exact hK _ (.slice (some ⟨w'.heap.size,0,none⟩) p.toNat p.toNat) _ _ Z2z (.alloc _ _ _) Z3v rfl (by simp [Value.ownBlock])
  ·obtain ⟨⟨u1,_⟩,u2,_⟩:=hu
   obtain ⟨sa,c,hsl,_⟩:=owns_slice u2
   go_step
   refine (hsum w' sa c hbw (IntsAt.of_owns (by rw [← hsl];simpa using u2) Zj)).mono ?_
   rintro e w2 ⟨v,rfl,hb2,ho2⟩
   exact hK _ (.tuple #[v,.bool Rf]) w2 _ Z2z _ rfl (.of_below hb2) _ rfl (SL.row_base ho2 (by omega)) rfl (fun k hk=>SL.row_bounds ho2 k Z46)
  ·obtain ⟨y,u1,u2,u3⟩:=hu
   go_step
   refine hK _ y _ _ Z2z (.refl _ _) u2 rfl ?_
   rw [u3];exact fun k h=>.inl h
  ·obtain ⟨y,u1⟩:=hv
   go_step
   exact hK _ _ _ _ Z2z (.refl _ _) rfl rfl (by simp)
  ·obtain ⟨u1,u2⟩:=hu
   go_step
   refine hK _ _ _ _ Z2z (.refl _ _) u1 rfl ?_
   rw [u2];exact fun k h=>.inl h
 ·intro us w' Fs hG hu hbd hd
  simp [SL.frame,SL.put',SL.Used,SL.Seen,SL.pu,SL.row,SL.box,SL.rowIn,SL.boxIn,SL.boxAt,SL.boxAtIn,Bd.v,Bd.cs,SL.rowSee,SL.puSee] at hu ⊢
  obtain ⟨⟨u1,_⟩,u2,_⟩:=hu
  simp only [u2]
  clear hbd hd
  go_wp2
  obtain ⟨sa,c,hsl,_⟩:=owns_slice u1
  refine bodyPost_ret (v:=.tuple #[us 2,.bool Rf]) (by simp [results,Tryz.results182,go_sem, *]) rfl ⟨us 2,rfl,hb0.trans (hG.below'.mono (by simp)),SL.row_base u1 (by omega)⟩
theorem gi_take {l:List Int} {P:Nat} {j:Int} (h0:0≤j) (h1:j.toNat<P):gi (l.take P) j=gi l j:=by
 unfold gi
 simp [List.getD_eq_getElem?_getD,List.getElem?_take,h1]
theorem take_set' {l:List Int} {P i:Nat} {v:Int}:(l.set i v).take P=(l.take P).set i v:=by
 rw [List.take_set]
/-- k bounds of a pass, side by side: what is low is seen by both in the same way. -/
theorem rpass_pass {p far:Int} {bs:List Bd} {s:RL} (hl:s.r.length=60) (hp:p≤60) (hin:∀ b ∈ bs,b.inr) (hpt:Pts p bs) (hfar:far≤FAR)
 (hsee:∀ j:Int,0≤j→j<p→gi s.r j<far∨FAR≤gi s.r j) (hlow:∀ k,k≤bs.length→∀ j:Int,0≤j→j<p→gi (s.pass FAR bs k).r j<FAR→gi (s.pass FAR bs k).r j<far) :
 ∀ k,k≤bs.length→(rpass far bs (s.r.take p.toNat) k).1=(s.pass FAR bs k).r.take p.toNat∧((rpass far bs (s.r.take p.toNat) k).2=true→(s.pass FAR bs k).r=s.r)∧((rpass far bs (s.r.take p.toNat) k).2=false→∃ j:Int,0≤j∧j<60∧gi (s.pass FAR bs k).r j<gi s.r j)
 | 0,_=>⟨rfl,fun _=>rfl,fun h=>by simp [rpass] at h⟩
 | k +1,hk=>by
   obtain ⟨h1,h2,h3⟩:=rpass_pass hl hp hin hpt hfar hsee hlow k (by omega)
   have hm:bs.getD k default ∈ bs:=by
    exact Z1f
   have hb:=hin _ hm
   have hq:=hpt _ hm
   have hlen:=(RL.pass_le hl hin k (by omega)).1
   have hstep:=RL.step_le (k:=k) hlen hb
   have hop:opens far (rpass far bs (s.r.take p.toNat) k).1 (bs.getD k default)=opens FAR (s.pass FAR bs k).r (bs.getD k default):=by
    rw [h1]
    unfold opens
    rw [gi_take hq.1 (by omega),gi_take hq.2.2.1 (by omega)]
    have hlw:=hlow k (by omega) _ hq.1 hq.2.1
    congr 1
    rw [Bool.eq_iff_iff]
    simp only [decide_eq_true_eq]
    constructor <;> intro h
    ·omega
    ·exact hlw h
   simp only [rpass,RL.pass]
   rw [hop]
   cases ho:opens FAR (s.pass FAR bs k).r (bs.getD k default) with
   | true =>
     simp only [if_true]
     refine ⟨?_,fun h=>by simp at h,fun _=>?_⟩
     ·simp only [RL.step,ho,if_true,RL.upd]
      rw [take_set',h1,gi_take hq.1 (by omega)]
     ·refine ⟨(bs.getD k default).tow,hb.t0,hb.t1,?_⟩
      have a1:=hstep.2.1 ho
      have a2:=(RL.pass_le hl hin k (by omega)).2 _ hb.t0 hb.t1
      omega
   | false =>
     simp only [Bool.false_eq_true,if_false]
     have e:((s.pass FAR bs k).step FAR k (bs.getD k default))=s.pass FAR bs k:=by unfold RL.step;rw [if_neg (by rw [ho];simp)]
     rw [e]
     exact ⟨h1,h2,h3⟩
theorem rsettle_settle {p far:Int} {bs:List Bd} (hp:p≤60) (hin:∀ b ∈ bs,b.inr) (hpt:Pts p bs) (hfar:far≤FAR) (I:RL→Prop)
 (hI:∀ s,I s→s.r.length=60∧(∀ j:Int,0≤j→j<p→gi s.r j<far∨FAR≤gi s.r j)∧(∀ k,k≤bs.length→∀ j:Int,0≤j→j<p→gi (s.pass FAR bs k).r j<FAR→gi (s.pass FAR bs k).r j<far)∧I (s.pass FAR bs bs.length)) :
 ∀ (n:Nat) (s:RL),I s→(rsettle far bs n (s.r.take p.toNat)).2=(settle FAR bs n s).2∧((settle FAR bs n s).2=true→(rsettle far bs n (s.r.take p.toNat)).1=(settle FAR bs n s).1.r.take p.toNat)∧((settle FAR bs n s).2=false→(rsettle far bs n (s.r.take p.toNat)).1=[])
 | 0,s,_=>⟨rfl,fun h=>by simp [settle] at h,fun _=>rfl⟩
 | n +1,s,hs=>by
   obtain ⟨h1,h2,h3,h4⟩:=hI s hs
   obtain ⟨a1,a2,a3⟩:=rpass_pass h1 hp hin hpt hfar h2 h3 bs.length (Nat.le_refl _)
   simp only [rsettle,settle]
   cases hf:(rpass far bs (s.r.take p.toNat) bs.length).2 with
   | true =>
     rw [if_pos rfl,if_pos (a2 hf)]
     exact ⟨rfl,fun _=>a1,fun h=>by simp at h⟩
   | false =>
     have hne:¬ (s.pass FAR bs bs.length).r=s.r:=fun e=>by
      obtain ⟨j,_,_,h⟩:=a3 hf
      rw [e] at h
      exact absurd h (Int.lt_irrefl _)
     rw [if_neg (by simp),if_neg hne,a1]
     exact rsettle_settle hp hin hpt hfar I hI n _ h4
theorem rsol_gsol {p:Int} {bs:List Bd} (hs:Sys p bs) (hpt:Pts p bs):(rsol p bs).2=okB p bs∧(okB p bs=true→(rsol p bs).1=solR p bs)∧(okB p bs=false→(rsol p bs).1=[]):=by
 have hp:=hs.p2
 have h:=rsettle_settle (far:=1000000000) hp hs.inr hpt (by unfold FAR;omega) (fun s=>s.r.length=60∧∀ j:Int,0≤j→j<60→gi s.r j≤0)
  (fun s ⟨h1,h2⟩=>⟨h1,fun j j0 j1=>.inl (by have:=h2 j j0 (by omega);omega),fun k hk j j0 j1 _=>by
   have a:=(RL.pass_le h1 hs.inr k hk).2 j j0 (by omega)
   have b:=h2 j j0 (by omega)
   omega,(RL.pass_le h1 hs.inr bs.length (Nat.le_refl _)).1,fun j j0 j1=>by
   have a:=(RL.pass_le h1 hs.inr bs.length (Nat.le_refl _)).2 j j0 j1
   have b:=h2 j j0 j1
   omega⟩) (p +1).toNat ⟨List.replicate 60 0,List.replicate 60 (-1),0⟩ ⟨by simp,fun j _ _=>by show gi (List.replicate 60 0) j≤0;rw [gi_repl];omega⟩
 have e:(List.replicate 60 (0:Int)).take p.toNat=List.replicate p.toNat 0:=by rw [List.take_replicate,Nat.min_eq_left (by omega)]
 simp only [] at h
 rw [e] at h
 exact h
open Go
open Go
open Go.RowKit Go.Shelf
set_option maxHeartbeats 8000000
set_option maxRecDepth 100000
open Go.RowKit Go.Shelf
set_option maxHeartbeats 8000000
set_option maxRecDepth 100000
open Go.RowKit Go.Shelf Go.Sort
set_option maxHeartbeats 4000000
set_option maxRecDepth 100000
open Go.RowKit Go.Shelf
set_option maxHeartbeats 8000000
set_option maxRecDepth 100000
open Go.RowKit Go.Shelf
set_option maxHeartbeats 8000000
set_option maxRecDepth 100000
open Go.RowKit Go.Shelf
set_option maxHeartbeats 8000000
set_option maxRecDepth 100000
theorem sto2_k {Fe:Nat→List Nat} {w':World} {A B N base n:Nat} {a b p v:Value} {bs:List Value} {t t2:TypeId} {K:World→Prop} (hbl:w'.heap[N]?=some (.cells #[a,b] t (0,0))) (hR:w'.ownsRow base t2 4 v n bs) (hN:N ∉ v.ownBlock.toList) (e7:Fe A=v.ownBlock.toList) (e9:Fe B=[N])
 (hK:∀ (w1:World) (F:List Nat),SL.Chg (List.flatMap Fe [A,B]) w' w1→(∃ v',∃ F1 F2,(0≤N∧w1.heap[N]?=some (.cells #[p,v'] t (0,0))∧F1=[N])∧(w1.ownsRow base t2 4 v' n bs∧F2=v'.ownBlock.toList)∧F=F1 ++F2)→(∀ k ∈ F,k ∈ List.flatMap Fe [A,B]∨w'.heap.size≤k∧k<w1.heap.size)→K w1):K ((w'.setCell ⟨N,0,none⟩ p).setCell ⟨N,1,none⟩ v):=by
 have e:List.flatMap Fe [A,B]=v.ownBlock.toList ++[N]:=by simp [e7,e9]
 refine hK _ ([N] ++v.ownBlock.toList) (SLG.chg_set2 w' (by rw [e];simp) p v) ⟨v,_,_,⟨Nat.zero_le _,SLG.heap_set2 hbl p v,rfl⟩,⟨SLG.row_set2 hR hN p v,rfl⟩,rfl⟩ ?_
 intro k hk
 left
 rw [e]
 simp at hk ⊢
 rcases hk with h | h
 ·exact .inr h
 ·exact .inl h
theorem r2Ways_any (co:Int) (wa:Option Addr) (wn wc:Nat) (ws:List Bd) (ta:Option Addr) (tn tc:Nat) (ts:List Bd) (w:World) (hw:BdsAt w wa wn wc ws) (ht:BdsAt w ta tn tc ts) (hs:ws.length≤10000∧ts.length≤10000) :
 Calls Tryz.prog 40 #[.agg #[.int .i64 co,.slice wa wn wc,.slice ta tn tc]] w (SysPost w (sysIf co (co +1)) (sysBs co ws)):=by
 obtain rfl:=hw.len
 obtain rfl:=ht.len
 have hB0:=(one_alloc w (Obj.cells #[.int .i64 co,.slice wa ws.length wc,.slice ta ts.length tc] 52)).ch2 (one_alloc _ (Obj.cells #[.int .i64 0,.slice none 0 0] 57))
 have hI:=fun W=>r2within_any co 3 16 W
 have hR:=World.alloc_heap_new (w.alloc (Obj.cells #[.int .i64 co,.slice wa ws.length wc,.slice ta ts.length tc] 52)) (Obj.cells #[.int .i64 0,.slice none 0 0] 57)
 rw [World.size_alloc] at hR
 have hO:=alKeep (o':=Obj.cells #[.int .i64 0,.slice none 0 0] 57) (World.alloc_heap_new w (Obj.cells #[.int .i64 co,.slice wa ws.length wc,.slice ta ts.length tc] 52))
 unfold sysIf sysBs
 cases hR3:rngB co 3 16 with
 | false =>
   rw [hR3] at hI
   simp only [Bool.false_eq_true,if_false]
   have HP:=Lib.hid (show ∀ w',Below w.heap.size w w'→SysPost w 0 [] (.returned (.agg #[.int .i64 0,.slice none 0 0])) w' from fun w' h1=>⟨_,rfl,h1,World.ownsRow_nil _ _ _ _⟩)
   generalize SysPost w 0 []=Post at *
   clear hR3 hw ht hR hO
   go_enter Tryz.func40,Tryz.ntmps40
   go_wp2_with (go_at_call 78;(with_reducible refine (hI _).mono ?_);rintro e w1 ⟨rfl,rfl⟩)
   exact bodyPost_ret (v:=.agg #[.int .i64 0,.slice none 0 0]) (by simp [results,Tryz.results40,go_sem]) rfl (HP.out _ hB0)
 | true =>
   have hrng:=rngB_iff.1 hR3
   rw [hR3] at hI
   simp only [if_true]
   have HP:=Lib.hid (show ∀ v w',Below w.heap.size w w'→w'.ownsRow w.heap.size 69 4 v ws.length (bcs ws)→SysPost w (co +1) ws (.returned (.agg #[.int .i64 (co +1),v])) w' from fun v w' h1 h2=>⟨_,rfl,h1,h2⟩)
   generalize SysPost w (co +1) ws=Post at *
   have hwr:IntKind.i64.wrap (co +1)=co +1:=IntWalk.i64_in _ (by omega)
   have HW:=Lib.hid hw
   clear hR3 hw ht
   go_enter Tryz.func40,Tryz.ntmps40
   go_wp2_with (go_at_call 78;(with_reducible refine (hI _).mono ?_);rintro e w1 ⟨rfl,rfl⟩)
   generalize (w.alloc (Obj.cells #[.int .i64 co,.slice wa ws.length wc,.slice ta ts.length tc] 52)).alloc (Obj.cells #[.int .i64 0,.slice none 0 0] 57)=w1 at *
   have z0:=(Array.getElem?_eq_some_iff.1 hO).1
   have z1:=(Array.getElem?_eq_some_iff.1 hR).1
   obtain ⟨d0,d1,d2,_,_⟩:=cell3s hO
   have hn0:w.heap.size ∉ [w.heap.size +1]:=by simp
   have HB:=Lib.hid hB0
   clear hO hB0 hI
   apply SLG.rule0 ?hm [w.heap.size +1] [8,9,10,11,12,13,14,15] [SLF.pq 8 [] _,SLF.pq 9 [0] _,SLF.pq 10 [1] _,SL.row 11 [] [] w1.heap.size 69 4 0 [],SLF.pq 12 [] _,SLF.pq 13 [4] _,SL.row 14 [3,5] [3] w1.heap.size 69 4 ws.length (bcs ws),SL.aw 15 [2,6] [6] (fun x=>.ex fun v:Value=>.sep (.pure (x=.agg #[.int .i64 (co +1),v])) (.row w1.heap.size 69 4 v ws.length (bcs ws))),SL.aw 2 [7,9] [7,9] (fun _=>.ex fun v:Value=>.sep (.blk 0 (w.heap.size +1) 57 #[.int .i64 (co +1),v]) (.row w1.heap.size 69 4 v ws.length (bcs ws))),SL.boxAt 2 [] [] (w.heap.size +1) 57 #[.int .i64 0,.slice none 0 0]] [8] ?hck ?hkp (fun i=>if i=9 then [w.heap.size +1] else []) ?hin ?hdj ?hfr ?ob ?en1
   case hm=>kernel_rfl
   case hin=>exact SL.one_held rfl rfl ⟨rfl,hR,rfl⟩ z1
   case hdj=>exact SL.one_apart
   case hfr=>intro us;simp only [SL.frame,SL.put'];simp;exact rfl
   case ob =>
    refine ⟨?_,?_,?_,?_,?_,?_,?_,?_,?_,trivial⟩
    all_goals first
     | (intro us w' Fe hG hu hd hv Kx hK
        try dsimp only
        simp [SL.O] at hu hK
        have hB5:Below w.heap.size w w':=HB.out.trans (hG.belowF HB.out.size (by simp))
        obtain ⟨hc5,hf5⟩:=bcell hB5
        have hs5:=hB5.size
        obtain ⟨hc6,hf6⟩:=hG.cellsF;have p0:=(hc6 w.heap.size 0 z0 hn0).trans d0;have p1:=(hc6 w.heap.size 1 z0 hn0).trans d1
        clear hv
        exact Z5z)
     | skip
    ·refine SLG.ob_sp rfl rfl rfl fun us w' Fe hG hu hd Kx hK=>?_
     try dsimp only
     simp [SL.O] at hu
     have hB5:Below w.heap.size w w':=HB.out.trans (hG.belowF HB.out.size (by simp))
     obtain ⟨hc5,hf5⟩:=bcell hB5
     have hs5:=hB5.size
     obtain ⟨hc6,hf6⟩:=hG.cellsF;have p0:=(hc6 w.heap.size 0 z0 hn0).trans d0;have p1:=(hc6 w.heap.size 1 z0 hn0).trans d1
     exact Z8g
    ·refine SLG.ob_sp rfl rfl rfl fun us w' Fe hG hu hd Kx hK=>?_
     try dsimp only
     simp [SL.O] at hu
     have hB5:Below w.heap.size w w':=HB.out.trans (hG.belowF HB.out.size (by simp))
     obtain ⟨hc5,hf5⟩:=bcell hB5
     have hs5:=hB5.size
     obtain ⟨hc6,hf6⟩:=hG.cellsF;have p0:=(hc6 w.heap.size 0 z0 hn0).trans d0;have p1:=(hc6 w.heap.size 1 z0 hn0).trans d1
     refine SLF.wpo_do (SLF.wanted_free rfl) ?hd ?_
     case hd=>intro c h;cases h
     obtain ⟨⟨ho,e1⟩,e2,_⟩:=hu
     have hs6:w1.heap.size≤w'.heap.size:=hG.size
     have hsr:=(HW.out.below hB5).row
     clear hc5 hf5 hc6 hf6
     refine wp_app elemB _ _ rfl ho rfl e2 hsr (bcs_length ws) (bcs_one ws) Z1s (by omega) hs6 ?_
     exact Z8f
    ·refine SLG.ob_sp rfl rfl rfl fun us w' Fe hG hu hd Kx hK=>?_
     try dsimp only
     simp [SL.O] at hu
     have hB5:Below w.heap.size w w':=HB.out.trans (hG.belowF HB.out.size (by simp))
     obtain ⟨hc5,hf5⟩:=bcell hB5
     have hs5:=hB5.size
     obtain ⟨hc6,hf6⟩:=hG.cellsF;have p0:=(hc6 w.heap.size 0 z0 hn0).trans d0;have p1:=(hc6 w.heap.size 1 z0 hn0).trans d1
     exact Z8d
    ·refine SLG.ob_no rfl rfl rfl fun us w' Fe hG hu hd Kx hK=>?_
     try dsimp only
     simp [SL.O] at hu
     have hB5:Below w.heap.size w w':=HB.out.trans (hG.belowF HB.out.size (by simp))
     obtain ⟨hc5,hf5⟩:=bcell hB5
     have hs5:=hB5.size
     obtain ⟨hc6,hf6⟩:=hG.cellsF;have p0:=(hc6 w.heap.size 0 z0 hn0).trans d0;have p1:=(hc6 w.heap.size 1 z0 hn0).trans d1
     refine SLF.wpo_do (SLF.wanted_free rfl) ?hd ?_
     case hd=>intro c h;cases h
     obtain ⟨h7,e2,hbl,e9⟩:=hu
     obtain ⟨v,F1,F2,⟨ex,rfl⟩,⟨r1,rfl⟩,hF5⟩:=SL.aw_out h7
     have hd1:=hd 7 9 Z3m Z3m (by simp)
     obtain ⟨xa,xc,rfl,_⟩:=owns_slice r1
     obtain ⟨y0,y1,yf,yl⟩:=cell2s hbl
     have HN:=Lib.hid (fun (hm:w.heap.size +1 ∈ (Value.slice xa ws.length xc).ownBlock.toList)=>hd1 (w.heap.size +1) (by rw [hF5];simpa using hm) (by rw [e9];simp))
     exact Z8i
   case hck=>kernel_rfl
   case hkp=>kernel_rfl
   intro us7 w7 Fs7 hG hu hbd hd
   simp [SL.Used,SL.aw_sub] at hu
   obtain ⟨v,F1,F2,⟨_,hbl,rfl⟩,⟨hr,rfl⟩,hF⟩:=SL.aw_out hu
   have hB7:Below w.heap.size w w7:=HB.out.trans (hG.belowF HB.out.size (by simp))
   obtain ⟨xa,xc,rfl,_⟩:=owns_slice hr
   obtain ⟨k0,k1,kf,kl⟩:=cell2s hbl
   have hO:=SL.row_base hr HB.out.size
   clear hG hbd hd hu hF hbl hr
   go_wp2_with fail
   exact bodyPost_ret (v:=.agg #[.int .i64 (co +1),.slice xa ws.length xc]) (by simp [results,Tryz.results40,go_sem,k0,k1]) rfl (HP.out _ _ hB7 hO)
theorem r2Turns_any (co:Int) (wa:Option Addr) (wn wc:Nat) (ws:List Bd) (ta:Option Addr) (tn tc:Nat) (ts:List Bd) (w:World) (hw:BdsAt w wa wn wc ws) (ht:BdsAt w ta tn tc ts) (hs:ws.length≤10000∧ts.length≤10000) :
 Calls Tryz.prog 42 #[.agg #[.int .i64 co,.slice wa wn wc,.slice ta tn tc]] w (SysPost w (sysIf co (co)) (sysBs co ts)):=by
 obtain rfl:=hw.len
 obtain rfl:=ht.len
 have hB0:=(one_alloc w (Obj.cells #[.int .i64 co,.slice wa ws.length wc,.slice ta ts.length tc] 52)).ch2 (one_alloc _ (Obj.cells #[.int .i64 0,.slice none 0 0] 57))
 have hI:=fun W=>r2within_any co 3 16 W
 have hR:=World.alloc_heap_new (w.alloc (Obj.cells #[.int .i64 co,.slice wa ws.length wc,.slice ta ts.length tc] 52)) (Obj.cells #[.int .i64 0,.slice none 0 0] 57)
 rw [World.size_alloc] at hR
 have hO:=alKeep (o':=Obj.cells #[.int .i64 0,.slice none 0 0] 57) (World.alloc_heap_new w (Obj.cells #[.int .i64 co,.slice wa ws.length wc,.slice ta ts.length tc] 52))
 unfold sysIf sysBs
 cases hR3:rngB co 3 16 with
 | false =>
   rw [hR3] at hI
   simp only [Bool.false_eq_true,if_false]
   have HP:=Lib.hid (show ∀ w',Below w.heap.size w w'→SysPost w 0 [] (.returned (.agg #[.int .i64 0,.slice none 0 0])) w' from fun w' h1=>⟨_,rfl,h1,World.ownsRow_nil _ _ _ _⟩)
   generalize SysPost w 0 []=Post at *
   clear hR3 hw ht hR hO
   go_enter Tryz.func42,Tryz.ntmps42
   go_wp2_with (go_at_call 78;(with_reducible refine (hI _).mono ?_);rintro e w1 ⟨rfl,rfl⟩)
   exact bodyPost_ret (v:=.agg #[.int .i64 0,.slice none 0 0]) (by simp [results,Tryz.results42,go_sem]) rfl (HP.out _ hB0)
 | true =>
   have hrng:=rngB_iff.1 hR3
   rw [hR3] at hI
   simp only [if_true]
   have HP:=Lib.hid (show ∀ v w',Below w.heap.size w w'→w'.ownsRow w.heap.size 69 4 v ts.length (bcs ts)→SysPost w (co) ts (.returned (.agg #[.int .i64 (co),v])) w' from fun v w' h1 h2=>⟨_,rfl,h1,h2⟩)
   generalize SysPost w (co) ts=Post at *
   have hwr:IntKind.i64.wrap (co +1)=co +1:=IntWalk.i64_in _ (by omega)
   have HW:=Lib.hid ht
   clear hR3 hw ht
   go_enter Tryz.func42,Tryz.ntmps42
   go_wp2_with (go_at_call 78;(with_reducible refine (hI _).mono ?_);rintro e w1 ⟨rfl,rfl⟩)
   generalize (w.alloc (Obj.cells #[.int .i64 co,.slice wa ws.length wc,.slice ta ts.length tc] 52)).alloc (Obj.cells #[.int .i64 0,.slice none 0 0] 57)=w1 at *
   have z0:=(Array.getElem?_eq_some_iff.1 hO).1
   have z1:=(Array.getElem?_eq_some_iff.1 hR).1
   obtain ⟨d0,d1,d2,_,_⟩:=cell3s hO
   have hn0:w.heap.size ∉ [w.heap.size +1]:=by simp
   have HB:=Lib.hid hB0
   clear hO hB0 hI
   apply SLG.rule0 ?hm [w.heap.size +1] [8,9,10,11,12,13,14] [SLF.pq 8 [] _,SLF.pq 9 [0] _,SL.row 10 [] [] w1.heap.size 69 4 0 [],SLF.pq 11 [] _,SLF.pq 12 [3] _,SL.row 13 [2,4] [2] w1.heap.size 69 4 ts.length (bcs ts),SL.aw 14 [1,5] [5] (fun x=>.ex fun v:Value=>.sep (.pure (x=.agg #[.int .i64 (co),v])) (.row w1.heap.size 69 4 v ts.length (bcs ts))),SL.aw 2 [6,8] [6,8] (fun _=>.ex fun v:Value=>.sep (.blk 0 (w.heap.size +1) 57 #[.int .i64 (co),v]) (.row w1.heap.size 69 4 v ts.length (bcs ts))),SL.boxAt 2 [] [] (w.heap.size +1) 57 #[.int .i64 0,.slice none 0 0]] [7] ?hck ?hkp (fun i=>if i=8 then [w.heap.size +1] else []) ?hin ?hdj ?hfr ?ob ?en2
   case hm=>kernel_rfl
   case hin=>exact SL.one_held rfl rfl ⟨rfl,hR,rfl⟩ z1
   case hdj=>exact SL.one_apart
   case hfr=>intro us;simp only [SL.frame,SL.put'];simp;exact rfl
   case ob =>
    refine ⟨?_,?_,?_,?_,?_,?_,?_,?_,trivial⟩
    all_goals first
     | (intro us w' Fe hG hu hd hv Kx hK
        try dsimp only
        simp [SL.O] at hu hK
        have hB5:Below w.heap.size w w':=HB.out.trans (hG.belowF HB.out.size (by simp))
        obtain ⟨hc5,hf5⟩:=bcell hB5
        have hs5:=hB5.size
        obtain ⟨hc6,hf6⟩:=hG.cellsF;have p0:=(hc6 w.heap.size 0 z0 hn0).trans d0;have p1:=(hc6 w.heap.size 2 z0 hn0).trans d2
        clear hv
        exact Z5z)
     | skip
    ·refine SLG.ob_sp rfl rfl rfl fun us w' Fe hG hu hd Kx hK=>?_
     try dsimp only
     simp [SL.O] at hu
     have hB5:Below w.heap.size w w':=HB.out.trans (hG.belowF HB.out.size (by simp))
     obtain ⟨hc5,hf5⟩:=bcell hB5
     have hs5:=hB5.size
     obtain ⟨hc6,hf6⟩:=hG.cellsF;have p0:=(hc6 w.heap.size 0 z0 hn0).trans d0;have p1:=(hc6 w.heap.size 2 z0 hn0).trans d2
     exact Z8g
    ·refine SLG.ob_sp rfl rfl rfl fun us w' Fe hG hu hd Kx hK=>?_
     try dsimp only
     simp [SL.O] at hu
     have hB5:Below w.heap.size w w':=HB.out.trans (hG.belowF HB.out.size (by simp))
     obtain ⟨hc5,hf5⟩:=bcell hB5
     have hs5:=hB5.size
     obtain ⟨hc6,hf6⟩:=hG.cellsF;have p0:=(hc6 w.heap.size 0 z0 hn0).trans d0;have p1:=(hc6 w.heap.size 2 z0 hn0).trans d2
     refine SLF.wpo_do (SLF.wanted_free rfl) ?hd ?_
     case hd=>intro c h;cases h
     obtain ⟨⟨ho,e1⟩,e2,_⟩:=hu
     have hs6:w1.heap.size≤w'.heap.size:=hG.size
     have hsr:=(HW.out.below hB5).row
     clear hc5 hf5 hc6 hf6
     refine wp_app elemB _ _ rfl ho rfl e2 hsr (bcs_length ts) (bcs_one ts) Z1s (by omega) hs6 ?_
     exact Z8f
    ·refine SLG.ob_sp rfl rfl rfl fun us w' Fe hG hu hd Kx hK=>?_
     try dsimp only
     simp [SL.O] at hu
     have hB5:Below w.heap.size w w':=HB.out.trans (hG.belowF HB.out.size (by simp))
     obtain ⟨hc5,hf5⟩:=bcell hB5
     have hs5:=hB5.size
     obtain ⟨hc6,hf6⟩:=hG.cellsF;have p0:=(hc6 w.heap.size 0 z0 hn0).trans d0;have p1:=(hc6 w.heap.size 2 z0 hn0).trans d2
     exact Z8d
    ·refine SLG.ob_no rfl rfl rfl fun us w' Fe hG hu hd Kx hK=>?_
     try dsimp only
     simp [SL.O] at hu
     have hB5:Below w.heap.size w w':=HB.out.trans (hG.belowF HB.out.size (by simp))
     obtain ⟨hc5,hf5⟩:=bcell hB5
     have hs5:=hB5.size
     obtain ⟨hc6,hf6⟩:=hG.cellsF;have p0:=(hc6 w.heap.size 0 z0 hn0).trans d0;have p1:=(hc6 w.heap.size 2 z0 hn0).trans d2
     refine SLF.wpo_do (SLF.wanted_free rfl) ?hd ?_
     case hd=>intro c h;cases h
     obtain ⟨h7,e2,hbl,e9⟩:=hu
     obtain ⟨v,F1,F2,⟨ex,rfl⟩,⟨r1,rfl⟩,hF5⟩:=SL.aw_out h7
     have hd1:=hd 6 8 Z3m Z3m (by simp)
     obtain ⟨xa,xc,rfl,_⟩:=owns_slice r1
     obtain ⟨y0,y1,yf,yl⟩:=cell2s hbl
     have HN:=Lib.hid (fun (hm:w.heap.size +1 ∈ (Value.slice xa ts.length xc).ownBlock.toList)=>hd1 (w.heap.size +1) (by rw [hF5];simpa using hm) (by rw [e9];simp))
     exact Z8i
   case hck=>kernel_rfl
   case hkp=>kernel_rfl
   intro us7 w7 Fs7 hG hu hbd hd
   simp [SL.Used,SL.aw_sub] at hu
   obtain ⟨v,F1,F2,⟨_,hbl,rfl⟩,⟨hr,rfl⟩,hF⟩:=SL.aw_out hu
   have hB7:Below w.heap.size w w7:=HB.out.trans (hG.belowF HB.out.size (by simp))
   obtain ⟨xa,xc,rfl,_⟩:=owns_slice hr
   obtain ⟨k0,k1,kf,kl⟩:=cell2s hbl
   have hO:=SL.row_base hr HB.out.size
   clear hG hbd hd hu hF hbl hr
   go_wp2_with fail
   exact bodyPost_ret (v:=.agg #[.int .i64 (co),.slice xa ts.length xc]) (by simp [results,Tryz.results42,go_sem,k0,k1]) rfl (HP.out _ _ hB7 hO)
end Go.Proofs.YtelkcohhagblaaaGreat

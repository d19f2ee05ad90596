/-
  The law Doubts, walked, and its statement.
-/
import Derived.Test.YtelkcohhagblaaaGreatSe43
import Derived.Test.YtelkcohhagblaaaGreatSe49
import Derived.Test.YtelkcohhagblaaaGreatSe08
import Derived.Shelf.SlGeneric
import Derived.Shelf.SlSortCmp.WholeK
import Derived.Shelf.SlSortCmp.NoneTotal
import Derived.Shelf.SlicesQ.Equal
import Derived.Ground.SlsfProg
import Derived.Ground.SlgqProg
import Derived.Test.YtelkcohhagblaaaGreatProg
import Derived.Test.YtelkcohhagblaaaGreatSe53
import Derived.Test.YtelkcohhagblaaaGreatSe51
import Derived.Test.YtelkcohhagblaaaGreatSe52
import Derived.Test.YtelkcohhagblaaaGreatSe25
import Derived.Test.YtelkcohhagblaaaGreatLawDoubtsA
import Derived.Test.YtelkcohhagblaaaGreatRows
import Derived.OpenShut
set_option linter.unusedSimpArgs false
set_option linter.unusedVariables false
set_option linter.unnecessarySimpa false
namespace Go.Proofs.YtelkcohhagblaaaGreat
theorem Za0 {P:Prop}(h:P:=by
 intro v' w6 ho6 hg6 hb6 _ hat
 refine hK _ v' w6 _ Zh (.of_own hg6 (fun k e=>by simp [SL.row,u2,e])) ⟨ho6,rfl⟩ ?_
 exact Z9x):P:=h
theorem Z9w {P:Prop}(h:P:=by
 rintro e w6 ⟨v6,rfl,hb6,ho6⟩
 exact hK _ v6 w6 _ Zh (.of_below hb6) ⟨SL.row_base ho6 hs5,rfl⟩ (fun k hk=>.inr (SL.row_bounds ho6 k hk))):P:=h
theorem Z9x {P:Prop}(h:P:=by
 intro k hk
 rcases hat with h | h
 ·left;simp [SL.row,u2,← h];simpa using hk
 ·right;rw [h] at hk;simp at hk;subst hk;exact ⟨Nat.le_refl _,by have:=(SL.row_bounds ho6 w'.heap.size (by simp [h])).2;exact this⟩):P:=h
theorem Z9y {P:Prop}(h:P:=by
 rintro e w6 ⟨v6,rfl,hb6,ho6⟩
 exact hK _ v6 w6 _ Zh (.of_below hb6) ⟨SL.row_base ho6 hs6,rfl⟩ (fun k hk=>.inr (SL.row_bounds ho6 k hk))):P:=h
theorem Z9z {P:Prop}(h:P:=by
 simpa [SL.aw_eat,e6] using hk):P:=h
theorem Z93 {P:Prop}(h:P:=by
 refine ⟨?_,?_,?_,?_,?_,?_,?_,?_,?_,?_,?_,?_,trivial⟩
 all_goals first
  | (intro us w' Fe hG hu hd hv Kx hK
     try dsimp only
     simp [SL.O] at hu hK
     have hB5:Below wr.heap.size wr w':=hG.below'
     obtain ⟨hc5,hf5⟩:=bcell hB5
     have hs5:=hB5.size
     have p4:=(hc5 NY 4 zYr).trans y4
     clear hv hG
     exact Z5z)
  | skip
 ·refine SLG.ob_sp rfl rfl rfl fun us w' Fe hG hu hd Kx hK=>?_
  try dsimp only
  simp [SL.O] at hu
  have hB5:Below wr.heap.size wr w':=hG.below'
  obtain ⟨hc5,hf5⟩:=bcell hB5
  have hs5:=hB5.size
  have p4:=(hc5 NY 4 zYr).trans y4
  refine SLF.wpo_do (SLF.wanted_free rfl) ?hd ?_
  case hd=>intro c h;cases h
  obtain ⟨e4,_⟩:=hu
  clear hc5 hf5
  go_step
  refine (hSd w').mono ?_
  exact Z9w
 ·refine SLG.ob_sp rfl rfl rfl fun us w' Fe hG hu hd Kx hK=>?_
  try dsimp only
  simp [SL.O] at hu
  have hB5:Below wr.heap.size wr w':=hG.below'
  obtain ⟨hc5,hf5⟩:=bcell hB5
  have hs5:=hB5.size
  have p4:=(hc5 NY 4 zYr).trans y4
  refine SLF.wpo_do (SLF.wanted_free rfl) ?hd ?_
  case hd=>intro c h;cases h
  obtain ⟨e6,_⟩:=hu
  have hBw:=hBo w' (hP.below hB5)
  clear hc5 hf5
  go_step
  refine hBw.mono ?_
  exact Z9w
 ·refine SLG.ob_sp rfl rfl rfl fun us w' Fe hG hu hd Kx hK=>?_
  try dsimp only
  simp [SL.O] at hu
  have hB5:Below wr.heap.size wr w':=hG.below'
  obtain ⟨hc5,hf5⟩:=bcell hB5
  have hs5:=hB5.size
  have p4:=(hc5 NY 4 zYr).trans y4
  refine SLF.wpo_do (SLF.wanted_free rfl) ?hd ?_
  case hd=>intro c h;cases h
  obtain ⟨⟨u1,u2⟩,u3,u4⟩:=hu
  obtain ⟨sa,c,hsl,_⟩:=owns_slice u3
  clear hc5 hf5
  refine wp_app elemB _ _ rfl u1 rfl hsl (RowAt.of_owns (hsl ▸ u3)) (bcs_length _) (bcs_one _) Z1s (by omega) hs5 ?_
  exact Za0
 ·refine SLG.ob_sp rfl rfl rfl fun us w' Fe hG hu hd Kx hK=>?_
  try dsimp only
  simp [SL.O] at hu
  have hB5:Below wr.heap.size wr w':=hG.below'
  obtain ⟨hc5,hf5⟩:=bcell hB5
  have hs5:=hB5.size
  have p4:=(hc5 NY 4 zYr).trans y4
  refine SLF.wpo_do (SLF.wanted_free rfl) ?hd ?_
  case hd=>intro c h;cases h
  obtain ⟨⟨e2,_⟩,ho,e6⟩:=hu
  obtain ⟨sa,sc,hsl,_⟩:=owns_slice ho
  rw [hsl] at ho e6
  have HO:=Lib.hid ho
  have HE:=Lib.hid e6
  clear hc5 hf5 ho e6
  go_step
  have ho:=HO.out
  have e6:=HE.out
  refine hK _ _ _ _ ?_ (SL.Chg.refl _ _) (SL.aw_in ⟨_,[],_,⟨rfl,rfl⟩,⟨ho,rfl⟩,rfl⟩) (fun k hk=>.inl Z9z)
  simp [Act.put]
 ·refine SLG.ob_sp rfl rfl rfl fun us w' Fe hG hu hd Kx hK=>?_
  try dsimp only
  simp [SL.O] at hu
  have hB5:Below wr.heap.size wr w':=hG.below'
  obtain ⟨hc5,hf5⟩:=bcell hB5
  have hs5:=hB5.size
  have p4:=(hc5 NY 4 zYr).trans y4
  refine SLF.wpo_do (SLF.wanted_free rfl) ?hd ?_
  case hd=>intro c h;cases h
  go_step
  exact hK _ _ _ _ Zh (.alloc _ _ _) ⟨_,rfl,hs5,World.alloc_heap_new _ _,rfl⟩ (by simp)
 ·refine SLG.ob_no rfl rfl rfl fun us w' Fe hG hu hd Kx hK=>?_
  try dsimp only
  simp [SL.O] at hu
  have hB5:Below wr.heap.size wr w':=hG.below'
  obtain ⟨hc5,hf5⟩:=bcell hB5
  have hs5:=hB5.size
  have p4:=(hc5 NY 4 zYr).trans y4
  refine SLF.wpo_do (SLF.wanted_free rfl) ?hd ?_
  case hd=>intro c h;cases h
  obtain ⟨h9,N,e10,hbN,hNh,eF⟩:=hu
  obtain ⟨v,F1,F2,⟨ex,rfl⟩,⟨r1,rfl⟩,hF5⟩:=SL.aw_out h9
  have hd1:=hd 9 10 Z3m Z3m (by simp)
  obtain ⟨xa,xc,rfl,_⟩:=owns_slice r1
  obtain ⟨y0,y1,yf,yl⟩:=cell2s hNh
  have R1:=Lib.hid r1
  have HD:=Lib.hid hd1
  have HF:=Lib.hid hF5
  have HE:=Lib.hid eF
  clear hc5 hf5 h9 r1 hd1 hF5 eF
  go_step
  exact sto2_n e10 hbN hNh R1.out (by simpa using HF.out) HE.out HD.out (fun w1 F h1 h2 h3=>hK w1 F h1 (SL.aw_in h2) h3)):P:=h
theorem Z94 {P:Prop}(h:P:=by
 go_wp2_with fail
 go_quiet (fail)
 have hBy:=belowN (n:=nq) HB.out
 have hry:=HR.out.up (belowN (n:=nq) (Below.refl wr.heap.size wr)) (Nat.le_refl _)
 clear c0 c1 g0 HR HB hd
 generalize wr.drewN nq=wy at *
 go_wp2_with fail
 go_loopw [14,16,17] (fun r s j wr=>∃ m:Nat,m≤Kp.length∧j=.int .i64 m∧s=.bool ((Kp.take m).any fun x=>x.id == v)∧wr.ownsRow w2.heap.size 24 16 r (P ++(Kp.take m).filter fun x=>x.id == v).length (ics (P ++(Kp.take m).filter fun x=>x.id == v))∧Below w2.heap.size w2 wr) (fun _ _ j _=>Kp.length - (RowKit.intOf j).toNat)
 case atStart=>exact ⟨0,Nat.zero_le _,rfl,rfl,by rw [List.take_zero,List.filter_nil,List.append_nil];exact hry,hBy⟩
 case round =>
  obtain ⟨m,hm,rfl,rfl,hri,hBi⟩:=hrel
  obtain ⟨xa,xc,rfl,_⟩:=owns_slice hri
  have hmm:(0:Int)≤m:=by omega
  clear hry hBy
  by_cases hlm:m<Kp.length
  ·have i2:(m:Int)<(Kp.length:Int):=by omega
   have e1:=(SL.cells_of ((hBi.block _ zD).trans hD2)).1 1
   simp only [List.getElem?_toArray,List.getElem?_cons_succ,List.getElem?_cons_zero] at e1
   have g0:=((bcell hBi).1 _ _ hbz).trans G0
   obtain ⟨b2,o2,rfl,hbz2,⟨d0,d1,d2,d3,d4,d5,d6,d7,d8,d9,d10,d11,d12,d13,d14,d15⟩⟩:=(hK2.below hBi).get hlm
   have Hs1:=Lib.hid (filt_succ (f:=fun x=>x.id == v) hlm)
   have Hs2:=Lib.hid (any_succ (f:=fun x=>x.id == v) hlm)
   have hfl:=filt_len (fun x=>x.id == v) Kp m
   have hL0:(P ++(Kp.take m).filter fun x=>x.id == v).length≤2000:=by rw [List.length_append];omega
   have HL:=Lib.hid (List.append_assoc P ((Kp.take m).filter fun x=>x.id == v))
   generalize Kp.getD m default=x at *
   generalize (Kp.take m).any (fun x=>x.id == v)=S at *
   generalize (Kp.take m).filter (fun x=>x.id == v)=F at *
   generalize hPF:P ++F=L at *
   have HR:=Lib.hid hri
   have HB:=Lib.hid hBi
   clear hri hBi
   cases hx:(x.id == v) with
   | false =>
     have hx2:decide (x.id=v)=false:=by simpa using hx
     rw [hx] at Hs1 Hs2
     go_wp2_with fail
     go_quiet (fail)
     go_wp2
     go_roundw
     case rel=>exact ⟨m +1,by omega,by go_num,by rw [Hs2.out,Bool.or_false],by rw [Hs1.out];simp only [Bool.false_eq_true,if_false,List.append_nil,hPF];exact HR.out.up (belowN (Below.refl _ _)) (Nat.le_refl _),belowN HB.out⟩
     case measure=>simp [RowKit.intOf] <;> omega
   | true =>
     have hx2:decide (x.id=v)=true:=by simpa using hx
     rw [hx] at Hs1 Hs2
     go_wp2_with fail
     go_quiet (fail)
     have hal:=one_alloc (wr.drewN nq) (Obj.cells #[.int .i64 x.id,.int .i64 x.kn,.int .u8 x.kd,.string x.wa,.int .i64 x.pit,.int .i64 x.ly,.int .i64 x.co,.bool x.ft,.int .i64 x.sh,.int .i64 x.fr,.int .i64 x.tw,.int .i64 x.lo,.int .i64 x.hi,.string x.st,.int .i64 x.li,.int .i64 x.vo] 24)
     have hsl:=World.alloc_heap_new (wr.drewN nq) (Obj.cells #[.int .i64 x.id,.int .i64 x.kn,.int .u8 x.kd,.string x.wa,.int .i64 x.pit,.int .i64 x.ly,.int .i64 x.co,.bool x.ft,.int .i64 x.sh,.int .i64 x.fr,.int .i64 x.tw,.int .i64 x.lo,.int .i64 x.hi,.string x.st,.int .i64 x.li,.int .i64 x.vo] 24)
     have hr2:=(HR.out.up (belowN (n:=nq) (Below.refl _ _)) (Nat.le_refl _)).up hal (Nat.le_refl _)
     have hB2:=(belowN (n:=nq) HB.out).ch2 hal
     have hzB:=HB.out.size
     clear hal
     go_wp2_with (at_builtin;refine wpList_app elemT rfl _ _ rfl hr2 rfl rfl (RowAt.of_heap hsl) (by rfl) (fun u hu=>ics_one [x] u Z3w) Z1s (by omega) Zj ?_;intro v' w3 hr3 hg3 hb3 _ _;obtain ⟨wa,wc,rfl,_⟩:=owns_slice hr3;have HQ:=Lib.hid (And.intro hr3 (hB2.trans hb3));clear hr3 hg3 hb3)
     go_roundw
     case rel=>exact ⟨m +1,by omega,by go_num,by rw [Hs2.out,Bool.or_true],by rw [Hs1.out];simp only [if_true];rw [← List.append_assoc,hPF,List.length_append,ics_append,ics_one1];exact HQ.out.1,HQ.out.2⟩
     case measure=>simp [RowKit.intOf] <;> omega
  ·have hme:m=Kp.length:=by omega
   subst hme
   rw [List.take_length] at hri ⊢
   cases hS:Kp.any (fun x=>x.id == v) with
   | false =>
     have HF:=Lib.hid (HPl.out wr v Hv.out (fun x hx e=>by
      rw [List.any_eq_false] at hS
      exact hS x hx (by simpa using e)) (HB2.out.ch2 hBi))
     clear hri hBi
     exact Z4t
   | true =>
     have Hq:=Lib.hid (Hps.out v)
     have HR:=Lib.hid (And.intro hri hBi)
     have HS:=Lib.hid hS
     clear hri hBi hS
     go_wp2_with fail
     go_roundw
     case rel =>
      refine ⟨q +1,by omega,by go_num,HN.out,?_,by rw [Htk.out,Hq.out];exact HR.out.1,HR.out.2⟩
      rw [Htk.out]
      intro i hi
      rcases List.mem_append.1 hi with hi | hi
      ·exact Hfd.out i hi
      ·rw [List.mem_singleton] at hi
       obtain ⟨x,hx,e⟩:=List.any_eq_true.1 HS.out
       exact ⟨x,hx,by rw [hi];simpa using e⟩
     case measure=>simp [RowKit.intOf] <;> omega):P:=h
theorem Z97 {P:Prop}(h:P:=by
 go_enter Tryz.func56,Tryz.ntmps56
 go_wp2_with (go_at_call 60;(with_reducible refine hL.mono ?_);rintro e w1 ⟨rfl,hb1⟩;have hDX:=alKeep (o':=Obj.cells #[.int .i64 (lookS l day id).id,.string (lookS l day id).wa,.int .i64 (lookS l day id).pit,.int .i64 (lookS l day id).ly,.int .i64 (lookS l day id).co,.bool (lookS l day id).ft] 72) ((hb1.block w.heap.size (by simp)).trans hD0);have hBX:=(hB0.ch2 hb1).ch2 (one_alloc w1 (Obj.cells #[.int .i64 (lookS l day id).id,.string (lookS l day id).wa,.int .i64 (lookS l day id).pit,.int .i64 (lookS l day id).ly,.int .i64 (lookS l day id).co,.bool (lookS l day id).ft] 72));have c0:=(SL.cells_of hDX).1 0;have c1:=(SL.cells_of hDX).1 1;simp only [List.getElem?_toArray,List.getElem?_cons_succ,List.getElem?_cons_zero] at c0 c1)
 exact HF.out _ hBX):P:=h
theorem Z98 {P:Prop}(h:P:=by
 go_enter Tryz.func12,Tryz.ntmps12
 go_wp2_with (first
  | (go_at_call 18;(with_reducible refine (hFe _ hB0).mono ?_);rintro e w1 ⟨rfl,hb1⟩;have hB1:=hB0.ch2 hb1;have hD1:=(hb1.block w.heap.size (by simp)).trans hD0;have c1:=(SL.cells_of hD1).1 1;simp at c1;have zD:=(Array.getElem?_eq_some_iff.1 hD1).1)
  | (go_at_call 20;(with_reducible refine (hSh _).mono ?_);rintro e w3 ⟨rfl,hb3⟩))
 go_ret
 exact ⟨rfl,hB1.ch2 hb3⟩):P:=h
theorem Z9e {P:Prop}(h:P:=by
 rw [hg1] at HF
 go_wp2_with fail
 go_quiet (fail)
 go_wp2
 exact HF.out _ _ rfl (HB2.out.ch2 (belowN HB.out))):P:=h
theorem Z9m {P:Prop}(h:P:=by
 rintro e w' ⟨v,rfl,hb',_⟩
 exact ⟨v,by rw [hchk,(rsol_gsol (Sys.of_chk hchk) (Pts.of_chk hchk)).1];simp,hb'⟩):P:=h
theorem Z9q {P:Prop}(h:P:=by
 rw [List.take_succ_eq_append_getElem hq,List.getD_eq_getElem?_getD,List.getElem?_eq_getElem hq]
 rfl):P:=h
theorem Z9t {P:Prop}(h:P:=by
 simp [hx]):P:=h
theorem Z9v {P:Prop}(h:P:=by
 rw [List.length_append];omega):P:=h
open Go.RowKit Go.Shelf
instance:Inhabited Dub:=⟨⟨0,.slice none 0 0,[]⟩⟩
theorem dubKs_get {L:List Dub} {q:Nat} (h:q<L.length):(dubKs L).getD q (0,[])=((L.getD q default).k,(L.getD q default).ids):=by
 unfold dubKs
 rw [List.getD_eq_getElem?_getD,List.getD_eq_getElem?_getD,List.getElem?_map,List.getElem?_eq_getElem h]
 rfl
/-- A doubt of a row. -/
theorem DubsAt.get {w:World} {base:Nat} {a:Option Addr} {n cap:Nat} {L:List Dub} (h:DubsAt w base (.slice a n cap) L) {q:Nat} (hq:q<L.length) :
 ∃ G ia m ic,a=some ⟨G,0,none⟩∧G<w.heap.size∧w.cell? ⟨G,q * 2,none⟩=some (.int .u8 (L.getD q default).k)∧w.cell? ⟨G,q * 2 +1,none⟩=some (.slice ia m ic) ∧
   (L.getD q default).v=.slice ia m ic∧m=(L.getD q default).ids.length∧w.ownsRow base 3 1 (.slice ia m ic) m ((L.getD q default).ids.map (.int .i64)):=by
 have hm:L.getD q default ∈ L:=by rw [List.getD_eq_getElem?_getD,List.getElem?_eq_getElem hq];exact List.getElem_mem hq
 have ho:=h.row
 have hi:=h.ids _ hm
 generalize hd:L.getD q default=d at *
 obtain ⟨G,rfl⟩:∃ G,a=some ⟨G,0,none⟩:=by
  obtain ⟨_,⟨hv,h0⟩ | ⟨g,c,cur,hv,_⟩⟩:=ho
  ·omega
  ·injection hv with h1 _ _;exact ⟨g,h1⟩
 obtain rfl:n=L.length:=by
  obtain ⟨_,⟨hv,h0⟩ | ⟨g,c,cur,hv,_⟩⟩:=ho
  ·cases hv
  ·injection hv
 obtain ⟨ia,ic,hv,_⟩:=owns_slice hi
 rw [hv] at hi
 have hl:=ho.1
 have g:=fun j hj=>flatS_get (f:=fun d:Dub=>[Value.int .u8 d.k,d.v]) (k:=2) (fun _=>rfl) L q j hq hj
 rw [hd] at g
 refine ⟨G,ia,_,ic,rfl,(SL.row_bounds ho G (by simp [Value.ownBlock])).2,?_,?_,hv,rfl,hi⟩
 ·have:=ho.cellAt (q * 2) (by omega)
  rw [this]
  exact g 0 (by omega)
 ·have:=ho.cellAt (q * 2 +1) (by omega)
  rw [this,← hv]
  exact g 1 (by omega)
open Go
theorem doubts_mem {l:List Itm} {day id:Int} (h:LookOk l day id) {d:Int × List Int} (hd:d ∈ doubtsL (countL l day) (lookS l day id)) :
 (d.1=1∨d.1=2∨d.1=3∨d.1=4)∧dubB (countL l day) (lookS l day id) d.1 d.2=true∧d.2.length≤300:=by
 unfold doubtsL at hd
 rw [List.mem_filterMap] at hd
 obtain ⟨k,hk,e⟩:=hd
 split at e
 ·cases e
 ·rename_i hn
  injection e with e
  subst e
  simp only [List.mem_cons,List.not_mem_nil,or_false] at hk
  refine ⟨by simp only;omega,?_⟩
  have:=doubt_is h (k:=k - 1) (by omega) (by omega) (by rw [show k - 1 +1=k by omega];exact hn)
  rw [show k - 1 +1=k by omega] at this
  refine ⟨this,Nat.le_trans (ascOf_len _) ?_⟩
  rw [List.length_map]
  exact Nat.le_trans (doubtL_sub _ _ _).length_le (Nat.le_trans (List.length_filter_le _ _) (Nat.le_trans (countL_len l day) h.cat.few))
theorem doubts_len (s:List Itm) (y:Shd):(doubtsL s y).length≤4:=by
 unfold doubtsL
 exact List.length_filterMap_le _ _
end Go.Proofs.YtelkcohhagblaaaGreat
namespace Go.Proofs
open Go.Shelf
end Go.Proofs
namespace Go.Proofs.YtelkcohhagblaaaGreat
open Go.RowKit Go.Shelf
set_option maxHeartbeats 16000000
set_option maxRecDepth 100000
theorem elemY8:Elem Tryz.prog 84 5 (.int .u8 0) 1 1:=⟨Tryz.underlying84,info_parts Zk,rfl,by decide⟩
theorem one_y8 (x:Int):∀ u ∈ [Value.int .u8 x],u.oneCell'=true:=by intro u hu;simp at hu;subst hu;rfl
def kindsB (w t c d:Bool):List Int:=(if w then [] else [1]) ++(if t then [] else [2]) ++(if c then [] else [3]) ++(if d then [] else [4])
def kindsL (l:List Itm) (day id:Int):List Int:=if lookE l day id=0 then kindsB (okB (wayP l day id) (wayB l day id)) (okB (turnP l day id) (turnB l day id)) (decide (colE l day id=0)) (decide (curE l day id=0)) else []
def KndPost (w:World) (E:Int) (ks:List Int) (e:Ending) (w':World):Prop:=∃ v,e=.returned (.tuple #[v,.int .i64 E])∧Below w.heap.size w w'∧w'.ownsRow w.heap.size 5 1 v ks.length (ks.map (.int .u8))
theorem r2Kinds_any (a:Option Addr) (n cap:Nat) (l:List Itm) (day id:Int) (w:World) (h:ItmsAt w a n cap l) (hcap:l.length≤cap) (hs:l.length≤1000) :
 Calls Tryz.prog 54 #[.slice a n cap,.int .i64 day,.int .i64 id] w (KndPost w (lookE l day id) (kindsL l day id)):=by
 have hL:=fun W hi=>r2Outline_any a n cap l day id W hi hcap hs
 have hC1:=fun W hi=>r2Colour_any a n cap l day id W hi hcap hs
 have hC2:=fun W hi=>r2Curves_any a n cap l day id W hi hcap hs
 unfold OutE at hL
 by_cases h0:lookE l day id=0
 ·have hlk:=look_ok h0
  have e1:outC l day id=(lookS l day id).co:=by unfold outC;rw [if_pos h0]
  have e2:outW l day id=wayB l day id:=by unfold outW;rw [if_pos h0]
  have e3:outT l day id=turnB l day id:=by unfold outT;rw [if_pos h0]
  rw [e1,e2,e3,h0] at hL
  have hk:kindsL l day id=kindsB (okB (wayP l day id) (wayB l day id)) (okB (turnP l day id) (turnB l day id)) (decide (colE l day id=0)) (decide (curE l day id=0)):=by unfold kindsL;rw [if_pos h0]
  have HP:=Lib.hid (show ∀ w' v n xs,n=(kindsL l day id).length→xs=(kindsL l day id).map (.int .u8)→Below w.heap.size w w'→w'.ownsRow w.heap.size 5 1 v n xs→KndPost w (lookE l day id) (kindsL l day id) (.returned (.tuple #[v,.int .i64 0])) w' from fun w' v n xs e1 e2 h3 h4=>by subst e1 e2;exact ⟨v,by rw [h0],h3,h4⟩)
  generalize KndPost w (lookE l day id) (kindsL l day id)=Post at *
  rw [hk] at HP
  have hb4:=chk_len hlk.ways
  have ht4:=chk_len hlk.turns
  have hrg:rngB (lookS l day id).co 3 16=true:=rngB_iff.2 hlk.co
  have hWs:=fun W a1 c1 a2 c2 (h1:BdsAt W a1 (wayB l day id).length c1 (wayB l day id)) (h2:BdsAt W a2 (turnB l day id).length c2 (turnB l day id))=>r2Ways_any (lookS l day id).co a1 _ c1 (wayB l day id) a2 _ c2 (turnB l day id) W h1 h2 ⟨by omega,by omega⟩
  have hTs:=fun W a1 c1 a2 c2 (h1:BdsAt W a1 (wayB l day id).length c1 (wayB l day id)) (h2:BdsAt W a2 (turnB l day id).length c2 (turnB l day id))=>r2Turns_any (lookS l day id).co a1 _ c1 (wayB l day id) a2 _ c2 (turnB l day id) W h1 h2 ⟨by omega,by omega⟩
  unfold SysPost sysIf sysBs at hWs hTs
  simp only [hrg,if_true] at hWs hTs
  have hSw:=fun W b c (hi:BdsAt W b (wayB l day id).length c (wayB l day id))=>rSolve_any (wayP l day id) b _ c (wayB l day id) W hi
  have hSt:=fun W b c (hi:BdsAt W b (turnB l day id).length c (turnB l day id))=>rSolve_any (turnP l day id) b _ c (turnB l day id) W hi
  rw [hlk.ways,(rsol_gsol (Sys.of_chk hlk.ways) (Pts.of_chk hlk.ways)).1] at hSw
  rw [hlk.turns,(rsol_gsol (Sys.of_chk hlk.turns) (Pts.of_chk hlk.turns)).1] at hSt
  simp only [if_true,decide_true,Bool.true_and] at hSw hSt
  have hP1:wayP l day id=(lookS l day id).co +1:=rfl
  have hP2:turnP l day id=(lookS l day id).co:=rfl
  rw [hP1] at hSw HP
  rw [hP2] at hSt HP
  clear e1 e2 e3 hlk hrg hP1 hP2 hk h0
  generalize wayB l day id=B at *
  generalize turnB l day id=TB at *
  generalize lookS l day id=y at *
  generalize okB (y.co +1) B=b1 at *
  generalize okB y.co TB=b2 at *
  generalize (rsol (y.co +1) B).1=R1 at *
  generalize (rsol y.co TB).1=R2 at *
  simp only [Spn.v,Spn.cs] at hC1
  generalize (colR l day id).lo=s0 at *
  generalize (colR l day id).hi=s1 at *
  generalize (colR l day id).lob=s2 at *
  generalize (colR l day id).hib=s3 at *
  generalize (⟨(curR l day id).toArray⟩:ByteArray)=dv at *
  generalize colE l day id=E5 at *
  generalize curE l day id=E6 at *
  obtain ⟨f5,h5⟩:∃ f,(E5 != 0)=f:=⟨_,rfl⟩
  obtain ⟨f6,h6⟩:∃ f,(E6 != 0)=f:=⟨_,rfl⟩
  have k5:decide (E5=0)=!f5:=by rw [← h5];by_cases e:E5=0 <;> simp [e]
  have k6:decide (E6=0)=!f6:=by rw [← h6];by_cases e:E6=0 <;> simp [e]
  rw [k5,k6] at HP
  clear k5 k6
  have tok1:True:=trivial
  cases b1 <;> cases b2 <;> cases f5 <;> cases f6 <;>
  ·go_enter Tryz.func54,Tryz.ntmps54
   go_wp2_with (first
    | (go_at_call 37;(with_reducible refine (hL _ h).mono ?_);rintro e w2 ⟨v1,v2,rfl,hb2,ho1,ho2⟩;obtain ⟨a1,c1,rfl,_⟩:=owns_slice ho1;obtain ⟨a2,c2,rfl,_⟩:=owns_slice ho2;have q1:=(BdsAt.of_owns ho1 (by omega)).below (one_alloc w2 (Obj.cells #[.int .i64 y.co,.slice a1 B.length c1,.slice a2 TB.length c2] 52));have q2:=(BdsAt.of_owns ho2 (by omega)).below (one_alloc w2 (Obj.cells #[.int .i64 y.co,.slice a1 B.length c1,.slice a2 TB.length c2] 52));have hA:=World.alloc_heap_new w2 (Obj.cells #[.int .i64 y.co,.slice a1 B.length c1,.slice a2 TB.length c2] 52);have hB:=hb2.ch2 (one_alloc w2 (Obj.cells #[.int .i64 y.co,.slice a1 B.length c1,.slice a2 TB.length c2] 52)))
    | (go_at_call 40;(with_reducible refine (hWs _ a1 c1 a2 c2 q1 q2).mono ?_);rintro e w3 ⟨v3,rfl,hb3,ho3⟩;obtain ⟨a3,c3,rfl,_⟩:=owns_slice ho3;have q3:=BdsAt.of_owns ho3 (by omega))
    | (go_at_call 122;clear tok1;(with_reducible refine (hSw _ a3 c3 q3).mono ?_);rintro e w4 ⟨v4,rfl,hb4,ho4⟩;obtain ⟨a4,c4,rfl,_⟩:=owns_slice ho4;have hY:=hb3.ch2 hb4;obtain ⟨d0,d1,d2,df,dl⟩:=cell3s ((hY.block w2.heap.size (by simp)).trans hA);have hB4:=hB.ch2 hY)
    | (go_at_call 42;(with_reducible refine (hTs _ a1 c1 a2 c2 (q1.below hY) (q2.below hY)).mono ?_);rintro e w5 ⟨v5,rfl,hb5,ho5⟩;obtain ⟨a5,c5,rfl,_⟩:=owns_slice ho5;have q5:=BdsAt.of_owns ho5 (by omega))
    | (go_at_call 122;(with_reducible refine (hSt _ a5 c5 q5).mono ?_);rintro e w6 ⟨v6,rfl,hb6,ho6⟩;obtain ⟨a6,c6,rfl,_⟩:=owns_slice ho6;have hB6:=(hB4.ch2 hb5).ch2 hb6)
    | (go_at_call 33;(with_reducible refine (hC1 _ (h.below hB6)).mono ?_);rintro e w7 ⟨rfl,hb7⟩;have hB7:=(hB6.ch2 hb7).ch2 (one_alloc w7 (Obj.cells #[.int .i64 s0,.int .i64 s1,.int .i64 s2,.int .i64 s3] 43)))
    | (go_at_call 35;(with_reducible refine (hC2 _ (h.below hB7)).mono ?_);rintro e w8 ⟨rfl,hb8⟩;have hB9:=hB7.ch2 hb8;have hR9:=World.ownsRow_nil w8 w.heap.size 5 1)
    | (at_builtin;refine wpList_app elemY8 rfl _ _ rfl (hR9.up (one_alloc _ _) (Nat.le_refl _)) rfl rfl (RowAt.of_heap (World.alloc_heap_new _ _)) (m:=1) (by rfl) (one_y8 _) Z1s (by omega) (Nat.le_trans hB9.size (by simp)) ?_;intro v' w' hr' hg' hb' _ _;obtain ⟨ua,uc,rfl,_⟩:=owns_slice hr';have hB0:=(hB9.ch2 (one_alloc _ _)).trans hb';clear hR9 hB9 hg' hb';have hR9:=hr';have hB9:=hB0;clear hr' hB0))
   exact HP.out _ _ _ _ rfl rfl hB9 hR9
 ·have hk:kindsL l day id=[]:=by unfold kindsL;rw [if_neg h0]
  have HP:=Lib.hid (show ∀ w',Below w.heap.size w w'→KndPost w (lookE l day id) (kindsL l day id) (.returned (.tuple #[.slice none 0 0,.int .i64 (lookE l day id)])) w' from fun w' h3=>⟨_,rfl,h3,by rw [hk];exact World.ownsRow_nil _ _ _ _⟩)
  generalize KndPost w (lookE l day id) (kindsL l day id)=Post at *
  generalize lookE l day id=E at *
  have e2:(E != 0)=true:=by simpa using h0
  clear h0 hk hC1 hC2
  generalize outC l day id=C0 at *
  generalize outW l day id=W0 at *
  generalize outT l day id=T0 at *
  go_enter Tryz.func54,Tryz.ntmps54
  go_wp2_with (go_at_call 37;(with_reducible refine (hL _ h).mono ?_);rintro e w2 ⟨v1,v2,rfl,hb2,ho1,ho2⟩;obtain ⟨a1,c1,rfl,_⟩:=owns_slice ho1;obtain ⟨a2,c2,rfl,_⟩:=owns_slice ho2)
  exact HP.out _ (hb2.ch2 (one_alloc _ _))
theorem any_succ {f:Itm→Bool} {l:List Itm} {k:Nat} (hk:k<l.length):(l.take (k +1)).any f=((l.take k).any f || f (l.getD k default)):=by
 rw [List.take_succ_eq_append_getElem hk,List.any_append,List.getD_eq_getElem?_getD,List.getElem?_eq_getElem hk]
 simp
theorem asc_next {ids:List Int} {q:Nat} (hq:q<ids.length) (ha:Asc (ids.take q)) (hb:q=0∨ids.getD (q - 1) 0<ids.getD q 0):Asc (ids.take (q +1)):=by
 have e:ids.take (q +1)=ids.take q ++[ids.getD q 0]:=by
  exact Z9q
 rw [e]
 unfold Asc at ha ⊢
 rw [List.pairwise_append]
 refine ⟨ha,by simp,?_⟩
 intro x hx y hy
 rw [List.mem_singleton] at hy
 subst hy
 rcases hb with rfl | hb
 ·simp at hx
 ·obtain ⟨i,hi,rfl⟩:=List.getElem_of_mem hx
  have hi2:=hi
  rw [List.length_take] at hi2
  refine Int.lt_of_le_of_lt ?_ hb
  rw [List.getD_eq_getElem?_getD,List.getElem?_eq_getElem (by omega)]
  simp only [Option.getD_some]
  rcases Nat.lt_or_ge i (q - 1) with h | h
  ·have h1:q - 1<(ids.take q).length:=by rw [List.length_take];omega
   have:=List.pairwise_iff_getElem.1 ha i (q - 1) hi h1 h
   rw [List.getElem_take (i:=q - 1)] at this
   exact Int.le_of_lt this
  ·have:i=q - 1:=by omega
   subst this
   rw [List.getElem_take]
   exact Int.le_refl _
theorem asc_bad {ids:List Int} {p:Nat} (hp:p +1<ids.length) (h:ids.getD (p +1) 0≤ids.getD p 0):¬ Asc ids:=by
 intro ha
 have:=List.pairwise_iff_getElem.1 ha p (p +1) (by omega) hp (by omega)
 rw [List.getD_eq_getElem?_getD,List.getD_eq_getElem?_getD,List.getElem?_eq_getElem hp,List.getElem?_eq_getElem (show p<ids.length by omega)] at h
 simp only [Option.getD_some] at h
 omega
theorem getI_mem {ids:List Int} {q:Nat} (hq:q<ids.length):ids.getD q 0 ∈ ids:=by
 rw [List.getD_eq_getElem?_getD,List.getElem?_eq_getElem hq]
 exact List.getElem_mem hq
theorem take_nextI {ids:List Int} {q:Nat} (hq:q<ids.length):ids.take (q +1)=ids.take q ++[ids.getD q 0]:=by
 exact Z9q
theorem pick_few {K:List Itm} (hn:K.Pairwise fun x y=>x.id≠y.id) {ids:List Int} (ha:Asc ids):(pickL K ids).length≤K.length:=by
 rw [(pick_perm hn ha).length_eq]
 exact List.length_filter_le _ _
theorem kinds_at {w:World} {A:Nat} {t:TypeId} (h:w.heap[A]?=some (.cells #[.int .u8 0,.int .u8 2,.int .u8 3,.int .u8 4,.int .u8 5] t (0,0))) {K:Nat} (h1:1≤K) (h4:K≤4):w.cell? ⟨A,K,none⟩=some (.int .u8 ((K:Int) +1)):=by
 have:=(SL.cells_of h).1 K
 rw [this]
 have:K=1∨K=2∨K=3∨K=4:=by omega
 rcases this with rfl | rfl | rfl | rfl <;> rfl
/-- A system with its row, stored into a new box. -/
theorem sto2_n {Fe:Nat→List Nat} {p q:Nat} {w':World} {M base n1:Nat} {a b co v1 x:Value} {b1:List Value} {t t2:TypeId} {K:World→Prop} (hx:x=.pointer (some ⟨M,0,none⟩)) (hM:base≤M) (hh:w'.heap[M]?=some (.cells #[a,b] t (0,0))) (r1:w'.ownsRow base t2 4 v1 n1 b1)
 (e5:Fe p=v1.ownBlock.toList) (e6:Fe q=[M]) (hd:∀ k ∈ Fe p,k ∉ Fe q)
 (hK:∀ (w1:World) (F:List Nat),SL.Chg (List.flatMap Fe [p,q]) w' w1→(∃ M',∃ u1,∃ F1 F2,(x=.pointer (some ⟨M',0,none⟩)∧F1=[])∧(∃ F3 F4,(base≤M'∧w1.heap[M']?=some (.cells #[co,u1] t (0,0))∧F3=[M'])∧(w1.ownsRow base t2 4 u1 n1 b1∧F4=u1.ownBlock.toList)∧F2=F3 ++F4)∧F=F1 ++F2)→(∀ k ∈ F,k ∈ List.flatMap Fe [p,q]∨w'.heap.size≤k∧k<w1.heap.size)→K w1) :
 K ((w'.setCell ⟨M,0,none⟩ co).setCell ⟨M,1,none⟩ v1):=by
 have e:List.flatMap Fe [p,q]=v1.ownBlock.toList ++[M]:=by simp [e5,e6]
 have m1:M ∉ v1.ownBlock.toList:=fun h=>hd M (by rw [e5];exact h) (by rw [e6];simp)
 refine hK _ ([] ++([M] ++v1.ownBlock.toList)) (SLG.chg_set2 w' (by rw [e];simp) co v1) ⟨M,v1,_,_,⟨hx,rfl⟩,⟨_,_,⟨hM,SLG.heap_set2 hh co v1,rfl⟩,⟨SLG.row_set2 r1 m1 co v1,rfl⟩,rfl⟩,rfl⟩ ?_
 intro k hk
 left
 rw [e]
 simp at hk ⊢
 rcases hk with h | h
 ·exact .inr h
 ·exact .inl h
theorem r2CheckDoubt_any (a:Option Addr) (n cap:Nat) (l:List Itm) (day id k:Int) (da:Option Addr) (dn dc:Nat) (ids:List Int) (w:World) (h:ItmsAt w a n cap l) (hcap:l.length≤cap) (hs:l.length≤1000) (hi:IntsAt w da dn dc ids) (hids:ids.length≤100000) (hk0:0≤k) (hk1:k≤255) :
 Calls Tryz.prog 56 #[.slice a n cap,.int .i64 day,.int .i64 id,.agg #[.int .u8 k,.slice da dn dc]] w fun e w'=>e=.returned (.tuple #[.bool (cdB l day id k ids),.int .i64 (lookE l day id)])∧Below w.heap.size w w':=by
 obtain rfl:=hi.len
 have hB0:=one_alloc w (Obj.cells #[.int .u8 k,.slice da ids.length dc] 80)
 have hD0:=World.alloc_heap_new w (Obj.cells #[.int .u8 k,.slice da ids.length dc] 80)
 have hL:=r2SherdOf_any a n cap l day id _ (h.below hB0) hcap hs
 have hO:=fun W kd hi=>r2of_any a n cap l day id kd W hi hs
 unfold RowPost at hO
 by_cases h0:lookE l day id=0
 ·have hlk:=look_ok h0
  have hZ:lookZ l day id=lookS l day id:=by unfold lookZ;rw [if_pos h0]
  have hE:cdB l day id k ids=dubB (countL l day) (lookS l day id) k ids:=by unfold cdB;rw [decide_eq_true h0];rfl
  rw [hZ,h0] at hL
  rw [hE,h0]
  have HP:=Lib.hid (show ∀ w' B,dubB (countL l day) (lookS l day id) k ids=B→Below w.heap.size w w'→(fun e w'=>e=Ending.returned (.tuple #[.bool (dubB (countL l day) (lookS l day id) k ids),.int .i64 0])∧Below w.heap.size w w':Ending→World→Prop) (.returned (.tuple #[.bool B,.int .i64 0])) w' from fun w' B h1 h2=>⟨by rw [h1],h2⟩)
  generalize (fun e w'=>e=Ending.returned (.tuple #[.bool (dubB (countL l day) (lookS l day id) k ids),.int .i64 0])∧Below w.heap.size w w':Ending→World→Prop)=Post at *
  simp only [Shd.v,Shd.cs] at hL
  clear hZ hE h0
  by_cases k1:k<1
  ·have HF:=Lib.hid (fun w'=>HP.out w' false (dubB_out (.inl k1)))
   have d1:decide (k<1)=true:=by simpa using k1
   clear hlk HP k1 hO h hi
   exact Z97
  ·have d1:decide (k<1)=false:=by simpa using k1
   by_cases k4:4<k
   ·have HF:=Lib.hid (fun w'=>HP.out w' false (dubB_out (.inr k4)))
    have d4:decide (4<k)=true:=by simpa using k4
    clear hlk HP k1 k4 hO h hi
    exact Z97
   ·have d4:decide (4<k)=false:=by simpa using k4
    obtain ⟨K,rfl⟩:∃ K:Nat,k=K:=⟨k.toNat,by omega⟩
    have j1:(0:Int)≤(K:Int):=by omega
    have j2:(K:Int)<5:=by omega
    have j3:1≤K:=by omega
    have j4:K≤4:=by omega
    have hO:=fun W=>hO W ((K:Int) +1)
    go_enter Tryz.func56,Tryz.ntmps56
    go_wp2_with (first
     | (go_at_call 60;(with_reducible refine hL.mono ?_);rintro e w1 ⟨rfl,hb1⟩;have hDX:=alKeep (o':=Obj.cells #[.int .i64 (lookS l day id).id,.string (lookS l day id).wa,.int .i64 (lookS l day id).pit,.int .i64 (lookS l day id).ly,.int .i64 (lookS l day id).co,.bool (lookS l day id).ft] 72) ((hb1.block w.heap.size (by simp)).trans hD0);have hBX:=(hB0.ch2 hb1).ch2 (one_alloc w1 (Obj.cells #[.int .i64 (lookS l day id).id,.string (lookS l day id).wa,.int .i64 (lookS l day id).pit,.int .i64 (lookS l day id).ly,.int .i64 (lookS l day id).co,.bool (lookS l day id).ft] 72));have hDZ:=alKeep (o':=Obj.cells #[.int .u8 0,.int .u8 2,.int .u8 3,.int .u8 4,.int .u8 5] 5) hDX;have hBZ:=hBX.ch2 (one_alloc _ (Obj.cells #[.int .u8 0,.int .u8 2,.int .u8 3,.int .u8 4,.int .u8 5] 5));have hYZ:=alKeep (o':=Obj.cells #[.int .u8 0,.int .u8 2,.int .u8 3,.int .u8 4,.int .u8 5] 5) (World.alloc_heap_new w1 (Obj.cells #[.int .i64 (lookS l day id).id,.string (lookS l day id).wa,.int .i64 (lookS l day id).pit,.int .i64 (lookS l day id).ly,.int .i64 (lookS l day id).co,.bool (lookS l day id).ft] 72));have cK:=kinds_at (World.alloc_heap_new (w1.alloc (Obj.cells #[.int .i64 (lookS l day id).id,.string (lookS l day id).wa,.int .i64 (lookS l day id).pit,.int .i64 (lookS l day id).ly,.int .i64 (lookS l day id).co,.bool (lookS l day id).ft] 72)) (Obj.cells #[.int .u8 0,.int .u8 2,.int .u8 3,.int .u8 4,.int .u8 5] 5)) j3 j4;rw [World.size_alloc] at cK;have hiZ:=hi.below hBZ;have hZ:=h.below hBZ;have c0:=(SL.cells_of hDX).1 0;have c0':=(SL.cells_of hDZ).1 0;simp only [List.getElem?_toArray,List.getElem?_cons_succ,List.getElem?_cons_zero] at c0 c0';clear hDX hBX)
     | (go_at_call 90;(with_reducible refine (hO _ hZ).mono ?_);rintro e w2 ⟨v2,rfl,hb2,ho2⟩;obtain ⟨va,vc,rfl,_⟩:=owns_slice ho2))
    have zD:=(Array.getElem?_eq_some_iff.1 hDZ).1
    have zY:=(Array.getElem?_eq_some_iff.1 hYZ).1
    have hD2:=(hb2.block _ zD).trans hDZ
    have hY2:=(hb2.block _ zY).trans hYZ
    have HB2:=Lib.hid (hBZ.ch2 hb2)
    have hi2:=hiZ.below hb2
    have hkn:(keptL (countL l day) ((K:Int) +1) id).Pairwise fun x y=>x.id≠y.id:=(countL_ids hlk.cat.ids day).filter _
    have hkw:∀ x ∈ keptL (countL l day) ((K:Int) +1) id,x.Wide:=fun x hx=>h.wide x (countL_sub (List.mem_filter.1 hx).1).1
    have hkl:(keptL (countL l day) ((K:Int) +1) id).length≤1000:=Nat.le_trans (List.length_filter_le _ _) (Nat.le_trans (countL_len l day) hs)
    have hK2:=ItmsAt.of_owns ho2 (by omega) hkw
    have HPl:=Lib.hid (fun w' i (hi:i ∈ ids) (hf:∀ x ∈ keptL (countL l day) ((K:Int) +1) id,x.id≠i)=>HP.out w' false (dub_lacks hlk (by omega) (by omega) hi hf))
    have HPo:=Lib.hid (fun w' (ha:¬ Asc ids)=>HP.out w' false (dub_order (by omega) (by omega) ha))
    have HPf:=Lib.hid (fun w' B (ha:Asc ids) hf (hB:endK (lookS l day id) K (pickL (keptL (countL l day) ((K:Int) +1) id) ids)=B)=>HP.out w' B ((dub_found hlk (by omega) (by omega) ha hf).trans hB))
    have HChk:=Lib.hid (fun (k23:(K:Int) +1=2∨(K:Int) +1=3) (ha:Asc ids)=>sys_pchk hlk k23 (pick_perm hkn ha) List.filter_sublist)
    have HLo:Hid (K=1∨K=2→∀ x ∈ keptL (countL l day) ((K:Int) +1) id, -10000≤x.lo∧x.lo≤10000):=Lib.hid (fun hk x hx=>by
     rcases hk with rfl | rfl
     ·exact (hlk.wms x hx).lo
     ·exact (hlk.tms x hx).lo)
    have hco:=hlk.co
    clear hL hO hB0 hD0 hDZ hBZ hYZ cK hiZ hZ c0 c0' hb1 hb2 ho2 zD zY hlk HP h hi d1 d4 hk0 hk1
    clear hO
    generalize keptL (countL l day) ((K:Int) +1) id=Kp at *
    generalize lookS l day id=y at *
    generalize w1.heap.size=NY at *
    have zD:=(Array.getElem?_eq_some_iff.1 hD2).1
    have zY:=(Array.getElem?_eq_some_iff.1 hY2).1
    go_loopw [14,15] (fun r i wr=>∃ q:Nat,q≤ids.length∧i=.int .i64 q∧Asc (ids.take q)∧(∀ i ∈ ids.take q,∃ x ∈ Kp,x.id=i)∧wr.ownsRow w2.heap.size 24 16 r (pickL Kp (ids.take q)).length (ics (pickL Kp (ids.take q)))∧Below w2.heap.size w2 wr) (fun _ i _=>ids.length - (RowKit.intOf i).toNat)
    case atStart=>exact ⟨0,Nat.zero_le _,rfl,by simp [Asc],by simp,World.ownsRow_nil _ _ _ _,Below.refl _ _⟩
    case round =>
     obtain ⟨q,hq,rfl,has,hfd,hro,hB⟩:=hrel
     have hnn:(0:Int)≤q:=by omega
     obtain ⟨ua,uc,rfl,_⟩:=owns_slice hro
     have c0:=(SL.cells_of ((hB.block _ zD).trans hD2)).1 0
     have c1:=(SL.cells_of ((hB.block _ zD).trans hD2)).1 1
     simp only [List.getElem?_toArray,List.getElem?_cons_succ,List.getElem?_cons_zero] at c0 c1
     have hPl:=pick_few hkn has
     by_cases hlt:q<ids.length
     ·have i1:(q:Int)<(ids.length:Int):=by omega
      obtain ⟨b,o,rfl,hbz,G0⟩:=hi2.get hlt
      have Hnx:=Lib.hid (asc_next hlt has)
      have Htk:=Lib.hid (take_nextI hlt)
      have Hv:=Lib.hid (getI_mem hlt)
      have Has:=Lib.hid has
      have Hfd:=Lib.hid hfd
      have Hps:=Lib.hid (fun v=>pickL_snoc Kp (ids.take q) v)
      have g0:=((bcell hB).1 _ _ hbz).trans G0
      have HR:=Lib.hid hro
      have HB:=Lib.hid hB
      by_cases hq0:q=0
      ·have hd:decide (0<q)=false:=by simp <;> omega
       have HN:=Lib.hid (Hnx.out (.inl hq0))
       generalize pickL Kp (ids.take q)=P at *
       generalize ids.getD q 0=v at *
       clear Hnx hq0 has hfd hro hB
       exact Z94
      ·obtain ⟨p,rfl⟩:∃ p,q=p +1:=⟨q - 1,by omega⟩
       have hd:decide (0<p +1)=true:=by simp <;> omega
       have hwr:IntKind.i64.wrap (((p +1:Nat):Int) - 1)=(p:Int):=by rw [show (((p +1:Nat):Int) - 1)=p by omega];exact IntWalk.i64_in _ (by omega)
       have j5:(0:Int)≤(p:Int):=by omega
       have j6:(p:Int)<(ids.length:Int):=by omega
       obtain ⟨b5,o5,he5,_,G1⟩:=hi2.get (i:=p) (by omega)
       injection he5 with he5
       injection he5 with he5 he6
       subst he5 he6
       have g1:=((bcell hB).1 _ _ hbz).trans G1
       have Hbad:=Lib.hid (asc_bad (p:=p) hlt)
       rw [Nat.add_sub_cancel] at Hnx
       generalize hPP:pickL Kp (ids.take (p +1))=P at *
       generalize ids.getD (p +1) 0=v at *
       generalize ids.getD p 0=u at *
       clear has hfd hro hB hPP
       generalize hqq:p +1=q at *
       cases hg:decide (v≤u) with
       | true =>
         go_wp2_with fail
         go_quiet (fail)
         go_wp2
         exact HPo.out _ (Hbad.out (by simpa using hg)) (HB2.out.ch2 (belowN HB.out))
       | false =>
         have HN:=Lib.hid (Hnx.out (.inr (by simpa using hg)))
         clear Hnx Hbad hqq
         exact Z94
     ·have hqe:q=ids.length:=by omega
      subst hqe
      rw [List.take_length] at has hfd hro hPl ⊢
      have i1:¬ (ids.length:Int)<(ids.length:Int):=by omega
      have HF:=Lib.hid (fun w' B hB=>HPf.out w' B has hfd hB)
      have hPw:∀ x ∈ pickL Kp ids,x.Wide:=fun x hx=>hkw x (pick_mem.1 hx).1
      have hP:=ItmsAt.of_owns hro (by omega) hPw
      have HC:=Lib.hid (fun k23=>HChk.out k23 has)
      have HLq:=Lib.hid (fun k12 x (hx:x ∈ pickL Kp ids)=>HLo.out k12 x (pick_mem.1 hx).1)
      have HB:=Lib.hid hB
      have hYr:=(hB.block _ zY).trans hY2
      clear has hfd hPw HChk HLo hro HPf HPo HPl hkw hkn
      generalize pickL Kp ids=P at *
      have hK4:K=1∨K=2∨K=3∨K=4:=by omega
      clear hB
      rcases hK4 with rfl | rfl | rfl | rfl
      ·have hchk:chk (y.co +1) (sidesL y.co.toNat ++msB P)=0:=HC.out (.inl rfl)
       have hSd:=fun W=>r2sides_any y.co W (by omega)
       have hBo:=fun W hi=>r2bounds_any ua P.length uc P W hi (by omega) (HLq.out (.inl rfl))
       have HF:=Lib.hid (fun w'=>HF.out w' (!okB (y.co +1) (sidesL y.co.toNat ++msB P)) rfl)
       have hSv:∀ W a n c,BdsAt W a n c (sidesL y.co.toNat ++msB P)→Calls Tryz.prog 122 #[.agg #[.int .i64 (y.co +1),.slice a n c]] W fun e w'=>∃ v,e=.returned (.tuple #[v,.bool (okB (y.co +1) (sidesL y.co.toNat ++msB P)),.int .i64 0])∧Below W.heap.size W w':=fun W a n c hb=>(rSolve_any _ a n c _ W hb).mono (by
        exact Z9m)
       unfold RowPost at hSd hBo
       have hn1:(sidesL y.co.toNat).length≤1000:=by rw [sides_len];omega
       have hn2:(msB P).length≤2000:=by rw [msB_two];omega
       have hwr:IntKind.i64.wrap (y.co +1)=y.co +1:=IntWalk.i64_in _ (by omega)
       have y4:=(SL.cells_of hYr).1 4
       simp only [List.getElem?_toArray,List.getElem?_cons_succ,List.getElem?_cons_zero] at y4
       have zYr:=(Array.getElem?_eq_some_iff.1 hYr).1
       generalize sidesL y.co.toNat=D at *
       generalize msB P=M at *
       generalize okB (y.co +1) (D ++M)=OK at *
       clear HC HLq hchk hPl hYr
       go_wp2_with fail
       apply SLG.rule0 ?hm [] [133,134,135,136,137,138,139,140,141,142,18] [SLF.pq 133 [] _,SLF.pq 134 [0] _,SLF.pq 135 [1] _,SLF.pq 136 [] _,SLF.pq 137 [3] _,SL.row 138 [4] [] wr.heap.size 69 4 D.length (bcs D),SLF.pq 139 [] _,SL.row 140 [6] [] wr.heap.size 69 4 M.length (bcs M),SL.row 141 [5,7] [5] wr.heap.size 69 4 (D.length +M.length) (bcs D ++bcs M),SL.aw 142 [2,8] [8] (fun x=>.ex fun v:Value=>.sep (.pure (x=.agg #[.int .i64 (y.co +1),v])) (.row wr.heap.size 69 4 v (D.length +M.length) (bcs D ++bcs M))),SL.box 18 [] [] wr.heap.size 57 #[.int .i64 0,.slice none 0 0],SL.aw 18 [9,10] [9,10] (fun p=>.ex fun N:Nat=>.ex fun v:Value=>.sep (.pure (p=.pointer (some ⟨N,0,none⟩))) (.sep (.blk wr.heap.size N 57 #[.int .i64 (y.co +1),v]) (.row wr.heap.size 69 4 v (D.length +M.length) (bcs D ++bcs M))))] [11] ?hck ?hkp (fun _=>[]) ?hin ?hdj ?hfr ?ob ?en1
       case hm=>kernel_rfl
       case hin=>exact SL.none_held rfl
       case hdj=>simp
       case hfr=>intro us;simp only [SL.frame,SL.put'];simp;exact rfl
       case ob =>
        exact Z93
       case hck=>kernel_rfl
       case hkp=>kernel_rfl
       intro us7 w7 Fs7 hG hu hbd hd
       simp [SL.Used,SL.aw_sub] at hu
       obtain ⟨N,v1,F1,F2,⟨e18,rfl⟩,⟨F3,F4,⟨hbN,hNh,rfl⟩,⟨hr1,rfl⟩,rfl⟩,hF⟩:=SL.aw_out hu
       have hB7:Below wr.heap.size wr w7:=hG.below'
       obtain ⟨xa,xc,rfl,_⟩:=owns_slice hr1
       rw [e18]
       have c7:=((bcell hB7).1 w.heap.size 0 (Nat.lt_of_lt_of_le zD HB.out.size)).trans c0
       clear hG hu hbd hd hF e18
       obtain ⟨q0,q1,qf,ql⟩:=cell2s hNh
       have hr2:w7.ownsRow wr.heap.size 69 4 (.slice xa (D ++M).length xc) (D ++M).length (bcs (D ++M)):=by rw [List.length_append,bcs_append];exact hr1
       have hbd7:=BdsAt.of_owns hr2 Z9v
       rw [List.length_append] at hbd7
       have hSw:=hSv w7 xa _ xc hbd7
       clear hSd hBo hSv hr1 hr2 hbd7
       go_wp2_with (go_at_call 122;(with_reducible refine hSw.mono ?_);rintro e w8 ⟨v8,rfl,hb8⟩)
       exact HF.out _ (HB2.out.ch2 ((HB.out.ch2 hB7).ch2 hb8))
      ·have hchk:chk y.co (bendsL (y.co.toNat - 1) ++msB P)=0:=HC.out (.inr rfl)
       have hSd:=fun W=>r2sides_any y.co W (by omega)
       have hSb:=fun W=>r2bends_any y.co W (by omega)
       have hBo:=fun W hi=>r2bounds_any ua P.length uc P W hi (by omega) (HLq.out (.inr rfl))
       have HF:=Lib.hid (fun w'=>HF.out w' (!okB y.co (bendsL (y.co.toNat - 1) ++msB P)) rfl)
       have hSv:∀ W a n c,BdsAt W a n c (bendsL (y.co.toNat - 1) ++msB P)→Calls Tryz.prog 122 #[.agg #[.int .i64 y.co,.slice a n c]] W fun e w'=>∃ v,e=.returned (.tuple #[v,.bool (okB y.co (bendsL (y.co.toNat - 1) ++msB P)),.int .i64 0])∧Below W.heap.size W w':=fun W a n c hb=>(rSolve_any _ a n c _ W hb).mono (by
        exact Z9m)
       unfold RowPost at hSd hBo hSb
       have hn1:(sidesL y.co.toNat).length≤1000:=by rw [sides_len];omega
       have hn2:(msB P).length≤2000:=by rw [msB_two];omega
       have hn3:(bendsL (y.co.toNat - 1)).length≤1000:=by rw [bends_len];omega
       have hwr:IntKind.i64.wrap (y.co +1)=y.co +1:=IntWalk.i64_in _ (by omega)
       have y4:=(SL.cells_of hYr).1 4
       simp only [List.getElem?_toArray,List.getElem?_cons_succ,List.getElem?_cons_zero] at y4
       have zYr:=(Array.getElem?_eq_some_iff.1 hYr).1
       generalize sidesL y.co.toNat=D at *
       generalize bendsL (y.co.toNat - 1)=D2 at *
       generalize msB P=M at *
       generalize okB y.co (D2 ++M)=OK at *
       clear HC HLq hchk hPl hYr
       go_wp2_with fail
       apply SLG.rule0 ?hm [] [133,134,135,136,137,138,139,140,141,142,18] [SLF.pq 133 [] _,SLF.pq 134 [0] _,SLF.pq 135 [1] _,SLF.pq 136 [] _,SLF.pq 137 [3] _,SL.row 138 [4] [] wr.heap.size 69 4 D.length (bcs D),SLF.pq 139 [] _,SL.row 140 [6] [] wr.heap.size 69 4 M.length (bcs M),SL.row 141 [5,7] [5] wr.heap.size 69 4 (D.length +M.length) (bcs D ++bcs M),SL.aw 142 [2,8] [8] (fun x=>.ex fun v:Value=>.sep (.pure (x=.agg #[.int .i64 (y.co +1),v])) (.row wr.heap.size 69 4 v (D.length +M.length) (bcs D ++bcs M))),SL.box 18 [] [] wr.heap.size 57 #[.int .i64 0,.slice none 0 0],SL.aw 18 [9,10] [9,10] (fun p=>.ex fun N:Nat=>.ex fun v:Value=>.sep (.pure (p=.pointer (some ⟨N,0,none⟩))) (.sep (.blk wr.heap.size N 57 #[.int .i64 (y.co +1),v]) (.row wr.heap.size 69 4 v (D.length +M.length) (bcs D ++bcs M))))] [11] ?hck ?hkp (fun _=>[]) ?hin ?hdj ?hfr ?ob ?en2
       case hm=>kernel_rfl
       case hin=>exact SL.none_held rfl
       case hdj=>simp
       case hfr=>intro us;simp only [SL.frame,SL.put'];simp;exact rfl
       case ob =>
        exact Z93
       case hck=>kernel_rfl
       case hkp=>kernel_rfl
       intro us7 w7 Fs7 hG hu hbd hd
       simp [SL.Used,SL.aw_sub] at hu
       obtain ⟨N,v1,F1,F2,⟨e18,rfl⟩,⟨F3,F4,⟨hbN,hNh,rfl⟩,⟨hr1,rfl⟩,rfl⟩,hF⟩:=SL.aw_out hu
       have hB7:Below wr.heap.size wr w7:=hG.below'
       obtain ⟨xa,xc,rfl,_⟩:=owns_slice hr1
       rw [e18]
       have c7:=((bcell hB7).1 w.heap.size 0 (Nat.lt_of_lt_of_le zD HB.out.size)).trans c0
       clear hG hu hbd hd hF e18
       have y7:=((bcell hB7).1 NY 4 zYr).trans y4
       have zY7:NY<w7.heap.size:=Nat.lt_of_lt_of_le zYr hB7.size
       have hnY:NY ∉ [N]:=by simp;omega
       have zN:=(Array.getElem?_eq_some_iff.1 hNh).1
       have HB7:=Lib.hid hB7
       clear hr1 hSd
       go_wp2_with fail
       apply SLG.rule0 ?hm [N] [146,147,148,149,150,151,152,153,154] [SLF.pq 146 [] _,SLF.pq 147 [0] _,SLF.pq 148 [] _,SLF.pq 149 [2] _,SL.row 150 [3] [] w7.heap.size 69 4 D2.length (bcs D2),SLF.pq 151 [] _,SL.row 152 [5] [] w7.heap.size 69 4 M.length (bcs M),SL.row 153 [4,6] [4] w7.heap.size 69 4 (D2.length +M.length) (bcs D2 ++bcs M),SL.aw 154 [1,7] [7] (fun x=>.ex fun v:Value=>.sep (.pure (x=.agg #[.int .i64 y.co,v])) (.row w7.heap.size 69 4 v (D2.length +M.length) (bcs D2 ++bcs M))),SL.aw 18 [8,10] [8,10] (fun _=>.ex fun v:Value=>.sep (.blk 0 N 57 #[.int .i64 y.co,v]) (.row w7.heap.size 69 4 v (D2.length +M.length) (bcs D2 ++bcs M))),SL.boxAt 18 [] [] N 57 #[.int .i64 (y.co +1),.slice xa (D.length +M.length) xc]] [9] ?hck ?hkp (fun i=>if i=10 then [N] else []) ?hin ?hdj ?hfr ?ob ?en3
       case hm=>kernel_rfl
       case hin=>exact SL.one_held rfl rfl ⟨rfl,hNh,rfl⟩ zN
       case hdj=>exact SL.one_apart
       case hfr=>intro us;simp only [SL.frame,SL.put'];simp;exact rfl
       case ob =>
        refine ⟨?_,?_,?_,?_,?_,?_,?_,?_,?_,?_,trivial⟩
        all_goals first
         | (intro us w' Fe hG hu hd hv Kx hK
            try dsimp only
            simp [SL.O] at hu hK
            have hB5:Below wr.heap.size wr w':=HB7.out.trans (hG.belowF HB7.out.size Zj)
            obtain ⟨hc5,hf5⟩:=bcell hB5
            have hs5:=hB5.size
            obtain ⟨hc6,hf6⟩:=hG.cellsF;have p4:=(hc6 NY 4 zY7 hnY).trans y7
            clear hv
            exact Z5z)
         | skip
        ·refine SLG.ob_sp rfl rfl rfl fun us w' Fe hG hu hd Kx hK=>?_
         try dsimp only
         simp [SL.O] at hu
         have hB5:Below wr.heap.size wr w':=HB7.out.trans (hG.belowF HB7.out.size Zj)
         obtain ⟨hc5,hf5⟩:=bcell hB5
         have hs5:=hB5.size
         obtain ⟨hc6,hf6⟩:=hG.cellsF;have p4:=(hc6 NY 4 zY7 hnY).trans y7
         refine SLF.wpo_do (SLF.wanted_free rfl) ?hd ?_
         case hd=>intro c h;cases h
         have hs6:w7.heap.size≤w'.heap.size:=hG.size
         obtain ⟨e4,_⟩:=hu
         clear hc5 hf5 hc6 hf6
         go_step
         refine (hSb w').mono ?_
         exact Z9y
        ·refine SLG.ob_sp rfl rfl rfl fun us w' Fe hG hu hd Kx hK=>?_
         try dsimp only
         simp [SL.O] at hu
         have hB5:Below wr.heap.size wr w':=HB7.out.trans (hG.belowF HB7.out.size Zj)
         obtain ⟨hc5,hf5⟩:=bcell hB5
         have hs5:=hB5.size
         obtain ⟨hc6,hf6⟩:=hG.cellsF;have p4:=(hc6 NY 4 zY7 hnY).trans y7
         refine SLF.wpo_do (SLF.wanted_free rfl) ?hd ?_
         case hd=>intro c h;cases h
         have hs6:w7.heap.size≤w'.heap.size:=hG.size
         obtain ⟨e6,_⟩:=hu
         have hBw:=hBo w' (hP.below hB5)
         clear hc5 hf5 hc6 hf6
         go_step
         refine hBw.mono ?_
         exact Z9y
        ·refine SLG.ob_sp rfl rfl rfl fun us w' Fe hG hu hd Kx hK=>?_
         try dsimp only
         simp [SL.O] at hu
         have hB5:Below wr.heap.size wr w':=HB7.out.trans (hG.belowF HB7.out.size Zj)
         obtain ⟨hc5,hf5⟩:=bcell hB5
         have hs5:=hB5.size
         obtain ⟨hc6,hf6⟩:=hG.cellsF;have p4:=(hc6 NY 4 zY7 hnY).trans y7
         refine SLF.wpo_do (SLF.wanted_free rfl) ?hd ?_
         case hd=>intro c h;cases h
         have hs6:w7.heap.size≤w'.heap.size:=hG.size
         obtain ⟨⟨u1,u2⟩,u3,u4⟩:=hu
         obtain ⟨sa,c,hsl,_⟩:=owns_slice u3
         clear hc5 hf5 hc6 hf6
         refine wp_app elemB _ _ rfl u1 rfl hsl (RowAt.of_owns (hsl ▸ u3)) (bcs_length _) (bcs_one _) Z1s (by omega) hs6 ?_
         exact Za0
        ·refine SLG.ob_sp rfl rfl rfl fun us w' Fe hG hu hd Kx hK=>?_
         try dsimp only
         simp [SL.O] at hu
         have hB5:Below wr.heap.size wr w':=HB7.out.trans (hG.belowF HB7.out.size Zj)
         obtain ⟨hc5,hf5⟩:=bcell hB5
         have hs5:=hB5.size
         obtain ⟨hc6,hf6⟩:=hG.cellsF;have p4:=(hc6 NY 4 zY7 hnY).trans y7
         refine SLF.wpo_do (SLF.wanted_free rfl) ?hd ?_
         case hd=>intro c h;cases h
         obtain ⟨⟨e2,_⟩,ho,e6⟩:=hu
         obtain ⟨sa,sc,hsl,_⟩:=owns_slice ho
         rw [hsl] at ho e6
         have HO:=Lib.hid ho
         have HE:=Lib.hid e6
         clear hc5 hf5 hc6 hf6 ho e6
         go_step
         have ho:=HO.out
         have e6:=HE.out
         refine hK _ _ _ _ ?_ (SL.Chg.refl _ _) (SL.aw_in ⟨_,[],_,⟨rfl,rfl⟩,⟨ho,rfl⟩,rfl⟩) (fun k hk=>.inl Z9z)
         simp [Act.put]
        ·refine SLG.ob_no rfl rfl rfl fun us w' Fe hG hu hd Kx hK=>?_
         try dsimp only
         simp [SL.O] at hu
         have hB5:Below wr.heap.size wr w':=HB7.out.trans (hG.belowF HB7.out.size Zj)
         obtain ⟨hc5,hf5⟩:=bcell hB5
         have hs5:=hB5.size
         obtain ⟨hc6,hf6⟩:=hG.cellsF;have p4:=(hc6 NY 4 zY7 hnY).trans y7
         refine SLF.wpo_do (SLF.wanted_free rfl) ?hd ?_
         case hd=>intro c h;cases h
         obtain ⟨h7,e2,hbl,e9⟩:=hu
         obtain ⟨v,F1,F2,⟨ex,rfl⟩,⟨r1,rfl⟩,hF5⟩:=SL.aw_out h7
         have hd1:=hd 8 10 Z3m Z3m (by simp)
         obtain ⟨ya,yc,rfl,_⟩:=owns_slice r1
         obtain ⟨y0,y1,yf,yl⟩:=cell2s hbl
         have HN:=Lib.hid (fun (hm:N ∈ (Value.slice ya (D2.length +M.length) yc).ownBlock.toList)=>hd1 N (by rw [hF5];simpa using hm) (by rw [e9];simp))
         have R1:=Lib.hid r1
         have HF:=Lib.hid hF5
         have HE:=Lib.hid e9
         have HL:=Lib.hid hbl
         clear hc5 hf5 hc6 hf6 h7 r1 hd1 hF5 e9 hbl
         go_step
         exact sto2_k HL.out R1.out HN.out (by simpa using HF.out) HE.out (fun w1 F h1 h2 h3=>hK w1 F h1 (SL.aw_in h2) h3)
       case hck=>kernel_rfl
       case hkp=>kernel_rfl
       intro us9 w9 Fs9 hG hu hbd hd
       simp [SL.Used,SL.aw_sub] at hu
       obtain ⟨v,F1,F2,⟨_,hbl,rfl⟩,⟨hr,rfl⟩,hF⟩:=SL.aw_out hu
       have hB9:Below wr.heap.size wr w9:=HB7.out.trans (hG.belowF HB7.out.size Zj)
       obtain ⟨ya,yc,rfl,_⟩:=owns_slice hr
       clear hG hu hbd hd hF
       obtain ⟨q0,q1,qf,ql⟩:=cell2s hbl
       have hr2:w9.ownsRow w7.heap.size 69 4 (.slice ya (D2 ++M).length yc) (D2 ++M).length (bcs (D2 ++M)):=by rw [List.length_append,bcs_append];exact hr
       have hbd7:=BdsAt.of_owns hr2 Z9v
       rw [List.length_append] at hbd7
       have hSw:=hSv w9 ya _ yc hbd7
       clear hSb hBo hSv hr hr2 hbd7
       go_wp2_with (go_at_call 122;(with_reducible refine hSw.mono ?_);rintro e w8 ⟨v8,rfl,hb8⟩)
       exact HF.out _ (HB2.out.ch2 ((HB.out.ch2 hB9).ch2 hb8))
      ·have HF:=Lib.hid (fun w' B hB=>HF.out w' B ((show endK y ((3:Nat):Int) P=_ from if_pos rfl).trans hB))
       by_cases h2:P.length=2
       ·obtain ⟨x,z,rfl⟩:∃ x z,P=[x,z]:=by
         rcases P with _ | ⟨x,_ | ⟨z,_ | ⟨u,r⟩⟩⟩
         ·cases h2
         ·cases h2
         ·exact ⟨x,z,rfl⟩
         ·simp at h2
        obtain ⟨gb,go,rfl,hgb,g0⟩:=hP.get (i:=0) (by simp)
        obtain ⟨_,_,he,_,g1⟩:=hP.get (i:=1) (by simp)
        injection he with he
        injection he with he1 he2
        subst he1 he2
        rw [show [x,z].getD 0 default=x from rfl,Nat.zero_mul,Nat.add_zero] at g0
        rw [show [x,z].getD 1 default=z from rfl,Nat.one_mul] at g1
        obtain ⟨d0,d1,d2,d3,d4,d5,d6,d7,d8,d9,d10,d11,d12,d13,d14,d15⟩:=g0
        obtain ⟨f0,f1,f2,f3,f4,f5,f6,f7,f8,f9,f10,f11,f12,f13,f14,f15⟩:=g1
        have HF:=Lib.hid (fun w' B (hB:(decide (z.hi<x.lo) || decide (x.hi<z.lo))=B)=>HF.out w' B hB)
        clear hP HLq HC h2 hPl
        generalize hL2:[x,z].length=n2 at *
        obtain rfl:n2=2:=hL2.symm
        clear hL2
        cases hg1:decide (z.hi<x.lo) with
        | true =>
          exact Z9e
        | false =>
          exact Z9e
       ·have e2:((P.length:Int) == 2)=false:=by
         have:¬ (P.length:Int)=2:=by omega
         simpa using this
        have HF:=Lib.hid (fun w'=>HF.out w' false (by
         rcases P with _ | ⟨x,_ | ⟨z,_ | ⟨u,r⟩⟩⟩
         ·rfl
         ·rfl
         ·exact absurd rfl h2
         ·rfl))
        clear h2 hP HLq HC
        go_wp2_with fail
        go_quiet (fail)
        go_wp2
        exact HF.out _ (HB2.out.ch2 (belowN HB.out))
      ·have HF:=Lib.hid (fun w' B (hB:(comC (setsL P)).isEmpty=B)=>HF.out w' B hB)
       have hC:=r2common_any ua P.length uc P wr hP (by omega)
       clear hP HLq HC
       go_wp2_with (go_at_call 93;(with_reducible refine hC.mono ?_);rintro e w3 ⟨rfl,hb3⟩)
       exact HF.out _ _ rfl (HB2.out.ch2 (HB.out.ch2 hb3))
 ·have hE:cdB l day id k ids=false:=by unfold cdB;rw [decide_eq_false h0];rfl
  rw [hE]
  have HP:=Lib.hid (show ∀ w' E,lookE l day id=E→Below w.heap.size w w'→(fun e w'=>e=Ending.returned (.tuple #[.bool false,.int .i64 (lookE l day id)])∧Below w.heap.size w w':Ending→World→Prop) (.returned (.tuple #[.bool false,.int .i64 E])) w' from fun w' E h1 h2=>⟨by rw [h1],h2⟩)
  generalize (fun e w'=>e=Ending.returned (.tuple #[.bool false,.int .i64 (lookE l day id)])∧Below w.heap.size w w':Ending→World→Prop)=Post at *
  generalize lookE l day id=E at *
  have e2:(E != 0)=true:=by simpa using h0
  generalize lookZ l day id=y at *
  simp only [Shd.v,Shd.cs] at hL
  clear h0 hE hO h hi
  go_enter Tryz.func56,Tryz.ntmps56
  go_wp2_with (go_at_call 60;(with_reducible refine hL.mono ?_);rintro e w1 ⟨rfl,hb1⟩)
  exact HP.out _ _ rfl ((hB0.ch2 hb1).ch2 (one_alloc _ _))
theorem ok_err {b:Bool} {p:Prop} [Decidable p] (h:(if b=true then (0:Int) else 21)=if p then 0 else 21):b=decide p:=by
 cases b <;> by_cases hp:p <;> simp_all
theorem dec_err {e:Int} {p:Prop} [Decidable p] (h:e=if p then 0 else 21):decide (e=0)=decide p:=by
 by_cases hp:p <;> simp_all
/-- The kinds that the reference names are those of the doubts. -/
theorem kinds_dub (l:List Itm) (day id:Int):kindsL l day id=(dubE l day id).map (·.1):=by
 unfold kindsL dubE
 by_cases h0:lookE l day id=0
 ·rw [if_pos h0,if_pos h0]
  have hlk:=look_ok h0
  have hco:=hlk.co
  have h1:=err_way hlk
  have h2:=err_turn hlk
  unfold wayE at h1
  unfold turnE at h2
  rw [if_pos h0,if_pos (by omega)] at h1 h2
  rw [ok_err h1,ok_err h2,dec_err (err_col hlk),dec_err (err_cur hlk)]
  unfold kindsB doubtsL
  by_cases p1:doubtL (countL l day) 2 (lookS l day id)=[] <;> by_cases p2:doubtL (countL l day) 3 (lookS l day id)=[] <;> by_cases p3:doubtL (countL l day) 4 (lookS l day id)=[] <;> by_cases p4:doubtL (countL l day) 5 (lookS l day id)=[] <;>
   simp [p1,p2,p3,p4]
 ·rw [if_neg h0,if_neg h0]
  rfl
theorem dub_chk {l:List Itm} {day id:Int} {d:Int × List Int} (hd:d ∈ dubE l day id):lookE l day id=0∧(0≤d.1∧d.1≤255)∧cdB l day id d.1 d.2=true∧d.2.length≤300:=by
 unfold dubE at hd
 split at hd
 ·rename_i h0
  obtain ⟨h1,h2,h3⟩:=doubts_mem (look_ok h0) hd
  refine ⟨h0,by omega,?_,h3⟩
  unfold cdB
  rw [decide_eq_true h0,h2]
  rfl
 ·cases hd
theorem dubE_len (l:List Itm) (day id:Int):(dubE l day id).length≤4:=by
 unfold dubE
 split
 ·exact doubts_len _ _
 ·simp
theorem knd_get {w:World} {base:Nat} {t:TypeId} {a:Option Addr} {n cap:Nat} {ks:List Int} (h:w.ownsRow base t 1 (.slice a n cap) ks.length (ks.map (.int .u8))) {q:Nat} (hq:q<ks.length):∃ G,a=some ⟨G,0,none⟩∧G<w.heap.size∧w.cell? ⟨G,q,none⟩=some (.int .u8 (ks.getD q 0)):=by
 obtain ⟨G,rfl⟩:∃ G,a=some ⟨G,0,none⟩:=by
  obtain ⟨_,⟨hv,h0⟩ | ⟨g,c,cur,hv,_⟩⟩:=h
  ·omega
  ·injection hv with h1 _ _;exact ⟨g,h1⟩
 refine ⟨G,rfl,(SL.row_bounds h G (by simp [Value.ownBlock])).2,?_⟩
 obtain rfl:n=ks.length:=by
  obtain ⟨_,⟨hv,h0⟩ | ⟨g,c,cur,hv,_⟩⟩:=h
  ·cases hv
  ·injection hv
 have:=h.cellAt q (by omega)
 rw [this,List.getElem?_map,List.getD_eq_getElem?_getD,List.getElem?_eq_getElem hq]
 rfl
theorem ldoubts (a:Option Addr) (n cap:Nat) (l:List Itm) (day id k:Int) (da:Option Addr) (dn dc:Nat) (ids:List Int) (w:World) (h:ItmsAt w a n cap l) (hcap:l.length≤cap) (hi:IntsAt w da dn dc ids) (hk0:0≤k) (hk1:k≤255) :
 Calls Tryz.prog 12 #[.slice a n cap,.int .i64 day,.int .i64 id,.agg #[.int .u8 k,.slice da dn dc]] w fun e w'=>e=.returned (.bool true)∧Below w.heap.size w w':=by
 have hSh:=fun W=>lshelved W
 have hB0:=one_alloc w (Obj.cells #[.int .u8 k,.slice da dn dc] 80)
 have hD0:=World.alloc_heap_new w (Obj.cells #[.int .u8 k,.slice da dn dc] 80)
 have hFe:=fun W (hb:Below w.heap.size w W)=>lfew 30 a n cap l W (h.below hb) (by omega)
 have h30:((30:Nat):Int)=30:=rfl
 rw [h30] at hFe
 have hlen:=fun (hF:fewB l 30=true)=>fewB_len hF
 generalize fewB l 30=F at *
 cases F with
 | false =>
   exact Z98
 | true =>
   by_cases hdn:40<dn
   ·have e40:(40:Int)<(dn:Int):=by omega
    exact Z98
   ·have e40:¬ (40:Int)<(dn:Int):=by omega
    have hl30:=hlen rfl
    have hids:ids.length≤100000:=by have:=hi.len;omega
    have hDo:=fun W hi=>sDoubts_any a n cap l day id W hi hcap
    have hKi:=fun W hi=>r2Kinds_any a n cap l day id W hi hcap (by omega)
    have hCs:=fun W (hW:ItmsAt W a n cap l) (hi':IntsAt W da dn dc ids)=>sCheckDoubt_any a n cap l day id k da dn dc ids W hW hcap hi' hids hk0 hk1
    have hCr:=fun W (hW:ItmsAt W a n cap l) k' a' n' c' ids' (hi':IntsAt W a' n' c' ids') (hl':ids'.length≤100000) (q0:0≤k') (q1:k'≤255)=>r2CheckDoubt_any a n cap l day id k' a' n' c' ids' W hW hcap (by omega) hi' hl' q0 q1
    have hCr1:=fun W (hW:ItmsAt W a n cap l) (hi':IntsAt W da dn dc ids)=>hCr W hW k da dn dc ids hi' hids hk0 hk1
    unfold DubPost at hDo
    unfold KndPost at hKi
    rw [kinds_dub] at hKi
    have hDl:=dubE_len l day id
    have Hm:=Lib.hid (fun d hd=>dub_chk (l:=l) (day:=day) (id:=id) (d:=d) hd)
    generalize dubE l day id=D at *
    generalize hE:lookE l day id=E at *
    generalize cdB l day id k ids=B at *
    have hln:(D.map (·.1)).length=D.length:=List.length_map _
    rw [hln] at hKi
    have HCr:=Lib.hid hCr
    clear hCr hlen hE
    go_enter Tryz.func12,Tryz.ntmps12
    go_wp2_with (first
     | (go_at_call 18;(with_reducible refine (hFe _ hB0).mono ?_);rintro e w1 ⟨rfl,hb1⟩;have hB1:=hB0.ch2 hb1;have hD1:=(hb1.block w.heap.size (by simp)).trans hD0;have c1:=(SL.cells_of hD1).1 1;simp at c1;have zD:=(Array.getElem?_eq_some_iff.1 hD1).1)
     | (go_at_call 53;clear c1;(with_reducible refine (hDo _ (h.below hB1)).mono ?_);rintro e w2 ⟨v,L,rfl,hb2,hL,hLe⟩;obtain ⟨va,vc,rfl,_⟩:=owns_slice hL.row;have hB2:=hB1.ch2 hb2;have hlL:L.length=D.length:=(by have:=congrArg List.length hLe;simpa [dubKs] using this))
     | (go_at_call 54;(with_reducible refine (hKi _ (h.below hB2)).mono ?_);rintro e w3 ⟨v3,rfl,hb3,ho3⟩;obtain ⟨ka,kc,rfl,_⟩:=owns_slice ho3;have hB3:=hB2.ch2 hb3;have hD3:=((hb2.ch2 hb3).block w.heap.size zD).trans hD1;have c0:=(SL.cells_of hD3).1 0;have c1:=(SL.cells_of hD3).1 1;simp at c0 c1;have zD3:=(Array.getElem?_eq_some_iff.1 hD3).1)
     | (go_at_call 55;(with_reducible refine (hCs _ (h.below hB3) (hi.below hB3)).mono ?_);rintro e w4 ⟨rfl,hb4⟩;clear c0 c1;have hB4:=hB3.ch2 hb4;have hD4:=(hb4.block w.heap.size zD3).trans hD3;have c0:=(SL.cells_of hD4).1 0;have c1:=(SL.cells_of hD4).1 1;simp at c0 c1;have zD4:=(Array.getElem?_eq_some_iff.1 hD4).1)
     | (go_at_call 56;(with_reducible refine (hCr1 _ (h.below hB4) (hi.below hB4)).mono ?_);rintro e w5 ⟨rfl,hb5⟩;clear c0 c1;have hB5:=hB4.ch2 hb5))
    have hL5:=hL.up ((hb3.ch2 hb4).ch2 hb5)
    have ho5:=ho3.up (hb4.ch2 hb5) (Nat.le_refl _)
    rw [← hln] at ho5
    have HB5:=Lib.hid hB5
    have HLe:=Lib.hid hLe
    have HL5:=Lib.hid hL5
    have HO5:=Lib.hid ho5
    clear hDo hKi hCs hCr1 hFe hb1 hb2 hb3 hb4 hb5 hB0 hB1 hB2 hB3 hB4 hB5 hD0 hD1 hD3 hD4 zD zD3 zD4 hL hL5 ho3 ho5 hLe
    go_loopw [17] (fun i wr=>∃ q:Nat,q≤L.length∧i=.int .i64 q∧Below w5.heap.size w5 wr) (fun i _=>L.length - (RowKit.intOf i).toNat)
    case atStart=>exact ⟨0,Nat.zero_le _,rfl,Below.refl _ _⟩
    case round =>
     obtain ⟨q,hq,rfl,hB⟩:=hrel
     have hnn:(0:Int)≤q:=by omega
     by_cases hlt:q<L.length
     ·have i1:(q:Int)<(L.length:Int):=by omega
      have i2:(q:Int)<(D.length:Int):=by omega
      obtain ⟨G,ia,m,ic,rfl,hG,d0,d1,hdv,hm,hid⟩:=HL5.out.get hlt
      obtain ⟨G2,rfl,hG2,k0⟩:=knd_get HO5.out (q:=q) (by rw [hln];omega)
      have hks:(D.map (·.1)).getD q 0=(L.getD q default).k:=by
       rw [← HLe.out]
       unfold dubKs
       rw [List.map_map,List.getD_eq_getElem?_getD,List.getElem?_map,List.getD_eq_getElem?_getD,List.getElem?_eq_getElem hlt]
       rfl
      rw [hks] at k0
      have hmm:=Hm.out _ (show (dubKs L).getD q (0,[]) ∈ D by rw [← HLe.out,List.getD_eq_getElem?_getD,List.getElem?_eq_getElem (by simpa [dubKs] using hlt)];exact List.getElem_mem _)
      rw [dubKs_get hlt] at hmm
      clear hks
      generalize L.getD q default=d at *
      simp only at hmm
      obtain ⟨he0,⟨q0,q1⟩,hcd,hl3⟩:=hmm
      subst hm
      have hii:=IntsAt.of_owns hid (by omega)
      have hcr:=HCr.out wr (h.below (HB5.out.ch2 hB)) d.k ia _ ic d.ids (hii.below hB) (by omega) q0 q1
      rw [hcd,he0] at hcr
      have dd0:=((bcell hB).1 _ _ hG).trans d0
      have dd1:=((bcell hB).1 _ _ hG).trans d1
      clear hdv hid hii hcd he0
      go_wp2_with (go_at_call 56;(with_reducible refine hcr.mono ?_);rintro e w6 ⟨rfl,hb6⟩;have hB6:=hB.ch2 hb6;have ee0:=((bcell hB6).1 _ _ hG).trans d0;have kk0:=((bcell hB6).1 _ _ hG2).trans k0)
      go_quiet (fail)
      go_wp2
      go_roundw
      case rel=>exact ⟨q +1,by omega,by go_num,belowN hB6⟩
      case measure=>simp [RowKit.intOf] <;> omega
     ·have hqe:q=L.length:=by omega
      subst hqe
      have i1:¬ (L.length:Int)<(L.length:Int):=by omega
      go_wp2_with (go_at_call 20;(with_reducible refine (hSh _).mono ?_);rintro e w7 ⟨rfl,hb7⟩)
      go_ret
      exact ⟨rfl,(HB5.out.ch2 hB).ch2 hb7⟩
open Go.ChangeShapes Go.WideShapes Go.ChangeAt Go.RowKit Go.Joins Go.Deep
set_option maxRecDepth 100000 in
theorem sherdDoubts_lifted (os:Os) (started:os.Started) (H:Type) (enc:TypeId × Value→H) :
 ReturnsInHanded {} Tryz.checked os 12 .any (Rows.sherdDoubtsSpec.pre6 enc Tryz.prog Tryz.f12 Rows.sherdDoubtsRow.domain false) (Rows.sherdDoubtsSpec.post enc Tryz.prog Tryz.f12 false true false false):=by
 refine returnsInHanded_of_change_sized (C:=Tryz.checked) Tryz.own started Zk Tryz.func12
  (ChangeSpec.witness6 (enc:=enc) (C:=Tryz.checked) false ⟨#[],#[.slice none 0 0,.int .i64 0,.int .i64 0,.agg #[.int .u8 0,.slice none 0 0]],[]⟩ 8 Zk Zk Zk Zk) ?_
 intro W base args ds gs before hval0 hW _ hsz0 _
 have hsz:(DataW.weightsEach Tryz.prog (Tryz.f12.params.toList ++Rows.sherdDoubtsSpec.plain.varTypes Tryz.prog) (ds ++gs)).all (·≤reachBytes)=true:=hsz0
 clear hsz0
 have hval:∀ (j:Nat) t v,Tryz.f12.params[j]?=some t→args[j]?=some v→Value.okWide Tryz.prog W .any base t v:=hval0
 have hW':=hW
 obtain ⟨p,q,hA0,hV,rfl,_,_⟩:=hW
 have hA:DataW.TrodAll enc Tryz.prog W 0 (fun _=>true) true Tryz.f12.params.toList args.toList ds p:=hA0
 rw [Tryz.params12] at hA hval hsz
 obtain ⟨v0,vs0,d0,ds0,p0,q0,hargs,rfl,rfl,h0,r0⟩:=trodAll_cons hA
 obtain ⟨v1,vs1,d1,ds1,p1,q1,rfl,rfl,rfl,h1,r1⟩:=trodAll_cons r0
 obtain ⟨v2,vs2,d2,ds2,p2,q2,rfl,rfl,rfl,h2,r2⟩:=trodAll_cons r1
 obtain ⟨v3,vs3,d3,ds3,p3,q3,rfl,rfl,rfl,h3,r3⟩:=trodAll_cons r2
 obtain ⟨rfl,rfl,rfl⟩:=trodAll_nil r3
 obtain rfl:args=#[v0,v1,v2,v3]:=by cases args;simp_all
 obtain ⟨rfl,rfl⟩:=trodVars_none hV
 clear hA0 hval0
 have hlt:∀ x ∈ p0 ++p1 ++p2 ++p3,x.block<W.heap.size:=fun x hx=>by have:=hW'.lt x (by simpa using hx);simpa using this
 obtain ⟨a0,n0,k0,xs0,rfl,hb0,hn0⟩:=items_open (hval 0 22 v0 rfl rfl) h0 (fun n hn=>by
  have:=List.all_eq_true.1 hsz _ (DataW.weights_mem_each (j:=0) rfl rfl n hn)
  simpa using this)
 obtain ⟨x1,rfl⟩:=okWide_int Tryz.underlying3 (hval 1 3 v1 rfl rfl)
 obtain ⟨x2,rfl⟩:=okWide_int Tryz.underlying3 (hval 2 3 v2 rfl rfl)
 obtain ⟨u3,a3,n3,k3,xs3,rfl,hu3,hb3⟩:=doubt_open (hval 3 80 v3 rfl rfl) h3 (fun n hn=>by
  have:=List.all_eq_true.1 hsz _ (DataW.weights_mem_each (j:=3) rfl rfl n hn)
  simpa using this)
 refine (ldoubts a0 n0 k0 xs0 x1 x2 u3 a3 n3 k3 xs3 W hb0 hn0 hb3 hu3.1 hu3.2).mono fun e W' ⟨he,hw⟩=>?_
 subst he
 exact ⟨_,rfl,⟨_,_,_,[],_,[],hW',trodAll_mk1 (shut_bool Tryz.underlying4 _),(trodAll_cons_mk (Below.trod Tryz.laidOut Zk (of_decide_eq_true Zk) h0 hw (fun x hx=>hlt x Z9t)) (trodAll_cons_mk (Below.trod Tryz.laidOut Zk (of_decide_eq_true Zk) h1 hw (fun x hx=>hlt x Z9t)) (trodAll_cons_mk (Below.trod Tryz.laidOut Zk (of_decide_eq_true Zk) h2 hw (fun x hx=>hlt x Z9t)) (trodAll_cons_mk (Below.trod Tryz.laidOut Zk (of_decide_eq_true Zk) h3 hw (fun x hx=>hlt x Z9t)) trodAll_mk0)))),rfl,hw.frame _,fun h=>by cases h⟩⟩
set_option maxRecDepth 100000 in
set_option maxHeartbeats 8000000 in
theorem sherdDoubts_closed:joinedFacts Tryz.prog 12 Tryz.f12 Rows.sherdDoubtsSpec Rows.sherdDoubtsRow=true:=by
 unfold joinedFacts
 repeat' (with_reducible refine (Bool.and_eq_true _ _).mpr ⟨?_,?_⟩)
 all_goals as_aux_lemma=>kernel_rfl
theorem sherdDoubts_holds:Rows.SherdDoubtsSaid :=
 OpenClaim.holds_of_wide 12 Tryz.f12 rfl rfl rfl rfl rfl rfl rfl ⟨rfl,rfl,rfl,rfl,rfl⟩ rfl rfl rfl rfl rfl Zk Tryz.func12 sherdDoubts_closed
  (of_decide_eq_true Zk) (by unfold Func.isWrapper;rw [if_neg (of_decide_eq_false Zk)];exact ⟨rfl,rfl⟩)
  (fun os started H enc _=>sherdDoubts_lifted os started H enc)
#print axioms sherdDoubts_holds
end Go.Proofs.YtelkcohhagblaaaGreat

/-
  The law DoubtsA, walked, and its statement.
-/
import Derived.Test.YtelkcohhagblaaaGreatSe45
import Derived.Test.YtelkcohhagblaaaGreatSe52
import Derived.Test.YtelkcohhagblaaaGreatSe01
import Derived.Test.YtelkcohhagblaaaGreatSe05
import Derived.Test.YtelkcohhagblaaaGreatSe08
import Derived.Test.YtelkcohhagblaaaGreatSe24
import Derived.Test.YtelkcohhagblaaaGreatSe25
import Derived.Test.YtelkcohhagblaaaGreatSe26
import Derived.Test.YtelkcohhagblaaaGreatSe27
import Derived.Test.YtelkcohhagblaaaGreatSe49
import Derived.Test.YtelkcohhagblaaaGreatSe43
set_option linter.unusedSimpArgs false
set_option linter.unusedVariables false
set_option linter.unnecessarySimpa false
namespace Go.Proofs.YtelkcohhagblaaaGreat
theorem Z92 {P:Prop}(h:P:=by
 refine ⟨?_,?_,?_,?_,?_,?_,?_,?_,?_,?_,?_,?_,?_,?_,?_,?_,?_,?_,trivial⟩
 all_goals first
  | (intro us w' Fe hG hu hd hv Kx hK
     try dsimp only
     simp [SL.O] at hu hK
     have hB5:Below wA.heap.size wA w':=hG.below'
     exact Z7v)
  | skip
 ·refine SLG.ob_sp rfl rfl rfl fun us w' Fe hG hu hd Kx hK=>?_
  try dsimp only
  simp [SL.O] at hu
  have hB5:Below wA.heap.size wA w':=hG.below'
  obtain ⟨hc5,hf5⟩:=bcell hB5
  have hs5:=hB5.size
  first
   | (refine SLF.wpo_do (SLF.wanted_free rfl) ?hd ?_;(case hd=>intro c h;cases h))
   | (refine SLF.wpo_do (SLF.wanted_by rfl rfl ?hv) ?hd ?_;(case hv=>simp [hu];done);(case hd=>intro c h;cases h))
   | (refine' SLF.wpo_not (SLG.wanted_not rfl rfl ?hv ?hn) ?_;(case hv=>simp [hu];exact rfl);(case hn=>first | (simp;done) | (simp [undef];done)))
  obtain ⟨_,e13,_⟩:=hu
  go_step
  refine (hU w' (hiA.below hB5)).mono ?_
  rintro e w6 ⟨v6,rfl,hb6,ho6⟩
  exact hK _ v6 w6 _ Zh (.of_below hb6) ⟨SL.row_base ho6 hs5,rfl⟩ (fun k hk=>.inr (SL.row_bounds ho6 k hk))
 ·refine SLG.ob_sp rfl rfl rfl fun us w' Fe hG hu hd Kx hK=>?_
  try dsimp only
  simp [SL.O] at hu
  have hB5:Below wA.heap.size wA w':=hG.below'
  obtain ⟨hc5,hf5⟩:=bcell hB5
  have hs5:=hB5.size
  first
   | (refine SLF.wpo_do (SLF.wanted_free rfl) ?hd ?_;(case hd=>intro c h;cases h))
   | (refine SLF.wpo_do (SLF.wanted_by rfl rfl ?hv) ?hd ?_;(case hv=>simp [hu];done);(case hd=>intro c h;cases h))
   | (refine' SLF.wpo_not (SLG.wanted_not rfl rfl ?hv ?hn) ?_;(case hv=>simp [hu];exact rfl);(case hn=>first | (simp;done) | (simp [undef];done)))
  obtain ⟨_,⟨e11,_⟩,ho,_⟩:=hu
  obtain ⟨xa,xc,hv,_⟩:=owns_slice ho
  rw [hv] at ho
  have hEw:=hEq w' xa xc (hiA.below hB5) (IntsAt.of_owns ho (by omega))
  clear ho hc5 hf5
  go_step
  refine hEw.mono ?_
  rintro e w6 ⟨rfl,hb6⟩
  exact hK _ _ _ [] Zh (.of_below hb6) ⟨rfl,rfl⟩ (fun j hj=>by cases hj)):P:=h
theorem Z96 {P:Prop}(h:P:=by
 have e9:((M.length:Int) != (dn:Int))=true:=by
  have:¬ (M.length:Int)=(dn:Int):=by omega
  simpa using this
 have HF:=Lib.hid (fun w'=>HE.out w' false (by unfold restB;rw [decide_eq_false (by omega:¬ M.length=ids.length),Bool.false_and]))
 clear HE HP HKd HQ hl hil
 go_wp2_with fail
 exact HF.out _ hB9):P:=h
theorem Z99 {P:Prop}(h:P:=by
 have HE:=Lib.hid (fun w'=>HP.out w' false (by rw [HKd.out (by decide) (by decide)];rfl))
 clear HQ
 go_wp2_with fail
 exact HE.out _ hB7):P:=h
theorem Z9a {P:Prop}(h:P:=by
 obtain ⟨p0,p1,p2,p3,p4,p5,pf⟩:=cell6 hY9
 have zY:=(Array.getElem?_eq_some_iff.1 hY9).1
 simp only [Shd.v,Shd.cs] at hIm
 go_wp2_with (go_at_call 128;(with_reducible refine hIm.mono ?_);rintro e w10 ⟨rfl,hb10⟩)
 exact HF.out _ _ (by unfold endB;rw [if_neg (by decide)];rfl) (hB9.ch2 hb10)):P:=h
theorem Z9b {P:Prop}(h:P:=by
 go_wp2_with (first
  | (go_at_call 92;(with_reducible refine hS.mono ?_);rintro e w10 ⟨v4,rfl,hb4,ho4⟩;obtain ⟨sa,sc,rfl,_⟩:=owns_slice ho4)
  | (go_at_call 91;(with_reducible refine (hC _ _ _ _ ho4).mono ?_);rintro e w11 ⟨rfl,hb5⟩))
 exact HF2.out _ _ (by simp [ho]) ((hB9.ch2 hb4).ch2 hb5)):P:=h
theorem Z9c {P:Prop}(h:P:=by
 unfold restB;rw [decide_eq_true (by omega:M.length=ids.length),Bool.true_and];exact hB):P:=h
theorem Z9f {P:Prop}(h:P:=by
 rw [(sys_ext (k:=k) (co:=(lookS l day id).co) hp).2];exact Nat.le_refl _):P:=h
theorem Z9g {P:Prop}(h:P:=by
 refine hb.imp (fun h=>h) fun hb=>?_
 simp only [msB,List.mem_flatMap] at hb ⊢
 obtain ⟨x,hx,e⟩:=hb
 exact ⟨x,hs.subset hx,e⟩):P:=h
theorem Z9h {P:Prop}(h:P:=by
 rw [Hsid.out];exact List.filter_sublist):P:=h
theorem Z9n {P:Prop}(h:P:=by
 exact ⟨fun x hx=>List.mem_append.2 ((List.mem_append.1 hx).imp id (hm x)),by simp only [List.length_append,msB_len];omega⟩):P:=h
theorem Z9o {P:Prop}(h:P:=by
 rw [Bool.true_and];exact hB):P:=h
theorem Z9p {P:Prop}(h:P:=by
 unfold doubtL at hn
 rw [if_neg h4] at hn
 split at hn
 ·assumption
 ·exact absurd rfl hn):P:=h
theorem Z9r {P:Prop}(h:P:=by
 have:=hb8.size;omega):P:=h
theorem Z9s {P:Prop}(h:P:=by
 go_quiet (fail)
 go_wp2
 exact HE.out _ (belowN hB4)):P:=h
theorem Z9u {P:Prop}(h:P:=by
 simp [results,Tryz.results122,go_sem, *]):P:=h
def OkS (s:List Pn):Prop:=∀ p ∈ s,0≤p.lo∧p.lo≤p.hi∧p.hi≤1000

theorem OkS.erase {s:List Pn} (hs:OkS s) (a:Nat):OkS (s.eraseIdx a):=fun p hp=>hs p (List.mem_of_mem_eraseIdx hp)
open Go
theorem spareK_not {α:Type} (nd:List α→Bool):∀ (i:Nat) (rest:List α),nd rest=false→nd (spareK nd rest i)=false
 | 0,rest,h=>h
 | i +1,rest,h=>by
   unfold spareK
   refine spareK_not nd i _ ?_
   split
   ·exact h
   ·rename_i h2;simpa using h2
end Go.Proofs.YtelkcohhagblaaaGreat
namespace Go.Proofs
open Go.Shelf
def Tryz.containsA_ren:Go.Shelf.Ren:=⟨fun | 107=>126 | 108=>184 | n=>n,fun | 28=>61 | 3=>3 | 4=>4 | 0=>0 | n=>n,fun | n=>n⟩
theorem Tryz.containsA:Go.Proofs.Lays.n107 Tryz.prog Tryz.containsA_ren:={
 mixed:=by kernel_rfl
 f107:=Tryz.func126.trans (congrArg some (by kernel_rfl))
 f108:=Tryz.func184.trans (congrArg some (by kernel_rfl))
 t0:=Tryz.underlying0
 a0:=Tryz.isAgg0
 z0:=Tryz.sizeOf0
 v0:=Tryz.zeroValue0
 t3:=Tryz.underlying3
 a3:=Tryz.isAgg3
 z3:=Tryz.sizeOf3
 v3:=Tryz.zeroValue3
 t4:=Tryz.underlying4
 a4:=Tryz.isAgg4
 z4:=Tryz.sizeOf4
 v4:=Tryz.zeroValue4
 t28:=Tryz.underlying61
 a28:=Tryz.isAgg61
 z28:=Tryz.sizeOf61
 v28:=Tryz.zeroValue61 }
def Tryz.equalA_ren:Go.Shelf.Ren:=⟨fun | 111=>123 | n=>n,fun | 28=>61 | 3=>3 | 4=>4 | 0=>0 | n=>n,fun | n=>n⟩
theorem Tryz.equalA:Go.Proofs.Lays.n111 Tryz.prog Tryz.equalA_ren:={
 mixed:=by kernel_rfl
 f111:=Tryz.func123.trans (congrArg some (by kernel_rfl))
 t0:=Tryz.underlying0
 a0:=Tryz.isAgg0
 z0:=Tryz.sizeOf0
 v0:=Tryz.zeroValue0
 t3:=Tryz.underlying3
 a3:=Tryz.isAgg3
 z3:=Tryz.sizeOf3
 v3:=Tryz.zeroValue3
 t4:=Tryz.underlying4
 a4:=Tryz.isAgg4
 z4:=Tryz.sizeOf4
 v4:=Tryz.zeroValue4
 t28:=Tryz.underlying61
 a28:=Tryz.isAgg61
 z28:=Tryz.sizeOf61
 v28:=Tryz.zeroValue61 }
end Go.Proofs
namespace Go.Proofs.YtelkcohhagblaaaGreat
open Go.RowKit Go.Shelf
set_option maxHeartbeats 1000000
set_option maxRecDepth 100000
theorem rSolve_any (p:Int) (a:Option Addr) (n cap:Nat) (bs:List Bd) (w:World) (hb:BdsAt w a n cap bs) :
 Calls Tryz.prog 122 #[.agg #[.int .i64 p,.slice a n cap]] w fun e w'=>∃ v,e=.returned (.tuple #[v,.bool (decide (chk p bs=0) && (rsol p bs).2),.int .i64 (chk p bs)])∧Below w.heap.size w w' ∧
  w'.ownsRow w.heap.size 3 1 v (if chk p bs=0 then (rsol p bs).1 else []).length ((if chk p bs=0 then (rsol p bs).1 else []).map (.int .i64)):=by
 have hbx:=hb.below (w':=w.alloc (Obj.cells #[.int .i64 p,.slice a n cap] 57)) ((Below.refl _ _).alloc (Nat.le_refl _) _)
 have hC:=rcheck_any p a n cap bs _ hbx
 by_cases h0:chk p bs=0
 ·have hS:=fun w1 (hb1:BdsAt w1 a n cap bs)=>rsolve_any p a n cap bs w1 hb1 (Sys.of_chk h0) (Pts.of_chk h0)
  simp only [h0,if_true,decide_true,Bool.true_and] at hC ⊢
  generalize rsol p bs=R at *
  obtain ⟨Rl,Rf⟩:=R
  simp only at hS ⊢
  go_enter Tryz.func122,Tryz.ntmps122
  go_wp2_with (first
   | (go_at_call 181;refine (hC).mono ?_;rintro e w1 ⟨rfl,hb1⟩;obtain ⟨hc1,hf1⟩:=bcell hb1;have hz1a:=lt_size hb1 (b:=w.heap.size) Z9)
   | (go_at_call 182;refine (hS _ (hbx.below hb1)).mono ?_;rintro e w2 ⟨v,rfl,hb2,ho⟩))
  refine bodyPost_ret (v:=.tuple #[v,.bool Rf,.int .i64 0]) Z9u rfl ⟨v,rfl,?_,SL.row_base ho Z5i⟩
  exact (((Below.refl _ w).alloc (Nat.le_refl _) _).trans (hb1.mono (by simp))).trans (hb2.mono Z5i)
 ·have h0':(chk p bs == 0)=false:=by simpa using h0
  simp only [if_neg h0,decide_eq_false h0,Bool.false_and]
  generalize chk p bs=c at *
  go_enter Tryz.func122,Tryz.ntmps122
  go_wp2_with (go_at_call 181;refine (hC).mono ?_;rintro e w1 ⟨rfl,hb1⟩;obtain ⟨hc1,hf1⟩:=bcell hb1;have hz1a:=lt_size hb1 (b:=w.heap.size) Z9)
  refine bodyPost_ret (v:=.tuple #[.slice none 0 0,.bool false,.int .i64 c]) Z9u rfl ⟨_,rfl,?_,World.ownsRow_nil _ _ _ _⟩
  exact ((Below.refl _ w).alloc (Nat.le_refl _) _).trans (hb1.mono (by simp))
theorem mem_pts {p j:Int} (h0:0≤j) (h1:j<p):j ∈ (List.range p.toNat).map fun (i:Nat)=>(i:Int):=List.mem_map.2 ⟨j.toNat,by simp;omega,by simp;omega⟩

/-- Where some list keeps all bounds, there is a solution. -/
theorem okB_of_keeps {p:Int} {bs:List Bd} (h:chk p bs=0) {y:Int→Int} (hy:keepsB bs y):okB p bs=true:=by
 have hs:=Sys.of_chk h
 have hp:=hs.p2
 have hp1:=hs.p1
 obtain ⟨v,hv,hm⟩:=least_of (fun j=> - y j) ((List.range p.toNat).map fun (i:Nat)=>(i:Int)) (by
  intro e
  have:=mem_pts (p:=p) (j:=0) (by omega) (by omega)
  rw [e] at this
  simp at this)
 refine BF.settles hp hs.inr hy (Pts.of_chk h) (p +1).toNat ((List.range p.toNat).map fun (i:Nat)=>(i:Int)) (- y v) ⟨List.replicate 60 0,List.replicate 60 (-1),0⟩ Zj ⟨fun j hj=>hj,fun j j0 j1 hj=>?_,fun j j0 j1 hj hf=>?_,fun j _ _ a b=>absurd a b,fun b hb hf=>?_⟩ (by simp)
 ·exact absurd (mem_pts j0 j1) hj
 ·have:=hm j hj
  simp only at this ⊢
  rw [gi_zeros]
  omega
 ·obtain ⟨q0,q1,_⟩:=Pts.of_chk h b hb
  exact absurd (mem_pts q0 q1) hf

theorem okB_sub {p:Int} {bs cs:List Bd} (h:chk p bs=0) (hok:okB p bs=true) (h1:∀ b ∈ cs,b ∈ bs) (h2:cs.length≤bs.length):okB p cs=true :=
 okB_of_keeps (chk_sub h h1 h2) (fun b hb=>okB_keeps (Sys.of_chk h) hok b (h1 b hb))

open Go
theorem clashI_comm (a b:Itm):clashI a b=clashI b a:=by unfold clashI;rw [Bool.or_comm]
theorem clashP_none {l:List Itm}:∀ {i:Nat},clashP l i=[] ↔ ∀ j,j<i→clashTo (l.take j) (l.getD j default)=none
 | 0=>by simp [clashP]
 | i +1=>by
   have ih:=clashP_none (l:=l) (i:=i)
   unfold clashP
   cases h:clashP l i with
   | nil =>
     simp only
     rw [h] at ih
     simp only [true_iff] at ih
     cases h2:clashTo (l.take i) (l.getD i default) with
     | none =>
       simp only [true_iff]
       intro j hj
       by_cases e:j=i
       ·subst e;exact h2
       ·exact ih j (by omega)
     | some b =>
       simp only [reduceCtorEq,false_iff]
       intro hh
       have:=hh i (by omega)
       rw [h2] at this
       cases this
   | cons x p =>
     simp only [reduceCtorEq,false_iff]
     rw [h] at ih
     simp only [reduceCtorEq,false_iff] at ih
     exact fun hh=>ih fun j hj=>hh j (by omega)
/-- A doubt is one. -/
def dubB (s:List Itm) (y:Shd) (k:Int) (ids:List Int):Bool :=
 decide (1≤k) && (decide (k≤4) && ((ids == ascOf ids) &&
  (decide (((keptL s (k +1) y.id).filter fun x=>ids.contains x.id).length=ids.length) &&
   (if k=3 then (match (keptL s 4 y.id).filter fun x=>ids.contains x.id with | [a,b]=>clashI a b | _=>false)
    else contraB (k +1) y.co ((keptL s (k +1) y.id).filter fun x=>ids.contains x.id)))))
open Go.RowKit Go.Shelf Go.Sort Go.Lib
set_option maxHeartbeats 1000000
set_option maxRecDepth 100000
theorem containsI (a:Option Addr) (n cap:Nat) (xs:List Int) (x:Int) (w:World) (hx:IntsAt w a n cap xs) :
 Calls Tryz.prog 126 #[.slice a n cap,.int .i64 x] w fun e w'=>e=.returned (.bool (xs.contains x))∧Below w.heap.size w w':=by
 have hsm:=hx.small
 obtain rfl:=hx.len
 match a,hx with
 | none,hx =>
   obtain ⟨h0,h1⟩:=hx.row.nil rfl
   have h2:xs=[]:=by simpa using h0
   subst h2
   refine (Any.slices_Contains_int_empty Tryz.containsA _ _ _ w).mono ?_
   rintro e w' ⟨rfl,rfl⟩
   exact ⟨rfl,Below.refl _ _⟩
 | some ⟨b,o,sp⟩,hx =>
   obtain ⟨rfl,hb,hc⟩:=hx.cells
   refine (Any.slices_Contains_int Tryz.containsA b o xs.length cap xs x w (Nat.le_refl _) (by omega) hc).mono ?_
   rintro e w' ⟨rfl,rfl⟩
   rw [List.take_length]
   exact ⟨rfl,Below.refl _ _⟩
open Go
/-- Of the kinds of systems: with fewer measurements there are no more contradictions. -/
theorem sys_chk {l:List Itm} {day id:Int} (h:LookOk l day id) {k:Int} (hk:k=2∨k=3) {ms:List Itm} (hs:ms.Sublist (keptL (countL l day) k id)):chk (sysP k (lookS l day id).co) (sysB k (lookS l day id).co ms)=0:=by
 rcases hk with rfl | rfl
 ·refine chk_sub h.ways ?_ ?_
  ·intro b hb
   simp only [sysB,if_pos,waysB,List.mem_append] at hb
   simp only [wayB,waysB,List.mem_append]
   exact Z9g
  ·simp only [sysB,if_pos,wayB,waysB,List.length_append,msB_len]
   have:=hs.length_le
   omega
 ·refine chk_sub h.turns ?_ ?_
  ·intro b hb
   simp only [sysB,show ¬ ((3:Int)=2) by decide,if_false,turnsB,List.mem_append] at hb
   simp only [turnB,turnsB,List.mem_append]
   exact Z9g
  ·simp only [sysB,show ¬ ((3:Int)=2) by decide,if_false,turnB,turnsB,List.length_append,msB_len]
   have:=hs.length_le
   omega
/-- None contradict each other. -/
theorem contra_nil {l:List Itm} {day id:Int} (h:LookOk l day id) {k:Int} (hk:k=2∨k=3∨k=5):contraB k (lookS l day id).co []=false:=by
 unfold contraB
 by_cases h5:k=5
 ·rw [if_pos h5]
  rfl
 ·rw [if_neg h5,Bool.not_eq_false']
  have h23:k=2∨k=3:=by omega
  have hc:=sys_chk h h23 (List.nil_sublist _)
  rcases h23 with rfl | rfl
  ·refine okB_of_keeps hc (y:=fun j=>j) fun b hb=>?_
   simp only [sysB,if_pos,waysB,sidesL,msB,List.flatMap_nil,List.append_nil,List.mem_map] at hb
   obtain ⟨i,_,rfl⟩:=hb
   simp only
   omega
  ·refine okB_of_keeps hc (y:=fun _=>0) fun b hb=>?_
   simp only [sysB,show ¬ ((3:Int)=2) by decide,if_false,turnsB,bendsL,msB,List.flatMap_nil,List.append_nil,List.mem_flatMap] at hb
   obtain ⟨i,_,hb⟩:=hb
   simp at hb
   rcases hb with rfl | rfl <;> (simp only;omega)
/-- What is told of a kind contradicts itself, and is there just if all of the kind do. -/
theorem doubt_sys {l:List Itm} {day id:Int} (h:LookOk l day id) {k:Int} (hk:k=2∨k=3∨k=5) :
 (doubtL (countL l day) k (lookS l day id)≠[] ↔ contraB k (lookS l day id).co (keptL (countL l day) k (lookS l day id).id)=true) ∧
  (doubtL (countL l day) k (lookS l day id)≠[]→contraB k (lookS l day id).co (doubtL (countL l day) k (lookS l day id))=true):=by
 have h4:¬ k=4:=by omega
 have key:contraB k (lookS l day id).co (keptL (countL l day) k (lookS l day id).id)=true→contraB k (lookS l day id).co (doubtL (countL l day) k (lookS l day id))=true:=fun hc=>by
  unfold doubtL
  rw [if_neg h4,if_pos hc]
  have:=spareK_not (fun r=>!contraB k (lookS l day id).co r) (keptL (countL l day) k (lookS l day id).id).length (keptL (countL l day) k (lookS l day id).id) (by simp [hc])
  simpa [spareL] using this
 refine ⟨⟨fun hn=>?_,fun hc e=>?_⟩,fun hn=>?_⟩
 ·exact Z9p
 ·have:=key hc
  rw [e,contra_nil h hk] at this
  cases this
 ·refine key ?_
  exact Z9p
/-- The span common to colours. -/
theorem colL_go:∀ (l:List Itm) (o:Spn),(o.lo≤(l.foldl colS o).lo∧(∀ x ∈ l,x.lo≤(l.foldl colS o).lo)∧((l.foldl colS o).lo=o.lo∨∃ x ∈ l,x.lo=(l.foldl colS o).lo)) ∧
 ((l.foldl colS o).hi≤o.hi∧(∀ x ∈ l,(l.foldl colS o).hi≤x.hi)∧((l.foldl colS o).hi=o.hi∨∃ x ∈ l,x.hi=(l.foldl colS o).hi))
 | [],o=>by simp
 | x::l,o=>by
   obtain ⟨⟨a1,a2,a3⟩,b1,b2,b3⟩:=colL_go l (colS o x)
   simp only [List.foldl_cons]
   generalize l.foldl colS (colS o x)=r at *
   have e1:(colS o x).lo=if o.lo<x.lo then x.lo else o.lo:=rfl
   have e2:(colS o x).hi=if x.hi<o.hi then x.hi else o.hi:=rfl
   rw [e1] at a1 a3
   rw [e2] at b1 b3
   refine ⟨⟨?_,?_,?_⟩,?_,?_,?_⟩
   ·split at a1 <;> omega
   ·intro y hy
    rcases List.mem_cons.1 hy with rfl | hy
    ·split at a1 <;> omega
    ·exact a2 y hy
   ·rcases a3 with a3 | ⟨y,hy,e⟩
    ·split at a3
     ·exact .inr ⟨x,List.mem_cons_self,a3.symm⟩
     ·exact .inl a3
    ·exact .inr ⟨y,List.mem_cons_of_mem _ hy,e⟩
   ·split at b1 <;> omega
   ·intro y hy
    rcases List.mem_cons.1 hy with rfl | hy
    ·split at b1 <;> omega
    ·exact b2 y hy
   ·rcases b3 with b3 | ⟨y,hy,e⟩
    ·split at b3
     ·exact .inr ⟨x,List.mem_cons_self,b3.symm⟩
     ·exact .inl b3
    ·exact .inr ⟨y,List.mem_cons_of_mem _ hy,e⟩
theorem kindB_col {x:Itm} (h:itemB x=true) (hk:x.kd=4):0≤x.lo∧x.lo≤x.hi∧x.hi≤1000:=by
 unfold itemB kindB at h
 simp only [Bool.and_eq_true] at h
 have h2:=h.2.1
 rw [if_neg (by omega),if_neg (by omega),if_neg (by omega),if_pos hk] at h2
 simp at h2
 omega
theorem kept_mem {s:List Itm} {k id:Int} {x:Itm}:x ∈ keptL s k id ↔ x ∈ s∧x.kd=k∧x.sh=id:=by unfold keptL;rw [List.mem_filter];simp
/-- Two that clash are found. -/
theorem clash_found {l:List Itm} (hx:∀ x ∈ l,x.lo≤x.hi) {a b:Itm} (ha:a ∈ l) (hb:b ∈ l) (hc:a.hi<b.lo):clashL l≠[]:=by
 intro h
 have hn:=clashP_none.1 h
 obtain ⟨i,hi,ei⟩:=List.getElem_of_mem ha
 obtain ⟨j,hj,ej⟩:=List.getElem_of_mem hb
 have gi:l.getD i default=a:=by rw [List.getD_eq_getElem?_getD,List.getElem?_eq_getElem hi];exact ei
 have gj:l.getD j default=b:=by rw [List.getD_eq_getElem?_getD,List.getElem?_eq_getElem hj];exact ej
 have hne:i≠j:=by
  intro e
  subst e
  rw [gi] at gj
  subst gj
  have:=hx a ha
  omega
 rcases Nat.lt_or_gt_of_ne hne with hl | hl
 ·have:=hn j hj
  unfold clashTo at this
  rw [List.find?_eq_none] at this
  refine this a (by rw [← ei];exact List.mem_take_iff_getElem.2 ⟨i,by omega,rfl⟩) ?_
  rw [gj]
  simp [clashI,hc]
 ·have:=hn i hi
  unfold clashTo at this
  rw [List.find?_eq_none] at this
  refine this b (by rw [← ej];exact List.mem_take_iff_getElem.2 ⟨j,by omega,rfl⟩) ?_
  rw [gi]
  simp [clashI,hc]
theorem doubt_col {l:List Itm} {day id:Int} (h:LookOk l day id) :
 doubtL (countL l day) 4 (lookS l day id)≠[] ↔ (colL (keptL (countL l day) 4 id)).hi<(colL (keptL (countL l day) 4 id)).lo:=by
 have hid:=h.sid
 have hin:∀ x ∈ keptL (countL l day) 4 id,0≤x.lo∧x.lo≤x.hi∧x.hi≤1000:=fun x hx=>by
  obtain ⟨h1,h2,_⟩:=kept_mem.1 hx
  exact kindB_col (h.cat.item x (mem_count.1 h1).1) h2
 unfold doubtL
 rw [if_pos rfl,hid]
 generalize keptL (countL l day) 4 id=K at *
 obtain ⟨⟨a1,a2,a3⟩,b1,b2,b3⟩:=colL_go K ⟨0,1000,0,0⟩
 rw [show K.foldl colS ⟨0,1000,0,0⟩=colL K from rfl] at *
 constructor
 ·intro hn
  obtain ⟨a,b,e,ha,hb,hc,_⟩:=clashP_some (Nat.le_refl _) hn
  have q1:=a2 a ha
  have q2:=a2 b hb
  have q3:=b2 a ha
  have q4:=b2 b hb
  simp only [clashI,Bool.or_eq_true,decide_eq_true_eq] at hc
  omega
 ·intro hlt
  simp only at a1 a3 b1 b3
  rcases a3 with a3 | ⟨x,hx,ex⟩
  ·rcases b3 with b3 | ⟨y,hy,ey⟩
   ·omega
   ·have:=hin y hy;omega
  ·rcases b3 with b3 | ⟨y,hy,ey⟩
   ·have:=hin x hx;omega
   ·exact clash_found (fun z hz=>(hin z hz).2.1) hy hx (by omega)
/-- Of rows with their own Ids: those with the Ids of some are these. -/
theorem filter_ids {a b:List Itm} (hs:a.Sublist b) (hn:b.Pairwise fun x y=>x.id≠y.id) {ids:List Int} (hi:∀ i,i ∈ ids ↔ i ∈ a.map (·.id)):b.filter (fun x=>ids.contains x.id)=a:=by
 induction hs generalizing ids with
 | slnil=>rfl
 | @cons l₁ l₂ x hs ih =>
   rw [List.pairwise_cons] at hn
   rw [List.filter_cons,if_neg,ih hn.2 hi]
   intro hc
   rw [List.contains_iff_mem,hi,List.mem_map] at hc
   obtain ⟨y,hy,e⟩:=hc
   exact hn.1 y (hs.subset hy) e.symm
 | @cons_cons l₁ l₂ x hs ih =>
   rw [List.pairwise_cons] at hn
   rw [List.filter_cons,if_pos (by rw [List.contains_iff_mem,hi];simp)]
   congr 1
   have e:∀ y ∈ l₂,ids.contains y.id=(l₁.map (·.id)).contains y.id:=fun y hy=>by
    rw [Bool.eq_iff_iff,List.contains_iff_mem,List.contains_iff_mem,hi,List.map_cons,List.mem_cons]
    constructor
    ·rintro (h | h)
     ·exact absurd h.symm (hn.1 y hy)
     ·exact h
    ·exact .inr
   rw [List.filter_congr e]
   exact ih hn.2 fun i=>Iff.rfl
theorem asc_asc (l:List Int):ascOf (ascOf l)=ascOf l:=asc_ext (ascOf_asc _) (ascOf_asc _) fun x=>by rw [mem_ascOf]
theorem asc_len {l:List Int} (h:l.Nodup):(ascOf l).length=l.length:=by
 have hp:(ascOf l).Perm l:=(List.perm_ext_iff_of_nodup ((ascOf_asc l).imp fun h=>by omega) h).2 fun x=>mem_ascOf
 exact hp.length_eq
theorem doubt_ids {l:List Itm} {day id:Int} (h:LookOk l day id) (k:Int) :
 (keptL (countL l day) k (lookS l day id).id).filter (fun x=>(idsI (doubtL (countL l day) k (lookS l day id))).contains x.id)=doubtL (countL l day) k (lookS l day id) ∧
  (idsI (doubtL (countL l day) k (lookS l day id))).length=(doubtL (countL l day) k (lookS l day id)).length:=by
 have hn:(keptL (countL l day) k (lookS l day id).id).Pairwise fun x y=>x.id≠y.id:=(countL_ids h.cat.ids day).filter _
 have hs:=doubtL_sub (countL l day) k (lookS l day id)
 refine ⟨filter_ids hs hn fun i=>mem_ascOf,?_⟩
 unfold idsI
 rw [asc_len,List.length_map]
 exact (List.pairwise_map.2 (hn.sublist hs))
/-- Each doubt told is one. -/
theorem doubt_is {l:List Itm} {day id:Int} (h:LookOk l day id) {k:Int} (h1:1≤k) (h4:k≤4) (hn:doubtL (countL l day) (k +1) (lookS l day id)≠[]) :
 dubB (countL l day) (lookS l day id) k (idsI (doubtL (countL l day) (k +1) (lookS l day id)))=true:=by
 obtain ⟨e1,e2⟩:=doubt_ids h (k +1)
 unfold dubB
 rw [decide_eq_true h1,decide_eq_true h4,e1,e2,decide_eq_true rfl,show idsI (doubtL (countL l day) (k +1) (lookS l day id))=ascOf (idsI (doubtL (countL l day) (k +1) (lookS l day id))) from (asc_asc _).symm,asc_asc]
 simp only [beq_self_eq_true,Bool.true_and]
 by_cases h3:k=3
 ·subst h3
  rw [if_pos rfl]
  have e3:=e1
  rw [show idsI (doubtL (countL l day) (3 +1) (lookS l day id))=ascOf (idsI (doubtL (countL l day) (3 +1) (lookS l day id))) from (asc_asc _).symm] at e3
  rw [show (3:Int) +1=4 from rfl] at *
  rw [e3]
  unfold doubtL at hn ⊢
  rw [if_pos rfl] at hn ⊢
  obtain ⟨a,b,e,_,_,hc,_⟩:=clashP_some (Nat.le_refl _) hn
  rw [show clashL (keptL (countL l day) 4 (lookS l day id).id)=[b,a] from e]
  exact (clashI_comm b a).trans hc
 ·rw [if_neg h3]
  exact (doubt_sys h (by omega)).2 hn
/-- The error of a kind of doubt. -/
theorem err_way {l:List Itm} {day id:Int} (h:LookOk l day id):wayE l day id 0 1=if doubtL (countL l day) 2 (lookS l day id)=[] then 0 else 21:=by
 have hs:=(doubt_sys h (k:=2) (.inl rfl)).1
 have hc:=h.co
 have hid:=h.sid
 unfold wayE
 rw [if_pos (lookE_of h),if_pos (by omega)]
 have e:contraB 2 (lookS l day id).co (keptL (countL l day) 2 (lookS l day id).id)=!okB (wayP l day id) (wayB l day id):=by unfold contraB sysP sysB wayP wayB;rw [hid];rfl
 rw [e,Bool.not_eq_true'] at hs
 cases hk:okB (wayP l day id) (wayB l day id) with
 | true=>rw [if_pos rfl,if_pos];rw [hk] at hs;simpa using hs
 | false=>rw [if_neg (by simp),if_neg];rw [hk] at hs;simpa using hs
theorem err_turn {l:List Itm} {day id:Int} (h:LookOk l day id):turnE l day id 0 1=if doubtL (countL l day) 3 (lookS l day id)=[] then 0 else 21:=by
 have hs:=(doubt_sys h (k:=3) (.inr (.inl rfl))).1
 have hc:=h.co
 have hid:=h.sid
 unfold turnE
 rw [if_pos (lookE_of h),if_pos (by omega)]
 have e:contraB 3 (lookS l day id).co (keptL (countL l day) 3 (lookS l day id).id)=!okB (turnP l day id) (turnB l day id):=by unfold contraB sysP sysB turnP turnB;rw [hid];rfl
 rw [e,Bool.not_eq_true'] at hs
 cases hk:okB (turnP l day id) (turnB l day id) with
 | true=>rw [if_pos rfl,if_pos];rw [hk] at hs;simpa using hs
 | false=>rw [if_neg (by simp),if_neg];rw [hk] at hs;simpa using hs
theorem err_col {l:List Itm} {day id:Int} (h:LookOk l day id):colE l day id=if doubtL (countL l day) 4 (lookS l day id)=[] then 0 else 21:=by
 have hs:=doubt_col h
 unfold colE
 rw [if_pos (lookE_of h)]
 by_cases hd:doubtL (countL l day) 4 (lookS l day id)=[]
 ·rw [if_pos hd,if_neg (fun hl=>(hs.2 hl) hd)]
 ·rw [if_neg hd,if_pos (hs.1 hd)]
theorem err_cur {l:List Itm} {day id:Int} (h:LookOk l day id):curE l day id=if doubtL (countL l day) 5 (lookS l day id)=[] then 0 else 21:=by
 have hs:=(doubt_sys h (k:=5) (.inr (.inr rfl))).1
 have hid:=h.sid
 unfold curE
 rw [if_pos (lookE_of h)]
 have e:contraB 5 (lookS l day id).co (keptL (countL l day) 5 (lookS l day id).id)=(comC (setsL (keptL (countL l day) 5 id))).isEmpty:=by unfold contraB;rw [hid];rfl
 rw [e,List.isEmpty_iff] at hs
 by_cases hd:doubtL (countL l day) 5 (lookS l day id)=[]
 ·rw [if_pos hd,if_neg (fun hl=>(hs.2 hl) hd)]
 ·rw [if_neg hd,if_pos (hs.1 hd)]
open Go.ChangeShapes Go.WideShapes Go.ChangeAt Go.RowKit Go.Joins Go.Deep
set_option maxRecDepth 100000
set_option maxHeartbeats 2000000
theorem Tryz.cellsDoubt:Tryz.prog.cellsOf 80=2:=by kernel_rfl
theorem Tryz.bInt:Tryz.prog.bytesOf 3=8:=by kernel_rfl
theorem Tryz.cellTypesDoubt:Tryz.prog.cellTypes Tryz.prog.depth 80=some [5,61]:=by kernel_rfl
theorem doubt_open {H:Type} {enc:TypeId × Value→H} {W:World} {base:Nat} {v:Value} {d:DataW H} {p:List MemPlace} (hv:Value.okWide Tryz.prog W .any base 80 v)
 (h:DataW.Trod enc Tryz.prog W 0 (fun _=>true) true 80 v d p) (hs:∀ n ∈ d.weights Tryz.prog 80,n≤reachBytes):∃ k a n cap xs,v=.agg #[.int .u8 k,.slice a n cap]∧(0≤k∧k≤255)∧IntsAt W a n cap xs:=by
 have hv0:=hv
 obtain ⟨c0,c1,y0,y1,m,rfl,rfl,rfl,h0,h1⟩:=open_agg2 Tryz.underlying80 Zk Tryz.cellsDoubt hv h
 obtain ⟨k,e0,_,e2⟩:=DataW.trod_int Tryz.underlying5 h0
 simp at e0
 subst e0
 have hk:=u8_in e2
 rcases open_slice1 Tryz.underlying61 Tryz.cI h1 with ⟨hc,_⟩ | ⟨a,len,cap,m',k',V,D,Pl,hc,_,hl,_,hm,rfl,hat⟩
 ·simp at hc
  subst hc
  exact ⟨k,none,0,0,[],rfl,hk,IntsAt.nilAt _⟩
 ·simp at hc
  subst hc
  simp only [if_true] at hm
  subst hm
  have hb:m' * 8≤reachBytes:=by
   have:=hs _ (by
    simp only [DataW.weights,Tryz.underlying80,DataW.weightsEach,List.mem_append,List.map_cons,List.map_nil,Tryz.underlying61]
    exact .inr (.inl (List.mem_cons_self ..)))
   rw [Tryz.bInt] at this
   simp only [List.length_map,List.length_range] at this
   rw [show len +(m' - len)=m' by omega] at this
   exact this
  unfold reachBytes at hb
  obtain ⟨hsp,hblk⟩:a.spot=none∧a.block<W.heap.size:=by
   simp only [Value.okWide,Tryz.underlying80] at hv0
   obtain ⟨cs,he,_,ts,k1,_,k2⟩:=hv0
   rw [Tryz.cellTypesDoubt] at k1
   obtain rfl:=Option.some.inj k1
   obtain rfl:#[.int .u8 k,.slice (some a) len m']=cs:=by simpa using he
   obtain ⟨u,hu,k3⟩:=k2 1 (.slice (some a) len m') rfl
   obtain rfl:61=u:=by simpa using hu
   simp only [Cell.okWide,Tryz.underlying61,Cell.ok] at k3
   obtain ⟨_,_,_,hsp,row,cells,hsh,_⟩:=k3
   refine ⟨hsp,?_⟩
   simp only [World.shape?] at hsh
   by_cases hlt:a.block<W.heap.size
   ·exact hlt
   ·rw [Array.getElem?_eq_none (by omega)] at hsh
    simp at hsh
  obtain ⟨ab,ao,sp⟩:=a
  simp only at hsp hblk
  subst hsp
  have hV:∀ i,i<m'→∃ x,V i=.int .i64 x:=fun i hi=>by
   obtain ⟨x,e0,_⟩:=DataW.trod_int Tryz.underlying3 (hat i hi).2
   simp at e0
   exact ⟨x,e0⟩
  refine ⟨k,some ⟨ab,ao,none⟩,len,m',(List.range len).map fun i=>match V i with | .int _ z=>z | _=>0,rfl,hk,⟨by simp,by simp;omega,fun h=>(by cases h),fun x hx=>?_⟩⟩
  obtain rfl:=Option.some.inj hx
  refine ⟨rfl,hblk,fun i u hu=>?_⟩
  simp only [List.map_map,List.getElem?_map,Option.map_eq_some_iff] at hu
  obtain ⟨j,hj,rfl⟩:=hu
  obtain ⟨hj1,hj2⟩:=List.getElem?_eq_some_iff.1 hj
  simp at hj1 hj2
  subst hj2
  obtain ⟨z,hz⟩:=hV i (by omega)
  have:=(hat i (by omega)).1
  rw [itm_add] at this
  simp only [Function.comp,hz] at this ⊢
  exact this
open Go.RowKit Go.Shelf
set_option maxHeartbeats 8000000
set_option maxRecDepth 100000
theorem equalI (a1 a2:Option Addr) (n1 n2 c1 c2:Nat) (xs ys:List Int) (w:World) (hx:IntsAt w a1 n1 c1 xs) (hy:IntsAt w a2 n2 c2 ys) (h0:ys=[]→xs=[]) :
 Calls Tryz.prog 123 #[.slice a1 n1 c1,.slice a2 n2 c2] w fun e w'=>e=.returned (.bool (xs == ys))∧Below w.heap.size w w':=by
 have hsx:=hx.small
 have hsy:=hy.small
 obtain rfl:=hx.len
 obtain rfl:=hy.len
 by_cases hx0:xs=[]
 ·subst hx0
  refine (Any.slices_Equal_int_empty Tryz.equalA a1 a2 c1 ys.length c2 w (by omega)).mono ?_
  rintro e w' ⟨rfl,rfl⟩
  refine ⟨?_,Below.refl _ _⟩
  cases ys <;> simp
 ·match a1,hx with
  | none,hx =>
    have:=(hx.row.nil rfl).1
    simp at this
    exact absurd this hx0
  | some ⟨b1,o1,s1⟩,hx =>
    match a2,hy with
    | none,hy =>
      have:=(hy.row.nil rfl).1
      simp at this
      exact absurd (h0 this) hx0
    | some ⟨b2,o2,s2⟩,hy =>
      obtain ⟨rfl,_,hc1⟩:=hx.cells
      obtain ⟨rfl,_,hc2⟩:=hy.cells
      refine (Any.slices_Equal_int Tryz.equalA b1 o1 xs.length c1 b2 o2 ys.length c2 xs ys w (Nat.le_refl _) (Nat.le_refl _) (by omega) (by omega) hc1 hc2).mono ?_
      rintro e w' ⟨rfl,q,rfl⟩
      rw [List.take_length,List.take_length]
      exact ⟨rfl,belowN (Below.refl _ _)⟩
theorem sChk1 (x:Itm) (k:Int) (da:Option Addr) (dn dc:Nat) (ids:List Int) (DB:Nat) (w:World) (h:w.heap[DB]?=some (.cells #[.int .u8 k,.slice da dn dc] 80 (0,0))) (hi:IntsAt w da dn dc ids) :
 Calls Tryz.prog 125 #[x.v,.pointer (some ⟨DB,0,none⟩)] w fun e w'=>e=.returned (.bool (!ids.contains x.id))∧Below w.heap.size w w':=by
 have hX:=World.alloc_heap_new w (Obj.cells #[.int .i64 x.id,.int .i64 x.kn,.int .u8 x.kd,.string x.wa,.int .i64 x.pit,.int .i64 x.ly,.int .i64 x.co,.bool x.ft,.int .i64 x.sh,.int .i64 x.fr,.int .i64 x.tw,.int .i64 x.lo,.int .i64 x.hi,.string x.st,.int .i64 x.li,.int .i64 x.vo] 24)
 have hal:=one_alloc w (Obj.cells #[.int .i64 x.id,.int .i64 x.kn,.int .u8 x.kd,.string x.wa,.int .i64 x.pit,.int .i64 x.ly,.int .i64 x.co,.bool x.ft,.int .i64 x.sh,.int .i64 x.fr,.int .i64 x.tw,.int .i64 x.lo,.int .i64 x.hi,.string x.st,.int .i64 x.li,.int .i64 x.vo] 24)
 have z:=(Array.getElem?_eq_some_iff.1 h).1
 have c1:=(SL.cells_of ((hal.block DB z).trans h)).1 1
 simp at c1
 have hC:=containsI da dn dc ids x.id _ (hi.below hal)
 have d0:=(ItmCells.of_heap hX).1.c0
 simp only [Itm.v,Itm.cs]
 clear hX h
 go_enter Tryz.func125,Tryz.ntmps125
 go_wp2_with (go_at_call 126;(with_reducible refine hC.mono ?_);rintro e w2 ⟨rfl,hb2⟩)
 go_ret
 exact ⟨by simp,hal.ch2 hb2⟩
open Go
def pickL (K:List Itm) (ids:List Int):List Itm:=ids.flatMap fun i=>K.filter fun x=>x.id == i
theorem pickL_snoc (K:List Itm) (ids:List Int) (i:Int):pickL K (ids ++[i])=pickL K ids ++K.filter fun x=>x.id == i:=by
 unfold pickL
 rw [List.flatMap_append]
 simp
theorem pick_mem {K:List Itm} {ids:List Int} {x:Itm}:x ∈ pickL K ids ↔ x ∈ K∧x.id ∈ ids:=by
 unfold pickL
 rw [List.mem_flatMap]
 constructor
 ·rintro ⟨i,hi,hx⟩
  obtain ⟨h1,h2⟩:=List.mem_filter.1 hx
  have:x.id=i:=by simpa using h2
  exact ⟨h1,by rw [this];exact hi⟩
 ·rintro ⟨h1,h2⟩
  exact ⟨x.id,h2,List.mem_filter.2 ⟨h1,by simp⟩⟩
theorem ids_nodup {K:List Itm} (hn:K.Pairwise fun x y=>x.id≠y.id):K.Nodup:=hn.imp fun h e=>h (by rw [e])
theorem pick_nodup {K:List Itm} (hn:K.Pairwise fun x y=>x.id≠y.id):∀ {ids:List Int},ids.Nodup→(pickL K ids).Nodup
 | [],_=>by simp [pickL]
 | i::ids,h=>by
   rw [List.nodup_cons] at h
   have e:pickL K (i::ids)=K.filter (fun x=>x.id == i) ++pickL K ids:=by unfold pickL;rfl
   rw [e,List.nodup_append]
   refine ⟨(ids_nodup hn).filter _,pick_nodup hn h.2,fun a ha b hb hab=>?_⟩
   subst hab
   have h1:a.id=i:=by simpa using (List.mem_filter.1 ha).2
   have h2:=(pick_mem.1 hb).2
   rw [h1] at h2
   exact h.1 h2
theorem pick_perm {K:List Itm} (hn:K.Pairwise fun x y=>x.id≠y.id) {ids:List Int} (ha:Asc ids):(pickL K ids).Perm (K.filter fun x=>ids.contains x.id):=by
 refine (List.perm_ext_iff_of_nodup (pick_nodup hn ha.nodup) ((ids_nodup hn).filter _)).2 fun x=>?_
 rw [pick_mem,List.mem_filter]
 simp
theorem len_sub:∀ {l m:List Int},l.Nodup→(∀ x ∈ l,x ∈ m)→l.length≤m.length
 | [],_,_,_=>by simp
 | a::l,m,h,hs=>by
   rw [List.nodup_cons] at h
   have h1:=hs a (by simp)
   have h2:=len_sub (m:=m.erase a) h.2 fun x hx=>(List.mem_erase_of_ne (fun e=>h.1 (by rw [← e];exact hx))).2 (hs x (by simp [hx]))
   rw [List.length_erase_of_mem h1] at h2
   have:=List.length_pos_of_mem h1
   simp only [List.length_cons]
   omega
theorem map_ids_nodup {K:List Itm} (hn:K.Pairwise fun x y=>x.id≠y.id):(K.map (·.id)).Nodup:=List.pairwise_map.2 hn
theorem filt_ids {K:List Itm} {ids:List Int}:∀ i ∈ (K.filter fun x=>ids.contains x.id).map (·.id),i ∈ ids:=by
 intro i hi
 obtain ⟨x,hx,rfl⟩:=List.mem_map.1 hi
 simpa using (List.mem_filter.1 hx).2
theorem pick_len {K:List Itm} (hn:K.Pairwise fun x y=>x.id≠y.id) {ids:List Int} (ha:Asc ids) (hf:∀ i ∈ ids,∃ x ∈ K,x.id=i):(K.filter fun x=>ids.contains x.id).length=ids.length:=by
 have h1:=len_sub (map_ids_nodup (hn.filter fun x=>ids.contains x.id)) filt_ids
 have h2:=len_sub (m:=(K.filter fun x=>ids.contains x.id).map (·.id)) ha.nodup fun i hi=>by
  obtain ⟨x,hx,e⟩:=hf i hi
  exact List.mem_map.2 ⟨x,List.mem_filter.2 ⟨hx,by rw [e];simpa using hi⟩,e⟩
 rw [List.length_map] at h1 h2
 omega
theorem pick_short {K:List Itm} (hn:K.Pairwise fun x y=>x.id≠y.id) {ids:List Int} {i:Int} (hi:i ∈ ids) (hf:∀ x ∈ K,x.id≠i):(K.filter fun x=>ids.contains x.id).length≠ids.length:=by
 have h1:=len_sub (m:=ids.erase i) (map_ids_nodup (hn.filter fun x=>ids.contains x.id)) fun j hj=>by
  obtain ⟨x,hx,rfl⟩:=List.mem_map.1 hj
  exact (List.mem_erase_of_ne (hf x (List.mem_filter.1 hx).1)).2 (filt_ids _ hj)
 rw [List.length_map,List.length_erase_of_mem hi] at h1
 have:=List.length_pos_of_mem hi
 omega
/-- What CheckDoubt says. -/
def cdB (l:List Itm) (day id k:Int) (ids:List Int):Bool:=decide (lookE l day id=0) && dubB (countL l day) (lookS l day id) k ids
theorem dubB_out {s:List Itm} {y:Shd} {k:Int} {ids:List Int} (h:k<1∨4<k):dubB s y k ids=false:=by
 unfold dubB
 rcases h with h | h
 ·rw [decide_eq_false (by omega:¬ 1≤k)];rfl
 ·rw [decide_eq_true (by omega:1≤k),decide_eq_false (by omega:¬ k≤4)];rfl
def endK (y:Shd) (k:Int) (M:List Itm):Bool:=if k=3 then (match M with | [a,b]=>clashI a b | _=>false) else contraB (k +1) y.co M
theorem com_ext {a b:List Itm} (h:∀ x,x ∈ a ↔ x ∈ b):comC (setsL a)=comC (setsL b):=by
 unfold comC
 refine List.filter_congr fun c _=>?_
 rw [Bool.eq_iff_iff,List.all_eq_true,List.all_eq_true]
 have hm:∀ s,s ∈ setsL a ↔ s ∈ setsL b:=fun s=>by
  unfold setsL
  simp only [List.mem_map]
  exact ⟨fun ⟨x,h1,h2⟩=>⟨x,(h x).1 h1,h2⟩,fun ⟨x,h1,h2⟩=>⟨x,(h x).2 h1,h2⟩⟩
 exact ⟨fun h s hs=>h s ((hm s).2 hs),fun h s hs=>h s ((hm s).1 hs)⟩
theorem sys_ext {k co:Int} {a b:List Itm} (h:a.Perm b):(∀ x ∈ sysB k co a,x ∈ sysB k co b)∧(sysB k co a).length=(sysB k co b).length:=by
 have hm:∀ x ∈ msB a,x ∈ msB b:=fun x hx=>by
  simp only [msB,List.mem_flatMap] at hx ⊢
  obtain ⟨y,hy,e⟩:=hx
  exact ⟨y,h.mem_iff.1 hy,e⟩
 have hl:=h.length_eq
 unfold sysB waysB turnsB
 split
 ·exact Z9n
 ·exact Z9n
theorem sys_pchk {l:List Itm} {day id:Int} (h:LookOk l day id) {k:Int} (hk:k=2∨k=3) {a b:List Itm} (hp:a.Perm b) (hb:b.Sublist (keptL (countL l day) k id)):chk (sysP k (lookS l day id).co) (sysB k (lookS l day id).co a)=0 :=
 chk_sub (sys_chk h hk hb) (sys_ext hp).1 Z9f
theorem contra_perm {l:List Itm} {day id:Int} (h:LookOk l day id) {k:Int} (hk:k=2∨k=3∨k=5) {a b:List Itm} (hp:a.Perm b) (hb:b.Sublist (keptL (countL l day) k id)):contraB k (lookS l day id).co a=contraB k (lookS l day id).co b:=by
 unfold contraB
 by_cases h5:k=5
 ·rw [if_pos h5,if_pos h5,com_ext fun x=>hp.mem_iff]
 ·rw [if_neg h5,if_neg h5]
  have h23:k=2∨k=3:=by omega
  congr 1
  cases h1:okB (sysP k (lookS l day id).co) (sysB k (lookS l day id).co b) with
  | true=>exact okB_sub (sys_chk h h23 hb) h1 (sys_ext hp).1 Z9f
  | false =>
    cases h2:okB (sysP k (lookS l day id).co) (sysB k (lookS l day id).co a) with
    | false=>rfl
    | true =>
      have:=okB_sub (sys_pchk h h23 hp hb) h2 (sys_ext hp.symm).1 Z9f
      rw [h1] at this
      cases this
theorem dub_parts {s:List Itm} {y:Shd} {k:Int} {ids:List Int} (h1:1≤k) (h4:k≤4) :
 dubB s y k ids=((ids == ascOf ids) && (decide (((keptL s (k +1) y.id).filter fun x=>ids.contains x.id).length=ids.length) && endK y k ((keptL s (k +1) y.id).filter fun x=>ids.contains x.id))):=by
 unfold dubB endK
 rw [decide_eq_true h1,decide_eq_true h4]
 simp only [Bool.true_and]
 by_cases h3:k=3
 ·subst h3;rfl
 ·simp only [if_neg h3]
theorem perm_two {u v a b:Itm} (h:[u,v].Perm [a,b]):(u=a∧v=b)∨(u=b∧v=a):=by
 have hu:=(h.mem_iff (a:=u)).1 (by simp)
 simp only [List.mem_cons,List.not_mem_nil,or_false] at hu
 rcases hu with rfl | rfl
 ·have:=h.cons_inv
  rw [List.perm_singleton] at this
  simp at this
  exact .inl ⟨rfl,this⟩
 ·have:=(h.trans (List.Perm.swap _ _ _)).cons_inv
  rw [List.perm_singleton] at this
  simp at this
  exact .inr ⟨rfl,this⟩
/-- What the reference finds out: not ascending; an Id of none; else what the items say. -/
theorem dub_order {s:List Itm} {y:Shd} {k:Int} {ids:List Int} (h1:1≤k) (h4:k≤4) (ha:¬ Asc ids):dubB s y k ids=false:=by
 rw [dub_parts h1 h4]
 have:(ids == ascOf ids)=false:=by
  rw [beq_eq_false_iff_ne]
  intro e
  exact ha (by rw [e];exact ascOf_asc _)
 rw [this]
 rfl
theorem dub_lacks {l:List Itm} {day id:Int} (h:LookOk l day id) {k:Int} {ids:List Int} (h1:1≤k) (h4:k≤4) {i:Int} (hi:i ∈ ids) (hf:∀ x ∈ keptL (countL l day) (k +1) id,x.id≠i):dubB (countL l day) (lookS l day id) k ids=false:=by
 rw [dub_parts h1 h4,h.sid]
 have hn:(keptL (countL l day) (k +1) id).Pairwise fun x y=>x.id≠y.id:=(countL_ids h.cat.ids day).filter _
 rw [decide_eq_false (pick_short hn hi hf)]
 simp
theorem dub_found {l:List Itm} {day id:Int} (h:LookOk l day id) {k:Int} {ids:List Int} (h1:1≤k) (h4:k≤4) (ha:Asc ids) (hf:∀ i ∈ ids,∃ x ∈ keptL (countL l day) (k +1) id,x.id=i) :
 dubB (countL l day) (lookS l day id) k ids=endK (lookS l day id) k (pickL (keptL (countL l day) (k +1) id) ids):=by
 have hn:(keptL (countL l day) (k +1) id).Pairwise fun x y=>x.id≠y.id:=(countL_ids h.cat.ids day).filter _
 rw [dub_parts h1 h4,h.sid]
 have e:(ids == ascOf ids)=true:=by
  rw [beq_iff_eq]
  exact asc_ext ha (ascOf_asc _) fun x=>mem_ascOf.symm
 rw [e,decide_eq_true (pick_len hn ha hf)]
 simp only [Bool.true_and]
 have hp:=pick_perm hn ha
 have hs:((keptL (countL l day) (k +1) id).filter fun x=>ids.contains x.id).Sublist (keptL (countL l day) (k +1) id):=List.filter_sublist
 unfold endK
 by_cases h3:k=3
 ·rw [if_pos h3,if_pos h3]
  generalize pickL (keptL (countL l day) (k +1) id) ids=P at *
  generalize ((keptL (countL l day) (k +1) id).filter fun x=>ids.contains x.id)=Q at *
  have hl:=hp.length_eq
  rcases Q with _ | ⟨a,_ | ⟨b,_ | ⟨c,r⟩⟩⟩
  ·rw [List.eq_nil_of_length_eq_zero hl]
  ·rcases P with _ | ⟨u,_ | ⟨v,r⟩⟩
   ·simp at hl
   ·rfl
   ·simp at hl
  ·rcases P with _ | ⟨u,_ | ⟨v,_ | ⟨x,r⟩⟩⟩
   ·simp at hl
   ·simp at hl
   ·rcases perm_two hp with ⟨rfl,rfl⟩ | ⟨rfl,rfl⟩
    ·rfl
    ·exact clashI_comm _ _
   ·simp at hl
  ·rcases P with _ | ⟨u,_ | ⟨v,_ | ⟨x,r2⟩⟩⟩
   ·simp at hl
   ·simp at hl
   ·simp at hl
   ·rfl
 ·rw [if_neg h3,if_neg h3]
  exact (contra_perm h (by omega) hp hs).symm
open Go.RowKit Go.Shelf
set_option maxHeartbeats 8000000
set_option maxRecDepth 100000
/-- What is left to be asked, once the Ids ascend. -/
def endB (y:Shd) (k:Int) (M:List Itm):Bool:=if k=3 then (match M with | [a,b]=>clashI a b | _=>false) else contraB (k +1) y.co M
def restB (y:Shd) (k:Int) (ids:List Int) (M:List Itm):Bool:=decide (M.length=ids.length) && endB y k M
theorem endB_no {y:Shd} {M:List Itm} (h:M.length≠2):endB y 3 M=false:=by
 unfold endB
 rw [if_pos rfl]
 rcases M with _ | ⟨x,_ | ⟨z,_ | ⟨u,r⟩⟩⟩
 ·rfl
 ·rfl
 ·exact absurd rfl h
 ·rfl
theorem dubB_in {s:List Itm} {y:Shd} {k:Int} {ids:List Int} (h1:1≤k) (h4:k≤4) :
 dubB s y k ids=((ids == ascOf ids) && restB y k ids ((keptL s (k +1) y.id).filter fun x=>ids.contains x.id)):=by
 unfold dubB restB endB
 rw [decide_eq_true h1,decide_eq_true h4]
 simp only [Bool.true_and]
 by_cases h3:k=3
 ·subst h3;rfl
 ·rw [if_neg h3,if_neg h3]
theorem sCheckDoubt_any (a:Option Addr) (n cap:Nat) (l:List Itm) (day id k:Int) (da:Option Addr) (dn dc:Nat) (ids:List Int) (w:World) (h:ItmsAt w a n cap l) (hcap:l.length≤cap) (hi:IntsAt w da dn dc ids) (hids:ids.length≤100000) (hk0:0≤k) (hk1:k≤255) :
 Calls Tryz.prog 55 #[.slice a n cap,.int .i64 day,.int .i64 id,.agg #[.int .u8 k,.slice da dn dc]] w fun e w'=>e=.returned (.tuple #[.bool (cdB l day id k ids),.int .i64 (lookE l day id)])∧Below w.heap.size w w':=by
 have hB0:=one_alloc w (Obj.cells #[.int .u8 k,.slice da dn dc] 80)
 have hD0:=World.alloc_heap_new w (Obj.cells #[.int .u8 k,.slice da dn dc] 80)
 have hL:=slooked_any a n cap l day id _ (h.below hB0) hcap
 have hw:=h.wide
 unfold LookPost at hL
 by_cases h0:lookE l day id=0
 ·have hlk:=look_ok h0
  have hS:lookR l day id=countL l day:=by unfold lookR;rw [if_pos h0]
  have hZ:lookZ l day id=lookS l day id:=by unfold lookZ;rw [if_pos h0]
  have hE:cdB l day id k ids=dubB (countL l day) (lookS l day id) k ids:=by unfold cdB;rw [decide_eq_true h0];rfl
  have hok:=hlk.shelf
  have Hsid:=Lib.hid hlk.sid
  have hcw:=wides hw (fun x (hx:x ∈ countL l day)=>(countL_sub hx).1)
  rw [hS,hZ,h0] at hL
  rw [hE,h0]
  clear hS hZ hlk h0 hE hw h
  generalize countL l day=S at *
  generalize lookS l day id=y at *
  have HP:=Lib.hid (show ∀ w' B,dubB S y k ids=B→Below w.heap.size w w'→(fun e w'=>e=Ending.returned (.tuple #[.bool (dubB S y k ids),.int .i64 0])∧Below w.heap.size w w':Ending→World→Prop) (.returned (.tuple #[.bool B,.int .i64 0])) w' from fun w' B h1 h2=>⟨by rw [h1],h2⟩)
  generalize (fun e w'=>e=Ending.returned (.tuple #[.bool (dubB S y k ids),.int .i64 0])∧Below w.heap.size w w':Ending→World→Prop)=Post at *
  have hsl:=hok.len
  have hF:=fun W va vc (hi:ItmsAt W va S.length vc S)=>sfits_any va _ vc S y W hok hi
  have hDf:=fun W=>sdoubtful_any W
  simp only [Shd.v,Shd.cs] at hL hF
  go_enter Tryz.func55,Tryz.ntmps55
  go_wp2_with (first
   | (go_at_call 82;(with_reducible refine hL.mono ?_);rintro e w2 ⟨v,rfl,hb2,ho2⟩;obtain ⟨va,vc,rfl,_⟩:=owns_slice ho2;have hi2:=(ItmsAt.of_owns ho2 (by omega) hcw).below (one_alloc w2 (Obj.cells #[.int .i64 y.id,.string y.wa,.int .i64 y.pit,.int .i64 y.ly,.int .i64 y.co,.bool y.ft] 72));have hY2:=World.alloc_heap_new w2 (Obj.cells #[.int .i64 y.id,.string y.wa,.int .i64 y.pit,.int .i64 y.ly,.int .i64 y.co,.bool y.ft] 72);obtain ⟨p0,p1,p2,p3,p4,p5,pf⟩:=cell6 hY2)
   | (go_at_call 119;(with_reducible refine (hF _ va vc hi2).mono ?_);rintro e w3 ⟨rfl,hb3⟩;clear p0 p1 p2 p3 p4 p5 pf)  )
  go_at_call 120
  refine (hDf _).mono ?_
  rintro e w4 ⟨rfl,hb4⟩
  have hz2:=hb2.size
  rw [World.size_alloc] at hz2
  have hz3:=hb3.size
  rw [World.size_alloc] at hz3
  have hz4:=hb4.size
  have hD4:=alKeep (o':=Obj.cells #[.int .u8 0,.int .u8 2,.int .u8 3,.int .u8 4,.int .u8 5] 153) ((hb4.block w.heap.size (by omega)).trans ((hb3.block w.heap.size (by rw [World.size_alloc];omega)).trans (alKeep (o':=Obj.cells #[.int .i64 y.id,.string y.wa,.int .i64 y.pit,.int .i64 y.ly,.int .i64 y.co,.bool y.ft] 72) ((hb2.block w.heap.size (by simp)).trans hD0))))
  have hA4:=World.alloc_heap_new w4 (Obj.cells #[.int .u8 0,.int .u8 2,.int .u8 3,.int .u8 4,.int .u8 5] 153)
  have hY4:=alKeep (o':=Obj.cells #[.int .u8 0,.int .u8 2,.int .u8 3,.int .u8 4,.int .u8 5] 153) ((hb4.block _ (Array.getElem?_eq_some_iff.1 ((hb3.block _ (by simp)).trans hY2)).1).trans ((hb3.block _ (by simp)).trans hY2))
  have hi4:=((hi2.below hb3).below hb4).below (one_alloc w4 (Obj.cells #[.int .u8 0,.int .u8 2,.int .u8 3,.int .u8 4,.int .u8 5] 153))
  have hB4:=((((hB0.ch2 hb2).ch2 (one_alloc w2 (Obj.cells #[.int .i64 y.id,.string y.wa,.int .i64 y.pit,.int .i64 y.ly,.int .i64 y.co,.bool y.ft] 72))).ch2 hb3).ch2 hb4).ch2 (one_alloc w4 (Obj.cells #[.int .u8 0,.int .u8 2,.int .u8 3,.int .u8 4,.int .u8 5] 153))
  have hz5:w2.heap.size<w4.heap.size:=by omega
  clear hb3 hi2 hY2 ho2 hb2 hb4 hz2 hz3 hz4
  have c0:=(SL.cells_of hD4).1 0
  have c1:=(SL.cells_of hD4).1 1
  simp at c0 c1
  have zD:=(Array.getElem?_eq_some_iff.1 hD4).1
  go_wp2_with fail
  generalize w2.heap.size=B2 at *
  generalize w4.heap.size=B4 at *
  generalize w4.alloc (Obj.cells #[.int .u8 0,.int .u8 2,.int .u8 3,.int .u8 4,.int .u8 5] 153)=wA at *
  have hiA:=hi.below hB4
  by_cases k0:k=0
  ·subst k0
   have HE:=Lib.hid (fun w'=>HP.out w' false (dubB_out (.inl (by omega))))
   have z0:((0:Int) == 0)=true:=rfl
   go_wp2_with fail
   exact Z9s
  ·by_cases k5:5≤k
   ·have HE:=Lib.hid (fun w'=>HP.out w' false (dubB_out (.inr (by omega))))
    have z0:(k == 0)=false:=by simpa using k0
    have z5:decide (5≤k)=true:=by simpa using k5
    exact Z9s
   ·have hk4:k=1∨k=2∨k=3∨k=4:=by omega
    have hU:=fun W (h:IntsAt W da dn dc ids)=>sunique_any da dn dc ids W h hids
    unfold RowPost at hU
    have hEq:=fun W a2 c2 (h:IntsAt W da dn dc ids) (h2:IntsAt W a2 (ascOf ids).length c2 (ascOf ids))=>equalI da a2 dn _ dc c2 ids (ascOf ids) W h h2 (fun e=>by
     cases hc:ids with
     | nil=>rfl
     | cons x r =>
       have:x ∈ ascOf ids:=mem_ascOf.2 (by rw [hc];simp)
       rw [e] at this;cases this)
    have hAl:=ascOf_len ids
    have HKd:=Lib.hid (fun h1 h4=>dubB_in (s:=S) (y:=y) (k:=k) (ids:=ids) h1 h4)
    clear hk0 hk1 k0 k5
    rcases hk4 with rfl | rfl | rfl | rfl
    ·have hUA:=hU wA hiA
     generalize hQ:(ids == ascOf ids)=Q at *
     apply SLG.rule0 ?hm [] [33,34,35,36,37,38,39,40,41,42,43,44,45,46,47,48,49,50] [SLF.pq 33 [] _,SLF.pq 34 [0] _,SLF.pq 35 [1] _,SLF.pq 36 [2] _,SLF.pq 37 [3] _,SLF.pq 38 [3,4] _,SLF.pq 39 [3,5] _,SLF.pq 40 [3,6] _,SLF.pq 41 [3,7] _,SLF.pq 42 [8] _,SLF.pq 43 [9] _,SLF.pq 44 [9,10] _,SLF.pq 45 [9] _,SLF.pq 46 [9,12] _,SL.row 47 [9,13] [] wA.heap.size 3 1 (ascOf ids).length ((ascOf ids).map (.int .i64)),SL.pu 48 [9,11,14] (.bool Q),SLF.pq 49 [9,15] _,SLF.pq 50 [9,16] _] [17] ?hck ?hkp (fun _=>[]) ?hin ?hdj ?hfr ?ob ?en1
     case hm=>kernel_rfl
     case hin=>exact SL.none_held rfl
     case hdj=>simp
     case hfr=>intro us;simp only [SL.frame,SL.put'];simp;exact rfl
     case ob =>
      exact Z92
     case hck=>kernel_rfl
     case hkp=>kernel_rfl
     intro us w7 Fs hG hu hbd hd
     simp [SL.Used,SLF.pq] at hu
     obtain ⟨h17,_⟩:=hu
     rw [h17]
     have hb7:=(hG.below':Below wA.heap.size wA w7)
     have hB7:=hB4.ch2 hb7
     have hD7:=(hb7.block _ zD).trans hD4
     have hA7:=(hb7.block _ (Array.getElem?_eq_some_iff.1 hA4).1).trans hA4
     have hY7:=(hb7.block _ (Array.getElem?_eq_some_iff.1 hY4).1).trans hY4
     have hi7:=hi4.below hb7
     have hiD:=hiA.below hb7
     have HQ:=Lib.hid hQ
     clear hG hbd hd h17 c0 c1 zD hD4 hA4 hY4 hi4 hB4 hiA hUA hb7 hU hEq hQ
     cases Q
     ·exact Z99
     ·have HE:=Lib.hid (fun w' B hB=>HP.out w' B ((HKd.out (by decide) (by decide)).trans Z9o))
      rw [show ((1:Int) +1)=2 from rfl] at HE
      have zD:=(Array.getElem?_eq_some_iff.1 hD7).1
      have c0:=(SL.cells_of hD7).1 0
      have c1:=(SL.cells_of hD7).1 1
      have ar:=(SL.cells_of hA7).1 1
      have zA:=(Array.getElem?_eq_some_iff.1 hA7).1
      simp at c0 c1 ar
      have hCol:=scolK va S.length vc S 2 id w7 hi7 (by omega)
      have hwM:∀ x ∈ keptL S 2 id,x.Wide:=fun x hx=>hcw x (List.mem_filter.1 hx).1
      have hlM:(keptL S 2 id).length≤300:=Nat.le_trans (List.length_filter_le _ _) hsl
      have hDel:=fun v8 w8 (hb8:Below w7.heap.size w7 w8) (ho8:w8.ownsRow w7.heap.size 24 16 v8 (keptL S 2 id).length (ics (keptL S 2 id))) =>
       sDelT 125 #[.pointer (some ⟨w.heap.size,0,none⟩)] (fun x=>!ids.contains x.id) v8 w7.heap.size (keptL S 2 id) w8 ho8 hwM (by omega) (enters_of Tryz.func125 Zk rfl)
        (fun x _ w9 hc=>sChk1 x 1 da dn dc ids w.heap.size w9
         ((hc.block w.heap.size Z9r (fun hm=>by have:=(SL.row_bounds ho8 _ hm).1;omega)).trans ((hb8.block _ zD).trans hD7))
         (hiD.below (hb8.trans (hc.belowE_w hb8.size (fun k hk=>(SL.row_bounds ho8 k hk).1)))))
      unfold CutPost at hDel
      simp only [Bool.not_not] at hDel
      have HsI:=Lib.hid (List.filter_sublist:((keptL S 2 id).filter fun x=>ids.contains x.id).Sublist (keptL S 2 id))
      have HkI:=Lib.hid (kept_self HsI.out)
      have HsM:Hid (((keptL S 2 id).filter fun x=>ids.contains x.id).Sublist (keptL S 2 y.id)):=Lib.hid Z9h
      have HwM:∀ x ∈ (keptL S 2 id).filter fun x=>ids.contains x.id,x.Wide:=fun x hx=>hwM x (List.mem_filter.1 hx).1
      have hlF:((keptL S 2 id).filter fun x=>ids.contains x.id).length≤300:=Nat.le_trans (List.length_filter_le _ _) hlM
      rw [Hsid.out] at HE
      generalize ((keptL S 2 id).filter fun x=>ids.contains x.id)=M at *
      generalize keptL S 2 id=L at *
      have HD7:=Lib.hid hD7
      have HY7:=Lib.hid hY7
      have HDel:=Lib.hid hDel
      clear hD7 hY7 hA7 hDel hwM
      have hmk:=makeFuncS
      go_wp2_with (first
       | (go_at_call 99;refine (skept _ _ _ _ _ _).mono ?_;rintro e w1 ⟨rfl,rfl⟩)
       | (go_at_call 98;(with_reducible refine hCol.mono ?_);rintro e w8 ⟨v8,rfl,hb8,ho8⟩;have hDl:=HDel.out _ _ hb8 ho8;obtain ⟨ka,kc,rfl,_⟩:=owns_slice ho8;clear c0 c1 ar zA;have c0:=(SL.cells_of ((hb8.block _ zD).trans HD7.out)).1 0;have c1:=(SL.cells_of ((hb8.block _ zD).trans HD7.out)).1 1;simp at c0 c1;have zD8:=Nat.lt_of_lt_of_le zD hb8.size))
      refine hDl.mono ?_
      rintro e w9 ⟨v9,rfl,ho9,hc9,_⟩
      have hb9:=hb8.trans (hc9.belowE_w hb8.size (fun k hk=>(SL.row_bounds ho8 k hk).1))
      clear c0 c1 zD8 hDl ho8 hc9 hb8 hCol
      obtain ⟨xa,xc,rfl,_⟩:=owns_slice ho9
      have hM9:=ItmsAt.of_owns ho9 (by omega) HwM
      have hD9:=(hb9.block _ zD).trans HD7.out
      have c0:=(SL.cells_of hD9).1 0
      have c1:=(SL.cells_of hD9).1 1
      simp at c0 c1
      have zD9:=(Array.getElem?_eq_some_iff.1 hD9).1
      have hY9:=(hb9.block _ (Array.getElem?_eq_some_iff.1 HY7.out).1).trans HY7.out
      have hi9:=hi7.below hb9
      have hB9:=hB7.ch2 hb9
      have hil:=hi.len
      clear hD9 ho9 zD hi7 hiD
      by_cases hl:M.length=dn
      ·have e9:((M.length:Int) != (dn:Int))=false:=by rw [hl];simp
       have HF:=Lib.hid (fun w' B (hB:endB y 1 M=B)=>HE.out w' B Z9c)
       clear HE HP HKd HQ hl hil
       have hIm:=simpE va S.length vc S 2 y xa xc M w9 hok hi9 (by omega) HsM.out hM9
       exact Z9a
      ·exact Z96
    ·have hUA:=hU wA hiA
     generalize hQ:(ids == ascOf ids)=Q at *
     apply SLG.rule0 ?hm [] [33,34,35,36,37,38,39,40,41,42,43,44,45,46,47,48,49,50] [SLF.pq 33 [] _,SLF.pq 34 [0] _,SLF.pq 35 [1] _,SLF.pq 36 [2] _,SLF.pq 37 [3] _,SLF.pq 38 [3,4] _,SLF.pq 39 [3,5] _,SLF.pq 40 [3,6] _,SLF.pq 41 [3,7] _,SLF.pq 42 [8] _,SLF.pq 43 [9] _,SLF.pq 44 [9,10] _,SLF.pq 45 [9] _,SLF.pq 46 [9,12] _,SL.row 47 [9,13] [] wA.heap.size 3 1 (ascOf ids).length ((ascOf ids).map (.int .i64)),SL.pu 48 [9,11,14] (.bool Q),SLF.pq 49 [9,15] _,SLF.pq 50 [9,16] _] [17] ?hck ?hkp (fun _=>[]) ?hin ?hdj ?hfr ?ob ?en2
     case hm=>kernel_rfl
     case hin=>exact SL.none_held rfl
     case hdj=>simp
     case hfr=>intro us;simp only [SL.frame,SL.put'];simp;exact rfl
     case ob =>
      exact Z92
     case hck=>kernel_rfl
     case hkp=>kernel_rfl
     intro us w7 Fs hG hu hbd hd
     simp [SL.Used,SLF.pq] at hu
     obtain ⟨h17,_⟩:=hu
     rw [h17]
     have hb7:=(hG.below':Below wA.heap.size wA w7)
     have hB7:=hB4.ch2 hb7
     have hD7:=(hb7.block _ zD).trans hD4
     have hA7:=(hb7.block _ (Array.getElem?_eq_some_iff.1 hA4).1).trans hA4
     have hY7:=(hb7.block _ (Array.getElem?_eq_some_iff.1 hY4).1).trans hY4
     have hi7:=hi4.below hb7
     have hiD:=hiA.below hb7
     have HQ:=Lib.hid hQ
     clear hG hbd hd h17 c0 c1 zD hD4 hA4 hY4 hi4 hB4 hiA hUA hb7 hU hEq hQ
     cases Q
     ·exact Z99
     ·have HE:=Lib.hid (fun w' B hB=>HP.out w' B ((HKd.out (by decide) (by decide)).trans Z9o))
      rw [show ((2:Int) +1)=3 from rfl] at HE
      have zD:=(Array.getElem?_eq_some_iff.1 hD7).1
      have c0:=(SL.cells_of hD7).1 0
      have c1:=(SL.cells_of hD7).1 1
      have ar:=(SL.cells_of hA7).1 2
      have zA:=(Array.getElem?_eq_some_iff.1 hA7).1
      simp at c0 c1 ar
      have hCol:=scolK va S.length vc S 3 id w7 hi7 (by omega)
      have hwM:∀ x ∈ keptL S 3 id,x.Wide:=fun x hx=>hcw x (List.mem_filter.1 hx).1
      have hlM:(keptL S 3 id).length≤300:=Nat.le_trans (List.length_filter_le _ _) hsl
      have hDel:=fun v8 w8 (hb8:Below w7.heap.size w7 w8) (ho8:w8.ownsRow w7.heap.size 24 16 v8 (keptL S 3 id).length (ics (keptL S 3 id))) =>
       sDelT 125 #[.pointer (some ⟨w.heap.size,0,none⟩)] (fun x=>!ids.contains x.id) v8 w7.heap.size (keptL S 3 id) w8 ho8 hwM (by omega) (enters_of Tryz.func125 Zk rfl)
        (fun x _ w9 hc=>sChk1 x 2 da dn dc ids w.heap.size w9
         ((hc.block w.heap.size Z9r (fun hm=>by have:=(SL.row_bounds ho8 _ hm).1;omega)).trans ((hb8.block _ zD).trans hD7))
         (hiD.below (hb8.trans (hc.belowE_w hb8.size (fun k hk=>(SL.row_bounds ho8 k hk).1)))))
      unfold CutPost at hDel
      simp only [Bool.not_not] at hDel
      have HsI:=Lib.hid (List.filter_sublist:((keptL S 3 id).filter fun x=>ids.contains x.id).Sublist (keptL S 3 id))
      have HkI:=Lib.hid (kept_self HsI.out)
      have HsM:Hid (((keptL S 3 id).filter fun x=>ids.contains x.id).Sublist (keptL S 3 y.id)):=Lib.hid Z9h
      have HwM:∀ x ∈ (keptL S 3 id).filter fun x=>ids.contains x.id,x.Wide:=fun x hx=>hwM x (List.mem_filter.1 hx).1
      have hlF:((keptL S 3 id).filter fun x=>ids.contains x.id).length≤300:=Nat.le_trans (List.length_filter_le _ _) hlM
      rw [Hsid.out] at HE
      generalize ((keptL S 3 id).filter fun x=>ids.contains x.id)=M at *
      generalize keptL S 3 id=L at *
      have HD7:=Lib.hid hD7
      have HY7:=Lib.hid hY7
      have HDel:=Lib.hid hDel
      clear hD7 hY7 hA7 hDel hwM
      have hmk:=makeFuncS
      go_wp2_with (first
       | (go_at_call 99;refine (skept _ _ _ _ _ _).mono ?_;rintro e w1 ⟨rfl,rfl⟩)
       | (go_at_call 98;(with_reducible refine hCol.mono ?_);rintro e w8 ⟨v8,rfl,hb8,ho8⟩;have hDl:=HDel.out _ _ hb8 ho8;obtain ⟨ka,kc,rfl,_⟩:=owns_slice ho8;clear c0 c1 ar zA;have c0:=(SL.cells_of ((hb8.block _ zD).trans HD7.out)).1 0;have c1:=(SL.cells_of ((hb8.block _ zD).trans HD7.out)).1 1;simp at c0 c1;have zD8:=Nat.lt_of_lt_of_le zD hb8.size))
      refine hDl.mono ?_
      rintro e w9 ⟨v9,rfl,ho9,hc9,_⟩
      have hb9:=hb8.trans (hc9.belowE_w hb8.size (fun k hk=>(SL.row_bounds ho8 k hk).1))
      clear c0 c1 zD8 hDl ho8 hc9 hb8 hCol
      obtain ⟨xa,xc,rfl,_⟩:=owns_slice ho9
      have hM9:=ItmsAt.of_owns ho9 (by omega) HwM
      have hD9:=(hb9.block _ zD).trans HD7.out
      have c0:=(SL.cells_of hD9).1 0
      have c1:=(SL.cells_of hD9).1 1
      simp at c0 c1
      have zD9:=(Array.getElem?_eq_some_iff.1 hD9).1
      have hY9:=(hb9.block _ (Array.getElem?_eq_some_iff.1 HY7.out).1).trans HY7.out
      have hi9:=hi7.below hb9
      have hB9:=hB7.ch2 hb9
      have hil:=hi.len
      clear hD9 ho9 zD hi7 hiD
      by_cases hl:M.length=dn
      ·have e9:((M.length:Int) != (dn:Int))=false:=by rw [hl];simp
       have HF:=Lib.hid (fun w' B (hB:endB y 2 M=B)=>HE.out w' B Z9c)
       clear HE HP HKd HQ hl hil
       have hIm:=simpE va S.length vc S 3 y xa xc M w9 hok hi9 (by omega) HsM.out hM9
       exact Z9a
      ·exact Z96
    ·have hUA:=hU wA hiA
     generalize hQ:(ids == ascOf ids)=Q at *
     apply SLG.rule0 ?hm [] [33,34,35,36,37,38,39,40,41,42,43,44,45,46,47,48,49,50] [SLF.pq 33 [] _,SLF.pq 34 [0] _,SLF.pq 35 [1] _,SLF.pq 36 [2] _,SLF.pq 37 [3] _,SLF.pq 38 [3,4] _,SLF.pq 39 [3,5] _,SLF.pq 40 [3,6] _,SLF.pq 41 [3,7] _,SLF.pq 42 [8] _,SLF.pq 43 [9] _,SLF.pq 44 [9,10] _,SLF.pq 45 [9] _,SLF.pq 46 [9,12] _,SL.row 47 [9,13] [] wA.heap.size 3 1 (ascOf ids).length ((ascOf ids).map (.int .i64)),SL.pu 48 [9,11,14] (.bool Q),SLF.pq 49 [9,15] _,SLF.pq 50 [9,16] _] [17] ?hck ?hkp (fun _=>[]) ?hin ?hdj ?hfr ?ob ?en3
     case hm=>kernel_rfl
     case hin=>exact SL.none_held rfl
     case hdj=>simp
     case hfr=>intro us;simp only [SL.frame,SL.put'];simp;exact rfl
     case ob =>
      exact Z92
     case hck=>kernel_rfl
     case hkp=>kernel_rfl
     intro us w7 Fs hG hu hbd hd
     simp [SL.Used,SLF.pq] at hu
     obtain ⟨h17,_⟩:=hu
     rw [h17]
     have hb7:=(hG.below':Below wA.heap.size wA w7)
     have hB7:=hB4.ch2 hb7
     have hD7:=(hb7.block _ zD).trans hD4
     have hA7:=(hb7.block _ (Array.getElem?_eq_some_iff.1 hA4).1).trans hA4
     have hY7:=(hb7.block _ (Array.getElem?_eq_some_iff.1 hY4).1).trans hY4
     have hi7:=hi4.below hb7
     have hiD:=hiA.below hb7
     have HQ:=Lib.hid hQ
     clear hG hbd hd h17 c0 c1 zD hD4 hA4 hY4 hi4 hB4 hiA hUA hb7 hU hEq hQ
     cases Q
     ·exact Z99
     ·have HE:=Lib.hid (fun w' B hB=>HP.out w' B ((HKd.out (by decide) (by decide)).trans Z9o))
      rw [show ((3:Int) +1)=4 from rfl] at HE
      have zD:=(Array.getElem?_eq_some_iff.1 hD7).1
      have c0:=(SL.cells_of hD7).1 0
      have c1:=(SL.cells_of hD7).1 1
      have ar:=(SL.cells_of hA7).1 3
      have zA:=(Array.getElem?_eq_some_iff.1 hA7).1
      simp at c0 c1 ar
      have hCol:=scolK va S.length vc S 4 id w7 hi7 (by omega)
      have hwM:∀ x ∈ keptL S 4 id,x.Wide:=fun x hx=>hcw x (List.mem_filter.1 hx).1
      have hlM:(keptL S 4 id).length≤300:=Nat.le_trans (List.length_filter_le _ _) hsl
      have hDel:=fun v8 w8 (hb8:Below w7.heap.size w7 w8) (ho8:w8.ownsRow w7.heap.size 24 16 v8 (keptL S 4 id).length (ics (keptL S 4 id))) =>
       sDelT 125 #[.pointer (some ⟨w.heap.size,0,none⟩)] (fun x=>!ids.contains x.id) v8 w7.heap.size (keptL S 4 id) w8 ho8 hwM (by omega) (enters_of Tryz.func125 Zk rfl)
        (fun x _ w9 hc=>sChk1 x 3 da dn dc ids w.heap.size w9
         ((hc.block w.heap.size Z9r (fun hm=>by have:=(SL.row_bounds ho8 _ hm).1;omega)).trans ((hb8.block _ zD).trans hD7))
         (hiD.below (hb8.trans (hc.belowE_w hb8.size (fun k hk=>(SL.row_bounds ho8 k hk).1)))))
      unfold CutPost at hDel
      simp only [Bool.not_not] at hDel
      have HsI:=Lib.hid (List.filter_sublist:((keptL S 4 id).filter fun x=>ids.contains x.id).Sublist (keptL S 4 id))
      have HkI:=Lib.hid (kept_self HsI.out)
      have HsM:Hid (((keptL S 4 id).filter fun x=>ids.contains x.id).Sublist (keptL S 4 y.id)):=Lib.hid Z9h
      have HwM:∀ x ∈ (keptL S 4 id).filter fun x=>ids.contains x.id,x.Wide:=fun x hx=>hwM x (List.mem_filter.1 hx).1
      have hlF:((keptL S 4 id).filter fun x=>ids.contains x.id).length≤300:=Nat.le_trans (List.length_filter_le _ _) hlM
      rw [Hsid.out] at HE
      generalize ((keptL S 4 id).filter fun x=>ids.contains x.id)=M at *
      generalize keptL S 4 id=L at *
      have HD7:=Lib.hid hD7
      have HY7:=Lib.hid hY7
      have HDel:=Lib.hid hDel
      clear hD7 hY7 hA7 hDel hwM
      have hmk:=makeFuncS
      go_wp2_with (first
       | (go_at_call 99;refine (skept _ _ _ _ _ _).mono ?_;rintro e w1 ⟨rfl,rfl⟩)
       | (go_at_call 98;(with_reducible refine hCol.mono ?_);rintro e w8 ⟨v8,rfl,hb8,ho8⟩;have hDl:=HDel.out _ _ hb8 ho8;obtain ⟨ka,kc,rfl,_⟩:=owns_slice ho8;clear c0 c1 ar zA;have c0:=(SL.cells_of ((hb8.block _ zD).trans HD7.out)).1 0;have c1:=(SL.cells_of ((hb8.block _ zD).trans HD7.out)).1 1;simp at c0 c1;have zD8:=Nat.lt_of_lt_of_le zD hb8.size))
      refine hDl.mono ?_
      rintro e w9 ⟨v9,rfl,ho9,hc9,_⟩
      have hb9:=hb8.trans (hc9.belowE_w hb8.size (fun k hk=>(SL.row_bounds ho8 k hk).1))
      clear c0 c1 zD8 hDl ho8 hc9 hb8 hCol
      obtain ⟨xa,xc,rfl,_⟩:=owns_slice ho9
      have hM9:=ItmsAt.of_owns ho9 (by omega) HwM
      have hD9:=(hb9.block _ zD).trans HD7.out
      have c0:=(SL.cells_of hD9).1 0
      have c1:=(SL.cells_of hD9).1 1
      simp at c0 c1
      have zD9:=(Array.getElem?_eq_some_iff.1 hD9).1
      have hY9:=(hb9.block _ (Array.getElem?_eq_some_iff.1 HY7.out).1).trans HY7.out
      have hi9:=hi7.below hb9
      have hB9:=hB7.ch2 hb9
      have hil:=hi.len
      clear hD9 ho9 zD hi7 hiD
      by_cases hl:M.length=dn
      ·have e9:((M.length:Int) != (dn:Int))=false:=by rw [hl];simp
       have HF:=Lib.hid (fun w' B (hB:endB y 3 M=B)=>HE.out w' B Z9c)
       clear HE HP HKd HQ hl hil
       go_wp2_with fail
       by_cases h2:M.length=2
       ·obtain ⟨x,z,rfl⟩:∃ x z,M=[x,z]:=by
         rcases M with _ | ⟨x,_ | ⟨z,_ | ⟨u,r⟩⟩⟩
         ·cases h2
         ·cases h2
         ·exact ⟨x,z,rfl⟩
         ·simp at h2
        obtain ⟨gb,go,rfl,hgb,g0⟩:=hM9.get (i:=0) (by simp)
        obtain ⟨_,_,he,_,g1⟩:=hM9.get (i:=1) (by simp)
        injection he with he
        injection he with he1 he2
        subst he1 he2
        rw [show [x,z].getD 0 default=x from rfl,Nat.zero_mul,Nat.add_zero] at g0
        rw [show [x,z].getD 1 default=z from rfl,Nat.one_mul] at g1
        obtain ⟨d0,d1,d2,d3,d4,d5,d6,d7,d8,d9,d10,d11,d12,d13,d14,d15⟩:=g0
        obtain ⟨f0,f1,f2,f3,f4,f5,f6,f7,f8,f9,f10,f11,f12,f13,f14,f15⟩:=g1
        have HF2:=Lib.hid (fun w'=>HF.out w' (clashI x z) rfl)
        have hcl:=fun W=>sclash_any x z W
        simp only [Itm.v,Itm.cs] at hcl
        generalize clashI x z=CL at *
        clear hM9 HF HwM hlF HsM HsI HkI HDel e9
        generalize hL2:[x,z].length=n2 at *
        obtain rfl:n2=2:=hL2.symm
        clear hL2 h2
        apply SLG.rule0 ?hm [] [72,73,74,75,76,77,78,79,80,81,82,83,8,9] [SLF.pq 72 [] _,SLF.pq 73 [0] _,SLF.pq 74 [1] _,SLF.pq 75 [2] _,SLF.pq 76 [3] _,SLF.pq 77 [3,4] _,SLF.pq 78 [3,5] _,SLF.pq 79 [3] _,SLF.pq 80 [3,7] _,SLF.pq 81 [3,8] _,SL.pu 82 [3,6,9] (.bool CL),SLF.pq 83 [3,10] _,SLF.pq 8 [11] _,SLF.pq 9 [] _] [12,13] ?hck ?hkp (fun _=>[]) ?hin ?hdj ?hfr ?ob ?en4
        case hm=>kernel_rfl
        case hin=>exact SL.none_held rfl
        case hdj=>simp
        case hfr=>intro us;simp only [SL.frame,SL.put'];simp;exact rfl
        case ob =>
         refine ⟨?_,?_,?_,?_,?_,?_,?_,?_,?_,?_,?_,?_,?_,?_,trivial⟩
         all_goals first
          | (intro us w' Fe hG hu hd hv Kx hK
             try dsimp only
             simp [SL.O] at hu hK
             have hB5:Below w9.heap.size w9 w':=hG.below'
             exact Z7v)
          | skip
         ·refine SLG.ob_sp rfl rfl rfl fun us w' Fe hG hu hd Kx hK=>?_
          try dsimp only
          simp [SL.O] at hu
          have hB5:Below w9.heap.size w9 w':=hG.below'
          obtain ⟨hc5,hf5⟩:=bcell hB5
          have hs5:=hB5.size
          first
           | (refine SLF.wpo_do (SLF.wanted_free rfl) ?hd ?_;(case hd=>intro c h;cases h))
           | (refine SLF.wpo_do (SLF.wanted_by rfl rfl ?hv) ?hd ?_;(case hv=>simp [hu];done);(case hd=>intro c h;cases h))
           | (refine' SLF.wpo_not (SLG.wanted_not rfl rfl ?hv ?hn) ?_;(case hv=>simp [hu];exact rfl);(case hn=>first | (simp;done) | (simp [undef];done)))
          obtain ⟨_,⟨e6,_⟩,e9,_⟩:=hu
          clear hc5 hf5
          go_step
          refine (hcl w').mono ?_
          exact Zg
        case hck=>kernel_rfl
        case hkp=>kernel_rfl
        intro us w10 Fs hG hu hbd hd
        simp [SL.Used,SLF.pq,SL.pu] at hu
        obtain ⟨⟨h12,_⟩,h13,_⟩:=hu
        have hB10:=hB9.ch2 (hG.below':Below w9.heap.size w9 w10)
        rw [h12,h13]
        clear hG hbd hd h12 h13
        go_wp2_with fail
        exact HF2.out _ hB10
       ·have e2:((M.length:Int) == 2)=false:=by
         have:¬ (M.length:Int)=2:=by omega
         simpa using this
        have HF2:=Lib.hid (fun w'=>HF.out w' false (endB_no h2))
        clear h2
        go_quiet (fail)
        go_wp2
        exact HF2.out _ (belowN hB9)
      ·exact Z96
    ·have hUA:=hU wA hiA
     generalize hQ:(ids == ascOf ids)=Q at *
     apply SLG.rule0 ?hm [] [33,34,35,36,37,38,39,40,41,42,43,44,45,46,47,48,49,50] [SLF.pq 33 [] _,SLF.pq 34 [0] _,SLF.pq 35 [1] _,SLF.pq 36 [2] _,SLF.pq 37 [3] _,SLF.pq 38 [3,4] _,SLF.pq 39 [3,5] _,SLF.pq 40 [3,6] _,SLF.pq 41 [3,7] _,SLF.pq 42 [8] _,SLF.pq 43 [9] _,SLF.pq 44 [9,10] _,SLF.pq 45 [9] _,SLF.pq 46 [9,12] _,SL.row 47 [9,13] [] wA.heap.size 3 1 (ascOf ids).length ((ascOf ids).map (.int .i64)),SL.pu 48 [9,11,14] (.bool Q),SLF.pq 49 [9,15] _,SLF.pq 50 [9,16] _] [17] ?hck ?hkp (fun _=>[]) ?hin ?hdj ?hfr ?ob ?en5
     case hm=>kernel_rfl
     case hin=>exact SL.none_held rfl
     case hdj=>simp
     case hfr=>intro us;simp only [SL.frame,SL.put'];simp;exact rfl
     case ob =>
      exact Z92
     case hck=>kernel_rfl
     case hkp=>kernel_rfl
     intro us w7 Fs hG hu hbd hd
     simp [SL.Used,SLF.pq] at hu
     obtain ⟨h17,_⟩:=hu
     rw [h17]
     have hb7:=(hG.below':Below wA.heap.size wA w7)
     have hB7:=hB4.ch2 hb7
     have hD7:=(hb7.block _ zD).trans hD4
     have hA7:=(hb7.block _ (Array.getElem?_eq_some_iff.1 hA4).1).trans hA4
     have hY7:=(hb7.block _ (Array.getElem?_eq_some_iff.1 hY4).1).trans hY4
     have hi7:=hi4.below hb7
     have hiD:=hiA.below hb7
     have HQ:=Lib.hid hQ
     clear hG hbd hd h17 c0 c1 zD hD4 hA4 hY4 hi4 hB4 hiA hUA hb7 hU hEq hQ
     cases Q
     ·exact Z99
     ·have HE:=Lib.hid (fun w' B hB=>HP.out w' B ((HKd.out (by decide) (by decide)).trans Z9o))
      rw [show ((4:Int) +1)=5 from rfl] at HE
      have zD:=(Array.getElem?_eq_some_iff.1 hD7).1
      have c0:=(SL.cells_of hD7).1 0
      have c1:=(SL.cells_of hD7).1 1
      have ar:=(SL.cells_of hA7).1 4
      have zA:=(Array.getElem?_eq_some_iff.1 hA7).1
      simp at c0 c1 ar
      have hCol:=scolK va S.length vc S 5 id w7 hi7 (by omega)
      have hwM:∀ x ∈ keptL S 5 id,x.Wide:=fun x hx=>hcw x (List.mem_filter.1 hx).1
      have hlM:(keptL S 5 id).length≤300:=Nat.le_trans (List.length_filter_le _ _) hsl
      have hDel:=fun v8 w8 (hb8:Below w7.heap.size w7 w8) (ho8:w8.ownsRow w7.heap.size 24 16 v8 (keptL S 5 id).length (ics (keptL S 5 id))) =>
       sDelT 125 #[.pointer (some ⟨w.heap.size,0,none⟩)] (fun x=>!ids.contains x.id) v8 w7.heap.size (keptL S 5 id) w8 ho8 hwM (by omega) (enters_of Tryz.func125 Zk rfl)
        (fun x _ w9 hc=>sChk1 x 4 da dn dc ids w.heap.size w9
         ((hc.block w.heap.size Z9r (fun hm=>by have:=(SL.row_bounds ho8 _ hm).1;omega)).trans ((hb8.block _ zD).trans hD7))
         (hiD.below (hb8.trans (hc.belowE_w hb8.size (fun k hk=>(SL.row_bounds ho8 k hk).1)))))
      unfold CutPost at hDel
      simp only [Bool.not_not] at hDel
      have HsI:=Lib.hid (List.filter_sublist:((keptL S 5 id).filter fun x=>ids.contains x.id).Sublist (keptL S 5 id))
      have HkI:=Lib.hid (kept_self HsI.out)
      have HsM:Hid (((keptL S 5 id).filter fun x=>ids.contains x.id).Sublist (keptL S 5 y.id)):=Lib.hid Z9h
      have HwM:∀ x ∈ (keptL S 5 id).filter fun x=>ids.contains x.id,x.Wide:=fun x hx=>hwM x (List.mem_filter.1 hx).1
      have hlF:((keptL S 5 id).filter fun x=>ids.contains x.id).length≤300:=Nat.le_trans (List.length_filter_le _ _) hlM
      rw [Hsid.out] at HE
      generalize ((keptL S 5 id).filter fun x=>ids.contains x.id)=M at *
      generalize keptL S 5 id=L at *
      have HD7:=Lib.hid hD7
      have HY7:=Lib.hid hY7
      have HDel:=Lib.hid hDel
      clear hD7 hY7 hA7 hDel hwM
      have hmk:=makeFuncS
      go_wp2_with (first
       | (go_at_call 99;refine (skept _ _ _ _ _ _).mono ?_;rintro e w1 ⟨rfl,rfl⟩)
       | (go_at_call 98;(with_reducible refine hCol.mono ?_);rintro e w8 ⟨v8,rfl,hb8,ho8⟩;have hDl:=HDel.out _ _ hb8 ho8;obtain ⟨ka,kc,rfl,_⟩:=owns_slice ho8;clear c0 c1 ar zA;have c0:=(SL.cells_of ((hb8.block _ zD).trans HD7.out)).1 0;have c1:=(SL.cells_of ((hb8.block _ zD).trans HD7.out)).1 1;simp at c0 c1;have zD8:=Nat.lt_of_lt_of_le zD hb8.size))
      refine hDl.mono ?_
      rintro e w9 ⟨v9,rfl,ho9,hc9,_⟩
      have hb9:=hb8.trans (hc9.belowE_w hb8.size (fun k hk=>(SL.row_bounds ho8 k hk).1))
      clear c0 c1 zD8 hDl ho8 hc9 hb8 hCol
      obtain ⟨xa,xc,rfl,_⟩:=owns_slice ho9
      have hM9:=ItmsAt.of_owns ho9 (by omega) HwM
      have hD9:=(hb9.block _ zD).trans HD7.out
      have c0:=(SL.cells_of hD9).1 0
      have c1:=(SL.cells_of hD9).1 1
      simp at c0 c1
      have zD9:=(Array.getElem?_eq_some_iff.1 hD9).1
      have hY9:=(hb9.block _ (Array.getElem?_eq_some_iff.1 HY7.out).1).trans HY7.out
      have hi9:=hi7.below hb9
      have hB9:=hB7.ch2 hb9
      have hil:=hi.len
      clear hD9 ho9 zD hi7 hiD
      by_cases hl:M.length=dn
      ·have e9:((M.length:Int) != (dn:Int))=false:=by rw [hl];simp
       have HF:=Lib.hid (fun w' B (hB:endB y 4 M=B)=>HE.out w' B Z9c)
       clear HE HP HKd HQ hl hil
       have hS:=ssets_any xa M.length xc M id w9 hM9 (by omega)
       unfold RowPost at hS
       rw [HkI.out] at hS
       have hC:=fun W a c base (ho:W.ownsRow base 9 1 (.slice a M.length c) M.length (strL M))=>scomS a _ c M W base (by omega) rfl ho
       have HF2:=Lib.hid (fun w' B (hB:(comC (setsL M)).isEmpty=B)=>HF.out w' B (by unfold endB;rw [if_neg (by decide)];exact hB))
       generalize comC (setsL M)=o at *
       clear HF hM9
       cases ho:o.isEmpty
       ·exact Z9b
       ·exact Z9b
      ·exact Z96
 ·have hE:cdB l day id k ids=false:=by unfold cdB;rw [decide_eq_false h0];rfl
  rw [hE]
  have HP:=Lib.hid (show ∀ w' E,lookE l day id=E→Below w.heap.size w w'→(fun e w'=>e=Ending.returned (.tuple #[.bool false,.int .i64 (lookE l day id)])∧Below w.heap.size w w':Ending→World→Prop) (.returned (.tuple #[.bool false,.int .i64 E])) w' from fun w' E h1 h2=>⟨by rw [h1],h2⟩)
  generalize (fun e w'=>e=Ending.returned (.tuple #[.bool false,.int .i64 (lookE l day id)])∧Below w.heap.size w w':Ending→World→Prop)=Post at *
  generalize lookE l day id=E at *
  have e2:(E != 0)=true:=by simpa using h0
  have e3:(E == 0)=false:=by simpa using h0
  generalize lookZ l day id=y at *
  generalize lookR l day id=S at *
  simp only [Shd.v,Shd.cs] at hL
  clear h0 hE
  go_enter Tryz.func55,Tryz.ntmps55
  go_wp2_with (go_at_call 82;(with_reducible refine hL.mono ?_);rintro e w2 ⟨v,rfl,hb2,ho2⟩;obtain ⟨va,vc,rfl,_⟩:=owns_slice ho2)
  exact HP.out _ _ rfl ((hB0.ch2 hb2).ch2 (one_alloc _ _))
end Go.Proofs.YtelkcohhagblaaaGreat

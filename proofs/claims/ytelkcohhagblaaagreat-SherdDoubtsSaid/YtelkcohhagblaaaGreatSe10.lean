/- What the functions answer, for every input. -/
import Derived.Test.YtelkcohhagblaaaGreatSe04
import Derived.Test.YtelkcohhagblaaaGreatSe08
import Derived.WalkKit
import Derived.Test.YtelkcohhagblaaaGreatSe07
set_option linter.unusedSimpArgs false
set_option linter.unusedVariables false
set_option linter.unnecessarySimpa false
/-
  Words of the regions' rule made of parts: rows, blocks, pure facts, put side by side; parts whose lists are their own.
-/
namespace Go.Proofs.YtelkcohhagblaaaGreat.SL
open Go Go.RowKit Go.Proofs.YtelkcohhagblaaaGreat

/-- What holds of a world, and the blocks that it holds for itself. -/
structure As where
 A:World→List Nat→Prop
 st:∀ (w w':World) (F:List Nat),A w F→(∀ k ∈ F,w'.heap[k]?=w.heap[k]?)→w.heap.size≤w'.heap.size→A w' F
abbrev As.row (base:Nat) (t:TypeId) (size:Nat) (v:Value) (n:Nat) (xs:List Value):As :=
 { A:=fun w F=>w.ownsRow base t size v n xs∧F=v.ownBlock.toList,st:=fun _ _ _ h hk _=>⟨row_stab h.1 (h.2 ▸ hk),h.2⟩ }
abbrev As.blk (base N:Nat) (t:TypeId) (cs:Array Value):As :=
 { A:=fun w F=>base≤N∧w.heap[N]?=some (.cells cs t (0,0))∧F=[N],st:=by rintro w w' F ⟨hb,h,rfl⟩ hk _;exact ⟨hb,by rw [hk N (by simp)];exact h,rfl⟩ }
abbrev As.pure (p:Prop):As:={ A:=fun _ F=>p∧F=[],st:=fun _ _ _ h _ _=>h }
abbrev As.sep (a b:As):As :=
 { A:=fun w F=>∃ F1 F2,a.A w F1∧b.A w F2∧F=F1 ++F2,
   st:=by
    rintro w w' F ⟨F1,F2,h1,h2,rfl⟩ hk hs
    exact ⟨F1,F2,a.st _ _ _ h1 (fun k h=>hk k (List.mem_append.2 (.inl h))) hs,b.st _ _ _ h2 (fun k h=>hk k (List.mem_append.2 (.inr h))) hs,rfl⟩ }
abbrev As.ex {α:Type} (f:α→As):As:={ A:=fun w F=>∃ x,(f x).A w F,st:=fun w w' F h hk hs=>h.elim fun x hx=>⟨x,(f x).st w w' F hx hk hs⟩ }
def aw (s:Nat) (u e:List Nat) (f:Value→As):Sp:={ sub:=s,use:=u,eat:=e,A:=fun x=>(f x).A,st:=fun v=>(f v).st }
theorem aw_sub (s:Nat) (u e:List Nat) (f:Value→As):(aw s u e f).sub=s:=rfl
theorem aw_use (s:Nat) (u e:List Nat) (f:Value→As):(aw s u e f).use=u:=rfl
theorem aw_eat (s:Nat) (u e:List Nat) (f:Value→As):(aw s u e f).eat=e:=rfl
theorem aw_V (s:Nat) (u e:List Nat) (f:Value→As):(aw s u e f).V=fun _=>True:=rfl
theorem aw_quiet (s:Nat) (u e:List Nat) (f:Value→As):(aw s u e f).quiet=false:=rfl
theorem aw_in {s:Nat} {u e:List Nat} {f:Value→As} {v:Value} {w:World} {F:List Nat} (h:(f v).A w F):(aw s u e f).A v w F:=h
theorem aw_out {s:Nat} {u e:List Nat} {f:Value→As} {v:Value} {w:World} {F:List Nat} (h:(aw s u e f).A v w F):(f v).A w F:=h

end Go.Proofs.YtelkcohhagblaaaGreat.SL
namespace Go.Proofs.YtelkcohhagblaaaGreat
open Go Go.RowKit
/-- The blocks of a part's lists. -/
def Pt.blocks (p:Pt):List Nat:=(Value.slice p.sa p.sh.length p.sc).ownBlock.toList ++(Value.slice p.ra p.re.length p.rc).ownBlock.toList
theorem OwnPt.stab {w w':World} {base:Nat} {p:Pt} (h:OwnPt w base p) (hk:∀ k ∈ p.blocks,w'.heap[k]?=w.heap[k]?):OwnPt w' base p :=
 ⟨SL.row_stab h.sh fun k hm=>hk k (List.mem_append.2 (.inl hm)),SL.row_stab h.re fun k hm=>hk k (List.mem_append.2 (.inr hm))⟩
theorem OwnPt.base {w:World} {base base':Nat} {p:Pt} (h:OwnPt w base p) (hb:base'≤base):OwnPt w base' p:=⟨SL.row_base h.sh hb,SL.row_base h.re hb⟩
theorem OwnPt.bounds {w:World} {base:Nat} {p:Pt} (h:OwnPt w base p):∀ k ∈ p.blocks,base≤k∧k<w.heap.size:=fun k hk=>by
 rcases List.mem_append.1 hk with hk | hk
 ·exact SL.row_bounds h.sh k hk
 ·exact SL.row_bounds h.re k hk
abbrev SL.As.own (base:Nat) (p:Pt):SL.As:={ A:=fun w F=>OwnPt w base p∧F=p.blocks,st:=fun _ _ _ h hk _=>⟨h.1.stab (h.2 ▸ hk),h.2⟩ }
end Go.Proofs.YtelkcohhagblaaaGreat
namespace Go.Proofs.YtelkcohhagblaaaGreat.SL
open Go
theorem O:type_of% (And.intro @Used.eq_1 (And.intro @Used.eq_2 (And.intro @pu.eq_1 (And.intro @row.eq_1 (And.intro @box.eq_1 (And.intro @rowIn.eq_1 (And.intro @boxIn.eq_1 (And.intro @boxAt.eq_1 (And.intro @boxAtIn.eq_1 (And.intro @SLF.pq.eq_1 (And.intro @Act.put.eq_1 (And.intro @Act.put.eq_2 (And.intro @aw_sub (And.intro @aw_use (And.intro @aw_eat (And.intro @aw_V @aw_quiet)))))))))))))))):=And.intro @Used.eq_1 (And.intro @Used.eq_2 (And.intro @pu.eq_1 (And.intro @row.eq_1 (And.intro @box.eq_1 (And.intro @rowIn.eq_1 (And.intro @boxIn.eq_1 (And.intro @boxAt.eq_1 (And.intro @boxAtIn.eq_1 (And.intro @SLF.pq.eq_1 (And.intro @Act.put.eq_1 (And.intro @Act.put.eq_2 (And.intro @aw_sub (And.intro @aw_use (And.intro @aw_eat (And.intro @aw_V @aw_quiet)))))))))))))))
end Go.Proofs.YtelkcohhagblaaaGreat.SL
namespace Go.Proofs.YtelkcohhagblaaaGreat
open Go
end Go.Proofs.YtelkcohhagblaaaGreat
namespace Go.Proofs.YtelkcohhagblaaaGreat.SL
open Go Go.RowKit Go.Proofs.YtelkcohhagblaaaGreat
/-- The blocks of the words held from the beginning: those behind the n operations' words. -/
def heldL (n:Nat) (Ls:List (List Nat)):Nat→List Nat:=fun i=>if i<n then [] else Ls.getD (i - n) []
def HeldAll (a0:Act) (w:World) (F0:List Nat):List Sp→List (List Nat)→Prop
 | x::xs,L::Ls=>(x.A (a0.tmps.getD x.sub undef) w.drew L∧∀ k ∈ L,k ∈ F0∧k<w.heap.size)∧HeldAll a0 w F0 xs Ls
 | [],[]=>True
 | _,_=>False
theorem HeldAll.get {a0:Act} {w:World} {F0:List Nat}:∀ {xs:List Sp} {Ls:List (List Nat)} (_:HeldAll a0 w F0 xs Ls) (i:Nat) (y:Sp),xs[i]?=some y →
 y.A (a0.tmps.getD y.sub undef) w.drew (Ls.getD i [])∧∀ k ∈ Ls.getD i [],k ∈ F0∧k<w.heap.size
 | x::xs,L::Ls,h,0,y,hy=>by
   simp at hy
   subst hy
   exact h.1
 | x::xs,L::Ls,h,i +1,y,hy=>by
   have:=h.2.get i y (by simpa using hy)
   simpa using this
 | [],[],_,i,y,hy=>by simp at hy
 | [],_::_,h,_,_,_=>h.elim
 | _::_,[],h,_,_,_=>h.elim
theorem held_all {ops:List Oper} {Γ:List Sp} {a0:Act} {w:World} {F0:List Nat} {Ls:List (List Nat)} (xs:List Sp) (hx:Γ.drop ops.length=xs) (h:HeldAll a0 w F0 xs Ls) :
 ∀ i y,ops.length≤i→Γ[i]?=some y→y.A (a0.tmps.getD y.sub undef) w.drew (heldL ops.length Ls i)∧∀ k ∈ heldL ops.length Ls i,k ∈ F0∧k<w.heap.size:=by
 intro i y hi hy
 unfold heldL
 rw [if_neg (by omega)]
 refine h.get (i - ops.length) y ?_
 rw [← hx,List.getElem?_drop,← hy]
 congr 1
 omega
theorem heldL_apart {n:Nat} {Ls:List (List Nat)} (h:Ls.Pairwise fun L M=>∀ k ∈ L,k ∉ M):∀ i j,i≠j→n≤i→n≤j→∀ k ∈ heldL n Ls i,k ∉ heldL n Ls j:=by
 have key:∀ i j,i<j→∀ k ∈ Ls.getD i [],k ∉ Ls.getD j []:=fun i j hij k hk hk'=>by
  by_cases hj:j<Ls.length
  ·have:=List.pairwise_iff_getElem.1 h i j (by omega) hj hij
   simp only [List.getD_eq_getElem?_getD,List.getElem?_eq_getElem hj,List.getElem?_eq_getElem (show i<Ls.length by omega),Option.getD_some] at hk hk'
   exact this k hk hk'
  ·rw [List.getD_eq_getElem?_getD,List.getElem?_eq_none (by omega)] at hk'
   simp at hk'
 intro i j hij hi hj k hk hk'
 unfold heldL at hk hk'
 rw [if_neg (by omega)] at hk hk'
 rcases (by omega:i - n<j - n∨j - n<i - n) with h' | h'
 ·exact key _ _ h' k hk hk'
 ·exact key _ _ h' k hk' hk
end Go.Proofs.YtelkcohhagblaaaGreat.SL
namespace Go.Proofs.YtelkcohhagblaaaGreat
open Go
set_option maxRecDepth 100000
def belL:ByteArray:=⟨#[98,101,108,108]⟩
def bcdL:ByteArray:=⟨#[98,99,100]⟩
def shelfL:List Itm:=[
 { Itm.zero with id:=1,kd:=1,wa:=belL,pit:=1,ly:=4,co:=4,ft:=true },
 { Itm.zero with id:=2,kd:=2,sh:=1,tw:=2,lo:=30,hi:=34 },
 { Itm.zero with id:=3,kn:=1,kd:=2,sh:=1,fr:=1,tw:=2,lo:=10,hi:=12 },
 { Itm.zero with id:=4,kn:=2,kd:=4,sh:=1,lo:=300,hi:=500 },
 { Itm.zero with id:=5,kn:=3,kd:=4,sh:=1,lo:=450,hi:=600 },
 { Itm.zero with id:=6,kn:=3,kd:=5,sh:=1,st:=bcdL },
 { Itm.zero with id:=7,kn:=5,kd:=2,sh:=1,tw:=1,lo:=25,hi:=40 },
 { Itm.zero with id:=8,kn:=6,kd:=6,wa:=belL,li:=2 }]
open Go.RowKit Go.Shelf
set_option maxHeartbeats 4000000
set_option maxRecDepth 100000
theorem asc_succ0 (s:ByteArray):ascN s.data.toList 1=(decide (97≤by_ s 0) && decide (by_ s 0≤122)):=by
 unfold ascN by_
 generalize (s.data.toList.getD 0 0).toNat=n
 rw [Bool.eq_iff_iff]
 simp only [ascN,Bool.and_eq_true,Bool.or_eq_true,decide_eq_true_eq]
 constructor
 ·rintro ⟨_,h,_⟩;omega
 ·intro h;exact ⟨trivial,by omega,.inl trivial⟩
theorem asc_succ1 (s:ByteArray) (k:Nat):ascN s.data.toList (k +1 +1)=(ascN s.data.toList (k +1) && (decide (97≤by_ s (k +1)) && decide (by_ s (k +1)≤122) && decide (by_ s k<by_ s (k +1)))):=by
 conv=>lhs;unfold ascN
 unfold by_
 simp only [Nat.add_sub_cancel]
 generalize (s.data.toList.getD (k +1) 0).toNat=n
 generalize (s.data.toList.getD k 0).toNat=m
 rw [Bool.eq_iff_iff]
 simp only [Bool.and_eq_true,Bool.or_eq_true,decide_eq_true_eq]
 refine and_congr Iff.rfl ?_
 omega
theorem ascN_preS {s:ByteArray} {k:Nat} (hk:k≤s.size) (h:ascN s.data.toList k=false):ascS s.data.toList=false:=ascN_pre Z46 h
theorem ascN_allS {s:ByteArray} {k:Nat} (hk:k=s.size):ascN s.data.toList k=ascS s.data.toList:=by
 subst hk
 have:=ascN_all s.data.toList
 simpa using this
theorem setS_false {l:List UInt8} (h:ascS l=false):setS l=false:=by unfold setS;rw [h];rfl
theorem sisSet_any (s:ByteArray) (w:World) (hs:s.size≤maxLen) :
 Calls Tryz.prog 147 #[.string s] w fun e w'=>e=.returned (.bool (setS s.data.toList))∧Below w.heap.size w w':=by
 unfold maxLen at hs
 obtain ⟨T,hT⟩:∃ T,setS s.data.toList=T:=⟨_,rfl⟩
 have HT:=Lib.hid hT
 rw [hT]
 clear hT
 go_enter Tryz.func147,Tryz.ntmps147
 go_wp2_with fail
 go_loopw [3,6] (fun _ i wr=>∃ k:Nat,k≤s.size∧i=.int .i64 k∧ascN s.data.toList k=true∧Below w.heap.size w wr) (fun _ i _=>s.size - (RowKit.intOf i).toNat)
 case atStart=>exact ⟨0,Nat.zero_le _,rfl,rfl,Below.refl _ _⟩
 case round =>
  obtain ⟨k,hk,rfl,hall,hB⟩:=hrel
  by_cases hlt:k<s.size
  ·have HP:=Lib.hid (@ascN_preS s (k +1) hlt)
   have Hb:=Lib.hid (by_at hlt)
   have Hall:=Lib.hid hall
   have hc0:(0:Int)≤(s[k]).toNat:=by omega
   have hc9:((s[k]).toNat:Int)≤255:=by have:=(s[k]).toNat_lt;omega
   clear hall
   cases k with
   | zero =>
     have Hsu:=Lib.hid (asc_succ0 s)
     rcases Int.lt_or_le ((s[0]).toNat:Int) 97 with h1 | h1
     ·have e1:decide (((s[0]).toNat:Int)<97)=true:=by simp;omega
      go_wp2_with fail
      apply SLG.rule0 ?hm [] [9,10,11,12,13,14,15,16,17,18,19,20,21,22,23,24,25,26,27,28,29,30,31,32] [SLF.pq 9 [] _,SLF.pq 10 [] _,SLF.pq 11 [0,1] _,SLF.pq 12 [2] _,SLF.pq 13 [3] _,SLF.pq 14 [4] _,SLF.pq 15 [4] _,SLF.pq 16 [4,5,6] _,SLF.pq 17 [4,7] _,SLF.pq 18 [4,8] _,SLF.pq 19 [9] _,SLF.pq 20 [10] _,SLF.pq 21 [10,11] _,SLF.pq 22 [10,12] _,SLF.pq 23 [13] _,SLF.pq 24 [13] _,SLF.pq 25 [13,15] _,SLF.pq 26 [13,14,16] _,SLF.pq 27 [13] _,SLF.pq 28 [13] _,SLF.pq 29 [13,18,19] _,SLF.pq 30 [13,17,20] _,SLF.pq 31 [10,13,21] _,SLF.pq 32 [10,22] _] [23] ?hck ?hkp (fun _=>[]) ?hin ?hdj ?hfr ?ob ?en1
      case hm=>kernel_rfl
      case hin=>exact SL.none_held rfl
      case hdj=>simp
      case hfr=>intro us;simp only [SL.frame,SL.put'];simp;exact rfl
      case ob =>
       exact Z5u
      case hck=>kernel_rfl
      case hkp=>kernel_rfl
      exact Z1e
     rcases Int.lt_or_le 122 ((s[0]).toNat:Int) with h2 | h2
     ·have e1:decide (((s[0]).toNat:Int)<97)=false:=by simp;omega
      have e2:decide ((122:Int)<((s[0]).toNat:Int))=true:=by simp;omega
      go_wp2_with fail
      apply SLG.rule0 ?hm [] [9,10,11,12,13,14,15,16,17,18,19,20,21,22,23,24,25,26,27,28,29,30,31,32] [SLF.pq 9 [] _,SLF.pq 10 [] _,SLF.pq 11 [0,1] _,SLF.pq 12 [2] _,SLF.pq 13 [3] _,SLF.pq 14 [4] _,SLF.pq 15 [4] _,SLF.pq 16 [4,5,6] _,SLF.pq 17 [4,7] _,SLF.pq 18 [4,8] _,SLF.pq 19 [9] _,SLF.pq 20 [10] _,SLF.pq 21 [10,11] _,SLF.pq 22 [10,12] _,SLF.pq 23 [13] _,SLF.pq 24 [13] _,SLF.pq 25 [13,15] _,SLF.pq 26 [13,14,16] _,SLF.pq 27 [13] _,SLF.pq 28 [13] _,SLF.pq 29 [13,18,19] _,SLF.pq 30 [13,17,20] _,SLF.pq 31 [10,13,21] _,SLF.pq 32 [10,22] _] [23] ?hck ?hkp (fun _=>[]) ?hin ?hdj ?hfr ?ob ?en2
      case hm=>kernel_rfl
      case hin=>exact SL.none_held rfl
      case hdj=>simp
      case hfr=>intro us;simp only [SL.frame,SL.put'];simp;exact rfl
      case ob =>
       exact Z5u
      case hck=>kernel_rfl
      case hkp=>kernel_rfl
      exact Z1e
     ·have e1:decide (((s[0]).toNat:Int)<97)=false:=by simp;omega
      have e2:decide ((122:Int)<((s[0]).toNat:Int))=false:=by simp;omega
      go_wp2_with fail
      apply SLG.rule0 ?hm [] [9,10,11,12,13,14,15,16,17,18,19,20,21,22,23,24,25,26,27,28,29,30,31,32] [SLF.pq 9 [] _,SLF.pq 10 [] _,SLF.pq 11 [0,1] _,SLF.pq 12 [2] _,SLF.pq 13 [3] _,SLF.pq 14 [4] _,SLF.pq 15 [4] _,SLF.pq 16 [4,5,6] _,SLF.pq 17 [4,7] _,SLF.pq 18 [4,8] _,SLF.pq 19 [9] _,SLF.pq 20 [10] _,SLF.pq 21 [10,11] _,SLF.pq 22 [10,12] _,SLF.pq 23 [13] _,SLF.pq 24 [13] _,SLF.pq 25 [13,15] _,SLF.pq 26 [13,14,16] _,SLF.pq 27 [13] _,SLF.pq 28 [13] _,SLF.pq 29 [13,18,19] _,SLF.pq 30 [13,17,20] _,SLF.pq 31 [10,13,21] _,SLF.pq 32 [10,22] _] [23] ?hck ?hkp (fun _=>[]) ?hin ?hdj ?hfr ?ob ?en3
      case hm=>kernel_rfl
      case hin=>exact SL.none_held rfl
      case hdj=>simp
      case hfr=>intro us;simp only [SL.frame,SL.put'];simp;exact rfl
      case ob =>
       exact Z5u
      case hck=>kernel_rfl
      case hkp=>kernel_rfl
      intro us w7 Fs hG hu hbd hd
      simp [SL.Used,SLF.pq] at hu
      obtain ⟨h33,_⟩:=hu
      rw [h33]
      have hB7:Below wr.heap.size wr w7:=hG.below'
      clear hG hbd hd h33
      go_wp2
      go_roundw
      case rel=>exact ⟨1,by omega,by go_num,by rw [Hsu.out,← Hb.out];grind,hB.ch2 hB7⟩
      case measure=>simp [RowKit.intOf];omega
   | succ j =>
     have hnn:(0:Int)≤j:=by omega
     have hj:j<s.size:=by omega
     have Hb2:=Lib.hid (by_at hj)
     have hc1:(0:Int)≤(s[j]).toNat:=by omega
     have hc8:((s[j]).toNat:Int)≤255:=by have:=(s[j]).toNat_lt;omega
     have hwr:IntKind.i64.wrap ((j:Int) +1 - 1)=j:=by rw [show (j:Int) +1 - 1=j by omega];exact IntWalk.i64_in _ (by omega)
     have Hsu:=Lib.hid (asc_succ1 s j)
     rcases Int.lt_or_le ((s[j +1]).toNat:Int) 97 with h1 | h1
     ·have e1:decide (((s[j +1]).toNat:Int)<97)=true:=by simp;omega
      go_wp2_with fail
      apply SLG.rule0 ?hm [] [9,10,11,12,13,14,15,16,17,18,19,20,21,22,23,24,25,26,27,28,29,30,31,32] [SLF.pq 9 [] _,SLF.pq 10 [] _,SLF.pq 11 [0,1] _,SLF.pq 12 [2] _,SLF.pq 13 [3] _,SLF.pq 14 [4] _,SLF.pq 15 [4] _,SLF.pq 16 [4,5,6] _,SLF.pq 17 [4,7] _,SLF.pq 18 [4,8] _,SLF.pq 19 [9] _,SLF.pq 20 [10] _,SLF.pq 21 [10,11] _,SLF.pq 22 [10,12] _,SLF.pq 23 [13] _,SLF.pq 24 [13] _,SLF.pq 25 [13,15] _,SLF.pq 26 [13,14,16] _,SLF.pq 27 [13] _,SLF.pq 28 [13] _,SLF.pq 29 [13,18,19] _,SLF.pq 30 [13,17,20] _,SLF.pq 31 [10,13,21] _,SLF.pq 32 [10,22] _] [23] ?hck ?hkp (fun _=>[]) ?hin ?hdj ?hfr ?ob ?en4
      case hm=>kernel_rfl
      case hin=>exact SL.none_held rfl
      case hdj=>simp
      case hfr=>intro us;simp only [SL.frame,SL.put'];simp;exact rfl
      case ob =>
       exact Z5u
      case hck=>kernel_rfl
      case hkp=>kernel_rfl
      exact Zu
     rcases Int.lt_or_le 122 ((s[j +1]).toNat:Int) with h2 | h2
     ·have e1:decide (((s[j +1]).toNat:Int)<97)=false:=by simp;omega
      have e2:decide ((122:Int)<((s[j +1]).toNat:Int))=true:=by simp;omega
      go_wp2_with fail
      apply SLG.rule0 ?hm [] [9,10,11,12,13,14,15,16,17,18,19,20,21,22,23,24,25,26,27,28,29,30,31,32] [SLF.pq 9 [] _,SLF.pq 10 [] _,SLF.pq 11 [0,1] _,SLF.pq 12 [2] _,SLF.pq 13 [3] _,SLF.pq 14 [4] _,SLF.pq 15 [4] _,SLF.pq 16 [4,5,6] _,SLF.pq 17 [4,7] _,SLF.pq 18 [4,8] _,SLF.pq 19 [9] _,SLF.pq 20 [10] _,SLF.pq 21 [10,11] _,SLF.pq 22 [10,12] _,SLF.pq 23 [13] _,SLF.pq 24 [13] _,SLF.pq 25 [13,15] _,SLF.pq 26 [13,14,16] _,SLF.pq 27 [13] _,SLF.pq 28 [13] _,SLF.pq 29 [13,18,19] _,SLF.pq 30 [13,17,20] _,SLF.pq 31 [10,13,21] _,SLF.pq 32 [10,22] _] [23] ?hck ?hkp (fun _=>[]) ?hin ?hdj ?hfr ?ob ?en5
      case hm=>kernel_rfl
      case hin=>exact SL.none_held rfl
      case hdj=>simp
      case hfr=>intro us;simp only [SL.frame,SL.put'];simp;exact rfl
      case ob =>
       exact Z5u
      case hck=>kernel_rfl
      case hkp=>kernel_rfl
      exact Zu
     rcases Int.lt_or_le ((s[j]).toNat:Int) ((s[j +1]).toNat:Int) with h3 | h3
     ·have e1:decide (((s[j +1]).toNat:Int)<97)=false:=by simp;omega
      have e2:decide ((122:Int)<((s[j +1]).toNat:Int))=false:=by simp;omega
      have e3:decide (((s[j +1]).toNat:Int)≤((s[j]).toNat:Int))=false:=by simp;omega
      go_wp2_with fail
      apply SLG.rule0 ?hm [] [9,10,11,12,13,14,15,16,17,18,19,20,21,22,23,24,25,26,27,28,29,30,31,32] [SLF.pq 9 [] _,SLF.pq 10 [] _,SLF.pq 11 [0,1] _,SLF.pq 12 [2] _,SLF.pq 13 [3] _,SLF.pq 14 [4] _,SLF.pq 15 [4] _,SLF.pq 16 [4,5,6] _,SLF.pq 17 [4,7] _,SLF.pq 18 [4,8] _,SLF.pq 19 [9] _,SLF.pq 20 [10] _,SLF.pq 21 [10,11] _,SLF.pq 22 [10,12] _,SLF.pq 23 [13] _,SLF.pq 24 [13] _,SLF.pq 25 [13,15] _,SLF.pq 26 [13,14,16] _,SLF.pq 27 [13] _,SLF.pq 28 [13] _,SLF.pq 29 [13,18,19] _,SLF.pq 30 [13,17,20] _,SLF.pq 31 [10,13,21] _,SLF.pq 32 [10,22] _] [23] ?hck ?hkp (fun _=>[]) ?hin ?hdj ?hfr ?ob ?en6
      case hm=>kernel_rfl
      case hin=>exact SL.none_held rfl
      case hdj=>simp
      case hfr=>intro us;simp only [SL.frame,SL.put'];simp;exact rfl
      case ob =>
       exact Z5u
      case hck=>kernel_rfl
      case hkp=>kernel_rfl
      intro us w7 Fs hG hu hbd hd
      simp [SL.Used,SLF.pq] at hu
      obtain ⟨h33,_⟩:=hu
      rw [h33]
      have hB7:Below wr.heap.size wr w7:=hG.below'
      clear hG hbd hd h33
      go_wp2
      go_roundw
      case rel=>exact ⟨j +1 +1,by omega,by go_num,by rw [Hsu.out,Hall.out,← Hb.out,← Hb2.out];grind,hB.ch2 hB7⟩
      case measure=>simp [RowKit.intOf];omega
     ·have e1:decide (((s[j +1]).toNat:Int)<97)=false:=by simp;omega
      have e2:decide ((122:Int)<((s[j +1]).toNat:Int))=false:=by simp;omega
      have e3:decide (((s[j +1]).toNat:Int)≤((s[j]).toNat:Int))=true:=by simp;omega
      go_wp2_with fail
      apply SLG.rule0 ?hm [] [9,10,11,12,13,14,15,16,17,18,19,20,21,22,23,24,25,26,27,28,29,30,31,32] [SLF.pq 9 [] _,SLF.pq 10 [] _,SLF.pq 11 [0,1] _,SLF.pq 12 [2] _,SLF.pq 13 [3] _,SLF.pq 14 [4] _,SLF.pq 15 [4] _,SLF.pq 16 [4,5,6] _,SLF.pq 17 [4,7] _,SLF.pq 18 [4,8] _,SLF.pq 19 [9] _,SLF.pq 20 [10] _,SLF.pq 21 [10,11] _,SLF.pq 22 [10,12] _,SLF.pq 23 [13] _,SLF.pq 24 [13] _,SLF.pq 25 [13,15] _,SLF.pq 26 [13,14,16] _,SLF.pq 27 [13] _,SLF.pq 28 [13] _,SLF.pq 29 [13,18,19] _,SLF.pq 30 [13,17,20] _,SLF.pq 31 [10,13,21] _,SLF.pq 32 [10,22] _] [23] ?hck ?hkp (fun _=>[]) ?hin ?hdj ?hfr ?ob ?en7
      case hm=>kernel_rfl
      case hin=>exact SL.none_held rfl
      case hdj=>simp
      case hfr=>intro us;simp only [SL.frame,SL.put'];simp;exact rfl
      case ob =>
       exact Z5u
      case hck=>kernel_rfl
      case hkp=>kernel_rfl
      exact Zu
  ·have hf:=ascN_allS (s:=s) (k:=k) (by omega)
   rw [hall] at hf
   have Hf:=Lib.hid hf
   clear hall hf
   go_wp2_with fail
   go_ret
   exact ⟨ret_bool (by rw [← HT.out];unfold setS;rw [← Hf.out,ByteArray.toList_eq,Bool.true_and]),hB⟩
end Go.Proofs.YtelkcohhagblaaaGreat

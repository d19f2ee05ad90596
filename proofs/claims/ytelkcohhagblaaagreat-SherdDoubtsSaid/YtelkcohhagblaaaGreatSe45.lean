/- What the functions answer, for every input. -/
import Derived.Test.YtelkcohhagblaaaGreatSe02
import Derived.Test.YtelkcohhagblaaaGreatSe06
import Derived.Test.YtelkcohhagblaaaGreatSe07
import Derived.Test.YtelkcohhagblaaaGreatSe08
import Derived.Test.YtelkcohhagblaaaGreatSe04
import Derived.Test.YtelkcohhagblaaaGreatSe10
import Derived.Test.YtelkcohhagblaaaGreatSe24
import Derived.Test.YtelkcohhagblaaaGreatSe03
import Derived.Test.YtelkcohhagblaaaGreatSe25
import Derived.Test.YtelkcohhagblaaaGreatSe26
import Derived.Test.YtelkcohhagblaaaGreatSe27
import Derived.Test.YtelkcohhagblaaaGreatSe35
set_option linter.unusedSimpArgs false
set_option linter.unusedVariables false
set_option linter.unnecessarySimpa false
namespace Go.Proofs.YtelkcohhagblaaaGreat
theorem Z83 {P:Prop}(h:P:=by
 refine ⟨?_,?_,?_,?_,?_,?_,?_,?_,?_,?_,?_,?_,?_,?_,?_,?_,?_,?_,?_,?_,?_,?_,?_,?_,trivial⟩
 all_goals first
  | (intro us w' Fe hG hu hd hv Kx hK
     try dsimp only
     simp [SL.O] at hu hK
     have hB5:Below wr.heap.size wr w':=hG.below'
     exact Z7v)
  | skip):P:=h
theorem Z8e {P:Prop}(h:P:=by
 intro us w7 Fs hG hu hbd hd
 simp [SL.Used,SLF.pq] at hu
 obtain ⟨h33,_⟩:=hu
 rw [h33]
 have hB7:Below wr.heap.size wr w7:=hG.below'
 clear hG hbd hd h33
 go_wp2
 go_ret
 exact ⟨ret_bool (by rw [← HT.out,HP.out (by rw [Hsu.out,← Hb.out,← Hb2.out];grind)]),hB.ch2 hB7⟩):P:=h
theorem Z8k {P:Prop}(h:P:=by
 intro us w7 Fs hG hu hbd hd
 simp [SL.Used,SLF.pq] at hu
 obtain ⟨h33,_⟩:=hu
 rw [h33]
 have hB7:Below wr.heap.size wr w7:=hG.below'
 clear hG hbd hd h33
 go_wp2
 go_ret
 exact ⟨ret_bool (by rw [← HT.out,HP.out (by rw [Hsu.out,← Hb.out];grind)]),hB.ch2 hB7⟩):P:=h
theorem Z8l {P:Prop}(h:P:=by
 as_aux_lemma =>
 go_wp2_with (first | (go_at_call 80;(with_reducible refine hm.mono ?_);rintro e w1 ⟨rfl,rfl⟩) | (go_at_call 185;(with_reducible refine hg.mono ?_);rintro e w1 ⟨rfl,rfl⟩))
 go_round
 case rel=>exact ⟨k +1,by omega,by go_num,by rw [Hs.out];simp⟩
 case measure=>simp [RowKit.intOf];omega):P:=h
theorem Z8p {P:Prop}(h:P:=by
 as_aux_lemma =>
 go_wp2_with (go_at_call 80;(with_reducible refine hm.mono ?_);rintro e w1 ⟨rfl,rfl⟩)
 go_round
 case rel=>exact ⟨k +1,by omega,by go_num,by rw [Hs.out];simp⟩
 case measure=>simp [RowKit.intOf];omega):P:=h
theorem Z8v {P:Prop}(h:P:=by
 as_aux_lemma =>
 go_wp2_with fail
 go_round
 case rel=>exact ⟨k +1,by omega,by go_num,Hn.out rfl⟩
 case measure=>simp [RowKit.intOf];omega):P:=h
theorem Z9d {P:Prop}(h:P:=by
 simp [results,Tryz.results138,go_sem]):P:=h
open Go.RowKit
theorem BdsAt.nilAt (w:World):BdsAt w none 0 0 []:=⟨rfl,by simp,fun _=>⟨rfl,rfl⟩,fun x h=>by cases h⟩
theorem RowAt.nilAt (w:World):RowAt w none 0 []:=⟨fun _=>⟨rfl,rfl⟩,fun x h=>by cases h⟩
theorem IntsAt.nilAt (w:World):IntsAt w none 0 0 []:=⟨rfl,by simp,RowAt.nilAt w⟩
open Go
def ownM (l:List Itm) (id:Int):Nat:=(l.filter fun x=>measB x.kd && (x.sh == id && !voidB l x.id)).length
theorem itemB_sh1 {x:Itm} (h:itemB x=true) (h7:measB x.kd=true):1≤x.sh:=by
 unfold itemB kindB at h
 unfold measB at h7
 simp only [Bool.and_eq_true] at h
 have h2:=h.2.1
 simp at h7
 split at h2
 ·omega
 split at h2
 ·simp [rngB] at h2;omega
 split at h2
 ·simp [rngB] at h2;omega
 split at h2
 ·simp [rngB] at h2;omega
 split at h2
 ·simp [rngB] at h2;omega
 ·omega
theorem own_eq {l:List Itm} (h:∀ x ∈ l,itemB x=true) {id:Int} (hid:1≤id):ownM l id=ownN l id:=by
 unfold ownM ownN standL
 rw [List.filter_filter]
 congr 1
 apply List.filter_congr
 intro x hx
 have hi:=h x hx
 cases hm:measB x.kd
 ·have:=itemB_sh hi hm
  have h2:(x.sh == id)=false:=by simp;omega
  simp [h2]
 ·have h7:(x.kd != 7)=true:=by unfold measB at hm;simp at hm;simp;omega
  simp [h7]
open Go
/-- The sherds in the order of the list. -/
def shdsL (s:List Itm):List Shd:=(s.filter fun x=>x.kd == 1).map Itm.shd
/-- A sherd put into a list by its Id. -/
def putS (l:List Shd) (x:Shd):List Shd:=l.takeWhile (fun y=>decide (y.id≤x.id)) ++x::l.dropWhile fun y=>decide (y.id≤x.id)
def sortS (l:List Shd):List Shd:=l.foldl putS []
def sherdsL (s:List Itm):List Shd:=sortS (shdsL s)
/-- Each item's own sherd, if it is one. -/
theorem sherdO_own {s:List Itm} (h:s.Pairwise fun x y=>x.id≠y.id) {x:Itm} (hx:x ∈ s):sherdO s x.id=if x.kd=1 then some x.shd else none:=by
 unfold sherdO
 split
 ·rename_i h1
  cases hf:s.find? (fun y=>y.id == x.id && y.kd == 1) with
  | none =>
    have:=List.find?_eq_none.1 hf x hx
    simp [h1] at this
  | some y =>
    have hm:=List.mem_of_find?_eq_some hf
    have hp:=List.find?_some hf
    simp at hp
    rw [ids_inj h hm hx hp.1]
    rfl
 ·rename_i h1
  cases hf:s.find? (fun y=>y.id == x.id && y.kd == 1) with
  | none=>rfl
  | some y =>
    have hm:=List.mem_of_find?_eq_some hf
    have hp:=List.find?_some hf
    simp at hp
    have:=ids_inj h hm hx hp.1
    rw [this] at hp
    exact absurd hp.2 h1
theorem putS_perm (l:List Shd) (x:Shd):(putS l x).Perm (x::l):=by
 unfold putS
 have:=List.takeWhile_append_dropWhile (p:=fun y:Shd=>decide (y.id≤x.id)) (l:=l)
 conv=>rhs;rw [← this]
 exact List.perm_middle
theorem putS_sorted {l:List Shd} (h:l.Pairwise fun a b=>a.id≤b.id) (x:Shd):(putS l x).Pairwise fun a b=>a.id≤b.id:=by
 induction l with
 | nil=>simp [putS]
 | cons y l ih =>
   rw [List.pairwise_cons] at h
   have ih:=ih h.2
   by_cases hy:y.id≤x.id
   ·have e:putS (y::l) x=y::putS l x:=by simp [putS,hy]
    rw [e,List.pairwise_cons]
    refine ⟨fun z hz=>?_,ih⟩
    rcases List.mem_cons.1 ((putS_perm l x).mem_iff.1 hz) with rfl | hz
    ·exact hy
    ·exact h.1 z hz
   ·have e:putS (y::l) x=x::y::l:=by simp [putS,hy]
    rw [e,List.pairwise_cons]
    refine ⟨fun z hz=>?_,List.pairwise_cons.2 h⟩
    rcases List.mem_cons.1 hz with rfl | hz
    ·omega
    ·have:=h.1 z hz;omega
theorem sortS_go (l:List Shd):∀ (acc:List Shd),acc.Pairwise (fun a b=>a.id≤b.id)→(l.foldl putS acc).Perm (acc ++l)∧(l.foldl putS acc).Pairwise fun a b=>a.id≤b.id:=by
 induction l with
 | nil=>intro acc h;exact ⟨by simp,h⟩
 | cons x l ih =>
   intro acc h
   obtain ⟨h1,h2⟩:=ih (putS acc x) (putS_sorted h x)
   refine ⟨h1.trans ?_,h2⟩
   refine ((putS_perm acc x).append_right l).trans ?_
   simp only [List.cons_append]
   exact List.perm_middle.symm
theorem sortS_perm (l:List Shd):(sortS l).Perm l:=(sortS_go l [] (by simp)).1
theorem sortS_sorted (l:List Shd):(sortS l).Pairwise fun a b=>a.id≤b.id:=(sortS_go l [] (by simp)).2
theorem sortS_len (l:List Shd):(sortS l).length=l.length:=(sortS_perm l).length_eq
/-- With different Ids there is one order alone. -/
theorem sorted_one:∀ {l m:List Shd},l.Perm m→l.Pairwise (fun a b=>a.id≤b.id)→m.Pairwise (fun a b=>a.id≤b.id)→l.Pairwise (fun a b=>a.id≠b.id)→l=m
 | [],m,h,_,_,_=>(List.nil_perm.1 h).symm
 | x::l,[],h,_,_,_=>by have:=h.length_eq;simp at this
 | x::l,y::m,h,h1,h2,h3=>by
   have hxy:x=y:=by
    rw [List.pairwise_cons] at h1 h2 h3
    have hx:=h.mem_iff.1 (List.mem_cons_self (a:=x) (l:=l))
    have hy:=h.mem_iff.2 (List.mem_cons_self (a:=y) (l:=m))
    rcases List.mem_cons.1 hx with e | hx
    ·exact e
    rcases List.mem_cons.1 hy with e | hy
    ·exact e.symm
    have a1:=h2.1 x hx
    have a2:=h1.1 y hy
    have a3:=h3.1 y hy
    omega
   subst hxy
   rw [sorted_one (h.cons_inv) (List.pairwise_cons.1 h1).2 (List.pairwise_cons.1 h2).2 (List.pairwise_cons.1 h3).2]
theorem shdsL_ids {s:List Itm} (h:s.Pairwise fun x y=>x.id≠y.id):(shdsL s).Pairwise fun a b=>a.id≠b.id:=by
 unfold shdsL
 rw [List.pairwise_map]
 exact (h.filter _).imp fun h=>h
theorem find_perm {l m:List Shd} (hp:l.Perm m) (hd:l.Pairwise fun a b=>a.id≠b.id) (id:Int):l.find? (fun x=>x.id == id)=m.find? (fun x=>x.id == id):=by
 induction hp with
 | nil=>rfl
 | cons x _ ih =>
   rw [List.pairwise_cons] at hd
   simp only [List.find?_cons]
   rw [ih hd.2]
 | swap x y l =>
   rw [List.pairwise_cons,List.pairwise_cons] at hd
   simp only [List.find?_cons]
   have h:=hd.1 x (by simp)
   cases e1:x.id == id <;> cases e2:y.id == id <;> simp_all
 | trans h1 h2 ih1 ih2 =>
   rw [ih1 hd,ih2 (h1.pairwise hd fun h=>h.symm)]
/-- The sherd with an Id, found among the sherds. -/
theorem sherdO_sorted {s:List Itm} (h:s.Pairwise fun x y=>x.id≠y.id) (id:Int):(sherdsL s).find? (fun x=>x.id == id)=sherdO s id:=by
 unfold sherdsL
 rw [find_perm (sortS_perm _) ((sortS_perm _).symm.pairwise (shdsL_ids h) fun h=>h.symm)]
 unfold shdsL sherdO
 rw [List.find?_map,List.find?_filter]
 congr 2
 funext x
 simp [Itm.shd,Bool.and_comm]
 rfl
open Go Go.RowKit
theorem ItmsAt.nilAt (w:World):ItmsAt w none 0 0 []:=⟨rfl,by simp,RowAt.nilAt w,fun x hx=>by cases hx⟩
open Go.RowKit Go.Shelf
set_option maxHeartbeats 2000000
set_option maxRecDepth 100000
def allC (s:ByteArray) (k:Nat):Bool:=(s.data.toList.take k).all chrB
theorem allC_succ {s:ByteArray} {k:Nat} (h:k<s.size):allC s (k +1)=(allC s k && chrI (by_ s k)):=by
 unfold allC by_
 have h':k<s.data.toList.length:=by simpa using h
 rw [List.take_succ_eq_append_getElem h',List.all_append,List.getD_eq_getElem?_getD,List.getElem?_eq_getElem h']
 simp [chrB_I]
theorem allC_pre {s:ByteArray} {k:Nat} (h:allC s k=false):s.data.toList.all chrB=false:=by
 unfold allC at h
 rw [Bool.eq_false_iff] at h ⊢
 intro h2
 apply h
 rw [List.all_eq_true] at h2 ⊢
 exact fun x hx=>h2 x (List.mem_of_mem_take hx)
theorem allC_all {s:ByteArray} {k:Nat} (h:s.size≤k):allC s k=s.data.toList.all chrB:=by
 unfold allC
 rw [List.take_of_length_le Z3v]
open Go.RowKit Go.Shelf
set_option maxHeartbeats 4000000
set_option maxRecDepth 100000
theorem r2within_any (n a b:Int) (w:World):Calls Tryz.prog 78 #[.int .i64 n,.int .i64 a,.int .i64 b] w fun e w'=>e=.returned (.bool (rngB n a b))∧w=w':=by
 by_cases h1:a≤n <;>
 ·go_enter Tryz.func78,Tryz.ntmps78
  go_wp2
  go_ret
  exact ⟨by simp [rngB, *] <;> omega,rfl⟩
theorem r2measures_any (k:Int) (w:World):Calls Tryz.prog 80 #[.int .u8 k] w fun e w'=>e=.returned (.bool (measB k))∧w=w':=by
 by_cases h1:2≤k <;>
 ·go_enter Tryz.func80,Tryz.ntmps80
  go_wp2
  go_ret
  exact ⟨by simp [measB, *] <;> omega,rfl⟩
theorem void_succ {l:List Itm} {k:Nat} (hk:k<l.length) (id:Int):voidB (l.take (k +1)) id=(voidB (l.take k) id || ((l.getD k default).kd == 7 && (l.getD k default).vo == id)):=by
 unfold voidB
 rw [List.take_succ_eq_append_getElem hk,List.any_append,List.getD_eq_getElem?_getD,List.getElem?_eq_getElem hk]
 simp
theorem void_hit {l:List Itm} {k:Nat} (hk:k<l.length) {id:Int} (h:((l.getD k default).kd == 7 && (l.getD k default).vo == id)=true):voidB l id=true:=by
 unfold voidB
 rw [List.any_eq_true]
 exact ⟨_,Itm.mem hk,h⟩
theorem r2gone_any (a:Option Addr) (n cap:Nat) (l:List Itm) (id:Int) (w:World) (h:ItmsAt w a n cap l) :
 Calls Tryz.prog 185 #[.slice a n cap,.int .i64 id] w fun e w'=>e=.returned (.bool (voidB l id))∧w=w':=by
 have hsm:=h.small
 obtain rfl:=h.len
 go_enter Tryz.func185,Tryz.ntmps185
 go_wp2
 go_loop [5] (fun i=>∃ k:Nat,k≤l.length∧i=.int .i64 k∧voidB (l.take k) id=false) (fun i=>l.length - (RowKit.intOf i).toNat)
 case atStart=>exact ⟨0,Nat.zero_le _,rfl,rfl⟩
 case round =>
  obtain ⟨k,hk,rfl,hall⟩:=hrel
  have Hall:=Lib.hid hall
  clear hall
  have hnn:(0:Int)≤k:=by omega
  by_cases hlt:k<l.length
  ·have i1:(k:Int)<(l.length:Int):=by omega
   obtain ⟨b,o,rfl,_,hc⟩:=h.get hlt
   have d2:=hc.c2
   have d15:=hc.c15
   have Hs:=Lib.hid (void_succ hlt id)
   have Hh:=Lib.hid (void_hit (id:=id) hlt)
   clear hc
   generalize l.getD k default=x at *
   obtain ⟨B1,hB1⟩:∃ B,(x.kd == 7)=B:=⟨_,rfl⟩
   obtain ⟨B2,hB2⟩:∃ B,(x.vo == id)=B:=⟨_,rfl⟩
   rw [hB1,hB2] at Hs Hh
   cases B1 <;> cases B2
   all_goals
    go_wp2
    first
     | (go_round
        case rel=>exact ⟨k +1,by omega,by go_num,by rw [Hs.out,Hall.out];rfl⟩
        case measure=>simp [RowKit.intOf];omega)
     | (go_ret;exact ⟨ret_bool (Hh.out rfl).symm,rfl⟩)
  ·rw [List.take_of_length_le (by omega)] at Hall
   go_wp2
   go_ret
   exact ⟨ret_bool Hall.out.symm,rfl⟩
theorem findI_eq (l:List Itm) (id:Int):findI l id=l.find? fun x=>x.id == id && (x.kd != 7 && !voidB l id):=by
 unfold findI standL
 rw [List.find?_filter]
 congr 1
 funext x
 cases h:x.id == id
 ·simp [h]
 ·have:x.id=id:=by simpa using h
  rw [this]
  cases (x.kd != 7) <;> cases voidB l id <;> rfl
theorem r2find_any (a:Option Addr) (n cap:Nat) (l:List Itm) (id:Int) (w:World) (h:ItmsAt w a n cap l) :
 Calls Tryz.prog 138 #[.slice a n cap,.int .i64 id] w (FindPost w (findI l id)):=by
 have hsm:=h.small
 have hgo:=fun W (hh:ItmsAt W a n cap l)=>r2gone_any a n cap l id W hh
 obtain rfl:=h.len
 have HP:=Lib.hid (show ∀ (o:Option Itm) w',findI l id=o→Below w.heap.size w w'→∀ v,v=.tuple #[(o.getD Itm.zero).v,.bool o.isSome]→FindPost w (findI l id) (.returned v) w' from fun o w' h1 h2 v hv=>by rw [h1];exact ⟨by rw [hv],h2⟩)
 rw [findI_eq] at HP ⊢
 generalize hG:voidB l id=G at *
 generalize hO:(l.find? fun x=>x.id == id && (x.kd != 7 && !G))=O at *
 have HO:=Lib.hid hO
 generalize FindPost w O=Post at *
 simp only [Itm.v,Itm.cs] at HP
 clear hG hO
 have hbx:=h.below (one_alloc w (Obj.cells #[.int .i64 0,.int .i64 0,.int .u8 0,.string ⟨#[]⟩,.int .i64 0,.int .i64 0,.int .i64 0,.bool false,.int .i64 0,.int .i64 0,.int .i64 0,.int .i64 0,.int .i64 0,.string ⟨#[]⟩,.int .i64 0,.int .i64 0] 24))
 go_enter Tryz.func138,Tryz.ntmps138
 go_wp2_with fail
 go_loop [6] (fun i=>∃ k:Nat,k≤l.length∧i=.int .i64 k∧(l.take k).find? (fun x=>x.id == id && (x.kd != 7 && !G))=none) (fun i=>l.length - (RowKit.intOf i).toNat)
 case atStart=>exact ⟨0,Nat.zero_le _,rfl,rfl⟩
 case round =>
  obtain ⟨k,hk,rfl,hall⟩:=hrel
  have Hall:=Lib.hid hall
  have hnn:(0:Int)≤k:=by omega
  by_cases hlt:k<l.length
  ·have i1:(k:Int)<(l.length:Int):=by omega
   obtain ⟨b,o,rfl,_,⟨d0,d1,d2,d3,d4,d5,d6,d7,d8,d9,d10,d11,d12,d13,d14,d15⟩⟩:=hbx.get hlt
   have Hn:=Lib.hid (find_none_take hlt hall)
   have Hs:=Lib.hid (find_some_at hlt hall)
   clear hall
   generalize l.getD k default=x at *
   obtain ⟨B1,hB1⟩:∃ B,(x.id == id)=B:=⟨_,rfl⟩
   obtain ⟨B2,hB2⟩:∃ B,(x.kd != 7)=B:=⟨_,rfl⟩
   simp only [hB1,hB2] at Hn Hs
   have hB1':decide (x.id=id)=B1:=by rw [← hB1];rfl
   cases B1
   ·exact Z8v
   cases B2
   ·exact Z8v
   cases G
   rotate_left
   ·as_aux_lemma =>
    go_wp2_with (go_at_call 185;refine (hgo _ hbx).mono ?_;rintro e w1 ⟨rfl,rfl⟩)
    go_round
    case rel=>exact ⟨k +1,by omega,by go_num,Hn.out rfl⟩
    case measure=>simp [RowKit.intOf];omega
   as_aux_lemma =>
   go_wp2_with (go_at_call 185;refine (hgo _ hbx).mono ?_;rintro e w1 ⟨rfl,rfl⟩)
   have hb:=one_alloc w (Obj.cells #[.int .i64 x.id,.int .i64 x.kn,.int .u8 x.kd,.string x.wa,.int .i64 x.pit,.int .i64 x.ly,.int .i64 x.co,.bool x.ft,.int .i64 x.sh,.int .i64 x.fr,.int .i64 x.tw,.int .i64 x.lo,.int .i64 x.hi,.string x.st,.int .i64 x.li,.int .i64 x.vo] 24)
   exact bodyPost_ret (v:=.tuple #[.agg #[.int .i64 x.id,.int .i64 x.kn,.int .u8 x.kd,.string x.wa,.int .i64 x.pit,.int .i64 x.ly,.int .i64 x.co,.bool x.ft,.int .i64 x.sh,.int .i64 x.fr,.int .i64 x.tw,.int .i64 x.lo,.int .i64 x.hi,.string x.st,.int .i64 x.li,.int .i64 x.vo],.bool true]) Z9d rfl (HP.out (some x) _ (HO.out.symm.trans (Hs.out rfl)) hb _ rfl)
  ·rw [List.take_of_length_le (by omega),HO.out] at Hall
   have hn:=Hall.out
   subst hn
   go_wp2
   exact bodyPost_ret (v:=.tuple #[.agg #[.int .i64 0,.int .i64 0,.int .u8 0,.string ⟨#[]⟩,.int .i64 0,.int .i64 0,.int .i64 0,.bool false,.int .i64 0,.int .i64 0,.int .i64 0,.int .i64 0,.int .i64 0,.string ⟨#[]⟩,.int .i64 0,.int .i64 0],.bool false]) Z9d rfl (HP.out none _ rfl (one_alloc w _) _ rfl)
open Go.RowKit
/-- A callee's contract, in a round of a range over a function. -/
theorem heap_chg_w {w w':World} {N:Nat} {o:Obj} {E:List Nat} (h:w.heap[N]?=some o) (hc:SL.Chg E w w') (hE:N ∉ E):w'.heap[N]?=some o :=
 (hc.block N (Array.getElem?_eq_some_iff.1 h).1 hE).trans h
open Go.RowKit Go.Shelf
set_option maxHeartbeats 4000000
set_option maxRecDepth 100000
theorem take_get {α:Type} [Inhabited α] {l:List α} {k:Nat} (hk:k<l.length):l.take (k +1)=l.take k ++[l.getD k default]:=by
 rw [List.take_succ_eq_append_getElem hk]
 simp [List.getD_eq_getElem?_getD,List.getElem?_eq_getElem hk]
open Go.RowKit Go.Shelf
theorem insI_len (x:Int) (l:List Int):(insI x l).length≤l.length +1:=by
 induction l with
 | nil=>simp [insI]
 | cons y l ih =>
   unfold insI
   split
   ·simp;omega
   ·split <;> simp
def uniN (l:List Int) (k:Nat):List Int:=ascOf (l.take k)
theorem uniN_succ {l:List Int} {k:Nat} (hk:k<l.length):uniN l (k +1)=insI (l.getD k 0) (uniN l k):=by
 unfold uniN ascOf
 rw [take_get hk,List.foldl_append]
 rfl
theorem uniN_len (l:List Int) (k:Nat):(uniN l k).length≤k:=by
 induction k with
 | zero=>simp [uniN,ascOf]
 | succ k ih =>
   rcases Nat.lt_or_ge k l.length with h | h
   ·rw [uniN_succ h]
    have:=insI_len (l.getD k 0) (uniN l k)
    omega
   ·have:uniN l (k +1)=uniN l k:=by
     unfold uniN
     rw [List.take_of_length_le (by omega),List.take_of_length_le (by omega)]
    rw [this];omega
theorem uniN_all (l:List Int):uniN l l.length=ascOf l:=by unfold uniN;rw [List.take_length]
open Go.RowKit Go.Shelf
set_option maxHeartbeats 4000000
set_option maxRecDepth 100000
theorem r2classes_any (s:ByteArray) (w:World) (hs:s.size≤maxLen) :
 Calls Tryz.prog 81 #[.string s] w fun e w'=>e=.returned (.bool (ascS s.data.toList))∧Below w.heap.size w w':=by
 unfold maxLen at hs
 obtain ⟨T,hT⟩:∃ T,ascS s.data.toList=T:=⟨_,rfl⟩
 have HT:=Lib.hid hT
 rw [hT]
 clear hT
 go_enter Tryz.func81,Tryz.ntmps81
 go_wp2_with fail
 go_loopw [3] (fun i wr=>∃ k:Nat,k≤s.size∧i=.int .i64 k∧ascN s.data.toList k=true∧Below w.heap.size w wr) (fun i _=>s.size - (RowKit.intOf i).toNat)
 case atStart=>exact ⟨0,Nat.zero_le _,rfl,rfl,Below.refl _ _⟩
 case round =>
  obtain ⟨k,hk,rfl,hall,hB⟩:=hrel
  by_cases hlt:k<s.size
  ·have HP:=Lib.hid (@ascN_preS s (k +1) hlt)
   have Hb:=Lib.hid (by_at hlt)
   have Hall:=Lib.hid hall
   have hc0:(0:Int)≤(s[k]).toNat:=by omega
   have hc9:((s[k]).toNat:Int)≤255:=by have:=(s[k]).toNat_lt;omega
   clear hall
   cases k with
   | zero =>
     have Hsu:=Lib.hid (asc_succ0 s)
     rcases Int.lt_or_le ((s[0]).toNat:Int) 97 with h1 | h1
     ·have e1:decide (((s[0]).toNat:Int)<97)=true:=by simp;omega
      go_wp2_with fail
      apply SLG.rule0 ?hm [] [10,11,12,13,14,15,16,17,18,19,20,21,22,23,24,25,26,27,28,29,30,31,32,33] [SLF.pq 10 [] _,SLF.pq 11 [] _,SLF.pq 12 [0,1] _,SLF.pq 13 [2] _,SLF.pq 14 [3] _,SLF.pq 15 [4] _,SLF.pq 16 [4] _,SLF.pq 17 [4,5,6] _,SLF.pq 18 [4,7] _,SLF.pq 19 [4,8] _,SLF.pq 20 [9] _,SLF.pq 21 [10] _,SLF.pq 22 [10,11] _,SLF.pq 23 [10,12] _,SLF.pq 24 [13] _,SLF.pq 25 [13] _,SLF.pq 26 [13,14,15] _,SLF.pq 27 [13] _,SLF.pq 28 [13] _,SLF.pq 29 [13,18] _,SLF.pq 30 [13,17,19] _,SLF.pq 31 [13,16,20] _,SLF.pq 32 [10,13,21] _,SLF.pq 33 [10,22] _] [23] ?hck ?hkp (fun _=>[]) ?hin ?hdj ?hfr ?ob ?en1
      case hm=>kernel_rfl
      case hin=>exact SL.none_held rfl
      case hdj=>simp
      case hfr=>intro us;simp only [SL.frame,SL.put'];simp;exact rfl
      case ob =>
       exact Z83
      case hck=>kernel_rfl
      case hkp=>kernel_rfl
      exact Z8k
     rcases Int.lt_or_le 122 ((s[0]).toNat:Int) with h2 | h2
     ·have e1:decide (((s[0]).toNat:Int)<97)=false:=by simp;omega
      have e2:decide ((122:Int)<((s[0]).toNat:Int))=true:=by simp;omega
      go_wp2_with fail
      apply SLG.rule0 ?hm [] [10,11,12,13,14,15,16,17,18,19,20,21,22,23,24,25,26,27,28,29,30,31,32,33] [SLF.pq 10 [] _,SLF.pq 11 [] _,SLF.pq 12 [0,1] _,SLF.pq 13 [2] _,SLF.pq 14 [3] _,SLF.pq 15 [4] _,SLF.pq 16 [4] _,SLF.pq 17 [4,5,6] _,SLF.pq 18 [4,7] _,SLF.pq 19 [4,8] _,SLF.pq 20 [9] _,SLF.pq 21 [10] _,SLF.pq 22 [10,11] _,SLF.pq 23 [10,12] _,SLF.pq 24 [13] _,SLF.pq 25 [13] _,SLF.pq 26 [13,14,15] _,SLF.pq 27 [13] _,SLF.pq 28 [13] _,SLF.pq 29 [13,18] _,SLF.pq 30 [13,17,19] _,SLF.pq 31 [13,16,20] _,SLF.pq 32 [10,13,21] _,SLF.pq 33 [10,22] _] [23] ?hck ?hkp (fun _=>[]) ?hin ?hdj ?hfr ?ob ?en2
      case hm=>kernel_rfl
      case hin=>exact SL.none_held rfl
      case hdj=>simp
      case hfr=>intro us;simp only [SL.frame,SL.put'];simp;exact rfl
      case ob =>
       exact Z83
      case hck=>kernel_rfl
      case hkp=>kernel_rfl
      exact Z8k
     ·have e1:decide (((s[0]).toNat:Int)<97)=false:=by simp;omega
      have e2:decide ((122:Int)<((s[0]).toNat:Int))=false:=by simp;omega
      go_wp2_with fail
      apply SLG.rule0 ?hm [] [10,11,12,13,14,15,16,17,18,19,20,21,22,23,24,25,26,27,28,29,30,31,32,33] [SLF.pq 10 [] _,SLF.pq 11 [] _,SLF.pq 12 [0,1] _,SLF.pq 13 [2] _,SLF.pq 14 [3] _,SLF.pq 15 [4] _,SLF.pq 16 [4] _,SLF.pq 17 [4,5,6] _,SLF.pq 18 [4,7] _,SLF.pq 19 [4,8] _,SLF.pq 20 [9] _,SLF.pq 21 [10] _,SLF.pq 22 [10,11] _,SLF.pq 23 [10,12] _,SLF.pq 24 [13] _,SLF.pq 25 [13] _,SLF.pq 26 [13,14,15] _,SLF.pq 27 [13] _,SLF.pq 28 [13] _,SLF.pq 29 [13,18] _,SLF.pq 30 [13,17,19] _,SLF.pq 31 [13,16,20] _,SLF.pq 32 [10,13,21] _,SLF.pq 33 [10,22] _] [23] ?hck ?hkp (fun _=>[]) ?hin ?hdj ?hfr ?ob ?en3
      case hm=>kernel_rfl
      case hin=>exact SL.none_held rfl
      case hdj=>simp
      case hfr=>intro us;simp only [SL.frame,SL.put'];simp;exact rfl
      case ob =>
       exact Z83
      case hck=>kernel_rfl
      case hkp=>kernel_rfl
      intro us w7 Fs hG hu hbd hd
      simp [SL.Used,SLF.pq] at hu
      obtain ⟨h33,_⟩:=hu
      rw [h33]
      have hB7:Below wr.heap.size wr w7:=hG.below'
      clear hG hbd hd h33
      go_wp2
      go_roundw
      case rel=>exact ⟨1,by omega,by go_num,by rw [Hsu.out,← Hb.out];grind,hB.ch2 hB7⟩
      case measure=>simp [RowKit.intOf];omega
   | succ j =>
     have hnn:(0:Int)≤j:=by omega
     have hj:j<s.size:=by omega
     have Hb2:=Lib.hid (by_at hj)
     have hc1:(0:Int)≤(s[j]).toNat:=by omega
     have hc8:((s[j]).toNat:Int)≤255:=by have:=(s[j]).toNat_lt;omega
     have hwr:IntKind.i64.wrap ((j:Int) +1 - 1)=j:=by rw [show (j:Int) +1 - 1=j by omega];exact IntWalk.i64_in _ (by omega)
     have Hsu:=Lib.hid (asc_succ1 s j)
     rcases Int.lt_or_le ((s[j +1]).toNat:Int) 97 with h1 | h1
     ·have e1:decide (((s[j +1]).toNat:Int)<97)=true:=by simp;omega
      go_wp2_with fail
      apply SLG.rule0 ?hm [] [10,11,12,13,14,15,16,17,18,19,20,21,22,23,24,25,26,27,28,29,30,31,32,33] [SLF.pq 10 [] _,SLF.pq 11 [] _,SLF.pq 12 [0,1] _,SLF.pq 13 [2] _,SLF.pq 14 [3] _,SLF.pq 15 [4] _,SLF.pq 16 [4] _,SLF.pq 17 [4,5,6] _,SLF.pq 18 [4,7] _,SLF.pq 19 [4,8] _,SLF.pq 20 [9] _,SLF.pq 21 [10] _,SLF.pq 22 [10,11] _,SLF.pq 23 [10,12] _,SLF.pq 24 [13] _,SLF.pq 25 [13] _,SLF.pq 26 [13,14,15] _,SLF.pq 27 [13] _,SLF.pq 28 [13] _,SLF.pq 29 [13,18] _,SLF.pq 30 [13,17,19] _,SLF.pq 31 [13,16,20] _,SLF.pq 32 [10,13,21] _,SLF.pq 33 [10,22] _] [23] ?hck ?hkp (fun _=>[]) ?hin ?hdj ?hfr ?ob ?en4
      case hm=>kernel_rfl
      case hin=>exact SL.none_held rfl
      case hdj=>simp
      case hfr=>intro us;simp only [SL.frame,SL.put'];simp;exact rfl
      case ob =>
       exact Z83
      case hck=>kernel_rfl
      case hkp=>kernel_rfl
      exact Z8e
     rcases Int.lt_or_le 122 ((s[j +1]).toNat:Int) with h2 | h2
     ·have e1:decide (((s[j +1]).toNat:Int)<97)=false:=by simp;omega
      have e2:decide ((122:Int)<((s[j +1]).toNat:Int))=true:=by simp;omega
      go_wp2_with fail
      apply SLG.rule0 ?hm [] [10,11,12,13,14,15,16,17,18,19,20,21,22,23,24,25,26,27,28,29,30,31,32,33] [SLF.pq 10 [] _,SLF.pq 11 [] _,SLF.pq 12 [0,1] _,SLF.pq 13 [2] _,SLF.pq 14 [3] _,SLF.pq 15 [4] _,SLF.pq 16 [4] _,SLF.pq 17 [4,5,6] _,SLF.pq 18 [4,7] _,SLF.pq 19 [4,8] _,SLF.pq 20 [9] _,SLF.pq 21 [10] _,SLF.pq 22 [10,11] _,SLF.pq 23 [10,12] _,SLF.pq 24 [13] _,SLF.pq 25 [13] _,SLF.pq 26 [13,14,15] _,SLF.pq 27 [13] _,SLF.pq 28 [13] _,SLF.pq 29 [13,18] _,SLF.pq 30 [13,17,19] _,SLF.pq 31 [13,16,20] _,SLF.pq 32 [10,13,21] _,SLF.pq 33 [10,22] _] [23] ?hck ?hkp (fun _=>[]) ?hin ?hdj ?hfr ?ob ?en5
      case hm=>kernel_rfl
      case hin=>exact SL.none_held rfl
      case hdj=>simp
      case hfr=>intro us;simp only [SL.frame,SL.put'];simp;exact rfl
      case ob =>
       exact Z83
      case hck=>kernel_rfl
      case hkp=>kernel_rfl
      exact Z8e
     rcases Int.lt_or_le ((s[j]).toNat:Int) ((s[j +1]).toNat:Int) with h3 | h3
     ·have e1:decide (((s[j +1]).toNat:Int)<97)=false:=by simp;omega
      have e2:decide ((122:Int)<((s[j +1]).toNat:Int))=false:=by simp;omega
      have e3:decide (((s[j +1]).toNat:Int)≤((s[j]).toNat:Int))=false:=by simp;omega
      go_wp2_with fail
      apply SLG.rule0 ?hm [] [10,11,12,13,14,15,16,17,18,19,20,21,22,23,24,25,26,27,28,29,30,31,32,33] [SLF.pq 10 [] _,SLF.pq 11 [] _,SLF.pq 12 [0,1] _,SLF.pq 13 [2] _,SLF.pq 14 [3] _,SLF.pq 15 [4] _,SLF.pq 16 [4] _,SLF.pq 17 [4,5,6] _,SLF.pq 18 [4,7] _,SLF.pq 19 [4,8] _,SLF.pq 20 [9] _,SLF.pq 21 [10] _,SLF.pq 22 [10,11] _,SLF.pq 23 [10,12] _,SLF.pq 24 [13] _,SLF.pq 25 [13] _,SLF.pq 26 [13,14,15] _,SLF.pq 27 [13] _,SLF.pq 28 [13] _,SLF.pq 29 [13,18] _,SLF.pq 30 [13,17,19] _,SLF.pq 31 [13,16,20] _,SLF.pq 32 [10,13,21] _,SLF.pq 33 [10,22] _] [23] ?hck ?hkp (fun _=>[]) ?hin ?hdj ?hfr ?ob ?en6
      case hm=>kernel_rfl
      case hin=>exact SL.none_held rfl
      case hdj=>simp
      case hfr=>intro us;simp only [SL.frame,SL.put'];simp;exact rfl
      case ob =>
       exact Z83
      case hck=>kernel_rfl
      case hkp=>kernel_rfl
      intro us w7 Fs hG hu hbd hd
      simp [SL.Used,SLF.pq] at hu
      obtain ⟨h33,_⟩:=hu
      rw [h33]
      have hB7:Below wr.heap.size wr w7:=hG.below'
      clear hG hbd hd h33
      go_wp2
      go_roundw
      case rel=>exact ⟨j +1 +1,by omega,by go_num,by rw [Hsu.out,Hall.out,← Hb.out,← Hb2.out];grind,hB.ch2 hB7⟩
      case measure=>simp [RowKit.intOf];omega
     ·have e1:decide (((s[j +1]).toNat:Int)<97)=false:=by simp;omega
      have e2:decide ((122:Int)<((s[j +1]).toNat:Int))=false:=by simp;omega
      have e3:decide (((s[j +1]).toNat:Int)≤((s[j]).toNat:Int))=true:=by simp;omega
      go_wp2_with fail
      apply SLG.rule0 ?hm [] [10,11,12,13,14,15,16,17,18,19,20,21,22,23,24,25,26,27,28,29,30,31,32,33] [SLF.pq 10 [] _,SLF.pq 11 [] _,SLF.pq 12 [0,1] _,SLF.pq 13 [2] _,SLF.pq 14 [3] _,SLF.pq 15 [4] _,SLF.pq 16 [4] _,SLF.pq 17 [4,5,6] _,SLF.pq 18 [4,7] _,SLF.pq 19 [4,8] _,SLF.pq 20 [9] _,SLF.pq 21 [10] _,SLF.pq 22 [10,11] _,SLF.pq 23 [10,12] _,SLF.pq 24 [13] _,SLF.pq 25 [13] _,SLF.pq 26 [13,14,15] _,SLF.pq 27 [13] _,SLF.pq 28 [13] _,SLF.pq 29 [13,18] _,SLF.pq 30 [13,17,19] _,SLF.pq 31 [13,16,20] _,SLF.pq 32 [10,13,21] _,SLF.pq 33 [10,22] _] [23] ?hck ?hkp (fun _=>[]) ?hin ?hdj ?hfr ?ob ?en7
      case hm=>kernel_rfl
      case hin=>exact SL.none_held rfl
      case hdj=>simp
      case hfr=>intro us;simp only [SL.frame,SL.put'];simp;exact rfl
      case ob =>
       exact Z83
      case hck=>kernel_rfl
      case hkp=>kernel_rfl
      exact Z8e
  ·have hf:=ascN_allS (s:=s) (k:=k) (by omega)
   rw [hall] at hf
   have Hf:=Lib.hid hf
   clear hall hf
   go_wp2
   go_ret
   exact ⟨ret_bool (by rw [← HT.out,← Hf.out]),hB⟩
open Go.RowKit
set_option maxHeartbeats 1000000
open Go
open Go.RowKit Go.Shelf
set_option maxHeartbeats 40000000
set_option maxRecDepth 100000
theorem ascOf_len (l:List Int):(ascOf l).length≤l.length:=by rw [← uniN_all];exact uniN_len l l.length
end Go.Proofs.YtelkcohhagblaaaGreat
namespace Go.Proofs
open Go.Shelf
end Go.Proofs
namespace Go.Proofs.YtelkcohhagblaaaGreat
open Go.RowKit Go.Shelf
set_option maxHeartbeats 1000000
theorem Tells.later {w0 w1:World} {k:Nat} {caps:Array Value} {p:Bd→Bool} (h:Tells w0 k caps p) (hb:Below w0.heap.size w0 w1):Tells w1 k caps p :=
 ⟨h.ent,fun w b hw=>h.tell w b (hb.trans (hw.mono hb.size))⟩
open Go.RowKit Go.Shelf
set_option maxHeartbeats 4000000
set_option maxRecDepth 100000
open Go.RowKit Go.Shelf
set_option maxHeartbeats 1000000
set_option maxRecDepth 100000
open Go.RowKit Go.Shelf
set_option maxHeartbeats 4000000
set_option maxRecDepth 100000
open Go.RowKit Go.Shelf
set_option maxHeartbeats 1000000
set_option maxRecDepth 100000
open Go
open Go
theorem way_ok {l:List Itm} {day id fr tw:Int} (h:wayE l day id fr tw=0):WayOk l day id fr tw:=by
 unfold wayE at h
 split at h
 ·rename_i h0
  split at h
  ·rename_i h1
   split at h
   ·rename_i h2
    exact ⟨look_ok h0,h1.1,h1.2.1,h1.2.2,h2⟩
   ·omega
  ·omega
 ·contradiction
open Go
open Go.RowKit Go.Shelf
set_option maxHeartbeats 8000000
set_option maxRecDepth 100000
open Go.RowKit Go.Shelf
set_option maxHeartbeats 4000000
set_option maxRecDepth 100000
/-- Measurements of a sherd among the first items that stand in the whole list. -/
def ownK (l:List Itm) (id:Int) (k:Nat):Int:=(((l.take k).filter fun x=>measB x.kd && (x.sh == id && !voidB l x.id)).length:Int)
theorem ownK_succ {l:List Itm} {k:Nat} (hk:k<l.length) (id:Int):ownK l id (k +1)=ownK l id k +(if (measB (l.getD k default).kd && ((l.getD k default).sh == id && !voidB l (l.getD k default).id))=true then 1 else 0):=by
 unfold ownK
 rw [List.take_succ_eq_append_getElem hk,List.getD_eq_getElem?_getD,List.getElem?_eq_getElem hk,List.filter_append,List.length_append]
 simp only [Option.getD_some,List.filter_cons,List.filter_nil]
 split <;> simp
theorem ownK_le (l:List Itm) (id:Int) (k:Nat):0≤ownK l id k∧ownK l id k≤k:=by
 unfold ownK
 refine ⟨by omega,?_⟩
 have h1:=List.length_filter_le (fun x=>measB x.kd && (x.sh == id && !voidB l x.id)) (l.take k)
 rw [List.length_take] at h1
 omega
theorem r2own_any (a:Option Addr) (n cap:Nat) (l:List Itm) (id:Int) (w:World) (h:ItmsAt w a n cap l) :
 Calls Tryz.prog 139 #[.slice a n cap,.int .i64 id] w fun e w'=>e=.returned (.int .i64 (ownK l id l.length))∧w=w':=by
 have hsm:=h.small
 have hgo:=fun i W (hh:ItmsAt W a n cap l)=>r2gone_any a n cap l i W hh
 have hme:=fun k W=>r2measures_any k W
 obtain rfl:=h.len
 have HP:=Lib.hid (show ∀ v,v=ownK l id l.length→(Ending.returned (.int .i64 v))=.returned (.int .i64 (ownK l id l.length)) from fun v hv=>by rw [hv])
 generalize hZ:ownK l id l.length=Z at *
 have HZ:=Lib.hid hZ
 clear hZ
 go_enter Tryz.func139,Tryz.ntmps139
 go_wp2_with fail
 go_loop [5,6] (fun m i=>∃ k:Nat,k≤l.length∧i=.int .i64 k∧m=.int .i64 (ownK l id k)) (fun _ i=>l.length - (RowKit.intOf i).toNat)
 case atStart=>exact ⟨0,Nat.zero_le _,rfl,rfl⟩
 case round =>
  obtain ⟨k,hk,rfl,rfl⟩:=hrel
  have hnn:(0:Int)≤k:=by omega
  by_cases hlt:k<l.length
  ·have i1:(k:Int)<(l.length:Int):=by omega
   obtain ⟨b,o,rfl,_,hc⟩:=h.get hlt
   have d0:=hc.c0
   have d2:=hc.c2
   have d8:=hc.c8
   have Hs:=Lib.hid (ownK_succ hlt id)
   obtain ⟨q0,q1⟩:=ownK_le l id k
   clear hc
   generalize l.getD k default=x at *
   have hm:=hme x.kd w
   have hg:=hgo x.id w h
   obtain ⟨B1,hB1⟩:∃ B,measB x.kd=B:=⟨_,rfl⟩
   obtain ⟨B2,hB2⟩:∃ B,(x.sh == id)=B:=⟨_,rfl⟩
   obtain ⟨B3,hB3⟩:∃ B,voidB l x.id=B:=⟨_,rfl⟩
   rw [hB1] at hm
   rw [hB3] at hg
   rw [hB1,hB2,hB3] at Hs
   clear hB1 hB3
   generalize ownK l id k=m at *
   cases B1
   ·exact Z8p
   cases B2
   ·exact Z8p
   cases B3
   ·exact Z8l
   ·exact Z8l
  ·have hk2:k=l.length:=by omega
   subst hk2
   rw [HZ.out] at *
   exact Z4m
set_option maxHeartbeats 8000000
theorem r2name_any (s:ByteArray) (w:World) (hs:s.size≤maxLen) :
 Calls Tryz.prog 79 #[.string s] w fun e w'=>e=.returned (.bool (nameB s.data.toList))∧w'=w:=by
 unfold maxLen at hs
 have he:=nameB_eq s
 generalize nameB s.data.toList=T at *
 have He:=Lib.hid he
 clear he
 by_cases h0:0<s.size∧s.size≤24
 ·obtain ⟨h0,h1⟩:=h0
  have hb0:=Lib.hid (by_at h0)
  have hr0:(0:Int)≤(s[0]).toNat:=by omega
  go_enter Tryz.func79,Tryz.ntmps79
  go_wp2_with fail
  all_goals try
   go_ret
   refine ⟨ret_bool ?_,rfl⟩
   rw [He.out,← hb0.out]
   grind
  rename_i hc _ _
  have hz0:97≤((s[0]).toNat:Int)∧((s[0]).toNat:Int)≤122:=⟨by omega,by omega⟩
  rw [hb0.out] at hz0
  have Hz:=Lib.hid hz0
  clear hz0 hr0
  go_loop [3] (fun i=>∃ k:Nat,k≤s.size∧i=.int .i64 k∧allC s k=true) (fun i=>s.size - (RowKit.intOf i).toNat)
  case atStart=>exact ⟨0,Nat.zero_le _,rfl,rfl⟩
  case round =>
   obtain ⟨k,hk,rfl,hall⟩:=hrel
   by_cases hlt:k<s.size
   ·have hsu:=allC_succ hlt
    have hb:=by_at hlt
    rw [hall] at hsu
    have Hp:=@allC_pre s (k +1)
    have hnn:(0:Int)≤k:=by omega
    have hc0:(0:Int)≤(s[k]).toNat:=by omega
    have Hall:=Lib.hid hall
    have Hsu:=Lib.hid hsu
    have Hb:=Lib.hid hb
    have HP:=Lib.hid Hp
    clear hall hsu hb Hp hc
    go_wp2
    all_goals first
     | (go_ret
        refine ⟨ret_bool ?_,rfl⟩
        rw [He.out,HP.out (by rw [Hsu.out,← Hb.out];unfold chrI;grind)]
        simp;done)
     | (go_round
        case rel=>exact ⟨k +1,by omega,by go_num,by rw [Hsu.out,← Hb.out];unfold chrI;grind⟩
        case measure=>simp [RowKit.intOf];omega)
   ·have hf:=allC_all (s:=s) (k:=k) (by omega)
    rw [hall] at hf
    have Hf:=Lib.hid hf
    clear hall hf hc
    go_wp2
    go_ret
    refine ⟨ret_bool ?_,rfl⟩
    have z:=Hz.out
    rw [He.out,← Hf.out]
    have z1:decide (97≤by_ s 0)=true:=decide_eq_true z.1
    have z2:decide (by_ s 0≤122)=true:=decide_eq_true z.2
    have z3:decide (0<s.size)=true:=decide_eq_true h0
    have z4:decide (s.size≤24)=true:=decide_eq_true h1
    rw [z1,z2,z3,z4]
    rfl
 ·go_enter Tryz.func79,Tryz.ntmps79
  go_wp2
  all_goals
   go_ret
   refine ⟨ret_bool ?_,rfl⟩
   rw [He.out]
   grind
end Go.Proofs.YtelkcohhagblaaaGreat

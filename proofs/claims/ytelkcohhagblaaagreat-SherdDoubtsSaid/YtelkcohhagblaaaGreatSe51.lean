/- What the functions answer, for every input. -/
import Derived.Test.YtelkcohhagblaaaGreatSe45
import Derived.Test.YtelkcohhagblaaaGreatSe50
import Derived.Test.YtelkcohhagblaaaGreatSe26
import Derived.Test.YtelkcohhagblaaaGreatSe35
import Derived.Test.YtelkcohhagblaaaGreatSe49
import Derived.Test.YtelkcohhagblaaaGreatSe07
set_option linter.unusedSimpArgs false
set_option linter.unusedVariables false
set_option linter.unnecessarySimpa false
namespace Go.Proofs.YtelkcohhagblaaaGreat
theorem Z8h {P:Prop}(h:P:=by
 go_roundw
 case rel=>exact ⟨k +1,by omega,by go_num,by rw [Hs.out,List.length_append,bcs_append];exact HQ.out.1,HQ.out.2⟩
 case measure=>simp [RowKit.intOf];omega):P:=h
theorem Z8m {P:Prop}(h:P:=by
 simp [results,Tryz.results60,go_sem,q0,q1,q2,q3,q4,q5]):P:=h
theorem Z8o {P:Prop}(h:P:=by
 have hkc:k=c:=by omega
 subst hkc
 go_wp2_with fail
 exact HP.out _ _ hB hro):P:=h
open Go.RowKit Go.Shelf
set_option maxHeartbeats 8000000
set_option maxRecDepth 100000
theorem shd_get6 {w:World} {a:Option Addr} {cap:Nat} {l:List Shd} (h:RowAt w a cap (scs l)) {i:Nat} (hi:i<l.length):∃ b off,a=some ⟨b,off,none⟩∧b<w.heap.size∧w.cell? ⟨b,off +i * 6,none⟩=some (.int .i64 (l.getD i default).id)∧w.cell? ⟨b,off +i * 6 +1,none⟩=some (.string (l.getD i default).wa)∧w.cell? ⟨b,off +i * 6 +2,none⟩=some (.int .i64 (l.getD i default).pit)∧w.cell? ⟨b,off +i * 6 +3,none⟩=some (.int .i64 (l.getD i default).ly)∧w.cell? ⟨b,off +i * 6 +4,none⟩=some (.int .i64 (l.getD i default).co)∧w.cell? ⟨b,off +i * 6 +5,none⟩=some (.bool (l.getD i default).ft):=by
 have g:=fun j hj=>flatS_get (f:=Shd.cs) (k:=6) (fun _=>rfl) l i j hi hj
 obtain ⟨b,off,h1,h2,h3⟩:=rowS_cells h (by intro e;have:=scs_length l;rw [e] at this;simp at this;omega)
 exact ⟨b,off,h1,h2,h3 (i * 6 +0) _ ((g 0 (by omega)).trans rfl),h3 (i * 6 +1) _ ((g 1 (by omega)).trans rfl),h3 (i * 6 +2) _ ((g 2 (by omega)).trans rfl),h3 (i * 6 +3) _ ((g 3 (by omega)).trans rfl),h3 (i * 6 +4) _ ((g 4 (by omega)).trans rfl),h3 (i * 6 +5) _ ((g 5 (by omega)).trans rfl)⟩
theorem fnd_no {l:List Shd} {f:Shd→Bool} {k:Nat} (hk:k<l.length) (h:(l.take k).find? f=none) (hf:f (l.getD k default)=false):(l.take (k +1)).find? f=none:=by
 rw [List.take_succ_eq_append_getElem hk,List.find?_append,h]
 rw [List.getD_eq_getElem?_getD,List.getElem?_eq_getElem hk] at hf
 simpa using hf
theorem fnd_at {l:List Shd} {f:Shd→Bool} {k:Nat} (hk:k<l.length) (h:(l.take k).find? f=none) (hf:f (l.getD k default)=true):l.find? f=some (l.getD k default):=by
 have e:l=l.take k ++l[k]::l.drop (k +1):=by rw [List.getElem_cons_drop,List.take_append_drop]
 rw [List.getD_eq_getElem?_getD,List.getElem?_eq_getElem hk] at hf ⊢
 simp only [Option.getD_some] at hf ⊢
 conv=>lhs;rw [e]
 rw [List.find?_append,h,List.find?_cons,hf]
 rfl
theorem r2SherdOf_any (a:Option Addr) (n cap:Nat) (l:List Itm) (day id:Int) (w:World) (h:ItmsAt w a n cap l) (hcap:l.length≤cap) (hs:l.length≤1000) :
 Calls Tryz.prog 60 #[.slice a n cap,.int .i64 day,.int .i64 id] w fun e w'=>e=.returned (.tuple #[(lookZ l day id).v,.int .i64 (lookE l day id)])∧Below w.heap.size w w':=by
 have hB0:=one_alloc w (Obj.cells #[.int .i64 0,.string ⟨#[]⟩,.int .i64 0,.int .i64 0,.int .i64 0,.bool false] 72)
 have hR0:=World.alloc_heap_new w (Obj.cells #[.int .i64 0,.string ⟨#[]⟩,.int .i64 0,.int .i64 0,.int .i64 0,.bool false] 72)
 have hS:=r2Sherds_any a n cap l day _ (h.below hB0) hcap hs
 by_cases h0:(chkI l).2=0
 ·have hcat:=chk_ok.1 h0
  have hN:cntL l day=countL l day:=by unfold cntL;rw [if_pos h0]
  have hf:=sherdO_sorted (countL_ids hcat.ids day) id
  have hE:lookE l day id=if (sherdO (countL l day) id).isSome then 0 else 20:=by unfold lookE;rw [if_pos h0]
  have hZ:lookZ l day id=(sherdO (countL l day) id).getD Shd.zero:=by
   unfold lookZ lookS
   rw [hE]
   cases sherdO (countL l day) id <;> rfl
  have hlen:(sherdsL (countL l day)).length≤1000:=by
   unfold sherdsL
   rw [sortS_len]
   unfold shdsL
   rw [List.length_map]
   exact Nat.le_trans (List.length_filter_le _ _) (Nat.le_trans (countL_len l day) hs)
  rw [hN,h0] at hS
  rw [hE,hZ,← hf]
  clear hE hZ hN hcat h0 hf h
  generalize sherdsL (countL l day)=S at *
  obtain ⟨O,hO⟩:∃ O,S.find? (fun x=>x.id == id)=O:=⟨_,rfl⟩
  have HO:=Lib.hid hO
  rw [hO]
  clear hO
  simp only [Shd.v,Shd.cs]
  go_enter Tryz.func60,Tryz.ntmps60
  go_wp2_with (go_at_call 59;(with_reducible refine hS.mono ?_);rintro e w1 ⟨v,rfl,hb1,ho1⟩;obtain ⟨va,vc,rfl,_⟩:=owns_slice ho1)
  have hR1:=(hb1.block w.heap.size (by simp)).trans hR0
  have hB2:=hB0.ch2 hb1
  have hrow:=RowAt.of_owns ho1
  clear hb1 hB0 hR0 ho1 hS
  go_loop [10] (fun i=>∃ k:Nat,k≤S.length∧i=.int .i64 k∧(S.take k).find? (fun x=>x.id == id)=none) (fun i=>S.length - (RowKit.intOf i).toNat)
  case atStart=>exact ⟨0,Nat.zero_le _,rfl,rfl⟩
  case round =>
   obtain ⟨k,hk,rfl,hno⟩:=hrel
   have hnn:(0:Int)≤k:=by omega
   by_cases hlt:k<S.length
   ·have i1:(k:Int)<(S.length:Int):=by omega
    obtain ⟨b,o,rfl,hbz,c0,c1,c2,c3,c4,c5⟩:=shd_get6 hrow hlt
    have Hno:=Lib.hid (fnd_no (f:=fun x=>x.id == id) hlt hno)
    have Hat:=Lib.hid (fnd_at (f:=fun x=>x.id == id) hlt hno)
    clear hno hrow
    generalize S.getD k default=y at *
    cases hy:y.id == id with
    | false =>
      have hy2:decide (y.id=id)=false:=by simpa using hy
      have Hn:=Lib.hid (Hno.out hy)
      go_wp2_with fail
      go_round
      case rel=>exact ⟨k +1,by omega,by go_num,Hn.out⟩
      case measure=>simp [RowKit.intOf];omega
    | true =>
      have hy2:decide (y.id=id)=true:=by simpa using hy
      have hOy:O=some y:=HO.out.symm.trans (Hat.out hy)
      subst hOy
      obtain ⟨q0,q1,q2,q3,q4,q5,qf,ql⟩:=cell6 hR1
      go_wp2_with fail
      have hK6:=SLG.heap_set6 hR1 (.int .i64 y.id) (.string y.wa) (.int .i64 y.pit) (.int .i64 y.ly) (.int .i64 y.co) (.bool y.ft)
      have HB2:=hB2.trans ((SLG.chg_set6 (E:=[w.heap.size]) (N:=w.heap.size) w1 (by simp) (.int .i64 y.id) (.string y.wa) (.int .i64 y.pit) (.int .i64 y.ly) (.int .i64 y.co) (.bool y.ft)).belowE_w hB2.size (by simp))
      clear q0 q1 q2 q3 q4 q5 qf ql hR1
      obtain ⟨q0,q1,q2,q3,q4,q5,qf,ql⟩:=cell6 hK6
      clear hK6
      generalize (((((w1.setCell ⟨w.heap.size,0,none⟩ (.int .i64 y.id)).setCell ⟨w.heap.size,1,none⟩ (.string y.wa)).setCell ⟨w.heap.size,2,none⟩ (.int .i64 y.pit)).setCell ⟨w.heap.size,3,none⟩ (.int .i64 y.ly)).setCell ⟨w.heap.size,4,none⟩ (.int .i64 y.co)).setCell ⟨w.heap.size,5,none⟩ (.bool y.ft)=W at *
      exact bodyPost_ret (v:=.tuple #[.agg #[.int .i64 y.id,.string y.wa,.int .i64 y.pit,.int .i64 y.ly,.int .i64 y.co,.bool y.ft],.int .i64 0]) Z8m rfl ⟨rfl,HB2⟩
   ·rw [List.take_of_length_le (by omega)] at hno
    have hOn:O=none:=HO.out.symm.trans hno
    subst hOn
    obtain ⟨q0,q1,q2,q3,q4,q5,qf,ql⟩:=cell6 hR1
    go_wp2_with fail
    have hK6:=SLG.heap_set6 hR1 (.int .i64 0) (.string ⟨#[]⟩) (.int .i64 0) (.int .i64 0) (.int .i64 0) (.bool false)
    have HB2:=hB2.trans ((SLG.chg_set6 (E:=[w.heap.size]) (N:=w.heap.size) w1 (by simp) (.int .i64 0) (.string ⟨#[]⟩) (.int .i64 0) (.int .i64 0) (.int .i64 0) (.bool false)).belowE_w hB2.size (by simp))
    clear q0 q1 q2 q3 q4 q5 qf ql hR1
    obtain ⟨q0,q1,q2,q3,q4,q5,qf,ql⟩:=cell6 hK6
    clear hK6
    generalize (((((w1.setCell ⟨w.heap.size,0,none⟩ (.int .i64 0)).setCell ⟨w.heap.size,1,none⟩ (.string ⟨#[]⟩)).setCell ⟨w.heap.size,2,none⟩ (.int .i64 0)).setCell ⟨w.heap.size,3,none⟩ (.int .i64 0)).setCell ⟨w.heap.size,4,none⟩ (.int .i64 0)).setCell ⟨w.heap.size,5,none⟩ (.bool false)=W at *
    exact bodyPost_ret (v:=.tuple #[.agg #[.int .i64 0,.string ⟨#[]⟩,.int .i64 0,.int .i64 0,.int .i64 0,.bool false],.int .i64 20]) Z8m rfl ⟨rfl,HB2⟩
 ·have hE:lookE l day id=(chkI l).2:=by unfold lookE;rw [if_neg h0]
  have hZ:lookZ l day id=Shd.zero:=by unfold lookZ;rw [if_neg (by rw [hE];exact h0)]
  rw [hE,hZ]
  generalize (chkI l).2=C2 at *
  have e2:(C2 != 0)=true:=by simpa using h0
  clear h0 hE hZ h
  simp only [Shd.v,Shd.cs,Shd.zero]
  go_enter Tryz.func60,Tryz.ntmps60
  go_wp2_with (go_at_call 59;(with_reducible refine hS.mono ?_);rintro e w1 ⟨v,rfl,hb1,ho1⟩;obtain ⟨va,vc,rfl,_⟩:=owns_slice ho1;have hR1:=(hb1.block w.heap.size (by simp)).trans hR0;obtain ⟨q0,q1,q2,q3,q4,q5,qf,ql⟩:=cell6 hR1)
  have hB2:=hB0.ch2 hb1
  have hK6:=SLG.heap_set6 hR1 (.int .i64 0) (.string ⟨#[]⟩) (.int .i64 0) (.int .i64 0) (.int .i64 0) (.bool false)
  have HB2:=hB2.trans ((SLG.chg_set6 (E:=[w.heap.size]) (N:=w.heap.size) w1 (by simp) (.int .i64 0) (.string ⟨#[]⟩) (.int .i64 0) (.int .i64 0) (.int .i64 0) (.bool false)).belowE_w hB2.size (by simp))
  clear q0 q1 q2 q3 q4 q5 qf ql hR1
  obtain ⟨q0,q1,q2,q3,q4,q5,qf,ql⟩:=cell6 hK6
  clear hK6
  generalize (((((w1.setCell ⟨w.heap.size,0,none⟩ (.int .i64 0)).setCell ⟨w.heap.size,1,none⟩ (.string ⟨#[]⟩)).setCell ⟨w.heap.size,2,none⟩ (.int .i64 0)).setCell ⟨w.heap.size,3,none⟩ (.int .i64 0)).setCell ⟨w.heap.size,4,none⟩ (.int .i64 0)).setCell ⟨w.heap.size,5,none⟩ (.bool false)=W at *
  exact bodyPost_ret (v:=.tuple #[.agg #[.int .i64 0,.string ⟨#[]⟩,.int .i64 0,.int .i64 0,.int .i64 0,.bool false],.int .i64 C2]) Z8m rfl ⟨rfl,HB2⟩
theorem sidesR_succ (k:Nat):sidesL (k +1)=sidesL k ++[⟨(k:Int) +1,k, -1,0⟩]:=by
 unfold sidesL
 rw [List.range_succ,List.map_append]
 rfl
theorem bendsR_succ (k:Nat):bendsL (k +1)=bendsL k ++[⟨(k:Int),(k:Int) +1,179,0⟩,⟨(k:Int) +1,k,179,0⟩]:=by
 unfold bendsL
 rw [List.range_succ,List.flatMap_append]
 simp
theorem msB_succ {l:List Itm} {k:Nat} (hk:k<l.length):msB (l.take (k +1))=msB (l.take k) ++bothL (l.getD k default):=by
 unfold msB
 rw [List.take_succ_eq_append_getElem hk,List.flatMap_append,List.getD_eq_getElem?_getD,List.getElem?_eq_getElem hk]
 simp
theorem sides_len (k:Nat):(sidesL k).length=k:=by unfold sidesL;simp
theorem bends_len (k:Nat):(bendsL k).length=2 * k:=by
 induction k with
 | zero=>rfl
 | succ k ih=>rw [bendsR_succ,List.length_append,ih];simp;omega
theorem msB_two (l:List Itm):(msB l).length=2 * l.length:=by
 induction l with
 | nil=>rfl
 | cons x l ih=>simp only [msB,List.flatMap_cons,List.length_append,List.length_cons] at *;rw [ih];simp [bothL];omega
theorem r2sides_any (co:Int) (w:World) (h:0≤co∧co≤1000):Calls Tryz.prog 94 #[.int .i64 co] w (RowPost w 69 4 (sidesL co.toNat).length (bcs (sidesL co.toNat))):=by
 obtain ⟨c,hc⟩:∃ c:Nat,co.toNat=c:=⟨_,rfl⟩
 have hco:co=c:=by omega
 rw [hc]
 have hc1:c≤1000:=by omega
 subst hco
 clear hc h
 have HP:=Lib.hid (show ∀ v w',Below w.heap.size w w'→w'.ownsRow w.heap.size 69 4 v (sidesL c).length (bcs (sidesL c))→RowPost w 69 4 (sidesL c).length (bcs (sidesL c)) (.returned v) w' from fun v w' h1 h2=>⟨v,rfl,h1,h2⟩)
 generalize RowPost w 69 4 (sidesL c).length (bcs (sidesL c))=Post at *
 go_enter Tryz.func94,Tryz.ntmps94
 go_wp2_with fail
 go_loopw [3,4] (fun r i wr=>∃ k:Nat,k≤c∧i=.int .i64 k∧wr.ownsRow w.heap.size 69 4 r (sidesL k).length (bcs (sidesL k))∧Below w.heap.size w wr) (fun _ i _=>c - (RowKit.intOf i).toNat)
 case atStart=>exact ⟨0,Nat.zero_le _,rfl,World.ownsRow_nil _ _ _ _,Below.refl _ _⟩
 case round =>
  obtain ⟨k,hk,rfl,hro,hB⟩:=hrel
  have hnn:(0:Int)≤k:=by omega
  obtain ⟨ua,uc,rfl,_⟩:=owns_slice hro
  by_cases hlt:k<c
  ·have i1:(k:Int)<(c:Int):=by omega
   have Hs:=Lib.hid (sidesR_succ k)
   have hln:=sides_len k
   have hal:=one_alloc wr (Obj.cells #[.int .i64 ((k:Int) +1),.int .i64 k,.int .i64 (-1),.int .i64 0] 69)
   have hsl:=World.alloc_heap_new wr (Obj.cells #[.int .i64 ((k:Int) +1),.int .i64 k,.int .i64 (-1),.int .i64 0] 69)
   have hr2:=hro.up hal (Nat.le_refl _)
   have hB2:=hB.ch2 hal
   have hzB:=hB.size
   generalize sidesL k=L at *
   have hl2:L.length≤1000:=by omega
   clear hal hro hB hln
   go_wp2_with (at_builtin;refine wpList_app elemB rfl _ _ rfl hr2 rfl rfl (RowAt.of_heap hsl) (by rfl) (fun u hu=>bcs_one [⟨(k:Int) +1,k, -1,0⟩] u (by simpa [bcs,Bd.cs] using hu)) Z1s (by omega) Zj ?_;intro v' w3 hr3 hg3 hb3 _ _;have HQ:=Lib.hid (And.intro hr3 (hB2.trans hb3));clear hr3 hg3 hb3)
   exact Z8h
  ·exact Z8o
theorem r2bends_any (co:Int) (w:World) (h:1≤co∧co≤1000):Calls Tryz.prog 96 #[.int .i64 co] w (RowPost w 69 4 (bendsL (co.toNat - 1)).length (bcs (bendsL (co.toNat - 1)))):=by
 obtain ⟨c,hc⟩:∃ c:Nat,co.toNat - 1=c:=⟨_,rfl⟩
 have hco:co=(c:Int) +1:=by omega
 rw [hc]
 have hc1:c≤1000:=by omega
 subst hco
 clear hc h
 have HP:=Lib.hid (show ∀ v w',Below w.heap.size w w'→w'.ownsRow w.heap.size 69 4 v (bendsL c).length (bcs (bendsL c))→RowPost w 69 4 (bendsL c).length (bcs (bendsL c)) (.returned v) w' from fun v w' h1 h2=>⟨v,rfl,h1,h2⟩)
 generalize RowPost w 69 4 (bendsL c).length (bcs (bendsL c))=Post at *
 go_enter Tryz.func96,Tryz.ntmps96
 go_wp2_with fail
 go_loopw [3,4] (fun r i wr=>∃ k:Nat,k≤c∧i=.int .i64 k∧wr.ownsRow w.heap.size 69 4 r (bendsL k).length (bcs (bendsL k))∧Below w.heap.size w wr) (fun _ i _=>c - (RowKit.intOf i).toNat)
 case atStart=>exact ⟨0,Nat.zero_le _,rfl,World.ownsRow_nil _ _ _ _,Below.refl _ _⟩
 case round =>
  obtain ⟨k,hk,rfl,hro,hB⟩:=hrel
  have hnn:(0:Int)≤k:=by omega
  obtain ⟨ua,uc,rfl,_⟩:=owns_slice hro
  by_cases hlt:k<c
  ·have i1:(k:Int)<(c:Int):=by omega
   have Hs:=Lib.hid (bendsR_succ k)
   have hln:=bends_len k
   have hal:=one_alloc wr (Obj.cells #[.int .i64 k,.int .i64 ((k:Int) +1),.int .i64 179,.int .i64 0,.int .i64 ((k:Int) +1),.int .i64 k,.int .i64 179,.int .i64 0] 69)
   have hsl:=World.alloc_heap_new wr (Obj.cells #[.int .i64 k,.int .i64 ((k:Int) +1),.int .i64 179,.int .i64 0,.int .i64 ((k:Int) +1),.int .i64 k,.int .i64 179,.int .i64 0] 69)
   have hr2:=hro.up hal (Nat.le_refl _)
   have hB2:=hB.ch2 hal
   have hzB:=hB.size
   generalize bendsL k=L at *
   have hl2:L.length≤2000:=by omega
   clear hal hro hB hln
   go_wp2_with (at_builtin;refine wpList_app elemB rfl _ _ rfl hr2 rfl rfl (RowAt.of_heap hsl) (m:=2) (by rfl) (fun u hu=>bcs_one [⟨(k:Int),(k:Int) +1,179,0⟩,⟨(k:Int) +1,k,179,0⟩] u (by simpa [bcs,Bd.cs] using hu)) Z1s (by omega) Zj ?_;intro v' w3 hr3 hg3 hb3 _ _;have HQ:=Lib.hid (And.intro hr3 (hB2.trans hb3));clear hr3 hg3 hb3)
   exact Z8h
  ·exact Z8o
theorem r2bounds_any (a:Option Addr) (n cap:Nat) (l:List Itm) (w:World) (h:ItmsAt w a n cap l) (hs:l.length≤1000) (hlo:∀ x ∈ l, -10000≤x.lo∧x.lo≤10000) :
 Calls Tryz.prog 95 #[.slice a n cap] w (RowPost w 69 4 (msB l).length (bcs (msB l))):=by
 obtain rfl:=h.len
 have HP:=Lib.hid (show ∀ v w',Below w.heap.size w w'→w'.ownsRow w.heap.size 69 4 v (msB l).length (bcs (msB l))→RowPost w 69 4 (msB l).length (bcs (msB l)) (.returned v) w' from fun v w' h1 h2=>⟨v,rfl,h1,h2⟩)
 generalize RowPost w 69 4 (msB l).length (bcs (msB l))=Post at *
 have HLo:=Lib.hid hlo
 clear hlo
 go_enter Tryz.func95,Tryz.ntmps95
 go_wp2_with fail
 go_loopw [3,4] (fun r i wr=>∃ k:Nat,k≤l.length∧i=.int .i64 k∧wr.ownsRow w.heap.size 69 4 r (msB (l.take k)).length (bcs (msB (l.take k)))∧Below w.heap.size w wr) (fun _ i _=>l.length - (RowKit.intOf i).toNat)
 case atStart=>exact ⟨0,Nat.zero_le _,rfl,World.ownsRow_nil _ _ _ _,Below.refl _ _⟩
 case round =>
  obtain ⟨k,hk,rfl,hro,hB⟩:=hrel
  have hnn:(0:Int)≤k:=by omega
  obtain ⟨ua,uc,rfl,_⟩:=owns_slice hro
  by_cases hlt:k<l.length
  ·have i1:(k:Int)<(l.length:Int):=by omega
   obtain ⟨b,o,rfl,_,hdc⟩:=(h.below hB).get hlt
   have Hs:=Lib.hid (msB_succ hlt)
   have hx:=HLo.out _ (Itm.mem hlt)
   have hln:(msB (l.take k)).length≤2000:=by rw [msB_two,List.length_take];omega
   generalize l.getD k default=x at *
   generalize msB (l.take k)=L at *
   have hwr:IntKind.i64.wrap (-x.lo)= -x.lo:=IntWalk.i64_in _ (by omega)
   have al1:=one_alloc wr (Obj.cells #[.int .i64 x.id,.int .i64 x.kn,.int .u8 x.kd,.string x.wa,.int .i64 x.pit,.int .i64 x.ly,.int .i64 x.co,.bool x.ft,.int .i64 x.sh,.int .i64 x.fr,.int .i64 x.tw,.int .i64 x.lo,.int .i64 x.hi,.string x.st,.int .i64 x.li,.int .i64 x.vo] 24)
   have al2:=one_alloc (wr.alloc (Obj.cells #[.int .i64 x.id,.int .i64 x.kn,.int .u8 x.kd,.string x.wa,.int .i64 x.pit,.int .i64 x.ly,.int .i64 x.co,.bool x.ft,.int .i64 x.sh,.int .i64 x.fr,.int .i64 x.tw,.int .i64 x.lo,.int .i64 x.hi,.string x.st,.int .i64 x.li,.int .i64 x.vo] 24)) (Obj.cells #[.int .i64 x.fr,.int .i64 x.tw,.int .i64 x.hi,.int .i64 x.id,.int .i64 x.tw,.int .i64 x.fr,.int .i64 (-x.lo),.int .i64 x.id] 69)
   have hsl:=World.alloc_heap_new (wr.alloc (Obj.cells #[.int .i64 x.id,.int .i64 x.kn,.int .u8 x.kd,.string x.wa,.int .i64 x.pit,.int .i64 x.ly,.int .i64 x.co,.bool x.ft,.int .i64 x.sh,.int .i64 x.fr,.int .i64 x.tw,.int .i64 x.lo,.int .i64 x.hi,.string x.st,.int .i64 x.li,.int .i64 x.vo] 24)) (Obj.cells #[.int .i64 x.fr,.int .i64 x.tw,.int .i64 x.hi,.int .i64 x.id,.int .i64 x.tw,.int .i64 x.fr,.int .i64 (-x.lo),.int .i64 x.id] 69)
   rw [World.size_alloc] at hsl
   have hr2:=hro.up (al1.ch2 al2) (Nat.le_refl _)
   have hB2:=hB.ch2 (al1.ch2 al2)
   have hzB:=hB.size
   have hx1:=hx.1
   have hx2:=hx.2
   clear al1 al2 hro hB hx
   go_wp2_with (first
    | (refine wpList_loadI rfl _ rfl rfl hdc ?_)
    | (refine wpList_storeI_new rfl _ _ rfl rfl rfl rfl ?_)
    | (at_builtin;refine wpList_app elemB rfl _ _ rfl hr2 rfl rfl (RowAt.of_heap hsl) (m:=2) (by rfl) (fun u hu=>bcs_one (bothL x) u (by simpa [bcs,Bd.cs,bothL] using hu)) Z1s (by omega) Zj ?_;intro v' w3 hr3 hg3 hb3 _ _;have HQ:=Lib.hid (And.intro hr3 (hB2.trans hb3));clear hr3 hg3 hb3))
   exact Z8h
  ·have htk:l.take k=l:=List.take_of_length_le (by omega)
   rw [htk] at hro ⊢
   clear htk
   go_wp2_with fail
   exact HP.out _ _ hB hro
set_option maxHeartbeats 16000000
theorem r2Outline_any (a:Option Addr) (n cap:Nat) (l:List Itm) (day id:Int) (w:World) (h:ItmsAt w a n cap l) (hcap:l.length≤cap) (hs:l.length≤1000) :
 Calls Tryz.prog 37 #[.slice a n cap,.int .i64 day,.int .i64 id] w (OutE w (lookE l day id) (outC l day id) (outW l day id) (outT l day id)):=by
 have hB0:=one_alloc w (Obj.cells #[.int .i64 0,.slice none 0 0,.slice none 0 0] 52)
 have hR0:=World.alloc_heap_new w (Obj.cells #[.int .i64 0,.slice none 0 0,.slice none 0 0] 52)
 have hL:=r2SherdOf_any a n cap l day id _ (h.below hB0) hcap hs
 have HP:=Lib.hid (show ∀ w' v1 v2 E co W T,lookE l day id=E→outC l day id=co→outW l day id=W→outT l day id=T→Below w.heap.size w w'→w'.ownsRow w.heap.size 69 4 v1 W.length (bcs W)→w'.ownsRow w.heap.size 69 4 v2 T.length (bcs T)→OutE w (lookE l day id) (outC l day id) (outW l day id) (outT l day id) (.returned (.tuple #[.agg #[.int .i64 co,v1,v2],.int .i64 E])) w' from
  fun w' v1 v2 E co W T h1 h2 h3 h4 h5 h6 h7=>by subst h1 h2 h3 h4;exact ⟨v1,v2,rfl,h5,h6,h7⟩)
 generalize OutE w (lookE l day id) (outC l day id) (outW l day id) (outT l day id)=Post at *
 by_cases h0:lookE l day id=0
 ·have hlk:=look_ok h0
  have hZ:lookZ l day id=lookS l day id:=by unfold lookZ;rw [if_pos h0]
  have h1:outC l day id=(lookS l day id).co:=by unfold outC;rw [if_pos h0]
  have h2:outW l day id=sidesL (lookS l day id).co.toNat ++msB (keptL (countL l day) 2 id):=by unfold outW;rw [if_pos h0];rfl
  have h3:outT l day id=bendsL ((lookS l day id).co.toNat - 1) ++msB (keptL (countL l day) 3 id):=by unfold outT;rw [if_pos h0];rfl
  have HPf:=Lib.hid (fun w' v1 v2=>HP.out w' v1 v2 0 _ _ _ h0 h1 h2 h3)
  have hco:=hlk.co
  have hS1:=fun W=>r2sides_any (lookS l day id).co W (by omega)
  have hS2:=fun W=>r2bends_any (lookS l day id).co W (by omega)
  have hO1:=fun W hi=>r2of_any a n cap l day id 2 W hi hs
  have hO2:=fun W hi=>r2of_any a n cap l day id 3 W hi hs
  have hl1:(keptL (countL l day) 2 id).length≤1000:=Nat.le_trans (List.length_filter_le _ _) (Nat.le_trans (countL_len l day) hs)
  have hl2:(keptL (countL l day) 3 id).length≤1000:=Nat.le_trans (List.length_filter_le _ _) (Nat.le_trans (countL_len l day) hs)
  have hw1:∀ x ∈ keptL (countL l day) 2 id,x.Wide:=fun x hx=>h.wide x (countL_sub (List.mem_filter.1 hx).1).1
  have hw2:∀ x ∈ keptL (countL l day) 3 id,x.Wide:=fun x hx=>h.wide x (countL_sub (List.mem_filter.1 hx).1).1
  have hq1:=fun W b c (hi:ItmsAt W b (keptL (countL l day) 2 id).length c (keptL (countL l day) 2 id))=>r2bounds_any b _ c _ W hi hl1 (fun x hx=>(hlk.wms x hx).lo)
  have hq2:=fun W b c (hi:ItmsAt W b (keptL (countL l day) 3 id).length c (keptL (countL l day) 3 id))=>r2bounds_any b _ c _ W hi hl2 (fun x hx=>(hlk.tms x hx).lo)
  unfold RowPost at hS1 hS2 hO1 hO2 hq1 hq2
  have hn1:(sidesL (lookS l day id).co.toNat).length≤1000:=by rw [sides_len];omega
  have hn2:(bendsL ((lookS l day id).co.toNat - 1)).length≤2000:=by rw [bends_len];omega
  have hn3:(msB (keptL (countL l day) 2 id)).length≤2000:=by rw [msB_two];omega
  have hn4:(msB (keptL (countL l day) 3 id)).length≤2000:=by rw [msB_two];omega
  rw [hZ,h0] at hL
  clear hZ hlk h0 h1 h2 h3 HP hco
  generalize keptL (countL l day) 2 id=K1 at *
  generalize keptL (countL l day) 3 id=K2 at *
  generalize msB K1=M1 at *
  generalize msB K2=M2 at *
  generalize lookS l day id=y at *
  generalize sidesL y.co.toNat=D1 at *
  generalize bendsL (y.co.toNat - 1)=D2 at *
  simp only [Shd.v,Shd.cs] at hL
  go_enter Tryz.func37,Tryz.ntmps37
  go_upto_region 5 with (go_at_call 60;(with_reducible refine hL.mono ?_);rintro e w1 ⟨rfl,hb1⟩)
  have hY1:=alKeep (o':=Obj.cells #[.int .i64 y.co,.slice none 0 0,.slice none 0 0] 52) (World.alloc_heap_new w1 (Obj.cells #[.int .i64 y.id,.string y.wa,.int .i64 y.pit,.int .i64 y.ly,.int .i64 y.co,.bool y.ft] 72))
  have hO:=alloc2_get w1 (Obj.cells #[.int .i64 y.id,.string y.wa,.int .i64 y.pit,.int .i64 y.ly,.int .i64 y.co,.bool y.ft] 72) (Obj.cells #[.int .i64 y.co,.slice none 0 0,.slice none 0 0] 52)
  have hBA:=(hB0.ch2 hb1).ch2 ((one_alloc w1 (Obj.cells #[.int .i64 y.id,.string y.wa,.int .i64 y.pit,.int .i64 y.ly,.int .i64 y.co,.bool y.ft] 72)).ch2 (one_alloc _ (Obj.cells #[.int .i64 y.co,.slice none 0 0,.slice none 0 0] 52)))
  have hRA:=((hb1.ch2 ((one_alloc w1 (Obj.cells #[.int .i64 y.id,.string y.wa,.int .i64 y.pit,.int .i64 y.ly,.int .i64 y.co,.bool y.ft] 72)).ch2 (one_alloc _ (Obj.cells #[.int .i64 y.co,.slice none 0 0,.slice none 0 0] 52)))).block w.heap.size (by simp)).trans hR0
  have hsz:w.heap.size<w1.heap.size:=Nat.lt_of_lt_of_le (by simp) hb1.size
  clear hb1 hR0 hL
  generalize (w1.alloc (Obj.cells #[.int .i64 y.id,.string y.wa,.int .i64 y.pit,.int .i64 y.ly,.int .i64 y.co,.bool y.ft] 72)).alloc (Obj.cells #[.int .i64 y.co,.slice none 0 0,.slice none 0 0] 52)=wA at *
  have zY:=(Array.getElem?_eq_some_iff.1 hY1).1
  have zO:=(Array.getElem?_eq_some_iff.1 hO).1
  have zR:=(Array.getElem?_eq_some_iff.1 hRA).1
  have y4:=(SL.cells_of hY1).1 4
  simp only [List.getElem?_toArray,List.getElem?_cons_succ,List.getElem?_cons_zero] at y4
  have HO:=Lib.hid hO
  have HY:=Lib.hid hY1
  have HR:=Lib.hid hRA
  have HBA:=Lib.hid hBA
  have hA:=h.below hBA
  clear hO hY1 hRA hBA hB0
  go_upto_region 6 with (first
   | (go_at_call 94;(with_reducible refine (hS1 _).mono ?_);rintro e w2 ⟨v2,rfl,hb2,ho2⟩;obtain ⟨sa,sc,rfl,_⟩:=owns_slice ho2)
   | (go_at_call 90;(with_reducible refine (hO1 _ (hA.below hb2)).mono ?_);rintro e w3 ⟨v3,rfl,hb3,ho3⟩;obtain ⟨oa,oc,rfl,_⟩:=owns_slice ho3;have hk3:=ItmsAt.of_owns ho3 (by omega) hw1)
   | (go_at_call 95;(with_reducible refine (hq1 _ _ _ hk3).mono ?_);rintro e w4 ⟨v4,rfl,hb4,ho4⟩;obtain ⟨ba,bc,rfl,_⟩:=owns_slice ho4;have hr4:=ho2.up (hb3.ch2 hb4) (Nat.le_refl _);have hC4:=(hb2.ch2 hb3).ch2 hb4)
   | (at_builtin;refine wpList_app elemB rfl _ _ rfl hr4 rfl rfl (RowAt.of_owns ho4) (bcs_length M1) (bcs_one M1) Z1s (by omega) hC4.size ?_;intro v5 w5 hr5 hg5 hb5 _ _;obtain ⟨wa',wc',rfl,_⟩:=owns_slice hr5;have hC5:=hC4.trans hb5;obtain ⟨g0,g1,g2,gf,gl⟩:=cell3s ((hC5.block _ zO).trans HO.out)))
  have hO5:=(hC5.block _ zO).trans HO.out
  have k5:=SL.heap_set (i:=1) hO5 (.slice wa' (D1.length +M1.length) wc')
  have c5:SL.Chg [w1.heap.size +1] w5 (w5.setCell ⟨w1.heap.size +1,1,none⟩ (.slice wa' (D1.length +M1.length) wc')):=SL.Chg.setCell _ (by simp) _
  simp only [List.setIfInBounds_toArray,List.set_cons_succ,List.set_cons_zero] at k5
  have hzz:=hC5.size
  have hY5:=(c5.block _ (Nat.lt_of_lt_of_le zY hzz) (by simp)).trans ((hC5.block _ zY).trans HY.out)
  have hR5:=(c5.block _ (Nat.lt_of_lt_of_le zR hzz) Zj).trans ((hC5.block _ zR).trans HR.out)
  have B5:=(HBA.out.ch2 hC5).trans (c5.belowE_w (HBA.out.ch2 hC5).size Zj)
  have zO5:=(Array.getElem?_eq_some_iff.1 k5).1
  have bO:∀ k ∈ (Value.slice wa' (D1.length +M1.length) wc').ownBlock.toList,wA.heap.size≤k:=fun k hk=>(SL.row_bounds hr5 k hk).1
  have r5:=SL.row_stab hr5 fun k hk=>c5.block k (SL.row_bounds hr5 k hk).2 (by have:=bO k hk;simp;omega)
  have HC5:=Lib.hid hC5
  have HzB:=Lib.hid (show wA.heap.size≤(w5.setCell ⟨w1.heap.size +1,1,none⟩ (.slice wa' (D1.length +M1.length) wc')).heap.size by simpa using hzz)
  have HK5:=Lib.hid k5
  have HR5:=Lib.hid hR5
  have HB5:=Lib.hid B5
  have Hr5:=Lib.hid r5
  have HbO:=Lib.hid bO
  clear hO5 c5 hzz hb2 hb3 hb4 ho2 ho3 ho4 hk3 hr4 hC4 hr5 hg5 hb5 hC5 g0 g1 g2 gf gl y4 bO r5 k5 hR5 hS1 hO1 hq1
  have hA5:=h.below B5
  have zY5:=(Array.getElem?_eq_some_iff.1 hY5).1
  have y4:=(SL.cells_of hY5).1 4
  simp only [List.getElem?_toArray,List.getElem?_cons_succ,List.getElem?_cons_zero] at y4
  clear B5 hY5 hA
  generalize w5.setCell ⟨w1.heap.size +1,1,none⟩ (.slice wa' (D1.length +M1.length) wc')=wB at *
  go_upto_region 7 with (first
   | (go_at_call 96;(with_reducible refine (hS2 _).mono ?_);rintro e w2 ⟨v2,rfl,hb2,ho2⟩;obtain ⟨sa2,sc2,rfl,_⟩:=owns_slice ho2)
   | (go_at_call 90;(with_reducible refine (hO2 _ (hA5.below hb2)).mono ?_);rintro e w3 ⟨v3,rfl,hb3,ho3⟩;obtain ⟨oa2,oc2,rfl,_⟩:=owns_slice ho3;have hk3:=ItmsAt.of_owns ho3 (by omega) hw2)
   | (go_at_call 95;(with_reducible refine (hq2 _ _ _ hk3).mono ?_);rintro e w4 ⟨v4,rfl,hb4,ho4⟩;obtain ⟨ba2,bc2,rfl,_⟩:=owns_slice ho4;have hr4:=ho2.up (hb3.ch2 hb4) (Nat.le_refl _);have hC4:=(hb2.ch2 hb3).ch2 hb4)
   | (at_builtin;refine wpList_app elemB rfl _ _ rfl hr4 rfl rfl (RowAt.of_owns ho4) (bcs_length M2) (bcs_one M2) Z1s (by omega) hC4.size ?_;intro v6 w6 hr6 hg6 hb6 _ _;obtain ⟨ta',tc',rfl,_⟩:=owns_slice hr6;have hC6:=hC4.trans hb6;obtain ⟨g0,g1,g2,gf,gl⟩:=cell3s ((hC6.block _ zO5).trans HK5.out)))
  have hO6:=(hC6.block _ zO5).trans HK5.out
  have k6:=SL.heap_set (i:=2) hO6 (.slice ta' (D2.length +M2.length) tc')
  have c6:SL.Chg [w1.heap.size +1] w6 (w6.setCell ⟨w1.heap.size +1,2,none⟩ (.slice ta' (D2.length +M2.length) tc')):=SL.Chg.setCell _ (by simp) _
  simp only [List.setIfInBounds_toArray,List.set_cons_succ,List.set_cons_zero] at k6
  have hzz:=hC6.size
  have hR6:=(c6.block _ (Nat.lt_of_lt_of_le (Array.getElem?_eq_some_iff.1 HR5.out).1 hzz) Zj).trans ((hC6.block _ (Array.getElem?_eq_some_iff.1 HR5.out).1).trans HR5.out)
  have B6:=(HB5.out.ch2 hC6).trans (c6.belowE_w (HB5.out.ch2 hC6).size Zj)
  have q5:=Hr5.out.up hC6 (Nat.le_refl _)
  have p5:=SL.row_stab q5 fun k hk=>c6.block k (SL.row_bounds q5 k hk).2 (by have:=(SL.row_bounds q5 k hk).1;simp;omega)
  have zwB:=HzB.out
  have p6:=SL.row_stab hr6 fun k hk=>c6.block k (SL.row_bounds hr6 k hk).2 (by have:=(SL.row_bounds hr6 k hk).1;simp;omega)
  have hwA:=HBA.out.size
  clear hO6 c6 hzz hb2 hb3 hb4 ho2 ho3 ho4 hk3 hr4 hC4 hr6 hg6 hb6 hC6 g0 g1 g2 gf gl y4 q5 hA5 zY5 zO5 HR5 HK5 HB5 Hr5 HC5 hS2 hO2 hq2 HY HO HR HBA HbO zY zO h
  generalize w6.setCell ⟨w1.heap.size +1,2,none⟩ (.slice ta' (D2.length +M2.length) tc')=wC at *
  obtain ⟨g0,g1,g2,gf,gl⟩:=cell3s k6
  obtain ⟨e0,e1,e2,ef,el⟩:=cell3s hR6
  have hne:w.heap.size≠w1.heap.size +1:=by omega
  obtain ⟨k1,k2⟩:=set3 hR6 (.int .i64 y.co) (.slice wa' (D1.length +M1.length) wc') (.slice ta' (D2.length +M2.length) tc')
  have hr1:=SL.row_base (SL.row_stab p5 fun k hk=>k2.block k (SL.row_bounds p5 k hk).2 (by have:=(SL.row_bounds p5 k hk).1;simp;omega)) (show w.heap.size≤wA.heap.size by omega)
  have hr2:=SL.row_base (SL.row_stab p6 fun k hk=>k2.block k (SL.row_bounds p6 k hk).2 (by have:=(SL.row_bounds p6 k hk).1;simp;omega)) (show w.heap.size≤wB.heap.size by omega)
  have hBF:=B6.trans (k2.belowE_w B6.size (by simp))
  have HF:=Lib.hid (HPf.out _ _ _ hBF (by rw [List.length_append,bcs_append];exact hr1) (by rw [List.length_append,bcs_append];exact hr2))
  obtain ⟨m0,m1,m2,mf,ml⟩:=cell3s k1
  clear hr1 hr2 hBF k1 k2 p5 p6 B6 hR6 k6
  go_wp2_with fail
  clear g0 g1 g2 gf gl e0 e1 e2 ef el
  generalize ((wC.setCell ⟨w.heap.size,0,none⟩ (.int .i64 y.co)).setCell ⟨w.heap.size,1,none⟩ (.slice wa' (D1.length +M1.length) wc')).setCell ⟨w.heap.size,2,none⟩ (.slice ta' (D2.length +M2.length) tc')=WF at *
  exact bodyPost_ret (v:=.tuple #[.agg #[.int .i64 y.co,.slice wa' (D1.length +M1.length) wc',.slice ta' (D2.length +M2.length) tc'],.int .i64 0]) (by simp [results,Tryz.results37,go_sem,m0,m1,m2]) rfl HF.out
 ·have h1:outC l day id=0:=by unfold outC;rw [if_neg h0]
  have h2:outW l day id=[]:=by unfold outW;rw [if_neg h0]
  have h3:outT l day id=[]:=by unfold outT;rw [if_neg h0]
  generalize lookE l day id=E at *
  have e2:(E != 0)=true:=by simpa using h0
  have HF:=Lib.hid (fun w' hb=>HP.out w' (.slice none 0 0) (.slice none 0 0) E 0 [] [] rfl h1 h2 h3 hb (World.ownsRow_nil _ _ _ _) (World.ownsRow_nil _ _ _ _))
  generalize lookZ l day id=y at *
  simp only [Shd.v,Shd.cs] at hL
  clear h0 h1 h2 h3 HP
  go_enter Tryz.func37,Tryz.ntmps37
  go_wp2_with (go_at_call 60;(with_reducible refine hL.mono ?_);rintro e w2 ⟨rfl,hb2⟩;have hR2:=alKeep (o':=Obj.cells #[.int .i64 y.id,.string y.wa,.int .i64 y.pit,.int .i64 y.ly,.int .i64 y.co,.bool y.ft] 72) ((hb2.block w.heap.size (by simp)).trans hR0);obtain ⟨q0,q1,q2,qf,ql⟩:=cell3s hR2)
  obtain ⟨k1,k2⟩:=set3 hR2 (.int .i64 0) (.slice none 0 0) (.slice none 0 0)
  have hB2:=(hB0.ch2 hb2).ch2 (one_alloc w2 (Obj.cells #[.int .i64 y.id,.string y.wa,.int .i64 y.pit,.int .i64 y.ly,.int .i64 y.co,.bool y.ft] 72))
  have hBF:=hB2.trans (k2.belowE_w hB2.size (by simp))
  obtain ⟨g0,g1,g2,gf,gl⟩:=cell3s k1
  have HF2:=Lib.hid (HF.out _ hBF)
  clear hBF k1 k2 hR2 q0 q1 q2 qf ql hb2 hB2
  generalize (((w2.alloc (Obj.cells #[.int .i64 y.id,.string y.wa,.int .i64 y.pit,.int .i64 y.ly,.int .i64 y.co,.bool y.ft] 72)).setCell ⟨w.heap.size,0,none⟩ (.int .i64 0)).setCell ⟨w.heap.size,1,none⟩ (.slice none 0 0)).setCell ⟨w.heap.size,2,none⟩ (.slice none 0 0)=WF at *
  exact bodyPost_ret (v:=.tuple #[.agg #[.int .i64 0,.slice none 0 0,.slice none 0 0],.int .i64 E]) (by simp [results,Tryz.results37,go_sem,g0,g1,g2]) rfl HF2.out
end Go.Proofs.YtelkcohhagblaaaGreat

/- What the functions answer, for every input. -/
import Derived.Test.YtelkcohhagblaaaGreatSe35
import Derived.Test.YtelkcohhagblaaaGreatSe26
import Derived.Test.YtelkcohhagblaaaGreatSe08
set_option linter.unusedSimpArgs false
set_option linter.unusedVariables false
set_option linter.unnecessarySimpa false
namespace Go.Proofs.YtelkcohhagblaaaGreat
open Go.RowKit Go.Shelf
set_option maxHeartbeats 8000000
set_option maxRecDepth 100000
/-- An outline with bounds of its own. -/
def OutPost (w:World) (co:Int) (ws ts:List Bd) (e:Ending) (w':World):Prop:=∃ v1 v2,e=.returned (.agg #[.int .i64 co,v1,v2])∧Below w.heap.size w w'∧w'.ownsRow w.heap.size 69 4 v1 ws.length (bcs ws)∧w'.ownsRow w.heap.size 69 4 v2 ts.length (bcs ts)
def OutOk:Prop:=∀ (a:Option Addr) (n cap:Nat) (s:List Itm) (y:Shd) (w:World),ItmsAt w a n cap s→s.length≤300→3≤y.co∧y.co≤16→(∀ x ∈ s,x.kd=2∨x.kd=3→x.sh=y.id→ -10000≤x.lo∧x.lo≤10000) →
 Calls Tryz.prog 83 #[.slice a n cap,y.v] w (OutPost w y.co (waysB y.co (keptL s 2 y.id)) (turnsB y.co (keptL s 3 y.id)))
def QuadI (w:World) (a b:Int) (c:Bool) (d:Int) (e:Ending) (w':World):Prop:=e=.returned (.tuple #[.int .i64 a,.int .i64 b,.bool c,.int .i64 d])∧Below w.heap.size w w'
theorem sWay_any (hOut:OutOk) (a:Option Addr) (n cap:Nat) (l:List Itm) (day id fr tw:Int) (w:World) (h:ItmsAt w a n cap l) (hcap:l.length≤cap) :
 Calls Tryz.prog 28 #[.slice a n cap,.int .i64 day,.int .i64 id,.int .i64 fr,.int .i64 tw] w (QuadI w (wayLo l day id fr tw) (wayHi l day id fr tw) (wayK l day id fr tw) (wayE l day id fr tw)):=by
 have hL:=fun w1 (h1:ItmsAt w1 a n cap l)=>slooked_any a n cap l day id w1 h1 hcap
 have hw:=h.wide
 have hW:wayE l day id fr tw=if lookE l day id=0 then (if 0≤fr∧fr<tw∧tw≤(lookS l day id).co then (if okB (wayP l day id) (wayB l day id) then 0 else 21) else 1) else lookE l day id:=rfl
 have hK:wayK l day id fr tw=(decide (wayE l day id fr tw=0) && grB (wayP l day id) (wayB l day id) fr tw):=rfl
 have hLo:wayLo l day id fr tw=if wayK l day id fr tw then - grN (wayP l day id) (wayB l day id) tw fr else 0:=rfl
 have hHi:wayHi l day id fr tw=if wayK l day id fr tw then grN (wayP l day id) (wayB l day id) fr tw else 0:=rfl
 have HP:=Lib.hid (show ∀ w' A B C D,wayLo l day id fr tw=A→wayHi l day id fr tw=B→wayK l day id fr tw=C→wayE l day id fr tw=D→Below w.heap.size w w'→QuadI w (wayLo l day id fr tw) (wayHi l day id fr tw) (wayK l day id fr tw) (wayE l day id fr tw) (.returned (.tuple #[.int .i64 A,.int .i64 B,.bool C,.int .i64 D])) w' from
  fun w' A B C D h1 h2 h3 h4 h5=>by subst h1 h2 h3 h4;exact ⟨rfl,h5⟩)
 generalize QuadI w (wayLo l day id fr tw) (wayHi l day id fr tw) (wayK l day id fr tw) (wayE l day id fr tw)=Post at *
 have HF:Hid (wayE l day id fr tw≠0→∀ w',Below w.heap.size w w'→Post (.returned (.tuple #[.int .i64 0,.int .i64 0,.bool false,.int .i64 (wayE l day id fr tw)])) w'):=Lib.hid (fun h0 w' hb=>by
  have hk:wayK l day id fr tw=false:=by rw [hK];simp [h0]
  exact HP.out w' _ _ _ _ (by rw [hLo,hk];rfl) (by rw [hHi,hk];rfl) hk rfl hb)
 unfold LookPost at hL
 by_cases h0:lookE l day id=0
 ·have hlk:=look_ok h0
  have hS:lookR l day id=countL l day:=by unfold lookR;rw [if_pos h0]
  have hZ:lookZ l day id=lookS l day id:=by unfold lookZ;rw [if_pos h0]
  have hsl:=Nat.le_trans (countL_len l day) hlk.cat.few
  have hcw:=wides hw (fun x (hx:x ∈ countL l day)=>(countL_sub hx).1)
  have hms:∀ x ∈ countL l day,x.kd=2∨x.kd=3→x.sh=(lookS l day id).id→ -10000≤x.lo∧x.lo≤10000:=fun x hx hk hs=>by
   exact Z23
  rw [hS,hZ,h0] at hL
  rw [if_pos h0] at hW
  have hOu:=fun W va vc (hi:ItmsAt W va (countL l day).length vc (countL l day))=>hOut va _ vc (countL l day) (lookS l day id) W hi hsl hlk.co hms
  unfold OutPost at hOu
  simp only [hlk.sid] at hOu
  change ∀ W va vc,ItmsAt W va (countL l day).length vc (countL l day)→Calls Tryz.prog _ _ W (fun e w'=>∃ v1 v2,e=.returned (.agg #[.int .i64 (lookS l day id).co,v1,v2])∧Below W.heap.size W w'∧w'.ownsRow W.heap.size 69 4 v1 (wayB l day id).length (bcs (wayB l day id))∧w'.ownsRow W.heap.size 69 4 v2 (turnB l day id).length (bcs (turnB l day id))) at hOu
  have hb4:=chk_len hlk.ways
  have ht4:=chk_len hlk.turns
  have hco:=hlk.co
  have hrg:rngB (lookS l day id).co 3 16=true:=rngB_iff.2 hco
  have hPe:wayP l day id=(lookS l day id).co +1:=rfl
  have hWs:=fun W a1 c1 a2 c2 (h1:BdsAt W a1 (wayB l day id).length c1 (wayB l day id)) (h2:BdsAt W a2 (turnB l day id).length c2 (turnB l day id))=>sWays_any (lookS l day id).co a1 _ c1 (wayB l day id) a2 _ c2 (turnB l day id) W (by omega) h1 h2 ⟨by omega,by omega⟩
  unfold SysPost sysIf sysBs at hWs
  simp only [hrg,if_true] at hWs
  rw [← hPe] at hWs
  have hCk:=fun W a4 c4 (h4:BdsAt W a4 (wayB l day id).length c4 (wayB l day id))=>schecked_any (wayP l day id) a4 _ c4 (wayB l day id) W h4
  have hGr:=fun W a4 c4 (h4:BdsAt W a4 (wayB l day id).length c4 (wayB l day id))=>gGreatest_any (wayP l day id) a4 _ c4 (wayB l day id) fr tw W h4
  have hLe:=fun W a4 c4 (h4:BdsAt W a4 (wayB l day id).length c4 (wayB l day id))=>gLeast_any (wayP l day id) a4 _ c4 (wayB l day id) fr tw W h4
  unfold EPost chkdE at hCk
  rw [hlk.ways] at hCk
  simp only [if_true] at hCk
  have hAsk:=fun (hok:okB (wayP l day id) (wayB l day id)=true) (h1:0≤fr) (h2:fr<tw) (h3:tw≤(lookS l day id).co)=>And.intro (askE_in hlk.ways hok (x:=fr) (y:=tw) (by omega) (by omega) (by omega) (by omega)) (askE_in hlk.ways hok (x:=tw) (y:=fr) (by omega) (by omega) (by omega) (by omega))
  clear hS hZ hms hlk hrg
  generalize hPP:wayP l day id=P at *
  generalize hBB:wayB l day id=B at *
  generalize turnB l day id=TB at *
  generalize countL l day=S at *
  generalize lookS l day id=y at *
  clear hPP hBB hPe
  simp only [Shd.v,Shd.cs] at hL hOu
  by_cases c1:0≤fr
  ·by_cases c2:fr<tw
   ·by_cases c3:tw≤y.co
    ·rw [if_pos ⟨c1,c2,c3⟩] at hW
     have d1:decide (fr<0)=false:=by simp;omega
     have d2:decide (tw≤fr)=false:=by simp;omega
     have d3:decide (y.co<tw)=false:=by simp;omega
     cases hok:okB P B with
     | false =>
       rw [hok] at hW hCk
       simp only [Bool.false_eq_true,if_false] at hW hCk
       rw [hW] at HF
       have hF:=Lib.hid (HF.out (by decide))
       clear HF HP hW hK hLo hHi hAsk c1 c2 c3 hok hGr hLe
       go_enter Tryz.func28,Tryz.ntmps28
       go_wp2_with (first
        | (go_at_call 82;(with_reducible refine (hL _ h).mono ?_);rintro e w2 ⟨v,rfl,hb2,ho2⟩;obtain ⟨va,vc,rfl,_⟩:=owns_slice ho2;have hi2:=(ItmsAt.of_owns ho2 (by omega) hcw).below (one_alloc w2 (Obj.cells #[.int .i64 y.id,.string y.wa,.int .i64 y.pit,.int .i64 y.ly,.int .i64 y.co,.bool y.ft] 72)))
        | (go_at_call 83;(with_reducible refine (hOu _ va vc hi2).mono ?_);rintro e w3 ⟨v1,v2,rfl,hb3,ho31,ho32⟩;obtain ⟨a1,c1,rfl,_⟩:=owns_slice ho31;obtain ⟨a2,c2,rfl,_⟩:=owns_slice ho32;have hq1:=BdsAt.of_owns ho31 (by omega);have hq2:=BdsAt.of_owns ho32 (by omega))
        | (go_at_call 39;(with_reducible refine (hWs _ a1 c1 a2 c2 hq1 hq2).mono ?_);rintro e w4 ⟨v4,rfl,hb4,ho4⟩;obtain ⟨a4,c4,rfl,_⟩:=owns_slice ho4;have hq4:=(BdsAt.of_owns ho4 (by omega)).below (one_alloc w4 (Obj.cells #[.int .i64 P,.slice a4 B.length c4] 57));have hsy:=World.alloc_heap_new w4 (Obj.cells #[.int .i64 P,.slice a4 B.length c4] 57))
        | (go_at_call 84;(with_reducible refine (hCk _ a4 c4 hq4).mono ?_);rintro e w5 ⟨rfl,hb5⟩;have hs5:=(hb5.block w4.heap.size (by simp)).trans hsy;obtain ⟨s0,s1,sf,sl⟩:=cell2s hs5)
        | (go_at_call 85;(with_reducible refine (hGr _ a4 c4 (hq4.below hb5)).mono ?_);rintro e w6 ⟨rfl,hb6⟩;have hs6:=(hb6.block w4.heap.size sl).trans hs5;clear s0 s1 sf;obtain ⟨s0,s1,sf,sl6⟩:=cell2s hs6)
        | (go_at_call 86;(with_reducible refine (hLe _ a4 c4 ((hq4.below hb5).below hb6)).mono ?_);rintro e w7 ⟨rfl,hb7⟩))
       refine bodyPost_ret (v:=.tuple #[.int .i64 0,.int .i64 0,.bool false,.int .i64 21]) Z22 rfl (hF.out _ (((((hb2.ch2 (one_alloc _ _)).ch2 hb3).ch2 hb4).ch2 (one_alloc _ _)).ch2 hb5))
     | true =>
       obtain ⟨k1,k2⟩:=hAsk hok c1 c2 c3
       rw [hok] at hW hCk
       simp only [if_true] at hW hCk
       rw [k1] at hGr
       rw [k2] at hLe
       have hK2:=hK
       rw [hW] at hK2
       simp only [decide_true,Bool.true_and] at hK2
       cases hg:grB P B fr tw with
       | false =>
         rw [hg] at hGr hK2
         have hF:=Lib.hid (fun w' hb=>HP.out w' 0 0 false 0 (by rw [hLo,hK2];rfl) (by rw [hHi,hK2];rfl) hK2 hW hb)
         clear hAsk c1 c2 c3 hok k1 k2 HF HP hW hK hLo hHi hK2 hg hLe
         generalize grN P B fr tw=G1 at *
         go_enter Tryz.func28,Tryz.ntmps28
         go_wp2_with (first
          | (go_at_call 82;(with_reducible refine (hL _ h).mono ?_);rintro e w2 ⟨v,rfl,hb2,ho2⟩;obtain ⟨va,vc,rfl,_⟩:=owns_slice ho2;have hi2:=(ItmsAt.of_owns ho2 (by omega) hcw).below (one_alloc w2 (Obj.cells #[.int .i64 y.id,.string y.wa,.int .i64 y.pit,.int .i64 y.ly,.int .i64 y.co,.bool y.ft] 72)))
          | (go_at_call 83;(with_reducible refine (hOu _ va vc hi2).mono ?_);rintro e w3 ⟨v1,v2,rfl,hb3,ho31,ho32⟩;obtain ⟨a1,c1,rfl,_⟩:=owns_slice ho31;obtain ⟨a2,c2,rfl,_⟩:=owns_slice ho32;have hq1:=BdsAt.of_owns ho31 (by omega);have hq2:=BdsAt.of_owns ho32 (by omega))
          | (go_at_call 39;(with_reducible refine (hWs _ a1 c1 a2 c2 hq1 hq2).mono ?_);rintro e w4 ⟨v4,rfl,hb4,ho4⟩;obtain ⟨a4,c4,rfl,_⟩:=owns_slice ho4;have hq4:=(BdsAt.of_owns ho4 (by omega)).below (one_alloc w4 (Obj.cells #[.int .i64 P,.slice a4 B.length c4] 57));have hsy:=World.alloc_heap_new w4 (Obj.cells #[.int .i64 P,.slice a4 B.length c4] 57))
          | (go_at_call 84;(with_reducible refine (hCk _ a4 c4 hq4).mono ?_);rintro e w5 ⟨rfl,hb5⟩;have hs5:=(hb5.block w4.heap.size (by simp)).trans hsy;obtain ⟨s0,s1,sf,sl⟩:=cell2s hs5)
          | (go_at_call 85;(with_reducible refine (hGr _ a4 c4 (hq4.below hb5)).mono ?_);rintro e w6 ⟨rfl,hb6⟩;have hs6:=(hb6.block w4.heap.size sl).trans hs5;clear s0 s1 sf;obtain ⟨s0,s1,sf,sl6⟩:=cell2s hs6)
          | (go_at_call 86;(with_reducible refine (hLe _ a4 c4 ((hq4.below hb5).below hb6)).mono ?_);rintro e w7 ⟨rfl,hb7⟩))
         refine bodyPost_ret (v:=.tuple #[.int .i64 0,.int .i64 0,.bool false,.int .i64 0]) Z22 rfl (hF.out _ ((((((hb2.ch2 (one_alloc _ _)).ch2 hb3).ch2 hb4).ch2 (one_alloc _ _)).ch2 hb5).ch2 hb6))
       | true =>
         rw [hg] at hGr hK2
         rw [hK2] at hLo hHi
         simp only [if_true] at hLo hHi
         have hF:=Lib.hid (fun w' hb=>HP.out w' _ _ true 0 hLo hHi hK2 hW hb)
         clear hAsk c1 c2 c3 hok k1 k2 HF HP hW hK hLo hHi hK2 hg
         generalize grB P B tw fr=G3 at *
         generalize grN P B fr tw=G1 at *
         generalize - grN P B tw fr=G2 at *
         go_enter Tryz.func28,Tryz.ntmps28
         go_wp2_with (first
          | (go_at_call 82;(with_reducible refine (hL _ h).mono ?_);rintro e w2 ⟨v,rfl,hb2,ho2⟩;obtain ⟨va,vc,rfl,_⟩:=owns_slice ho2;have hi2:=(ItmsAt.of_owns ho2 (by omega) hcw).below (one_alloc w2 (Obj.cells #[.int .i64 y.id,.string y.wa,.int .i64 y.pit,.int .i64 y.ly,.int .i64 y.co,.bool y.ft] 72)))
          | (go_at_call 83;(with_reducible refine (hOu _ va vc hi2).mono ?_);rintro e w3 ⟨v1,v2,rfl,hb3,ho31,ho32⟩;obtain ⟨a1,c1,rfl,_⟩:=owns_slice ho31;obtain ⟨a2,c2,rfl,_⟩:=owns_slice ho32;have hq1:=BdsAt.of_owns ho31 (by omega);have hq2:=BdsAt.of_owns ho32 (by omega))
          | (go_at_call 39;(with_reducible refine (hWs _ a1 c1 a2 c2 hq1 hq2).mono ?_);rintro e w4 ⟨v4,rfl,hb4,ho4⟩;obtain ⟨a4,c4,rfl,_⟩:=owns_slice ho4;have hq4:=(BdsAt.of_owns ho4 (by omega)).below (one_alloc w4 (Obj.cells #[.int .i64 P,.slice a4 B.length c4] 57));have hsy:=World.alloc_heap_new w4 (Obj.cells #[.int .i64 P,.slice a4 B.length c4] 57))
          | (go_at_call 84;(with_reducible refine (hCk _ a4 c4 hq4).mono ?_);rintro e w5 ⟨rfl,hb5⟩;have hs5:=(hb5.block w4.heap.size (by simp)).trans hsy;obtain ⟨s0,s1,sf,sl⟩:=cell2s hs5)
          | (go_at_call 85;(with_reducible refine (hGr _ a4 c4 (hq4.below hb5)).mono ?_);rintro e w6 ⟨rfl,hb6⟩;have hs6:=(hb6.block w4.heap.size sl).trans hs5;clear s0 s1 sf;obtain ⟨s0,s1,sf,sl6⟩:=cell2s hs6)
          | (go_at_call 86;(with_reducible refine (hLe _ a4 c4 ((hq4.below hb5).below hb6)).mono ?_);rintro e w7 ⟨rfl,hb7⟩))
         refine bodyPost_ret (v:=.tuple #[.int .i64 G2,.int .i64 G1,.bool true,.int .i64 0]) Z22 rfl (hF.out _ (((((((hb2.ch2 (one_alloc _ _)).ch2 hb3).ch2 hb4).ch2 (one_alloc _ _)).ch2 hb5).ch2 hb6).ch2 hb7))
    ·rw [if_neg (fun h=>c3 h.2.2)] at hW
     rw [hW] at HF
     have hF:=Lib.hid (HF.out (by decide))
     have d1:decide (fr<0)=false:=by simp;omega
     have d2:decide (tw≤fr)=false:=by simp;omega
     have d3:decide (y.co<tw)=true:=by simp;omega
     clear HF HP hW hK hLo hHi hAsk c1 c2 c3 hGr hLe hOu hWs hCk
     exact Zw
   ·rw [if_neg (fun h=>c2 h.2.1)] at hW
    rw [hW] at HF
    have hF:=Lib.hid (HF.out (by decide))
    have d1:decide (fr<0)=false:=by simp;omega
    have d2:decide (tw≤fr)=true:=by simp;omega
    clear HF HP hW hK hLo hHi hAsk c1 c2 hGr hLe hOu hWs hCk
    exact Zw
  ·rw [if_neg (fun h=>c1 h.1)] at hW
   rw [hW] at HF
   have hF:=Lib.hid (HF.out (by decide))
   have d1:decide (fr<0)=true:=by simp;omega
   clear HF HP hW hK hLo hHi hAsk c1 hGr hLe hOu hWs hCk
   exact Zw
 ·rw [if_neg h0] at hW
  have hle:(lookR l day id).length≤300:=by unfold lookR;rw [if_neg h0];simp
  have hcw:∀ y ∈ lookR l day id,y.Wide:=by unfold lookR;rw [if_neg h0];intro y hy;cases hy
  rw [hW] at HF
  generalize lookE l day id=E at *
  have hF:=Lib.hid (HF.out h0)
  have e2:(E != 0)=true:=by simpa using h0
  have e3:(E == 0)=false:=by simpa using h0
  clear h0 HF HP hW hK hLo hHi
  generalize lookR l day id=S at *
  generalize lookZ l day id=y at *
  simp only [Shd.v,Shd.cs] at hL
  go_enter Tryz.func28,Tryz.ntmps28
  go_wp2_with (go_at_call 82;(with_reducible refine (hL _ h).mono ?_);rintro e w2 ⟨v,rfl,hb2,ho2⟩;obtain ⟨va,vc,rfl,_⟩:=owns_slice ho2)
  refine bodyPost_ret (v:=.tuple #[.int .i64 0,.int .i64 0,.bool false,.int .i64 E]) Z22 rfl (hF.out _ (hb2.ch2 (one_alloc _ _)))
def TriI (w:World) (a b c:Int) (e:Ending) (w':World):Prop:=e=.returned (.tuple #[.int .i64 a,.int .i64 b,.int .i64 c])∧Below w.heap.size w w'
theorem sTurn_any (hOut:OutOk) (a:Option Addr) (n cap:Nat) (l:List Itm) (day id fr tw:Int) (w:World) (h:ItmsAt w a n cap l) (hcap:l.length≤cap) :
 Calls Tryz.prog 30 #[.slice a n cap,.int .i64 day,.int .i64 id,.int .i64 fr,.int .i64 tw] w (TriI w (turnLo l day id fr tw) (turnHi l day id fr tw) (turnE l day id fr tw)):=by
 have hL:=fun w1 (h1:ItmsAt w1 a n cap l)=>slooked_any a n cap l day id w1 h1 hcap
 have hw:=h.wide
 have hW:turnE l day id fr tw=if lookE l day id=0 then (if 0≤fr∧fr<tw∧tw<(lookS l day id).co then (if okB (turnP l day id) (turnB l day id) then 0 else 21) else 1) else lookE l day id:=rfl
 have hLo:turnLo l day id fr tw=if turnE l day id fr tw=0 then - grN (turnP l day id) (turnB l day id) tw fr else 0:=rfl
 have hHi:turnHi l day id fr tw=if turnE l day id fr tw=0 then grN (turnP l day id) (turnB l day id) fr tw else 0:=rfl
 have HP:=Lib.hid (show ∀ w' A B D,turnLo l day id fr tw=A→turnHi l day id fr tw=B→turnE l day id fr tw=D→Below w.heap.size w w'→TriI w (turnLo l day id fr tw) (turnHi l day id fr tw) (turnE l day id fr tw) (.returned (.tuple #[.int .i64 A,.int .i64 B,.int .i64 D])) w' from
  fun w' A B D h1 h2 h4 h5=>by subst h1 h2 h4;exact ⟨rfl,h5⟩)
 generalize TriI w (turnLo l day id fr tw) (turnHi l day id fr tw) (turnE l day id fr tw)=Post at *
 have HF:Hid (turnE l day id fr tw≠0→∀ w',Below w.heap.size w w'→Post (.returned (.tuple #[.int .i64 0,.int .i64 0,.int .i64 (turnE l day id fr tw)])) w'):=Lib.hid (fun h0 w' hb=>by
  exact HP.out w' _ _ _ (by rw [hLo,if_neg h0]) (by rw [hHi,if_neg h0]) rfl hb)
 unfold LookPost at hL
 by_cases h0:lookE l day id=0
 ·have hlk:=look_ok h0
  have hS:lookR l day id=countL l day:=by unfold lookR;rw [if_pos h0]
  have hZ:lookZ l day id=lookS l day id:=by unfold lookZ;rw [if_pos h0]
  have hsl:=Nat.le_trans (countL_len l day) hlk.cat.few
  have hcw:=wides hw (fun x (hx:x ∈ countL l day)=>(countL_sub hx).1)
  have hms:∀ x ∈ countL l day,x.kd=2∨x.kd=3→x.sh=(lookS l day id).id→ -10000≤x.lo∧x.lo≤10000:=fun x hx hk hs=>by
   exact Z23
  rw [hS,hZ,h0] at hL
  rw [if_pos h0] at hW
  have hOu:=fun W va vc (hi:ItmsAt W va (countL l day).length vc (countL l day))=>hOut va _ vc (countL l day) (lookS l day id) W hi hsl hlk.co hms
  unfold OutPost at hOu
  simp only [hlk.sid] at hOu
  change ∀ W va vc,ItmsAt W va (countL l day).length vc (countL l day)→Calls Tryz.prog _ _ W (fun e w'=>∃ v1 v2,e=.returned (.agg #[.int .i64 (lookS l day id).co,v1,v2])∧Below W.heap.size W w'∧w'.ownsRow W.heap.size 69 4 v1 (wayB l day id).length (bcs (wayB l day id))∧w'.ownsRow W.heap.size 69 4 v2 (turnB l day id).length (bcs (turnB l day id))) at hOu
  have hb4:=chk_len hlk.turns
  have ht4:=chk_len hlk.ways
  have hco:=hlk.co
  have hrg:rngB (lookS l day id).co 3 16=true:=rngB_iff.2 hco
  have hPe:turnP l day id=(lookS l day id).co:=rfl
  have hWs:=fun W a1 c1 a2 c2 (h1:BdsAt W a1 (wayB l day id).length c1 (wayB l day id)) (h2:BdsAt W a2 (turnB l day id).length c2 (turnB l day id))=>sTurns_any (lookS l day id).co a1 _ c1 (wayB l day id) a2 _ c2 (turnB l day id) W (by omega) h1 h2 ⟨by omega,by omega⟩
  unfold SysPost sysIf sysBs at hWs
  simp only [hrg,if_true] at hWs
  have hCk:=fun W a4 c4 (h4:BdsAt W a4 (turnB l day id).length c4 (turnB l day id))=>schecked_any (turnP l day id) a4 _ c4 (turnB l day id) W h4
  have hGr:=fun W a4 c4 (h4:BdsAt W a4 (turnB l day id).length c4 (turnB l day id))=>gGreatest_any (turnP l day id) a4 _ c4 (turnB l day id) fr tw W h4
  have hLe:=fun W a4 c4 (h4:BdsAt W a4 (turnB l day id).length c4 (turnB l day id))=>gLeast_any (turnP l day id) a4 _ c4 (turnB l day id) fr tw W h4
  unfold EPost chkdE at hCk
  rw [hlk.turns] at hCk
  simp only [if_true] at hCk
  have hAsk:=fun (hok:okB (turnP l day id) (turnB l day id)=true) (h1:0≤fr) (h2:fr<tw) (h3:tw<(lookS l day id).co)=>And.intro (askE_in hlk.turns hok (x:=fr) (y:=tw) (by omega) (by omega) (by omega) (by omega)) (askE_in hlk.turns hok (x:=tw) (y:=fr) (by omega) (by omega) (by omega) (by omega))
  clear hS hZ hms hlk hrg
  simp only [hPe] at hW hLo hHi hCk hGr hLe hAsk
  generalize hBB:turnB l day id=B at *
  generalize wayB l day id=TB at *
  generalize countL l day=S at *
  generalize lookS l day id=y at *
  clear hBB hPe
  simp only [Shd.v,Shd.cs] at hL hOu
  by_cases c1:0≤fr
  ·by_cases c2:fr<tw
   ·by_cases c3:tw<y.co
    ·rw [if_pos ⟨c1,c2,c3⟩] at hW
     have d1:decide (fr<0)=false:=by simp;omega
     have d2:decide (tw≤fr)=false:=by simp;omega
     have d3:decide (y.co≤tw)=false:=by simp;omega
     cases hok:okB y.co B with
     | false =>
       rw [hok] at hW hCk
       simp only [Bool.false_eq_true,if_false] at hW hCk
       rw [hW] at HF
       have hF:=Lib.hid (HF.out (by decide))
       clear HF HP hW hLo hHi hAsk c1 c2 c3 hok hGr hLe
       go_enter Tryz.func30,Tryz.ntmps30
       go_wp2_with (first
        | (go_at_call 82;(with_reducible refine (hL _ h).mono ?_);rintro e w2 ⟨v,rfl,hb2,ho2⟩;obtain ⟨va,vc,rfl,_⟩:=owns_slice ho2;have hi2:=(ItmsAt.of_owns ho2 (by omega) hcw).below (one_alloc w2 (Obj.cells #[.int .i64 y.id,.string y.wa,.int .i64 y.pit,.int .i64 y.ly,.int .i64 y.co,.bool y.ft] 72)))
        | (go_at_call 83;(with_reducible refine (hOu _ va vc hi2).mono ?_);rintro e w3 ⟨v1,v2,rfl,hb3,ho31,ho32⟩;obtain ⟨a1,c1,rfl,_⟩:=owns_slice ho31;obtain ⟨a2,c2,rfl,_⟩:=owns_slice ho32;have hq1:=BdsAt.of_owns ho31 (by omega);have hq2:=BdsAt.of_owns ho32 (by omega))
        | (go_at_call 41;(with_reducible refine (hWs _ a1 c1 a2 c2 hq1 hq2).mono ?_);rintro e w4 ⟨v4,rfl,hb4,ho4⟩;obtain ⟨a4,c4,rfl,_⟩:=owns_slice ho4;have hq4:=(BdsAt.of_owns ho4 (by omega)).below (one_alloc w4 (Obj.cells #[.int .i64 y.co,.slice a4 B.length c4] 57));have hsy:=World.alloc_heap_new w4 (Obj.cells #[.int .i64 y.co,.slice a4 B.length c4] 57))
        | (go_at_call 84;(with_reducible refine (hCk _ a4 c4 hq4).mono ?_);rintro e w5 ⟨rfl,hb5⟩;have hs5:=(hb5.block w4.heap.size (by simp)).trans hsy;obtain ⟨s0,s1,sf,sl⟩:=cell2s hs5)
        | (go_at_call 85;(with_reducible refine (hGr _ a4 c4 (hq4.below hb5)).mono ?_);rintro e w6 ⟨rfl,hb6⟩;have hs6:=(hb6.block w4.heap.size sl).trans hs5;clear s0 s1 sf;obtain ⟨s0,s1,sf,sl6⟩:=cell2s hs6)
        | (go_at_call 86;(with_reducible refine (hLe _ a4 c4 ((hq4.below hb5).below hb6)).mono ?_);rintro e w7 ⟨rfl,hb7⟩))
       refine bodyPost_ret (v:=.tuple #[.int .i64 0,.int .i64 0,.int .i64 21]) Z2c rfl (hF.out _ (((((hb2.ch2 (one_alloc _ _)).ch2 hb3).ch2 hb4).ch2 (one_alloc _ _)).ch2 hb5))
     | true =>
       obtain ⟨k1,k2⟩:=hAsk hok c1 c2 c3
       rw [hok] at hW hCk
       simp only [if_true] at hW hCk
       rw [k1] at hGr
       rw [k2] at hLe
       rw [if_pos hW] at hLo hHi
       have hF:=Lib.hid (fun w' hb=>HP.out w' _ _ 0 hLo hHi hW hb)
       clear hAsk c1 c2 c3 hok k1 k2 HF HP hW hLo hHi
       generalize grB y.co B tw fr=G3 at *
       generalize grB y.co B fr tw=G4 at *
       generalize grN y.co B fr tw=G1 at *
       generalize - grN y.co B tw fr=G2 at *
       go_enter Tryz.func30,Tryz.ntmps30
       go_wp2_with (first
        | (go_at_call 82;(with_reducible refine (hL _ h).mono ?_);rintro e w2 ⟨v,rfl,hb2,ho2⟩;obtain ⟨va,vc,rfl,_⟩:=owns_slice ho2;have hi2:=(ItmsAt.of_owns ho2 (by omega) hcw).below (one_alloc w2 (Obj.cells #[.int .i64 y.id,.string y.wa,.int .i64 y.pit,.int .i64 y.ly,.int .i64 y.co,.bool y.ft] 72)))
        | (go_at_call 83;(with_reducible refine (hOu _ va vc hi2).mono ?_);rintro e w3 ⟨v1,v2,rfl,hb3,ho31,ho32⟩;obtain ⟨a1,c1,rfl,_⟩:=owns_slice ho31;obtain ⟨a2,c2,rfl,_⟩:=owns_slice ho32;have hq1:=BdsAt.of_owns ho31 (by omega);have hq2:=BdsAt.of_owns ho32 (by omega))
        | (go_at_call 41;(with_reducible refine (hWs _ a1 c1 a2 c2 hq1 hq2).mono ?_);rintro e w4 ⟨v4,rfl,hb4,ho4⟩;obtain ⟨a4,c4,rfl,_⟩:=owns_slice ho4;have hq4:=(BdsAt.of_owns ho4 (by omega)).below (one_alloc w4 (Obj.cells #[.int .i64 y.co,.slice a4 B.length c4] 57));have hsy:=World.alloc_heap_new w4 (Obj.cells #[.int .i64 y.co,.slice a4 B.length c4] 57))
        | (go_at_call 84;(with_reducible refine (hCk _ a4 c4 hq4).mono ?_);rintro e w5 ⟨rfl,hb5⟩;have hs5:=(hb5.block w4.heap.size (by simp)).trans hsy;obtain ⟨s0,s1,sf,sl⟩:=cell2s hs5)
        | (go_at_call 85;(with_reducible refine (hGr _ a4 c4 (hq4.below hb5)).mono ?_);rintro e w6 ⟨rfl,hb6⟩;have hs6:=(hb6.block w4.heap.size sl).trans hs5;clear s0 s1 sf;obtain ⟨s0,s1,sf,sl6⟩:=cell2s hs6)
        | (go_at_call 86;(with_reducible refine (hLe _ a4 c4 ((hq4.below hb5).below hb6)).mono ?_);rintro e w7 ⟨rfl,hb7⟩))
       refine bodyPost_ret (v:=.tuple #[.int .i64 G2,.int .i64 G1,.int .i64 0]) Z2c rfl (hF.out _ (((((((hb2.ch2 (one_alloc _ _)).ch2 hb3).ch2 hb4).ch2 (one_alloc _ _)).ch2 hb5).ch2 hb6).ch2 hb7))
    ·rw [if_neg (fun h=>c3 h.2.2)] at hW
     rw [hW] at HF
     have hF:=Lib.hid (HF.out (by decide))
     have d1:decide (fr<0)=false:=by simp;omega
     have d2:decide (tw≤fr)=false:=by simp;omega
     have d3:decide (y.co≤tw)=true:=by simp;omega
     clear HF HP hW hLo hHi hAsk c1 c2 c3 hGr hLe hOu hWs hCk
     exact Zx
   ·rw [if_neg (fun h=>c2 h.2.1)] at hW
    rw [hW] at HF
    have hF:=Lib.hid (HF.out (by decide))
    have d1:decide (fr<0)=false:=by simp;omega
    have d2:decide (tw≤fr)=true:=by simp;omega
    clear HF HP hW hLo hHi hAsk c1 c2 hGr hLe hOu hWs hCk
    exact Zx
  ·rw [if_neg (fun h=>c1 h.1)] at hW
   rw [hW] at HF
   have hF:=Lib.hid (HF.out (by decide))
   have d1:decide (fr<0)=true:=by simp;omega
   clear HF HP hW hLo hHi hAsk c1 hGr hLe hOu hWs hCk
   exact Zx
 ·rw [if_neg h0] at hW
  have hle:(lookR l day id).length≤300:=by unfold lookR;rw [if_neg h0];simp
  have hcw:∀ y ∈ lookR l day id,y.Wide:=by unfold lookR;rw [if_neg h0];intro y hy;cases hy
  rw [hW] at HF
  generalize lookE l day id=E at *
  have hF:=Lib.hid (HF.out h0)
  have e2:(E != 0)=true:=by simpa using h0
  have e3:(E == 0)=false:=by simpa using h0
  clear h0 HF HP hW hLo hHi
  generalize lookR l day id=S at *
  generalize lookZ l day id=y at *
  simp only [Shd.v,Shd.cs] at hL
  go_enter Tryz.func30,Tryz.ntmps30
  go_wp2_with (go_at_call 82;(with_reducible refine (hL _ h).mono ?_);rintro e w2 ⟨v,rfl,hb2,ho2⟩;obtain ⟨va,vc,rfl,_⟩:=owns_slice ho2)
  refine bodyPost_ret (v:=.tuple #[.int .i64 0,.int .i64 0,.int .i64 E]) Z2c rfl (hF.out _ (hb2.ch2 (one_alloc _ _)))
end Go.Proofs.YtelkcohhagblaaaGreat

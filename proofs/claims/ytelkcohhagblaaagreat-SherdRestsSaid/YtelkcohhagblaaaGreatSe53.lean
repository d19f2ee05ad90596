/- What the functions answer, for every input. -/
import Derived.Test.YtelkcohhagblaaaGreatSe45
import Derived.Test.YtelkcohhagblaaaGreatSe52
import Derived.Test.YtelkcohhagblaaaGreatSe51
import Derived.Test.YtelkcohhagblaaaGreatSe36
set_option linter.unusedSimpArgs false
set_option linter.unusedVariables false
set_option linter.unnecessarySimpa false
namespace Go.Proofs.YtelkcohhagblaaaGreat
theorem Z8c {P:Prop}(h:P:=by
 clear HF HP hW hK hLo hHi hAsk hAsk0 hGr hLe hWs
 go_enter Tryz.func29,Tryz.ntmps29
 go_wp2_with (go_at_call 37;(with_reducible refine (hL _ h).mono ?_);rintro e w2 ⟨v1,v2,rfl,hb2,ho1,ho2⟩;obtain ⟨a1,c1,rfl,_⟩:=owns_slice ho1;obtain ⟨a2,c2,rfl,_⟩:=owns_slice ho2)
 refine bodyPost_ret (v:=.tuple #[.int .i64 0,.int .i64 0,.bool false,.int .i64 1]) Z8q rfl (hF.out _ (hb2.ch2 (one_alloc _ _)))):P:=h
theorem Z8d {P:Prop}(h:P:=by
 clear HF HP hW hLo hHi hAsk hAsk0 hGr hLe hWs
 go_enter Tryz.func31,Tryz.ntmps31
 go_wp2_with (go_at_call 37;(with_reducible refine (hL _ h).mono ?_);rintro e w2 ⟨v1,v2,rfl,hb2,ho1,ho2⟩;obtain ⟨a1,c1,rfl,_⟩:=owns_slice ho1;obtain ⟨a2,c2,rfl,_⟩:=owns_slice ho2)
 refine bodyPost_ret (v:=.tuple #[.int .i64 0,.int .i64 0,.int .i64 1]) Z8r rfl (hF.out _ (hb2.ch2 (one_alloc _ _)))):P:=h
theorem Z8o {P:Prop}(h:P:=by
 rw [hPe];omega):P:=h
theorem Z8q {P:Prop}(h:P:=by
 simp [results,Tryz.results29,go_sem]):P:=h
theorem Z8r {P:Prop}(h:P:=by
 simp [results,Tryz.results31,go_sem]):P:=h
open Go.RowKit Go.Shelf
set_option maxHeartbeats 8000000
set_option maxRecDepth 100000
theorem r2Way_any (a:Option Addr) (n cap:Nat) (l:List Itm) (day id fr tw:Int) (w:World) (h:ItmsAt w a n cap l) (hcap:l.length≤cap) (hs:l.length≤1000) :
 Calls Tryz.prog 29 #[.slice a n cap,.int .i64 day,.int .i64 id,.int .i64 fr,.int .i64 tw] w (QuadI w (wayLo l day id fr tw) (wayHi l day id fr tw) (wayK l day id fr tw) (wayE l day id fr tw)):=by
 have hL:=fun W hi=>r2Outline_any a n cap l day id W hi hcap hs
 have hW:wayE l day id fr tw=if lookE l day id=0 then (if 0≤fr∧fr<tw∧tw≤(lookS l day id).co then (if okB (wayP l day id) (wayB l day id) then 0 else 21) else 1) else lookE l day id:=rfl
 have hK:wayK l day id fr tw=(decide (wayE l day id fr tw=0) && grB (wayP l day id) (wayB l day id) fr tw):=rfl
 have hLo:wayLo l day id fr tw=if wayK l day id fr tw then - grN (wayP l day id) (wayB l day id) tw fr else 0:=rfl
 have hHi:wayHi l day id fr tw=if wayK l day id fr tw then grN (wayP l day id) (wayB l day id) fr tw else 0:=rfl
 have HP:=Lib.hid (show ∀ w' A B C D,wayLo l day id fr tw=A→wayHi l day id fr tw=B→wayK l day id fr tw=C→wayE l day id fr tw=D→Below w.heap.size w w'→QuadI w (wayLo l day id fr tw) (wayHi l day id fr tw) (wayK l day id fr tw) (wayE l day id fr tw) (.returned (.tuple #[.int .i64 A,.int .i64 B,.bool C,.int .i64 D])) w' from
  fun w' A B C D h1 h2 h3 h4 h5=>by subst h1 h2 h3 h4;exact ⟨rfl,h5⟩)
 generalize QuadI w (wayLo l day id fr tw) (wayHi l day id fr tw) (wayK l day id fr tw) (wayE l day id fr tw)=Post at *
 have HF:Hid (wayE l day id fr tw≠0→∀ w',Below w.heap.size w w'→Post (.returned (.tuple #[.int .i64 0,.int .i64 0,.bool false,.int .i64 (wayE l day id fr tw)])) w'):=Lib.hid (fun h0 w' hb=>by
  have hk:wayK l day id fr tw=false:=by rw [hK];simp [h0]
  exact HP.out w' _ _ _ _ (by rw [hLo,hk];rfl) (by rw [hHi,hk];rfl) hk rfl hb)
 unfold OutE at hL
 by_cases h0:lookE l day id=0
 ·have hlk:=look_ok h0
  have e1:outC l day id=(lookS l day id).co:=by unfold outC;rw [if_pos h0]
  have e2:outW l day id=wayB l day id:=by unfold outW;rw [if_pos h0]
  have e3:outT l day id=turnB l day id:=by unfold outT;rw [if_pos h0]
  rw [e1,e2,e3,h0] at hL
  rw [if_pos h0] at hW
  have hb4:=chk_len hlk.ways
  have ht4:=chk_len hlk.turns
  have hco:=hlk.co
  have hrg:rngB (lookS l day id).co 3 16=true:=rngB_iff.2 hco
  have hPe:wayP l day id=(lookS l day id).co +1:=rfl
  have hWs:=fun W a1 c1 a2 c2 (h1:BdsAt W a1 (wayB l day id).length c1 (wayB l day id)) (h2:BdsAt W a2 (turnB l day id).length c2 (turnB l day id))=>r2Ways_any (lookS l day id).co a1 _ c1 (wayB l day id) a2 _ c2 (turnB l day id) W h1 h2 ⟨by omega,by omega⟩
  unfold SysPost sysIf sysBs at hWs
  simp only [hrg,if_true] at hWs
  have hGr:=fun W a4 c4 (h4:BdsAt W a4 (wayB l day id).length c4 (wayB l day id))=>rGreatest_any (wayP l day id) a4 _ c4 (wayB l day id) fr tw W h4
  have hLe:=fun W a4 c4 (h4:BdsAt W a4 (wayB l day id).length c4 (wayB l day id))=>rLeast_any (wayP l day id) a4 _ c4 (wayB l day id) fr tw W h4
  rw [hPe] at hGr hLe
  have hAsk:=fun (hok:okB (wayP l day id) (wayB l day id)=true) (h1:0≤fr) (h2:fr<tw) (h3:tw≤(lookS l day id).co)=>And.intro (askE_in hlk.ways hok (x:=fr) (y:=tw) (by omega) Z8o (by omega) Z8o) (askE_in hlk.ways hok (x:=tw) (y:=fr) (by omega) Z8o (by omega) Z8o)
  have hAsk0:=fun (hok:okB (wayP l day id) (wayB l day id)=false) (h1:0≤fr) (h2:fr<tw) (h3:tw≤(lookS l day id).co)=>And.intro (askE_no hlk.ways hok (x:=fr) (y:=tw) (by omega) Z8o (by omega) Z8o) (askE_no hlk.ways hok (x:=tw) (y:=fr) (by omega) Z8o (by omega) Z8o)
  rw [hPe] at hAsk hAsk0 hW hLo hHi hK
  clear e1 e2 e3 hlk hrg hPe
  generalize wayB l day id=B at *
  generalize turnB l day id=TB at *
  generalize lookS l day id=y at *
  have tokA:True:=trivial
  by_cases c1:0≤fr
  ·by_cases c2:fr<tw
   ·by_cases c3:tw≤y.co
    ·rw [if_pos ⟨c1,c2,c3⟩] at hW
     have d1:decide (fr<0)=false:=by simp;omega
     have d2:decide (tw≤fr)=false:=by simp;omega
     have d3:decide (y.co<tw)=false:=by simp;omega
     cases hok:okB (y.co +1) B with
     | false =>
       obtain ⟨k1,k2⟩:=hAsk0 hok c1 c2 c3
       rw [k1] at hGr
       rw [k2] at hLe
       rw [hok] at hW
       simp only [Bool.false_eq_true,if_false] at hW
       rw [hW] at HF
       have hF:=Lib.hid (HF.out (by decide))
       clear HF HP hW hK hLo hHi hAsk hAsk0 c1 c2 c3 hok k1 k2
       generalize grN (y.co +1) B fr tw=G1 at *
       generalize grB (y.co +1) B fr tw=G2 at *
       generalize - grN (y.co +1) B tw fr=G3 at *
       generalize grB (y.co +1) B tw fr=G4 at *
       go_enter Tryz.func29,Tryz.ntmps29
       go_wp2_with (first
        | (go_at_call 37;(with_reducible refine (hL _ h).mono ?_);rintro e w2 ⟨v1,v2,rfl,hb2,ho1,ho2⟩;obtain ⟨a1,c1,rfl,_⟩:=owns_slice ho1;obtain ⟨a2,c2,rfl,_⟩:=owns_slice ho2;have q1:=(BdsAt.of_owns ho1 (by omega)).below (one_alloc w2 (Obj.cells #[.int .i64 y.co,.slice a1 B.length c1,.slice a2 TB.length c2] 52));have q2:=(BdsAt.of_owns ho2 (by omega)).below (one_alloc w2 (Obj.cells #[.int .i64 y.co,.slice a1 B.length c1,.slice a2 TB.length c2] 52));have hA:=World.alloc_heap_new w2 (Obj.cells #[.int .i64 y.co,.slice a1 B.length c1,.slice a2 TB.length c2] 52);have hZ2:=hb2.ch2 (one_alloc w2 (Obj.cells #[.int .i64 y.co,.slice a1 B.length c1,.slice a2 TB.length c2] 52)))
        | (go_at_call 40;clear tokA;(with_reducible refine (hWs _ a1 c1 a2 c2 q1 q2).mono ?_);rintro e w4 ⟨v4,rfl,hb4,ho4⟩;obtain ⟨a4,c4,rfl,_⟩:=owns_slice ho4;have q4:=BdsAt.of_owns ho4 (by omega))
        | (go_at_call 87;(with_reducible refine (hGr _ a4 c4 q4).mono ?_);rintro e w5 ⟨rfl,hb5⟩;have hY5:=hb4.ch2 hb5;obtain ⟨d0,d1,d2,df,dl⟩:=cell3s ((hY5.block w2.heap.size (by simp)).trans hA))
        | (go_at_call 40;(with_reducible refine (hWs _ a1 c1 a2 c2 (q1.below hY5) (q2.below hY5)).mono ?_);rintro e w6 ⟨v6,rfl,hb6,ho6⟩;obtain ⟨a6,c6,rfl,_⟩:=owns_slice ho6;have q6:=BdsAt.of_owns ho6 (by omega))
        | (go_at_call 88;(with_reducible refine (hLe _ a6 c6 q6).mono ?_);rintro e w7 ⟨rfl,hb7⟩))
       refine bodyPost_ret (v:=.tuple #[.int .i64 0,.int .i64 0,.bool false,.int .i64 21]) Z8q rfl (hF.out _ (((hZ2.ch2 hY5).ch2 hb6).ch2 hb7))
     | true =>
       obtain ⟨k1,k2⟩:=hAsk hok c1 c2 c3
       rw [hok] at hW
       simp only [if_true] at hW
       rw [k1] at hGr
       rw [k2] at hLe
       have hK2:=hK
       rw [hW] at hK2
       simp only [decide_true,Bool.true_and] at hK2
       cases hg:grB (y.co +1) B fr tw with
       | false =>
         rw [hg] at hGr hK2
         have hF:=Lib.hid (fun w' hb=>HP.out w' 0 0 false 0 (by rw [hLo,hK2];rfl) (by rw [hHi,hK2];rfl) hK2 hW hb)
         clear hAsk hAsk0 c1 c2 c3 hok k1 k2 HF HP hW hK hLo hHi hK2 hg
         generalize grN (y.co +1) B fr tw=G1 at *
         generalize - grN (y.co +1) B tw fr=G3 at *
         generalize grB (y.co +1) B tw fr=G4 at *
         go_enter Tryz.func29,Tryz.ntmps29
         go_wp2_with (first
          | (go_at_call 37;(with_reducible refine (hL _ h).mono ?_);rintro e w2 ⟨v1,v2,rfl,hb2,ho1,ho2⟩;obtain ⟨a1,c1,rfl,_⟩:=owns_slice ho1;obtain ⟨a2,c2,rfl,_⟩:=owns_slice ho2;have q1:=(BdsAt.of_owns ho1 (by omega)).below (one_alloc w2 (Obj.cells #[.int .i64 y.co,.slice a1 B.length c1,.slice a2 TB.length c2] 52));have q2:=(BdsAt.of_owns ho2 (by omega)).below (one_alloc w2 (Obj.cells #[.int .i64 y.co,.slice a1 B.length c1,.slice a2 TB.length c2] 52));have hA:=World.alloc_heap_new w2 (Obj.cells #[.int .i64 y.co,.slice a1 B.length c1,.slice a2 TB.length c2] 52);have hZ2:=hb2.ch2 (one_alloc w2 (Obj.cells #[.int .i64 y.co,.slice a1 B.length c1,.slice a2 TB.length c2] 52)))
          | (go_at_call 40;clear tokA;(with_reducible refine (hWs _ a1 c1 a2 c2 q1 q2).mono ?_);rintro e w4 ⟨v4,rfl,hb4,ho4⟩;obtain ⟨a4,c4,rfl,_⟩:=owns_slice ho4;have q4:=BdsAt.of_owns ho4 (by omega))
          | (go_at_call 87;(with_reducible refine (hGr _ a4 c4 q4).mono ?_);rintro e w5 ⟨rfl,hb5⟩;have hY5:=hb4.ch2 hb5;obtain ⟨d0,d1,d2,df,dl⟩:=cell3s ((hY5.block w2.heap.size (by simp)).trans hA))
          | (go_at_call 40;(with_reducible refine (hWs _ a1 c1 a2 c2 (q1.below hY5) (q2.below hY5)).mono ?_);rintro e w6 ⟨v6,rfl,hb6,ho6⟩;obtain ⟨a6,c6,rfl,_⟩:=owns_slice ho6;have q6:=BdsAt.of_owns ho6 (by omega))
          | (go_at_call 88;(with_reducible refine (hLe _ a6 c6 q6).mono ?_);rintro e w7 ⟨rfl,hb7⟩))
         refine bodyPost_ret (v:=.tuple #[.int .i64 0,.int .i64 0,.bool false,.int .i64 0]) Z8q rfl (hF.out _ (((hZ2.ch2 hY5).ch2 hb6).ch2 hb7))
       | true =>
         rw [hg] at hGr hK2
         rw [hK2] at hLo hHi
         simp only [if_true] at hLo hHi
         have hF:=Lib.hid (fun w' hb=>HP.out w' _ _ true 0 hLo hHi hK2 hW hb)
         clear hAsk hAsk0 c1 c2 c3 hok k1 k2 HF HP hW hK hLo hHi hK2 hg
         generalize grN (y.co +1) B fr tw=G1 at *
         generalize - grN (y.co +1) B tw fr=G3 at *
         generalize grB (y.co +1) B tw fr=G4 at *
         go_enter Tryz.func29,Tryz.ntmps29
         go_wp2_with (first
          | (go_at_call 37;(with_reducible refine (hL _ h).mono ?_);rintro e w2 ⟨v1,v2,rfl,hb2,ho1,ho2⟩;obtain ⟨a1,c1,rfl,_⟩:=owns_slice ho1;obtain ⟨a2,c2,rfl,_⟩:=owns_slice ho2;have q1:=(BdsAt.of_owns ho1 (by omega)).below (one_alloc w2 (Obj.cells #[.int .i64 y.co,.slice a1 B.length c1,.slice a2 TB.length c2] 52));have q2:=(BdsAt.of_owns ho2 (by omega)).below (one_alloc w2 (Obj.cells #[.int .i64 y.co,.slice a1 B.length c1,.slice a2 TB.length c2] 52));have hA:=World.alloc_heap_new w2 (Obj.cells #[.int .i64 y.co,.slice a1 B.length c1,.slice a2 TB.length c2] 52);have hZ2:=hb2.ch2 (one_alloc w2 (Obj.cells #[.int .i64 y.co,.slice a1 B.length c1,.slice a2 TB.length c2] 52)))
          | (go_at_call 40;clear tokA;(with_reducible refine (hWs _ a1 c1 a2 c2 q1 q2).mono ?_);rintro e w4 ⟨v4,rfl,hb4,ho4⟩;obtain ⟨a4,c4,rfl,_⟩:=owns_slice ho4;have q4:=BdsAt.of_owns ho4 (by omega))
          | (go_at_call 87;(with_reducible refine (hGr _ a4 c4 q4).mono ?_);rintro e w5 ⟨rfl,hb5⟩;have hY5:=hb4.ch2 hb5;obtain ⟨d0,d1,d2,df,dl⟩:=cell3s ((hY5.block w2.heap.size (by simp)).trans hA))
          | (go_at_call 40;(with_reducible refine (hWs _ a1 c1 a2 c2 (q1.below hY5) (q2.below hY5)).mono ?_);rintro e w6 ⟨v6,rfl,hb6,ho6⟩;obtain ⟨a6,c6,rfl,_⟩:=owns_slice ho6;have q6:=BdsAt.of_owns ho6 (by omega))
          | (go_at_call 88;(with_reducible refine (hLe _ a6 c6 q6).mono ?_);rintro e w7 ⟨rfl,hb7⟩))
         refine bodyPost_ret (v:=.tuple #[.int .i64 G3,.int .i64 G1,.bool true,.int .i64 0]) Z8q rfl (hF.out _ (((hZ2.ch2 hY5).ch2 hb6).ch2 hb7))
    ·rw [if_neg (fun h=>c3 h.2.2)] at hW
     rw [hW] at HF
     have hF:=Lib.hid (HF.out (by decide))
     have d1:decide (fr<0)=false:=by simp;omega
     have d2:decide (tw≤fr)=false:=by simp;omega
     have d3:decide (y.co<tw)=true:=by simp;omega
     exact Z8c
   ·rw [if_neg (fun h=>c2 h.2.1)] at hW
    rw [hW] at HF
    have hF:=Lib.hid (HF.out (by decide))
    have d1:decide (fr<0)=false:=by simp;omega
    have d2:decide (tw≤fr)=true:=by simp;omega
    exact Z8c
  ·rw [if_neg (fun h=>c1 h.1)] at hW
   rw [hW] at HF
   have hF:=Lib.hid (HF.out (by decide))
   have d1:decide (fr<0)=true:=by simp;omega
   exact Z8c
 ·rw [if_neg h0] at hW
  rw [hW] at HF
  generalize lookE l day id=E at *
  have hF:=Lib.hid (HF.out h0)
  have e2:(E != 0)=true:=by simpa using h0
  clear h0 HF HP hW hK hLo hHi
  generalize outC l day id=C0 at *
  generalize outW l day id=W0 at *
  generalize outT l day id=T0 at *
  go_enter Tryz.func29,Tryz.ntmps29
  go_wp2_with (go_at_call 37;(with_reducible refine (hL _ h).mono ?_);rintro e w2 ⟨v1,v2,rfl,hb2,ho1,ho2⟩;obtain ⟨a1,c1,rfl,_⟩:=owns_slice ho1;obtain ⟨a2,c2,rfl,_⟩:=owns_slice ho2)
  refine bodyPost_ret (v:=.tuple #[.int .i64 0,.int .i64 0,.bool false,.int .i64 E]) Z8q rfl (hF.out _ (hb2.ch2 (one_alloc _ _)))
theorem r2Turn_any (a:Option Addr) (n cap:Nat) (l:List Itm) (day id fr tw:Int) (w:World) (h:ItmsAt w a n cap l) (hcap:l.length≤cap) (hs:l.length≤1000) :
 Calls Tryz.prog 31 #[.slice a n cap,.int .i64 day,.int .i64 id,.int .i64 fr,.int .i64 tw] w (TriI w (turnLo l day id fr tw) (turnHi l day id fr tw) (turnE l day id fr tw)):=by
 have hL:=fun W hi=>r2Outline_any a n cap l day id W hi hcap hs
 have hW:turnE l day id fr tw=if lookE l day id=0 then (if 0≤fr∧fr<tw∧tw<(lookS l day id).co then (if okB (turnP l day id) (turnB l day id) then 0 else 21) else 1) else lookE l day id:=rfl
 have hLo:turnLo l day id fr tw=if turnE l day id fr tw=0 then - grN (turnP l day id) (turnB l day id) tw fr else 0:=rfl
 have hHi:turnHi l day id fr tw=if turnE l day id fr tw=0 then grN (turnP l day id) (turnB l day id) fr tw else 0:=rfl
 have HP:=Lib.hid (show ∀ w' A B D,turnLo l day id fr tw=A→turnHi l day id fr tw=B→turnE l day id fr tw=D→Below w.heap.size w w'→TriI w (turnLo l day id fr tw) (turnHi l day id fr tw) (turnE l day id fr tw) (.returned (.tuple #[.int .i64 A,.int .i64 B,.int .i64 D])) w' from
  fun w' A B D h1 h2 h4 h5=>by subst h1 h2 h4;exact ⟨rfl,h5⟩)
 generalize TriI w (turnLo l day id fr tw) (turnHi l day id fr tw) (turnE l day id fr tw)=Post at *
 have HF:Hid (turnE l day id fr tw≠0→∀ w',Below w.heap.size w w'→Post (.returned (.tuple #[.int .i64 0,.int .i64 0,.int .i64 (turnE l day id fr tw)])) w'):=Lib.hid (fun h0 w' hb=>by
  exact HP.out w' _ _ _ (by rw [hLo,if_neg h0]) (by rw [hHi,if_neg h0]) rfl hb)
 unfold OutE at hL
 by_cases h0:lookE l day id=0
 ·have hlk:=look_ok h0
  have e1:outC l day id=(lookS l day id).co:=by unfold outC;rw [if_pos h0]
  have e2:outW l day id=wayB l day id:=by unfold outW;rw [if_pos h0]
  have e3:outT l day id=turnB l day id:=by unfold outT;rw [if_pos h0]
  rw [e1,e2,e3,h0] at hL
  rw [if_pos h0] at hW
  have hb4:=chk_len hlk.ways
  have ht4:=chk_len hlk.turns
  have hco:=hlk.co
  have hrg:rngB (lookS l day id).co 3 16=true:=rngB_iff.2 hco
  have hPe:turnP l day id=(lookS l day id).co:=rfl
  have hWs:=fun W a1 c1 a2 c2 (h1:BdsAt W a1 (wayB l day id).length c1 (wayB l day id)) (h2:BdsAt W a2 (turnB l day id).length c2 (turnB l day id))=>r2Turns_any (lookS l day id).co a1 _ c1 (wayB l day id) a2 _ c2 (turnB l day id) W h1 h2 ⟨by omega,by omega⟩
  unfold SysPost sysIf sysBs at hWs
  simp only [hrg,if_true] at hWs
  have hGr:=fun W a4 c4 (h4:BdsAt W a4 (turnB l day id).length c4 (turnB l day id))=>rGreatest_any (turnP l day id) a4 _ c4 (turnB l day id) fr tw W h4
  have hLe:=fun W a4 c4 (h4:BdsAt W a4 (turnB l day id).length c4 (turnB l day id))=>rLeast_any (turnP l day id) a4 _ c4 (turnB l day id) fr tw W h4
  rw [hPe] at hGr hLe
  have hAsk:=fun (hok:okB (turnP l day id) (turnB l day id)=true) (h1:0≤fr) (h2:fr<tw) (h3:tw<(lookS l day id).co)=>And.intro (askE_in hlk.turns hok (x:=fr) (y:=tw) (by omega) Z8o (by omega) Z8o) (askE_in hlk.turns hok (x:=tw) (y:=fr) (by omega) Z8o (by omega) Z8o)
  have hAsk0:=fun (hok:okB (turnP l day id) (turnB l day id)=false) (h1:0≤fr) (h2:fr<tw) (h3:tw<(lookS l day id).co)=>And.intro (askE_no hlk.turns hok (x:=fr) (y:=tw) (by omega) Z8o (by omega) Z8o) (askE_no hlk.turns hok (x:=tw) (y:=fr) (by omega) Z8o (by omega) Z8o)
  rw [hPe] at hAsk hAsk0 hW hLo hHi
  clear e1 e2 e3 hlk hrg hPe
  generalize turnB l day id=B at *
  generalize wayB l day id=TB at *
  generalize lookS l day id=y at *
  have tokA:True:=trivial
  by_cases c1:0≤fr
  ·by_cases c2:fr<tw
   ·by_cases c3:tw<y.co
    ·rw [if_pos ⟨c1,c2,c3⟩] at hW
     have d1:decide (fr<0)=false:=by simp;omega
     have d2:decide (tw≤fr)=false:=by simp;omega
     have d3:decide (y.co≤tw)=false:=by simp;omega
     cases hok:okB (y.co) B with
     | false =>
       obtain ⟨k1,k2⟩:=hAsk0 hok c1 c2 c3
       rw [k1] at hGr
       rw [k2] at hLe
       rw [hok] at hW
       simp only [Bool.false_eq_true,if_false] at hW
       rw [hW] at HF
       have hF:=Lib.hid (HF.out (by decide))
       clear HF HP hW hLo hHi hAsk hAsk0 c1 c2 c3 hok k1 k2
       generalize grN (y.co) B fr tw=G1 at *
       generalize grB (y.co) B fr tw=G2 at *
       generalize - grN (y.co) B tw fr=G3 at *
       generalize grB (y.co) B tw fr=G4 at *
       go_enter Tryz.func31,Tryz.ntmps31
       go_wp2_with (first
        | (go_at_call 37;(with_reducible refine (hL _ h).mono ?_);rintro e w2 ⟨v1,v2,rfl,hb2,ho1,ho2⟩;obtain ⟨a1,c1,rfl,_⟩:=owns_slice ho1;obtain ⟨a2,c2,rfl,_⟩:=owns_slice ho2;have q1:=(BdsAt.of_owns ho1 (by omega)).below (one_alloc w2 (Obj.cells #[.int .i64 y.co,.slice a1 TB.length c1,.slice a2 B.length c2] 52));have q2:=(BdsAt.of_owns ho2 (by omega)).below (one_alloc w2 (Obj.cells #[.int .i64 y.co,.slice a1 TB.length c1,.slice a2 B.length c2] 52));have hA:=World.alloc_heap_new w2 (Obj.cells #[.int .i64 y.co,.slice a1 TB.length c1,.slice a2 B.length c2] 52);have hZ2:=hb2.ch2 (one_alloc w2 (Obj.cells #[.int .i64 y.co,.slice a1 TB.length c1,.slice a2 B.length c2] 52)))
        | (go_at_call 42;clear tokA;(with_reducible refine (hWs _ a1 c1 a2 c2 q1 q2).mono ?_);rintro e w4 ⟨v4,rfl,hb4,ho4⟩;obtain ⟨a4,c4,rfl,_⟩:=owns_slice ho4;have q4:=BdsAt.of_owns ho4 (by omega))
        | (go_at_call 87;(with_reducible refine (hGr _ a4 c4 q4).mono ?_);rintro e w5 ⟨rfl,hb5⟩;have hY5:=hb4.ch2 hb5;obtain ⟨d0,d1,d2,df,dl⟩:=cell3s ((hY5.block w2.heap.size (by simp)).trans hA))
        | (go_at_call 42;(with_reducible refine (hWs _ a1 c1 a2 c2 (q1.below hY5) (q2.below hY5)).mono ?_);rintro e w6 ⟨v6,rfl,hb6,ho6⟩;obtain ⟨a6,c6,rfl,_⟩:=owns_slice ho6;have q6:=BdsAt.of_owns ho6 (by omega))
        | (go_at_call 88;(with_reducible refine (hLe _ a6 c6 q6).mono ?_);rintro e w7 ⟨rfl,hb7⟩))
       refine bodyPost_ret (v:=.tuple #[.int .i64 0,.int .i64 0,.int .i64 21]) Z8r rfl (hF.out _ (((hZ2.ch2 hY5).ch2 hb6).ch2 hb7))
     | true =>
       obtain ⟨k1,k2⟩:=hAsk hok c1 c2 c3
       rw [hok] at hW
       simp only [if_true] at hW
       rw [k1] at hGr
       rw [k2] at hLe
       rw [hW] at hLo hHi
       simp only [if_true] at hLo hHi
       have hF:=Lib.hid (fun w' hb=>HP.out w' _ _ 0 hLo hHi hW hb)
       clear hAsk hAsk0 c1 c2 c3 hok k1 k2 HF HP hW hLo hHi
       generalize grN (y.co) B fr tw=G1 at *
       generalize grB (y.co) B fr tw=G2 at *
       generalize - grN (y.co) B tw fr=G3 at *
       generalize grB (y.co) B tw fr=G4 at *
       go_enter Tryz.func31,Tryz.ntmps31
       go_wp2_with (first
        | (go_at_call 37;(with_reducible refine (hL _ h).mono ?_);rintro e w2 ⟨v1,v2,rfl,hb2,ho1,ho2⟩;obtain ⟨a1,c1,rfl,_⟩:=owns_slice ho1;obtain ⟨a2,c2,rfl,_⟩:=owns_slice ho2;have q1:=(BdsAt.of_owns ho1 (by omega)).below (one_alloc w2 (Obj.cells #[.int .i64 y.co,.slice a1 TB.length c1,.slice a2 B.length c2] 52));have q2:=(BdsAt.of_owns ho2 (by omega)).below (one_alloc w2 (Obj.cells #[.int .i64 y.co,.slice a1 TB.length c1,.slice a2 B.length c2] 52));have hA:=World.alloc_heap_new w2 (Obj.cells #[.int .i64 y.co,.slice a1 TB.length c1,.slice a2 B.length c2] 52);have hZ2:=hb2.ch2 (one_alloc w2 (Obj.cells #[.int .i64 y.co,.slice a1 TB.length c1,.slice a2 B.length c2] 52)))
        | (go_at_call 42;clear tokA;(with_reducible refine (hWs _ a1 c1 a2 c2 q1 q2).mono ?_);rintro e w4 ⟨v4,rfl,hb4,ho4⟩;obtain ⟨a4,c4,rfl,_⟩:=owns_slice ho4;have q4:=BdsAt.of_owns ho4 (by omega))
        | (go_at_call 87;(with_reducible refine (hGr _ a4 c4 q4).mono ?_);rintro e w5 ⟨rfl,hb5⟩;have hY5:=hb4.ch2 hb5;obtain ⟨d0,d1,d2,df,dl⟩:=cell3s ((hY5.block w2.heap.size (by simp)).trans hA))
        | (go_at_call 42;(with_reducible refine (hWs _ a1 c1 a2 c2 (q1.below hY5) (q2.below hY5)).mono ?_);rintro e w6 ⟨v6,rfl,hb6,ho6⟩;obtain ⟨a6,c6,rfl,_⟩:=owns_slice ho6;have q6:=BdsAt.of_owns ho6 (by omega))
        | (go_at_call 88;(with_reducible refine (hLe _ a6 c6 q6).mono ?_);rintro e w7 ⟨rfl,hb7⟩))
       refine bodyPost_ret (v:=.tuple #[.int .i64 G3,.int .i64 G1,.int .i64 0]) Z8r rfl (hF.out _ (((hZ2.ch2 hY5).ch2 hb6).ch2 hb7))
    ·rw [if_neg (fun h=>c3 h.2.2)] at hW
     rw [hW] at HF
     have hF:=Lib.hid (HF.out (by decide))
     have d1:decide (fr<0)=false:=by simp;omega
     have d2:decide (tw≤fr)=false:=by simp;omega
     have d3:decide (y.co≤tw)=true:=by simp;omega
     exact Z8d
   ·rw [if_neg (fun h=>c2 h.2.1)] at hW
    rw [hW] at HF
    have hF:=Lib.hid (HF.out (by decide))
    have d1:decide (fr<0)=false:=by simp;omega
    have d2:decide (tw≤fr)=true:=by simp;omega
    exact Z8d
  ·rw [if_neg (fun h=>c1 h.1)] at hW
   rw [hW] at HF
   have hF:=Lib.hid (HF.out (by decide))
   have d1:decide (fr<0)=true:=by simp;omega
   exact Z8d
 ·rw [if_neg h0] at hW
  rw [hW] at HF
  generalize lookE l day id=E at *
  have hF:=Lib.hid (HF.out h0)
  have e2:(E != 0)=true:=by simpa using h0
  clear h0 HF HP hW hLo hHi
  generalize outC l day id=C0 at *
  generalize outW l day id=W0 at *
  generalize outT l day id=T0 at *
  go_enter Tryz.func31,Tryz.ntmps31
  go_wp2_with (go_at_call 37;(with_reducible refine (hL _ h).mono ?_);rintro e w2 ⟨v1,v2,rfl,hb2,ho1,ho2⟩;obtain ⟨a1,c1,rfl,_⟩:=owns_slice ho1;obtain ⟨a2,c2,rfl,_⟩:=owns_slice ho2)
  refine bodyPost_ret (v:=.tuple #[.int .i64 0,.int .i64 0,.int .i64 E]) Z8r rfl (hF.out _ (hb2.ch2 (one_alloc _ _)))
end Go.Proofs.YtelkcohhagblaaaGreat

/- What the functions answer, for every input. -/
import Derived.Test.YtelkcohhagblaaaGreatSe29
import Derived.Test.YtelkcohhagblaaaGreatSe31
import Derived.Test.YtelkcohhagblaaaGreatSe23
set_option linter.unusedSimpArgs false
set_option linter.unusedVariables false
set_option linter.unnecessarySimpa false
namespace Go.Proofs.YtelkcohhagblaaaGreat
open Go.RowKit Go.Shelf
set_option maxHeartbeats 8000000
set_option maxRecDepth 100000
def cntL (l:List Itm) (day:Int):List Itm:=if (chkI l).2=0 then countL l day else []
theorem wides {l m:List Itm} (h:∀ x ∈ l,x.Wide) (hs:∀ x ∈ m,x ∈ l):∀ x ∈ m,x.Wide:=fun x hx=>h x (hs x hx)
theorem cnt_mem {l:List Itm} {day:Int} {x:Itm} (h:x ∈ cntL l day):x ∈ l:=by
 unfold cntL at h
 split at h
 ·exact (countL_sub h).1
 ·cases h
theorem sCounting_any (a:Option Addr) (n cap:Nat) (l:List Itm) (day:Int) (w:World) (h:ItmsAt w a n cap l) (hcap:l.length≤cap) :
 Calls Tryz.prog 49 #[.slice a n cap,.int .i64 day] w (RowE w (chkI l).2 (cntL l day)):=by
 have hCh:=fun w1 (h1:ItmsAt w1 a n cap l)=>sCheck_any a n cap l w1 h1 hcap (fun y hy w2=>sCheckItem_any y w2 (h.wide y hy))
 unfold PairI at hCh
 have hwd:=h.wide
 by_cases h0:(chkI l).2=0
 ·have hfew:=(chk_ok.1 h0).few
  have hL:cntL l day=standL (earlyL l day):=by unfold cntL;rw [if_pos h0];rfl
  rw [h0] at hCh ⊢
  rw [hL]
  have hEl:(earlyL l day).length≤300:=Nat.le_trans (List.length_filter_le _ _) hfew
  have hEm:∀ x ∈ earlyL l day,x ∈ l:=fun x hx=>(List.mem_filter.1 hx).1
  have hEw:=wides hwd hEm
  have hEa:=fun w1 (h1:ItmsAt w1 a n cap l)=>searly a n cap l day w1 h1 (by omega)
  have HP:=Lib.hid (show ∀ v w',Below w.heap.size w w'→w'.ownsRow w.heap.size 24 16 v (standL (earlyL l day)).length (ics (standL (earlyL l day)))→RowE w 0 (standL (earlyL l day)) (.returned (.tuple #[v,.int .i64 0])) w' from fun v w' h1 h2=>⟨v,rfl,h1,h2⟩)
  generalize RowE w 0 (standL (earlyL l day))=Post at *
  generalize earlyL l day=E at *
  have hSl:(standL E).length≤300:=Nat.le_trans (List.length_filter_le _ _) hEl
  have HCo:=Lib.hid (fun (W:World) (va:Option Addr) (vc:Nat) (hi:ItmsAt W va E.length vc E) =>
   sCollectT 172 #[.pointer (some ⟨W.heap.size,0,none⟩)] _ (standL E) (W.alloc (Obj.cells #[.slice va E.length vc] 22)) (sstands1 va E.length vc E W.heap.size (by omega)) (enters_of Tryz.func172 Zk rfl)
    (fun W' hb=>⟨by rw [(bcell hb).1 _ _ (by simp)];simp [go_sem],(hi.below (one_alloc _ _)).below hb⟩) (by omega))
  generalize (chkI l).1=C1 at *
  generalize standL E=S at *
  clear h0 hL hwd hcap hEm
  go_enter Tryz.func49,Tryz.ntmps49
  go_wp2_with (first
   | (go_at_call 21;(with_reducible refine (hCh _ h).mono ?_);rintro e w1 ⟨rfl,hb1⟩)
   | (go_at_call 110;(with_reducible refine (hEa _ (h.below hb1)).mono ?_);rintro e w2 ⟨v2,rfl,hb2,ho2⟩;obtain ⟨va,vc,rfl,_⟩:=owns_slice ho2;have hcol:=HCo.out w2 va vc (ItmsAt.of_owns ho2 (by omega) hEw);have hsz2:=hb2.size)
   | (go_at_call 109;refine (sstands _ _ _ _).mono ?_;rintro e w3 ⟨rfl,rfl⟩)
   | (go_at_call 98;(with_reducible refine hcol.mono ?_);rintro e w4 ⟨v4,rfl,hb4,ho4⟩))
  exact HP.out _ _ (((hb1.ch2 hb2).ch2 (one_alloc _ _)).ch2 hb4) (SL.row_base ho4 (by have:=hb1.size;simp;omega))
 ·have hL:cntL l day=[]:=by unfold cntL;rw [if_neg h0]
  rw [hL]
  have HP:=Lib.hid (show ∀ w',Below w.heap.size w w'→RowE w (chkI l).2 [] (.returned (.tuple #[.slice none 0 0,.int .i64 (chkI l).2])) w' from fun w' h1=>RowE.nil _ _ _ h1)
  generalize RowE w (chkI l).2 []=Post at *
  generalize (chkI l).1=C1 at *
  generalize (chkI l).2=C2 at *
  have e2:(C2 != 0)=true:=by simpa using h0
  clear h0 hL
  go_enter Tryz.func49,Tryz.ntmps49
  go_wp2_with (go_at_call 21;(with_reducible refine (hCh _ h).mono ?_);rintro e w1 ⟨rfl,hb1⟩)
  exact HP.out _ hb1
theorem sopened_any (a:Option Addr) (n cap:Nat) (l:List Itm) (day:Int) (w:World) (h:ItmsAt w a n cap l) (hcap:l.length≤cap) :
 Calls Tryz.prog 130 #[.slice a n cap,.int .i64 day] w (RowE w (chkI l).2 (cntL l day)):=by
 have hC:=sCounting_any a n cap l day w h hcap
 have HP:=Lib.hid (show ∀ v w',Below w.heap.size w w'→w'.ownsRow w.heap.size 24 16 v (cntL l day).length (ics (cntL l day))→RowE w (chkI l).2 (cntL l day) (.returned (.tuple #[v,.int .i64 (chkI l).2])) w' from fun v w' h1 h2=>⟨v,rfl,h1,h2⟩)
 have HQ:=Lib.hid (show ∀ e w',RowE w (chkI l).2 (cntL l day) e w'→∃ v,e=.returned (.tuple #[v,.int .i64 (chkI l).2])∧Below w.heap.size w w'∧w'.ownsRow w.heap.size 24 16 v (cntL l day).length (ics (cntL l day)) from fun _ _ h=>h)
 generalize hPost:RowE w (chkI l).2 (cntL l day)=Post at *
 generalize cntL l day=S at *
 generalize (chkI l).2=C2 at *
 clear hPost
 go_enter Tryz.func130,Tryz.ntmps130
 go_wp2_with (go_at_call 49;(with_reducible refine hC.mono ?_);rintro e w1 hq;obtain ⟨v,rfl,hb1,ho⟩:=HQ.out _ _ hq)
 exact HP.out _ _ hb1 ho
end Go.Proofs.YtelkcohhagblaaaGreat

/- part -/
import Derived.Test.YtpmdedcnbockhaaGreatDoorS17
set_option maxRecDepth 100000
set_option maxHeartbeats 8000000
namespace Go.Proofs.YtpmdedcnbockhaaGreatDoor
section
open Go.RowKit Tryz
attribute [local go_sem] kD stillUpon
def au.dP(C:au)(s:ak)(x:Int):Int:=cond (!(C.f_ s)) 1 (cond (decide (x< -1)) 1 (cond (decide ((C.acts.length:Int)<=x)) 1 (cond (s.day==C.days) 13 0)))
def au.next(C:au)(s:ak)(x:Int):ak:=cond (x== -1) (C.tick s) (match C.acts[x.toNat]? with|some a=>C.act x.toNat a s|none=>s)
def eF:Value:=.agg #[.int .i64 0,.slice none 0 0,.slice none 0 0,.slice none 0 0]
def rH(er:Int)(s:ak)(w:World)(e:Ending)(w':World):Prop:=
 Below w.heap.size w w'/\((er=0/\∃t:TV,e= .returned (.tuple #[t.val s,.int .i64 0])/\aQ w' t s/\lN w.heap.size t)\/(er≠0/\e= .returned (.tuple #[eF,.int .i64 er])))
theorem uV(v:CV)(C:au)(tv:TV)(s:ak)(x:Int)(w:World)(hC:bO w v C)(hS:aQ w tv s):Calls prog 39 #[v.val C,tv.val s,.int .i64 x] w (rH (C.dP s x) (C.next s x) w):=by
 obtain⟨⟨dV,dW⟩,⟨dX,dY⟩,⟨fB,dH⟩,⟨eZ,dM⟩,⟨dQ,dR⟩⟩:=v;obtain⟨⟨eu,dN⟩,⟨eH,dL⟩,⟨fF,bY⟩⟩:=tv;have hax:C.acts.length<=9223372036854775807:=nZ hC.acts;have HC:=ah hC;clear hC;have HS:=ah hS;clear hS;simp only[CV.val,CV.cells,TV.val,TV.cells,ak.cells];go_enter func39,ntmps39;go_upto_region 1 with(fail)
 generalize hW0:World.alloc _ _=W0;obtain⟨HB,hh0,gG,qd⟩:=bx3 hW0;clear hW0;obtain⟨iC,iD,iI,iy,iP,jc,jA⟩:=CS hh0;clear hh0;obtain⟨jM,jY,qO,tV⟩:=Wx gG;clear gG;obtain⟨Aq,Ar,Ll,Lm⟩:=Wx qd;have Oz:=ou (i:=0) qd;have OB:=ou (i:=1) qd;have agw:=ou (i:=2) qd;have agx:=ou (i:=3) qd;have hl2:=aB qd;clear qd;change Code.wp _ _ _ _ (Bl.val (⟨W0,aC _ _⟩:Bl W0));generalize(⟨W0,aC _ _⟩:Bl W0)=s0;have hsv:∀z:Bl W0,Calls prog 68 #[.agg #[.int .i64 C.aF,.slice dV C.aj.length dW,.slice dX C.units.length dY,.slice fB C.acts.length dH,.slice eZ C.clauses.length dM,.int .i64 C.days,.slice dQ C.off.length dR],.agg #[.int .i64 s.day,.slice eu s.aj.length dN,.slice eH s.used.length dL,.slice fF s.marks.length bY]] z.val (dZ (.bool (C.f_ s)) z.val):=λz=>xC (⟨⟨dV,dW⟩,⟨dX,dY⟩,⟨fB,dH⟩,⟨eZ,dM⟩,⟨dQ,dR⟩⟩:CV) C (⟨⟨eu,dN⟩,⟨eH,dL⟩,⟨fF,bY⟩⟩:TV) s z.val (HC.out.below (av HB.out z.prop)) (HS.out.below (av HB.out z.prop));cases q1:C.f_ s with
 |false=>
  rw[q1]at hsv;have S9:=ah hsv;clear hsv;go_wp2_with (first|(go_at_call 68;refine(S9.out _).mono ?_;rintro e z ⟨rfl,hz⟩;obtain⟨z,rfl⟩:=Bl.on hz;clear hz));obtain⟨Wf,iq⟩:∃Wf,Hid (Wf=(((z.val.setCell ⟨w.heap.size+1+1,0,none⟩ (.int .i64 0)).setCell ⟨w.heap.size+1+1,1,none⟩ (.slice none 0 0)).setCell ⟨w.heap.size+1+1,2,none⟩ (.slice none 0 0)).setCell ⟨w.heap.size+1+1,3,none⟩ (.slice none 0 0)):=⟨_,rfl⟩;rw[<-iq.out];obtain⟨d0,d1,d2,d3,lF⟩:=o9 (Aq _) (Ar _) (Ll _) (Lm _) iq.out;refine bodyPost_ret (v:=.tuple #[.agg #[.int .i64 0,.slice none 0 0,.slice none 0 0,.slice none 0 0],.int .i64 1]) (by simp[results,results39,go_sem,d0,d1,d2,d3]) rfl ⟨?_,.inr ⟨by simp[au.dP,q1],by simp[au.dP,q1,eF]⟩⟩;exact(av HB.out z.prop).trans (lF.below (by have h1:=HB.out.size;have h2:=z.prop.size;omega) (λk hk=>by omega))
 |true=>
  rw[q1]at hsv;have S9:=ah hsv;clear hsv;cases q2:decide (x< -1)with
  |true=>
   go_wp2_with (first|(go_at_call 68;refine(S9.out _).mono ?_;rintro e z ⟨rfl,hz⟩;obtain⟨z,rfl⟩:=Bl.on hz;clear hz));obtain⟨Wf,iq⟩:∃Wf,Hid (Wf=(((z.val.setCell ⟨w.heap.size+1+1,0,none⟩ (.int .i64 0)).setCell ⟨w.heap.size+1+1,1,none⟩ (.slice none 0 0)).setCell ⟨w.heap.size+1+1,2,none⟩ (.slice none 0 0)).setCell ⟨w.heap.size+1+1,3,none⟩ (.slice none 0 0)):=⟨_,rfl⟩;rw[<-iq.out];obtain⟨d0,d1,d2,d3,lF⟩:=o9 (Aq _) (Ar _) (Ll _) (Lm _) iq.out;refine bodyPost_ret (v:=.tuple #[.agg #[.int .i64 0,.slice none 0 0,.slice none 0 0,.slice none 0 0],.int .i64 1]) (by simp[results,results39,go_sem,d0,d1,d2,d3]) rfl ⟨?_,.inr ⟨by simp[au.dP,q1,q2],by simp[au.dP,q1,q2,eF]⟩⟩;exact(av HB.out z.prop).trans (lF.below (by have h1:=HB.out.size;have h2:=z.prop.size;omega) (λk hk=>by omega))
  |false=>
   cases q3:decide ((C.acts.length:Int)<=x)with
   |true=>
    go_wp2_with (first|(go_at_call 68;refine(S9.out _).mono ?_;rintro e z ⟨rfl,hz⟩;obtain⟨z,rfl⟩:=Bl.on hz;clear hz));obtain⟨Wf,iq⟩:∃Wf,Hid (Wf=(((z.val.setCell ⟨w.heap.size+1+1,0,none⟩ (.int .i64 0)).setCell ⟨w.heap.size+1+1,1,none⟩ (.slice none 0 0)).setCell ⟨w.heap.size+1+1,2,none⟩ (.slice none 0 0)).setCell ⟨w.heap.size+1+1,3,none⟩ (.slice none 0 0)):=⟨_,rfl⟩;rw[<-iq.out];obtain⟨d0,d1,d2,d3,lF⟩:=o9 (Aq _) (Ar _) (Ll _) (Lm _) iq.out;refine bodyPost_ret (v:=.tuple #[.agg #[.int .i64 0,.slice none 0 0,.slice none 0 0,.slice none 0 0],.int .i64 1]) (by simp[results,results39,go_sem,d0,d1,d2,d3]) rfl ⟨?_,.inr ⟨by simp[au.dP,q1,q2,q3],by simp[au.dP,q1,q2,q3,eF]⟩⟩;exact(av HB.out z.prop).trans (lF.below (by have h1:=HB.out.size;have h2:=z.prop.size;omega) (λk hk=>by omega))
   |false=>
    cases q4:(s.day==C.days)with
    |true=>
     go_wp2_with (first|(go_at_call 68;refine(S9.out _).mono ?_;rintro e z ⟨rfl,hz⟩;obtain⟨z,rfl⟩:=Bl.on hz;clear hz));obtain⟨Wf,iq⟩:∃Wf,Hid (Wf=(((z.val.setCell ⟨w.heap.size+1+1,0,none⟩ (.int .i64 0)).setCell ⟨w.heap.size+1+1,1,none⟩ (.slice none 0 0)).setCell ⟨w.heap.size+1+1,2,none⟩ (.slice none 0 0)).setCell ⟨w.heap.size+1+1,3,none⟩ (.slice none 0 0)):=⟨_,rfl⟩;rw[<-iq.out];obtain⟨d0,d1,d2,d3,lF⟩:=o9 (Aq _) (Ar _) (Ll _) (Lm _) iq.out;refine bodyPost_ret (v:=.tuple #[.agg #[.int .i64 0,.slice none 0 0,.slice none 0 0,.slice none 0 0],.int .i64 13]) (by simp[results,results39,go_sem,d0,d1,d2,d3]) rfl ⟨?_,.inr ⟨by simp[au.dP,q1,q2,q3,q4],by simp[au.dP,q1,q2,q3,q4,eF]⟩⟩;exact(av HB.out z.prop).trans (lF.below (by have h1:=HB.out.size;have h2:=z.prop.size;omega) (λk hk=>by omega))
    |false=>
     have hO:=(jr C s).1 q1;have HN:=ah hO.needs;have hlh:=HN.out.lh;have hlu:=HN.out.lu;have hlm:=HN.out.lm;have HO:=ah hO;clear hO;go_wp2_with (first|(go_at_call 68;refine(S9.out _).mono ?_;rintro e z ⟨rfl,hz⟩;obtain⟨z,rfl⟩:=Bl.on hz;clear hz));have hp1:=z.prop;have Yh:=iC z;have Yi:=iD z;have Yj:=iI z;have Yk:=iy z;have Vd:=iP z;have Yl:=jc z;have Ym:=jA z;have Yn:=jM z;have Ve:=jY z;have Vf:=qO z;have Vg:=tV z;have adn:=Aq z;have ado:=Ar z;have adp:=Ll z;have adq:=Lm z;have e0:=Oz z;have e1:=OB z;have e2:=agw z;have e3:=agx z;generalize z.val=W1 at hp1 Yh Yi Yj Yk Vd Yl Ym Yn Ve Vf Vg adn ado adp adq e0 e1 e2 e3⊢;clear iC iD iI iy iP jc jA jM jY qO tV Aq Ar Ll Lm Oz OB agw agx S9;have mV:Hid (Below w.heap.size w W1):=av HB.out hp1;have hs1:=hp1.size;have zm:=ah (HC.out.below mV.out);have adr:∀y:Bl W1,y.val.cell? ⟨w.heap.size,0,none⟩=some (.int .i64 C.aF):=λy=>y.cell Yh;have ads:∀y:Bl W1,y.val.cell? ⟨w.heap.size,1,none⟩=some (.slice dV C.aj.length dW):=λy=>y.cell Yi;have adt:∀y:Bl W1,y.val.cell? ⟨w.heap.size,2,none⟩=some (.slice dX C.units.length dY):=λy=>y.cell Yj;have adu:∀y:Bl W1,y.val.cell? ⟨w.heap.size,3,none⟩=some (.slice fB C.acts.length dH):=λy=>y.cell Yk;have adv:∀y:Bl W1,y.val.cell? ⟨w.heap.size,4,none⟩=some (.slice eZ C.clauses.length dM):=λy=>y.cell Vd;have adw:∀y:Bl W1,y.val.cell? ⟨w.heap.size,5,none⟩=some (.int .i64 C.days):=λy=>y.cell Yl;have adx:∀y:Bl W1,y.val.cell? ⟨w.heap.size,6,none⟩=some (.slice dQ C.off.length dR):=λy=>y.cell Ym;have ajZ:∀y:Bl W1,y.val.cell? ⟨w.heap.size+1,0,none⟩=some (.int .i64 s.day):=λy=>y.cell Yn;have aj0:∀y:Bl W1,y.val.cell? ⟨w.heap.size+1,1,none⟩=some (.slice eu s.aj.length dN):=λy=>y.cell Ve;have aj1:∀y:Bl W1,y.val.cell? ⟨w.heap.size+1,2,none⟩=some (.slice eH s.used.length dL):=λy=>y.cell Vf;have aj2:∀y:Bl W1,y.val.cell? ⟨w.heap.size+1,3,none⟩=some (.slice fF s.marks.length bY):=λy=>y.cell Vg;obtain⟨ii,hii,hiz,his,hib⟩:=info_parts' (P:=prog) (t:=3) (z:=some (.int .i64 0)) (s:=1) (b:=8) (by kernel_rfl);obtain⟨ib,hbi,hbz,hbs,hbb⟩:=info_parts' (P:=prog) (t:=4) (z:=some (.bool false)) (s:=1) (b:=1) (by kernel_rfl);obtain⟨im,hmi,hmz,hms,hmb⟩:=info_parts' (P:=prog) (t:=51) (z:=some (.agg eX.cells.toArray)) (s:=5) (b:=40) (by kernel_rfl);refine xV (s:=(⟨W1,aC _ _⟩:Bl W1)) 17 (λi=>match i with
      |6=>some (vT W1 3 s.aj.length (madeCells (Value.cells (.int .i64 0)) (s.aj.length*1)))
      |10=>some (vT W1 4 s.used.length (madeCells (Value.cells (.bool false)) (s.used.length*1)))
      |14=>some (vT W1 51 s.marks.length (madeCells (Value.cells (.agg eX.cells.toArray)) (s.marks.length*5)))
      |_=>none) (by simp) (by kernel_rfl) (by kernel_rfl) ?keeps ?_
     case keeps=>
      intro i sp h;split at h
      .injection h with h;subst h;exact mh _ _ _ _
      .injection h with h;subst h;exact mh _ _ _ _
      .injection h with h;subst h;exact mh _ _ _ _
      .cases h
     simp only[gF,bW,gI,b_];repeat(refine mQ rfl (λK hK=>?_);go_simp;refine hK _ ?_;clear hK K)
     refine uQ _ rfl rfl (uU 22 (.tmp 36) (.tmp 36) rfl 3 ii (.int .i64 0) 1 underlying22 hii hiz his s.aj.length rfl rfl (by rw[hib];omega) (by omega)) ?_;rintro _ ⟨gh,hgh,rfl⟩;repeat(refine mQ rfl (λK hK=>?_);go_simp;refine hK _ ?_;clear hK K)
     refine uQ _ rfl rfl (uU 45 (.tmp 40) (.tmp 40) rfl 4 ib (.bool false) 1 underlying45 hbi hbz hbs s.used.length rfl rfl (by rw[hbb];omega) (by omega)) ?_;rintro _ ⟨gu,hgu,rfl⟩;repeat(refine mQ rfl (λK hK=>?_);go_simp;refine hK _ ?_;clear hK K)
     refine uQ _ rfl rfl (uU 46 (.tmp 44) (.tmp 44) rfl 51 im (.agg eX.cells.toArray) 5 underlying46 hmi hmz hms s.marks.length rfl rfl (by rw[hmb];omega) (by omega)) ?_;rintro _ ⟨gm,hgm,rfl⟩;repeat(refine mQ rfl (λK hK=>?_);go_simp;refine hK _ ?_;clear hK K)
     refine Tj ?_;rintro z2 ⟨⟨⟨_,hA⟩,hB⟩,hD⟩;have hh:=hA gh rfl;have hu:=hB gu rfl;have hm:=hD gm rfl;clear hA hB hD;gi_wp2;obtain⟨W5,og⟩:∃W5,Hid (W5=z2.val.alloc (.cells #[.int .i64 C.aF,.slice dV C.aj.length dW,.slice dX C.units.length dY,.slice fB C.acts.length dH,.slice eZ C.clauses.length dM,.int .i64 C.days,.slice dQ C.off.length dR,.int .i64 s.day,.slice (some ⟨gh,0,none⟩) s.aj.length s.aj.length,.slice (some ⟨gu,0,none⟩) s.used.length s.used.length,.slice (some ⟨gm,0,none⟩) s.marks.length s.marks.length] 129)):=⟨_,rfl⟩;rw[<-og.out];obtain⟨g,hg⟩:∃g,g=z2.val.heap.size:=⟨_,rfl⟩;rw[<-hg];have Cj:Hid (Below W1.heap.size W1 W5):=by show Below _ _ _;rw[og.out];exact aJ z2.prop _
     have Js:aH W1 W5 g (⟨⟨dV,dW⟩,⟨dX,dY⟩,⟨fB,dH⟩,⟨eZ,dM⟩,⟨dQ,dR⟩⟩:CV) C (⟨⟨some ⟨gh,0,none⟩,s.aj.length⟩,⟨some ⟨gu,0,none⟩,s.used.length⟩,⟨some ⟨gm,0,none⟩,s.marks.length⟩⟩:TV) ⟨s.day,List.replicate s.aj.length 0,List.replicate s.used.length false,List.replicate s.marks.length eX⟩ gh gu gm:=by
      refine⟨?_,zm.out,Cj.out,?_,?_,?_,by rw[hg];exact z2.prop.size,hgh,hgu,hgm⟩
      .rw[og.out,hg]
       simp only[mY];exact bK z2.val _
      .have h:W5.heap[gh]?=some (.cells (madeCells (Value.cells (.int .i64 0)) (s.aj.length*1)) 3 (0,0)):=by rw[og.out];exact(Below.heap_alloc _ _ _ (aB hh)).trans hh
       have h2:=fu.of_block (size:=1) (n:=s.aj.length) h (size_madeCells _ _) (by unfold maxLen;omega);rw[U6]at h2;simpa only[mY]using h2
      .have h:W5.heap[gu]?=some (.cells (madeCells (Value.cells (.bool false)) (s.used.length*1)) 4 (0,0)):=by rw[og.out];exact(Below.heap_alloc _ _ _ (aB hu)).trans hu
       have h2:=fu.of_block (size:=1) (n:=s.used.length) h (size_madeCells _ _) (by unfold maxLen;omega);rw[vU]at h2;simpa only[mY]using h2
      .have h:W5.heap[gm]?=some (.cells (madeCells (Value.cells (.agg eX.cells.toArray)) (s.marks.length*5)) 51 (0,0)):=by rw[og.out];exact(Below.heap_alloc _ _ _ (aB hm)).trans hm
       have h2:=fu.of_block (size:=5) (n:=s.marks.length) h (size_madeCells _ _) (by unfold maxLen;omega);rw[show(Value.cells (.agg eX.cells.toArray))=eX.cells.toArray from rfl,H8]at h2;simpa only[mY]using h2
     have HH5:=ah Js;clear Js hh hu hm og Cj adr ads adt adu adv adw adx ajZ aj0 aj1 aj2;have HG:=ah hg;clear hg;go_wp2;have r1:∀y:Bl W5,y.val.cell? ⟨g,8,none⟩=some (.slice (some ⟨gh,0,none⟩) s.aj.length s.aj.length):=λy=>by
      have h:=(HH5.out.on y.prop).cell 8;simp only[mY]at h;exact h
     have r2:∀y:Bl W5,y.val.cell? ⟨w.heap.size+1,1,none⟩=some (.slice eu s.aj.length dN):=λy=>y.cell (((aL HH5.out.below).1 _ _ (by omega)).trans Ve);refine nH (s:=(⟨W5,aC _ _⟩:Bl W5)) 7 ?_;simp only[gF,bW,gI,b_];repeat(go_big_quiet_step (fail))
     refine aY ?_;rintro _ ⟨y,rfl⟩;clear r1 r2;refine nP _ rfl (.tmp 53) (.tmp 55) 22 rfl 3 ii 1 underlying22 hii his rfl rfl (by
      have h:=(HH5.out.on y.prop).aj;simp only[mY]at h;exact h) ((HS.out.aj.1).below (by omega) (av mV.out (av HH5.out.below y.prop))) ?_
     intro W6 hr hu;have hWn:aH W1 W6 g (⟨⟨dV,dW⟩,⟨dX,dY⟩,⟨fB,dH⟩,⟨eZ,dM⟩,⟨dQ,dR⟩⟩:CV) C (⟨⟨some ⟨gh,0,none⟩,s.aj.length⟩,⟨some ⟨gu,0,none⟩,s.used.length⟩,⟨some ⟨gm,0,none⟩,s.marks.length⟩⟩:TV) ⟨s.day,s.aj,List.replicate s.used.length false,List.replicate s.marks.length eX⟩ gh gu gm:=(HH5.out.on y.prop).Rh s.aj (by simp) (by simpa only[mY]using hr) hu;have zC:=ah hWn;clear hWn hr hu HH5;clear y;refine wpListIn_nil ?_
     go_frame
     go_wp2;have r1:∀y:Bl W6,y.val.cell? ⟨g,9,none⟩=some (.slice (some ⟨gu,0,none⟩) s.used.length s.used.length):=λy=>by
      have h:=(zC.out.on y.prop).cell 9;simp only[mY]at h;exact h
     have r2:∀y:Bl W6,y.val.cell? ⟨w.heap.size+1,2,none⟩=some (.slice eH s.used.length dL):=λy=>y.cell (((aL zC.out.below).1 _ _ (by omega)).trans Vf);refine nH (s:=(⟨W6,aC _ _⟩:Bl W6)) 7 ?_;simp only[gF,bW,gI,b_];repeat(go_big_quiet_step (fail))
     refine aY ?_;rintro _ ⟨y,rfl⟩;clear r1 r2;refine nP _ rfl (.tmp 61) (.tmp 63) 45 rfl 4 ib 1 underlying45 hbi hbs rfl rfl (by
      have h:=(zC.out.on y.prop).used;simp only[mY]at h;exact h) ((HS.out.used.1).below (by omega) (av mV.out (av zC.out.below y.prop))) ?_
     intro W7 hr hu;have hWn:aH W1 W7 g (⟨⟨dV,dW⟩,⟨dX,dY⟩,⟨fB,dH⟩,⟨eZ,dM⟩,⟨dQ,dR⟩⟩:CV) C (⟨⟨some ⟨gh,0,none⟩,s.aj.length⟩,⟨some ⟨gu,0,none⟩,s.used.length⟩,⟨some ⟨gm,0,none⟩,s.marks.length⟩⟩:TV) ⟨s.day,s.aj,s.used,List.replicate s.marks.length eX⟩ gh gu gm:=(zC.out.on y.prop).aaG s.used (by simp) (by simpa only[mY]using hr) hu;have Bp:=ah hWn;clear hWn hr hu zC;clear y;refine wpListIn_nil ?_
     go_frame
     go_wp2;have r1:∀y:Bl W7,y.val.cell? ⟨g,10,none⟩=some (.slice (some ⟨gm,0,none⟩) s.marks.length s.marks.length):=λy=>by
      have h:=(Bp.out.on y.prop).cell 10;simp only[mY]at h;exact h
     have r2:∀y:Bl W7,y.val.cell? ⟨w.heap.size+1,3,none⟩=some (.slice fF s.marks.length bY):=λy=>y.cell (((aL Bp.out.below).1 _ _ (by omega)).trans Vg);refine nH (s:=(⟨W7,aC _ _⟩:Bl W7)) 7 ?_;simp only[gF,bW,gI,b_];repeat(go_big_quiet_step (fail))
     refine aY ?_;rintro _ ⟨y,rfl⟩;clear r1 r2;refine nP _ rfl (.tmp 69) (.tmp 71) 46 rfl 51 im 5 underlying46 hmi hms rfl rfl (by
      have h:=(Bp.out.on y.prop).marks;simp only[mY]at h;exact h) ((HS.out.marks.1).below (by omega) (av mV.out (av Bp.out.below y.prop))) ?_
     intro W8 hr hu;have hWn:aH W1 W8 g (⟨⟨dV,dW⟩,⟨dX,dY⟩,⟨fB,dH⟩,⟨eZ,dM⟩,⟨dQ,dR⟩⟩:CV) C (⟨⟨some ⟨gh,0,none⟩,s.aj.length⟩,⟨some ⟨gu,0,none⟩,s.used.length⟩,⟨some ⟨gm,0,none⟩,s.marks.length⟩⟩:TV) ⟨s.day,s.aj,s.used,s.marks⟩ gh gu gm:=(Bp.out.on y.prop).Gl s.marks (by simp) (by simpa only[mY]using hr) hu;have HW8:=ah hWn;clear hWn hr hu Bp;clear y;refine wpListIn_nil ?_
     go_frame
     cases q5:(x== -1)with
     |true=>
      have HT:=ah (X8 HW8.out HO.out.lm HN.out.hin HN.out.hro HN.out.hki HN.out.hof HN.out.hol HN.out.hd0 HN.out.hd1 HN.out.hle);go_wp2_with (go_at_call 69;refine HT.out.mono ?_;rintro e zc ⟨rfl,hz1,hz2⟩;refine Hid.out ?_);refine ah ?_;generalize hs2:C.tick ⟨s.day,s.aj,s.used,s.marks⟩=s2 at hz1;have HS2:=ah hs2;clear hs2;have n7:zc.cell? ⟨g,7,none⟩=some (.int .i64 s2.day):=hz1.cell 7;have n8:zc.cell? ⟨g,8,none⟩=some (.slice (some ⟨gh,0,none⟩) s2.aj.length s.aj.length):=hz1.cell 8;have n9:zc.cell? ⟨g,9,none⟩=some (.slice (some ⟨gu,0,none⟩) s2.used.length s.used.length):=hz1.cell 9;have n10:zc.cell? ⟨g,10,none⟩=some (.slice (some ⟨gm,0,none⟩) s2.marks.length s.marks.length):=hz1.cell 10;have t0:=((aL hz1.below).1 (w.heap.size+1+1) 0 (by omega)).trans adn;have u0:=((aL hz1.below).2 (w.heap.size+1+1) 0 (by omega)).trans e0;have t1:=((aL hz1.below).1 (w.heap.size+1+1) 1 (by omega)).trans ado;have u1:=((aL hz1.below).2 (w.heap.size+1+1) 1 (by omega)).trans e1;have t2:=((aL hz1.below).1 (w.heap.size+1+1) 2 (by omega)).trans adp;have u2:=((aL hz1.below).2 (w.heap.size+1+1) 2 (by omega)).trans e2;have t3:=((aL hz1.below).1 (w.heap.size+1+1) 3 (by omega)).trans adq;have u3:=((aL hz1.below).2 (w.heap.size+1+1) 3 (by omega)).trans e3;have HZ:=ah hz1;clear hz1;go_wp2;obtain⟨Wf,iq⟩:∃Wf,Hid (Wf=(((zc.setCell ⟨w.heap.size+1+1,0,none⟩ (.int .i64 s2.day)).setCell ⟨w.heap.size+1+1,1,none⟩ (.slice (some ⟨gh,0,none⟩) s2.aj.length s.aj.length)).setCell ⟨w.heap.size+1+1,2,none⟩ (.slice (some ⟨gu,0,none⟩) s2.used.length s.used.length)).setCell ⟨w.heap.size+1+1,3,none⟩ (.slice (some ⟨gm,0,none⟩) s2.marks.length s.marks.length)):=⟨_,rfl⟩;rw[<-iq.out];obtain⟨d0,d1,d2,d3,lF⟩:=o9 t0 t1 t2 t3 iq.out;refine bodyPost_ret (v:=.tuple #[.agg #[.int .i64 s2.day,.slice (some ⟨gh,0,none⟩) s2.aj.length s.aj.length,.slice (some ⟨gu,0,none⟩) s2.used.length s.used.length,.slice (some ⟨gm,0,none⟩) s2.marks.length s.marks.length],.int .i64 0]) (by simp[results,results39,go_sem,d0,d1,d2,d3]) rfl ⟨?_,.inl ⟨by simp only[au.dP,q1,q2,q3,q4,Bool.not_true,cond_false],(⟨⟨some ⟨gh,0,none⟩,s.aj.length⟩,⟨some ⟨gu,0,none⟩,s.used.length⟩,⟨some ⟨gm,0,none⟩,s.marks.length⟩⟩:TV),?_,?_,mD (bI mV.out.size HZ.out.newH),mD (bI mV.out.size HZ.out.Aw),mD (bI mV.out.size HZ.out.uL)⟩⟩
      .exact(mV.out.trans (HZ.out.below.mono mV.out.size)).trans (lF.below (by have h1:=mV.out.size;have h2:=HZ.out.below.size;omega) (λk hk=>by omega))
      .rw[show C.next s x=s2 by simp only[au.next,q5,cond_true];exact HS2.out]
       rfl
      .rw[show C.next s x=s2 by simp only[au.next,q5,cond_true];exact HS2.out]
       exact HZ.out.L9 lF (λk hk=>by omega)
     |false=>
      obtain⟨i,rfl⟩:∃i:Nat,x=i:=by
       have h1:x≠ -1:=by simpa using q5
       have h2:¬x< -1:=by simpa using q2
       exact⟨x.toNat,by omega⟩
      have hil:i<C.acts.length:=by
       have h3:¬(C.acts.length:Int)<=(i:Int):=by simpa using q3
       omega
      obtain⟨a,ha⟩:∃a,C.acts[i]?=some a:=⟨_,aS hil⟩;have hact:=(au.ok HO.out.con).act (cK ha);have ady:=HO.out.lh;have HT:=ah (aaF HW8.out i a ha (by show i<s.used.length;rw[HO.out.lu];exact hil) (by show a.kind≠1->0<=a.give/\a.give<s.aj.length;rw[ady];exact hact.give) HO.out.lm HN.out.hin HN.out.hro HN.out.hki (by show a.role≠ -1->0<=a.role/\a.role<s.aj.length;rw[ady];exact hact.role) HN.out.hgo);have HA:=ah ha;clear ha hact ady;go_wp2_with (go_at_call 70;refine HT.out.mono ?_;rintro e zc ⟨rfl,hz1,hz2⟩;refine Hid.out ?_);refine ah ?_;generalize hs2:C.act i a ⟨s.day,s.aj,s.used,s.marks⟩=s2 at hz1;have HS2:=ah hs2;clear hs2;have n7:zc.cell? ⟨g,7,none⟩=some (.int .i64 s2.day):=hz1.cell 7;have n8:zc.cell? ⟨g,8,none⟩=some (.slice (some ⟨gh,0,none⟩) s2.aj.length s.aj.length):=hz1.cell 8;have n9:zc.cell? ⟨g,9,none⟩=some (.slice (some ⟨gu,0,none⟩) s2.used.length s.used.length):=hz1.cell 9;have n10:zc.cell? ⟨g,10,none⟩=some (.slice (some ⟨gm,0,none⟩) s2.marks.length s.marks.length):=hz1.cell 10;have t0:=((aL hz1.below).1 (w.heap.size+1+1) 0 (by omega)).trans adn;have u0:=((aL hz1.below).2 (w.heap.size+1+1) 0 (by omega)).trans e0;have t1:=((aL hz1.below).1 (w.heap.size+1+1) 1 (by omega)).trans ado;have u1:=((aL hz1.below).2 (w.heap.size+1+1) 1 (by omega)).trans e1;have t2:=((aL hz1.below).1 (w.heap.size+1+1) 2 (by omega)).trans adp;have u2:=((aL hz1.below).2 (w.heap.size+1+1) 2 (by omega)).trans e2;have t3:=((aL hz1.below).1 (w.heap.size+1+1) 3 (by omega)).trans adq;have u3:=((aL hz1.below).2 (w.heap.size+1+1) 3 (by omega)).trans e3;have HZ:=ah hz1;clear hz1;go_wp2;obtain⟨Wf,iq⟩:∃Wf,Hid (Wf=(((zc.setCell ⟨w.heap.size+1+1,0,none⟩ (.int .i64 s2.day)).setCell ⟨w.heap.size+1+1,1,none⟩ (.slice (some ⟨gh,0,none⟩) s2.aj.length s.aj.length)).setCell ⟨w.heap.size+1+1,2,none⟩ (.slice (some ⟨gu,0,none⟩) s2.used.length s.used.length)).setCell ⟨w.heap.size+1+1,3,none⟩ (.slice (some ⟨gm,0,none⟩) s2.marks.length s.marks.length)):=⟨_,rfl⟩;rw[<-iq.out];obtain⟨d0,d1,d2,d3,lF⟩:=o9 t0 t1 t2 t3 iq.out;refine bodyPost_ret (v:=.tuple #[.agg #[.int .i64 s2.day,.slice (some ⟨gh,0,none⟩) s2.aj.length s.aj.length,.slice (some ⟨gu,0,none⟩) s2.used.length s.used.length,.slice (some ⟨gm,0,none⟩) s2.marks.length s.marks.length],.int .i64 0]) (by simp[results,results39,go_sem,d0,d1,d2,d3]) rfl ⟨?_,.inl ⟨by simp only[au.dP,q1,q2,q3,q4,Bool.not_true,cond_false],(⟨⟨some ⟨gh,0,none⟩,s.aj.length⟩,⟨some ⟨gu,0,none⟩,s.used.length⟩,⟨some ⟨gm,0,none⟩,s.marks.length⟩⟩:TV),?_,?_,mD (bI mV.out.size HZ.out.newH),mD (bI mV.out.size HZ.out.Aw),mD (bI mV.out.size HZ.out.uL)⟩⟩
      .exact(mV.out.trans (HZ.out.below.mono mV.out.size)).trans (lF.below (by have h1:=mV.out.size;have h2:=HZ.out.below.size;omega) (λk hk=>by omega))
      .rw[show C.next s (i:Int)=s2 by simp only[au.next,q5,cond_false,sM,HA.out];exact HS2.out]
       rfl
      .rw[show C.next s (i:Int)=s2 by simp only[au.next,q5,cond_false,sM,HA.out];exact HS2.out]
       exact HZ.out.L9 lF (λk hk=>by omega)
end
open Go.RowKit Go.Shelf Tryz
attribute [local go_sem] kD stillUpon bM
theorem fu.below'{w w':World}{e:TypeId}{size n g:Nat}{v:Value}{xs:List Value}(h:fu w e size v n xs (some g))(hb:Below w.heap.size w w'):fu w' e size v n xs (some g):=
 h.keep (aG.of_below hb) (λk hk hle=>by have:=h.lt hk;omega)
def rJ(W0:World)(l:List Int):bP:=
 ⟨λv=>∃b c,W0.heap.size<=b/\v= .slice (some ⟨b,0,none⟩) l.length c,λv z=>∀b c,v= .slice (some ⟨b,0,none⟩) l.length c->fu z 3 1 v l.length (aZ l) (some b)⟩
theorem E5(W0:World)(l:List Int):(rJ W0 l).Keeps:=λ_ _ _ h hb b c hv=>(h b c hv).below' hb
theorem Vh{W0:World}(z:Bl W0){A:Option Addr}{c:Nat}{l:List Int}(h:At z.val 1 A l.length c (aZ l))(h0:0<l.length)(hl:l.length*8<=140737488355328):
 Calls prog 66 #[.slice A l.length c] z.val (λe w''=>∃v,e= .returned v/\(rJ W0 l).V v/\(rJ W0 l).S v w''/\Below z.val.heap.size z.val w''):=by
 obtain⟨b,off,rfl,hc⟩:=h.GL h0;refine(Any.slices_Clone_int Tryz.laysClone b off l.length c l z.val (bJ _) hl hc).mono ?_;rintro e w' ⟨v',rfl,hown,hnn,hb⟩;rw[iG]at hown;rcases hown.2 with⟨h1,_⟩|⟨g,cap,cur,rfl,h2,h3,h4,h5,h6,h7⟩
 .exact absurd h1 hnn
 .refine⟨_,rfl,⟨g,cap,bI z.prop.size h2,rfl⟩,?_,hb⟩
  intro b' c' hv;simp only[Value.slice.injEq,Option.some.injEq,Addr.mk.injEq,and_true,true_and]at hv;obtain⟨rfl,rfl⟩:=hv;exact⟨hown.1,.inr ⟨g,0,cap,cur,rfl,rfl,h3,h4,h5,by omega,by simpa [aZ]using h7⟩⟩
def jI(C:au)(k:Nat):List aD:=(C.clauses.take k).map jQ++List.replicate (C.clauses.length - k) eX
theorem yx(C:au)(k:Nat)(hk:k<=C.clauses.length):(jI C k).length=C.clauses.length:=by simp[jI];omega
theorem L_(C:au):jI C 0=List.replicate C.clauses.length eX:=by simp[jI]
theorem EC(C:au):jI C C.clauses.length=C.clauses.map jQ:=by simp[jI]
theorem yB{C:au}{k:Nat}(hk:k<C.clauses.length):(jI C k)[k]?=some eX:=by
 rw[jI,lW (by simp;omega),Bv,if_pos (by simp;omega)]
theorem Ma{C:au}{k:Nat}{c:aP}(hc:C.clauses[k]?=some c):jI C (k+1)=(jI C k).set k (jQ c):=by
 have hk:k<C.clauses.length:=(bB.1 hc).1;apply lX;intro j;rw[j_];by_cases hj:k=j
 .subst hj
  rw[if_pos rfl,if_pos (by rw[yx C k (by omega)];exact hk),jI,kH (by simp;omega),gK,lT,if_pos (by omega),hc];rfl
 .rw[if_neg hj]
  unfold jI;by_cases h2:j<k
  .rw[kH (by simp;omega),kH (by simp;omega),gK,gK,lT,lT,if_pos (by omega),if_pos h2]
  .rw[lW (by simp;omega),lW (by simp;omega),Bv,Bv]
   simp only[dU,pz];rw[Nat.min_eq_left (by omega),Nat.min_eq_left (by omega)];by_cases h3:j<C.clauses.length
   .rw[if_pos (by omega),if_pos (by omega)]
   .rw[if_neg (by omega),if_neg (by omega)]
theorem OC{C:au}(h:C.valid=true):C.errno=0:=by
 simp only[au.valid,bS,jk]at h;simp[au.errno,h.1,h.2.1,h.2.2]
theorem Vi{C:au}(h:C.valid=false):(C.errno !=0)=true:=by
 unfold au.valid at h;unfold au.errno;cases ho:C.over with
 |true=>rfl
 |false=>
  rw[ho]at h;simp only[Bool.not_false,Bool.true_and]at h;rw[h];rfl
theorem DI(v:CV)(C:au)(w:World)(hC:bO w v C):Calls prog 38 #[v.val C] w (rH (cond C.valid 0 1) C.first w):=by
 obtain⟨⟨dV,dW⟩,⟨dX,dY⟩,⟨fB,dH⟩,⟨eZ,dM⟩,⟨dQ,dR⟩⟩:=v;have HC:=ah hC;clear hC;simp only[CV.val,CV.cells];go_enter func38,ntmps38;go_upto_region 1 with(fail)
 generalize hW0:World.alloc _ _=W0;obtain⟨HB,hh0,gG⟩:=F5 hW0;clear hW0;obtain⟨iC,iD,iI,iy,iP,jc,jA⟩:=CS hh0;clear hh0;obtain⟨jM,jY,qO,tV⟩:=Wx gG;have J3:=ou (i:=0) gG;have J4:=ou (i:=1) gG;have agy:=ou (i:=2) gG;have agz:=ou (i:=3) gG;have hl1:=aB gG;clear gG;change Code.wp _ _ _ _ (Bl.val (⟨W0,aC _ _⟩:Bl W0));generalize(⟨W0,aC _ _⟩:Bl W0)=s0;have hcv:∀z:Bl W0,Calls prog 31 #[.agg #[.int .i64 C.aF,.slice dV C.aj.length dW,.slice dX C.units.length dY,.slice fB C.acts.length dH,.slice eZ C.clauses.length dM,.int .i64 C.days,.slice dQ C.off.length dR]] z.val (Fz C.errno z.val):=λz=>vI (⟨⟨dV,dW⟩,⟨dX,dY⟩,⟨fB,dH⟩,⟨eZ,dM⟩,⟨dQ,dR⟩⟩:CV) C z.val (HC.out.below (av HB.out z.prop));cases q1:C.valid with
 |false=>
  have hne:=Vi q1;generalize C.errno=en at hcv hne;have UC:=ah hcv;clear hcv;go_wp2_with (first|(go_at_call 31;refine(UC.out _).mono ?_;rintro e z ⟨nn,rfl,hz⟩;obtain⟨z,rfl⟩:=Bl.on hz;clear hz));obtain⟨Wf,iq⟩:∃Wf,Hid (Wf=(((z.val.setCell ⟨w.heap.size+1,0,none⟩ (.int .i64 0)).setCell ⟨w.heap.size+1,1,none⟩ (.slice none 0 0)).setCell ⟨w.heap.size+1,2,none⟩ (.slice none 0 0)).setCell ⟨w.heap.size+1,3,none⟩ (.slice none 0 0)):=⟨_,rfl⟩;rw[<-iq.out];obtain⟨d0,d1,d2,d3,lF⟩:=o9 (jM _) (jY _) (qO _) (tV _) iq.out;refine bodyPost_ret (v:=.tuple #[.agg #[.int .i64 0,.slice none 0 0,.slice none 0 0,.slice none 0 0],.int .i64 1]) (by simp[results,results38,go_sem,d0,d1,d2,d3]) rfl ⟨?_,.inr ⟨by rw[q1];decide,by rw[q1];rfl⟩⟩;exact(av HB.out z.prop).trans (lF.below (by have h1:=HB.out.size;have h2:=z.prop.size;omega) (λk hk=>by omega))
 |true=>
  rw[OC q1]at hcv;have UC:=ah hcv;clear hcv;have hO:=au.ok q1;have hlh:=hO.Q6;have apa:=hO.roles;have hlu:=hO.Ey;have hlm:=hO.Cc;have HN:=ah (yj q1).needs;have HO:=ah hO;clear hO;go_wp2_with (first|(go_at_call 31;refine(UC.out _).mono ?_;rintro e z ⟨nn,rfl,hz⟩;obtain⟨z,rfl⟩:=Bl.on hz;clear hz));have hp1:=z.prop;have Yh:=iC z;have Yi:=iD z;have Yj:=iI z;have Yk:=iy z;have Vd:=iP z;have Yl:=jc z;have Ym:=jA z;have Yn:=jM z;have Ve:=jY z;have Vf:=qO z;have Vg:=tV z;have e0:=J3 z;have e1:=J4 z;have e2:=agy z;have e3:=agz z;generalize z.val=W1 at hp1 Yh Yi Yj Yk Vd Yl Ym Yn Ve Vf Vg e0 e1 e2 e3⊢;clear iC iD iI iy iP jc jA jM jY qO tV J3 J4 agy agz UC;have mV:Hid (Below w.heap.size w W1):=av HB.out hp1;have hs1:=hp1.size;have zm:=ah (HC.out.below mV.out);have adr:∀y:Bl W1,y.val.cell? ⟨w.heap.size,0,none⟩=some (.int .i64 C.aF):=λy=>y.cell Yh;have ads:∀y:Bl W1,y.val.cell? ⟨w.heap.size,1,none⟩=some (.slice dV C.aj.length dW):=λy=>y.cell Yi;have adt:∀y:Bl W1,y.val.cell? ⟨w.heap.size,2,none⟩=some (.slice dX C.units.length dY):=λy=>y.cell Yj;have adu:∀y:Bl W1,y.val.cell? ⟨w.heap.size,3,none⟩=some (.slice fB C.acts.length dH):=λy=>y.cell Yk;have adv:∀y:Bl W1,y.val.cell? ⟨w.heap.size,4,none⟩=some (.slice eZ C.clauses.length dM):=λy=>y.cell Vd;have adw:∀y:Bl W1,y.val.cell? ⟨w.heap.size,5,none⟩=some (.int .i64 C.days):=λy=>y.cell Yl;have adx:∀y:Bl W1,y.val.cell? ⟨w.heap.size,6,none⟩=some (.slice dQ C.off.length dR):=λy=>y.cell Ym;obtain⟨ib,hbi,hbz,hbs,hbb⟩:=info_parts' (P:=prog) (t:=4) (z:=some (.bool false)) (s:=1) (b:=1) (by kernel_rfl);obtain⟨im,hmi,hmz,hms,hmb⟩:=info_parts' (P:=prog) (t:=51) (z:=some (.agg eX.cells.toArray)) (s:=5) (b:=40) (by kernel_rfl);have Nc:Hid (∀z:Bl W1,Calls prog 66 #[.slice dV C.aj.length dW] z.val (λe w''=>∃v,e= .returned v/\(rJ W1 C.aj).V v/\(rJ W1 C.aj).S v w''/\Below z.val.heap.size z.val w'')):=λz=>
   Vh z (zm.out.below z.prop).aj (by omega) (by omega)
  refine xV (s:=(⟨W1,aC _ _⟩:Bl W1)) 14 (λi=>match i with
   |3=>some (rJ W1 C.aj)
   |7=>some (vT W1 4 C.acts.length (madeCells (Value.cells (.bool false)) (C.acts.length*1)))
   |11=>some (vT W1 51 C.clauses.length (madeCells (Value.cells (.agg eX.cells.toArray)) (C.clauses.length*5)))
   |_=>none) (by simp) (by kernel_rfl) (by kernel_rfl) ?keeps ?_
  case keeps=>
   intro i sp h;split at h
   .injection h with h;subst h;exact E5 _ _
   .injection h with h;subst h;exact mh _ _ _ _
   .injection h with h;subst h;exact mh _ _ _ _
   .cases h
  simp only[gF,bW,gI,b_];repeat(refine mQ rfl (λK hK=>?_);go_simp;refine hK _ ?_;clear hK K)
  refine uQ _ rfl rfl (λz=>?_) ?_
  .go_simp
   exact Nc.out z
  rintro _ ⟨gh,hcp,hgh,rfl⟩;repeat(refine mQ rfl (λK hK=>?_);go_simp;refine hK _ ?_;clear hK K)
  refine uQ _ rfl rfl (uU 45 (.tmp 23) (.tmp 23) rfl 4 ib (.bool false) 1 underlying45 hbi hbz hbs C.acts.length rfl rfl (by rw[hbb];omega) (by omega)) ?_;rintro _ ⟨gu,hgu,rfl⟩;repeat(refine mQ rfl (λK hK=>?_);go_simp;refine hK _ ?_;clear hK K)
  refine uQ _ rfl rfl (uU 46 (.tmp 27) (.tmp 27) rfl 51 im (.agg eX.cells.toArray) 5 underlying46 hmi hmz hms C.clauses.length rfl rfl (by rw[hmb];omega) (by omega)) ?_;rintro _ ⟨gm,hgm,rfl⟩;repeat(refine mQ rfl (λK hK=>?_);go_simp;refine hK _ ?_;clear hK K)
  refine Tj ?_;rintro z2 ⟨⟨⟨_,hA⟩,hB⟩,hD⟩;have hh:=hA gh hcp rfl;have hu:=hB gu rfl;have hm:=hD gm rfl;clear hA hB hD Nc;gi_wp2;obtain⟨W5,og⟩:∃W5,Hid (W5=z2.val.alloc (.cells #[.int .i64 C.aF,.slice dV C.aj.length dW,.slice dX C.units.length dY,.slice fB C.acts.length dH,.slice eZ C.clauses.length dM,.int .i64 C.days,.slice dQ C.off.length dR,.int .i64 0,.slice (some ⟨gh,0,none⟩) C.aj.length hcp,.slice (some ⟨gu,0,none⟩) C.acts.length C.acts.length,.slice (some ⟨gm,0,none⟩) C.clauses.length C.clauses.length] 129)):=⟨_,rfl⟩;rw[<-og.out];obtain⟨g,hg⟩:∃g,g=z2.val.heap.size:=⟨_,rfl⟩;rw[<-hg];have Cj:Hid (Below W1.heap.size W1 W5):=by show Below _ _ _;rw[og.out];exact aJ z2.prop _
  have Js:aH W1 W5 g (⟨⟨dV,dW⟩,⟨dX,dY⟩,⟨fB,dH⟩,⟨eZ,dM⟩,⟨dQ,dR⟩⟩:CV) C (⟨⟨some ⟨gh,0,none⟩,hcp⟩,⟨some ⟨gu,0,none⟩,C.acts.length⟩,⟨some ⟨gm,0,none⟩,C.clauses.length⟩⟩:TV) ⟨0,C.aj,List.replicate C.acts.length false,List.replicate C.clauses.length eX⟩ gh gu gm:=by
   refine⟨?_,zm.out,Cj.out,?_,?_,?_,by rw[hg];exact z2.prop.size,hgh,hgu,hgm⟩
   .rw[og.out,hg]
    simp only[mY];exact bK z2.val _
   .rw[og.out]
    exact hh.below' (aJ (aC _ _) _)
   .have h:W5.heap[gu]?=some (.cells (madeCells (Value.cells (.bool false)) (C.acts.length*1)) 4 (0,0)):=by rw[og.out];exact(Below.heap_alloc _ _ _ (aB hu)).trans hu
    have h2:=fu.of_block (size:=1) (n:=C.acts.length) h (size_madeCells _ _) (by unfold maxLen;omega);rw[vU]at h2;simpa only[mY]using h2
   .have h:W5.heap[gm]?=some (.cells (madeCells (Value.cells (.agg eX.cells.toArray)) (C.clauses.length*5)) 51 (0,0)):=by rw[og.out];exact(Below.heap_alloc _ _ _ (aB hm)).trans hm
    have h2:=fu.of_block (size:=5) (n:=C.clauses.length) h (size_madeCells _ _) (by unfold maxLen;omega);rw[show(Value.cells (.agg eX.cells.toArray))=eX.cells.toArray from rfl,H8]at h2;simpa only[mY]using h2
  have i4:=((aL Cj.out).1 (w.heap.size) 4 (by omega)).trans Vd;have HH5:=ah Js;clear Js hh hu hm og Cj adr ads adt adu adv adw adx;have HG:=ah hg;clear hg;go_wp2
  go_loopw [35] (λi wr=>∃j:Nat,j<=C.clauses.length/\i= .int .i64 j/\Hid (aH W1 wr g (⟨⟨dV,dW⟩,⟨dX,dY⟩,⟨fB,dH⟩,⟨eZ,dM⟩,⟨dQ,dR⟩⟩:CV) C (⟨⟨some ⟨gh,0,none⟩,hcp⟩,⟨some ⟨gu,0,none⟩,C.acts.length⟩,⟨some ⟨gm,0,none⟩,C.clauses.length⟩⟩:TV) ⟨0,C.aj,List.replicate C.acts.length false,jI C j⟩ gh gu gm)) (λi _=>C.clauses.length - (intOf i).toNat)
  case atStart=>exact⟨0,aU _,rfl,by show aH _ _ _ _ _ _ _ _ _ _;rw[L_];exact HH5.out⟩
  case round=>
   obtain⟨j,hj,rfl,HW⟩:=hrel;clear i4;by_cases hlt:j<C.clauses.length
   .obtain⟨k,hk⟩:∃k,C.clauses[j]?=some k:=⟨_,aS hlt⟩
    obtain⟨kb,kK,st,hK,hkb,hkc,_⟩:=HW.out.con.clause hk;simp only at hK;subst hK;have mJ:=hkc _ HW.out.below;obtain⟨k0,AO,ac,ne,start,af,gr,bu,fi,pa,re,⟨vn,vd⟩,Dt,Du,wa⟩:=k;obtain⟨stA,wQ⟩:=st;obtain⟨x0,x1,x2,x3,x4,x5,x6,x7,x8,x9,x10,x11,x12,x13,x14,x15⟩:=EP mJ rfl;clear hkc mJ;have HK:=ah hk;clear hk;have j0:(0:Int)<=(j:Int):=by omega
    have j1:(j:Int)<(C.clauses.length:Int):=by omega
    have j2:C.clauses.length<=9223372036854775807:=by omega
    go_upto_region 8 with(fail)
    obtain⟨Wa,ow⟩:∃Wa,Hid (Wa=wr.alloc (.cells #[.int .i64 k0,.int .i64 AO,.int .i64 ac,.int .i64 ne,.slice stA start.length wQ,.int .i64 af,.int .i64 gr,.bool bu,.bool fi,.int .i64 pa,.int .i64 re,.int .i64 vn,.int .i64 vd,.int .i64 Dt,.int .i64 Du,.bool wa] 112)):=⟨_,rfl⟩;rw[<-ow.out];have hb:Below wr.heap.size wr Wa:=by rw[ow.out];exact aJ (aC _ _) _
    have hWa:aH W1 Wa g (⟨⟨dV,dW⟩,⟨dX,dY⟩,⟨fB,dH⟩,⟨some ⟨kb,kK,none⟩,dM⟩,⟨dQ,dR⟩⟩:CV) C (⟨⟨some ⟨gh,0,none⟩,hcp⟩,⟨some ⟨gu,0,none⟩,C.acts.length⟩,⟨some ⟨gm,0,none⟩,C.clauses.length⟩⟩:TV) ⟨0,C.aj,List.replicate C.acts.length false,jI C j⟩ gh gu gm:=HW.out.on hb;have y15:Wa.cell? ⟨wr.heap.size,15,none⟩=some (.bool wa):=by
     have h:=bK wr (.cells #[.int .i64 k0,.int .i64 AO,.int .i64 ac,.int .i64 ne,.slice stA start.length wQ,.int .i64 af,.int .i64 gr,.bool bu,.bool fi,.int .i64 pa,.int .i64 re,.int .i64 vn,.int .i64 vd,.int .i64 Dt,.int .i64 Du,.bool wa] 112);rw[<-ow.out]at h;exact(aK Wa _ 15 _ _ _ h).trans rfl
    have Qi:Wa.cell? ⟨g,10,none⟩=some (.slice (some ⟨gm,0,none⟩) C.clauses.length C.clauses.length):=by
     have h:=hWa.cell 10;simp only[yx C j hj]at h;exact h
    obtain⟨Gq,rV,Gr,hcell',hfz'⟩:=hWa.oD (yB hlt);simp only[Option.some.injEq,Addr.mk.injEq,true_and,and_true]at rV;subst rV;simp only[pF]at hcell' hfz';obtain⟨m0,m1,m2,m3,m4⟩:=rw5 hcell' rfl;have z0:=hfz' (j*5);have z1:=hfz' (j*5+1);have z2:=hfz' (j*5+2);have z3:=hfz' (j*5+3);have z4:=hfz' (j*5+4);have hne:g≠gm:=hWa.Kr;have hne2:wr.heap.size≠gm:=by have:=HW.out.marks.lt rfl;omega
    clear hcell' hfz' x0 x1 x2 x3 x4 x5 x6 x7 x8 x9 x10 x11 x12 x13 x14 x15;have hset:=hWa.Ls (yB hlt) 0 0 0 (-1) false;simp only[pF]at hset;have HWS:=ah hset;clear hset hWa;have HSU:=ah (Ma HK.out);have HGT:Hid ((List.set (jI C j) j ⟨0,0,0, -1,false⟩)[j]?=some ⟨0,0,0, -1,false⟩):=rG (yB hlt) _;clear hb hkb Gr;cases wa with
    |false=>
     go_wp2
     go_roundw
     case rel=>exact⟨j+1,by omega,by go_num,by
      show aH _ _ _ _ _ _ _ _ _ _;rw[HSU.out];exact HWS.out⟩
     case measure=>simp[intOf];omega
    |true=>
     go_wp2
     go_roundw
     case rel=>exact⟨j+1,by omega,by go_num,by
      show aH _ _ _ _ _ _ _ _ _ _;rw[HSU.out];have h:=HWS.out.gL (i:=j) (j:=0) (u:=.int .i64 5) (m':=⟨5,0,0, -1,false⟩) HGT.out (by omega) rfl;simp only[pF,kP,List.set_set]at h;exact h⟩
     case measure=>simp[intOf];omega
   .obtain rfl:j=C.clauses.length:=by omega
    have HST:=ah (zu HW.out (yx C _ (bJ _)) HN.out.hin HN.out.hro);go_wp2_with (go_at_call 67;refine HST.out.mono ?_;rintro e zc ⟨rfl,hz1,hz2⟩;refine Hid.out ?_);refine ah ?_;generalize hs2:ak.mk 0 C.aj (List.replicate C.acts.length false) (C.begin C.aj (jI C C.clauses.length))=s2 at hz1;have HS2:=ah hs2;clear hs2;have n7:zc.cell? ⟨g,7,none⟩=some (.int .i64 s2.day):=hz1.cell 7;have n8:zc.cell? ⟨g,8,none⟩=some (.slice (some ⟨gh,0,none⟩) s2.aj.length hcp):=hz1.cell 8;have n9:zc.cell? ⟨g,9,none⟩=some (.slice (some ⟨gu,0,none⟩) s2.used.length C.acts.length):=hz1.cell 9;have n10:zc.cell? ⟨g,10,none⟩=some (.slice (some ⟨gm,0,none⟩) s2.marks.length C.clauses.length):=hz1.cell 10;have t0:=((aL hz1.below).1 (w.heap.size+1) 0 (by omega)).trans Yn;have u0:=((aL hz1.below).2 (w.heap.size+1) 0 (by omega)).trans e0;have t1:=((aL hz1.below).1 (w.heap.size+1) 1 (by omega)).trans Ve;have u1:=((aL hz1.below).2 (w.heap.size+1) 1 (by omega)).trans e1;have t2:=((aL hz1.below).1 (w.heap.size+1) 2 (by omega)).trans Vf;have u2:=((aL hz1.below).2 (w.heap.size+1) 2 (by omega)).trans e2;have t3:=((aL hz1.below).1 (w.heap.size+1) 3 (by omega)).trans Vg;have u3:=((aL hz1.below).2 (w.heap.size+1) 3 (by omega)).trans e3;have HZ:=ah hz1;clear hz1;go_wp2;obtain⟨Wf,iq⟩:∃Wf,Hid (Wf=(((zc.setCell ⟨w.heap.size+1,0,none⟩ (.int .i64 s2.day)).setCell ⟨w.heap.size+1,1,none⟩ (.slice (some ⟨gh,0,none⟩) s2.aj.length hcp)).setCell ⟨w.heap.size+1,2,none⟩ (.slice (some ⟨gu,0,none⟩) s2.used.length C.acts.length)).setCell ⟨w.heap.size+1,3,none⟩ (.slice (some ⟨gm,0,none⟩) s2.marks.length C.clauses.length)):=⟨_,rfl⟩;rw[<-iq.out];obtain⟨d0,d1,d2,d3,lF⟩:=o9 t0 t1 t2 t3 iq.out;refine bodyPost_ret (v:=.tuple #[.agg #[.int .i64 s2.day,.slice (some ⟨gh,0,none⟩) s2.aj.length hcp,.slice (some ⟨gu,0,none⟩) s2.used.length C.acts.length,.slice (some ⟨gm,0,none⟩) s2.marks.length C.clauses.length],.int .i64 0]) (by simp[results,results38,go_sem,d0,d1,d2,d3]) rfl ⟨?_,.inl ⟨by rw[q1];rfl,(⟨⟨some ⟨gh,0,none⟩,hcp⟩,⟨some ⟨gu,0,none⟩,C.acts.length⟩,⟨some ⟨gm,0,none⟩,C.clauses.length⟩⟩:TV),?_,?_,mD (bI mV.out.size HZ.out.newH),mD (bI mV.out.size HZ.out.Aw),mD (bI mV.out.size HZ.out.uL)⟩⟩
    .exact(mV.out.trans (HZ.out.below.mono mV.out.size)).trans (lF.below (by have h1:=mV.out.size;have h2:=HZ.out.below.size;omega) (λk hk=>by omega))
    .rw[show C.first=s2 by rw[<-HS2.out,EC];rfl]
     rfl
    .rw[show C.first=s2 by rw[<-HS2.out,EC];rfl]
     exact HZ.out.L9 lF (λk hk=>by omega)
end Go.Proofs.YtpmdedcnbockhaaGreatDoor

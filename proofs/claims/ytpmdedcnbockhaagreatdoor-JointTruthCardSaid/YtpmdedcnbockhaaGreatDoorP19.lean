/-
  Step; Init
-/
import Derived.Test.YtpmdedcnbockhaaGreatDoorP17
set_option maxRecDepth 100000
set_option maxHeartbeats 8000000
namespace Go.Proofs.YtpmdedcnbockhaaGreatDoor
section
open Go.RowKit
attribute [local go_sem] jS stillUpon
def au.bT(C:au)(s:ak)(x:Int):Int:=cond (!(C.fC s)) 1 (cond (decide (x< -1)) 1 (cond (decide ((C.acts.length:Int)<=x)) 1 (cond (s.day==C.days) 13 0)))
def au.next(C:au)(s:ak)(x:Int):ak:=cond (x== -1) (C.tick s) (match C.acts[x.toNat]? with|some a=>C.act x.toNat a s|none=>s)
def gB:Value:=.agg #[.int .i64 0,.slice none 0 0,.slice none 0 0,.slice none 0 0]
def yH(er:Int)(s:ak)(w:World)(e:Ending)(w':World):Prop:=
 Below w.heap.size w w'/\((er=0/\∃t:TV,e= .returned (.tuple #[t.val s,.int .i64 0])/\aW w' t s/\rC w.heap.size t)\/(er≠0/\e= .returned (.tuple #[gB,.int .i64 er])))
theorem Bq(v:CV)(C:au)(tv:TV)(s:ak)(x:Int)(w:World)(hC:bU w v C)(hS:aW w tv s):Calls Tryz.prog 39 #[v.val C,tv.val s,.int .i64 x] w (yH (C.bT s x) (C.next s x) w):=by
 obtain⟨⟨dF,dG⟩,⟨dH,dK⟩,⟨dV,dn⟩,⟨dQ,dh⟩,⟨dz,dB⟩⟩:=v;obtain⟨⟨fQ,eZ⟩,⟨gH,eX⟩,⟨h_,dW⟩⟩:=tv;have hax:C.acts.length<=9223372036854775807:=by have h1:=hC.acts.2.2.1;have h2:=hC.acts.2.2.2;unfold maxLen at h2;omega
 have HC:=ah hC;clear hC;have HS:=ah hS;clear hS;simp only[CV.val,CV.cells,TV.val,TV.cells,ak.cells];go_enter Tryz.func39,Tryz.ntmps39;go_upto_region 1 with(fail)
 generalize hW0:World.alloc _ _=W0;obtain⟨HB,hh0,g_,wu⟩:=bx3 hW0;clear hW0;obtain⟨jA,jB,jK,j4,j5,kV,lT⟩:=Fg hh0;clear hh0;obtain⟨o_,qy,rQ,vX⟩:=kc4 g_;clear g_;obtain⟨KA,KC,KD,KE⟩:=kc4 wu;have afi:=Dv (i:=0) wu;have afj:=Dv (i:=1) wu;have afk:=Dv (i:=2) wu;have afl:=Dv (i:=3) wu;have hl2:=av wu;clear wu;change Code.wp _ _ _ _ (Bl.val (⟨W0,aD _ _⟩:Bl W0));generalize(⟨W0,aD _ _⟩:Bl W0)=s0;have hsv:∀z:Bl W0,Calls Tryz.prog 68 #[.agg #[.int .i64 C.aF,.slice dF C.aj.length dG,.slice dH C.units.length dK,.slice dV C.acts.length dn,.slice dQ C.clauses.length dh,.int .i64 C.days,.slice dz C.off.length dB],.agg #[.int .i64 s.day,.slice fQ s.aj.length eZ,.slice gH s.used.length eX,.slice h_ s.marks.length dW]] z.val (dx (.bool (C.fC s)) z.val):=λz=>wM (⟨⟨dF,dG⟩,⟨dH,dK⟩,⟨dV,dn⟩,⟨dQ,dh⟩,⟨dz,dB⟩⟩:CV) C (⟨⟨fQ,eZ⟩,⟨gH,eX⟩,⟨h_,dW⟩⟩:TV) s z.val (HC.out.below (ay HB.out z.prop)) (HS.out.below (ay HB.out z.prop));cases q1:C.fC s with
 |false=>
  rw[q1]at hsv;have RP:=ah hsv;clear hsv;go_wp2_with (first|(go_at_call 68;refine(RP.out _).mono ?_;rintro e z ⟨rfl,hz⟩;obtain⟨z,rfl⟩:=Bl.on hz;clear hz));obtain⟨Wf,lW⟩:∃Wf,Hid (Wf=(((z.val.setCell ⟨w.heap.size+1+1,0,none⟩ (.int .i64 0)).setCell ⟨w.heap.size+1+1,1,none⟩ (.slice none 0 0)).setCell ⟨w.heap.size+1+1,2,none⟩ (.slice none 0 0)).setCell ⟨w.heap.size+1+1,3,none⟩ (.slice none 0 0)):=⟨_,rfl⟩;rw[<-lW.out];obtain⟨d0,d1,d2,d3,yI⟩:=nk (KA _) (KC _) (KD _) (KE _) lW.out;refine bodyPost_ret (v:=.tuple #[.agg #[.int .i64 0,.slice none 0 0,.slice none 0 0,.slice none 0 0],.int .i64 1]) (by simp[results,Tryz.results39,go_sem,d0,d1,d2,d3]) rfl ⟨?_,.inr ⟨by simp[au.bT,q1],by simp[au.bT,q1,gB]⟩⟩;exact(ay HB.out z.prop).trans (yI.below (by have h1:=HB.out.size;have h2:=z.prop.size;omega) (λk hk=>by omega))
 |true=>
  rw[q1]at hsv;have RP:=ah hsv;clear hsv;cases q2:decide (x< -1)with
  |true=>
   go_wp2_with (first|(go_at_call 68;refine(RP.out _).mono ?_;rintro e z ⟨rfl,hz⟩;obtain⟨z,rfl⟩:=Bl.on hz;clear hz));obtain⟨Wf,lW⟩:∃Wf,Hid (Wf=(((z.val.setCell ⟨w.heap.size+1+1,0,none⟩ (.int .i64 0)).setCell ⟨w.heap.size+1+1,1,none⟩ (.slice none 0 0)).setCell ⟨w.heap.size+1+1,2,none⟩ (.slice none 0 0)).setCell ⟨w.heap.size+1+1,3,none⟩ (.slice none 0 0)):=⟨_,rfl⟩;rw[<-lW.out];obtain⟨d0,d1,d2,d3,yI⟩:=nk (KA _) (KC _) (KD _) (KE _) lW.out;refine bodyPost_ret (v:=.tuple #[.agg #[.int .i64 0,.slice none 0 0,.slice none 0 0,.slice none 0 0],.int .i64 1]) (by simp[results,Tryz.results39,go_sem,d0,d1,d2,d3]) rfl ⟨?_,.inr ⟨by simp[au.bT,q1,q2],by simp[au.bT,q1,q2,gB]⟩⟩;exact(ay HB.out z.prop).trans (yI.below (by have h1:=HB.out.size;have h2:=z.prop.size;omega) (λk hk=>by omega))
  |false=>
   cases q3:decide ((C.acts.length:Int)<=x)with
   |true=>
    go_wp2_with (first|(go_at_call 68;refine(RP.out _).mono ?_;rintro e z ⟨rfl,hz⟩;obtain⟨z,rfl⟩:=Bl.on hz;clear hz));obtain⟨Wf,lW⟩:∃Wf,Hid (Wf=(((z.val.setCell ⟨w.heap.size+1+1,0,none⟩ (.int .i64 0)).setCell ⟨w.heap.size+1+1,1,none⟩ (.slice none 0 0)).setCell ⟨w.heap.size+1+1,2,none⟩ (.slice none 0 0)).setCell ⟨w.heap.size+1+1,3,none⟩ (.slice none 0 0)):=⟨_,rfl⟩;rw[<-lW.out];obtain⟨d0,d1,d2,d3,yI⟩:=nk (KA _) (KC _) (KD _) (KE _) lW.out;refine bodyPost_ret (v:=.tuple #[.agg #[.int .i64 0,.slice none 0 0,.slice none 0 0,.slice none 0 0],.int .i64 1]) (by simp[results,Tryz.results39,go_sem,d0,d1,d2,d3]) rfl ⟨?_,.inr ⟨by simp[au.bT,q1,q2,q3],by simp[au.bT,q1,q2,q3,gB]⟩⟩;exact(ay HB.out z.prop).trans (yI.below (by have h1:=HB.out.size;have h2:=z.prop.size;omega) (λk hk=>by omega))
   |false=>
    cases q4:(s.day==C.days)with
    |true=>
     go_wp2_with (first|(go_at_call 68;refine(RP.out _).mono ?_;rintro e z ⟨rfl,hz⟩;obtain⟨z,rfl⟩:=Bl.on hz;clear hz));obtain⟨Wf,lW⟩:∃Wf,Hid (Wf=(((z.val.setCell ⟨w.heap.size+1+1,0,none⟩ (.int .i64 0)).setCell ⟨w.heap.size+1+1,1,none⟩ (.slice none 0 0)).setCell ⟨w.heap.size+1+1,2,none⟩ (.slice none 0 0)).setCell ⟨w.heap.size+1+1,3,none⟩ (.slice none 0 0)):=⟨_,rfl⟩;rw[<-lW.out];obtain⟨d0,d1,d2,d3,yI⟩:=nk (KA _) (KC _) (KD _) (KE _) lW.out;refine bodyPost_ret (v:=.tuple #[.agg #[.int .i64 0,.slice none 0 0,.slice none 0 0,.slice none 0 0],.int .i64 13]) (by simp[results,Tryz.results39,go_sem,d0,d1,d2,d3]) rfl ⟨?_,.inr ⟨by simp[au.bT,q1,q2,q3,q4],by simp[au.bT,q1,q2,q3,q4,gB]⟩⟩;exact(ay HB.out z.prop).trans (yI.below (by have h1:=HB.out.size;have h2:=z.prop.size;omega) (λk hk=>by omega))
    |false=>
     have hO:=(iC C s).1 q1;have HN:=ah hO.needs;have hlh:=HN.out.lh;have hlu:=HN.out.lu;have hlm:=HN.out.lm;have HO:=ah hO;clear hO;go_wp2_with (first|(go_at_call 68;refine(RP.out _).mono ?_;rintro e z ⟨rfl,hz⟩;obtain⟨z,rfl⟩:=Bl.on hz;clear hz));have hp1:=z.prop;have Xn:=jA z;have Xo:=jB z;have Xp:=jK z;have Xq:=j4 z;have Un:=j5 z;have Xr:=kV z;have Xt:=lT z;have Xu:=o_ z;have Uo:=qy z;have Uq:=rQ z;have Ur:=vX z;have ab2:=KA z;have ab3:=KC z;have ab4:=KD z;have ab5:=KE z;have e0:=afi z;have e1:=afj z;have e2:=afk z;have e3:=afl z;generalize z.val=W1 at hp1 Xn Xo Xp Xq Un Xr Xt Xu Uo Uq Ur ab2 ab3 ab4 ab5 e0 e1 e2 e3⊢;clear jA jB jK j4 j5 kV lT o_ qy rQ vX KA KC KD KE afi afj afk afl RP;have mE:Hid (Below w.heap.size w W1):=ay HB.out hp1;have hs1:=hp1.size;have zK:=ah (HC.out.below mE.out);have ab6:∀y:Bl W1,y.val.cell? ⟨w.heap.size,0,none⟩=some (.int .i64 C.aF):=λy=>y.cell Xn;have ab7:∀y:Bl W1,y.val.cell? ⟨w.heap.size,1,none⟩=some (.slice dF C.aj.length dG):=λy=>y.cell Xo;have ab8:∀y:Bl W1,y.val.cell? ⟨w.heap.size,2,none⟩=some (.slice dH C.units.length dK):=λy=>y.cell Xp;have ab9:∀y:Bl W1,y.val.cell? ⟨w.heap.size,3,none⟩=some (.slice dV C.acts.length dn):=λy=>y.cell Xq;have ab_:∀y:Bl W1,y.val.cell? ⟨w.heap.size,4,none⟩=some (.slice dQ C.clauses.length dh):=λy=>y.cell Un;have acd:∀y:Bl W1,y.val.cell? ⟨w.heap.size,5,none⟩=some (.int .i64 C.days):=λy=>y.cell Xr;have ace:∀y:Bl W1,y.val.cell? ⟨w.heap.size,6,none⟩=some (.slice dz C.off.length dB):=λy=>y.cell Xt;have aiL:∀y:Bl W1,y.val.cell? ⟨w.heap.size+1,0,none⟩=some (.int .i64 s.day):=λy=>y.cell Xu;have aiM:∀y:Bl W1,y.val.cell? ⟨w.heap.size+1,1,none⟩=some (.slice fQ s.aj.length eZ):=λy=>y.cell Uo;have aiN:∀y:Bl W1,y.val.cell? ⟨w.heap.size+1,2,none⟩=some (.slice gH s.used.length eX):=λy=>y.cell Uq;have aiO:∀y:Bl W1,y.val.cell? ⟨w.heap.size+1,3,none⟩=some (.slice h_ s.marks.length dW):=λy=>y.cell Ur;obtain⟨ii,hii,hiz,his,hib⟩:=info_parts' (P:=Tryz.prog) (t:=3) (z:=some (.int .i64 0)) (s:=1) (b:=8) (by kernel_rfl);obtain⟨ib,hbi,hbz,hbs,hbb⟩:=info_parts' (P:=Tryz.prog) (t:=4) (z:=some (.bool false)) (s:=1) (b:=1) (by kernel_rfl);obtain⟨im,Zr,hmz,hms,hmb⟩:=info_parts' (P:=Tryz.prog) (t:=51) (z:=some (.agg eD.cells.toArray)) (s:=5) (b:=40) (by kernel_rfl);refine xq (s:=(⟨W1,aD _ _⟩:Bl W1)) 17 (λi=>match i with
      |6=>some (vD W1 3 s.aj.length (madeCells (Value.cells (.int .i64 0)) (s.aj.length*1)))
      |10=>some (vD W1 4 s.used.length (madeCells (Value.cells (.bool false)) (s.used.length*1)))
      |14=>some (vD W1 51 s.marks.length (madeCells (Value.cells (.agg eD.cells.toArray)) (s.marks.length*5)))
      |_=>none) (by simp) (by kernel_rfl) (by kernel_rfl) ?keeps ?_
     case keeps=>
      intro i sp h;split at h
      .injection h with h;subst h;exact lG _ _ _ _
      .injection h with h;subst h;exact lG _ _ _ _
      .injection h with h;subst h;exact lG _ _ _ _
      .cases h
     simp only[fK,bV,fT,cO];repeat(refine l9 rfl (λK hK=>?_);go_simp;refine hK _ ?_;clear hK K)
     refine uE _ rfl rfl (uI 22 (.tmp 36) (.tmp 36) rfl 3 ii (.int .i64 0) 1 Tryz.underlying22 hii hiz his s.aj.length rfl rfl (by rw[hib];omega) (by omega)) ?_;rintro _ ⟨gh,hgh,rfl⟩;repeat(refine l9 rfl (λK hK=>?_);go_simp;refine hK _ ?_;clear hK K)
     refine uE _ rfl rfl (uI 45 (.tmp 40) (.tmp 40) rfl 4 ib (.bool false) 1 Tryz.underlying45 hbi hbz hbs s.used.length rfl rfl (by rw[hbb];omega) (by omega)) ?_;rintro _ ⟨gu,hgu,rfl⟩;repeat(refine l9 rfl (λK hK=>?_);go_simp;refine hK _ ?_;clear hK K)
     refine uE _ rfl rfl (uI 46 (.tmp 44) (.tmp 44) rfl 51 im (.agg eD.cells.toArray) 5 Tryz.underlying46 Zr hmz hms s.marks.length rfl rfl (by rw[hmb];omega) (by omega)) ?_;rintro _ ⟨gm,hgm,rfl⟩;repeat(refine l9 rfl (λK hK=>?_);go_simp;refine hK _ ?_;clear hK K)
     refine RZ ?_;rintro z2 ⟨⟨⟨_,hA⟩,hB⟩,hD⟩;have hh:=hA gh rfl;have hu:=hB gu rfl;have hm:=hD gm rfl;clear hA hB hD;gi_wp2;obtain⟨W5,nW⟩:∃W5,Hid (W5=z2.val.alloc (.cells #[.int .i64 C.aF,.slice dF C.aj.length dG,.slice dH C.units.length dK,.slice dV C.acts.length dn,.slice dQ C.clauses.length dh,.int .i64 C.days,.slice dz C.off.length dB,.int .i64 s.day,.slice (some ⟨gh,0,none⟩) s.aj.length s.aj.length,.slice (some ⟨gu,0,none⟩) s.used.length s.used.length,.slice (some ⟨gm,0,none⟩) s.marks.length s.marks.length] 129)):=⟨_,rfl⟩;rw[<-nW.out];obtain⟨g,hg⟩:∃g,g=z2.val.heap.size:=⟨_,rfl⟩;rw[<-hg];have GR:Hid (Below W1.heap.size W1 W5):=by show Below _ _ _;rw[nW.out];exact aK z2.prop _
     have K_:aJ W1 W5 g (⟨⟨dF,dG⟩,⟨dH,dK⟩,⟨dV,dn⟩,⟨dQ,dh⟩,⟨dz,dB⟩⟩:CV) C (⟨⟨some ⟨gh,0,none⟩,s.aj.length⟩,⟨some ⟨gu,0,none⟩,s.used.length⟩,⟨some ⟨gm,0,none⟩,s.marks.length⟩⟩:TV) ⟨s.day,List.replicate s.aj.length 0,List.replicate s.used.length false,List.replicate s.marks.length eD⟩ gh gu gm:=by
      refine⟨?_,zK.out,GR.out,?_,?_,?_,by rw[hg];exact z2.prop.size,hgh,hgu,hgm⟩
      .rw[nW.out,hg]
       simp only[mH];exact bC z2.val _
      .have h:W5.heap[gh]?=some (.cells (madeCells (Value.cells (.int .i64 0)) (s.aj.length*1)) 3 (0,0)):=by rw[nW.out];exact(Below.heap_alloc _ _ _ (av hh)).trans hh
       have h2:=eG.of_block (size:=1) (n:=s.aj.length) h (size_madeCells _ _) (by unfold maxLen;omega);rw[Ui]at h2;simpa only[mH]using h2
      .have h:W5.heap[gu]?=some (.cells (madeCells (Value.cells (.bool false)) (s.used.length*1)) 4 (0,0)):=by rw[nW.out];exact(Below.heap_alloc _ _ _ (av hu)).trans hu
       have h2:=eG.of_block (size:=1) (n:=s.used.length) h (size_madeCells _ _) (by unfold maxLen;omega);rw[zV]at h2;simpa only[mH]using h2
      .have h:W5.heap[gm]?=some (.cells (madeCells (Value.cells (.agg eD.cells.toArray)) (s.marks.length*5)) 51 (0,0)):=by rw[nW.out];exact(Below.heap_alloc _ _ _ (av hm)).trans hm
       have h2:=eG.of_block (size:=5) (n:=s.marks.length) h (size_madeCells _ _) (by unfold maxLen;omega);rw[show(Value.cells (.agg eD.cells.toArray))=eD.cells.toArray from rfl,GJ]at h2;simpa only[mH]using h2
     have HH5:=ah K_;clear K_ hh hu hm nW GR ab6 ab7 ab8 ab9 ab_ acd ace aiL aiM aiN aiO;have HG:=ah hg;clear hg;go_wp2;have r1:∀y:Bl W5,y.val.cell? ⟨g,8,none⟩=some (.slice (some ⟨gh,0,none⟩) s.aj.length s.aj.length):=λy=>by
      have h:=(HH5.out.on y.prop).cell 8;simp only[mH]at h;exact h
     have r2:∀y:Bl W5,y.val.cell? ⟨w.heap.size+1,1,none⟩=some (.slice fQ s.aj.length eZ):=λy=>y.cell (((aY HH5.out.below).1 _ _ (by omega)).trans Uo);refine mU (s:=(⟨W5,aD _ _⟩:Bl W5)) 7 (by simp) (by kernel_rfl) (by kernel_rfl) ?_;simp only[fK,bV,fT,cO];repeat(go_big_quiet_step (fail))
     refine aS ?_;rintro _ ⟨y,rfl⟩;clear r1 r2;refine ni _ rfl (.tmp 53) (.tmp 55) 22 rfl 3 ii 1 Tryz.underlying22 hii his rfl rfl (by
      have h:=(HH5.out.on y.prop).aj;simp only[mH]at h;exact h) ((HS.out.aj.1).below (by omega) (ay mE.out (ay HH5.out.below y.prop))) ?_
     intro W6 hr hu;have hWn:aJ W1 W6 g (⟨⟨dF,dG⟩,⟨dH,dK⟩,⟨dV,dn⟩,⟨dQ,dh⟩,⟨dz,dB⟩⟩:CV) C (⟨⟨some ⟨gh,0,none⟩,s.aj.length⟩,⟨some ⟨gu,0,none⟩,s.used.length⟩,⟨some ⟨gm,0,none⟩,s.marks.length⟩⟩:TV) ⟨s.day,s.aj,List.replicate s.used.length false,List.replicate s.marks.length eD⟩ gh gu gm:=(HH5.out.on y.prop).Qs s.aj (by simp) (by simpa only[mH]using hr) hu;have yG:=ah hWn;clear hWn hr hu HH5;clear y;refine wpListIn_nil ?_
     go_frame
     go_wp2;have r1:∀y:Bl W6,y.val.cell? ⟨g,9,none⟩=some (.slice (some ⟨gu,0,none⟩) s.used.length s.used.length):=λy=>by
      have h:=(yG.out.on y.prop).cell 9;simp only[mH]at h;exact h
     have r2:∀y:Bl W6,y.val.cell? ⟨w.heap.size+1,2,none⟩=some (.slice gH s.used.length eX):=λy=>y.cell (((aY yG.out.below).1 _ _ (by omega)).trans Uq);refine mU (s:=(⟨W6,aD _ _⟩:Bl W6)) 7 (by simp) (by kernel_rfl) (by kernel_rfl) ?_;simp only[fK,bV,fT,cO];repeat(go_big_quiet_step (fail))
     refine aS ?_;rintro _ ⟨y,rfl⟩;clear r1 r2;refine ni _ rfl (.tmp 61) (.tmp 63) 45 rfl 4 ib 1 Tryz.underlying45 hbi hbs rfl rfl (by
      have h:=(yG.out.on y.prop).used;simp only[mH]at h;exact h) ((HS.out.used.1).below (by omega) (ay mE.out (ay yG.out.below y.prop))) ?_
     intro W7 hr hu;have hWn:aJ W1 W7 g (⟨⟨dF,dG⟩,⟨dH,dK⟩,⟨dV,dn⟩,⟨dQ,dh⟩,⟨dz,dB⟩⟩:CV) C (⟨⟨some ⟨gh,0,none⟩,s.aj.length⟩,⟨some ⟨gu,0,none⟩,s.used.length⟩,⟨some ⟨gm,0,none⟩,s.marks.length⟩⟩:TV) ⟨s.day,s.aj,s.used,List.replicate s.marks.length eD⟩ gh gu gm:=(yG.out.on y.prop).Zz s.used (by simp) (by simpa only[mH]using hr) hu;have Ai:=ah hWn;clear hWn hr hu yG;clear y;refine wpListIn_nil ?_
     go_frame
     go_wp2;have r1:∀y:Bl W7,y.val.cell? ⟨g,10,none⟩=some (.slice (some ⟨gm,0,none⟩) s.marks.length s.marks.length):=λy=>by
      have h:=(Ai.out.on y.prop).cell 10;simp only[mH]at h;exact h
     have r2:∀y:Bl W7,y.val.cell? ⟨w.heap.size+1,3,none⟩=some (.slice h_ s.marks.length dW):=λy=>y.cell (((aY Ai.out.below).1 _ _ (by omega)).trans Ur);refine mU (s:=(⟨W7,aD _ _⟩:Bl W7)) 7 (by simp) (by kernel_rfl) (by kernel_rfl) ?_;simp only[fK,bV,fT,cO];repeat(go_big_quiet_step (fail))
     refine aS ?_;rintro _ ⟨y,rfl⟩;clear r1 r2;refine ni _ rfl (.tmp 69) (.tmp 71) 46 rfl 51 im 5 Tryz.underlying46 Zr hms rfl rfl (by
      have h:=(Ai.out.on y.prop).marks;simp only[mH]at h;exact h) ((HS.out.marks.1).below (by omega) (ay mE.out (ay Ai.out.below y.prop))) ?_
     intro W8 hr hu;have hWn:aJ W1 W8 g (⟨⟨dF,dG⟩,⟨dH,dK⟩,⟨dV,dn⟩,⟨dQ,dh⟩,⟨dz,dB⟩⟩:CV) C (⟨⟨some ⟨gh,0,none⟩,s.aj.length⟩,⟨some ⟨gu,0,none⟩,s.used.length⟩,⟨some ⟨gm,0,none⟩,s.marks.length⟩⟩:TV) ⟨s.day,s.aj,s.used,s.marks⟩ gh gu gm:=(Ai.out.on y.prop).FH s.marks (by simp) (by simpa only[mH]using hr) hu;have HW8:=ah hWn;clear hWn hr hu Ai;clear y;refine wpListIn_nil ?_
     go_frame
     cases q5:(x== -1)with
     |true=>
      have HT:=ah (Xa HW8.out HO.out.lm HN.out.hin HN.out.hro HN.out.hki HN.out.hof HN.out.hol HN.out.hd0 HN.out.hd1 HN.out.hle);go_wp2_with (go_at_call 69;refine HT.out.mono ?_;rintro e zc ⟨rfl,hz1,hz2⟩;refine Hid.out ?_);refine ah ?_;generalize hs2:C.tick ⟨s.day,s.aj,s.used,s.marks⟩=s2 at hz1;have HS2:=ah hs2;clear hs2;have n7:zc.cell? ⟨g,7,none⟩=some (.int .i64 s2.day):=hz1.cell 7;have n8:zc.cell? ⟨g,8,none⟩=some (.slice (some ⟨gh,0,none⟩) s2.aj.length s.aj.length):=hz1.cell 8;have n9:zc.cell? ⟨g,9,none⟩=some (.slice (some ⟨gu,0,none⟩) s2.used.length s.used.length):=hz1.cell 9;have n10:zc.cell? ⟨g,10,none⟩=some (.slice (some ⟨gm,0,none⟩) s2.marks.length s.marks.length):=hz1.cell 10;have t0:=((aY hz1.below).1 (w.heap.size+1+1) 0 (by omega)).trans ab2;have u0:=((aY hz1.below).2 (w.heap.size+1+1) 0 (by omega)).trans e0;have t1:=((aY hz1.below).1 (w.heap.size+1+1) 1 (by omega)).trans ab3;have u1:=((aY hz1.below).2 (w.heap.size+1+1) 1 (by omega)).trans e1;have t2:=((aY hz1.below).1 (w.heap.size+1+1) 2 (by omega)).trans ab4;have u2:=((aY hz1.below).2 (w.heap.size+1+1) 2 (by omega)).trans e2;have t3:=((aY hz1.below).1 (w.heap.size+1+1) 3 (by omega)).trans ab5;have u3:=((aY hz1.below).2 (w.heap.size+1+1) 3 (by omega)).trans e3;have HZ:=ah hz1;clear hz1;go_wp2;obtain⟨Wf,lW⟩:∃Wf,Hid (Wf=(((zc.setCell ⟨w.heap.size+1+1,0,none⟩ (.int .i64 s2.day)).setCell ⟨w.heap.size+1+1,1,none⟩ (.slice (some ⟨gh,0,none⟩) s2.aj.length s.aj.length)).setCell ⟨w.heap.size+1+1,2,none⟩ (.slice (some ⟨gu,0,none⟩) s2.used.length s.used.length)).setCell ⟨w.heap.size+1+1,3,none⟩ (.slice (some ⟨gm,0,none⟩) s2.marks.length s.marks.length)):=⟨_,rfl⟩;rw[<-lW.out];obtain⟨d0,d1,d2,d3,yI⟩:=nk t0 t1 t2 t3 lW.out;refine bodyPost_ret (v:=.tuple #[.agg #[.int .i64 s2.day,.slice (some ⟨gh,0,none⟩) s2.aj.length s.aj.length,.slice (some ⟨gu,0,none⟩) s2.used.length s.used.length,.slice (some ⟨gm,0,none⟩) s2.marks.length s.marks.length],.int .i64 0]) (by simp[results,Tryz.results39,go_sem,d0,d1,d2,d3]) rfl ⟨?_,.inl ⟨by simp only[au.bT,q1,q2,q3,q4,Bool.not_true,cond_false],(⟨⟨some ⟨gh,0,none⟩,s.aj.length⟩,⟨some ⟨gu,0,none⟩,s.used.length⟩,⟨some ⟨gm,0,none⟩,s.marks.length⟩⟩:TV),?_,?_,lH (bF mE.out.size HZ.out.newH),lH (bF mE.out.size HZ.out.zL),lH (bF mE.out.size HZ.out.uq)⟩⟩
      .exact(mE.out.trans (HZ.out.below.mono mE.out.size)).trans (yI.below (by have h1:=mE.out.size;have h2:=HZ.out.below.size;omega) (λk hk=>by omega))
      .rw[show C.next s x=s2 by simp only[au.next,q5,cond_true];exact HS2.out]
       rfl
      .rw[show C.next s x=s2 by simp only[au.next,q5,cond_true];exact HS2.out]
       exact HZ.out.Ld yI (λk hk=>by omega)
     |false=>
      obtain⟨i,rfl⟩:∃i:Nat,x=i:=by
       have h1:x≠ -1:=by simpa using q5
       have h2:¬x< -1:=by simpa using q2
       exact⟨x.toNat,by omega⟩
      have hil:i<C.acts.length:=by
       have h3:¬(C.acts.length:Int)<=(i:Int):=by simpa using q3
       omega
      obtain⟨a,ha⟩:∃a,C.acts[i]?=some a:=⟨_,aT hil⟩;have hact:=(au.ok HO.out.con).act (cK ha);have acf:=HO.out.lh;have HT:=ah (Zy HW8.out i a ha (by show i<s.used.length;rw[HO.out.lu];exact hil) (by show a.kind≠1->0<=a.give/\a.give<s.aj.length;rw[acf];exact hact.give) HO.out.lm HN.out.hin HN.out.hro HN.out.hki (by show a.role≠ -1->0<=a.role/\a.role<s.aj.length;rw[acf];exact hact.role) HN.out.hgo);have HA:=ah ha;clear ha hact acf;go_wp2_with (go_at_call 70;refine HT.out.mono ?_;rintro e zc ⟨rfl,hz1,hz2⟩;refine Hid.out ?_);refine ah ?_;generalize hs2:C.act i a ⟨s.day,s.aj,s.used,s.marks⟩=s2 at hz1;have HS2:=ah hs2;clear hs2;have n7:zc.cell? ⟨g,7,none⟩=some (.int .i64 s2.day):=hz1.cell 7;have n8:zc.cell? ⟨g,8,none⟩=some (.slice (some ⟨gh,0,none⟩) s2.aj.length s.aj.length):=hz1.cell 8;have n9:zc.cell? ⟨g,9,none⟩=some (.slice (some ⟨gu,0,none⟩) s2.used.length s.used.length):=hz1.cell 9;have n10:zc.cell? ⟨g,10,none⟩=some (.slice (some ⟨gm,0,none⟩) s2.marks.length s.marks.length):=hz1.cell 10;have t0:=((aY hz1.below).1 (w.heap.size+1+1) 0 (by omega)).trans ab2;have u0:=((aY hz1.below).2 (w.heap.size+1+1) 0 (by omega)).trans e0;have t1:=((aY hz1.below).1 (w.heap.size+1+1) 1 (by omega)).trans ab3;have u1:=((aY hz1.below).2 (w.heap.size+1+1) 1 (by omega)).trans e1;have t2:=((aY hz1.below).1 (w.heap.size+1+1) 2 (by omega)).trans ab4;have u2:=((aY hz1.below).2 (w.heap.size+1+1) 2 (by omega)).trans e2;have t3:=((aY hz1.below).1 (w.heap.size+1+1) 3 (by omega)).trans ab5;have u3:=((aY hz1.below).2 (w.heap.size+1+1) 3 (by omega)).trans e3;have HZ:=ah hz1;clear hz1;go_wp2;obtain⟨Wf,lW⟩:∃Wf,Hid (Wf=(((zc.setCell ⟨w.heap.size+1+1,0,none⟩ (.int .i64 s2.day)).setCell ⟨w.heap.size+1+1,1,none⟩ (.slice (some ⟨gh,0,none⟩) s2.aj.length s.aj.length)).setCell ⟨w.heap.size+1+1,2,none⟩ (.slice (some ⟨gu,0,none⟩) s2.used.length s.used.length)).setCell ⟨w.heap.size+1+1,3,none⟩ (.slice (some ⟨gm,0,none⟩) s2.marks.length s.marks.length)):=⟨_,rfl⟩;rw[<-lW.out];obtain⟨d0,d1,d2,d3,yI⟩:=nk t0 t1 t2 t3 lW.out;refine bodyPost_ret (v:=.tuple #[.agg #[.int .i64 s2.day,.slice (some ⟨gh,0,none⟩) s2.aj.length s.aj.length,.slice (some ⟨gu,0,none⟩) s2.used.length s.used.length,.slice (some ⟨gm,0,none⟩) s2.marks.length s.marks.length],.int .i64 0]) (by simp[results,Tryz.results39,go_sem,d0,d1,d2,d3]) rfl ⟨?_,.inl ⟨by simp only[au.bT,q1,q2,q3,q4,Bool.not_true,cond_false],(⟨⟨some ⟨gh,0,none⟩,s.aj.length⟩,⟨some ⟨gu,0,none⟩,s.used.length⟩,⟨some ⟨gm,0,none⟩,s.marks.length⟩⟩:TV),?_,?_,lH (bF mE.out.size HZ.out.newH),lH (bF mE.out.size HZ.out.zL),lH (bF mE.out.size HZ.out.uq)⟩⟩
      .exact(mE.out.trans (HZ.out.below.mono mE.out.size)).trans (yI.below (by have h1:=mE.out.size;have h2:=HZ.out.below.size;omega) (λk hk=>by omega))
      .rw[show C.next s (i:Int)=s2 by simp only[au.next,q5,cond_false,su,HA.out];exact HS2.out]
       rfl
      .rw[show C.next s (i:Int)=s2 by simp only[au.next,q5,cond_false,su,HA.out];exact HS2.out]
       exact HZ.out.Ld yI (λk hk=>by omega)
end
open Go.RowKit Go.Shelf
attribute [local go_sem] jS stillUpon bK
theorem eG.below'{w w':World}{e:TypeId}{size n g:Nat}{v:Value}{xs:List Value}(h:eG w e size v n xs (some g))(hb:Below w.heap.size w w'):eG w' e size v n xs (some g):=
 h.keep (aH.of_below hb) (λk hk hle=>by have:=h.lt hk;omega)
def qQ(W0:World)(l:List Int):bO:=
 ⟨λv=>∃b c,W0.heap.size<=b/\v= .slice (some ⟨b,0,none⟩) l.length c,λv z=>∀b c,v= .slice (some ⟨b,0,none⟩) l.length c->eG z 3 1 v l.length (aR l) (some b)⟩
theorem EB(W0:World)(l:List Int):(qQ W0 l).Keeps:=λ_ _ _ h hb b c hv=>(h b c hv).below' hb
theorem Us{W0:World}(z:Bl W0){A:Option Addr}{c:Nat}{l:List Int}(h:At z.val 1 A l.length c (aR l))(h0:0<l.length)(hl:l.length*8<=140737488355328):
 Calls Tryz.prog 66 #[.slice A l.length c] z.val (λe w''=>∃v,e= .returned v/\(qQ W0 l).V v/\(qQ W0 l).S v w''/\Below z.val.heap.size z.val w''):=by
 obtain⟨b,off,rfl,hc⟩:=h.F8 h0;refine(Any.slices_Clone_int Tryz.laysClone b off l.length c l z.val (bH _) hl hc).mono ?_;rintro e w' ⟨v',rfl,hown,hnn,hb⟩;rw[gV]at hown;rcases hown.2 with⟨h1,_⟩|⟨g,cap,cur,rfl,h2,h3,h4,h5,h6,h7⟩
 .exact absurd h1 hnn
 .refine⟨_,rfl,⟨g,cap,bF z.prop.size h2,rfl⟩,?_,hb⟩
  intro b' c' hv;simp only[Value.slice.injEq,Option.some.injEq,Addr.mk.injEq,and_true,true_and]at hv;obtain⟨rfl,rfl⟩:=hv;exact⟨hown.1,.inr ⟨g,0,cap,cur,rfl,rfl,h3,h4,h5,by omega,by simpa [aR]using h7⟩⟩
def jk(C:au)(k:Nat):List aC:=(C.clauses.take k).map jv++List.replicate (C.clauses.length - k) eD
theorem xI(C:au)(k:Nat)(hk:k<=C.clauses.length):(jk C k).length=C.clauses.length:=by simp[jk];omega
theorem Le(C:au):jk C 0=List.replicate C.clauses.length eD:=by simp[jk]
theorem D7(C:au):jk C C.clauses.length=C.clauses.map jv:=by simp[jk]
theorem xJ{C:au}{k:Nat}(hk:k<C.clauses.length):(jk C k)[k]?=some eD:=by
 rw[jk,oG (by simp;omega),Am,if_pos (by simp;omega)]
theorem Lf{C:au}{k:Nat}{c:aQ}(hc:C.clauses[k]?=some c):jk C (k+1)=(jk C k).set k (jv c):=by
 have hk:k<C.clauses.length:=(aZ.1 hc).1;apply kX;intro j;rw[jI];by_cases hj:k=j
 .subst hj
  rw[if_pos rfl,if_pos (by rw[xI C k (by omega)];exact hk),jk,lX (by simp;omega),gG,lZ,if_pos (by omega),hc];rfl
 .rw[if_neg hj]
  unfold jk;by_cases h2:j<k
  .rw[lX (by simp;omega),lX (by simp;omega),gG,gG,lZ,lZ,if_pos (by omega),if_pos h2]
  .rw[oG (by simp;omega),oG (by simp;omega),Am,Am]
   simp only[eF,p9];rw[Nat.min_eq_left (by omega),Nat.min_eq_left (by omega)];by_cases h3:j<C.clauses.length
   .rw[if_pos (by omega),if_pos (by omega)]
   .rw[if_neg (by omega),if_neg (by omega)]
theorem ND{C:au}(h:C.valid=true):C.errno=0:=by
 simp only[au.valid,bM,iE]at h;simp[au.errno,h.1,h.2.1,h.2.2]
theorem Ut{C:au}(h:C.valid=false):(C.errno !=0)=true:=by
 unfold au.valid at h;unfold au.errno;cases ho:C.over with
 |true=>rfl
 |false=>
  rw[ho]at h;simp only[Bool.not_false,Bool.true_and]at h;rw[h];rfl
theorem yJ(v:CV)(C:au)(w:World)(hC:bU w v C):Calls Tryz.prog 38 #[v.val C] w (yH (cond C.valid 0 1) C.first w):=by
 obtain⟨⟨dF,dG⟩,⟨dH,dK⟩,⟨dV,dn⟩,⟨dQ,dh⟩,⟨dz,dB⟩⟩:=v;have HC:=ah hC;clear hC;simp only[CV.val,CV.cells];go_enter Tryz.func38,Tryz.ntmps38;go_upto_region 1 with(fail)
 generalize hW0:World.alloc _ _=W0;obtain⟨HB,hh0,g_⟩:=IQ hW0;clear hW0;obtain⟨jA,jB,jK,j4,j5,kV,lT⟩:=Fg hh0;clear hh0;obtain⟨o_,qy,rQ,vX⟩:=kc4 g_;have afm:=Dv (i:=0) g_;have afn:=Dv (i:=1) g_;have afo:=Dv (i:=2) g_;have afp:=Dv (i:=3) g_;have hl1:=av g_;clear g_;change Code.wp _ _ _ _ (Bl.val (⟨W0,aD _ _⟩:Bl W0));generalize(⟨W0,aD _ _⟩:Bl W0)=s0;have hcv:∀z:Bl W0,Calls Tryz.prog 31 #[.agg #[.int .i64 C.aF,.slice dF C.aj.length dG,.slice dH C.units.length dK,.slice dV C.acts.length dn,.slice dQ C.clauses.length dh,.int .i64 C.days,.slice dz C.off.length dB]] z.val (EM C.errno z.val):=λz=>uU (⟨⟨dF,dG⟩,⟨dH,dK⟩,⟨dV,dn⟩,⟨dQ,dh⟩,⟨dz,dB⟩⟩:CV) C z.val (HC.out.below (ay HB.out z.prop));cases q1:C.valid with
 |false=>
  have hne:=Ut q1;generalize C.errno=en at hcv hne;have TI:=ah hcv;clear hcv;go_wp2_with (first|(go_at_call 31;refine(TI.out _).mono ?_;rintro e z ⟨nn,rfl,hz⟩;obtain⟨z,rfl⟩:=Bl.on hz;clear hz));obtain⟨Wf,lW⟩:∃Wf,Hid (Wf=(((z.val.setCell ⟨w.heap.size+1,0,none⟩ (.int .i64 0)).setCell ⟨w.heap.size+1,1,none⟩ (.slice none 0 0)).setCell ⟨w.heap.size+1,2,none⟩ (.slice none 0 0)).setCell ⟨w.heap.size+1,3,none⟩ (.slice none 0 0)):=⟨_,rfl⟩;rw[<-lW.out];obtain⟨d0,d1,d2,d3,yI⟩:=nk (o_ _) (qy _) (rQ _) (vX _) lW.out;refine bodyPost_ret (v:=.tuple #[.agg #[.int .i64 0,.slice none 0 0,.slice none 0 0,.slice none 0 0],.int .i64 1]) (by simp[results,Tryz.results38,go_sem,d0,d1,d2,d3]) rfl ⟨?_,.inr ⟨by rw[q1];decide,by rw[q1];rfl⟩⟩;exact(ay HB.out z.prop).trans (yI.below (by have h1:=HB.out.size;have h2:=z.prop.size;omega) (λk hk=>by omega))
 |true=>
  rw[ND q1]at hcv;have TI:=ah hcv;clear hcv;have hO:=au.ok q1;have hlh:=hO.Qi;have anM:=hO.roles;have hlu:=hO.JW;have hlm:=hO.Gs;have HN:=ah (Bj q1).needs;have HO:=ah hO;clear hO;go_wp2_with (first|(go_at_call 31;refine(TI.out _).mono ?_;rintro e z ⟨nn,rfl,hz⟩;obtain⟨z,rfl⟩:=Bl.on hz;clear hz));have hp1:=z.prop;have Xn:=jA z;have Xo:=jB z;have Xp:=jK z;have Xq:=j4 z;have Un:=j5 z;have Xr:=kV z;have Xt:=lT z;have Xu:=o_ z;have Uo:=qy z;have Uq:=rQ z;have Ur:=vX z;have e0:=afm z;have e1:=afn z;have e2:=afo z;have e3:=afp z;generalize z.val=W1 at hp1 Xn Xo Xp Xq Un Xr Xt Xu Uo Uq Ur e0 e1 e2 e3⊢;clear jA jB jK j4 j5 kV lT o_ qy rQ vX afm afn afo afp TI;have mE:Hid (Below w.heap.size w W1):=ay HB.out hp1;have hs1:=hp1.size;have zK:=ah (HC.out.below mE.out);have ab6:∀y:Bl W1,y.val.cell? ⟨w.heap.size,0,none⟩=some (.int .i64 C.aF):=λy=>y.cell Xn;have ab7:∀y:Bl W1,y.val.cell? ⟨w.heap.size,1,none⟩=some (.slice dF C.aj.length dG):=λy=>y.cell Xo;have ab8:∀y:Bl W1,y.val.cell? ⟨w.heap.size,2,none⟩=some (.slice dH C.units.length dK):=λy=>y.cell Xp;have ab9:∀y:Bl W1,y.val.cell? ⟨w.heap.size,3,none⟩=some (.slice dV C.acts.length dn):=λy=>y.cell Xq;have ab_:∀y:Bl W1,y.val.cell? ⟨w.heap.size,4,none⟩=some (.slice dQ C.clauses.length dh):=λy=>y.cell Un;have acd:∀y:Bl W1,y.val.cell? ⟨w.heap.size,5,none⟩=some (.int .i64 C.days):=λy=>y.cell Xr;have ace:∀y:Bl W1,y.val.cell? ⟨w.heap.size,6,none⟩=some (.slice dz C.off.length dB):=λy=>y.cell Xt;obtain⟨ib,hbi,hbz,hbs,hbb⟩:=info_parts' (P:=Tryz.prog) (t:=4) (z:=some (.bool false)) (s:=1) (b:=1) (by kernel_rfl);obtain⟨im,Zr,hmz,hms,hmb⟩:=info_parts' (P:=Tryz.prog) (t:=51) (z:=some (.agg eD.cells.toArray)) (s:=5) (b:=40) (by kernel_rfl);have YB:Hid (∀z:Bl W1,Calls Tryz.prog 66 #[.slice dF C.aj.length dG] z.val (λe w''=>∃v,e= .returned v/\(qQ W1 C.aj).V v/\(qQ W1 C.aj).S v w''/\Below z.val.heap.size z.val w'')):=λz=>
   Us z (zK.out.below z.prop).aj (by omega) (by omega)
  refine xq (s:=(⟨W1,aD _ _⟩:Bl W1)) 14 (λi=>match i with
   |3=>some (qQ W1 C.aj)
   |7=>some (vD W1 4 C.acts.length (madeCells (Value.cells (.bool false)) (C.acts.length*1)))
   |11=>some (vD W1 51 C.clauses.length (madeCells (Value.cells (.agg eD.cells.toArray)) (C.clauses.length*5)))
   |_=>none) (by simp) (by kernel_rfl) (by kernel_rfl) ?keeps ?_
  case keeps=>
   intro i sp h;split at h
   .injection h with h;subst h;exact EB _ _
   .injection h with h;subst h;exact lG _ _ _ _
   .injection h with h;subst h;exact lG _ _ _ _
   .cases h
  simp only[fK,bV,fT,cO];repeat(refine l9 rfl (λK hK=>?_);go_simp;refine hK _ ?_;clear hK K)
  refine uE _ rfl rfl (λz=>?_) ?_
  .go_simp
   exact YB.out z
  rintro _ ⟨gh,hcp,hgh,rfl⟩;repeat(refine l9 rfl (λK hK=>?_);go_simp;refine hK _ ?_;clear hK K)
  refine uE _ rfl rfl (uI 45 (.tmp 23) (.tmp 23) rfl 4 ib (.bool false) 1 Tryz.underlying45 hbi hbz hbs C.acts.length rfl rfl (by rw[hbb];omega) (by omega)) ?_;rintro _ ⟨gu,hgu,rfl⟩;repeat(refine l9 rfl (λK hK=>?_);go_simp;refine hK _ ?_;clear hK K)
  refine uE _ rfl rfl (uI 46 (.tmp 27) (.tmp 27) rfl 51 im (.agg eD.cells.toArray) 5 Tryz.underlying46 Zr hmz hms C.clauses.length rfl rfl (by rw[hmb];omega) (by omega)) ?_;rintro _ ⟨gm,hgm,rfl⟩;repeat(refine l9 rfl (λK hK=>?_);go_simp;refine hK _ ?_;clear hK K)
  refine RZ ?_;rintro z2 ⟨⟨⟨_,hA⟩,hB⟩,hD⟩;have hh:=hA gh hcp rfl;have hu:=hB gu rfl;have hm:=hD gm rfl;clear hA hB hD YB;gi_wp2;obtain⟨W5,nW⟩:∃W5,Hid (W5=z2.val.alloc (.cells #[.int .i64 C.aF,.slice dF C.aj.length dG,.slice dH C.units.length dK,.slice dV C.acts.length dn,.slice dQ C.clauses.length dh,.int .i64 C.days,.slice dz C.off.length dB,.int .i64 0,.slice (some ⟨gh,0,none⟩) C.aj.length hcp,.slice (some ⟨gu,0,none⟩) C.acts.length C.acts.length,.slice (some ⟨gm,0,none⟩) C.clauses.length C.clauses.length] 129)):=⟨_,rfl⟩;rw[<-nW.out];obtain⟨g,hg⟩:∃g,g=z2.val.heap.size:=⟨_,rfl⟩;rw[<-hg];have GR:Hid (Below W1.heap.size W1 W5):=by show Below _ _ _;rw[nW.out];exact aK z2.prop _
  have K_:aJ W1 W5 g (⟨⟨dF,dG⟩,⟨dH,dK⟩,⟨dV,dn⟩,⟨dQ,dh⟩,⟨dz,dB⟩⟩:CV) C (⟨⟨some ⟨gh,0,none⟩,hcp⟩,⟨some ⟨gu,0,none⟩,C.acts.length⟩,⟨some ⟨gm,0,none⟩,C.clauses.length⟩⟩:TV) ⟨0,C.aj,List.replicate C.acts.length false,List.replicate C.clauses.length eD⟩ gh gu gm:=by
   refine⟨?_,zK.out,GR.out,?_,?_,?_,by rw[hg];exact z2.prop.size,hgh,hgu,hgm⟩
   .rw[nW.out,hg]
    simp only[mH];exact bC z2.val _
   .rw[nW.out]
    exact hh.below' (aK (aD _ _) _)
   .have h:W5.heap[gu]?=some (.cells (madeCells (Value.cells (.bool false)) (C.acts.length*1)) 4 (0,0)):=by rw[nW.out];exact(Below.heap_alloc _ _ _ (av hu)).trans hu
    have h2:=eG.of_block (size:=1) (n:=C.acts.length) h (size_madeCells _ _) (by unfold maxLen;omega);rw[zV]at h2;simpa only[mH]using h2
   .have h:W5.heap[gm]?=some (.cells (madeCells (Value.cells (.agg eD.cells.toArray)) (C.clauses.length*5)) 51 (0,0)):=by rw[nW.out];exact(Below.heap_alloc _ _ _ (av hm)).trans hm
    have h2:=eG.of_block (size:=5) (n:=C.clauses.length) h (size_madeCells _ _) (by unfold maxLen;omega);rw[show(Value.cells (.agg eD.cells.toArray))=eD.cells.toArray from rfl,GJ]at h2;simpa only[mH]using h2
  have i4:=((aY GR.out).1 (w.heap.size) 4 (by omega)).trans Un;have HH5:=ah K_;clear K_ hh hu hm nW GR ab6 ab7 ab8 ab9 ab_ acd ace;have HG:=ah hg;clear hg;go_wp2
  go_loopw [35] (λi wr=>∃j:Nat,j<=C.clauses.length/\i= .int .i64 j/\Hid (aJ W1 wr g (⟨⟨dF,dG⟩,⟨dH,dK⟩,⟨dV,dn⟩,⟨dQ,dh⟩,⟨dz,dB⟩⟩:CV) C (⟨⟨some ⟨gh,0,none⟩,hcp⟩,⟨some ⟨gu,0,none⟩,C.acts.length⟩,⟨some ⟨gm,0,none⟩,C.clauses.length⟩⟩:TV) ⟨0,C.aj,List.replicate C.acts.length false,jk C j⟩ gh gu gm)) (λi _=>C.clauses.length - (intOf i).toNat)
  case atStart=>exact⟨0,aV _,rfl,by show aJ _ _ _ _ _ _ _ _ _ _;rw[Le];exact HH5.out⟩
  case round=>
   obtain⟨j,hj,rfl,HW⟩:=hrel;clear i4;by_cases hlt:j<C.clauses.length
   .obtain⟨k,hk⟩:∃k,C.clauses[j]?=some k:=⟨_,aT hlt⟩
    obtain⟨kb,kL,st,hK,hkb,hkc,_⟩:=HW.out.con.clause hk;simp only at hK;subst hK;have nN:=hkc _ HW.out.below;obtain⟨k0,EU,ac,ne,start,af,gr,bu,fi,pa,re,⟨vn,vd⟩,JR,JU,wa⟩:=k;obtain⟨stA,Ac⟩:=st;obtain⟨x0,x1,x2,x3,x4,x5,x6,x7,x8,x9,x10,x11,x12,x13,x14,x15⟩:=Fh nN rfl;clear hkc nN;have HK:=ah hk;clear hk;have j0:(0:Int)<=(j:Int):=by omega
    have j1:(j:Int)<(C.clauses.length:Int):=by omega
    have j2:C.clauses.length<=9223372036854775807:=by omega
    go_upto_region 8 with(fail)
    obtain⟨Wa,Pf⟩:∃Wa,Hid (Wa=wr.alloc (.cells #[.int .i64 k0,.int .i64 EU,.int .i64 ac,.int .i64 ne,.slice stA start.length Ac,.int .i64 af,.int .i64 gr,.bool bu,.bool fi,.int .i64 pa,.int .i64 re,.int .i64 vn,.int .i64 vd,.int .i64 JR,.int .i64 JU,.bool wa] 112)):=⟨_,rfl⟩;rw[<-Pf.out];have hb:Below wr.heap.size wr Wa:=by rw[Pf.out];exact aK (aD _ _) _
    have hWa:aJ W1 Wa g (⟨⟨dF,dG⟩,⟨dH,dK⟩,⟨dV,dn⟩,⟨some ⟨kb,kL,none⟩,dh⟩,⟨dz,dB⟩⟩:CV) C (⟨⟨some ⟨gh,0,none⟩,hcp⟩,⟨some ⟨gu,0,none⟩,C.acts.length⟩,⟨some ⟨gm,0,none⟩,C.clauses.length⟩⟩:TV) ⟨0,C.aj,List.replicate C.acts.length false,jk C j⟩ gh gu gm:=HW.out.on hb;have y15:Wa.cell? ⟨wr.heap.size,15,none⟩=some (.bool wa):=by
     have h:=bC wr (.cells #[.int .i64 k0,.int .i64 EU,.int .i64 ac,.int .i64 ne,.slice stA start.length Ac,.int .i64 af,.int .i64 gr,.bool bu,.bool fi,.int .i64 pa,.int .i64 re,.int .i64 vn,.int .i64 vd,.int .i64 JR,.int .i64 JU,.bool wa] 112);rw[<-Pf.out]at h;exact(aG Wa _ 15 _ _ _ h).trans rfl
    have Pg:Wa.cell? ⟨g,10,none⟩=some (.slice (some ⟨gm,0,none⟩) C.clauses.length C.clauses.length):=by
     have h:=hWa.cell 10;simp only[xI C j hj]at h;exact h
    obtain⟨FL,qY,FM,hcell',hfz'⟩:=hWa.nM (xJ hlt);simp only[Option.some.injEq,Addr.mk.injEq,true_and,and_true]at qY;subst qY;simp only[nJ]at hcell' hfz';obtain⟨m0,m1,m2,m3,m4⟩:=rw5 hcell' rfl;have z0:=hfz' (j*5);have z1:=hfz' (j*5+1);have z2:=hfz' (j*5+2);have z3:=hfz' (j*5+3);have z4:=hfz' (j*5+4);have hne:g≠gm:=hWa.JE;have hne2:wr.heap.size≠gm:=by have:=HW.out.marks.lt rfl;omega
    clear hcell' hfz' x0 x1 x2 x3 x4 x5 x6 x7 x8 x9 x10 x11 x12 x13 x14 x15;have hset:=hWa.KI (xJ hlt) 0 0 0 (-1) false;simp only[nJ]at hset;have ZE:=ah hset;clear hset hWa;have HSU:=ah (Lf HK.out);have HGT:Hid ((List.set (jk C j) j ⟨0,0,0, -1,false⟩)[j]?=some ⟨0,0,0, -1,false⟩):=qP (xJ hlt) _;clear hb hkb FM;cases wa with
    |false=>
     go_wp2
     go_roundw
     case rel=>exact⟨j+1,by omega,by go_num,by
      show aJ _ _ _ _ _ _ _ _ _ _;rw[HSU.out];exact ZE.out⟩
     case measure=>simp[intOf];omega
    |true=>
     go_wp2
     go_roundw
     case rel=>exact⟨j+1,by omega,by go_num,by
      show aJ _ _ _ _ _ _ _ _ _ _;rw[HSU.out];have h:=ZE.out.fU (i:=j) (j:=0) (u:=.int .i64 5) (m':=⟨5,0,0, -1,false⟩) HGT.out (by omega) rfl;simp only[nJ,jW,List.set_set]at h;exact h⟩
     case measure=>simp[intOf];omega
   .obtain rfl:j=C.clauses.length:=by omega
    have HST:=ah (yB HW.out (xI C _ (bH _)) HN.out.hin HN.out.hro);go_wp2_with (go_at_call 67;refine HST.out.mono ?_;rintro e zc ⟨rfl,hz1,hz2⟩;refine Hid.out ?_);refine ah ?_;generalize hs2:ak.mk 0 C.aj (List.replicate C.acts.length false) (C.begin C.aj (jk C C.clauses.length))=s2 at hz1;have HS2:=ah hs2;clear hs2;have n7:zc.cell? ⟨g,7,none⟩=some (.int .i64 s2.day):=hz1.cell 7;have n8:zc.cell? ⟨g,8,none⟩=some (.slice (some ⟨gh,0,none⟩) s2.aj.length hcp):=hz1.cell 8;have n9:zc.cell? ⟨g,9,none⟩=some (.slice (some ⟨gu,0,none⟩) s2.used.length C.acts.length):=hz1.cell 9;have n10:zc.cell? ⟨g,10,none⟩=some (.slice (some ⟨gm,0,none⟩) s2.marks.length C.clauses.length):=hz1.cell 10;have t0:=((aY hz1.below).1 (w.heap.size+1) 0 (by omega)).trans Xu;have u0:=((aY hz1.below).2 (w.heap.size+1) 0 (by omega)).trans e0;have t1:=((aY hz1.below).1 (w.heap.size+1) 1 (by omega)).trans Uo;have u1:=((aY hz1.below).2 (w.heap.size+1) 1 (by omega)).trans e1;have t2:=((aY hz1.below).1 (w.heap.size+1) 2 (by omega)).trans Uq;have u2:=((aY hz1.below).2 (w.heap.size+1) 2 (by omega)).trans e2;have t3:=((aY hz1.below).1 (w.heap.size+1) 3 (by omega)).trans Ur;have u3:=((aY hz1.below).2 (w.heap.size+1) 3 (by omega)).trans e3;have HZ:=ah hz1;clear hz1;go_wp2;obtain⟨Wf,lW⟩:∃Wf,Hid (Wf=(((zc.setCell ⟨w.heap.size+1,0,none⟩ (.int .i64 s2.day)).setCell ⟨w.heap.size+1,1,none⟩ (.slice (some ⟨gh,0,none⟩) s2.aj.length hcp)).setCell ⟨w.heap.size+1,2,none⟩ (.slice (some ⟨gu,0,none⟩) s2.used.length C.acts.length)).setCell ⟨w.heap.size+1,3,none⟩ (.slice (some ⟨gm,0,none⟩) s2.marks.length C.clauses.length)):=⟨_,rfl⟩;rw[<-lW.out];obtain⟨d0,d1,d2,d3,yI⟩:=nk t0 t1 t2 t3 lW.out;refine bodyPost_ret (v:=.tuple #[.agg #[.int .i64 s2.day,.slice (some ⟨gh,0,none⟩) s2.aj.length hcp,.slice (some ⟨gu,0,none⟩) s2.used.length C.acts.length,.slice (some ⟨gm,0,none⟩) s2.marks.length C.clauses.length],.int .i64 0]) (by simp[results,Tryz.results38,go_sem,d0,d1,d2,d3]) rfl ⟨?_,.inl ⟨by rw[q1];rfl,(⟨⟨some ⟨gh,0,none⟩,hcp⟩,⟨some ⟨gu,0,none⟩,C.acts.length⟩,⟨some ⟨gm,0,none⟩,C.clauses.length⟩⟩:TV),?_,?_,lH (bF mE.out.size HZ.out.newH),lH (bF mE.out.size HZ.out.zL),lH (bF mE.out.size HZ.out.uq)⟩⟩
    .exact(mE.out.trans (HZ.out.below.mono mE.out.size)).trans (yI.below (by have h1:=mE.out.size;have h2:=HZ.out.below.size;omega) (λk hk=>by omega))
    .rw[show C.first=s2 by rw[<-HS2.out,D7];rfl]
     rfl
    .rw[show C.first=s2 by rw[<-HS2.out,D7];rfl]
     exact HZ.out.Ld yI (λk hk=>by omega)
end Go.Proofs.YtpmdedcnbockhaaGreatDoor

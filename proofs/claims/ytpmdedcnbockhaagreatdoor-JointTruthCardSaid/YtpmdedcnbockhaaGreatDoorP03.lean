/-
  Sys1; Sys2; Sys3; Prj1; Sys4
-/
import Derived.Test.YtpmdedcnbockhaaGreatDoorP02
set_option maxRecDepth 100000
set_option maxHeartbeats 8000000
namespace Go.Proofs.YtpmdedcnbockhaaGreatDoor
section
open Go.RowKit
def wK(C:au)(ki ne pa:Int)(wa:Bool)(ml mg mb:Int)(mp:Bool):Bool:=(cond (wa||(decide (ml<1)||(mp&&(pa== -1)))) false (cond ((!(mg==0))&&((!(ki==1))||(decide (mg<0)||decide (ne<=mg)))) false (cond (ki==4) (mb== -1) (decide (0<=mb)&&decide (mb<C.aF)))))
theorem Kz(v:CV)(C:au)(ki ro ac ne:Int)(st:SV)(sl:Nat)(af gr:Int)(bu fi:Bool)(pa re vn vd un tg:Int)(wa:Bool)(ms ml mg mb:Int)(mp:Bool)(w:World):Calls Tryz.prog 143 #[v.val C,.agg #[.int .i64 ki,.int .i64 ro,.int .i64 ac,.int .i64 ne,.slice st.A sl st.c,.int .i64 af,.int .i64 gr,.bool bu,.bool fi,.int .i64 pa,.int .i64 re,.int .i64 vn,.int .i64 vd,.int .i64 un,.int .i64 tg,.bool wa],.agg #[.int .i64 ms,.int .i64 ml,.int .i64 mg,.int .i64 mb,.bool mp]] w (dx (.bool (wK C ki ne pa wa ml mg mb mp)) w):=by
 obtain⟨⟨dF,dG⟩,⟨dH,dK⟩,⟨dV,dn⟩,⟨dQ,dh⟩,⟨dz,dB⟩⟩:=v;simp only[CV.val,CV.cells];rw[iJ (wK C ki ne pa wa ml mg mb mp)];generalize hE:cond (wK C ki ne pa wa ml mg mb mp) true false=E;simp only[wK,Me]at hE;go_enter Tryz.func143,Tryz.ntmps143;go_upto_region 1 with(fail)
 generalize hW0:World.alloc _ _=W0;obtain⟨HB,hh0,g_,wu⟩:=bx3 hW0;clear hW0;obtain⟨jA,jB,jK,j4,j5,kV,lT⟩:=Fg hh0;clear hh0;obtain⟨o_,qy,rQ,vX,VR,Y4,abh,aew,aex,aey,aaw,aax,aay,aaz,aaA,aaB⟩:=Y0 g_;clear g_;obtain⟨KA,KC,KD,KE,aez⟩:=kc5 wu;clear wu;change Code.wp _ _ _ _ (Bl.val (⟨W0,aD _ _⟩:Bl W0));generalize(⟨W0,aD _ _⟩:Bl W0)=s0;repeat' (first|(replace hE:=uh hE (by assumption))|(replace hE:=uj hE (by assumption))|(replace hE:=l7 hE;rcases hE with⟨q,q',hE⟩|⟨q,q',hE⟩)|(replace hE:=jo hE;rcases hE with⟨q,hE⟩|⟨q,hE⟩)|fail)
 all_goals
  subst hE;go_wp2_with (first|fail);first
   |(go_ret;exact⟨rfl,ay HB.out (Bl.prop _)⟩)
   |(refine aI (by kernel_rfl) (by kernel_rfl) ?_;(repeat(go_big_quiet_step (first|fail)));refine aS ?_;rintro _ ⟨zq,rfl⟩;go_wp2;go_ret;exact⟨rfl,ay HB.out (Bl.prop _)⟩)
def KF(ms ml mg mb:Int)(mp:Bool):Bool:=(ms==0)&&((ml==0)&&((mg==0)&&((mb== -1)&& !mp)))
theorem IY(w:World)(ms ml mg mb:Int)(mp:Bool):(binOp .eql 51 (.agg #[.int .i64 ms,.int .i64 ml,.int .i64 mg,.int .i64 mb,.bool mp]) (.agg #[.int .i64 0,.int .i64 0,.int .i64 0,.int .i64 (-1),.bool false])).run Tryz.prog w= .ok (.bool (KF ms ml mg mb mp)) w:=by
 rw[run_eql_struct];go_simp;unfold KF;by_cases h1:ms=0<;>by_cases h2:ml=0<;>by_cases h3:mg=0<;>by_cases h4:mb= -1<;>cases mp<;>simp[h1,h2,h3,h4]
def yu(C:au)(ki ne af gr pa:Int)(wa:Bool)(ms ml mg mb:Int)(mp:Bool):Bool:=(cond (ms==0) ((!wa)&&(KF ms ml mg mb mp)) (cond (ms==1) (decide (ml<=af)&&(wK C ki ne pa wa ml mg mb mp)) (cond (ms==2) ((ki==1)&&(decide (ml<=gr)&&(wK C ki ne pa wa ml mg mb mp))) (cond ((ms==3)||((ms==4)||(ms==5))) ((ml==0)&&(decide (0<=mg)&&(decide (mg<=9)&&(decide (-1<=mb)&&(decide (mb<C.aF)&&(!mp)))))) false))))
def au.uV(C:au)(k:aQ)(m:aC):Bool:=yu C k.kind k.need k.after k.kY k.pause k.uS m.status m.left m.got m.dP m.paused
theorem IZ(v:CV)(C:au)(i:Nat)(k:aQ)(m:aC)(w:World)(hC:bU w v C)(hk:C.clauses[i]?=some k):Calls Tryz.prog 105 #[v.val C,.int .i64 i,.agg #[.int .i64 m.status,.int .i64 m.left,.int .i64 m.got,.int .i64 m.dP,.bool m.paused]] w (dx (.bool (C.uV k m)) w):=by
 have hil:i<C.clauses.length:=(aZ.1 hk).1;obtain⟨b,off,⟨stA,Ac⟩,kI,hb,hcell,hst⟩:=hC.clause hk;obtain⟨⟨dF,dG⟩,⟨dH,dK⟩,⟨dV,dn⟩,⟨dQ,dh⟩,⟨dz,dB⟩⟩:=v;simp only at kI;subst kI;obtain⟨ki,ro,ac,ne,start,af,gr,bu,fi,pa,re,⟨vn,vd⟩,un,tg,wa⟩:=k;obtain⟨ms,ml,mg,mb,mp⟩:=m;obtain⟨c0,c1,c2,c3,c4,c5,c6,c7,c8,c9,c10,c11,c12,c13,c14,c15⟩:=Fh (hcell w (aD _ _)) rfl;clear hC hst hk hcell;simp only[CV.val,CV.cells];have heq:=λ(w:World)=>IY w ms ml mg mb mp;have HR:=ah (λ(W:World)=>Kz (⟨⟨dF,dG⟩,⟨dH,dK⟩,⟨dV,dn⟩,⟨some ⟨b,off,none⟩,dh⟩,⟨dz,dB⟩⟩:CV) C ki ro ac ne ⟨stA,Ac⟩ start.length af gr bu fi pa re vn vd un tg wa ms ml mg mb mp W);simp only[CV.val,CV.cells]at HR;have i0:(0:Int)<=(i:Int):=by omega
 have i1:(i:Int)<(C.clauses.length:Int):=by omega
 show Calls _ _ _ _ (dx (.bool (yu C ki ne af gr pa wa ms ml mg mb mp)) w);rw[iJ (yu C ki ne af gr pa wa ms ml mg mb mp)];generalize hE:cond (yu C ki ne af gr pa wa ms ml mg mb mp) true false=E;simp only[yu,Me]at hE;go_enter Tryz.func105,Tryz.ntmps105;go_upto_region 2 with(fail)
 generalize hW0:World.alloc _ _=W0;obtain⟨HB,hh0,g_,wu⟩:=bx3 hW0;clear hW0;obtain⟨jA,jB,jK,j4,j5,kV,lT⟩:=Fg hh0;clear hh0;obtain⟨o_,qy,rQ,vX,VR⟩:=kc5 g_;clear g_;obtain⟨KA,KC,KD,KE,aez,aic,aie,am8,am9,am_,akI,akJ,akK,akL,akM,akN⟩:=Y0 wu;clear wu;change Code.wp _ _ _ _ (Bl.val (⟨W0,aD _ _⟩:Bl W0));generalize(⟨W0,aD _ _⟩:Bl W0)=s0;clear c0 c1 c2 c3 c4 c5 c6 c7 c8 c9 c10 c11 c12 c13 c14 c15;repeat' (first|(replace hE:=uh hE (by assumption))|(replace hE:=uj hE (by assumption))|(replace hE:=l7 hE;rcases hE with⟨q,q',hE⟩|⟨q,q',hE⟩)|(replace hE:=jo hE;rcases hE with⟨q,hE⟩|⟨q,hE⟩)|fail)
 all_goals
  subst hE;go_wp2_with (first|(go_at_call 143;refine dJ (HR.out _) (by assumption) (λz=>?_)));first
   |(go_ret;exact⟨rfl,ay HB.out (Bl.prop _)⟩)
   |(refine aI (by kernel_rfl) (by kernel_rfl) ?_;(repeat(go_big_quiet_step (first|(go_at_call 143;exact Calls.bY (lit (HR.out _) (by assumption))))));refine aS ?_;rintro _ ⟨zq,rfl⟩;go_wp2;go_ret;exact⟨rfl,ay HB.out (Bl.prop _)⟩)
end
section
open Go.RowKit
def jC(is x:Int):Bool:=(cond (is==1) (!(x==0)) (cond (is==2) (x==3) (cond (is==3) (x==4) (cond (is==4) (x==5) false))))
def Ap(ms:List aC)(x:Int):Int:=((ms[x.toNat]?).map (·.status)).getD 0
def dS(ms:List aC)(c:iN):Bool:=jC c.is (Ap ms c.clause)
def kJ(ms:List aC)(l:List iN):Bool:=l.all (dS ms)
def j6(ms:List aC)(k:aQ)(m:aC):Bool:=(m.status==0)&&((!k.uS)&&kJ ms k.start)
theorem FC{ms:List aC}{l:List iN}{j:Nat}{x:iN}(hx:l[j]?=some x)(h:kJ ms (l.take j)=true)(h2:dS ms x=true):kJ ms (l.take (j+1))=true:=by
 obtain⟨hj,rfl⟩:=aZ.1 hx;unfold kJ at*;rw[List.take_succ_eq_append_getElem hj,List.all_append,h];simpa using h2
theorem lg{ms:List aC}{l:List iN}{j:Nat}{x:iN}(hx:l[j]?=some x)(h2:dS ms x=false):kJ ms l=false:=by
 cases e:kJ ms l with
 |false=>rfl
 |true=>
  unfold kJ at e;rw[fq.1 e x (cK hx)]at h2;cases h2
theorem aW.mark{w:World}{v:TV}{s:ak}(h:aW w v s){i:Nat}{m:aC}(hm:s.marks[i]?=some m):
 ∃b off,v.m.A=some ⟨b,off,none⟩/\b<w.heap.size/\∀(i:Nat)(m:aC),s.marks[i]?=some m->∀W,Below w.heap.size w W->∀j,j<5->W.cell? ⟨b,off+i*5+j,none⟩=m.cells[j]?:=by
 have hi:i<s.marks.length:=(aZ.1 hm).1;obtain⟨b,off,hA,hb,hc⟩:=h.marks.1.form (by omega) (by omega);refine⟨b,off,hA,hb,λi m hm W hW j hj=>?_⟩;have hi:i<s.marks.length:=(aZ.1 hm).1;rw[hW.cell (p:=⟨b,off+i*5+j,none⟩) hb,iM,hc _ (by omega)];exact bG _ 5 (λ_=>rfl) s.marks i j m hm hj
theorem JD(v:CV)(C:au)(tv:TV)(s:ak)(i:Nat)(k:aQ)(m:aC)(w:World)(hC:bU w v C)(hS:aW w tv s)(hk:C.clauses[i]?=some k)(hm:s.marks[i]?=some m)(hin:∀c∈k.start,0<=c.clause/\c.clause<s.marks.length):
 Calls Tryz.prog 104 #[v.val C,tv.val s,.int .i64 i] w (dx (.bool (j6 s.marks k m)) w):=by
 have hil:i<C.clauses.length:=(aZ.1 hk).1;have him:i<s.marks.length:=(aZ.1 hm).1;obtain⟨b,off,⟨stA,Ac⟩,kI,hb,hcell,hst⟩:=hC.clause hk;obtain⟨mb,eu,hM0,hmb,hmc⟩:=hS.mark hm;obtain⟨⟨hA,hcp⟩,⟨uA,Ad⟩,⟨aA,BX⟩,⟨kA,yt⟩,⟨oA,BZ⟩⟩:=v;obtain⟨⟨Tz,TB⟩,⟨TD,TF⟩,⟨smA,RO⟩⟩:=tv;simp only at kI hM0;subst kI hM0;have hmx:s.marks.length<=9223372036854775807:=by have h1:=hS.marks.2.2.1;have h2:=hS.marks.2.2.2;unfold maxLen at h2;omega
 have hsx:k.start.length<=9223372036854775807:=by have h1:=hst.2.2.1;have h2:=hst.2.2.2;unfold maxLen at h2;omega
 obtain⟨ki,ro,ac,ne,start,af,gr,bu,fi,pa,re,⟨vn,vd⟩,un,tg,wa⟩:=k;generalize hE:j6 s.marks ⟨ki,ro,ac,ne,start,af,gr,bu,fi,pa,re,⟨vn,vd⟩,un,tg,wa⟩ m=E;simp only[j6]at hE;have HE:=ah hE;clear hE;have HST:=ah hst;clear hst;have qB:=ah hin;clear hin;clear hC hS;simp only[CV.val,CV.cells,TV.val,TV.cells,ak.cells];have i0:(0:Int)<=(i:Int):=by omega
 have i1:(i:Int)<(C.clauses.length:Int):=by omega
 have i2:(i:Int)<(s.marks.length:Int):=by omega
 simp only at hsx;go_enter Tryz.func104,Tryz.ntmps104;go_upto_region 1 with(fail)
 generalize hW0:World.alloc _ _=W0;obtain⟨HB,hh0,g_⟩:=IQ hW0;have HW0:=ah hW0.symm;clear hW0;obtain⟨jA,jB,jK,j4,j5,kV,lT⟩:=Fg hh0;clear hh0;obtain⟨o_,qy,rQ,vX⟩:=kc4 g_;clear g_;change Code.wp _ _ _ _ (Bl.val (⟨W0,aD _ _⟩:Bl W0));generalize(⟨W0,aD _ _⟩:Bl W0)=s0;have c4:∀z:Bl W0,z.val.cell? ⟨b,off+i*16+4,none⟩=some (.slice stA start.length Ac):=λz=>hcell z.val (ay HB.out z.prop) 4 (by omega);have c15:∀z:Bl W0,z.val.cell? ⟨b,off+i*16+15,none⟩=some (.bool wa):=λz=>hcell z.val (ay HB.out z.prop) 15 (by omega);have m0:∀z:Bl W0,z.val.cell? ⟨mb,eu+i*5,none⟩=some (.int .i64 m.status):=λz=>hmc i m hm z.val (ay HB.out z.prop) 0 (by omega);have zJ:Hid (∀(x:Int)(z:Bl W0),0<=x->x<(s.marks.length:Int)->z.val.cell? ⟨mb,eu+x.toNat*5,none⟩=some (.int .i64 (Ap s.marks x))):=λx z h0 h1=>by
  obtain⟨a,ha⟩:∃a,s.marks[x.toNat]?=some a:=⟨s.marks[x.toNat]'(by omega),aT _⟩;have h:=hmc x.toNat a ha z.val (ay HB.out z.prop) 0 (by omega);rw[jW]at h;rw[h];simp[aC.cells,Ap,ha]
 clear hcell hmc;have HK:=ah hk;clear hk;have HM:=ah hm;clear hm;cases q1:(m.status==0)with
 |false=>
  have VY:(m.status !=0)=true:=by simpa using q1
  obtain rfl:E=false:=by rw[<-HE.out,q1];rfl
  go_wp2;go_ret;exact⟨rfl,ay HB.out (Bl.prop _)⟩
 |true=>
  have VY:(m.status !=0)=false:=by simpa using q1
  cases wa with
  |true=>
   obtain rfl:E=false:=by rw[<-HE.out,q1];rfl
   go_wp2;go_ret;exact⟨rfl,ay HB.out (Bl.prop _)⟩
  |false=>
   have uT:=ah q1;go_wp2
   go_loopg [33] start.length (λgk v33 wr=>∃(j:Nat)(z:Bl W0),gk=start.length - j/\j<=start.length/\v33= .int .i64 j/\wr=z.val/\Hid (kJ s.marks (start.take j)=true))
   case atStart=>exact⟨0,_,rfl,aV _,rfl,rfl,rfl⟩
   case round=>
    obtain⟨j,z,eH,hj,rfl,rfl,hpre⟩:=hrel;have iB:=ah eH;clear eH;by_cases hlt:j<start.length
    .obtain⟨⟨cl,is⟩,hx⟩:∃x,start[j]?=some x:=⟨start[j],aT hlt⟩
     obtain⟨b2,off2,hA2,hb2,hc2⟩:=(HST.out.below (by omega) (ay HB.out z.prop)).1.form (by omega) (by omega);try simp only at hA2
     subst hA2;have e0:z.val.cell? ⟨b2,off2+j*2,none⟩=some (.int .i64 cl):=by rw[hc2 _ (by omega)];exact bG iN.cells 2 (λ_=>rfl) start j 0 _ hx (by omega)
     have e1:z.val.cell? ⟨b2,off2+j*2+1,none⟩=some (.int .i64 is):=by rw[iM,hc2 _ (by omega)];exact bG iN.cells 2 (λ_=>rfl) start j 1 _ hx (by omega)
     clear hc2;obtain⟨cl0,cl1⟩:0<=cl/\cl<(s.marks.length:Int):=qB.out _ (cK hx);have e2:=zJ.out cl z cl0 cl1;have hw2:W0.heap.size=w.heap.size+1+1:=by rw[HW0.out];simp
     have hl0:w.heap.size<z.val.heap.size:=by have h1:=z.prop.size;omega
     have hl1:w.heap.size+1<z.val.heap.size:=by have h1:=z.prop.size;omega
     have hl2:mb<z.val.heap.size:=by have h1:=z.prop.size;omega
     clear hw2;have HX:=ah hx;clear hx;have j1:(j:Int)<(start.length:Int):=by omega
     generalize hxx:Ap s.marks cl=x at e2;have VZ:=ah hxx;clear hxx
     focus
      cases q1:(is==1)
      focus
       have abp:(is !=1)=true:=by simpa using q1
       cases q2:(is==2)
       focus
        have V7:(is !=2)=true:=by simpa using q2
        cases q3:(is==3)
        focus
         have V8:(is !=3)=true:=by simpa using q3
         cases q4:(is==4)
         focus
          have Px:(is !=4)=true:=by simpa using q4
          have hP:jC is x=false:=by unfold jC;rw[q1,q2,q3,q4];rfl
          have hch:dS s.marks ⟨cl,is⟩=false:=by unfold dS;rw[VZ.out];exact hP
          clear hP;obtain rfl:E=false:=by rw[<-HE.out,uT.out,lg HX.out hch];rfl
          clear hch;go_wp2;go_ret;exact⟨rfl,ay HB.out (aK z.prop _)⟩
         focus
          have Px:(is !=4)=false:=by simpa using q4
          cases q5:(x==5)
          focus
           have abq:(x !=5)=true:=by simpa using q5
           have hP:jC is x=false:=by unfold jC;rw[q1,q2,q3,q4,q5];rfl
           have hch:dS s.marks ⟨cl,is⟩=false:=by unfold dS;rw[VZ.out];exact hP
           clear hP;obtain rfl:E=false:=by rw[<-HE.out,uT.out,lg HX.out hch];rfl
           clear hch;go_wp2;go_ret;exact⟨rfl,ay HB.out (aK z.prop _)⟩
          focus
           have abq:(x !=5)=false:=by simpa using q5
           have hP:jC is x=true:=by unfold jC;rw[q1,q2,q3,q4,q5];rfl
           have hch:dS s.marks ⟨cl,is⟩=true:=by unfold dS;rw[VZ.out];exact hP
           clear hP;have HCH:=ah hch;clear hch
        rotate_left
        focus
         have V8:(is !=3)=false:=by simpa using q3
         cases q4:(x==4)
         focus
          have Px:(x !=4)=true:=by simpa using q4
          have hP:jC is x=false:=by unfold jC;rw[q1,q2,q3,q4];rfl
          have hch:dS s.marks ⟨cl,is⟩=false:=by unfold dS;rw[VZ.out];exact hP
          clear hP;obtain rfl:E=false:=by rw[<-HE.out,uT.out,lg HX.out hch];rfl
          clear hch;go_wp2;go_ret;exact⟨rfl,ay HB.out (aK z.prop _)⟩
         focus
          have Px:(x !=4)=false:=by simpa using q4
          have hP:jC is x=true:=by unfold jC;rw[q1,q2,q3,q4];rfl
          have hch:dS s.marks ⟨cl,is⟩=true:=by unfold dS;rw[VZ.out];exact hP
          clear hP;have HCH:=ah hch;clear hch
       rotate_left 2
       focus
        have V7:(is !=2)=false:=by simpa using q2
        cases q3:(x==3)
        focus
         have V8:(x !=3)=true:=by simpa using q3
         have hP:jC is x=false:=by unfold jC;rw[q1,q2,q3];rfl
         have hch:dS s.marks ⟨cl,is⟩=false:=by unfold dS;rw[VZ.out];exact hP
         clear hP;obtain rfl:E=false:=by rw[<-HE.out,uT.out,lg HX.out hch];rfl
         clear hch;go_wp2;go_ret;exact⟨rfl,ay HB.out (aK z.prop _)⟩
        focus
         have V8:(x !=3)=false:=by simpa using q3
         have hP:jC is x=true:=by unfold jC;rw[q1,q2,q3];rfl
         have hch:dS s.marks ⟨cl,is⟩=true:=by unfold dS;rw[VZ.out];exact hP
         clear hP;have HCH:=ah hch;clear hch
      rotate_left 3
      focus
       have abp:(is !=1)=false:=by simpa using q1
       cases q2:(x==0)
       focus
        have V7:(x !=0)=true:=by simpa using q2
        have hP:jC is x=true:=by unfold jC;rw[q1,q2];rfl
        have hch:dS s.marks ⟨cl,is⟩=true:=by unfold dS;rw[VZ.out];exact hP
        clear hP;have HCH:=ah hch;clear hch
       rotate_left
       focus
        have V7:(x !=0)=false:=by simpa using q2
        have hP:jC is x=false:=by unfold jC;rw[q1,q2];rfl
        have hch:dS s.marks ⟨cl,is⟩=false:=by unfold dS;rw[VZ.out];exact hP
        clear hP;obtain rfl:E=false:=by rw[<-HE.out,uT.out,lg HX.out hch];rfl
        clear hch;go_wp2;go_ret;exact⟨rfl,ay HB.out (aK z.prop _)⟩
      all_goals
       go_wp2
       go_roundg (start.length - (j+1))
       case measure=>rw[iB.out];omega
       case rel=>exact⟨j+1,⟨_,aK z.prop _⟩,rfl,by omega,by go_num,rfl,FC HX.out hpre.out HCH.out⟩
    .obtain rfl:j=start.length:=by omega
     have hcs:kJ s.marks start=true:=by have h:=hpre.out;rwa [Ak (bH _)]at h
     obtain rfl:E=true:=by rw[<-HE.out,uT.out,hcs];rfl
     clear hcs;go_wp2;go_ret;exact⟨rfl,ay HB.out (Bl.prop _)⟩
end
section
open Go.RowKit
def Md(C:au)(s:ak):Bool:=((!decide (s.day<0))&&((!decide (C.days<s.day))&&(((s.aj.length:Int)==(C.aj.length:Int))&&(((s.used.length:Int)==(C.acts.length:Int))&&((s.marks.length:Int)==(C.clauses.length:Int))))))
def sZ(C:au)(p:Int):Bool:=(!decide (p<0))&&(!decide (C.aF<=p))
def mM(C:au)(s:ak):Bool:=s.aj.all (sZ C)
def Aq(C:au)(s:ak):Bool:=(List.range s.used.length).all (λi=>match s.used[i]?,C.acts[i]? with|some u,some a=> !(u&&(a.kind==1))|_,_=>true)
def wL(C:au)(s:ak):Bool:=(List.range s.marks.length).all (λi=>match s.marks[i]?,C.clauses[i]? with|some m,some k=>C.uV k m&& !(j6 s.marks k m)|_,_=>true)
def au.fC(C:au)(s:ak):Bool:=C.valid&&(Md C s&&(mM C s&&(Aq C s&&wL C s)))
theorem Ar{C:au}{s:ak}{j:Nat}{x:Int}(hx:s.aj[j]?=some x)(h:sZ C x=false):mM C s=false:=by
 cases e:mM C s with
 |false=>rfl
 |true=>
  unfold mM at e;rw[fq.1 e x (cK hx)]at h;cases h
theorem KG{C:au}{s:ak}(h:∀(j:Nat)(x:Int),s.aj[j]?=some x->sZ C x=true):mM C s=true:=by
 unfold mM;rw[fq];intro x hx;obtain⟨j,hj⟩:=wF hx;exact h j x hj
theorem TG{C:au}{s:ak}{j:Nat}{a:iO}(hx:s.used[j]?=some true)(ha:C.acts[j]?=some a)(h:(a.kind==1)=true):Aq C s=false:=by
 cases e:Aq C s with
 |false=>rfl
 |true=>
  unfold Aq at e;have hj:j<s.used.length:=(aZ.1 hx).1;have:=fq.1 e j (by simpa using hj);simp only[hx,ha,h]at this;cases this
theorem TH{C:au}{s:ak}(h:∀(j:Nat)(u:Bool)(a:iO),s.used[j]?=some u->C.acts[j]?=some a->(u&&(a.kind==1))=false):Aq C s=true:=by
 unfold Aq;rw[fq];intro i _;cases e:s.used[i]? with
 |none=>rfl
 |some u=>
  cases e2:C.acts[i]? with
  |none=>rfl
  |some a=>simp only[h i u a e e2];rfl
theorem FD{C:au}{s:ak}{j:Nat}{m:aC}{k:aQ}(hm:s.marks[j]?=some m)(hk:C.clauses[j]?=some k)(h:(C.uV k m&& !(j6 s.marks k m))=false):wL C s=false:=by
 cases e:wL C s with
 |false=>rfl
 |true=>
  unfold wL at e;have hj:j<s.marks.length:=(aZ.1 hm).1;have:=fq.1 e j (by simpa using hj);simp only[hm,hk,h]at this;cases this
theorem Py{C:au}{s:ak}(h:∀(j:Nat)(m:aC)(k:aQ),s.marks[j]?=some m->C.clauses[j]?=some k->(C.uV k m&& !(j6 s.marks k m))=true):wL C s=true:=by
 unfold wL;rw[fq];intro i _;cases e:s.marks[i]? with
 |none=>rfl
 |some u=>
  cases e2:C.clauses[i]? with
  |none=>rfl
  |some a=>exact h i u a e e2
theorem MJ{C:au}(h:C.valid=true){i:Nat}{k:aQ}(hk:C.clauses[i]?=some k):∀c∈k.start,0<=c.clause/\c.clause<C.clauses.length:=by
 unfold au.valid at h;simp only[bM]at h;have h1:=Ky h.2.2 hk;unfold au.iY at h1;simp only[bM]at h1;have h2:=h1.2.1;unfold mK at h2;intro c hc;have h3:=fq.1 h2 c hc;simp only[sw,bM,iE,decide_eq_false_iff_not]at h3;omega
theorem wM(v:CV)(C:au)(tv:TV)(s:ak)(w:World)(hC:bU w v C)(hS:aW w tv s):Calls Tryz.prog 68 #[v.val C,tv.val s] w (dx (.bool (C.fC s)) w):=by
 obtain⟨⟨hA,hcp⟩,⟨uA,Ad⟩,⟨aA,BX⟩,⟨kA,yt⟩,⟨oA,BZ⟩⟩:=v;obtain⟨⟨Tz,TB⟩,⟨TD,TF⟩,⟨smA,RO⟩⟩:=tv;have hhx:s.aj.length<=9223372036854775807:=by have h1:=hS.aj.2.2.1;have h2:=hS.aj.2.2.2;unfold maxLen at h2;omega
 have YA:s.used.length<=9223372036854775807:=by have h1:=hS.used.2.2.1;have h2:=hS.used.2.2.2;unfold maxLen at h2;omega
 have hmx:s.marks.length<=9223372036854775807:=by have h1:=hS.marks.2.2.1;have h2:=hS.marks.2.2.2;unfold maxLen at h2;omega
 have HC:=ah hC;clear hC;have HS:=ah hS;clear hS;simp only[CV.val,CV.cells,TV.val,TV.cells,ak.cells];generalize hE:C.fC s=E;simp only[au.fC]at hE;have HE:=ah hE;clear hE;go_enter Tryz.func68,Tryz.ntmps68;go_upto_region 1 with(fail)
 generalize hW0:World.alloc _ _=W0;obtain⟨HB,hh0,g_⟩:=IQ hW0;have HW0:=ah hW0.symm;clear hW0;obtain⟨jA,jB,jK,j4,j5,kV,lT⟩:=Fg hh0;clear hh0;obtain⟨o_,qy,rQ,vX⟩:=kc4 g_;clear g_;change Code.wp _ _ _ _ (Bl.val (⟨W0,aD _ _⟩:Bl W0));generalize(⟨W0,aD _ _⟩:Bl W0)=s0;have hw2:W0.heap.size=w.heap.size+1+1:=by rw[HW0.out];simp
 have HW2:=ah hw2;clear hw2;have hcv:∀z:Bl W0,Calls Tryz.prog 31 #[.agg #[.int .i64 C.aF,.slice hA C.aj.length hcp,.slice uA C.units.length Ad,.slice aA C.acts.length BX,.slice kA C.clauses.length yt,.int .i64 C.days,.slice oA C.off.length BZ]] z.val (EM C.errno z.val):=λz=>uU (⟨⟨hA,hcp⟩,⟨uA,Ad⟩,⟨aA,BX⟩,⟨kA,yt⟩,⟨oA,BZ⟩⟩:CV) C z.val (HC.out.below (ay HB.out z.prop));have TI:=ah hcv;clear hcv;go_wp2_with fail;refine(TI.out _).mono ?_;rintro e z ⟨n,rfl,hz⟩;obtain⟨z1,rfl⟩:=Bl.on hz;clear hz;cases hv:C.valid with
 |false=>
  obtain⟨f1,f2⟩:=au.MI hv;obtain rfl:E=false:=by rw[<-HE.out,hv];rfl
  clear hv;go_wp2;go_ret;exact⟨rfl,ay HB.out (Bl.prop _)⟩
 |true=>
  rw[au.JC hv];have HV:=ah hv;clear hv;cases q1:decide (s.day<0)with
  |false=>
   cases q2:decide (C.days<s.day)with
   |false=>
    cases q3:((s.aj.length:Int)==(C.aj.length:Int))with
    |false=>
     have V8:((s.aj.length:Int)!=(C.aj.length:Int))=true:=by simpa using q3
     have hP:Md C s=false:=by unfold Md;rw[q1,q2,q3];rfl
     obtain rfl:E=false:=by rw[<-HE.out,HV.out,hP];rfl
     clear hP;go_wp2;go_ret;exact⟨rfl,ay HB.out (Bl.prop _)⟩
    |true=>
     have V8:((s.aj.length:Int)!=(C.aj.length:Int))=false:=by simpa using q3
     cases q4:((s.used.length:Int)==(C.acts.length:Int))with
     |false=>
      have Px:((s.used.length:Int)!=(C.acts.length:Int))=true:=by simpa using q4
      have hP:Md C s=false:=by unfold Md;rw[q1,q2,q3,q4];rfl
      obtain rfl:E=false:=by rw[<-HE.out,HV.out,hP];rfl
      clear hP;go_wp2;go_ret;exact⟨rfl,ay HB.out (Bl.prop _)⟩
     |true=>
      have Px:((s.used.length:Int)!=(C.acts.length:Int))=false:=by simpa using q4
      cases q5:((s.marks.length:Int)==(C.clauses.length:Int))with
      |false=>
       have abq:((s.marks.length:Int)!=(C.clauses.length:Int))=true:=by simpa using q5
       have hP:Md C s=false:=by unfold Md;rw[q1,q2,q3,q4,q5];rfl
       obtain rfl:E=false:=by rw[<-HE.out,HV.out,hP];rfl
       clear hP;go_wp2;go_ret;exact⟨rfl,ay HB.out (Bl.prop _)⟩
      |true=>
       have abq:((s.marks.length:Int)!=(C.clauses.length:Int))=false:=by simpa using q5
       have hP:Md C s=true:=by unfold Md;rw[q1,q2,q3,q4,q5];rfl
       have mE:=ah hP;clear hP;have hum:s.used.length=C.acts.length:=by have h:=(by assumption:((s.used.length:Int)==(C.acts.length:Int))=true);simp at h;omega
       have hmm:s.marks.length=C.clauses.length:=by have h:=(by assumption:((s.marks.length:Int)==(C.clauses.length:Int))=true);simp at h;omega
       have HUM:=ah hum;clear hum;have I4:=ah hmm;clear hmm;go_wp2
       go_loopg [59] s.aj.length (λgk v59 wr=>∃(j:Nat),gk=s.aj.length - j/\j<=s.aj.length/\v59= .int .i64 j/\z1.val=wr/\Hid (∀(i:Nat)(x:Int),i<j->s.aj[i]?=some x->sZ C x=true))
       case atStart=>exact⟨0,rfl,aV _,rfl,rfl,λi x h=>by omega⟩
       case round=>
        obtain⟨j,eH,hj,rfl,rfl,hpre⟩:=hrel;have iB:=ah eH;clear eH;by_cases hlt:j<s.aj.length
        .obtain⟨b,off,kI,hbl,hcell⟩:=(HS.out.below (ay HB.out z1.prop)).aj.1.form (by omega) (by omega)
         simp only at kI;subst kI;obtain⟨d,hd⟩:∃d,s.aj[j]?=some d:=⟨s.aj[j],aT hlt⟩;have kx:z1.val.cell? ⟨b,off+j,none⟩=some (.int .i64 d):=by rw[hcell _ (by omega)];simp[aR,hd]
         clear hcell;have HD:=ah hd;clear hd;have j1:(j:Int)<(s.aj.length:Int):=by omega
         cases p1:decide (d<0)with
         |true=>
          obtain rfl:E=false:=by rw[<-HE.out,HV.out,mE.out,Ar HD.out (by unfold sZ;rw[p1];rfl)];rfl
          go_wp2;go_ret;exact⟨rfl,ay HB.out (Bl.prop _)⟩
         |false=>
          cases p2:decide (C.aF<=d)with
          |true=>
           obtain rfl:E=false:=by rw[<-HE.out,HV.out,mE.out,Ar HD.out (by unfold sZ;rw[p1,p2];rfl)];rfl
           go_wp2;go_ret;exact⟨rfl,ay HB.out (Bl.prop _)⟩
          |false=>
           have Fy:Hid (sZ C d=true):=by show _=_;unfold sZ;rw[p1,p2];rfl
           go_wp2
           go_roundg (s.aj.length - (j+1))
           case measure=>rw[iB.out];omega
           case rel=>exact⟨j+1,rfl,by omega,by go_num,rfl,λi x hi hx=>by
            by_cases e:i=j
            .subst e
             rw[HD.out]at hx;injection hx with hx
             subst hx;exact Fy.out
            .exact hpre.out i x (by omega) hx⟩
        .obtain rfl:j=s.aj.length:=by omega
         have HSH:Hid (mM C s=true):=KG (λi x hx=>hpre.out i x (aZ.1 hx).1 hx);go_wp2
         go_loopg [75] s.used.length (λgk v75 wr=>∃(j:Nat),gk=s.used.length - j/\j<=s.used.length/\v75= .int .i64 j/\z1.val=wr/\Hid (∀(i:Nat)(u:Bool)(a:iO),i<j->s.used[i]?=some u->C.acts[i]?=some a->(u&&(a.kind==1))=false))
         case atStart=>exact⟨0,rfl,aV _,rfl,rfl,λi u a h=>by omega⟩
         case round=>
          obtain⟨j,eH,hj,rfl,rfl,JB⟩:=hrel;have Et:=ah eH;clear eH;by_cases hlt:j<s.used.length
          .obtain⟨b,off,kI,hbl,hcell⟩:=(HS.out.below (ay HB.out z1.prop)).used.1.form (by omega) (by omega)
           simp only at kI;subst kI;obtain⟨d,hd⟩:∃d,s.used[j]?=some d:=⟨s.used[j],aT hlt⟩;obtain⟨a,ha⟩:∃a,C.acts[j]?=some a:=⟨C.acts[j]'(by rw[<-HUM.out];exact hlt),aT _⟩;obtain⟨b2,off2,hA1,hb2,hcell2⟩:=HC.out.act ha;simp only at hA1;subst hA1;have kx:z1.val.cell? ⟨b,off+j,none⟩=some (.bool d):=by rw[hcell _ (by omega)];simp[iG,hd]
           have ky:z1.val.cell? ⟨b2,off2+j*7,none⟩=some (.int .i64 a.kind):=hcell2 z1.val (ay HB.out z1.prop) 0 (by omega);clear hcell hcell2;have HD:=ah hd;clear hd;have HA:=ah ha;clear ha;have j1:(j:Int)<(s.used.length:Int):=by omega
           have j2:(j:Int)<(C.acts.length:Int):=by have h:=HUM.out;omega
           cases d with
           |false=>
            go_wp2
            go_roundg (s.used.length - (j+1))
            case measure=>rw[Et.out];omega
            case rel=>exact⟨j+1,rfl,by omega,by go_num,rfl,λi u a hi hx hy=>by
             by_cases e:i=j
             .subst e
              rw[HD.out]at hx;injection hx with hx
              subst hx;rfl
             .exact JB.out i u a (by omega) hx hy⟩
           |true=>
            cases p1:(a.kind==1)with
            |true=>
             obtain rfl:E=false:=by rw[<-HE.out,HV.out,mE.out,HSH.out,TG HD.out HA.out p1];rfl
             go_wp2;go_ret;exact⟨rfl,ay HB.out (Bl.prop _)⟩
            |false=>
             go_wp2
             go_roundg (s.used.length - (j+1))
             case measure=>rw[Et.out];omega
             case rel=>exact⟨j+1,rfl,by omega,by go_num,rfl,λi u a' hi hx hy=>by
              by_cases e:i=j
              .subst e
               rw[HA.out]at hy;injection hy with hy
               subst hy;rw[p1];cases u<;>rfl
              .exact JB.out i u a' (by omega) hx hy⟩
          .obtain rfl:j=s.used.length:=by omega
           have HSU:Hid (Aq C s=true):=TH (λi u a hx hy=>JB.out i u a (aZ.1 hx).1 hx hy);go_wp2
           go_loopg [94] s.marks.length (λgk v94 wr=>∃(j:Nat)(z:Bl W0),gk=s.marks.length - j/\j<=s.marks.length/\v94= .int .i64 j/\wr=z.val/\Hid (∀(i:Nat)(m:aC)(k:aQ),i<j->s.marks[i]?=some m->C.clauses[i]?=some k->(C.uV k m&& !(j6 s.marks k m))=true))
           case atStart=>exact⟨0,_,rfl,aV _,rfl,rfl,λi m k h=>by omega⟩
           case round=>
            obtain⟨j,z,eH,hj,rfl,rfl,aaC⟩:=hrel;have aii:=ah eH;clear eH;by_cases hlt:j<s.marks.length
            .obtain⟨m,hm⟩:∃m,s.marks[j]?=some m:=⟨s.marks[j],aT hlt⟩
             obtain⟨k,hk⟩:∃k,C.clauses[j]?=some k:=⟨C.clauses[j]'(by rw[<-I4.out];exact hlt),aT _⟩;have hc1:∀y:Bl W0,Calls Tryz.prog 105 #[.agg #[.int .i64 C.aF,.slice hA C.aj.length hcp,.slice uA C.units.length Ad,.slice aA C.acts.length BX,.slice kA C.clauses.length yt,.int .i64 C.days,.slice oA C.off.length BZ],.int .i64 j,.agg #[.int .i64 m.status,.int .i64 m.left,.int .i64 m.got,.int .i64 m.dP,.bool m.paused]] y.val (dx (.bool (C.uV k m)) y.val):=λy=>IZ (⟨⟨hA,hcp⟩,⟨uA,Ad⟩,⟨aA,BX⟩,⟨kA,yt⟩,⟨oA,BZ⟩⟩:CV) C j k m y.val (HC.out.below (ay HB.out y.prop)) hk;have hc2:∀y:Bl W0,Calls Tryz.prog 104 #[.agg #[.int .i64 C.aF,.slice hA C.aj.length hcp,.slice uA C.units.length Ad,.slice aA C.acts.length BX,.slice kA C.clauses.length yt,.int .i64 C.days,.slice oA C.off.length BZ],.agg #[.int .i64 s.day,.slice Tz s.aj.length TB,.slice TD s.used.length TF,.slice smA s.marks.length RO],.int .i64 j] y.val (dx (.bool (j6 s.marks k m)) y.val):=λy=>JD (⟨⟨hA,hcp⟩,⟨uA,Ad⟩,⟨aA,BX⟩,⟨kA,yt⟩,⟨oA,BZ⟩⟩:CV) C (⟨⟨Tz,TB⟩,⟨TD,TF⟩,⟨smA,RO⟩⟩:TV) s j k m y.val (HC.out.below (ay HB.out y.prop)) (HS.out.below (ay HB.out y.prop)) hk hm (λc hc=>by rw[I4.out];exact MJ HV.out hk c hc);obtain⟨b,off,kI,hbl,hcell⟩:=HS.out.mark hm;simp only at kI;subst kI;have hmc:=λy:Bl W0=>hcell j m hm y.val (ay HB.out y.prop);clear hcell;have HM:=ah hm;clear hm;have HK:=ah hk;clear hk;generalize aeA:C.uV k m=v1 at hc1;generalize aeB:j6 s.marks k m=v2 at hc2;have HV1:=ah aeA;clear aeA;have HV2:=ah aeB;clear aeB;obtain⟨ms,ml,mg,mb,mp⟩:=m;have e0:∀y:Bl W0,y.val.cell? ⟨b,off+j*5,none⟩=some (.int .i64 ms):=λy=>hmc y 0 (by omega);have e1:∀y:Bl W0,y.val.cell? ⟨b,off+j*5+1,none⟩=some (.int .i64 ml):=λy=>hmc y 1 (by omega);have e2:∀y:Bl W0,y.val.cell? ⟨b,off+j*5+2,none⟩=some (.int .i64 mg):=λy=>hmc y 2 (by omega);have e3:∀y:Bl W0,y.val.cell? ⟨b,off+j*5+3,none⟩=some (.int .i64 mb):=λy=>hmc y 3 (by omega);have e4:∀y:Bl W0,y.val.cell? ⟨b,off+j*5+4,none⟩=some (.bool mp):=λy=>hmc y 4 (by omega);clear hmc;simp only at hc1;have zK:=ah hc1;clear hc1;have KH:=ah hc2;clear hc2;have j0:(0:Int)<=(j:Int):=by omega
             have j1:(j:Int)<(s.marks.length:Int):=by omega
             cases v1 with
             |false=>
              obtain rfl:E=false:=by rw[<-HE.out,HV.out,mE.out,HSH.out,HSU.out,FD HM.out HK.out (by rw[HV1.out];rfl)];rfl
              go_wp2;refine aI (by kernel_rfl) (by kernel_rfl) ?_;(repeat(go_big_quiet_step ((first|(go_at_call 105;exact Calls.bY (zK.out _))|(go_at_call 104;exact Calls.bY (KH.out _))))));refine aS ?_;rintro _ ⟨zq,rfl⟩;go_wp2;go_ret;exact⟨rfl,ay HB.out (Bl.prop _)⟩
             |true=>
              cases v2 with
              |true=>
               obtain rfl:E=false:=by rw[<-HE.out,HV.out,mE.out,HSH.out,HSU.out,FD HM.out HK.out (by rw[HV1.out,HV2.out];rfl)];rfl
               go_wp2;refine aI (by kernel_rfl) (by kernel_rfl) ?_;(repeat(go_big_quiet_step ((first|(go_at_call 105;exact Calls.bY (zK.out _))|(go_at_call 104;exact Calls.bY (KH.out _))))));refine aS ?_;rintro _ ⟨zq,rfl⟩;go_wp2;go_ret;exact⟨rfl,ay HB.out (Bl.prop _)⟩
              |false=>
               go_wp2;refine aI (by kernel_rfl) (by kernel_rfl) ?_;(repeat(go_big_quiet_step ((first|(go_at_call 105;exact Calls.bY (zK.out _))|(go_at_call 104;exact Calls.bY (KH.out _))))));refine aS ?_;rintro _ ⟨zq,rfl⟩;go_wp2
               go_roundg (s.marks.length - (j+1))
               case measure=>rw[aii.out];omega
               case rel=>exact⟨j+1,zq,rfl,by omega,by go_num,rfl,λi m' k' hi hx hy=>by
                by_cases e:i=j
                .subst e
                 rw[HM.out]at hx;rw[HK.out]at hy;injection hx with hx
                 injection hy with hy
                 subst hx hy;rw[HV1.out,HV2.out];rfl
                .exact aaC.out i m' k' (by omega) hx hy⟩
            .obtain rfl:j=s.marks.length:=by omega
             obtain rfl:E=true:=by rw[<-HE.out,HV.out,mE.out,HSH.out,HSU.out,Py (λi m k hx hy=>aaC.out i m k (aZ.1 hx).1 hx hy)];rfl
             go_wp2;go_ret;exact⟨rfl,ay HB.out (Bl.prop _)⟩
   |true=>
    have hP:Md C s=false:=by unfold Md;rw[q1,q2];rfl
    obtain rfl:E=false:=by rw[<-HE.out,HV.out,hP];rfl
    clear hP;go_wp2;go_ret;exact⟨rfl,ay HB.out (Bl.prop _)⟩
  |true=>
   have hP:Md C s=false:=by unfold Md;rw[q1];rfl
   obtain rfl:E=false:=by rw[<-HE.out,HV.out,hP];rfl
   clear hP;go_wp2;go_ret;exact⟨rfl,ay HB.out (Bl.prop _)⟩
end
section
open Go.RowKit
def fu(l:List Int)(x:Int):Int:=(l[x.toNat]?).getD 0
def sF(hs:List Int)(ki ro tg pt:Int):Bool:=(cond ((!(ki==1))||((tg== -1)||(fu hs tg==pt))) true ((!(ro== -1))&&(fu hs ro==pt)))
def zi(s:ak)(a:iO)(p:Int):Bool:=sF s.aj a.kind a.role a.tgt p
theorem MK(v:CV)(C:au)(tv:TV)(s:ak)(pt:Int)(i:Nat)(a:iO)(w:World)(hC:bU w v C)(hS:aW w tv s)(ha:C.acts[i]?=some a)(hpos:0<s.aj.length)
 (hto:(a.kind==1)=true->(a.tgt== -1)=false->0<=a.tgt/\a.tgt<s.aj.length)(hro:(a.role== -1)=false->0<=a.role/\a.role<s.aj.length):
 Calls Tryz.prog 46 #[v.val C,tv.val s,.int .i64 pt,.int .i64 i] w (dx (.bool (zi s a pt)) w):=by
 have hil:i<C.acts.length:=(aZ.1 ha).1;obtain⟨b,off,kI,hbl,hcell⟩:=hC.act ha;obtain⟨hb,hoff,hH0,hhb,Y8⟩:=hS.aj.1.form hpos (by omega);obtain⟨⟨hA,hcp⟩,⟨uA,Ad⟩,⟨aA,BX⟩,⟨kA,yt⟩,⟨oA,BZ⟩⟩:=v;obtain⟨⟨Tz,TB⟩,⟨TD,TF⟩,⟨smA,RO⟩⟩:=tv;simp only at kI hH0;subst kI hH0;have hhx:s.aj.length<=9223372036854775807:=by have h1:=hS.aj.2.2.1;have h2:=hS.aj.2.2.2;unfold maxLen at h2;omega
 obtain⟨ki,ro,gi,tg,un,⟨ln,ld⟩⟩:=a;generalize hE:zi s ⟨ki,ro,gi,tg,un,⟨ln,ld⟩⟩ pt=E;simp only[zi]at hE;have HE:=ah hE;clear hE;simp only at hto hro;have HTO:=ah hto;clear hto;have qW:=ah hro;clear hro;clear hC hS ha;simp only[CV.val,CV.cells,TV.val,TV.cells,ak.cells];have i0:(0:Int)<=(i:Int):=by omega
 have i1:(i:Int)<(C.acts.length:Int):=by omega
 obtain⟨c0,c1,c2,c3,c4,c5,c6⟩:=rw7 (hcell w (aD _ _)) rfl;clear hcell;go_enter Tryz.func46,Tryz.ntmps46;go_upto_region 2 with(fail)
 generalize hW0:World.alloc _ _=W0;obtain⟨HB,hh0,g_,wu⟩:=bx3 hW0;clear hW0;obtain⟨jA,jB,jK,j4,j5,kV,lT⟩:=Fg hh0;clear hh0;obtain⟨o_,qy,rQ,vX⟩:=kc4 g_;clear g_;obtain⟨KA,KC,KD,KE,aez,aic,aie⟩:=Fg wu;clear wu;change Code.wp _ _ _ _ (Bl.val (⟨W0,aD _ _⟩:Bl W0));generalize(⟨W0,aD _ _⟩:Bl W0)=s0;clear c0 c1 c2 c3 c4 c5 c6;have HHC:Hid (∀x:Int,0<=x->x<(s.aj.length:Int)->∀z:Bl W0,z.val.cell? ⟨hb,hoff+x.toNat,none⟩=some (.int .i64 (fu s.aj x))):=λx h0 h1 z=>by
  have hx:x.toNat<s.aj.length:=by omega
  rw[(ay HB.out z.prop).cell (p:=⟨hb,hoff+x.toNat,none⟩) hhb,Y8 _ (by omega)];simp[aR,fu,hx]
 clear Y8;cases q1:(ki==1)with
 |false=>
  have abp:(ki !=1)=true:=by simpa using q1
  have hP:sF s.aj ki ro tg pt=true:=by unfold sF;rw[q1];rfl
  obtain rfl:E=true:=by rw[<-HE.out,hP]
  clear hP;go_wp2;go_ret;exact⟨rfl,ay HB.out (Bl.prop _)⟩
 |true=>
  have abp:(ki !=1)=false:=by simpa using q1
  cases q2:(tg== -1)with
  |false=>
   have V7:(tg != -1)=true:=by simpa using q2
   obtain⟨tg0,tg1⟩:=HTO.out (by assumption) (by assumption);have anh:=HHC.out tg tg0 tg1;cases q3:(fu s.aj tg==pt)with
   |false=>
    cases q4:(ro== -1)with
    |false=>
     have Px:(ro != -1)=true:=by simpa using q4
     obtain⟨ro0,ro1⟩:=qW.out (by assumption);have ank:=HHC.out ro ro0 ro1;cases q5:(fu s.aj ro==pt)with
     |false=>
      have hP:sF s.aj ki ro tg pt=false:=by unfold sF;rw[q1,q2,q3,q4,q5];rfl
      obtain rfl:E=false:=by rw[<-HE.out,hP]
      clear hP;go_wp2;go_ret;exact⟨rfl,ay HB.out (Bl.prop _)⟩
     |true=>
      have hP:sF s.aj ki ro tg pt=true:=by unfold sF;rw[q1,q2,q3,q4,q5];rfl
      obtain rfl:E=true:=by rw[<-HE.out,hP]
      clear hP;go_wp2;go_ret;exact⟨rfl,ay HB.out (Bl.prop _)⟩
    |true=>
     have Px:(ro != -1)=false:=by simpa using q4
     have hP:sF s.aj ki ro tg pt=false:=by unfold sF;rw[q1,q2,q3,q4];rfl
     obtain rfl:E=false:=by rw[<-HE.out,hP]
     clear hP;go_wp2;go_ret;exact⟨rfl,ay HB.out (Bl.prop _)⟩
   |true=>
    have hP:sF s.aj ki ro tg pt=true:=by unfold sF;rw[q1,q2,q3];rfl
    obtain rfl:E=true:=by rw[<-HE.out,hP]
    clear hP;go_wp2;go_ret;exact⟨rfl,ay HB.out (Bl.prop _)⟩
  |true=>
   have V7:(tg != -1)=false:=by simpa using q2
   have hP:sF s.aj ki ro tg pt=true:=by unfold sF;rw[q1,q2];rfl
   obtain rfl:E=true:=by rw[<-HE.out,hP]
   clear hP;go_wp2;go_ret;exact⟨rfl,ay HB.out (Bl.prop _)⟩
end
open Go.RowKit
theorem ML{C:au}{s:ak}(h:C.fC s=true):s.aj.length=C.aj.length/\s.used.length=C.acts.length/\s.marks.length=C.clauses.length:=by
 unfold au.fC at h;simp only[bM]at h;have h1:=h.2.1;simp only[Md,bM,beq_iff_eq]at h1;omega
end Go.Proofs.YtpmdedcnbockhaaGreatDoor

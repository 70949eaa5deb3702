/- part -/
import Derived.Test.YtpmdedcnbockhaaGreatDoorS02
set_option maxRecDepth 100000
set_option maxHeartbeats 8000000
namespace Go.Proofs.YtpmdedcnbockhaaGreatDoor
section
open Go.RowKit Tryz
def xw(C:au)(ki ne pa:Int)(wa:Bool)(ml mg mb:Int)(mp:Bool):Bool:=(cond (wa||(decide (ml<1)||(mp&&(pa== -1)))) false (cond ((!(mg==0))&&((!(ki==1))||(decide (mg<0)||decide (ne<=mg)))) false (cond (ki==4) (mb== -1) (decide (0<=mb)&&decide (mb<C.aF)))))
theorem Lj(v:CV)(C:au)(ki ro ac ne:Int)(st:SV)(sl:Nat)(af gr:Int)(bu fi:Bool)(pa re vn vd un tg:Int)(wa:Bool)(ms ml mg mb:Int)(mp:Bool)(w:World):Calls prog 143 #[v.val C,.agg #[.int .i64 ki,.int .i64 ro,.int .i64 ac,.int .i64 ne,.slice st.A sl st.c,.int .i64 af,.int .i64 gr,.bool bu,.bool fi,.int .i64 pa,.int .i64 re,.int .i64 vn,.int .i64 vd,.int .i64 un,.int .i64 tg,.bool wa],.agg #[.int .i64 ms,.int .i64 ml,.int .i64 mg,.int .i64 mb,.bool mp]] w (dZ (.bool (xw C ki ne pa wa ml mg mb mp)) w):=by
 obtain⟨⟨dV,dW⟩,⟨dX,dY⟩,⟨fB,dH⟩,⟨eZ,dM⟩,⟨dQ,dR⟩⟩:=v;simp only[CV.val,CV.cells];rw[iW (xw C ki ne pa wa ml mg mb mp)];generalize hE:cond (xw C ki ne pa wa ml mg mb mp) true false=E;simp only[xw,Na]at hE;go_enter func143,ntmps143;go_upto_region 1 with(fail)
 generalize hW0:World.alloc _ _=W0;obtain⟨HB,hh0,gG,qd⟩:=bx3 hW0;clear hW0;obtain⟨iC,iD,iI,iy,iP,jc,jA⟩:=CS hh0;clear hh0;obtain⟨jM,jY,qO,tV,Xb,Z7,acB,afK,afL,afM,abF,abG,abH,abI,abJ,abK⟩:=Z0 gG;clear gG;obtain⟨Aq,Ar,Ll,Lm,afN⟩:=kc5 qd;clear qd;change Code.wp _ _ _ _ (Bl.val (⟨W0,aC _ _⟩:Bl W0));generalize(⟨W0,aC _ _⟩:Bl W0)=s0;repeat' (first|(replace hE:=uI hE (by assumption))|(replace hE:=uJ hE (by assumption))|(replace hE:=mP hE;rcases hE with⟨q,q',hE⟩|⟨q,q',hE⟩)|(replace hE:=jL hE;rcases hE with⟨q,hE⟩|⟨q,hE⟩)|fail)
 all_goals
  subst hE;go_wp2_with (first|fail);first
   |(go_ret;exact⟨rfl,av HB.out (Bl.prop _)⟩)
   |(refine aI ?_;(repeat(go_big_quiet_step (first|fail)));refine aY ?_;rintro _ ⟨zq,rfl⟩;go_wp2;go_ret;exact⟨rfl,av HB.out (Bl.prop _)⟩)
def Lp(ms ml mg mb:Int)(mp:Bool):Bool:=(ms==0)&&((ml==0)&&((mg==0)&&((mb== -1)&& !mp)))
theorem JC(w:World)(ms ml mg mb:Int)(mp:Bool):(binOp .eql 51 (.agg #[.int .i64 ms,.int .i64 ml,.int .i64 mg,.int .i64 mb,.bool mp]) (.agg #[.int .i64 0,.int .i64 0,.int .i64 0,.int .i64 (-1),.bool false])).run prog w= .ok (.bool (Lp ms ml mg mb mp)) w:=by
 rw[run_eql_struct];go_simp;unfold Lp;by_cases h1:ms=0<;>by_cases h2:ml=0<;>by_cases h3:mg=0<;>by_cases h4:mb= -1<;>cases mp<;>simp[h1,h2,h3,h4]
def zl(C:au)(ki ne af gr pa:Int)(wa:Bool)(ms ml mg mb:Int)(mp:Bool):Bool:=(cond (ms==0) ((!wa)&&(Lp ms ml mg mb mp)) (cond (ms==1) (decide (ml<=af)&&(xw C ki ne pa wa ml mg mb mp)) (cond (ms==2) ((ki==1)&&(decide (ml<=gr)&&(xw C ki ne pa wa ml mg mb mp))) (cond ((ms==3)||((ms==4)||(ms==5))) ((ml==0)&&(decide (0<=mg)&&(decide (mg<=9)&&(decide (-1<=mb)&&(decide (mb<C.aF)&&(!mp)))))) false))))
def au.vJ(C:au)(k:aP)(m:aD):Bool:=zl C k.kind k.need k.after k.lY k.pause k.vH m.status m.left m.got m.dK m.paused
theorem JD(v:CV)(C:au)(i:Nat)(k:aP)(m:aD)(w:World)(hC:bO w v C)(hk:C.clauses[i]?=some k):Calls prog 105 #[v.val C,.int .i64 i,.agg #[.int .i64 m.status,.int .i64 m.left,.int .i64 m.got,.int .i64 m.dK,.bool m.paused]] w (dZ (.bool (C.vJ k m)) w):=by
 have hil:i<C.clauses.length:=(bB.1 hk).1;obtain⟨b,off,⟨stA,wQ⟩,lG,hb,hcell,hst⟩:=hC.clause hk;obtain⟨⟨dV,dW⟩,⟨dX,dY⟩,⟨fB,dH⟩,⟨eZ,dM⟩,⟨dQ,dR⟩⟩:=v;simp only at lG;subst lG;obtain⟨ki,ro,ac,ne,start,af,gr,bu,fi,pa,re,⟨vn,vd⟩,un,tg,wa⟩:=k;obtain⟨ms,ml,mg,mb,mp⟩:=m;obtain⟨c0,c1,c2,c3,c4,c5,c6,c7,c8,c9,c10,c11,c12,c13,c14,c15⟩:=EP (hcell w (aC _ _)) rfl;clear hC hst hk hcell;simp only[CV.val,CV.cells];have heq:=λ(w:World)=>JC w ms ml mg mb mp;have HR:=ah (λ(W:World)=>Lj (⟨⟨dV,dW⟩,⟨dX,dY⟩,⟨fB,dH⟩,⟨some ⟨b,off,none⟩,dM⟩,⟨dQ,dR⟩⟩:CV) C ki ro ac ne ⟨stA,wQ⟩ start.length af gr bu fi pa re vn vd un tg wa ms ml mg mb mp W);simp only[CV.val,CV.cells]at HR;have i0:(0:Int)<=(i:Int):=by omega
 have i1:(i:Int)<(C.clauses.length:Int):=by omega
 show Calls _ _ _ _ (dZ (.bool (zl C ki ne af gr pa wa ms ml mg mb mp)) w);rw[iW (zl C ki ne af gr pa wa ms ml mg mb mp)];generalize hE:cond (zl C ki ne af gr pa wa ms ml mg mb mp) true false=E;simp only[zl,Na]at hE;go_enter func105,ntmps105;go_upto_region 2 with(fail)
 generalize hW0:World.alloc _ _=W0;obtain⟨HB,hh0,gG,qd⟩:=bx3 hW0;clear hW0;obtain⟨iC,iD,iI,iy,iP,jc,jA⟩:=CS hh0;clear hh0;obtain⟨jM,jY,qO,tV,Xb⟩:=kc5 gG;clear gG;obtain⟨Aq,Ar,Ll,Lm,afN,ajs,ajt,aoD,aoE,aoF,amk,aml,amm,amn,amo,amq⟩:=Z0 qd;clear qd;change Code.wp _ _ _ _ (Bl.val (⟨W0,aC _ _⟩:Bl W0));generalize(⟨W0,aC _ _⟩:Bl W0)=s0;clear c0 c1 c2 c3 c4 c5 c6 c7 c8 c9 c10 c11 c12 c13 c14 c15;repeat' (first|(replace hE:=uI hE (by assumption))|(replace hE:=uJ hE (by assumption))|(replace hE:=mP hE;rcases hE with⟨q,q',hE⟩|⟨q,q',hE⟩)|(replace hE:=jL hE;rcases hE with⟨q,hE⟩|⟨q,hE⟩)|fail)
 all_goals
  subst hE;go_wp2_with (first|(go_at_call 143;refine dB (HR.out _) (by assumption) (λz=>?_)));first
   |(go_ret;exact⟨rfl,av HB.out (Bl.prop _)⟩)
   |(refine aI ?_;(repeat(go_big_quiet_step (first|(go_at_call 143;exact Calls.dw (lit (HR.out _) (by assumption))))));refine aY ?_;rintro _ ⟨zq,rfl⟩;go_wp2;go_ret;exact⟨rfl,av HB.out (Bl.prop _)⟩)
end
section
open Go.RowKit Tryz
def jZ(is x:Int):Bool:=(cond (is==1) (!(x==0)) (cond (is==2) (x==3) (cond (is==3) (x==4) (cond (is==4) (x==5) false))))
def BA(ms:List aD)(x:Int):Int:=((ms[x.toNat]?).map (·.status)).getD 0
def dS(ms:List aD)(c:iZ):Bool:=jZ c.is (BA ms c.clause)
def lH(ms:List aD)(l:List iZ):Bool:=l.all (dS ms)
def lV(ms:List aD)(k:aP)(m:aD):Bool:=(m.status==0)&&((!k.vH)&&lH ms k.start)
theorem Gi{ms:List aD}{l:List iZ}{j:Nat}{x:iZ}(hx:l[j]?=some x)(h:lH ms (l.take j)=true)(h2:dS ms x=true):lH ms (l.take (j+1))=true:=by
 obtain⟨hj,rfl⟩:=bB.1 hx;unfold lH at*;rw[List.take_succ_eq_append_getElem hj,List.all_append,h];simpa using h2
theorem l6{ms:List aD}{l:List iZ}{j:Nat}{x:iZ}(hx:l[j]?=some x)(h2:dS ms x=false):lH ms l=false:=by
 cases e:lH ms l with
 |false=>rfl
 |true=>
  unfold lH at e;rw[fV.1 e x (cK hx)]at h2;cases h2
theorem aQ.mark{w:World}{v:TV}{s:ak}(h:aQ w v s){i:Nat}{m:aD}(hm:s.marks[i]?=some m):
 ∃b off,v.m.A=some ⟨b,off,none⟩/\b<w.heap.size/\∀(i:Nat)(m:aD),s.marks[i]?=some m->∀W,Below w.heap.size w W->∀j,j<5->W.cell? ⟨b,off+i*5+j,none⟩=m.cells[j]?:=by
 have hi:i<s.marks.length:=(bB.1 hm).1;obtain⟨b,off,hA,hb,hc⟩:=h.marks.1.form (by omega) (by omega);refine⟨b,off,hA,hb,λi m hm W hW j hj=>?_⟩;have hi:i<s.marks.length:=(bB.1 hm).1;rw[hW.cell (p:=⟨b,off+i*5+j,none⟩) hb,iR,hc _ (by omega)];exact bG _ 5 (λ_=>rfl) s.marks i j m hm hj
theorem Kq(v:CV)(C:au)(tv:TV)(s:ak)(i:Nat)(k:aP)(m:aD)(w:World)(hC:bO w v C)(hS:aQ w tv s)(hk:C.clauses[i]?=some k)(hm:s.marks[i]?=some m)(hin:∀c∈k.start,0<=c.clause/\c.clause<s.marks.length):
 Calls prog 104 #[v.val C,tv.val s,.int .i64 i] w (dZ (.bool (lV s.marks k m)) w):=by
 have hil:i<C.clauses.length:=(bB.1 hk).1;have him:i<s.marks.length:=(bB.1 hm).1;obtain⟨b,off,⟨stA,wQ⟩,lG,hb,hcell,hst⟩:=hC.clause hk;obtain⟨mb,eP,hM0,hmb,hmc⟩:=hS.mark hm;obtain⟨⟨hA,hcp⟩,⟨uA,Bn⟩,⟨aA,CU⟩,⟨kA,zk⟩,⟨oA,CW⟩⟩:=v;obtain⟨⟨Xg,Xh⟩,⟨Xi,Xj⟩,⟨smA,Wz⟩⟩:=tv;simp only at lG hM0;subst lG hM0;have hmx:s.marks.length<=9223372036854775807:=nZ hS.marks;have hsx:k.start.length<=9223372036854775807:=nZ hst;obtain⟨ki,ro,ac,ne,start,af,gr,bu,fi,pa,re,⟨vn,vd⟩,un,tg,wa⟩:=k;generalize hE:lV s.marks ⟨ki,ro,ac,ne,start,af,gr,bu,fi,pa,re,⟨vn,vd⟩,un,tg,wa⟩ m=E;simp only[lV]at hE;have HE:=ah hE;clear hE;have HST:=ah hst;clear hst;have uE:=ah hin;clear hin;clear hC hS;simp only[CV.val,CV.cells,TV.val,TV.cells,ak.cells];have i0:(0:Int)<=(i:Int):=by omega
 have i1:(i:Int)<(C.clauses.length:Int):=by omega
 have i2:(i:Int)<(s.marks.length:Int):=by omega
 simp only at hsx;go_enter func104,ntmps104;go_upto_region 1 with(fail)
 generalize hW0:World.alloc _ _=W0;obtain⟨HB,hh0,gG⟩:=F5 hW0;have HW0:=ah hW0.symm;clear hW0;obtain⟨iC,iD,iI,iy,iP,jc,jA⟩:=CS hh0;clear hh0;obtain⟨jM,jY,qO,tV⟩:=Wx gG;clear gG;change Code.wp _ _ _ _ (Bl.val (⟨W0,aC _ _⟩:Bl W0));generalize(⟨W0,aC _ _⟩:Bl W0)=s0;have c4:∀z:Bl W0,z.val.cell? ⟨b,off+i*16+4,none⟩=some (.slice stA start.length wQ):=λz=>hcell z.val (av HB.out z.prop) 4 (by omega);have c15:∀z:Bl W0,z.val.cell? ⟨b,off+i*16+15,none⟩=some (.bool wa):=λz=>hcell z.val (av HB.out z.prop) 15 (by omega);have m0:∀z:Bl W0,z.val.cell? ⟨mb,eP+i*5,none⟩=some (.int .i64 m.status):=λz=>hmc i m hm z.val (av HB.out z.prop) 0 (by omega);have Au:Hid (∀(x:Int)(z:Bl W0),0<=x->x<(s.marks.length:Int)->z.val.cell? ⟨mb,eP+x.toNat*5,none⟩=some (.int .i64 (BA s.marks x))):=λx z h0 h1=>by
  obtain⟨a,ha⟩:∃a,s.marks[x.toNat]?=some a:=⟨s.marks[x.toNat]'(by omega),aS _⟩;have h:=hmc x.toNat a ha z.val (av HB.out z.prop) 0 (by omega);rw[kP]at h;rw[h];simp[aD.cells,BA,ha]
 clear hcell hmc;have HK:=ah hk;clear hk;have HM:=ah hm;clear hm;cases q1:(m.status==0)with
 |false=>
  have Xk:(m.status !=0)=true:=by simpa using q1
  obtain rfl:E=false:=by rw[<-HE.out,q1];rfl
  go_wp2;go_ret;exact⟨rfl,av HB.out (Bl.prop _)⟩
 |true=>
  have Xk:(m.status !=0)=false:=by simpa using q1
  cases wa with
  |true=>
   obtain rfl:E=false:=by rw[<-HE.out,q1];rfl
   go_wp2;go_ret;exact⟨rfl,av HB.out (Bl.prop _)⟩
  |false=>
   have xq:=ah q1;go_wp2
   go_loopg [33] start.length (λgk v33 wr=>∃(j:Nat)(z:Bl W0),gk=start.length - j/\j<=start.length/\v33= .int .i64 j/\wr=z.val/\Hid (lH s.marks (start.take j)=true))
   case atStart=>exact⟨0,_,rfl,aU _,rfl,rfl,rfl⟩
   case round=>
    obtain⟨j,z,eO,hj,rfl,rfl,hpre⟩:=hrel;have iw:=ah eO;clear eO;by_cases hlt:j<start.length
    .obtain⟨⟨cl,is⟩,hx⟩:∃x,start[j]?=some x:=⟨start[j],aS hlt⟩
     obtain⟨b2,off2,hA2,hb2,hc2⟩:=(HST.out.below (by omega) (av HB.out z.prop)).1.form (by omega) (by omega);try simp only at hA2
     subst hA2;have e0:z.val.cell? ⟨b2,off2+j*2,none⟩=some (.int .i64 cl):=by rw[hc2 _ (by omega)];exact bG iZ.cells 2 (λ_=>rfl) start j 0 _ hx (by omega)
     have e1:z.val.cell? ⟨b2,off2+j*2+1,none⟩=some (.int .i64 is):=by rw[iR,hc2 _ (by omega)];exact bG iZ.cells 2 (λ_=>rfl) start j 1 _ hx (by omega)
     clear hc2;obtain⟨cl0,cl1⟩:0<=cl/\cl<(s.marks.length:Int):=uE.out _ (cK hx);have e2:=Au.out cl z cl0 cl1;have hw2:W0.heap.size=w.heap.size+1+1:=by rw[HW0.out];simp
     have hl0:w.heap.size<z.val.heap.size:=by have h1:=z.prop.size;omega
     have hl1:w.heap.size+1<z.val.heap.size:=by have h1:=z.prop.size;omega
     have hl2:mb<z.val.heap.size:=by have h1:=z.prop.size;omega
     clear hw2;have HX:=ah hx;clear hx;have j1:(j:Int)<(start.length:Int):=by omega
     generalize hxx:BA s.marks cl=x at e2;have Uy:=ah hxx;clear hxx
     focus
      cases q1:(is==1)
      focus
       have acI:(is !=1)=true:=by simpa using q1
       cases q2:(is==2)
       focus
        have Xl:(is !=2)=true:=by simpa using q2
        cases q3:(is==3)
        focus
         have Xm:(is !=3)=true:=by simpa using q3
         cases q4:(is==4)
         focus
          have Qu:(is !=4)=true:=by simpa using q4
          have hP:jZ is x=false:=by unfold jZ;rw[q1,q2,q3,q4];rfl
          have hch:dS s.marks ⟨cl,is⟩=false:=by unfold dS;rw[Uy.out];exact hP
          clear hP;obtain rfl:E=false:=by rw[<-HE.out,xq.out,l6 HX.out hch];rfl
          clear hch;go_wp2;go_ret;exact⟨rfl,av HB.out (aJ z.prop _)⟩
         focus
          have Qu:(is !=4)=false:=by simpa using q4
          cases q5:(x==5)
          focus
           have acJ:(x !=5)=true:=by simpa using q5
           have hP:jZ is x=false:=by unfold jZ;rw[q1,q2,q3,q4,q5];rfl
           have hch:dS s.marks ⟨cl,is⟩=false:=by unfold dS;rw[Uy.out];exact hP
           clear hP;obtain rfl:E=false:=by rw[<-HE.out,xq.out,l6 HX.out hch];rfl
           clear hch;go_wp2;go_ret;exact⟨rfl,av HB.out (aJ z.prop _)⟩
          focus
           have acJ:(x !=5)=false:=by simpa using q5
           have hP:jZ is x=true:=by unfold jZ;rw[q1,q2,q3,q4,q5];rfl
           have hch:dS s.marks ⟨cl,is⟩=true:=by unfold dS;rw[Uy.out];exact hP
           clear hP;have HCH:=ah hch;clear hch
        rotate_left
        focus
         have Xm:(is !=3)=false:=by simpa using q3
         cases q4:(x==4)
         focus
          have Qu:(x !=4)=true:=by simpa using q4
          have hP:jZ is x=false:=by unfold jZ;rw[q1,q2,q3,q4];rfl
          have hch:dS s.marks ⟨cl,is⟩=false:=by unfold dS;rw[Uy.out];exact hP
          clear hP;obtain rfl:E=false:=by rw[<-HE.out,xq.out,l6 HX.out hch];rfl
          clear hch;go_wp2;go_ret;exact⟨rfl,av HB.out (aJ z.prop _)⟩
         focus
          have Qu:(x !=4)=false:=by simpa using q4
          have hP:jZ is x=true:=by unfold jZ;rw[q1,q2,q3,q4];rfl
          have hch:dS s.marks ⟨cl,is⟩=true:=by unfold dS;rw[Uy.out];exact hP
          clear hP;have HCH:=ah hch;clear hch
       rotate_left 2
       focus
        have Xl:(is !=2)=false:=by simpa using q2
        cases q3:(x==3)
        focus
         have Xm:(x !=3)=true:=by simpa using q3
         have hP:jZ is x=false:=by unfold jZ;rw[q1,q2,q3];rfl
         have hch:dS s.marks ⟨cl,is⟩=false:=by unfold dS;rw[Uy.out];exact hP
         clear hP;obtain rfl:E=false:=by rw[<-HE.out,xq.out,l6 HX.out hch];rfl
         clear hch;go_wp2;go_ret;exact⟨rfl,av HB.out (aJ z.prop _)⟩
        focus
         have Xm:(x !=3)=false:=by simpa using q3
         have hP:jZ is x=true:=by unfold jZ;rw[q1,q2,q3];rfl
         have hch:dS s.marks ⟨cl,is⟩=true:=by unfold dS;rw[Uy.out];exact hP
         clear hP;have HCH:=ah hch;clear hch
      rotate_left 3
      focus
       have acI:(is !=1)=false:=by simpa using q1
       cases q2:(x==0)
       focus
        have Xl:(x !=0)=true:=by simpa using q2
        have hP:jZ is x=true:=by unfold jZ;rw[q1,q2];rfl
        have hch:dS s.marks ⟨cl,is⟩=true:=by unfold dS;rw[Uy.out];exact hP
        clear hP;have HCH:=ah hch;clear hch
       rotate_left
       focus
        have Xl:(x !=0)=false:=by simpa using q2
        have hP:jZ is x=false:=by unfold jZ;rw[q1,q2];rfl
        have hch:dS s.marks ⟨cl,is⟩=false:=by unfold dS;rw[Uy.out];exact hP
        clear hP;obtain rfl:E=false:=by rw[<-HE.out,xq.out,l6 HX.out hch];rfl
        clear hch;go_wp2;go_ret;exact⟨rfl,av HB.out (aJ z.prop _)⟩
      all_goals
       go_wp2
       go_roundg (start.length - (j+1))
       case measure=>rw[iw.out];omega
       case rel=>exact⟨j+1,⟨_,aJ z.prop _⟩,rfl,by omega,by go_num,rfl,Gi HX.out hpre.out HCH.out⟩
    .obtain rfl:j=start.length:=by omega
     have hcs:lH s.marks start=true:=by have h:=hpre.out;rwa [zY (bJ _)]at h
     obtain rfl:E=true:=by rw[<-HE.out,xq.out,hcs];rfl
     clear hcs;go_wp2;go_ret;exact⟨rfl,av HB.out (Bl.prop _)⟩
end
section
open Go.RowKit Tryz
def Qa(C:au)(s:ak):Bool:=((!decide (s.day<0))&&((!decide (C.days<s.day))&&(((s.aj.length:Int)==(C.aj.length:Int))&&(((s.used.length:Int)==(C.acts.length:Int))&&((s.marks.length:Int)==(C.clauses.length:Int))))))
def tX(C:au)(p:Int):Bool:=(!decide (p<0))&&(!decide (C.aF<=p))
def nk(C:au)(s:ak):Bool:=s.aj.all (tX C)
def BD(C:au)(s:ak):Bool:=(List.range s.used.length).all (λi=>match s.used[i]?,C.acts[i]? with|some u,some a=> !(u&&(a.kind==1))|_,_=>true)
def xB(C:au)(s:ak):Bool:=(List.range s.marks.length).all (λi=>match s.marks[i]?,C.clauses[i]? with|some m,some k=>C.vJ k m&& !(lV s.marks k m)|_,_=>true)
def au.f_(C:au)(s:ak):Bool:=C.valid&&(Qa C s&&(nk C s&&(BD C s&&xB C s)))
theorem BF{C:au}{s:ak}{j:Nat}{x:Int}(hx:s.aj[j]?=some x)(h:tX C x=false):nk C s=false:=by
 cases e:nk C s with
 |false=>rfl
 |true=>
  unfold nk at e;rw[fV.1 e x (cK hx)]at h;cases h
theorem Lr{C:au}{s:ak}(h:∀(j:Nat)(x:Int),s.aj[j]?=some x->tX C x=true):nk C s=true:=by
 unfold nk;rw[fV];intro x hx;obtain⟨j,hj⟩:=w_ hx;exact h j x hj
theorem Uz{C:au}{s:ak}{j:Nat}{a:jy}(hx:s.used[j]?=some true)(ha:C.acts[j]?=some a)(h:(a.kind==1)=true):BD C s=false:=by
 cases e:BD C s with
 |false=>rfl
 |true=>
  unfold BD at e;have hj:j<s.used.length:=(bB.1 hx).1;have:=fV.1 e j (by simpa using hj);simp only[hx,ha,h]at this;cases this
theorem UA{C:au}{s:ak}(h:∀(j:Nat)(u:Bool)(a:jy),s.used[j]?=some u->C.acts[j]?=some a->(u&&(a.kind==1))=false):BD C s=true:=by
 unfold BD;rw[fV];intro i _;cases e:s.used[i]? with
 |none=>rfl
 |some u=>
  cases e2:C.acts[i]? with
  |none=>rfl
  |some a=>simp only[h i u a e e2];rfl
theorem Gj{C:au}{s:ak}{j:Nat}{m:aD}{k:aP}(hm:s.marks[j]?=some m)(hk:C.clauses[j]?=some k)(h:(C.vJ k m&& !(lV s.marks k m))=false):xB C s=false:=by
 cases e:xB C s with
 |false=>rfl
 |true=>
  unfold xB at e;have hj:j<s.marks.length:=(bB.1 hm).1;have:=fV.1 e j (by simpa using hj);simp only[hm,hk,h]at this;cases this
theorem Qv{C:au}{s:ak}(h:∀(j:Nat)(m:aD)(k:aP),s.marks[j]?=some m->C.clauses[j]?=some k->(C.vJ k m&& !(lV s.marks k m))=true):xB C s=true:=by
 unfold xB;rw[fV];intro i _;cases e:s.marks[i]? with
 |none=>rfl
 |some u=>
  cases e2:C.clauses[i]? with
  |none=>rfl
  |some a=>exact h i u a e e2
theorem Nz{C:au}(h:C.valid=true){i:Nat}{k:aP}(hk:C.clauses[i]?=some k):∀c∈k.start,0<=c.clause/\c.clause<C.clauses.length:=by
 unfold au.valid at h;simp only[bS]at h;have h1:=Li h.2.2 hk;unfold au.jm at h1;simp only[bS]at h1;have h2:=h1.2.1;unfold ni at h2;intro c hc;have h3:=fV.1 h2 c hc;simp only[sN,bS,jk,decide_eq_false_iff_not]at h3;omega
theorem xC(v:CV)(C:au)(tv:TV)(s:ak)(w:World)(hC:bO w v C)(hS:aQ w tv s):Calls prog 68 #[v.val C,tv.val s] w (dZ (.bool (C.f_ s)) w):=by
 obtain⟨⟨hA,hcp⟩,⟨uA,Bn⟩,⟨aA,CU⟩,⟨kA,zk⟩,⟨oA,CW⟩⟩:=v;obtain⟨⟨Xg,Xh⟩,⟨Xi,Xj⟩,⟨smA,Wz⟩⟩:=tv;have hhx:s.aj.length<=9223372036854775807:=nZ hS.aj;have ZF:s.used.length<=9223372036854775807:=nZ hS.used;have hmx:s.marks.length<=9223372036854775807:=nZ hS.marks;have HC:=ah hC;clear hC;have HS:=ah hS;clear hS;simp only[CV.val,CV.cells,TV.val,TV.cells,ak.cells];generalize hE:C.f_ s=E;simp only[au.f_]at hE;have HE:=ah hE;clear hE;go_enter func68,ntmps68;go_upto_region 1 with(fail)
 generalize hW0:World.alloc _ _=W0;obtain⟨HB,hh0,gG⟩:=F5 hW0;have HW0:=ah hW0.symm;clear hW0;obtain⟨iC,iD,iI,iy,iP,jc,jA⟩:=CS hh0;clear hh0;obtain⟨jM,jY,qO,tV⟩:=Wx gG;clear gG;change Code.wp _ _ _ _ (Bl.val (⟨W0,aC _ _⟩:Bl W0));generalize(⟨W0,aC _ _⟩:Bl W0)=s0;have hw2:W0.heap.size=w.heap.size+1+1:=by rw[HW0.out];simp
 have HW2:=ah hw2;clear hw2;have hcv:∀z:Bl W0,Calls prog 31 #[.agg #[.int .i64 C.aF,.slice hA C.aj.length hcp,.slice uA C.units.length Bn,.slice aA C.acts.length CU,.slice kA C.clauses.length zk,.int .i64 C.days,.slice oA C.off.length CW]] z.val (Fz C.errno z.val):=λz=>vI (⟨⟨hA,hcp⟩,⟨uA,Bn⟩,⟨aA,CU⟩,⟨kA,zk⟩,⟨oA,CW⟩⟩:CV) C z.val (HC.out.below (av HB.out z.prop));have UC:=ah hcv;clear hcv;go_wp2_with fail;refine(UC.out _).mono ?_;rintro e z ⟨n,rfl,hz⟩;obtain⟨z1,rfl⟩:=Bl.on hz;clear hz;cases hv:C.valid with
 |false=>
  obtain⟨f1,f2⟩:=au.Ny hv;obtain rfl:E=false:=by rw[<-HE.out,hv];rfl
  clear hv;go_wp2;go_ret;exact⟨rfl,av HB.out (Bl.prop _)⟩
 |true=>
  rw[au.Ko hv];have HV:=ah hv;clear hv;cases q1:decide (s.day<0)with
  |false=>
   cases q2:decide (C.days<s.day)with
   |false=>
    cases q3:((s.aj.length:Int)==(C.aj.length:Int))with
    |false=>
     have Xm:((s.aj.length:Int)!=(C.aj.length:Int))=true:=by simpa using q3
     have hP:Qa C s=false:=by unfold Qa;rw[q1,q2,q3];rfl
     obtain rfl:E=false:=by rw[<-HE.out,HV.out,hP];rfl
     clear hP;go_wp2;go_ret;exact⟨rfl,av HB.out (Bl.prop _)⟩
    |true=>
     have Xm:((s.aj.length:Int)!=(C.aj.length:Int))=false:=by simpa using q3
     cases q4:((s.used.length:Int)==(C.acts.length:Int))with
     |false=>
      have Qu:((s.used.length:Int)!=(C.acts.length:Int))=true:=by simpa using q4
      have hP:Qa C s=false:=by unfold Qa;rw[q1,q2,q3,q4];rfl
      obtain rfl:E=false:=by rw[<-HE.out,HV.out,hP];rfl
      clear hP;go_wp2;go_ret;exact⟨rfl,av HB.out (Bl.prop _)⟩
     |true=>
      have Qu:((s.used.length:Int)!=(C.acts.length:Int))=false:=by simpa using q4
      cases q5:((s.marks.length:Int)==(C.clauses.length:Int))with
      |false=>
       have acJ:((s.marks.length:Int)!=(C.clauses.length:Int))=true:=by simpa using q5
       have hP:Qa C s=false:=by unfold Qa;rw[q1,q2,q3,q4,q5];rfl
       obtain rfl:E=false:=by rw[<-HE.out,HV.out,hP];rfl
       clear hP;go_wp2;go_ret;exact⟨rfl,av HB.out (Bl.prop _)⟩
      |true=>
       have acJ:((s.marks.length:Int)!=(C.clauses.length:Int))=false:=by simpa using q5
       have hP:Qa C s=true:=by unfold Qa;rw[q1,q2,q3,q4,q5];rfl
       have mV:=ah hP;clear hP;have hum:s.used.length=C.acts.length:=by have h:=(by assumption:((s.used.length:Int)==(C.acts.length:Int))=true);simp at h;omega
       have hmm:s.marks.length=C.clauses.length:=by have h:=(by assumption:((s.marks.length:Int)==(C.clauses.length:Int))=true);simp at h;omega
       have HUM:=ah hum;clear hum;have JE:=ah hmm;clear hmm;go_wp2
       go_loopg [59] s.aj.length (λgk v59 wr=>∃(j:Nat),gk=s.aj.length - j/\j<=s.aj.length/\v59= .int .i64 j/\z1.val=wr/\Hid (∀(i:Nat)(x:Int),i<j->s.aj[i]?=some x->tX C x=true))
       case atStart=>exact⟨0,rfl,aU _,rfl,rfl,λi x h=>by omega⟩
       case round=>
        obtain⟨j,eO,hj,rfl,rfl,hpre⟩:=hrel;have iw:=ah eO;clear eO;by_cases hlt:j<s.aj.length
        .obtain⟨b,off,lG,hbl,hcell⟩:=(HS.out.below (av HB.out z1.prop)).aj.1.form (by omega) (by omega)
         simp only at lG;subst lG;obtain⟨d,hd⟩:∃d,s.aj[j]?=some d:=⟨s.aj[j],aS hlt⟩;have kx:z1.val.cell? ⟨b,off+j,none⟩=some (.int .i64 d):=by rw[hcell _ (by omega)];simp[aZ,hd]
         clear hcell;have HD:=ah hd;clear hd;have j1:(j:Int)<(s.aj.length:Int):=by omega
         cases p1:decide (d<0)with
         |true=>
          obtain rfl:E=false:=by rw[<-HE.out,HV.out,mV.out,BF HD.out (by unfold tX;rw[p1];rfl)];rfl
          go_wp2;go_ret;exact⟨rfl,av HB.out (Bl.prop _)⟩
         |false=>
          cases p2:decide (C.aF<=d)with
          |true=>
           obtain rfl:E=false:=by rw[<-HE.out,HV.out,mV.out,BF HD.out (by unfold tX;rw[p1,p2];rfl)];rfl
           go_wp2;go_ret;exact⟨rfl,av HB.out (Bl.prop _)⟩
          |false=>
           have Gf:Hid (tX C d=true):=by show _=_;unfold tX;rw[p1,p2];rfl
           go_wp2
           go_roundg (s.aj.length - (j+1))
           case measure=>rw[iw.out];omega
           case rel=>exact⟨j+1,rfl,by omega,by go_num,rfl,λi x hi hx=>by
            by_cases e:i=j
            .subst e
             rw[HD.out]at hx;injection hx with hx
             subst hx;exact Gf.out
            .exact hpre.out i x (by omega) hx⟩
        .obtain rfl:j=s.aj.length:=by omega
         have HSH:Hid (nk C s=true):=Lr (λi x hx=>hpre.out i x (bB.1 hx).1 hx);go_wp2
         go_loopg [75] s.used.length (λgk v75 wr=>∃(j:Nat),gk=s.used.length - j/\j<=s.used.length/\v75= .int .i64 j/\z1.val=wr/\Hid (∀(i:Nat)(u:Bool)(a:jy),i<j->s.used[i]?=some u->C.acts[i]?=some a->(u&&(a.kind==1))=false))
         case atStart=>exact⟨0,rfl,aU _,rfl,rfl,λi u a h=>by omega⟩
         case round=>
          obtain⟨j,eO,hj,rfl,rfl,Kn⟩:=hrel;have ES:=ah eO;clear eO;by_cases hlt:j<s.used.length
          .obtain⟨b,off,lG,hbl,hcell⟩:=(HS.out.below (av HB.out z1.prop)).used.1.form (by omega) (by omega)
           simp only at lG;subst lG;obtain⟨d,hd⟩:∃d,s.used[j]?=some d:=⟨s.used[j],aS hlt⟩;obtain⟨a,ha⟩:∃a,C.acts[j]?=some a:=⟨C.acts[j]'(by rw[<-HUM.out];exact hlt),aS _⟩;obtain⟨b2,off2,hA1,hb2,hcell2⟩:=HC.out.act ha;simp only at hA1;subst hA1;have kx:z1.val.cell? ⟨b,off+j,none⟩=some (.bool d):=by rw[hcell _ (by omega)];simp[fM,hd]
           have ky:z1.val.cell? ⟨b2,off2+j*7,none⟩=some (.int .i64 a.kind):=hcell2 z1.val (av HB.out z1.prop) 0 (by omega);clear hcell hcell2;have HD:=ah hd;clear hd;have HA:=ah ha;clear ha;have j1:(j:Int)<(s.used.length:Int):=by omega
           have j2:(j:Int)<(C.acts.length:Int):=by have h:=HUM.out;omega
           cases d with
           |false=>
            go_wp2
            go_roundg (s.used.length - (j+1))
            case measure=>rw[ES.out];omega
            case rel=>exact⟨j+1,rfl,by omega,by go_num,rfl,λi u a hi hx hy=>by
             by_cases e:i=j
             .subst e
              rw[HD.out]at hx;injection hx with hx
              subst hx;rfl
             .exact Kn.out i u a (by omega) hx hy⟩
           |true=>
            cases p1:(a.kind==1)with
            |true=>
             obtain rfl:E=false:=by rw[<-HE.out,HV.out,mV.out,HSH.out,Uz HD.out HA.out p1];rfl
             go_wp2;go_ret;exact⟨rfl,av HB.out (Bl.prop _)⟩
            |false=>
             go_wp2
             go_roundg (s.used.length - (j+1))
             case measure=>rw[ES.out];omega
             case rel=>exact⟨j+1,rfl,by omega,by go_num,rfl,λi u a' hi hx hy=>by
              by_cases e:i=j
              .subst e
               rw[HA.out]at hy;injection hy with hy
               subst hy;rw[p1];cases u<;>rfl
              .exact Kn.out i u a' (by omega) hx hy⟩
          .obtain rfl:j=s.used.length:=by omega
           have HSU:Hid (BD C s=true):=UA (λi u a hx hy=>Kn.out i u a (bB.1 hx).1 hx hy);go_wp2
           go_loopg [94] s.marks.length (λgk v94 wr=>∃(j:Nat)(z:Bl W0),gk=s.marks.length - j/\j<=s.marks.length/\v94= .int .i64 j/\wr=z.val/\Hid (∀(i:Nat)(m:aD)(k:aP),i<j->s.marks[i]?=some m->C.clauses[i]?=some k->(C.vJ k m&& !(lV s.marks k m))=true))
           case atStart=>exact⟨0,_,rfl,aU _,rfl,rfl,λi m k h=>by omega⟩
           case round=>
            obtain⟨j,z,eO,hj,rfl,rfl,abL⟩:=hrel;have ajv:=ah eO;clear eO;by_cases hlt:j<s.marks.length
            .obtain⟨m,hm⟩:∃m,s.marks[j]?=some m:=⟨s.marks[j],aS hlt⟩
             obtain⟨k,hk⟩:∃k,C.clauses[j]?=some k:=⟨C.clauses[j]'(by rw[<-JE.out];exact hlt),aS _⟩;have hc1:∀y:Bl W0,Calls prog 105 #[.agg #[.int .i64 C.aF,.slice hA C.aj.length hcp,.slice uA C.units.length Bn,.slice aA C.acts.length CU,.slice kA C.clauses.length zk,.int .i64 C.days,.slice oA C.off.length CW],.int .i64 j,.agg #[.int .i64 m.status,.int .i64 m.left,.int .i64 m.got,.int .i64 m.dK,.bool m.paused]] y.val (dZ (.bool (C.vJ k m)) y.val):=λy=>JD (⟨⟨hA,hcp⟩,⟨uA,Bn⟩,⟨aA,CU⟩,⟨kA,zk⟩,⟨oA,CW⟩⟩:CV) C j k m y.val (HC.out.below (av HB.out y.prop)) hk;have hc2:∀y:Bl W0,Calls prog 104 #[.agg #[.int .i64 C.aF,.slice hA C.aj.length hcp,.slice uA C.units.length Bn,.slice aA C.acts.length CU,.slice kA C.clauses.length zk,.int .i64 C.days,.slice oA C.off.length CW],.agg #[.int .i64 s.day,.slice Xg s.aj.length Xh,.slice Xi s.used.length Xj,.slice smA s.marks.length Wz],.int .i64 j] y.val (dZ (.bool (lV s.marks k m)) y.val):=λy=>Kq (⟨⟨hA,hcp⟩,⟨uA,Bn⟩,⟨aA,CU⟩,⟨kA,zk⟩,⟨oA,CW⟩⟩:CV) C (⟨⟨Xg,Xh⟩,⟨Xi,Xj⟩,⟨smA,Wz⟩⟩:TV) s j k m y.val (HC.out.below (av HB.out y.prop)) (HS.out.below (av HB.out y.prop)) hk hm (λc hc=>by rw[JE.out];exact Nz HV.out hk c hc);obtain⟨b,off,lG,hbl,hcell⟩:=HS.out.mark hm;simp only at lG;subst lG;have hmc:=λy:Bl W0=>hcell j m hm y.val (av HB.out y.prop);clear hcell;have HM:=ah hm;clear hm;have HK:=ah hk;clear hk;generalize afO:C.vJ k m=v1 at hc1;generalize afP:lV s.marks k m=v2 at hc2;have HV1:=ah afO;clear afO;have HV2:=ah afP;clear afP;obtain⟨ms,ml,mg,mb,mp⟩:=m;have e0:∀y:Bl W0,y.val.cell? ⟨b,off+j*5,none⟩=some (.int .i64 ms):=λy=>hmc y 0 (by omega);have e1:∀y:Bl W0,y.val.cell? ⟨b,off+j*5+1,none⟩=some (.int .i64 ml):=λy=>hmc y 1 (by omega);have e2:∀y:Bl W0,y.val.cell? ⟨b,off+j*5+2,none⟩=some (.int .i64 mg):=λy=>hmc y 2 (by omega);have e3:∀y:Bl W0,y.val.cell? ⟨b,off+j*5+3,none⟩=some (.int .i64 mb):=λy=>hmc y 3 (by omega);have e4:∀y:Bl W0,y.val.cell? ⟨b,off+j*5+4,none⟩=some (.bool mp):=λy=>hmc y 4 (by omega);clear hmc;simp only at hc1;have zm:=ah hc1;clear hc1;have Jo:=ah hc2;clear hc2;have j0:(0:Int)<=(j:Int):=by omega
             have j1:(j:Int)<(s.marks.length:Int):=by omega
             cases v1 with
             |false=>
              obtain rfl:E=false:=by rw[<-HE.out,HV.out,mV.out,HSH.out,HSU.out,Gj HM.out HK.out (by rw[HV1.out];rfl)];rfl
              go_wp2;refine aI ?_;(repeat(go_big_quiet_step ((first|(go_at_call 105;exact Calls.dw (zm.out _))|(go_at_call 104;exact Calls.dw (Jo.out _))))));refine aY ?_;rintro _ ⟨zq,rfl⟩;go_wp2;go_ret;exact⟨rfl,av HB.out (Bl.prop _)⟩
             |true=>
              cases v2 with
              |true=>
               obtain rfl:E=false:=by rw[<-HE.out,HV.out,mV.out,HSH.out,HSU.out,Gj HM.out HK.out (by rw[HV1.out,HV2.out];rfl)];rfl
               go_wp2;refine aI ?_;(repeat(go_big_quiet_step ((first|(go_at_call 105;exact Calls.dw (zm.out _))|(go_at_call 104;exact Calls.dw (Jo.out _))))));refine aY ?_;rintro _ ⟨zq,rfl⟩;go_wp2;go_ret;exact⟨rfl,av HB.out (Bl.prop _)⟩
              |false=>
               go_wp2;refine aI ?_;(repeat(go_big_quiet_step ((first|(go_at_call 105;exact Calls.dw (zm.out _))|(go_at_call 104;exact Calls.dw (Jo.out _))))));refine aY ?_;rintro _ ⟨zq,rfl⟩;go_wp2
               go_roundg (s.marks.length - (j+1))
               case measure=>rw[ajv.out];omega
               case rel=>exact⟨j+1,zq,rfl,by omega,by go_num,rfl,λi m' k' hi hx hy=>by
                by_cases e:i=j
                .subst e
                 rw[HM.out]at hx;rw[HK.out]at hy;injection hx with hx
                 injection hy with hy
                 subst hx hy;rw[HV1.out,HV2.out];rfl
                .exact abL.out i m' k' (by omega) hx hy⟩
            .obtain rfl:j=s.marks.length:=by omega
             obtain rfl:E=true:=by rw[<-HE.out,HV.out,mV.out,HSH.out,HSU.out,Qv (λi m k hx hy=>abL.out i m k (bB.1 hx).1 hx hy)];rfl
             go_wp2;go_ret;exact⟨rfl,av HB.out (Bl.prop _)⟩
   |true=>
    have hP:Qa C s=false:=by unfold Qa;rw[q1,q2];rfl
    obtain rfl:E=false:=by rw[<-HE.out,HV.out,hP];rfl
    clear hP;go_wp2;go_ret;exact⟨rfl,av HB.out (Bl.prop _)⟩
  |true=>
   have hP:Qa C s=false:=by unfold Qa;rw[q1];rfl
   obtain rfl:E=false:=by rw[<-HE.out,HV.out,hP];rfl
   clear hP;go_wp2;go_ret;exact⟨rfl,av HB.out (Bl.prop _)⟩
end
section
open Go.RowKit Tryz
def fP(l:List Int)(x:Int):Int:=(l[x.toNat]?).getD 0
def sP(hs:List Int)(ki ro tg pt:Int):Bool:=(cond ((!(ki==1))||((tg== -1)||(fP hs tg==pt))) true ((!(ro== -1))&&(fP hs ro==pt)))
def Ed(s:ak)(a:jy)(p:Int):Bool:=sP s.aj a.kind a.role a.tgt p
theorem Xn(v:CV)(C:au)(tv:TV)(s:ak)(pt:Int)(i:Nat)(a:jy)(w:World)(hC:bO w v C)(hS:aQ w tv s)(ha:C.acts[i]?=some a)(hpos:0<s.aj.length)
 (hto:(a.kind==1)=true->(a.tgt== -1)=false->0<=a.tgt/\a.tgt<s.aj.length)(hro:(a.role== -1)=false->0<=a.role/\a.role<s.aj.length):
 Calls prog 46 #[v.val C,tv.val s,.int .i64 pt,.int .i64 i] w (dZ (.bool (Ed s a pt)) w):=by
 have hil:i<C.acts.length:=(bB.1 ha).1;obtain⟨b,off,lG,hbl,hcell⟩:=hC.act ha;obtain⟨hb,hoff,hH0,hhb,hhc⟩:=hS.aj.1.form hpos (by omega);obtain⟨⟨hA,hcp⟩,⟨uA,Bn⟩,⟨aA,CU⟩,⟨kA,zk⟩,⟨oA,CW⟩⟩:=v;obtain⟨⟨Xg,Xh⟩,⟨Xi,Xj⟩,⟨smA,Wz⟩⟩:=tv;simp only at lG hH0;subst lG hH0;have hhx:s.aj.length<=9223372036854775807:=nZ hS.aj;obtain⟨ki,ro,gi,tg,un,⟨ln,ld⟩⟩:=a;generalize hE:Ed s ⟨ki,ro,gi,tg,un,⟨ln,ld⟩⟩ pt=E;simp only[Ed]at hE;have HE:=ah hE;clear hE;simp only at hto hro;have HTO:=ah hto;clear hto;have rT:=ah hro;clear hro;clear hC hS ha;simp only[CV.val,CV.cells,TV.val,TV.cells,ak.cells];have i0:(0:Int)<=(i:Int):=by omega
 have i1:(i:Int)<(C.acts.length:Int):=by omega
 obtain⟨c0,c1,c2,c3,c4,c5,c6⟩:=rw7 (hcell w (aC _ _)) rfl;clear hcell;go_enter func46,ntmps46;go_upto_region 2 with(fail)
 generalize hW0:World.alloc _ _=W0;obtain⟨HB,hh0,gG,qd⟩:=bx3 hW0;clear hW0;obtain⟨iC,iD,iI,iy,iP,jc,jA⟩:=CS hh0;clear hh0;obtain⟨jM,jY,qO,tV⟩:=Wx gG;clear gG;obtain⟨Aq,Ar,Ll,Lm,afN,ajs,ajt⟩:=CS qd;clear qd;change Code.wp _ _ _ _ (Bl.val (⟨W0,aC _ _⟩:Bl W0));generalize(⟨W0,aC _ _⟩:Bl W0)=s0;clear c0 c1 c2 c3 c4 c5 c6;have HHC:Hid (∀x:Int,0<=x->x<(s.aj.length:Int)->∀z:Bl W0,z.val.cell? ⟨hb,hoff+x.toNat,none⟩=some (.int .i64 (fP s.aj x))):=λx h0 h1 z=>by
  have hx:x.toNat<s.aj.length:=by omega
  rw[(av HB.out z.prop).cell (p:=⟨hb,hoff+x.toNat,none⟩) hhb,hhc _ (by omega)];simp[aZ,fP,hx]
 clear hhc;cases q1:(ki==1)with
 |false=>
  have acI:(ki !=1)=true:=by simpa using q1
  have hP:sP s.aj ki ro tg pt=true:=by unfold sP;rw[q1];rfl
  obtain rfl:E=true:=by rw[<-HE.out,hP]
  clear hP;go_wp2;go_ret;exact⟨rfl,av HB.out (Bl.prop _)⟩
 |true=>
  have acI:(ki !=1)=false:=by simpa using q1
  cases q2:(tg== -1)with
  |false=>
   have Xl:(tg != -1)=true:=by simpa using q2
   obtain⟨tg0,tg1⟩:=HTO.out (by assumption) (by assumption);have aoM:=HHC.out tg tg0 tg1;cases q3:(fP s.aj tg==pt)with
   |false=>
    cases q4:(ro== -1)with
    |false=>
     have Qu:(ro != -1)=true:=by simpa using q4
     obtain⟨ro0,ro1⟩:=rT.out (by assumption);have aoP:=HHC.out ro ro0 ro1;cases q5:(fP s.aj ro==pt)with
     |false=>
      have hP:sP s.aj ki ro tg pt=false:=by unfold sP;rw[q1,q2,q3,q4,q5];rfl
      obtain rfl:E=false:=by rw[<-HE.out,hP]
      clear hP;go_wp2;go_ret;exact⟨rfl,av HB.out (Bl.prop _)⟩
     |true=>
      have hP:sP s.aj ki ro tg pt=true:=by unfold sP;rw[q1,q2,q3,q4,q5];rfl
      obtain rfl:E=true:=by rw[<-HE.out,hP]
      clear hP;go_wp2;go_ret;exact⟨rfl,av HB.out (Bl.prop _)⟩
    |true=>
     have Qu:(ro != -1)=false:=by simpa using q4
     have hP:sP s.aj ki ro tg pt=false:=by unfold sP;rw[q1,q2,q3,q4];rfl
     obtain rfl:E=false:=by rw[<-HE.out,hP]
     clear hP;go_wp2;go_ret;exact⟨rfl,av HB.out (Bl.prop _)⟩
   |true=>
    have hP:sP s.aj ki ro tg pt=true:=by unfold sP;rw[q1,q2,q3];rfl
    obtain rfl:E=true:=by rw[<-HE.out,hP]
    clear hP;go_wp2;go_ret;exact⟨rfl,av HB.out (Bl.prop _)⟩
  |true=>
   have Xl:(tg != -1)=false:=by simpa using q2
   have hP:sP s.aj ki ro tg pt=true:=by unfold sP;rw[q1,q2];rfl
   obtain rfl:E=true:=by rw[<-HE.out,hP]
   clear hP;go_wp2;go_ret;exact⟨rfl,av HB.out (Bl.prop _)⟩
end
open Go.RowKit Tryz
theorem NA{C:au}{s:ak}(h:C.f_ s=true):s.aj.length=C.aj.length/\s.used.length=C.acts.length/\s.marks.length=C.clauses.length:=by
 unfold au.f_ at h;simp only[bS]at h;have h1:=h.2.1;simp only[Qa,bS,beq_iff_eq]at h1;omega
end Go.Proofs.YtpmdedcnbockhaaGreatDoor

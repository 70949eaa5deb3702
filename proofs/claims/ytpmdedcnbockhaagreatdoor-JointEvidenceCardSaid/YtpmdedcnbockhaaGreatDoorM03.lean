/-
  Sys1; Sys2; Sys3; Prj1; Sys4
-/
import Derived.Test.YtpmdedcnbockhaaGreatDoorM02
set_option maxRecDepth 100000
set_option maxHeartbeats 8000000
namespace Go.Proofs.YtpmdedcnbockhaaGreatDoor
section
open Go.RowKit
def xY(C:aB)(ki ne pa:Int)(wa:Bool)(ml mg mb:Int)(mp:Bool):Bool:=(cond (wa||(decide (ml<1)||(mp&&(pa== -1)))) false (cond ((!(mg==0))&&((!(ki==1))||(decide (mg<0)||decide (ne<=mg)))) false (cond (ki==4) (mb== -1) (decide (0<=mb)&&decide (mb<C.aJ)))))
theorem Ls(v:CV)(C:aB)(ki ro ac ne:Int)(st:SV)(sl:Nat)(af gr:Int)(bu fi:Bool)(pa re vn vd un tg:Int)(wa:Bool)(ms ml mg mb:Int)(mp:Bool)(w:World):Calls Tryz.prog 143 #[v.val C,.agg #[.int .i64 ki,.int .i64 ro,.int .i64 ac,.int .i64 ne,.slice st.A sl st.c,.int .i64 af,.int .i64 gr,.bool bu,.bool fi,.int .i64 pa,.int .i64 re,.int .i64 vn,.int .i64 vd,.int .i64 un,.int .i64 tg,.bool wa],.agg #[.int .i64 ms,.int .i64 ml,.int .i64 mg,.int .i64 mb,.bool mp]] w (dX (.bool (xY C ki ne pa wa ml mg mb mp)) w):=by
 obtain⟨⟨g_,h_⟩,⟨ig,iq⟩,⟨jk,gD⟩,⟨iM,gB⟩,⟨gT,gU⟩⟩:=v;simp only[CV.val,CV.cells];rw[iR (xY C ki ne pa wa ml mg mb mp)];generalize hE:cond (xY C ki ne pa wa ml mg mb mp) true false=E;simp only[xY,Nb]at hE;go_enter Tryz.func143,Tryz.ntmps143;go_upto_region 1 with(fail)
 generalize hW0:World.alloc _ _=W0;obtain⟨HB,hh0,iU,zV⟩:=bx3 hW0;clear hW0;obtain⟨j5,j6,kE,lg,lq,l7,ny⟩:=Jt hh0;clear hh0;obtain⟨qW,qX,sW,xG,WU,ZE,acj,afr,afs,afu,abj,abk,abl,abm,abn,abo⟩:=ZB iU;clear iU;obtain⟨Lu,Lv,Lx,LA,afv⟩:=kc5 zV;clear zV;change Code.wp _ _ _ _ (Bl.val (⟨W0,aC _ _⟩:Bl W0));generalize(⟨W0,aC _ _⟩:Bl W0)=s0;repeat' (first|(replace hE:=u6 hE (by assumption))|(replace hE:=u_ hE (by assumption))|(replace hE:=mX hE;rcases hE with⟨q,q',hE⟩|⟨q,q',hE⟩)|(replace hE:=jH hE;rcases hE with⟨q,hE⟩|⟨q,hE⟩)|fail)
 all_goals
  subst hE;go_wp2_with (first|fail);first
   |(go_ret;exact⟨rfl,ay HB.out (Bl.prop _)⟩)
   |(refine aI (by kernel_rfl) (by kernel_rfl) ?_;(repeat(go_big_quiet_step (first|fail)));refine aS ?_;rintro _ ⟨zq,rfl⟩;go_wp2;go_ret;exact⟨rfl,ay HB.out (Bl.prop _)⟩)
def LB(ms ml mg mb:Int)(mp:Bool):Bool:=(ms==0)&&((ml==0)&&((mg==0)&&((mb== -1)&& !mp)))
theorem JK(w:World)(ms ml mg mb:Int)(mp:Bool):(binOp .eql 51 (.agg #[.int .i64 ms,.int .i64 ml,.int .i64 mg,.int .i64 mb,.bool mp]) (.agg #[.int .i64 0,.int .i64 0,.int .i64 0,.int .i64 (-1),.bool false])).run Tryz.prog w= .ok (.bool (LB ms ml mg mb mp)) w:=by
 rw[run_eql_struct];go_simp;unfold LB;by_cases h1:ms=0<;>by_cases h2:ml=0<;>by_cases h3:mg=0<;>by_cases h4:mb= -1<;>cases mp<;>simp[h1,h2,h3,h4]
def zx(C:aB)(ki ne af gr pa:Int)(wa:Bool)(ms ml mg mb:Int)(mp:Bool):Bool:=(cond (ms==0) ((!wa)&&(LB ms ml mg mb mp)) (cond (ms==1) (decide (ml<=af)&&(xY C ki ne pa wa ml mg mb mp)) (cond (ms==2) ((ki==1)&&(decide (ml<=gr)&&(xY C ki ne pa wa ml mg mb mp))) (cond ((ms==3)||((ms==4)||(ms==5))) ((ml==0)&&(decide (0<=mg)&&(decide (mg<=9)&&(decide (-1<=mb)&&(decide (mb<C.aJ)&&(!mp)))))) false))))
def aB.wu(C:aB)(k:aU)(m:aD):Bool:=zx C k.kind k.need k.after k.lZ k.pause k.wh m.status m.left m.got m.dQ m.paused
theorem JM(v:CV)(C:aB)(i:Nat)(k:aU)(m:aD)(w:World)(hC:cK w v C)(hk:C.clauses[i]?=some k):Calls Tryz.prog 105 #[v.val C,.int .i64 i,.agg #[.int .i64 m.status,.int .i64 m.left,.int .i64 m.got,.int .i64 m.dQ,.bool m.paused]] w (dX (.bool (C.wu k m)) w):=by
 have hil:i<C.clauses.length:=(bC.1 hk).1;obtain⟨b,off,⟨stA,Bv⟩,jB,hb,hcell,hst⟩:=hC.clause hk;obtain⟨⟨g_,h_⟩,⟨ig,iq⟩,⟨jk,gD⟩,⟨iM,gB⟩,⟨gT,gU⟩⟩:=v;simp only at jB;subst jB;obtain⟨ki,ro,ac,ne,start,af,gr,bu,fi,pa,re,⟨vn,vd⟩,un,tg,wa⟩:=k;obtain⟨ms,ml,mg,mb,mp⟩:=m;obtain⟨c0,c1,c2,c3,c4,c5,c6,c7,c8,c9,c10,c11,c12,c13,c14,c15⟩:=F9 (hcell w (aC _ _)) rfl;clear hC hst hk hcell;simp only[CV.val,CV.cells];have heq:=λ(w:World)=>JK w ms ml mg mb mp;have HR:=ah (λ(W:World)=>Ls (⟨⟨g_,h_⟩,⟨ig,iq⟩,⟨jk,gD⟩,⟨some ⟨b,off,none⟩,gB⟩,⟨gT,gU⟩⟩:CV) C ki ro ac ne ⟨stA,Bv⟩ start.length af gr bu fi pa re vn vd un tg wa ms ml mg mb mp W);simp only[CV.val,CV.cells]at HR;have i0:(0:Int)<=(i:Int):=by omega
 have i1:(i:Int)<(C.clauses.length:Int):=by omega
 show Calls _ _ _ _ (dX (.bool (zx C ki ne af gr pa wa ms ml mg mb mp)) w);rw[iR (zx C ki ne af gr pa wa ms ml mg mb mp)];generalize hE:cond (zx C ki ne af gr pa wa ms ml mg mb mp) true false=E;simp only[zx,Nb]at hE;go_enter Tryz.func105,Tryz.ntmps105;go_upto_region 2 with(fail)
 generalize hW0:World.alloc _ _=W0;obtain⟨HB,hh0,iU,zV⟩:=bx3 hW0;clear hW0;obtain⟨j5,j6,kE,lg,lq,l7,ny⟩:=Jt hh0;clear hh0;obtain⟨qW,qX,sW,xG,WU⟩:=kc5 iU;clear iU;obtain⟨Lu,Lv,Lx,LA,afv,ai_,aja,anW,anX,anY,alz,alA,alB,alC,alD,alE⟩:=ZB zV;clear zV;change Code.wp _ _ _ _ (Bl.val (⟨W0,aC _ _⟩:Bl W0));generalize(⟨W0,aC _ _⟩:Bl W0)=s0;clear c0 c1 c2 c3 c4 c5 c6 c7 c8 c9 c10 c11 c12 c13 c14 c15;repeat' (first|(replace hE:=u6 hE (by assumption))|(replace hE:=u_ hE (by assumption))|(replace hE:=mX hE;rcases hE with⟨q,q',hE⟩|⟨q,q',hE⟩)|(replace hE:=jH hE;rcases hE with⟨q,hE⟩|⟨q,hE⟩)|fail)
 all_goals
  subst hE;go_wp2_with (first|(go_at_call 143;refine dL (HR.out _) (by assumption) (λz=>?_)));first
   |(go_ret;exact⟨rfl,ay HB.out (Bl.prop _)⟩)
   |(refine aI (by kernel_rfl) (by kernel_rfl) ?_;(repeat(go_big_quiet_step (first|(go_at_call 143;exact Calls.dw (lit (HR.out _) (by assumption))))));refine aS ?_;rintro _ ⟨zq,rfl⟩;go_wp2;go_ret;exact⟨rfl,ay HB.out (Bl.prop _)⟩)
end
section
open Go.RowKit
def jT(is x:Int):Bool:=(cond (is==1) (!(x==0)) (cond (is==2) (x==3) (cond (is==3) (x==4) (cond (is==4) (x==5) false))))
def BL(ms:List aD)(x:Int):Int:=((ms[x.toNat]?).map (·.status)).getD 0
def dY(ms:List aD)(c:iW):Bool:=jT c.is (BL ms c.clause)
def lC(ms:List aD)(l:List iW):Bool:=l.all (dY ms)
def lX(ms:List aD)(k:aU)(m:aD):Bool:=(m.status==0)&&((!k.wh)&&lC ms k.start)
theorem Gm{ms:List aD}{l:List iW}{j:Nat}{x:iW}(hx:l[j]?=some x)(h:lC ms (l.take j)=true)(h2:dY ms x=true):lC ms (l.take (j+1))=true:=by
 obtain⟨hj,rfl⟩:=bC.1 hx;unfold lC at*;rw[List.take_succ_eq_append_getElem hj,List.all_append,h];simpa using h2
theorem l8{ms:List aD}{l:List iW}{j:Nat}{x:iW}(hx:l[j]?=some x)(h2:dY ms x=false):lC ms l=false:=by
 cases e:lC ms l with
 |false=>rfl
 |true=>
  unfold lC at e;rw[fE.1 e x (bT hx)]at h2;cases h2
theorem bF.mark{w:World}{v:TV}{s:ak}(h:bF w v s){i:Nat}{m:aD}(hm:s.marks[i]?=some m):
 ∃b off,v.m.A=some ⟨b,off,none⟩/\b<w.heap.size/\∀(i:Nat)(m:aD),s.marks[i]?=some m->∀W,Below w.heap.size w W->∀j,j<5->W.cell? ⟨b,off+i*5+j,none⟩=m.cells[j]?:=by
 have hi:i<s.marks.length:=(bC.1 hm).1;obtain⟨b,off,hA,hb,hc⟩:=h.marks.1.form (by omega) (by omega);refine⟨b,off,hA,hb,λi m hm W hW j hj=>?_⟩;have hi:i<s.marks.length:=(bC.1 hm).1;rw[hW.cell (p:=⟨b,off+i*5+j,none⟩) hb,lV,hc _ (by omega)];exact dh _ 5 (λ_=>rfl) s.marks i j m hm hj
theorem Kt(v:CV)(C:aB)(tv:TV)(s:ak)(i:Nat)(k:aU)(m:aD)(w:World)(hC:cK w v C)(hS:bF w tv s)(hk:C.clauses[i]?=some k)(hm:s.marks[i]?=some m)(hin:∀c∈k.start,0<=c.clause/\c.clause<s.marks.length):
 Calls Tryz.prog 104 #[v.val C,tv.val s,.int .i64 i] w (dX (.bool (lX s.marks k m)) w):=by
 have hil:i<C.clauses.length:=(bC.1 hk).1;have him:i<s.marks.length:=(bC.1 hm).1;obtain⟨b,off,⟨stA,Bv⟩,jB,hb,hcell,hst⟩:=hC.clause hk;obtain⟨mb,eH,hM0,hmb,hmc⟩:=hS.mark hm;obtain⟨⟨hA,hcp⟩,⟨uA,Bz⟩,⟨aA,Dc⟩,⟨kA,zw⟩,⟨oA,Df⟩⟩:=v;obtain⟨⟨WZ,W_⟩,⟨Xa,Xb⟩,⟨smA,Wu⟩⟩:=tv;simp only at jB hM0;subst jB hM0;have hmx:s.marks.length<=9223372036854775807:=by have h1:=hS.marks.2.2.1;have h2:=hS.marks.2.2.2;unfold maxLen at h2;omega
 have hsx:k.start.length<=9223372036854775807:=by have h1:=hst.2.2.1;have h2:=hst.2.2.2;unfold maxLen at h2;omega
 obtain⟨ki,ro,ac,ne,start,af,gr,bu,fi,pa,re,⟨vn,vd⟩,un,tg,wa⟩:=k;generalize hE:lX s.marks ⟨ki,ro,ac,ne,start,af,gr,bu,fi,pa,re,⟨vn,vd⟩,un,tg,wa⟩ m=E;simp only[lX]at hE;have HE:=ah hE;clear hE;have HST:=ah hst;clear hst;have sV:=ah hin;clear hin;clear hC hS;simp only[CV.val,CV.cells,TV.val,TV.cells,ak.cells];have i0:(0:Int)<=(i:Int):=by omega
 have i1:(i:Int)<(C.clauses.length:Int):=by omega
 have i2:(i:Int)<(s.marks.length:Int):=by omega
 simp only at hsx;go_enter Tryz.func104,Tryz.ntmps104;go_upto_region 1 with(fail)
 generalize hW0:World.alloc _ _=W0;obtain⟨HB,hh0,iU⟩:=Ko hW0;have HW0:=ah hW0.symm;clear hW0;obtain⟨j5,j6,kE,lg,lq,l7,ny⟩:=Jt hh0;clear hh0;obtain⟨qW,qX,sW,xG⟩:=kc4 iU;clear iU;change Code.wp _ _ _ _ (Bl.val (⟨W0,aC _ _⟩:Bl W0));generalize(⟨W0,aC _ _⟩:Bl W0)=s0;have c4:∀z:Bl W0,z.val.cell? ⟨b,off+i*16+4,none⟩=some (.slice stA start.length Bv):=λz=>hcell z.val (ay HB.out z.prop) 4 (by omega);have c15:∀z:Bl W0,z.val.cell? ⟨b,off+i*16+15,none⟩=some (.bool wa):=λz=>hcell z.val (ay HB.out z.prop) 15 (by omega);have m0:∀z:Bl W0,z.val.cell? ⟨mb,eH+i*5,none⟩=some (.int .i64 m.status):=λz=>hmc i m hm z.val (ay HB.out z.prop) 0 (by omega);have AA:Hid (∀(x:Int)(z:Bl W0),0<=x->x<(s.marks.length:Int)->z.val.cell? ⟨mb,eH+x.toNat*5,none⟩=some (.int .i64 (BL s.marks x))):=λx z h0 h1=>by
  obtain⟨a,ha⟩:∃a,s.marks[x.toNat]?=some a:=⟨s.marks[x.toNat]'(by omega),aW _⟩;have h:=hmc x.toNat a ha z.val (ay HB.out z.prop) 0 (by omega);rw[kH]at h;rw[h];simp[aD.cells,BL,ha]
 clear hcell hmc;have HK:=ah hk;clear hk;have HM:=ah hm;clear hm;cases q1:(m.status==0)with
 |false=>
  have Xc:(m.status !=0)=true:=by simpa using q1
  obtain rfl:E=false:=by rw[<-HE.out,q1];rfl
  go_wp2;go_ret;exact⟨rfl,ay HB.out (Bl.prop _)⟩
 |true=>
  have Xc:(m.status !=0)=false:=by simpa using q1
  cases wa with
  |true=>
   obtain rfl:E=false:=by rw[<-HE.out,q1];rfl
   go_wp2;go_ret;exact⟨rfl,ay HB.out (Bl.prop _)⟩
  |false=>
   have xW:=ah q1;go_wp2
   go_loopg [33] start.length (λgk v33 wr=>∃(j:Nat)(z:Bl W0),gk=start.length - j/\j<=start.length/\v33= .int .i64 j/\wr=z.val/\Hid (lC s.marks (start.take j)=true))
   case atStart=>exact⟨0,_,rfl,aZ _,rfl,rfl,rfl⟩
   case round=>
    obtain⟨j,z,eZ,hj,rfl,rfl,hpre⟩:=hrel;have iL:=ah eZ;clear eZ;by_cases hlt:j<start.length
    .obtain⟨⟨cl,is⟩,hx⟩:∃x,start[j]?=some x:=⟨start[j],aW hlt⟩
     obtain⟨b2,off2,hA2,hb2,hc2⟩:=(HST.out.below (by omega) (ay HB.out z.prop)).1.form (by omega) (by omega);try simp only at hA2
     subst hA2;have e0:z.val.cell? ⟨b2,off2+j*2,none⟩=some (.int .i64 cl):=by rw[hc2 _ (by omega)];exact dh iW.cells 2 (λ_=>rfl) start j 0 _ hx (by omega)
     have e1:z.val.cell? ⟨b2,off2+j*2+1,none⟩=some (.int .i64 is):=by rw[lV,hc2 _ (by omega)];exact dh iW.cells 2 (λ_=>rfl) start j 1 _ hx (by omega)
     clear hc2;obtain⟨cl0,cl1⟩:0<=cl/\cl<(s.marks.length:Int):=sV.out _ (bT hx);have e2:=AA.out cl z cl0 cl1;have hw2:W0.heap.size=w.heap.size+1+1:=by rw[HW0.out];simp
     have hl0:w.heap.size<z.val.heap.size:=by have h1:=z.prop.size;omega
     have hl1:w.heap.size+1<z.val.heap.size:=by have h1:=z.prop.size;omega
     have hl2:mb<z.val.heap.size:=by have h1:=z.prop.size;omega
     clear hw2;have HX:=ah hx;clear hx;have j1:(j:Int)<(start.length:Int):=by omega
     generalize hxx:BL s.marks cl=x at e2;have Uy:=ah hxx;clear hxx
     focus
      cases q1:(is==1)
      focus
       have acw:(is !=1)=true:=by simpa using q1
       cases q2:(is==2)
       focus
        have Xd:(is !=2)=true:=by simpa using q2
        cases q3:(is==3)
        focus
         have Xe:(is !=3)=true:=by simpa using q3
         cases q4:(is==4)
         focus
          have QA:(is !=4)=true:=by simpa using q4
          have hP:jT is x=false:=by unfold jT;rw[q1,q2,q3,q4];rfl
          have hch:dY s.marks ⟨cl,is⟩=false:=by unfold dY;rw[Uy.out];exact hP
          clear hP;obtain rfl:E=false:=by rw[<-HE.out,xW.out,l8 HX.out hch];rfl
          clear hch;go_wp2;go_ret;exact⟨rfl,ay HB.out (aN z.prop _)⟩
         focus
          have QA:(is !=4)=false:=by simpa using q4
          cases q5:(x==5)
          focus
           have acy:(x !=5)=true:=by simpa using q5
           have hP:jT is x=false:=by unfold jT;rw[q1,q2,q3,q4,q5];rfl
           have hch:dY s.marks ⟨cl,is⟩=false:=by unfold dY;rw[Uy.out];exact hP
           clear hP;obtain rfl:E=false:=by rw[<-HE.out,xW.out,l8 HX.out hch];rfl
           clear hch;go_wp2;go_ret;exact⟨rfl,ay HB.out (aN z.prop _)⟩
          focus
           have acy:(x !=5)=false:=by simpa using q5
           have hP:jT is x=true:=by unfold jT;rw[q1,q2,q3,q4,q5];rfl
           have hch:dY s.marks ⟨cl,is⟩=true:=by unfold dY;rw[Uy.out];exact hP
           clear hP;have HCH:=ah hch;clear hch
        rotate_left
        focus
         have Xe:(is !=3)=false:=by simpa using q3
         cases q4:(x==4)
         focus
          have QA:(x !=4)=true:=by simpa using q4
          have hP:jT is x=false:=by unfold jT;rw[q1,q2,q3,q4];rfl
          have hch:dY s.marks ⟨cl,is⟩=false:=by unfold dY;rw[Uy.out];exact hP
          clear hP;obtain rfl:E=false:=by rw[<-HE.out,xW.out,l8 HX.out hch];rfl
          clear hch;go_wp2;go_ret;exact⟨rfl,ay HB.out (aN z.prop _)⟩
         focus
          have QA:(x !=4)=false:=by simpa using q4
          have hP:jT is x=true:=by unfold jT;rw[q1,q2,q3,q4];rfl
          have hch:dY s.marks ⟨cl,is⟩=true:=by unfold dY;rw[Uy.out];exact hP
          clear hP;have HCH:=ah hch;clear hch
       rotate_left 2
       focus
        have Xd:(is !=2)=false:=by simpa using q2
        cases q3:(x==3)
        focus
         have Xe:(x !=3)=true:=by simpa using q3
         have hP:jT is x=false:=by unfold jT;rw[q1,q2,q3];rfl
         have hch:dY s.marks ⟨cl,is⟩=false:=by unfold dY;rw[Uy.out];exact hP
         clear hP;obtain rfl:E=false:=by rw[<-HE.out,xW.out,l8 HX.out hch];rfl
         clear hch;go_wp2;go_ret;exact⟨rfl,ay HB.out (aN z.prop _)⟩
        focus
         have Xe:(x !=3)=false:=by simpa using q3
         have hP:jT is x=true:=by unfold jT;rw[q1,q2,q3];rfl
         have hch:dY s.marks ⟨cl,is⟩=true:=by unfold dY;rw[Uy.out];exact hP
         clear hP;have HCH:=ah hch;clear hch
      rotate_left 3
      focus
       have acw:(is !=1)=false:=by simpa using q1
       cases q2:(x==0)
       focus
        have Xd:(x !=0)=true:=by simpa using q2
        have hP:jT is x=true:=by unfold jT;rw[q1,q2];rfl
        have hch:dY s.marks ⟨cl,is⟩=true:=by unfold dY;rw[Uy.out];exact hP
        clear hP;have HCH:=ah hch;clear hch
       rotate_left
       focus
        have Xd:(x !=0)=false:=by simpa using q2
        have hP:jT is x=false:=by unfold jT;rw[q1,q2];rfl
        have hch:dY s.marks ⟨cl,is⟩=false:=by unfold dY;rw[Uy.out];exact hP
        clear hP;obtain rfl:E=false:=by rw[<-HE.out,xW.out,l8 HX.out hch];rfl
        clear hch;go_wp2;go_ret;exact⟨rfl,ay HB.out (aN z.prop _)⟩
      all_goals
       go_wp2
       go_roundg (start.length - (j+1))
       case measure=>rw[iL.out];omega
       case rel=>exact⟨j+1,⟨_,aN z.prop _⟩,rfl,by omega,by go_num,rfl,Gm HX.out hpre.out HCH.out⟩
    .obtain rfl:j=start.length:=by omega
     have hcs:lC s.marks start=true:=by have h:=hpre.out;rwa [uY (bJ _)]at h
     obtain rfl:E=true:=by rw[<-HE.out,xW.out,hcs];rfl
     clear hcs;go_wp2;go_ret;exact⟨rfl,ay HB.out (Bl.prop _)⟩
end
section
open Go.RowKit
def Js(C:aB)(s:ak):Bool:=((!decide (s.day<0))&&((!decide (C.days<s.day))&&(((s.aj.length:Int)==(C.aj.length:Int))&&(((s.used.length:Int)==(C.acts.length:Int))&&((s.marks.length:Int)==(C.clauses.length:Int))))))
def uF(C:aB)(p:Int):Bool:=(!decide (p<0))&&(!decide (C.aJ<=p))
def nL(C:aB)(s:ak):Bool:=s.aj.all (uF C)
def BM(C:aB)(s:ak):Bool:=(List.range s.used.length).all (λi=>match s.used[i]?,C.acts[i]? with|some u,some a=> !(u&&(a.kind==1))|_,_=>true)
def xZ(C:aB)(s:ak):Bool:=(List.range s.marks.length).all (λi=>match s.marks[i]?,C.clauses[i]? with|some m,some k=>C.wu k m&& !(lX s.marks k m)|_,_=>true)
def aB.gF(C:aB)(s:ak):Bool:=C.valid&&(Js C s&&(nL C s&&(BM C s&&xZ C s)))
theorem BN{C:aB}{s:ak}{j:Nat}{x:Int}(hx:s.aj[j]?=some x)(h:uF C x=false):nL C s=false:=by
 cases e:nL C s with
 |false=>rfl
 |true=>
  unfold nL at e;rw[fE.1 e x (bT hx)]at h;cases h
theorem LC{C:aB}{s:ak}(h:∀(j:Nat)(x:Int),s.aj[j]?=some x->uF C x=true):nL C s=true:=by
 unfold nL;rw[fE];intro x hx;obtain⟨j,hj⟩:=wZ hx;exact h j x hj
theorem Uz{C:aB}{s:ak}{j:Nat}{a:jg}(hx:s.used[j]?=some true)(ha:C.acts[j]?=some a)(h:(a.kind==1)=true):BM C s=false:=by
 cases e:BM C s with
 |false=>rfl
 |true=>
  unfold BM at e;have hj:j<s.used.length:=(bC.1 hx).1;have:=fE.1 e j (by simpa using hj);simp only[hx,ha,h]at this;cases this
theorem UA{C:aB}{s:ak}(h:∀(j:Nat)(u:Bool)(a:jg),s.used[j]?=some u->C.acts[j]?=some a->(u&&(a.kind==1))=false):BM C s=true:=by
 unfold BM;rw[fE];intro i _;cases e:s.used[i]? with
 |none=>rfl
 |some u=>
  cases e2:C.acts[i]? with
  |none=>rfl
  |some a=>simp only[h i u a e e2];rfl
theorem Gn{C:aB}{s:ak}{j:Nat}{m:aD}{k:aU}(hm:s.marks[j]?=some m)(hk:C.clauses[j]?=some k)(h:(C.wu k m&& !(lX s.marks k m))=false):xZ C s=false:=by
 cases e:xZ C s with
 |false=>rfl
 |true=>
  unfold xZ at e;have hj:j<s.marks.length:=(bC.1 hm).1;have:=fE.1 e j (by simpa using hj);simp only[hm,hk,h]at this;cases this
theorem QB{C:aB}{s:ak}(h:∀(j:Nat)(m:aD)(k:aU),s.marks[j]?=some m->C.clauses[j]?=some k->(C.wu k m&& !(lX s.marks k m))=true):xZ C s=true:=by
 unfold xZ;rw[fE];intro i _;cases e:s.marks[i]? with
 |none=>rfl
 |some u=>
  cases e2:C.clauses[i]? with
  |none=>rfl
  |some a=>exact h i u a e e2
theorem ND{C:aB}(h:C.valid=true){i:Nat}{k:aU}(hk:C.clauses[i]?=some k):∀c∈k.start,0<=c.clause/\c.clause<C.clauses.length:=by
 unfold aB.valid at h;simp only[bP]at h;have h1:=Lr h.2.2 hk;unfold aB.jl at h1;simp only[bP]at h1;have h2:=h1.2.1;unfold nK at h2;intro c hc;have h3:=fE.1 h2 c hc;simp only[tL,bP,iV,decide_eq_false_iff_not]at h3;omega
theorem yg(v:CV)(C:aB)(tv:TV)(s:ak)(w:World)(hC:cK w v C)(hS:bF w tv s):Calls Tryz.prog 68 #[v.val C,tv.val s] w (dX (.bool (C.gF s)) w):=by
 obtain⟨⟨hA,hcp⟩,⟨uA,Bz⟩,⟨aA,Dc⟩,⟨kA,zw⟩,⟨oA,Df⟩⟩:=v;obtain⟨⟨WZ,W_⟩,⟨Xa,Xb⟩,⟨smA,Wu⟩⟩:=tv;have hhx:s.aj.length<=9223372036854775807:=by have h1:=hS.aj.2.2.1;have h2:=hS.aj.2.2.2;unfold maxLen at h2;omega
 have Zi:s.used.length<=9223372036854775807:=by have h1:=hS.used.2.2.1;have h2:=hS.used.2.2.2;unfold maxLen at h2;omega
 have hmx:s.marks.length<=9223372036854775807:=by have h1:=hS.marks.2.2.1;have h2:=hS.marks.2.2.2;unfold maxLen at h2;omega
 have HC:=ah hC;clear hC;have HS:=ah hS;clear hS;simp only[CV.val,CV.cells,TV.val,TV.cells,ak.cells];generalize hE:C.gF s=E;simp only[aB.gF]at hE;have HE:=ah hE;clear hE;go_enter Tryz.func68,Tryz.ntmps68;go_upto_region 1 with(fail)
 generalize hW0:World.alloc _ _=W0;obtain⟨HB,hh0,iU⟩:=Ko hW0;have HW0:=ah hW0.symm;clear hW0;obtain⟨j5,j6,kE,lg,lq,l7,ny⟩:=Jt hh0;clear hh0;obtain⟨qW,qX,sW,xG⟩:=kc4 iU;clear iU;change Code.wp _ _ _ _ (Bl.val (⟨W0,aC _ _⟩:Bl W0));generalize(⟨W0,aC _ _⟩:Bl W0)=s0;have hw2:W0.heap.size=w.heap.size+1+1:=by rw[HW0.out];simp
 have HW2:=ah hw2;clear hw2;have hcv:∀z:Bl W0,Calls Tryz.prog 31 #[.agg #[.int .i64 C.aJ,.slice hA C.aj.length hcp,.slice uA C.units.length Bz,.slice aA C.acts.length Dc,.slice kA C.clauses.length zw,.int .i64 C.days,.slice oA C.off.length Df]] z.val (FI C.errno z.val):=λz=>wm (⟨⟨hA,hcp⟩,⟨uA,Bz⟩,⟨aA,Dc⟩,⟨kA,zw⟩,⟨oA,Df⟩⟩:CV) C z.val (HC.out.below (ay HB.out z.prop));have UC:=ah hcv;clear hcv;go_wp2_with fail;refine(UC.out _).mono ?_;rintro e z ⟨n,rfl,hz⟩;obtain⟨z1,rfl⟩:=Bl.on hz;clear hz;cases hv:C.valid with
 |false=>
  obtain⟨f1,f2⟩:=aB.NC hv;obtain rfl:E=false:=by rw[<-HE.out,hv];rfl
  clear hv;go_wp2;go_ret;exact⟨rfl,ay HB.out (Bl.prop _)⟩
 |true=>
  rw[aB.Kr hv];have HV:=ah hv;clear hv;cases q1:decide (s.day<0)with
  |false=>
   cases q2:decide (C.days<s.day)with
   |false=>
    cases q3:((s.aj.length:Int)==(C.aj.length:Int))with
    |false=>
     have Xe:((s.aj.length:Int)!=(C.aj.length:Int))=true:=by simpa using q3
     have hP:Js C s=false:=by unfold Js;rw[q1,q2,q3];rfl
     obtain rfl:E=false:=by rw[<-HE.out,HV.out,hP];rfl
     clear hP;go_wp2;go_ret;exact⟨rfl,ay HB.out (Bl.prop _)⟩
    |true=>
     have Xe:((s.aj.length:Int)!=(C.aj.length:Int))=false:=by simpa using q3
     cases q4:((s.used.length:Int)==(C.acts.length:Int))with
     |false=>
      have QA:((s.used.length:Int)!=(C.acts.length:Int))=true:=by simpa using q4
      have hP:Js C s=false:=by unfold Js;rw[q1,q2,q3,q4];rfl
      obtain rfl:E=false:=by rw[<-HE.out,HV.out,hP];rfl
      clear hP;go_wp2;go_ret;exact⟨rfl,ay HB.out (Bl.prop _)⟩
     |true=>
      have QA:((s.used.length:Int)!=(C.acts.length:Int))=false:=by simpa using q4
      cases q5:((s.marks.length:Int)==(C.clauses.length:Int))with
      |false=>
       have acy:((s.marks.length:Int)!=(C.clauses.length:Int))=true:=by simpa using q5
       have hP:Js C s=false:=by unfold Js;rw[q1,q2,q3,q4,q5];rfl
       obtain rfl:E=false:=by rw[<-HE.out,HV.out,hP];rfl
       clear hP;go_wp2;go_ret;exact⟨rfl,ay HB.out (Bl.prop _)⟩
      |true=>
       have acy:((s.marks.length:Int)!=(C.clauses.length:Int))=false:=by simpa using q5
       have hP:Js C s=true:=by unfold Js;rw[q1,q2,q3,q4,q5];rfl
       have nC:=ah hP;clear hP;have hum:s.used.length=C.acts.length:=by have h:=(by assumption:((s.used.length:Int)==(C.acts.length:Int))=true);simp at h;omega
       have hmm:s.marks.length=C.clauses.length:=by have h:=(by assumption:((s.marks.length:Int)==(C.clauses.length:Int))=true);simp at h;omega
       have HUM:=ah hum;clear hum;have JN:=ah hmm;clear hmm;go_wp2
       go_loopg [59] s.aj.length (λgk v59 wr=>∃(j:Nat),gk=s.aj.length - j/\j<=s.aj.length/\v59= .int .i64 j/\z1.val=wr/\Hid (∀(i:Nat)(x:Int),i<j->s.aj[i]?=some x->uF C x=true))
       case atStart=>exact⟨0,rfl,aZ _,rfl,rfl,λi x h=>by omega⟩
       case round=>
        obtain⟨j,eZ,hj,rfl,rfl,hpre⟩:=hrel;have iL:=ah eZ;clear eZ;by_cases hlt:j<s.aj.length
        .obtain⟨b,off,jB,hbl,hcell⟩:=(HS.out.below (ay HB.out z1.prop)).aj.1.form (by omega) (by omega)
         simp only at jB;subst jB;obtain⟨d,hd⟩:∃d,s.aj[j]?=some d:=⟨s.aj[j],aW hlt⟩;have kx:z1.val.cell? ⟨b,off+j,none⟩=some (.int .i64 d):=by rw[hcell _ (by omega)];simp[aY,hd]
         clear hcell;have HD:=ah hd;clear hd;have j1:(j:Int)<(s.aj.length:Int):=by omega
         cases p1:decide (d<0)with
         |true=>
          obtain rfl:E=false:=by rw[<-HE.out,HV.out,nC.out,BN HD.out (by unfold uF;rw[p1];rfl)];rfl
          go_wp2;go_ret;exact⟨rfl,ay HB.out (Bl.prop _)⟩
         |false=>
          cases p2:decide (C.aJ<=d)with
          |true=>
           obtain rfl:E=false:=by rw[<-HE.out,HV.out,nC.out,BN HD.out (by unfold uF;rw[p1,p2];rfl)];rfl
           go_wp2;go_ret;exact⟨rfl,ay HB.out (Bl.prop _)⟩
          |false=>
           have En:Hid (uF C d=true):=by show _=_;unfold uF;rw[p1,p2];rfl
           go_wp2
           go_roundg (s.aj.length - (j+1))
           case measure=>rw[iL.out];omega
           case rel=>exact⟨j+1,rfl,by omega,by go_num,rfl,λi x hi hx=>by
            by_cases e:i=j
            .subst e
             rw[HD.out]at hx;injection hx with hx
             subst hx;exact En.out
            .exact hpre.out i x (by omega) hx⟩
        .obtain rfl:j=s.aj.length:=by omega
         have HSH:Hid (nL C s=true):=LC (λi x hx=>hpre.out i x (bC.1 hx).1 hx);go_wp2
         go_loopg [75] s.used.length (λgk v75 wr=>∃(j:Nat),gk=s.used.length - j/\j<=s.used.length/\v75= .int .i64 j/\z1.val=wr/\Hid (∀(i:Nat)(u:Bool)(a:jg),i<j->s.used[i]?=some u->C.acts[i]?=some a->(u&&(a.kind==1))=false))
         case atStart=>exact⟨0,rfl,aZ _,rfl,rfl,λi u a h=>by omega⟩
         case round=>
          obtain⟨j,eZ,hj,rfl,rfl,Kq⟩:=hrel;have Fg:=ah eZ;clear eZ;by_cases hlt:j<s.used.length
          .obtain⟨b,off,jB,hbl,hcell⟩:=(HS.out.below (ay HB.out z1.prop)).used.1.form (by omega) (by omega)
           simp only at jB;subst jB;obtain⟨d,hd⟩:∃d,s.used[j]?=some d:=⟨s.used[j],aW hlt⟩;obtain⟨a,ha⟩:∃a,C.acts[j]?=some a:=⟨C.acts[j]'(by rw[<-HUM.out];exact hlt),aW _⟩;obtain⟨b2,off2,hA1,hb2,hcell2⟩:=HC.out.act ha;simp only at hA1;subst hA1;have kx:z1.val.cell? ⟨b,off+j,none⟩=some (.bool d):=by rw[hcell _ (by omega)];simp[jh,hd]
           have ky:z1.val.cell? ⟨b2,off2+j*7,none⟩=some (.int .i64 a.kind):=hcell2 z1.val (ay HB.out z1.prop) 0 (by omega);clear hcell hcell2;have HD:=ah hd;clear hd;have HA:=ah ha;clear ha;have j1:(j:Int)<(s.used.length:Int):=by omega
           have j2:(j:Int)<(C.acts.length:Int):=by have h:=HUM.out;omega
           cases d with
           |false=>
            go_wp2
            go_roundg (s.used.length - (j+1))
            case measure=>rw[Fg.out];omega
            case rel=>exact⟨j+1,rfl,by omega,by go_num,rfl,λi u a hi hx hy=>by
             by_cases e:i=j
             .subst e
              rw[HD.out]at hx;injection hx with hx
              subst hx;rfl
             .exact Kq.out i u a (by omega) hx hy⟩
           |true=>
            cases p1:(a.kind==1)with
            |true=>
             obtain rfl:E=false:=by rw[<-HE.out,HV.out,nC.out,HSH.out,Uz HD.out HA.out p1];rfl
             go_wp2;go_ret;exact⟨rfl,ay HB.out (Bl.prop _)⟩
            |false=>
             go_wp2
             go_roundg (s.used.length - (j+1))
             case measure=>rw[Fg.out];omega
             case rel=>exact⟨j+1,rfl,by omega,by go_num,rfl,λi u a' hi hx hy=>by
              by_cases e:i=j
              .subst e
               rw[HA.out]at hy;injection hy with hy
               subst hy;rw[p1];cases u<;>rfl
              .exact Kq.out i u a' (by omega) hx hy⟩
          .obtain rfl:j=s.used.length:=by omega
           have HSU:Hid (BM C s=true):=UA (λi u a hx hy=>Kq.out i u a (bC.1 hx).1 hx hy);go_wp2
           go_loopg [94] s.marks.length (λgk v94 wr=>∃(j:Nat)(z:Bl W0),gk=s.marks.length - j/\j<=s.marks.length/\v94= .int .i64 j/\wr=z.val/\Hid (∀(i:Nat)(m:aD)(k:aU),i<j->s.marks[i]?=some m->C.clauses[i]?=some k->(C.wu k m&& !(lX s.marks k m))=true))
           case atStart=>exact⟨0,_,rfl,aZ _,rfl,rfl,λi m k h=>by omega⟩
           case round=>
            obtain⟨j,z,eZ,hj,rfl,rfl,abp⟩:=hrel;have ajc:=ah eZ;clear eZ;by_cases hlt:j<s.marks.length
            .obtain⟨m,hm⟩:∃m,s.marks[j]?=some m:=⟨s.marks[j],aW hlt⟩
             obtain⟨k,hk⟩:∃k,C.clauses[j]?=some k:=⟨C.clauses[j]'(by rw[<-JN.out];exact hlt),aW _⟩;have hc1:∀y:Bl W0,Calls Tryz.prog 105 #[.agg #[.int .i64 C.aJ,.slice hA C.aj.length hcp,.slice uA C.units.length Bz,.slice aA C.acts.length Dc,.slice kA C.clauses.length zw,.int .i64 C.days,.slice oA C.off.length Df],.int .i64 j,.agg #[.int .i64 m.status,.int .i64 m.left,.int .i64 m.got,.int .i64 m.dQ,.bool m.paused]] y.val (dX (.bool (C.wu k m)) y.val):=λy=>JM (⟨⟨hA,hcp⟩,⟨uA,Bz⟩,⟨aA,Dc⟩,⟨kA,zw⟩,⟨oA,Df⟩⟩:CV) C j k m y.val (HC.out.below (ay HB.out y.prop)) hk;have hc2:∀y:Bl W0,Calls Tryz.prog 104 #[.agg #[.int .i64 C.aJ,.slice hA C.aj.length hcp,.slice uA C.units.length Bz,.slice aA C.acts.length Dc,.slice kA C.clauses.length zw,.int .i64 C.days,.slice oA C.off.length Df],.agg #[.int .i64 s.day,.slice WZ s.aj.length W_,.slice Xa s.used.length Xb,.slice smA s.marks.length Wu],.int .i64 j] y.val (dX (.bool (lX s.marks k m)) y.val):=λy=>Kt (⟨⟨hA,hcp⟩,⟨uA,Bz⟩,⟨aA,Dc⟩,⟨kA,zw⟩,⟨oA,Df⟩⟩:CV) C (⟨⟨WZ,W_⟩,⟨Xa,Xb⟩,⟨smA,Wu⟩⟩:TV) s j k m y.val (HC.out.below (ay HB.out y.prop)) (HS.out.below (ay HB.out y.prop)) hk hm (λc hc=>by rw[JN.out];exact ND HV.out hk c hc);obtain⟨b,off,jB,hbl,hcell⟩:=HS.out.mark hm;simp only at jB;subst jB;have hmc:=λy:Bl W0=>hcell j m hm y.val (ay HB.out y.prop);clear hcell;have HM:=ah hm;clear hm;have HK:=ah hk;clear hk;generalize afw:C.wu k m=v1 at hc1;generalize afx:lX s.marks k m=v2 at hc2;have UD:=ah afw;clear afw;have HV2:=ah afx;clear afx;obtain⟨ms,ml,mg,mb,mp⟩:=m;have e0:∀y:Bl W0,y.val.cell? ⟨b,off+j*5,none⟩=some (.int .i64 ms):=λy=>hmc y 0 (by omega);have e1:∀y:Bl W0,y.val.cell? ⟨b,off+j*5+1,none⟩=some (.int .i64 ml):=λy=>hmc y 1 (by omega);have e2:∀y:Bl W0,y.val.cell? ⟨b,off+j*5+2,none⟩=some (.int .i64 mg):=λy=>hmc y 2 (by omega);have e3:∀y:Bl W0,y.val.cell? ⟨b,off+j*5+3,none⟩=some (.int .i64 mb):=λy=>hmc y 3 (by omega);have e4:∀y:Bl W0,y.val.cell? ⟨b,off+j*5+4,none⟩=some (.bool mp):=λy=>hmc y 4 (by omega);clear hmc;simp only at hc1;have AB:=ah hc1;clear hc1;have LD:=ah hc2;clear hc2;have j0:(0:Int)<=(j:Int):=by omega
             have j1:(j:Int)<(s.marks.length:Int):=by omega
             cases v1 with
             |false=>
              obtain rfl:E=false:=by rw[<-HE.out,HV.out,nC.out,HSH.out,HSU.out,Gn HM.out HK.out (by rw[UD.out];rfl)];rfl
              go_wp2;refine aI (by kernel_rfl) (by kernel_rfl) ?_;(repeat(go_big_quiet_step ((first|(go_at_call 105;exact Calls.dw (AB.out _))|(go_at_call 104;exact Calls.dw (LD.out _))))));refine aS ?_;rintro _ ⟨zq,rfl⟩;go_wp2;go_ret;exact⟨rfl,ay HB.out (Bl.prop _)⟩
             |true=>
              cases v2 with
              |true=>
               obtain rfl:E=false:=by rw[<-HE.out,HV.out,nC.out,HSH.out,HSU.out,Gn HM.out HK.out (by rw[UD.out,HV2.out];rfl)];rfl
               go_wp2;refine aI (by kernel_rfl) (by kernel_rfl) ?_;(repeat(go_big_quiet_step ((first|(go_at_call 105;exact Calls.dw (AB.out _))|(go_at_call 104;exact Calls.dw (LD.out _))))));refine aS ?_;rintro _ ⟨zq,rfl⟩;go_wp2;go_ret;exact⟨rfl,ay HB.out (Bl.prop _)⟩
              |false=>
               go_wp2;refine aI (by kernel_rfl) (by kernel_rfl) ?_;(repeat(go_big_quiet_step ((first|(go_at_call 105;exact Calls.dw (AB.out _))|(go_at_call 104;exact Calls.dw (LD.out _))))));refine aS ?_;rintro _ ⟨zq,rfl⟩;go_wp2
               go_roundg (s.marks.length - (j+1))
               case measure=>rw[ajc.out];omega
               case rel=>exact⟨j+1,zq,rfl,by omega,by go_num,rfl,λi m' k' hi hx hy=>by
                by_cases e:i=j
                .subst e
                 rw[HM.out]at hx;rw[HK.out]at hy;injection hx with hx
                 injection hy with hy
                 subst hx hy;rw[UD.out,HV2.out];rfl
                .exact abp.out i m' k' (by omega) hx hy⟩
            .obtain rfl:j=s.marks.length:=by omega
             obtain rfl:E=true:=by rw[<-HE.out,HV.out,nC.out,HSH.out,HSU.out,QB (λi m k hx hy=>abp.out i m k (bC.1 hx).1 hx hy)];rfl
             go_wp2;go_ret;exact⟨rfl,ay HB.out (Bl.prop _)⟩
   |true=>
    have hP:Js C s=false:=by unfold Js;rw[q1,q2];rfl
    obtain rfl:E=false:=by rw[<-HE.out,HV.out,hP];rfl
    clear hP;go_wp2;go_ret;exact⟨rfl,ay HB.out (Bl.prop _)⟩
  |true=>
   have hP:Js C s=false:=by unfold Js;rw[q1];rfl
   obtain rfl:E=false:=by rw[<-HE.out,HV.out,hP];rfl
   clear hP;go_wp2;go_ret;exact⟨rfl,ay HB.out (Bl.prop _)⟩
end
section
open Go.RowKit
def fF(l:List Int)(x:Int):Int:=(l[x.toNat]?).getD 0
def vw(hs:List Int)(ki ro tg pt:Int):Bool:=(cond ((!(ki==1))||((tg== -1)||(fF hs tg==pt))) true ((!(ro== -1))&&(fF hs ro==pt)))
def Ku(s:ak)(a:jg)(p:Int):Bool:=vw s.aj a.kind a.role a.tgt p
theorem Xf(v:CV)(C:aB)(tv:TV)(s:ak)(pt:Int)(i:Nat)(a:jg)(w:World)(hC:cK w v C)(hS:bF w tv s)(ha:C.acts[i]?=some a)(hpos:0<s.aj.length)
 (hto:(a.kind==1)=true->(a.tgt== -1)=false->0<=a.tgt/\a.tgt<s.aj.length)(hro:(a.role== -1)=false->0<=a.role/\a.role<s.aj.length):
 Calls Tryz.prog 46 #[v.val C,tv.val s,.int .i64 pt,.int .i64 i] w (dX (.bool (Ku s a pt)) w):=by
 have hil:i<C.acts.length:=(bC.1 ha).1;obtain⟨b,off,jB,hbl,hcell⟩:=hC.act ha;obtain⟨hb,hoff,hH0,hhb,ZI⟩:=hS.aj.1.form hpos (by omega);obtain⟨⟨hA,hcp⟩,⟨uA,Bz⟩,⟨aA,Dc⟩,⟨kA,zw⟩,⟨oA,Df⟩⟩:=v;obtain⟨⟨WZ,W_⟩,⟨Xa,Xb⟩,⟨smA,Wu⟩⟩:=tv;simp only at jB hH0;subst jB hH0;have hhx:s.aj.length<=9223372036854775807:=by have h1:=hS.aj.2.2.1;have h2:=hS.aj.2.2.2;unfold maxLen at h2;omega
 obtain⟨ki,ro,gi,tg,un,⟨ln,ld⟩⟩:=a;generalize hE:Ku s ⟨ki,ro,gi,tg,un,⟨ln,ld⟩⟩ pt=E;simp only[Ku]at hE;have HE:=ah hE;clear hE;simp only at hto hro;have HTO:=ah hto;clear hto;have rX:=ah hro;clear hro;clear hC hS ha;simp only[CV.val,CV.cells,TV.val,TV.cells,ak.cells];have i0:(0:Int)<=(i:Int):=by omega
 have i1:(i:Int)<(C.acts.length:Int):=by omega
 obtain⟨c0,c1,c2,c3,c4,c5,c6⟩:=rw7 (hcell w (aC _ _)) rfl;clear hcell;go_enter Tryz.func46,Tryz.ntmps46;go_upto_region 2 with(fail)
 generalize hW0:World.alloc _ _=W0;obtain⟨HB,hh0,iU,zV⟩:=bx3 hW0;clear hW0;obtain⟨j5,j6,kE,lg,lq,l7,ny⟩:=Jt hh0;clear hh0;obtain⟨qW,qX,sW,xG⟩:=kc4 iU;clear iU;obtain⟨Lu,Lv,Lx,LA,afv,ai_,aja⟩:=Jt zV;clear zV;change Code.wp _ _ _ _ (Bl.val (⟨W0,aC _ _⟩:Bl W0));generalize(⟨W0,aC _ _⟩:Bl W0)=s0;clear c0 c1 c2 c3 c4 c5 c6;have HHC:Hid (∀x:Int,0<=x->x<(s.aj.length:Int)->∀z:Bl W0,z.val.cell? ⟨hb,hoff+x.toNat,none⟩=some (.int .i64 (fF s.aj x))):=λx h0 h1 z=>by
  have hx:x.toNat<s.aj.length:=by omega
  rw[(ay HB.out z.prop).cell (p:=⟨hb,hoff+x.toNat,none⟩) hhb,ZI _ (by omega)];simp[aY,fF,hx]
 clear ZI;cases q1:(ki==1)with
 |false=>
  have acw:(ki !=1)=true:=by simpa using q1
  have hP:vw s.aj ki ro tg pt=true:=by unfold vw;rw[q1];rfl
  obtain rfl:E=true:=by rw[<-HE.out,hP]
  clear hP;go_wp2;go_ret;exact⟨rfl,ay HB.out (Bl.prop _)⟩
 |true=>
  have acw:(ki !=1)=false:=by simpa using q1
  cases q2:(tg== -1)with
  |false=>
   have Xd:(tg != -1)=true:=by simpa using q2
   obtain⟨tg0,tg1⟩:=HTO.out (by assumption) (by assumption);have an4:=HHC.out tg tg0 tg1;cases q3:(fF s.aj tg==pt)with
   |false=>
    cases q4:(ro== -1)with
    |false=>
     have QA:(ro != -1)=true:=by simpa using q4
     obtain⟨ro0,ro1⟩:=rX.out (by assumption);have an7:=HHC.out ro ro0 ro1;cases q5:(fF s.aj ro==pt)with
     |false=>
      have hP:vw s.aj ki ro tg pt=false:=by unfold vw;rw[q1,q2,q3,q4,q5];rfl
      obtain rfl:E=false:=by rw[<-HE.out,hP]
      clear hP;go_wp2;go_ret;exact⟨rfl,ay HB.out (Bl.prop _)⟩
     |true=>
      have hP:vw s.aj ki ro tg pt=true:=by unfold vw;rw[q1,q2,q3,q4,q5];rfl
      obtain rfl:E=true:=by rw[<-HE.out,hP]
      clear hP;go_wp2;go_ret;exact⟨rfl,ay HB.out (Bl.prop _)⟩
    |true=>
     have QA:(ro != -1)=false:=by simpa using q4
     have hP:vw s.aj ki ro tg pt=false:=by unfold vw;rw[q1,q2,q3,q4];rfl
     obtain rfl:E=false:=by rw[<-HE.out,hP]
     clear hP;go_wp2;go_ret;exact⟨rfl,ay HB.out (Bl.prop _)⟩
   |true=>
    have hP:vw s.aj ki ro tg pt=true:=by unfold vw;rw[q1,q2,q3];rfl
    obtain rfl:E=true:=by rw[<-HE.out,hP]
    clear hP;go_wp2;go_ret;exact⟨rfl,ay HB.out (Bl.prop _)⟩
  |true=>
   have Xd:(tg != -1)=false:=by simpa using q2
   have hP:vw s.aj ki ro tg pt=true:=by unfold vw;rw[q1,q2];rfl
   obtain rfl:E=true:=by rw[<-HE.out,hP]
   clear hP;go_wp2;go_ret;exact⟨rfl,ay HB.out (Bl.prop _)⟩
end
open Go.RowKit
theorem NG{C:aB}{s:ak}(h:C.gF s=true):s.aj.length=C.aj.length/\s.used.length=C.acts.length/\s.marks.length=C.clauses.length:=by
 unfold aB.gF at h;simp only[bP]at h;have h1:=h.2.1;simp only[Js,bP,beq_iff_eq]at h1;omega
end Go.Proofs.YtpmdedcnbockhaaGreatDoor

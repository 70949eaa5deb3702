/-
  Con5; Con6; Con7; Con8
-/
import Derived.Test.YtpmdedcnbockhaaGreatDoorP01
set_option maxRecDepth 100000
set_option maxHeartbeats 8000000
namespace Go.Proofs.YtpmdedcnbockhaaGreatDoor
section
open Go.RowKit
def pq(us:List fJ)(x:Int):Bool:=decide (0<=x)&&decide (x<us.length)
theorem Pt{us:List fJ}{x:Int}(h:pq us x=true):(0:Int)<=x/\x<(us.length:Int):=by simpa [pq]using h
def Fq(us:List fJ)(x:Int):Int:=((us[x.toNat]?).map (·.kind)).getD 0
def Fu(us:List fJ)(x:Int):Int:=((us[x.toNat]?).map (·.base)).getD 0
def abk(i:Nat)(nm:ByteArray):Bool:=((!decide (20<=(i:Int)))&&(!nm.toList.isEmpty))
def abl(ki fn fd:Int):Bool:=(((ki==1)||(ki==2))&&((dI.ok ⟨fn,fd⟩)&&(!decide (fn<=0))))
def abm(us:List fJ)(ki ba:Int):Bool:=((pq us ba)&&(((Fq us ba)==ki)&&((Fu us ba)==ba)))
def abn(i:Nat)(ba fn fd:Int):Bool:=((!(ba==(i:Int)))||((fn==1)&&(fd==1)))
def newName(l:List fJ)(nm:ByteArray):Bool:=l.all (λu=> !(u.name.toList==nm.toList))
def wJ(us:List fJ)(i:Nat)(u:fJ):Bool:=
 abk i u.name&&(newName (us.take i) u.name&&(abl u.kind u.factor.num u.factor.den&&(abm us u.kind u.base&&abn i u.base u.factor.num u.factor.den)))
theorem Kv{l:List fJ}{j:Nat}{x:fJ}{nm:ByteArray}(hx:l[j]?=some x)(h:newName (l.take j) nm=true)(h2:(x.name.toList==nm.toList)=false):newName (l.take (j+1)) nm=true:=by
 obtain⟨hj,rfl⟩:=aZ.1 hx;unfold newName at*;rw[List.take_succ_eq_append_getElem hj,List.all_append,h];simpa using h2
theorem ME{l:List fJ}{i j:Nat}{x:fJ}{nm:ByteArray}(hx:l[j]?=some x)(hj:j<i)(h2:(x.name.toList==nm.toList)=true):newName (l.take i) nm=false:=by
 cases e:newName (l.take i) nm with
 |false=>rfl
 |true=>
  unfold newName at e;have hx2:(l.take i)[j]?=some x:=by rw[lZ,if_pos hj];exact hx
  have:=fq.1 e x (cK hx2);rw[h2]at this;cases this
theorem MF(A:Option Addr)(c:Nat)(us:List fJ)(x:Int)(w:World):Calls Tryz.prog 157 #[.slice A us.length c,.int .i64 x] w (dx (.bool (pq us x)) w):=by
 generalize hE:pq us x=E;cases h1:decide (0<=x)with
 |false=>
  obtain rfl:E=false:=by rw[<-hE];unfold pq;rw[h1];rfl
  go_enter Tryz.func157,Tryz.ntmps157;go_wp2;go_ret;exact⟨rfl,aD _ _⟩
 |true=>
  obtain rfl:E=decide (x<(us.length:Int)):=by rw[<-hE];unfold pq;rw[h1];rfl
  clear hE;go_enter Tryz.func157,Tryz.ntmps157;go_wp2;go_ret;exact⟨rfl,aD _ _⟩
theorem Fv(w:World)(n d:Int):(binOp .eql 107 (.agg #[.int .i64 n,.int .i64 d]) (.agg #[.int .i64 1,.int .i64 1])).run Tryz.prog w= .ok (.bool ((n==1)&&(d==1))) w:=by
 rw[run_eql_struct];go_simp;by_cases h1:n=1<;>by_cases h2:d=1<;>simp[h1,h2]
theorem yj(i:Nat)(nm:ByteArray):abk i nm= !(decide (20<=(i:Int))||nm.toList.isEmpty):=by unfold abk;rw[Bool.not_or]
theorem EL(ki fn fd:Int):abl ki fn fd= !(((!(ki==1))&&(!(ki==2)))||((!(dI.ok ⟨fn,fd⟩))||decide (fn<=0))):=by unfold abl;cases ki==1<;>cases ki==2<;>cases dI.ok ⟨fn,fd⟩<;>cases decide (fn<=0)<;>rfl
theorem Kw(us:List fJ)(ki ba:Int):abm us ki ba= !((!(pq us ba))||((!(Fq us ba==ki))||(!(Fu us ba==ba)))):=by unfold abm;cases pq us ba<;>cases Fq us ba==ki<;>cases Fu us ba==ba<;>rfl
theorem IV(A:Option Addr)(c:Nat)(us:List fJ)(i:Nat)(u:fJ)(w:World)(hA:At w 5 A us.length c (us.flatMap fJ.cells))(hk:us[i]?=some u)(hn:us.length<=1000):
 Calls Tryz.prog 133 #[.slice A us.length c,.int .i64 i] w (dx (.bool (wJ us i u)) w):=by
 have hil:i<us.length:=(aZ.1 hk).1;obtain⟨b,off,rfl,hb,hcell⟩:=hA.1.form (by omega) (by omega);have hcap:us.length<=c:=hA.2.2.1;have hcx:c<=maxLen:=hA.2.2.2;unfold maxLen at hcx;clear hA;have hg:∀(x:Nat)(a:fJ)(j:Nat),us[x]?=some a->j<5->w.cell? ⟨b,off+x*5+j,none⟩=a.cells[j]?:=λx a j ha hj=>by
  have hx:x<us.length:=(aZ.1 ha).1;rw[iM,hcell _ (by omega)];exact bG _ 5 (λ_=>rfl) us x j a ha hj
 clear hcell;obtain⟨nm,ki,ba,⟨fn,fd⟩⟩:=u;generalize hE:wJ us i ⟨nm,ki,ba,⟨fn,fd⟩⟩=E;simp only[wJ]at hE;have HE:=ah hE;clear hE;have c0:w.cell? ⟨b,off+i*5,none⟩=some (.string nm):=hg i _ 0 hk (by omega);have c1:w.cell? ⟨b,off+i*5+1,none⟩=some (.int .i64 ki):=hg i _ 1 hk (by omega);have c2:w.cell? ⟨b,off+i*5+2,none⟩=some (.int .i64 ba):=hg i _ 2 hk (by omega);have c3:w.cell? ⟨b,off+i*5+3,none⟩=some (.int .i64 fn):=hg i _ 3 hk (by omega);have c4:w.cell? ⟨b,off+i*5+4,none⟩=some (.int .i64 fd):=hg i _ 4 hk (by omega);have HG:=ah hg;clear hg;have HK:=ah hk;clear hk;have HR:=ah (λW:World=>wH ⟨fn,fd⟩ W);have HI:=ah (λ(x:Int)(W:World)=>MF (some ⟨b,off,none⟩) c us x W);obtain⟨b1,hb1⟩:∃b,((fn==1)&&(fd==1))=b:=⟨_,rfl⟩;have heq:=λ(w:World)=>Fv w fn fd;rw[hb1]at heq;have HB1:Hid (abn i ba fn fd=((!(ba==(i:Int)))||b1)):=by show _=_;unfold abn;rw[hb1]
 have i0:(0:Int)<=(i:Int):=by omega
 have i1:(i:Int)<(us.length:Int):=by omega
 have i2:(i:Int)<=(c:Int):=by omega
 clear hb1;go_enter Tryz.func133,Tryz.ntmps133;go_upto_region 2 with(fail)
 generalize hW0:World.alloc _ _=W0;obtain⟨HB,hh0⟩:=bx1 hW0;clear hW0;obtain⟨jA,jB,jK,j4,j5⟩:=kc5 hh0;clear hh0;change Code.wp _ _ _ _ (Bl.val (⟨W0,aD _ _⟩:Bl W0));generalize(⟨W0,aD _ _⟩:Bl W0)=s0;clear c0 c1 c2 c3 c4;have Fw:Hid (∀(s:Bl W0)(x:Nat)(a:fJ)(j:Nat),us[x]?=some a->j<5->s.val.cell? ⟨b,off+x*5+j,none⟩=a.cells[j]?):=λs x a j ha hj=>by
  rw[(ay HB.out s.prop).cell (p:=⟨b,off+x*5+j,none⟩) hb];exact HG.out x a j ha hj
 have HUB:Hid (pq us ba=true->0<=ba/\ba<(us.length:Int)/\(∀z:Bl W0,z.val.cell? ⟨b,off+ba.toNat*5+1,none⟩=some (.int .i64 (Fq us ba)))/\∀z:Bl W0,z.val.cell? ⟨b,off+ba.toNat*5+2,none⟩=some (.int .i64 (Fu us ba))):=λh=>by
  obtain⟨x0,x1⟩:=Pt h;obtain⟨a,ha⟩:∃a,us[ba.toNat]?=some a:=⟨us[ba.toNat]'(by omega),aT _⟩;refine⟨x0,x1,λz=>?_,λz=>?_⟩
  .rw[Fw.out z _ _ 1 ha (by omega)];simp[Fq,ha,fJ.cells]
  .rw[Fw.out z _ _ 2 ha (by omega)];simp[Fu,ha,fJ.cells]
 obtain⟨b1,mE⟩:∃b,Hid ((decide (20<=(i:Int))||nm.toList.isEmpty)=b):=⟨_,rfl⟩;go_upto_region 2 with(fail)
 go_cut [18] (λc wx=>c= .bool b1/\∃z:Bl W0,wx=z.val)
 case first=>
  have hE:=(iJ (decide (20<=(i:Int))||nm.toList.isEmpty)).symm.trans mE.out;simp only[Me]at hE;repeat' (first|(replace hE:=uh hE (by assumption))|(replace hE:=uj hE (by assumption))|(replace hE:=l7 hE;rcases hE with⟨q,q',hE⟩|⟨q,q',hE⟩)|(replace hE:=jo hE;rcases hE with⟨q,hE⟩|⟨q,hE⟩)|fail)
  all_goals
   subst hE
   as_aux_lemma=>
    go_wp2_with (first|(go_at_call 134;refine dJ (HR.out _) (by assumption) (λz=>?_))|(go_at_call 157;refine dJ (HI.out _ _) (by assumption) (λz=>?_)))
    go_meet
    exact⟨rfl,_,rfl⟩
 case rest=>
  obtain⟨rfl,z1,rfl⟩:=hcut;cases b1 with
  |false=>
   as_aux_lemma=>
    have uT:=mE;clear mE;go_wp2
    go_loopg [23] i (λgk v23 wr=>∃(j:Nat)(z:Bl W0),gk=i - j/\j<=i/\v23= .int .i64 j/\wr=z.val/\Hid (newName (us.take j) nm=true))
    case atStart=>exact⟨0,_,rfl,aV _,rfl,rfl,rfl⟩
    case round=>
     obtain⟨j,z,eH,hj,rfl,rfl,hpre⟩:=hrel;have iB:=ah eH;clear eH;by_cases hlt:j<i
     .obtain⟨⟨om,ok,ob,⟨ofn,ofd⟩⟩,hx⟩:∃x,us[j]?=some x:=⟨us[j]'(by omega),aT _⟩
      obtain⟨e0,e1,e2,e3,e4⟩:z.val.cell? ⟨b,off+j*5,none⟩=some (.string om)/\z.val.cell? ⟨b,off+j*5+1,none⟩=some (.int .i64 ok)/\z.val.cell? ⟨b,off+j*5+2,none⟩=some (.int .i64 ob)/\z.val.cell? ⟨b,off+j*5+3,none⟩=some (.int .i64 ofn)/\z.val.cell? ⟨b,off+j*5+4,none⟩=some (.int .i64 ofd):=⟨Fw.out z j _ 0 hx (by omega),Fw.out z j _ 1 hx (by omega),Fw.out z j _ 2 hx (by omega),Fw.out z j _ 3 hx (by omega),Fw.out z j _ 4 hx (by omega)⟩;have HX:=ah hx;clear hx;have j1:(j:Int)<(i:Int):=by omega
      go_upto_region 7 with(fail)
      generalize hWa:World.alloc _ _=Wa;obtain⟨hba,hxa⟩:=bx1' hWa;clear hWa;obtain⟨d0,d1,d2,d3,d4⟩:=kc5 hxa;obtain⟨za,hza⟩:∃za:Bl W0,za.val=Wa:=⟨⟨Wa,ay z.prop hba⟩,rfl⟩;replace d0:=d0 ⟨Wa,aD _ _⟩;simp only at d0;clear d1 d2 d3 d4;subst hza;clear hba hxa e0 e1 e2 e3 e4;cases q:(om.toList==nm.toList)with
      |true=>
       have hcs:=ME HX.out hlt q;obtain rfl:E=false:=by rw[<-HE.out,yj,uT.out,hcs];rfl
       clear hcs;go_wp2;go_ret;exact⟨rfl,ay HB.out (Bl.prop _)⟩
      |false=>
       go_wp2
       go_roundg (i - (j+1))
       case measure=>rw[iB.out];omega
       case rel=>exact⟨j+1,_,rfl,by omega,by go_num,rfl,Kv HX.out hpre.out q⟩
     .obtain rfl:j=i:=by omega
      have MC:=ah hpre.out;clear hpre iB;obtain⟨b2,Mf⟩:∃b,Hid ((((!(ki==1))&&(!(ki==2)))||((!(dI.ok ⟨fn,fd⟩))||decide (fn<=0)))=b):=⟨_,rfl⟩;go_upto_region 10 with(fail)
      go_cut [52] (λc wx=>c= .bool b2/\∃z:Bl W0,wx=z.val)
      case first=>
       have hE:=(iJ (((!(ki==1))&&(!(ki==2)))||((!(dI.ok ⟨fn,fd⟩))||decide (fn<=0)))).symm.trans Mf.out;simp only[Me]at hE;repeat' (first|(replace hE:=uh hE (by assumption))|(replace hE:=uj hE (by assumption))|(replace hE:=l7 hE;rcases hE with⟨q,q',hE⟩|⟨q,q',hE⟩)|(replace hE:=jo hE;rcases hE with⟨q,hE⟩|⟨q,hE⟩)|fail)
       all_goals
        subst hE
        as_aux_lemma=>
         go_wp2_with (first|(go_at_call 134;refine dJ (HR.out _) (by assumption) (λz=>?_))|(go_at_call 157;refine dJ (HI.out _ _) (by assumption) (λz=>?_)))
         go_meet
         exact⟨rfl,_,rfl⟩
      case rest=>
       obtain⟨rfl,z2,rfl⟩:=hcut;cases b2 with
       |false=>
        as_aux_lemma=>
         have EK:=Mf;clear Mf;obtain⟨b3,Yz⟩:∃b,Hid (((!(pq us ba))||((!(Fq us ba==ki))||(!(Fu us ba==ba))))=b):=⟨_,rfl⟩;go_upto_region 12 with(fail)
         go_cut [79] (λc wx=>c= .bool b3/\∃z:Bl W0,wx=z.val)
         case first=>
          have hE:=(iJ ((!(pq us ba))||((!(Fq us ba==ki))||(!(Fu us ba==ba))))).symm.trans Yz.out;simp only[Me]at hE;repeat' (first|(replace hE:=uh hE (by assumption))|(replace hE:=uj hE (by assumption))|(replace hE:=l7 hE;rcases hE with⟨q,q',hE⟩|⟨q,q',hE⟩)|(replace hE:=jo hE;rcases hE with⟨q,hE⟩|⟨q,hE⟩)|fail)
          all_goals
           subst hE;try(have YA:=HUB.out (by assumption);obtain⟨x0,x1,g1,g2⟩:=YA)
           refine aI (by kernel_rfl) (by kernel_rfl) ?_;(repeat(go_big_quiet_step (first|(go_at_call 134;exact Calls.bY (lit (HR.out _) (by assumption)))|(go_at_call 157;exact Calls.bY (lit (HI.out _ _) (by assumption))))));refine aS ?_;rintro _ ⟨zq,rfl⟩;go_wp2
           go_meet
           exact⟨rfl,_,rfl⟩
         case rest=>
          obtain⟨rfl,z3,rfl⟩:=hcut;cases b3 with
          |false=>
           have Ev:=Yz;clear Yz;obtain⟨b4,Y7,hE⟩:∃b,Hid (((!(ba==(j:Int)))||b1)=b)/\cond ((!(ba==(j:Int)))||b1) true false=b:=⟨_,rfl,(iJ _).symm⟩;simp only[Me]at hE;repeat' (first|(replace hE:=uh hE (by assumption))|(replace hE:=uj hE (by assumption))|(replace hE:=l7 hE;rcases hE with⟨q,q',hE⟩|⟨q,q',hE⟩)|(replace hE:=jo hE;rcases hE with⟨q,hE⟩|⟨q,hE⟩)|fail)
           all_goals first
            |focus
             obtain rfl:b4=false:=hE.symm;clear hE
             as_aux_lemma=>
              obtain rfl:E=false:=by rw[<-HE.out,yj,uT.out,MC.out,EL,EK.out,Kw,Ev.out,HB1.out,Y7.out];rfl
              go_wp2_with (first|fail);first
               |(go_ret;exact⟨rfl,ay HB.out (Bl.prop _)⟩)
               |(refine aI (by kernel_rfl) (by kernel_rfl) ?_;(repeat(go_big_quiet_step (first|fail)));refine aS ?_;rintro _ ⟨zq,rfl⟩;go_wp2;go_ret;exact⟨rfl,ay HB.out (Bl.prop _)⟩)
            |focus
             obtain rfl:b4=true:=hE.symm;clear hE
             as_aux_lemma=>
              obtain rfl:E=true:=by rw[<-HE.out,yj,uT.out,MC.out,EL,EK.out,Kw,Ev.out,HB1.out,Y7.out];rfl
              go_wp2_with (first|fail);first
               |(go_ret;exact⟨rfl,ay HB.out (Bl.prop _)⟩)
               |(refine aI (by kernel_rfl) (by kernel_rfl) ?_;(repeat(go_big_quiet_step (first|fail)));refine aS ?_;rintro _ ⟨zq,rfl⟩;go_wp2;go_ret;exact⟨rfl,ay HB.out (Bl.prop _)⟩)
          |true=>
           obtain rfl:E=false:=by rw[<-HE.out,yj,uT.out,MC.out,EL,EK.out,Kw,Yz.out];rfl
           go_wp2;go_ret;exact⟨rfl,ay HB.out (Bl.prop _)⟩
       |true=>
        as_aux_lemma=>
         obtain rfl:E=false:=by rw[<-HE.out,yj,uT.out,MC.out,EL,Mf.out];rfl
         go_wp2;go_ret;exact⟨rfl,ay HB.out (Bl.prop _)⟩
  |true=>
   as_aux_lemma=>
    obtain rfl:E=false:=by rw[<-HE.out,yj,mE.out];rfl
    go_wp2;go_ret;exact⟨rfl,ay HB.out (Bl.prop _)⟩
end
section
open Go.RowKit
def qz(us:List fJ):Bool:=(List.range us.length).all (λi=>match us[i]? with|some u=>wJ us i u|none=>true)
theorem MG{us:List fJ}{i:Nat}{u:fJ}(hu:us[i]?=some u)(h:wJ us i u=false):qz us=false:=by
 cases e:qz us with
 |false=>rfl
 |true=>
  unfold qz at e;have hi:i<us.length:=(aZ.1 hu).1;have:=fq.1 e i (by simpa using hi);simp only[hu]at this;rw[this]at h;cases h
theorem MH{us:List fJ}(h:∀i u,us[i]?=some u->wJ us i u=true):qz us=true:=by
 unfold qz;rw[fq];intro i _;cases e:us[i]? with
 |none=>rfl
 |some u=>exact h i u e
def Ca(us:List fJ)(w:World)(e:Ending)(w':World):Prop:=∃n:Int,e= .returned (.tuple #[.int .i64 n,.bool (qz us)])/\Below w.heap.size w w'
theorem Fx(A:Option Addr)(c:Nat)(us:List fJ)(w:World)(hA:At w 5 A us.length c (us.flatMap fJ.cells))(hn:us.length<=1000):
 Calls Tryz.prog 83 #[.slice A us.length c] w (Ca us w):=by
 have HA:=ah hA;clear hA;generalize hE:qz us=E;have HE:=ah hE;clear hE;have hP:∀n:Int,∀b:Bool,b=E->∀w',Below w.heap.size w w'->Ca us w (.returned (.tuple #[.int .i64 n,.bool b])) w':=λn b hb w' hw=>⟨n,by rw[hb,HE.out],hw⟩;have HP:=ah hP;clear hP;go_enter Tryz.func83,Tryz.ntmps83;go_wp2
 go_loopg [7] us.length (λgk v7 wr=>∃(j:Nat),gk=us.length - j/\j<=us.length/\v7= .int .i64 j/\Below w.heap.size w wr/\Hid (∀i u,i<j->us[i]?=some u->wJ us i u=true))
 case atStart=>exact⟨0,rfl,aV _,rfl,aD _ _,λi u h=>by omega⟩
 case round=>
  obtain⟨j,eH,hj,rfl,hb,hpre⟩:=hrel;have iB:=ah eH;clear eH;by_cases hlt:j<us.length
  .obtain⟨u,hu⟩:∃u,us[j]?=some u:=⟨us[j],aT hlt⟩
   have hc:=IV A c us j u wr (HA.out.below (by omega) hb) hu hn;generalize hv:wJ us j u=vv at hc;have HV:=ah hv;clear hv;have HU:=ah hu;clear hu;have HCC:=ah hc;clear hc;have Vs:=ah hb;clear hb;have j1:(j:Int)<(us.length:Int):=by omega
   cases vv with
   |false=>
    have HF:Hid (false=E):=by show _=_;rw[<-HE.out,MG HU.out HV.out]
    go_wp2_with (go_at_call 133;refine HCC.out.mono ?_;rintro e z ⟨rfl,hz⟩)
    go_ret2
    exact HP.out _ _ HF.out _ (ay Vs.out hz)
   |true=>
    go_wp2_with (go_at_call 133;refine HCC.out.mono ?_;rintro e z ⟨rfl,hz⟩)
    go_roundg (us.length - (j+1))
    case measure=>rw[iB.out];omega
    case rel=>exact⟨j+1,rfl,by omega,by go_num,ay Vs.out hz,λi u hi hu=>by
     by_cases e:i=j
     .subst e
      rw[HU.out]at hu;injection hu with hu
      subst hu;exact HV.out
     .exact hpre.out i u (by omega) hu⟩
  .obtain rfl:j=us.length:=by omega
   have HF:Hid (true=E):=by
    show _=_;rw[<-HE.out,MH (λi u hu=>hpre.out i u (aZ.1 hu).1 hu)]
   have Vs:=ah hb;clear hb;go_wp2
   go_ret2
   exact HP.out _ _ HF.out _ Vs.out
def au.party(C:au)(p:Int):Bool:=decide (0<=p)&&decide (p<C.aF)
def au.held(C:au):Bool:=C.aj.all (λp=>C.party p)
theorem VT{C:au}{j:Nat}{x:Int}(hx:C.aj[j]?=some x)(h:C.party x=false):C.held=false:=by
 cases e:C.held with
 |false=>rfl
 |true=>
  unfold au.held at e;rw[fq.1 e x (cK hx)]at h;cases h
theorem VU{C:au}(h:∀(j:Nat)(x:Int),C.aj[j]?=some x->C.party x=true):C.held=true:=by
 unfold au.held;rw[fq];intro x hx;obtain⟨j,hj⟩:=wF hx;exact h j x hj
theorem VW(v:CV)(C:au)(w:World)(hC:bU w v C)(hp:C.aF<=1000):Calls Tryz.prog 82 #[v.val C] w (dx (.bool C.held) w):=by
 obtain⟨⟨hA,hcp⟩,⟨uA,Ad⟩,⟨aA,BX⟩,⟨kA,yt⟩,⟨oA,BZ⟩⟩:=v;have HH:Hid (At w 1 hA C.aj.length hcp (aR C.aj)):=hC.aj;have hhx:C.aj.length<=9223372036854775807:=by have h1:=HH.out.2.2.1;have h2:=HH.out.2.2.2;unfold maxLen at h2;omega
 clear hC;simp only[CV.val,CV.cells];generalize hE:C.held=E;have HE:=ah hE;clear hE;go_enter Tryz.func82,Tryz.ntmps82;go_wp2;obtain⟨W0,HW0⟩:∃W0,Hid (W0=w.alloc (.cells #[.int .i64 C.aF,.slice hA C.aj.length hcp,.slice uA C.units.length Ad,.slice aA C.acts.length BX,.slice kA C.clauses.length yt,.int .i64 C.days,.slice oA C.off.length BZ] 27)):=⟨_,rfl⟩;have k0:W0.cell? ⟨w.heap.size,0,none⟩=some (.int .i64 C.aF):=by rw[HW0.out];go_simp
 have k1:W0.cell? ⟨w.heap.size,1,none⟩=some (.slice hA C.aj.length hcp):=by rw[HW0.out];go_simp
 have HB:Hid (Below w.heap.size w W0):=by show Below _ _ _;rw[HW0.out];exact aK (aD _ _) _
 rw[<-HW0.out];go_step3;go_wp2;go_step3;go_wp2
 go_loopg [8] C.aj.length (λgk v8 wr=>∃(j:Nat),gk=C.aj.length - j/\j<=C.aj.length/\v8= .int .i64 j/\W0=wr/\Hid (∀i x,i<j->C.aj[i]?=some x->C.party x=true))
 case atStart=>exact⟨0,rfl,aV _,rfl,rfl,λi u h=>by omega⟩
 case round=>
  obtain⟨j,eH,hj,rfl,rfl,hpre⟩:=hrel;have iB:=ah eH;clear eH;by_cases hlt:j<C.aj.length
  .obtain⟨b,off,rfl,hbl,hcell⟩:=(HH.out.below (by omega) HB.out).1.form (by omega) (by omega)
   obtain⟨x,hx⟩:∃x,C.aj[j]?=some x:=⟨C.aj[j],aT hlt⟩;have kx:W0.cell? ⟨b,off+j,none⟩=some (.int .i64 x):=by rw[hcell _ (by omega)];simp[aR,hx]
   clear hcell;have HX:=ah hx;clear hx;have j1:(j:Int)<(C.aj.length:Int):=by omega
   go_wp2
   go_loopg [13] C.aF.toNat (λgk2 v13 wr=>∃(p:Nat),gk2=C.aF.toNat - p/\p<=C.aF.toNat/\v13= .int .i64 p/\W0=wr/\Hid (∀q:Nat,q<p->x≠(q:Int)))
   case atStart=>exact⟨0,rfl,aV _,rfl,rfl,λq h=>by omega⟩
   case round=>
    obtain⟨p,Mx,hpp,rfl,rfl,JB⟩:=hrel;have Et:=ah Mx;clear Mx;by_cases hlp:(p:Int)<C.aF
    .cases q:(x==(p:Int))with
     |true=>
      have hxp:x=p:=by simpa using q
      have Fy:Hid (C.party x=true):=by show _=_;simp[au.party,hxp];omega
      clear hxp;go_wp2
      go_roundg (C.aj.length - (j+1))
      case measure=>rw[iB.out];omega
      case rel=>exact⟨j+1,rfl,by omega,by go_num,rfl,λi y hi hy=>by
       by_cases e:i=j
       .subst e
        rw[HX.out]at hy;injection hy with hy
        subst hy;exact Fy.out
       .exact hpre.out i y (by omega) hy⟩
     |false=>
      have hxp:¬x=p:=by simpa using q
      have HXP:=ah hxp;clear hxp;go_wp2
      go_roundg (C.aF.toNat - (p+1))
      case measure=>rw[Et.out];omega
      case rel=>exact⟨p+1,rfl,by omega,by go_num,rfl,λr hr=>by
       by_cases e:r=p
       .subst e;exact HXP.out
       .exact JB.out r (by omega)⟩
    .have hnp:Hid (C.party x=false):=by
      show _=_;cases e:C.party x with
      |false=>rfl
      |true=>
       simp only[au.party,bM,decide_eq_true_eq]at e;exact absurd (by omega) (JB.out x.toNat (by omega))
     obtain rfl:E=false:=by rw[<-HE.out,VT HX.out hnp.out]
     have hd:decide ((p:Int)<C.aF)=false:=by simpa using hlp
     go_wp2
     (try rw[Exit.noGoto_ret])
     go_ret;exact⟨rfl,HB.out⟩
  .obtain rfl:j=C.aj.length:=by omega
   obtain rfl:E=true:=by rw[<-HE.out,VU (λi u hu=>hpre.out i u (aZ.1 hu).1 hu)]
   go_wp2
   (try rw[Exit.noGoto_ret])
   go_ret;exact⟨rfl,HB.out⟩
end
section
open Go.RowKit
def au.vO(C:au)(a:iO):Bool:=zH C a.kind a.role a.give a.tgt a.unit a.lot.num a.lot.den
def au.zI(C:au):Bool:=C.acts.all (λa=>C.vO a)
def sD(days:Int):Int->List Int->Bool
 |_,[]=>true
 |last,d::l=>(!decide (d<=last))&&((!decide (days<=d))&&sD days d l)
def Tx(C:au):Bool:=((!decide (C.aF<1))&&((!decide (C.days<1))&&((!((C.aj.length:Int)==0))&&C.held)))
def au.framed(C:au):Bool:=Tx C&&(qz C.units&&(C.zI&&sD C.days (-1) C.off))
theorem Fz{C:au}{j:Nat}{x:iO}(hx:C.acts[j]?=some x)(h:C.vO x=false):C.zI=false:=by
 cases e:C.zI with
 |false=>rfl
 |true=>
  unfold au.zI at e;rw[fq.1 e x (cK hx)]at h;cases h
theorem Pv{C:au}(h:∀(j:Nat)(x:iO),C.acts[j]?=some x->C.vO x=true):C.zI=true:=by
 unfold au.zI;rw[fq];intro x hx;obtain⟨j,hj⟩:=wF hx;exact h j x hj
theorem FB{α:Type}{l:List α}{j:Nat}{x:α}(h:l[j]?=some x):l.drop j=x::l.drop (j+1):=by
 obtain⟨hj,rfl⟩:=aZ.1 h;exact List.drop_eq_getElem_cons hj
theorem Pw(v:CV)(C:au)(w:World)(hC:bU w v C)(hp:C.aF<=1000)(hu:C.units.length<=1000):Calls Tryz.prog 56 #[v.val C] w (dx (.bool C.framed) w):=by
 obtain⟨⟨hA,hcp⟩,⟨uA,Ad⟩,⟨aA,BX⟩,⟨kA,yt⟩,⟨oA,BZ⟩⟩:=v;have hax:C.acts.length<=9223372036854775807:=by have h1:=hC.acts.2.2.1;have h2:=hC.acts.2.2.2;unfold maxLen at h2;omega
 have hox:C.off.length<=9223372036854775807:=by have h1:=hC.off.2.2.1;have h2:=hC.off.2.2.2;unfold maxLen at h2;omega
 have HC:=ah hC;clear hC;simp only[CV.val,CV.cells];generalize hE:C.framed=E;simp only[au.framed]at hE;have HE:=ah hE;clear hE;go_enter Tryz.func56,Tryz.ntmps56;go_upto_region 1 with(fail)
 generalize hW0:World.alloc _ _=W0;obtain⟨HB,hh0⟩:=bx1 hW0;have HW0:=ah hW0.symm;clear hW0;obtain⟨jA,jB,jK,j4,j5,kV,lT⟩:=Fg hh0;clear hh0;change Code.wp _ _ _ _ (Bl.val (⟨W0,aD _ _⟩:Bl W0));generalize(⟨W0,aD _ _⟩:Bl W0)=s0;have hh:∀s:Bl W0,Calls Tryz.prog 82 #[.agg #[.int .i64 C.aF,.slice hA C.aj.length hcp,.slice uA C.units.length Ad,.slice aA C.acts.length BX,.slice kA C.clauses.length yt,.int .i64 C.days,.slice oA C.off.length BZ]] s.val (dx (.bool C.held) s.val):=λs=>VW (⟨⟨hA,hcp⟩,⟨uA,Ad⟩,⟨aA,BX⟩,⟨kA,yt⟩,⟨oA,BZ⟩⟩:CV) C s.val (HC.out.below (ay HB.out s.prop)) hp;have HH:=ah hh;clear hh;have hun:∀s:Bl W0,Calls Tryz.prog 83 #[.slice uA C.units.length Ad] s.val (Ca C.units s.val):=λs=>Fx uA Ad C.units s.val (HC.out.below (ay HB.out s.prop)).units hu;have Y5:=ah hun;clear hun;have hac:∀(a:iO)(s:Bl W0),Calls Tryz.prog 84 #[.agg #[.int .i64 C.aF,.slice hA C.aj.length hcp,.slice uA C.units.length Ad,.slice aA C.acts.length BX,.slice kA C.clauses.length yt,.int .i64 C.days,.slice oA C.off.length BZ],.agg #[.int .i64 a.kind,.int .i64 a.role,.int .i64 a.give,.int .i64 a.tgt,.int .i64 a.unit,.int .i64 a.lot.num,.int .i64 a.lot.den]] s.val (dx (.bool (C.vO a)) s.val):=λa s=>Kr (⟨⟨hA,hcp⟩,⟨uA,Ad⟩,⟨aA,BX⟩,⟨kA,yt⟩,⟨oA,BZ⟩⟩:CV) C a.kind a.role a.give a.tgt a.unit a.lot.num a.lot.den s.val;have HAC:=ah hac;clear hac
 focus
  cases q1:decide (C.aF<1)
  focus
   cases q2:decide (C.days<1)
   focus
    cases q3:((C.aj.length:Int)==0)
    focus
     cases q4:C.held
     focus
      have hP1:Tx C=false:=by unfold Tx;rw[q1,q2,q3,q4];rfl
      obtain rfl:E=false:=by rw[<-HE.out,hP1];rfl
     rotate_left
     focus
      have hP1:Tx C=true:=by unfold Tx;rw[q1,q2,q3,q4];rfl
      have mE:=ah hP1;clear hP1;go_wp2_with fail;refine(HH.out _).mono ?_;rintro e z ⟨rfl,hz⟩;obtain⟨z1,rfl⟩:=Bl.on hz;clear hz;go_wp2_with fail;refine(Y5.out _).mono ?_;rintro e z ⟨n,rfl,hz⟩;obtain⟨z2,rfl⟩:=Bl.on hz;clear hz;cases hcu:qz C.units
      focus
       obtain rfl:E=false:=by rw[<-HE.out,mE.out,hcu];rfl
       go_wp2;go_ret;exact⟨rfl,ay HB.out (Bl.prop _)⟩
      focus
       have HCU:=ah hcu;clear hcu;go_wp2
       go_loopg [40] C.acts.length (λgk v40 wr=>∃(j:Nat)(z:Bl W0),gk=C.acts.length - j/\j<=C.acts.length/\v40= .int .i64 j/\wr=z.val/\Hid (∀(i:Nat)(x:iO),i<j->C.acts[i]?=some x->C.vO x=true))
       case atStart=>exact⟨0,_,rfl,aV _,rfl,rfl,λi x h=>by omega⟩
       case round=>
        obtain⟨j,z,eH,hj,rfl,rfl,hpre⟩:=hrel;have iB:=ah eH;clear eH;by_cases hlt:j<C.acts.length
        .obtain⟨a,ha⟩:∃a,C.acts[j]?=some a:=⟨C.acts[j],aT hlt⟩
         obtain⟨b,off,kI,hb,hcell⟩:=HC.out.act ha;simp only at kI;subst kI;have hcw:=hcell z.val (ay HB.out z.prop);clear hcell;have hca:=HAC.out a;generalize hv:C.vO a=vv at hca;have HV:=ah hv;clear hv;have HAJ:=ah ha;clear ha;obtain⟨ki,ro,gi,tg,un,⟨ln,ld⟩⟩:=a;obtain⟨e0,e1,e2,e3,e4,e5,e6⟩:=rw7 hcw rfl;clear hcw;have hl0:w.heap.size<z.val.heap.size:=jX (by rw[HW0.out];simp) z.prop.size;have j1:(j:Int)<(C.acts.length:Int):=by omega
         have rR:Hid (∀s:Bl W0,Calls Tryz.prog 84 #[.agg #[.int .i64 C.aF,.slice hA C.aj.length hcp,.slice uA C.units.length Ad,.slice (some ⟨b,off,none⟩) C.acts.length BX,.slice kA C.clauses.length yt,.int .i64 C.days,.slice oA C.off.length BZ],.agg #[.int .i64 ki,.int .i64 ro,.int .i64 gi,.int .i64 tg,.int .i64 un,.int .i64 ln,.int .i64 ld]] s.val (dx (.bool vv) s.val)):=hca;clear hca;go_wp2_with fail;have HZ:Hid (Calls Tryz.prog 84 #[.agg #[.int .i64 C.aF,.slice hA C.aj.length hcp,.slice uA C.units.length Ad,.slice (some ⟨b,off,none⟩) C.acts.length BX,.slice kA C.clauses.length yt,.int .i64 C.days,.slice oA C.off.length BZ],.agg #[.int .i64 ki,.int .i64 ro,.int .i64 gi,.int .i64 tg,.int .i64 un,.int .i64 ln,.int .i64 ld]] (z.val.alloc (.cells #[.int .i64 ki,.int .i64 ro,.int .i64 gi,.int .i64 tg,.int .i64 un,.int .i64 ln,.int .i64 ld] 109)) (dx (.bool vv) (z.val.alloc (.cells #[.int .i64 ki,.int .i64 ro,.int .i64 gi,.int .i64 tg,.int .i64 un,.int .i64 ln,.int .i64 ld] 109)))):=rR.out ⟨_,aK z.prop _⟩;refine HZ.out.mono ?_;rintro e y ⟨rfl,hy⟩;obtain⟨y1,rfl⟩:∃y1:Bl W0,y=y1.val:=⟨⟨y,ay (aK z.prop _) hy⟩,rfl⟩;clear hy HZ;cases vv with
         |false=>
          obtain rfl:E=false:=by rw[<-HE.out,mE.out,HCU.out,Fz HAJ.out HV.out];rfl
          go_wp2;go_ret;exact⟨rfl,ay HB.out y1.prop⟩
         |true=>
          go_wp2
          go_roundg (C.acts.length - (j+1))
          case measure=>rw[iB.out];omega
          case rel=>exact⟨j+1,y1,rfl,by omega,by go_num,rfl,λi x hi hx=>by
           by_cases e:i=j
           .subst e
            rw[HAJ.out]at hx;injection hx with hx
            subst hx;exact HV.out
           .exact hpre.out i x (by omega) hx⟩
        .obtain rfl:j=C.acts.length:=by omega
         have VX:Hid (C.zI=true):=Pv (λi x hx=>hpre.out i x (aZ.1 hx).1 hx);go_wp2
         go_loopg [52,7] C.off.length (λgk v52 v7 wr=>∃(j:Nat)(last:Int),gk=C.off.length - j/\j<=C.off.length/\v52= .int .i64 j/\v7= .int .i64 last/\z.val=wr/\Hid (sD C.days (-1) C.off=sD C.days last (C.off.drop j)))
         case atStart=>exact⟨0, -1,rfl,aV _,rfl,rfl,rfl,rfl⟩
         case round=>
          obtain⟨j,last,eH,hj,rfl,rfl,rfl,hpre⟩:=hrel;have Et:=ah eH;clear eH;by_cases hlt:j<C.off.length
          .obtain⟨b,off,kI,hbl,hcell⟩:=(HC.out.below (ay HB.out z.prop)).off.1.form (by omega) (by omega)
           simp only at kI;subst kI;obtain⟨d,hd⟩:∃d,C.off[j]?=some d:=⟨C.off[j],aT hlt⟩;have kx:z.val.cell? ⟨b,off+j,none⟩=some (.int .i64 d):=by rw[hcell _ (by omega)];simp[aR,hd]
           clear hcell;have HD:=ah hd;clear hd;have hst:=hpre.out;rw[FB HD.out]at hst;have HST:=ah hst;clear hst;have j1:(j:Int)<(C.off.length:Int):=by omega
           cases q1:decide (d<=last)with
           |true=>
            obtain rfl:E=false:=by rw[<-HE.out,mE.out,HCU.out,VX.out,HST.out];simp[sD,q1]
            go_wp2;go_ret;exact⟨rfl,ay HB.out z.prop⟩
           |false=>
            cases q2:decide (C.days<=d)with
            |true=>
             obtain rfl:E=false:=by rw[<-HE.out,mE.out,HCU.out,VX.out,HST.out];simp[sD,q2]
             go_wp2;go_ret;exact⟨rfl,ay HB.out z.prop⟩
            |false=>
             go_wp2
             go_roundg (C.off.length - (j+1))
             case measure=>rw[Et.out];omega
             case rel=>exact⟨j+1,d,rfl,by omega,by go_num,rfl,rfl,by show _=_;rw[HST.out,sD,q1,q2];rfl⟩
          .obtain rfl:j=C.off.length:=by omega
           obtain rfl:E=true:=by rw[<-HE.out,mE.out,HCU.out,VX.out,hpre.out,List.drop_of_length_le (bH _)];rfl
           go_wp2;go_ret;exact⟨rfl,ay HB.out z.prop⟩
    rotate_left
    focus
     have hP1:Tx C=false:=by unfold Tx;rw[q1,q2,q3];rfl
     obtain rfl:E=false:=by rw[<-HE.out,hP1];rfl
   rotate_left 2
   focus
    have hP1:Tx C=false:=by unfold Tx;rw[q1,q2];rfl
    obtain rfl:E=false:=by rw[<-HE.out,hP1];rfl
  rotate_left 3
  focus
   have hP1:Tx C=false:=by unfold Tx;rw[q1];rfl
   obtain rfl:E=false:=by rw[<-HE.out,hP1];rfl
  all_goals
   go_wp2_with (first|(go_at_call 82;refine(HH.out _).mono ?_;rintro e z ⟨rfl,hz⟩;obtain⟨z,rfl⟩:=Bl.on hz;clear hz));first
    |(go_ret;exact⟨rfl,ay HB.out (Bl.prop _)⟩)
    |(refine aI (by kernel_rfl) (by kernel_rfl) ?_;(repeat(go_big_quiet_step ((first|(go_at_call 82;exact Calls.bY (HH.out _))))));refine aS ?_;rintro _ ⟨zq,rfl⟩;go_wp2_with (first|(go_at_call 82;refine(HH.out _).mono ?_;rintro e z ⟨rfl,hz⟩;obtain⟨z,rfl⟩:=Bl.on hz;clear hz));go_ret;exact⟨rfl,ay HB.out (Bl.prop _)⟩)
end
open Go.RowKit
def au.over(C:au):Bool:=(decide (12<C.aF)||(decide (2000<C.days)||(decide (12<(C.aj.length:Int))||(decide (20<(C.units.length:Int))||(decide (60<(C.acts.length:Int))||decide (400<(C.clauses.length:Int)))))))
def au.jP(C:au):Bool:=(List.range C.clauses.length).all (λi=>match C.clauses[i]? with|some k=>C.iY i k|none=>true)
def au.errno(C:au):Int:=cond C.over 3 (cond (C.framed&&C.jP) 0 1)
def au.valid(C:au):Bool:=(!C.over)&&(C.framed&&C.jP)
theorem zh{C:au}{i:Nat}{k:aQ}(hk:C.clauses[i]?=some k)(h:C.iY i k=false):C.jP=false:=by
 cases e:C.jP with
 |false=>rfl
 |true=>
  unfold au.jP at e;have hi:i<C.clauses.length:=(aZ.1 hk).1;have:=fq.1 e i (by simpa using hi);simp only[hk]at this;rw[this]at h;cases h
theorem IW{C:au}(h:∀(i:Nat)(k:aQ),C.clauses[i]?=some k->C.iY i k=true):C.jP=true:=by
 unfold au.jP;rw[fq];intro i _;cases e:C.clauses[i]? with
 |none=>rfl
 |some u=>exact h i u e
theorem Ky{C:au}(h:C.jP=true){i:Nat}{k:aQ}(hk:C.clauses[i]?=some k):C.iY i k=true:=by
 cases e:C.iY i k with
 |true=>rfl
 |false=>rw[zh hk e]at h;cases h
def EM(er:Int)(w:World)(e:Ending)(w':World):Prop:=∃n:Int,e= .returned (.tuple #[.int .i64 er,.int .i64 n])/\Below w.heap.size w w'
theorem EN{er er2 n:Int}{w w':World}(h:er=er2)(hb:Below w.heap.size w w'):EM er2 w (.returned (.tuple #[.int .i64 er,.int .i64 n])) w':=⟨n,by rw[h],hb⟩
theorem uU(v:CV)(C:au)(w:World)(hC:bU w v C):Calls Tryz.prog 31 #[v.val C] w (EM C.errno w):=by
 obtain⟨⟨hA,hcp⟩,⟨uA,Ad⟩,⟨aA,BX⟩,⟨kA,yt⟩,⟨oA,BZ⟩⟩:=v;have hkx:C.clauses.length<=9223372036854775807:=by obtain⟨_,_,h,_⟩:=hC.clauses;have h1:=h.2.2.1;have h2:=h.2.2.2;unfold maxLen at h2;omega
 have HC:=ah hC;clear hC;simp only[CV.val,CV.cells];generalize hE:C.errno=E;simp only[au.errno]at hE;have HE:=ah hE;clear hE;go_enter Tryz.func31,Tryz.ntmps31;go_upto_region 1 with(fail)
 generalize hW0:World.alloc _ _=W0;obtain⟨HB,hh0⟩:=bx1 hW0;clear hW0;obtain⟨jA,jB,jK,j4,j5,kV,lT⟩:=Fg hh0;clear hh0;change Code.wp _ _ _ _ (Bl.val (⟨W0,aD _ _⟩:Bl W0));generalize(⟨W0,aD _ _⟩:Bl W0)=s0;have hcl:∀(i:Nat)(k:aQ)(s:Bl W0),C.clauses[i]?=some k->Calls Tryz.prog 57 #[.agg #[.int .i64 C.aF,.slice hA C.aj.length hcp,.slice uA C.units.length Ad,.slice aA C.acts.length BX,.slice kA C.clauses.length yt,.int .i64 C.days,.slice oA C.off.length BZ],.int .i64 i] s.val (dx (.bool (C.iY i k)) s.val):=λi k s hk=>Eu (⟨⟨hA,hcp⟩,⟨uA,Ad⟩,⟨aA,BX⟩,⟨kA,yt⟩,⟨oA,BZ⟩⟩:CV) C i k s.val (HC.out.below (ay HB.out s.prop)) hk;have YB:=ah hcl;clear hcl
 focus
  cases q1:decide (12<C.aF)
  focus
   cases q2:decide (2000<C.days)
   focus
    cases q3:decide (12<(C.aj.length:Int))
    focus
     cases q4:decide (20<(C.units.length:Int))
     focus
      cases q5:decide (60<(C.acts.length:Int))
      focus
       cases q6:decide (400<(C.clauses.length:Int))
       focus
        have hP1:C.over=false:=by unfold au.over;rw[q1,q2,q3,q4,q5,q6];rfl
        have mE:=ah hP1;clear hP1;have hfr:∀s:Bl W0,Calls Tryz.prog 56 #[.agg #[.int .i64 C.aF,.slice hA C.aj.length hcp,.slice uA C.units.length Ad,.slice aA C.acts.length BX,.slice kA C.clauses.length yt,.int .i64 C.days,.slice oA C.off.length BZ]] s.val (dx (.bool C.framed) s.val):=λs=>Pw (⟨⟨hA,hcp⟩,⟨uA,Ad⟩,⟨aA,BX⟩,⟨kA,yt⟩,⟨oA,BZ⟩⟩:CV) C s.val (HC.out.below (ay HB.out s.prop)) (by have h:=(by assumption:decide (12<C.aF)=false);simp at h;omega) (by have h:=(by assumption:decide (20<(C.units.length:Int))=false);simp at h;omega);have HFR:=ah hfr;clear hfr;go_wp2_with fail;refine(HFR.out _).mono ?_;rintro e z ⟨rfl,hz⟩;obtain⟨z1,rfl⟩:=Bl.on hz;clear hz;cases hf:C.framed
        focus
         go_wp2
         go_ret2
         exact EN (by rw[<-HE.out,mE.out,hf];rfl) (ay HB.out (Bl.prop _))
        focus
         have HF:=ah hf;clear hf;go_wp2
         go_loopg [43] C.clauses.length (λgk v43 wr=>∃(j:Nat)(z:Bl W0),gk=C.clauses.length - j/\j<=C.clauses.length/\v43= .int .i64 j/\wr=z.val/\Hid (∀(i:Nat)(x:aQ),i<j->C.clauses[i]?=some x->C.iY i x=true))
         case atStart=>exact⟨0,_,rfl,aV _,rfl,rfl,λi x h=>by omega⟩
         case round=>
          obtain⟨j,z,eH,hj,rfl,rfl,hpre⟩:=hrel;have iB:=ah eH;clear eH;by_cases hlt:j<C.clauses.length
          .obtain⟨k,hk⟩:∃k,C.clauses[j]?=some k:=⟨C.clauses[j],aT hlt⟩
           have hca:=YB.out j k z hk;generalize hv:C.iY j k=vv at hca;have HV:=ah hv;clear hv;have HK:=ah hk;clear hk;have rR:=ah hca;clear hca;have j1:(j:Int)<(C.clauses.length:Int):=by omega
           go_wp2_with fail;refine rR.out.mono ?_;rintro e y ⟨rfl,hy⟩;obtain⟨y1,rfl⟩:=Bl.on hy;clear hy rR;cases vv with
           |false=>
            go_wp2
            go_ret2
            exact EN (by rw[<-HE.out,mE.out,HF.out,zh HK.out HV.out];rfl) (ay HB.out (Bl.prop _))
           |true=>
            go_wp2
            go_roundg (C.clauses.length - (j+1))
            case measure=>rw[iB.out];omega
            case rel=>exact⟨j+1,y1,rfl,by omega,by go_num,rfl,λi x hi hx=>by
             by_cases e:i=j
             .subst e
              rw[HK.out]at hx;injection hx with hx
              subst hx;exact HV.out
             .exact hpre.out i x (by omega) hx⟩
          .obtain rfl:j=C.clauses.length:=by omega
           have VX:Hid (C.jP=true):=IW (λi x hx=>hpre.out i x (aZ.1 hx).1 hx);go_wp2
           go_ret2
           exact EN (by rw[<-HE.out,mE.out,HF.out,VX.out];rfl) (ay HB.out z.prop)
       focus
        have hP1:C.over=true:=by unfold au.over;rw[q1,q2,q3,q4,q5,q6];rfl
      rotate_left
      focus
       have hP1:C.over=true:=by unfold au.over;rw[q1,q2,q3,q4,q5];rfl
     rotate_left 2
     focus
      have hP1:C.over=true:=by unfold au.over;rw[q1,q2,q3,q4];rfl
    rotate_left 3
    focus
     have hP1:C.over=true:=by unfold au.over;rw[q1,q2,q3];rfl
   rotate_left 4
   focus
    have hP1:C.over=true:=by unfold au.over;rw[q1,q2];rfl
  rotate_left 5
  focus
   have hP1:C.over=true:=by unfold au.over;rw[q1];rfl
  all_goals
   go_wp2
   go_ret2
   exact EN (by rw[<-HE.out,hP1];rfl) (ay HB.out (Bl.prop _))
theorem au.JC{C:au}(h:C.valid=true):C.errno=0:=by
 unfold au.valid at h;unfold au.errno;cases h1:C.over<;>simp[h1]at h⊢
 simp[h]
theorem au.MI{C:au}(h:C.valid=false):(C.errno==0)=false/\(C.errno !=0)=true:=by
 unfold au.valid at h;unfold au.errno;cases h1:C.over<;>cases h2:(C.framed&&C.jP)<;>simp[h1,h2]at h⊢
end Go.Proofs.YtpmdedcnbockhaaGreatDoor

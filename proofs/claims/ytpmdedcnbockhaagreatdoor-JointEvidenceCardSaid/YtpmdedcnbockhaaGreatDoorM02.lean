/-
  Con5; Con6; Con7; Con8
-/
import Derived.Test.YtpmdedcnbockhaaGreatDoorM01
set_option maxRecDepth 100000
set_option maxHeartbeats 8000000
namespace Go.Proofs.YtpmdedcnbockhaaGreatDoor
section
open Go.RowKit
def qm(us:List gy)(x:Int):Bool:=decide (0<=x)&&decide (x<us.length)
theorem Qx{us:List gy}{x:Int}(h:qm us x=true):(0:Int)<=x/\x<(us.length:Int):=by simpa [qm]using h
def Gd(us:List gy)(x:Int):Int:=((us[x.toNat]?).map (·.kind)).getD 0
def Gf(us:List gy)(x:Int):Int:=((us[x.toNat]?).map (·.base)).getD 0
def aco(i:Nat)(nm:ByteArray):Bool:=((!decide (20<=(i:Int)))&&(!nm.toList.isEmpty))
def acr(ki fn fd:Int):Bool:=(((ki==1)||(ki==2))&&((dK.ok ⟨fn,fd⟩)&&(!decide (fn<=0))))
def acs(us:List gy)(ki ba:Int):Bool:=((qm us ba)&&(((Gd us ba)==ki)&&((Gf us ba)==ba)))
def acu(i:Nat)(ba fn fd:Int):Bool:=((!(ba==(i:Int)))||((fn==1)&&(fd==1)))
def newName(l:List gy)(nm:ByteArray):Bool:=l.all (λu=> !(u.name.toList==nm.toList))
def xX(us:List gy)(i:Nat)(u:gy):Bool:=
 aco i u.name&&(newName (us.take i) u.name&&(acr u.kind u.factor.num u.factor.den&&(acs us u.kind u.base&&acu i u.base u.factor.num u.factor.den)))
theorem Lm{l:List gy}{j:Nat}{x:gy}{nm:ByteArray}(hx:l[j]?=some x)(h:newName (l.take j) nm=true)(h2:(x.name.toList==nm.toList)=false):newName (l.take (j+1)) nm=true:=by
 obtain⟨hj,rfl⟩:=bC.1 hx;unfold newName at*;rw[List.take_succ_eq_append_getElem hj,List.all_append,h];simpa using h2
theorem Nw{l:List gy}{i j:Nat}{x:gy}{nm:ByteArray}(hx:l[j]?=some x)(hj:j<i)(h2:(x.name.toList==nm.toList)=true):newName (l.take i) nm=false:=by
 cases e:newName (l.take i) nm with
 |false=>rfl
 |true=>
  unfold newName at e;have hx2:(l.take i)[j]?=some x:=by rw[lU,if_pos hj];exact hx
  have:=fE.1 e x (bT hx2);rw[h2]at this;cases this
theorem Ny(A:Option Addr)(c:Nat)(us:List gy)(x:Int)(w:World):Calls Tryz.prog 157 #[.slice A us.length c,.int .i64 x] w (dX (.bool (qm us x)) w):=by
 generalize hE:qm us x=E;cases h1:decide (0<=x)with
 |false=>
  obtain rfl:E=false:=by rw[<-hE];unfold qm;rw[h1];rfl
  go_enter Tryz.func157,Tryz.ntmps157;go_wp2;go_ret;exact⟨rfl,aC _ _⟩
 |true=>
  obtain rfl:E=decide (x<(us.length:Int)):=by rw[<-hE];unfold qm;rw[h1];rfl
  clear hE;go_enter Tryz.func157,Tryz.ntmps157;go_wp2;go_ret;exact⟨rfl,aC _ _⟩
theorem Gg(w:World)(n d:Int):(binOp .eql 107 (.agg #[.int .i64 n,.int .i64 d]) (.agg #[.int .i64 1,.int .i64 1])).run Tryz.prog w= .ok (.bool ((n==1)&&(d==1))) w:=by
 rw[run_eql_struct];go_simp;by_cases h1:n=1<;>by_cases h2:d=1<;>simp[h1,h2]
theorem zu(i:Nat)(nm:ByteArray):aco i nm= !(decide (20<=(i:Int))||nm.toList.isEmpty):=by unfold aco;rw[Bool.not_or]
theorem FH(ki fn fd:Int):acr ki fn fd= !(((!(ki==1))&&(!(ki==2)))||((!(dK.ok ⟨fn,fd⟩))||decide (fn<=0))):=by unfold acr;cases ki==1<;>cases ki==2<;>cases dK.ok ⟨fn,fd⟩<;>cases decide (fn<=0)<;>rfl
theorem Lp(us:List gy)(ki ba:Int):acs us ki ba= !((!(qm us ba))||((!(Gd us ba==ki))||(!(Gf us ba==ba)))):=by unfold acs;cases qm us ba<;>cases Gd us ba==ki<;>cases Gf us ba==ba<;>rfl
theorem JH(A:Option Addr)(c:Nat)(us:List gy)(i:Nat)(u:gy)(w:World)(hA:At w 5 A us.length c (us.flatMap gy.cells))(hk:us[i]?=some u)(hn:us.length<=1000):
 Calls Tryz.prog 133 #[.slice A us.length c,.int .i64 i] w (dX (.bool (xX us i u)) w):=by
 have hil:i<us.length:=(bC.1 hk).1;obtain⟨b,off,rfl,hb,hcell⟩:=hA.1.form (by omega) (by omega);have hcap:us.length<=c:=hA.2.2.1;have hcx:c<=maxLen:=hA.2.2.2;unfold maxLen at hcx;clear hA;have hg:∀(x:Nat)(a:gy)(j:Nat),us[x]?=some a->j<5->w.cell? ⟨b,off+x*5+j,none⟩=a.cells[j]?:=λx a j ha hj=>by
  have hx:x<us.length:=(bC.1 ha).1;rw[lV,hcell _ (by omega)];exact dh _ 5 (λ_=>rfl) us x j a ha hj
 clear hcell;obtain⟨nm,ki,ba,⟨fn,fd⟩⟩:=u;generalize hE:xX us i ⟨nm,ki,ba,⟨fn,fd⟩⟩=E;simp only[xX]at hE;have HE:=ah hE;clear hE;have c0:w.cell? ⟨b,off+i*5,none⟩=some (.string nm):=hg i _ 0 hk (by omega);have c1:w.cell? ⟨b,off+i*5+1,none⟩=some (.int .i64 ki):=hg i _ 1 hk (by omega);have c2:w.cell? ⟨b,off+i*5+2,none⟩=some (.int .i64 ba):=hg i _ 2 hk (by omega);have c3:w.cell? ⟨b,off+i*5+3,none⟩=some (.int .i64 fn):=hg i _ 3 hk (by omega);have c4:w.cell? ⟨b,off+i*5+4,none⟩=some (.int .i64 fd):=hg i _ 4 hk (by omega);have HG:=ah hg;clear hg;have HK:=ah hk;clear hk;have HR:=ah (λW:World=>xU ⟨fn,fd⟩ W);have HI:=ah (λ(x:Int)(W:World)=>Ny (some ⟨b,off,none⟩) c us x W);obtain⟨b1,hb1⟩:∃b,((fn==1)&&(fd==1))=b:=⟨_,rfl⟩;have heq:=λ(w:World)=>Gg w fn fd;rw[hb1]at heq;have HB1:Hid (acu i ba fn fd=((!(ba==(i:Int)))||b1)):=by show _=_;unfold acu;rw[hb1]
 have i0:(0:Int)<=(i:Int):=by omega
 have i1:(i:Int)<(us.length:Int):=by omega
 have i2:(i:Int)<=(c:Int):=by omega
 clear hb1;go_enter Tryz.func133,Tryz.ntmps133;go_upto_region 2 with(fail)
 generalize hW0:World.alloc _ _=W0;obtain⟨HB,hh0⟩:=bx1 hW0;clear hW0;obtain⟨j5,j6,kE,lg,lq⟩:=kc5 hh0;clear hh0;change Code.wp _ _ _ _ (Bl.val (⟨W0,aC _ _⟩:Bl W0));generalize(⟨W0,aC _ _⟩:Bl W0)=s0;clear c0 c1 c2 c3 c4;have Gh:Hid (∀(s:Bl W0)(x:Nat)(a:gy)(j:Nat),us[x]?=some a->j<5->s.val.cell? ⟨b,off+x*5+j,none⟩=a.cells[j]?):=λs x a j ha hj=>by
  rw[(ay HB.out s.prop).cell (p:=⟨b,off+x*5+j,none⟩) hb];exact HG.out x a j ha hj
 have HUB:Hid (qm us ba=true->0<=ba/\ba<(us.length:Int)/\(∀z:Bl W0,z.val.cell? ⟨b,off+ba.toNat*5+1,none⟩=some (.int .i64 (Gd us ba)))/\∀z:Bl W0,z.val.cell? ⟨b,off+ba.toNat*5+2,none⟩=some (.int .i64 (Gf us ba))):=λh=>by
  obtain⟨x0,x1⟩:=Qx h;obtain⟨a,ha⟩:∃a,us[ba.toNat]?=some a:=⟨us[ba.toNat]'(by omega),aW _⟩;refine⟨x0,x1,λz=>?_,λz=>?_⟩
  .rw[Gh.out z _ _ 1 ha (by omega)];simp[Gd,ha,gy.cells]
  .rw[Gh.out z _ _ 2 ha (by omega)];simp[Gf,ha,gy.cells]
 obtain⟨b1,nC⟩:∃b,Hid ((decide (20<=(i:Int))||nm.toList.isEmpty)=b):=⟨_,rfl⟩;go_upto_region 2 with(fail)
 go_cut [18] (λc wx=>c= .bool b1/\∃z:Bl W0,wx=z.val)
 case first=>
  have hE:=(iR (decide (20<=(i:Int))||nm.toList.isEmpty)).symm.trans nC.out;simp only[Nb]at hE;repeat' (first|(replace hE:=u6 hE (by assumption))|(replace hE:=u_ hE (by assumption))|(replace hE:=mX hE;rcases hE with⟨q,q',hE⟩|⟨q,q',hE⟩)|(replace hE:=jH hE;rcases hE with⟨q,hE⟩|⟨q,hE⟩)|fail)
  all_goals
   subst hE
   as_aux_lemma=>
    go_wp2_with (first|(go_at_call 134;refine dL (HR.out _) (by assumption) (λz=>?_))|(go_at_call 157;refine dL (HI.out _ _) (by assumption) (λz=>?_)))
    go_meet
    exact⟨rfl,_,rfl⟩
 case rest=>
  obtain⟨rfl,z1,rfl⟩:=hcut;cases b1 with
  |false=>
   as_aux_lemma=>
    have xW:=nC;clear nC;go_wp2
    go_loopg [23] i (λgk v23 wr=>∃(j:Nat)(z:Bl W0),gk=i - j/\j<=i/\v23= .int .i64 j/\wr=z.val/\Hid (newName (us.take j) nm=true))
    case atStart=>exact⟨0,_,rfl,aZ _,rfl,rfl,rfl⟩
    case round=>
     obtain⟨j,z,eZ,hj,rfl,rfl,hpre⟩:=hrel;have iL:=ah eZ;clear eZ;by_cases hlt:j<i
     .obtain⟨⟨om,ok,ob,⟨ofn,ofd⟩⟩,hx⟩:∃x,us[j]?=some x:=⟨us[j]'(by omega),aW _⟩
      obtain⟨e0,e1,e2,e3,e4⟩:z.val.cell? ⟨b,off+j*5,none⟩=some (.string om)/\z.val.cell? ⟨b,off+j*5+1,none⟩=some (.int .i64 ok)/\z.val.cell? ⟨b,off+j*5+2,none⟩=some (.int .i64 ob)/\z.val.cell? ⟨b,off+j*5+3,none⟩=some (.int .i64 ofn)/\z.val.cell? ⟨b,off+j*5+4,none⟩=some (.int .i64 ofd):=⟨Gh.out z j _ 0 hx (by omega),Gh.out z j _ 1 hx (by omega),Gh.out z j _ 2 hx (by omega),Gh.out z j _ 3 hx (by omega),Gh.out z j _ 4 hx (by omega)⟩;have HX:=ah hx;clear hx;have j1:(j:Int)<(i:Int):=by omega
      go_upto_region 7 with(fail)
      generalize hWa:World.alloc _ _=Wa;obtain⟨hba,hxa⟩:=bx1' hWa;clear hWa;obtain⟨d0,d1,d2,d3,d4⟩:=kc5 hxa;obtain⟨za,hza⟩:∃za:Bl W0,za.val=Wa:=⟨⟨Wa,ay z.prop hba⟩,rfl⟩;replace d0:=d0 ⟨Wa,aC _ _⟩;simp only at d0;clear d1 d2 d3 d4;subst hza;clear hba hxa e0 e1 e2 e3 e4;cases q:(om.toList==nm.toList)with
      |true=>
       have hcs:=Nw HX.out hlt q;obtain rfl:E=false:=by rw[<-HE.out,zu,xW.out,hcs];rfl
       clear hcs;go_wp2;go_ret;exact⟨rfl,ay HB.out (Bl.prop _)⟩
      |false=>
       go_wp2
       go_roundg (i - (j+1))
       case measure=>rw[iL.out];omega
       case rel=>exact⟨j+1,_,rfl,by omega,by go_num,rfl,Lm HX.out hpre.out q⟩
     .obtain rfl:j=i:=by omega
      have Nv:=ah hpre.out;clear hpre iL;obtain⟨b2,Ju⟩:∃b,Hid ((((!(ki==1))&&(!(ki==2)))||((!(dK.ok ⟨fn,fd⟩))||decide (fn<=0)))=b):=⟨_,rfl⟩;go_upto_region 10 with(fail)
      go_cut [52] (λc wx=>c= .bool b2/\∃z:Bl W0,wx=z.val)
      case first=>
       have hE:=(iR (((!(ki==1))&&(!(ki==2)))||((!(dK.ok ⟨fn,fd⟩))||decide (fn<=0)))).symm.trans Ju.out;simp only[Nb]at hE;repeat' (first|(replace hE:=u6 hE (by assumption))|(replace hE:=u_ hE (by assumption))|(replace hE:=mX hE;rcases hE with⟨q,q',hE⟩|⟨q,q',hE⟩)|(replace hE:=jH hE;rcases hE with⟨q,hE⟩|⟨q,hE⟩)|fail)
       all_goals
        subst hE
        as_aux_lemma=>
         go_wp2_with (first|(go_at_call 134;refine dL (HR.out _) (by assumption) (λz=>?_))|(go_at_call 157;refine dL (HI.out _ _) (by assumption) (λz=>?_)))
         go_meet
         exact⟨rfl,_,rfl⟩
      case rest=>
       obtain⟨rfl,z2,rfl⟩:=hcut;cases b2 with
       |false=>
        as_aux_lemma=>
         have FD:=Ju;clear Ju;obtain⟨b3,Zh⟩:∃b,Hid (((!(qm us ba))||((!(Gd us ba==ki))||(!(Gf us ba==ba))))=b):=⟨_,rfl⟩;go_upto_region 12 with(fail)
         go_cut [79] (λc wx=>c= .bool b3/\∃z:Bl W0,wx=z.val)
         case first=>
          have hE:=(iR ((!(qm us ba))||((!(Gd us ba==ki))||(!(Gf us ba==ba))))).symm.trans Zh.out;simp only[Nb]at hE;repeat' (first|(replace hE:=u6 hE (by assumption))|(replace hE:=u_ hE (by assumption))|(replace hE:=mX hE;rcases hE with⟨q,q',hE⟩|⟨q,q',hE⟩)|(replace hE:=jH hE;rcases hE with⟨q,hE⟩|⟨q,hE⟩)|fail)
          all_goals
           subst hE;try(have Zi:=HUB.out (by assumption);obtain⟨x0,x1,g1,g2⟩:=Zi)
           refine aI (by kernel_rfl) (by kernel_rfl) ?_;(repeat(go_big_quiet_step (first|(go_at_call 134;exact Calls.dw (lit (HR.out _) (by assumption)))|(go_at_call 157;exact Calls.dw (lit (HI.out _ _) (by assumption))))));refine aS ?_;rintro _ ⟨zq,rfl⟩;go_wp2
           go_meet
           exact⟨rfl,_,rfl⟩
         case rest=>
          obtain⟨rfl,z3,rfl⟩:=hcut;cases b3 with
          |false=>
           have JI:=Zh;clear Zh;obtain⟨b4,ZH,hE⟩:∃b,Hid (((!(ba==(j:Int)))||b1)=b)/\cond ((!(ba==(j:Int)))||b1) true false=b:=⟨_,rfl,(iR _).symm⟩;simp only[Nb]at hE;repeat' (first|(replace hE:=u6 hE (by assumption))|(replace hE:=u_ hE (by assumption))|(replace hE:=mX hE;rcases hE with⟨q,q',hE⟩|⟨q,q',hE⟩)|(replace hE:=jH hE;rcases hE with⟨q,hE⟩|⟨q,hE⟩)|fail)
           all_goals first
            |focus
             obtain rfl:b4=false:=hE.symm;clear hE
             as_aux_lemma=>
              obtain rfl:E=false:=by rw[<-HE.out,zu,xW.out,Nv.out,FH,FD.out,Lp,JI.out,HB1.out,ZH.out];rfl
              go_wp2_with (first|fail);first
               |(go_ret;exact⟨rfl,ay HB.out (Bl.prop _)⟩)
               |(refine aI (by kernel_rfl) (by kernel_rfl) ?_;(repeat(go_big_quiet_step (first|fail)));refine aS ?_;rintro _ ⟨zq,rfl⟩;go_wp2;go_ret;exact⟨rfl,ay HB.out (Bl.prop _)⟩)
            |focus
             obtain rfl:b4=true:=hE.symm;clear hE
             as_aux_lemma=>
              obtain rfl:E=true:=by rw[<-HE.out,zu,xW.out,Nv.out,FH,FD.out,Lp,JI.out,HB1.out,ZH.out];rfl
              go_wp2_with (first|fail);first
               |(go_ret;exact⟨rfl,ay HB.out (Bl.prop _)⟩)
               |(refine aI (by kernel_rfl) (by kernel_rfl) ?_;(repeat(go_big_quiet_step (first|fail)));refine aS ?_;rintro _ ⟨zq,rfl⟩;go_wp2;go_ret;exact⟨rfl,ay HB.out (Bl.prop _)⟩)
          |true=>
           obtain rfl:E=false:=by rw[<-HE.out,zu,xW.out,Nv.out,FH,FD.out,Lp,Zh.out];rfl
           go_wp2;go_ret;exact⟨rfl,ay HB.out (Bl.prop _)⟩
       |true=>
        as_aux_lemma=>
         obtain rfl:E=false:=by rw[<-HE.out,zu,xW.out,Nv.out,FH,Ju.out];rfl
         go_wp2;go_ret;exact⟨rfl,ay HB.out (Bl.prop _)⟩
  |true=>
   as_aux_lemma=>
    obtain rfl:E=false:=by rw[<-HE.out,zu,nC.out];rfl
    go_wp2;go_ret;exact⟨rfl,ay HB.out (Bl.prop _)⟩
end
section
open Go.RowKit
def qY(us:List gy):Bool:=(List.range us.length).all (λi=>match us[i]? with|some u=>xX us i u|none=>true)
theorem Nz{us:List gy}{i:Nat}{u:gy}(hu:us[i]?=some u)(h:xX us i u=false):qY us=false:=by
 cases e:qY us with
 |false=>rfl
 |true=>
  unfold qY at e;have hi:i<us.length:=(bC.1 hu).1;have:=fE.1 e i (by simpa using hi);simp only[hu]at this;rw[this]at h;cases h
theorem NA{us:List gy}(h:∀i u,us[i]?=some u->xX us i u=true):qY us=true:=by
 unfold qY;rw[fE];intro i _;cases e:us[i]? with
 |none=>rfl
 |some u=>exact h i u e
def Di(us:List gy)(w:World)(e:Ending)(w':World):Prop:=∃n:Int,e= .returned (.tuple #[.int .i64 n,.bool (qY us)])/\Below w.heap.size w w'
theorem Gi(A:Option Addr)(c:Nat)(us:List gy)(w:World)(hA:At w 5 A us.length c (us.flatMap gy.cells))(hn:us.length<=1000):
 Calls Tryz.prog 83 #[.slice A us.length c] w (Di us w):=by
 have HA:=ah hA;clear hA;generalize hE:qY us=E;have HE:=ah hE;clear hE;have hP:∀n:Int,∀b:Bool,b=E->∀w',Below w.heap.size w w'->Di us w (.returned (.tuple #[.int .i64 n,.bool b])) w':=λn b hb w' hw=>⟨n,by rw[hb,HE.out],hw⟩;have HP:=ah hP;clear hP;go_enter Tryz.func83,Tryz.ntmps83;go_wp2
 go_loopg [7] us.length (λgk v7 wr=>∃(j:Nat),gk=us.length - j/\j<=us.length/\v7= .int .i64 j/\Below w.heap.size w wr/\Hid (∀i u,i<j->us[i]?=some u->xX us i u=true))
 case atStart=>exact⟨0,rfl,aZ _,rfl,aC _ _,λi u h=>by omega⟩
 case round=>
  obtain⟨j,eZ,hj,rfl,hb,hpre⟩:=hrel;have iL:=ah eZ;clear eZ;by_cases hlt:j<us.length
  .obtain⟨u,hu⟩:∃u,us[j]?=some u:=⟨us[j],aW hlt⟩
   have hc:=JH A c us j u wr (HA.out.below (by omega) hb) hu hn;generalize hv:xX us j u=vv at hc;have HV:=ah hv;clear hv;have HU:=ah hu;clear hu;have HCC:=ah hc;clear hc;have HBB:=ah hb;clear hb;have j1:(j:Int)<(us.length:Int):=by omega
   cases vv with
   |false=>
    have HF:Hid (false=E):=by show _=_;rw[<-HE.out,Nz HU.out HV.out]
    go_wp2_with (go_at_call 133;refine HCC.out.mono ?_;rintro e z ⟨rfl,hz⟩)
    go_ret2
    exact HP.out _ _ HF.out _ (ay HBB.out hz)
   |true=>
    go_wp2_with (go_at_call 133;refine HCC.out.mono ?_;rintro e z ⟨rfl,hz⟩)
    go_roundg (us.length - (j+1))
    case measure=>rw[iL.out];omega
    case rel=>exact⟨j+1,rfl,by omega,by go_num,ay HBB.out hz,λi u hi hu=>by
     by_cases e:i=j
     .subst e
      rw[HU.out]at hu;injection hu with hu
      subst hu;exact HV.out
     .exact hpre.out i u (by omega) hu⟩
  .obtain rfl:j=us.length:=by omega
   have HF:Hid (true=E):=by
    show _=_;rw[<-HE.out,NA (λi u hu=>hpre.out i u (bC.1 hu).1 hu)]
   have HBB:=ah hb;clear hb;go_wp2
   go_ret2
   exact HP.out _ _ HF.out _ HBB.out
def aB.party(C:aB)(p:Int):Bool:=decide (0<=p)&&decide (p<C.aJ)
def aB.held(C:aB):Bool:=C.aj.all (λp=>C.party p)
theorem WV{C:aB}{j:Nat}{x:Int}(hx:C.aj[j]?=some x)(h:C.party x=false):C.held=false:=by
 cases e:C.held with
 |false=>rfl
 |true=>
  unfold aB.held at e;rw[fE.1 e x (bT hx)]at h;cases h
theorem WW{C:aB}(h:∀(j:Nat)(x:Int),C.aj[j]?=some x->C.party x=true):C.held=true:=by
 unfold aB.held;rw[fE];intro x hx;obtain⟨j,hj⟩:=wZ hx;exact h j x hj
theorem WX(v:CV)(C:aB)(w:World)(hC:cK w v C)(hp:C.aJ<=1000):Calls Tryz.prog 82 #[v.val C] w (dX (.bool C.held) w):=by
 obtain⟨⟨hA,hcp⟩,⟨uA,Bz⟩,⟨aA,Dc⟩,⟨kA,zw⟩,⟨oA,Df⟩⟩:=v;have HH:Hid (At w 1 hA C.aj.length hcp (aY C.aj)):=hC.aj;have hhx:C.aj.length<=9223372036854775807:=by have h1:=HH.out.2.2.1;have h2:=HH.out.2.2.2;unfold maxLen at h2;omega
 clear hC;simp only[CV.val,CV.cells];generalize hE:C.held=E;have HE:=ah hE;clear hE;go_enter Tryz.func82,Tryz.ntmps82;go_wp2;obtain⟨W0,HW0⟩:∃W0,Hid (W0=w.alloc (.cells #[.int .i64 C.aJ,.slice hA C.aj.length hcp,.slice uA C.units.length Bz,.slice aA C.acts.length Dc,.slice kA C.clauses.length zw,.int .i64 C.days,.slice oA C.off.length Df] 27)):=⟨_,rfl⟩;have k0:W0.cell? ⟨w.heap.size,0,none⟩=some (.int .i64 C.aJ):=by rw[HW0.out];go_simp
 have k1:W0.cell? ⟨w.heap.size,1,none⟩=some (.slice hA C.aj.length hcp):=by rw[HW0.out];go_simp
 have HB:Hid (Below w.heap.size w W0):=by show Below _ _ _;rw[HW0.out];exact aN (aC _ _) _
 rw[<-HW0.out];go_step3;go_wp2;go_step3;go_wp2
 go_loopg [8] C.aj.length (λgk v8 wr=>∃(j:Nat),gk=C.aj.length - j/\j<=C.aj.length/\v8= .int .i64 j/\W0=wr/\Hid (∀i x,i<j->C.aj[i]?=some x->C.party x=true))
 case atStart=>exact⟨0,rfl,aZ _,rfl,rfl,λi u h=>by omega⟩
 case round=>
  obtain⟨j,eZ,hj,rfl,rfl,hpre⟩:=hrel;have iL:=ah eZ;clear eZ;by_cases hlt:j<C.aj.length
  .obtain⟨b,off,rfl,hbl,hcell⟩:=(HH.out.below (by omega) HB.out).1.form (by omega) (by omega)
   obtain⟨x,hx⟩:∃x,C.aj[j]?=some x:=⟨C.aj[j],aW hlt⟩;have kx:W0.cell? ⟨b,off+j,none⟩=some (.int .i64 x):=by rw[hcell _ (by omega)];simp[aY,hx]
   clear hcell;have HX:=ah hx;clear hx;have j1:(j:Int)<(C.aj.length:Int):=by omega
   go_wp2
   go_loopg [13] C.aJ.toNat (λgk2 v13 wr=>∃(p:Nat),gk2=C.aJ.toNat - p/\p<=C.aJ.toNat/\v13= .int .i64 p/\W0=wr/\Hid (∀q:Nat,q<p->x≠(q:Int)))
   case atStart=>exact⟨0,rfl,aZ _,rfl,rfl,λq h=>by omega⟩
   case round=>
    obtain⟨p,Ga,hpp,rfl,rfl,Kq⟩:=hrel;have Fg:=ah Ga;clear Ga;by_cases hlp:(p:Int)<C.aJ
    .cases q:(x==(p:Int))with
     |true=>
      have hxp:x=p:=by simpa using q
      have En:Hid (C.party x=true):=by show _=_;simp[aB.party,hxp];omega
      clear hxp;go_wp2
      go_roundg (C.aj.length - (j+1))
      case measure=>rw[iL.out];omega
      case rel=>exact⟨j+1,rfl,by omega,by go_num,rfl,λi y hi hy=>by
       by_cases e:i=j
       .subst e
        rw[HX.out]at hy;injection hy with hy
        subst hy;exact En.out
       .exact hpre.out i y (by omega) hy⟩
     |false=>
      have hxp:¬x=p:=by simpa using q
      have HXP:=ah hxp;clear hxp;go_wp2
      go_roundg (C.aJ.toNat - (p+1))
      case measure=>rw[Fg.out];omega
      case rel=>exact⟨p+1,rfl,by omega,by go_num,rfl,λr hr=>by
       by_cases e:r=p
       .subst e;exact HXP.out
       .exact Kq.out r (by omega)⟩
    .have hnp:Hid (C.party x=false):=by
      show _=_;cases e:C.party x with
      |false=>rfl
      |true=>
       simp only[aB.party,bP,decide_eq_true_eq]at e;exact absurd (by omega) (Kq.out x.toNat (by omega))
     obtain rfl:E=false:=by rw[<-HE.out,WV HX.out hnp.out]
     have hd:decide ((p:Int)<C.aJ)=false:=by simpa using hlp
     go_wp2
     (try rw[Exit.noGoto_ret])
     go_ret;exact⟨rfl,HB.out⟩
  .obtain rfl:j=C.aj.length:=by omega
   obtain rfl:E=true:=by rw[<-HE.out,WW (λi u hu=>hpre.out i u (bC.1 hu).1 hu)]
   go_wp2
   (try rw[Exit.noGoto_ret])
   go_ret;exact⟨rfl,HB.out⟩
end
section
open Go.RowKit
def aB.xk(C:aB)(a:jg):Bool:=Ay C a.kind a.role a.give a.tgt a.unit a.lot.num a.lot.den
def aB.Az(C:aB):Bool:=C.acts.all (λa=>C.xk a)
def tN(days:Int):Int->List Int->Bool
 |_,[]=>true
 |last,d::l=>(!decide (d<=last))&&((!decide (days<=d))&&tN days d l)
def Uw(C:aB):Bool:=((!decide (C.aJ<1))&&((!decide (C.days<1))&&((!((C.aj.length:Int)==0))&&C.held)))
def aB.framed(C:aB):Bool:=Uw C&&(qY C.units&&(C.Az&&tN C.days (-1) C.off))
theorem Gj{C:aB}{j:Nat}{x:jg}(hx:C.acts[j]?=some x)(h:C.xk x=false):C.Az=false:=by
 cases e:C.Az with
 |false=>rfl
 |true=>
  unfold aB.Az at e;rw[fE.1 e x (bT hx)]at h;cases h
theorem Qy{C:aB}(h:∀(j:Nat)(x:jg),C.acts[j]?=some x->C.xk x=true):C.Az=true:=by
 unfold aB.Az;rw[fE];intro x hx;obtain⟨j,hj⟩:=wZ hx;exact h j x hj
theorem Gl{α:Type}{l:List α}{j:Nat}{x:α}(h:l[j]?=some x):l.drop j=x::l.drop (j+1):=by
 obtain⟨hj,rfl⟩:=bC.1 h;exact List.drop_eq_getElem_cons hj
theorem Qz(v:CV)(C:aB)(w:World)(hC:cK w v C)(hp:C.aJ<=1000)(hu:C.units.length<=1000):Calls Tryz.prog 56 #[v.val C] w (dX (.bool C.framed) w):=by
 obtain⟨⟨hA,hcp⟩,⟨uA,Bz⟩,⟨aA,Dc⟩,⟨kA,zw⟩,⟨oA,Df⟩⟩:=v;have hax:C.acts.length<=9223372036854775807:=by have h1:=hC.acts.2.2.1;have h2:=hC.acts.2.2.2;unfold maxLen at h2;omega
 have hox:C.off.length<=9223372036854775807:=by have h1:=hC.off.2.2.1;have h2:=hC.off.2.2.2;unfold maxLen at h2;omega
 have HC:=ah hC;clear hC;simp only[CV.val,CV.cells];generalize hE:C.framed=E;simp only[aB.framed]at hE;have HE:=ah hE;clear hE;go_enter Tryz.func56,Tryz.ntmps56;go_upto_region 1 with(fail)
 generalize hW0:World.alloc _ _=W0;obtain⟨HB,hh0⟩:=bx1 hW0;have HW0:=ah hW0.symm;clear hW0;obtain⟨j5,j6,kE,lg,lq,l7,ny⟩:=Jt hh0;clear hh0;change Code.wp _ _ _ _ (Bl.val (⟨W0,aC _ _⟩:Bl W0));generalize(⟨W0,aC _ _⟩:Bl W0)=s0;have hh:∀s:Bl W0,Calls Tryz.prog 82 #[.agg #[.int .i64 C.aJ,.slice hA C.aj.length hcp,.slice uA C.units.length Bz,.slice aA C.acts.length Dc,.slice kA C.clauses.length zw,.int .i64 C.days,.slice oA C.off.length Df]] s.val (dX (.bool C.held) s.val):=λs=>WX (⟨⟨hA,hcp⟩,⟨uA,Bz⟩,⟨aA,Dc⟩,⟨kA,zw⟩,⟨oA,Df⟩⟩:CV) C s.val (HC.out.below (ay HB.out s.prop)) hp;have HH:=ah hh;clear hh;have hun:∀s:Bl W0,Calls Tryz.prog 83 #[.slice uA C.units.length Bz] s.val (Di C.units s.val):=λs=>Gi uA Bz C.units s.val (HC.out.below (ay HB.out s.prop)).units hu;have ZF:=ah hun;clear hun;have hac:∀(a:jg)(s:Bl W0),Calls Tryz.prog 84 #[.agg #[.int .i64 C.aJ,.slice hA C.aj.length hcp,.slice uA C.units.length Bz,.slice aA C.acts.length Dc,.slice kA C.clauses.length zw,.int .i64 C.days,.slice oA C.off.length Df],.agg #[.int .i64 a.kind,.int .i64 a.role,.int .i64 a.give,.int .i64 a.tgt,.int .i64 a.unit,.int .i64 a.lot.num,.int .i64 a.lot.den]] s.val (dX (.bool (C.xk a)) s.val):=λa s=>Li (⟨⟨hA,hcp⟩,⟨uA,Bz⟩,⟨aA,Dc⟩,⟨kA,zw⟩,⟨oA,Df⟩⟩:CV) C a.kind a.role a.give a.tgt a.unit a.lot.num a.lot.den s.val;have HAC:=ah hac;clear hac
 focus
  cases q1:decide (C.aJ<1)
  focus
   cases q2:decide (C.days<1)
   focus
    cases q3:((C.aj.length:Int)==0)
    focus
     cases q4:C.held
     focus
      have hP1:Uw C=false:=by unfold Uw;rw[q1,q2,q3,q4];rfl
      obtain rfl:E=false:=by rw[<-HE.out,hP1];rfl
     rotate_left
     focus
      have hP1:Uw C=true:=by unfold Uw;rw[q1,q2,q3,q4];rfl
      have nC:=ah hP1;clear hP1;go_wp2_with fail;refine(HH.out _).mono ?_;rintro e z ⟨rfl,hz⟩;obtain⟨z1,rfl⟩:=Bl.on hz;clear hz;go_wp2_with fail;refine(ZF.out _).mono ?_;rintro e z ⟨n,rfl,hz⟩;obtain⟨z2,rfl⟩:=Bl.on hz;clear hz;cases hcu:qY C.units
      focus
       obtain rfl:E=false:=by rw[<-HE.out,nC.out,hcu];rfl
       go_wp2;go_ret;exact⟨rfl,ay HB.out (Bl.prop _)⟩
      focus
       have HCU:=ah hcu;clear hcu;go_wp2
       go_loopg [40] C.acts.length (λgk v40 wr=>∃(j:Nat)(z:Bl W0),gk=C.acts.length - j/\j<=C.acts.length/\v40= .int .i64 j/\wr=z.val/\Hid (∀(i:Nat)(x:jg),i<j->C.acts[i]?=some x->C.xk x=true))
       case atStart=>exact⟨0,_,rfl,aZ _,rfl,rfl,λi x h=>by omega⟩
       case round=>
        obtain⟨j,z,eZ,hj,rfl,rfl,hpre⟩:=hrel;have iL:=ah eZ;clear eZ;by_cases hlt:j<C.acts.length
        .obtain⟨a,ha⟩:∃a,C.acts[j]?=some a:=⟨C.acts[j],aW hlt⟩
         obtain⟨b,off,jB,hb,hcell⟩:=HC.out.act ha;simp only at jB;subst jB;have hcw:=hcell z.val (ay HB.out z.prop);clear hcell;have hca:=HAC.out a;generalize hv:C.xk a=vv at hca;have HV:=ah hv;clear hv;have HAJ:=ah ha;clear ha;obtain⟨ki,ro,gi,tg,un,⟨ln,ld⟩⟩:=a;obtain⟨e0,e1,e2,e3,e4,e5,e6⟩:=rw7 hcw rfl;clear hcw;have hl0:w.heap.size<z.val.heap.size:=uZ (by rw[HW0.out];simp) z.prop.size;have j1:(j:Int)<(C.acts.length:Int):=by omega
         have uE:Hid (∀s:Bl W0,Calls Tryz.prog 84 #[.agg #[.int .i64 C.aJ,.slice hA C.aj.length hcp,.slice uA C.units.length Bz,.slice (some ⟨b,off,none⟩) C.acts.length Dc,.slice kA C.clauses.length zw,.int .i64 C.days,.slice oA C.off.length Df],.agg #[.int .i64 ki,.int .i64 ro,.int .i64 gi,.int .i64 tg,.int .i64 un,.int .i64 ln,.int .i64 ld]] s.val (dX (.bool vv) s.val)):=hca;clear hca;go_wp2_with fail;have HZ:Hid (Calls Tryz.prog 84 #[.agg #[.int .i64 C.aJ,.slice hA C.aj.length hcp,.slice uA C.units.length Bz,.slice (some ⟨b,off,none⟩) C.acts.length Dc,.slice kA C.clauses.length zw,.int .i64 C.days,.slice oA C.off.length Df],.agg #[.int .i64 ki,.int .i64 ro,.int .i64 gi,.int .i64 tg,.int .i64 un,.int .i64 ln,.int .i64 ld]] (z.val.alloc (.cells #[.int .i64 ki,.int .i64 ro,.int .i64 gi,.int .i64 tg,.int .i64 un,.int .i64 ln,.int .i64 ld] 109)) (dX (.bool vv) (z.val.alloc (.cells #[.int .i64 ki,.int .i64 ro,.int .i64 gi,.int .i64 tg,.int .i64 un,.int .i64 ln,.int .i64 ld] 109)))):=uE.out ⟨_,aN z.prop _⟩;refine HZ.out.mono ?_;rintro e y ⟨rfl,hy⟩;obtain⟨y1,rfl⟩:∃y1:Bl W0,y=y1.val:=⟨⟨y,ay (aN z.prop _) hy⟩,rfl⟩;clear hy HZ;cases vv with
         |false=>
          obtain rfl:E=false:=by rw[<-HE.out,nC.out,HCU.out,Gj HAJ.out HV.out];rfl
          go_wp2;go_ret;exact⟨rfl,ay HB.out y1.prop⟩
         |true=>
          go_wp2
          go_roundg (C.acts.length - (j+1))
          case measure=>rw[iL.out];omega
          case rel=>exact⟨j+1,y1,rfl,by omega,by go_num,rfl,λi x hi hx=>by
           by_cases e:i=j
           .subst e
            rw[HAJ.out]at hx;injection hx with hx
            subst hx;exact HV.out
           .exact hpre.out i x (by omega) hx⟩
        .obtain rfl:j=C.acts.length:=by omega
         have WY:Hid (C.Az=true):=Qy (λi x hx=>hpre.out i x (bC.1 hx).1 hx);go_wp2
         go_loopg [52,7] C.off.length (λgk v52 v7 wr=>∃(j:Nat)(last:Int),gk=C.off.length - j/\j<=C.off.length/\v52= .int .i64 j/\v7= .int .i64 last/\z.val=wr/\Hid (tN C.days (-1) C.off=tN C.days last (C.off.drop j)))
         case atStart=>exact⟨0, -1,rfl,aZ _,rfl,rfl,rfl,rfl⟩
         case round=>
          obtain⟨j,last,eZ,hj,rfl,rfl,rfl,hpre⟩:=hrel;have Fg:=ah eZ;clear eZ;by_cases hlt:j<C.off.length
          .obtain⟨b,off,jB,hbl,hcell⟩:=(HC.out.below (ay HB.out z.prop)).off.1.form (by omega) (by omega)
           simp only at jB;subst jB;obtain⟨d,hd⟩:∃d,C.off[j]?=some d:=⟨C.off[j],aW hlt⟩;have kx:z.val.cell? ⟨b,off+j,none⟩=some (.int .i64 d):=by rw[hcell _ (by omega)];simp[aY,hd]
           clear hcell;have HD:=ah hd;clear hd;have hst:=hpre.out;rw[Gl HD.out]at hst;have HST:=ah hst;clear hst;have j1:(j:Int)<(C.off.length:Int):=by omega
           cases q1:decide (d<=last)with
           |true=>
            obtain rfl:E=false:=by rw[<-HE.out,nC.out,HCU.out,WY.out,HST.out];simp[tN,q1]
            go_wp2;go_ret;exact⟨rfl,ay HB.out z.prop⟩
           |false=>
            cases q2:decide (C.days<=d)with
            |true=>
             obtain rfl:E=false:=by rw[<-HE.out,nC.out,HCU.out,WY.out,HST.out];simp[tN,q2]
             go_wp2;go_ret;exact⟨rfl,ay HB.out z.prop⟩
            |false=>
             go_wp2
             go_roundg (C.off.length - (j+1))
             case measure=>rw[Fg.out];omega
             case rel=>exact⟨j+1,d,rfl,by omega,by go_num,rfl,rfl,by show _=_;rw[HST.out,tN,q1,q2];rfl⟩
          .obtain rfl:j=C.off.length:=by omega
           obtain rfl:E=true:=by rw[<-HE.out,nC.out,HCU.out,WY.out,hpre.out,List.drop_of_length_le (bJ _)];rfl
           go_wp2;go_ret;exact⟨rfl,ay HB.out z.prop⟩
    rotate_left
    focus
     have hP1:Uw C=false:=by unfold Uw;rw[q1,q2,q3];rfl
     obtain rfl:E=false:=by rw[<-HE.out,hP1];rfl
   rotate_left 2
   focus
    have hP1:Uw C=false:=by unfold Uw;rw[q1,q2];rfl
    obtain rfl:E=false:=by rw[<-HE.out,hP1];rfl
  rotate_left 3
  focus
   have hP1:Uw C=false:=by unfold Uw;rw[q1];rfl
   obtain rfl:E=false:=by rw[<-HE.out,hP1];rfl
  all_goals
   go_wp2_with (first|(go_at_call 82;refine(HH.out _).mono ?_;rintro e z ⟨rfl,hz⟩;obtain⟨z,rfl⟩:=Bl.on hz;clear hz));first
    |(go_ret;exact⟨rfl,ay HB.out (Bl.prop _)⟩)
    |(refine aI (by kernel_rfl) (by kernel_rfl) ?_;(repeat(go_big_quiet_step ((first|(go_at_call 82;exact Calls.dw (HH.out _))))));refine aS ?_;rintro _ ⟨zq,rfl⟩;go_wp2_with (first|(go_at_call 82;refine(HH.out _).mono ?_;rintro e z ⟨rfl,hz⟩;obtain⟨z,rfl⟩:=Bl.on hz;clear hz));go_ret;exact⟨rfl,ay HB.out (Bl.prop _)⟩)
end
open Go.RowKit
def aB.over(C:aB):Bool:=(decide (12<C.aJ)||(decide (2000<C.days)||(decide (12<(C.aj.length:Int))||(decide (20<(C.units.length:Int))||(decide (60<(C.acts.length:Int))||decide (400<(C.clauses.length:Int)))))))
def aB.kC(C:aB):Bool:=(List.range C.clauses.length).all (λi=>match C.clauses[i]? with|some k=>C.jl i k|none=>true)
def aB.errno(C:aB):Int:=cond C.over 3 (cond (C.framed&&C.kC) 0 1)
def aB.valid(C:aB):Bool:=(!C.over)&&(C.framed&&C.kC)
theorem Ag{C:aB}{i:Nat}{k:aU}(hk:C.clauses[i]?=some k)(h:C.jl i k=false):C.kC=false:=by
 cases e:C.kC with
 |false=>rfl
 |true=>
  unfold aB.kC at e;have hi:i<C.clauses.length:=(bC.1 hk).1;have:=fE.1 e i (by simpa using hi);simp only[hk]at this;rw[this]at h;cases h
theorem JJ{C:aB}(h:∀(i:Nat)(k:aU),C.clauses[i]?=some k->C.jl i k=true):C.kC=true:=by
 unfold aB.kC;rw[fE];intro i _;cases e:C.clauses[i]? with
 |none=>rfl
 |some u=>exact h i u e
theorem Lr{C:aB}(h:C.kC=true){i:Nat}{k:aU}(hk:C.clauses[i]?=some k):C.jl i k=true:=by
 cases e:C.jl i k with
 |true=>rfl
 |false=>rw[Ag hk e]at h;cases h
def FI(er:Int)(w:World)(e:Ending)(w':World):Prop:=∃n:Int,e= .returned (.tuple #[.int .i64 er,.int .i64 n])/\Below w.heap.size w w'
theorem FJ{er Ux n:Int}{w w':World}(h:er=Ux)(hb:Below w.heap.size w w'):FI Ux w (.returned (.tuple #[.int .i64 er,.int .i64 n])) w':=⟨n,by rw[h],hb⟩
theorem wm(v:CV)(C:aB)(w:World)(hC:cK w v C):Calls Tryz.prog 31 #[v.val C] w (FI C.errno w):=by
 obtain⟨⟨hA,hcp⟩,⟨uA,Bz⟩,⟨aA,Dc⟩,⟨kA,zw⟩,⟨oA,Df⟩⟩:=v;have hkx:C.clauses.length<=9223372036854775807:=by obtain⟨_,_,h,_⟩:=hC.clauses;have h1:=h.2.2.1;have h2:=h.2.2.2;unfold maxLen at h2;omega
 have HC:=ah hC;clear hC;simp only[CV.val,CV.cells];generalize hE:C.errno=E;simp only[aB.errno]at hE;have HE:=ah hE;clear hE;go_enter Tryz.func31,Tryz.ntmps31;go_upto_region 1 with(fail)
 generalize hW0:World.alloc _ _=W0;obtain⟨HB,hh0⟩:=bx1 hW0;clear hW0;obtain⟨j5,j6,kE,lg,lq,l7,ny⟩:=Jt hh0;clear hh0;change Code.wp _ _ _ _ (Bl.val (⟨W0,aC _ _⟩:Bl W0));generalize(⟨W0,aC _ _⟩:Bl W0)=s0;have hcl:∀(i:Nat)(k:aU)(s:Bl W0),C.clauses[i]?=some k->Calls Tryz.prog 57 #[.agg #[.int .i64 C.aJ,.slice hA C.aj.length hcp,.slice uA C.units.length Bz,.slice aA C.acts.length Dc,.slice kA C.clauses.length zw,.int .i64 C.days,.slice oA C.off.length Df],.int .i64 i] s.val (dX (.bool (C.jl i k)) s.val):=λi k s hk=>Fh (⟨⟨hA,hcp⟩,⟨uA,Bz⟩,⟨aA,Dc⟩,⟨kA,zw⟩,⟨oA,Df⟩⟩:CV) C i k s.val (HC.out.below (ay HB.out s.prop)) hk;have Zj:=ah hcl;clear hcl
 focus
  cases q1:decide (12<C.aJ)
  focus
   cases q2:decide (2000<C.days)
   focus
    cases q3:decide (12<(C.aj.length:Int))
    focus
     cases q4:decide (20<(C.units.length:Int))
     focus
      cases q5:decide (60<(C.acts.length:Int))
      focus
       cases q6:decide (400<(C.clauses.length:Int))
       focus
        have hP1:C.over=false:=by unfold aB.over;rw[q1,q2,q3,q4,q5,q6];rfl
        have nC:=ah hP1;clear hP1;have hfr:∀s:Bl W0,Calls Tryz.prog 56 #[.agg #[.int .i64 C.aJ,.slice hA C.aj.length hcp,.slice uA C.units.length Bz,.slice aA C.acts.length Dc,.slice kA C.clauses.length zw,.int .i64 C.days,.slice oA C.off.length Df]] s.val (dX (.bool C.framed) s.val):=λs=>Qz (⟨⟨hA,hcp⟩,⟨uA,Bz⟩,⟨aA,Dc⟩,⟨kA,zw⟩,⟨oA,Df⟩⟩:CV) C s.val (HC.out.below (ay HB.out s.prop)) (by have h:=(by assumption:decide (12<C.aJ)=false);simp at h;omega) (by have h:=(by assumption:decide (20<(C.units.length:Int))=false);simp at h;omega);have HFR:=ah hfr;clear hfr;go_wp2_with fail;refine(HFR.out _).mono ?_;rintro e z ⟨rfl,hz⟩;obtain⟨z1,rfl⟩:=Bl.on hz;clear hz;cases hf:C.framed
        focus
         go_wp2
         go_ret2
         exact FJ (by rw[<-HE.out,nC.out,hf];rfl) (ay HB.out (Bl.prop _))
        focus
         have HF:=ah hf;clear hf;go_wp2
         go_loopg [43] C.clauses.length (λgk v43 wr=>∃(j:Nat)(z:Bl W0),gk=C.clauses.length - j/\j<=C.clauses.length/\v43= .int .i64 j/\wr=z.val/\Hid (∀(i:Nat)(x:aU),i<j->C.clauses[i]?=some x->C.jl i x=true))
         case atStart=>exact⟨0,_,rfl,aZ _,rfl,rfl,λi x h=>by omega⟩
         case round=>
          obtain⟨j,z,eZ,hj,rfl,rfl,hpre⟩:=hrel;have iL:=ah eZ;clear eZ;by_cases hlt:j<C.clauses.length
          .obtain⟨k,hk⟩:∃k,C.clauses[j]?=some k:=⟨C.clauses[j],aW hlt⟩
           have hca:=Zj.out j k z hk;generalize hv:C.jl j k=vv at hca;have HV:=ah hv;clear hv;have HK:=ah hk;clear hk;have uE:=ah hca;clear hca;have j1:(j:Int)<(C.clauses.length:Int):=by omega
           go_wp2_with fail;refine uE.out.mono ?_;rintro e y ⟨rfl,hy⟩;obtain⟨y1,rfl⟩:=Bl.on hy;clear hy uE;cases vv with
           |false=>
            go_wp2
            go_ret2
            exact FJ (by rw[<-HE.out,nC.out,HF.out,Ag HK.out HV.out];rfl) (ay HB.out (Bl.prop _))
           |true=>
            go_wp2
            go_roundg (C.clauses.length - (j+1))
            case measure=>rw[iL.out];omega
            case rel=>exact⟨j+1,y1,rfl,by omega,by go_num,rfl,λi x hi hx=>by
             by_cases e:i=j
             .subst e
              rw[HK.out]at hx;injection hx with hx
              subst hx;exact HV.out
             .exact hpre.out i x (by omega) hx⟩
          .obtain rfl:j=C.clauses.length:=by omega
           have WY:Hid (C.kC=true):=JJ (λi x hx=>hpre.out i x (bC.1 hx).1 hx);go_wp2
           go_ret2
           exact FJ (by rw[<-HE.out,nC.out,HF.out,WY.out];rfl) (ay HB.out z.prop)
       focus
        have hP1:C.over=true:=by unfold aB.over;rw[q1,q2,q3,q4,q5,q6];rfl
      rotate_left
      focus
       have hP1:C.over=true:=by unfold aB.over;rw[q1,q2,q3,q4,q5];rfl
     rotate_left 2
     focus
      have hP1:C.over=true:=by unfold aB.over;rw[q1,q2,q3,q4];rfl
    rotate_left 3
    focus
     have hP1:C.over=true:=by unfold aB.over;rw[q1,q2,q3];rfl
   rotate_left 4
   focus
    have hP1:C.over=true:=by unfold aB.over;rw[q1,q2];rfl
  rotate_left 5
  focus
   have hP1:C.over=true:=by unfold aB.over;rw[q1];rfl
  all_goals
   go_wp2
   go_ret2
   exact FJ (by rw[<-HE.out,hP1];rfl) (ay HB.out (Bl.prop _))
theorem aB.Kr{C:aB}(h:C.valid=true):C.errno=0:=by
 unfold aB.valid at h;unfold aB.errno;cases h1:C.over<;>simp[h1]at h⊢
 simp[h]
theorem aB.NC{C:aB}(h:C.valid=false):(C.errno==0)=false/\(C.errno !=0)=true:=by
 unfold aB.valid at h;unfold aB.errno;cases h1:C.over<;>cases h2:(C.framed&&C.kC)<;>simp[h1,h2]at h⊢
end Go.Proofs.YtpmdedcnbockhaaGreatDoor

/- part -/
import Derived.Test.YtpmdedcnbockhaaGreatDoorS01
set_option maxRecDepth 100000
set_option maxHeartbeats 8000000
namespace Go.Proofs.YtpmdedcnbockhaaGreatDoor
section
open Go.RowKit Tryz
def p9(us:List gH)(x:Int):Bool:=decide (0<=x)&&decide (x<us.length)
theorem Qr{us:List gH}{x:Int}(h:p9 us x=true):(0:Int)<=x/\x<(us.length:Int):=by simpa [p9]using h
def F9(us:List gH)(x:Int):Int:=((us[x.toNat]?).map (·.kind)).getD 0
def Ga(us:List gH)(x:Int):Int:=((us[x.toNat]?).map (·.base)).getD 0
def acD(i:Nat)(nm:ByteArray):Bool:=((!decide (20<=(i:Int)))&&(!nm.toList.isEmpty))
def acE(ki fn fd:Int):Bool:=(((ki==1)||(ki==2))&&((dz.ok ⟨fn,fd⟩)&&(!decide (fn<=0))))
def acF(us:List gH)(ki ba:Int):Bool:=((p9 us ba)&&(((F9 us ba)==ki)&&((Ga us ba)==ba)))
def acG(i:Nat)(ba fn fd:Int):Bool:=((!(ba==(i:Int)))||((fn==1)&&(fd==1)))
def newName(l:List gH)(nm:ByteArray):Bool:=l.all (λu=> !(u.name.toList==nm.toList))
def xu(us:List gH)(i:Nat)(u:gH):Bool:=
 acD i u.name&&(newName (us.take i) u.name&&(acE u.kind u.factor.num u.factor.den&&(acF us u.kind u.base&&acG i u.base u.factor.num u.factor.den)))
theorem Lg{l:List gH}{j:Nat}{x:gH}{nm:ByteArray}(hx:l[j]?=some x)(h:newName (l.take j) nm=true)(h2:(x.name.toList==nm.toList)=false):newName (l.take (j+1)) nm=true:=by
 obtain⟨hj,rfl⟩:=bB.1 hx;unfold newName at*;rw[List.take_succ_eq_append_getElem hj,List.all_append,h];simpa using h2
theorem Nt{l:List gH}{i j:Nat}{x:gH}{nm:ByteArray}(hx:l[j]?=some x)(hj:j<i)(h2:(x.name.toList==nm.toList)=true):newName (l.take i) nm=false:=by
 cases e:newName (l.take i) nm with
 |false=>rfl
 |true=>
  unfold newName at e;have hx2:(l.take i)[j]?=some x:=by rw[lT,if_pos hj];exact hx
  have:=fV.1 e x (cK hx2);rw[h2]at this;cases this
theorem Nu(A:Option Addr)(c:Nat)(us:List gH)(x:Int)(w:World):Calls prog 157 #[.slice A us.length c,.int .i64 x] w (dZ (.bool (p9 us x)) w):=by
 generalize hE:p9 us x=E;cases h1:decide (0<=x)with
 |false=>
  obtain rfl:E=false:=by rw[<-hE];unfold p9;rw[h1];rfl
  go_enter func157,ntmps157;go_wp2;go_ret;exact⟨rfl,aC _ _⟩
 |true=>
  obtain rfl:E=decide (x<(us.length:Int)):=by rw[<-hE];unfold p9;rw[h1];rfl
  clear hE;go_enter func157,ntmps157;go_wp2;go_ret;exact⟨rfl,aC _ _⟩
theorem Gb(w:World)(n d:Int):(binOp .eql 107 (.agg #[.int .i64 n,.int .i64 d]) (.agg #[.int .i64 1,.int .i64 1])).run prog w= .ok (.bool ((n==1)&&(d==1))) w:=by
 rw[run_eql_struct];go_simp;by_cases h1:n=1<;>by_cases h2:d=1<;>simp[h1,h2]
theorem zi(i:Nat)(nm:ByteArray):acD i nm= !(decide (20<=(i:Int))||nm.toList.isEmpty):=by unfold acD;rw[Bool.not_or]
theorem Fy(ki fn fd:Int):acE ki fn fd= !(((!(ki==1))&&(!(ki==2)))||((!(dz.ok ⟨fn,fd⟩))||decide (fn<=0))):=by unfold acE;cases ki==1<;>cases ki==2<;>cases dz.ok ⟨fn,fd⟩<;>cases decide (fn<=0)<;>rfl
theorem Lh(us:List gH)(ki ba:Int):acF us ki ba= !((!(p9 us ba))||((!(F9 us ba==ki))||(!(Ga us ba==ba)))):=by unfold acF;cases p9 us ba<;>cases F9 us ba==ki<;>cases Ga us ba==ba<;>rfl
theorem Jz(A:Option Addr)(c:Nat)(us:List gH)(i:Nat)(u:gH)(w:World)(hA:At w 5 A us.length c (us.flatMap gH.cells))(hk:us[i]?=some u)(hn:us.length<=1000):
 Calls prog 133 #[.slice A us.length c,.int .i64 i] w (dZ (.bool (xu us i u)) w):=by
 have hil:i<us.length:=(bB.1 hk).1;obtain⟨b,off,rfl,hb,hcell⟩:=hA.1.form (by omega) (by omega);have hcap:us.length<=c:=hA.2.2.1;have hcx:c<=maxLen:=hA.2.2.2;unfold maxLen at hcx;clear hA;have hg:∀(x:Nat)(a:gH)(j:Nat),us[x]?=some a->j<5->w.cell? ⟨b,off+x*5+j,none⟩=a.cells[j]?:=λx a j ha hj=>by
  have hx:x<us.length:=(bB.1 ha).1;rw[iR,hcell _ (by omega)];exact bG _ 5 (λ_=>rfl) us x j a ha hj
 clear hcell;obtain⟨nm,ki,ba,⟨fn,fd⟩⟩:=u;generalize hE:xu us i ⟨nm,ki,ba,⟨fn,fd⟩⟩=E;simp only[xu]at hE;have HE:=ah hE;clear hE;have c0:w.cell? ⟨b,off+i*5,none⟩=some (.string nm):=hg i _ 0 hk (by omega);have c1:w.cell? ⟨b,off+i*5+1,none⟩=some (.int .i64 ki):=hg i _ 1 hk (by omega);have c2:w.cell? ⟨b,off+i*5+2,none⟩=some (.int .i64 ba):=hg i _ 2 hk (by omega);have c3:w.cell? ⟨b,off+i*5+3,none⟩=some (.int .i64 fn):=hg i _ 3 hk (by omega);have c4:w.cell? ⟨b,off+i*5+4,none⟩=some (.int .i64 fd):=hg i _ 4 hk (by omega);have HG:=ah hg;clear hg;have HK:=ah hk;clear hk;have HR:=ah (λW:World=>xg ⟨fn,fd⟩ W);have HI:=ah (λ(x:Int)(W:World)=>Nu (some ⟨b,off,none⟩) c us x W);obtain⟨b1,hb1⟩:∃b,((fn==1)&&(fd==1))=b:=⟨_,rfl⟩;have heq:=λ(w:World)=>Gb w fn fd;rw[hb1]at heq;have HB1:Hid (acG i ba fn fd=((!(ba==(i:Int)))||b1)):=by show _=_;unfold acG;rw[hb1]
 have i0:(0:Int)<=(i:Int):=by omega
 have i1:(i:Int)<(us.length:Int):=by omega
 have i2:(i:Int)<=(c:Int):=by omega
 clear hb1;go_enter func133,ntmps133;go_upto_region 2 with(fail)
 generalize hW0:World.alloc _ _=W0;obtain⟨HB,hh0⟩:=bx1 hW0;clear hW0;obtain⟨iC,iD,iI,iy,iP⟩:=kc5 hh0;clear hh0;change Code.wp _ _ _ _ (Bl.val (⟨W0,aC _ _⟩:Bl W0));generalize(⟨W0,aC _ _⟩:Bl W0)=s0;clear c0 c1 c2 c3 c4;have Gc:Hid (∀(s:Bl W0)(x:Nat)(a:gH)(j:Nat),us[x]?=some a->j<5->s.val.cell? ⟨b,off+x*5+j,none⟩=a.cells[j]?):=λs x a j ha hj=>by
  rw[(av HB.out s.prop).cell (p:=⟨b,off+x*5+j,none⟩) hb];exact HG.out x a j ha hj
 have HUB:Hid (p9 us ba=true->0<=ba/\ba<(us.length:Int)/\(∀z:Bl W0,z.val.cell? ⟨b,off+ba.toNat*5+1,none⟩=some (.int .i64 (F9 us ba)))/\∀z:Bl W0,z.val.cell? ⟨b,off+ba.toNat*5+2,none⟩=some (.int .i64 (Ga us ba))):=λh=>by
  obtain⟨x0,x1⟩:=Qr h;obtain⟨a,ha⟩:∃a,us[ba.toNat]?=some a:=⟨us[ba.toNat]'(by omega),aS _⟩;refine⟨x0,x1,λz=>?_,λz=>?_⟩
  .rw[Gc.out z _ _ 1 ha (by omega)];simp[F9,ha,gH.cells]
  .rw[Gc.out z _ _ 2 ha (by omega)];simp[Ga,ha,gH.cells]
 obtain⟨b1,mV⟩:∃b,Hid ((decide (20<=(i:Int))||nm.toList.isEmpty)=b):=⟨_,rfl⟩;go_upto_region 2 with(fail)
 go_cut [18] (λc wx=>c= .bool b1/\∃z:Bl W0,wx=z.val)
 case first=>
  have hE:=(iW (decide (20<=(i:Int))||nm.toList.isEmpty)).symm.trans mV.out;simp only[Na]at hE;repeat' (first|(replace hE:=uI hE (by assumption))|(replace hE:=uJ hE (by assumption))|(replace hE:=mP hE;rcases hE with⟨q,q',hE⟩|⟨q,q',hE⟩)|(replace hE:=jL hE;rcases hE with⟨q,hE⟩|⟨q,hE⟩)|fail)
  all_goals
   subst hE
   as_aux_lemma=>
    go_wp2_with (first|(go_at_call 134;refine dB (HR.out _) (by assumption) (λz=>?_))|(go_at_call 157;refine dB (HI.out _ _) (by assumption) (λz=>?_)))
    go_meet
    exact⟨rfl,_,rfl⟩
 case rest=>
  obtain⟨rfl,z1,rfl⟩:=hcut;cases b1 with
  |false=>
   as_aux_lemma=>
    have xq:=mV;clear mV;go_wp2
    go_loopg [23] i (λgk v23 wr=>∃(j:Nat)(z:Bl W0),gk=i - j/\j<=i/\v23= .int .i64 j/\wr=z.val/\Hid (newName (us.take j) nm=true))
    case atStart=>exact⟨0,_,rfl,aU _,rfl,rfl,rfl⟩
    case round=>
     obtain⟨j,z,eO,hj,rfl,rfl,hpre⟩:=hrel;have iw:=ah eO;clear eO;by_cases hlt:j<i
     .obtain⟨⟨om,ok,ob,⟨ofn,ofd⟩⟩,hx⟩:∃x,us[j]?=some x:=⟨us[j]'(by omega),aS _⟩
      obtain⟨e0,e1,e2,e3,e4⟩:z.val.cell? ⟨b,off+j*5,none⟩=some (.string om)/\z.val.cell? ⟨b,off+j*5+1,none⟩=some (.int .i64 ok)/\z.val.cell? ⟨b,off+j*5+2,none⟩=some (.int .i64 ob)/\z.val.cell? ⟨b,off+j*5+3,none⟩=some (.int .i64 ofn)/\z.val.cell? ⟨b,off+j*5+4,none⟩=some (.int .i64 ofd):=⟨Gc.out z j _ 0 hx (by omega),Gc.out z j _ 1 hx (by omega),Gc.out z j _ 2 hx (by omega),Gc.out z j _ 3 hx (by omega),Gc.out z j _ 4 hx (by omega)⟩;have HX:=ah hx;clear hx;have j1:(j:Int)<(i:Int):=by omega
      go_upto_region 7 with(fail)
      generalize hWa:World.alloc _ _=Wa;obtain⟨hba,hxa⟩:=bx1' hWa;clear hWa;obtain⟨d0,d1,d2,d3,d4⟩:=kc5 hxa;obtain⟨za,hza⟩:∃za:Bl W0,za.val=Wa:=⟨⟨Wa,av z.prop hba⟩,rfl⟩;replace d0:=d0 ⟨Wa,aC _ _⟩;simp only at d0;clear d1 d2 d3 d4;subst hza;clear hba hxa e0 e1 e2 e3 e4;cases q:(om.toList==nm.toList)with
      |true=>
       have hcs:=Nt HX.out hlt q;obtain rfl:E=false:=by rw[<-HE.out,zi,xq.out,hcs];rfl
       clear hcs;go_wp2;go_ret;exact⟨rfl,av HB.out (Bl.prop _)⟩
      |false=>
       go_wp2
       go_roundg (i - (j+1))
       case measure=>rw[iw.out];omega
       case rel=>exact⟨j+1,_,rfl,by omega,by go_num,rfl,Lg HX.out hpre.out q⟩
     .obtain rfl:j=i:=by omega
      have Jy:=ah hpre.out;clear hpre iw;obtain⟨b2,Nb⟩:∃b,Hid ((((!(ki==1))&&(!(ki==2)))||((!(dz.ok ⟨fn,fd⟩))||decide (fn<=0)))=b):=⟨_,rfl⟩;go_upto_region 10 with(fail)
      go_cut [52] (λc wx=>c= .bool b2/\∃z:Bl W0,wx=z.val)
      case first=>
       have hE:=(iW (((!(ki==1))&&(!(ki==2)))||((!(dz.ok ⟨fn,fd⟩))||decide (fn<=0)))).symm.trans Nb.out;simp only[Na]at hE;repeat' (first|(replace hE:=uI hE (by assumption))|(replace hE:=uJ hE (by assumption))|(replace hE:=mP hE;rcases hE with⟨q,q',hE⟩|⟨q,q',hE⟩)|(replace hE:=jL hE;rcases hE with⟨q,hE⟩|⟨q,hE⟩)|fail)
       all_goals
        subst hE
        as_aux_lemma=>
         go_wp2_with (first|(go_at_call 134;refine dB (HR.out _) (by assumption) (λz=>?_))|(go_at_call 157;refine dB (HI.out _ _) (by assumption) (λz=>?_)))
         go_meet
         exact⟨rfl,_,rfl⟩
      case rest=>
       obtain⟨rfl,z2,rfl⟩:=hcut;cases b2 with
       |false=>
        as_aux_lemma=>
         have F8:=Nb;clear Nb;obtain⟨b3,ZE⟩:∃b,Hid (((!(p9 us ba))||((!(F9 us ba==ki))||(!(Ga us ba==ba))))=b):=⟨_,rfl⟩;go_upto_region 12 with(fail)
         go_cut [79] (λc wx=>c= .bool b3/\∃z:Bl W0,wx=z.val)
         case first=>
          have hE:=(iW ((!(p9 us ba))||((!(F9 us ba==ki))||(!(Ga us ba==ba))))).symm.trans ZE.out;simp only[Na]at hE;repeat' (first|(replace hE:=uI hE (by assumption))|(replace hE:=uJ hE (by assumption))|(replace hE:=mP hE;rcases hE with⟨q,q',hE⟩|⟨q,q',hE⟩)|(replace hE:=jL hE;rcases hE with⟨q,hE⟩|⟨q,hE⟩)|fail)
          all_goals
           subst hE;try(have ZF:=HUB.out (by assumption);obtain⟨x0,x1,g1,g2⟩:=ZF)
           refine aI ?_;(repeat(go_big_quiet_step (first|(go_at_call 134;exact Calls.dw (lit (HR.out _) (by assumption)))|(go_at_call 157;exact Calls.dw (lit (HI.out _ _) (by assumption))))));refine aY ?_;rintro _ ⟨zq,rfl⟩;go_wp2
           go_meet
           exact⟨rfl,_,rfl⟩
         case rest=>
          obtain⟨rfl,z3,rfl⟩:=hcut;cases b3 with
          |false=>
           have JA:=ZE;clear ZE;obtain⟨b4,Z_,hE⟩:∃b,Hid (((!(ba==(j:Int)))||b1)=b)/\cond ((!(ba==(j:Int)))||b1) true false=b:=⟨_,rfl,(iW _).symm⟩;simp only[Na]at hE;repeat' (first|(replace hE:=uI hE (by assumption))|(replace hE:=uJ hE (by assumption))|(replace hE:=mP hE;rcases hE with⟨q,q',hE⟩|⟨q,q',hE⟩)|(replace hE:=jL hE;rcases hE with⟨q,hE⟩|⟨q,hE⟩)|fail)
           all_goals first
            |focus
             obtain rfl:b4=false:=hE.symm;clear hE
             as_aux_lemma=>
              obtain rfl:E=false:=by rw[<-HE.out,zi,xq.out,Jy.out,Fy,F8.out,Lh,JA.out,HB1.out,Z_.out];rfl
              go_wp2_with (first|fail);first
               |(go_ret;exact⟨rfl,av HB.out (Bl.prop _)⟩)
               |(refine aI ?_;(repeat(go_big_quiet_step (first|fail)));refine aY ?_;rintro _ ⟨zq,rfl⟩;go_wp2;go_ret;exact⟨rfl,av HB.out (Bl.prop _)⟩)
            |focus
             obtain rfl:b4=true:=hE.symm;clear hE
             as_aux_lemma=>
              obtain rfl:E=true:=by rw[<-HE.out,zi,xq.out,Jy.out,Fy,F8.out,Lh,JA.out,HB1.out,Z_.out];rfl
              go_wp2_with (first|fail);first
               |(go_ret;exact⟨rfl,av HB.out (Bl.prop _)⟩)
               |(refine aI ?_;(repeat(go_big_quiet_step (first|fail)));refine aY ?_;rintro _ ⟨zq,rfl⟩;go_wp2;go_ret;exact⟨rfl,av HB.out (Bl.prop _)⟩)
          |true=>
           obtain rfl:E=false:=by rw[<-HE.out,zi,xq.out,Jy.out,Fy,F8.out,Lh,ZE.out];rfl
           go_wp2;go_ret;exact⟨rfl,av HB.out (Bl.prop _)⟩
       |true=>
        as_aux_lemma=>
         obtain rfl:E=false:=by rw[<-HE.out,zi,xq.out,Jy.out,Fy,Nb.out];rfl
         go_wp2;go_ret;exact⟨rfl,av HB.out (Bl.prop _)⟩
  |true=>
   as_aux_lemma=>
    obtain rfl:E=false:=by rw[<-HE.out,zi,mV.out];rfl
    go_wp2;go_ret;exact⟨rfl,av HB.out (Bl.prop _)⟩
end
section
open Go.RowKit Tryz
def qP(us:List gH):Bool:=(List.range us.length).all (λi=>match us[i]? with|some u=>xu us i u|none=>true)
theorem Nv{us:List gH}{i:Nat}{u:gH}(hu:us[i]?=some u)(h:xu us i u=false):qP us=false:=by
 cases e:qP us with
 |false=>rfl
 |true=>
  unfold qP at e;have hi:i<us.length:=(bB.1 hu).1;have:=fV.1 e i (by simpa using hi);simp only[hu]at this;rw[this]at h;cases h
theorem Nw{us:List gH}(h:∀i u,us[i]?=some u->xu us i u=true):qP us=true:=by
 unfold qP;rw[fV];intro i _;cases e:us[i]? with
 |none=>rfl
 |some u=>exact h i u e
def CZ(us:List gH)(w:World)(e:Ending)(w':World):Prop:=∃n:Int,e= .returned (.tuple #[.int .i64 n,.bool (qP us)])/\Below w.heap.size w w'
theorem Gd(A:Option Addr)(c:Nat)(us:List gH)(w:World)(hA:At w 5 A us.length c (us.flatMap gH.cells))(hn:us.length<=1000):
 Calls prog 83 #[.slice A us.length c] w (CZ us w):=by
 have HA:=ah hA;clear hA;generalize hE:qP us=E;have HE:=ah hE;clear hE;have hP:∀n:Int,∀b:Bool,b=E->∀w',Below w.heap.size w w'->CZ us w (.returned (.tuple #[.int .i64 n,.bool b])) w':=λn b hb w' hw=>⟨n,by rw[hb,HE.out],hw⟩;have HP:=ah hP;clear hP;go_enter func83,ntmps83;go_wp2
 go_loopg [7] us.length (λgk v7 wr=>∃(j:Nat),gk=us.length - j/\j<=us.length/\v7= .int .i64 j/\Below w.heap.size w wr/\Hid (∀i u,i<j->us[i]?=some u->xu us i u=true))
 case atStart=>exact⟨0,rfl,aU _,rfl,aC _ _,λi u h=>by omega⟩
 case round=>
  obtain⟨j,eO,hj,rfl,hb,hpre⟩:=hrel;have iw:=ah eO;clear eO;by_cases hlt:j<us.length
  .obtain⟨u,hu⟩:∃u,us[j]?=some u:=⟨us[j],aS hlt⟩
   have hc:=Jz A c us j u wr (HA.out.below (by omega) hb) hu hn;generalize hv:xu us j u=vv at hc;have HV:=ah hv;clear hv;have HU:=ah hu;clear hu;have HCC:=ah hc;clear hc;have HBB:=ah hb;clear hb;have j1:(j:Int)<(us.length:Int):=by omega
   cases vv with
   |false=>
    have HF:Hid (false=E):=by show _=_;rw[<-HE.out,Nv HU.out HV.out]
    go_wp2_with (go_at_call 133;refine HCC.out.mono ?_;rintro e z ⟨rfl,hz⟩)
    go_ret2
    exact HP.out _ _ HF.out _ (av HBB.out hz)
   |true=>
    go_wp2_with (go_at_call 133;refine HCC.out.mono ?_;rintro e z ⟨rfl,hz⟩)
    go_roundg (us.length - (j+1))
    case measure=>rw[iw.out];omega
    case rel=>exact⟨j+1,rfl,by omega,by go_num,av HBB.out hz,λi u hi hu=>by
     by_cases e:i=j
     .subst e
      rw[HU.out]at hu;injection hu with hu
      subst hu;exact HV.out
     .exact hpre.out i u (by omega) hu⟩
  .obtain rfl:j=us.length:=by omega
   have HF:Hid (true=E):=by
    show _=_;rw[<-HE.out,Nw (λi u hu=>hpre.out i u (bB.1 hu).1 hu)]
   have HBB:=ah hb;clear hb;go_wp2
   go_ret2
   exact HP.out _ _ HF.out _ HBB.out
def au.party(C:au)(p:Int):Bool:=decide (0<=p)&&decide (p<C.aF)
def au.held(C:au):Bool:=C.aj.all (λp=>C.party p)
theorem Xc{C:au}{j:Nat}{x:Int}(hx:C.aj[j]?=some x)(h:C.party x=false):C.held=false:=by
 cases e:C.held with
 |false=>rfl
 |true=>
  unfold au.held at e;rw[fV.1 e x (cK hx)]at h;cases h
theorem Xd{C:au}(h:∀(j:Nat)(x:Int),C.aj[j]?=some x->C.party x=true):C.held=true:=by
 unfold au.held;rw[fV];intro x hx;obtain⟨j,hj⟩:=w_ hx;exact h j x hj
theorem Xe(v:CV)(C:au)(w:World)(hC:bO w v C)(hp:C.aF<=1000):Calls prog 82 #[v.val C] w (dZ (.bool C.held) w):=by
 obtain⟨⟨hA,hcp⟩,⟨uA,Bn⟩,⟨aA,CU⟩,⟨kA,zk⟩,⟨oA,CW⟩⟩:=v;have HH:Hid (At w 1 hA C.aj.length hcp (aZ C.aj)):=hC.aj;have hhx:C.aj.length<=9223372036854775807:=nZ HH.out;clear hC;simp only[CV.val,CV.cells];generalize hE:C.held=E;have HE:=ah hE;clear hE;go_enter func82,ntmps82;go_wp2;obtain⟨W0,HW0⟩:∃W0,Hid (W0=w.alloc (.cells #[.int .i64 C.aF,.slice hA C.aj.length hcp,.slice uA C.units.length Bn,.slice aA C.acts.length CU,.slice kA C.clauses.length zk,.int .i64 C.days,.slice oA C.off.length CW] 27)):=⟨_,rfl⟩;have k0:W0.cell? ⟨w.heap.size,0,none⟩=some (.int .i64 C.aF):=by rw[HW0.out];go_simp
 have k1:W0.cell? ⟨w.heap.size,1,none⟩=some (.slice hA C.aj.length hcp):=by rw[HW0.out];go_simp
 have HB:Hid (Below w.heap.size w W0):=by show Below _ _ _;rw[HW0.out];exact aJ (aC _ _) _
 rw[<-HW0.out];go_step3;go_wp2;go_step3;go_wp2
 go_loopg [8] C.aj.length (λgk v8 wr=>∃(j:Nat),gk=C.aj.length - j/\j<=C.aj.length/\v8= .int .i64 j/\W0=wr/\Hid (∀i x,i<j->C.aj[i]?=some x->C.party x=true))
 case atStart=>exact⟨0,rfl,aU _,rfl,rfl,λi u h=>by omega⟩
 case round=>
  obtain⟨j,eO,hj,rfl,rfl,hpre⟩:=hrel;have iw:=ah eO;clear eO;by_cases hlt:j<C.aj.length
  .obtain⟨b,off,rfl,hbl,hcell⟩:=(HH.out.below (by omega) HB.out).1.form (by omega) (by omega)
   obtain⟨x,hx⟩:∃x,C.aj[j]?=some x:=⟨C.aj[j],aS hlt⟩;have kx:W0.cell? ⟨b,off+j,none⟩=some (.int .i64 x):=by rw[hcell _ (by omega)];simp[aZ,hx]
   clear hcell;have HX:=ah hx;clear hx;have j1:(j:Int)<(C.aj.length:Int):=by omega
   go_wp2
   go_loopg [13] C.aF.toNat (λgk2 v13 wr=>∃(p:Nat),gk2=C.aF.toNat - p/\p<=C.aF.toNat/\v13= .int .i64 p/\W0=wr/\Hid (∀q:Nat,q<p->x≠(q:Int)))
   case atStart=>exact⟨0,rfl,aU _,rfl,rfl,λq h=>by omega⟩
   case round=>
    obtain⟨p,Nr,hpp,rfl,rfl,Kn⟩:=hrel;have ES:=ah Nr;clear Nr;by_cases hlp:(p:Int)<C.aF
    .cases q:(x==(p:Int))with
     |true=>
      have hxp:x=p:=by simpa using q
      have Gf:Hid (C.party x=true):=by show _=_;simp[au.party,hxp];omega
      clear hxp;go_wp2
      go_roundg (C.aj.length - (j+1))
      case measure=>rw[iw.out];omega
      case rel=>exact⟨j+1,rfl,by omega,by go_num,rfl,λi y hi hy=>by
       by_cases e:i=j
       .subst e
        rw[HX.out]at hy;injection hy with hy
        subst hy;exact Gf.out
       .exact hpre.out i y (by omega) hy⟩
     |false=>
      have hxp:¬x=p:=by simpa using q
      have HXP:=ah hxp;clear hxp;go_wp2
      go_roundg (C.aF.toNat - (p+1))
      case measure=>rw[ES.out];omega
      case rel=>exact⟨p+1,rfl,by omega,by go_num,rfl,λr hr=>by
       by_cases e:r=p
       .subst e;exact HXP.out
       .exact Kn.out r (by omega)⟩
    .have hnp:Hid (C.party x=false):=by
      show _=_;cases e:C.party x with
      |false=>rfl
      |true=>
       simp only[au.party,bS,decide_eq_true_eq]at e;exact absurd (by omega) (Kn.out x.toNat (by omega))
     obtain rfl:E=false:=by rw[<-HE.out,Xc HX.out hnp.out]
     have hd:decide ((p:Int)<C.aF)=false:=by simpa using hlp
     go_wp2
     (try rw[Exit.noGoto_ret])
     go_ret;exact⟨rfl,HB.out⟩
  .obtain rfl:j=C.aj.length:=by omega
   obtain rfl:E=true:=by rw[<-HE.out,Xd (λi u hu=>hpre.out i u (bB.1 hu).1 hu)]
   go_wp2
   (try rw[Exit.noGoto_ret])
   go_ret;exact⟨rfl,HB.out⟩
end
section
open Go.RowKit Tryz
def au.wG(C:au)(a:jy):Bool:=Ao C a.kind a.role a.give a.tgt a.unit a.lot.num a.lot.den
def au.Ap(C:au):Bool:=C.acts.all (λa=>C.wG a)
def sO(days:Int):Int->List Int->Bool
 |_,[]=>true
 |last,d::l=>(!decide (d<=last))&&((!decide (days<=d))&&sO days d l)
def Ux(C:au):Bool:=((!decide (C.aF<1))&&((!decide (C.days<1))&&((!((C.aj.length:Int)==0))&&C.held)))
def au.framed(C:au):Bool:=Ux C&&(qP C.units&&(C.Ap&&sO C.days (-1) C.off))
theorem Gg{C:au}{j:Nat}{x:jy}(hx:C.acts[j]?=some x)(h:C.wG x=false):C.Ap=false:=by
 cases e:C.Ap with
 |false=>rfl
 |true=>
  unfold au.Ap at e;rw[fV.1 e x (cK hx)]at h;cases h
theorem Qs{C:au}(h:∀(j:Nat)(x:jy),C.acts[j]?=some x->C.wG x=true):C.Ap=true:=by
 unfold au.Ap;rw[fV];intro x hx;obtain⟨j,hj⟩:=w_ hx;exact h j x hj
theorem Gh{α:Type}{l:List α}{j:Nat}{x:α}(h:l[j]?=some x):l.drop j=x::l.drop (j+1):=by
 obtain⟨hj,rfl⟩:=bB.1 h;exact List.drop_eq_getElem_cons hj
theorem Qt(v:CV)(C:au)(w:World)(hC:bO w v C)(hp:C.aF<=1000)(hu:C.units.length<=1000):Calls prog 56 #[v.val C] w (dZ (.bool C.framed) w):=by
 obtain⟨⟨hA,hcp⟩,⟨uA,Bn⟩,⟨aA,CU⟩,⟨kA,zk⟩,⟨oA,CW⟩⟩:=v;have hax:C.acts.length<=9223372036854775807:=nZ hC.acts;have hox:C.off.length<=9223372036854775807:=nZ hC.off;have HC:=ah hC;clear hC;simp only[CV.val,CV.cells];generalize hE:C.framed=E;simp only[au.framed]at hE;have HE:=ah hE;clear hE;go_enter func56,ntmps56;go_upto_region 1 with(fail)
 generalize hW0:World.alloc _ _=W0;obtain⟨HB,hh0⟩:=bx1 hW0;have HW0:=ah hW0.symm;clear hW0;obtain⟨iC,iD,iI,iy,iP,jc,jA⟩:=CS hh0;clear hh0;change Code.wp _ _ _ _ (Bl.val (⟨W0,aC _ _⟩:Bl W0));generalize(⟨W0,aC _ _⟩:Bl W0)=s0;have hh:∀s:Bl W0,Calls prog 82 #[.agg #[.int .i64 C.aF,.slice hA C.aj.length hcp,.slice uA C.units.length Bn,.slice aA C.acts.length CU,.slice kA C.clauses.length zk,.int .i64 C.days,.slice oA C.off.length CW]] s.val (dZ (.bool C.held) s.val):=λs=>Xe (⟨⟨hA,hcp⟩,⟨uA,Bn⟩,⟨aA,CU⟩,⟨kA,zk⟩,⟨oA,CW⟩⟩:CV) C s.val (HC.out.below (av HB.out s.prop)) hp;have HH:=ah hh;clear hh;have hun:∀s:Bl W0,Calls prog 83 #[.slice uA C.units.length Bn] s.val (CZ C.units s.val):=λs=>Gd uA Bn C.units s.val (HC.out.below (av HB.out s.prop)).units hu;have Z8:=ah hun;clear hun;have hac:∀(a:jy)(s:Bl W0),Calls prog 84 #[.agg #[.int .i64 C.aF,.slice hA C.aj.length hcp,.slice uA C.units.length Bn,.slice aA C.acts.length CU,.slice kA C.clauses.length zk,.int .i64 C.days,.slice oA C.off.length CW],.agg #[.int .i64 a.kind,.int .i64 a.role,.int .i64 a.give,.int .i64 a.tgt,.int .i64 a.unit,.int .i64 a.lot.num,.int .i64 a.lot.den]] s.val (dZ (.bool (C.wG a)) s.val):=λa s=>Ld (⟨⟨hA,hcp⟩,⟨uA,Bn⟩,⟨aA,CU⟩,⟨kA,zk⟩,⟨oA,CW⟩⟩:CV) C a.kind a.role a.give a.tgt a.unit a.lot.num a.lot.den s.val;have HAC:=ah hac;clear hac
 focus
  cases q1:decide (C.aF<1)
  focus
   cases q2:decide (C.days<1)
   focus
    cases q3:((C.aj.length:Int)==0)
    focus
     cases q4:C.held
     focus
      have hP1:Ux C=false:=by unfold Ux;rw[q1,q2,q3,q4];rfl
      obtain rfl:E=false:=by rw[<-HE.out,hP1];rfl
     rotate_left
     focus
      have hP1:Ux C=true:=by unfold Ux;rw[q1,q2,q3,q4];rfl
      have mV:=ah hP1;clear hP1;go_wp2_with fail;refine(HH.out _).mono ?_;rintro e z ⟨rfl,hz⟩;obtain⟨z1,rfl⟩:=Bl.on hz;clear hz;go_wp2_with fail;refine(Z8.out _).mono ?_;rintro e z ⟨n,rfl,hz⟩;obtain⟨z2,rfl⟩:=Bl.on hz;clear hz;cases hcu:qP C.units
      focus
       obtain rfl:E=false:=by rw[<-HE.out,mV.out,hcu];rfl
       go_wp2;go_ret;exact⟨rfl,av HB.out (Bl.prop _)⟩
      focus
       have HCU:=ah hcu;clear hcu;go_wp2
       go_loopg [40] C.acts.length (λgk v40 wr=>∃(j:Nat)(z:Bl W0),gk=C.acts.length - j/\j<=C.acts.length/\v40= .int .i64 j/\wr=z.val/\Hid (∀(i:Nat)(x:jy),i<j->C.acts[i]?=some x->C.wG x=true))
       case atStart=>exact⟨0,_,rfl,aU _,rfl,rfl,λi x h=>by omega⟩
       case round=>
        obtain⟨j,z,eO,hj,rfl,rfl,hpre⟩:=hrel;have iw:=ah eO;clear eO;by_cases hlt:j<C.acts.length
        .obtain⟨a,ha⟩:∃a,C.acts[j]?=some a:=⟨C.acts[j],aS hlt⟩
         obtain⟨b,off,lG,hb,hcell⟩:=HC.out.act ha;simp only at lG;subst lG;have hcw:=hcell z.val (av HB.out z.prop);clear hcell;have hca:=HAC.out a;generalize hv:C.wG a=vv at hca;have HV:=ah hv;clear hv;have HAJ:=ah ha;clear ha;obtain⟨ki,ro,gi,tg,un,⟨ln,ld⟩⟩:=a;obtain⟨e0,e1,e2,e3,e4,e5,e6⟩:=rw7 hcw rfl;clear hcw;have hl0:w.heap.size<z.val.heap.size:=uH (by rw[HW0.out];simp) z.prop.size;have j1:(j:Int)<(C.acts.length:Int):=by omega
         have rz:Hid (∀s:Bl W0,Calls prog 84 #[.agg #[.int .i64 C.aF,.slice hA C.aj.length hcp,.slice uA C.units.length Bn,.slice (some ⟨b,off,none⟩) C.acts.length CU,.slice kA C.clauses.length zk,.int .i64 C.days,.slice oA C.off.length CW],.agg #[.int .i64 ki,.int .i64 ro,.int .i64 gi,.int .i64 tg,.int .i64 un,.int .i64 ln,.int .i64 ld]] s.val (dZ (.bool vv) s.val)):=hca;clear hca;go_wp2_with fail;have HZ:Hid (Calls prog 84 #[.agg #[.int .i64 C.aF,.slice hA C.aj.length hcp,.slice uA C.units.length Bn,.slice (some ⟨b,off,none⟩) C.acts.length CU,.slice kA C.clauses.length zk,.int .i64 C.days,.slice oA C.off.length CW],.agg #[.int .i64 ki,.int .i64 ro,.int .i64 gi,.int .i64 tg,.int .i64 un,.int .i64 ln,.int .i64 ld]] (z.val.alloc (.cells #[.int .i64 ki,.int .i64 ro,.int .i64 gi,.int .i64 tg,.int .i64 un,.int .i64 ln,.int .i64 ld] 109)) (dZ (.bool vv) (z.val.alloc (.cells #[.int .i64 ki,.int .i64 ro,.int .i64 gi,.int .i64 tg,.int .i64 un,.int .i64 ln,.int .i64 ld] 109)))):=rz.out ⟨_,aJ z.prop _⟩;refine HZ.out.mono ?_;rintro e y ⟨rfl,hy⟩;obtain⟨y1,rfl⟩:∃y1:Bl W0,y=y1.val:=⟨⟨y,av (aJ z.prop _) hy⟩,rfl⟩;clear hy HZ;cases vv with
         |false=>
          obtain rfl:E=false:=by rw[<-HE.out,mV.out,HCU.out,Gg HAJ.out HV.out];rfl
          go_wp2;go_ret;exact⟨rfl,av HB.out y1.prop⟩
         |true=>
          go_wp2
          go_roundg (C.acts.length - (j+1))
          case measure=>rw[iw.out];omega
          case rel=>exact⟨j+1,y1,rfl,by omega,by go_num,rfl,λi x hi hx=>by
           by_cases e:i=j
           .subst e
            rw[HAJ.out]at hx;injection hx with hx
            subst hx;exact HV.out
           .exact hpre.out i x (by omega) hx⟩
        .obtain rfl:j=C.acts.length:=by omega
         have Xf:Hid (C.Ap=true):=Qs (λi x hx=>hpre.out i x (bB.1 hx).1 hx);go_wp2
         go_loopg [52,7] C.off.length (λgk v52 v7 wr=>∃(j:Nat)(last:Int),gk=C.off.length - j/\j<=C.off.length/\v52= .int .i64 j/\v7= .int .i64 last/\z.val=wr/\Hid (sO C.days (-1) C.off=sO C.days last (C.off.drop j)))
         case atStart=>exact⟨0, -1,rfl,aU _,rfl,rfl,rfl,rfl⟩
         case round=>
          obtain⟨j,last,eO,hj,rfl,rfl,rfl,hpre⟩:=hrel;have ES:=ah eO;clear eO;by_cases hlt:j<C.off.length
          .obtain⟨b,off,lG,hbl,hcell⟩:=(HC.out.below (av HB.out z.prop)).off.1.form (by omega) (by omega)
           simp only at lG;subst lG;obtain⟨d,hd⟩:∃d,C.off[j]?=some d:=⟨C.off[j],aS hlt⟩;have kx:z.val.cell? ⟨b,off+j,none⟩=some (.int .i64 d):=by rw[hcell _ (by omega)];simp[aZ,hd]
           clear hcell;have HD:=ah hd;clear hd;have hst:=hpre.out;rw[Gh HD.out]at hst;have HST:=ah hst;clear hst;have j1:(j:Int)<(C.off.length:Int):=by omega
           cases q1:decide (d<=last)with
           |true=>
            obtain rfl:E=false:=by rw[<-HE.out,mV.out,HCU.out,Xf.out,HST.out];simp[sO,q1]
            go_wp2;go_ret;exact⟨rfl,av HB.out z.prop⟩
           |false=>
            cases q2:decide (C.days<=d)with
            |true=>
             obtain rfl:E=false:=by rw[<-HE.out,mV.out,HCU.out,Xf.out,HST.out];simp[sO,q2]
             go_wp2;go_ret;exact⟨rfl,av HB.out z.prop⟩
            |false=>
             go_wp2
             go_roundg (C.off.length - (j+1))
             case measure=>rw[ES.out];omega
             case rel=>exact⟨j+1,d,rfl,by omega,by go_num,rfl,rfl,by show _=_;rw[HST.out,sO,q1,q2];rfl⟩
          .obtain rfl:j=C.off.length:=by omega
           obtain rfl:E=true:=by rw[<-HE.out,mV.out,HCU.out,Xf.out,hpre.out,List.drop_of_length_le (bJ _)];rfl
           go_wp2;go_ret;exact⟨rfl,av HB.out z.prop⟩
    rotate_left
    focus
     have hP1:Ux C=false:=by unfold Ux;rw[q1,q2,q3];rfl
     obtain rfl:E=false:=by rw[<-HE.out,hP1];rfl
   rotate_left 2
   focus
    have hP1:Ux C=false:=by unfold Ux;rw[q1,q2];rfl
    obtain rfl:E=false:=by rw[<-HE.out,hP1];rfl
  rotate_left 3
  focus
   have hP1:Ux C=false:=by unfold Ux;rw[q1];rfl
   obtain rfl:E=false:=by rw[<-HE.out,hP1];rfl
  all_goals
   go_wp2_with (first|(go_at_call 82;refine(HH.out _).mono ?_;rintro e z ⟨rfl,hz⟩;obtain⟨z,rfl⟩:=Bl.on hz;clear hz));first
    |(go_ret;exact⟨rfl,av HB.out (Bl.prop _)⟩)
    |(refine aI ?_;(repeat(go_big_quiet_step ((first|(go_at_call 82;exact Calls.dw (HH.out _))))));refine aY ?_;rintro _ ⟨zq,rfl⟩;go_wp2_with (first|(go_at_call 82;refine(HH.out _).mono ?_;rintro e z ⟨rfl,hz⟩;obtain⟨z,rfl⟩:=Bl.on hz;clear hz));go_ret;exact⟨rfl,av HB.out (Bl.prop _)⟩)
end
open Go.RowKit Tryz
def au.over(C:au):Bool:=(decide (12<C.aF)||(decide (2000<C.days)||(decide (12<(C.aj.length:Int))||(decide (20<(C.units.length:Int))||(decide (60<(C.acts.length:Int))||decide (400<(C.clauses.length:Int)))))))
def au.ku(C:au):Bool:=(List.range C.clauses.length).all (λi=>match C.clauses[i]? with|some k=>C.jm i k|none=>true)
def au.errno(C:au):Int:=cond C.over 3 (cond (C.framed&&C.ku) 0 1)
def au.valid(C:au):Bool:=(!C.over)&&(C.framed&&C.ku)
theorem Ab{C:au}{i:Nat}{k:aP}(hk:C.clauses[i]?=some k)(h:C.jm i k=false):C.ku=false:=by
 cases e:C.ku with
 |false=>rfl
 |true=>
  unfold au.ku at e;have hi:i<C.clauses.length:=(bB.1 hk).1;have:=fV.1 e i (by simpa using hi);simp only[hk]at this;rw[this]at h;cases h
theorem JB{C:au}(h:∀(i:Nat)(k:aP),C.clauses[i]?=some k->C.jm i k=true):C.ku=true:=by
 unfold au.ku;rw[fV];intro i _;cases e:C.clauses[i]? with
 |none=>rfl
 |some u=>exact h i u e
theorem Li{C:au}(h:C.ku=true){i:Nat}{k:aP}(hk:C.clauses[i]?=some k):C.jm i k=true:=by
 cases e:C.jm i k with
 |true=>rfl
 |false=>rw[Ab hk e]at h;cases h
def Fz(er:Int)(w:World)(e:Ending)(w':World):Prop:=∃n:Int,e= .returned (.tuple #[.int .i64 er,.int .i64 n])/\Below w.heap.size w w'
theorem FB{er er2 n:Int}{w w':World}(h:er=er2)(hb:Below w.heap.size w w'):Fz er2 w (.returned (.tuple #[.int .i64 er,.int .i64 n])) w':=⟨n,by rw[h],hb⟩
theorem vI(v:CV)(C:au)(w:World)(hC:bO w v C):Calls prog 31 #[v.val C] w (Fz C.errno w):=by
 obtain⟨⟨hA,hcp⟩,⟨uA,Bn⟩,⟨aA,CU⟩,⟨kA,zk⟩,⟨oA,CW⟩⟩:=v;have hkx:C.clauses.length<=9223372036854775807:=by obtain⟨_,_,h,_⟩:=hC.clauses;have h1:=h.2.2.1;have h2:=h.2.2.2;unfold maxLen at h2;omega
 have HC:=ah hC;clear hC;simp only[CV.val,CV.cells];generalize hE:C.errno=E;simp only[au.errno]at hE;have HE:=ah hE;clear hE;go_enter func31,ntmps31;go_upto_region 1 with(fail)
 generalize hW0:World.alloc _ _=W0;obtain⟨HB,hh0⟩:=bx1 hW0;clear hW0;obtain⟨iC,iD,iI,iy,iP,jc,jA⟩:=CS hh0;clear hh0;change Code.wp _ _ _ _ (Bl.val (⟨W0,aC _ _⟩:Bl W0));generalize(⟨W0,aC _ _⟩:Bl W0)=s0;have hcl:∀(i:Nat)(k:aP)(s:Bl W0),C.clauses[i]?=some k->Calls prog 57 #[.agg #[.int .i64 C.aF,.slice hA C.aj.length hcp,.slice uA C.units.length Bn,.slice aA C.acts.length CU,.slice kA C.clauses.length zk,.int .i64 C.days,.slice oA C.off.length CW],.int .i64 i] s.val (dZ (.bool (C.jm i k)) s.val):=λi k s hk=>ET (⟨⟨hA,hcp⟩,⟨uA,Bn⟩,⟨aA,CU⟩,⟨kA,zk⟩,⟨oA,CW⟩⟩:CV) C i k s.val (HC.out.below (av HB.out s.prop)) hk;have Nc:=ah hcl;clear hcl
 focus
  cases q1:decide (12<C.aF)
  focus
   cases q2:decide (2000<C.days)
   focus
    cases q3:decide (12<(C.aj.length:Int))
    focus
     cases q4:decide (20<(C.units.length:Int))
     focus
      cases q5:decide (60<(C.acts.length:Int))
      focus
       cases q6:decide (400<(C.clauses.length:Int))
       focus
        have hP1:C.over=false:=by unfold au.over;rw[q1,q2,q3,q4,q5,q6];rfl
        have mV:=ah hP1;clear hP1;have hfr:∀s:Bl W0,Calls prog 56 #[.agg #[.int .i64 C.aF,.slice hA C.aj.length hcp,.slice uA C.units.length Bn,.slice aA C.acts.length CU,.slice kA C.clauses.length zk,.int .i64 C.days,.slice oA C.off.length CW]] s.val (dZ (.bool C.framed) s.val):=λs=>Qt (⟨⟨hA,hcp⟩,⟨uA,Bn⟩,⟨aA,CU⟩,⟨kA,zk⟩,⟨oA,CW⟩⟩:CV) C s.val (HC.out.below (av HB.out s.prop)) (by have h:=(by assumption:decide (12<C.aF)=false);simp at h;omega) (by have h:=(by assumption:decide (20<(C.units.length:Int))=false);simp at h;omega);have HFR:=ah hfr;clear hfr;go_wp2_with fail;refine(HFR.out _).mono ?_;rintro e z ⟨rfl,hz⟩;obtain⟨z1,rfl⟩:=Bl.on hz;clear hz;cases hf:C.framed
        focus
         go_wp2
         go_ret2
         exact FB (by rw[<-HE.out,mV.out,hf];rfl) (av HB.out (Bl.prop _))
        focus
         have HF:=ah hf;clear hf;go_wp2
         go_loopg [43] C.clauses.length (λgk v43 wr=>∃(j:Nat)(z:Bl W0),gk=C.clauses.length - j/\j<=C.clauses.length/\v43= .int .i64 j/\wr=z.val/\Hid (∀(i:Nat)(x:aP),i<j->C.clauses[i]?=some x->C.jm i x=true))
         case atStart=>exact⟨0,_,rfl,aU _,rfl,rfl,λi x h=>by omega⟩
         case round=>
          obtain⟨j,z,eO,hj,rfl,rfl,hpre⟩:=hrel;have iw:=ah eO;clear eO;by_cases hlt:j<C.clauses.length
          .obtain⟨k,hk⟩:∃k,C.clauses[j]?=some k:=⟨C.clauses[j],aS hlt⟩
           have hca:=Nc.out j k z hk;generalize hv:C.jm j k=vv at hca;have HV:=ah hv;clear hv;have HK:=ah hk;clear hk;have rz:=ah hca;clear hca;have j1:(j:Int)<(C.clauses.length:Int):=by omega
           go_wp2_with fail;refine rz.out.mono ?_;rintro e y ⟨rfl,hy⟩;obtain⟨y1,rfl⟩:=Bl.on hy;clear hy rz;cases vv with
           |false=>
            go_wp2
            go_ret2
            exact FB (by rw[<-HE.out,mV.out,HF.out,Ab HK.out HV.out];rfl) (av HB.out (Bl.prop _))
           |true=>
            go_wp2
            go_roundg (C.clauses.length - (j+1))
            case measure=>rw[iw.out];omega
            case rel=>exact⟨j+1,y1,rfl,by omega,by go_num,rfl,λi x hi hx=>by
             by_cases e:i=j
             .subst e
              rw[HK.out]at hx;injection hx with hx
              subst hx;exact HV.out
             .exact hpre.out i x (by omega) hx⟩
          .obtain rfl:j=C.clauses.length:=by omega
           have Xf:Hid (C.ku=true):=JB (λi x hx=>hpre.out i x (bB.1 hx).1 hx);go_wp2
           go_ret2
           exact FB (by rw[<-HE.out,mV.out,HF.out,Xf.out];rfl) (av HB.out z.prop)
       focus
        have hP1:C.over=true:=by unfold au.over;rw[q1,q2,q3,q4,q5,q6];rfl
      rotate_left
      focus
       have hP1:C.over=true:=by unfold au.over;rw[q1,q2,q3,q4,q5];rfl
     rotate_left 2
     focus
      have hP1:C.over=true:=by unfold au.over;rw[q1,q2,q3,q4];rfl
    rotate_left 3
    focus
     have hP1:C.over=true:=by unfold au.over;rw[q1,q2,q3];rfl
   rotate_left 4
   focus
    have hP1:C.over=true:=by unfold au.over;rw[q1,q2];rfl
  rotate_left 5
  focus
   have hP1:C.over=true:=by unfold au.over;rw[q1];rfl
  all_goals
   go_wp2
   go_ret2
   exact FB (by rw[<-HE.out,hP1];rfl) (av HB.out (Bl.prop _))
theorem au.Ko{C:au}(h:C.valid=true):C.errno=0:=by
 unfold au.valid at h;unfold au.errno;cases h1:C.over<;>simp[h1]at h⊢
 simp[h]
theorem au.Ny{C:au}(h:C.valid=false):(C.errno==0)=false/\(C.errno !=0)=true:=by
 unfold au.valid at h;unfold au.errno;cases h1:C.over<;>cases h2:(C.framed&&C.ku)<;>simp[h1,h2]at h⊢
end Go.Proofs.YtpmdedcnbockhaaGreatDoor

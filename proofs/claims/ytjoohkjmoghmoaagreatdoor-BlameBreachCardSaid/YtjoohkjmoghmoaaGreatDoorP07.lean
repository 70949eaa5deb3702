/- part -/
import Derived.Test.YtjoohkjmoghmoaaGreatDoorP06
set_option linter.all false
namespace Go.Proofs.YtjoohkjmoghmoaaGreatDoor
section
structure bC where
 num:Int
 den:Int
structure dB where
 kind:Int
 role:Int
 give:Int
 tgt:Int
 unit:Int
 lot:bC
structure bP where
 clause:Int
 is:Int
structure aF where
 kind:Int
 role:Int
 act:Int
 need:Int
 start:List bP
 after:Int
 fT:Int
 gP:Bool
 final:Bool
 pause:Int
 resume:Int
 value:bC
 unit:Int
 tgt:Int
 iL:Bool
structure dI where
 name:ByteArray
 kind:Int
 base:Int
 factor:bC
structure aA where
 aC:Int
 ah:List Int
 units:List dI
 acts:List dB
 clauses:List aF
 days:Int
 off:List Int
structure au where
 status:Int
 left:Int
 got:Int
 aO:Int
 paused:Bool
structure aI where
 day:Int
 ah:List Int
 used:List Bool
 marks:List au
def bC.ok(r:bC):Bool:=decide (1<=r.den)&&decide (r.den<=1000000)&&decide (-1000000000000<=r.num)&&decide (r.num<=1000000000000)&&decide (Nat.gcd r.num.natAbs r.den.natAbs=1)
def aA.role(C:aA)(r:Int):Bool:=decide (0<=r)&&decide (r<C.ah.length)
def bC.zero(r:bC):Bool:=(r.num==0)&&(r.den==1)
def bC.plus(r:bC):Bool:=decide (0<r.num)&&r.ok
def aA.Dp(C:aA)(i:Int):Option dB:=if 0<=i then C.acts[i.toNat]? else none
def aA.natural(C:aA)(i:Int):Bool:=
 match C.Dp i with
 |none=>false
 |some a=>(a.kind==1)&&(a.role== -1)
def oK(C:aA)(ki ro gi tg un ln ld:Int):Bool:=(cond (!(C.role ro)) ((ki==1)&&((ro== -1)&&((gi==0)&&(((tg== -1)||(C.role tg))&&((un== -1)&&(bC.zero ⟨ln,ld⟩)))))) (cond (ki==1) (cond ((!(gi==0))||((!(tg== -1))&&(!(C.role tg)))) false (cond (un== -1) (bC.zero ⟨ln,ld⟩) (decide (0<=un)&&(decide (un<(C.units.length:Int))&&(bC.plus ⟨ln,ld⟩))))) (cond ((ki==2)||(ki==3)) ((C.role gi)&&(decide (0<=tg)&&(decide (tg<C.aC)&&((un== -1)&&(bC.zero ⟨ln,ld⟩))))) false)))
def jq(C:aA)(ki ro ac ne gr:Int)(fi:Bool):Bool:=(cond (ki==4) ((ro== -1)&&((ne==1)&&((gr==0)&&(!fi)))) (cond ((!(C.role ro))||(C.natural ac)) false (cond (ki==1) (decide (1<=ne)&&(decide (ne<=9)&&(decide (0<=gr)&&decide (gr<=400)))) (cond (ki==2) ((ne==1)&&(gr==0)) (cond (ki==3) ((ne==1)&&((gr==0)&&(!fi))) false)))))
def tN(C:aA)(i:Nat)(cl is:Int):Bool:=((!decide (cl<0))&&((!decide ((C.clauses.length:Int)<=cl))&&((!(cl==(i:Int)))&&((!decide (is<1))&&(!decide (4<is))))))
def qm(C:aA)(i:Nat)(l:List bP):Bool:=l.all (λk=>tN C i k.clause k.is)
def qV(C:aA)(ki ro ac ne gr af:Int)(fi:Bool)(sl:Nat):Bool:=((!decide (ac<0))&&((!decide ((C.acts.length:Int)<=ac))&&((!decide (af<1))&&((!decide (400<af))&&((jq C ki ro ac ne gr fi)&&(!decide (8<(sl:Int))))))))
def kI(C:aA)(pa re:Int):Bool:=(cond ((!(pa== -1))||(!(re== -1))) ((!(pa==re))&&((C.natural pa)&&(C.natural re))) true)
def aA.yh(C:aA)(i:Int):Int:=if 0<=i then(C.units[i.toNat]?.map (·.kind)).getD 0 else 0
def lT(C:aA)(ki un vn vd tg:Int):Bool:=(cond (un== -1) ((bC.zero ⟨vn,vd⟩)&&(tg== -1)) (((ki==1)||(ki==2))&&(decide (0<=un)&&(decide (un<(C.units.length:Int))&&((C.yh un==2)&&((bC.plus ⟨vn,vd⟩)&&(C.role tg)))))))
def aA.bW(C:aA)(i:Nat)(k:aF):Bool:=
 qV C k.kind k.role k.act k.need k.fT k.after k.final k.start.length&&(qm C i k.start&&(kI C k.pause k.resume&&lT C k.kind k.unit k.value.num k.value.den k.tgt))
def kV(us:List dI)(x:Int):Bool:=decide (0<=x)&&decide (x<us.length)
def yj(us:List dI)(x:Int):Int:=((us[x.toNat]?).map (·.kind)).getD 0
def yu(us:List dI)(x:Int):Int:=((us[x.toNat]?).map (·.base)).getD 0
def BM(i:Nat)(nm:ByteArray):Bool:=((!decide (20<=(i:Int)))&&(!nm.toList.isEmpty))
def vE(ki fn fd:Int):Bool:=(((ki==1)||(ki==2))&&((bC.ok ⟨fn,fd⟩)&&(!decide (fn<=0))))
def vF(us:List dI)(ki ba:Int):Bool:=((kV us ba)&&(((yj us ba)==ki)&&((yu us ba)==ba)))
def Fb(i:Nat)(ba fn fd:Int):Bool:=((!(ba==(i:Int)))||((fn==1)&&(fd==1)))
def newName(l:List dI)(nm:ByteArray):Bool:=l.all (λu=> !(u.name.toList==nm.toList))
def fG(us:List dI)(i:Nat)(u:dI):Bool:=
 BM i u.name&&(newName (us.take i) u.name&&(vE u.kind u.factor.num u.factor.den&&(vF us u.kind u.base&&Fb i u.base u.factor.num u.factor.den)))
def mY(us:List dI):Bool:=(List.range us.length).all (λi=>match us[i]? with|some u=>fG us i u|none=>true)
def aA.party(C:aA)(p:Int):Bool:=decide (0<=p)&&decide (p<C.aC)
def aA.held(C:aA):Bool:=C.ah.all (λp=>C.party p)
def aA.oL(C:aA)(a:dB):Bool:=oK C a.kind a.role a.give a.tgt a.unit a.lot.num a.lot.den
def aA.yw(C:aA):Bool:=C.acts.all (λa=>C.oL a)
def nM(days:Int):Int->List Int->Bool
 |_,[]=>true
 |last,d::l=>(!decide (d<=last))&&((!decide (days<=d))&&nM days d l)
def O8(C:aA):Bool:=((!decide (C.aC<1))&&((!decide (C.days<1))&&((!((C.ah.length:Int)==0))&&C.held)))
def aA.framed(C:aA):Bool:=O8 C&&(mY C.units&&(C.yw&&nM C.days (-1) C.off))
def aA.over(C:aA):Bool:=(decide (12<C.aC)||(decide (2000<C.days)||(decide (12<(C.ah.length:Int))||(decide (20<(C.units.length:Int))||(decide (60<(C.acts.length:Int))||decide (400<(C.clauses.length:Int)))))))
def aA.iD(C:aA):Bool:=(List.range C.clauses.length).all (λi=>match C.clauses[i]? with|some k=>C.bW i k|none=>true)
def aA.errno(C:aA):Int:=cond C.over 3 (cond (C.framed&&C.iD) 0 1)
def aA.valid(C:aA):Bool:=(!C.over)&&(C.framed&&C.iD)
def jO(C:aA)(ki ne pa:Int)(wa:Bool)(ml mg mb:Int)(mp:Bool):Bool:=(cond (wa||(decide (ml<1)||(mp&&(pa== -1)))) false (cond ((!(mg==0))&&((!(ki==1))||(decide (mg<0)||decide (ne<=mg)))) false (cond (ki==4) (mb== -1) (decide (0<=mb)&&decide (mb<C.aC)))))
def oM(ms ml mg mb:Int)(mp:Bool):Bool:=(ms==0)&&((ml==0)&&((mg==0)&&((mb== -1)&& !mp)))
def kJ(C:aA)(ki ne af gr pa:Int)(wa:Bool)(ms ml mg mb:Int)(mp:Bool):Bool:=(cond (ms==0) ((!wa)&&(oM ms ml mg mb mp)) (cond (ms==1) (decide (ml<=af)&&(jO C ki ne pa wa ml mg mb mp)) (cond (ms==2) ((ki==1)&&(decide (ml<=gr)&&(jO C ki ne pa wa ml mg mb mp))) (cond ((ms==3)||((ms==4)||(ms==5))) ((ml==0)&&(decide (0<=mg)&&(decide (mg<=9)&&(decide (-1<=mb)&&(decide (mb<C.aC)&&(!mp)))))) false))))
def aA.jP(C:aA)(k:aF)(m:au):Bool:=kJ C k.kind k.need k.after k.fT k.pause k.iL m.status m.left m.got m.aO m.paused
def rU(is x:Int):Bool:=(cond (is==1) (!(x==0)) (cond (is==2) (x==3) (cond (is==3) (x==4) (cond (is==4) (x==5) false))))
def jQ(ms:List au)(x:Int):Int:=((ms[x.toNat]?).map (·.status)).getD 0
def eu(ms:List au)(c:bP):Bool:=rU c.is (jQ ms c.clause)
def gI(ms:List au)(l:List bP):Bool:=l.all (eu ms)
def dD(ms:List au)(k:aF)(m:au):Bool:=(m.status==0)&&((!k.iL)&&gI ms k.start)
def Jo(C:aA)(s:aI):Bool:=((!decide (s.day<0))&&((!decide (C.days<s.day))&&(((s.ah.length:Int)==(C.ah.length:Int))&&(((s.used.length:Int)==(C.acts.length:Int))&&((s.marks.length:Int)==(C.clauses.length:Int))))))
def vG(C:aA)(p:Int):Bool:=(!decide (p<0))&&(!decide (C.aC<=p))
def jR(C:aA)(s:aI):Bool:=s.ah.all (vG C)
def yx(C:aA)(s:aI):Bool:=(List.range s.used.length).all (λi=>match s.used[i]?,C.acts[i]? with|some u,some a=> !(u&&(a.kind==1))|_,_=>true)
def rV(C:aA)(s:aI):Bool:=(List.range s.marks.length).all (λi=>match s.marks[i]?,C.clauses[i]? with|some m,some k=>C.jP k m&& !(dD s.marks k m)|_,_=>true)
def aA.dU(C:aA)(s:aI):Bool:=C.valid&&(Jo C s&&(jR C s&&(yx C s&&rV C s)))
def iq(k:aF)(m:au)(p:Int):Bool:=k.final&&((m.status==4)&&(m.aO==p))
def anyFailed(C:aA)(s:aI)(p:Int):Bool:=(List.range s.marks.length).any (λi=>match s.marks[i]?,C.clauses[i]? with|some m,some k=>iq k m p|_,_=>false)
def au.ended(m:au)(st:Int):au:=⟨st,0,m.got,m.aO,false⟩
def au.violated(m:au):au:=cond m.paused m (m.ended 4)
def au.performed(m:au)(need:Int):au:=cond (m.got+1==need) (au.ended ⟨m.status,m.left,m.got+1,m.aO,m.paused⟩ 3) ⟨m.status,m.left,m.got+1,m.aO,m.paused⟩
def au.expired(m:au)(fT:Int):au:=cond ((m.status==1)&&decide (0<fT)) ⟨2,fT,m.got,m.aO,m.paused⟩ (m.ended 4)
def au.runs(m:au):Bool:=(m.status==1)||(m.status==2)
def gQ(l:List Int)(x:Int):Int:=(l[x.toNat]?).getD 0
def bI(hs:List Int)(a:dB):Int:=cond (a.role== -1) (-1) (gQ hs a.role)
def jS(hs:List Int)(k:aF):Int:=cond (k.kind==4) (-1) (gQ hs k.role)
def lU(hs:List Int)(k:aF):au:=⟨1,k.after,0,jS hs k,false⟩
def eF(C:aA)(ms:List au)(i:Nat):Bool:=match C.clauses[i]?,ms[i]? with|some k,some m=>dD ms k m|_,_=>false
def gM(C:aA)(hs:List Int)(ms:List au)(i:Nat):List au:=match C.clauses[i]? with|some k=>cond (eF C ms i) (ms.set i (lU hs k)) ms|none=>ms
def bN(C:aA)(hs:List Int)(ms:List au):Nat->List au
 |0=>ms
 |j+1=>gM C hs (bN C hs ms j) j
def bX(C:aA)(hs:List Int)(ms:List au):Nat->Bool
 |0=>false
 |j+1=>bX C hs ms j||eF C (bN C hs ms j) j
def idle(ms:List au):Nat:=(ms.filter (λm=>m.status==0)).length
theorem oN(C:aA)(hs:List Int)(ms:List au)(i:Nat):(gM C hs ms i).length=ms.length:=by
 unfold gM;cases C.clauses[i]? with
 |none=>rfl
 |some k=>cases eF C ms i<;>simp
theorem oO(C:aA)(hs:List Int)(ms:List au):∀j,(bN C hs ms j).length=ms.length
 |0=>rfl
 |j+1=>by rw[bN,oN,oO C hs ms j]
theorem Ma{l:List au}{i:Nat}{m m':au}(hm:l[i]?=some m)(h0:(m.status==0)=true)(h1:(m'.status==0)=false):idle (l.set i m')+1=idle l:=by
 induction l generalizing i with
 |nil=>simp at hm
 |cons a l ih=>
  cases i with
  |zero=>
   simp at hm;subst hm;simp only[idle,List.set_cons_zero,List.filter_cons,h0,h1,if_true];simp
  |succ i=>
   have:=ih (i:=i) (by simpa using hm);simp only[idle,List.set_cons_succ,List.filter_cons]at this⊢;split
   .simp only[List.length_cons]
    omega
   .exact this
theorem mZ(C:aA)(hs:List Int)(ms:List au)(i:Nat):(eF C ms i=true->idle (gM C hs ms i)+1=idle ms)/\(eF C ms i=false->gM C hs ms i=ms):=by
 refine⟨λh=>?_,λh=>?_⟩
 .have hf:=h
  unfold eF at hf;unfold gM;cases hk:C.clauses[i]? with
  |none=>simp[hk]at hf
  |some k=>
   cases hm:ms[i]? with
   |none=>simp[hk,hm]at hf
   |some m=>
    simp only[hk,hm]at hf;simp only[h,cond_true];refine Ma hm ?_ rfl;unfold dD at hf;simp only[Bool.and_eq_true]at hf;exact hf.1
 .unfold gM
  cases hk:C.clauses[i]? with
  |none=>rfl
  |some k=>simp only[h,cond_false]
theorem fK(C:aA)(hs:List Int)(ms:List au):∀j,(bX C hs ms j=true->idle (bN C hs ms j)<idle ms)/\(bX C hs ms j=false->bN C hs ms j=ms)
 |0=>⟨λh=>(by cases h),λ_=>rfl⟩
 |j+1=>by
  obtain⟨h1,h2⟩:=fK C hs ms j;obtain⟨h3,h4⟩:=mZ C hs (bN C hs ms j) j;refine⟨λh=>?_,λh=>?_⟩
  .rw[bX,Bool.or_eq_true]at h
   rw[bN];cases hf:eF C (bN C hs ms j) j with
   |true=>
    have h5:=h3 hf;cases hg:bX C hs ms j with
    |true=>have:=h1 hg;omega
    |false=>rw[h2 hg]at h5⊢;omega
   |false=>
    rw[h4 hf];rcases h with h|h
    .exact h1 h
    .rw[hf]at h;cases h
  .rw[bX,Bool.or_eq_false_iff]at h
   rw[bN,h4 h.2,h2 h.1]
def fM(C:aA)(hs:List Int):Nat->List au->List au
 |0,ms=>ms
 |f+1,ms=>cond (bX C hs ms C.clauses.length) (fM C hs f (bN C hs ms C.clauses.length)) ms
theorem qW(C:aA)(hs:List Int):∀(f f':Nat)(ms:List au),idle ms<f->idle ms<f'->fM C hs f ms=fM C hs f' ms
 |0,_,_,h,_=>by omega
 |_,0,_,_,h=>by omega
 |f+1,f'+1,ms,h,h'=>by
  rw[fM,fM];cases hf:bX C hs ms C.clauses.length with
  |false=>rfl
  |true=>
   have:=(fK C hs ms C.clauses.length).1 hf;simp only[cond_true];exact qW C hs f f' _ (by omega) (by omega)
def aA.begin(C:aA)(hs:List Int)(ms:List au):List au:=fM C hs (idle ms+1) ms
theorem Dq{C:aA}{hs:List Int}{ms:List au}(h:bX C hs ms C.clauses.length=true):C.begin hs ms=C.begin hs (bN C hs ms C.clauses.length):=by
 have h1:=(fK C hs ms C.clauses.length).1 h;unfold aA.begin;rw[fM,h,cond_true];exact qW C hs _ _ _ h1 (by omega)
theorem wh{C:aA}{hs:List Int}{ms:List au}(h:bX C hs ms C.clauses.length=false):C.begin hs ms=ms:=by
 unfold aA.begin;rw[fM,h,cond_false]
def gT(ms:List au):Nat->List Nat
 |0=>[]
 |k+1=>match ms[k]? with|some m=>cond m.runs (gT ms k++[k]) (gT ms k)|none=>gT ms k
def dO(C:aA)(give tgt:Int)(i:Nat)(ms:List au):List au:=
 match C.clauses[i]?,ms[i]? with
 |some k,some m=>cond ((k.kind !=4)&&(k.role==give)) (ms.set i ⟨m.status,m.left,m.got,tgt,m.paused⟩) ms
 |_,_=>ms
theorem iR(C:aA)(give tgt:Int)(i:Nat)(ms:List au):(dO C give tgt i ms).length=ms.length:=by
 unfold dO;split
 .rename_i k m _ _
  cases ((k.kind !=4)&&(k.role==give))<;>simp
 .rfl
theorem nN(C:aA)(give tgt:Int)(i:Nat)(ms:List au)(j:Nat)(h:j≠i):(dO C give tgt i ms)[j]?=ms[j]?:=by
 unfold dO;split
 .rename_i k m _ _
  cases ((k.kind !=4)&&(k.role==give))
  .rfl
  .simp only[cond_true]
   rw[List.getElem?_set,if_neg (λe=>h e.symm)]
 .rfl
def aA.shift(C:aA)(i:Nat)(a:dB)(s:aI):aI:=
 ⟨s.day,s.ah.set a.give.toNat a.tgt,s.used.set i true,cond (a.kind !=3) s.marks ((gT s.marks s.marks.length).foldl (λms j=>dO C a.give a.tgt j ms) s.marks)⟩
theorem vH(upd:Nat->List au->List au)(AY:∀i ms,(upd i ms).length=ms.length):∀(l:List Nat)(ms:List au),(l.foldl (λms i=>upd i ms) ms).length=ms.length
 |[],_=>rfl
 |x::l,ms=>by rw[List.foldl_cons,vH upd AY l,AY]
def dP(C:aA)(act:Int)(i:Nat)(ms:List au):List au:=
 match C.clauses[i]?,ms[i]? with
 |some k,some m=>cond (act==k.pause) (ms.set i ⟨m.status,m.left,m.got,m.aO,true⟩) (cond (act==k.resume) (ms.set i ⟨m.status,m.left,m.got,m.aO,false⟩) ms)
 |_,_=>ms
def au.hit(m:au)(k:aF):au:=cond (k.kind==1) (m.performed k.need) (cond (k.kind==2) m.violated (m.ended 3))
def eG(C:aA)(act who:Int)(i:Nat)(ms:List au):List au:=
 match C.clauses[i]?,ms[i]? with
 |some k,some m=>cond ((k.act==act)&&((k.kind==4)||(m.aO==who))) (ms.set i (m.hit k)) ms
 |_,_=>ms
def au.due(m:au)(k:aF):au:=cond (k.kind==1) (m.expired k.fT) (cond (k.kind==2) (m.ended 3) (m.ended 5))
def au.wR(m:au)(k:aF):au:=cond (m.left - 1==0) (au.due ⟨m.status,m.left - 1,m.got,m.aO,m.paused⟩ k) ⟨m.status,m.left - 1,m.got,m.aO,m.paused⟩
def gU(C:aA)(free:Bool)(i:Nat)(ms:List au):List au:=
 match C.clauses[i]?,ms[i]? with
 |some k,some m=>cond (m.paused||(k.gP&&free)) ms (ms.set i (m.wR k))
 |_,_=>ms
theorem qX(C:aA)(act:Int)(i:Nat)(ms:List au):(dP C act i ms).length=ms.length:=by
 unfold dP;split
 .rename_i k m _ _
  cases (act==k.pause)<;>cases (act==k.resume)<;>simp
 .rfl
theorem nO(C:aA)(act:Int)(i:Nat)(ms:List au)(j:Nat)(h:j≠i):(dP C act i ms)[j]?=ms[j]?:=by
 have h2:∀x,(ms.set i x)[j]?=ms[j]?:=λx=>by rw[List.getElem?_set,if_neg (λe=>h e.symm)]
 unfold dP;split
 .rename_i k m _ _
  cases (act==k.pause)<;>cases (act==k.resume)<;>simp only[cond_true,cond_false,h2]
 .rfl
theorem wm(C:aA)(act who:Int)(i:Nat)(ms:List au):(eG C act who i ms).length=ms.length:=by
 unfold eG;split
 .rename_i k m _ _
  cases ((k.act==act)&&((k.kind==4)||(m.aO==who)))<;>simp
 .rfl
theorem qY(C:aA)(act who:Int)(i:Nat)(ms:List au)(j:Nat)(h:j≠i):(eG C act who i ms)[j]?=ms[j]?:=by
 have h2:∀x,(ms.set i x)[j]?=ms[j]?:=λx=>by rw[List.getElem?_set,if_neg (λe=>h e.symm)]
 unfold eG;split
 .rename_i k m _ _
  cases ((k.act==act)&&((k.kind==4)||(m.aO==who)))<;>simp only[cond_true,cond_false,h2]
 .rfl
theorem tO(C:aA)(free:Bool)(i:Nat)(ms:List au):(gU C free i ms).length=ms.length:=by
 unfold gU;split
 .rename_i k m _ _
  cases (m.paused||(k.gP&&free))<;>simp
 .rfl
theorem oP(C:aA)(free:Bool)(i:Nat)(ms:List au)(j:Nat)(h:j≠i):(gU C free i ms)[j]?=ms[j]?:=by
 have h2:∀x,(ms.set i x)[j]?=ms[j]?:=λx=>by rw[List.getElem?_set,if_neg (λe=>h e.symm)]
 unfold gU;split
 .rename_i k m _ _
  cases (m.paused||(k.gP&&free))<;>simp only[cond_true,cond_false,h2]
 .rfl
def aA.paused(C:aA)(act:Int)(ms:List au):List au:=(gT ms ms.length).foldl (λms j=>dP C act j ms) ms
def aA.nP(C:aA)(act who:Int)(ms:List au):List au:=(gT ms ms.length).foldl (λms j=>eG C act who j ms) ms
def aA.vI(C:aA)(free:Bool)(ms:List au):List au:=(gT ms ms.length).foldl (λms j=>gU C free j ms) ms
def aA.act(C:aA)(i:Nat)(a:dB)(s:aI):aI:=
 cond ((a.kind !=1)&&s.used.getD i false) s
  (let s2:aI:=⟨s.day,s.ah,s.used,C.nP i (bI s.ah a) (C.paused i s.marks)⟩
   let s3:=cond (a.kind !=1) (C.shift i a s2) s2
   ⟨s3.day,s3.ah,s3.used,C.begin s3.ah s3.marks⟩)
def aA.tick(C:aA)(s:aI):aI:=
 ⟨s.day+1,s.ah,s.used,C.begin s.ah (C.vI (C.off.contains s.day) s.marks)⟩
theorem Ac(upd:Nat->List au->List au)(f:Nat->au->au)(hu:∀i ms j,j≠i->(upd i ms)[j]?=ms[j]?)(hs:∀i ms,(upd i ms)[i]?=(ms[i]?).map (f i))(ms:List au):∀(k j:Nat),
 ((gT ms k).foldl (λms i=>upd i ms) ms)[j]?=(ms[j]?).map (λm=>cond (decide (j<k)&&m.runs) (f j m) m)
 |0,j=>by simp[gT]
 |k+1,j=>by
  have ih:=Ac upd f hu hs ms k;unfold gT;by_cases hjk:j=k
  .subst hjk
   cases hm:ms[j]? with
   |none=>
    have h2:=ih j;rw[hm]at h2;simpa using h2
   |some m=>
    have h2:=ih j;rw[hm]at h2;simp only[Option.map_some,show decide (j<j)=false by simp,Bool.false_and,cond_false]at h2;cases hr:m.runs with
    |false=>
     simp only[cond_false,Option.map_some,hr,Bool.and_false];exact h2
    |true=>
     simp only[cond_true,List.foldl_append,List.foldl_cons,List.foldl_nil,Option.map_some,hr,show decide (j<j+1)=true by simp,Bool.and_true];rw[hs,h2];rfl
  .have hlt:decide (j<k+1)=decide (j<k):=by
    by_cases h:j<k
    .rw[decide_eq_true h,decide_eq_true (by omega)]
    .rw[decide_eq_false h,decide_eq_false (by omega)]
   rw[hlt];cases hm:ms[k]? with
   |none=>exact ih j
   |some m=>
    cases hr:m.runs with
    |false=>simpa [hr]using ih j
    |true=>
     simp only[hr,cond_true,List.foldl_append,List.foldl_cons,List.foldl_nil];rw[hu _ _ _ hjk];exact ih j
theorem iT(upd:Nat->List au->List au)(f:Nat->au->au)(hu:∀i ms j,j≠i->(upd i ms)[j]?=ms[j]?)(hs:∀i ms,(upd i ms)[i]?=(ms[i]?).map (f i))(ms:List au)(j:Nat):
 ((gT ms ms.length).foldl (λms i=>upd i ms) ms)[j]?=(ms[j]?).map (λm=>cond m.runs (f j m) m):=by
 rw[Ac upd f hu hs ms ms.length j];cases hm:ms[j]? with
 |none=>rfl
 |some m=>
  have hj:j<ms.length:=(List.getElem?_eq_some_iff.1 hm).1;simp[hj]
def iW(C:aA)(act:Int)(i:Nat)(m:au):au:=
 match C.clauses[i]? with
 |some k=>cond (act==k.pause) ⟨m.status,m.left,m.got,m.aO,true⟩ (cond (act==k.resume) ⟨m.status,m.left,m.got,m.aO,false⟩ m)
 |none=>m
def oQ(C:aA)(act who:Int)(i:Nat)(m:au):au:=
 match C.clauses[i]? with
 |some k=>cond ((k.act==act)&&((k.kind==4)||(m.aO==who))) (m.hit k) m
 |none=>m
def qo(C:aA)(free:Bool)(i:Nat)(m:au):au:=
 match C.clauses[i]? with
 |some k=>cond (m.paused||(k.gP&&free)) m (m.wR k)
 |none=>m
def oU(C:aA)(give tgt:Int)(i:Nat)(m:au):au:=
 match C.clauses[i]? with
 |some k=>cond ((k.kind !=4)&&(k.role==give)) ⟨m.status,m.left,m.got,tgt,m.paused⟩ m
 |none=>m
theorem jC{ms:List au}{i:Nat}{m:au}(hm:ms[i]?=some m)(x:au):(ms.set i x)[i]?=some x:=List.getElem?_set_self (List.getElem?_eq_some_iff.1 hm).1
theorem yA(C:aA)(act:Int)(i:Nat)(ms:List au):(dP C act i ms)[i]?=(ms[i]?).map (iW C act i):=by
 unfold dP iW;cases hk:C.clauses[i]? with
 |none=>cases ms[i]?<;>rfl
 |some k=>
  cases hm:ms[i]? with
  |none=>simp[hm]
  |some m=>cases h1:(act==k.pause)<;>cases h2:(act==k.resume)<;>simp only[h1,h2,cond_true,cond_false,Option.map_some]<;>first|exact jC hm _|exact hm
theorem BN(C:aA)(act who:Int)(i:Nat)(ms:List au):(eG C act who i ms)[i]?=(ms[i]?).map (oQ C act who i):=by
 unfold eG oQ;cases hk:C.clauses[i]? with
 |none=>cases ms[i]?<;>rfl
 |some k=>
  cases hm:ms[i]? with
  |none=>simp[hm]
  |some m=>cases h1:((k.act==act)&&((k.kind==4)||(m.aO==who)))<;>simp only[h1,cond_true,cond_false,Option.map_some]<;>first|exact jC hm _|exact hm
theorem zK(C:aA)(free:Bool)(i:Nat)(ms:List au):(gU C free i ms)[i]?=(ms[i]?).map (qo C free i):=by
 unfold gU qo;cases hk:C.clauses[i]? with
 |none=>cases ms[i]?<;>rfl
 |some k=>
  cases hm:ms[i]? with
  |none=>simp[hm]
  |some m=>cases h1:(m.paused||(k.gP&&free))<;>simp only[h1,cond_true,cond_false,Option.map_some]<;>first|exact jC hm _|exact hm
theorem yB(C:aA)(give tgt:Int)(i:Nat)(ms:List au):(dO C give tgt i ms)[i]?=(ms[i]?).map (oU C give tgt i):=by
 unfold dO oU;cases hk:C.clauses[i]? with
 |none=>cases ms[i]?<;>rfl
 |some k=>
  cases hm:ms[i]? with
  |none=>simp[hm]
  |some m=>cases h1:((k.kind !=4)&&(k.role==give))<;>simp only[h1,cond_true,cond_false,Option.map_some]<;>first|exact jC hm _|exact hm
theorem iM(C:aA)(act:Int)(ms:List au)(j:Nat):(C.paused act ms)[j]?=(ms[j]?).map (λm=>cond m.runs (iW C act j m) m):=
 iT _ _ (λi ms j h=>nO C act i ms j h) (yA C act) ms j
theorem jD(C:aA)(act who:Int)(ms:List au)(j:Nat):(C.nP act who ms)[j]?=(ms[j]?).map (λm=>cond m.runs (oQ C act who j m) m):=
 iT _ _ (λi ms j h=>qY C act who i ms j h) (BN C act who) ms j
theorem m_(C:aA)(free:Bool)(ms:List au)(j:Nat):(C.vI free ms)[j]?=(ms[j]?).map (λm=>cond m.runs (qo C free j m) m):=
 iT _ _ (λi ms j h=>oP C free i ms j h) (zK C free) ms j
theorem oV(C:aA)(give tgt:Int)(ms:List au)(j:Nat):((gT ms ms.length).foldl (λms i=>dO C give tgt i ms) ms)[j]?=(ms[j]?).map (λm=>cond m.runs (oU C give tgt j m) m):=
 iT _ _ (λi ms j h=>nN C give tgt i ms j h) (yB C give tgt) ms j
theorem jT{ms ms':List au}{f:Nat->au->au}(h:∀j:Nat,ms'[j]?=(ms[j]?).map (f j)):ms'.length=ms.length:=by
 apply Nat.le_antisymm
 .rcases Nat.lt_or_ge ms.length ms'.length with h1|h1
  .have h2:=h ms.length
   rw[List.getElem?_eq_getElem h1,List.getElem?_eq_none (Nat.le_refl _)]at h2;cases h2
  .exact h1
 .rcases Nat.lt_or_ge ms'.length ms.length with h1|h1
  .have h2:=h ms'.length
   rw[List.getElem?_eq_getElem h1,List.getElem?_eq_none (Nat.le_refl _)]at h2;cases h2
  .exact h1
theorem yC(C:aA)(act:Int)(ms:List au):(C.paused act ms).length=ms.length:=jT (f:=λj m=>cond m.runs (iW C act j m) m) (iM C act ms)
theorem vJ(C:aA)(act who:Int)(ms:List au):(C.nP act who ms).length=ms.length:=jT (f:=λj m=>cond m.runs (oQ C act who j m) m) (jD C act who ms)
theorem yD(C:aA)(free:Bool)(ms:List au):(C.vI free ms).length=ms.length:=jT (f:=λj m=>cond m.runs (qo C free j m) m) (m_ C free ms)
theorem qw{n:Nat}{f:Nat->Bool}(h:(List.range n).all f=true){i:Nat}(hi:i<n):f i=true:=List.all_eq_true.1 h i (List.mem_range.2 hi)
structure aA.Ok(C:aA):Prop where
 aC:1<=C.aC
 days:1<=C.days
 Sg:C.days<=2000
 roles:C.ah.length≠0
 held:∀p∈C.ah,0<=p/\p<C.aC
 acts:∀a∈C.acts,C.oL a=true
 off:nM C.days (-1) C.off=true
 clauses:∀(i:Nat)(k:aF),C.clauses[i]?=some k->C.bW i k=true
 Mc:C.aC<=12
 kY:C.ah.length<=12
 jU:C.acts.length<=60
 dN:C.clauses.length<=400
theorem aA.ok{C:aA}(h:C.valid=true):C.Ok:=by
 simp only[aA.valid,aA.over,aA.framed,O8,Bool.and_eq_true,Bool.not_eq_true',Bool.or_eq_false_iff,decide_eq_false_iff_not]at h;obtain⟨⟨o1,o2,o3,o4,o5,o6⟩,⟨⟨f1,f2,f3,f4⟩,f5,f6,f7⟩,hc⟩:=h;refine⟨by omega,by omega,by omega,?_,?_,?_,f7,?_,by omega,by omega,by omega,by omega⟩
 .intro e
  rw[e]at f3;exact absurd f3 (by decide)
 .intro p hp
  have h1:=List.all_eq_true.1 f4 p hp;simp only[aA.party,Bool.and_eq_true,decide_eq_true_eq]at h1;exact h1
 .intro a ha
  exact List.all_eq_true.1 f6 a ha
 .intro i k hk
  have hi:i<C.clauses.length:=(List.getElem?_eq_some_iff.1 hk).1;have h1:=qw hc hi;rw[hk]at h1;exact h1
structure oW(C:aA)(i:Nat)(k:aF):Prop where
 akV:0<=k.act
 akW:k.act<C.acts.length
 Si:1<=k.kind
 Sj:k.kind<=4
 Ut:1<=k.after
 Md:k.after<=400
 role:k.kind≠4->0<=k.role/\k.role<C.ah.length
 YE:1<=k.need
 Sk:k.need<=9
 ael:0<=k.fT
 Me:k.fT<=400
 aem:k.kind≠1->k.fT=0
 pause:k.pause≠ -1\/k.resume≠ -1->k.pause≠k.resume/\C.natural k.pause=true/\C.natural k.resume=true
 start:∀c∈k.start,0<=c.clause/\c.clause<C.clauses.length/\c.clause≠i/\1<=c.is/\c.is<=4
 rW:k.start.length<=8
theorem aA.Ok.clause{C:aA}(h:C.Ok){i:Nat}{k:aF}(hk:C.clauses[i]?=some k):oW C i k:=by
 have hc:=h.clauses i k hk;simp only[aA.bW,qV,jq,qm,kI,Bool.and_eq_true,Bool.not_eq_true',decide_eq_false_iff_not]at hc;obtain⟨⟨c1,c2,c3,c4,ck,c5⟩,cs,cp,_⟩:=hc;have hkd:1<=k.kind/\k.kind<=4/\(k.kind≠4->0<=k.role/\k.role<C.ah.length)/\1<=k.need/\k.need<=9/\0<=k.fT/\k.fT<=400/\(k.kind≠1->k.fT=0):=by
  cases q4:(k.kind==4)with
  |true=>
   simp only[q4,cond_true,Bool.and_eq_true,beq_iff_eq]at ck;have q4:k.kind=4:=by simpa using q4
   obtain⟨a1,a2,a3,_⟩:=ck;refine⟨by omega,by omega,λh=>absurd q4 h,by omega,by omega,by omega,by omega,λ_=>a3⟩
  |false=>
   simp only[q4,cond_false]at ck;have q4':k.kind≠4:=by simpa using q4
   cases qr:(!C.role k.role||C.natural k.act)with
   |true=>simp only[qr,cond_true]at ck;cases ck
   |false=>
    simp only[qr,cond_false]at ck;simp only[Bool.or_eq_false_iff,Bool.not_eq_false',aA.role,Bool.and_eq_true,decide_eq_true_eq]at qr;cases q1:(k.kind==1)with
    |true=>
     simp only[q1,cond_true,Bool.and_eq_true,decide_eq_true_eq]at ck;have q1:k.kind=1:=by simpa using q1
     refine⟨by omega,by omega,λ_=>qr.1,ck.1,ck.2.1,ck.2.2.1,ck.2.2.2,λh=>absurd q1 h⟩
    |false=>
     simp only[q1,cond_false]at ck;cases q2:(k.kind==2)with
     |true=>
      simp only[q2,cond_true,Bool.and_eq_true,beq_iff_eq]at ck;have q2:k.kind=2:=by simpa using q2
      refine⟨by omega,by omega,λ_=>qr.1,by omega,by omega,by omega,by omega,λ_=>ck.2⟩
     |false=>
      simp only[q2,cond_false]at ck;cases q3:(k.kind==3)with
      |true=>
       simp only[q3,cond_true,Bool.and_eq_true,beq_iff_eq]at ck;have q3:k.kind=3:=by simpa using q3
       refine⟨by omega,by omega,λ_=>qr.1,by omega,by omega,by omega,by omega,λ_=>ck.2.1⟩
      |false=>simp only[q3,cond_false]at ck;cases ck
 obtain⟨k1,k2,k3,k4,k5,k6,k7,k8⟩:=hkd;refine⟨by omega,by omega,k1,k2,by omega,by omega,k3,k4,k5,k6,k7,k8,?_,?_,by omega⟩
 .intro hp
  cases qp:(!(k.pause== -1)|| !(k.resume== -1))with
  |true=>
   simp only[qp,cond_true,Bool.and_eq_true,Bool.not_eq_true',beq_eq_false_iff_ne]at cp;exact⟨cp.1,cp.2.1,cp.2.2⟩
  |false=>
   simp only[Bool.or_eq_false_iff,Bool.not_eq_false',beq_iff_eq]at qp;omega
 .intro c hc
  have h1:=List.all_eq_true.1 cs c hc;simp only[tN,Bool.and_eq_true,Bool.not_eq_true',decide_eq_false_iff_not,beq_eq_false_iff_ne]at h1;obtain⟨e1,e2,e3,e4,e5⟩:=h1;exact⟨by omega,by omega,e3,by omega,by omega⟩
def bO(C:aA)(k:aF)(m:au):Prop:=
 (m.status=0/\k.iL=false/\m.left=0/\m.got=0/\m.aO= -1/\m.paused=false)\/
 ((m.status=1/\m.left<=k.after\/m.status=2/\k.kind=1/\m.left<=k.fT)/\k.iL=false/\1<=m.left/\(m.paused=true->k.pause≠ -1)/\(m.got≠0->k.kind=1/\0<=m.got/\m.got<k.need)/\(k.kind=4->m.aO= -1)/\(k.kind≠4->0<=m.aO/\m.aO<C.aC))\/
 ((m.status=3\/m.status=4\/m.status=5)/\m.left=0/\0<=m.got/\m.got<=9/\ -1<=m.aO/\m.aO<C.aC/\m.paused=false)
theorem yF(C:aA)(k:aF)(m:au):C.jP k m=true↔bO C k m:=by
 obtain⟨ms,ml,mg,mb,mp⟩:=m;obtain⟨ki,ro,ac,ne,start,af,gr,bu,fi,pa,re,va,un,tg,wa⟩:=k;simp only[aA.jP,bO,kJ];cases q0:(ms==0)with
 |true=>
  have h0:ms=0:=by simpa using q0
  subst h0;cases wa<;>cases mp<;>simp[oM]
 |false=>
  have h0:ms≠0:=by simpa using q0
  have hrun:jO C ki ne pa wa ml mg mb mp=true↔(wa=false/\1<=ml/\(mp=true->pa≠ -1)/\(mg≠0->ki=1/\0<=mg/\mg<ne)/\(ki=4->mb= -1)/\(ki≠4->0<=mb/\mb<C.aC)):=by
   simp only[jO];cases wa with
   |true=>simp
   |false=>
    cases q1:(decide (ml<1)||(mp&&(pa== -1)))with
    |true=>
     simp only[Bool.or_eq_true,decide_eq_true_eq,Bool.and_eq_true,beq_iff_eq]at q1;simp only[Bool.false_or,cond_true];constructor
     .intro h;cases h
     .rintro⟨_,a1,a2,_⟩
      rcases q1 with h|⟨h1,h2⟩
      .omega
      .exact absurd h2 (a2 h1)
    |false=>
     simp only[Bool.or_eq_false_iff,decide_eq_false_iff_not]at q1;have hp:mp=true->pa≠ -1:=by
      intro hm e;rw[hm,e]at q1;exact absurd q1.2 (by decide)
     simp only[Bool.false_or,cond_false];cases q2:(!(mg==0)&&(!(ki==1)||(decide (mg<0)||decide (ne<=mg))))with
     |true=>
      simp only[Bool.and_eq_true,Bool.not_eq_true',beq_eq_false_iff_ne,Bool.or_eq_true,decide_eq_true_eq]at q2;simp only[cond_true];constructor
      .intro h;cases h
      .rintro⟨_,_,_,a3,_⟩
       have:=a3 q2.1;omega
     |false=>
      have q3:mg≠0->ki=1/\0<=mg/\mg<ne:=by
       intro hne;simp only[show(mg==0)=false by simpa using hne,Bool.not_false,Bool.true_and,Bool.or_eq_false_iff,Bool.not_eq_false',beq_iff_eq,decide_eq_false_iff_not]at q2;omega
      simp only[cond_false];cases q4:(ki==4)with
      |true=>
       have h4:ki=4:=by simpa using q4
       simp only[cond_true,beq_iff_eq];constructor
       .intro h;exact⟨trivial,by omega,hp,q3,λ_=>h,λh=>absurd h4 h⟩
       .rintro⟨_,_,_,_,a4,_⟩;exact a4 h4
      |false=>
       have h4:ki≠4:=by simpa using q4
       simp only[cond_false,Bool.and_eq_true,decide_eq_true_eq];constructor
       .intro h;exact⟨trivial,by omega,hp,q3,λh=>absurd h h4,λ_=>h⟩
       .rintro⟨_,_,_,_,_,a4⟩;exact a4 h4
  simp only[cond_false];cases q1:(ms==1)with
  |true=>
   have h1:ms=1:=by simpa using q1
   subst h1;simp only[cond_true,Bool.and_eq_true,decide_eq_true_eq,hrun];constructor
   .rintro⟨a,b⟩;exact .inr (.inl ⟨.inl ⟨trivial,a⟩,b⟩)
   .rintro(⟨h,_⟩|⟨h|⟨h,_⟩,b⟩|⟨h,_⟩)
    .omega
    .exact⟨h.2,b⟩
    .omega
    .omega
  |false=>
   have h1:ms≠1:=by simpa using q1
   simp only[cond_false];cases q2:(ms==2)with
   |true=>
    have h2:ms=2:=by simpa using q2
    subst h2;simp only[cond_true,Bool.and_eq_true,decide_eq_true_eq,beq_iff_eq,hrun];constructor
    .rintro⟨a0,a,b⟩;exact .inr (.inl ⟨.inr ⟨trivial,a0,a⟩,b⟩)
    .rintro(⟨h,_⟩|⟨⟨h,_⟩|h,b⟩|⟨h,_⟩)
     .omega
     .omega
     .exact⟨h.2.1,h.2.2,b⟩
     .omega
   |false=>
    have h2:ms≠2:=by simpa using q2
    simp only[cond_false];cases q3:((ms==3)||((ms==4)||(ms==5)))with
    |true=>
     simp only[Bool.or_eq_true,beq_iff_eq]at q3;simp only[cond_true,Bool.and_eq_true,beq_iff_eq,decide_eq_true_eq,Bool.not_eq_true'];constructor
     .intro h;exact .inr (.inr ⟨q3,h⟩)
     .rintro(⟨h,_⟩|⟨⟨h,_⟩|⟨h,_⟩,_⟩|⟨_,b⟩)
      .omega
      .omega
      .omega
      .exact b
    |false=>
     simp only[Bool.or_eq_false_iff,beq_eq_false_iff_ne]at q3;simp only[cond_false];constructor
     .intro h;cases h
     .rintro(⟨h,_⟩|⟨⟨h,_⟩|⟨h,_⟩,_⟩|⟨h,_⟩)<;>omega
theorem iX(m:au):m.runs=true↔m.status=1\/m.status=2:=by simp[au.runs]
section
variable {C:aA} {i:Nat} {k:aF} {m:au}
theorem bO.ended(h:bO C k m)(hr:m.runs=true)(hp:1<=C.aC){st:Int}(hst:st=3\/st=4\/st=5)(g:Int)(hg0:0<=g)(hg:g<=9):bO C k ⟨st,0,g,m.aO,false⟩:=by
 rw[iX]at hr;rcases h with⟨h0,_⟩|⟨_,_,_,_,_,hb1,hb2⟩|⟨h0,_⟩
 .omega
 .refine .inr (.inr ⟨hst,rfl,hg0,hg,?_,?_,rfl⟩)
  .by_cases h4:k.kind=4
   .have h5:=hb1 h4;show -1<=m.aO;omega
   .have h5:=hb2 h4;show -1<=m.aO;omega
  .by_cases h4:k.kind=4
   .have h5:=hb1 h4;show m.aO<_;omega
   .have h5:=hb2 h4;show m.aO<_;omega
 .omega
theorem bO.got(hk:oW C i k)(h:bO C k m):0<=m.got/\m.got<=9:=by
 have:=hk.Sk;rcases h with⟨_,_,_,h0,_⟩|⟨_,_,_,_,h0,_⟩|⟨_,_,h0,h1,_⟩
 .omega
 .by_cases hg:m.got=0
  .omega
  .have:=h0 hg;omega
 .omega
theorem bO.Qk(h:bO C k m)(hr:m.runs=true)(hp:k.pause≠ -1)(b:Bool):bO C k ⟨m.status,m.left,m.got,m.aO,b⟩:=by
 rw[iX]at hr;rcases h with⟨h0,_⟩|⟨h1,h2,h3,h4,h5⟩|⟨h0,_⟩
 .omega
 .exact .inr (.inl ⟨h1,h2,h3,λ_=>hp,h5⟩)
 .omega
theorem bO.resumed(h:bO C k m)(hr:m.runs=true):bO C k ⟨m.status,m.left,m.got,m.aO,false⟩:=by
 rw[iX]at hr;rcases h with⟨h0,_⟩|⟨h1,h2,h3,h4,h5⟩|⟨h0,_⟩
 .omega
 .exact .inr (.inl ⟨h1,h2,h3,(λh=>by cases h),h5⟩)
 .omega
theorem bO.borne(h:bO C k m)(hr:m.runs=true)(hk4:k.kind≠4){p:Int}(h0:0<=p)(h1:p<C.aC):bO C k ⟨m.status,m.left,m.got,p,m.paused⟩:=by
 rw[iX]at hr;rcases h with⟨h0,_⟩|⟨a1,a2,a3,a4,a5,_⟩|⟨h0,_⟩
 .omega
 .exact .inr (.inl ⟨a1,a2,a3,a4,a5,λh=>absurd h hk4,λ_=>⟨h0,h1⟩⟩)
 .omega
theorem bO.hit(hk:oW C i k)(h:bO C k m)(hr:m.runs=true)(hp:1<=C.aC):bO C k (m.hit k):=by
 have hg:=h.got hk;have n1:=hk.YE;have n2:=hk.Sk;have hr':=hr;rw[iX]at hr';unfold au.hit;cases q1:(k.kind==1)with
 |true=>
  have h1:k.kind=1:=by simpa using q1
  simp only[cond_true,au.performed];cases q:(m.got+1==k.need)with
  |true=>
   have hq:m.got+1=k.need:=by simpa using q
   simp only[cond_true,au.ended];exact h.ended hr hp (.inl rfl) _ (by omega) (by omega)
  |false=>
   have hq:m.got+1≠k.need:=by simpa using q
   simp only[cond_false];rcases h with⟨h0,_⟩|⟨a1,a2,a3,a4,a5,a6⟩|⟨h0,_⟩
   .omega
   .refine .inr (.inl ⟨a1,a2,a3,a4,λ_=>⟨h1,?_,?_⟩,a6⟩)
    .show 0<=m.got+1;omega
    .show m.got+1<k.need
     by_cases h0:m.got=0
     .omega
     .have:=a5 h0;omega
   .omega
 |false=>
  simp only[cond_false];cases q2:(k.kind==2)with
  |true=>
   simp only[cond_true,au.violated];cases m.paused with
   |true=>exact h
   |false=>exact h.ended hr hp (.inr (.inl rfl)) _ hg.1 hg.2
  |false=>exact h.ended hr hp (.inl rfl) _ hg.1 hg.2
theorem bO.wR(hk:oW C i k)(h:bO C k m)(hr:m.runs=true)(hp:1<=C.aC):bO C k (m.wR k):=by
 have hg:=h.got hk;have hr':=hr;rw[iX]at hr';unfold au.wR;have hl:1<=m.left/\(m.status=1->m.left<=k.after)/\(m.status=2->k.kind=1/\m.left<=k.fT):=by
  rcases h with⟨h0,_⟩|⟨a1,_,a3,_⟩|⟨h0,_⟩
  .omega
  .exact⟨a3,λ_=>by omega,λ_=>by omega⟩
  .omega
 cases q:(m.left - 1==0)with
 |true=>
  simp only[cond_true,au.due];cases q1:(k.kind==1)with
  |true=>
   have h1:k.kind=1:=by simpa using q1
   simp only[cond_true,au.expired];cases q3:((m.status==1)&&decide (0<k.fT))with
   |true=>
    simp only[Bool.and_eq_true,beq_iff_eq,decide_eq_true_eq]at q3;simp only[cond_true];rcases h with⟨h0,_⟩|⟨a1,a2,a3,a4,a5,a6⟩|⟨h0,_⟩
    .omega
    .exact .inr (.inl ⟨.inr ⟨rfl,h1,Int.le_refl _⟩,a2,by show 1<=k.fT;omega,a4,a5,a6⟩)
    .omega
   |false=>exact h.ended hr hp (.inr (.inl rfl)) _ hg.1 hg.2
  |false=>
   simp only[cond_false];cases q2:(k.kind==2)with
   |true=>exact h.ended hr hp (.inl rfl) _ hg.1 hg.2
   |false=>exact h.ended hr hp (.inr (.inr rfl)) _ hg.1 hg.2
 |false=>
  have hq:m.left - 1≠0:=by simpa using q
  simp only[cond_false];rcases h with⟨h0,_⟩|⟨a1,a2,a3,a4,a5,a6⟩|⟨h0,_⟩
  .omega
  .refine .inr (.inl ⟨?_,a2,?_,a4,a5,a6⟩)
   .show(m.status=1/\m.left - 1<=k.after)\/(m.status=2/\k.kind=1/\m.left - 1<=k.fT)
    omega
   .show 1<=m.left - 1
    omega
  .omega
end
structure Sm(C:aA)(a:dB):Prop where
 role:a.role≠ -1->0<=a.role/\a.role<C.ah.length
 kind:a.kind=1\/a.kind=2\/a.kind=3
 give:a.kind≠1->0<=a.give/\a.give<C.ah.length
 tgt:a.kind≠1->0<=a.tgt/\a.tgt<C.aC
 seen:a.kind=1->a.tgt= -1\/(0<=a.tgt/\a.tgt<C.ah.length)
theorem aA.Ok.act{C:aA}(h:C.Ok){a:dB}(ha:a∈C.acts):Sm C a:=by
 have hc:=h.acts a ha;simp only[aA.oL,oK]at hc;cases qr:(C.role a.role)with
 |false=>
  simp only[qr,Bool.not_false,cond_true,Bool.and_eq_true,beq_iff_eq,Bool.or_eq_true]at hc;obtain⟨h1,h2,h3,h4,_⟩:=hc;refine⟨λh=>absurd h2 h,.inl h1,λh=>absurd h1 h,λh=>absurd h1 h,λ_=>?_⟩;rcases h4 with h4|h4
  .exact .inl h4
  .simp only[aA.role,Bool.and_eq_true,decide_eq_true_eq]at h4
   exact .inr h4
 |true=>
  have qr':=qr;simp only[aA.role,Bool.and_eq_true,decide_eq_true_eq]at qr';simp only[qr,Bool.not_true,cond_false]at hc;cases q1:(a.kind==1)with
  |true=>
   have h1:a.kind=1:=by simpa using q1
   simp only[q1,cond_true]at hc;refine⟨λ_=>qr',.inl h1,λh=>absurd h1 h,λh=>absurd h1 h,λ_=>?_⟩;cases q2:(!(a.give==0)||(!(a.tgt== -1)&& !(C.role a.tgt)))with
   |true=>simp only[q2,cond_true]at hc;cases hc
   |false=>
    simp only[Bool.or_eq_false_iff,Bool.and_eq_false_iff,Bool.not_eq_false',beq_iff_eq]at q2;rcases q2.2 with h4|h4
    .exact .inl h4
    .simp only[aA.role,Bool.and_eq_true,decide_eq_true_eq]at h4
     exact .inr h4
  |false=>
   have h1:a.kind≠1:=by simpa using q1
   simp only[q1,cond_false]at hc;cases q2:((a.kind==2)||(a.kind==3))with
   |false=>simp only[q2,cond_false]at hc;cases hc
   |true=>
    simp only[q2,cond_true,Bool.and_eq_true,decide_eq_true_eq,aA.role]at hc;simp only[Bool.or_eq_true,beq_iff_eq]at q2;exact⟨λ_=>qr',.inr q2,λ_=>hc.1,λ_=>⟨hc.2.1,hc.2.2.1⟩,λh=>absurd h h1⟩
structure aM(C:aA)(s:aI):Prop where
 con:C.valid=true
 Fe:0<=s.day
 Fg:s.day<=C.days
 lh:s.ah.length=C.ah.length
 lu:s.used.length=C.acts.length
 lm:s.marks.length=C.clauses.length
 held:∀p∈s.ah,0<=p/\p<C.aC
 used:∀(i:Nat)(a:dB),s.used[i]?=some true->C.acts[i]?=some a->a.kind≠1
 marks:∀(i:Nat)(m:au)(k:aF),s.marks[i]?=some m->C.clauses[i]?=some k->bO C k m
 still:∀(i:Nat)(m:au)(k:aF),s.marks[i]?=some m->C.clauses[i]?=some k->dD s.marks k m=false
theorem dS(C:aA)(s:aI):C.dU s=true↔aM C s:=by
 constructor
 .intro h
  simp only[aA.dU,Jo,jR,yx,rV,Bool.and_eq_true,Bool.not_eq_true',decide_eq_false_iff_not,beq_iff_eq]at h;obtain⟨h1,⟨h2,h3,h4,h5,h6⟩,h7,h8,h9⟩:=h;refine⟨h1,by omega,by omega,by omega,by omega,by omega,?_,?_,?_,?_⟩
  .intro p hp
   have h10:=List.all_eq_true.1 h7 p hp;simp only[vG,Bool.and_eq_true,Bool.not_eq_true',decide_eq_false_iff_not]at h10;omega
  .intro i a hu ha
   have h10:=qw h8 (List.getElem?_eq_some_iff.1 hu).1;rw[hu,ha]at h10;simpa using h10
  .intro i m k hm hk
   have h10:=qw h9 (List.getElem?_eq_some_iff.1 hm).1;rw[hm,hk]at h10;simp only[Bool.and_eq_true]at h10;exact(yF _ _ _).1 h10.1
  .intro i m k hm hk
   have h10:=qw h9 (List.getElem?_eq_some_iff.1 hm).1;rw[hm,hk]at h10;simp only[Bool.and_eq_true,Bool.not_eq_true']at h10;exact h10.2
 .intro h
  simp only[aA.dU,Jo,jR,yx,rV,Bool.and_eq_true,Bool.not_eq_true',decide_eq_false_iff_not,beq_iff_eq];refine⟨h.con,⟨by have:=h.Fe;omega,by have:=h.Fg;omega,by have:=h.lh;omega,by have:=h.lu;omega,by have:=h.lm;omega⟩,?_,?_,?_⟩
  .apply List.all_eq_true.2
   intro p hp;have:=h.held p hp;simp only[vG,Bool.and_eq_true,Bool.not_eq_true',decide_eq_false_iff_not];omega
  .apply List.all_eq_true.2
   intro i _;cases hu:s.used[i]? with
   |none=>rfl
   |some u=>
    cases ha:C.acts[i]? with
    |none=>rfl
    |some a=>
     cases u with
     |false=>simp
     |true=>
      have:=h.used i a hu ha;simpa using this
  .apply List.all_eq_true.2
   intro i _;cases hm:s.marks[i]? with
   |none=>rfl
   |some m=>
    cases hk:C.clauses[i]? with
    |none=>rfl
    |some k=>
     simp only[Bool.and_eq_true,Bool.not_eq_true'];exact⟨(yF _ _ _).2 (h.marks i m k hm hk),h.still i m k hm hk⟩
def YF(C:aA)(hs:List Int)(j:Nat)(m m':au):Prop:=m'=m\/(m.status=0/\∃k,C.clauses[j]?=some k/\k.iL=false/\m'=lU hs k)
theorem YF.trans{C:aA}{hs:List Int}{j:Nat}{a b c:au}(h:YF C hs j a b)(h':YF C hs j b c):YF C hs j a c:=by
 rcases h with rfl|⟨h0,k,hk,hw,rfl⟩
 .exact h'
 .rcases h' with rfl|⟨h1,_⟩
  .exact .inr ⟨h0,k,hk,hw,rfl⟩
  .exact absurd h1 (by show(1:Int)≠0;decide)
def iN(C:aA)(hs:List Int)(ms ms':List au):Prop:=ms'.length=ms.length/\∀(j:Nat)(m':au),ms'[j]?=some m'->∃m,ms[j]?=some m/\YF C hs j m m'
theorem iN.refl(C:aA)(hs:List Int)(ms:List au):iN C hs ms ms:=⟨rfl,λ_ m' h=>⟨m',h,.inl rfl⟩⟩
theorem iN.trans{C:aA}{hs:List Int}{a b c:List au}(h:iN C hs a b)(h':iN C hs b c):iN C hs a c:=
 ⟨h'.1.trans h.1,λj m' hm=>by
  obtain⟨m1,h1,h2⟩:=h'.2 j m' hm;obtain⟨m2,h3,h4⟩:=h.2 j m1 h1;exact⟨m2,h3,h4.trans h2⟩⟩
theorem Dr(C:aA)(hs:List Int)(ms:List au)(i:Nat):iN C hs ms (gM C hs ms i):=by
 refine⟨oN C hs ms i,λj m' hm=>?_⟩;cases hf:eF C ms i with
 |false=>
  rw[(mZ C hs ms i).2 hf]at hm;exact⟨m',hm,.inl rfl⟩
 |true=>
  have hf':=hf;unfold eF at hf';unfold gM at hm;cases hk:C.clauses[i]? with
  |none=>simp[hk]at hf'
  |some k=>
   cases Ql:ms[i]? with
   |none=>simp[hk,Ql]at hf'
   |some m=>
    simp only[hk,Ql]at hf';simp only[hk,hf,cond_true]at hm;by_cases hij:i=j
    .subst hij
     rw[jC Ql]at hm;injection hm with hm
     simp only[dD,Bool.and_eq_true,beq_iff_eq,Bool.not_eq_true']at hf';exact⟨m,Ql,.inr ⟨hf'.1,k,hk,hf'.2.1,hm.symm⟩⟩
    .rw[List.getElem?_set,if_neg hij]at hm
     exact⟨m',hm,.inl rfl⟩
theorem wu(C:aA)(hs:List Int)(ms:List au):∀n,iN C hs ms (bN C hs ms n)
 |0=>iN.refl _ _ _
 |n+1=>(wu C hs ms n).trans (Dr C hs _ n)
theorem tQ(C:aA)(hs:List Int):∀(f:Nat)(ms:List au),iN C hs ms (fM C hs f ms)
 |0,ms=>iN.refl _ _ _
 |f+1,ms=>by
  rw[fM];cases bX C hs ms C.clauses.length with
  |false=>exact iN.refl _ _ _
  |true=>exact(wu C hs ms _).trans (tQ C hs f _)
theorem vK(C:aA)(hs:List Int)(ms:List au):iN C hs ms (C.begin hs ms):=tQ C hs _ ms
theorem qZ(C:aA)(hs:List Int):∀(f:Nat)(ms:List au),idle ms<f->bX C hs (fM C hs f ms) C.clauses.length=false
 |0,_,h=>by omega
 |f+1,ms,h=>by
  rw[fM];cases hf:bX C hs ms C.clauses.length with
  |false=>exact hf
  |true=>
   have:=(fK C hs ms C.clauses.length).1 hf;exact qZ C hs f _ (by omega)
theorem yG{C:aA}{hs:List Int}{ms:List au}:∀{n:Nat},bX C hs ms n=false->∀i,i<n->eF C ms i=false
 |0,_,i,hi=>by omega
 |n+1,h,i,hi=>by
  rw[bX,Bool.or_eq_false_iff]at h;by_cases hin:i=n
  .subst hin
   have h2:=(fK C hs ms i).2 h.1;rw[h2]at h;exact h.2
  .exact yG h.1 i (by omega)
theorem yH{C:aA}{hs:List Int}{ms:List au}:∀{n:Nat},(∀i,i<n->eF C ms i=false)->bX C hs ms n=false
 |0,_=>rfl
 |n+1,h=>by
  have h1:=yH (hs:=hs) (n:=n) (λi hi=>h i (by omega));rw[bX,h1,(fK C hs ms n).2 h1];exact h n (by omega)
theorem yI(C:aA)(hs:List Int)(ms:List au)(i:Nat)(hi:i<C.clauses.length):eF C (C.begin hs ms) i=false:=yG (qZ C hs _ ms (by omega)) i hi
theorem BO{hs:List Int}{r:Int}(h0:0<=r)(h1:r<hs.length):gQ hs r∈hs:=by
 unfold gQ;have:r.toNat<hs.length:=by omega
 rw[List.getElem?_eq_getElem this];exact List.getElem_mem this
theorem Mf{C:aA}{hs:List Int}{i:Nat}{k:aF}(hk:oW C i k)(hw:k.iL=false)(hl:hs.length=C.ah.length)(hh:∀p∈hs,0<=p/\p<C.aC):bO C k (lU hs k):=by
 refine .inr (.inl ⟨.inl ⟨rfl,Int.le_refl _⟩,hw,hk.Ut,(λh=>by cases h),λh=>absurd rfl h,λh=>?_,λh=>?_⟩)
 .simp[lU,jS,h]
 .have h4:(k.kind==4)=false:=by simpa using h
  have:=hk.role h;have h5:=hh _ (BO (hs:=hs) this.1 (by omega));simp only[lU,jS,h4,cond_false];exact h5
theorem tT{C:aA}{hs:List Int}{ms:List au}(hC:C.Ok)(hl:hs.length=C.ah.length)(hh:∀p∈hs,0<=p/\p<C.aC)(hm:∀(i:Nat)(m:au)(k:aF),ms[i]?=some m->C.clauses[i]?=some k->bO C k m):
 (∀(i:Nat)(m:au)(k:aF),(C.begin hs ms)[i]?=some m->C.clauses[i]?=some k->bO C k m)/\(∀(i:Nat)(m:au)(k:aF),(C.begin hs ms)[i]?=some m->C.clauses[i]?=some k->dD (C.begin hs ms) k m=false):=by
 refine⟨λi m k h hk=>?_,λi m k h hk=>?_⟩
 .obtain⟨m0,h0,hb⟩:=(vK C hs ms).2 i m h
  rcases hb with rfl|⟨_,k',hk',hw,rfl⟩
  .exact hm i _ k h0 hk
  .rw[hk]at hk'
   injection hk' with hk'
   subst hk';exact Mf (hC.clause hk) hw hl hh
 .have h1:=yI C hs ms i (List.getElem?_eq_some_iff.1 hk).1
  unfold eF at h1;rw[hk,h]at h1;exact h1
theorem gJ(C:aA)(hs:List Int)(ms:List au):(C.begin hs ms).length=ms.length:=(vK C hs ms).1
theorem Fh{C:aA}{hs:List Int}{ms:List au}{j:Nat}{m:au}(h:ms[j]?=some m)(h0:m.status≠0):(C.begin hs ms)[j]?=some m:=by
 have hj:j<(C.begin hs ms).length:=by rw[gJ];exact(List.getElem?_eq_some_iff.1 h).1
 obtain⟨m',hm'⟩:∃m',(C.begin hs ms)[j]?=some m':=⟨_,List.getElem?_eq_getElem hj⟩;obtain⟨m0,h1,hb⟩:=(vK C hs ms).2 j m' hm';rw[h]at h1;injection h1 with h1
 subst h1;rcases hb with rfl|⟨h2,_⟩
 .exact hm'
 .exact absurd h2 h0
theorem map_ok{C:aA}{ms ms':List au}{f:Nat->au->au}(hg:∀j:Nat,ms'[j]?=(ms[j]?).map (λm=>cond m.runs (f j m) m))(hm:∀(i:Nat)(m:au)(k:aF),ms[i]?=some m->C.clauses[i]?=some k->bO C k m)
 (hf:∀(i:Nat)(m:au)(k:aF),C.clauses[i]?=some k->bO C k m->m.runs=true->bO C k (f i m)):∀(i:Nat)(m:au)(k:aF),ms'[i]?=some m->C.clauses[i]?=some k->bO C k m:=by
 intro i m k h hk;rw[hg]at h;cases hm0:ms[i]? with
 |none=>rw[hm0]at h;cases h
 |some m0=>
  rw[hm0]at h;simp only[Option.map_some,Option.some.injEq]at h;have h1:=hm i m0 k hm0 hk;cases hr:m0.runs with
  |false=>
   rw[hr]at h;subst h;exact h1
  |true=>
   rw[hr]at h;subst h;exact hf i m0 k hk h1 hr
theorem Jp{C:aA}{ms:List au}{act:Int}(h0:0<=act)(hm:∀(i:Nat)(m:au)(k:aF),ms[i]?=some m->C.clauses[i]?=some k->bO C k m):
 ∀(i:Nat)(m:au)(k:aF),(C.paused act ms)[i]?=some m->C.clauses[i]?=some k->bO C k m:=
 map_ok (iM C act ms) hm (λi m k hk h hr=>by
  unfold iW;rw[hk];dsimp only;cases q1:(act==k.pause)with
  |true=>
   have e1:act=k.pause:=by simpa using q1
   exact h.Qk hr (by omega) true
  |false=>
   cases q2:(act==k.resume)with
   |true=>exact h.resumed hr
   |false=>exact h)
theorem Mg{C:aA}(hC:C.Ok){ms:List au}{act who:Int}(hm:∀(i:Nat)(m:au)(k:aF),ms[i]?=some m->C.clauses[i]?=some k->bO C k m):
 ∀(i:Nat)(m:au)(k:aF),(C.nP act who ms)[i]?=some m->C.clauses[i]?=some k->bO C k m:=
 map_ok (jD C act who ms) hm (λi m k hk h hr=>by
  unfold oQ;rw[hk];cases q1:((k.act==act)&&((k.kind==4)||(m.aO==who)))with
  |true=>simpa only[q1,cond_true]using h.hit (hC.clause hk) hr hC.aC
  |false=>simpa only[q1,cond_false]using h)
theorem Jq{C:aA}(hC:C.Ok){ms:List au}{free:Bool}(hm:∀(i:Nat)(m:au)(k:aF),ms[i]?=some m->C.clauses[i]?=some k->bO C k m):
 ∀(i:Nat)(m:au)(k:aF),(C.vI free ms)[i]?=some m->C.clauses[i]?=some k->bO C k m:=
 map_ok (m_ C free ms) hm (λi m k hk h hr=>by
  unfold qo;rw[hk];cases q1:(m.paused||(k.gP&&free))with
  |true=>simpa only[q1,cond_true]using h
  |false=>simpa only[q1,cond_false]using h.wR (hC.clause hk) hr hC.aC)
theorem Fj{C:aA}{ms:List au}{give tgt:Int}(h0:0<=tgt)(h1:tgt<C.aC)(hm:∀(i:Nat)(m:au)(k:aF),ms[i]?=some m->C.clauses[i]?=some k->bO C k m):
 ∀(i:Nat)(m:au)(k:aF),((gT ms ms.length).foldl (λms j=>dO C give tgt j ms) ms)[i]?=some m->C.clauses[i]?=some k->bO C k m:=
 map_ok (oV C give tgt ms) hm (λi m k hk h hr=>by
  unfold oU;rw[hk];dsimp only;cases q1:((k.kind !=4)&&(k.role==give))with
  |true=>
   simp only[Bool.and_eq_true,bne_iff_ne]at q1;exact h.borne hr q1.1 h0 h1
  |false=>exact h)
theorem HZ{C:aA}{s:aI}(h:aM C s)(hd:s.day<C.days):aM C (C.tick s):=by
 have hC:=aA.ok h.con;obtain⟨b1,b2⟩:=tT hC h.lh h.held (Jq hC (free:=C.off.contains s.day) h.marks);exact⟨h.con,by show 0<=s.day+1;have:=h.Fe;omega,by show s.day+1<=C.days;omega,h.lh,h.lu,by show(C.begin _ _).length=_;rw[gJ,yD];exact h.lm,h.held,h.used,b1,b2⟩
theorem mem_set{α:Type}{l:List α}{i:Nat}{x y:α}(h:y∈l.set i x):y=x\/y∈l:=by
 rcases List.mem_or_eq_of_mem_set h with h|h
 .exact .inr h
 .exact .inl h
theorem Mh{C:aA}{s:aI}{i:Nat}{a:dB}(hA:Sm C a)(ha:C.acts[i]?=some a)(hk:a.kind≠1)(h1:s.ah.length=C.ah.length)(h2:s.used.length=C.acts.length)(h3:s.marks.length=C.clauses.length)(h4:∀p∈s.ah,0<=p/\p<C.aC)
 (h5:∀(i:Nat)(a:dB),s.used[i]?=some true->C.acts[i]?=some a->a.kind≠1)(h6:∀(i:Nat)(m:au)(k:aF),s.marks[i]?=some m->C.clauses[i]?=some k->bO C k m):
 (C.shift i a s).ah.length=C.ah.length/\(C.shift i a s).used.length=C.acts.length/\(C.shift i a s).marks.length=C.clauses.length/\(∀p∈(C.shift i a s).ah,0<=p/\p<C.aC)/\(∀(j:Nat)(a':dB),(C.shift i a s).used[j]?=some true->C.acts[j]?=some a'->a'.kind≠1)/\
  (∀(j:Nat)(m:au)(k:aF),(C.shift i a s).marks[j]?=some m->C.clauses[j]?=some k->bO C k m):=by
 refine⟨by simp[aA.shift,h1],by simp[aA.shift,h2],?_,?_,?_,?_⟩
 .simp only[aA.shift]
  cases (a.kind !=3)with
  |true=>exact h3
  |false=>simp only[cond_false];rw[vH _ (λi ms=>iR C _ _ i ms)];exact h3
 .intro p hp
  simp only[aA.shift]at hp;rcases mem_set hp with rfl|hp
  .exact hA.tgt hk
  .exact h4 p hp
 .intro j a' hu ha'
  simp only[aA.shift]at hu;by_cases hij:i=j
  .subst hij
   rw[ha]at ha';injection ha' with ha'
   subst ha';exact hk
  .rw[List.getElem?_set,if_neg hij]at hu
   exact h5 j a' hu ha'
 .simp only[aA.shift]
  cases (a.kind !=3)with
  |true=>exact h6
  |false=>exact Fj (hA.tgt hk).1 (hA.tgt hk).2 h6
theorem Mi{C:aA}{s:aI}(h:aM C s){i:Nat}{a:dB}(ha:C.acts[i]?=some a):aM C (C.act i a s):=by
 have hC:=aA.ok h.con;have hA:=hC.act (List.mem_of_getElem? ha);unfold aA.act;cases q:((a.kind !=1)&&s.used.getD i false)with
 |true=>exact h
 |false=>
  simp only[cond_false];have hm:=Mg hC (who:=bI s.ah a) (act:=i) (Jp (act:=i) (by omega) h.marks);have hl:(C.nP i (bI s.ah a) (C.paused i s.marks)).length=C.clauses.length:=by rw[vJ,yC];exact h.lm
  cases q1:(a.kind !=1)with
  |false=>
   simp only[cond_false];obtain⟨b1,b2⟩:=tT hC h.lh h.held hm;exact⟨h.con,h.Fe,h.Fg,h.lh,h.lu,by show(C.begin _ _).length=_;rw[gJ];exact hl,h.held,h.used,b1,b2⟩
  |true=>
   simp only[cond_true];have hk1:a.kind≠1:=by simpa using q1
   obtain⟨s1,s2,s3,s4,s5,s6⟩:=Mh (s:=⟨s.day,s.ah,s.used,C.nP i (bI s.ah a) (C.paused i s.marks)⟩) hA ha hk1 h.lh h.lu hl h.held h.used hm;obtain⟨b1,b2⟩:=tT hC s1 s4 s6;exact⟨h.con,h.Fe,h.Fg,s1,s2,by show(C.begin _ _).length=_;rw[gJ];exact s3,s4,s5,b1,b2⟩
def eY(k:aF):au:=⟨cond k.iL 5 0,0,0, -1,false⟩
def aA.first(C:aA):aI:=⟨0,C.ah,List.replicate C.acts.length false,C.begin C.ah (C.clauses.map eY)⟩
theorem yJ{C:aA}(h:C.valid=true):aM C C.first:=by
 have hC:=aA.ok h;obtain⟨b1,b2⟩:=tT (ms:=C.clauses.map eY) hC rfl hC.held (λi m k hm hk=>by
  rw[List.getElem?_map,hk]at hm;simp only[Option.map_some,Option.some.injEq]at hm;subst hm;have hp:=hC.aC;cases hw:k.iL with
  |true=>exact .inr (.inr ⟨.inr (.inr (by simp[eY,hw])),rfl,by simp[eY],by simp[eY],by simp[eY],by simp[eY];omega,rfl⟩)
  |false=>exact .inl ⟨by simp[eY,hw],hw,rfl,rfl,rfl,rfl⟩)
 refine⟨h,Int.le_refl _,by show 0<=C.days;have:=hC.days;omega,rfl,by simp[aA.first],by simp[aA.first,gJ],hC.held,?_,b1,b2⟩;intro i a hu;simp only[aA.first]at hu;have:=List.mem_of_getElem? hu;simp at this
theorem yK{m:au}(h:m.status=3\/m.status=4\/m.status=5):m.runs=false:=by
 cases hr:m.runs with
 |false=>rfl
 |true=>rw[iX]at hr;omega
theorem Fp{C:aA}{hs:List Int}{ms:List au}(h:∀(i:Nat)(m:au)(k:aF),ms[i]?=some m->C.clauses[i]?=some k->dD ms k m=false):C.begin hs ms=ms:=by
 apply wh;apply yH;intro i hi;unfold eF;cases hk:C.clauses[i]? with
 |none=>rfl
 |some k=>
  cases hm:ms[i]? with
  |none=>rfl
  |some m=>exact h i m k hm hk
theorem yL{ms ms':List au}{f:Nat->au->au}(hg:∀j:Nat,ms'[j]?=(ms[j]?).map (λm=>cond m.runs (f j m) m))(hf:∀(j:Nat)(m:au),ms[j]?=some m->m.runs=true->f j m=m):ms'=ms:=by
 apply List.ext_getElem?;intro j;rw[hg];cases hm:ms[j]? with
 |none=>rfl
 |some m=>
  simp only[Option.map_some,Option.some.injEq];cases hr:m.runs with
  |false=>rfl
  |true=>exact hf j m hm hr
theorem Mj{C:aA}{s:aI}(h:aM C s){i:Nat}{a:dB}(hk1:a.kind=1)
 (hn:∀(j:Nat)(m:au)(k:aF),s.marks[j]?=some m->C.clauses[j]?=some k->m.runs=true->k.act≠i/\k.pause≠i/\k.resume≠i):C.act i a s=s:=by
 have h1:C.paused i s.marks=s.marks:=yL (iM C i s.marks) (λj m hm hr=>by
  unfold iW;cases hk:C.clauses[j]? with
  |none=>rfl
  |some k=>
   obtain⟨_,n2,n3⟩:=hn j m k hm hk hr;have e2:((i:Int)==k.pause)=false:=by simpa usingλe=>n2 e.symm
   have e3:((i:Int)==k.resume)=false:=by simpa usingλe=>n3 e.symm
   simp only[e2,e3,cond_false])
 have h2:C.nP i (bI s.ah a) s.marks=s.marks:=yL (jD C i _ s.marks) (λj m hm hr=>by
  unfold oQ;cases hk:C.clauses[j]? with
  |none=>rfl
  |some k=>
   obtain⟨n1,_,_⟩:=hn j m k hm hk hr;have e1:(k.act==(i:Int))=false:=by simpa using n1
   simp only[e1,Bool.false_and,cond_false])
 have h3:C.begin s.ah s.marks=s.marks:=Fp h.still;have q:(a.kind !=1)=false:=by simpa using hk1
 unfold aA.act;simp only[q,Bool.false_and,cond_false,h1,h2,h3]
end
noncomputable section
open Classical
structure aR where
 st:aI
 own:Bool
def aA.bA(C:aA)(s:aI)(t:Int):aI:=if t= -1 then C.tick s else match C.acts[t.toNat]? with|some a=>C.act t.toNat a s|none=>s
def aA.doer(C:aA)(s:aI)(t:Int):Int:=match C.acts[t.toNat]? with|some a=>bI s.ah a|none=> -2
def aA.Jr(C:aA)(party:Int)(p:aR)(i:Nat):Prop:=(C.doer p.st i=party↔p.own=true)/\C.bA p.st i≠p.st
def aA.nW(C:aA)(p:aR):List (Int×aR):=(if p.own=true then[(-2,⟨p.st,false⟩)]else[])++(if p.own=false/\p.st.day<C.days then[(-1,⟨C.bA p.st (-1),true⟩)]else[])
def aA.nY(C:aA)(party:Int)(p:aR)(n:Nat):List (Int×aR):=((List.range n).filter λi=>decide (C.Jr party p i)).map λ(i:Nat)=>((i:Int),(⟨C.bA p.st i,true⟩:aR))
def aA.oZ(C:aA)(party:Int)(p:aR):List (Int×aR):=C.nW p++(if p.st.day<C.days then C.nY party p C.acts.length else[])
theorem vL{C:aA}{party:Int}{p:aR}{n:Nat}:C.nY party p (n+1)=C.nY party p n++if C.Jr party p n then[((n:Int),⟨C.bA p.st n,true⟩)]else[]:=by
 unfold aA.nY;rw[List.range_succ,List.filter_append,List.map_append];congr 1;by_cases h:C.Jr party p n<;>simp[h]
inductive dh (C:aA) (party:Int):aR->Prop
 |lost {p:aR}:anyFailed C p.st party=true->dh C party p
 |own {p:aR}:p.own=true->(∀m q,(m,q)∈C.oZ party p->dh C party q)->dh C party p
 |wS {p:aR} {m:Int} {q:aR}:p.own=false->(m,q)∈C.oZ party p->dh C party q->dh C party p
inductive zq (C:aA) (party:Int) (p:aR):aR->Prop
 |refl:zq C party p p
 |step {q r:aR} {m:Int}:zq C party p q->(m,r)∈C.oZ party q->zq C party p r
theorem zq.trans{C:aA}{party:Int}{p q r:aR}(a:zq C party p q)(b:zq C party q r):zq C party p r:=by
 induction b with
 |refl=>exact a
 |step _ h ih=>exact ih.step h
def h_(C:aA)(party:Int)(p:aR):Prop:=∃l:List aR,l.Nodup/\1500<l.length/\∀q∈l,zq C party p q
theorem h_.of{C:aA}{party:Int}{p q:aR}(h:h_ C party q)(k:zq C party p q):h_ C party p:=
 let⟨l,h1,h2,h3⟩:=h
 ⟨l,h1,h2,λr hr=>k.trans (h3 r hr)⟩
structure eH(C:aA)(party:Int)(p:aR)(P:List aR)(M:List (List (Int×Nat))):Prop where
 hd:P[0]?=some p
 nd:P.Nodup
 len:M.length=P.length
 mv:∀(i:Nat)(q:aR)(l:List (Int×Nat)),P[i]?=some q->M[i]?=some l->l.length=(C.oZ party q).length/\∀(k:Nat)(m:Int)(j:Nat),l[k]?=some (m,j)->∃r,P[j]?=some r/\(C.oZ party q)[k]?=some (m,r)
 rch:∀q∈P,zq C party p q
 small:P.length<=1500
section
variable {C:aA} {party:Int} {p q:aR} {P:List aR} {M:List (List (Int×Nat))}
theorem eH.row(a:eH C party p P M){i:Nat}(h:P[i]?=some q):∃l,M[i]?=some l:=
 ⟨M[i]'(by rw[a.len];exact(List.getElem?_eq_some_iff.1 h).1),List.getElem?_eq_some_iff.2 ⟨_,rfl⟩⟩
theorem eH.at_(a:eH C party p P M){i:Nat}{l:List (Int×Nat)}(h:P[i]?=some q)(hl:M[i]?=some l){k:Nat}{m:Int}{r:aR}(hk:(C.oZ party q)[k]?=some (m,r)):∃j,l[k]?=some (m,j)/\P[j]?=some r:=by
 obtain⟨h1,h2⟩:=a.mv i q l h hl;have hlt:k<l.length:=by rw[h1];exact(List.getElem?_eq_some_iff.1 hk).1
 obtain⟨r',h3,h4⟩:=h2 k l[k].1 l[k].2 (List.getElem?_eq_some_iff.2 ⟨hlt,rfl⟩);rw[hk]at h4;cases h4
 exact⟨_,List.getElem?_eq_some_iff.2 ⟨hlt,rfl⟩,h3⟩
theorem eH.move(a:eH C party p P M){i:Nat}{l:List (Int×Nat)}(h:P[i]?=some q)(hl:M[i]?=some l){m:Int}{r:aR}(hk:(m,r)∈C.oZ party q):∃j,(m,j)∈l/\P[j]?=some r:=by
 obtain⟨k,hk⟩:=List.getElem?_of_mem hk;obtain⟨j,h1,h2⟩:=a.at_ h hl hk;exact⟨j,List.mem_of_getElem? h1,h2⟩
theorem eH.back(a:eH C party p P M){i:Nat}{l:List (Int×Nat)}(h:P[i]?=some q)(hl:M[i]?=some l){m:Int}{j:Nat}(hk:(m,j)∈l):∃r,P[j]?=some r/\(m,r)∈C.oZ party q:=by
 obtain⟨k,hk⟩:=List.getElem?_of_mem hk;obtain⟨r,h1,h2⟩:=(a.mv i q l h hl).2 k m j hk;exact⟨r,h1,List.mem_of_getElem? h2⟩
end
structure o_(C:aA)(party:Int)(P:List aR)(M:List (List (Int×Nat)))(r:List Int):Prop where
 len:r.length=P.length
 neg:∀(i:Nat)(x:Int),r[i]?=some x-> -1<=x
 lost:∀(i:Nat)(p:aR)(x:Int),P[i]?=some p->r[i]?=some x->(x=0↔anyFailed C p.st party=true)
 own:∀(i:Nat)(p:aR)(l:List (Int×Nat))(x:Int),P[i]?=some p->M[i]?=some l->r[i]?=some x->p.own=true->0<x->∀m j,(m,j)∈l->∃y,r[j]?=some y/\0<=y/\y<x
 wS:∀(i:Nat)(p:aR)(l:List (Int×Nat))(x:Int),P[i]?=some p->M[i]?=some l->r[i]?=some x->p.own=false->0<x->∃m j y,(m,j)∈l/\r[j]?=some y/\0<=y/\y<x
 Qm:∀(i:Nat)(p:aR)(l:List (Int×Nat)),P[i]?=some p->M[i]?=some l->r[i]?=some (-1)->p.own=true->∃m j,(m,j)∈l/\r[j]?=some (-1)
 Qn:∀(i:Nat)(p:aR)(l:List (Int×Nat)),P[i]?=some p->M[i]?=some l->r[i]?=some (-1)->p.own=false->∀m j,(m,j)∈l->r[j]?=some (-1)
section
variable {C:aA} {party:Int} {p q:aR} {P:List aR} {M:List (List (Int×Nat))} {r:List Int}
theorem o_.aeo(a:eH C party p P M)(k:o_ C party P M r):∀(x:Nat)(i:Nat)(q:aR),P[i]?=some q->r[i]?=some (x:Int)->dh C party q:=by
 intro x;induction x using Nat.strongRecOn with
 |_ x ih=>
  intro i q hi hx;by_cases h0:x=0
  .subst h0
   exact .lost ((k.lost i q 0 hi hx).1 rfl)
  .obtain⟨l,hl⟩:=a.row hi
   cases ho:q.own with
   |true=>
    refine .own ho λm q' hm=>?_;obtain⟨j,h1,h2⟩:=a.move hi hl hm;obtain⟨y,h3,h4,h5⟩:=k.own i q l x hi hl hx ho (by omega) m j h1;obtain⟨z,rfl⟩:=Int.eq_ofNat_of_zero_le h4;exact ih z (by omega) j q' h2 h3
   |false=>
    obtain⟨m,j,y,h1,h3,h4,h5⟩:=k.wS i q l x hi hl hx ho (by omega);obtain⟨q',h2,hm⟩:=a.back hi hl h1;obtain⟨z,rfl⟩:=Int.eq_ofNat_of_zero_le h4;exact .wS ho hm (ih z (by omega) j q' h2 h3)
theorem o_.Qo(a:eH C party p P M)(k:o_ C party P M r)(h:dh C party q):∀i:Nat,P[i]?=some q->r[i]?≠some (-1):=by
 induction h with
 |lost hf=>
  intro i hi e;have:=(k.lost i _ _ hi e).2 hf;omega
 |own ho _ ih=>
  intro i hi e;obtain⟨l,hl⟩:=a.row hi;obtain⟨m,j,h1,h2⟩:=k.Qm i _ l hi hl e ho;obtain⟨q',h3,h4⟩:=a.back hi hl h1;exact ih m q' h4 j h3 h2
 |wS ho hm _ ih=>
  intro i hi e;obtain⟨l,hl⟩:=a.row hi;obtain⟨j,h1,h2⟩:=a.move hi hl hm;exact ih j h2 (k.Qn i _ l hi hl e ho _ j h1)
theorem o_.safe(a:eH C party p P M)(k:o_ C party P M r){i:Nat}{x:Int}(h:P[i]?=some q)(hx:r[i]?=some x):x= -1↔¬dh C party q:=by
 constructor
 .rintro rfl hd
  exact k.Qo a hd i h hx
 .intro hn
  have:=k.neg i x hx;by_cases e:x= -1
  .exact e
  .obtain⟨z,rfl⟩:=Int.eq_ofNat_of_zero_le (show 0<=x by omega)
   exact absurd (k.aeo a z i q h hx) hn
end
def aA.decide(C:aA)(party:Int)(s s':aI)(t:Int):aR:=if 0<=t/\C.doer s t=party then⟨s',true⟩else⟨s,false⟩
structure fA(C:aA)(s:aI)(l:List Int)(S:List aI):Prop where
 hd:S[0]?=some s
 len:S.length=l.length+1
 step:∀(k:Nat)(t:Int)(a:aI),l[k]?=some t->S[k]?=some a-> -1<=t/\t<C.acts.length/\a.day<C.days/\S[k+1]?=some (C.bA a t)
theorem fA.nil(C:aA)(s:aI):fA C s [] [s]:=⟨rfl,rfl,λk t a h=>by cases h⟩
theorem fA.snoc{C:aA}{s:aI}{l:List Int}{S:List aI}(h:fA C s l S){t:Int}{a:aI}(ha:S[l.length]?=some a)(h1: -1<=t)(h2:t<C.acts.length)(h3:a.day<C.days):fA C s (l++[t]) (S++[C.bA a t]):=by
 have hl:=h.len;refine⟨?_,by simp[hl],λk u b hu hb=>?_⟩
 .rw[List.getElem?_append_left (by omega)];exact h.hd
 .by_cases hk:k<l.length
  .rw[List.getElem?_append_left hk]at hu
   rw[List.getElem?_append_left (by omega)]at hb;obtain⟨g1,g2,g3,g4⟩:=h.step k u b hu hb;refine⟨g1,g2,g3,?_⟩;rw[List.getElem?_append_left (by omega)];exact g4
  .have hk2:k<(l++[t]).length:=(List.getElem?_eq_some_iff.1 hu).1
   obtain rfl:k=l.length:=by simp at hk2;omega
   rw[List.getElem?_append_right (Nat.le_refl _)]at hu;rw[List.getElem?_append_left (by omega),ha]at hb;simp at hu;subst hu;cases hb
   refine⟨h1,h2,h3,?_⟩;rw[List.getElem?_append_right (by omega),hl];simp
end
end Go.Proofs.YtjoohkjmoghmoaaGreatDoor

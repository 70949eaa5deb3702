/- part -/
import Derived.Test.YtjoohkjmoghmoaaGreatDoorP06
set_option linter.all false
namespace Go.Proofs.YtjoohkjmoghmoaaGreatDoor
section
structure bA where
 num:Int
 den:Int
structure dh where
 kind:Int
 role:Int
 give:Int
 tgt:Int
 unit:Int
 lot:bA
structure bN where
 clause:Int
 is:Int
structure aF where
 kind:Int
 role:Int
 act:Int
 need:Int
 start:List bN
 after:Int
 gF:Int
 gV:Bool
 final:Bool
 pause:Int
 resume:Int
 value:bA
 unit:Int
 tgt:Int
 iP:Bool
structure dB where
 name:ByteArray
 kind:Int
 base:Int
 factor:bA
structure aA where
 aC:Int
 ah:List Int
 units:List dB
 acts:List dh
 clauses:List aF
 days:Int
 off:List Int
structure au where
 status:Int
 left:Int
 got:Int
 aO:Int
 paused:Bool
structure aH where
 day:Int
 ah:List Int
 used:List Bool
 marks:List au
def bA.ok(r:bA):Bool:=decide (1<=r.den)&&decide (r.den<=1000000)&&decide (-1000000000000<=r.num)&&decide (r.num<=1000000000000)&&decide (Nat.gcd r.num.natAbs r.den.natAbs=1)
def aA.role(C:aA)(r:Int):Bool:=decide (0<=r)&&decide (r<C.ah.length)
def bA.zero(r:bA):Bool:=(r.num==0)&&(r.den==1)
def bA.plus(r:bA):Bool:=decide (0<r.num)&&r.ok
def aA.DF(C:aA)(i:Int):Option dh:=if 0<=i then C.acts[i.toNat]? else none
def aA.natural(C:aA)(i:Int):Bool:=
 match C.DF i with
 |none=>false
 |some a=>(a.kind==1)&&(a.role== -1)
def oU(C:aA)(ki ro gi tg un ln ld:Int):Bool:=(cond (!(C.role ro)) ((ki==1)&&((ro== -1)&&((gi==0)&&(((tg== -1)||(C.role tg))&&((un== -1)&&(bA.zero ⟨ln,ld⟩)))))) (cond (ki==1) (cond ((!(gi==0))||((!(tg== -1))&&(!(C.role tg)))) false (cond (un== -1) (bA.zero ⟨ln,ld⟩) (decide (0<=un)&&(decide (un<(C.units.length:Int))&&(bA.plus ⟨ln,ld⟩))))) (cond ((ki==2)||(ki==3)) ((C.role gi)&&(decide (0<=tg)&&(decide (tg<C.aC)&&((un== -1)&&(bA.zero ⟨ln,ld⟩))))) false)))
def jy(C:aA)(ki ro ac ne gr:Int)(fi:Bool):Bool:=(cond (ki==4) ((ro== -1)&&((ne==1)&&((gr==0)&&(!fi)))) (cond ((!(C.role ro))||(C.natural ac)) false (cond (ki==1) (decide (1<=ne)&&(decide (ne<=9)&&(decide (0<=gr)&&decide (gr<=400)))) (cond (ki==2) ((ne==1)&&(gr==0)) (cond (ki==3) ((ne==1)&&((gr==0)&&(!fi))) false)))))
def tT(C:aA)(i:Nat)(cl is:Int):Bool:=((!decide (cl<0))&&((!decide ((C.clauses.length:Int)<=cl))&&((!(cl==(i:Int)))&&((!decide (is<1))&&(!decide (4<is))))))
def qy(C:aA)(i:Nat)(l:List bN):Bool:=l.all (λk=>tT C i k.clause k.is)
def ru(C:aA)(ki ro ac ne gr af:Int)(fi:Bool)(sl:Nat):Bool:=((!decide (ac<0))&&((!decide ((C.acts.length:Int)<=ac))&&((!decide (af<1))&&((!decide (400<af))&&((jy C ki ro ac ne gr fi)&&(!decide (8<(sl:Int))))))))
def kN(C:aA)(pa re:Int):Bool:=(cond ((!(pa== -1))||(!(re== -1))) ((!(pa==re))&&((C.natural pa)&&(C.natural re))) true)
def aA.yH(C:aA)(i:Int):Int:=if 0<=i then(C.units[i.toNat]?.map (·.kind)).getD 0 else 0
def lZ(C:aA)(ki un vn vd tg:Int):Bool:=(cond (un== -1) ((bA.zero ⟨vn,vd⟩)&&(tg== -1)) (((ki==1)||(ki==2))&&(decide (0<=un)&&(decide (un<(C.units.length:Int))&&((C.yH un==2)&&((bA.plus ⟨vn,vd⟩)&&(C.role tg)))))))
def aA.bU(C:aA)(i:Nat)(k:aF):Bool:=
 ru C k.kind k.role k.act k.need k.gF k.after k.final k.start.length&&(qy C i k.start&&(kN C k.pause k.resume&&lZ C k.kind k.unit k.value.num k.value.den k.tgt))
def lF(us:List dB)(x:Int):Bool:=decide (0<=x)&&decide (x<us.length)
def yI(us:List dB)(x:Int):Int:=((us[x.toNat]?).map (·.kind)).getD 0
def yJ(us:List dB)(x:Int):Int:=((us[x.toNat]?).map (·.base)).getD 0
def BZ(i:Nat)(nm:ByteArray):Bool:=((!decide (20<=(i:Int)))&&(!nm.toList.isEmpty))
def vJ(ki fn fd:Int):Bool:=(((ki==1)||(ki==2))&&((bA.ok ⟨fn,fd⟩)&&(!decide (fn<=0))))
def vK(us:List dB)(ki ba:Int):Bool:=((lF us ba)&&(((yI us ba)==ki)&&((yJ us ba)==ba)))
def Fw(i:Nat)(ba fn fd:Int):Bool:=((!(ba==(i:Int)))||((fn==1)&&(fd==1)))
def newName(l:List dB)(nm:ByteArray):Bool:=l.all (λu=> !(u.name.toList==nm.toList))
def fJ(us:List dB)(i:Nat)(u:dB):Bool:=
 BZ i u.name&&(newName (us.take i) u.name&&(vJ u.kind u.factor.num u.factor.den&&(vK us u.kind u.base&&Fw i u.base u.factor.num u.factor.den)))
def nC(us:List dB):Bool:=(List.range us.length).all (λi=>match us[i]? with|some u=>fJ us i u|none=>true)
def aA.party(C:aA)(p:Int):Bool:=decide (0<=p)&&decide (p<C.aC)
def aA.held(C:aA):Bool:=C.ah.all (λp=>C.party p)
def aA.oV(C:aA)(a:dh):Bool:=oU C a.kind a.role a.give a.tgt a.unit a.lot.num a.lot.den
def aA.yK(C:aA):Bool:=C.acts.all (λa=>C.oV a)
def nT(days:Int):Int->List Int->Bool
 |_,[]=>true
 |last,d::l=>(!decide (d<=last))&&((!decide (days<=d))&&nT days d l)
def OC(C:aA):Bool:=((!decide (C.aC<1))&&((!decide (C.days<1))&&((!((C.ah.length:Int)==0))&&C.held)))
def aA.framed(C:aA):Bool:=OC C&&(nC C.units&&(C.yK&&nT C.days (-1) C.off))
def aA.over(C:aA):Bool:=(decide (12<C.aC)||(decide (2000<C.days)||(decide (12<(C.ah.length:Int))||(decide (20<(C.units.length:Int))||(decide (60<(C.acts.length:Int))||decide (400<(C.clauses.length:Int)))))))
def aA.iH(C:aA):Bool:=(List.range C.clauses.length).all (λi=>match C.clauses[i]? with|some k=>C.bU i k|none=>true)
def aA.errno(C:aA):Int:=cond C.over 3 (cond (C.framed&&C.iH) 0 1)
def aA.valid(C:aA):Bool:=(!C.over)&&(C.framed&&C.iH)
def jS(C:aA)(ki ne pa:Int)(wa:Bool)(ml mg mb:Int)(mp:Bool):Bool:=(cond (wa||(decide (ml<1)||(mp&&(pa== -1)))) false (cond ((!(mg==0))&&((!(ki==1))||(decide (mg<0)||decide (ne<=mg)))) false (cond (ki==4) (mb== -1) (decide (0<=mb)&&decide (mb<C.aC)))))
def oW(ms ml mg mb:Int)(mp:Bool):Bool:=(ms==0)&&((ml==0)&&((mg==0)&&((mb== -1)&& !mp)))
def kQ(C:aA)(ki ne af gr pa:Int)(wa:Bool)(ms ml mg mb:Int)(mp:Bool):Bool:=(cond (ms==0) ((!wa)&&(oW ms ml mg mb mp)) (cond (ms==1) (decide (ml<=af)&&(jS C ki ne pa wa ml mg mb mp)) (cond (ms==2) ((ki==1)&&(decide (ml<=gr)&&(jS C ki ne pa wa ml mg mb mp))) (cond ((ms==3)||((ms==4)||(ms==5))) ((ml==0)&&(decide (0<=mg)&&(decide (mg<=9)&&(decide (-1<=mb)&&(decide (mb<C.aC)&&(!mp)))))) false))))
def aA.jT(C:aA)(k:aF)(m:au):Bool:=kQ C k.kind k.need k.after k.gF k.pause k.iP m.status m.left m.got m.aO m.paused
def rW(is x:Int):Bool:=(cond (is==1) (!(x==0)) (cond (is==2) (x==3) (cond (is==3) (x==4) (cond (is==4) (x==5) false))))
def jU(ms:List au)(x:Int):Int:=((ms[x.toNat]?).map (·.status)).getD 0
def d9(ms:List au)(c:bN):Bool:=rW c.is (jU ms c.clause)
def gN(ms:List au)(l:List bN):Bool:=l.all (d9 ms)
def dz(ms:List au)(k:aF)(m:au):Bool:=(m.status==0)&&((!k.iP)&&gN ms k.start)
def Js(C:aA)(s:aH):Bool:=((!decide (s.day<0))&&((!decide (C.days<s.day))&&(((s.ah.length:Int)==(C.ah.length:Int))&&(((s.used.length:Int)==(C.acts.length:Int))&&((s.marks.length:Int)==(C.clauses.length:Int))))))
def vL(C:aA)(p:Int):Bool:=(!decide (p<0))&&(!decide (C.aC<=p))
def jV(C:aA)(s:aH):Bool:=s.ah.all (vL C)
def yL(C:aA)(s:aH):Bool:=(List.range s.used.length).all (λi=>match s.used[i]?,C.acts[i]? with|some u,some a=> !(u&&(a.kind==1))|_,_=>true)
def rY(C:aA)(s:aH):Bool:=(List.range s.marks.length).all (λi=>match s.marks[i]?,C.clauses[i]? with|some m,some k=>C.jT k m&& !(dz s.marks k m)|_,_=>true)
def aA.dQ(C:aA)(s:aH):Bool:=C.valid&&(Js C s&&(jV C s&&(yL C s&&rY C s)))
def iA(k:aF)(m:au)(p:Int):Bool:=k.final&&((m.status==4)&&(m.aO==p))
def anyFailed(C:aA)(s:aH)(p:Int):Bool:=(List.range s.marks.length).any (λi=>match s.marks[i]?,C.clauses[i]? with|some m,some k=>iA k m p|_,_=>false)
def au.ended(m:au)(st:Int):au:=⟨st,0,m.got,m.aO,false⟩
def au.violated(m:au):au:=cond m.paused m (m.ended 4)
def au.performed(m:au)(need:Int):au:=cond (m.got+1==need) (au.ended ⟨m.status,m.left,m.got+1,m.aO,m.paused⟩ 3) ⟨m.status,m.left,m.got+1,m.aO,m.paused⟩
def au.expired(m:au)(gF:Int):au:=cond ((m.status==1)&&decide (0<gF)) ⟨2,gF,m.got,m.aO,m.paused⟩ (m.ended 4)
def au.runs(m:au):Bool:=(m.status==1)||(m.status==2)
def gW(l:List Int)(x:Int):Int:=(l[x.toNat]?).getD 0
def bH(hs:List Int)(a:dh):Int:=cond (a.role== -1) (-1) (gW hs a.role)
def jW(hs:List Int)(k:aF):Int:=cond (k.kind==4) (-1) (gW hs k.role)
def mh(hs:List Int)(k:aF):au:=⟨1,k.after,0,jW hs k,false⟩
def eB(C:aA)(ms:List au)(i:Nat):Bool:=match C.clauses[i]?,ms[i]? with|some k,some m=>dz ms k m|_,_=>false
def gU(C:aA)(hs:List Int)(ms:List au)(i:Nat):List au:=match C.clauses[i]? with|some k=>cond (eB C ms i) (ms.set i (mh hs k)) ms|none=>ms
def bL(C:aA)(hs:List Int)(ms:List au):Nat->List au
 |0=>ms
 |j+1=>gU C hs (bL C hs ms j) j
def bV(C:aA)(hs:List Int)(ms:List au):Nat->Bool
 |0=>false
 |j+1=>bV C hs ms j||eB C (bL C hs ms j) j
def idle(ms:List au):Nat:=(ms.filter (λm=>m.status==0)).length
theorem oZ(C:aA)(hs:List Int)(ms:List au)(i:Nat):(gU C hs ms i).length=ms.length:=by
 unfold gU;cases C.clauses[i]? with
 |none=>rfl
 |some k=>cases eB C ms i<;>simp
theorem o_(C:aA)(hs:List Int)(ms:List au):∀j,(bL C hs ms j).length=ms.length
 |0=>rfl
 |j+1=>by rw[bL,oZ,o_ C hs ms j]
theorem Mi{l:List au}{i:Nat}{m m':au}(hm:l[i]?=some m)(h0:(m.status==0)=true)(h1:(m'.status==0)=false):idle (l.set i m')+1=idle l:=by
 induction l generalizing i with
 |nil=>simp at hm
 |cons a l ih=>
  cases i with
  |zero=>
   simp at hm;subst hm;simp only[idle,List.set_cons_zero,List.filter_cons,h0,h1,if_true];simp
  |succ i=>
   have:=ih (i:=i) (by simpa using hm);simp only[idle,List.set_cons_succ,List.filter_cons]at this⊢;split
   .simp only[List.length_cons]
    omega
   .exact this
theorem nD(C:aA)(hs:List Int)(ms:List au)(i:Nat):(eB C ms i=true->idle (gU C hs ms i)+1=idle ms)/\(eB C ms i=false->gU C hs ms i=ms):=by
 refine⟨λh=>?_,λh=>?_⟩
 .have hf:=h
  unfold eB at hf;unfold gU;cases hk:C.clauses[i]? with
  |none=>simp[hk]at hf
  |some k=>
   cases hm:ms[i]? with
   |none=>simp[hk,hm]at hf
   |some m=>
    simp only[hk,hm]at hf;simp only[h,cond_true];refine Mi hm ?_ rfl;unfold dz at hf;simp only[Bool.and_eq_true]at hf;exact hf.1
 .unfold gU
  cases hk:C.clauses[i]? with
  |none=>rfl
  |some k=>simp only[h,cond_false]
theorem fQ(C:aA)(hs:List Int)(ms:List au):∀j,(bV C hs ms j=true->idle (bL C hs ms j)<idle ms)/\(bV C hs ms j=false->bL C hs ms j=ms)
 |0=>⟨λh=>(by cases h),λ_=>rfl⟩
 |j+1=>by
  obtain⟨h1,h2⟩:=fQ C hs ms j;obtain⟨h3,h4⟩:=nD C hs (bL C hs ms j) j;refine⟨λh=>?_,λh=>?_⟩
  .rw[bV,Bool.or_eq_true]at h
   rw[bL];cases hf:eB C (bL C hs ms j) j with
   |true=>
    have h5:=h3 hf;cases hg:bV C hs ms j with
    |true=>have:=h1 hg;omega
    |false=>rw[h2 hg]at h5⊢;omega
   |false=>
    rw[h4 hf];rcases h with h|h
    .exact h1 h
    .rw[hf]at h;cases h
  .rw[bV,Bool.or_eq_false_iff]at h
   rw[bL,h4 h.2,h2 h.1]
def fT(C:aA)(hs:List Int):Nat->List au->List au
 |0,ms=>ms
 |f+1,ms=>cond (bV C hs ms C.clauses.length) (fT C hs f (bL C hs ms C.clauses.length)) ms
theorem rz(C:aA)(hs:List Int):∀(f f':Nat)(ms:List au),idle ms<f->idle ms<f'->fT C hs f ms=fT C hs f' ms
 |0,_,_,h,_=>by omega
 |_,0,_,_,h=>by omega
 |f+1,f'+1,ms,h,h'=>by
  rw[fT,fT];cases hf:bV C hs ms C.clauses.length with
  |false=>rfl
  |true=>
   have:=(fQ C hs ms C.clauses.length).1 hf;simp only[cond_true];exact rz C hs f f' _ (by omega) (by omega)
def aA.begin(C:aA)(hs:List Int)(ms:List au):List au:=fT C hs (idle ms+1) ms
theorem DI{C:aA}{hs:List Int}{ms:List au}(h:bV C hs ms C.clauses.length=true):C.begin hs ms=C.begin hs (bL C hs ms C.clauses.length):=by
 have h1:=(fQ C hs ms C.clauses.length).1 h;unfold aA.begin;rw[fT,h,cond_true];exact rz C hs _ _ _ h1 (by omega)
theorem wG{C:aA}{hs:List Int}{ms:List au}(h:bV C hs ms C.clauses.length=false):C.begin hs ms=ms:=by
 unfold aA.begin;rw[fT,h,cond_false]
def gX(ms:List au):Nat->List Nat
 |0=>[]
 |k+1=>match ms[k]? with|some m=>cond m.runs (gX ms k++[k]) (gX ms k)|none=>gX ms k
def dM(C:aA)(give tgt:Int)(i:Nat)(ms:List au):List au:=
 match C.clauses[i]?,ms[i]? with
 |some k,some m=>cond ((k.kind !=4)&&(k.role==give)) (ms.set i ⟨m.status,m.left,m.got,tgt,m.paused⟩) ms
 |_,_=>ms
theorem iW(C:aA)(give tgt:Int)(i:Nat)(ms:List au):(dM C give tgt i ms).length=ms.length:=by
 unfold dM;split
 .rename_i k m _ _
  cases ((k.kind !=4)&&(k.role==give))<;>simp
 .rfl
theorem nU(C:aA)(give tgt:Int)(i:Nat)(ms:List au)(j:Nat)(h:j≠i):(dM C give tgt i ms)[j]?=ms[j]?:=by
 unfold dM;split
 .rename_i k m _ _
  cases ((k.kind !=4)&&(k.role==give))
  .rfl
  .simp only[cond_true]
   rw[List.getElem?_set,if_neg (λe=>h e.symm)]
 .rfl
def aA.shift(C:aA)(i:Nat)(a:dh)(s:aH):aH:=
 ⟨s.day,s.ah.set a.give.toNat a.tgt,s.used.set i true,cond (a.kind !=3) s.marks ((gX s.marks s.marks.length).foldl (λms j=>dM C a.give a.tgt j ms) s.marks)⟩
theorem vM(upd:Nat->List au->List au)(Bh:∀i ms,(upd i ms).length=ms.length):∀(l:List Nat)(ms:List au),(l.foldl (λms i=>upd i ms) ms).length=ms.length
 |[],_=>rfl
 |x::l,ms=>by rw[List.foldl_cons,vM upd Bh l,Bh]
def dN(C:aA)(act:Int)(i:Nat)(ms:List au):List au:=
 match C.clauses[i]?,ms[i]? with
 |some k,some m=>cond (act==k.pause) (ms.set i ⟨m.status,m.left,m.got,m.aO,true⟩) (cond (act==k.resume) (ms.set i ⟨m.status,m.left,m.got,m.aO,false⟩) ms)
 |_,_=>ms
def au.hit(m:au)(k:aF):au:=cond (k.kind==1) (m.performed k.need) (cond (k.kind==2) m.violated (m.ended 3))
def eD(C:aA)(act who:Int)(i:Nat)(ms:List au):List au:=
 match C.clauses[i]?,ms[i]? with
 |some k,some m=>cond ((k.act==act)&&((k.kind==4)||(m.aO==who))) (ms.set i (m.hit k)) ms
 |_,_=>ms
def au.due(m:au)(k:aF):au:=cond (k.kind==1) (m.expired k.gF) (cond (k.kind==2) (m.ended 3) (m.ended 5))
def au.w9(m:au)(k:aF):au:=cond (m.left - 1==0) (au.due ⟨m.status,m.left - 1,m.got,m.aO,m.paused⟩ k) ⟨m.status,m.left - 1,m.got,m.aO,m.paused⟩
def gY(C:aA)(free:Bool)(i:Nat)(ms:List au):List au:=
 match C.clauses[i]?,ms[i]? with
 |some k,some m=>cond (m.paused||(k.gV&&free)) ms (ms.set i (m.w9 k))
 |_,_=>ms
theorem rC(C:aA)(act:Int)(i:Nat)(ms:List au):(dN C act i ms).length=ms.length:=by
 unfold dN;split
 .rename_i k m _ _
  cases (act==k.pause)<;>cases (act==k.resume)<;>simp
 .rfl
theorem nV(C:aA)(act:Int)(i:Nat)(ms:List au)(j:Nat)(h:j≠i):(dN C act i ms)[j]?=ms[j]?:=by
 have h2:∀x,(ms.set i x)[j]?=ms[j]?:=λx=>by rw[List.getElem?_set,if_neg (λe=>h e.symm)]
 unfold dN;split
 .rename_i k m _ _
  cases (act==k.pause)<;>cases (act==k.resume)<;>simp only[cond_true,cond_false,h2]
 .rfl
theorem wH(C:aA)(act who:Int)(i:Nat)(ms:List au):(eD C act who i ms).length=ms.length:=by
 unfold eD;split
 .rename_i k m _ _
  cases ((k.act==act)&&((k.kind==4)||(m.aO==who)))<;>simp
 .rfl
theorem rD(C:aA)(act who:Int)(i:Nat)(ms:List au)(j:Nat)(h:j≠i):(eD C act who i ms)[j]?=ms[j]?:=by
 have h2:∀x,(ms.set i x)[j]?=ms[j]?:=λx=>by rw[List.getElem?_set,if_neg (λe=>h e.symm)]
 unfold eD;split
 .rename_i k m _ _
  cases ((k.act==act)&&((k.kind==4)||(m.aO==who)))<;>simp only[cond_true,cond_false,h2]
 .rfl
theorem tV(C:aA)(free:Bool)(i:Nat)(ms:List au):(gY C free i ms).length=ms.length:=by
 unfold gY;split
 .rename_i k m _ _
  cases (m.paused||(k.gV&&free))<;>simp
 .rfl
theorem pq(C:aA)(free:Bool)(i:Nat)(ms:List au)(j:Nat)(h:j≠i):(gY C free i ms)[j]?=ms[j]?:=by
 have h2:∀x,(ms.set i x)[j]?=ms[j]?:=λx=>by rw[List.getElem?_set,if_neg (λe=>h e.symm)]
 unfold gY;split
 .rename_i k m _ _
  cases (m.paused||(k.gV&&free))<;>simp only[cond_true,cond_false,h2]
 .rfl
def aA.paused(C:aA)(act:Int)(ms:List au):List au:=(gX ms ms.length).foldl (λms j=>dN C act j ms) ms
def aA.nW(C:aA)(act who:Int)(ms:List au):List au:=(gX ms ms.length).foldl (λms j=>eD C act who j ms) ms
def aA.vN(C:aA)(free:Bool)(ms:List au):List au:=(gX ms ms.length).foldl (λms j=>gY C free j ms) ms
def aA.act(C:aA)(i:Nat)(a:dh)(s:aH):aH:=
 cond ((a.kind !=1)&&s.used.getD i false) s
  (let s2:aH:=⟨s.day,s.ah,s.used,C.nW i (bH s.ah a) (C.paused i s.marks)⟩
   let s3:=cond (a.kind !=1) (C.shift i a s2) s2
   ⟨s3.day,s3.ah,s3.used,C.begin s3.ah s3.marks⟩)
def aA.tick(C:aA)(s:aH):aH:=
 ⟨s.day+1,s.ah,s.used,C.begin s.ah (C.vN (C.off.contains s.day) s.marks)⟩
theorem Am(upd:Nat->List au->List au)(f:Nat->au->au)(hu:∀i ms j,j≠i->(upd i ms)[j]?=ms[j]?)(hs:∀i ms,(upd i ms)[i]?=(ms[i]?).map (f i))(ms:List au):∀(k j:Nat),
 ((gX ms k).foldl (λms i=>upd i ms) ms)[j]?=(ms[j]?).map (λm=>cond (decide (j<k)&&m.runs) (f j m) m)
 |0,j=>by simp[gX]
 |k+1,j=>by
  have ih:=Am upd f hu hs ms k;unfold gX;by_cases hjk:j=k
  .subst hjk
   cases hm:ms[j]? with
   |none=>
    have h2:=ih j;rw[hm]at h2;simpa using h2
   |some m=>
    have h2:=ih j;rw[hm]at h2;simp only[Option.map_some,show decide (j<j)=false by simp,Bool.false_and,cond_false]at h2;cases hr:m.runs with
    |false=>
     simp only[cond_false,Option.map_some,hr,Bool.and_false];exact h2
    |true=>
     simp only[cond_true,List.foldl_append,List.foldl_cons,List.foldl_nil,Option.map_some,hr,show decide (j<j+1)=true by simp,Bool.and_true];rw[hs,h2];rfl
  .have hlt:decide (j<k+1)=decide (j<k):=by
    by_cases h:j<k
    .rw[decide_eq_true h,decide_eq_true (by omega)]
    .rw[decide_eq_false h,decide_eq_false (by omega)]
   rw[hlt];cases hm:ms[k]? with
   |none=>exact ih j
   |some m=>
    cases hr:m.runs with
    |false=>simpa [hr]using ih j
    |true=>
     simp only[hr,cond_true,List.foldl_append,List.foldl_cons,List.foldl_nil];rw[hu _ _ _ hjk];exact ih j
theorem iX(upd:Nat->List au->List au)(f:Nat->au->au)(hu:∀i ms j,j≠i->(upd i ms)[j]?=ms[j]?)(hs:∀i ms,(upd i ms)[i]?=(ms[i]?).map (f i))(ms:List au)(j:Nat):
 ((gX ms ms.length).foldl (λms i=>upd i ms) ms)[j]?=(ms[j]?).map (λm=>cond m.runs (f j m) m):=by
 rw[Am upd f hu hs ms ms.length j];cases hm:ms[j]? with
 |none=>rfl
 |some m=>
  have hj:j<ms.length:=(List.getElem?_eq_some_iff.1 hm).1;simp[hj]
def je(C:aA)(act:Int)(i:Nat)(m:au):au:=
 match C.clauses[i]? with
 |some k=>cond (act==k.pause) ⟨m.status,m.left,m.got,m.aO,true⟩ (cond (act==k.resume) ⟨m.status,m.left,m.got,m.aO,false⟩ m)
 |none=>m
def pz(C:aA)(act who:Int)(i:Nat)(m:au):au:=
 match C.clauses[i]? with
 |some k=>cond ((k.act==act)&&((k.kind==4)||(m.aO==who))) (m.hit k) m
 |none=>m
def qz(C:aA)(free:Bool)(i:Nat)(m:au):au:=
 match C.clauses[i]? with
 |some k=>cond (m.paused||(k.gV&&free)) m (m.w9 k)
 |none=>m
def pF(C:aA)(give tgt:Int)(i:Nat)(m:au):au:=
 match C.clauses[i]? with
 |some k=>cond ((k.kind !=4)&&(k.role==give)) ⟨m.status,m.left,m.got,tgt,m.paused⟩ m
 |none=>m
theorem jG{ms:List au}{i:Nat}{m:au}(hm:ms[i]?=some m)(x:au):(ms.set i x)[i]?=some x:=List.getElem?_set_self (List.getElem?_eq_some_iff.1 hm).1
theorem yM(C:aA)(act:Int)(i:Nat)(ms:List au):(dN C act i ms)[i]?=(ms[i]?).map (je C act i):=by
 unfold dN je;cases hk:C.clauses[i]? with
 |none=>cases ms[i]?<;>rfl
 |some k=>
  cases hm:ms[i]? with
  |none=>simp[hm]
  |some m=>cases h1:(act==k.pause)<;>cases h2:(act==k.resume)<;>simp only[h1,h2,cond_true,cond_false,Option.map_some]<;>first|exact jG hm _|exact hm
theorem B_(C:aA)(act who:Int)(i:Nat)(ms:List au):(eD C act who i ms)[i]?=(ms[i]?).map (pz C act who i):=by
 unfold eD pz;cases hk:C.clauses[i]? with
 |none=>cases ms[i]?<;>rfl
 |some k=>
  cases hm:ms[i]? with
  |none=>simp[hm]
  |some m=>cases h1:((k.act==act)&&((k.kind==4)||(m.aO==who)))<;>simp only[h1,cond_true,cond_false,Option.map_some]<;>first|exact jG hm _|exact hm
theorem zX(C:aA)(free:Bool)(i:Nat)(ms:List au):(gY C free i ms)[i]?=(ms[i]?).map (qz C free i):=by
 unfold gY qz;cases hk:C.clauses[i]? with
 |none=>cases ms[i]?<;>rfl
 |some k=>
  cases hm:ms[i]? with
  |none=>simp[hm]
  |some m=>cases h1:(m.paused||(k.gV&&free))<;>simp only[h1,cond_true,cond_false,Option.map_some]<;>first|exact jG hm _|exact hm
theorem yN(C:aA)(give tgt:Int)(i:Nat)(ms:List au):(dM C give tgt i ms)[i]?=(ms[i]?).map (pF C give tgt i):=by
 unfold dM pF;cases hk:C.clauses[i]? with
 |none=>cases ms[i]?<;>rfl
 |some k=>
  cases hm:ms[i]? with
  |none=>simp[hm]
  |some m=>cases h1:((k.kind !=4)&&(k.role==give))<;>simp only[h1,cond_true,cond_false,Option.map_some]<;>first|exact jG hm _|exact hm
theorem iQ(C:aA)(act:Int)(ms:List au)(j:Nat):(C.paused act ms)[j]?=(ms[j]?).map (λm=>cond m.runs (je C act j m) m):=
 iX _ _ (λi ms j h=>nV C act i ms j h) (yM C act) ms j
theorem jH(C:aA)(act who:Int)(ms:List au)(j:Nat):(C.nW act who ms)[j]?=(ms[j]?).map (λm=>cond m.runs (pz C act who j m) m):=
 iX _ _ (λi ms j h=>rD C act who i ms j h) (B_ C act who) ms j
theorem nG(C:aA)(free:Bool)(ms:List au)(j:Nat):(C.vN free ms)[j]?=(ms[j]?).map (λm=>cond m.runs (qz C free j m) m):=
 iX _ _ (λi ms j h=>pq C free i ms j h) (zX C free) ms j
theorem pG(C:aA)(give tgt:Int)(ms:List au)(j:Nat):((gX ms ms.length).foldl (λms i=>dM C give tgt i ms) ms)[j]?=(ms[j]?).map (λm=>cond m.runs (pF C give tgt j m) m):=
 iX _ _ (λi ms j h=>nU C give tgt i ms j h) (yN C give tgt) ms j
theorem jX{ms ms':List au}{f:Nat->au->au}(h:∀j:Nat,ms'[j]?=(ms[j]?).map (f j)):ms'.length=ms.length:=by
 apply Nat.le_antisymm
 .rcases Nat.lt_or_ge ms.length ms'.length with h1|h1
  .have h2:=h ms.length
   rw[List.getElem?_eq_getElem h1,List.getElem?_eq_none (Nat.le_refl _)]at h2;cases h2
  .exact h1
 .rcases Nat.lt_or_ge ms'.length ms.length with h1|h1
  .have h2:=h ms'.length
   rw[List.getElem?_eq_getElem h1,List.getElem?_eq_none (Nat.le_refl _)]at h2;cases h2
  .exact h1
theorem yO(C:aA)(act:Int)(ms:List au):(C.paused act ms).length=ms.length:=jX (f:=λj m=>cond m.runs (je C act j m) m) (iQ C act ms)
theorem vO(C:aA)(act who:Int)(ms:List au):(C.nW act who ms).length=ms.length:=jX (f:=λj m=>cond m.runs (pz C act who j m) m) (jH C act who ms)
theorem yP(C:aA)(free:Bool)(ms:List au):(C.vN free ms).length=ms.length:=jX (f:=λj m=>cond m.runs (qz C free j m) m) (nG C free ms)
theorem qA{n:Nat}{f:Nat->Bool}(h:(List.range n).all f=true){i:Nat}(hi:i<n):f i=true:=List.all_eq_true.1 h i (List.mem_range.2 hi)
structure aA.Ok(C:aA):Prop where
 aC:1<=C.aC
 days:1<=C.days
 RZ:C.days<=2000
 roles:C.ah.length≠0
 held:∀p∈C.ah,0<=p/\p<C.aC
 acts:∀a∈C.acts,C.oV a=true
 off:nT C.days (-1) C.off=true
 clauses:∀(i:Nat)(k:aF),C.clauses[i]?=some k->C.bU i k=true
 Mj:C.aC<=12
 lG:C.ah.length<=12
 jY:C.acts.length<=60
 dL:C.clauses.length<=400
theorem aA.ok{C:aA}(h:C.valid=true):C.Ok:=by
 simp only[aA.valid,aA.over,aA.framed,OC,Bool.and_eq_true,Bool.not_eq_true',Bool.or_eq_false_iff,decide_eq_false_iff_not]at h;obtain⟨⟨o1,o2,o3,o4,o5,o6⟩,⟨⟨f1,f2,f3,f4⟩,f5,f6,f7⟩,hc⟩:=h;refine⟨by omega,by omega,by omega,?_,?_,?_,f7,?_,by omega,by omega,by omega,by omega⟩
 .intro e
  rw[e]at f3;exact absurd f3 (by decide)
 .intro p hp
  have h1:=List.all_eq_true.1 f4 p hp;simp only[aA.party,Bool.and_eq_true,decide_eq_true_eq]at h1;exact h1
 .intro a ha
  exact List.all_eq_true.1 f6 a ha
 .intro i k hk
  have hi:i<C.clauses.length:=(List.getElem?_eq_some_iff.1 hk).1;have h1:=qA hc hi;rw[hk]at h1;exact h1
structure pI(C:aA)(i:Nat)(k:aF):Prop where
 akE:0<=k.act
 akF:k.act<C.acts.length
 R3:1<=k.kind
 R4:k.kind<=4
 Ub:1<=k.after
 Mk:k.after<=400
 role:k.kind≠4->0<=k.role/\k.role<C.ah.length
 Yh:1<=k.need
 R7:k.need<=9
 adU:0<=k.gF
 Ml:k.gF<=400
 adV:k.kind≠1->k.gF=0
 pause:k.pause≠ -1\/k.resume≠ -1->k.pause≠k.resume/\C.natural k.pause=true/\C.natural k.resume=true
 start:∀c∈k.start,0<=c.clause/\c.clause<C.clauses.length/\c.clause≠i/\1<=c.is/\c.is<=4
 r9:k.start.length<=8
theorem aA.Ok.clause{C:aA}(h:C.Ok){i:Nat}{k:aF}(hk:C.clauses[i]?=some k):pI C i k:=by
 have hc:=h.clauses i k hk;simp only[aA.bU,ru,jy,qy,kN,Bool.and_eq_true,Bool.not_eq_true',decide_eq_false_iff_not]at hc;obtain⟨⟨c1,c2,c3,c4,ck,c5⟩,cs,cp,_⟩:=hc;have hkd:1<=k.kind/\k.kind<=4/\(k.kind≠4->0<=k.role/\k.role<C.ah.length)/\1<=k.need/\k.need<=9/\0<=k.gF/\k.gF<=400/\(k.kind≠1->k.gF=0):=by
  cases q4:(k.kind==4)with
  |true=>
   simp only[q4,cond_true,Bool.and_eq_true,beq_iff_eq]at ck;have q4:k.kind=4:=by simpa using q4
   obtain⟨a1,a2,a3,_⟩:=ck;refine⟨by omega,by omega,λh=>absurd q4 h,by omega,by omega,by omega,by omega,λ_=>a3⟩
  |false=>
   simp only[q4,cond_false]at ck;have q4':k.kind≠4:=by simpa using q4
   cases qr:(!C.role k.role||C.natural k.act)with
   |true=>simp only[qr,cond_true]at ck;cases ck
   |false=>
    simp only[qr,cond_false]at ck;simp only[Bool.or_eq_false_iff,Bool.not_eq_false',aA.role,Bool.and_eq_true,decide_eq_true_eq]at qr;cases q1:(k.kind==1)with
    |true=>
     simp only[q1,cond_true,Bool.and_eq_true,decide_eq_true_eq]at ck;have q1:k.kind=1:=by simpa using q1
     refine⟨by omega,by omega,λ_=>qr.1,ck.1,ck.2.1,ck.2.2.1,ck.2.2.2,λh=>absurd q1 h⟩
    |false=>
     simp only[q1,cond_false]at ck;cases q2:(k.kind==2)with
     |true=>
      simp only[q2,cond_true,Bool.and_eq_true,beq_iff_eq]at ck;have q2:k.kind=2:=by simpa using q2
      refine⟨by omega,by omega,λ_=>qr.1,by omega,by omega,by omega,by omega,λ_=>ck.2⟩
     |false=>
      simp only[q2,cond_false]at ck;cases q3:(k.kind==3)with
      |true=>
       simp only[q3,cond_true,Bool.and_eq_true,beq_iff_eq]at ck;have q3:k.kind=3:=by simpa using q3
       refine⟨by omega,by omega,λ_=>qr.1,by omega,by omega,by omega,by omega,λ_=>ck.2.1⟩
      |false=>simp only[q3,cond_false]at ck;cases ck
 obtain⟨k1,k2,k3,k4,k5,k6,k7,k8⟩:=hkd;refine⟨by omega,by omega,k1,k2,by omega,by omega,k3,k4,k5,k6,k7,k8,?_,?_,by omega⟩
 .intro hp
  cases qp:(!(k.pause== -1)|| !(k.resume== -1))with
  |true=>
   simp only[qp,cond_true,Bool.and_eq_true,Bool.not_eq_true',beq_eq_false_iff_ne]at cp;exact⟨cp.1,cp.2.1,cp.2.2⟩
  |false=>
   simp only[Bool.or_eq_false_iff,Bool.not_eq_false',beq_iff_eq]at qp;omega
 .intro c hc
  have h1:=List.all_eq_true.1 cs c hc;simp only[tT,Bool.and_eq_true,Bool.not_eq_true',decide_eq_false_iff_not,beq_eq_false_iff_ne]at h1;obtain⟨e1,e2,e3,e4,e5⟩:=h1;exact⟨by omega,by omega,e3,by omega,by omega⟩
def bM(C:aA)(k:aF)(m:au):Prop:=
 (m.status=0/\k.iP=false/\m.left=0/\m.got=0/\m.aO= -1/\m.paused=false)\/
 ((m.status=1/\m.left<=k.after\/m.status=2/\k.kind=1/\m.left<=k.gF)/\k.iP=false/\1<=m.left/\(m.paused=true->k.pause≠ -1)/\(m.got≠0->k.kind=1/\0<=m.got/\m.got<k.need)/\(k.kind=4->m.aO= -1)/\(k.kind≠4->0<=m.aO/\m.aO<C.aC))\/
 ((m.status=3\/m.status=4\/m.status=5)/\m.left=0/\0<=m.got/\m.got<=9/\ -1<=m.aO/\m.aO<C.aC/\m.paused=false)
theorem yR(C:aA)(k:aF)(m:au):C.jT k m=true↔bM C k m:=by
 obtain⟨ms,ml,mg,mb,mp⟩:=m;obtain⟨ki,ro,ac,ne,start,af,gr,bu,fi,pa,re,va,un,tg,wa⟩:=k;simp only[aA.jT,bM,kQ];cases q0:(ms==0)with
 |true=>
  have h0:ms=0:=by simpa using q0
  subst h0;cases wa<;>cases mp<;>simp[oW]
 |false=>
  have h0:ms≠0:=by simpa using q0
  have hrun:jS C ki ne pa wa ml mg mb mp=true↔(wa=false/\1<=ml/\(mp=true->pa≠ -1)/\(mg≠0->ki=1/\0<=mg/\mg<ne)/\(ki=4->mb= -1)/\(ki≠4->0<=mb/\mb<C.aC)):=by
   simp only[jS];cases wa with
   |true=>simp
   |false=>
    cases q1:(decide (ml<1)||(mp&&(pa== -1)))with
    |true=>
     simp only[Bool.or_eq_true,decide_eq_true_eq,Bool.and_eq_true,beq_iff_eq]at q1;simp only[Bool.false_or,cond_true];constructor
     .intro h;cases h
     .rintro⟨_,a1,a2,_⟩
      rcases q1 with h|⟨h1,h2⟩
      .omega
      .exact absurd h2 (a2 h1)
    |false=>
     simp only[Bool.or_eq_false_iff,decide_eq_false_iff_not]at q1;have hp:mp=true->pa≠ -1:=by
      intro hm e;rw[hm,e]at q1;exact absurd q1.2 (by decide)
     simp only[Bool.false_or,cond_false];cases q2:(!(mg==0)&&(!(ki==1)||(decide (mg<0)||decide (ne<=mg))))with
     |true=>
      simp only[Bool.and_eq_true,Bool.not_eq_true',beq_eq_false_iff_ne,Bool.or_eq_true,decide_eq_true_eq]at q2;simp only[cond_true];constructor
      .intro h;cases h
      .rintro⟨_,_,_,a3,_⟩
       have:=a3 q2.1;omega
     |false=>
      have q3:mg≠0->ki=1/\0<=mg/\mg<ne:=by
       intro hne;simp only[show(mg==0)=false by simpa using hne,Bool.not_false,Bool.true_and,Bool.or_eq_false_iff,Bool.not_eq_false',beq_iff_eq,decide_eq_false_iff_not]at q2;omega
      simp only[cond_false];cases q4:(ki==4)with
      |true=>
       have h4:ki=4:=by simpa using q4
       simp only[cond_true,beq_iff_eq];constructor
       .intro h;exact⟨trivial,by omega,hp,q3,λ_=>h,λh=>absurd h4 h⟩
       .rintro⟨_,_,_,_,a4,_⟩;exact a4 h4
      |false=>
       have h4:ki≠4:=by simpa using q4
       simp only[cond_false,Bool.and_eq_true,decide_eq_true_eq];constructor
       .intro h;exact⟨trivial,by omega,hp,q3,λh=>absurd h h4,λ_=>h⟩
       .rintro⟨_,_,_,_,_,a4⟩;exact a4 h4
  simp only[cond_false];cases q1:(ms==1)with
  |true=>
   have h1:ms=1:=by simpa using q1
   subst h1;simp only[cond_true,Bool.and_eq_true,decide_eq_true_eq,hrun];constructor
   .rintro⟨a,b⟩;exact .inr (.inl ⟨.inl ⟨trivial,a⟩,b⟩)
   .rintro(⟨h,_⟩|⟨h|⟨h,_⟩,b⟩|⟨h,_⟩)
    .omega
    .exact⟨h.2,b⟩
    .omega
    .omega
  |false=>
   have h1:ms≠1:=by simpa using q1
   simp only[cond_false];cases q2:(ms==2)with
   |true=>
    have h2:ms=2:=by simpa using q2
    subst h2;simp only[cond_true,Bool.and_eq_true,decide_eq_true_eq,beq_iff_eq,hrun];constructor
    .rintro⟨a0,a,b⟩;exact .inr (.inl ⟨.inr ⟨trivial,a0,a⟩,b⟩)
    .rintro(⟨h,_⟩|⟨⟨h,_⟩|h,b⟩|⟨h,_⟩)
     .omega
     .omega
     .exact⟨h.2.1,h.2.2,b⟩
     .omega
   |false=>
    have h2:ms≠2:=by simpa using q2
    simp only[cond_false];cases q3:((ms==3)||((ms==4)||(ms==5)))with
    |true=>
     simp only[Bool.or_eq_true,beq_iff_eq]at q3;simp only[cond_true,Bool.and_eq_true,beq_iff_eq,decide_eq_true_eq,Bool.not_eq_true'];constructor
     .intro h;exact .inr (.inr ⟨q3,h⟩)
     .rintro(⟨h,_⟩|⟨⟨h,_⟩|⟨h,_⟩,_⟩|⟨_,b⟩)
      .omega
      .omega
      .omega
      .exact b
    |false=>
     simp only[Bool.or_eq_false_iff,beq_eq_false_iff_ne]at q3;simp only[cond_false];constructor
     .intro h;cases h
     .rintro(⟨h,_⟩|⟨⟨h,_⟩|⟨h,_⟩,_⟩|⟨h,_⟩)<;>omega
theorem jf(m:au):m.runs=true↔m.status=1\/m.status=2:=by simp[au.runs]
section
variable {C:aA} {i:Nat} {k:aF} {m:au}
theorem bM.ended(h:bM C k m)(hr:m.runs=true)(hp:1<=C.aC){st:Int}(hst:st=3\/st=4\/st=5)(g:Int)(hg0:0<=g)(hg:g<=9):bM C k ⟨st,0,g,m.aO,false⟩:=by
 rw[jf]at hr;rcases h with⟨h0,_⟩|⟨_,_,_,_,_,hb1,hb2⟩|⟨h0,_⟩
 .omega
 .refine .inr (.inr ⟨hst,rfl,hg0,hg,?_,?_,rfl⟩)
  .by_cases h4:k.kind=4
   .have h5:=hb1 h4;show -1<=m.aO;omega
   .have h5:=hb2 h4;show -1<=m.aO;omega
  .by_cases h4:k.kind=4
   .have h5:=hb1 h4;show m.aO<_;omega
   .have h5:=hb2 h4;show m.aO<_;omega
 .omega
theorem bM.got(hk:pI C i k)(h:bM C k m):0<=m.got/\m.got<=9:=by
 have:=hk.R7;rcases h with⟨_,_,_,h0,_⟩|⟨_,_,_,_,h0,_⟩|⟨_,_,h0,h1,_⟩
 .omega
 .by_cases hg:m.got=0
  .omega
  .have:=h0 hg;omega
 .omega
theorem bM.PU(h:bM C k m)(hr:m.runs=true)(hp:k.pause≠ -1)(b:Bool):bM C k ⟨m.status,m.left,m.got,m.aO,b⟩:=by
 rw[jf]at hr;rcases h with⟨h0,_⟩|⟨h1,h2,h3,h4,h5⟩|⟨h0,_⟩
 .omega
 .exact .inr (.inl ⟨h1,h2,h3,λ_=>hp,h5⟩)
 .omega
theorem bM.resumed(h:bM C k m)(hr:m.runs=true):bM C k ⟨m.status,m.left,m.got,m.aO,false⟩:=by
 rw[jf]at hr;rcases h with⟨h0,_⟩|⟨h1,h2,h3,h4,h5⟩|⟨h0,_⟩
 .omega
 .exact .inr (.inl ⟨h1,h2,h3,(λh=>by cases h),h5⟩)
 .omega
theorem bM.borne(h:bM C k m)(hr:m.runs=true)(hk4:k.kind≠4){p:Int}(h0:0<=p)(h1:p<C.aC):bM C k ⟨m.status,m.left,m.got,p,m.paused⟩:=by
 rw[jf]at hr;rcases h with⟨h0,_⟩|⟨a1,a2,a3,a4,a5,_⟩|⟨h0,_⟩
 .omega
 .exact .inr (.inl ⟨a1,a2,a3,a4,a5,λh=>absurd h hk4,λ_=>⟨h0,h1⟩⟩)
 .omega
theorem bM.hit(hk:pI C i k)(h:bM C k m)(hr:m.runs=true)(hp:1<=C.aC):bM C k (m.hit k):=by
 have hg:=h.got hk;have n1:=hk.Yh;have n2:=hk.R7;have hr':=hr;rw[jf]at hr';unfold au.hit;cases q1:(k.kind==1)with
 |true=>
  have h1:k.kind=1:=by simpa using q1
  simp only[cond_true,au.performed];cases q:(m.got+1==k.need)with
  |true=>
   have hq:m.got+1=k.need:=by simpa using q
   simp only[cond_true,au.ended];exact h.ended hr hp (.inl rfl) _ (by omega) (by omega)
  |false=>
   have hq:m.got+1≠k.need:=by simpa using q
   simp only[cond_false];rcases h with⟨h0,_⟩|⟨a1,a2,a3,a4,a5,a6⟩|⟨h0,_⟩
   .omega
   .refine .inr (.inl ⟨a1,a2,a3,a4,λ_=>⟨h1,?_,?_⟩,a6⟩)
    .show 0<=m.got+1;omega
    .show m.got+1<k.need
     by_cases h0:m.got=0
     .omega
     .have:=a5 h0;omega
   .omega
 |false=>
  simp only[cond_false];cases q2:(k.kind==2)with
  |true=>
   simp only[cond_true,au.violated];cases m.paused with
   |true=>exact h
   |false=>exact h.ended hr hp (.inr (.inl rfl)) _ hg.1 hg.2
  |false=>exact h.ended hr hp (.inl rfl) _ hg.1 hg.2
theorem bM.w9(hk:pI C i k)(h:bM C k m)(hr:m.runs=true)(hp:1<=C.aC):bM C k (m.w9 k):=by
 have hg:=h.got hk;have hr':=hr;rw[jf]at hr';unfold au.w9;have hl:1<=m.left/\(m.status=1->m.left<=k.after)/\(m.status=2->k.kind=1/\m.left<=k.gF):=by
  rcases h with⟨h0,_⟩|⟨a1,_,a3,_⟩|⟨h0,_⟩
  .omega
  .exact⟨a3,λ_=>by omega,λ_=>by omega⟩
  .omega
 cases q:(m.left - 1==0)with
 |true=>
  simp only[cond_true,au.due];cases q1:(k.kind==1)with
  |true=>
   have h1:k.kind=1:=by simpa using q1
   simp only[cond_true,au.expired];cases q3:((m.status==1)&&decide (0<k.gF))with
   |true=>
    simp only[Bool.and_eq_true,beq_iff_eq,decide_eq_true_eq]at q3;simp only[cond_true];rcases h with⟨h0,_⟩|⟨a1,a2,a3,a4,a5,a6⟩|⟨h0,_⟩
    .omega
    .exact .inr (.inl ⟨.inr ⟨rfl,h1,Int.le_refl _⟩,a2,by show 1<=k.gF;omega,a4,a5,a6⟩)
    .omega
   |false=>exact h.ended hr hp (.inr (.inl rfl)) _ hg.1 hg.2
  |false=>
   simp only[cond_false];cases q2:(k.kind==2)with
   |true=>exact h.ended hr hp (.inl rfl) _ hg.1 hg.2
   |false=>exact h.ended hr hp (.inr (.inr rfl)) _ hg.1 hg.2
 |false=>
  have hq:m.left - 1≠0:=by simpa using q
  simp only[cond_false];rcases h with⟨h0,_⟩|⟨a1,a2,a3,a4,a5,a6⟩|⟨h0,_⟩
  .omega
  .refine .inr (.inl ⟨?_,a2,?_,a4,a5,a6⟩)
   .show(m.status=1/\m.left - 1<=k.after)\/(m.status=2/\k.kind=1/\m.left - 1<=k.gF)
    omega
   .show 1<=m.left - 1
    omega
  .omega
end
structure R8(C:aA)(a:dh):Prop where
 role:a.role≠ -1->0<=a.role/\a.role<C.ah.length
 kind:a.kind=1\/a.kind=2\/a.kind=3
 give:a.kind≠1->0<=a.give/\a.give<C.ah.length
 tgt:a.kind≠1->0<=a.tgt/\a.tgt<C.aC
 seen:a.kind=1->a.tgt= -1\/(0<=a.tgt/\a.tgt<C.ah.length)
theorem aA.Ok.act{C:aA}(h:C.Ok){a:dh}(ha:a∈C.acts):R8 C a:=by
 have hc:=h.acts a ha;simp only[aA.oV,oU]at hc;cases qr:(C.role a.role)with
 |false=>
  simp only[qr,Bool.not_false,cond_true,Bool.and_eq_true,beq_iff_eq,Bool.or_eq_true]at hc;obtain⟨h1,h2,h3,h4,_⟩:=hc;refine⟨λh=>absurd h2 h,.inl h1,λh=>absurd h1 h,λh=>absurd h1 h,λ_=>?_⟩;rcases h4 with h4|h4
  .exact .inl h4
  .simp only[aA.role,Bool.and_eq_true,decide_eq_true_eq]at h4
   exact .inr h4
 |true=>
  have qr':=qr;simp only[aA.role,Bool.and_eq_true,decide_eq_true_eq]at qr';simp only[qr,Bool.not_true,cond_false]at hc;cases q1:(a.kind==1)with
  |true=>
   have h1:a.kind=1:=by simpa using q1
   simp only[q1,cond_true]at hc;refine⟨λ_=>qr',.inl h1,λh=>absurd h1 h,λh=>absurd h1 h,λ_=>?_⟩;cases q2:(!(a.give==0)||(!(a.tgt== -1)&& !(C.role a.tgt)))with
   |true=>simp only[q2,cond_true]at hc;cases hc
   |false=>
    simp only[Bool.or_eq_false_iff,Bool.and_eq_false_iff,Bool.not_eq_false',beq_iff_eq]at q2;rcases q2.2 with h4|h4
    .exact .inl h4
    .simp only[aA.role,Bool.and_eq_true,decide_eq_true_eq]at h4
     exact .inr h4
  |false=>
   have h1:a.kind≠1:=by simpa using q1
   simp only[q1,cond_false]at hc;cases q2:((a.kind==2)||(a.kind==3))with
   |false=>simp only[q2,cond_false]at hc;cases hc
   |true=>
    simp only[q2,cond_true,Bool.and_eq_true,decide_eq_true_eq,aA.role]at hc;simp only[Bool.or_eq_true,beq_iff_eq]at q2;exact⟨λ_=>qr',.inr q2,λ_=>hc.1,λ_=>⟨hc.2.1,hc.2.2.1⟩,λh=>absurd h h1⟩
structure aM(C:aA)(s:aH):Prop where
 con:C.valid=true
 Fx:0<=s.day
 Fy:s.day<=C.days
 lh:s.ah.length=C.ah.length
 lu:s.used.length=C.acts.length
 lm:s.marks.length=C.clauses.length
 held:∀p∈s.ah,0<=p/\p<C.aC
 used:∀(i:Nat)(a:dh),s.used[i]?=some true->C.acts[i]?=some a->a.kind≠1
 marks:∀(i:Nat)(m:au)(k:aF),s.marks[i]?=some m->C.clauses[i]?=some k->bM C k m
 still:∀(i:Nat)(m:au)(k:aF),s.marks[i]?=some m->C.clauses[i]?=some k->dz s.marks k m=false
theorem dP(C:aA)(s:aH):C.dQ s=true↔aM C s:=by
 constructor
 .intro h
  simp only[aA.dQ,Js,jV,yL,rY,Bool.and_eq_true,Bool.not_eq_true',decide_eq_false_iff_not,beq_iff_eq]at h;obtain⟨h1,⟨h2,h3,h4,h5,h6⟩,h7,h8,h9⟩:=h;refine⟨h1,by omega,by omega,by omega,by omega,by omega,?_,?_,?_,?_⟩
  .intro p hp
   have h10:=List.all_eq_true.1 h7 p hp;simp only[vL,Bool.and_eq_true,Bool.not_eq_true',decide_eq_false_iff_not]at h10;omega
  .intro i a hu ha
   have h10:=qA h8 (List.getElem?_eq_some_iff.1 hu).1;rw[hu,ha]at h10;simpa using h10
  .intro i m k hm hk
   have h10:=qA h9 (List.getElem?_eq_some_iff.1 hm).1;rw[hm,hk]at h10;simp only[Bool.and_eq_true]at h10;exact(yR _ _ _).1 h10.1
  .intro i m k hm hk
   have h10:=qA h9 (List.getElem?_eq_some_iff.1 hm).1;rw[hm,hk]at h10;simp only[Bool.and_eq_true,Bool.not_eq_true']at h10;exact h10.2
 .intro h
  simp only[aA.dQ,Js,jV,yL,rY,Bool.and_eq_true,Bool.not_eq_true',decide_eq_false_iff_not,beq_iff_eq];refine⟨h.con,⟨by have:=h.Fx;omega,by have:=h.Fy;omega,by have:=h.lh;omega,by have:=h.lu;omega,by have:=h.lm;omega⟩,?_,?_,?_⟩
  .apply List.all_eq_true.2
   intro p hp;have:=h.held p hp;simp only[vL,Bool.and_eq_true,Bool.not_eq_true',decide_eq_false_iff_not];omega
  .apply List.all_eq_true.2
   intro i _;cases hu:s.used[i]? with
   |none=>rfl
   |some u=>
    cases ha:C.acts[i]? with
    |none=>rfl
    |some a=>
     cases u with
     |false=>simp
     |true=>
      have:=h.used i a hu ha;simpa using this
  .apply List.all_eq_true.2
   intro i _;cases hm:s.marks[i]? with
   |none=>rfl
   |some m=>
    cases hk:C.clauses[i]? with
    |none=>rfl
    |some k=>
     simp only[Bool.and_eq_true,Bool.not_eq_true'];exact⟨(yR _ _ _).2 (h.marks i m k hm hk),h.still i m k hm hk⟩
def Yi(C:aA)(hs:List Int)(j:Nat)(m m':au):Prop:=m'=m\/(m.status=0/\∃k,C.clauses[j]?=some k/\k.iP=false/\m'=mh hs k)
theorem Yi.trans{C:aA}{hs:List Int}{j:Nat}{a b c:au}(h:Yi C hs j a b)(h':Yi C hs j b c):Yi C hs j a c:=by
 rcases h with rfl|⟨h0,k,hk,hw,rfl⟩
 .exact h'
 .rcases h' with rfl|⟨h1,_⟩
  .exact .inr ⟨h0,k,hk,hw,rfl⟩
  .exact absurd h1 (by show(1:Int)≠0;decide)
def iR(C:aA)(hs:List Int)(ms ms':List au):Prop:=ms'.length=ms.length/\∀(j:Nat)(m':au),ms'[j]?=some m'->∃m,ms[j]?=some m/\Yi C hs j m m'
theorem iR.refl(C:aA)(hs:List Int)(ms:List au):iR C hs ms ms:=⟨rfl,λ_ m' h=>⟨m',h,.inl rfl⟩⟩
theorem iR.trans{C:aA}{hs:List Int}{a b c:List au}(h:iR C hs a b)(h':iR C hs b c):iR C hs a c:=
 ⟨h'.1.trans h.1,λj m' hm=>by
  obtain⟨m1,h1,h2⟩:=h'.2 j m' hm;obtain⟨m2,h3,h4⟩:=h.2 j m1 h1;exact⟨m2,h3,h4.trans h2⟩⟩
theorem DJ(C:aA)(hs:List Int)(ms:List au)(i:Nat):iR C hs ms (gU C hs ms i):=by
 refine⟨oZ C hs ms i,λj m' hm=>?_⟩;cases hf:eB C ms i with
 |false=>
  rw[(nD C hs ms i).2 hf]at hm;exact⟨m',hm,.inl rfl⟩
 |true=>
  have hf':=hf;unfold eB at hf';unfold gU at hm;cases hk:C.clauses[i]? with
  |none=>simp[hk]at hf'
  |some k=>
   cases PV:ms[i]? with
   |none=>simp[hk,PV]at hf'
   |some m=>
    simp only[hk,PV]at hf';simp only[hk,hf,cond_true]at hm;by_cases hij:i=j
    .subst hij
     rw[jG PV]at hm;injection hm with hm
     simp only[dz,Bool.and_eq_true,beq_iff_eq,Bool.not_eq_true']at hf';exact⟨m,PV,.inr ⟨hf'.1,k,hk,hf'.2.1,hm.symm⟩⟩
    .rw[List.getElem?_set,if_neg hij]at hm
     exact⟨m',hm,.inl rfl⟩
theorem wI(C:aA)(hs:List Int)(ms:List au):∀n,iR C hs ms (bL C hs ms n)
 |0=>iR.refl _ _ _
 |n+1=>(wI C hs ms n).trans (DJ C hs _ n)
theorem tX(C:aA)(hs:List Int):∀(f:Nat)(ms:List au),iR C hs ms (fT C hs f ms)
 |0,ms=>iR.refl _ _ _
 |f+1,ms=>by
  rw[fT];cases bV C hs ms C.clauses.length with
  |false=>exact iR.refl _ _ _
  |true=>exact(wI C hs ms _).trans (tX C hs f _)
theorem vP(C:aA)(hs:List Int)(ms:List au):iR C hs ms (C.begin hs ms):=tX C hs _ ms
theorem rF(C:aA)(hs:List Int):∀(f:Nat)(ms:List au),idle ms<f->bV C hs (fT C hs f ms) C.clauses.length=false
 |0,_,h=>by omega
 |f+1,ms,h=>by
  rw[fT];cases hf:bV C hs ms C.clauses.length with
  |false=>exact hf
  |true=>
   have:=(fQ C hs ms C.clauses.length).1 hf;exact rF C hs f _ (by omega)
theorem yS{C:aA}{hs:List Int}{ms:List au}:∀{n:Nat},bV C hs ms n=false->∀i,i<n->eB C ms i=false
 |0,_,i,hi=>by omega
 |n+1,h,i,hi=>by
  rw[bV,Bool.or_eq_false_iff]at h;by_cases hin:i=n
  .subst hin
   have h2:=(fQ C hs ms i).2 h.1;rw[h2]at h;exact h.2
  .exact yS h.1 i (by omega)
theorem yT{C:aA}{hs:List Int}{ms:List au}:∀{n:Nat},(∀i,i<n->eB C ms i=false)->bV C hs ms n=false
 |0,_=>rfl
 |n+1,h=>by
  have h1:=yT (hs:=hs) (n:=n) (λi hi=>h i (by omega));rw[bV,h1,(fQ C hs ms n).2 h1];exact h n (by omega)
theorem yU(C:aA)(hs:List Int)(ms:List au)(i:Nat)(hi:i<C.clauses.length):eB C (C.begin hs ms) i=false:=yS (rF C hs _ ms (by omega)) i hi
theorem Ca{hs:List Int}{r:Int}(h0:0<=r)(h1:r<hs.length):gW hs r∈hs:=by
 unfold gW;have:r.toNat<hs.length:=by omega
 rw[List.getElem?_eq_getElem this];exact List.getElem_mem this
theorem Mq{C:aA}{hs:List Int}{i:Nat}{k:aF}(hk:pI C i k)(hw:k.iP=false)(hl:hs.length=C.ah.length)(hh:∀p∈hs,0<=p/\p<C.aC):bM C k (mh hs k):=by
 refine .inr (.inl ⟨.inl ⟨rfl,Int.le_refl _⟩,hw,hk.Ub,(λh=>by cases h),λh=>absurd rfl h,λh=>?_,λh=>?_⟩)
 .simp[mh,jW,h]
 .have h4:(k.kind==4)=false:=by simpa using h
  have:=hk.role h;have h5:=hh _ (Ca (hs:=hs) this.1 (by omega));simp only[mh,jW,h4,cond_false];exact h5
theorem tY{C:aA}{hs:List Int}{ms:List au}(hC:C.Ok)(hl:hs.length=C.ah.length)(hh:∀p∈hs,0<=p/\p<C.aC)(hm:∀(i:Nat)(m:au)(k:aF),ms[i]?=some m->C.clauses[i]?=some k->bM C k m):
 (∀(i:Nat)(m:au)(k:aF),(C.begin hs ms)[i]?=some m->C.clauses[i]?=some k->bM C k m)/\(∀(i:Nat)(m:au)(k:aF),(C.begin hs ms)[i]?=some m->C.clauses[i]?=some k->dz (C.begin hs ms) k m=false):=by
 refine⟨λi m k h hk=>?_,λi m k h hk=>?_⟩
 .obtain⟨m0,h0,hb⟩:=(vP C hs ms).2 i m h
  rcases hb with rfl|⟨_,k',hk',hw,rfl⟩
  .exact hm i _ k h0 hk
  .rw[hk]at hk'
   injection hk' with hk'
   subst hk';exact Mq (hC.clause hk) hw hl hh
 .have h1:=yU C hs ms i (List.getElem?_eq_some_iff.1 hk).1
  unfold eB at h1;rw[hk,h]at h1;exact h1
theorem gP(C:aA)(hs:List Int)(ms:List au):(C.begin hs ms).length=ms.length:=(vP C hs ms).1
theorem Fz{C:aA}{hs:List Int}{ms:List au}{j:Nat}{m:au}(h:ms[j]?=some m)(h0:m.status≠0):(C.begin hs ms)[j]?=some m:=by
 have hj:j<(C.begin hs ms).length:=by rw[gP];exact(List.getElem?_eq_some_iff.1 h).1
 obtain⟨m',hm'⟩:∃m',(C.begin hs ms)[j]?=some m':=⟨_,List.getElem?_eq_getElem hj⟩;obtain⟨m0,h1,hb⟩:=(vP C hs ms).2 j m' hm';rw[h]at h1;injection h1 with h1
 subst h1;rcases hb with rfl|⟨h2,_⟩
 .exact hm'
 .exact absurd h2 h0
theorem map_ok{C:aA}{ms ms':List au}{f:Nat->au->au}(hg:∀j:Nat,ms'[j]?=(ms[j]?).map (λm=>cond m.runs (f j m) m))(hm:∀(i:Nat)(m:au)(k:aF),ms[i]?=some m->C.clauses[i]?=some k->bM C k m)
 (hf:∀(i:Nat)(m:au)(k:aF),C.clauses[i]?=some k->bM C k m->m.runs=true->bM C k (f i m)):∀(i:Nat)(m:au)(k:aF),ms'[i]?=some m->C.clauses[i]?=some k->bM C k m:=by
 intro i m k h hk;rw[hg]at h;cases hm0:ms[i]? with
 |none=>rw[hm0]at h;cases h
 |some m0=>
  rw[hm0]at h;simp only[Option.map_some,Option.some.injEq]at h;have h1:=hm i m0 k hm0 hk;cases hr:m0.runs with
  |false=>
   rw[hr]at h;subst h;exact h1
  |true=>
   rw[hr]at h;subst h;exact hf i m0 k hk h1 hr
theorem Jt{C:aA}{ms:List au}{act:Int}(h0:0<=act)(hm:∀(i:Nat)(m:au)(k:aF),ms[i]?=some m->C.clauses[i]?=some k->bM C k m):
 ∀(i:Nat)(m:au)(k:aF),(C.paused act ms)[i]?=some m->C.clauses[i]?=some k->bM C k m:=
 map_ok (iQ C act ms) hm (λi m k hk h hr=>by
  unfold je;rw[hk];dsimp only;cases q1:(act==k.pause)with
  |true=>
   have e1:act=k.pause:=by simpa using q1
   exact h.PU hr (by omega) true
  |false=>
   cases q2:(act==k.resume)with
   |true=>exact h.resumed hr
   |false=>exact h)
theorem Mr{C:aA}(hC:C.Ok){ms:List au}{act who:Int}(hm:∀(i:Nat)(m:au)(k:aF),ms[i]?=some m->C.clauses[i]?=some k->bM C k m):
 ∀(i:Nat)(m:au)(k:aF),(C.nW act who ms)[i]?=some m->C.clauses[i]?=some k->bM C k m:=
 map_ok (jH C act who ms) hm (λi m k hk h hr=>by
  unfold pz;rw[hk];cases q1:((k.act==act)&&((k.kind==4)||(m.aO==who)))with
  |true=>simpa only[q1,cond_true]using h.hit (hC.clause hk) hr hC.aC
  |false=>simpa only[q1,cond_false]using h)
theorem Ju{C:aA}(hC:C.Ok){ms:List au}{free:Bool}(hm:∀(i:Nat)(m:au)(k:aF),ms[i]?=some m->C.clauses[i]?=some k->bM C k m):
 ∀(i:Nat)(m:au)(k:aF),(C.vN free ms)[i]?=some m->C.clauses[i]?=some k->bM C k m:=
 map_ok (nG C free ms) hm (λi m k hk h hr=>by
  unfold qz;rw[hk];cases q1:(m.paused||(k.gV&&free))with
  |true=>simpa only[q1,cond_true]using h
  |false=>simpa only[q1,cond_false]using h.w9 (hC.clause hk) hr hC.aC)
theorem FB{C:aA}{ms:List au}{give tgt:Int}(h0:0<=tgt)(h1:tgt<C.aC)(hm:∀(i:Nat)(m:au)(k:aF),ms[i]?=some m->C.clauses[i]?=some k->bM C k m):
 ∀(i:Nat)(m:au)(k:aF),((gX ms ms.length).foldl (λms j=>dM C give tgt j ms) ms)[i]?=some m->C.clauses[i]?=some k->bM C k m:=
 map_ok (pG C give tgt ms) hm (λi m k hk h hr=>by
  unfold pF;rw[hk];dsimp only;cases q1:((k.kind !=4)&&(k.role==give))with
  |true=>
   simp only[Bool.and_eq_true,bne_iff_ne]at q1;exact h.borne hr q1.1 h0 h1
  |false=>exact h)
theorem H_{C:aA}{s:aH}(h:aM C s)(hd:s.day<C.days):aM C (C.tick s):=by
 have hC:=aA.ok h.con;obtain⟨b1,b2⟩:=tY hC h.lh h.held (Ju hC (free:=C.off.contains s.day) h.marks);exact⟨h.con,by show 0<=s.day+1;have:=h.Fx;omega,by show s.day+1<=C.days;omega,h.lh,h.lu,by show(C.begin _ _).length=_;rw[gP,yP];exact h.lm,h.held,h.used,b1,b2⟩
theorem mem_set{α:Type}{l:List α}{i:Nat}{x y:α}(h:y∈l.set i x):y=x\/y∈l:=by
 rcases List.mem_or_eq_of_mem_set h with h|h
 .exact .inr h
 .exact .inl h
theorem Ms{C:aA}{s:aH}{i:Nat}{a:dh}(hA:R8 C a)(ha:C.acts[i]?=some a)(hk:a.kind≠1)(h1:s.ah.length=C.ah.length)(h2:s.used.length=C.acts.length)(h3:s.marks.length=C.clauses.length)(h4:∀p∈s.ah,0<=p/\p<C.aC)
 (h5:∀(i:Nat)(a:dh),s.used[i]?=some true->C.acts[i]?=some a->a.kind≠1)(h6:∀(i:Nat)(m:au)(k:aF),s.marks[i]?=some m->C.clauses[i]?=some k->bM C k m):
 (C.shift i a s).ah.length=C.ah.length/\(C.shift i a s).used.length=C.acts.length/\(C.shift i a s).marks.length=C.clauses.length/\(∀p∈(C.shift i a s).ah,0<=p/\p<C.aC)/\(∀(j:Nat)(a':dh),(C.shift i a s).used[j]?=some true->C.acts[j]?=some a'->a'.kind≠1)/\
  (∀(j:Nat)(m:au)(k:aF),(C.shift i a s).marks[j]?=some m->C.clauses[j]?=some k->bM C k m):=by
 refine⟨by simp[aA.shift,h1],by simp[aA.shift,h2],?_,?_,?_,?_⟩
 .simp only[aA.shift]
  cases (a.kind !=3)with
  |true=>exact h3
  |false=>simp only[cond_false];rw[vM _ (λi ms=>iW C _ _ i ms)];exact h3
 .intro p hp
  simp only[aA.shift]at hp;rcases mem_set hp with rfl|hp
  .exact hA.tgt hk
  .exact h4 p hp
 .intro j a' hu ha'
  simp only[aA.shift]at hu;by_cases hij:i=j
  .subst hij
   rw[ha]at ha';injection ha' with ha'
   subst ha';exact hk
  .rw[List.getElem?_set,if_neg hij]at hu
   exact h5 j a' hu ha'
 .simp only[aA.shift]
  cases (a.kind !=3)with
  |true=>exact h6
  |false=>exact FB (hA.tgt hk).1 (hA.tgt hk).2 h6
theorem Mt{C:aA}{s:aH}(h:aM C s){i:Nat}{a:dh}(ha:C.acts[i]?=some a):aM C (C.act i a s):=by
 have hC:=aA.ok h.con;have hA:=hC.act (List.mem_of_getElem? ha);unfold aA.act;cases q:((a.kind !=1)&&s.used.getD i false)with
 |true=>exact h
 |false=>
  simp only[cond_false];have hm:=Mr hC (who:=bH s.ah a) (act:=i) (Jt (act:=i) (by omega) h.marks);have hl:(C.nW i (bH s.ah a) (C.paused i s.marks)).length=C.clauses.length:=by rw[vO,yO];exact h.lm
  cases q1:(a.kind !=1)with
  |false=>
   simp only[cond_false];obtain⟨b1,b2⟩:=tY hC h.lh h.held hm;exact⟨h.con,h.Fx,h.Fy,h.lh,h.lu,by show(C.begin _ _).length=_;rw[gP];exact hl,h.held,h.used,b1,b2⟩
  |true=>
   simp only[cond_true];have hk1:a.kind≠1:=by simpa using q1
   obtain⟨s1,s2,s3,s4,s5,s6⟩:=Ms (s:=⟨s.day,s.ah,s.used,C.nW i (bH s.ah a) (C.paused i s.marks)⟩) hA ha hk1 h.lh h.lu hl h.held h.used hm;obtain⟨b1,b2⟩:=tY hC s1 s4 s6;exact⟨h.con,h.Fx,h.Fy,s1,s2,by show(C.begin _ _).length=_;rw[gP];exact s3,s4,s5,b1,b2⟩
def eT(k:aF):au:=⟨cond k.iP 5 0,0,0, -1,false⟩
def aA.first(C:aA):aH:=⟨0,C.ah,List.replicate C.acts.length false,C.begin C.ah (C.clauses.map eT)⟩
theorem yV{C:aA}(h:C.valid=true):aM C C.first:=by
 have hC:=aA.ok h;obtain⟨b1,b2⟩:=tY (ms:=C.clauses.map eT) hC rfl hC.held (λi m k hm hk=>by
  rw[List.getElem?_map,hk]at hm;simp only[Option.map_some,Option.some.injEq]at hm;subst hm;have hp:=hC.aC;cases hw:k.iP with
  |true=>exact .inr (.inr ⟨.inr (.inr (by simp[eT,hw])),rfl,by simp[eT],by simp[eT],by simp[eT],by simp[eT];omega,rfl⟩)
  |false=>exact .inl ⟨by simp[eT,hw],hw,rfl,rfl,rfl,rfl⟩)
 refine⟨h,Int.le_refl _,by show 0<=C.days;have:=hC.days;omega,rfl,by simp[aA.first],by simp[aA.first,gP],hC.held,?_,b1,b2⟩;intro i a hu;simp only[aA.first]at hu;have:=List.mem_of_getElem? hu;simp at this
theorem yX{m:au}(h:m.status=3\/m.status=4\/m.status=5):m.runs=false:=by
 cases hr:m.runs with
 |false=>rfl
 |true=>rw[jf]at hr;omega
theorem FC{C:aA}{hs:List Int}{ms:List au}(h:∀(i:Nat)(m:au)(k:aF),ms[i]?=some m->C.clauses[i]?=some k->dz ms k m=false):C.begin hs ms=ms:=by
 apply wG;apply yT;intro i hi;unfold eB;cases hk:C.clauses[i]? with
 |none=>rfl
 |some k=>
  cases hm:ms[i]? with
  |none=>rfl
  |some m=>exact h i m k hm hk
theorem yY{ms ms':List au}{f:Nat->au->au}(hg:∀j:Nat,ms'[j]?=(ms[j]?).map (λm=>cond m.runs (f j m) m))(hf:∀(j:Nat)(m:au),ms[j]?=some m->m.runs=true->f j m=m):ms'=ms:=by
 apply List.ext_getElem?;intro j;rw[hg];cases hm:ms[j]? with
 |none=>rfl
 |some m=>
  simp only[Option.map_some,Option.some.injEq];cases hr:m.runs with
  |false=>rfl
  |true=>exact hf j m hm hr
theorem Mv{C:aA}{s:aH}(h:aM C s){i:Nat}{a:dh}(hk1:a.kind=1)
 (hn:∀(j:Nat)(m:au)(k:aF),s.marks[j]?=some m->C.clauses[j]?=some k->m.runs=true->k.act≠i/\k.pause≠i/\k.resume≠i):C.act i a s=s:=by
 have h1:C.paused i s.marks=s.marks:=yY (iQ C i s.marks) (λj m hm hr=>by
  unfold je;cases hk:C.clauses[j]? with
  |none=>rfl
  |some k=>
   obtain⟨_,n2,n3⟩:=hn j m k hm hk hr;have e2:((i:Int)==k.pause)=false:=by simpa usingλe=>n2 e.symm
   have e3:((i:Int)==k.resume)=false:=by simpa usingλe=>n3 e.symm
   simp only[e2,e3,cond_false])
 have h2:C.nW i (bH s.ah a) s.marks=s.marks:=yY (jH C i _ s.marks) (λj m hm hr=>by
  unfold pz;cases hk:C.clauses[j]? with
  |none=>rfl
  |some k=>
   obtain⟨n1,_,_⟩:=hn j m k hm hk hr;have e1:(k.act==(i:Int))=false:=by simpa using n1
   simp only[e1,Bool.false_and,cond_false])
 have h3:C.begin s.ah s.marks=s.marks:=FC h.still;have q:(a.kind !=1)=false:=by simpa using hk1
 unfold aA.act;simp only[q,Bool.false_and,cond_false,h1,h2,h3]
end
section
noncomputable section
theorem aD{k:Nat}{g:FuncId}{kb:List Bool}{m:MC}{rs:List MS}{args:List AV}{h:AH}{n:Nat}{Q:AV->AH->Nat->Prop}(hc:yC Tryz.prog sl0 g=some (kb,m,rs))(hl:args.length=kb.length)
 (e:sK Tryz.prog Y0 g 100000 [.c m] .bT (EF k) h n (wZ 0 kb args) (RS rs Q))(hg:Nat.beq g KL=false:=by rfl)(hg':Nat.beq g OA=false:=by rfl):CW (EF (k+1)) g args h n Q:=by
 obtain⟨v,h',n',e1,e2⟩:=L6 hc hl e;refine⟨v,h',n',?_,e2⟩;show@Option.rec eY (λ_=>eY) ((Ti Tryz.prog sl0 g).run (EF k) args h n) (λr=>r) (bc (Nat.beq g OA) _ (bc (Nat.beq g KL) _ none))=_;rw[hg',hg];exact e1
theorem Up.ge{h:AH}{n m:Nat}(e:n<=m):Up h n h m:=⟨e,λ_ _=>rfl⟩
theorem Up.wk{h:AH}{n:Nat}{h':AH}{n' m:Nat}(a:Up h n h' n')(e:n'<=m):Up h n h' m:=⟨Nat.le_trans a.le e,a.old⟩
theorem aI{h:AH}{n:Nat}{h':AH}{n':Nat}(q:Up h n h' n':=by(repeat' (first|(with_reducible refine Up.ge ?_;omega)|assumption|refine Up.st ?_ _ _ (by omega)|(apply Up.trans;rotate_left;first|assumption|(apply Up.wk;assumption;omega))|(apply Up.wk;assumption;omega)))):Up h n h' n':=q
attribute [go_sem] decide_true decide_false Bool.not_true Bool.not_false BEq.rfl Bool.true_beq Bool.false_beq Nat.add_zero true_and and_true
abbrev av(x:Int):AV:=.i .i64 x
@[reducible] def bA.av (r:bA):List AV:=[.i .i64 r.num,.i .i64 r.den]
@[reducible] def dh.av (a:dh):List AV:=[.i .i64 a.kind,.i .i64 a.role,.i .i64 a.give,.i .i64 a.tgt,.i .i64 a.unit,.i .i64 a.lot.num,.i .i64 a.lot.den]
@[reducible] def bN.av (k:bN):List AV:=[.i .i64 k.clause,.i .i64 k.is]
@[reducible] def dB.av (u:dB):List AV:=[.s u.name.toList,.i .i64 u.kind,.i .i64 u.base,.i .i64 u.factor.num,.i .i64 u.factor.den]
@[reducible] def au.av (m:au):List AV:=[.i .i64 m.status,.i .i64 m.left,.i .i64 m.got,.i .i64 m.aO,.b m.paused]
@[reducible] def aF.av (k:aF) (s:AV):List AV:=
 [.i .i64 k.kind,.i .i64 k.role,.i .i64 k.act,.i .i64 k.need,s,.i .i64 k.after,.i .i64 k.gF,.b k.gV,.b k.final,.i .i64 k.pause,.i .i64 k.resume,.i .i64 k.value.num,.i .i64 k.value.den,.i .i64 k.unit,.i .i64 k.tgt,.b k.iP]
structure CS where
 h:AV
 u:AV
 a:AV
 k:AV
 o:AV
@[reducible] def CS.av (v:CS) (C:aA):List AV:=[.i .i64 C.aC,v.h,v.u,v.a,v.k,.i .i64 C.days,v.o]
structure TS where
 h:AV
 u:AV
 m:AV
@[reducible] def TS.av (v:TS) (s:aH):List AV:=[.i .i64 s.day,v.h,v.u,v.m]
def SL(h:AH)(n w:Nat)(v:AV){α:Type}(c:α->List AV)(l:List α):Prop:=(∀a,(c a).length=w)/\SR h n w v l.length (l.flatMap c)
section
variable {h:AH} {n w:Nat} {v:AV} {α:Type} {c:α->List AV} {l:List α} {h':AH} {n':Nat}
theorem SL.up(s:SL h n w v c l)(u:Up h n h' n'):SL h' n' w v c l:=⟨s.1,s.2.up u⟩
theorem SL.len(s:SL h n w v c l):Jl (some v)=some (.i .i64 (l.length:Nat)):=Al s.2.len
theorem SL.cl(s:SL h n w v c l):qI v=some [v]:=s.2.cl
theorem SL.of{x t m:Nat}{cells:List AV}{cap:Option Nat}{lo:Nat}(hw:∀a,(c a).length=w)(hx:x<n)(hg:h.get x=some (.row t cells))(hc:cells=l.flatMap c)(hm:m=l.length)(hk:∀k,cap=some k->m<=k):SL h n w (.sl x lo 0 m cap) c l:=by
 subst hc;subst hm;have hl:(l.flatMap c).length=l.length*w:=by
  clear hg hk;induction l with
  |nil=>simp
  |cons a l ih=>rw[List.flatMap_cons,List.length_append,hw,ih,List.length_cons,Nat.succ_mul];omega
 exact⟨hw,.inr (.inl ⟨x,lo,0,cap,rfl,hx,by rw[hg];exact .of (m:=(l.flatMap c).length) (by omega) (by rw[List.drop_zero,List.take_length]),hl,hk⟩)⟩
theorem SL.take(s:SL h n w v c l){i:Nat}(h0:0<l.length)(hi:i<=l.length):∃y,XD w (some v) (some none) (some (some (i:Nat)))=some y/\SL h n w y c (l.take i):=by
 obtain⟨hw,s⟩:=s;rcases s with⟨_,e,_⟩|⟨x,lo,o,cp,rfl,e2,e3,e4,e6⟩|⟨_,_,_,e,_⟩
 rotate_left 2
 .omega
 .omega
 have hc:(l.flatMap c).take (i*w)=(l.take i).flatMap c:=by
  clear e6 e4 e3 h0;induction l generalizing i with
  |nil=>simp
  |cons a l ih=>
   cases i with
   |zero=>simp
   |succ i=>
    rw[List.take_succ_cons,List.flatMap_cons,List.flatMap_cons,Nat.succ_mul,Nat.add_comm (i*w) w,List.take_append,hw];rw[List.take_of_length_le (by rw[hw];omega),show w+i*w - w=i*w by omega];rw[ih (by simpa using hi)]
 have e3':=e3.take (i*w);rw[hc]at e3';have hm:i*w<=l.length*w:=Nat.mul_le_mul_right w hi;have e4':((l.take i).flatMap c).length=(l.take i).length*w:=by rw[<-hc,List.length_take,List.length_take,e4,Nat.min_eq_left hm,Nat.min_eq_left hi]
 cases cp with
 |none=>
  refine⟨.sl x lo o i none,?_,hw,.inr (.inl ⟨x,lo,o,none,?_,e2,e3',e4',λk hk=>by cases hk⟩)⟩
  .show bc (Nat.ble 0 i) (bc (Nat.ble i l.length) (bc (Nat.beq 0 0) (some (AV.sl x lo o i none)) _) none) none=_
   rw[Nat.ble_eq_true_of_le (Nat.zero_le _),bD,Nat.ble_eq_true_of_le hi,bD];rfl
  .rw[List.length_take,Nat.min_eq_left hi]
 |some k=>
  have hk:=e6 k rfl;refine⟨.sl x 0 o i (some k),?_,hw,.inr (.inl ⟨x,0,o,some k,?_,e2,e3',e4',λk' hk'=>by cases hk';rw[List.length_take];omega⟩)⟩
  .show bc (Nat.ble 0 i) (bc (Nat.ble i k) (some (AV.sl x 0 (bc (Nat.beq k 0) o (Nat.add o (Nat.mul 0 w))) (Nat.sub i 0) (some (Nat.sub k 0)))) none) none=_
   rw[Nat.ble_eq_true_of_le (Nat.zero_le _),bD,Nat.ble_eq_true_of_le (by omega:i<=k),bD];have:bc (Nat.beq k 0) o (Nat.add o (Nat.mul 0 w))=o:=by
    have e:Nat.add o (Nat.mul 0 w)=o:=by show o+0*w=o;omega
    rw[e];cases Nat.beq k 0<;>rfl
   rw[this];rfl
  .rw[List.length_take,Nat.min_eq_left hi]
theorem SL.nil(hw:∀a,(c a).length=w):SL h n w (.k 1) c []:=⟨hw,.inl ⟨rfl,rfl,rfl⟩⟩
end
structure RD(h:AH)(b o w:Nat)(cs:List AV):Prop where
 el:∀j,j<w->qX (h.get b) (o+j) none=nv cs j
 hd:qX (h.get b) o none=nv cs 0
 all:qX (h.get b) o (some w)=some (.agg cs)
 pre':∀k,k<=w->qX (h.get b) o (some k)=some (.agg (cs.take k))
theorem SL.rd{h:AH}{n w:Nat}{v:AV}{α:Type}{c:α->List AV}{l:List α}(s:SL h n w v c l){i:Nat}{a:α}(hi:l[i]?=some a)(hw:0<w){b o:Nat}
 (q1:∀j,j<w->qX (h.get b) (o+j) none=(l.flatMap c)[i*w+j]?)(q2:∀m,m<=w->qX (h.get b) o (some m)=some (.agg (((l.flatMap c).drop (i*w)).take m))):RD h b o w (c a):=by
 have q0:∀j,j<w->qX (h.get b) (o+j) none=nv (c a) j:=λj hj=>by rw[q1 j hj,vG s.1 hi hj,qZ]
 exact⟨q0,q0 0 hw,by rw[q2 w (Nat.le_refl _),nA s.1 hi],λk hk=>by rw[q2 k hk,<-nA s.1 hi,List.take_take,Nat.min_eq_left hk]⟩
theorem FD{α:Type}{l:List α}{k:Int}(h0:0<=k)(h1:k<l.length):∃a,l[k.toNat]?=some a:=⟨l[k.toNat],List.getElem?_eq_some_iff.2 ⟨by omega,rfl⟩⟩
theorem gZ{S:SK}{h0 h:AH}{n0 n w:Nat}{v:AV}{α:Type}{c:α->List AV}{l:List α}{d:MD}{r:List MR}{l':List AV}{s:List It}{f:FT}{F:Fm}{Q:PQ}(hs:SL h0 n0 w v c l){k:Int}(h1:0<=k)(h2:k<l.length)(hw:0<w)
 (q:∀b o a,l[k.toNat]?=some a->b<n0->RD h0 b o w (c a)->mP S d (.p b o) r l' s f h n F Q):RQ S w (some v) (some (.i .i64 k)) d r l' s f h n F Q:=by
 obtain⟨a,ha⟩:=FD h1 h2;obtain⟨i,rfl⟩:=Int.eq_ofNat_of_zero_le h1;exact show IA w v i λp=>mP S d p r l' s f h n F Q from hs.2.ia (Up.refl _ _) rfl (by simpa using h2) λb o h3 h4 h5=>q b o a ha h3 (hs.rd ha hw h4 h5)
theorem SL.gD{h:AH}{n w:Nat}{v:AV}{α:Type}{c:α->List AV}{l:List α}(hs:SL h n w v c l){k:Int}(h1:0<=k)(h2:k<l.length)(hw:0<w):
 ∃b o a,gD w (some v) (some (.i .i64 k))=some (.p b o)/\l[k.toNat]?=some a/\b<n/\RD h b o w (c a):=by
 obtain⟨a,ha⟩:=FD h1 h2;obtain⟨i,rfl⟩:=Int.eq_ofNat_of_zero_le h1;rcases hs.2 with⟨_,e,_⟩|⟨x,lo,o,cp,rfl,e2,e3,e4,e6⟩|⟨_,_,_,e,_⟩
 rotate_left 2
 .omega
 .omega
 have key:IA w (.sl x lo o l.length cp) (i:Nat) λp=>∃b o',p= .p b o'/\l[i]?=some a/\b<n/\RD h b o' w (c a):=hs.2.ia (Up.refl _ _) rfl (by simpa using h2) λb o h3 h4 h5=>⟨b,o,rfl,ha,h3,hs.rd ha hw h4 h5⟩;obtain⟨b',lo',o',m,cp',q1,q2,q3,b2,o2,q4,q5,q6,q7⟩:=key;cases q1
 cases q4
 refine⟨x,_,a,?_,ha,e2,q7⟩;show(if 0<=(i:Int)/\(i:Int)<(l.length:Nat)then some (AV.p x (o+(i:Int).toNat*w))else none)=_;rw[if_pos ⟨h1,h2⟩]
def Ao(h:AH)(n:Nat)(v:AV)(l:List aF)(ss:List AV):Prop:=ss.length=l.length/\SR h n 16 v l.length ((l.zip ss).flatMap λp=>p.1.av p.2)/\∀(i:Nat)(k:aF)(t:AV),l[i]?=some k->ss[i]?=some t->SL h n 2 t bN.av k.start
structure aY(h:AH)(n:Nat)(v:CS)(C:aA):Prop where
 ah:SL h n 1 v.h (λx:Int=>[AV.i .i64 x]) C.ah
 units:SL h n 5 v.u dB.av C.units
 acts:SL h n 7 v.a dh.av C.acts
 clauses:∃ss,Ao h n v.k C.clauses ss
 off:SL h n 1 v.o (λx:Int=>[AV.i .i64 x]) C.off
structure bX(h:AH)(n:Nat)(v:TS)(s:aH):Prop where
 ah:SL h n 1 v.h (λx:Int=>[AV.i .i64 x]) s.ah
 used:SL h n 1 v.u (λx:Bool=>[AV.b x]) s.used
 marks:SL h n 5 v.m au.av s.marks
section
variable {h:AH} {n:Nat} {h':AH} {n':Nat}
theorem aY.up{v:CS}{C:aA}(s:aY h n v C)(u:Up h n h' n'):aY h' n' v C:=by
 refine⟨s.ah.up u,s.units.up u,s.acts.up u,?_,s.off.up u⟩;obtain⟨ss,h1,h2,h3⟩:=s.clauses;exact⟨ss,h1,h2.up u,λi k t a b=>(h3 i k t a b).up u⟩
theorem bX.up{v:TS}{s:aH}(a:bX h n v s)(u:Up h n h' n'):bX h' n' v s:=⟨a.ah.up u,a.used.up u,a.marks.up u⟩
theorem aY.lk{v:CS}{C:aA}(s:aY h n v C):Jl (some v.k)=some (.i .i64 (C.clauses.length:Nat)):=by
 obtain⟨ss,h1,h2,h3⟩:=s.clauses;exact Al h2.len
end
theorem nH{S:SK}{h0 h:AH}{n0 n:Nat}{v:CS}{C:aA}{d:MD}{r:List MR}{l':List AV}{s:List It}{f:FT}{F:Fm}{Q:PQ}(hs:aY h0 n0 v C){k:Int}(h1:0<=k)(h2:k<C.clauses.length)
 (q:∀b o a t,C.clauses[k.toNat]?=some a->b<n0->SL h0 n0 2 t bN.av a.start->RD h0 b o 16 (a.av t)->mP S d (.p b o) r l' s f h n F Q):RQ S 16 (some v.k) (some (.i .i64 k)) d r l' s f h n F Q:=by
 obtain⟨ss,e1,e2,e3⟩:=hs.clauses;obtain⟨a,ha⟩:=FD h1 h2;obtain⟨i,rfl⟩:=Int.eq_ofNat_of_zero_le h1;have hi:i<C.clauses.length:=by simpa using h2
 obtain⟨t,ht⟩:∃t,ss[i]?=some t:=⟨ss[i],List.getElem?_eq_some_iff.2 ⟨by omega,rfl⟩⟩;have hz:(C.clauses.zip ss)[i]?=some (a,t):=by rw[List.getElem?_zip_eq_some];exact⟨ha,ht⟩
 have hl:(C.clauses.zip ss).length=C.clauses.length:=by simp[e1]
 exact show IA 16 v.k i λp=>mP S d p r l' s f h n F Q from e2.ia (Up.refl _ _) rfl hi λb o h3 h4 h5=>q b o a t ha h3 (e3 i a t ha ht) (SL.rd (c:=λp:aF×AV=>p.1.av p.2) (l:=C.clauses.zip ss) ⟨λ_=>rfl,by rw[hl];exact e2⟩ hz (by omega) h4 h5)
section
variable {P:Program} {Y:YT} {S:SK} {b w:Bool} {i:MI} {d:MD} {r:List MR} {l:List AV} {s:List It} {f:FT} {h:AH} {n:Nat} {F:Fm} {Q:PQ}
theorem xG{x y:MC}(h1:b=true->kB S (some (.b b)) x y s f h n F Q)(h2:b=false->kB S (some (.b b)) x y s f h n F Q):kB S (some (.b b)) x y s f h n F Q:=by
 cases hb:b with
 |true=>subst hb;exact h1 rfl
 |false=>subst hb;exact h2 rfl
end
class yZ (b:Bool) (p q:outParam Prop):Prop where
 ok:(b=true->p)/\(b=false->q)
instance (priority:=low) bcA (b:Bool):yZ b (b=true) (b=false):=⟨id,id⟩
instance bcD (p:Prop) [Decidable p]:yZ (decide p) p (¬p):=⟨of_decide_eq_true,of_decide_eq_false⟩
instance bcN (b:Bool) (p q:Prop) [yZ b p q]:yZ (!b) q p:=⟨λh=>yZ.ok.2 (by simpa using h),λh=>yZ.ok.1 (by simpa using h)⟩
class tZ (G:Prop) (b:outParam Bool):Prop where
 ok:(b=true->G)->(b=false->G)->G
theorem aT{G p q:Prop}{b:Bool}[g:tZ G b][c:yZ b p q](h1:b=true->p->G)(h2:b=false->q->G):G:=g.ok (λh=>h1 h (c.ok.1 h)) λh=>h2 h (c.ok.2 h)
section
variable {P:Program} {Y:YT} {S:SK} {b w:Bool} {i:MI} {d:MD} {r:List MR} {l:List AV} {s:List It} {f:FT} {h:AH} {n:Nat} {F:Fm} {Q:PQ}
theorem tZ.of{b:Bool}(G:Prop):tZ G b:=⟨λh1 h2=>by cases b with|true=>exact h1 rfl|false=>exact h2 rfl⟩
instance:tZ (kW P Y S (some (.b b)) w i d r l s f h n F Q) b:=.of _
instance {x y:MC}:tZ (kB S (some (.b b)) x y s f h n F Q) b:=.of _
instance {x y:Option AV}:tZ (kS S (wF (some (.b b)) x y) d r l s f h n F Q) b:=.of _
variable {D:DK} {l':List MQ} {j r' n0:Nat} {vs u:List AV} {hs:List (Nat×AH)}
instance {x:Option AV}:tZ (dV D (T9 (RX w (some (.b b))) x) l' j r' n0 f h n vs hs F) b:=.of _
instance {x y:Option AV}:tZ (dV D (wF (some (.b b)) x y) l' j r' n0 f h n vs hs F) b:=.of _
instance:tZ (dG P Y D (RX w (some (.b b))) i u l' j r' n0 f h n vs hs F) b:=.of _
end
theorem aU{Y:YT}{S:SK}{q:FuncId}{c:List AV}{d:MD}{r:List MR}{l:List AV}{s:List It}{f:FT}{h:AH}{n:Nat}{F:Fm}{Q:PQ}:kF Y S (some (.f q [])) (some c) d r l s f h n F Q=CW f q c h n λv h n=>mP S d v r l s f h n F Q:=by rw[Fu,List.append_nil]
theorem bR{Y:YT}{D:DK}{q:FuncId}{c:List AV}{l:List MQ}{j r n0:Nat}{f:FT}{h:AH}{n:Nat}{vs:List AV}{hs:List (Nat×AH)}{F:Fm}:dF Y D (some (.f q [])) (some c) l j r n0 f h n vs hs F=CW f q c h n λv h n=>D l (j+1) r n0 f h n (v::vs) ((j+1,h)::hs) F:=by rw[vI,List.append_nil]
theorem f_{h:AH}{n:Nat}{m x:Bool}{Q:AV->AH->Nat->Prop}(hQ:∀h' n',Up h n h' n'->Q (.b m) h' n'){h1:AH}{n1:Nat}(u:Up h n h1 n1)(e1:x=true->m=true)(e2:x=false->m=false):Q (.b x) h1 n1:=by
 have e:m=x:=by cases x with|true=>exact e1 rfl|false=>exact e2 rfl
 subst e;exact hQ _ _ u
theorem ieq(a b:Int):(a==b)=decide (a=b):=by by_cases h:a=b<;>simp[h]
theorem bW{h:AH}{n:Nat}{m x:Bool}{Q:AV->AH->Nat->Prop}(hQ:∀h' n',Up h n h' n'->Q (.b m) h' n'){h1:AH}{n1:Nat}(e:m=x)(u:Up h n h1 n1):Q (.b x) h1 n1:=by subst e;exact hQ _ _ u
section
variable {P:Program} {ty:TypeId} {a b:Int}
@[go_sem] theorem Yj:(dY P ty .eql).run (.i .u64 a) (.i .u64 b)=some (.b (decide (a=b))):=by
 show bc true (some (AV.b (fM a b))) none=_;rw[bD,cK]
@[go_sem] theorem Yk:(dY P ty .neq).run (.i .u64 a) (.i .u64 b)=some (.b (!decide (a=b))):=by
 show bc true (some (AV.b (p9 (fM a b)))) none=_;rw[bD,ji,cK]
@[go_sem] theorem Yl:(dY P ty .add).run (.i .u64 a) (.i .u64 b)=some (.i .u64 (gK .u64 (a+b))):=rfl
def Uc(k:IntKind)(a b:Int):Option AV:=if b=0 then none else some (.i k (Int.tmod a b))
theorem PW{k:IntKind}{a b:Int}(h:b≠0):Uc k a b=some (.i k (Int.tmod a b)):=if_neg h
@[go_sem] theorem Ym:(dY P ty .rem).run (.i .u64 a) (.i .u64 b)=Uc .u64 a b:=by
 show bc true (bc (fM b 0) none (some (AV.i .u64 (Int.tmod a b)))) none=_;rw[bD,cK];unfold Uc;by_cases h:b=0<;>simp[h,bc]
@[go_sem] theorem Yn {x y:List UInt8}:(dY P ty .eql).run (.s x) (.s y)=some (.b (decide (x=y))):=by
 show some (AV.b (bc false (p9 (qJ x y)) (qJ x y)))=_;rw[fU,iV];by_cases h:x=y<;>simp[h]
@[go_sem] theorem Yo {x y:List UInt8}:(dY P ty .neq).run (.s x) (.s y)=some (.b (!decide (x=y))):=by
 show some (AV.b (bc true (p9 (qJ x y)) (qJ x y)))=_;rw[bD,iV,ji];by_cases h:x=y<;>simp[h]
theorem t_{x:Int}(h1:0<=x)(h2:x<=18446744073709551615):gK .u64 x=x:=by
 unfold gK;rw[eP,eP,show IntKind.u64.min=0 from by decide,show IntKind.u64.max=18446744073709551615 from by decide];simp[h1,h2,bc]
end
def RgI(R:Nat->Prop)(hb:AH)(nb:Nat)(G0:Nat->Fm):Nat->AH->Nat->Fm->Prop:=λk h n G=>R k/\Up hb nb h n/\G=G0 k
section
variable {P:Program} {Y:YT} {g:FuncId} {f:FT} {R:Nat->Prop} {hb:AH} {nb:Nat} {G0:Nat->Fm} {k i L N B1:Nat} {s:List It} {Q:PQ} {h:AH} {n:Nat} {F:Fm}
@[go_sem ↓] theorem ahW {I:Nat->AH->Nat->Fm->Prop} {j:Nat}:RY P Y g I k i L N B1 s f Q (.exit j) h n F=if j=B1 then RY P Y g I k i L N B1 s f Q .bT h n F else sK P Y g 100000 s (.exit j) f h n F Q:=bC rfl
@[go_sem ↓] theorem ahX {I:Nat->AH->Nat->Fm->Prop}:RY P Y g I k i L N B1 s f Q .ret h n F=sK P Y g 100000 s .ret f h n F Q:=bC rfl
theorem iB(h1:lk F i=some (.i .i64 (k:Nat)))(h2:lk F L=some (.i .i64 (N:Nat)))(h3:R (k+1))(h4:Up hb nb h n)(h5:∀m v,lk (G0 (k+1)) m=some v->lk F m=some v):RY P Y g (RgI R hb nb G0) k i L N B1 s f Q .bT h n F:=
 ⟨h1,h2,_,⟨h3,h4,rfl⟩,h5⟩
theorem gI{ty c B:Nat}{body:MC}(N:Nat)(R:Nat->Prop)(hb:AH)(nb:Nat)(G0:Nat->Fm)(hN:N<=1125899906842623)(hic:i≠c)(hLc:L≠c)(hiL:i≠L)
 (hfr:∀k,lk (G0 k) c=none/\lk (G0 k) i=none)(e1:lk F i=some (.i .i64 0))(e2:lk F L=some (.i .i64 (N:Nat)))(e3:∀m v,lk (G0 0) m=some v->lk F m=some v)(u:Up hb nb h n)(r0:R 0)
 (step:∀k h n,k<N->R k->Up hb nb h n->sK P Y g 100000 [.c body] .bT f h n (pt (pt (G0 k) L (.i .i64 (N:Nat))) i (.i .i64 (k:Nat))) (RY P Y g (RgI R hb nb G0) k i L N B1 s f Q))
 (fin:∀h n,R N->Up hb nb h n->sK P Y g 100000 s (.exit B) f h n (G0 N) Q):SM P Y g (.c (zW ty i L c B B1 body)::s) .bT f h n F Q:=
 b_ N (RgI R hb nb G0) hN hic hLc hiL (λk h n G ⟨_,_,e⟩=>by subst e;exact hfr k) ⟨e1,e2,G0 0,⟨r0,u,rfl⟩,e3⟩
  (λk h n G hk ⟨hr,hu,e⟩=>by subst e;exact step k h n hk hr hu) (λh n G ⟨hr,hu,e⟩=>by subst e;exact fin h n hr hu)
end
end
end
noncomputable section
section
variable {h:AH} {n w:Nat} {v:AV} {α:Type} {c:α->List AV} {l:List α}
theorem SR.src{len:Nat}{cells:List AV}(s:SR h n w v len cells):iZ h w len v=some cells/\lM v=some len:=by
 rcases s with⟨rfl,rfl,rfl⟩|⟨x,lo,o,cp,rfl,e2,e3,e4,e6⟩|⟨a,c,rfl,rfl,rfl⟩
 rotate_left 2
 .exact⟨rfl,rfl⟩
 .exact⟨rfl,rfl⟩
 .refine⟨?_,rfl⟩
  show bnd (iD (h.get x) o (len*w)) (λl=>mO (len*w) l)=_;rw[<-e4];exact e3.cut
theorem SL.src(s:SL h n w v c l):iZ h w l.length v=some (l.flatMap c)/\lM v=some l.length:=s.2.src
end
end
end Go.Proofs.YtjoohkjmoghmoaaGreatDoor

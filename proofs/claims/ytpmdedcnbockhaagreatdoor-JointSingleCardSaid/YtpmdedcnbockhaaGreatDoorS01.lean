/- part -/
import Derived.Test.YtpmdedcnbockhaaGreatDoorS00
set_option maxRecDepth 100000
set_option maxHeartbeats 8000000
namespace Go.Proofs.YtpmdedcnbockhaaGreatDoor
section
open Go.RowKit Tryz
theorem SY{k:IntKind}{a b:Int}(h:a=b):Ending.returned (.int k a)= .returned (.int k b):=by rw[h]
theorem Xa{a b:Bool}(h:a=b):Ending.returned (.bool a)= .returned (.bool b):=by rw[h]
theorem z8(n:Int)(w:World)(h1: -1000000000000<=n)(h2:n<=1000000000000):Calls prog 159 #[.int .i64 n] w (Ret (.int .u64 (n.natAbs:Int)) w):=by
 by_cases h:n<0
 .go_enter func159,ntmps159
  go_wp2;go_ret;refine⟨?_,rfl⟩;exact SY (by omega)
 .go_enter func159,ntmps159
  go_wp2;go_ret;refine⟨?_,rfl⟩;exact SY (by omega)
theorem ER{l:List Nat}{k x:Nat}(hx:l[k]?=some x):(l.take (k+1)).foldl Nat.gcd 0=Nat.gcd ((l.take k).foldl Nat.gcd 0) x:=by
 obtain⟨hk,rfl⟩:=bB.1 hx;rw[List.take_succ_eq_append_getElem hk,uG];rfl
def Z4(l:List Nat):List Value:=l.map (λx:Nat=>Value.int .u64 (x:Int))
theorem Nq(A:Option Addr)(c:Nat)(l:List Nat)(w:World)(hl:∀x∈l,x<18446744073709551616)(hn:l.length<=1000)(hs:Src w 1 A l.length (Z4 l)):
 Calls prog 158 #[.slice A l.length c] w (dZ (.int .u64 ((l.foldl Nat.gcd 0:Nat):Int)) w):=by
 have HS:=ah hs;clear hs;have HL:=ah hl;clear hl;go_enter func158,ntmps158;go_wp2
 go_loopg [3,8] l.length (λgk v3 v8 wr=>∃(k g nq:Nat),gk=l.length - k/\k<=l.length/\v8= .int .i64 k/\v3= .int .u64 (g:Int)/\g<18446744073709551616/\Hid (g=(l.take k).foldl Nat.gcd 0)/\wr=w.drewN nq)
 case atStart=>exact⟨0,0,0,rfl,aU _,rfl,rfl,by omega,rfl,rfl⟩
 case round=>
  obtain⟨k,g,nq,eO,hk,rfl,rfl,hg,HG,rfl⟩:=hrel;have iw:=ah eO;clear eO;by_cases hlt:k<l.length
  .obtain⟨b,off,rfl,hbl,hcell⟩:=HS.out.form (by omega) (by omega)
   obtain⟨x,hx⟩:∃x,l[k]?=some x:=⟨l[k],aS hlt⟩;have hxb:=HL.out x (cK hx);have k0:w.cell? ⟨b,off+k,none⟩=some (.int .u64 (x:Int)):=by rw[hcell _ (by omega)];simp[Z4,hx]
   have HC:=ah hcell;clear hcell;have HX:=ah hx;clear hx;have j1:(k:Int)<(l.length:Int):=by omega
   go_wp2
   go_loopg [3,5] x (λgk2 v3 v5 wr=>∃(g' n' nq':Nat),gk2=n'/\v3= .int .u64 (g':Int)/\v5= .int .u64 (n':Int)/\g'<18446744073709551616/\n'<18446744073709551616/\Hid (Nat.gcd g' n'=Nat.gcd g x)/\wr=w.drewN nq')
   case atStart=>exact⟨g,x,nq,rfl,rfl,rfl,hg,hxb,rfl,rfl⟩
   case round=>
    obtain⟨g',n',nq',Nr,rfl,rfl,hg',hn',HGC,rfl⟩:=hrel;have ES:=ah Nr;clear Nr;by_cases h0:n'=0
    .subst h0
     go_wp2
     go_roundg (l.length - (k+1))
     case measure=>rw[iw.out];omega
     case rel=>exact⟨k+1,g',nq',rfl,by omega,by go_num,rfl,hg',by
      show _=_;rw[ER HX.out,<-HG.out,<-HGC.out,Nat.gcd_zero_right],rfl⟩
    .have hne:((n':Int)!=0)=true:=by simp;omega
     have hne2:¬(n':Int)=0:=by omega
     go_wp2
     go_quiet (fail)
     go_wp2
     go_roundg (g' % n')
     case measure=>rw[ES.out];exact Nat.mod_lt _ (by omega)
     case rel=>exact⟨n',g' % n',_,rfl,rfl,by go_num,hn',Nat.lt_trans (Nat.mod_lt _ (by omega)) hn',by
      show _=_;rw[<-HGC.out,Nat.gcd_comm g' n',Nat.gcd_rec n' g',Nat.gcd_comm],World.drewN_drewN _ _ _⟩
  .obtain rfl:k=l.length:=by omega
   go_wp2;go_ret;rw[HG.out,zY (bJ _)];exact⟨rfl,below_drewN _ _⟩
def dz.ok(r:dz):Bool:=decide (1<=r.den)&&decide (r.den<=1000000)&&decide (-1000000000000<=r.num)&&decide (r.num<=1000000000000)&&decide (Nat.gcd r.num.natAbs r.den.natAbs=1)
theorem xg(r:dz)(w:World):Calls prog 134 #[.agg #[.int .i64 r.num,.int .i64 r.den]] w (dZ (.bool r.ok) w):=by
 obtain⟨n,d⟩:=r;simp only;generalize hE:dz.ok ⟨n,d⟩=E;by_cases h1:d<1
 .obtain rfl:E=false:=by rw[<-hE];simp[dz.ok];omega
  clear hE;go_enter func134,ntmps134;go_wp2;go_ret;exact⟨rfl,(aC _ _).alloc (bJ _) _⟩
 by_cases h2:1000000<d
 .obtain rfl:E=false:=by rw[<-hE];simp[dz.ok];omega
  clear hE;go_enter func134,ntmps134;go_wp2;go_ret;exact⟨rfl,(aC _ _).alloc (bJ _) _⟩
 by_cases h3:n< -1000000000000
 .obtain rfl:E=false:=by rw[<-hE];simp[dz.ok];omega
  clear hE;go_enter func134,ntmps134;go_wp2;go_ret;exact⟨rfl,(aC _ _).alloc (bJ _) _⟩
 by_cases h4:1000000000000<n
 .obtain rfl:E=false:=by rw[<-hE];simp[dz.ok];omega
  clear hE;have d4:decide (1000000000000<n)=true:=by simpa using h4
  go_enter func134,ntmps134;go_wp2;go_ret;exact⟨rfl,(aC _ _).alloc (bJ _) _⟩
 have d4:decide (1000000000000<n)=false:=by simpa using h4
 have HE:Hid (E=decide (Nat.gcd n.natAbs d.natAbs=1)):=by
  show _=_;have q1:1<=d:=by omega
  have q2:d<=1000000:=by omega
  have q3: -1000000000000<=n:=by omega
  have q4:n<=1000000000000:=by omega
  rw[<-hE];simp[dz.ok,q1,q2,q3,q4]
 clear hE;have c1:∀W,Calls prog 159 #[.int .i64 n] W (Ret (.int .u64 (n.natAbs:Int)) W):=λW=>z8 n W (by omega) (by omega);have c2:∀W,Calls prog 159 #[.int .i64 d] W (Ret (.int .u64 (d.natAbs:Int)) W):=λW=>z8 d W (by omega) (by omega);have C1:=ah c1;clear c1;have C2:=ah c2;clear c2;generalize hN:n.natAbs=N at*;generalize hD:d.natAbs=D at*;have bN:N<18446744073709551616:=by omega
 have bD:D<18446744073709551616:=by omega
 clear hN hD;have c3:∀W:World,Calls prog 158 #[.slice (some ⟨W.heap.size,0,none⟩) 2 2] (W.alloc (.cells #[.int .u64 (N:Int),.int .u64 (D:Int)] 201)).drew (dZ (.int .u64 (Nat.gcd N D:Int)) (W.alloc (.cells #[.int .u64 (N:Int),.int .u64 (D:Int)] 201)).drew):=λW=>by
  have h:=Nq (some ⟨W.heap.size,0,none⟩) 2 [N,D] (W.alloc (.cells #[.int .u64 (N:Int),.int .u64 (D:Int)] 201)).drew (by simp;omega) (by simp) ⟨rfl,by simp[Z4,Value.oneCell'],λ_=>⟨_,rfl,λj u hu=>by
   rw[Addr.add_lit,pF];show(W.alloc (.cells #[.int .u64 (N:Int),.int .u64 (D:Int)] 201)).cell? _=_;rw[aK _ _ j _ _ _ (bK W _)];simpa [Z4]using hu⟩⟩
  simpa [Nat.gcd_zero_left]using h
 have C3:=ah c3;clear c3;go_enter func134,ntmps134;go_wp2;obtain⟨W,HW⟩:∃W,Hid (W=w.alloc (.cells #[.int .i64 n,.int .i64 d] 107)):=⟨_,rfl⟩;have k0:W.cell? ⟨w.heap.size,0,none⟩=some (.int .i64 n):=by rw[HW.out];go_simp
 have k1:W.cell? ⟨w.heap.size,1,none⟩=some (.int .i64 d):=by rw[HW.out];go_simp
 have HB:Hid (Below w.heap.size w W):=by show Below _ _ _;rw[HW.out];exact(aC _ _).alloc (bJ _) _
 have HZ:Hid (W.heap.size=w.heap.size+1):=by show _=_;rw[HW.out];simp
 have SK:Hid (∀X,Below W.heap.size W X->X.cell? ⟨w.heap.size,0,none⟩=some (.int .i64 n)/\X.cell? ⟨w.heap.size,1,none⟩=some (.int .i64 d)):=λX hX=>⟨(hX.cell (p:=⟨w.heap.size,0,none⟩) (by show w.heap.size<_;rw[HZ.out];omega)).trans k0,(hX.cell (p:=⟨w.heap.size,1,none⟩) (by show w.heap.size<_;rw[HZ.out];omega)).trans k1⟩;rw[<-HW.out]
 go_region_held3 (λX=>X.cell? ⟨w.heap.size,0,none⟩=some (.int .i64 n)/\X.cell? ⟨w.heap.size,1,none⟩=some (.int .i64 d)) (first|exact⟨k0,k1⟩|exact SK.out _ HZ3.out|go_keep) (first
  |(go_at_call_of 159 (Value.int IntKind.i64 n);refine(C1.out _).mono ?_;rintro e z1 ⟨rfl,rfl⟩)
  |(go_at_call_of 159 (Value.int IntKind.i64 d);refine(C2.out _).mono ?_;rintro e z2 ⟨rfl,rfl⟩)
  |(go_at_call 158;refine(C3.out _).mono ?_;rintro e z3 ⟨rfl,hz3⟩;have HZ3:Hid (Below W.heap.size W z3):=(((aC _ W).alloc (bJ _) _).drew).trans (hz3.mono (by simp));clear hz3))
 all_goals
  go_wp2;go_ret;refine⟨Xa ?_,HB.out.trans (HZ3.out.mono HB.out.size)⟩;rw[HE.out,Bool.eq_iff_iff,beq_iff_eq,decide_eq_true_iff];omega
end
section
open Go.RowKit Tryz
def au.role(C:au)(r:Int):Bool:=decide (0<=r)&&decide (r<C.aj.length)
def dz.zero(r:dz):Bool:=(r.num==0)&&(r.den==1)
def dz.plus(r:dz):Bool:=decide (0<r.num)&&r.ok
def au.Km(C:au)(i:Int):Option jy:=if 0<=i then C.acts[i.toNat]? else none
def au.natural(C:au)(i:Int):Bool:=
 match C.Km i with
 |none=>false
 |some a=>(a.kind==1)&&(a.role== -1)
theorem jl(w:World):Calls prog 87 #[] w (dZ (.agg #[.int .i64 0,.int .i64 1]) w):=by
 go_enter func87,ntmps87;go_wp2;exact bodyPost_ret (v:=.agg #[.int .i64 0,.int .i64 1]) (by simp[results,results87,go_sem]) rfl ⟨rfl,(aC _ _).alloc (bJ _) _⟩
theorem xk(v:CV)(C:au)(r:Int)(w:World):Calls prog 89 #[v.val C,.int .i64 r] w (dZ (.bool (C.role r)) w):=by
 unfold CV.val CV.cells;generalize hE:C.role r=E;cases h1:decide (0<=r)with
 |false=>
  obtain rfl:E=false:=by rw[<-hE];simp[au.role,h1]
  clear hE;go_enter func89,ntmps89;go_wp2;go_ret;exact⟨rfl,(aC _ _).alloc (bJ _) _⟩
 |true=>
  cases h2:decide (r<(C.aj.length:Int))with
  |false=>
   obtain rfl:E=false:=by rw[<-hE];simp[au.role,h2]
   clear hE;go_enter func89,ntmps89;go_wp2;go_ret;exact⟨rfl,(aC _ _).alloc (bJ _) _⟩
  |true=>
   obtain rfl:E=true:=by rw[<-hE];simp[au.role,h1,h2]
   clear hE;go_enter func89,ntmps89;go_wp2;go_ret;exact⟨rfl,(aC _ _).alloc (bJ _) _⟩
theorem d9(r:dz)(w:World):Calls prog 88 #[.agg #[.int .i64 r.num,.int .i64 r.den]] w (dZ (.bool r.plus) w):=by
 obtain⟨n,d⟩:=r;simp only;generalize hE:dz.plus ⟨n,d⟩=E;have hc:∀W,Calls prog 134 #[.agg #[.int .i64 n,.int .i64 d]] W (dZ (.bool (dz.ok ⟨n,d⟩)) W):=λW=>xg ⟨n,d⟩ W;have HC:=ah hc;clear hc;cases h1:decide (0<n)with
 |false=>
  obtain rfl:E=false:=by rw[<-hE];simp[dz.plus,h1]
  clear hE;go_enter func88,ntmps88;go_wp2;go_ret;exact⟨rfl,(aC _ _).alloc (bJ _) _⟩
 |true=>
  obtain rfl:E=dz.ok ⟨n,d⟩:=by rw[<-hE];simp[dz.plus,h1]
  clear hE;go_enter func88,ntmps88;go_wp2_with (go_at_call 134;refine(HC.out _).mono ?_;rintro e z1 ⟨rfl,hz1⟩);go_ret;exact⟨rfl,av ((aC _ _).alloc (bJ _) _) hz1⟩
theorem bO.act{w:World}{v:CV}{C:au}(h:bO w v C){i:Nat}{a:jy}(ha:C.acts[i]?=some a):
 ∃b off,v.a.A=some ⟨b,off,none⟩/\b<w.heap.size/\∀W,Below w.heap.size w W->∀j,j<7->W.cell? ⟨b,off+i*7+j,none⟩=a.cells[j]?:=by
 have hi:i<C.acts.length:=(bB.1 ha).1;obtain⟨b,off,hA,hb,hc⟩:=h.acts.1.form (by omega) (by omega);refine⟨b,off,hA,hb,λW hW j hj=>?_⟩;rw[hW.cell (p:=⟨b,off+i*7+j,none⟩) hb,iR,hc _ (by omega)];exact bG _ 7 (λ_=>rfl) C.acts i j a ha hj
theorem Eb(v:CV)(C:au)(i:Int)(w:World)(hC:bO w v C):Calls prog 86 #[v.val C,.int .i64 i] w (dZ (.bool (C.natural i)) w):=by
 unfold CV.val CV.cells;generalize hE:C.natural i=E;have HC:=ah hC;clear hC;by_cases h0:0<=i
 .obtain⟨n,rfl⟩:=Int.eq_ofNat_of_zero_le h0
  by_cases h1:n<C.acts.length
  .obtain⟨a,ha⟩:∃a,C.acts[n]?=some a:=⟨C.acts[n],aS h1⟩
   obtain⟨b,off,hA,hb,hc⟩:=HC.out.act ha;obtain⟨vh,vu,⟨fB,dH⟩,vk,vo⟩:=v;simp only at hA;subst hA;have k0:w.cell? ⟨b,off+n*7,none⟩=some (.int .i64 a.kind):=hc w (aC _ _) 0 (by omega);have k1:w.cell? ⟨b,off+n*7+1,none⟩=some (.int .i64 a.role):=hc w (aC _ _) 1 (by omega);clear hc;have hEE:E=((a.kind==1)&&(a.role== -1)):=by rw[<-hE];simp[au.natural,au.Km,ha]
   clear hE;have HA:=ah ha;clear ha;have i1:(n:Int)<(C.acts.length:Int):=by omega
   cases q1:(a.kind==1)with
   |false=>
    obtain rfl:E=false:=by rw[hEE];simp[q1]
    clear hEE;go_enter func86,ntmps86;go_wp2;go_ret;exact⟨rfl,(aC _ _).alloc (bJ _) _⟩
   |true=>
    obtain rfl:E=(a.role== -1):=by rw[hEE];simp[q1]
    clear hEE;go_enter func86,ntmps86;go_wp2;go_ret;exact⟨rfl,(aC _ _).alloc (bJ _) _⟩
  .obtain rfl:E=false:=by
    rw[<-hE];have:C.acts[n]?=none:=mX (by omega);simp[au.natural,au.Km,this]
   clear hE;have d1:decide ((n:Int)<(C.acts.length:Int))=false:=by simp;omega
   go_enter func86,ntmps86;go_wp2;go_ret;exact⟨rfl,(aC _ _).alloc (bJ _) _⟩
 .obtain rfl:E=false:=by rw[<-hE];simp[au.natural,au.Km,h0]
  clear hE;have d1:decide (0<=i)=false:=by simpa using h0
  go_enter func86,ntmps86;go_wp2;go_ret;exact⟨rfl,(aC _ _).alloc (bJ _) _⟩
end
section
open Go.RowKit Tryz
theorem dB{f:FuncId}{a:Array Value}{W0:World}{s:Bl W0}{b c:Bool}{K:Ending->World->Prop}(h:Calls prog f a s.val (dZ (.bool b) s.val))(e:b=c)(hk:∀z:Bl W0,K (.returned (.bool c)) z.val):Calls prog f a s.val K:=by
 subst e;refine h.mono ?_;rintro e z ⟨rfl,hz⟩;obtain⟨z,rfl⟩:=Bl.on hz;exact hk z
theorem z_(w:World)(n d:Int):(binOp .eql 107 (.agg #[.int .i64 n,.int .i64 d]) (.agg #[.int .i64 0,.int .i64 1])).run prog w= .ok (.bool (dz.zero ⟨n,d⟩)) w:=by
 rw[run_eql_struct];go_simp;unfold dz.zero;by_cases h1:n=0<;>by_cases h2:d=1<;>simp[h1,h2]
def Ao(C:au)(ki ro gi tg un ln ld:Int):Bool:=(cond (!(C.role ro)) ((ki==1)&&((ro== -1)&&((gi==0)&&(((tg== -1)||(C.role tg))&&((un== -1)&&(dz.zero ⟨ln,ld⟩)))))) (cond (ki==1) (cond ((!(gi==0))||((!(tg== -1))&&(!(C.role tg)))) false (cond (un== -1) (dz.zero ⟨ln,ld⟩) (decide (0<=un)&&(decide (un<(C.units.length:Int))&&(dz.plus ⟨ln,ld⟩))))) (cond ((ki==2)||(ki==3)) ((C.role gi)&&(decide (0<=tg)&&(decide (tg<C.aF)&&((un== -1)&&(dz.zero ⟨ln,ld⟩))))) false)))
theorem Ld(v:CV)(C:au)(ki ro gi tg un ln ld:Int)(w:World):Calls prog 84 #[v.val C,.agg #[.int .i64 ki,.int .i64 ro,.int .i64 gi,.int .i64 tg,.int .i64 un,.int .i64 ln,.int .i64 ld]] w (dZ (.bool (Ao C ki ro gi tg un ln ld)) w):=by
 obtain⟨⟨dV,dW⟩,⟨dX,dY⟩,⟨fB,dH⟩,⟨eZ,dM⟩,⟨dQ,dR⟩⟩:=v;simp only[CV.val,CV.cells];have HM:=ah (λ(r:Int)(W:World)=>xk (⟨⟨dV,dW⟩,⟨dX,dY⟩,⟨fB,dH⟩,⟨eZ,dM⟩,⟨dQ,dR⟩⟩:CV) C r W);simp only[CV.val,CV.cells]at HM;have heq:=λ(w:World)=>z_ w ln ld;rw[iW (Ao C ki ro gi tg un ln ld)];generalize hE:cond (Ao C ki ro gi tg un ln ld) true false=E;simp only[Ao,Na]at hE;go_enter func84,ntmps84;go_upto_region 1 with(fail)
 generalize hW0:World.alloc _ _=W0;obtain⟨HB,hh0,gG⟩:=F5 hW0;clear hW0;obtain⟨iC,iD,iI,iy,iP,jc,jA⟩:=CS hh0;clear hh0;obtain⟨jM,jY,qO,tV,Xb,Z7,acB⟩:=CS gG;clear gG;change Code.wp _ _ _ _ (Bl.val (⟨W0,aC _ _⟩:Bl W0));generalize(⟨W0,aC _ _⟩:Bl W0)=s0;repeat' (first|(replace hE:=uI hE (by assumption))|(replace hE:=uJ hE (by assumption))|(replace hE:=mP hE;rcases hE with⟨q,q',hE⟩|⟨q,q',hE⟩)|(replace hE:=jL hE;rcases hE with⟨q,hE⟩|⟨q,hE⟩)|fail)
 all_goals
  subst hE;go_wp2_with (first|(go_at_call 89;refine dB (HM.out _ _) (by assumption) (λz=>?_))|(go_at_call 87;refine(jl _).mono ?_;rintro e z ⟨rfl,hz⟩;obtain⟨z,rfl⟩:=Bl.on hz;clear hz)|(go_at_call 88;refine dB (d9 ⟨ln,ld⟩ _) (by assumption) (λz=>?_)));first
   |(go_ret;exact⟨rfl,av HB.out (Bl.prop _)⟩)
   |(refine aI ?_;(repeat(go_big_quiet_step (first|(go_at_call 89;exact Calls.dw (lit (HM.out _ _) (by assumption)))|(go_at_call 87;exact Calls.dw (jl _))|(go_at_call 88;exact Calls.dw (lit (d9 ⟨ln,ld⟩ _) (by assumption))))));refine aY ?_;rintro _ ⟨zq,rfl⟩;go_wp2;go_ret;exact⟨rfl,av HB.out (Bl.prop _)⟩)
def m_(C:au)(ki ro ac ne gr:Int)(fi:Bool):Bool:=(cond (ki==4) ((ro== -1)&&((ne==1)&&((gr==0)&&(!fi)))) (cond ((!(C.role ro))||(C.natural ac)) false (cond (ki==1) (decide (1<=ne)&&(decide (ne<=9)&&(decide (0<=gr)&&decide (gr<=400)))) (cond (ki==2) ((ne==1)&&(gr==0)) (cond (ki==3) ((ne==1)&&((gr==0)&&(!fi))) false)))))
theorem Jw(v:CV)(C:au)(ki ro ac ne:Int)(st:SV)(sl:Nat)(af gr:Int)(bu fi:Bool)(pa re vn vd un tg:Int)(wa:Bool)(w:World)(hC:bO w v C):Calls prog 85 #[v.val C,.agg #[.int .i64 ki,.int .i64 ro,.int .i64 ac,.int .i64 ne,.slice st.A sl st.c,.int .i64 af,.int .i64 gr,.bool bu,.bool fi,.int .i64 pa,.int .i64 re,.int .i64 vn,.int .i64 vd,.int .i64 un,.int .i64 tg,.bool wa]] w (dZ (.bool (m_ C ki ro ac ne gr fi)) w):=by
 obtain⟨⟨dV,dW⟩,⟨dX,dY⟩,⟨fB,dH⟩,⟨eZ,dM⟩,⟨dQ,dR⟩⟩:=v;simp only[CV.val,CV.cells];have HC:=ah hC;clear hC;have HM:=ah (λ(r:Int)(W:World)=>xk (⟨⟨dV,dW⟩,⟨dX,dY⟩,⟨fB,dH⟩,⟨eZ,dM⟩,⟨dQ,dR⟩⟩:CV) C r W);simp only[CV.val,CV.cells]at HM;rw[iW (m_ C ki ro ac ne gr fi)];generalize hE:cond (m_ C ki ro ac ne gr fi) true false=E;simp only[m_,Na]at hE;go_enter func85,ntmps85;go_upto_region 1 with(fail)
 generalize hW0:World.alloc _ _=W0;obtain⟨HB,hh0,gG⟩:=F5 hW0;clear hW0;obtain⟨iC,iD,iI,iy,iP,jc,jA⟩:=CS hh0;clear hh0;obtain⟨jM,jY,qO,tV,Xb,Z7,acB,afK,afL,afM,abF,abG,abH,abI,abJ,abK⟩:=Z0 gG;clear gG;change Code.wp _ _ _ _ (Bl.val (⟨W0,aC _ _⟩:Bl W0));generalize(⟨W0,aC _ _⟩:Bl W0)=s0;have HN:=ah (λ(x:Int)(z:Bl W0)=>Eb (⟨⟨dV,dW⟩,⟨dX,dY⟩,⟨fB,dH⟩,⟨eZ,dM⟩,⟨dQ,dR⟩⟩:CV) C x z.val (HC.out.below (av HB.out z.prop)));simp only[CV.val,CV.cells]at HN;repeat' (first|(replace hE:=uI hE (by assumption))|(replace hE:=uJ hE (by assumption))|(replace hE:=mP hE;rcases hE with⟨q,q',hE⟩|⟨q,q',hE⟩)|(replace hE:=jL hE;rcases hE with⟨q,hE⟩|⟨q,hE⟩)|fail)
 all_goals
  subst hE;go_wp2_with (first|(go_at_call 89;refine dB (HM.out _ _) (by assumption) (λz=>?_))|(go_at_call 86;refine dB (HN.out _ _) (by assumption) (λz=>?_)));first
   |(go_ret;exact⟨rfl,av HB.out (Bl.prop _)⟩)
   |(refine aI ?_;(repeat(go_big_quiet_step (first|(go_at_call 89;exact Calls.dw (lit (HM.out _ _) (by assumption)))|(go_at_call 86;exact Calls.dw (lit (HN.out _ _) (by assumption))))));refine aY ?_;rintro _ ⟨zq,rfl⟩;go_wp2;go_ret;exact⟨rfl,av HB.out (Bl.prop _)⟩)
end
open Go.RowKit Tryz
def sN(C:au)(i:Nat)(cl is:Int):Bool:=((!decide (cl<0))&&((!decide ((C.clauses.length:Int)<=cl))&&((!(cl==(i:Int)))&&((!decide (is<1))&&(!decide (4<is))))))
def ni(C:au)(i:Nat)(l:List iZ):Bool:=l.all (λk=>sN C i k.clause k.is)
def Ec(C:au)(ki ro ac ne gr af:Int)(fi:Bool)(sl:Nat):Bool:=((!decide (ac<0))&&((!decide ((C.acts.length:Int)<=ac))&&((!decide (af<1))&&((!decide (400<af))&&((m_ C ki ro ac ne gr fi)&&(!decide (8<(sl:Int))))))))
def Aa(C:au)(pa re:Int):Bool:=(cond ((!(pa== -1))||(!(re== -1))) ((!(pa==re))&&((C.natural pa)&&(C.natural re))) true)
def au.F6(C:au)(i:Int):Int:=if 0<=i then(C.units[i.toNat]?.map (·.kind)).getD 0 else 0
def F7(C:au)(ki un vn vd tg:Int):Bool:=(cond (un== -1) ((dz.zero ⟨vn,vd⟩)&&(tg== -1)) (((ki==1)||(ki==2))&&(decide (0<=un)&&(decide (un<(C.units.length:Int))&&((C.F6 un==2)&&((dz.plus ⟨vn,vd⟩)&&(C.role tg)))))))
def au.jm(C:au)(i:Nat)(k:aP):Bool:=
 Ec C k.kind k.role k.act k.need k.lY k.after k.final k.start.length&&(ni C i k.start&&(Aa C k.pause k.resume&&F7 C k.kind k.unit k.value.num k.value.den k.tgt))
theorem Le(l:List aP)(ss:List SV){i j:Nat}{k:aP}{t:SV}(hk:l[i]?=some k)(ht:ss[i]?=some t)(hj:j<16):
 ((l.zip ss).flatMap (λp=>p.1.cells p.2))[i*16+j]?=(k.cells t)[j]?:=by
 have h:(l.zip ss)[i]?=some (k,t):=by rw[Kk];exact⟨hk,ht⟩
 exact bG (λp:aP×SV=>p.1.cells p.2) 16 (λ_=>rfl) (l.zip ss) i j (k,t) h hj
theorem bO.clause{w:World}{v:CV}{C:au}(h:bO w v C){i:Nat}{k:aP}(hk:C.clauses[i]?=some k):
 ∃b off st,v.k.A=some ⟨b,off,none⟩/\b<w.heap.size/\(∀W,Below w.heap.size w W->∀j,j<16->W.cell? ⟨b,off+i*16+j,none⟩=(k.cells st)[j]?)/\At w 2 st.A k.start.length st.c (k.start.flatMap iZ.cells):=by
 have hi:i<C.clauses.length:=(bB.1 hk).1;obtain⟨ss,h1,h2,h3⟩:=h.clauses;obtain⟨b,off,hA,hb,hc⟩:=h2.1.form (by omega) (by omega);have ht:ss[i]?=some (ss[i]'(by omega)):=aS _;refine⟨b,off,ss[i]'(by omega),hA,hb,λW hW j hj=>?_,h3 i k _ hk ht⟩;rw[hW.cell (p:=⟨b,off+i*16+j,none⟩) hb,iR,hc _ (by omega)];exact Le C.clauses ss hk ht hj
theorem bO.unit{w:World}{v:CV}{C:au}(h:bO w v C){i:Nat}{a:gH}(ha:C.units[i]?=some a):
 ∃b off,v.u.A=some ⟨b,off,none⟩/\b<w.heap.size/\∀W,Below w.heap.size w W->∀j,j<5->W.cell? ⟨b,off+i*5+j,none⟩=a.cells[j]?:=by
 have hi:i<C.units.length:=(bB.1 ha).1;obtain⟨b,off,hA,hb,hc⟩:=h.units.1.form (by omega) (by omega);refine⟨b,off,hA,hb,λW hW j hj=>?_⟩;rw[hW.cell (p:=⟨b,off+i*5+j,none⟩) hb,iR,hc _ (by omega)];exact bG _ 5 (λ_=>rfl) C.units i j a ha hj
theorem Lf{C:au}{i:Nat}{l:List iZ}{j:Nat}{x:iZ}(hx:l[j]?=some x)(h:ni C i (l.take j)=true)(h2:sN C i x.clause x.is=true):ni C i (l.take (j+1))=true:=by
 obtain⟨hj,rfl⟩:=bB.1 hx;unfold ni at*;rw[List.take_succ_eq_append_getElem hj,List.all_append,h];simpa using h2
theorem Ns{C:au}{i:Nat}{l:List iZ}{j:Nat}{x:iZ}(hx:l[j]?=some x)(h2:sN C i x.clause x.is=false):ni C i l=false:=by
 cases e:ni C i l with
 |false=>rfl
 |true=>
  unfold ni at e;rw[fV.1 e x (cK hx)]at h2;cases h2
theorem uK{C:au}{ki ro ac ne gr af:Int}{fi:Bool}{start:List iZ}(h1:(decide (ac<0)||(decide ((C.acts.length:Int)<=ac)||(decide (af<1)||decide (400<af))))=false)(h2:((!(m_ C ki ro ac ne gr fi))||decide (8<(start.length:Int)))=false):Ec C ki ro ac ne gr af fi start.length=true:=by
 simp only[oh,Bool.not_eq_false']at h1 h2;unfold Ec;rw[h1.1,h1.2.1,h1.2.2.1,h1.2.2.2,h2.1,h2.2];rfl
theorem Uu{C:au}{pa re:Int}(h:((!(pa== -1))||(!(re== -1)))=false):Aa C pa re=true:=by unfold Aa;rw[h];rfl
theorem Uv{C:au}{pa re:Int}(h:((!(pa== -1))||(!(re== -1)))=true)(h5:((pa==re)||((!(C.natural pa))||(!(C.natural re))))=false):Aa C pa re=true:=by
 unfold Aa;rw[h];revert h5;cases pa==re<;>cases C.natural pa<;>cases C.natural re<;>simp
theorem Uw{C:au}{pa re:Int}(h:((!(pa== -1))||(!(re== -1)))=true)(h5:((pa==re)||((!(C.natural pa))||(!(C.natural re))))=true):Aa C pa re=false:=by
 unfold Aa;rw[h];revert h5;cases pa==re<;>cases C.natural pa<;>cases C.natural re<;>simp
theorem Qp{C:au}{ki ro ac ne gr af:Int}{fi:Bool}{start:List iZ}(h1:(decide (ac<0)||(decide ((C.acts.length:Int)<=ac)||(decide (af<1)||decide (400<af))))=true):Ec C ki ro ac ne gr af fi start.length=false:=by
 unfold Ec;revert h1;cases decide (ac<0)<;>cases decide ((C.acts.length:Int)<=ac)<;>cases decide (af<1)<;>cases decide (400<af)<;>simp
theorem Qq{C:au}{ki ro ac ne gr af:Int}{fi:Bool}{start:List iZ}(h2:((!(m_ C ki ro ac ne gr fi))||decide (8<(start.length:Int)))=true):Ec C ki ro ac ne gr af fi start.length=false:=by
 unfold Ec;revert h2;cases m_ C ki ro ac ne gr fi<;>cases decide (8<(start.length:Int))<;>simp
theorem ET(v:CV)(C:au)(i:Nat)(k:aP)(w:World)(hC:bO w v C)(hk:C.clauses[i]?=some k):Calls prog 57 #[v.val C,.int .i64 i] w (dZ (.bool (C.jm i k)) w):=by
 have hil:i<C.clauses.length:=(bB.1 hk).1;obtain⟨b,off,⟨stA,wQ⟩,lG,hb,hcell,hst⟩:=hC.clause hk;obtain⟨⟨dV,dW⟩,⟨dX,dY⟩,⟨fB,dH⟩,⟨eZ,dM⟩,⟨dQ,dR⟩⟩:=v;simp only at lG;subst lG;obtain⟨ki,ro,ac,ne,start,af,gr,bu,fi,pa,re,⟨vn,vd⟩,un,tg,wa⟩:=k;have hsx:start.length<=9223372036854775807:=by have h1:=hst.2.2.1;have h2:=hst.2.2.2;unfold maxLen at h2;simp only at h1 h2⊢;omega
 generalize hE:C.jm i ⟨ki,ro,ac,ne,start,af,gr,bu,fi,pa,re,⟨vn,vd⟩,un,tg,wa⟩=E;simp only[au.jm]at hE;have HE:=ah hE;clear hE;have HST:=ah hst;clear hst;have HC:=ah hC;clear hC;clear hk;have heq:=λ(w:World)=>z_ w vn vd;obtain⟨c0,c1,c2,c3,c4,c5,c6,c7,c8,c9,c10,c11,c12,c13,c14,c15⟩:=EP (hcell w (aC _ _)) rfl;clear hcell;have i0:(0:Int)<=(i:Int):=by omega
 have i1:(i:Int)<(C.clauses.length:Int):=by omega
 simp only[CV.val,CV.cells];go_enter func57,ntmps57;go_upto_region 2 with(fail)
 generalize hW0:World.alloc _ _=W0;obtain⟨HB,hh0,gG⟩:=F5 hW0;clear hW0;obtain⟨iC,iD,iI,iy,iP,jc,jA⟩:=CS hh0;clear hh0;obtain⟨jM,jY,qO,tV,Xb,Z7,acB,afK,afL,afM,abF,abG,abH,abI,abJ,abK⟩:=Z0 gG;clear gG;change Code.wp _ _ _ _ (Bl.val (⟨W0,aC _ _⟩:Bl W0));generalize(⟨W0,aC _ _⟩:Bl W0)=s0;clear c0 c1 c2 c3 c4 c5 c6 c7 c8 c9 c10 c11 c12 c13 c14 c15;have HM:=ah (λ(x:Int)(W:World)=>xk (⟨⟨dV,dW⟩,⟨dX,dY⟩,⟨fB,dH⟩,⟨some ⟨b,off,none⟩,dM⟩,⟨dQ,dR⟩⟩:CV) C x W);simp only[CV.val,CV.cells]at HM;have HN:=ah (λ(x:Int)(z:Bl W0)=>Eb (⟨⟨dV,dW⟩,⟨dX,dY⟩,⟨fB,dH⟩,⟨some ⟨b,off,none⟩,dM⟩,⟨dQ,dR⟩⟩:CV) C x z.val (HC.out.below (av HB.out z.prop)));simp only[CV.val,CV.cells]at HN;have HK:=ah (λ(z:Bl W0)=>Jw (⟨⟨dV,dW⟩,⟨dX,dY⟩,⟨fB,dH⟩,⟨some ⟨b,off,none⟩,dM⟩,⟨dQ,dR⟩⟩:CV) C ki ro ac ne ⟨stA,wQ⟩ start.length af gr bu fi pa re vn vd un tg wa z.val (HC.out.below (av HB.out z.prop)));simp only[CV.val,CV.cells]at HK;have Z8:Hid (0<=un->un<(C.units.length:Int)->∃ub uo,dX=some ⟨ub,uo,none⟩/\∀z:Bl W0,z.val.cell? ⟨ub,uo+un.toNat*5+1,none⟩=some (.int .i64 (C.F6 un))):=λh0 h1=>by
  obtain⟨a,ha⟩:∃a,C.units[un.toNat]?=some a:=⟨C.units[un.toNat]'(by omega),aS _⟩;obtain⟨ub,uo,Z9,_,huc⟩:=HC.out.unit ha;refine⟨ub,uo,Z9,λz=>(huc _ (av HB.out z.prop) 1 (by omega)).trans ?_⟩;unfold au.F6;rw[if_pos h0,ha];rfl
 obtain⟨b1,mV⟩:∃b,Hid ((decide (ac<0)||(decide ((C.acts.length:Int)<=ac)||(decide (af<1)||decide (400<af))))=b):=⟨_,rfl⟩;go_upto_region 2 with(fail)
 go_cut [33] (λc wx=>c= .bool b1/\∃z:Bl W0,wx=z.val)
 case first=>
  have hE:=(iW (decide (ac<0)||(decide ((C.acts.length:Int)<=ac)||(decide (af<1)||decide (400<af))))).symm.trans mV.out;simp only[Na]at hE;repeat' (first|(replace hE:=uI hE (by assumption))|(replace hE:=uJ hE (by assumption))|(replace hE:=mP hE;rcases hE with⟨q,q',hE⟩|⟨q,q',hE⟩)|(replace hE:=jL hE;rcases hE with⟨q,hE⟩|⟨q,hE⟩)|fail)
  all_goals
   subst hE
   as_aux_lemma=>
    go_wp2_with (first|(go_at_call 85;refine dB (HK.out _) (by assumption) (λz=>?_))|(go_at_call 89;refine dB (HM.out _ _) (by assumption) (λz=>?_))|(go_at_call 86;refine dB (HN.out _ _) (by assumption) (λz=>?_))|(go_at_call 87;refine(jl _).mono ?_;rintro e z ⟨rfl,hz⟩;obtain⟨z,rfl⟩:=Bl.on hz;clear hz)|(go_at_call 88;refine dB (d9 ⟨vn,vd⟩ _) (by assumption) (λz=>?_)))
    go_meet
    exact⟨rfl,_,rfl⟩
 case rest=>
  obtain⟨rfl,z1,rfl⟩:=hcut;cases b1 with
  |false=>
   as_aux_lemma=>
    have xq:=mV;clear mV;obtain⟨b2,Nb⟩:∃b,Hid (((!(m_ C ki ro ac ne gr fi))||decide (8<(start.length:Int)))=b):=⟨_,rfl⟩;go_upto_region 4 with(fail)
    go_cut [43] (λc wx=>c= .bool b2/\∃z:Bl W0,wx=z.val)
    case first=>
     have hE:=(iW ((!(m_ C ki ro ac ne gr fi))||decide (8<(start.length:Int)))).symm.trans Nb.out;simp only[Na]at hE;repeat' (first|(replace hE:=uI hE (by assumption))|(replace hE:=uJ hE (by assumption))|(replace hE:=mP hE;rcases hE with⟨q,q',hE⟩|⟨q,q',hE⟩)|(replace hE:=jL hE;rcases hE with⟨q,hE⟩|⟨q,hE⟩)|fail)
     all_goals
      subst hE
      as_aux_lemma=>
       go_wp2_with (first|(go_at_call 85;refine dB (HK.out _) (by assumption) (λz=>?_))|(go_at_call 89;refine dB (HM.out _ _) (by assumption) (λz=>?_))|(go_at_call 86;refine dB (HN.out _ _) (by assumption) (λz=>?_))|(go_at_call 87;refine(jl _).mono ?_;rintro e z ⟨rfl,hz⟩;obtain⟨z,rfl⟩:=Bl.on hz;clear hz)|(go_at_call 88;refine dB (d9 ⟨vn,vd⟩ _) (by assumption) (λz=>?_)))
       go_meet
       exact⟨rfl,_,rfl⟩
    case rest=>
     obtain⟨rfl,z2,rfl⟩:=hcut;cases b2 with
     |false=>
      as_aux_lemma=>
       have F8:=Nb;clear Nb;go_wp2
       go_loopg [47] start.length (λgk v47 wr=>∃(j:Nat)(z:Bl W0),gk=start.length - j/\j<=start.length/\v47= .int .i64 j/\wr=z.val/\Hid (ni C i (start.take j)=true))
       case atStart=>exact⟨0,_,rfl,aU _,rfl,rfl,rfl⟩
       case round=>
        obtain⟨j,z,eO,hj,rfl,rfl,hpre⟩:=hrel;have iw:=ah eO;clear eO;by_cases hlt:j<start.length
        .obtain⟨⟨cl,is⟩,hx⟩:∃x,start[j]?=some x:=⟨start[j],aS hlt⟩
         obtain⟨b2,off2,hA2,hb2,hc2⟩:=(HST.out.below (by omega) (av HB.out z.prop)).1.form (by omega) (by omega);try simp only at hA2
         subst hA2;have e0:z.val.cell? ⟨b2,off2+j*2,none⟩=some (.int .i64 cl):=by rw[hc2 _ (by omega)];exact bG iZ.cells 2 (λ_=>rfl) start j 0 _ hx (by omega)
         have e1:z.val.cell? ⟨b2,off2+j*2+1,none⟩=some (.int .i64 is):=by rw[iR,hc2 _ (by omega)];exact bG iZ.cells 2 (λ_=>rfl) start j 1 _ hx (by omega)
         clear hc2;have HX:=ah hx;clear hx;have j1:(j:Int)<(start.length:Int):=by omega
         go_upto_region 9 with(fail)
         generalize hWa:World.alloc _ _=Wa;obtain⟨hba,hxa⟩:=bx1' hWa;clear hWa;obtain⟨d0,d1⟩:=Ww hxa;obtain⟨za,hza⟩:∃za:Bl W0,za.val=Wa:=⟨⟨Wa,av z.prop hba⟩,rfl⟩;replace d0:=d0 ⟨Wa,aC _ _⟩;replace d1:=d1 ⟨Wa,aC _ _⟩;simp only at d0 d1;subst hza;clear hba hxa e0 e1;obtain⟨b5,HP5,hE⟩:∃b,Hid ((sN C i cl is)=b)/\cond (sN C i cl is) true false=b:=⟨_,rfl,(iW _).symm⟩;simp only[sN,Na]at hE;repeat' (first|(replace hE:=uI hE (by assumption))|(replace hE:=uJ hE (by assumption))|(replace hE:=mP hE;rcases hE with⟨q,q',hE⟩|⟨q,q',hE⟩)|(replace hE:=jL hE;rcases hE with⟨q,hE⟩|⟨q,hE⟩)|fail)
         all_goals first
          |focus
           obtain rfl:b5=false:=hE.symm;clear hE
           as_aux_lemma=>
            obtain rfl:E=false:=by rw[<-HE.out,uK xq.out F8.out,Ns HX.out HP5.out];rfl
            go_wp2_with (first|fail);first
             |(go_ret;exact⟨rfl,av HB.out (Bl.prop _)⟩)
             |(refine aI ?_;(repeat(go_big_quiet_step (first|fail)));refine aY ?_;rintro _ ⟨zq,rfl⟩;go_wp2;go_ret;exact⟨rfl,av HB.out (Bl.prop _)⟩)
          |focus
           obtain rfl:b5=true:=hE.symm;clear hE
           as_aux_lemma=>
            go_wp2
            go_roundg (start.length - (j+1))
            case measure=>rw[iw.out];omega
            case rel=>exact⟨j+1,_,rfl,by omega,by go_num,rfl,Lf HX.out hpre.out HP5.out⟩
        .obtain rfl:j=start.length:=by omega
         have Jy:Hid (ni C i start=true):=by have h:=hpre.out;rwa [zY (bJ _)]at h
         clear hpre iw;obtain⟨b4,Z_⟩:∃b,Hid (((!(pa== -1))||(!(re== -1)))=b):=⟨_,rfl⟩;go_upto_region 12 with(fail)
         go_cut [86] (λc wx=>c= .bool b4/\∃z:Bl W0,wx=z.val)
         case first=>
          have hE:=(iW ((!(pa== -1))||(!(re== -1)))).symm.trans Z_.out;simp only[Na]at hE;repeat' (first|(replace hE:=uI hE (by assumption))|(replace hE:=uJ hE (by assumption))|(replace hE:=mP hE;rcases hE with⟨q,q',hE⟩|⟨q,q',hE⟩)|(replace hE:=jL hE;rcases hE with⟨q,hE⟩|⟨q,hE⟩)|fail)
          all_goals
           subst hE
           as_aux_lemma=>
            go_wp2_with (first|(go_at_call 85;refine dB (HK.out _) (by assumption) (λz=>?_))|(go_at_call 89;refine dB (HM.out _ _) (by assumption) (λz=>?_))|(go_at_call 86;refine dB (HN.out _ _) (by assumption) (λz=>?_))|(go_at_call 87;refine(jl _).mono ?_;rintro e z ⟨rfl,hz⟩;obtain⟨z,rfl⟩:=Bl.on hz;clear hz)|(go_at_call 88;refine dB (d9 ⟨vn,vd⟩ _) (by assumption) (λz=>?_)))
            go_meet
            exact⟨rfl,_,rfl⟩
         case rest=>
          obtain⟨rfl,z4,rfl⟩:=hcut;cases b4 with
          |false=>
           as_aux_lemma=>
            have Wy:Hid (Aa C pa re=true):=Uu Z_.out;clear Z_;obtain⟨b3,ZE,hE⟩:∃b,Hid ((F7 C ki un vn vd tg)=b)/\cond (F7 C ki un vn vd tg) true false=b:=⟨_,rfl,(iW _).symm⟩;simp only[F7,Na]at hE;repeat' (first|(replace hE:=uI hE (by assumption))|(replace hE:=uJ hE (by assumption))|(replace hE:=mP hE;rcases hE with⟨q,q',hE⟩|⟨q,q',hE⟩)|(replace hE:=jL hE;rcases hE with⟨q,hE⟩|⟨q,hE⟩)|fail)
            all_goals first
             |focus
              obtain rfl:b3=false:=hE.symm;clear hE
              as_aux_lemma=>
               obtain rfl:E=false:=by rw[<-HE.out,uK xq.out F8.out,Jy.out,Wy.out,ZE.out];rfl
               try(have hu0:=of_decide_eq_true (by assumption:decide (0<=un)=true);have hu1:=of_decide_eq_true (by assumption:decide (un<(C.units.length:Int))=true);have ZF:=Z8.out hu0 hu1;obtain⟨ub,uo,Z9,cu⟩:=ZF;subst Z9)
               go_wp2_with (first|(go_at_call 85;refine dB (HK.out _) (by assumption) (λz=>?_))|(go_at_call 89;refine dB (HM.out _ _) (by assumption) (λz=>?_))|(go_at_call 86;refine dB (HN.out _ _) (by assumption) (λz=>?_))|(go_at_call 87;refine(jl _).mono ?_;rintro e z ⟨rfl,hz⟩;obtain⟨z,rfl⟩:=Bl.on hz;clear hz)|(go_at_call 88;refine dB (d9 ⟨vn,vd⟩ _) (by assumption) (λz=>?_)));first
                |(go_ret;exact⟨rfl,av HB.out (Bl.prop _)⟩)
                |(refine aI ?_;(repeat(go_big_quiet_step (first|(go_at_call 85;exact Calls.dw (lit (HK.out _) (by assumption)))|(go_at_call 89;exact Calls.dw (lit (HM.out _ _) (by assumption)))|(go_at_call 86;exact Calls.dw (lit (HN.out _ _) (by assumption)))|(go_at_call 87;exact Calls.dw (jl _))|(go_at_call 88;exact Calls.dw (lit (d9 ⟨vn,vd⟩ _) (by assumption))))));refine aY ?_;rintro _ ⟨zq,rfl⟩;go_wp2;go_ret;exact⟨rfl,av HB.out (Bl.prop _)⟩)
             |focus
              obtain rfl:b3=true:=hE.symm;clear hE
              as_aux_lemma=>
               obtain rfl:E=true:=by rw[<-HE.out,uK xq.out F8.out,Jy.out,Wy.out,ZE.out];rfl
               try(have hu0:=of_decide_eq_true (by assumption:decide (0<=un)=true);have hu1:=of_decide_eq_true (by assumption:decide (un<(C.units.length:Int))=true);have ZF:=Z8.out hu0 hu1;obtain⟨ub,uo,Z9,cu⟩:=ZF;subst Z9)
               go_wp2_with (first|(go_at_call 85;refine dB (HK.out _) (by assumption) (λz=>?_))|(go_at_call 89;refine dB (HM.out _ _) (by assumption) (λz=>?_))|(go_at_call 86;refine dB (HN.out _ _) (by assumption) (λz=>?_))|(go_at_call 87;refine(jl _).mono ?_;rintro e z ⟨rfl,hz⟩;obtain⟨z,rfl⟩:=Bl.on hz;clear hz)|(go_at_call 88;refine dB (d9 ⟨vn,vd⟩ _) (by assumption) (λz=>?_)));first
                |(go_ret;exact⟨rfl,av HB.out (Bl.prop _)⟩)
                |(refine aI ?_;(repeat(go_big_quiet_step (first|(go_at_call 85;exact Calls.dw (lit (HK.out _) (by assumption)))|(go_at_call 89;exact Calls.dw (lit (HM.out _ _) (by assumption)))|(go_at_call 86;exact Calls.dw (lit (HN.out _ _) (by assumption)))|(go_at_call 87;exact Calls.dw (jl _))|(go_at_call 88;exact Calls.dw (lit (d9 ⟨vn,vd⟩ _) (by assumption))))));refine aY ?_;rintro _ ⟨zq,rfl⟩;go_wp2;go_ret;exact⟨rfl,av HB.out (Bl.prop _)⟩)
          |true=>
           as_aux_lemma=>
            obtain⟨b6,HP6⟩:∃b,Hid (((pa==re)||((!(C.natural pa))||(!(C.natural re))))=b):=⟨_,rfl⟩;go_upto_region 13 with(fail)
            go_cut [105] (λc wx=>c= .bool b6/\∃z:Bl W0,wx=z.val)
            case first=>
             have hE:=(iW ((pa==re)||((!(C.natural pa))||(!(C.natural re))))).symm.trans HP6.out;simp only[Na]at hE;repeat' (first|(replace hE:=uI hE (by assumption))|(replace hE:=uJ hE (by assumption))|(replace hE:=mP hE;rcases hE with⟨q,q',hE⟩|⟨q,q',hE⟩)|(replace hE:=jL hE;rcases hE with⟨q,hE⟩|⟨q,hE⟩)|fail)
             all_goals
              subst hE
              as_aux_lemma=>
               go_wp2_with (first|(go_at_call 85;refine dB (HK.out _) (by assumption) (λz=>?_))|(go_at_call 89;refine dB (HM.out _ _) (by assumption) (λz=>?_))|(go_at_call 86;refine dB (HN.out _ _) (by assumption) (λz=>?_))|(go_at_call 87;refine(jl _).mono ?_;rintro e z ⟨rfl,hz⟩;obtain⟨z,rfl⟩:=Bl.on hz;clear hz)|(go_at_call 88;refine dB (d9 ⟨vn,vd⟩ _) (by assumption) (λz=>?_)))
               go_meet
               exact⟨rfl,_,rfl⟩
            case rest=>
             obtain⟨rfl,z6,rfl⟩:=hcut;cases b6 with
             |false=>
              as_aux_lemma=>
               have Wy:Hid (Aa C pa re=true):=Uv Z_.out HP6.out;clear Z_ HP6;obtain⟨b3,ZE,hE⟩:∃b,Hid ((F7 C ki un vn vd tg)=b)/\cond (F7 C ki un vn vd tg) true false=b:=⟨_,rfl,(iW _).symm⟩;simp only[F7,Na]at hE;repeat' (first|(replace hE:=uI hE (by assumption))|(replace hE:=uJ hE (by assumption))|(replace hE:=mP hE;rcases hE with⟨q,q',hE⟩|⟨q,q',hE⟩)|(replace hE:=jL hE;rcases hE with⟨q,hE⟩|⟨q,hE⟩)|fail)
               all_goals first
                |focus
                 obtain rfl:b3=false:=hE.symm;clear hE
                 as_aux_lemma=>
                  obtain rfl:E=false:=by rw[<-HE.out,uK xq.out F8.out,Jy.out,Wy.out,ZE.out];rfl
                  try(have hu0:=of_decide_eq_true (by assumption:decide (0<=un)=true);have hu1:=of_decide_eq_true (by assumption:decide (un<(C.units.length:Int))=true);have ZF:=Z8.out hu0 hu1;obtain⟨ub,uo,Z9,cu⟩:=ZF;subst Z9)
                  go_wp2_with (first|(go_at_call 85;refine dB (HK.out _) (by assumption) (λz=>?_))|(go_at_call 89;refine dB (HM.out _ _) (by assumption) (λz=>?_))|(go_at_call 86;refine dB (HN.out _ _) (by assumption) (λz=>?_))|(go_at_call 87;refine(jl _).mono ?_;rintro e z ⟨rfl,hz⟩;obtain⟨z,rfl⟩:=Bl.on hz;clear hz)|(go_at_call 88;refine dB (d9 ⟨vn,vd⟩ _) (by assumption) (λz=>?_)));first
                   |(go_ret;exact⟨rfl,av HB.out (Bl.prop _)⟩)
                   |(refine aI ?_;(repeat(go_big_quiet_step (first|(go_at_call 85;exact Calls.dw (lit (HK.out _) (by assumption)))|(go_at_call 89;exact Calls.dw (lit (HM.out _ _) (by assumption)))|(go_at_call 86;exact Calls.dw (lit (HN.out _ _) (by assumption)))|(go_at_call 87;exact Calls.dw (jl _))|(go_at_call 88;exact Calls.dw (lit (d9 ⟨vn,vd⟩ _) (by assumption))))));refine aY ?_;rintro _ ⟨zq,rfl⟩;go_wp2;go_ret;exact⟨rfl,av HB.out (Bl.prop _)⟩)
                |focus
                 obtain rfl:b3=true:=hE.symm;clear hE
                 as_aux_lemma=>
                  obtain rfl:E=true:=by rw[<-HE.out,uK xq.out F8.out,Jy.out,Wy.out,ZE.out];rfl
                  try(have hu0:=of_decide_eq_true (by assumption:decide (0<=un)=true);have hu1:=of_decide_eq_true (by assumption:decide (un<(C.units.length:Int))=true);have ZF:=Z8.out hu0 hu1;obtain⟨ub,uo,Z9,cu⟩:=ZF;subst Z9)
                  go_wp2_with (first|(go_at_call 85;refine dB (HK.out _) (by assumption) (λz=>?_))|(go_at_call 89;refine dB (HM.out _ _) (by assumption) (λz=>?_))|(go_at_call 86;refine dB (HN.out _ _) (by assumption) (λz=>?_))|(go_at_call 87;refine(jl _).mono ?_;rintro e z ⟨rfl,hz⟩;obtain⟨z,rfl⟩:=Bl.on hz;clear hz)|(go_at_call 88;refine dB (d9 ⟨vn,vd⟩ _) (by assumption) (λz=>?_)));first
                   |(go_ret;exact⟨rfl,av HB.out (Bl.prop _)⟩)
                   |(refine aI ?_;(repeat(go_big_quiet_step (first|(go_at_call 85;exact Calls.dw (lit (HK.out _) (by assumption)))|(go_at_call 89;exact Calls.dw (lit (HM.out _ _) (by assumption)))|(go_at_call 86;exact Calls.dw (lit (HN.out _ _) (by assumption)))|(go_at_call 87;exact Calls.dw (jl _))|(go_at_call 88;exact Calls.dw (lit (d9 ⟨vn,vd⟩ _) (by assumption))))));refine aY ?_;rintro _ ⟨zq,rfl⟩;go_wp2;go_ret;exact⟨rfl,av HB.out (Bl.prop _)⟩)
             |true=>
              as_aux_lemma=>
               obtain rfl:E=false:=by rw[<-HE.out,uK xq.out F8.out,Jy.out,Uw Z_.out HP6.out];rfl
               go_wp2;go_ret;exact⟨rfl,av HB.out (Bl.prop _)⟩
     |true=>
      as_aux_lemma=>
       obtain rfl:E=false:=by rw[<-HE.out,Qq Nb.out];rfl
       go_wp2;go_ret;exact⟨rfl,av HB.out (Bl.prop _)⟩
  |true=>
   as_aux_lemma=>
    obtain rfl:E=false:=by rw[<-HE.out,Qp mV.out];rfl
    go_wp2;go_ret;exact⟨rfl,av HB.out (Bl.prop _)⟩
end Go.Proofs.YtpmdedcnbockhaaGreatDoor

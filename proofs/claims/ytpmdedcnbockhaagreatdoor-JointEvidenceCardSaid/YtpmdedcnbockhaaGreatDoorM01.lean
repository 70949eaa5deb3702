/-
  Ratio; Con1; Con2; Con4
-/
import Derived.Test.YtpmdedcnbockhaaGreatDoorM00
set_option maxRecDepth 100000
set_option maxHeartbeats 8000000
namespace Go.Proofs.YtpmdedcnbockhaaGreatDoor
section
open Go.RowKit
theorem Tc{k:IntKind}{a b:Int}(h:a=b):Ending.returned (.int k a)= .returned (.int k b):=by rw[h]
theorem WT{a b:Bool}(h:a=b):Ending.returned (.bool a)= .returned (.bool b):=by rw[h]
theorem Ad(n:Int)(w:World)(h1: -1000000000000<=n)(h2:n<=1000000000000):Calls Tryz.prog 159 #[.int .i64 n] w (Ret (.int .u64 (n.natAbs:Int)) w):=by
 by_cases h:n<0
 .go_enter Tryz.func159,Tryz.ntmps159
  go_wp2;go_ret;refine⟨?_,rfl⟩;exact Tc (by omega)
 .go_enter Tryz.func159,Tryz.ntmps159
  go_wp2;go_ret;refine⟨?_,rfl⟩;exact Tc (by omega)
theorem Fe{l:List Nat}{k x:Nat}(hx:l[k]?=some x):(l.take (k+1)).foldl Nat.gcd 0=Nat.gcd ((l.take k).foldl Nat.gcd 0) x:=by
 obtain⟨hk,rfl⟩:=bC.1 hx;rw[List.take_succ_eq_append_getElem hk,tJ];rfl
def ZC(l:List Nat):List Value:=l.map (λx:Nat=>Value.int .u64 (x:Int))
theorem Ns(A:Option Addr)(c:Nat)(l:List Nat)(w:World)(hl:∀x∈l,x<18446744073709551616)(hn:l.length<=1000)(hs:Src w 1 A l.length (ZC l)):
 Calls Tryz.prog 158 #[.slice A l.length c] w (dX (.int .u64 ((l.foldl Nat.gcd 0:Nat):Int)) w):=by
 have HS:=ah hs;clear hs;have HL:=ah hl;clear hl;go_enter Tryz.func158,Tryz.ntmps158;go_wp2
 go_loopg [3,8] l.length (λgk v3 v8 wr=>∃(k g nq:Nat),gk=l.length - k/\k<=l.length/\v8= .int .i64 k/\v3= .int .u64 (g:Int)/\g<18446744073709551616/\Hid (g=(l.take k).foldl Nat.gcd 0)/\wr=w.drewN nq)
 case atStart=>exact⟨0,0,0,rfl,aZ _,rfl,rfl,by omega,rfl,rfl⟩
 case round=>
  obtain⟨k,g,nq,eZ,hk,rfl,rfl,hg,HG,rfl⟩:=hrel;have iL:=ah eZ;clear eZ;by_cases hlt:k<l.length
  .obtain⟨b,off,rfl,hbl,hcell⟩:=HS.out.form (by omega) (by omega)
   obtain⟨x,hx⟩:∃x,l[k]?=some x:=⟨l[k],aW hlt⟩;have hxb:=HL.out x (bT hx);have k0:w.cell? ⟨b,off+k,none⟩=some (.int .u64 (x:Int)):=by rw[hcell _ (by omega)];simp[ZC,hx]
   have HC:=ah hcell;clear hcell;have HX:=ah hx;clear hx;have j1:(k:Int)<(l.length:Int):=by omega
   go_wp2
   go_loopg [3,5] x (λgk2 v3 v5 wr=>∃(g' n' nq':Nat),gk2=n'/\v3= .int .u64 (g':Int)/\v5= .int .u64 (n':Int)/\g'<18446744073709551616/\n'<18446744073709551616/\Hid (Nat.gcd g' n'=Nat.gcd g x)/\wr=w.drewN nq')
   case atStart=>exact⟨g,x,nq,rfl,rfl,rfl,hg,hxb,rfl,rfl⟩
   case round=>
    obtain⟨g',n',nq',Ga,rfl,rfl,hg',hn',HGC,rfl⟩:=hrel;have Fg:=ah Ga;clear Ga;by_cases h0:n'=0
    .subst h0
     go_wp2
     go_roundg (l.length - (k+1))
     case measure=>rw[iL.out];omega
     case rel=>exact⟨k+1,g',nq',rfl,by omega,by go_num,rfl,hg',by
      show _=_;rw[Fe HX.out,<-HG.out,<-HGC.out,Nat.gcd_zero_right],rfl⟩
    .have hne:((n':Int)!=0)=true:=by simp;omega
     have hne2:¬(n':Int)=0:=by omega
     go_wp2
     go_quiet (fail)
     go_wp2
     go_roundg (g' % n')
     case measure=>rw[Fg.out];exact Nat.mod_lt _ (by omega)
     case rel=>exact⟨n',g' % n',_,rfl,rfl,by go_num,hn',Nat.lt_trans (Nat.mod_lt _ (by omega)) hn',by
      show _=_;rw[<-HGC.out,Nat.gcd_comm g' n',Nat.gcd_rec n' g',Nat.gcd_comm],World.drewN_drewN _ _ _⟩
  .obtain rfl:k=l.length:=by omega
   go_wp2;go_ret;rw[HG.out,uY (bJ _)];exact⟨rfl,below_drewN _ _⟩
def dK.ok(r:dK):Bool:=decide (1<=r.den)&&decide (r.den<=1000000)&&decide (-1000000000000<=r.num)&&decide (r.num<=1000000000000)&&decide (Nat.gcd r.num.natAbs r.den.natAbs=1)
theorem xU(r:dK)(w:World):Calls Tryz.prog 134 #[.agg #[.int .i64 r.num,.int .i64 r.den]] w (dX (.bool r.ok) w):=by
 obtain⟨n,d⟩:=r;simp only;generalize hE:dK.ok ⟨n,d⟩=E;by_cases h1:d<1
 .obtain rfl:E=false:=by rw[<-hE];simp[dK.ok];omega
  clear hE;go_enter Tryz.func134,Tryz.ntmps134;go_wp2;go_ret;exact⟨rfl,(aC _ _).alloc (bJ _) _⟩
 by_cases h2:1000000<d
 .obtain rfl:E=false:=by rw[<-hE];simp[dK.ok];omega
  clear hE;go_enter Tryz.func134,Tryz.ntmps134;go_wp2;go_ret;exact⟨rfl,(aC _ _).alloc (bJ _) _⟩
 by_cases h3:n< -1000000000000
 .obtain rfl:E=false:=by rw[<-hE];simp[dK.ok];omega
  clear hE;go_enter Tryz.func134,Tryz.ntmps134;go_wp2;go_ret;exact⟨rfl,(aC _ _).alloc (bJ _) _⟩
 by_cases h4:1000000000000<n
 .obtain rfl:E=false:=by rw[<-hE];simp[dK.ok];omega
  clear hE;have d4:decide (1000000000000<n)=true:=by simpa using h4
  go_enter Tryz.func134,Tryz.ntmps134;go_wp2;go_ret;exact⟨rfl,(aC _ _).alloc (bJ _) _⟩
 have d4:decide (1000000000000<n)=false:=by simpa using h4
 have HE:Hid (E=decide (Nat.gcd n.natAbs d.natAbs=1)):=by
  show _=_;have q1:1<=d:=by omega
  have q2:d<=1000000:=by omega
  have q3: -1000000000000<=n:=by omega
  have q4:n<=1000000000000:=by omega
  rw[<-hE];simp[dK.ok,q1,q2,q3,q4]
 clear hE;have c1:∀W,Calls Tryz.prog 159 #[.int .i64 n] W (Ret (.int .u64 (n.natAbs:Int)) W):=λW=>Ad n W (by omega) (by omega);have c2:∀W,Calls Tryz.prog 159 #[.int .i64 d] W (Ret (.int .u64 (d.natAbs:Int)) W):=λW=>Ad d W (by omega) (by omega);have C1:=ah c1;clear c1;have C2:=ah c2;clear c2;generalize hN:n.natAbs=N at*;generalize hD:d.natAbs=D at*;have bN:N<18446744073709551616:=by omega
 have bD:D<18446744073709551616:=by omega
 clear hN hD;have c3:∀W:World,Calls Tryz.prog 158 #[.slice (some ⟨W.heap.size,0,none⟩) 2 2] (W.alloc (.cells #[.int .u64 (N:Int),.int .u64 (D:Int)] 201)).drew (dX (.int .u64 (Nat.gcd N D:Int)) (W.alloc (.cells #[.int .u64 (N:Int),.int .u64 (D:Int)] 201)).drew):=λW=>by
  have h:=Ns (some ⟨W.heap.size,0,none⟩) 2 [N,D] (W.alloc (.cells #[.int .u64 (N:Int),.int .u64 (D:Int)] 201)).drew (by simp;omega) (by simp) ⟨rfl,by simp[ZC,Value.oneCell'],λ_=>⟨_,rfl,λj u hu=>by
   rw[Addr.add_lit,qN];show(W.alloc (.cells #[.int .u64 (N:Int),.int .u64 (D:Int)] 201)).cell? _=_;rw[aL _ _ j _ _ _ (bQ W _)];simpa [ZC]using hu⟩⟩
  simpa [Nat.gcd_zero_left]using h
 have C3:=ah c3;clear c3;go_enter Tryz.func134,Tryz.ntmps134;go_wp2;obtain⟨W,HW⟩:∃W,Hid (W=w.alloc (.cells #[.int .i64 n,.int .i64 d] 107)):=⟨_,rfl⟩;have k0:W.cell? ⟨w.heap.size,0,none⟩=some (.int .i64 n):=by rw[HW.out];go_simp
 have k1:W.cell? ⟨w.heap.size,1,none⟩=some (.int .i64 d):=by rw[HW.out];go_simp
 have HB:Hid (Below w.heap.size w W):=by show Below _ _ _;rw[HW.out];exact(aC _ _).alloc (bJ _) _
 have HZ:Hid (W.heap.size=w.heap.size+1):=by show _=_;rw[HW.out];simp
 have SK:Hid (∀X,Below W.heap.size W X->X.cell? ⟨w.heap.size,0,none⟩=some (.int .i64 n)/\X.cell? ⟨w.heap.size,1,none⟩=some (.int .i64 d)):=λX hX=>⟨(hX.cell (p:=⟨w.heap.size,0,none⟩) (by show w.heap.size<_;rw[HZ.out];omega)).trans k0,(hX.cell (p:=⟨w.heap.size,1,none⟩) (by show w.heap.size<_;rw[HZ.out];omega)).trans k1⟩;rw[<-HW.out]
 go_region_held3 (λX=>X.cell? ⟨w.heap.size,0,none⟩=some (.int .i64 n)/\X.cell? ⟨w.heap.size,1,none⟩=some (.int .i64 d)) (first|exact⟨k0,k1⟩|exact SK.out _ HZ3.out|go_keep) (first
  |(go_at_call_of 159 (Value.int IntKind.i64 n);refine(C1.out _).mono ?_;rintro e z1 ⟨rfl,rfl⟩)
  |(go_at_call_of 159 (Value.int IntKind.i64 d);refine(C2.out _).mono ?_;rintro e z2 ⟨rfl,rfl⟩)
  |(go_at_call 158;refine(C3.out _).mono ?_;rintro e z3 ⟨rfl,hz3⟩;have HZ3:Hid (Below W.heap.size W z3):=(((aC _ W).alloc (bJ _) _).drew).trans (hz3.mono (by simp));clear hz3))
 all_goals
  go_wp2;go_ret;refine⟨WT ?_,HB.out.trans (HZ3.out.mono HB.out.size)⟩;rw[HE.out,Bool.eq_iff_iff,beq_iff_eq,decide_eq_true_iff];omega
end
section
open Go.RowKit
def aB.role(C:aB)(r:Int):Bool:=decide (0<=r)&&decide (r<C.aj.length)
def dK.zero(r:dK):Bool:=(r.num==0)&&(r.den==1)
def dK.plus(r:dK):Bool:=decide (0<r.num)&&r.ok
def aB.Nt(C:aB)(i:Int):Option jg:=if 0<=i then C.acts[i.toNat]? else none
def aB.natural(C:aB)(i:Int):Bool:=
 match C.Nt i with
 |none=>false
 |some a=>(a.kind==1)&&(a.role== -1)
theorem ji(w:World):Calls Tryz.prog 87 #[] w (dX (.agg #[.int .i64 0,.int .i64 1]) w):=by
 go_enter Tryz.func87,Tryz.ntmps87;go_wp2;exact bodyPost_ret (v:=.agg #[.int .i64 0,.int .i64 1]) (by simp[results,Tryz.results87,go_sem]) rfl ⟨rfl,(aC _ _).alloc (bJ _) _⟩
theorem xV(v:CV)(C:aB)(r:Int)(w:World):Calls Tryz.prog 89 #[v.val C,.int .i64 r] w (dX (.bool (C.role r)) w):=by
 unfold CV.val CV.cells;generalize hE:C.role r=E;cases h1:decide (0<=r)with
 |false=>
  obtain rfl:E=false:=by rw[<-hE];simp[aB.role,h1]
  clear hE;go_enter Tryz.func89,Tryz.ntmps89;go_wp2;go_ret;exact⟨rfl,(aC _ _).alloc (bJ _) _⟩
 |true=>
  cases h2:decide (r<(C.aj.length:Int))with
  |false=>
   obtain rfl:E=false:=by rw[<-hE];simp[aB.role,h2]
   clear hE;go_enter Tryz.func89,Tryz.ntmps89;go_wp2;go_ret;exact⟨rfl,(aC _ _).alloc (bJ _) _⟩
  |true=>
   obtain rfl:E=true:=by rw[<-hE];simp[aB.role,h1,h2]
   clear hE;go_enter Tryz.func89,Tryz.ntmps89;go_wp2;go_ret;exact⟨rfl,(aC _ _).alloc (bJ _) _⟩
theorem eu(r:dK)(w:World):Calls Tryz.prog 88 #[.agg #[.int .i64 r.num,.int .i64 r.den]] w (dX (.bool r.plus) w):=by
 obtain⟨n,d⟩:=r;simp only;generalize hE:dK.plus ⟨n,d⟩=E;have hc:∀W,Calls Tryz.prog 134 #[.agg #[.int .i64 n,.int .i64 d]] W (dX (.bool (dK.ok ⟨n,d⟩)) W):=λW=>xU ⟨n,d⟩ W;have HC:=ah hc;clear hc;cases h1:decide (0<n)with
 |false=>
  obtain rfl:E=false:=by rw[<-hE];simp[dK.plus,h1]
  clear hE;go_enter Tryz.func88,Tryz.ntmps88;go_wp2;go_ret;exact⟨rfl,(aC _ _).alloc (bJ _) _⟩
 |true=>
  obtain rfl:E=dK.ok ⟨n,d⟩:=by rw[<-hE];simp[dK.plus,h1]
  clear hE;go_enter Tryz.func88,Tryz.ntmps88;go_wp2_with (go_at_call 134;refine(HC.out _).mono ?_;rintro e z1 ⟨rfl,hz1⟩);go_ret;exact⟨rfl,ay ((aC _ _).alloc (bJ _) _) hz1⟩
theorem cK.act{w:World}{v:CV}{C:aB}(h:cK w v C){i:Nat}{a:jg}(ha:C.acts[i]?=some a):
 ∃b off,v.a.A=some ⟨b,off,none⟩/\b<w.heap.size/\∀W,Below w.heap.size w W->∀j,j<7->W.cell? ⟨b,off+i*7+j,none⟩=a.cells[j]?:=by
 have hi:i<C.acts.length:=(bC.1 ha).1;obtain⟨b,off,hA,hb,hc⟩:=h.acts.1.form (by omega) (by omega);refine⟨b,off,hA,hb,λW hW j hj=>?_⟩;rw[hW.cell (p:=⟨b,off+i*7+j,none⟩) hb,lV,hc _ (by omega)];exact dh _ 7 (λ_=>rfl) C.acts i j a ha hj
theorem El(v:CV)(C:aB)(i:Int)(w:World)(hC:cK w v C):Calls Tryz.prog 86 #[v.val C,.int .i64 i] w (dX (.bool (C.natural i)) w):=by
 unfold CV.val CV.cells;generalize hE:C.natural i=E;have HC:=ah hC;clear hC;by_cases h0:0<=i
 .obtain⟨n,rfl⟩:=Int.eq_ofNat_of_zero_le h0
  by_cases h1:n<C.acts.length
  .obtain⟨a,ha⟩:∃a,C.acts[n]?=some a:=⟨C.acts[n],aW h1⟩
   obtain⟨b,off,hA,hb,hc⟩:=HC.out.act ha;obtain⟨vh,vu,⟨jk,gD⟩,vk,vo⟩:=v;simp only at hA;subst hA;have k0:w.cell? ⟨b,off+n*7,none⟩=some (.int .i64 a.kind):=hc w (aC _ _) 0 (by omega);have k1:w.cell? ⟨b,off+n*7+1,none⟩=some (.int .i64 a.role):=hc w (aC _ _) 1 (by omega);clear hc;have hEE:E=((a.kind==1)&&(a.role== -1)):=by rw[<-hE];simp[aB.natural,aB.Nt,ha]
   clear hE;have HA:=ah ha;clear ha;have i1:(n:Int)<(C.acts.length:Int):=by omega
   cases q1:(a.kind==1)with
   |false=>
    obtain rfl:E=false:=by rw[hEE];simp[q1]
    clear hEE;go_enter Tryz.func86,Tryz.ntmps86;go_wp2;go_ret;exact⟨rfl,(aC _ _).alloc (bJ _) _⟩
   |true=>
    obtain rfl:E=(a.role== -1):=by rw[hEE];simp[q1]
    clear hEE;go_enter Tryz.func86,Tryz.ntmps86;go_wp2;go_ret;exact⟨rfl,(aC _ _).alloc (bJ _) _⟩
  .obtain rfl:E=false:=by
    rw[<-hE];have:C.acts[n]?=none:=nH (by omega);simp[aB.natural,aB.Nt,this]
   clear hE;have d1:decide ((n:Int)<(C.acts.length:Int))=false:=by simp;omega
   go_enter Tryz.func86,Tryz.ntmps86;go_wp2;go_ret;exact⟨rfl,(aC _ _).alloc (bJ _) _⟩
 .obtain rfl:E=false:=by rw[<-hE];simp[aB.natural,aB.Nt,h0]
  clear hE;have d1:decide (0<=i)=false:=by simpa using h0
  go_enter Tryz.func86,Tryz.ntmps86;go_wp2;go_ret;exact⟨rfl,(aC _ _).alloc (bJ _) _⟩
end
section
open Go.RowKit
theorem dL{f:FuncId}{a:Array Value}{W0:World}{s:Bl W0}{b c:Bool}{K:Ending->World->Prop}(h:Calls Tryz.prog f a s.val (dX (.bool b) s.val))(e:b=c)(hk:∀z:Bl W0,K (.returned (.bool c)) z.val):Calls Tryz.prog f a s.val K:=by
 subst e;refine h.mono ?_;rintro e z ⟨rfl,hz⟩;obtain⟨z,rfl⟩:=Bl.on hz;exact hk z
theorem Ae(w:World)(n d:Int):(binOp .eql 107 (.agg #[.int .i64 n,.int .i64 d]) (.agg #[.int .i64 0,.int .i64 1])).run Tryz.prog w= .ok (.bool (dK.zero ⟨n,d⟩)) w:=by
 rw[run_eql_struct];go_simp;unfold dK.zero;by_cases h1:n=0<;>by_cases h2:d=1<;>simp[h1,h2]
def Ay(C:aB)(ki ro gi tg un ln ld:Int):Bool:=(cond (!(C.role ro)) ((ki==1)&&((ro== -1)&&((gi==0)&&(((tg== -1)||(C.role tg))&&((un== -1)&&(dK.zero ⟨ln,ld⟩)))))) (cond (ki==1) (cond ((!(gi==0))||((!(tg== -1))&&(!(C.role tg)))) false (cond (un== -1) (dK.zero ⟨ln,ld⟩) (decide (0<=un)&&(decide (un<(C.units.length:Int))&&(dK.plus ⟨ln,ld⟩))))) (cond ((ki==2)||(ki==3)) ((C.role gi)&&(decide (0<=tg)&&(decide (tg<C.aJ)&&((un== -1)&&(dK.zero ⟨ln,ld⟩))))) false)))
theorem Li(v:CV)(C:aB)(ki ro gi tg un ln ld:Int)(w:World):Calls Tryz.prog 84 #[v.val C,.agg #[.int .i64 ki,.int .i64 ro,.int .i64 gi,.int .i64 tg,.int .i64 un,.int .i64 ln,.int .i64 ld]] w (dX (.bool (Ay C ki ro gi tg un ln ld)) w):=by
 obtain⟨⟨g_,h_⟩,⟨ig,iq⟩,⟨jk,gD⟩,⟨iM,gB⟩,⟨gT,gU⟩⟩:=v;simp only[CV.val,CV.cells];have HM:=ah (λ(r:Int)(W:World)=>xV (⟨⟨g_,h_⟩,⟨ig,iq⟩,⟨jk,gD⟩,⟨iM,gB⟩,⟨gT,gU⟩⟩:CV) C r W);simp only[CV.val,CV.cells]at HM;have heq:=λ(w:World)=>Ae w ln ld;rw[iR (Ay C ki ro gi tg un ln ld)];generalize hE:cond (Ay C ki ro gi tg un ln ld) true false=E;simp only[Ay,Nb]at hE;go_enter Tryz.func84,Tryz.ntmps84;go_upto_region 1 with(fail)
 generalize hW0:World.alloc _ _=W0;obtain⟨HB,hh0,iU⟩:=Ko hW0;clear hW0;obtain⟨j5,j6,kE,lg,lq,l7,ny⟩:=Jt hh0;clear hh0;obtain⟨qW,qX,sW,xG,WU,ZE,acj⟩:=Jt iU;clear iU;change Code.wp _ _ _ _ (Bl.val (⟨W0,aC _ _⟩:Bl W0));generalize(⟨W0,aC _ _⟩:Bl W0)=s0;repeat' (first|(replace hE:=u6 hE (by assumption))|(replace hE:=u_ hE (by assumption))|(replace hE:=mX hE;rcases hE with⟨q,q',hE⟩|⟨q,q',hE⟩)|(replace hE:=jH hE;rcases hE with⟨q,hE⟩|⟨q,hE⟩)|fail)
 all_goals
  subst hE;go_wp2_with (first|(go_at_call 89;refine dL (HM.out _ _) (by assumption) (λz=>?_))|(go_at_call 87;refine(ji _).mono ?_;rintro e z ⟨rfl,hz⟩;obtain⟨z,rfl⟩:=Bl.on hz;clear hz)|(go_at_call 88;refine dL (eu ⟨ln,ld⟩ _) (by assumption) (λz=>?_)));first
   |(go_ret;exact⟨rfl,ay HB.out (Bl.prop _)⟩)
   |(refine aI (by kernel_rfl) (by kernel_rfl) ?_;(repeat(go_big_quiet_step (first|(go_at_call 89;exact Calls.dw (lit (HM.out _ _) (by assumption)))|(go_at_call 87;exact Calls.dw (ji _))|(go_at_call 88;exact Calls.dw (lit (eu ⟨ln,ld⟩ _) (by assumption))))));refine aS ?_;rintro _ ⟨zq,rfl⟩;go_wp2;go_ret;exact⟨rfl,ay HB.out (Bl.prop _)⟩)
def nJ(C:aB)(ki ro ac ne gr:Int)(fi:Bool):Bool:=(cond (ki==4) ((ro== -1)&&((ne==1)&&((gr==0)&&(!fi)))) (cond ((!(C.role ro))||(C.natural ac)) false (cond (ki==1) (decide (1<=ne)&&(decide (ne<=9)&&(decide (0<=gr)&&decide (gr<=400)))) (cond (ki==2) ((ne==1)&&(gr==0)) (cond (ki==3) ((ne==1)&&((gr==0)&&(!fi))) false)))))
theorem JG(v:CV)(C:aB)(ki ro ac ne:Int)(st:SV)(sl:Nat)(af gr:Int)(bu fi:Bool)(pa re vn vd un tg:Int)(wa:Bool)(w:World)(hC:cK w v C):Calls Tryz.prog 85 #[v.val C,.agg #[.int .i64 ki,.int .i64 ro,.int .i64 ac,.int .i64 ne,.slice st.A sl st.c,.int .i64 af,.int .i64 gr,.bool bu,.bool fi,.int .i64 pa,.int .i64 re,.int .i64 vn,.int .i64 vd,.int .i64 un,.int .i64 tg,.bool wa]] w (dX (.bool (nJ C ki ro ac ne gr fi)) w):=by
 obtain⟨⟨g_,h_⟩,⟨ig,iq⟩,⟨jk,gD⟩,⟨iM,gB⟩,⟨gT,gU⟩⟩:=v;simp only[CV.val,CV.cells];have HC:=ah hC;clear hC;have HM:=ah (λ(r:Int)(W:World)=>xV (⟨⟨g_,h_⟩,⟨ig,iq⟩,⟨jk,gD⟩,⟨iM,gB⟩,⟨gT,gU⟩⟩:CV) C r W);simp only[CV.val,CV.cells]at HM;rw[iR (nJ C ki ro ac ne gr fi)];generalize hE:cond (nJ C ki ro ac ne gr fi) true false=E;simp only[nJ,Nb]at hE;go_enter Tryz.func85,Tryz.ntmps85;go_upto_region 1 with(fail)
 generalize hW0:World.alloc _ _=W0;obtain⟨HB,hh0,iU⟩:=Ko hW0;clear hW0;obtain⟨j5,j6,kE,lg,lq,l7,ny⟩:=Jt hh0;clear hh0;obtain⟨qW,qX,sW,xG,WU,ZE,acj,afr,afs,afu,abj,abk,abl,abm,abn,abo⟩:=ZB iU;clear iU;change Code.wp _ _ _ _ (Bl.val (⟨W0,aC _ _⟩:Bl W0));generalize(⟨W0,aC _ _⟩:Bl W0)=s0;have HN:=ah (λ(x:Int)(z:Bl W0)=>El (⟨⟨g_,h_⟩,⟨ig,iq⟩,⟨jk,gD⟩,⟨iM,gB⟩,⟨gT,gU⟩⟩:CV) C x z.val (HC.out.below (ay HB.out z.prop)));simp only[CV.val,CV.cells]at HN;repeat' (first|(replace hE:=u6 hE (by assumption))|(replace hE:=u_ hE (by assumption))|(replace hE:=mX hE;rcases hE with⟨q,q',hE⟩|⟨q,q',hE⟩)|(replace hE:=jH hE;rcases hE with⟨q,hE⟩|⟨q,hE⟩)|fail)
 all_goals
  subst hE;go_wp2_with (first|(go_at_call 89;refine dL (HM.out _ _) (by assumption) (λz=>?_))|(go_at_call 86;refine dL (HN.out _ _) (by assumption) (λz=>?_)));first
   |(go_ret;exact⟨rfl,ay HB.out (Bl.prop _)⟩)
   |(refine aI (by kernel_rfl) (by kernel_rfl) ?_;(repeat(go_big_quiet_step (first|(go_at_call 89;exact Calls.dw (lit (HM.out _ _) (by assumption)))|(go_at_call 86;exact Calls.dw (lit (HN.out _ _) (by assumption))))));refine aS ?_;rintro _ ⟨zq,rfl⟩;go_wp2;go_ret;exact⟨rfl,ay HB.out (Bl.prop _)⟩)
end
open Go.RowKit
def tL(C:aB)(i:Nat)(cl is:Int):Bool:=((!decide (cl<0))&&((!decide ((C.clauses.length:Int)<=cl))&&((!(cl==(i:Int)))&&((!decide (is<1))&&(!decide (4<is))))))
def nK(C:aB)(i:Nat)(l:List iW):Bool:=l.all (λk=>tL C i k.clause k.is)
def Em(C:aB)(ki ro ac ne gr af:Int)(fi:Bool)(sl:Nat):Bool:=((!decide (ac<0))&&((!decide ((C.acts.length:Int)<=ac))&&((!decide (af<1))&&((!decide (400<af))&&((nJ C ki ro ac ne gr fi)&&(!decide (8<(sl:Int))))))))
def Af(C:aB)(pa re:Int):Bool:=(cond ((!(pa== -1))||(!(re== -1))) ((!(pa==re))&&((C.natural pa)&&(C.natural re))) true)
def aB.Gb(C:aB)(i:Int):Int:=if 0<=i then(C.units[i.toNat]?.map (·.kind)).getD 0 else 0
def Gc(C:aB)(ki un vn vd tg:Int):Bool:=(cond (un== -1) ((dK.zero ⟨vn,vd⟩)&&(tg== -1)) (((ki==1)||(ki==2))&&(decide (0<=un)&&(decide (un<(C.units.length:Int))&&((C.Gb un==2)&&((dK.plus ⟨vn,vd⟩)&&(C.role tg)))))))
def aB.jl(C:aB)(i:Nat)(k:aU):Bool:=
 Em C k.kind k.role k.act k.need k.lZ k.after k.final k.start.length&&(nK C i k.start&&(Af C k.pause k.resume&&Gc C k.kind k.unit k.value.num k.value.den k.tgt))
theorem Lj(l:List aU)(ss:List SV){i j:Nat}{k:aU}{t:SV}(hk:l[i]?=some k)(ht:ss[i]?=some t)(hj:j<16):
 ((l.zip ss).flatMap (λp=>p.1.cells p.2))[i*16+j]?=(k.cells t)[j]?:=by
 have h:(l.zip ss)[i]?=some (k,t):=by rw[Ei];exact⟨hk,ht⟩
 exact dh (λp:aU×SV=>p.1.cells p.2) 16 (λ_=>rfl) (l.zip ss) i j (k,t) h hj
theorem cK.clause{w:World}{v:CV}{C:aB}(h:cK w v C){i:Nat}{k:aU}(hk:C.clauses[i]?=some k):
 ∃b off st,v.k.A=some ⟨b,off,none⟩/\b<w.heap.size/\(∀W,Below w.heap.size w W->∀j,j<16->W.cell? ⟨b,off+i*16+j,none⟩=(k.cells st)[j]?)/\At w 2 st.A k.start.length st.c (k.start.flatMap iW.cells):=by
 have hi:i<C.clauses.length:=(bC.1 hk).1;obtain⟨ss,h1,h2,h3⟩:=h.clauses;obtain⟨b,off,hA,hb,hc⟩:=h2.1.form (by omega) (by omega);have ht:ss[i]?=some (ss[i]'(by omega)):=aW _;refine⟨b,off,ss[i]'(by omega),hA,hb,λW hW j hj=>?_,h3 i k _ hk ht⟩;rw[hW.cell (p:=⟨b,off+i*16+j,none⟩) hb,lV,hc _ (by omega)];exact Lj C.clauses ss hk ht hj
theorem cK.unit{w:World}{v:CV}{C:aB}(h:cK w v C){i:Nat}{a:gy}(ha:C.units[i]?=some a):
 ∃b off,v.u.A=some ⟨b,off,none⟩/\b<w.heap.size/\∀W,Below w.heap.size w W->∀j,j<5->W.cell? ⟨b,off+i*5+j,none⟩=a.cells[j]?:=by
 have hi:i<C.units.length:=(bC.1 ha).1;obtain⟨b,off,hA,hb,hc⟩:=h.units.1.form (by omega) (by omega);refine⟨b,off,hA,hb,λW hW j hj=>?_⟩;rw[hW.cell (p:=⟨b,off+i*5+j,none⟩) hb,lV,hc _ (by omega)];exact dh _ 5 (λ_=>rfl) C.units i j a ha hj
theorem Ll{C:aB}{i:Nat}{l:List iW}{j:Nat}{x:iW}(hx:l[j]?=some x)(h:nK C i (l.take j)=true)(h2:tL C i x.clause x.is=true):nK C i (l.take (j+1))=true:=by
 obtain⟨hj,rfl⟩:=bC.1 hx;unfold nK at*;rw[List.take_succ_eq_append_getElem hj,List.all_append,h];simpa using h2
theorem Nu{C:aB}{i:Nat}{l:List iW}{j:Nat}{x:iW}(hx:l[j]?=some x)(h2:tL C i x.clause x.is=false):nK C i l=false:=by
 cases e:nK C i l with
 |false=>rfl
 |true=>
  unfold nK at e;rw[fE.1 e x (bT hx)]at h2;cases h2
theorem vg{C:aB}{ki ro ac ne gr af:Int}{fi:Bool}{start:List iW}(h1:(decide (ac<0)||(decide ((C.acts.length:Int)<=ac)||(decide (af<1)||decide (400<af))))=false)(h2:((!(nJ C ki ro ac ne gr fi))||decide (8<(start.length:Int)))=false):Em C ki ro ac ne gr af fi start.length=true:=by
 simp only[pQ,Bool.not_eq_false']at h1 h2;unfold Em;rw[h1.1,h1.2.1,h1.2.2.1,h1.2.2.2,h2.1,h2.2];rfl
theorem Ut{C:aB}{pa re:Int}(h:((!(pa== -1))||(!(re== -1)))=false):Af C pa re=true:=by unfold Af;rw[h];rfl
theorem Uu{C:aB}{pa re:Int}(h:((!(pa== -1))||(!(re== -1)))=true)(h5:((pa==re)||((!(C.natural pa))||(!(C.natural re))))=false):Af C pa re=true:=by
 unfold Af;rw[h];revert h5;cases pa==re<;>cases C.natural pa<;>cases C.natural re<;>simp
theorem Uv{C:aB}{pa re:Int}(h:((!(pa== -1))||(!(re== -1)))=true)(h5:((pa==re)||((!(C.natural pa))||(!(C.natural re))))=true):Af C pa re=false:=by
 unfold Af;rw[h];revert h5;cases pa==re<;>cases C.natural pa<;>cases C.natural re<;>simp
theorem Qv{C:aB}{ki ro ac ne gr af:Int}{fi:Bool}{start:List iW}(h1:(decide (ac<0)||(decide ((C.acts.length:Int)<=ac)||(decide (af<1)||decide (400<af))))=true):Em C ki ro ac ne gr af fi start.length=false:=by
 unfold Em;revert h1;cases decide (ac<0)<;>cases decide ((C.acts.length:Int)<=ac)<;>cases decide (af<1)<;>cases decide (400<af)<;>simp
theorem Qw{C:aB}{ki ro ac ne gr af:Int}{fi:Bool}{start:List iW}(h2:((!(nJ C ki ro ac ne gr fi))||decide (8<(start.length:Int)))=true):Em C ki ro ac ne gr af fi start.length=false:=by
 unfold Em;revert h2;cases nJ C ki ro ac ne gr fi<;>cases decide (8<(start.length:Int))<;>simp
theorem Fh(v:CV)(C:aB)(i:Nat)(k:aU)(w:World)(hC:cK w v C)(hk:C.clauses[i]?=some k):Calls Tryz.prog 57 #[v.val C,.int .i64 i] w (dX (.bool (C.jl i k)) w):=by
 have hil:i<C.clauses.length:=(bC.1 hk).1;obtain⟨b,off,⟨stA,Bv⟩,jB,hb,hcell,hst⟩:=hC.clause hk;obtain⟨⟨g_,h_⟩,⟨ig,iq⟩,⟨jk,gD⟩,⟨iM,gB⟩,⟨gT,gU⟩⟩:=v;simp only at jB;subst jB;obtain⟨ki,ro,ac,ne,start,af,gr,bu,fi,pa,re,⟨vn,vd⟩,un,tg,wa⟩:=k;have hsx:start.length<=9223372036854775807:=by have h1:=hst.2.2.1;have h2:=hst.2.2.2;unfold maxLen at h2;simp only at h1 h2⊢;omega
 generalize hE:C.jl i ⟨ki,ro,ac,ne,start,af,gr,bu,fi,pa,re,⟨vn,vd⟩,un,tg,wa⟩=E;simp only[aB.jl]at hE;have HE:=ah hE;clear hE;have HST:=ah hst;clear hst;have HC:=ah hC;clear hC;clear hk;have heq:=λ(w:World)=>Ae w vn vd;obtain⟨c0,c1,c2,c3,c4,c5,c6,c7,c8,c9,c10,c11,c12,c13,c14,c15⟩:=F9 (hcell w (aC _ _)) rfl;clear hcell;have i0:(0:Int)<=(i:Int):=by omega
 have i1:(i:Int)<(C.clauses.length:Int):=by omega
 simp only[CV.val,CV.cells];go_enter Tryz.func57,Tryz.ntmps57;go_upto_region 2 with(fail)
 generalize hW0:World.alloc _ _=W0;obtain⟨HB,hh0,iU⟩:=Ko hW0;clear hW0;obtain⟨j5,j6,kE,lg,lq,l7,ny⟩:=Jt hh0;clear hh0;obtain⟨qW,qX,sW,xG,WU,ZE,acj,afr,afs,afu,abj,abk,abl,abm,abn,abo⟩:=ZB iU;clear iU;change Code.wp _ _ _ _ (Bl.val (⟨W0,aC _ _⟩:Bl W0));generalize(⟨W0,aC _ _⟩:Bl W0)=s0;clear c0 c1 c2 c3 c4 c5 c6 c7 c8 c9 c10 c11 c12 c13 c14 c15;have HM:=ah (λ(x:Int)(W:World)=>xV (⟨⟨g_,h_⟩,⟨ig,iq⟩,⟨jk,gD⟩,⟨some ⟨b,off,none⟩,gB⟩,⟨gT,gU⟩⟩:CV) C x W);simp only[CV.val,CV.cells]at HM;have HN:=ah (λ(x:Int)(z:Bl W0)=>El (⟨⟨g_,h_⟩,⟨ig,iq⟩,⟨jk,gD⟩,⟨some ⟨b,off,none⟩,gB⟩,⟨gT,gU⟩⟩:CV) C x z.val (HC.out.below (ay HB.out z.prop)));simp only[CV.val,CV.cells]at HN;have HK:=ah (λ(z:Bl W0)=>JG (⟨⟨g_,h_⟩,⟨ig,iq⟩,⟨jk,gD⟩,⟨some ⟨b,off,none⟩,gB⟩,⟨gT,gU⟩⟩:CV) C ki ro ac ne ⟨stA,Bv⟩ start.length af gr bu fi pa re vn vd un tg wa z.val (HC.out.below (ay HB.out z.prop)));simp only[CV.val,CV.cells]at HK;have ZF:Hid (0<=un->un<(C.units.length:Int)->∃ub uo,ig=some ⟨ub,uo,none⟩/\∀z:Bl W0,z.val.cell? ⟨ub,uo+un.toNat*5+1,none⟩=some (.int .i64 (C.Gb un))):=λh0 h1=>by
  obtain⟨a,ha⟩:∃a,C.units[un.toNat]?=some a:=⟨C.units[un.toNat]'(by omega),aW _⟩;obtain⟨ub,uo,ZG,_,huc⟩:=HC.out.unit ha;refine⟨ub,uo,ZG,λz=>(huc _ (ay HB.out z.prop) 1 (by omega)).trans ?_⟩;unfold aB.Gb;rw[if_pos h0,ha];rfl
 obtain⟨b1,nC⟩:∃b,Hid ((decide (ac<0)||(decide ((C.acts.length:Int)<=ac)||(decide (af<1)||decide (400<af))))=b):=⟨_,rfl⟩;go_upto_region 2 with(fail)
 go_cut [33] (λc wx=>c= .bool b1/\∃z:Bl W0,wx=z.val)
 case first=>
  have hE:=(iR (decide (ac<0)||(decide ((C.acts.length:Int)<=ac)||(decide (af<1)||decide (400<af))))).symm.trans nC.out;simp only[Nb]at hE;repeat' (first|(replace hE:=u6 hE (by assumption))|(replace hE:=u_ hE (by assumption))|(replace hE:=mX hE;rcases hE with⟨q,q',hE⟩|⟨q,q',hE⟩)|(replace hE:=jH hE;rcases hE with⟨q,hE⟩|⟨q,hE⟩)|fail)
  all_goals
   subst hE
   as_aux_lemma=>
    go_wp2_with (first|(go_at_call 85;refine dL (HK.out _) (by assumption) (λz=>?_))|(go_at_call 89;refine dL (HM.out _ _) (by assumption) (λz=>?_))|(go_at_call 86;refine dL (HN.out _ _) (by assumption) (λz=>?_))|(go_at_call 87;refine(ji _).mono ?_;rintro e z ⟨rfl,hz⟩;obtain⟨z,rfl⟩:=Bl.on hz;clear hz)|(go_at_call 88;refine dL (eu ⟨vn,vd⟩ _) (by assumption) (λz=>?_)))
    go_meet
    exact⟨rfl,_,rfl⟩
 case rest=>
  obtain⟨rfl,z1,rfl⟩:=hcut;cases b1 with
  |false=>
   as_aux_lemma=>
    have xW:=nC;clear nC;obtain⟨b2,Ju⟩:∃b,Hid (((!(nJ C ki ro ac ne gr fi))||decide (8<(start.length:Int)))=b):=⟨_,rfl⟩;go_upto_region 4 with(fail)
    go_cut [43] (λc wx=>c= .bool b2/\∃z:Bl W0,wx=z.val)
    case first=>
     have hE:=(iR ((!(nJ C ki ro ac ne gr fi))||decide (8<(start.length:Int)))).symm.trans Ju.out;simp only[Nb]at hE;repeat' (first|(replace hE:=u6 hE (by assumption))|(replace hE:=u_ hE (by assumption))|(replace hE:=mX hE;rcases hE with⟨q,q',hE⟩|⟨q,q',hE⟩)|(replace hE:=jH hE;rcases hE with⟨q,hE⟩|⟨q,hE⟩)|fail)
     all_goals
      subst hE
      as_aux_lemma=>
       go_wp2_with (first|(go_at_call 85;refine dL (HK.out _) (by assumption) (λz=>?_))|(go_at_call 89;refine dL (HM.out _ _) (by assumption) (λz=>?_))|(go_at_call 86;refine dL (HN.out _ _) (by assumption) (λz=>?_))|(go_at_call 87;refine(ji _).mono ?_;rintro e z ⟨rfl,hz⟩;obtain⟨z,rfl⟩:=Bl.on hz;clear hz)|(go_at_call 88;refine dL (eu ⟨vn,vd⟩ _) (by assumption) (λz=>?_)))
       go_meet
       exact⟨rfl,_,rfl⟩
    case rest=>
     obtain⟨rfl,z2,rfl⟩:=hcut;cases b2 with
     |false=>
      as_aux_lemma=>
       have FD:=Ju;clear Ju;go_wp2
       go_loopg [47] start.length (λgk v47 wr=>∃(j:Nat)(z:Bl W0),gk=start.length - j/\j<=start.length/\v47= .int .i64 j/\wr=z.val/\Hid (nK C i (start.take j)=true))
       case atStart=>exact⟨0,_,rfl,aZ _,rfl,rfl,rfl⟩
       case round=>
        obtain⟨j,z,eZ,hj,rfl,rfl,hpre⟩:=hrel;have iL:=ah eZ;clear eZ;by_cases hlt:j<start.length
        .obtain⟨⟨cl,is⟩,hx⟩:∃x,start[j]?=some x:=⟨start[j],aW hlt⟩
         obtain⟨b2,off2,hA2,hb2,hc2⟩:=(HST.out.below (by omega) (ay HB.out z.prop)).1.form (by omega) (by omega);try simp only at hA2
         subst hA2;have e0:z.val.cell? ⟨b2,off2+j*2,none⟩=some (.int .i64 cl):=by rw[hc2 _ (by omega)];exact dh iW.cells 2 (λ_=>rfl) start j 0 _ hx (by omega)
         have e1:z.val.cell? ⟨b2,off2+j*2+1,none⟩=some (.int .i64 is):=by rw[lV,hc2 _ (by omega)];exact dh iW.cells 2 (λ_=>rfl) start j 1 _ hx (by omega)
         clear hc2;have HX:=ah hx;clear hx;have j1:(j:Int)<(start.length:Int):=by omega
         go_upto_region 9 with(fail)
         generalize hWa:World.alloc _ _=Wa;obtain⟨hba,hxa⟩:=bx1' hWa;clear hWa;obtain⟨d0,d1⟩:=kc2 hxa;obtain⟨za,hza⟩:∃za:Bl W0,za.val=Wa:=⟨⟨Wa,ay z.prop hba⟩,rfl⟩;replace d0:=d0 ⟨Wa,aC _ _⟩;replace d1:=d1 ⟨Wa,aC _ _⟩;simp only at d0 d1;subst hza;clear hba hxa e0 e1;obtain⟨b5,HP5,hE⟩:∃b,Hid ((tL C i cl is)=b)/\cond (tL C i cl is) true false=b:=⟨_,rfl,(iR _).symm⟩;simp only[tL,Nb]at hE;repeat' (first|(replace hE:=u6 hE (by assumption))|(replace hE:=u_ hE (by assumption))|(replace hE:=mX hE;rcases hE with⟨q,q',hE⟩|⟨q,q',hE⟩)|(replace hE:=jH hE;rcases hE with⟨q,hE⟩|⟨q,hE⟩)|fail)
         all_goals first
          |focus
           obtain rfl:b5=false:=hE.symm;clear hE
           as_aux_lemma=>
            obtain rfl:E=false:=by rw[<-HE.out,vg xW.out FD.out,Nu HX.out HP5.out];rfl
            go_wp2_with (first|fail);first
             |(go_ret;exact⟨rfl,ay HB.out (Bl.prop _)⟩)
             |(refine aI (by kernel_rfl) (by kernel_rfl) ?_;(repeat(go_big_quiet_step (first|fail)));refine aS ?_;rintro _ ⟨zq,rfl⟩;go_wp2;go_ret;exact⟨rfl,ay HB.out (Bl.prop _)⟩)
          |focus
           obtain rfl:b5=true:=hE.symm;clear hE
           as_aux_lemma=>
            go_wp2
            go_roundg (start.length - (j+1))
            case measure=>rw[iL.out];omega
            case rel=>exact⟨j+1,_,rfl,by omega,by go_num,rfl,Ll HX.out hpre.out HP5.out⟩
        .obtain rfl:j=start.length:=by omega
         have Nv:Hid (nK C i start=true):=by have h:=hpre.out;rwa [uY (bJ _)]at h
         clear hpre iL;obtain⟨b4,ZH⟩:∃b,Hid (((!(pa== -1))||(!(re== -1)))=b):=⟨_,rfl⟩;go_upto_region 12 with(fail)
         go_cut [86] (λc wx=>c= .bool b4/\∃z:Bl W0,wx=z.val)
         case first=>
          have hE:=(iR ((!(pa== -1))||(!(re== -1)))).symm.trans ZH.out;simp only[Nb]at hE;repeat' (first|(replace hE:=u6 hE (by assumption))|(replace hE:=u_ hE (by assumption))|(replace hE:=mX hE;rcases hE with⟨q,q',hE⟩|⟨q,q',hE⟩)|(replace hE:=jH hE;rcases hE with⟨q,hE⟩|⟨q,hE⟩)|fail)
          all_goals
           subst hE
           as_aux_lemma=>
            go_wp2_with (first|(go_at_call 85;refine dL (HK.out _) (by assumption) (λz=>?_))|(go_at_call 89;refine dL (HM.out _ _) (by assumption) (λz=>?_))|(go_at_call 86;refine dL (HN.out _ _) (by assumption) (λz=>?_))|(go_at_call 87;refine(ji _).mono ?_;rintro e z ⟨rfl,hz⟩;obtain⟨z,rfl⟩:=Bl.on hz;clear hz)|(go_at_call 88;refine dL (eu ⟨vn,vd⟩ _) (by assumption) (λz=>?_)))
            go_meet
            exact⟨rfl,_,rfl⟩
         case rest=>
          obtain⟨rfl,z4,rfl⟩:=hcut;cases b4 with
          |false=>
           as_aux_lemma=>
            have Wt:Hid (Af C pa re=true):=Ut ZH.out;clear ZH;obtain⟨b3,Zh,hE⟩:∃b,Hid ((Gc C ki un vn vd tg)=b)/\cond (Gc C ki un vn vd tg) true false=b:=⟨_,rfl,(iR _).symm⟩;simp only[Gc,Nb]at hE;repeat' (first|(replace hE:=u6 hE (by assumption))|(replace hE:=u_ hE (by assumption))|(replace hE:=mX hE;rcases hE with⟨q,q',hE⟩|⟨q,q',hE⟩)|(replace hE:=jH hE;rcases hE with⟨q,hE⟩|⟨q,hE⟩)|fail)
            all_goals first
             |focus
              obtain rfl:b3=false:=hE.symm;clear hE
              as_aux_lemma=>
               obtain rfl:E=false:=by rw[<-HE.out,vg xW.out FD.out,Nv.out,Wt.out,Zh.out];rfl
               try(have hu0:=of_decide_eq_true (by assumption:decide (0<=un)=true);have hu1:=of_decide_eq_true (by assumption:decide (un<(C.units.length:Int))=true);have Zi:=ZF.out hu0 hu1;obtain⟨ub,uo,ZG,cu⟩:=Zi;subst ZG)
               go_wp2_with (first|(go_at_call 85;refine dL (HK.out _) (by assumption) (λz=>?_))|(go_at_call 89;refine dL (HM.out _ _) (by assumption) (λz=>?_))|(go_at_call 86;refine dL (HN.out _ _) (by assumption) (λz=>?_))|(go_at_call 87;refine(ji _).mono ?_;rintro e z ⟨rfl,hz⟩;obtain⟨z,rfl⟩:=Bl.on hz;clear hz)|(go_at_call 88;refine dL (eu ⟨vn,vd⟩ _) (by assumption) (λz=>?_)));first
                |(go_ret;exact⟨rfl,ay HB.out (Bl.prop _)⟩)
                |(refine aI (by kernel_rfl) (by kernel_rfl) ?_;(repeat(go_big_quiet_step (first|(go_at_call 85;exact Calls.dw (lit (HK.out _) (by assumption)))|(go_at_call 89;exact Calls.dw (lit (HM.out _ _) (by assumption)))|(go_at_call 86;exact Calls.dw (lit (HN.out _ _) (by assumption)))|(go_at_call 87;exact Calls.dw (ji _))|(go_at_call 88;exact Calls.dw (lit (eu ⟨vn,vd⟩ _) (by assumption))))));refine aS ?_;rintro _ ⟨zq,rfl⟩;go_wp2;go_ret;exact⟨rfl,ay HB.out (Bl.prop _)⟩)
             |focus
              obtain rfl:b3=true:=hE.symm;clear hE
              as_aux_lemma=>
               obtain rfl:E=true:=by rw[<-HE.out,vg xW.out FD.out,Nv.out,Wt.out,Zh.out];rfl
               try(have hu0:=of_decide_eq_true (by assumption:decide (0<=un)=true);have hu1:=of_decide_eq_true (by assumption:decide (un<(C.units.length:Int))=true);have Zi:=ZF.out hu0 hu1;obtain⟨ub,uo,ZG,cu⟩:=Zi;subst ZG)
               go_wp2_with (first|(go_at_call 85;refine dL (HK.out _) (by assumption) (λz=>?_))|(go_at_call 89;refine dL (HM.out _ _) (by assumption) (λz=>?_))|(go_at_call 86;refine dL (HN.out _ _) (by assumption) (λz=>?_))|(go_at_call 87;refine(ji _).mono ?_;rintro e z ⟨rfl,hz⟩;obtain⟨z,rfl⟩:=Bl.on hz;clear hz)|(go_at_call 88;refine dL (eu ⟨vn,vd⟩ _) (by assumption) (λz=>?_)));first
                |(go_ret;exact⟨rfl,ay HB.out (Bl.prop _)⟩)
                |(refine aI (by kernel_rfl) (by kernel_rfl) ?_;(repeat(go_big_quiet_step (first|(go_at_call 85;exact Calls.dw (lit (HK.out _) (by assumption)))|(go_at_call 89;exact Calls.dw (lit (HM.out _ _) (by assumption)))|(go_at_call 86;exact Calls.dw (lit (HN.out _ _) (by assumption)))|(go_at_call 87;exact Calls.dw (ji _))|(go_at_call 88;exact Calls.dw (lit (eu ⟨vn,vd⟩ _) (by assumption))))));refine aS ?_;rintro _ ⟨zq,rfl⟩;go_wp2;go_ret;exact⟨rfl,ay HB.out (Bl.prop _)⟩)
          |true=>
           as_aux_lemma=>
            obtain⟨b6,HP6⟩:∃b,Hid (((pa==re)||((!(C.natural pa))||(!(C.natural re))))=b):=⟨_,rfl⟩;go_upto_region 13 with(fail)
            go_cut [105] (λc wx=>c= .bool b6/\∃z:Bl W0,wx=z.val)
            case first=>
             have hE:=(iR ((pa==re)||((!(C.natural pa))||(!(C.natural re))))).symm.trans HP6.out;simp only[Nb]at hE;repeat' (first|(replace hE:=u6 hE (by assumption))|(replace hE:=u_ hE (by assumption))|(replace hE:=mX hE;rcases hE with⟨q,q',hE⟩|⟨q,q',hE⟩)|(replace hE:=jH hE;rcases hE with⟨q,hE⟩|⟨q,hE⟩)|fail)
             all_goals
              subst hE
              as_aux_lemma=>
               go_wp2_with (first|(go_at_call 85;refine dL (HK.out _) (by assumption) (λz=>?_))|(go_at_call 89;refine dL (HM.out _ _) (by assumption) (λz=>?_))|(go_at_call 86;refine dL (HN.out _ _) (by assumption) (λz=>?_))|(go_at_call 87;refine(ji _).mono ?_;rintro e z ⟨rfl,hz⟩;obtain⟨z,rfl⟩:=Bl.on hz;clear hz)|(go_at_call 88;refine dL (eu ⟨vn,vd⟩ _) (by assumption) (λz=>?_)))
               go_meet
               exact⟨rfl,_,rfl⟩
            case rest=>
             obtain⟨rfl,z6,rfl⟩:=hcut;cases b6 with
             |false=>
              as_aux_lemma=>
               have Wt:Hid (Af C pa re=true):=Uu ZH.out HP6.out;clear ZH HP6;obtain⟨b3,Zh,hE⟩:∃b,Hid ((Gc C ki un vn vd tg)=b)/\cond (Gc C ki un vn vd tg) true false=b:=⟨_,rfl,(iR _).symm⟩;simp only[Gc,Nb]at hE;repeat' (first|(replace hE:=u6 hE (by assumption))|(replace hE:=u_ hE (by assumption))|(replace hE:=mX hE;rcases hE with⟨q,q',hE⟩|⟨q,q',hE⟩)|(replace hE:=jH hE;rcases hE with⟨q,hE⟩|⟨q,hE⟩)|fail)
               all_goals first
                |focus
                 obtain rfl:b3=false:=hE.symm;clear hE
                 as_aux_lemma=>
                  obtain rfl:E=false:=by rw[<-HE.out,vg xW.out FD.out,Nv.out,Wt.out,Zh.out];rfl
                  try(have hu0:=of_decide_eq_true (by assumption:decide (0<=un)=true);have hu1:=of_decide_eq_true (by assumption:decide (un<(C.units.length:Int))=true);have Zi:=ZF.out hu0 hu1;obtain⟨ub,uo,ZG,cu⟩:=Zi;subst ZG)
                  go_wp2_with (first|(go_at_call 85;refine dL (HK.out _) (by assumption) (λz=>?_))|(go_at_call 89;refine dL (HM.out _ _) (by assumption) (λz=>?_))|(go_at_call 86;refine dL (HN.out _ _) (by assumption) (λz=>?_))|(go_at_call 87;refine(ji _).mono ?_;rintro e z ⟨rfl,hz⟩;obtain⟨z,rfl⟩:=Bl.on hz;clear hz)|(go_at_call 88;refine dL (eu ⟨vn,vd⟩ _) (by assumption) (λz=>?_)));first
                   |(go_ret;exact⟨rfl,ay HB.out (Bl.prop _)⟩)
                   |(refine aI (by kernel_rfl) (by kernel_rfl) ?_;(repeat(go_big_quiet_step (first|(go_at_call 85;exact Calls.dw (lit (HK.out _) (by assumption)))|(go_at_call 89;exact Calls.dw (lit (HM.out _ _) (by assumption)))|(go_at_call 86;exact Calls.dw (lit (HN.out _ _) (by assumption)))|(go_at_call 87;exact Calls.dw (ji _))|(go_at_call 88;exact Calls.dw (lit (eu ⟨vn,vd⟩ _) (by assumption))))));refine aS ?_;rintro _ ⟨zq,rfl⟩;go_wp2;go_ret;exact⟨rfl,ay HB.out (Bl.prop _)⟩)
                |focus
                 obtain rfl:b3=true:=hE.symm;clear hE
                 as_aux_lemma=>
                  obtain rfl:E=true:=by rw[<-HE.out,vg xW.out FD.out,Nv.out,Wt.out,Zh.out];rfl
                  try(have hu0:=of_decide_eq_true (by assumption:decide (0<=un)=true);have hu1:=of_decide_eq_true (by assumption:decide (un<(C.units.length:Int))=true);have Zi:=ZF.out hu0 hu1;obtain⟨ub,uo,ZG,cu⟩:=Zi;subst ZG)
                  go_wp2_with (first|(go_at_call 85;refine dL (HK.out _) (by assumption) (λz=>?_))|(go_at_call 89;refine dL (HM.out _ _) (by assumption) (λz=>?_))|(go_at_call 86;refine dL (HN.out _ _) (by assumption) (λz=>?_))|(go_at_call 87;refine(ji _).mono ?_;rintro e z ⟨rfl,hz⟩;obtain⟨z,rfl⟩:=Bl.on hz;clear hz)|(go_at_call 88;refine dL (eu ⟨vn,vd⟩ _) (by assumption) (λz=>?_)));first
                   |(go_ret;exact⟨rfl,ay HB.out (Bl.prop _)⟩)
                   |(refine aI (by kernel_rfl) (by kernel_rfl) ?_;(repeat(go_big_quiet_step (first|(go_at_call 85;exact Calls.dw (lit (HK.out _) (by assumption)))|(go_at_call 89;exact Calls.dw (lit (HM.out _ _) (by assumption)))|(go_at_call 86;exact Calls.dw (lit (HN.out _ _) (by assumption)))|(go_at_call 87;exact Calls.dw (ji _))|(go_at_call 88;exact Calls.dw (lit (eu ⟨vn,vd⟩ _) (by assumption))))));refine aS ?_;rintro _ ⟨zq,rfl⟩;go_wp2;go_ret;exact⟨rfl,ay HB.out (Bl.prop _)⟩)
             |true=>
              as_aux_lemma=>
               obtain rfl:E=false:=by rw[<-HE.out,vg xW.out FD.out,Nv.out,Uv ZH.out HP6.out];rfl
               go_wp2;go_ret;exact⟨rfl,ay HB.out (Bl.prop _)⟩
     |true=>
      as_aux_lemma=>
       obtain rfl:E=false:=by rw[<-HE.out,Qw Ju.out];rfl
       go_wp2;go_ret;exact⟨rfl,ay HB.out (Bl.prop _)⟩
  |true=>
   as_aux_lemma=>
    obtain rfl:E=false:=by rw[<-HE.out,Qv nC.out];rfl
    go_wp2;go_ret;exact⟨rfl,ay HB.out (Bl.prop _)⟩
end Go.Proofs.YtpmdedcnbockhaaGreatDoor

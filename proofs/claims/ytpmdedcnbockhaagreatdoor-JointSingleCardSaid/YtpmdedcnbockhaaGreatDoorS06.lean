/- part -/
import Derived.Test.YtpmdedcnbockhaaGreatDoorS00
import Derived.Test.YtpmdedcnbockhaaGreatDoorS05
set_option maxRecDepth 100000
set_option maxHeartbeats 8000000
namespace Go.Proofs.YtpmdedcnbockhaaGreatDoor
section
open Go.RowKit Tryz
def ay.cells(x:ay):List Value:=[.int .i64 x.ref,.int .i64 x.act,.int .i64 x.low,.int .i64 x.high,.int .i64 x.filed,.bool x.secret]
def aX.cells(b:aX):List Value:=[.int .i64 b.ref,.int .i64 b.next]
def bH(l:List ay):List Value:=l.flatMap ay.cells
def eT(l:List aX):List Value:=l.flatMap aX.cells
structure FV where
 f:SV
 o:SV
def FV.cells(v:FV)(f:bR):List Value:=[.int .i64 f.house,.slice v.f.A f.facts.length v.f.c,.slice v.o.A f.orders.length v.o.c]
def FV.val(v:FV)(f:bR):Value:=.agg (v.cells f).toArray
structure gJ(w:World)(v:FV)(f:bR):Prop where
 facts:At w 6 v.f.A f.facts.length v.f.c (bH f.facts)
 orders:At w 2 v.o.A f.orders.length v.o.c (eT f.orders)
theorem gJ.below{w w':World}{v:FV}{f:bR}(h:gJ w v f)(hb:Below w.heap.size w w'):gJ w' v f:=
 ⟨h.facts.below (by omega) hb,h.orders.below (by omega) hb⟩
theorem gJ.acR{w:World}{v:FV}{f:bR}(h:gJ w v f):f.facts.length<=v.f.c/\v.f.c<=9223372036854775807:=by
 have h1:=h.facts.2.2.1;have h2:=h.facts.2.2.2;unfold maxLen at h2;omega
theorem gJ.acS{w:World}{v:FV}{f:bR}(h:gJ w v f):f.orders.length<=v.o.c/\v.o.c<=9223372036854775807:=by
 have h1:=h.orders.2.2.1;have h2:=h.orders.2.2.2;unfold maxLen at h2;omega
def mF(w:World)(v:SV)(l:List bR):Prop:=
 ∃ts:List FV,ts.length=l.length/\At w 3 v.A l.length v.c ((l.zip ts).flatMap (λp=>FV.cells p.2 p.1))/\∀(i:Nat)(f:bR)(t:FV),l[i]?=some f->ts[i]?=some t->gJ w t f
theorem mF.below{w w':World}{v:SV}{l:List bR}(h:mF w v l)(hb:Below w.heap.size w w'):mF w' v l:=by
 obtain⟨ts,h1,h2,h3⟩:=h;exact⟨ts,h1,h2.below (by omega) hb,λi s t hs ht=>(h3 i s t hs ht).below hb⟩
theorem mF.form{w:World}{v:SV}{l:List bR}(h:mF w v l)(hl:0<l.length):
 ∃b off,v.A=some ⟨b,off,none⟩/\b<w.heap.size/\∀(i:Nat)(f:bR),l[i]?=some f->∃t:FV,gJ w t f/\∀W,Below w.heap.size w W->∀j,j<3->W.cell? ⟨b,off+i*3+j,none⟩=(t.cells f)[j]?:=by
 obtain⟨ts,h1,h2,h3⟩:=h;obtain⟨b,off,hA,hb,hc⟩:=h2.1.form hl (by omega);refine⟨b,off,hA,hb,λi s hs=>?_⟩;have hi:i<l.length:=(bB.1 hs).1;have ht:ts[i]?=some (ts[i]'(by omega)):=aS _;refine⟨ts[i]'(by omega),h3 i s _ hs ht,λW hW j hj=>?_⟩;rw[hW.cell (p:=⟨b,off+i*3+j,none⟩) hb,iR,hc _ (by omega)];have hz:(l.zip ts)[i]?=some (s,ts[i]'(by omega)):=by rw[Kk];exact⟨hs,ht⟩
 exact bG (λp:bR×FV=>FV.cells p.2 p.1) 3 (λ_=>rfl) (l.zip ts) i j _ hz hj
theorem At.fact{w:World}{A:Option Addr}{c:Nat}{l:List ay}(h:At w 6 A l.length c (bH l))(hl:0<l.length):
 ∃b off,A=some ⟨b,off,none⟩/\b<w.heap.size/\∀(i:Nat)(x:ay),l[i]?=some x->∀W,Below w.heap.size w W->∀j,j<6->W.cell? ⟨b,off+i*6+j,none⟩=x.cells[j]?:=by
 obtain⟨b,off,hA,hb,hc⟩:=h.1.form hl (by omega);refine⟨b,off,hA,hb,λi x hx W hW j hj=>?_⟩;have hi:i<l.length:=(bB.1 hx).1;rw[hW.cell (p:=⟨b,off+i*6+j,none⟩) hb,iR,hc _ (by omega)];exact bG ay.cells 6 (λ_=>rfl) l i j x hx hj
theorem At.vB{w:World}{A:Option Addr}{c:Nat}{l:List aX}(h:At w 2 A l.length c (eT l))(hl:0<l.length):
 ∃b off,A=some ⟨b,off,none⟩/\b<w.heap.size/\∀(i:Nat)(x:aX),l[i]?=some x->∀W,Below w.heap.size w W->∀j,j<2->W.cell? ⟨b,off+i*2+j,none⟩=x.cells[j]?:=by
 obtain⟨b,off,hA,hb,hc⟩:=h.1.form hl (by omega);refine⟨b,off,hA,hb,λi x hx W hW j hj=>?_⟩;have hi:i<l.length:=(bB.1 hx).1;rw[hW.cell (p:=⟨b,off+i*2+j,none⟩) hb,iR,hc _ (by omega)];exact bG aX.cells 2 (λ_=>rfl) l i j x hx hj
end
open Go.RowKit Tryz
theorem Ky(x:Int)(w:World):Calls prog 92 #[.int .i64 x] w (dZ (.bool false) w):=by
 have h:(x !=x)=false:=by simp
 go_enter func92,ntmps92;go_wp2;go_ret;exact⟨by first|rfl|simp,aC _ _⟩
def lK(x y:Int):Int:=cond (decide (x<y)) (-1) (cond (decide (y<x)) 1 0)
theorem xQ(x y:Int)(w:World):Calls prog 60 #[.int .i64 x,.int .i64 y] w (dZ (.int .i64 (lK x y)) w):=by
 generalize hE:lK x y=E;simp only[lK]at hE;repeat' (first|(replace hE:=uI hE (by assumption))|(replace hE:=uJ hE (by assumption))|(replace hE:=mP hE;rcases hE with⟨q,q',hE⟩|⟨q,q',hE⟩)|(replace hE:=jL hE;rcases hE with⟨q,hE⟩|⟨q,hE⟩)|fail)
 all_goals
  subst hE;go_enter func60,ntmps60;go_wp2_with (go_at_call 92;refine(Ky _ _).mono ?_;rintro e z ⟨rfl,hz⟩;obtain⟨z,rfl⟩:∃z':Bl w,z=z'.val:=⟨⟨z,hz⟩,rfl⟩;clear hz;refine Hid.out ?_);refine ah ?_;go_wp2_with (go_at_call 92;refine(Ky _ _).mono ?_;rintro e z ⟨rfl,hz⟩;obtain⟨z,rfl⟩:=Bl.on hz;clear hz;refine Hid.out ?_);refine ah ?_;go_wp2;go_ret;exact⟨rfl,Bl.prop _⟩
theorem aah(g:Nat)(x y:Int)(w:World)(h0:w.cell? ⟨g,0,none⟩=some (.int .i64 x))(h1:w.cell? ⟨g,1,none⟩=some (.int .i64 y)):Calls prog 61 #[.slice (some ⟨g,0,none⟩) 2 2] w (dZ (.int .i64 (cond (x==0) y x)) w):=by
 generalize hE:cond (x==0) y x=E;cases q:(x==0)with
 |false=>
  have q':(x !=0)=true:=by simp[bne,q]
  rw[q,cond_false]at hE;subst hE;go_enter func61,ntmps61;go_wp2
  go_loopg [8] 0 (λgk v8 wr=>v8= .int .i64 0/\w=wr)
  case atStart=>exact⟨rfl,rfl⟩
  case round=>
   obtain⟨rfl,rfl⟩:=hrel;go_wp2;go_ret;exact⟨rfl,aC _ _⟩
 |true=>
  have q':(x !=0)=false:=by simp[bne,q]
  rw[q,cond_true]at hE;subst hE;go_enter func61,ntmps61;go_wp2
  go_loopg [8] 2 (λgk v8 wr=>∃j:Nat,gk=2 - j/\j<=2/\v8= .int .i64 j/\w=wr/\(j=2->y=0))
  case atStart=>exact⟨0,rfl,by omega,rfl,rfl,λh=>by omega⟩
  case round=>
   obtain⟨j,eO,hj,rfl,rfl,hy⟩:=hrel;have iw:=ah eO;clear eO;rcases(by omega:j=0\/j=1\/j=2)with rfl|rfl|rfl
   .clear hy
    go_wp2
    go_roundg 1
    case measure=>have:=iw.out;omega
    case rel=>exact⟨1,by omega,by omega,by go_num,rfl,λh=>by omega⟩
   .clear hy
    cases p:(y==0)with
    |false=>
     have p':(y !=0)=true:=by simp[bne,p]
     go_wp2;go_ret;exact⟨rfl,aC _ _⟩
    |true=>
     have p':(y !=0)=false:=by simp[bne,p]
     have hy0:y=0:=by simpa using p
     have HY:=ah hy0;clear hy0;go_wp2
     go_roundg 0
     case measure=>have:=iw.out;omega
     case rel=>exact⟨2,by omega,by omega,by go_num,rfl,λ_=>HY.out⟩
   .have hy0:=hy rfl
    clear hy;subst hy0;go_wp2;go_ret;exact⟨rfl,aC _ _⟩
def Db(a b:aX):Int:=cond (lK a.ref b.ref==0) (lK a.next b.next) (lK a.ref b.ref)
theorem LA(x y:Int):lK x y<0↔x<y:=by
 unfold lK;by_cases h:x<y
 .simp[h]
 .by_cases h2:y<x<;>simp[h,h2]
theorem Te(x y:Int):(lK x y==0)=(x==y):=by
 unfold lK;by_cases h:x<y
 .have:x≠y:=by omega
  simp[h,this]
 .by_cases h2:y<x
  .have:x≠y:=by omega
   simp[h,h2,this]
  .have:x=y:=by omega
   simp[this]
theorem aai(a b:aX):Db a b<0↔FD a b:=by
 unfold Db FD;rw[Te];cases q:(a.ref==b.ref)with
 |true=>rw[beq_iff_eq]at q;rw[cond_true,LA];omega
 |false=>rw[beq_eq_false_iff_ne]at q;rw[cond_false,LA];omega
instance (a b:aX):Decidable (FD a b):=by unfold FD;exact inferInstance
theorem aaj(a b:aX):(decide (0<=Db a b))= !decide (FD a b):=by
 rw[Bool.eq_iff_iff];simp only[decide_eq_true_eq,jk,decide_eq_false_iff_not];rw[<-aai];omega
def nD(C:au)(re ac lo hi fi:Int):Bool:=decide (1<=re)&&(decide (re<=1000000)&&(decide (0<=ac)&&(decide (ac<(C.acts.length:Int))&&(decide (0<=lo)&&(decide (lo<=hi)&&(decide (hi<C.days)&&(decide (0<=fi)&&decide (fi<=C.days))))))))
theorem JN(v:CV)(C:au)(re ac lo hi fi:Int)(se:Bool)(w:World):Calls prog 32 #[v.val C,.agg #[.int .i64 re,.int .i64 ac,.int .i64 lo,.int .i64 hi,.int .i64 fi,.bool se]] w (dZ (.bool (nD C re ac lo hi fi)) w):=by
 obtain⟨⟨dV,dW⟩,⟨dX,dY⟩,⟨fB,dH⟩,⟨eZ,dM⟩,⟨dQ,dR⟩⟩:=v;simp only[CV.val,CV.cells];rw[iW (nD C re ac lo hi fi)];generalize hE:cond (nD C re ac lo hi fi) true false=E;simp only[nD,Na]at hE;go_enter func32,ntmps32;go_upto_region 1 with(fail)
 generalize hW0:World.alloc _ _=W0;obtain⟨HB,hh0,gG⟩:=F5 hW0;clear hW0;obtain⟨iC,iD,iI,iy,iP,jc,jA⟩:=CS hh0;clear hh0;obtain⟨jM,jY,qO,tV,Xb,Z7⟩:=kc6 gG;clear gG;change Code.wp _ _ _ _ (Bl.val (⟨W0,aC _ _⟩:Bl W0));generalize(⟨W0,aC _ _⟩:Bl W0)=s0;repeat' (first|(replace hE:=uI hE (by assumption))|(replace hE:=uJ hE (by assumption))|(replace hE:=mP hE;rcases hE with⟨q,q',hE⟩|⟨q,q',hE⟩)|(replace hE:=jL hE;rcases hE with⟨q,hE⟩|⟨q,hE⟩)|fail)
 all_goals
  subst hE;go_wp2_with (first|fail);first
   |(go_ret;exact⟨rfl,av HB.out (Bl.prop _)⟩)
   |(refine aI ?_;(repeat(go_big_quiet_step (first|fail)));refine aY ?_;rintro _ ⟨zq,rfl⟩;go_wp2_with (first|fail);go_ret;exact⟨rfl,av HB.out (Bl.prop _)⟩)
end Go.Proofs.YtpmdedcnbockhaaGreatDoor

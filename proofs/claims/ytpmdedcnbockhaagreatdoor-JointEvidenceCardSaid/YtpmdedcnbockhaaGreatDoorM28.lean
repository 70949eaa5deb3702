/-
  CuD; CuE; CuF; CuG; CuH; CuP; CuQ; CuR
-/
import Derived.Test.YtpmdedcnbockhaaGreatDoorM27
set_option maxRecDepth 100000
set_option maxHeartbeats 8000000
namespace Go.Proofs.YtpmdedcnbockhaaGreatDoor
section
open Go.RowKit Go.Shelf
def exA:jg:=⟨1,0,0, -1, -1,⟨0,1⟩⟩
def exC:aB:=⟨2,[0,1],[],[exA,exA],[],3,[]⟩
def exL:List au:=[⟨1,0,0,1,0,false⟩,⟨2,1,0,2,0,false⟩]
def exO:List aP:=[⟨1,2⟩]
def exF:aM:=⟨0,exL,exO⟩
end
section
open Go.RowKit Go.Shelf
attribute [local go_sem] jJ stillUpon bH
theorem Sg{F:List au}{r:Int}(h:∀x∈F,x.ref≠r):kK F r= -1:=by
 unfold kK;rw[List.findIdx?_eq_none_iff.2 (λx hx=>by simp[h x hx])]
theorem IY{F:List au}{r:Int}{k:Nat}{x:au}(hk:F[k]?=some x)(hr:x.ref=r)(h:∀y∈F.take k,y.ref≠r):kK F r=k:=by
 unfold kK;obtain⟨hl,rfl⟩:=bC.1 hk;rw[(List.findIdx?_eq_some_iff_getElem (i:=k)).2 ⟨hl,by simp[hr],λj hj=>by
  have:=h F[j] (List.mem_take_iff_getElem.2 ⟨j,by omega,rfl⟩);simpa using this⟩]
theorem IZ(F:List au)(r:Int)(a:SV)(w:World)(hF:At w 6 a.A F.length a.c (bE F)):
 Calls Tryz.prog 19 #[.slice a.A F.length a.c,.int .i64 r] w (dX (.int .i64 (kK F r)) w):=by
 refine(YG F r a w hF).mono ?_;rintro e z ⟨i,rfl,hb,(⟨rfl,h⟩|⟨k,x,rfl,hk,hr,h⟩)⟩
 .rw[Sg h];exact⟨rfl,hb⟩
 .rw[IY hk hr h];exact⟨rfl,hb⟩
theorem E5(F:List au)(r:Int): -1<=kK F r/\kK F r<F.length:=by
 unfold kK;cases h:F.findIdx? (λx=>x.ref==r)with
 |none=>simp only;omega
 |some i=>
  have:=(List.findIdx?_eq_some_iff_getElem.1 h).1;simp only;omega
theorem VY{F:List au}{r:Int}(h:0<=kK F r):∃x,F[(kK F r).toNat]?=some x/\x.ref=r:=by
 unfold kK at*;cases e:F.findIdx? (λx=>x.ref==r)with
 |none=>rw[e]at h;simp at h
 |some i=>
  obtain⟨h1,h2,_⟩:=List.findIdx?_eq_some_iff_getElem.1 e;exact⟨F[i],by simp,by simpa using h2⟩
end
section
open Go.RowKit Go.Shelf
attribute [local go_sem] jJ stillUpon bH
def VZ(f:aM)(D:List Int):Prop:=
 D.length=f.facts.length/\(∀(i:Nat)(x:au)(d:Int),f.facts[i]?=some x->D[i]?=some d->x.low<=d/\d<=x.high)/\∀b∈f.orders,∃(i j:Nat)(d e:Int),kK f.facts b.ref=i/\kK f.facts b.next=j/\D[i]?=some d/\D[j]?=some e/\d<=e
def aaN(f:aM)(D:List Int)(w:World)(e:Ending)(w':World):Prop:=∃x:Bool,e= .returned (.bool x)/\(x=true->VZ f D)/\Below w.heap.size w w'
theorem aaO(f:aM)(D:List Int)(a:FV)(dA:Option Addr)(dc:Nat)(w:World)(hf:dB w a f)(hD:At w 1 dA D.length dc (aY D)):
 Calls Tryz.prog 13 #[a.val f,.slice dA D.length dc] w (aaN f D w):=by
 obtain⟨⟨fA,fc⟩,⟨oA,oc⟩⟩:=a;obtain⟨hx,F,O⟩:=f;have l1:=mH hf.facts;have l2:=mH hf.orders;have l3:=mH hD;simp only at l1 l2 l3;have HF:=ah hf;clear hf;have HD:=ah hD;clear hD;simp only[FV.val,FV.cells];go_enter Tryz.func13,Tryz.ntmps13;go_upto_region 1 with(fail)
 generalize hW0:World.alloc _ _=W0;obtain⟨HB,hh0⟩:=bx1 hW0;clear hW0;obtain⟨_,k1,k2⟩:=kc3 hh0;have K1:=ah k1;have K2:=ah k2;have e1:=k1 ⟨W0,aC _ _⟩;simp only at e1;clear hh0 k1 k2;by_cases hlen:D.length=F.length
 .have q0:((D.length:Int)!=(F.length:Int))=false:=by simp[hlen]
  have HLEN:=ah hlen;clear hlen;go_wp2;clear e1 q0
  go_loopw [5] (λv wr=>∃k:Nat,k<=D.length/\v= .int .i64 k/\Hid (∀(i:Nat)(x:au)(d:Int),i<k->F[i]?=some x->D[i]?=some d->x.low<=d/\d<=x.high)/\Hid (Below W0.heap.size W0 wr)) (λv _=>D.length - (intOf v).toNat)
  case atStart=>exact⟨0,aZ _,rfl,(λi _ _ h=>by omega),aC _ _⟩
  case round=>
   obtain⟨k,hk,rfl,HT,kL⟩:=hrel;by_cases hlt:k<D.length
   .have hlt2:k<F.length:=by have:=HLEN.out;omega
    obtain⟨d,hd⟩:∃d,D[k]?=some d:=⟨_,aW hlt⟩;obtain⟨x,hx⟩:∃x,F[k]?=some x:=⟨_,aW hlt2⟩;obtain⟨g1,o1,p1,hg1,hc1⟩:=HD.out.1.form (by omega) (by omega);obtain⟨g2,o2,p2,hg2,hc2⟩:=HF.out.facts.fact (show 0<F.length by omega);simp only at p2;subst p1 p2;have x0:∀z:Bl wr,z.val.cell? ⟨g1,o1+k,none⟩=some (.int .i64 d):=λz=>((ay HB.out (ay kL.out z.prop)).cell (p:=⟨g1,o1+k,none⟩) hg1).trans ((hc1 k (by omega)).trans (fI hd));have x2:∀z:Bl wr,z.val.cell? ⟨g2,o2+k*6+2,none⟩=some (.int .i64 x.low):=λz=>hc2 k x hx z.val (ay HB.out (ay kL.out z.prop)) 2 (by omega);have x3:∀z:Bl wr,z.val.cell? ⟨g2,o2+k*6+3,none⟩=some (.int .i64 x.high):=λz=>hc2 k x hx z.val (ay HB.out (ay kL.out z.prop)) 3 (by omega);have b1:∀z:Bl wr,z.val.cell? ⟨w.heap.size,1,none⟩=some (.slice (some ⟨g2,o2,none⟩) F.length fc):=λz=>K1.out ⟨z.val,ay kL.out z.prop⟩;have i1:(k:Int)<(D.length:Int):=by omega
    have i2:(k:Int)<(F.length:Int):=by omega
    have HX:Hid (F[k]?=some x/\D[k]?=some d):=⟨hx,hd⟩;clear hx hd hc1 hc2;go_upto_region 6 with(fail)
    change Code.wp _ _ _ _ (Bl.val (⟨wr,aC _ _⟩:Bl wr));generalize(⟨wr,aC _ _⟩:Bl wr)=za;cases q1:decide (d<x.low)with
    |true=>
     refine aI (by kernel_rfl) (by kernel_rfl) ?_;repeat(go_big_quiet_step (fail))
     refine aS ?_;rintro _ ⟨zb,rfl⟩;have uR:=ah (ay HB.out (ay kL.out zb.prop));go_wp2;go_ret;exact⟨false,rfl,(λh=>by cases h),uR.out⟩
    |false=>
     cases q2:decide (x.high<d)with
     |true=>
      refine aI (by kernel_rfl) (by kernel_rfl) ?_;repeat(go_big_quiet_step (fail))
      refine aS ?_;rintro _ ⟨zb,rfl⟩;have uR:=ah (ay HB.out (ay kL.out zb.prop));go_wp2;go_ret;exact⟨false,rfl,(λh=>by cases h),uR.out⟩
     |false=>
      have Nl:Hid (∀(i:Nat)(x:au)(d:Int),i<k+1->F[i]?=some x->D[i]?=some d->x.low<=d/\d<=x.high):=λi y e hi hy he=>by
       rcases iO i k with h|h
       .exact HT.out i y e h hy he
       .obtain rfl:i=k:=by omega
        rw[HX.out.1]at hy;rw[HX.out.2]at he;obtain rfl:=Option.some.inj hy;obtain rfl:=Option.some.inj he;rw[decide_eq_false_iff_not]at q1 q2;omega
      refine aI (by kernel_rfl) (by kernel_rfl) ?_;repeat(go_big_quiet_step (fail))
      refine aS ?_;rintro _ ⟨zb,rfl⟩;have uR:Hid (Below W0.heap.size W0 zb.val):=ay kL.out zb.prop;clear x0 x2 x3 b1 q1 q2 kL;generalize zb.val=Wd at uR⊢;go_wp2
      go_roundw
      case rel=>exact⟨k+1,by omega,by go_num,Nl,uR⟩
      case measure=>simp[intOf];omega
   .obtain rfl:k=D.length:=by omega
    have HTF:Hid (∀(i:Nat)(x:au)(d:Int),F[i]?=some x->D[i]?=some d->x.low<=d/\d<=x.high):=λi x d hx hd=>HT.out i x d (bC.1 hd).1 hx hd;clear hk hlt HT;go_wp2
    go_loopw [6] (λv wr=>∃k:Nat,k<=O.length/\v= .int .i64 k/\Hid (∀b∈O.take k,∃(i j:Nat)(d e:Int),kK F b.ref=i/\kK F b.next=j/\D[i]?=some d/\D[j]?=some e/\d<=e)/\Hid (Below W0.heap.size W0 wr)) (λv _=>O.length - (intOf v).toNat)
    case atStart=>exact⟨0,aZ _,rfl,(λb hb=>by simp at hb),kL⟩
    case round=>
     clear kL;obtain⟨k,hk,rfl,HT,kL⟩:=hrel;have c2:=K2.out ⟨wr,kL.out⟩;simp only at c2;by_cases hlt:k<O.length
     .obtain⟨b,hb⟩:∃b,O[k]?=some b:=⟨_,aW hlt⟩
      obtain⟨g2,o2,p2,hg2,hc2⟩:=HF.out.orders.vI (show 0<O.length by omega);simp only at p2;subst p2;have x0:∀z:Bl wr,z.val.cell? ⟨g2,o2+k*2,none⟩=some (.int .i64 b.ref):=λz=>hc2 k b hb z.val (ay HB.out (ay kL.out z.prop)) 0 (by omega);have x1:∀z:Bl wr,z.val.cell? ⟨g2,o2+k*2+1,none⟩=some (.int .i64 b.next):=λz=>hc2 k b hb z.val (ay HB.out (ay kL.out z.prop)) 1 (by omega);have b1:∀z:Bl wr,z.val.cell? ⟨w.heap.size,1,none⟩=some (.slice fA F.length fc):=λz=>K1.out ⟨z.val,ay kL.out z.prop⟩;have b2:∀z:Bl wr,z.val.cell? ⟨w.heap.size,2,none⟩=some (.slice (some ⟨g2,o2,none⟩) O.length oc):=λz=>K2.out ⟨z.val,ay kL.out z.prop⟩;have i1:(k:Int)<(O.length:Int):=by omega
      have HX:=ah hb;have Jy:=ah (λz:Bl wr=>IZ F b.ref ⟨fA,fc⟩ z.val (HF.out.facts.below (by omega) (ay HB.out (ay kL.out z.prop))));have L8:=ah (λz:Bl wr=>IZ F b.next ⟨fA,fc⟩ z.val (HF.out.facts.below (by omega) (ay HB.out (ay kL.out z.prop))));have r1:=E5 F b.ref;have r2:=E5 F b.next;have Nl:Hid ((∃(i j:Nat)(d e:Int),kK F b.ref=i/\kK F b.next=j/\D[i]?=some d/\D[j]?=some e/\d<=e)->∀b∈O.take (k+1),∃(i j:Nat)(d e:Int),kK F b.ref=i/\kK F b.next=j/\D[i]?=some d/\D[j]?=some e/\d<=e):=λh y hy=>by
       rw[qM,HX.out]at hy;rcases dJ.1 hy with h1|h1
       .exact HT.out y h1
       .simp at h1;rw[h1];exact h
      generalize kK F b.ref=u1 at Jy r1 Nl;generalize kK F b.next=u2 at L8 r2 Nl;clear hb hc2;go_upto_region 11 with(fail)
      change Code.wp _ _ _ _ (Bl.val (⟨wr,aC _ _⟩:Bl wr));generalize(⟨wr,aC _ _⟩:Bl wr)=za;refine aI (by kernel_rfl) (by kernel_rfl) ?_;repeat(go_big_quiet_step ((go_at_call 19;exact Calls.dw (Jy.out _))))
      refine aS ?_;rintro _ ⟨zb,rfl⟩;clear Jy x0;go_wp2;refine aI (by kernel_rfl) (by kernel_rfl) ?_;repeat(go_big_quiet_step ((go_at_call 19;exact Calls.dw (L8.out _))))
      refine aS ?_;rintro _ ⟨zc,rfl⟩;clear L8 x1 b1 b2 c2;by_cases h1:u1<0
      .go_upto_region 13 with(fail)
       refine aI (by kernel_rfl) (by kernel_rfl) ?_;repeat(go_big_quiet_step (fail))
       refine aS ?_;rintro _ ⟨zd,rfl⟩;have uR:=ah (ay HB.out (ay kL.out zd.prop));go_wp2;go_ret;exact⟨false,rfl,(λh=>by cases h),uR.out⟩
      .by_cases h2:u2<0
       .go_upto_region 13 with(fail)
        refine aI (by kernel_rfl) (by kernel_rfl) ?_;repeat(go_big_quiet_step (fail))
        refine aS ?_;rintro _ ⟨zd,rfl⟩;have uR:=ah (ay HB.out (ay kL.out zd.prop));go_wp2;go_ret;exact⟨false,rfl,(λh=>by cases h),uR.out⟩
       .obtain⟨n1,rfl⟩:∃n:Nat,u1=n:=⟨u1.toNat,by omega⟩
        obtain⟨n2,rfl⟩:∃n:Nat,u2=n:=⟨u2.toNat,by omega⟩;have m1:n1<D.length:=by have:=HLEN.out;omega
        have m2:n2<D.length:=by have:=HLEN.out;omega
        obtain⟨d1,hd1⟩:∃d,D[n1]?=some d:=⟨_,aW m1⟩;obtain⟨d2,hd2⟩:∃d,D[n2]?=some d:=⟨_,aW m2⟩;obtain⟨g1,o1,p1,hg1,hc1⟩:=HD.out.1.form (by omega) (by omega);subst p1;have y1:∀z:Bl wr,z.val.cell? ⟨g1,o1+n1,none⟩=some (.int .i64 d1):=λz=>((ay HB.out (ay kL.out z.prop)).cell (p:=⟨g1,o1+n1,none⟩) hg1).trans ((hc1 n1 (by omega)).trans (fI hd1));have y2:∀z:Bl wr,z.val.cell? ⟨g1,o1+n2,none⟩=some (.int .i64 d2):=λz=>((ay HB.out (ay kL.out z.prop)).cell (p:=⟨g1,o1+n2,none⟩) hg1).trans ((hc1 n2 (by omega)).trans (fI hd2));have j1:(n1:Int)<(D.length:Int):=by omega
        have j2:(n2:Int)<(D.length:Int):=by omega
        have HDD:Hid (D[n1]?=some d1/\D[n2]?=some d2):=⟨hd1,hd2⟩;clear hd1 hd2 hc1 r1 r2;cases q3:decide (d2<d1)with
        |true=>
         go_upto_region 13 with(fail)
         refine aI (by kernel_rfl) (by kernel_rfl) ?_;repeat(go_big_quiet_step (fail))
         refine aS ?_;rintro _ ⟨zd,rfl⟩;have uR:=ah (ay HB.out (ay kL.out zd.prop));go_wp2;go_ret;exact⟨false,rfl,(λh=>by cases h),uR.out⟩
        |false=>
         have HTM:=ah (Nl.out ⟨n1,n2,d1,d2,rfl,rfl,HDD.out.1,HDD.out.2,by rw[decide_eq_false_iff_not]at q3;omega⟩);clear Nl;go_upto_region 13 with(fail)
         refine aI (by kernel_rfl) (by kernel_rfl) ?_;repeat(go_big_quiet_step (fail))
         refine aS ?_;rintro _ ⟨zd,rfl⟩;have uR:Hid (Below W0.heap.size W0 zd.val):=ay kL.out zd.prop;clear y1 y2 q3 kL zc zb za;generalize zd.val=Wd at uR⊢;go_wp2
         go_roundw
         case rel=>exact⟨k+1,by omega,by go_num,HTM,uR⟩
         case measure=>simp[intOf];omega
     .obtain rfl:k=O.length:=by omega
      have HTO:=ah HT.out;rw[gW]at HTO;have uR:=ah (ay HB.out kL.out);go_wp2;go_ret;exact⟨true,rfl,(λ_=>⟨HLEN.out,HTF.out,HTO.out⟩),uR.out⟩
 .have q0:((D.length:Int)!=(F.length:Int))=true:=by simp only[bne_iff_ne,ne_eq];omega
  clear hlen;go_wp2;go_ret;exact⟨false,rfl,(λh=>by cases h),HB.out⟩
def aeh(C:aB)(w:World)(e:Ending)(w':World):Prop:=
 ∃(hA:Option Addr)(hc:Nat)(uA:Option Addr)(uc:Nat)(aA:Option Addr)(ac:Nat)(kA:Option Addr)(kc:Nat)(oA:Option Addr)(oc:Nat),e= .returned (CV.val ⟨⟨hA,hc⟩,⟨uA,uc⟩,⟨aA,ac⟩,⟨kA,kc⟩,⟨oA,oc⟩⟩ C)/\cK w' ⟨⟨hA,hc⟩,⟨uA,uc⟩,⟨aA,ac⟩,⟨kA,kc⟩,⟨oA,oc⟩⟩ C/\Below w.heap.size w w'
theorem zl{w:World}{size n g:Nat}{xs:List Value}{t:TypeId}(h:w.heap[g]?=some (.cells xs.toArray t (0,0)))(hl:xs.length=n*size)(h1:∀u∈xs,u.oneCell'=true)(hn:n<=maxLen):At w size (some ⟨g,0,none⟩) n n xs:=by
 refine⟨⟨hl,h1,λ_=>⟨_,rfl,λj u hj=>?_⟩⟩,(λh=>by cases h),bJ _,hn⟩;rw[Addr.add_lit,aL _ _ (0+j) _ _ _ h];simpa using hj
end
section
open Go.RowKit Go.Shelf
theorem At.one{w:World}{g:Nat}{o:Obj}{t:TypeId}{cs:List Value}(h:w.heap[g]?=some o)(e:o= .cells cs.toArray t (0,0)):w.heap[g]?=some (.cells cs.toArray t (0,0)):=by rw[h,e]
structure YO(V:World)(cb fb:Nat)(v:CV)(t:FV):Prop where
 con:cK V v exC
 file:dB V t exF
 kZ:Own V 27 cb [.int .i64 2,.slice v.h.A 2 v.h.c,.slice v.u.A 0 v.u.c,.slice v.a.A 2 v.a.c,.slice v.k.A 0 v.k.c,.int .i64 3,.slice v.o.A 0 v.o.c]
 CQ:Own V 31 fb [.int .i64 0,.slice t.f.A 2 t.f.c,.slice t.o.A 1 t.o.c]
theorem YO.below{V V':World}{cb fb:Nat}{v:CV}{t:FV}(h:YO V cb fb v t)(hb:Below V.heap.size V V'):YO V' cb fb v t:=
 ⟨h.con.below hb,h.file.below hb,h.kZ.below hb,h.CQ.below hb⟩
theorem YO.cells{V:World}{cb fb:Nat}{v:CV}{t:FV}(h:YO V cb fb v t):
 V.cell? ⟨cb,0,none⟩=some (.int .i64 2)/\V.cell? ⟨cb,1,none⟩=some (.slice v.h.A 2 v.h.c)/\V.cell? ⟨cb,2,none⟩=some (.slice v.u.A 0 v.u.c)/\V.cell? ⟨cb,3,none⟩=some (.slice v.a.A 2 v.a.c)/\V.cell? ⟨cb,4,none⟩=some (.slice v.k.A 0 v.k.c)/\V.cell? ⟨cb,5,none⟩=some (.int .i64 3)/\V.cell? ⟨cb,6,none⟩=some (.slice v.o.A 0 v.o.c)/\
 V.cell? ⟨fb,0,none⟩=some (.int .i64 0)/\V.cell? ⟨fb,1,none⟩=some (.slice t.f.A 2 t.f.c)/\V.cell? ⟨fb,2,none⟩=some (.slice t.o.A 1 t.o.c):=
 ⟨h.kZ.cell rfl,h.kZ.cell rfl,h.kZ.cell rfl,h.kZ.cell rfl,h.kZ.cell rfl,h.kZ.cell rfl,h.kZ.cell rfl,h.CQ.cell rfl,h.CQ.cell rfl,h.CQ.cell rfl⟩
theorem aei{fs:List aM}(h:∀x∈aG fs,1<=x.ref/\x.ref<=2):∀x∈aG fs,fD x.ref:=λx hx=>by
 have:=h x hx;exact T_ (by omega) (by omega)
end
section
open Go.RowKit Go.Shelf
end
section
open Go.RowKit Go.Shelf
theorem jv{C:aB}{f:aM}(h:dU C f=true):qo f.facts f.orders:=by
 have h:=lQ (C:=C) (fs:=[f]) (λg hg=>by rw[d_.1 hg];exact h);rw[show aG [f]=f.facts by simp[aG],show aO [f]=f.orders by simp[aO]]at h;exact h
theorem jo.distinct{L T:List au}{O OO:List aP}(h:jo L O T OO):aT T:=h.tight.distinct (dZ L)
theorem lS.mem{C:aB}{f:aM}{u:Int}{L:List (List Int)}(h:lS C f u L 0):dU C f=true/\0<=u/\u<=C.days/\∃T OO,jo f.facts f.orders T OO/\∀x,x∈L↔∃day,Day T OO u day/\x=bW T (gK T day) u:=by
 rcases h with⟨h,_⟩|⟨h1,h2,h3,⟨h,_⟩|⟨T,OO,Y,hf,hy,⟨h,_⟩|⟨_,_,rfl⟩⟩⟩
 .cases h
 .cases h
 .cases h
 .refine⟨h1,h2,h3,T,OO,hf,λx=>?_⟩
  rw[VT,dF];constructor
  .rintro⟨D,hD,rfl⟩
   obtain⟨day,rfl,hd⟩:=(hy.mem D).1 hD;exact⟨day,hd,rfl⟩
  .rintro⟨day,hd,rfl⟩
   exact⟨_,(hy.mem _).2 ⟨day,rfl,hd⟩,rfl⟩
theorem zQ{T:List au}{day QH:Int->Int}{u:Int}(h:∀t∈T,min (day t.ref) u=min (QH t.ref) u):bW T (gK T day) u=bW T (gK T QH) u:=by
 refine ru rfl (by simp[gK]) (λd hd i=>?_);unfold gK;rw[fM,fM];cases e:T[i]? with
 |none=>simp
 |some t=>
  have:=h t (bT e);simp only[kG,Option.some.injEq];constructor<;>intro h1<;>omega
theorem I4{C:aB}{f:aM}{T:List au}{OO:List aP}(hok:dU C f=true)(h:jo f.facts f.orders T OO):Dm T:=λt ht=>by
 have hd:=eB (gQ hok);have h1:=h.tight;rw[iH hd]at h1;obtain⟨x,hx,e⟩:=h1.had ht;have h2:=sP (jQ (gQ hok) x hx).2;have h3:x.act=t.act:=congrArg (λz=>z.2.1) e;omega
theorem PG{T:List au}{D:List Int}{e l:Int}(hd:aT T)(hl:T.length=D.length)(ha:Dm T)(h0:0<=e)(hel:e<=l)(h2:l<=2000):mO (bW T D l) e=bW T D e:=by
 rw[wE hl (by omega) h2 hd.zF,wE hl h0 (by omega) hd.zF];have h:=LP ha hd.zF D (e:=e.toNat) (l:=l.toNat) (by omega);rw[show((e.toNat:Nat):Int)=e by omega]at h;exact h
theorem MQ{C:aB}{f:aM}{e l:Int}{L1 L2:List (List Int)}(h1:lS C f e L1 0)(h2:lS C f l L2 0)(hel:e<=l):(∀x∈L2,mO x e∈L1)/\∀y∈L1,∃x∈L2,mO x e=y:=by
 obtain⟨hok,he0,he1,T,OO,hf,hm1⟩:=h1.mem;obtain⟨_,hl0,hl1,T',OO',hf',hm2⟩:=h2.mem;have hk:=jv hok;obtain⟨rfl,rfl⟩:=hf.unique hf' hk;have V7:=(nk hok).1;have hb:∀day,mO (bW T (gK T day) l) e=bW T (gK T day) e:=λday=>PG hf.distinct (by simp[gK]) (I4 hok hf) he0 hel (by omega);refine⟨λx hx=>?_,λy hy=>?_⟩
 .obtain⟨day,hd,rfl⟩:=(hm2 x).1 hx
  rw[hb,hm1];exact⟨_,hd.cut hel,zQ (λt _=>by omega)⟩
 .obtain⟨day,hd,rfl⟩:=(hm1 y).1 hy
  obtain⟨QH,hd',he⟩:=hd.extend hel hf.tight (dZ _) (hk.known hf.ord) hf.le;refine⟨_,(hm2 _).2 ⟨QH,hd',rfl⟩,?_⟩;rw[hb];exact zQ (λt ht=>by have:=he t ht;omega)
def CU(F:List au)(D:List Int)(r:Int):Int:=D.getD (kK F r).toNat 0
theorem YP{F:List au}(hd:aT F){i:Nat}{x:au}(hx:F[i]?=some x):kK F x.ref=i:=by
 refine IY hx rfl (λy hy e=>?_);obtain⟨j,hj,hy'⟩:=List.mem_take_iff_getElem.1 hy;have hl:=(bC.1 hx).1;have h1:=Eh.1 hd j i (by simp;omega) (by simpa using hl) (by omega);simp only[List.getElem_map]at h1;have h2:=(bC.1 hx).2;rw[h2,hy']at h1;omega
theorem I5{F:List au}(hd:aT F){D:List Int}{i:Nat}{x:au}{d:Int}(hx:F[i]?=some x)(he:D[i]?=some d):CU F D x.ref=d:=by
 unfold CU;rw[YP hd hx];simp[List.getD,he]
theorem VZ.may{f:aM}{D:List Int}(hd:aT f.facts)(h:VZ f D):May f.facts f.orders (CU f.facts D):=by
 obtain⟨h1,h2,h3⟩:=h;have at':∀x∈f.facts,∃(i:Nat)(d:Int),f.facts[i]?=some x/\D[i]?=some d:=λx hx=>by
  obtain⟨i,hi⟩:=j3.1 hx;have hl:=(bC.1 hi).1;exact⟨i,D[i]'(by omega),hi,aW _⟩
 refine⟨λx hx=>?_,λx hx=>?_,λb hb=>?_⟩
 .obtain⟨i,d,hi,he⟩:=at' x hx
  rw[I5 hd hi he];exact(h2 i x d hi he).1
 .obtain⟨i,d,hi,he⟩:=at' x hx
  rw[I5 hd hi he];exact(h2 i x d hi he).2
 .obtain⟨i,j,d,e,hi,hj,hdi,hej,hle⟩:=h3 b hb
  unfold CU;rw[hi,hj];simp[List.getD,hdi,hej,hle]
theorem CW{F T:List au}{D:List Int}(hd:aT F)(hl:D.length=F.length)(hr:T.map (·.ref)=F.map (·.ref)):gK T (CU F D)=D:=by
 have hlen:T.length=F.length:=by have:=congrArg List.length hr;simpa using this
 have e:gK T (CU F D)=(T.map (·.ref)).map (CU F D):=by unfold gK;rw[ow];rfl
 rw[e,hr];apply kM;intro i;rw[fM,fM];cases e1:F[i]? with
 |none=>
  have:=List.getElem?_eq_none_iff.1 e1;rw[nH (l:=D) (by omega)];rfl
 |some x=>
  have h1:=(bC.1 e1).1;have e2:D[i]?=some (D[i]'(by omega)):=aW _;rw[e2];simp only[kG,Option.some.injEq];exact I5 hd e1 e2
theorem oV{F T:List au}{OO:List aP}(h:d9 F T OO):T.map (λx=>(x.ref,x.act))=F.map (λx=>(x.ref,x.act)):=by
 have h1:=congrArg (List.map (λz:Int×Int×Int×Bool=>(z.1,z.2.1))) h.rest;rw[ow,ow]at h1;exact h1
theorem D8{T F:List au}(h:T.map (λx=>(x.ref,x.act))=F.map (λx=>(x.ref,x.act))):T.map (·.ref)=F.map (·.ref):=by
 have h1:=congrArg (List.map Prod.fst) h;rw[ow,ow]at h1;exact h1
theorem I6{C:aB}{f:aM}{D:List Int}(hok:dU C f=true)(hm:VZ f D):
 (∀{ho F O er},mK C [f] ho F O er->er=0)/\(∀{u L er},lS C f u L er->er≠23/\(er=0->bW f.facts D u∈L)/\(er≠0->er=3\/u<0\/C.days<u)):=by
 have hk:=jv hok;have hd:=eB (gQ hok);have hmay:=hm.may hd;have hne:¬yB f.facts f.orders:=hmay.zD hd.same;refine⟨λ{ho F O er} h=>?_,λ{u L er} h=>⟨?_,?_,?_⟩⟩
 .rcases h with⟨_,_,_,_,h⟩|⟨_,f0,_,h⟩
  .exact absurd ⟨by simp,λg hg=>by rw[d_.1 hg];exact hok⟩ h
  .rw[show aG [f]=f.facts by simp[aG],show aO [f]=f.orders by simp[aO]]at h
   rcases h with⟨h,_⟩|⟨_,_,_,_,h⟩
   .exact h
   .exact absurd h hne
 .rintro rfl
  rcases h with⟨h,_⟩|⟨_,_,_,⟨_,_,h⟩|⟨T,OO,Y,_,_,⟨h,_⟩|⟨h,_⟩⟩⟩
  .cases h
  .exact hne h
  .cases h
  .cases h
 .rintro rfl
  obtain⟨_,h0,h1,T,OO,hf,hmem⟩:=h.mem;have ht:=hf.tight;rw[iH hd]at ht;have hT:May T OO (CU f.facts D):=by
   have:=hmay.tight hf.ord hf.tight;exact this
  rw[hmem];refine⟨_,hT.day u,?_⟩;have e1:bW f.facts D u=bW T D u:=ru (oV ht).symm rfl (λ_ _ _=>Iff.rfl);rw[e1];have e2:=CW (T:=T) hd hm.1 (D8 (oV ht));rw[<-e2];exact(zQ (λt _=>by rw[e2];omega)).symm
 .intro hne0
  rcases h with⟨_,_,h⟩|⟨_,_,_,⟨_,_,h⟩|⟨T,OO,Y,_,_,⟨h,_⟩|⟨h,_⟩⟩⟩
  .rcases Int.lt_or_le u 0 with h1|h1
   .exact .inr (.inl h1)
   .rcases Int.lt_or_le C.days u with h2|h2
    .exact .inr (.inr h2)
    .exact absurd ⟨hok,h1,h2⟩ h
  .exact absurd h hne
  .exact .inl h
  .exact absurd h hne0
end
section
open Go.RowKit Go.Shelf
structure uV(V:World)(cb:Nat)(v:CV)(C:aB):Prop where
 con:cK V v C
 kZ:Own V 27 cb [.int .i64 C.aJ,.slice v.h.A C.aj.length v.h.c,.slice v.u.A C.units.length v.u.c,.slice v.a.A C.acts.length v.a.c,.slice v.k.A C.clauses.length v.k.c,.int .i64 C.days,.slice v.o.A C.off.length v.o.c]
theorem uV.below{V V':World}{cb:Nat}{v:CV}{C:aB}(h:uV V cb v C)(hb:Below V.heap.size V V'):uV V' cb v C:=⟨h.con.below hb,h.kZ.below hb⟩
theorem uV.cells{V:World}{cb:Nat}{v:CV}{C:aB}(h:uV V cb v C):
 V.cell? ⟨cb,0,none⟩=some (.int .i64 C.aJ)/\V.cell? ⟨cb,1,none⟩=some (.slice v.h.A C.aj.length v.h.c)/\V.cell? ⟨cb,2,none⟩=some (.slice v.u.A C.units.length v.u.c)/\V.cell? ⟨cb,3,none⟩=some (.slice v.a.A C.acts.length v.a.c)/\V.cell? ⟨cb,4,none⟩=some (.slice v.k.A C.clauses.length v.k.c)/\V.cell? ⟨cb,5,none⟩=some (.int .i64 C.days)/\V.cell? ⟨cb,6,none⟩=some (.slice v.o.A C.off.length v.o.c):=
 ⟨h.kZ.cell rfl,h.kZ.cell rfl,h.kZ.cell rfl,h.kZ.cell rfl,h.kZ.cell rfl,h.kZ.cell rfl,h.kZ.cell rfl⟩
structure Si(V:World)(fb:Nat)(t:FV)(f:aM):Prop where
 file:dB V t f
 CQ:Own V 31 fb [.int .i64 f.house,.slice t.f.A f.facts.length t.f.c,.slice t.o.A f.orders.length t.o.c]
theorem Si.below{V V':World}{fb:Nat}{t:FV}{f:aM}(h:Si V fb t f)(hb:Below V.heap.size V V'):Si V' fb t f:=⟨h.file.below hb,h.CQ.below hb⟩
theorem Si.cells{V:World}{fb:Nat}{t:FV}{f:aM}(h:Si V fb t f):V.cell? ⟨fb,0,none⟩=some (.int .i64 f.house)/\V.cell? ⟨fb,1,none⟩=some (.slice t.f.A f.facts.length t.f.c)/\V.cell? ⟨fb,2,none⟩=some (.slice t.o.A f.orders.length t.o.c):=⟨h.CQ.cell rfl,h.CQ.cell rfl,h.CQ.cell rfl⟩
theorem aaP{W:World}{t:FV}{f:aM}(hF:dB W t f):dP (W.alloc (.cells #[.int .i64 f.house,.slice t.f.A f.facts.length t.f.c,.slice t.o.A f.orders.length t.o.c] 31)) ⟨some ⟨W.heap.size,0,none⟩,1⟩ [f]:=by
 generalize hW2:World.alloc _ _=W2;obtain⟨HB,h0⟩:=bx1 hW2;have o:Own W2 31 W.heap.size (jq [(f,t)]):=⟨[],by rw[bV];exact h0⟩;exact dP.row (c:=1) o (by simp) (by unfold maxLen;omega) (λq hq=>by rw[d_.1 hq];exact hF.below HB.out)
theorem lS.len{C:aB}{f:aM}{u:Int}{L:List (List Int)}(h:lS C f u L 0):∀x∈L,x.length<=10000:=λx hx=>by
 obtain⟨hok,h0,h1,T,OO,hf,hm⟩:=h.mem;obtain⟨day,_,rfl⟩:=(hm x).1 hx;have h2:=K8 (F:=T) (D:=gK T day) (u:=u);have h3:=(nk hok).1;have h4:=(IW hok).1;have h5:=hf.tight;rw[iH (eB (gQ hok))]at h5;have h6:=vT h5;omega
end
open Go.RowKit Go.Shelf
theorem E8{C:aB}:∀{T:List au}{prev:Int},aT T->(∀t∈T,lK C t=true)->(∀t∈T,prev<t.ref)->gI C prev T=true
 |[],_,_,_,_=>rfl
 |x::l,prev,hd,hk,hp=>by
  unfold aT at hd;rw[kN,w_]at hd;simp only[gI,bP,decide_eq_true_eq];exact⟨hk x (by simp),hp x (by simp),E8 hd.2 (λt ht=>hk t (jf _ ht)) (λt ht=>hd.1 _ (List.mem_map_of_mem ht))⟩
theorem K_{F:List au}:∀{O:List aP}{p:Option aP},O.Pairwise Eu->(∀b∈O,jc F b.ref=true/\jc F b.next=true/\b.ref≠b.next)->(∀a,p=some a->∀b∈O,Eu a b)->mR F p O=true
 |[],_,_,_,_=>rfl
 |b::l,p,hs,hk,hp=>by
  rw[w_]at hs;have h1:=hk b (by simp);have h2:G6 p b=true:=by
   cases p with
   |none=>rfl
   |some a=>exact decide_eq_true (hp a rfl b (by simp))
  have h3:=K_ (F:=F) (p:=some b) hs.2 (λc hc=>hk c (jf _ hc)) (λa ha c hc=>by injection ha with ha;rw[<-ha];exact hs.1 c hc);simp only[mR,bP,iV,beq_eq_false_iff_ne,ne_eq];exact⟨h1.1,h1.2.1,h1.2.2,h2,h3⟩
theorem Lc{fs:List aM}{x:au}:x∈aG fs↔∃f∈fs,x∈f.facts:=mU
theorem Sj{fs:List aM}{b:aP}:b∈aO fs↔∃f∈fs,b∈f.orders:=mU
theorem PI{C:aB}{fs:List aM}{f0:aM}{T:List au}{OO:List aP}(ha:um C fs)(h0:fs[0]?=some f0)(hf:jo (aG fs) (aO fs) T OO)(hl:T.length<=4000)(hol:OO.length<=4000):dU C ⟨f0.house,T,OO⟩=true:=by
 have hk0:=ha.2 f0 (bT h0);have fact:∀t∈T,lK C t=true:=λt ht=>by
  obtain⟨z,hz,e⟩:=hf.tight.had ht;have hz':=bU hz;have ok:∀x∈aG fs,lK C x=true:=λx hx=>by
   obtain⟨f,hfm,hxf⟩:=Lc.1 hx;exact(jQ (gQ (ha.2 f hfm)) x hxf).2
  have er:=eG e;obtain⟨x1,hx1,e1,a1⟩:=hz'.act;obtain⟨x2,hx2,e2,a2⟩:=hz'.low;obtain⟨x3,hx3,e3,a3⟩:=hz'.high;obtain⟨x4,hx4,e4,a4⟩:=hz'.filed;have l1:=hf.tight.leL z hz t ht er;have l2:=hf.tight.leH z hz t ht er;have l3:=hf.le t ht;have ea:z.act=t.act:=congrArg (λy=>y.2.1) e;have ef:z.filed=t.filed:=congrArg (λy=>y.2.2.1) e;have k1:=ok x1 hx1;have k2:=ok x2 hx2;have k3:=ok x3 hx3;have k4:=ok x4 hx4;unfold lK lH at*;simp only[bP,decide_eq_true_eq]at*;omega
 have has:∀{f:aM}{r:Int},f∈fs->jc f.facts r=true->jc T r=true:=λ{f r} hfm h=>by
  obtain⟨x,hx,rfl⟩:=wQ.1 h;obtain⟨z,hz,e⟩:=oH (Lc.2 ⟨f,hfm,hx⟩);obtain⟨t,ht,e2⟩:=hf.tight.has hz;exact wQ.2 ⟨t,ht,by rw[eG e2,e]⟩
 have hrefs:∀t∈T,(0:Int)<t.ref:=λt ht=>by
  have h:=fact t ht;unfold lK lH at h;simp only[bP,decide_eq_true_eq]at h;omega
 have h1:=E8 (C:=C) (prev:=0) hf.distinct fact hrefs;have h2:=K_ (F:=T) (p:=none) hf.ord.1 (λb hb=>by
  obtain⟨f,hfm,hbf⟩:=Sj.1 ((hf.ord.2 b).1 hb);have h:=Bh (EU (ha.2 f hfm)) b hbf;exact⟨has hfm h.1,has hfm h.2.1,h.2.2⟩) (λa h=>by cases h)
 unfold dU at hk0⊢;simp only[bP,iV,pQ,decide_eq_false_iff_not]at hk0⊢;exact⟨hk0.1,hk0.2.1,⟨by omega,by omega⟩,h1,h2⟩
theorem mK.cases{C:aB}{fs:List aM}{ho:Int}{F:List au}{O:List aP}{er:Int}(h:mK C fs ho F O er):
 (er=1/\F=[]/\¬um C fs)\/(er=23/\F=[]/\um C fs/\yB (aG fs) (aO fs))\/(er=0/\um C fs/\jo (aG fs) (aO fs) F O/\∃f0,fs[0]?=some f0/\ho=f0.house):=by
 rcases h with⟨h1,_,h2,_,h3⟩|⟨ha,f0,h0,⟨h1,h2,h3⟩|⟨h1,_,h2,_,h3⟩⟩
 .exact .inl ⟨h1,h2,h3⟩
 .exact .inr (.inr ⟨h1,ha,h3,f0,h0,h2⟩)
 .exact .inr (.inl ⟨h1,h2,ha,h3⟩)
theorem um.known{C:aB}{fs:List aM}(h:um C fs):qo (aG fs) (aO fs):=lQ h.2
end Go.Proofs.YtpmdedcnbockhaaGreatDoor

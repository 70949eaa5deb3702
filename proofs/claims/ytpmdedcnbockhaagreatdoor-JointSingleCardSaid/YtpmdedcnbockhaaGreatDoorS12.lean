/- part -/
import Derived.Test.YtpmdedcnbockhaaGreatDoorS07
import Derived.Test.YtpmdedcnbockhaaGreatDoorS09
import Derived.Sort.CutIn
set_option maxRecDepth 100000
set_option maxHeartbeats 8000000
namespace Go.Proofs.YtpmdedcnbockhaaGreatDoor
section
open Go.RowKit Tryz
theorem l8{S:Nat->Prop}{a w z:World}(h:aG S a w)(hz:Below w.heap.size w z):aG S a z:=h.trans (aG.of_below hz) (λi hi hs=>by have:=h.size;omega)
theorem bQ{S:Nat->Prop}{w w':World}(h:aG S w w'){b o:Nat}(hb:b<w.heap.size)(hn:¬S b):w'.cell? ⟨b,o,none⟩=w.cell? ⟨b,o,none⟩:=by
 simp[World.cell?,h.block b hb hn]
theorem U2{S:Nat->Prop}{w w':World}(h:aG S w w'){b o:Nat}(hb:b<w.heap.size)(hn:¬S b):w'.frozen? ⟨b,o,none⟩=w.frozen? ⟨b,o,none⟩:=by
 simp[World.frozen?,h.block b hb hn]
theorem uS{S:Nat->Prop}{w w':World}{size n c:Nat}{A:Option Addr}{xs:List Value}(h:At w size A n c xs)(hs:0<size)(hu:aG S w w')(hS:∀b off,A=some ⟨b,off,none⟩->¬S b):At w' size A n c xs:=by
 refine⟨⟨h.1.1,h.1.2.1,λhm=>?_⟩,h.2⟩;obtain⟨b,off,rfl,hlt,hc⟩:=h.1.form hm hs;refine⟨_,rfl,λj u hj=>?_⟩;have hjl:j<n*size:=by rw[<-h.1.1];exact(bB.1 hj).1
 rw[Addr.add_lit,bQ hu hlt (hS b off rfl),hc j hjl,hj]
theorem eD.upd{α:Type}{P:α->Prop}{K:TypeId}{enc:α->Lit}{w w':World}{b n:Nat}{g:α->Option Value}{S:Nat->Prop}(h:eD P K enc w b n g)(hu:aG S w w')(hb:¬S b):eD P K enc w' b n g:=by
 obtain⟨D,⟨es,c,h1,h2,h3,h4⟩,h5⟩:=h;exact⟨D,⟨es,c,hu.keep h1 hb,h2,h3,h4⟩,h5⟩
def Own(w:World)(t:TypeId)(b:Nat)(cs:List Value):Prop:=∃tl:List Value,w.heap[b]?=some (.cells (cs++tl).toArray t (0,0))
section
variable {w w':World} {t:TypeId} {b:Nat} {cs:List Value}
theorem Own.lt(h:Own w t b cs):b<w.heap.size:=by obtain⟨tl,h⟩:=h;exact aB h
theorem Own.cell(h:Own w t b cs){i:Nat}{u:Value}(hi:cs[i]?=some u):w.cell? ⟨b,i,none⟩=some u:=by
 obtain⟨tl,h⟩:=h;rw[aK w b i _ _ _ h,List.getElem?_toArray,kH (bB.1 hi).1,hi]
theorem Own.frozen(h:Own w t b cs)(i:Nat):w.frozen? ⟨b,i,none⟩=false:=by obtain⟨tl,h⟩:=h;simp[World.frozen?,h]
theorem Own.set(h:Own w t b cs){i:Nat}(hi:i<cs.length)(u:Value):Own (w.setCell ⟨b,i,none⟩ u) t b (cs.set i u):=by
 obtain⟨tl,h⟩:=h;refine⟨tl,?_⟩;rw[heap_setCell_same h,List.setIfInBounds_toArray,List.set_append,if_pos hi]
theorem Own.keep{S:Nat->Prop}(h:Own w t b cs)(hu:aG S w w')(hb:¬S b):Own w' t b cs:=by
 obtain⟨tl,h⟩:=h;exact⟨tl,hu.keep h hb⟩
theorem Own.below(h:Own w t b cs)(hb:Below w.heap.size w w'):Own w' t b cs:=by
 have hl:=h.lt;obtain⟨tl,h⟩:=h;exact⟨tl,(hb.block b hl).trans h⟩
theorem Own.new(w:World)(t:TypeId)(cs:List Value):Own (w.alloc (.cells cs.toArray t)) t w.heap.size cs:=⟨[],by rw[bU];exact bK w _⟩
theorem Own.C8{size n c:Nat}(h:Own w t b cs)(hl:cs.length=n*size)(h1:∀u∈cs,u.oneCell'=true)(hn:n<=c)(hc:c<=maxLen):At w size (some ⟨b,0,none⟩) n c cs:=
 ⟨⟨hl,h1,λ_=>⟨_,rfl,λj u hj=>by rw[Addr.add_lit,pF];exact h.cell hj⟩⟩,λe=>by simp at e,hn,hc⟩
end
theorem yt{α:Type}(f:α->List Value)(s:Nat)(h:∀a,(f a).length=s)(a':α)(u:Value):∀(l:List α)(k j:Nat)(a:α),l[k]?=some a->j<s->f a'=(f a).set j u->(l.flatMap f).set (k*s+j) u=(l.set k a').flatMap f
 |[],_,_,_,hk,_,_=>by simp at hk
 |b::l,0,j,a,hk,hj,hf=>by
  simp at hk;subst hk;rw[rQ,Nat.zero_mul,pF,List.set_append,if_pos (by rw[h];exact hj),List.set_cons_zero,rQ,hf]
 |b::l,k+1,j,a,hk,hj,hf=>by
  rw[rQ,List.set_append,if_neg (by rw[h,Nat.succ_mul];omega),h,show(k+1)*s+j - s=k*s+j by rw[Nat.succ_mul];omega,yt f s h a' u l k j a (by simpa using hk) hj hf,List.set_cons_succ,rQ]
def sW(p:Nat×Nat):List Value:=[.int .i64 p.1,.int .i64 p.2]
def iB(P:List (Nat×Nat)):List Value:=P.flatMap sW
theorem l9(P:List (Nat×Nat)):(iB P).length=P.length*2:=gW sW 2 (λ_=>rfl) P
theorem fZ{P:List (Nat×Nat)}{i j:Nat}{p:Nat×Nat}(hi:P[i]?=some p)(hj:j<2):(iB P)[i*2+j]?=(sW p)[j]?:=bG sW 2 (λ_=>rfl) P i j p hi hj
theorem JR{P:List (Nat×Nat)}{i:Nat}(hi:i<P.length)(q:Nat×Nat):((iB P).set (i*2) (.int .i64 q.1)).set (i*2+1) (.int .i64 q.2)=iB (P.set i q):=by
 obtain⟨x,y⟩:=q;have h0:=aS hi;have h1:=yt sW 2 (λ_=>rfl) (x,(P[i]).2) (.int .i64 x) P i 0 _ h0 (by omega) rfl;have h2:=yt sW 2 (λ_=>rfl) (x,y) (.int .i64 y) (P.set i (x,(P[i]).2)) i 1 (x,(P[i]).2) (by rw[j_,if_pos rfl,if_pos hi]) (by omega) rfl;unfold iB;rw[kP]at h1;rw[h1,h2,List.set_set]
theorem JU(P:List (Nat×Nat)):∀u∈iB P,u.oneCell'=true:=by
 intro u hu;obtain⟨p,_,hp⟩:=Br.1 hu;simp only[sW,dx,iQ,or_false]at hp;rcases hp with rfl|rfl<;>rfl
def nM(P:List (Nat×Nat))(k:Nat):List (Nat×Nat):=P.take k++List.replicate (P.length - k) (0,0)
theorem Oe(P:List (Nat×Nat)){k:Nat}(hk:k<=P.length):(nM P k).length=P.length:=by simp[nM];omega
theorem Og(P:List (Nat×Nat)):nM P P.length=P:=by simp[nM]
theorem LW{P:List (Nat×Nat)}{k:Nat}{p:Nat×Nat}(hp:P[k]?=some p):(nM P k).set k p=nM P (k+1):=by
 have hk:k<P.length:=(bB.1 hp).1;unfold nM;rw[List.set_append,if_neg (by rw[pz];omega),pz,Nat.min_eq_left (by omega),Nat.sub_self,D_,hp,show P.length - k=(P.length - (k+1))+1 by omega,List.replicate_succ,List.set_cons_zero];simp
theorem Hq(n:Nat):(madeCells (Value.cells (.agg #[.int .i64 0,.int .i64 0])) (n*2)).toList=iB (List.replicate n (0,0)):=by
 apply lX;intro j;have hl:=l9 (List.replicate n (0,0));rw[mY]at hl;rcases iH j (n*2)with hj|hj
 .have h1:=fZ (P:=List.replicate n (0,0)) (i:=j/2) (j:=j % 2) (p:=(0,0)) (by rw[Bv,if_pos (by omega)]) (by omega)
  rw[show j/2*2+j % 2=j by omega]at h1;rw[h1];rcases Nat.mod_two_eq_zero_or_one j with h2|h2<;>simp[madeCells,hj,h2,sW,Value.cells]
 .rw[mX (by rw[Array.length_toList,size_madeCells];exact hj),mX (by rw[hl];exact hj)]
end
section
open Go.RowKit Tryz
theorem Oh{F:List ay}(h:bF F){i j:Nat}{x y:ay}(hx:F[i]?=some x)(hy:F[j]?=some y)(hij:i<j):x.ref≠y.ref:=by
 obtain⟨hi,rfl⟩:=bB.1 hx;obtain⟨hj,rfl⟩:=bB.1 hy;have h2:=Ea.1 h i j (by simpa using hi) (by simpa using hj) hij;simp at h2;omega
def U3(P:List (Nat×Nat))(w:World)(e:Ending)(w':World):Prop:=
 ∃(A:Option Addr)(c:Nat),e= .returned (.slice A P.length c)/\At w' 2 A P.length c (iB P)/\(∀b off,A=some ⟨b,off,none⟩->w.heap.size<=b)/\Below w.heap.size w w'
theorem Dw{F:List ay}{r:Int}(hD:bF F)(h:∃x∈F,x.ref=r):∃x,F[idxOf F r]?=some x/\x.ref=r:=by
 obtain⟨x,hx,rfl⟩:=h;obtain⟨i,hi⟩:=jW.1 hx;exact⟨x,by rw[jg hD hi];exact hi,rfl⟩
theorem Hr(fv:FV)(f:bR)(w:World)(hF:gJ w fv f)(hR:∀x∈f.facts,iK x.ref)(hD:bF f.facts)(hF4:f.facts.length<=4000)(hO4:f.orders.length<=4000)(hK:Known f.facts f.orders):Calls prog 99 #[fv.val f] w (U3 (bL f.facts f.orders) w):=by
 obtain⟨⟨fA,fc⟩,⟨oA,oc⟩⟩:=fv;obtain⟨ho,F,O⟩:=f;obtain⟨hl1,hl2⟩:=hF.acR;obtain⟨hl3,hl4⟩:=hF.acS;simp only at hl1 hl2 hl3 hl4;have hfx:F.length<=9223372036854775807:=by omega
 have hox:O.length<=9223372036854775807:=by omega
 have ZH:Hid (At w 6 fA F.length fc (bH F)):=hF.facts;have HOS:Hid (At w 2 oA O.length oc (eT O)):=hF.orders;clear hF;have HR:Hid (∀x∈F,iK x.ref):=hR;clear hR;have HD:Hid (bF F):=hD;clear hD;have HK:Hid (Known F O):=hK;clear hK;simp only at hF4 hO4;have hmm:=@run_makeMap prog;simp only[FV.val,FV.cells];go_enter func99,ntmps99;go_upto_region 2 with(fail)
 have hsz:(w.alloc (Obj.cells #[.int .i64 ho,.slice fA F.length fc,.slice oA O.length oc] 31)).heap.size=w.heap.size+1:=aT _ _;generalize hW0:World.alloc w _=W0 at hsz⊢;obtain⟨HB,hh0⟩:=bx1 hW0;clear hW0;obtain⟨iC,iD,iI⟩:=kc3 hh0;clear hh0;have hM:eD iK 3 encI (W0.alloc (.map #[] 0)) (w.heap.size+1) 0 (λ_=>none):=by rw[<-hsz];exact eD.made W0
 generalize hW1:W0.alloc (.map #[] 0)=W1 at hM⊢;have hb1:Below W0.heap.size W0 W1:=by rw[<-hW1];exact aJ (aC _ _) _
 clear hW1;have hM':eD iK 3 encI (⟨W1,hb1⟩:Bl W0).val (w.heap.size+1) 0 (λ_=>none):=hM;clear hM;change Code.wp _ _ _ _ (Bl.val (⟨W1,hb1⟩:Bl W0));generalize(⟨W1,hb1⟩:Bl W0)=s0 at hM'⊢;have HM:=ah hM';clear hM';clear hb1;go_wp2
 go_loopg [13] F.length (λgk v13 wr=>∃(j n:Nat)(g:Int->Option Value)(z:Bl W0),gk=F.length - j/\j<=F.length/\v13= .int .i64 j/\wr=z.val/\n<=j/\Hid (eD iK 3 encI z.val (w.heap.size+1) n g)/\Hid (∀(i:Nat)(x:ay),i<j->F[i]?=some x->g x.ref=some (.int .i64 i)))
 case atStart=>exact⟨0,0,_,_,rfl,aU _,rfl,rfl,bJ _,HM,λi x h _=>absurd h (Nat.not_lt_zero _)⟩
 case round=>
  obtain⟨j,n,g,z,eO,hj,rfl,rfl,hn,hmx,hgf⟩:=hrel;have iw:=ah eO;clear eO;by_cases hlt:j<F.length
  .obtain⟨fb,fo,lG,hfb,hcell⟩:=ZH.out.fact (by omega)
   subst lG;obtain⟨⟨re,ac,lo,hi,fi,se⟩,hx⟩:∃x,F[j]?=some x:=⟨F[j],aS hlt⟩;obtain⟨e0,e1,e2,e3,e4,e5⟩:=UQ (λz hz=>hcell j _ hx z (av HB.out hz)) rfl;have hre:iK re:=HR.out _ (cK hx);have HX:=ah hx;clear hx;have j1:(j:Int)<(F.length:Int):=by omega
   go_upto_region 5 with(fail)
   generalize hWa:World.alloc _ _=Wa;obtain⟨hba,hxa⟩:=bx1' hWa;clear hWa;have oU:Hid (Below W0.heap.size W0 Wa):=av z.prop hba;obtain⟨d0,d1,d2,d3,d4,d5⟩:=kc6 hxa;have hma:eD iK 3 encI Wa (w.heap.size+1) n g:=hmx.out.below hmx.out.lt hba;obtain⟨w2,hrun,hm2,htr⟩:=eD.put rW BP underlying90 hma (by unfold maxLen;omega) hre (Dc hre) (.int .i64 j);have q0:=d0 ⟨Wa,aC _ _⟩;clear d0 d1 d2 d3 d4 d5 hxa hba;simp only at q0;have Bo:=ah hm2;clear hm2;have HTR:=ah htr;clear htr;clear hma;go_wp2
   go_roundg (F.length - (j+1))
   case measure=>have:=iw.out;omega
   case rel=>
    refine⟨j+1,_,_,⟨w2,oU.out.trans (wH HTR.out (by omega))⟩,rfl,by omega,by go_num,rfl,?_,Bo,?_⟩
    .split<;>omega
    .intro i x hi' hxi
     by_cases hij:i=j
     .subst hij
      have h:=HX.out;rw[hxi]at h;injection h with h
      subst h;simp
     .have hne:x.ref≠re:=Oh HD.out hxi HX.out (by omega)
      show(if x.ref=re then some (Value.int .i64 j)else g x.ref)=_;rw[if_neg hne];exact hgf.out i x (by omega) hxi
  .obtain rfl:j=F.length:=by omega
   have HMZ:=hmx;clear hmx iw;obtain⟨ip,hip,hpz,hps,hpb⟩:=info_parts' (P:=prog) (t:=180) (z:=some (.agg #[.int .i64 0,.int .i64 0])) (s:=2) (b:=16) (by kernel_rfl);have hmk:=run_makeSlice (P:=prog) (w:=z.val) 178 180 ip _ underlying178 hip hpz .i64 .i64 (O.length:Int) (O.length:Int) (by omega) (by omega) (by rw[hps];simp;omega) (by rw[hpb];omega) (by omega);simp only[sM,hps]at hmk;go_upto_region 8 with(fail)
   obtain⟨pb,hpb⟩:∃pb,pb=z.val.heap.size:=⟨_,rfl⟩;rw[<-hpb];generalize Dx:World.alloc _ _=Wb;have hnw:Wb.heap[pb]?=some (.cells (madeCells (Value.cells (.agg #[.int .i64 0,.int .i64 0])) (O.length*2)) 180 (0,0)):=by
    rw[<-Dx,hpb];exact bK z.val _
   have hbb:Below z.val.heap.size z.val Wb:=by rw[<-Dx];exact aJ (aC _ _) _
   have qB:=ah (HMZ.out.below HMZ.out.lt hbb);have hPb:Below W0.heap.size W0 Wb:=av z.prop hbb;have hpl:(bL F O).length=O.length:=by simp[bL]
   have HOW:Hid (Own Wb 180 pb (iB (nM (bL F O) 0))):=by
    refine⟨[],?_⟩;rw[bU,nM,hpl,bW,pE,Nat.sub_zero,<-Hq,Array.toArray_toList];exact hnw
   have hzs:=z.prop.size;have hpW:w.heap.size+1<pb:=by have:=HMZ.out.lt;omega
   have hbW:pb<Wb.heap.size:=aB hnw;have HGF:Hid (∀b∈O,(∃i:Nat,idxOf F b.ref=i/\iK b.ref/\g b.ref=some (.int .i64 i))/\∃i:Nat,idxOf F b.next=i/\iK b.next/\g b.next=some (.int .i64 i)):=λb hb=>by
    obtain⟨h1,h2⟩:=HK.out b hb;have key:∀r,(∃x∈F,x.ref=r)->∃i:Nat,idxOf F r=i/\iK r/\g r=some (.int .i64 i):=λr hr=>by
     obtain⟨x,hx,rfl⟩:=Dw HD.out hr;exact⟨_,rfl,HR.out x (cK hx),hgf.out _ x (bB.1 hx).1 hx⟩
    exact⟨key _ h1,key _ h2⟩
   have vE:Hid (Below w.heap.size w Wb):=av HB.out hPb;have CX:=ah hpl;clear hpl;have HPE:=ah hpb;clear hpb;have kb:=iI ⟨Wb,hPb⟩;simp only at kb;clear hgf hPb hbb Dx hnw hmk HMZ hn hzs hpz hps hip iC iD iI;go_wp2
   go_loopg [30] O.length (λgk v30 wr=>∃(j:Nat),gk=O.length - j/\j<=O.length/\v30= .int .i64 j/\Hid (Own wr 180 pb (iB (nM (bL F O) j)))/\Hid (aG (λk=>k=pb) Wb wr))
   case atStart=>exact⟨0,rfl,aU _,rfl,HOW,aG.refl _ _⟩
   case round=>
    obtain⟨j,eO,hj,rfl,EY,HU⟩:=hrel;have iw:=ah eO;clear eO HOW;by_cases hlt:j<O.length
    .obtain⟨ob,oo,lG,hob,hcell⟩:=HOS.out.vB (by omega)
     subst lG;obtain⟨⟨br,bn⟩,hx⟩:∃x,O[j]?=some x:=⟨O[j],aS hlt⟩;obtain⟨⟨i1,hi1,hr1,hg1⟩,i2,hi2,hr2,hg2⟩:=HGF.out _ (cK hx);have hsW:=vE.out.size;have e0:wr.cell? ⟨ob,oo+j*2,none⟩=some (.int .i64 br):=(bQ HU.out (by omega) (by omega)).trans (hcell j _ hx Wb vE.out 0 (by omega));have e1:wr.cell? ⟨ob,oo+j*2+1,none⟩=some (.int .i64 bn):=(bQ HU.out (by omega) (by omega)).trans (hcell j _ hx Wb vE.out 1 (by omega));have HX:Hid ((bL F O)[j]?=some (i1,i2)):=by show _=_;unfold bL;rw[gK,hx];simp only[mZ];rw[hi1,hi2]
     clear hx hcell hi1 hi2;have hpr:=HU.out.size;have hbr:pb<wr.heap.size:=by omega
     have j1:(j:Int)<(O.length:Int):=by omega
     go_upto_region 11 with(fail)
     generalize hWa:World.alloc _ _=Wa;obtain⟨hba,hxa⟩:=bx1' hWa;have Ht:Hid (aG (λk=>k=pb) Wb Wa):=l8 HU.out hba;have hOa:=EY.out.below hba;have hMa:=qB.out.upd (w':=Wa) Ht.out (by omega);have q0:Wa.cell? ⟨wr.heap.size,0,none⟩=some (.int .i64 br):=(aK Wa _ 0 _ _ _ hxa).trans rfl;have q1:Wa.cell? ⟨wr.heap.size,1,none⟩=some (.int .i64 bn):=(aK Wa _ 1 _ _ _ hxa).trans rfl;have l1:=eD.look BP underlying90 hMa (Tf Wa) hr1 (Dc hr1);have l2:=eD.look BP underlying90 hMa (Tf Wa) hr2 (Dc hr2);rw[hg1]at l1;rw[hg2]at l2;simp only[Option.getD_some]at l1 l2;have hlen:=Oe (bL F O) (k:=j) (by rw[CX.out];exact hj);obtain⟨⟨x0,y0⟩,hgt⟩:∃p,(nM (bL F O) j)[j]?=some p:=⟨_,aS (by rw[hlen,CX.out];exact hlt)⟩;have p0:Wa.cell? ⟨pb,j*2,none⟩=some (.int .i64 x0):=hOa.cell (fZ hgt (j:=0) (by omega));have p1:Wa.cell? ⟨pb,j*2+1,none⟩=some (.int .i64 y0):=hOa.cell (fZ hgt (j:=1) (by omega));have f0:=hOa.frozen (j*2);have f1:=hOa.frozen (j*2+1);clear hgt;have HOA:=ah hOa;clear hOa;clear hWa hba hxa hMa hr1 hr2 hg1 hg2 e0 e1;go_wp2
     go_roundg (O.length - (j+1))
     case measure=>have:=iw.out;omega
     case rel=>
      refine⟨j+1,rfl,by omega,by go_num,?_,?_⟩
      .have h:=(HOA.out.set (i:=j*2) (by rw[l9,hlen,CX.out];omega) (.int .i64 i1)).set (i:=j*2+1) (by rw[List.length_set,l9,hlen,CX.out];omega) (.int .i64 i2)
       rw[JR (by rw[hlen,CX.out];exact hlt) (i1,i2),LW HX.out]at h;exact h
      .exact(Ht.out.setCell (p:=⟨pb,j*2,none⟩) (.inl rfl) (.int .i64 i1)).setCell (p:=⟨pb,j*2+1,none⟩) (.inl rfl) (.int .i64 i2)
    .obtain rfl:j=O.length:=by omega
     have hall:=EY.out;rw[<-CX.out,Og]at hall;have hAt:=hall.C8 (n:=(bL F O).length) (c:=O.length) (l9 _) (JU _) (by rw[CX.out];exact bJ _) (by unfold maxLen;omega);have HAT:=ah hAt;clear hAt hall;go_wp2;go_ret;refine⟨_,_,by rw[CX.out];rfl,HAT.out,λb off e=>by simp only[Option.some.injEq,Addr.mk.injEq]at e;omega,vE.out.trans (HU.out.below vE.out.size (λk hk=>by omega))⟩
end
section
open Go.RowKit Tryz
def allocs(W:World)(l:List Obj):World:=l.foldl World.alloc W
theorem vQ(W:World)(l:List Obj):Below W.heap.size W (allocs W l):=by
 unfold allocs;induction l generalizing W with
 |nil=>exact aC _ _
 |cons o l ih=>exact av (aJ (aC _ _) o) (ih _)
theorem Hu{W:World}{l:List Obj}{i:Nat}{o:Obj}(h:l[i]?=some o):(allocs W l).heap[W.heap.size+i]?=some o:=by
 induction l generalizing W i with
 |nil=>simp at h
 |cons a l ih=>
  show(allocs (W.alloc a) l).heap[_]?=_;cases i with
  |zero=>
   simp only[Bu,Option.some.injEq]at h;subst h;have h1:=World.alloc_heap_new W a;rw[kP,(vQ (W.alloc a) l).block _ (aB h1)];exact h1
  |succ i=>
   have h1:=ih (W:=W.alloc a) (i:=i) (by simpa using h);rw[aT]at h1;rw[show W.heap.size+(i+1)=W.heap.size+1+i by omega];exact h1
def gB(S:Nat->Prop)(V V':World):Prop:=aG (λk=>S k/\∃o:Obj,V.heap[k]?=some o/\o.isCells=false) V V'
theorem gB.of_below{S:Nat->Prop}{V V':World}(h:Below V.heap.size V V'):gB S V V':=⟨h.os,h.tape,h.output,h.size,λk hk _=>h.block k hk⟩
theorem gB.putObj{S:Nat->Prop}{V:World}{l:Nat}{o:Obj}(o':Obj)(hl:S l)(h:V.heap[l]?=some o)(hc:o.isCells=false):gB S V (V.putObj l o'):=
 ⟨rfl,rfl,rfl,by simp[World.putObj],λk _ hn=>World.putObj_heap_other (λe=>hn (by subst e;exact⟨hl,o,h,hc⟩))⟩
theorem gB.cells{S:Nat->Prop}{V V':World}(h:gB S V V'){k:Nat}{cs:Array Value}{t:TypeId}{fz:Nat×Nat}(hk:V.heap[k]?=some (.cells cs t fz)):V'.heap[k]?=some (.cells cs t fz):=
 h.keep hk (λ⟨_,o,ho,hc⟩=>by rw[hk]at ho;cases ho;cases hc)
theorem gB.same{S:Nat->Prop}{V V':World}(h:gB S V V'){k:Nat}(hn:¬S k)(hk:k<V.heap.size):V'.heap[k]?=V.heap[k]?:=h.block k hk (λ⟨h1,_⟩=>hn h1)
theorem gB.trans{S:Nat->Prop}{a b c:World}(h:gB S a b)(k:gB S b c):gB S a c:=by
 refine aG.trans h k (λi hi ⟨h1,o,ho,hc⟩=>?_);by_cases hz:S i/\∃o:Obj,a.heap[i]?=some o/\o.isCells=false
 .exact hz
 .rw[h.block i hi hz]at ho
  exact absurd ⟨h1,o,ho,hc⟩ hz
abbrev uT(D:Nat)(V V':World):Prop:=gB (λk=>k=D+1) V V'
theorem LX{S Z:Nat->Prop}{a V V':World}(h:aG S a V)(ht:gB Z V V')(hZ:∀k,Z k->a.heap.size<=k):aG S a V':=
 aG.trans h ht (λi hi ⟨h1,_⟩=>by have:=hZ i h1;omega)
theorem oZ{S:Nat->Prop}{W W':World}(B:Nat)(hu:aG S W W')(hS:∀k o,S k->W.heap[k]?=some o->o.isCells=true):KeepsFrom B W W':=
 ⟨hu.size,λk o _ hk ho=>hu.keep hk (λhs=>by have:=hS k o hs hk;rw[ho]at this;cases this)⟩
theorem Own.isCells{w:World}{t:TypeId}{b:Nat}{cs:List Value}(h:Own w t b cs){o:Obj}(ho:w.heap[b]?=some o):o.isCells=true:=by
 obtain⟨tl,h⟩:=h;rw[h]at ho;cases ho
 rfl
theorem Own.turn{S:Nat->Prop}{w w':World}{t:TypeId}{b:Nat}{cs:List Value}(h:Own w t b cs)(ht:gB S w w'):Own w' t b cs:=by
 obtain⟨tl,h⟩:=h;exact⟨tl,ht.cells h⟩
def X6{α:Type}(F:Fence)(n:Nat)(P:Program)(g:Nat)(lb:Array Value)(encs:Nat->α->Array Value)(Mv:Nat->World->World->Prop)(Kp:Nat->World->World->Prop)(I:Nat->List α->World->Prop)(Ok OkL:Nat->List α->α->World->Prop)(S SL:List α->Prop)(W:World):Prop:=
 ∀(l:Nat)(J JL:Nat->List α->World->Prop),(∀b pre V,J b pre V->I b pre V)->
  (∀b V,Below W.heap.size W V->W.heap.size<=b->J b [] V)->
  (∀b pre V V',J b pre V->Mv b V V'->J b pre V')->(∀b pre V V',JL b pre V->Mv b V V'->JL b pre V')->
  (∀b pre x V,J b pre V->Ok b pre x V->YieldAt F (n - 1) P l (encs b x) V λe V'=>e= .returned (.bool true)/\J b (pre++[x]) V'/\Kp b V V')->
  (∀b pre x V,J b pre V->OkL b pre x V->YieldAt F (n - 1) P l (encs b x) V λe V'=>e= .returned (.bool false)/\JL b (pre++[x]) V'/\Kp b V V')->
  CallsIn F n P g (#[.func (.yield l) #[] #[]]++lb) W λe W'=>(∃v,e= .returned v)/\∃b,W.heap.size<=b/\((∃xs,S xs/\J b xs W')\/∃xs,SL xs/\JL b xs W')
theorem nN{F:Fence}{n:Nat}{P:Program}{α:Type}{g:Operand}{ps:Array Tmp}{assign body:Code}{Q:Exit->Act->World->Prop}{a:Act}{w:World}
 (hro:F.round=none)(h1:1<=n){gf:Nat}{lb:Array Value}(hg:a.eval g= .func (.func gf) #[] lb)(hFg:F.fn gf)(eg:∀args w,(callFunc gf args).run P w= .ok (.enter gf args) w)
 {encs:Nat->α->Array Value}{Mv:Nat->World->World->Prop}{Kp:Nat->World->World->Prop}{I:Nat->List α->World->Prop}{Ok OkL:Nat->List α->α->World->Prop}{S SL:List α->Prop}
 (hseq:∀W1,Below w.heap.size w W1->W1.heap.size=w.heap.size+2->X6 F (n - 1) P gf lb encs Mv Kp I Ok OkL S SL W1)(hps:∀b x,(encs b x).size=ps.size)
 (Ix:Nat->List α->World->Prop)(hI:∀b pre V V',I b pre V->uT w.heap.size V V'->I b pre V')(hIx:∀b pre V V',Ix b pre V->uT w.heap.size V V'->Ix b pre V')
 (hOk:∀b pre x V V',Ok b pre x V->uT w.heap.size V V'->Ok b pre x V')(ac5:∀b pre x V V',OkL b pre x V->uT w.heap.size V V'->OkL b pre x V')
 (hKp:∀b V V1 Y1 Y,w.heap.size+2<=b->uT w.heap.size V V1->Kp b V1 Y1->uT w.heap.size Y1 Y->Kp b V Y)
 (hMv:∀b V V' k o,w.heap.size+2<=b->Mv b V V'->k<w.heap.size+2->w.heap.size<=k->V.heap[k]?=some o->o.isCells=false->V'.heap[k]?=some o)
 (hMI:∀b pre V V',w.heap.size+2<=b->I b pre V->Mv b V V'->I b pre V')(agc:∀b pre V V',w.heap.size+2<=b->Ix b pre V->Mv b V V'->Ix b pre V')
 (bx:α->List Obj)(h0:∀b V,Below w.heap.size w V->w.heap.size+2<=b->I b [] V)(a₁:Nat->α->Nat->Act)
 (hassign:∀(l b:Nat)(x:α)(W:World)(k:Nat)(K:Act->World->Prop),W.heap.size=k->K (a₁ b x k) (allocs W (bx x))->assign.wpIn (F.inRound l) (n - 1 - 1) P (Exit.then K (λ_ _ _=>False)) {tmps:=(ps.zip (encs b x)).foldl (λt (p,v)=>t.setIfInBounds p v) a.tmps,defers:=[]} W)
 (hbody:∀(l b:Nat)(pre:List α)(x:α)(W:World)(k:Nat),w.heap.size+2<=b->I b pre W->Ok b pre x W->w.heap.size+2<=k->(∀i o,(bx x)[i]?=some o->W.heap[k+i]?=some o)->body.wpIn (F.inRound l) (n - 1 - 1) P (λe _ W'=>e= .normal/\KeepsFrom w.heap.size W W'/\Kp b W W'/\I b (pre++[x]) W') (a₁ b x k) W)
 (hleave:∀(l b:Nat)(pre:List α)(x:α)(W:World)(k:Nat),w.heap.size+2<=b->I b pre W->OkL b pre x W->w.heap.size+2<=k->(∀i o,(bx x)[i]?=some o->W.heap[k+i]?=some o)->body.wpIn (F.inRound l) (n - 1 - 1) P (λe _ W'=>e= .ret/\KeepsFrom w.heap.size W W'/\Kp b W W'/\Ix b (pre++[x]) W') (a₁ b x k) W)
 (hdone:∀(D b:Nat)(xs:List α)(W:World),w.heap.size<=D->w.heap.size+2<=b->S xs->I b xs W->W.heap[D]?=some (.deferred (some []))->Q .normal {a with defers:={target:=.collected D,args:=#[]}::a.defers} W)
 (hstop:∀(D b:Nat)(xs:List α)(W:World),w.heap.size<=D->w.heap.size+2<=b->SL xs->Ix b xs W->W.heap[D]?=some (.deferred (some []))->Code.ret.wpIn F n P Q {a with defers:={target:=.collected D,args:=#[]}::a.defers} W):
 (Code.rangeFunc g ps assign body).wpIn F n P Q a w:=by
 refine wpIn_rangeFunc λfn hfn=>?_;rw[hro];generalize hD:w.heap.size=D;obtain⟨rec,hrec⟩:∃rec:LoopState->Option Code->Loop,rec=λst pe=>{state:=st,pending:=pe,fn,tmps:=a.tmps,params:=ps,assign,body,defers:=D}:=⟨_,rfl⟩;obtain⟨W1,hW1⟩:∃W1,(w.alloc (.deferred (some []))).alloc (.loop (rec .ready none))=W1:=⟨_,rfl⟩;have hL1:W1.heap[D+1]?=some (.loop (rec .ready none)):=by
  have h:=World.alloc_heap_new (w.alloc (.deferred (some []))) (.loop (rec .ready none));rw[aT,hD,hW1]at h;exact h
 have hK1:W1.heap[D]?=some (.deferred (some [])):=by
  rw[<-hW1,<-hD];exact(Below.heap_alloc _ _ _ (by simp)).trans (World.alloc_heap_new w _)
 have hsz:W1.heap.size=D+2:=by rw[<-hW1,<-hD];simp
 have hB1:Below w.heap.size w W1:=by rw[<-hW1];exact aJ (aJ (aC _ _) _) _
 have agd:=hseq W1 hB1 (by rw[hsz,hD]);rw[hD]at hI hIx hOk ac5 hKp hMv hMI agc h0 hbody hleave hdone hstop;refine⟨D+1,[{target:=.collected D,args:=#[]}],W1,{target:=.fn (.func gf) lb,args:=#[.func (.yield (D+1)) #[] #[]]},W1,gf,#[.func (.yield (D+1)) #[] #[]]++lb,W1,?_,?_,?_,?_,λ_=>h1,?_⟩
 .have h:=run_enterLoop_outer (P:=P) (w:=w) fn a.tmps ps assign body
  rw[hD]at h;rw[h,<-hW1,hrec]
 .simp only[resolve,hg]
  simp[go_sem]
 .intro f' hf'
  simp[Target.leads]at hf';subst hf';exact hFg
 .simp[invoke,go_sem,eg]
 .refine(agd (D+1) (λb pre W=>D+2<=b/\I b pre W/\W.heap[D+1]?=some (.loop (rec .ready none))/\W.heap[D]?=some (.deferred (some [])))
   (λb pre W=>D+2<=b/\Ix b pre W/\W.heap[D+1]?=some (.loop (rec .done (some .ret)))/\W.heap[D]?=some (.deferred (some []))) (λ_ _ _ h=>h.2.1) ?_ ?_ ?_ ?_ ?_).mono ?_
  .intro b V hV hb
   rw[hsz]at hb;exact⟨hb,h0 b V (by rw[<-hD];exact hB1.trans (hV.mono (by rw[hsz];omega))) hb,(hV.block _ (aB hL1)).trans hL1,(hV.block _ (aB hK1)).trans hK1⟩
  .rintro b pre V V' ⟨hb,hi,hl,hk⟩ hs
   exact⟨hb,hMI b pre V V' hb hi hs,hMv b V V' _ _ hb hs (by omega) (by omega) hl rfl,hMv b V V' _ _ hb hs (by omega) (by omega) hk rfl⟩
  .rintro b pre V V' ⟨hb,hi,hl,hk⟩ hs
   exact⟨hb,agc b pre V V' hb hi hs,hMv b V V' _ _ hb hs (by omega) (by omega) hl rfl,hMv b V V' _ _ hb hs (by omega) (by omega) hk rfl⟩
  .rintro b pre x W0 ⟨hb,hi0,hl0,hk0⟩ hok0
   have hy:=run_yield (P:=P) (args:=encs b x) hl0 (by rw[hrec];exact hps b x);rw[hrec]at hy;refine⟨fn,_,assign,body,hy,roundIn_of_wpIn hfn (hassign _ b x W0 _ _ rfl ?_)⟩;have hbw:=vQ W0 (bx x);have hbx:∀i o,(bx x)[i]?=some o->(allocs W0 (bx x)).heap[W0.heap.size+i]?=some o:=λi o h=>Hu h;have hbD:D+1<W0.heap.size:=aB hl0;have hl:=(hbw.block _ (aB hl0)).trans hl0;have hk:=(hbw.block _ (aB hk0)).trans hk0;have ht0:uT D W0 (allocs W0 (bx x)):=gB.of_below hbw;have hi:=hI _ _ _ _ hi0 ht0;have hok:=hOk _ _ _ _ _ hok0 ht0;generalize hW:allocs W0 (bx x)=W at hbw hbx hl hk hi hok ht0⊢;have hlt:D+1<W.heap.size:=aB hl;refine⟨_,run_beginRound hl (by rw[hrec]),?_⟩;have htp:uT D W (W.putObj (D+1) (.loop {rec .ready none with state:=.busy})):=gB.putObj _ rfl hl rfl;generalize hB:W.putObj (D+1) (.loop {rec .ready none with state:=.busy})=WB at htp;have hl2:WB.heap[D+1]?=some (.loop {rec .ready none with state:=.busy}):=by rw[<-hB];exact World.putObj_heap_same hlt
   have hk2:WB.heap[D]?=some (.deferred (some [])):=by rw[<-hB];exact(World.putObj_heap_other (by omega)).trans hk
   have hx2:∀i o,(bx x)[i]?=some o->WB.heap[W0.heap.size+i]?=some o:=λi o h=>by rw[<-hB];exact(World.putObj_heap_other (by omega)).trans (hbx i o h)
   refine wpIn_mono (hbody _ b pre x WB _ hb (hI _ _ _ _ hi htp) (hOk _ _ _ _ _ hok htp) (by omega) hx2) ?_;rintro e a3 W3 ⟨rfl,hk3,hkp,hi3⟩;have hl3:=hk3.same _ _ (by omega) hl2 rfl;have hk4:=hk3.same _ _ (bJ _) hk2 rfl;have hr3:=run_endRound (P:=P) none hl3;refine⟨_,_,hr3,rfl,⟨hb,hI _ _ _ _ hi3 (gB.putObj _ rfl hl3 rfl),?_,(World.putObj_heap_other (by omega)).trans hk4⟩,?_⟩
   .rw[World.putObj_heap_same (aB hl3),hrec]
    rfl
   .exact hKp _ _ _ _ _ hb (ht0.trans htp) hkp (gB.putObj _ rfl hl3 rfl)
  .rintro b pre x W0 ⟨hb,hi0,hl0,hk0⟩ hok0
   have hy:=run_yield (P:=P) (args:=encs b x) hl0 (by rw[hrec];exact hps b x);rw[hrec]at hy;refine⟨fn,_,assign,body,hy,roundIn_of_wpIn hfn (hassign _ b x W0 _ _ rfl ?_)⟩;have hbw:=vQ W0 (bx x);have hbx:∀i o,(bx x)[i]?=some o->(allocs W0 (bx x)).heap[W0.heap.size+i]?=some o:=λi o h=>Hu h;have hbD:D+1<W0.heap.size:=aB hl0;have hl:=(hbw.block _ (aB hl0)).trans hl0;have hk:=(hbw.block _ (aB hk0)).trans hk0;have ht0:uT D W0 (allocs W0 (bx x)):=gB.of_below hbw;have hi:=hI _ _ _ _ hi0 ht0;have hok:=ac5 _ _ _ _ _ hok0 ht0;generalize hW:allocs W0 (bx x)=W at hbw hbx hl hk hi hok ht0⊢;have hlt:D+1<W.heap.size:=aB hl;refine⟨_,run_beginRound hl (by rw[hrec]),?_⟩;have htp:uT D W (W.putObj (D+1) (.loop {rec .ready none with state:=.busy})):=gB.putObj _ rfl hl rfl;generalize hB:W.putObj (D+1) (.loop {rec .ready none with state:=.busy})=WB at htp;have hl2:WB.heap[D+1]?=some (.loop {rec .ready none with state:=.busy}):=by rw[<-hB];exact World.putObj_heap_same hlt
   have hk2:WB.heap[D]?=some (.deferred (some [])):=by rw[<-hB];exact(World.putObj_heap_other (by omega)).trans hk
   have hx2:∀i o,(bx x)[i]?=some o->WB.heap[W0.heap.size+i]?=some o:=λi o h=>by rw[<-hB];exact(World.putObj_heap_other (by omega)).trans (hbx i o h)
   refine wpIn_mono (hleave _ b pre x WB _ hb (hI _ _ _ _ hi htp) (ac5 _ _ _ _ _ hok htp) (by omega) hx2) ?_;rintro e a3 W3 ⟨rfl,hk3,hkp,hi3⟩;have hl3:=hk3.same _ _ (by omega) hl2 rfl;have hk4:=hk3.same _ _ (bJ _) hk2 rfl;have hr3:=run_endRound (P:=P) (some .ret) hl3;refine⟨_,_,hr3,rfl,⟨hb,hIx _ _ _ _ hi3 (gB.putObj _ rfl hl3 rfl),?_,(World.putObj_heap_other (by omega)).trans hk4⟩,?_⟩
   .rw[World.putObj_heap_same (aB hl3),hrec]
    rfl
   .exact hKp _ _ _ _ _ hb (ht0.trans htp) hkp (gB.putObj _ rfl hl3 rfl)
  .rintro e W2 ⟨⟨v,rfl⟩,b,hb,(⟨xs,hS,_,hi,hl,hk⟩|⟨xs,hS,_,hi,hl,hk⟩)⟩
   .have he:=run_endLoop (P:=P) hl (by rw[hrec];simp)
    exact⟨none,_,by rw[hrec]at he;exact he,hdone _ b xs _ (bJ _) (by omega) hS (hI _ _ _ _ hi (gB.putObj _ rfl hl rfl)) ((World.putObj_heap_other (by omega)).trans hk)⟩
   .have he:=run_endLoop (P:=P) hl (by rw[hrec];simp)
    exact⟨some .ret,_,by rw[hrec]at he;exact he,hstop _ b xs _ (bJ _) (by omega) hS (hIx _ _ _ _ hi (gB.putObj _ rfl hl rfl)) ((World.putObj_heap_other (by omega)).trans hk)⟩
end
section
open Go.RowKit Go.Shelf Tryz
attribute [local go_sem] Oper.semAt_some
def pV(x:Nat×Int×Int):List Value:=[.int .i64 x.1,.int .i64 x.2.1,.int .i64 x.2.2]
theorem JV(A:Option Addr)(n c:Nat)(w:World):Calls prog 163 #[.slice A n c] w (λe w'=>e= .returned (.func (.func 180) #[] #[.pointer (some ⟨w.heap.size,0,none⟩)])/\w'=w.alloc (.cells #[.slice A n c] 178)):=by
 go_enter func163,ntmps163;go_wp2;go_ret;exact⟨rfl,rfl⟩
theorem Hw{Bw:Nat}{A:Option Addr}{c:Nat}{P:List (Nat×Nat)}(n:Nat)(hn:1<=n)(I:Nat->List (Nat×Nat×Nat)->World->Prop)(W:World)
 (hI:∀b pre W,I b pre W->W.cell? ⟨Bw,0,none⟩=some (.slice A P.length c)/\At W 2 A P.length c (P.flatMap sW)):
 X6 Fence.wide n prog 180 #[.pointer (some ⟨Bw,0,none⟩)] (λ(_:Nat)(x:Nat×Nat×Nat)=>#[.int .i64 x.1,.agg (sW x.2).toArray]) (λ_ _ _=>False) (λ_ _ _=>True) I (λ_ pre x _=>pre.map Prod.snd=P.reverse.take pre.length/\x.1+1+pre.length=P.length/\P[x.1]?=some x.2) (λ_ _ _ _=>False) (λxs=>xs.map Prod.snd=P.reverse) (λ_=>False) W:=by
 intro l J JL WC hJ0 _ _ hY _;have h0:=hJ0 W.heap.size W (aC _ _) (bJ _);clear hJ0;have HI:=ah hI;clear hI;have HJI:=ah WC;clear WC;have HY:=ah hY;clear hY;have Qg:=ah h0;clear h0;obtain⟨hb0,lG⟩:=HI.out _ _ _ (HJI.out _ _ _ Qg.out);have hx1:=lG.2.2.1;have hx2:=lG.2.2.2;unfold maxLen at hx2;clear lG;refine callsIn_of_wp func180 rfl trivial ?_ rfl;simp only[ntmps180,uF,gV,kM,Nat.reduceAdd,Nat.reduceSub,wz,wB,wE,wC,pE,wD];gi_wp2
 gi_loopw [3] (λv wr=>∃(k:Nat)(m:Int)(pre:List (Nat×Nat×Nat)),k<=P.length/\m=(P.length:Int) - 1 - k/\v= .int .i64 m/\Hid (pre.length=k)/\Hid (pre.map Prod.snd=P.reverse.take k)/\Hid (J W.heap.size pre wr)) (λv _=>(intOf v+1).toNat)
 case atStart=>exact⟨0,(P.length:Int) - 1,[],aU _,by omega,by go_num,rfl,rfl,Qg⟩
 case round=>
  obtain⟨k,m,pre,hk,hm,rfl,hpl,hpm,HJ⟩:=hrel;by_cases hlt:k<P.length
  .obtain⟨i,rfl⟩:∃i:Nat,m=i:=⟨P.length - 1 - k,by omega⟩
   have hik:i+1+k=P.length:=by omega
   obtain⟨⟨a0,a1⟩,hx⟩:∃x,P[i]?=some x:=⟨P[i],aS (by omega)⟩;obtain⟨hb1,hA1⟩:=HI.out _ _ _ (HJI.out _ _ _ HJ.out);obtain⟨b,off,hA,hbl,hc0⟩:=hA1.1.form (by omega) (by omega);subst hA;have hc:∀j,j<2->wr.cell? ⟨b,off+i*2+j,none⟩=(sW (a0,a1))[j]?:=λj hj=>by
    rw[iR,hc0 _ (by omega)];exact bG sW 2 (λ_=>rfl) P i j _ hx hj
   have e0:wr.cell? ⟨b,off+i*2,none⟩=some (.int .i64 a0):=hc 0 (by omega);have e1:wr.cell? ⟨b,off+i*2+1,none⟩=some (.int .i64 a1):=hc 1 (by omega);clear hc hc0 hA1 hbl;have i1:(i:Int)<(P.length:Int):=by omega
   obtain⟨fn,tmps,assign,body,hy,hR⟩:=HY.out _ pre (i,(a0,a1)) wr HJ.out ⟨by rw[hpl.out];exact hpm.out,by rw[hpl.out];exact hik,hx⟩;simp only[sW]at hy;have HX:=ah hx;clear hx hm;have hpx:P.length<=9223372036854775807:=by omega
   gi_wp2;refine hR.mono ?_;rintro e W3 ⟨rfl,hJ3,_⟩;gi_wp2
   go_roundw
   case rel=>
    refine⟨k+1,_,pre++[(i,(a0,a1))],by omega,?_,by go_num,?_,?_,hJ3⟩
    .omega
    .show _=_
     rw[mU,hpl.out];rfl
    .show _=_
     rw[pG,hpm.out,D_,List.getElem?_reverse (by omega),show P.length - 1 - k=i by omega,HX.out];rfl
   case measure=>simp[intOf]
  .obtain rfl:k=P.length:=by omega
   obtain rfl:m= -1:=by omega
   gi_wp2
   go_end0
   exact⟨⟨_,rfl⟩,W.heap.size,bJ _,.inl ⟨pre,by rw[hpm.out,zY (by simp)],HJ.out⟩⟩
theorem JW(A:Option Addr)(n c:Nat)(w:World):Calls prog 142 #[.slice A n c] w (λe w'=>e= .returned (.func (.func 164) #[] #[.pointer (some ⟨w.heap.size,0,none⟩)])/\w'=w.alloc (.cells #[.slice A n c] 173)):=by
 go_enter func142,ntmps142;go_wp2;go_ret;exact⟨rfl,rfl⟩
theorem Hy{Bw:Nat}{A:Option Addr}{c:Nat}{P:List (Nat×Int×Int)}(n:Nat)(hn:1<=n)(I:Nat->List (Nat×Nat×Int×Int)->World->Prop)(W:World)
 (hI:∀b pre W,I b pre W->W.cell? ⟨Bw,0,none⟩=some (.slice A P.length c)/\At W 3 A P.length c (P.flatMap pV)):
 X6 Fence.wide n prog 164 #[.pointer (some ⟨Bw,0,none⟩)] (λ(_:Nat)(x:Nat×Nat×Int×Int)=>#[.int .i64 x.1,.agg (pV x.2).toArray]) (λ_ _ _=>False) (λ_ _ _=>True) I (λ_ pre x _=>pre.map Prod.snd=P.reverse.take pre.length/\x.1+1+pre.length=P.length/\P[x.1]?=some x.2) (λ_ _ _ _=>False) (λxs=>xs.map Prod.snd=P.reverse) (λ_=>False) W:=by
 intro l J JL WC hJ0 _ _ hY _;have h0:=hJ0 W.heap.size W (aC _ _) (bJ _);clear hJ0;have HI:=ah hI;clear hI;have HJI:=ah WC;clear WC;have HY:=ah hY;clear hY;have Qg:=ah h0;clear h0;obtain⟨hb0,lG⟩:=HI.out _ _ _ (HJI.out _ _ _ Qg.out);have hx1:=lG.2.2.1;have hx2:=lG.2.2.2;unfold maxLen at hx2;clear lG;refine callsIn_of_wp func164 rfl trivial ?_ rfl;simp only[ntmps164,uF,gV,kM,Nat.reduceAdd,Nat.reduceSub,wz,wB,wE,wC,pE,wD];gi_wp2
 gi_loopw [3] (λv wr=>∃(k:Nat)(m:Int)(pre:List (Nat×Nat×Int×Int)),k<=P.length/\m=(P.length:Int) - 1 - k/\v= .int .i64 m/\Hid (pre.length=k)/\Hid (pre.map Prod.snd=P.reverse.take k)/\Hid (J W.heap.size pre wr)) (λv _=>(intOf v+1).toNat)
 case atStart=>exact⟨0,(P.length:Int) - 1,[],aU _,by omega,by go_num,rfl,rfl,Qg⟩
 case round=>
  obtain⟨k,m,pre,hk,hm,rfl,hpl,hpm,HJ⟩:=hrel;by_cases hlt:k<P.length
  .obtain⟨i,rfl⟩:∃i:Nat,m=i:=⟨P.length - 1 - k,by omega⟩
   have hik:i+1+k=P.length:=by omega
   obtain⟨⟨a0,⟨a1,a2⟩⟩,hx⟩:∃x,P[i]?=some x:=⟨P[i],aS (by omega)⟩;obtain⟨hb1,hA1⟩:=HI.out _ _ _ (HJI.out _ _ _ HJ.out);obtain⟨b,off,hA,hbl,hc0⟩:=hA1.1.form (by omega) (by omega);subst hA;have hc:∀j,j<3->wr.cell? ⟨b,off+i*3+j,none⟩=(pV (a0,a1,a2))[j]?:=λj hj=>by
    rw[iR,hc0 _ (by omega)];exact bG pV 3 (λ_=>rfl) P i j _ hx hj
   have e0:wr.cell? ⟨b,off+i*3,none⟩=some (.int .i64 a0):=hc 0 (by omega);have e1:wr.cell? ⟨b,off+i*3+1,none⟩=some (.int .i64 a1):=hc 1 (by omega);have e2:wr.cell? ⟨b,off+i*3+2,none⟩=some (.int .i64 a2):=hc 2 (by omega);clear hc hc0 hA1 hbl;have i1:(i:Int)<(P.length:Int):=by omega
   obtain⟨fn,tmps,assign,body,hy,hR⟩:=HY.out _ pre (i,(a0,a1,a2)) wr HJ.out ⟨by rw[hpl.out];exact hpm.out,by rw[hpl.out];exact hik,hx⟩;simp only[pV]at hy;have HX:=ah hx;clear hx hm;have hpx:P.length<=9223372036854775807:=by omega
   gi_wp2;refine hR.mono ?_;rintro e W3 ⟨rfl,hJ3,_⟩;gi_wp2
   go_roundw
   case rel=>
    refine⟨k+1,_,pre++[(i,(a0,a1,a2))],by omega,?_,by go_num,?_,?_,hJ3⟩
    .omega
    .show _=_
     rw[mU,hpl.out];rfl
    .show _=_
     rw[pG,hpm.out,D_,List.getElem?_reverse (by omega),show P.length - 1 - k=i by omega,HX.out];rfl
   case measure=>simp[intOf]
  .obtain rfl:k=P.length:=by omega
   obtain rfl:m= -1:=by omega
   gi_wp2
   go_end0
   exact⟨⟨_,rfl⟩,W.heap.size,bJ _,.inl ⟨pre,by rw[hpm.out,zY (by simp)],HJ.out⟩⟩
end
section
open Go.RowKit Go.Shelf Tryz
attribute [local go_sem] Oper.semAt_some
theorem um(F:List ay):(bH F).length=F.length*6:=gW ay.cells 6 (λ_=>rfl) F
theorem JX{F:List ay}{i j:Nat}{x:ay}(hi:F[i]?=some x)(hj:j<6):(bH F)[i*6+j]?=x.cells[j]?:=bG ay.cells 6 (λ_=>rfl) F i j x hi hj
theorem o8(F:List ay):∀u∈bH F,u.oneCell'=true:=by
 intro u hu;obtain⟨x,_,hx⟩:=Br.1 hu;simp only[ay.cells,dx,iQ,or_false]at hx;rcases hx with rfl|rfl|rfl|rfl|rfl|rfl<;>rfl
theorem LY{F:List ay}{i:Nat}{y:ay}(hy:F[i]?=some y)(v:Int):(bH F).set (i*6+2) (.int .i64 v)=bH (F.set i (y.GA v)):=yt ay.cells 6 (λ_=>rfl) _ _ F i 2 y hy (by omega) rfl
theorem JY{F:List ay}{i:Nat}{y:ay}(hy:F[i]?=some y)(v:Int):(bH F).set (i*6+3) (.int .i64 v)=bH (F.set i (y.BM v)):=yt ay.cells 6 (λ_=>rfl) _ _ F i 3 y hy (by omega) rfl
theorem Own.fact{w:World}{t:TypeId}{b:Nat}{F:List ay}(h:Own w t b (bH F)){i:Nat}{x:ay}(hx:F[i]?=some x){j:Nat}(hj:j<6){u:Value}(hu:x.cells[j]?=some u):w.cell? ⟨b,i*6+j,none⟩=some u:=h.cell ((JX hx hj).trans hu)
theorem U4{P:List (Nat×Nat)}{F:List ay}{k:Nat}{p:Nat×Nat}(hp:P[k]?=some p):(P.take (k+1)).foldl jE F=jE ((P.take k).foldl jE F) p:=by
 rw[D_,hp,uG];rfl
theorem Hz(F:List ay)(fb fc:Nat)(P:List (Nat×Nat))(pA:Option Addr)(pc:Nat)(w:World)(hF:Own w 56 fb (bH F))(hP:At w 2 pA P.length pc (iB P))(hin:∀p∈P,p.1<F.length/\p.2<F.length)(hne:∀b off,pA=some ⟨b,off,none⟩->b≠fb)(hpl:P.length<=1000000):
 Calls prog 140 #[.slice (some ⟨fb,0,none⟩) F.length fc,.slice pA P.length pc] w (λe w'=>e= .returned (.tuple #[])/\Own w' 56 fb (bH (BN P F))/\aG (λk=>k=fb) w w'):=by
 have hfw:=hF.lt;have HF:=ah hF;clear hF;have HP:=ah hP;clear hP;have uE:=ah hin;clear hin;have JZ:=ah hne;clear hne;refine(fq (n:=3)).1 ?_;refine callsIn_of_wp_marks func140 rfl trivial ?_ rfl;simp only[ntmps140,uF,gV,kM,Nat.reduceAdd,Nat.reduceSub,wz,wB,wE,wC,pE,wD]
 gi_upto_region 1 with(fail)
 generalize hW0:World.alloc _ _=W0;obtain⟨HB,hh0⟩:=bx1 hW0;have hb0:W0.cell? ⟨w.heap.size,0,none⟩=some (.slice (some ⟨fb,0,none⟩) F.length fc):=(aK W0 _ 0 _ _ _ hh0).trans rfl;have hs0:w.heap.size<W0.heap.size:=aB hh0;clear hW0 hh0;have HO0:=ah (HF.out.below HB.out);have HP0:=ah (HP.out.below (by omega) HB.out);clear HF HP;gi_wp2
 gi_loopw [14] (λv wr=>∃k:Nat,k<=P.length/\v= .int .i64 k/\Hid (Own wr 56 fb (bH ((P.take k).foldl jE F)))/\Hid (aG (λk=>k=fb) W0 wr)) (λv _=>P.length - (intOf v).toNat)
 case atStart=>exact⟨0,aU _,rfl,HO0,aG.refl _ _⟩
 case round=>
  obtain⟨k,hk,rfl,HO,HU⟩:=hrel;by_cases hlt:k<P.length
  .obtain⟨⟨a,b⟩,hp⟩:∃p,P[k]?=some p:=⟨P[k],aS hlt⟩
   obtain⟨hia,hib⟩:=uE.out _ (cK hp);simp only at hia hib;obtain⟨pb,po,hA,hpb,hpc⟩:=(HP0.out.1).form (by omega) (by omega);subst hA;have hpn:=JZ.out pb po rfl;have hsr:=HU.out.size;have e0:wr.cell? ⟨pb,po+k*2,none⟩=some (.int .i64 a):=by rw[bQ HU.out hpb hpn,hpc _ (by omega)];exact fZ (j:=0) hp (by omega)
   have e1:wr.cell? ⟨pb,po+k*2+1,none⟩=some (.int .i64 b):=by rw[bQ HU.out hpb hpn,iR,hpc _ (by omega)];exact fZ (j:=1) hp (by omega)
   have b0:=(bQ (o:=0) HU.out hs0 (by omega)).trans hb0;generalize hG:(P.take k).foldl jE F=G at HO;have hGl:G.length=F.length:=by rw[<-hG];exact(jB _ _).length
   obtain⟨x,hx⟩:∃x,G[a]?=some x:=⟨G[a]'(by omega),aS (by omega)⟩;obtain⟨y,hy⟩:∃y,G[b]?=some y:=⟨G[b]'(by omega),aS (by omega)⟩;have vC:Hid ((P.take (k+1)).foldl jE F=G.set b (y.GA (max y.low x.low))):=by show _=_;rw[U4 hp,hG];exact NR hx hy
   have HX:=ah hx;clear hx;have HY:=ah hy;clear hy;clear hp hpc hG
   gi_upto_region 4 with(fail)
   generalize hWa:World.alloc _ _=Wa;obtain⟨hba,hxa⟩:=bx1' hWa;have q0:Wa.cell? ⟨wr.heap.size,0,none⟩=some (.int .i64 a):=(aK Wa _ 0 _ _ _ hxa).trans rfl;have q1:Wa.cell? ⟨wr.heap.size,1,none⟩=some (.int .i64 b):=(aK Wa _ 1 _ _ _ hxa).trans rfl;have Ht:Hid (aG (λk=>k=fb) W0 Wa):=l8 HU.out hba;have b1:Wa.cell? ⟨w.heap.size,0,none⟩=some (.slice (some ⟨fb,0,none⟩) F.length fc):=((aL hba).1 _ _ (by omega)).trans b0;have LZ:=ah (HO.out.below hba);have x2:Wa.cell? ⟨fb,a*6+2,none⟩=some (.int .i64 x.low):=LZ.out.fact HX.out (by omega) rfl;have y2:Wa.cell? ⟨fb,b*6+2,none⟩=some (.int .i64 y.low):=LZ.out.fact HY.out (by omega) rfl;have f2:=LZ.out.frozen (b*6+2);have ia:(a:Int)<(F.length:Int):=by omega
   have ib:(b:Int)<(F.length:Int):=by omega
   clear hWa hba hxa e0 e1 b0 hb0;refine aR 9 (jV.wide _) ?_;simp only[gF,bW,gI,b_];repeat(go_big_quiet_step (fail))
   refine aY ?_;rintro _ ⟨mq,rfl⟩
   gi_upto_region 5 with(fail)
   refine aR 12 (jV.wide _) ?_;simp only[gF,bW,gI,b_];repeat(go_big_quiet_step (fail))
   refine aY ?_;rintro _ ⟨mr,rfl⟩;have qB:Hid ((if y.low<x.low then x.low else y.low)=max y.low x.low):=by show _=_;split<;>omega
   gi_wp2
   go_roundw
   case rel=>
    refine⟨k+1,by omega,by go_num,?_,?_⟩
    .have h:=(LZ.out.keep (((aG.refl (λ_=>False) Wa).drewN (mq+mr))) (λh=>h)).set (i:=b*6+2) (by rw[um];omega) (.int .i64 (max y.low x.low))
     rw[LY HY.out,<-vC.out,<-qB.out]at h;exact h
    .exact(Ht.out.drewN _).setCell (.inl rfl) _
   case measure=>simp[intOf];omega
  .obtain rfl:k=P.length:=by omega
   have HG0:Hid ((P.take P.length).foldl jE F=P.foldl jE F):=by show _=_;rw[iG]
   rw[HG0.out]at HO;clear HG0 hk hlt;gi_wp2_with (refine⟨trivial,?_⟩;gi_at_call 163;refine(fq.2 (JV _ _ _ _)).mono ?_;rintro e z ⟨rfl,rfl⟩);generalize hW2:World.alloc _ _=W2;obtain⟨hb2,qd⟩:=bx1' hW2;have hs2:=hb2.size;have hl2:wr.heap.size<W2.heap.size:=aB qd;have hsr:=HU.out.size;have c2:W2.cell? ⟨wr.heap.size,0,none⟩=some (.slice pA P.length pc):=(aK W2 _ 0 _ _ _ qd).trans rfl;have vD:Hid (aG (λk=>k=fb) W0 W2):=l8 HU.out hb2;have Nb:Hid (At W2 2 pA P.length pc (iB P)):=uS HP0.out (by omega) vD.out JZ.out;have EY:=ah (HO.out.below hb2);have bw2:W2.cell? ⟨w.heap.size,0,none⟩=some (.slice (some ⟨fb,0,none⟩) F.length fc):=(bQ vD.out (by omega) (by omega)).trans hb0;clear hW2 hb2 qd HO HO0 hb0;generalize hG0:P.foldl jE F=G0 at EY;have ajS:G0.length=F.length:=by rw[<-hG0];exact(jB _ _).length
   have HG0:=ah hG0;clear hG0;refine nN (α:=Nat×(Nat×Nat)) rfl (by omega) (gf:=180) rfl trivial (enters_of func180 (by kernel_rfl) rfl)
    (λW1 _ _=>Hw (Bw:=wr.heap.size) (A:=pA) (c:=pc) (P:=P) _ (by omega)
     (λ_ pre V=>Own V 56 fb (bH ((pre.map Prod.snd).foldl l7 G0))/\aG (λk=>k=fb) W2 V) W1
     (λ_ pre V h=>⟨(bQ h.2 hl2 (by omega)).trans c2,uS Nb.out (by omega) h.2 JZ.out⟩)) (λ_ _=>rfl)
    (λ_ _ _=>True) (λ_ _ _ _ h ht=>⟨h.1.turn ht,LX h.2 ht (λk hk=>by omega)⟩) (λ_ _ _ _ h _=>h) (λ_ _ _ _ _ h _=>h) (λ_ _ _ _ _ h _=>h) (λ_ _ _ _ _ _ _ h _=>h)
    (λ_ _ _ _ _ _ h=>h.elim) (λ_ _ _ _ _ _ h=>h.elim) (λ_ _ _ _ _ _ h=>h.elim)
    (λx=>[.cells #[.int .i64 x.2.1,.int .i64 x.2.2] 180]) (λ_ V hV _=>⟨EY.out.below hV,l8 (aG.refl _ _) hV⟩) ?a1 ?assign ?body (λ_ _ _ _ _ _ _ _ h=>h.elim) ?done (λ_ _ _ _ _ _ h=>h.elim)
   case assign=>
    intro l b x W k K hk hK;simp only[sW];gi_wp2;try rw[hk]
    exact hK
   case body=>
    as_aux_lemma=>
     rintro l b0 pre ⟨i,a,b⟩ W k hb ⟨hO,hU⟩ ⟨hpm,hxi,hx⟩ hk hbx;have hq:=hbx 0 _ rfl;rw[kP]at hq;simp only at hx hq;obtain⟨hia,hib⟩:=uE.out (a,b) (cK hx);simp only at hia hib;generalize hG:(pre.map Prod.snd).foldl l7 G0=G at hO;have hGl:G.length=F.length:=by rw[<-hG,(mK _ _).length];exact ajS
     obtain⟨x,hxx⟩:∃x,G[a]?=some x:=⟨G[a]'(by omega),aS (by omega)⟩;obtain⟨y,hyy⟩:∃y,G[b]?=some y:=⟨G[b]'(by omega),aS (by omega)⟩;have vC:Hid (l7 ((pre.map Prod.snd).foldl l7 G0) (a,b)=G.set a (x.BM (min x.high y.high))):=by show _=_;rw[hG];exact NS (p:=(a,b)) hxx hyy
     have qB:Hid ((if y.high<x.high then y.high else x.high)=min x.high y.high):=by show _=_;split<;>omega
     have LZ:=ah hO;clear hO;have Ht:=ah hU;clear hU;have q0:W.cell? ⟨k,0,none⟩=some (.int .i64 a):=(aK W _ 0 _ _ _ hq).trans rfl;have q1:W.cell? ⟨k,1,none⟩=some (.int .i64 b):=(aK W _ 1 _ _ _ hq).trans rfl;have b1:W.cell? ⟨w.heap.size,0,none⟩=some (.slice (some ⟨fb,0,none⟩) F.length fc):=(bQ Ht.out (by omega) (by omega)).trans bw2;have x3:W.cell? ⟨fb,a*6+3,none⟩=some (.int .i64 x.high):=LZ.out.fact hxx (by omega) rfl;have y3:W.cell? ⟨fb,b*6+3,none⟩=some (.int .i64 y.high):=LZ.out.fact hyy (by omega) rfl;have f3:=LZ.out.frozen (a*6+3);have ia:(a:Int)<(F.length:Int):=by omega
     have ib:(b:Int)<(F.length:Int):=by omega
     have Uy:=ah hxx;clear hxx;clear hx hq hbx hG hyy hpm hxi;dsimp only
     gi_upto_region 9 with(fail)
     refine aR 9 (jV.round _ _) ?_;simp only[gF,bW,gI,b_];repeat(go_big_quiet_step (fail))
     refine aY ?_;rintro _ ⟨mq,rfl⟩
     gi_upto_region 10 with(fail)
     refine aR 12 (jV.round _ _) ?_;simp only[gF,bW,gI,b_];repeat(go_big_quiet_step (fail))
     refine aY ?_;rintro _ ⟨mr,rfl⟩;rw[qB.out];gi_wp2;have hu:aG (λk=>k=fb) W ((W.drewN (mq+mr)).setCell ⟨fb,a*6+3,none⟩ (.int .i64 (min x.high y.high))):=((aG.refl (λk=>k=fb) W).drewN _).setCell (.inl rfl) _;refine⟨oZ _ hu (λk o (e:k=fb) h=>LZ.out.isCells (e▸h)),?_,(Ht.out.drewN _).setCell (.inl rfl) _⟩;have h:=(LZ.out.keep (((aG.refl (λ_=>False) W).drewN (mq+mr))) (λh=>h)).set (i:=a*6+3) (by rw[um];omega) (.int .i64 (min x.high y.high));rw[JY Uy.out,<-vC.out]at h;exact h
   case done=>
    rintro D b0 xs W hD hb hS ⟨hO,hU⟩ hK;rw[hS]at hO;refine⟨by simp,.inl ⟨_,_,rfl,run_takeDeferred hK,?_⟩⟩;have ht:=gB.putObj (S:=λk=>k=D) (.deferred none) rfl hK rfl;refine⟨_,results_none rfl _ _ _,rfl,?_,?_⟩
    .rw[HG0.out.symm]at hO
     exact hO.turn ht
    .exact(((l8 (aG.refl (λk=>k=fb) w) HB.out).trans vD.out (λ_ _ h=>h)).trans hU (λ_ _ h=>h)).trans ht (λi hi ⟨(h:i=D),_⟩=>by omega)
end
open Go.RowKit Go.Shelf Tryz
def H6(w:World)(A:Option Addr)(fb:Nat)(F:List ay):Prop:=F=[]\/(A=some ⟨fb,0,none⟩/\Own w 56 fb (bH F))
theorem H6.below{w w':World}{A:Option Addr}{fb:Nat}{F:List ay}(h:H6 w A fb F)(hb:Below w.heap.size w w'):H6 w' A fb F:=h.imp id (λh=>⟨h.1,h.2.below hb⟩)
theorem H6.form{w:World}{A:Option Addr}{fb:Nat}{F:List ay}(h:H6 w A fb F){i:Nat}(hi:i<F.length):A=some ⟨fb,0,none⟩/\Own w 56 fb (bH F):=by
 rcases h with rfl|h
 .simp at hi
 .exact h
def sZ(T:List ay):Bool:=T.all (λt=>decide (t.low<=t.high))
theorem yu{T:List ay}:sZ T=true↔∀t∈T,t.low<=t.high:=by simp[sZ]
theorem Oi{F:List ay}{O:List aX}(hD:bF F)(hK:Known F O):∀p∈bL F O,p.1<F.length/\p.2<F.length:=λp hp=>by
 obtain⟨b,hb,rfl⟩:=cZ.1 hp;obtain⟨h1,h2⟩:=hK b hb;obtain⟨x,hx,_⟩:=Dw hD h1;obtain⟨y,hy,_⟩:=Dw hD h2;exact⟨(bB.1 hx).1,(bB.1 hy).1⟩
def U5(A:Option Addr)(fb:Nat)(F:List ay)(O:List aX)(w:World)(e:Ending)(w':World):Prop:=
 ∃T,e= .returned (.bool (sZ T))/\jD F T O/\H6 w' A fb T/\aG (λk=>k=fb) w w'
theorem Oj(A:Option Addr)(fc fb:Nat)(oA:Option Addr)(oc:Nat)(ho:Int)(F:List ay)(O:List aX)(w:World)(hF:gJ w ⟨⟨A,fc⟩,⟨oA,oc⟩⟩ ⟨ho,F,O⟩)(hW:H6 w A fb F)(hfb:fb<w.heap.size)(hR:∀x∈F,iK x.ref)(hD:bF F)(hF4:F.length<=4000)(hO4:O.length<=4000)(hK:Known F O):
 Calls prog 98 #[.agg #[.int .i64 ho,.slice A F.length fc,.slice oA O.length oc]] w (U5 A fb F O w):=by
 have CX:=ah (λ(w:World)(h:gJ w ⟨⟨A,fc⟩,⟨oA,oc⟩⟩ ⟨ho,F,O⟩)=>Hr ⟨⟨A,fc⟩,⟨oA,oc⟩⟩ ⟨ho,F,O⟩ w h hR hD hF4 hO4 hK);simp only[FV.val,FV.cells]at CX;have HF:=ah hF;clear hF;have HW:=ah hW;clear hW;have HD:=ah hD;clear hD;have HK:=ah hK;clear hK;clear hR;go_enter func98,ntmps98;go_wp2;go_step3;go_upto_region 1 with(fail)
 generalize hW0:World.alloc _ _=W0;obtain⟨HB,hh0⟩:=bx1 hW0;have b0:W0.cell? ⟨w.heap.size,0,none⟩=some (.int .i64 ho):=(aK W0 _ 0 _ _ _ hh0).trans rfl;have b1:W0.cell? ⟨w.heap.size,1,none⟩=some (.slice A F.length fc):=(aK W0 _ 1 _ _ _ hh0).trans rfl;have b2:W0.cell? ⟨w.heap.size,2,none⟩=some (.slice oA O.length oc):=(aK W0 _ 2 _ _ _ hh0).trans rfl;have hs0:w.heap.size<W0.heap.size:=aB hh0;clear hW0 hh0;have HP0:=ah (CX.out W0 (HF.out.below HB.out));clear CX;go_wp2_with (go_at_call 99;refine HP0.out.mono ?_;rintro e Z ⟨pA,pc,rfl,hP,hpn,hz⟩;refine Hid.out ?_);refine ah ?_;have agh:(bL F O).length<=4000:=by unfold bL;rw[dU];exact hO4
 have c1:Z.cell? ⟨w.heap.size,1,none⟩=some (.slice A F.length fc):=((aL hz).1 _ _ hs0).trans b1;have hsz:=hz.size;have HZ:Hid (Below w.heap.size w Z):=av HB.out hz;have kL:=ah (HW.out.below HZ.out);have uE:=ah (Oi HD.out HK.out);have HPN:Hid (∀b off,pA=some ⟨b,off,none⟩->b≠fb):=λb off e=>by have:=hpn b off e;omega
 generalize hPP:bL F O=P at hP agh uE;have HPP:=ah hPP;clear hPP;have HP:=ah hP;clear hP;obtain⟨M,m,hMm⟩:=UE F;have HMm:=ah hMm;clear hMm;clear hz hpn b0 b1 b2 HF HW HP0;go_wp2;go_step3;go_wp2
 go_loopg [14] (gap M m F) (λgk _ wr=>∃T:List ay,gk=gap M m T/\Hid (uN P F T)/\Hid (H6 wr A fb T)/\Hid (aG (λk=>k=fb) Z wr))
 case atStart=>exact⟨F,rfl,uN.refl _ _,kL,aG.refl _ _⟩
 case round=>
  obtain⟨T,eO,L6,HO,HU⟩:=hrel;have iw:=ah eO;clear eO;have hTl:T.length=F.length:=L6.out.less.length;clear kL;go_wp2
  go_loopg [14] P.length (λg2 v14 wq=>∃j:Nat,g2=P.length - j/\j<=P.length/\v14= .int .i64 j/\Hid (H6 wq A fb T)/\Hid (aG (λk=>k=fb) Z wq)/\Hid (∀(i:Nat)(p:Nat×Nat),i<j->P[i]?=some p->∀x y,T[p.1]?=some x->T[p.2]?=some y->x.low<=y.low/\x.high<=y.high))
  case atStart=>exact⟨0,rfl,aU _,rfl,HO,HU,λi p h=>absurd h (Nat.not_lt_zero _)⟩
  case round=>
   clear HO HU;obtain⟨j,hg2,hj,rfl,HO,HU,HC⟩:=hrel;have HG2:=ah hg2;clear hg2;by_cases hlt:j<P.length
   .obtain⟨⟨a,b⟩,hp⟩:∃p,P[j]?=some p:=⟨P[j],aS hlt⟩
    obtain⟨hia,hib⟩:=uE.out _ (cK hp);simp only at hia hib;obtain⟨hA,Q9⟩:=HO.out.form (i:=a) (by omega);subst hA;obtain⟨pb,po,hpA,hpb,hpc⟩:=(HP.out.1).form (by omega) (by omega);subst hpA;have hpn:=HPN.out pb po rfl;have hsr:=HU.out.size;have e0:wr.cell? ⟨pb,po+j*2,none⟩=some (.int .i64 a):=by rw[bQ HU.out hpb hpn,hpc _ (by omega)];exact fZ (j:=0) hp (by omega)
    have e1:wr.cell? ⟨pb,po+j*2+1,none⟩=some (.int .i64 b):=by rw[bQ HU.out hpb hpn,iR,hpc _ (by omega)];exact fZ (j:=1) hp (by omega)
    have d1:=(bQ (o:=1) HU.out (by omega) (by omega)).trans c1;obtain⟨x,hx⟩:∃x,T[a]?=some x:=⟨T[a]'(by omega),aS (by omega)⟩;obtain⟨y,hy⟩:∃y,T[b]?=some y:=⟨T[b]'(by omega),aS (by omega)⟩;have x2:wr.cell? ⟨fb,a*6+2,none⟩=some (.int .i64 x.low):=Q9.fact hx (by omega) rfl;have x3:wr.cell? ⟨fb,a*6+3,none⟩=some (.int .i64 x.high):=Q9.fact hx (by omega) rfl;have y2:wr.cell? ⟨fb,b*6+2,none⟩=some (.int .i64 y.low):=Q9.fact hy (by omega) rfl;have y3:wr.cell? ⟨fb,b*6+3,none⟩=some (.int .i64 y.high):=Q9.fact hy (by omega) rfl;have HX:=ah hx;clear hx;have HY:=ah hy;clear hy;have HPJ:=ah hp;clear hp hpc;have HOW:=ah Q9;clear Q9;have hfl:=HOW.out.lt;have hjP:(j:Int)<(P.length:Int):=by omega
    go_upto_region 5 with(fail)
    generalize hWa:World.alloc _ _=Wa;obtain⟨hba,hxa⟩:=bx1' hWa;have q0:Wa.cell? ⟨wr.heap.size,0,none⟩=some (.int .i64 a):=(aK Wa _ 0 _ _ _ hxa).trans rfl;have q1:Wa.cell? ⟨wr.heap.size,1,none⟩=some (.int .i64 b):=(aK Wa _ 1 _ _ _ hxa).trans rfl;have bc:=λo=>(aL hba).1 fb o hfl;have x2':=(bc _).trans x2;have x3':=(bc _).trans x3;have y2':=(bc _).trans y2;have y3':=(bc _).trans y3;have d1':=((aL hba).1 w.heap.size 1 (by omega)).trans d1;have Ht:Hid (aG (λk=>k=fb) Z Wa):=l8 HU.out hba;have LZ:=ah (HOW.out.below hba);have ia:(a:Int)<(F.length:Int):=by omega
    have ib:(b:Int)<(F.length:Int):=by omega
    clear hWa hba hxa e0 e1 d1 x2 x3 y2 y3 bc;refine iU 11 ?_;simp only[gF,bW,gI,b_];repeat(go_big_quiet_step (fail))
    refine aY ?_;rintro _ ⟨mq,rfl⟩;gi_wp2;go_upto_region 6 with(fail)
    have HTA:Hid (∀k,Calls prog 140 #[.slice (some ⟨fb,0,none⟩) F.length fc,.slice (some ⟨pb,po,none⟩) P.length pc] (Wa.drewN k) (λe w'=>e= .returned (.tuple #[])/\Own w' 56 fb (bH (BN P T))/\aG (λk=>k=fb) Wa w')):=λk=>by
     have hu2:aG (λk=>k=fb) Wa (Wa.drewN k):=(aG.refl _ _).drewN k;have hud:aG (λk=>k=fb/\False) Wa (Wa.drewN k):=(aG.refl _ _).drewN k;have h:=Hz T fb fc P (some ⟨pb,po,none⟩) pc (Wa.drewN k) (LZ.out.keep hud (λh=>h.2)) (uS (uS HP.out (by omega) Ht.out HPN.out) (by omega) hud (λ_ _ _ h=>h.2)) (λp hp=>by rw[hTl];exact uE.out p hp) HPN.out (by omega);rw[hTl]at h;refine h.mono ?_;rintro e w' ⟨h1,h2,h3⟩;exact⟨h1,h2,hu2.trans h3 (λ_ _ h=>h)⟩
    have t1:decide (y.low<x.low)=true\/(decide (y.low<x.low)=false/\decide (y.high<x.high)=true)\/(decide (y.low<x.low)=false/\decide (y.high<x.high)=false):=by
     cases decide (y.low<x.low)<;>cases decide (y.high<x.high)<;>simp
    rcases t1 with q2|⟨q2,q3⟩|⟨q2,q3⟩
    .refine iU 19 ?_
     simp only[gF,bW,gI,b_];repeat(go_big_quiet_step (fail))
     refine aY ?_;rintro _ ⟨mr,rfl⟩;gi_wp2;go_wp2_with (go_at_call 140;refine(HTA.out _).mono ?_;rintro e z ⟨rfl,hz1,hz2⟩;refine Hid.out ?_);refine ah ?_;have EY:=ah hz1;have vD:Hid (aG (λk=>k=fb) Z z):=Ht.out.trans hz2 (λ_ _ h=>h);clear hz1 hz2;go_wp2
     go_roundg (gap M m (BN P T))
     case measure=>rw[iw.out];exact Kw (L6.out.bounded HMm.out) (cK HPJ.out) HX.out HY.out (.inl (of_decide_eq_true q2))
     case rel=>exact⟨BN P T,rfl,L6.out.trans (xP P T),.inr ⟨rfl,EY.out⟩,vD.out⟩
    .refine iU 19 ?_
     simp only[gF,bW,gI,b_];repeat(go_big_quiet_step (fail))
     refine aY ?_;rintro _ ⟨mr,rfl⟩;gi_wp2;go_wp2_with (go_at_call 140;refine(HTA.out _).mono ?_;rintro e z ⟨rfl,hz1,hz2⟩;refine Hid.out ?_);refine ah ?_;have EY:=ah hz1;have vD:Hid (aG (λk=>k=fb) Z z):=Ht.out.trans hz2 (λ_ _ h=>h);clear hz1 hz2;go_wp2
     go_roundg (gap M m (BN P T))
     case measure=>rw[iw.out];exact Kw (L6.out.bounded HMm.out) (cK HPJ.out) HX.out HY.out (.inr (of_decide_eq_true q3))
     case rel=>exact⟨BN P T,rfl,L6.out.trans (xP P T),.inr ⟨rfl,EY.out⟩,vD.out⟩
    .refine iU 19 ?_
     simp only[gF,bW,gI,b_];repeat(go_big_quiet_step (fail))
     refine aY ?_;rintro _ ⟨mr,rfl⟩;gi_wp2;have Jo:Hid (∀(i:Nat)(p:Nat×Nat),i<j+1->P[i]?=some p->∀x y,T[p.1]?=some x->T[p.2]?=some y->x.low<=y.low/\x.high<=y.high):=λi p hi hp x' y' hx' hy'=>by
      by_cases hij:i=j
      .subst hij
       rw[HPJ.out]at hp;cases hp
       rw[HX.out]at hx';rw[HY.out]at hy';cases hx'
       cases hy'
       have h2:=of_decide_eq_false q2;have h3:=of_decide_eq_false q3;omega
      .exact HC.out i p (by omega) hp x' y' hx' hy'
     go_wp2
     go_roundg (P.length - (j+1))
     case measure=>rw[HG2.out];omega
     case rel=>exact⟨j+1,rfl,by omega,by go_num,.inr ⟨rfl,LZ.out.keep ((aG.refl (λ_=>False) Wa).drewN _) (λh=>h)⟩,Ht.out.drewN _,Jo⟩
   .obtain rfl:j=P.length:=by omega
    have d1:=(bQ (o:=1) HU.out (by omega) (by omega)).trans c1;have HT:Hid (jD F T O):=by
     rw[<-HPP.out]at L6 HC;exact L6.out.tight HD.out HK.out (λp hp x y hx hy=>by
      obtain⟨i,hi⟩:=jW.1 hp;exact HC.out i p (bB.1 hi).1 hi x y hx hy)
    clear HC L6;go_wp2
    go_loopg [56] F.length (λg3 v56 wq=>∃i:Nat,g3=F.length - i/\i<=F.length/\v56= .int .i64 i/\Hid (H6 wq A fb T)/\Hid (aG (λk=>k=fb) Z wq)/\Hid (∀(q:Nat)(x:ay),q<i->T[q]?=some x->x.low<=x.high))
    case atStart=>exact⟨0,rfl,aU _,rfl,HO,HU,λq x h=>absurd h (Nat.not_lt_zero _)⟩
    case round=>
     clear HO HU d1;obtain⟨i,hg3,hi,rfl,HO,HU,HC⟩:=hrel;have Q_:=ah hg3;clear hg3;by_cases hil:i<F.length
     .obtain⟨hA,Q9⟩:=HO.out.form (i:=i) (by omega)
      subst hA;obtain⟨⟨re,ac,lo,hi2,fi,se⟩,hx⟩:∃x,T[i]?=some x:=⟨T[i]'(by omega),aS (by omega)⟩;have x0:wr.cell? ⟨fb,i*6,none⟩=some (.int .i64 re):=Q9.fact (j:=0) hx (by omega) rfl;have x1:wr.cell? ⟨fb,i*6+1,none⟩=some (.int .i64 ac):=Q9.fact hx (by omega) rfl;have x2:wr.cell? ⟨fb,i*6+2,none⟩=some (.int .i64 lo):=Q9.fact hx (by omega) rfl;have x3:wr.cell? ⟨fb,i*6+3,none⟩=some (.int .i64 hi2):=Q9.fact hx (by omega) rfl;have x4:wr.cell? ⟨fb,i*6+4,none⟩=some (.int .i64 fi):=Q9.fact hx (by omega) rfl;have x5:wr.cell? ⟨fb,i*6+5,none⟩=some (.bool se):=Q9.fact hx (by omega) rfl;have HX:=ah hx;clear hx;have iF:(i:Int)<(F.length:Int):=by omega
      go_upto_region 12 with(fail)
      generalize hWa:World.alloc _ _=Wa;obtain⟨hba,hxa⟩:=bx1' hWa;have q2:Wa.cell? ⟨wr.heap.size,2,none⟩=some (.int .i64 lo):=(aK Wa _ 2 _ _ _ hxa).trans rfl;have q3:Wa.cell? ⟨wr.heap.size,3,none⟩=some (.int .i64 hi2):=(aK Wa _ 3 _ _ _ hxa).trans rfl;have Ht:Hid (aG (λk=>k=fb) Z Wa):=l8 HU.out hba;have LZ:=ah (Q9.below hba);clear hWa hba hxa x0 x1 x2 x3 x4 x5 Q9;cases hq:decide (hi2<lo)with
      |true=>
       have HQ:Hid (sZ T=false):=by
        cases hf:sZ T with
        |false=>rfl
        |true=>
         have h1:=yu.1 hf _ (cK HX.out);have h2:=of_decide_eq_true hq;simp only at h1;omega
       go_wp2;try rw[Exit.noGoto_ret]
       go_ret;exact⟨T,by rw[HQ.out];rfl,HT.out,.inr ⟨rfl,LZ.out⟩,((l8 (aG.refl (λk=>k=fb) w) HZ.out).trans Ht.out (λ_ _ h=>h))⟩
      |false=>
       have Jo:Hid (∀(q:Nat)(x:ay),q<i+1->T[q]?=some x->x.low<=x.high):=λq x hq2 hx=>by
        by_cases e:q=i
        .subst e
         rw[HX.out]at hx;cases hx
         have h2:=of_decide_eq_false hq;show lo<=hi2;omega
        .exact HC.out q x (by omega) hx
       go_wp2
       go_roundg (F.length - (i+1))
       case measure=>rw[Q_.out];omega
       case rel=>exact⟨i+1,rfl,by omega,by go_num,.inr ⟨rfl,LZ.out⟩,Ht,Jo⟩
     .obtain rfl:i=F.length:=by omega
      have HQ:Hid (sZ T=true):=yu.2 (λx hx=>by
       obtain⟨q,hq⟩:=jW.1 hx;exact HC.out q x (by have:=(bB.1 hq).1;omega) hq)
      go_wp2;try rw[Exit.noGoto_ret]
      go_ret;exact⟨T,by rw[HQ.out];rfl,HT.out,HO.out,((l8 (aG.refl (λk=>k=fb) w) HZ.out).trans HU.out (λ_ _ h=>h))⟩
end Go.Proofs.YtpmdedcnbockhaaGreatDoor

/-
  CsO; CsA; CsR; CsB; CsC; CsE
-/
import Derived.Test.YtpmdedcnbockhaaGreatDoorP07
import Derived.Test.YtpmdedcnbockhaaGreatDoorP09
import Derived.Sort.CutIn
set_option maxRecDepth 100000
set_option maxHeartbeats 8000000
namespace Go.Proofs.YtpmdedcnbockhaaGreatDoor
section
open Go.RowKit
theorem lD{S:Nat->Prop}{a w z:World}(h:aH S a w)(hz:Below w.heap.size w z):aH S a z:=h.trans (aH.of_below hz) (λi hi hs=>by have:=h.size;omega)
theorem bP{S:Nat->Prop}{w w':World}(h:aH S w w'){b o:Nat}(hb:b<w.heap.size)(hn:¬S b):w'.cell? ⟨b,o,none⟩=w.cell? ⟨b,o,none⟩:=by
 simp[World.cell?,h.block b hb hn]
theorem Ue{S:Nat->Prop}{w w':World}(h:aH S w w'){b o:Nat}(hb:b<w.heap.size)(hn:¬S b):w'.frozen? ⟨b,o,none⟩=w.frozen? ⟨b,o,none⟩:=by
 simp[World.frozen?,h.block b hb hn]
theorem uG{S:Nat->Prop}{w w':World}{size n c:Nat}{A:Option Addr}{xs:List Value}(h:At w size A n c xs)(hs:0<size)(hu:aH S w w')(hS:∀b off,A=some ⟨b,off,none⟩->¬S b):At w' size A n c xs:=by
 refine⟨⟨h.1.1,h.1.2.1,λhm=>?_⟩,h.2⟩;obtain⟨b,off,rfl,hlt,hc⟩:=h.1.form hm hs;refine⟨_,rfl,λj u hj=>?_⟩;have hjl:j<n*size:=by rw[<-h.1.1];exact(aZ.1 hj).1
 rw[Addr.add_lit,bP hu hlt (hS b off rfl),hc j hjl,hj]
theorem d9.upd{α:Type}{P:α->Prop}{K:TypeId}{enc:α->Lit}{w w':World}{b n:Nat}{g:α->Option Value}{S:Nat->Prop}(h:d9 P K enc w b n g)(hu:aH S w w')(hb:¬S b):d9 P K enc w' b n g:=by
 obtain⟨D,⟨es,c,h1,h2,h3,h4⟩,h5⟩:=h;exact⟨D,⟨es,c,hu.keep h1 hb,h2,h3,h4⟩,h5⟩
def Own(w:World)(t:TypeId)(b:Nat)(cs:List Value):Prop:=∃tl:List Value,w.heap[b]?=some (.cells (cs++tl).toArray t (0,0))
section
variable {w w':World} {t:TypeId} {b:Nat} {cs:List Value}
theorem Own.lt(h:Own w t b cs):b<w.heap.size:=by obtain⟨tl,h⟩:=h;exact av h
theorem Own.cell(h:Own w t b cs){i:Nat}{u:Value}(hi:cs[i]?=some u):w.cell? ⟨b,i,none⟩=some u:=by
 obtain⟨tl,h⟩:=h;rw[aG w b i _ _ _ h,List.getElem?_toArray,lX (aZ.1 hi).1,hi]
theorem Own.frozen(h:Own w t b cs)(i:Nat):w.frozen? ⟨b,i,none⟩=false:=by obtain⟨tl,h⟩:=h;simp[World.frozen?,h]
theorem Own.set(h:Own w t b cs){i:Nat}(hi:i<cs.length)(u:Value):Own (w.setCell ⟨b,i,none⟩ u) t b (cs.set i u):=by
 obtain⟨tl,h⟩:=h;refine⟨tl,?_⟩;rw[heap_setCell_same h,List.setIfInBounds_toArray,List.set_append,if_pos hi]
theorem Own.keep{S:Nat->Prop}(h:Own w t b cs)(hu:aH S w w')(hb:¬S b):Own w' t b cs:=by
 obtain⟨tl,h⟩:=h;exact⟨tl,hu.keep h hb⟩
theorem Own.below(h:Own w t b cs)(hb:Below w.heap.size w w'):Own w' t b cs:=by
 have hl:=h.lt;obtain⟨tl,h⟩:=h;exact⟨tl,(hb.block b hl).trans h⟩
theorem Own.new(w:World)(t:TypeId)(cs:List Value):Own (w.alloc (.cells cs.toArray t)) t w.heap.size cs:=⟨[],by rw[b_];exact bC w _⟩
theorem Own.Cb{size n c:Nat}(h:Own w t b cs)(hl:cs.length=n*size)(h1:∀u∈cs,u.oneCell'=true)(hn:n<=c)(hc:c<=maxLen):At w size (some ⟨b,0,none⟩) n c cs:=
 ⟨⟨hl,h1,λ_=>⟨_,rfl,λj u hj=>by rw[Addr.add_lit,nJ];exact h.cell hj⟩⟩,λe=>by simp at e,hn,hc⟩
end
theorem xD{α:Type}(f:α->List Value)(s:Nat)(h:∀a,(f a).length=s)(a':α)(u:Value):∀(l:List α)(k j:Nat)(a:α),l[k]?=some a->j<s->f a'=(f a).set j u->(l.flatMap f).set (k*s+j) u=(l.set k a').flatMap f
 |[],_,_,_,hk,_,_=>by simp at hk
 |b::l,0,j,a,hk,hj,hf=>by
  simp at hk;subst hk;rw[qR,Nat.zero_mul,nJ,List.set_append,if_pos (by rw[h];exact hj),List.set_cons_zero,qR,hf]
 |b::l,k+1,j,a,hk,hj,hf=>by
  rw[qR,List.set_append,if_neg (by rw[h,Nat.succ_mul];omega),h,show(k+1)*s+j - s=k*s+j by rw[Nat.succ_mul];omega,xD f s h a' u l k j a (by simpa using hk) hj hf,List.set_cons_succ,qR]
def sM(p:Nat×Nat):List Value:=[.int .i64 p.1,.int .i64 p.2]
def gT(P:List (Nat×Nat)):List Value:=P.flatMap sM
theorem lF(P:List (Nat×Nat)):(gT P).length=P.length*2:=gK sM 2 (λ_=>rfl) P
theorem fF{P:List (Nat×Nat)}{i j:Nat}{p:Nat×Nat}(hi:P[i]?=some p)(hj:j<2):(gT P)[i*2+j]?=(sM p)[j]?:=bG sM 2 (λ_=>rfl) P i j p hi hj
theorem Je{P:List (Nat×Nat)}{i:Nat}(hi:i<P.length)(q:Nat×Nat):((gT P).set (i*2) (.int .i64 q.1)).set (i*2+1) (.int .i64 q.2)=gT (P.set i q):=by
 obtain⟨x,y⟩:=q;have h0:=aT hi;have h1:=xD sM 2 (λ_=>rfl) (x,(P[i]).2) (.int .i64 x) P i 0 _ h0 (by omega) rfl;have h2:=xD sM 2 (λ_=>rfl) (x,y) (.int .i64 y) (P.set i (x,(P[i]).2)) i 1 (x,(P[i]).2) (by rw[jI,if_pos rfl,if_pos hi]) (by omega) rfl;unfold gT;rw[jW]at h1;rw[h1,h2,List.set_set]
theorem Jf(P:List (Nat×Nat)):∀u∈gT P,u.oneCell'=true:=by
 intro u hu;obtain⟨p,_,hp⟩:=Aj.1 hu;simp only[sM,d_,iW,or_false]at hp;rcases hp with rfl|rfl<;>rfl
def mZ(P:List (Nat×Nat))(k:Nat):List (Nat×Nat):=P.take k++List.replicate (P.length - k) (0,0)
theorem Nj(P:List (Nat×Nat)){k:Nat}(hk:k<=P.length):(mZ P k).length=P.length:=by simp[mZ];omega
theorem Nk(P:List (Nat×Nat)):mZ P P.length=P:=by simp[mZ]
theorem K3{P:List (Nat×Nat)}{k:Nat}{p:Nat×Nat}(hp:P[k]?=some p):(mZ P k).set k p=mZ P (k+1):=by
 have hk:k<P.length:=(aZ.1 hp).1;unfold mZ;rw[List.set_append,if_neg (by rw[p9];omega),p9,Nat.min_eq_left (by omega),Nat.sub_self,Dt,hp,show P.length - k=(P.length - (k+1))+1 by omega,List.replicate_succ,List.set_cons_zero];simp
theorem Gw(n:Nat):(madeCells (Value.cells (.agg #[.int .i64 0,.int .i64 0])) (n*2)).toList=gT (List.replicate n (0,0)):=by
 apply kX;intro j;have hl:=lF (List.replicate n (0,0));rw[mH]at hl;rcases iA j (n*2)with hj|hj
 .have h1:=fF (P:=List.replicate n (0,0)) (i:=j/2) (j:=j % 2) (p:=(0,0)) (by rw[Am,if_pos (by omega)]) (by omega)
  rw[show j/2*2+j % 2=j by omega]at h1;rw[h1];rcases Nat.mod_two_eq_zero_or_one j with h2|h2<;>simp[madeCells,hj,h2,sM,Value.cells]
 .rw[lY (by rw[Array.length_toList,size_madeCells];exact hj),lY (by rw[hl];exact hj)]
end
section
open Go.RowKit
theorem Nl{F:List aB}(h:bB F){i j:Nat}{x y:aB}(hx:F[i]?=some x)(hy:F[j]?=some y)(hij:i<j):x.ref≠y.ref:=by
 obtain⟨hi,rfl⟩:=aZ.1 hx;obtain⟨hj,rfl⟩:=aZ.1 hy;have h2:=Du.1 h i j (by simpa using hi) (by simpa using hj) hij;simp at h2;omega
def Uf(P:List (Nat×Nat))(w:World)(e:Ending)(w':World):Prop:=
 ∃(A:Option Addr)(c:Nat),e= .returned (.slice A P.length c)/\At w' 2 A P.length c (gT P)/\(∀b off,A=some ⟨b,off,none⟩->w.heap.size<=b)/\Below w.heap.size w w'
theorem Cz{F:List aB}{r:Int}(hD:bB F)(h:∃x∈F,x.ref=r):∃x,F[idxOf F r]?=some x/\x.ref=r:=by
 obtain⟨x,hx,rfl⟩:=h;obtain⟨i,hi⟩:=jV.1 hx;exact⟨x,by rw[iU hD hi];exact hi,rfl⟩
theorem Gx(fv:FV)(f:bR)(w:World)(hF:fM w fv f)(hR:∀x∈f.facts,gW x.ref)(hD:bB f.facts)(hF4:f.facts.length<=4000)(hO4:f.orders.length<=4000)(hK:Known f.facts f.orders):Calls Tryz.prog 99 #[fv.val f] w (Uf (bI f.facts f.orders) w):=by
 obtain⟨⟨fA,fc⟩,⟨oA,oc⟩⟩:=fv;obtain⟨ho,F,O⟩:=f;obtain⟨hl1,hl2⟩:=hF.abz;obtain⟨hl3,hl4⟩:=hF.abA;simp only at hl1 hl2 hl3 hl4;have hfx:F.length<=9223372036854775807:=by omega
 have hox:O.length<=9223372036854775807:=by omega
 have Vt:Hid (At w 6 fA F.length fc (bE F)):=hF.facts;have HOS:Hid (At w 2 oA O.length oc (eB O)):=hF.orders;clear hF;have HR:Hid (∀x∈F,gW x.ref):=hR;clear hR;have HD:Hid (bB F):=hD;clear hD;have HK:Hid (Known F O):=hK;clear hK;simp only at hF4 hO4;have hmm:=@run_makeMap Tryz.prog;simp only[FV.val,FV.cells];go_enter Tryz.func99,Tryz.ntmps99;go_upto_region 2 with(fail)
 have hsz:(w.alloc (Obj.cells #[.int .i64 ho,.slice fA F.length fc,.slice oA O.length oc] 31)).heap.size=w.heap.size+1:=aM _ _;generalize hW0:World.alloc w _=W0 at hsz⊢;obtain⟨HB,hh0⟩:=bx1 hW0;clear hW0;obtain⟨jA,jB,jK⟩:=kc3 hh0;clear hh0;have hM:d9 gW 3 encI (W0.alloc (.map #[] 0)) (w.heap.size+1) 0 (λ_=>none):=by rw[<-hsz];exact d9.made W0
 generalize hW1:W0.alloc (.map #[] 0)=W1 at hM⊢;have hb1:Below W0.heap.size W0 W1:=by rw[<-hW1];exact aK (aD _ _) _
 clear hW1;have hM':d9 gW 3 encI (⟨W1,hb1⟩:Bl W0).val (w.heap.size+1) 0 (λ_=>none):=hM;clear hM;change Code.wp _ _ _ _ (Bl.val (⟨W1,hb1⟩:Bl W0));generalize(⟨W1,hb1⟩:Bl W0)=s0 at hM'⊢;have HM:=ah hM';clear hM';clear hb1;go_wp2
 go_loopg [13] F.length (λgk v13 wr=>∃(j n:Nat)(g:Int->Option Value)(z:Bl W0),gk=F.length - j/\j<=F.length/\v13= .int .i64 j/\wr=z.val/\n<=j/\Hid (d9 gW 3 encI z.val (w.heap.size+1) n g)/\Hid (∀(i:Nat)(x:aB),i<j->F[i]?=some x->g x.ref=some (.int .i64 i)))
 case atStart=>exact⟨0,0,_,_,rfl,aV _,rfl,rfl,bH _,HM,λi x h _=>absurd h (Nat.not_lt_zero _)⟩
 case round=>
  obtain⟨j,n,g,z,eH,hj,rfl,rfl,hn,hmx,hgf⟩:=hrel;have iB:=ah eH;clear eH;by_cases hlt:j<F.length
  .obtain⟨fb,fo,kI,hfb,hcell⟩:=Vt.out.fact (by omega)
   subst kI;obtain⟨⟨re,ac,lo,hi,fi,se⟩,hx⟩:∃x,F[j]?=some x:=⟨F[j],aT hlt⟩;obtain⟨e0,e1,e2,e3,e4,e5⟩:=TW (λz hz=>hcell j _ hx z (ay HB.out hz)) rfl;have hre:gW re:=HR.out _ (cK hx);have HX:=ah hx;clear hx;have j1:(j:Int)<(F.length:Int):=by omega
   go_upto_region 5 with(fail)
   generalize hWa:World.alloc _ _=Wa;obtain⟨hba,hxa⟩:=bx1' hWa;clear hWa;have o9:Hid (Below W0.heap.size W0 Wa):=ay z.prop hba;obtain⟨d0,d1,d2,d3,d4,d5⟩:=kc6 hxa;have hma:d9 gW 3 encI Wa (w.heap.size+1) n g:=hmx.out.below hmx.out.lt hba;obtain⟨w2,hrun,hm2,htr⟩:=d9.put qZ AP Tryz.underlying90 hma (by unfold maxLen;omega) hre (Ci hre) (.int .i64 j);have q0:=d0 ⟨Wa,aD _ _⟩;clear d0 d1 d2 d3 d4 d5 hxa hba;simp only at q0;have Ag:=ah hm2;clear hm2;have HTR:=ah htr;clear htr;clear hma;go_wp2
   go_roundg (F.length - (j+1))
   case measure=>have:=iB.out;omega
   case rel=>
    refine⟨j+1,_,_,⟨w2,o9.out.trans (vP HTR.out (by omega))⟩,rfl,by omega,by go_num,rfl,?_,Ag,?_⟩
    .split<;>omega
    .intro i x hi' hxi
     by_cases hij:i=j
     .subst hij
      have h:=HX.out;rw[hxi]at h;injection h with h
      subst h;simp
     .have hne:x.ref≠re:=Nl HD.out hxi HX.out (by omega)
      show(if x.ref=re then some (Value.int .i64 j)else g x.ref)=_;rw[if_neg hne];exact hgf.out i x (by omega) hxi
  .obtain rfl:j=F.length:=by omega
   have HMZ:=hmx;clear hmx iB;obtain⟨ip,hip,hpz,hps,hpb⟩:=info_parts' (P:=Tryz.prog) (t:=180) (z:=some (.agg #[.int .i64 0,.int .i64 0])) (s:=2) (b:=16) (by kernel_rfl);have hmk:=run_makeSlice (P:=Tryz.prog) (w:=z.val) 178 180 ip _ Tryz.underlying178 hip hpz .i64 .i64 (O.length:Int) (O.length:Int) (by omega) (by omega) (by rw[hps];simp;omega) (by rw[hpb];omega) (by omega);simp only[su,hps]at hmk;go_upto_region 8 with(fail)
   obtain⟨pb,hpb⟩:∃pb,pb=z.val.heap.size:=⟨_,rfl⟩;rw[<-hpb];generalize CF:World.alloc _ _=Wb;have hnw:Wb.heap[pb]?=some (.cells (madeCells (Value.cells (.agg #[.int .i64 0,.int .i64 0])) (O.length*2)) 180 (0,0)):=by
    rw[<-CF,hpb];exact bC z.val _
   have hbb:Below z.val.heap.size z.val Wb:=by rw[<-CF];exact aK (aD _ _) _
   have pQ:=ah (HMZ.out.below HMZ.out.lt hbb);have hPb:Below W0.heap.size W0 Wb:=ay z.prop hbb;have hpl:(bI F O).length=O.length:=by simp[bI]
   have HOW:Hid (Own Wb 180 pb (gT (mZ (bI F O) 0))):=by
    refine⟨[],?_⟩;rw[b_,mZ,hpl,bV,mI,Nat.sub_zero,<-Gw,Array.toArray_toList];exact hnw
   have hzs:=z.prop.size;have hpW:w.heap.size+1<pb:=by have:=HMZ.out.lt;omega
   have hbW:pb<Wb.heap.size:=av hnw;have HGF:Hid (∀b∈O,(∃i:Nat,idxOf F b.ref=i/\gW b.ref/\g b.ref=some (.int .i64 i))/\∃i:Nat,idxOf F b.next=i/\gW b.next/\g b.next=some (.int .i64 i)):=λb hb=>by
    obtain⟨h1,h2⟩:=HK.out b hb;have key:∀r,(∃x∈F,x.ref=r)->∃i:Nat,idxOf F r=i/\gW r/\g r=some (.int .i64 i):=λr hr=>by
     obtain⟨x,hx,rfl⟩:=Cz HD.out hr;exact⟨_,rfl,HR.out x (cK hx),hgf.out _ x (aZ.1 hx).1 hx⟩
    exact⟨key _ h1,key _ h2⟩
   have xE:Hid (Below w.heap.size w Wb):=ay HB.out hPb;have vY:=ah hpl;clear hpl;have HPE:=ah hpb;clear hpb;have kb:=jK ⟨Wb,hPb⟩;simp only at kb;clear hgf hPb hbb CF hnw hmk HMZ hn hzs hpz hps hip jA jB jK;go_wp2
   go_loopg [30] O.length (λgk v30 wr=>∃(j:Nat),gk=O.length - j/\j<=O.length/\v30= .int .i64 j/\Hid (Own wr 180 pb (gT (mZ (bI F O) j)))/\Hid (aH (λk=>k=pb) Wb wr))
   case atStart=>exact⟨0,rfl,aV _,rfl,HOW,aH.refl _ _⟩
   case round=>
    obtain⟨j,eH,hj,rfl,Ah,HU⟩:=hrel;have iB:=ah eH;clear eH HOW;by_cases hlt:j<O.length
    .obtain⟨ob,oo,kI,hob,hcell⟩:=HOS.out.uQ (by omega)
     subst kI;obtain⟨⟨br,bn⟩,hx⟩:∃x,O[j]?=some x:=⟨O[j],aT hlt⟩;obtain⟨⟨i1,hi1,hr1,hg1⟩,i2,hi2,hr2,hg2⟩:=HGF.out _ (cK hx);have hsW:=xE.out.size;have e0:wr.cell? ⟨ob,oo+j*2,none⟩=some (.int .i64 br):=(bP HU.out (by omega) (by omega)).trans (hcell j _ hx Wb xE.out 0 (by omega));have e1:wr.cell? ⟨ob,oo+j*2+1,none⟩=some (.int .i64 bn):=(bP HU.out (by omega) (by omega)).trans (hcell j _ hx Wb xE.out 1 (by omega));have HX:Hid ((bI F O)[j]?=some (i1,i2)):=by show _=_;unfold bI;rw[gG,hx];simp only[j3];rw[hi1,hi2]
     clear hx hcell hi1 hi2;have hpr:=HU.out.size;have hbr:pb<wr.heap.size:=by omega
     have j1:(j:Int)<(O.length:Int):=by omega
     go_upto_region 11 with(fail)
     generalize hWa:World.alloc _ _=Wa;obtain⟨hba,hxa⟩:=bx1' hWa;have Mh:Hid (aH (λk=>k=pb) Wb Wa):=lD HU.out hba;have hOa:=Ah.out.below hba;have hMa:=pQ.out.upd (w':=Wa) Mh.out (by omega);have q0:Wa.cell? ⟨wr.heap.size,0,none⟩=some (.int .i64 br):=(aG Wa _ 0 _ _ _ hxa).trans rfl;have q1:Wa.cell? ⟨wr.heap.size,1,none⟩=some (.int .i64 bn):=(aG Wa _ 1 _ _ _ hxa).trans rfl;have l1:=d9.look AP Tryz.underlying90 hMa (RX Wa) hr1 (Ci hr1);have l2:=d9.look AP Tryz.underlying90 hMa (RX Wa) hr2 (Ci hr2);rw[hg1]at l1;rw[hg2]at l2;simp only[Option.getD_some]at l1 l2;have hlen:=Nj (bI F O) (k:=j) (by rw[vY.out];exact hj);obtain⟨⟨x0,y0⟩,hgt⟩:∃p,(mZ (bI F O) j)[j]?=some p:=⟨_,aT (by rw[hlen,vY.out];exact hlt)⟩;have p0:Wa.cell? ⟨pb,j*2,none⟩=some (.int .i64 x0):=hOa.cell (fF hgt (j:=0) (by omega));have p1:Wa.cell? ⟨pb,j*2+1,none⟩=some (.int .i64 y0):=hOa.cell (fF hgt (j:=1) (by omega));have f0:=hOa.frozen (j*2);have f1:=hOa.frozen (j*2+1);clear hgt;have HOA:=ah hOa;clear hOa;clear hWa hba hxa hMa hr1 hr2 hg1 hg2 e0 e1;go_wp2
     go_roundg (O.length - (j+1))
     case measure=>have:=iB.out;omega
     case rel=>
      refine⟨j+1,rfl,by omega,by go_num,?_,?_⟩
      .have h:=(HOA.out.set (i:=j*2) (by rw[lF,hlen,vY.out];omega) (.int .i64 i1)).set (i:=j*2+1) (by rw[List.length_set,lF,hlen,vY.out];omega) (.int .i64 i2)
       rw[Je (by rw[hlen,vY.out];exact hlt) (i1,i2),K3 HX.out]at h;exact h
      .exact(Mh.out.setCell (p:=⟨pb,j*2,none⟩) (.inl rfl) (.int .i64 i1)).setCell (p:=⟨pb,j*2+1,none⟩) (.inl rfl) (.int .i64 i2)
    .obtain rfl:j=O.length:=by omega
     have hall:=Ah.out;rw[<-vY.out,Nk]at hall;have hAt:=hall.Cb (n:=(bI F O).length) (c:=O.length) (lF _) (Jf _) (by rw[vY.out];exact bH _) (by unfold maxLen;omega);have HAT:=ah hAt;clear hAt hall;go_wp2;go_ret;refine⟨_,_,by rw[vY.out];rfl,HAT.out,λb off e=>by simp only[Option.some.injEq,Addr.mk.injEq]at e;omega,xE.out.trans (HU.out.below xE.out.size (λk hk=>by omega))⟩
end
section
open Go.RowKit
def allocs(W:World)(l:List Obj):World:=l.foldl World.alloc W
theorem vw(W:World)(l:List Obj):Below W.heap.size W (allocs W l):=by
 unfold allocs;induction l generalizing W with
 |nil=>exact aD _ _
 |cons o l ih=>exact ay (aK (aD _ _) o) (ih _)
theorem Gy{W:World}{l:List Obj}{i:Nat}{o:Obj}(h:l[i]?=some o):(allocs W l).heap[W.heap.size+i]?=some o:=by
 induction l generalizing W i with
 |nil=>simp at h
 |cons a l ih=>
  show(allocs (W.alloc a) l).heap[_]?=_;cases i with
  |zero=>
   simp only[Al,Option.some.injEq]at h;subst h;have h1:=World.alloc_heap_new W a;rw[jW,(vw (W.alloc a) l).block _ (av h1)];exact h1
  |succ i=>
   have h1:=ih (W:=W.alloc a) (i:=i) (by simpa using h);rw[aM]at h1;rw[show W.heap.size+(i+1)=W.heap.size+1+i by omega];exact h1
def fI(S:Nat->Prop)(V V':World):Prop:=aH (λk=>S k/\∃o:Obj,V.heap[k]?=some o/\o.isCells=false) V V'
theorem fI.of_below{S:Nat->Prop}{V V':World}(h:Below V.heap.size V V'):fI S V V':=⟨h.os,h.tape,h.output,h.size,λk hk _=>h.block k hk⟩
theorem fI.putObj{S:Nat->Prop}{V:World}{l:Nat}{o:Obj}(o':Obj)(hl:S l)(h:V.heap[l]?=some o)(hc:o.isCells=false):fI S V (V.putObj l o'):=
 ⟨rfl,rfl,rfl,by simp[World.putObj],λk _ hn=>World.putObj_heap_other (λe=>hn (by subst e;exact⟨hl,o,h,hc⟩))⟩
theorem fI.cells{S:Nat->Prop}{V V':World}(h:fI S V V'){k:Nat}{cs:Array Value}{t:TypeId}{fz:Nat×Nat}(hk:V.heap[k]?=some (.cells cs t fz)):V'.heap[k]?=some (.cells cs t fz):=
 h.keep hk (λ⟨_,o,ho,hc⟩=>by rw[hk]at ho;cases ho;cases hc)
theorem fI.same{S:Nat->Prop}{V V':World}(h:fI S V V'){k:Nat}(hn:¬S k)(hk:k<V.heap.size):V'.heap[k]?=V.heap[k]?:=h.block k hk (λ⟨h1,_⟩=>hn h1)
theorem fI.trans{S:Nat->Prop}{a b c:World}(h:fI S a b)(k:fI S b c):fI S a c:=by
 refine aH.trans h k (λi hi ⟨h1,o,ho,hc⟩=>?_);by_cases hz:S i/\∃o:Obj,a.heap[i]?=some o/\o.isCells=false
 .exact hz
 .rw[h.block i hi hz]at ho
  exact absurd ⟨h1,o,ho,hc⟩ hz
abbrev uH(D:Nat)(V V':World):Prop:=fI (λk=>k=D+1) V V'
theorem K4{S Z:Nat->Prop}{a V V':World}(h:aH S a V)(ht:fI Z V V')(hZ:∀k,Z k->a.heap.size<=k):aH S a V':=
 aH.trans h ht (λi hi ⟨h1,_⟩=>by have:=hZ i h1;omega)
theorem oC{S:Nat->Prop}{W W':World}(B:Nat)(hu:aH S W W')(hS:∀k o,S k->W.heap[k]?=some o->o.isCells=true):KeepsFrom B W W':=
 ⟨hu.size,λk o _ hk ho=>hu.keep hk (λhs=>by have:=hS k o hs hk;rw[ho]at this;cases this)⟩
theorem Own.isCells{w:World}{t:TypeId}{b:Nat}{cs:List Value}(h:Own w t b cs){o:Obj}(ho:w.heap[b]?=some o):o.isCells=true:=by
 obtain⟨tl,h⟩:=h;rw[h]at ho;cases ho
 rfl
theorem Own.turn{S:Nat->Prop}{w w':World}{t:TypeId}{b:Nat}{cs:List Value}(h:Own w t b cs)(ht:fI S w w'):Own w' t b cs:=by
 obtain⟨tl,h⟩:=h;exact⟨tl,ht.cells h⟩
def WY{α:Type}(F:Fence)(n:Nat)(P:Program)(g:Nat)(lb:Array Value)(encs:Nat->α->Array Value)(Mv:Nat->World->World->Prop)(Kp:Nat->World->World->Prop)(I:Nat->List α->World->Prop)(Ok Nn:Nat->List α->α->World->Prop)(S SL:List α->Prop)(W:World):Prop:=
 ∀(l:Nat)(J JL:Nat->List α->World->Prop),(∀b pre V,J b pre V->I b pre V)->
  (∀b V,Below W.heap.size W V->W.heap.size<=b->J b [] V)->
  (∀b pre V V',J b pre V->Mv b V V'->J b pre V')->(∀b pre V V',JL b pre V->Mv b V V'->JL b pre V')->
  (∀b pre x V,J b pre V->Ok b pre x V->YieldAt F (n - 1) P l (encs b x) V λe V'=>e= .returned (.bool true)/\J b (pre++[x]) V'/\Kp b V V')->
  (∀b pre x V,J b pre V->Nn b pre x V->YieldAt F (n - 1) P l (encs b x) V λe V'=>e= .returned (.bool false)/\JL b (pre++[x]) V'/\Kp b V V')->
  CallsIn F n P g (#[.func (.yield l) #[] #[]]++lb) W λe W'=>(∃v,e= .returned v)/\∃b,W.heap.size<=b/\((∃xs,S xs/\J b xs W')\/∃xs,SL xs/\JL b xs W')
theorem m_{F:Fence}{n:Nat}{P:Program}{α:Type}{g:Operand}{ps:Array Tmp}{assign body:Code}{Q:Exit->Act->World->Prop}{a:Act}{w:World}
 (hro:F.round=none)(h1:1<=n){gf:Nat}{lb:Array Value}(hg:a.eval g= .func (.func gf) #[] lb)(hFg:F.fn gf)(eg:∀args w,(callFunc gf args).run P w= .ok (.enter gf args) w)
 {encs:Nat->α->Array Value}{Mv:Nat->World->World->Prop}{Kp:Nat->World->World->Prop}{I:Nat->List α->World->Prop}{Ok Nn:Nat->List α->α->World->Prop}{S SL:List α->Prop}
 (hseq:∀W1,Below w.heap.size w W1->W1.heap.size=w.heap.size+2->WY F (n - 1) P gf lb encs Mv Kp I Ok Nn S SL W1)(hps:∀b x,(encs b x).size=ps.size)
 (Ix:Nat->List α->World->Prop)(hI:∀b pre V V',I b pre V->uH w.heap.size V V'->I b pre V')(hIx:∀b pre V V',Ix b pre V->uH w.heap.size V V'->Ix b pre V')
 (WQ:∀b pre x V V',Ok b pre x V->uH w.heap.size V V'->Ok b pre x V')(WZ:∀b pre x V V',Nn b pre x V->uH w.heap.size V V'->Nn b pre x V')
 (hKp:∀b V V1 Y1 Y,w.heap.size+2<=b->uH w.heap.size V V1->Kp b V1 Y1->uH w.heap.size Y1 Y->Kp b V Y)
 (hMv:∀b V V' k o,w.heap.size+2<=b->Mv b V V'->k<w.heap.size+2->w.heap.size<=k->V.heap[k]?=some o->o.isCells=false->V'.heap[k]?=some o)
 (hMI:∀b pre V V',w.heap.size+2<=b->I b pre V->Mv b V V'->I b pre V')(aeZ:∀b pre V V',w.heap.size+2<=b->Ix b pre V->Mv b V V'->Ix b pre V')
 (bx:α->List Obj)(h0:∀b V,Below w.heap.size w V->w.heap.size+2<=b->I b [] V)(a₁:Nat->α->Nat->Act)
 (hassign:∀(l b:Nat)(x:α)(W:World)(k:Nat)(K:Act->World->Prop),W.heap.size=k->K (a₁ b x k) (allocs W (bx x))->assign.wpIn (F.inRound l) (n - 1 - 1) P (Exit.then K (λ_ _ _=>False)) {tmps:=(ps.zip (encs b x)).foldl (λt (p,v)=>t.setIfInBounds p v) a.tmps,defers:=[]} W)
 (hbody:∀(l b:Nat)(pre:List α)(x:α)(W:World)(k:Nat),w.heap.size+2<=b->I b pre W->Ok b pre x W->w.heap.size+2<=k->(∀i o,(bx x)[i]?=some o->W.heap[k+i]?=some o)->body.wpIn (F.inRound l) (n - 1 - 1) P (λe _ W'=>e= .normal/\KeepsFrom w.heap.size W W'/\Kp b W W'/\I b (pre++[x]) W') (a₁ b x k) W)
 (hleave:∀(l b:Nat)(pre:List α)(x:α)(W:World)(k:Nat),w.heap.size+2<=b->I b pre W->Nn b pre x W->w.heap.size+2<=k->(∀i o,(bx x)[i]?=some o->W.heap[k+i]?=some o)->body.wpIn (F.inRound l) (n - 1 - 1) P (λe _ W'=>e= .ret/\KeepsFrom w.heap.size W W'/\Kp b W W'/\Ix b (pre++[x]) W') (a₁ b x k) W)
 (hdone:∀(D b:Nat)(xs:List α)(W:World),w.heap.size<=D->w.heap.size+2<=b->S xs->I b xs W->W.heap[D]?=some (.deferred (some []))->Q .normal {a with defers:={target:=.collected D,args:=#[]}::a.defers} W)
 (hstop:∀(D b:Nat)(xs:List α)(W:World),w.heap.size<=D->w.heap.size+2<=b->SL xs->Ix b xs W->W.heap[D]?=some (.deferred (some []))->Code.ret.wpIn F n P Q {a with defers:={target:=.collected D,args:=#[]}::a.defers} W):
 (Code.rangeFunc g ps assign body).wpIn F n P Q a w:=by
 refine wpIn_rangeFunc λfn hfn=>?_;rw[hro];generalize hD:w.heap.size=D;obtain⟨rec,hrec⟩:∃rec:LoopState->Option Code->Loop,rec=λst pe=>{state:=st,pending:=pe,fn,tmps:=a.tmps,params:=ps,assign,body,defers:=D}:=⟨_,rfl⟩;obtain⟨W1,hW1⟩:∃W1,(w.alloc (.deferred (some []))).alloc (.loop (rec .ready none))=W1:=⟨_,rfl⟩;have hL1:W1.heap[D+1]?=some (.loop (rec .ready none)):=by
  have h:=World.alloc_heap_new (w.alloc (.deferred (some []))) (.loop (rec .ready none));rw[aM,hD,hW1]at h;exact h
 have hK1:W1.heap[D]?=some (.deferred (some [])):=by
  rw[<-hW1,<-hD];exact(Below.heap_alloc _ _ _ (by simp)).trans (World.alloc_heap_new w _)
 have hsz:W1.heap.size=D+2:=by rw[<-hW1,<-hD];simp
 have hB1:Below w.heap.size w W1:=by rw[<-hW1];exact aK (aK (aD _ _) _) _
 have ae0:=hseq W1 hB1 (by rw[hsz,hD]);rw[hD]at hI hIx WQ WZ hKp hMv hMI aeZ h0 hbody hleave hdone hstop;refine⟨D+1,[{target:=.collected D,args:=#[]}],W1,{target:=.fn (.func gf) lb,args:=#[.func (.yield (D+1)) #[] #[]]},W1,gf,#[.func (.yield (D+1)) #[] #[]]++lb,W1,?_,?_,?_,?_,λ_=>h1,?_⟩
 .have h:=run_enterLoop_outer (P:=P) (w:=w) fn a.tmps ps assign body
  rw[hD]at h;rw[h,<-hW1,hrec]
 .simp only[resolve,hg]
  simp[go_sem]
 .intro f' hf'
  simp[Target.leads]at hf';subst hf';exact hFg
 .simp[invoke,go_sem,eg]
 .refine(ae0 (D+1) (λb pre W=>D+2<=b/\I b pre W/\W.heap[D+1]?=some (.loop (rec .ready none))/\W.heap[D]?=some (.deferred (some [])))
   (λb pre W=>D+2<=b/\Ix b pre W/\W.heap[D+1]?=some (.loop (rec .done (some .ret)))/\W.heap[D]?=some (.deferred (some []))) (λ_ _ _ h=>h.2.1) ?_ ?_ ?_ ?_ ?_).mono ?_
  .intro b V hV hb
   rw[hsz]at hb;exact⟨hb,h0 b V (by rw[<-hD];exact hB1.trans (hV.mono (by rw[hsz];omega))) hb,(hV.block _ (av hL1)).trans hL1,(hV.block _ (av hK1)).trans hK1⟩
  .rintro b pre V V' ⟨hb,hi,hl,hk⟩ hs
   exact⟨hb,hMI b pre V V' hb hi hs,hMv b V V' _ _ hb hs (by omega) (by omega) hl rfl,hMv b V V' _ _ hb hs (by omega) (by omega) hk rfl⟩
  .rintro b pre V V' ⟨hb,hi,hl,hk⟩ hs
   exact⟨hb,aeZ b pre V V' hb hi hs,hMv b V V' _ _ hb hs (by omega) (by omega) hl rfl,hMv b V V' _ _ hb hs (by omega) (by omega) hk rfl⟩
  .rintro b pre x W0 ⟨hb,hi0,hl0,hk0⟩ hok0
   have hy:=run_yield (P:=P) (args:=encs b x) hl0 (by rw[hrec];exact hps b x);rw[hrec]at hy;refine⟨fn,_,assign,body,hy,roundIn_of_wpIn hfn (hassign _ b x W0 _ _ rfl ?_)⟩;have hbw:=vw W0 (bx x);have hbx:∀i o,(bx x)[i]?=some o->(allocs W0 (bx x)).heap[W0.heap.size+i]?=some o:=λi o h=>Gy h;have hbD:D+1<W0.heap.size:=av hl0;have hl:=(hbw.block _ (av hl0)).trans hl0;have hk:=(hbw.block _ (av hk0)).trans hk0;have ht0:uH D W0 (allocs W0 (bx x)):=fI.of_below hbw;have hi:=hI _ _ _ _ hi0 ht0;have hok:=WQ _ _ _ _ _ hok0 ht0;generalize hW:allocs W0 (bx x)=W at hbw hbx hl hk hi hok ht0⊢;have hlt:D+1<W.heap.size:=av hl;refine⟨_,run_beginRound hl (by rw[hrec]),?_⟩;have htp:uH D W (W.putObj (D+1) (.loop {rec .ready none with state:=.busy})):=fI.putObj _ rfl hl rfl;generalize hB:W.putObj (D+1) (.loop {rec .ready none with state:=.busy})=WB at htp;have hl2:WB.heap[D+1]?=some (.loop {rec .ready none with state:=.busy}):=by rw[<-hB];exact World.putObj_heap_same hlt
   have hk2:WB.heap[D]?=some (.deferred (some [])):=by rw[<-hB];exact(World.putObj_heap_other (by omega)).trans hk
   have hx2:∀i o,(bx x)[i]?=some o->WB.heap[W0.heap.size+i]?=some o:=λi o h=>by rw[<-hB];exact(World.putObj_heap_other (by omega)).trans (hbx i o h)
   refine wpIn_mono (hbody _ b pre x WB _ hb (hI _ _ _ _ hi htp) (WQ _ _ _ _ _ hok htp) (by omega) hx2) ?_;rintro e a3 W3 ⟨rfl,hk3,hkp,hi3⟩;have hl3:=hk3.same _ _ (by omega) hl2 rfl;have hk4:=hk3.same _ _ (bH _) hk2 rfl;have hr3:=run_endRound (P:=P) none hl3;refine⟨_,_,hr3,rfl,⟨hb,hI _ _ _ _ hi3 (fI.putObj _ rfl hl3 rfl),?_,(World.putObj_heap_other (by omega)).trans hk4⟩,?_⟩
   .rw[World.putObj_heap_same (av hl3),hrec]
    rfl
   .exact hKp _ _ _ _ _ hb (ht0.trans htp) hkp (fI.putObj _ rfl hl3 rfl)
  .rintro b pre x W0 ⟨hb,hi0,hl0,hk0⟩ hok0
   have hy:=run_yield (P:=P) (args:=encs b x) hl0 (by rw[hrec];exact hps b x);rw[hrec]at hy;refine⟨fn,_,assign,body,hy,roundIn_of_wpIn hfn (hassign _ b x W0 _ _ rfl ?_)⟩;have hbw:=vw W0 (bx x);have hbx:∀i o,(bx x)[i]?=some o->(allocs W0 (bx x)).heap[W0.heap.size+i]?=some o:=λi o h=>Gy h;have hbD:D+1<W0.heap.size:=av hl0;have hl:=(hbw.block _ (av hl0)).trans hl0;have hk:=(hbw.block _ (av hk0)).trans hk0;have ht0:uH D W0 (allocs W0 (bx x)):=fI.of_below hbw;have hi:=hI _ _ _ _ hi0 ht0;have hok:=WZ _ _ _ _ _ hok0 ht0;generalize hW:allocs W0 (bx x)=W at hbw hbx hl hk hi hok ht0⊢;have hlt:D+1<W.heap.size:=av hl;refine⟨_,run_beginRound hl (by rw[hrec]),?_⟩;have htp:uH D W (W.putObj (D+1) (.loop {rec .ready none with state:=.busy})):=fI.putObj _ rfl hl rfl;generalize hB:W.putObj (D+1) (.loop {rec .ready none with state:=.busy})=WB at htp;have hl2:WB.heap[D+1]?=some (.loop {rec .ready none with state:=.busy}):=by rw[<-hB];exact World.putObj_heap_same hlt
   have hk2:WB.heap[D]?=some (.deferred (some [])):=by rw[<-hB];exact(World.putObj_heap_other (by omega)).trans hk
   have hx2:∀i o,(bx x)[i]?=some o->WB.heap[W0.heap.size+i]?=some o:=λi o h=>by rw[<-hB];exact(World.putObj_heap_other (by omega)).trans (hbx i o h)
   refine wpIn_mono (hleave _ b pre x WB _ hb (hI _ _ _ _ hi htp) (WZ _ _ _ _ _ hok htp) (by omega) hx2) ?_;rintro e a3 W3 ⟨rfl,hk3,hkp,hi3⟩;have hl3:=hk3.same _ _ (by omega) hl2 rfl;have hk4:=hk3.same _ _ (bH _) hk2 rfl;have hr3:=run_endRound (P:=P) (some .ret) hl3;refine⟨_,_,hr3,rfl,⟨hb,hIx _ _ _ _ hi3 (fI.putObj _ rfl hl3 rfl),?_,(World.putObj_heap_other (by omega)).trans hk4⟩,?_⟩
   .rw[World.putObj_heap_same (av hl3),hrec]
    rfl
   .exact hKp _ _ _ _ _ hb (ht0.trans htp) hkp (fI.putObj _ rfl hl3 rfl)
  .rintro e W2 ⟨⟨v,rfl⟩,b,hb,(⟨xs,hS,_,hi,hl,hk⟩|⟨xs,hS,_,hi,hl,hk⟩)⟩
   .have he:=run_endLoop (P:=P) hl (by rw[hrec];simp)
    exact⟨none,_,by rw[hrec]at he;exact he,hdone _ b xs _ (bH _) (by omega) hS (hI _ _ _ _ hi (fI.putObj _ rfl hl rfl)) ((World.putObj_heap_other (by omega)).trans hk)⟩
   .have he:=run_endLoop (P:=P) hl (by rw[hrec];simp)
    exact⟨some .ret,_,by rw[hrec]at he;exact he,hstop _ b xs _ (bH _) (by omega) hS (hIx _ _ _ _ hi (fI.putObj _ rfl hl rfl)) ((World.putObj_heap_other (by omega)).trans hk)⟩
end
section
open Go.RowKit Go.Shelf
attribute [local go_sem] Oper.semAt_some
def oO(x:Nat×Int×Int):List Value:=[.int .i64 x.1,.int .i64 x.2.1,.int .i64 x.2.2]
theorem Jg(A:Option Addr)(n c:Nat)(w:World):Calls Tryz.prog 163 #[.slice A n c] w (λe w'=>e= .returned (.func (.func 180) #[] #[.pointer (some ⟨w.heap.size,0,none⟩)])/\w'=w.alloc (.cells #[.slice A n c] 178)):=by
 go_enter Tryz.func163,Tryz.ntmps163;go_wp2;go_ret;exact⟨rfl,rfl⟩
theorem Gz{Bw:Nat}{A:Option Addr}{c:Nat}{P:List (Nat×Nat)}(n:Nat)(hn:1<=n)(I:Nat->List (Nat×Nat×Nat)->World->Prop)(W:World)
 (hI:∀b pre W,I b pre W->W.cell? ⟨Bw,0,none⟩=some (.slice A P.length c)/\At W 2 A P.length c (P.flatMap sM)):
 WY Fence.wide n Tryz.prog 180 #[.pointer (some ⟨Bw,0,none⟩)] (λ(_:Nat)(x:Nat×Nat×Nat)=>#[.int .i64 x.1,.agg (sM x.2).toArray]) (λ_ _ _=>False) (λ_ _ _=>True) I (λ_ pre x _=>pre.map Prod.snd=P.reverse.take pre.length/\x.1+1+pre.length=P.length/\P[x.1]?=some x.2) (λ_ _ _ _=>False) (λxs=>xs.map Prod.snd=P.reverse) (λ_=>False) W:=by
 intro l J JL Qg hJ0 _ _ hY _;have h0:=hJ0 W.heap.size W (aD _ _) (bH _);clear hJ0;have HI:=ah hI;clear hI;have HJI:=ah Qg;clear Qg;have HY:=ah hY;clear hY;have KV:=ah h0;clear h0;obtain⟨hb0,kI⟩:=HI.out _ _ _ (HJI.out _ _ _ KV.out);have hx1:=kI.2.2.1;have hx2:=kI.2.2.2;unfold maxLen at hx2;clear kI;refine callsIn_of_wp Tryz.func180 rfl trivial ?_ rfl;simp only[Tryz.ntmps180,qU,iy,jJ,Nat.reduceAdd,Nat.reduceSub,rX,rY,r_,rZ,mI,r9];gi_wp2
 gi_loopw [3] (λv wr=>∃(k:Nat)(m:Int)(pre:List (Nat×Nat×Nat)),k<=P.length/\m=(P.length:Int) - 1 - k/\v= .int .i64 m/\Hid (pre.length=k)/\Hid (pre.map Prod.snd=P.reverse.take k)/\Hid (J W.heap.size pre wr)) (λv _=>(intOf v+1).toNat)
 case atStart=>exact⟨0,(P.length:Int) - 1,[],aV _,by omega,by go_num,rfl,rfl,KV⟩
 case round=>
  obtain⟨k,m,pre,hk,hm,rfl,hpl,hpm,HJ⟩:=hrel;by_cases hlt:k<P.length
  .obtain⟨i,rfl⟩:∃i:Nat,m=i:=⟨P.length - 1 - k,by omega⟩
   have hik:i+1+k=P.length:=by omega
   obtain⟨⟨a0,a1⟩,hx⟩:∃x,P[i]?=some x:=⟨P[i],aT (by omega)⟩;obtain⟨hb1,hA1⟩:=HI.out _ _ _ (HJI.out _ _ _ HJ.out);obtain⟨b,off,hA,hbl,hc0⟩:=hA1.1.form (by omega) (by omega);subst hA;have hc:∀j,j<2->wr.cell? ⟨b,off+i*2+j,none⟩=(sM (a0,a1))[j]?:=λj hj=>by
    rw[iM,hc0 _ (by omega)];exact bG sM 2 (λ_=>rfl) P i j _ hx hj
   have e0:wr.cell? ⟨b,off+i*2,none⟩=some (.int .i64 a0):=hc 0 (by omega);have e1:wr.cell? ⟨b,off+i*2+1,none⟩=some (.int .i64 a1):=hc 1 (by omega);clear hc hc0 hA1 hbl;have i1:(i:Int)<(P.length:Int):=by omega
   obtain⟨fn,tmps,assign,body,hy,hR⟩:=HY.out _ pre (i,(a0,a1)) wr HJ.out ⟨by rw[hpl.out];exact hpm.out,by rw[hpl.out];exact hik,hx⟩;simp only[sM]at hy;have HX:=ah hx;clear hx hm;have hpx:P.length<=9223372036854775807:=by omega
   gi_wp2;refine hR.mono ?_;rintro e W3 ⟨rfl,hJ3,_⟩;gi_wp2
   go_roundw
   case rel=>
    refine⟨k+1,_,pre++[(i,(a0,a1))],by omega,?_,by go_num,?_,?_,hJ3⟩
    .omega
    .show _=_
     rw[lS,hpl.out];rfl
    .show _=_
     rw[uf,hpm.out,Dt,List.getElem?_reverse (by omega),show P.length - 1 - k=i by omega,HX.out];rfl
   case measure=>simp[intOf]
  .obtain rfl:k=P.length:=by omega
   obtain rfl:m= -1:=by omega
   gi_wp2
   go_end0
   exact⟨⟨_,rfl⟩,W.heap.size,bH _,.inl ⟨pre,by rw[hpm.out,Ak (by simp)],HJ.out⟩⟩
theorem Jh(A:Option Addr)(n c:Nat)(w:World):Calls Tryz.prog 142 #[.slice A n c] w (λe w'=>e= .returned (.func (.func 164) #[] #[.pointer (some ⟨w.heap.size,0,none⟩)])/\w'=w.alloc (.cells #[.slice A n c] 173)):=by
 go_enter Tryz.func142,Tryz.ntmps142;go_wp2;go_ret;exact⟨rfl,rfl⟩
theorem GA{Bw:Nat}{A:Option Addr}{c:Nat}{P:List (Nat×Int×Int)}(n:Nat)(hn:1<=n)(I:Nat->List (Nat×Nat×Int×Int)->World->Prop)(W:World)
 (hI:∀b pre W,I b pre W->W.cell? ⟨Bw,0,none⟩=some (.slice A P.length c)/\At W 3 A P.length c (P.flatMap oO)):
 WY Fence.wide n Tryz.prog 164 #[.pointer (some ⟨Bw,0,none⟩)] (λ(_:Nat)(x:Nat×Nat×Int×Int)=>#[.int .i64 x.1,.agg (oO x.2).toArray]) (λ_ _ _=>False) (λ_ _ _=>True) I (λ_ pre x _=>pre.map Prod.snd=P.reverse.take pre.length/\x.1+1+pre.length=P.length/\P[x.1]?=some x.2) (λ_ _ _ _=>False) (λxs=>xs.map Prod.snd=P.reverse) (λ_=>False) W:=by
 intro l J JL Qg hJ0 _ _ hY _;have h0:=hJ0 W.heap.size W (aD _ _) (bH _);clear hJ0;have HI:=ah hI;clear hI;have HJI:=ah Qg;clear Qg;have HY:=ah hY;clear hY;have KV:=ah h0;clear h0;obtain⟨hb0,kI⟩:=HI.out _ _ _ (HJI.out _ _ _ KV.out);have hx1:=kI.2.2.1;have hx2:=kI.2.2.2;unfold maxLen at hx2;clear kI;refine callsIn_of_wp Tryz.func164 rfl trivial ?_ rfl;simp only[Tryz.ntmps164,qU,iy,jJ,Nat.reduceAdd,Nat.reduceSub,rX,rY,r_,rZ,mI,r9];gi_wp2
 gi_loopw [3] (λv wr=>∃(k:Nat)(m:Int)(pre:List (Nat×Nat×Int×Int)),k<=P.length/\m=(P.length:Int) - 1 - k/\v= .int .i64 m/\Hid (pre.length=k)/\Hid (pre.map Prod.snd=P.reverse.take k)/\Hid (J W.heap.size pre wr)) (λv _=>(intOf v+1).toNat)
 case atStart=>exact⟨0,(P.length:Int) - 1,[],aV _,by omega,by go_num,rfl,rfl,KV⟩
 case round=>
  obtain⟨k,m,pre,hk,hm,rfl,hpl,hpm,HJ⟩:=hrel;by_cases hlt:k<P.length
  .obtain⟨i,rfl⟩:∃i:Nat,m=i:=⟨P.length - 1 - k,by omega⟩
   have hik:i+1+k=P.length:=by omega
   obtain⟨⟨a0,⟨a1,a2⟩⟩,hx⟩:∃x,P[i]?=some x:=⟨P[i],aT (by omega)⟩;obtain⟨hb1,hA1⟩:=HI.out _ _ _ (HJI.out _ _ _ HJ.out);obtain⟨b,off,hA,hbl,hc0⟩:=hA1.1.form (by omega) (by omega);subst hA;have hc:∀j,j<3->wr.cell? ⟨b,off+i*3+j,none⟩=(oO (a0,a1,a2))[j]?:=λj hj=>by
    rw[iM,hc0 _ (by omega)];exact bG oO 3 (λ_=>rfl) P i j _ hx hj
   have e0:wr.cell? ⟨b,off+i*3,none⟩=some (.int .i64 a0):=hc 0 (by omega);have e1:wr.cell? ⟨b,off+i*3+1,none⟩=some (.int .i64 a1):=hc 1 (by omega);have e2:wr.cell? ⟨b,off+i*3+2,none⟩=some (.int .i64 a2):=hc 2 (by omega);clear hc hc0 hA1 hbl;have i1:(i:Int)<(P.length:Int):=by omega
   obtain⟨fn,tmps,assign,body,hy,hR⟩:=HY.out _ pre (i,(a0,a1,a2)) wr HJ.out ⟨by rw[hpl.out];exact hpm.out,by rw[hpl.out];exact hik,hx⟩;simp only[oO]at hy;have HX:=ah hx;clear hx hm;have hpx:P.length<=9223372036854775807:=by omega
   gi_wp2;refine hR.mono ?_;rintro e W3 ⟨rfl,hJ3,_⟩;gi_wp2
   go_roundw
   case rel=>
    refine⟨k+1,_,pre++[(i,(a0,a1,a2))],by omega,?_,by go_num,?_,?_,hJ3⟩
    .omega
    .show _=_
     rw[lS,hpl.out];rfl
    .show _=_
     rw[uf,hpm.out,Dt,List.getElem?_reverse (by omega),show P.length - 1 - k=i by omega,HX.out];rfl
   case measure=>simp[intOf]
  .obtain rfl:k=P.length:=by omega
   obtain rfl:m= -1:=by omega
   gi_wp2
   go_end0
   exact⟨⟨_,rfl⟩,W.heap.size,bH _,.inl ⟨pre,by rw[hpm.out,Ak (by simp)],HJ.out⟩⟩
end
section
open Go.RowKit Go.Shelf
attribute [local go_sem] Oper.semAt_some
theorem tN(F:List aB):(bE F).length=F.length*6:=gK aB.cells 6 (λ_=>rfl) F
theorem Ji{F:List aB}{i j:Nat}{x:aB}(hi:F[i]?=some x)(hj:j<6):(bE F)[i*6+j]?=x.cells[j]?:=bG aB.cells 6 (λ_=>rfl) F i j x hi hj
theorem oD(F:List aB):∀u∈bE F,u.oneCell'=true:=by
 intro u hu;obtain⟨x,_,hx⟩:=Aj.1 hu;simp only[aB.cells,d_,iW,or_false]at hx;rcases hx with rfl|rfl|rfl|rfl|rfl|rfl<;>rfl
theorem K5{F:List aB}{i:Nat}{y:aB}(hy:F[i]?=some y)(v:Int):(bE F).set (i*6+2) (.int .i64 v)=bE (F.set i (y.FZ v)):=xD aB.cells 6 (λ_=>rfl) _ _ F i 2 y hy (by omega) rfl
theorem Jj{F:List aB}{i:Nat}{y:aB}(hy:F[i]?=some y)(v:Int):(bE F).set (i*6+3) (.int .i64 v)=bE (F.set i (y.AJ v)):=xD aB.cells 6 (λ_=>rfl) _ _ F i 3 y hy (by omega) rfl
theorem Own.fact{w:World}{t:TypeId}{b:Nat}{F:List aB}(h:Own w t b (bE F)){i:Nat}{x:aB}(hx:F[i]?=some x){j:Nat}(hj:j<6){u:Value}(hu:x.cells[j]?=some u):w.cell? ⟨b,i*6+j,none⟩=some u:=h.cell ((Ji hx hj).trans hu)
theorem Ug{P:List (Nat×Nat)}{F:List aB}{k:Nat}{p:Nat×Nat}(hp:P[k]?=some p):(P.take (k+1)).foldl jg F=jg ((P.take k).foldl jg F) p:=by
 rw[Dt,hp,t_];rfl
theorem GD(F:List aB)(fb fc:Nat)(P:List (Nat×Nat))(pA:Option Addr)(pc:Nat)(w:World)(hF:Own w 56 fb (bE F))(hP:At w 2 pA P.length pc (gT P))(hin:∀p∈P,p.1<F.length/\p.2<F.length)(hne:∀b off,pA=some ⟨b,off,none⟩->b≠fb)(hpl:P.length<=1000000):
 Calls Tryz.prog 140 #[.slice (some ⟨fb,0,none⟩) F.length fc,.slice pA P.length pc] w (λe w'=>e= .returned (.tuple #[])/\Own w' 56 fb (bE (AL P F))/\aH (λk=>k=fb) w w'):=by
 have hfw:=hF.lt;have HF:=ah hF;clear hF;have HP:=ah hP;clear hP;have qB:=ah hin;clear hin;have JZ:=ah hne;clear hne;refine(bQ (n:=3)).1 ?_;refine callsIn_of_wp_marks Tryz.func140 rfl trivial ?_ rfl;simp only[Tryz.ntmps140,qU,iy,jJ,Nat.reduceAdd,Nat.reduceSub,rX,rY,r_,rZ,mI,r9]
 gi_upto_region 1 with(fail)
 generalize hW0:World.alloc _ _=W0;obtain⟨HB,hh0⟩:=bx1 hW0;have hb0:W0.cell? ⟨w.heap.size,0,none⟩=some (.slice (some ⟨fb,0,none⟩) F.length fc):=(aG W0 _ 0 _ _ _ hh0).trans rfl;have hs0:w.heap.size<W0.heap.size:=av hh0;clear hW0 hh0;have HO0:=ah (HF.out.below HB.out);have HP0:=ah (HP.out.below (by omega) HB.out);clear HF HP;gi_wp2
 gi_loopw [14] (λv wr=>∃k:Nat,k<=P.length/\v= .int .i64 k/\Hid (Own wr 56 fb (bE ((P.take k).foldl jg F)))/\Hid (aH (λk=>k=fb) W0 wr)) (λv _=>P.length - (intOf v).toNat)
 case atStart=>exact⟨0,aV _,rfl,HO0,aH.refl _ _⟩
 case round=>
  obtain⟨k,hk,rfl,HO,HU⟩:=hrel;by_cases hlt:k<P.length
  .obtain⟨⟨a,b⟩,hp⟩:∃p,P[k]?=some p:=⟨P[k],aT hlt⟩
   obtain⟨hia,hib⟩:=qB.out _ (cK hp);simp only at hia hib;obtain⟨pb,po,hA,hpb,hpc⟩:=(HP0.out.1).form (by omega) (by omega);subst hA;have hpn:=JZ.out pb po rfl;have hsr:=HU.out.size;have e0:wr.cell? ⟨pb,po+k*2,none⟩=some (.int .i64 a):=by rw[bP HU.out hpb hpn,hpc _ (by omega)];exact fF (j:=0) hp (by omega)
   have e1:wr.cell? ⟨pb,po+k*2+1,none⟩=some (.int .i64 b):=by rw[bP HU.out hpb hpn,iM,hpc _ (by omega)];exact fF (j:=1) hp (by omega)
   have b0:=(bP (o:=0) HU.out hs0 (by omega)).trans hb0;generalize hG:(P.take k).foldl jg F=G at HO;have hGl:G.length=F.length:=by rw[<-hG];exact(jc _ _).length
   obtain⟨x,hx⟩:∃x,G[a]?=some x:=⟨G[a]'(by omega),aT (by omega)⟩;obtain⟨y,hy⟩:∃y,G[b]?=some y:=⟨G[b]'(by omega),aT (by omega)⟩;have Ae:Hid ((P.take (k+1)).foldl jg F=G.set b (y.FZ (max y.low x.low))):=by show _=_;rw[Ug hp,hG];exact MX hx hy
   have HX:=ah hx;clear hx;have HY:=ah hy;clear hy;clear hp hpc hG
   gi_upto_region 4 with(fail)
   generalize hWa:World.alloc _ _=Wa;obtain⟨hba,hxa⟩:=bx1' hWa;have q0:Wa.cell? ⟨wr.heap.size,0,none⟩=some (.int .i64 a):=(aG Wa _ 0 _ _ _ hxa).trans rfl;have q1:Wa.cell? ⟨wr.heap.size,1,none⟩=some (.int .i64 b):=(aG Wa _ 1 _ _ _ hxa).trans rfl;have Mh:Hid (aH (λk=>k=fb) W0 Wa):=lD HU.out hba;have b1:Wa.cell? ⟨w.heap.size,0,none⟩=some (.slice (some ⟨fb,0,none⟩) F.length fc):=((aY hba).1 _ _ (by omega)).trans b0;have K6:=ah (HO.out.below hba);have x2:Wa.cell? ⟨fb,a*6+2,none⟩=some (.int .i64 x.low):=K6.out.fact HX.out (by omega) rfl;have y2:Wa.cell? ⟨fb,b*6+2,none⟩=some (.int .i64 y.low):=K6.out.fact HY.out (by omega) rfl;have f2:=K6.out.frozen (b*6+2);have ia:(a:Int)<(F.length:Int):=by omega
   have ib:(b:Int)<(F.length:Int):=by omega
   clear hWa hba hxa e0 e1 b0 hb0;refine aU 9 (jH.wide _) (by simp) (by kernel_rfl) (by kernel_rfl) ?_;simp only[fK,bV,fT,cO];repeat(go_big_quiet_step (fail))
   refine aS ?_;rintro _ ⟨mq,rfl⟩
   gi_upto_region 5 with(fail)
   refine aU 12 (jH.wide _) (by simp) (by kernel_rfl) (by kernel_rfl) ?_;simp only[fK,bV,fT,cO];repeat(go_big_quiet_step (fail))
   refine aS ?_;rintro _ ⟨mr,rfl⟩;have pQ:Hid ((if y.low<x.low then x.low else y.low)=max y.low x.low):=by show _=_;split<;>omega
   gi_wp2
   go_roundw
   case rel=>
    refine⟨k+1,by omega,by go_num,?_,?_⟩
    .have h:=(K6.out.keep (((aH.refl (λ_=>False) Wa).drewN (mq+mr))) (λh=>h)).set (i:=b*6+2) (by rw[tN];omega) (.int .i64 (max y.low x.low))
     rw[K5 HY.out,<-Ae.out,<-pQ.out]at h;exact h
    .exact(Mh.out.drewN _).setCell (.inl rfl) _
   case measure=>simp[intOf];omega
  .obtain rfl:k=P.length:=by omega
   have HG0:Hid ((P.take P.length).foldl jg F=P.foldl jg F):=by show _=_;rw[gV]
   rw[HG0.out]at HO;clear HG0 hk hlt;gi_wp2_with (refine⟨trivial,?_⟩;gi_at_call 163;refine(bQ.2 (Jg _ _ _ _)).mono ?_;rintro e z ⟨rfl,rfl⟩);generalize hW2:World.alloc _ _=W2;obtain⟨hb2,wu⟩:=bx1' hW2;have hs2:=hb2.size;have hl2:wr.heap.size<W2.heap.size:=av wu;have hsr:=HU.out.size;have c2:W2.cell? ⟨wr.heap.size,0,none⟩=some (.slice pA P.length pc):=(aG W2 _ 0 _ _ _ wu).trans rfl;have uR:Hid (aH (λk=>k=fb) W0 W2):=lD HU.out hb2;have Mf:Hid (At W2 2 pA P.length pc (gT P)):=uG HP0.out (by omega) uR.out JZ.out;have Ah:=ah (HO.out.below hb2);have bw2:W2.cell? ⟨w.heap.size,0,none⟩=some (.slice (some ⟨fb,0,none⟩) F.length fc):=(bP uR.out (by omega) (by omega)).trans hb0;clear hW2 hb2 wu HO HO0 hb0;generalize hG0:P.foldl jg F=G0 at Ah;have aiE:G0.length=F.length:=by rw[<-hG0];exact(jc _ _).length
   have HG0:=ah hG0;clear hG0;refine m_ (α:=Nat×(Nat×Nat)) rfl (by omega) (gf:=180) rfl trivial (enters_of Tryz.func180 (by kernel_rfl) rfl)
    (λW1 _ _=>Gz (Bw:=wr.heap.size) (A:=pA) (c:=pc) (P:=P) _ (by omega)
     (λ_ pre V=>Own V 56 fb (bE ((pre.map Prod.snd).foldl lC G0))/\aH (λk=>k=fb) W2 V) W1
     (λ_ pre V h=>⟨(bP h.2 hl2 (by omega)).trans c2,uG Mf.out (by omega) h.2 JZ.out⟩)) (λ_ _=>rfl)
    (λ_ _ _=>True) (λ_ _ _ _ h ht=>⟨h.1.turn ht,K4 h.2 ht (λk hk=>by omega)⟩) (λ_ _ _ _ h _=>h) (λ_ _ _ _ _ h _=>h) (λ_ _ _ _ _ h _=>h) (λ_ _ _ _ _ _ _ h _=>h)
    (λ_ _ _ _ _ _ h=>h.elim) (λ_ _ _ _ _ _ h=>h.elim) (λ_ _ _ _ _ _ h=>h.elim)
    (λx=>[.cells #[.int .i64 x.2.1,.int .i64 x.2.2] 180]) (λ_ V hV _=>⟨Ah.out.below hV,lD (aH.refl _ _) hV⟩) ?a1 ?assign ?body (λ_ _ _ _ _ _ _ _ h=>h.elim) ?done (λ_ _ _ _ _ _ h=>h.elim)
   case assign=>
    intro l b x W k K hk hK;simp only[sM];gi_wp2;try rw[hk]
    exact hK
   case body=>
    as_aux_lemma=>
     rintro l b0 pre ⟨i,a,b⟩ W k hb ⟨hO,hU⟩ ⟨hpm,hxi,hx⟩ hk hbx;have hq:=hbx 0 _ rfl;rw[jW]at hq;simp only at hx hq;obtain⟨hia,hib⟩:=qB.out (a,b) (cK hx);simp only at hia hib;generalize hG:(pre.map Prod.snd).foldl lC G0=G at hO;have hGl:G.length=F.length:=by rw[<-hG,(lU _ _).length];exact aiE
     obtain⟨x,hxx⟩:∃x,G[a]?=some x:=⟨G[a]'(by omega),aT (by omega)⟩;obtain⟨y,hyy⟩:∃y,G[b]?=some y:=⟨G[b]'(by omega),aT (by omega)⟩;have Ae:Hid (lC ((pre.map Prod.snd).foldl lC G0) (a,b)=G.set a (x.AJ (min x.high y.high))):=by show _=_;rw[hG];exact MZ (p:=(a,b)) hxx hyy
     have pQ:Hid ((if y.high<x.high then y.high else x.high)=min x.high y.high):=by show _=_;split<;>omega
     have K6:=ah hO;clear hO;have Mh:=ah hU;clear hU;have q0:W.cell? ⟨k,0,none⟩=some (.int .i64 a):=(aG W _ 0 _ _ _ hq).trans rfl;have q1:W.cell? ⟨k,1,none⟩=some (.int .i64 b):=(aG W _ 1 _ _ _ hq).trans rfl;have b1:W.cell? ⟨w.heap.size,0,none⟩=some (.slice (some ⟨fb,0,none⟩) F.length fc):=(bP Mh.out (by omega) (by omega)).trans bw2;have x3:W.cell? ⟨fb,a*6+3,none⟩=some (.int .i64 x.high):=K6.out.fact hxx (by omega) rfl;have y3:W.cell? ⟨fb,b*6+3,none⟩=some (.int .i64 y.high):=K6.out.fact hyy (by omega) rfl;have f3:=K6.out.frozen (a*6+3);have ia:(a:Int)<(F.length:Int):=by omega
     have ib:(b:Int)<(F.length:Int):=by omega
     have VZ:=ah hxx;clear hxx;clear hx hq hbx hG hyy hpm hxi;dsimp only
     gi_upto_region 9 with(fail)
     refine aU 9 (jH.round _ _) (by simp) (by kernel_rfl) (by kernel_rfl) ?_;simp only[fK,bV,fT,cO];repeat(go_big_quiet_step (fail))
     refine aS ?_;rintro _ ⟨mq,rfl⟩
     gi_upto_region 10 with(fail)
     refine aU 12 (jH.round _ _) (by simp) (by kernel_rfl) (by kernel_rfl) ?_;simp only[fK,bV,fT,cO];repeat(go_big_quiet_step (fail))
     refine aS ?_;rintro _ ⟨mr,rfl⟩;rw[pQ.out];gi_wp2;have hu:aH (λk=>k=fb) W ((W.drewN (mq+mr)).setCell ⟨fb,a*6+3,none⟩ (.int .i64 (min x.high y.high))):=((aH.refl (λk=>k=fb) W).drewN _).setCell (.inl rfl) _;refine⟨oC _ hu (λk o (e:k=fb) h=>K6.out.isCells (e▸h)),?_,(Mh.out.drewN _).setCell (.inl rfl) _⟩;have h:=(K6.out.keep (((aH.refl (λ_=>False) W).drewN (mq+mr))) (λh=>h)).set (i:=a*6+3) (by rw[tN];omega) (.int .i64 (min x.high y.high));rw[Jj VZ.out,<-Ae.out]at h;exact h
   case done=>
    rintro D b0 xs W hD hb hS ⟨hO,hU⟩ hK;rw[hS]at hO;refine⟨by simp,.inl ⟨_,_,rfl,run_takeDeferred hK,?_⟩⟩;have ht:=fI.putObj (S:=λk=>k=D) (.deferred none) rfl hK rfl;refine⟨_,results_none rfl _ _ _,rfl,?_,?_⟩
    .rw[HG0.out.symm]at hO
     exact hO.turn ht
    .exact(((lD (aH.refl (λk=>k=fb) w) HB.out).trans uR.out (λ_ _ h=>h)).trans hU (λ_ _ h=>h)).trans ht (λi hi ⟨(h:i=D),_⟩=>by omega)
end
open Go.RowKit Go.Shelf
def GH(w:World)(A:Option Addr)(fb:Nat)(F:List aB):Prop:=F=[]\/(A=some ⟨fb,0,none⟩/\Own w 56 fb (bE F))
theorem GH.below{w w':World}{A:Option Addr}{fb:Nat}{F:List aB}(h:GH w A fb F)(hb:Below w.heap.size w w'):GH w' A fb F:=h.imp id (λh=>⟨h.1,h.2.below hb⟩)
theorem GH.form{w:World}{A:Option Addr}{fb:Nat}{F:List aB}(h:GH w A fb F){i:Nat}(hi:i<F.length):A=some ⟨fb,0,none⟩/\Own w 56 fb (bE F):=by
 rcases h with rfl|h
 .simp at hi
 .exact h
def sN(T:List aB):Bool:=T.all (λt=>decide (t.low<=t.high))
theorem xG{T:List aB}:sN T=true↔∀t∈T,t.low<=t.high:=by simp[sN]
theorem Np{F:List aB}{O:List aX}(hD:bB F)(hK:Known F O):∀p∈bI F O,p.1<F.length/\p.2<F.length:=λp hp=>by
 obtain⟨b,hb,rfl⟩:=dU.1 hp;obtain⟨h1,h2⟩:=hK b hb;obtain⟨x,hx,_⟩:=Cz hD h1;obtain⟨y,hy,_⟩:=Cz hD h2;exact⟨(aZ.1 hx).1,(aZ.1 hy).1⟩
def Uh(A:Option Addr)(fb:Nat)(F:List aB)(O:List aX)(w:World)(e:Ending)(w':World):Prop:=
 ∃T,e= .returned (.bool (sN T))/\jf F T O/\GH w' A fb T/\aH (λk=>k=fb) w w'
theorem Nq(A:Option Addr)(fc fb:Nat)(oA:Option Addr)(oc:Nat)(ho:Int)(F:List aB)(O:List aX)(w:World)(hF:fM w ⟨⟨A,fc⟩,⟨oA,oc⟩⟩ ⟨ho,F,O⟩)(hW:GH w A fb F)(hfb:fb<w.heap.size)(hR:∀x∈F,gW x.ref)(hD:bB F)(hF4:F.length<=4000)(hO4:O.length<=4000)(hK:Known F O):
 Calls Tryz.prog 98 #[.agg #[.int .i64 ho,.slice A F.length fc,.slice oA O.length oc]] w (Uh A fb F O w):=by
 have vY:=ah (λ(w:World)(h:fM w ⟨⟨A,fc⟩,⟨oA,oc⟩⟩ ⟨ho,F,O⟩)=>Gx ⟨⟨A,fc⟩,⟨oA,oc⟩⟩ ⟨ho,F,O⟩ w h hR hD hF4 hO4 hK);simp only[FV.val,FV.cells]at vY;have HF:=ah hF;clear hF;have HW:=ah hW;clear hW;have HD:=ah hD;clear hD;have HK:=ah hK;clear hK;clear hR;go_enter Tryz.func98,Tryz.ntmps98;go_wp2;go_step3;go_upto_region 1 with(fail)
 generalize hW0:World.alloc _ _=W0;obtain⟨HB,hh0⟩:=bx1 hW0;have b0:W0.cell? ⟨w.heap.size,0,none⟩=some (.int .i64 ho):=(aG W0 _ 0 _ _ _ hh0).trans rfl;have b1:W0.cell? ⟨w.heap.size,1,none⟩=some (.slice A F.length fc):=(aG W0 _ 1 _ _ _ hh0).trans rfl;have b2:W0.cell? ⟨w.heap.size,2,none⟩=some (.slice oA O.length oc):=(aG W0 _ 2 _ _ _ hh0).trans rfl;have hs0:w.heap.size<W0.heap.size:=av hh0;clear hW0 hh0;have HP0:=ah (vY.out W0 (HF.out.below HB.out));clear vY;go_wp2_with (go_at_call 99;refine HP0.out.mono ?_;rintro e Z ⟨pA,pc,rfl,hP,hpn,hz⟩;refine Hid.out ?_);refine ah ?_;have ae2:(bI F O).length<=4000:=by unfold bI;rw[eF];exact hO4
 have c1:Z.cell? ⟨w.heap.size,1,none⟩=some (.slice A F.length fc):=((aY hz).1 _ _ hs0).trans b1;have hsz:=hz.size;have HZ:Hid (Below w.heap.size w Z):=ay HB.out hz;have lq:=ah (HW.out.below HZ.out);have qB:=ah (Np HD.out HK.out);have HPN:Hid (∀b off,pA=some ⟨b,off,none⟩->b≠fb):=λb off e=>by have:=hpn b off e;omega
 generalize hPP:bI F O=P at hP ae2 qB;have HPP:=ah hPP;clear hPP;have HP:=ah hP;clear hP;obtain⟨M,m,hMm⟩:=TK F;have HMm:=ah hMm;clear hMm;clear hz hpn b0 b1 b2 HF HW HP0;go_wp2;go_step3;go_wp2
 go_loopg [14] (gap M m F) (λgk _ wr=>∃T:List aB,gk=gap M m T/\Hid (uy P F T)/\Hid (GH wr A fb T)/\Hid (aH (λk=>k=fb) Z wr))
 case atStart=>exact⟨F,rfl,uy.refl _ _,lq,aH.refl _ _⟩
 case round=>
  obtain⟨T,eH,K7,HO,HU⟩:=hrel;have iB:=ah eH;clear eH;have hTl:T.length=F.length:=K7.out.less.length;clear lq;go_wp2
  go_loopg [14] P.length (λg2 v14 wq=>∃j:Nat,g2=P.length - j/\j<=P.length/\v14= .int .i64 j/\Hid (GH wq A fb T)/\Hid (aH (λk=>k=fb) Z wq)/\Hid (∀(i:Nat)(p:Nat×Nat),i<j->P[i]?=some p->∀x y,T[p.1]?=some x->T[p.2]?=some y->x.low<=y.low/\x.high<=y.high))
  case atStart=>exact⟨0,rfl,aV _,rfl,HO,HU,λi p h=>absurd h (Nat.not_lt_zero _)⟩
  case round=>
   clear HO HU;obtain⟨j,hg2,hj,rfl,HO,HU,HC⟩:=hrel;have HG2:=ah hg2;clear hg2;by_cases hlt:j<P.length
   .obtain⟨⟨a,b⟩,hp⟩:∃p,P[j]?=some p:=⟨P[j],aT hlt⟩
    obtain⟨hia,hib⟩:=qB.out _ (cK hp);simp only at hia hib;obtain⟨hA,Qn⟩:=HO.out.form (i:=a) (by omega);subst hA;obtain⟨pb,po,hpA,hpb,hpc⟩:=(HP.out.1).form (by omega) (by omega);subst hpA;have hpn:=HPN.out pb po rfl;have hsr:=HU.out.size;have e0:wr.cell? ⟨pb,po+j*2,none⟩=some (.int .i64 a):=by rw[bP HU.out hpb hpn,hpc _ (by omega)];exact fF (j:=0) hp (by omega)
    have e1:wr.cell? ⟨pb,po+j*2+1,none⟩=some (.int .i64 b):=by rw[bP HU.out hpb hpn,iM,hpc _ (by omega)];exact fF (j:=1) hp (by omega)
    have d1:=(bP (o:=1) HU.out (by omega) (by omega)).trans c1;obtain⟨x,hx⟩:∃x,T[a]?=some x:=⟨T[a]'(by omega),aT (by omega)⟩;obtain⟨y,hy⟩:∃y,T[b]?=some y:=⟨T[b]'(by omega),aT (by omega)⟩;have x2:wr.cell? ⟨fb,a*6+2,none⟩=some (.int .i64 x.low):=Qn.fact hx (by omega) rfl;have x3:wr.cell? ⟨fb,a*6+3,none⟩=some (.int .i64 x.high):=Qn.fact hx (by omega) rfl;have y2:wr.cell? ⟨fb,b*6+2,none⟩=some (.int .i64 y.low):=Qn.fact hy (by omega) rfl;have y3:wr.cell? ⟨fb,b*6+3,none⟩=some (.int .i64 y.high):=Qn.fact hy (by omega) rfl;have HX:=ah hx;clear hx;have HY:=ah hy;clear hy;have HPJ:=ah hp;clear hp hpc;have HOW:=ah Qn;clear Qn;have hfl:=HOW.out.lt;have hjP:(j:Int)<(P.length:Int):=by omega
    go_upto_region 5 with(fail)
    generalize hWa:World.alloc _ _=Wa;obtain⟨hba,hxa⟩:=bx1' hWa;have q0:Wa.cell? ⟨wr.heap.size,0,none⟩=some (.int .i64 a):=(aG Wa _ 0 _ _ _ hxa).trans rfl;have q1:Wa.cell? ⟨wr.heap.size,1,none⟩=some (.int .i64 b):=(aG Wa _ 1 _ _ _ hxa).trans rfl;have bc:=λo=>(aY hba).1 fb o hfl;have x2':=(bc _).trans x2;have x3':=(bc _).trans x3;have y2':=(bc _).trans y2;have y3':=(bc _).trans y3;have d1':=((aY hba).1 w.heap.size 1 (by omega)).trans d1;have Mh:Hid (aH (λk=>k=fb) Z Wa):=lD HU.out hba;have K6:=ah (HOW.out.below hba);have ia:(a:Int)<(F.length:Int):=by omega
    have ib:(b:Int)<(F.length:Int):=by omega
    clear hWa hba hxa e0 e1 d1 x2 x3 y2 y3 bc;refine iH 11 (by simp) (by kernel_rfl) (by kernel_rfl) ?_;simp only[fK,bV,fT,cO];repeat(go_big_quiet_step (fail))
    refine aS ?_;rintro _ ⟨mq,rfl⟩;gi_wp2;go_upto_region 6 with(fail)
    have HTA:Hid (∀k,Calls Tryz.prog 140 #[.slice (some ⟨fb,0,none⟩) F.length fc,.slice (some ⟨pb,po,none⟩) P.length pc] (Wa.drewN k) (λe w'=>e= .returned (.tuple #[])/\Own w' 56 fb (bE (AL P T))/\aH (λk=>k=fb) Wa w')):=λk=>by
     have hu2:aH (λk=>k=fb) Wa (Wa.drewN k):=(aH.refl _ _).drewN k;have hud:aH (λk=>k=fb/\False) Wa (Wa.drewN k):=(aH.refl _ _).drewN k;have h:=GD T fb fc P (some ⟨pb,po,none⟩) pc (Wa.drewN k) (K6.out.keep hud (λh=>h.2)) (uG (uG HP.out (by omega) Mh.out HPN.out) (by omega) hud (λ_ _ _ h=>h.2)) (λp hp=>by rw[hTl];exact qB.out p hp) HPN.out (by omega);rw[hTl]at h;refine h.mono ?_;rintro e w' ⟨h1,h2,h3⟩;exact⟨h1,h2,hu2.trans h3 (λ_ _ h=>h)⟩
    have t1:decide (y.low<x.low)=true\/(decide (y.low<x.low)=false/\decide (y.high<x.high)=true)\/(decide (y.low<x.low)=false/\decide (y.high<x.high)=false):=by
     cases decide (y.low<x.low)<;>cases decide (y.high<x.high)<;>simp
    rcases t1 with q2|⟨q2,q3⟩|⟨q2,q3⟩
    .refine iH 19 (by simp) (by kernel_rfl) (by kernel_rfl) ?_
     simp only[fK,bV,fT,cO];repeat(go_big_quiet_step (fail))
     refine aS ?_;rintro _ ⟨mr,rfl⟩;gi_wp2;go_wp2_with (go_at_call 140;refine(HTA.out _).mono ?_;rintro e z ⟨rfl,hz1,hz2⟩;refine Hid.out ?_);refine ah ?_;have Ah:=ah hz1;have uR:Hid (aH (λk=>k=fb) Z z):=Mh.out.trans hz2 (λ_ _ h=>h);clear hz1 hz2;go_wp2
     go_roundg (gap M m (AL P T))
     case measure=>rw[iB.out];exact JI (K7.out.bounded HMm.out) (cK HPJ.out) HX.out HY.out (.inl (of_decide_eq_true q2))
     case rel=>exact⟨AL P T,rfl,K7.out.trans (wY P T),.inr ⟨rfl,Ah.out⟩,uR.out⟩
    .refine iH 19 (by simp) (by kernel_rfl) (by kernel_rfl) ?_
     simp only[fK,bV,fT,cO];repeat(go_big_quiet_step (fail))
     refine aS ?_;rintro _ ⟨mr,rfl⟩;gi_wp2;go_wp2_with (go_at_call 140;refine(HTA.out _).mono ?_;rintro e z ⟨rfl,hz1,hz2⟩;refine Hid.out ?_);refine ah ?_;have Ah:=ah hz1;have uR:Hid (aH (λk=>k=fb) Z z):=Mh.out.trans hz2 (λ_ _ h=>h);clear hz1 hz2;go_wp2
     go_roundg (gap M m (AL P T))
     case measure=>rw[iB.out];exact JI (K7.out.bounded HMm.out) (cK HPJ.out) HX.out HY.out (.inr (of_decide_eq_true q3))
     case rel=>exact⟨AL P T,rfl,K7.out.trans (wY P T),.inr ⟨rfl,Ah.out⟩,uR.out⟩
    .refine iH 19 (by simp) (by kernel_rfl) (by kernel_rfl) ?_
     simp only[fK,bV,fT,cO];repeat(go_big_quiet_step (fail))
     refine aS ?_;rintro _ ⟨mr,rfl⟩;gi_wp2;have KH:Hid (∀(i:Nat)(p:Nat×Nat),i<j+1->P[i]?=some p->∀x y,T[p.1]?=some x->T[p.2]?=some y->x.low<=y.low/\x.high<=y.high):=λi p hi hp x' y' hx' hy'=>by
      by_cases hij:i=j
      .subst hij
       rw[HPJ.out]at hp;cases hp
       rw[HX.out]at hx';rw[HY.out]at hy';cases hx'
       cases hy'
       have h2:=of_decide_eq_false q2;have h3:=of_decide_eq_false q3;omega
      .exact HC.out i p (by omega) hp x' y' hx' hy'
     go_wp2
     go_roundg (P.length - (j+1))
     case measure=>rw[HG2.out];omega
     case rel=>exact⟨j+1,rfl,by omega,by go_num,.inr ⟨rfl,K6.out.keep ((aH.refl (λ_=>False) Wa).drewN _) (λh=>h)⟩,Mh.out.drewN _,KH⟩
   .obtain rfl:j=P.length:=by omega
    have d1:=(bP (o:=1) HU.out (by omega) (by omega)).trans c1;have HT:Hid (jf F T O):=by
     rw[<-HPP.out]at K7 HC;exact K7.out.tight HD.out HK.out (λp hp x y hx hy=>by
      obtain⟨i,hi⟩:=jV.1 hp;exact HC.out i p (aZ.1 hi).1 hi x y hx hy)
    clear HC K7;go_wp2
    go_loopg [56] F.length (λg3 v56 wq=>∃i:Nat,g3=F.length - i/\i<=F.length/\v56= .int .i64 i/\Hid (GH wq A fb T)/\Hid (aH (λk=>k=fb) Z wq)/\Hid (∀(q:Nat)(x:aB),q<i->T[q]?=some x->x.low<=x.high))
    case atStart=>exact⟨0,rfl,aV _,rfl,HO,HU,λq x h=>absurd h (Nat.not_lt_zero _)⟩
    case round=>
     clear HO HU d1;obtain⟨i,hg3,hi,rfl,HO,HU,HC⟩:=hrel;have HG3:=ah hg3;clear hg3;by_cases hil:i<F.length
     .obtain⟨hA,Qn⟩:=HO.out.form (i:=i) (by omega)
      subst hA;obtain⟨⟨re,ac,lo,hi2,fi,se⟩,hx⟩:∃x,T[i]?=some x:=⟨T[i]'(by omega),aT (by omega)⟩;have x0:wr.cell? ⟨fb,i*6,none⟩=some (.int .i64 re):=Qn.fact (j:=0) hx (by omega) rfl;have x1:wr.cell? ⟨fb,i*6+1,none⟩=some (.int .i64 ac):=Qn.fact hx (by omega) rfl;have x2:wr.cell? ⟨fb,i*6+2,none⟩=some (.int .i64 lo):=Qn.fact hx (by omega) rfl;have x3:wr.cell? ⟨fb,i*6+3,none⟩=some (.int .i64 hi2):=Qn.fact hx (by omega) rfl;have x4:wr.cell? ⟨fb,i*6+4,none⟩=some (.int .i64 fi):=Qn.fact hx (by omega) rfl;have x5:wr.cell? ⟨fb,i*6+5,none⟩=some (.bool se):=Qn.fact hx (by omega) rfl;have HX:=ah hx;clear hx;have iF:(i:Int)<(F.length:Int):=by omega
      go_upto_region 12 with(fail)
      generalize hWa:World.alloc _ _=Wa;obtain⟨hba,hxa⟩:=bx1' hWa;have q2:Wa.cell? ⟨wr.heap.size,2,none⟩=some (.int .i64 lo):=(aG Wa _ 2 _ _ _ hxa).trans rfl;have q3:Wa.cell? ⟨wr.heap.size,3,none⟩=some (.int .i64 hi2):=(aG Wa _ 3 _ _ _ hxa).trans rfl;have Mh:Hid (aH (λk=>k=fb) Z Wa):=lD HU.out hba;have K6:=ah (Qn.below hba);clear hWa hba hxa x0 x1 x2 x3 x4 x5 Qn;cases hq:decide (hi2<lo)with
      |true=>
       have HQ:Hid (sN T=false):=by
        cases hf:sN T with
        |false=>rfl
        |true=>
         have h1:=xG.1 hf _ (cK HX.out);have h2:=of_decide_eq_true hq;simp only at h1;omega
       go_wp2;try rw[Exit.noGoto_ret]
       go_ret;exact⟨T,by rw[HQ.out];rfl,HT.out,.inr ⟨rfl,K6.out⟩,((lD (aH.refl (λk=>k=fb) w) HZ.out).trans Mh.out (λ_ _ h=>h))⟩
      |false=>
       have KH:Hid (∀(q:Nat)(x:aB),q<i+1->T[q]?=some x->x.low<=x.high):=λq x hq2 hx=>by
        by_cases e:q=i
        .subst e
         rw[HX.out]at hx;cases hx
         have h2:=of_decide_eq_false hq;show lo<=hi2;omega
        .exact HC.out q x (by omega) hx
       go_wp2
       go_roundg (F.length - (i+1))
       case measure=>rw[HG3.out];omega
       case rel=>exact⟨i+1,rfl,by omega,by go_num,.inr ⟨rfl,K6.out⟩,Mh,KH⟩
     .obtain rfl:i=F.length:=by omega
      have HQ:Hid (sN T=true):=xG.2 (λx hx=>by
       obtain⟨q,hq⟩:=jV.1 hx;exact HC.out q x (by have:=(aZ.1 hq).1;omega) hq)
      go_wp2;try rw[Exit.noGoto_ret]
      go_ret;exact⟨T,by rw[HQ.out];rfl,HT.out,HO.out,((lD (aH.refl (λk=>k=fb) w) HZ.out).trans HU.out (λ_ _ h=>h))⟩
end Go.Proofs.YtpmdedcnbockhaaGreatDoor

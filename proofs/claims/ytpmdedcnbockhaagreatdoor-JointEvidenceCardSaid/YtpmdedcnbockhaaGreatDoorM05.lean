/-
  CsP; CsQ; CtP
-/
import Derived.Test.YtpmdedcnbockhaaGreatDoorA
namespace Go.Proofs.YtpmdedcnbockhaaGreatDoor
structure au where
 ref:Int
 act:Int
 low:Int
 high:Int
 filed:Int
 secret:Bool
structure aP where
 ref:Int
 next:Int
structure aM where
 house:Int
 facts:List au
 orders:List aP
def QC(y x:au):au:={y with low:=max y.low x.low,high:=min y.high x.high,filed:=min y.filed x.filed,secret:=y.secret&&x.secret}
def yt(r:Int)(o:Option au)(x:au):Option au:=if x.ref=r then some (match o with|none=>x|some y=>QC y x)else o
def look(L:List au)(r:Int):Option au:=L.foldl (yt r) none
theorem Dk(L:List au)(x:au)(r:Int):look (L++[x]) r=yt r (look L r) x:=by unfold look;rw[tJ];rfl
def jP(L:List au):Prop:=∀x∈L,∀y∈L,x.ref=y.ref->x.act=y.act
structure mM(L:List au)(r:Int)(z:au):Prop where
 ref:z.ref=r
 act:∃x∈L,x.ref=r/\x.act=z.act
 low:∃x∈L,x.ref=r/\x.low=z.low
 Dl:∀x∈L,x.ref=r->x.low<=z.low
 high:∃x∈L,x.ref=r/\x.high=z.high
 vD:∀x∈L,x.ref=r->z.high<=x.high
 filed:∃x∈L,x.ref=r/\x.filed=z.filed
 wB:∀x∈L,x.ref=r->z.filed<=x.filed
 sec:z.secret=true↔∀x∈L,x.ref=r->x.secret=true
theorem qZ{α:Type}{P:List α->Prop}(h0:P [])(h1:∀l a,P l->P (l++[a]))(l:List α):P l:=by
 have h:∀k:List α,P k.reverse:=λk=>by
  induction k with
  |nil=>exact h0
  |cons a k ih=>rw[List.reverse_cons];exact h1 _ _ ih
 have:=h l.reverse
 rwa [List.reverse_reverse]at this
theorem QD(x:au)(r:Int)(h:x.ref=r)(L:List au)(hL:∀y∈L,y.ref≠r):mM (L++[x]) r x:=by
 have hm:∀y∈L++[x],y.ref=r->y=x:=λy hy e=>by
  rcases dJ.1 hy with h1|h1
  .exact absurd e (hL y h1)
  .exact d_.1 h1
 have hx:x∈L++[x]:=by simp
 exact⟨h,⟨x,hx,h,rfl⟩,⟨x,hx,h,rfl⟩,λy hy e=>by rw[hm y hy e];exact iI _,⟨x,hx,h,rfl⟩,λy hy e=>by rw[hm y hy e];exact iI _,⟨x,hx,h,rfl⟩,λy hy e=>by rw[hm y hy e];exact iI _,⟨λe y hy f=>by rw[hm y hy f];exact e,λe=>e x hx h⟩⟩
theorem NR{L:List au}{r:Int}{z:au}(h:mM L r z)(x:au)(e:x.ref=r):mM (L++[x]) r (QC z x):=by
 have hx:x∈L++[x]:=by simp
 have hl:∀{y},y∈L->y∈L++[x]:=λhy=>dJ.2 (.inl hy);refine⟨h.ref,?_,?_,?_,?_,?_,?_,?_,?_⟩
 .obtain⟨y,h1,h2,h3⟩:=h.act;exact⟨y,hl h1,h2,h3⟩
 .show∃y∈L++[x],y.ref=r/\y.low=max z.low x.low
  by_cases c:z.low<=x.low
  .exact⟨x,hx,e,by omega⟩
  .obtain⟨y,h1,h2,h3⟩:=h.low;exact⟨y,hl h1,h2,by omega⟩
 .intro y hy f
  show y.low<=max z.low x.low;rcases dJ.1 hy with h1|h1
  .have:=h.Dl y h1 f;omega
  .rw[d_.1 h1];omega
 .show∃y∈L++[x],y.ref=r/\y.high=min z.high x.high
  by_cases c:x.high<=z.high
  .exact⟨x,hx,e,by omega⟩
  .obtain⟨y,h1,h2,h3⟩:=h.high;exact⟨y,hl h1,h2,by omega⟩
 .intro y hy f
  show min z.high x.high<=y.high;rcases dJ.1 hy with h1|h1
  .have:=h.vD y h1 f;omega
  .rw[d_.1 h1];omega
 .show∃y∈L++[x],y.ref=r/\y.filed=min z.filed x.filed
  by_cases c:x.filed<=z.filed
  .exact⟨x,hx,e,by omega⟩
  .obtain⟨y,h1,h2,h3⟩:=h.filed;exact⟨y,hl h1,h2,by omega⟩
 .intro y hy f
  show min z.filed x.filed<=y.filed;rcases dJ.1 hy with h1|h1
  .have:=h.wB y h1 f;omega
  .rw[d_.1 h1];omega
 .show(z.secret&&x.secret)=true↔_
  rw[bP,h.sec];constructor
  .rintro⟨h1,h2⟩ y hy f
   rcases dJ.1 hy with h3|h3
   .exact h1 y h3 f
   .rw[d_.1 h3];exact h2
  .exactλh1=>⟨λy hy f=>h1 y (hl hy) f,h1 x hx e⟩
theorem NS{L:List au}{r:Int}{z:au}(h:mM L r z)(x:au)(e:x.ref≠r):mM (L++[x]) r z:=by
 have hl:∀{y},y∈L->y∈L++[x]:=λhy=>dJ.2 (.inl hy);have hm:∀{y},y∈L++[x]->y.ref=r->y∈L:=λ{y} hy f=>by
  rcases dJ.1 hy with h3|h3
  .exact h3
  .rw[d_.1 h3]at f;exact absurd f e
 have ex:∀{p:au->Prop},(∃y∈L,y.ref=r/\p y)->∃y∈L++[x],y.ref=r/\p y:=λ⟨y,h1,h2⟩=>⟨y,hl h1,h2⟩;exact⟨h.ref,ex h.act,ex h.low,λy hy f=>h.Dl y (hm hy f) f,ex h.high,λy hy f=>h.vD y (hm hy f) f,ex h.filed,λy hy f=>h.wB y (hm hy f) f,h.sec.trans ⟨λk y hy f=>k y (hm hy f) f,λk y hy f=>k y (hl hy) f⟩⟩
theorem tQ(L:List au)(r:Int):(look L r=none/\∀x∈L,x.ref≠r)\/∃z,look L r=some z/\mM L r z:=by
 induction L using qZ with
 |h0=>exact .inl ⟨rfl,λx h=>by cases h⟩
 |h1 L x ih=>
  rw[Dk];unfold yt;by_cases e:x.ref=r
  .rw[if_pos e]
   rcases ih with⟨h1,h2⟩|⟨z,h1,h2⟩
   .rw[h1];exact .inr ⟨x,rfl,QD x r e L h2⟩
   .rw[h1];exact .inr ⟨_,rfl,NR h2 x e⟩
  .rw[if_neg e]
   rcases ih with⟨h1,h2⟩|⟨z,h1,h2⟩
   .refine .inl ⟨h1,λy hy=>?_⟩
    rcases dJ.1 hy with h3|h3
    .exact h2 y h3
    .rw[d_.1 h3];exact e
   .exact .inr ⟨z,h1,NS h2 x e⟩
theorem mM.eq{L L':List au}{r:Int}{z z':au}(h:mM L r z)(h':mM L' r z')(hs:jP L)(hm:∀x,x∈L↔x∈L'):z=z':=by
 obtain⟨r1,a1,l1,g1,f1,s1⟩:=z;obtain⟨r2,a2,l2,g2,f2,s2⟩:=z';have e1:r1=r2:=h.ref.trans h'.ref.symm;have e2:a1=a2:=by
  obtain⟨x,hx,hr,ha⟩:=h.act;obtain⟨y,hy,hr',ha'⟩:=h'.act;rw[show a1=x.act from ha.symm,show a2=y.act from ha'.symm];exact hs x hx y ((hm y).2 hy) (hr.trans hr'.symm)
 have e3:l1=l2:=by
  obtain⟨x,hx,hr,ha⟩:=h.low;obtain⟨y,hy,hr',ha'⟩:=h'.low;have b1:=h'.Dl x ((hm x).1 hx) hr;have b2:=h.Dl y ((hm y).2 hy) hr';simp only at ha ha' b1 b2;omega
 have e4:g1=g2:=by
  obtain⟨x,hx,hr,ha⟩:=h.high;obtain⟨y,hy,hr',ha'⟩:=h'.high;have b1:=h'.vD x ((hm x).1 hx) hr;have b2:=h.vD y ((hm y).2 hy) hr';simp only at ha ha' b1 b2;omega
 have e5:f1=f2:=by
  obtain⟨x,hx,hr,ha⟩:=h.filed;obtain⟨y,hy,hr',ha'⟩:=h'.filed;have b1:=h'.wB x ((hm x).1 hx) hr;have b2:=h.wB y ((hm y).2 hy) hr';simp only at ha ha' b1 b2;omega
 have e6:s1=s2:=by
  rw[Bool.eq_iff_iff];have b1:=h.sec;have b2:=h'.sec;simp only at b1 b2;rw[b1,b2];exact⟨λk x hx hr=>k x ((hm x).2 hx) hr,λk x hx hr=>k x ((hm x).1 hx) hr⟩
 subst e1 e2 e3 e4 e5 e6;rfl
theorem QE{L L':List au}(hs:jP L)(hm:∀x,x∈L↔x∈L')(r:Int):look L r=look L' r:=by
 rcases tQ L r with⟨h1,h2⟩|⟨z,h1,h2⟩
 .rcases tQ L' r with⟨h3,_⟩|⟨z',_,h4⟩
  .rw[h1,h3]
  .obtain⟨x,hx,hr,_⟩:=h4.act
   exact absurd hr (h2 x ((hm x).2 hx))
 .rcases tQ L' r with⟨_,h4⟩|⟨z',h3,h4⟩
  .obtain⟨x,hx,hr,_⟩:=h2.act
   exact absurd hr (h4 x ((hm x).1 hx))
  .rw[h1,h3,h2.eq h4 hs hm]
theorem nN{α:Type}{lt:α->α->Prop}(irr:∀a,¬lt a a)(tr:∀a b c,lt a b->lt b c->lt a c):∀{l l':List α},l.Pairwise lt->l'.Pairwise lt->(∀x,x∈l↔x∈l')->l=l'
 |[],[],_,_,_=>rfl
 |[],b::l',_,_,h=>absurd ((h b).2 (by simp)) (by simp)
 |a::l,[],_,_,h=>absurd ((h a).1 (by simp)) (by simp)
 |a::l,b::l',h1,h2,h=>by
  rw[w_]at h1 h2;have e:a=b:=by
   rcases dI.1 ((h a).1 (by simp))with e|e
   .exact e
   .rcases dI.1 ((h b).2 (by simp))with e2|e2
    .exact e2.symm
    .exact absurd (tr _ _ _ (h1.1 b e2) (h2.1 a e)) (irr a)
  subst e;rw[nN irr tr h1.2 h2.2 (λx=>⟨λhx=>by
   rcases dI.1 ((h x).1 (jf _ hx))with e|e
   .subst e;exact absurd (h1.1 x hx) (irr x)
   .exact e,λhx=>by
   rcases dI.1 ((h x).2 (jf _ hx))with e|e
   .subst e;exact absurd (h2.1 x hx) (irr x)
   .exact e⟩)]
def zX(r:Int):List Int->List Int
 |[]=>[r]
 |k::l=>if r<k then r::k::l else if r=k then k::l else k::zX r l
theorem BQ(r:Int):∀(l:List Int)(x:Int),x∈zX r l↔x=r\/x∈l
 |[],x=>by simp[zX]
 |k::l,x=>by
  unfold zX;by_cases h:r<k
  .rw[if_pos h];simp
  .rw[if_neg h]
   by_cases h2:r=k
   .rw[if_pos h2];subst h2;simp
   .rw[if_neg h2,dI,BQ r l x,dI]
    constructor
    .rintro(h3|h3|h3)
     .exact .inr (.inl h3)
     .exact .inl h3
     .exact .inr (.inr h3)
    .rintro(h3|h3|h3)
     .exact .inr (.inl h3)
     .exact .inl h3
     .exact .inr (.inr h3)
theorem yu(r:Int):∀(l:List Int),l.Pairwise (· < ·)->(zX r l).Pairwise (· < ·)
 |[],_=>by simp[zX]
 |k::l,h=>by
  unfold zX;rw[w_]at h;by_cases h1:r<k
  .rw[if_pos h1,w_,w_]
   refine⟨λx hx=>?_,h.1,h.2⟩;rcases dI.1 hx with e|e
   .subst e;exact h1
   .exact Int.lt_trans h1 (h.1 x e)
  .rw[if_neg h1]
   by_cases h2:r=k
   .rw[if_pos h2,w_];exact h
   .rw[if_neg h2,w_]
    refine⟨λx hx=>?_,yu r l h.2⟩;rcases(BQ r l x).1 hx with e|e
    .omega
    .exact h.1 x e
def iX(L:List au):List Int:=L.foldl (λk x=>zX x.ref k) []
theorem yw(L:List au)(x:au):iX (L++[x])=zX x.ref (iX L):=by unfold iX;rw[tJ];rfl
theorem oW(L:List au):(iX L).Pairwise (· < ·):=by
 induction L using qZ with
 |h0=>exact List.Pairwise.nil
 |h1 L x ih=>rw[yw];exact yu _ _ ih
theorem r9(L:List au)(r:Int):r∈iX L↔∃x∈L,x.ref=r:=by
 induction L using qZ with
 |h0=>simp[iX]
 |h1 L x ih=>
  rw[yw,BQ,ih];constructor
  .rintro(h|⟨y,h1,h2⟩)
   .exact⟨x,by simp,h.symm⟩
   .exact⟨y,dJ.2 (.inl h1),h2⟩
  .rintro⟨y,h1,h2⟩
   rcases dJ.1 h1 with h3|h3
   .exact .inr ⟨y,h3,h2⟩
   .rw[d_.1 h3]at h2;exact .inl h2.symm
theorem pR{L:List au}{K:List Int}(h:K.Pairwise (· < ·))(hm:∀r,r∈K↔∃x∈L,x.ref=r):K=iX L:=
 nN (λa h=>Int.lt_irrefl a h) (λ_ _ _=>Int.lt_trans) h (oW L) (λr=>(hm r).trans (r9 L r).symm)
theorem LH{L L':List au}(hm:∀x,x∈L↔x∈L'):iX L=iX L':=
 pR (oW L) (λr=>(r9 L r).trans ⟨λ⟨x,h1,h2⟩=>⟨x,(hm x).1 h1,h2⟩,λ⟨x,h1,h2⟩=>⟨x,(hm x).2 h1,h2⟩⟩)
def aX(L:List au):List au:=(iX L).filterMap (look L)
theorem vE{L:List au}{r:Int}(h:r∈iX L):∃z,look L r=some z/\mM L r z:=by
 rcases tQ L r with⟨_,h2⟩|h2
 .obtain⟨x,hx,hr⟩:=(r9 L r).1 h
  exact absurd hr (h2 x hx)
 .exact h2
theorem yx{L:List au}:∀{K:List Int},(∀r∈K,r∈iX L)->(K.filterMap (look L)).map (·.ref)=K
 |[],_=>rfl
 |r::K,h=>by
  obtain⟨z,h1,h2⟩:=vE (h r (by simp));rw[List.filterMap_cons,h1];simp only[kN,h2.ref];rw[yx (λx hx=>h x (jf _ hx))]
theorem q8(L:List au):(aX L).map (·.ref)=iX L:=yx (λ_ h=>h)
theorem bU{L:List au}{z:au}(h:z∈aX L):mM L z.ref z:=by
 obtain⟨r,hr,he⟩:=List.mem_filterMap.1 h;obtain⟨y,h1,h2⟩:=vE hr;rw[h1]at he;cases he
 have:=h2.ref;subst this;exact h2
theorem Ai{L L':List au}(hs:jP L)(hm:∀x,x∈L↔x∈L'):aX L=aX L':=by
 unfold aX;rw[LH hm,show look L=look L' from funext (QE hs hm)]
def Eu(a b:aP):Prop:=a.ref<b.ref\/(a.ref=b.ref/\a.next<b.next)
theorem FL(a:aP):¬Eu a a:=by unfold Eu;omega
theorem Kw(a b c:aP)(h1:Eu a b)(h2:Eu b c):Eu a c:=by unfold Eu at*;omega
theorem ZK(a b:aP):Eu a b\/a=b\/Eu b a:=by
 unfold Eu;by_cases h:a.ref=b.ref
 .by_cases h2:a.next=b.next
  .exact .inr (.inl (by cases a;cases b;simp only at h h2;subst h h2;rfl))
  .rcases Int.lt_or_gt_of_ne h2 with h3|h3
   .exact .inl (.inr ⟨h,h3⟩)
   .exact .inr (.inr (.inr ⟨h.symm,h3⟩))
 .rcases Int.lt_or_gt_of_ne h with h3|h3
  .exact .inl (.inl h3)
  .exact .inr (.inr (.inl h3))
theorem JR{A B:List aP}(h1:A.Pairwise Eu)(h2:B.Pairwise Eu)(hm:∀x,x∈A↔x∈B):A=B:=nN FL Kw h1 h2 hm
def au.wC(x:au):Int×Int×Int×Bool:=(x.ref,x.act,x.filed,x.secret)
theorem eG{x y:au}(h:x.wC=y.wC):x.ref=y.ref:=congrArg (·.1) h
theorem au.ext'{x y:au}(h:x.wC=y.wC)(hl:x.low=y.low)(hh:x.high=y.high):x=y:=by
 cases x;cases y
 simp only[au.wC,Prod.mk.injEq]at h hl hh;obtain⟨h1,h2,h3,h4⟩:=h;subst h1 h2 h3 h4 hl hh;rfl
structure d9(F T:List au)(O:List aP):Prop where
 rest:T.map au.wC=F.map au.wC
 leL:∀f∈F,∀t∈T,f.ref=t.ref->f.low<=t.low
 leH:∀f∈F,∀t∈T,f.ref=t.ref->t.high<=f.high
 NT:∀b∈O,∀s∈T,∀t∈T,s.ref=b.ref->t.ref=b.next->s.low<=t.low
 UF:∀b∈O,∀s∈T,∀t∈T,s.ref=b.ref->t.ref=b.next->s.high<=t.high
 ZL:∀m:Int->Int,(∀f∈F,f.low<=m f.ref)->(∀b∈O,m b.ref<=m b.next)->∀t∈T,t.low<=m t.ref
 ZM:∀m:Int->Int,(∀f∈F,m f.ref<=f.high)->(∀b∈O,m b.ref<=m b.next)->∀t∈T,m t.ref<=t.high
def Known(F:List au)(O:List aP):Prop:=∀b∈O,(∃x∈F,x.ref=b.ref)/\∃x∈F,x.ref=b.next
def aT(F:List au):Prop:=(F.map (·.ref)).Pairwise (· < ·)
theorem eU{F:List au}(h:aT F):∀x∈F,∀y∈F,x.ref=y.ref->x=y:=by
 unfold aT at h;induction F with
 |nil=>intro x hx;cases hx
 |cons a l ih=>
  rw[kN,w_]at h;intro x hx y hy e;rcases dI.1 hx with h1|h1
  .rcases dI.1 hy with h2|h2
   .rw[h1,h2]
   .have:=h.1 y.ref (List.mem_map_of_mem h2)
    rw[h1]at e;omega
  .rcases dI.1 hy with h2|h2
   .have:=h.1 x.ref (List.mem_map_of_mem h1)
    rw[h2]at e;omega
   .exact ih h.2 x h1 y h2 e
def r_(g:au->Int)(T:List au)(r:Int):Int:=((T.find? (λx=>x.ref==r)).map g).getD 0
theorem fG{g:au->Int}{T:List au}(h:aT T){t:au}(ht:t∈T):r_ g T t.ref=g t:=by
 unfold r_;cases e:T.find? (λx=>x.ref==t.ref)with
 |none=>
  have:=List.find?_eq_none.1 e t ht;simp at this
 |some y=>
  have h1:=List.mem_of_find?_eq_some e;have h2:=List.find?_some e;simp only[beq_iff_eq]at h2;rw[eU h y h1 t ht h2];rfl
theorem d9.refs{F T:List au}{O:List aP}(h:d9 F T O):T.map (·.ref)=F.map (·.ref):=by
 have:=congrArg (List.map (·.1)) h.rest;rw[ow,ow]at this;exact this
theorem d9.distinct{F T:List au}{O:List aP}(h:d9 F T O)(hd:aT F):aT T:=by unfold aT;rw[h.refs];exact hd
theorem d9.has{F T:List au}{O:List aP}(h:d9 F T O){f:au}(hf:f∈F):∃t∈T,t.wC=f.wC:=by
 have h1:f.wC∈T.map au.wC:=by rw[h.rest];exact List.mem_map_of_mem hf
 obtain⟨t,ht,e⟩:=dF.1 h1;exact⟨t,ht,e⟩
theorem d9.had{F T:List au}{O:List aP}(h:d9 F T O){t:au}(ht:t∈T):∃f∈F,f.wC=t.wC:=by
 have h1:t.wC∈F.map au.wC:=by rw[<-h.rest];exact List.mem_map_of_mem ht
 obtain⟨f,hf,e⟩:=dF.1 h1;exact⟨f,hf,e⟩
theorem d9.known{F T:List au}{O:List aP}(h:d9 F T O)(k:Known F O):Known T O:=λb hb=>by
 obtain⟨⟨x,hx,h1⟩,y,hy,h2⟩:=k b hb;obtain⟨x',hx',h3⟩:=h.has hx;obtain⟨y',hy',h4⟩:=h.has hy;exact⟨⟨x',hx',(eG h3).trans h1⟩,y',hy',(eG h4).trans h2⟩
theorem d9.QF{F T T':List au}{O:List aP}(h:d9 F T O)(hd:aT T')(hk:Known T' O)(hF:∀f∈F,∃t∈T',t.ref=f.ref/\f.low<=t.low)(hc:∀b∈O,∀s∈T',∀t∈T',s.ref=b.ref->t.ref=b.next->s.low<=t.low){t t':au}(ht:t∈T)(ht':t'∈T')(e:t.ref=t'.ref):t.low<=t'.low:=by
 have:=h.ZL (r_ (·.low) T') (λf hf=>by
  obtain⟨u,hu,h1,h2⟩:=hF f hf;rw[<-h1,fG hd hu];exact h2) (λb hb=>by
  obtain⟨⟨x,hx,h1⟩,y,hy,h2⟩:=hk b hb;rw[<-h1,<-h2,fG hd hx,fG hd hy];exact hc b hb x hx y hy h1 h2) t ht
 rw[e,fG hd ht']at this;exact this
theorem d9.LJ{F T T':List au}{O:List aP}(h:d9 F T O)(hd:aT T')(hk:Known T' O)(hF:∀f∈F,∃t∈T',t.ref=f.ref/\t.high<=f.high)(hc:∀b∈O,∀s∈T',∀t∈T',s.ref=b.ref->t.ref=b.next->s.high<=t.high){t t':au}(ht:t∈T)(ht':t'∈T')(e:t.ref=t'.ref):t'.high<=t.high:=by
 have:=h.ZM (r_ (·.high) T') (λf hf=>by
  obtain⟨u,hu,h1,h2⟩:=hF f hf;rw[<-h1,fG hd hu];exact h2) (λb hb=>by
  obtain⟨⟨x,hx,h1⟩,y,hy,h2⟩:=hk b hb;rw[<-h1,<-h2,fG hd hx,fG hd hy];exact hc b hb x hx y hy h1 h2) t ht
 rw[e,fG hd ht']at this;exact this
theorem Te:∀{T T':List au},T.map au.wC=T'.map au.wC->aT T->(∀t∈T,∀t'∈T',t.ref=t'.ref->t.low=t'.low/\t.high=t'.high)->T=T'
 |[],[],_,_,_=>rfl
 |[],b::l,h,_,_=>by cases h
 |a::l,[],h,_,_=>by cases h
 |a::l,b::l',h,hd,he=>by
  rw[kN,kN]at h;injection h with h1 h2
  obtain⟨e1,e2⟩:=he a (by simp) b (by simp) (eG h1);have hd2:aT l:=by unfold aT at hd⊢;rw[kN,w_]at hd;exact hd.2
  rw[au.ext' h1 e1 e2,Te h2 hd2 (λt ht t' ht'=>he t (jf _ ht) t' (jf _ ht'))]
theorem d9.unique{F T T':List au}{O:List aP}(h:d9 F T O)(h':d9 F T' O)(hd:aT F)(hk:Known F O):T=T':=by
 have hF:∀f∈F,∃t∈T,t.ref=f.ref/\f.low<=t.low/\t.high<=f.high:=λf hf=>by
  obtain⟨t,ht,e⟩:=h.has hf;exact⟨t,ht,eG e,h.leL f hf t ht (eG e).symm,h.leH f hf t ht (eG e).symm⟩
 have hF':∀f∈F,∃t∈T',t.ref=f.ref/\f.low<=t.low/\t.high<=f.high:=λf hf=>by
  obtain⟨t,ht,e⟩:=h'.has hf;exact⟨t,ht,eG e,h'.leL f hf t ht (eG e).symm,h'.leH f hf t ht (eG e).symm⟩
 refine Te (h.rest.trans h'.rest.symm) (h.distinct hd) λt ht t' ht' e=>?_;have a1:=h.QF (h'.distinct hd) (h'.known hk) (λf hf=>by obtain⟨u,k1,k2,k3,_⟩:=hF' f hf;exact⟨u,k1,k2,k3⟩) h'.NT ht ht' e;have a2:=h'.QF (h.distinct hd) (h.known hk) (λf hf=>by obtain⟨u,k1,k2,k3,_⟩:=hF f hf;exact⟨u,k1,k2,k3⟩) h.NT ht' ht e.symm;have a3:=h.LJ (h'.distinct hd) (h'.known hk) (λf hf=>by obtain⟨u,k1,k2,_,k3⟩:=hF' f hf;exact⟨u,k1,k2,k3⟩) h'.UF ht ht' e;have a4:=h'.LJ (h.distinct hd) (h.known hk) (λf hf=>by obtain⟨u,k1,k2,_,k3⟩:=hF f hf;exact⟨u,k1,k2,k3⟩) h.UF ht' ht e.symm;exact⟨by omega,by omega⟩
theorem dZ(L:List au):aT (aX L):=by unfold aT;rw[q8];exact oW L
theorem oH{L:List au}{x:au}(h:x∈L):∃z∈aX L,z.ref=x.ref:=by
 have:x.ref∈(aX L).map (·.ref):=by rw[q8,r9];exact⟨x,h,rfl⟩
 obtain⟨z,hz,e⟩:=dF.1 this;exact⟨z,hz,e⟩
theorem jP.congr{L L':List au}(hm:∀x,x∈L↔x∈L')(h:jP L):jP L':=λx hx y hy e=>h x ((hm x).2 hx) y ((hm y).2 hy) e
def kg(O OO:List aP):Prop:=OO.Pairwise Eu/\∀x,x∈OO↔x∈O
theorem kg.congr{O O' OO:List aP}(h:kg O OO)(hm:∀x,x∈O↔x∈O'):kg O' OO:=⟨h.1,λx=>(h.2 x).trans (hm x)⟩
theorem kg.unique{O OO OO':List aP}(h:kg O OO)(h':kg O OO'):OO=OO':=JR h.1 h'.1 (λx=>(h.2 x).trans (h'.2 x).symm)
structure jo(L:List au)(O:List aP)(T:List au)(OO:List aP):Prop where
 same:jP L
 ord:kg O OO
 tight:d9 (aX L) T OO
 le:∀t∈T,t.low<=t.high
def yB(L:List au)(O:List aP):Prop:=¬jP L\/∃T OO,kg O OO/\d9 (aX L) T OO/\∃t∈T,t.high<t.low
def qo(L:List au)(O:List aP):Prop:=∀b∈O,(∃x∈L,x.ref=b.ref)/\∃x∈L,x.ref=b.next
theorem qo.known{L:List au}{O OO:List aP}(h:qo L O)(ho:kg O OO):Known (aX L) OO:=λb hb=>by
 obtain⟨⟨x,hx,h1⟩,y,hy,h2⟩:=h b ((ho.2 b).1 hb);obtain⟨x',k1,k2⟩:=oH hx;obtain⟨y',k3,k4⟩:=oH hy;exact⟨⟨x',k1,k2.trans h1⟩,y',k3,k4.trans h2⟩
theorem jo.zD{L:List au}{O:List aP}{T:List au}{OO:List aP}(h:jo L O T OO)(hk:qo L O):¬yB L O:=by
 rintro(h1|⟨T',O',h1,h2,t,ht,h3⟩)
 .exact h1 h.same
 .obtain rfl:=h.ord.unique h1
  obtain rfl:=h.tight.unique h2 (dZ L) (hk.known h.ord);have:=h.le t ht;omega
theorem jo.unique{L:List au}{O:List aP}{T T':List au}{OO OO':List aP}(h:jo L O T OO)(h':jo L O T' OO')(hk:qo L O):T=T'/\OO=OO':=by
 obtain rfl:=h.ord.unique h'.ord;exact⟨h.tight.unique h'.tight (dZ L) (hk.known h.ord),rfl⟩
theorem jo.congr{L L':List au}{O O':List aP}{T:List au}{OO:List aP}(h:jo L O T OO)(hm:∀x,x∈L↔x∈L')(ho:∀x,x∈O↔x∈O'):jo L' O' T OO:=
 ⟨h.same.congr hm,h.ord.congr ho,by rw[<-Ai h.same hm];exact h.tight,h.le⟩
theorem yB.congr{L L':List au}{O O':List aP}(h:yB L O)(hm:∀x,x∈L↔x∈L')(ho:∀x,x∈O↔x∈O'):yB L' O':=by
 by_cases hs:jP L
 .rcases h with h|⟨T,OO,h1,h2,h3⟩
  .exact absurd hs h
  .exact .inr ⟨T,OO,h1.congr ho,by rw[<-Ai hs hm];exact h2,h3⟩
 .exact .inl (λk=>hs (k.congr (λx=>(hm x).symm)))
theorem d9.vF{A T:List au}{O:List aP}(h:d9 (aX A) T O){t:au}(ht:t∈T):∃z∈aX A,z.wC=t.wC/\mM A t.ref z:=by
 obtain⟨z,hz,e⟩:=h.had ht;have:=bU hz;rw[eG e]at this;exact⟨z,hz,e,this⟩
theorem d9.kQ{A T:List au}{O:List aP}(h:d9 (aX A) T O){x:au}(hx:x∈A):∃t∈T,t.ref=x.ref/\x.low<=t.low/\t.high<=x.high/\t.filed<=x.filed:=by
 obtain⟨z,hz,e⟩:=oH hx;obtain⟨t,ht,e2⟩:=h.has hz;have hl:=bU hz;have h1:=hl.Dl x hx e.symm;have h2:=hl.vD x hx e.symm;have h3:=hl.wB x hx e.symm;have h4:=h.leL z hz t ht (eG e2).symm;have h5:=h.leH z hz t ht (eG e2).symm;have h6:t.filed=z.filed:=congrArg (·.2.2.1) e2;exact⟨t,ht,(eG e2).trans e,by omega,by omega,by omega⟩
section
variable {A B T1 T:List au} {O1 OO:List aP}
theorem Gv(hA:jP A)(h1:d9 (aX A) T1 O1):jP (T1++B)↔jP (A++B):=by
 have back:∀t∈T1,∃x∈A,x.ref=t.ref/\x.act=t.act:=λt ht=>by
  obtain⟨z,_,e,hl⟩:=h1.vF ht;obtain⟨x,hx,k1,k2⟩:=hl.act;exact⟨x,hx,k1,k2.trans (congrArg (·.2.1) e)⟩
 have forth:∀x∈A,∃t∈T1,t.ref=x.ref/\t.act=x.act:=λx hx=>by
  obtain⟨t,ht,e,_⟩:=h1.kQ hx;obtain⟨y,hy,k1,k2⟩:=back t ht;exact⟨t,ht,e,k2.symm.trans (hA y hy x hx (k1.trans e))⟩
 constructor
 .intro h
  have up:∀x∈A++B,∃t∈T1++B,t.ref=x.ref/\t.act=x.act:=λx hx=>by
   rcases dJ.1 hx with k|k
   .obtain⟨t,ht,e⟩:=forth x k;exact⟨t,dJ.2 (.inl ht),e⟩
   .exact⟨x,dJ.2 (.inr k),rfl,rfl⟩
  intro x hx y hy e;obtain⟨t,ht,k1,k2⟩:=up x hx;obtain⟨u,hu,k3,k4⟩:=up y hy;rw[<-k2,<-k4];exact h t ht u hu (by rw[k1,k3,e])
 .intro h
  have dn:∀t∈T1++B,∃x∈A++B,x.ref=t.ref/\x.act=t.act:=λt ht=>by
   rcases dJ.1 ht with k|k
   .obtain⟨x,hx,e⟩:=back t k;exact⟨x,dJ.2 (.inl hx),e⟩
   .exact⟨t,dJ.2 (.inr k),rfl,rfl⟩
  intro x hx y hy e;obtain⟨t,ht,k1,k2⟩:=dn x hx;obtain⟨u,hu,k3,k4⟩:=dn y hy;rw[<-k2,<-k4];exact h t ht u hu (by rw[k1,k3,e])
theorem Gw(h1:d9 (aX A) T1 O1):iX (T1++B)=iX (A++B):=by
 refine pR (oW _) (λr=>(r9 _ r).trans ⟨?_,?_⟩)
 .rintro⟨x,hx,e⟩
  rcases dJ.1 hx with k|k
  .obtain⟨z,_,_,hl⟩:=h1.vF k
   obtain⟨y,hy,k1,_⟩:=hl.act;exact⟨y,dJ.2 (.inl hy),k1.trans e⟩
  .exact⟨x,dJ.2 (.inr k),e⟩
 .rintro⟨x,hx,e⟩
  rcases dJ.1 hx with k|k
  .obtain⟨t,ht,k1,_⟩:=h1.kQ k
   exact⟨t,dJ.2 (.inl ht),k1.trans e⟩
  .exact⟨x,dJ.2 (.inr k),e⟩
theorem UG{r:Int}{z z':au}(hs:jP (A++B))(h1:d9 (aX A) T1 O1)(hz:mM (A++B) r z)(hz':mM (T1++B) r z'):z'.wC=z.wC:=by
 have inA:∀{x},x∈A->x∈A++B:=λh=>dJ.2 (.inl h);have inB:∀{x},x∈B->x∈A++B:=λh=>dJ.2 (.inr h);have inT:∀{x},x∈T1->x∈T1++B:=λh=>dJ.2 (.inl h);have afD:∀{x},x∈B->x∈T1++B:=λh=>dJ.2 (.inr h);have ha:z'.act=z.act:=by
  obtain⟨x,hx,k1,k2⟩:=hz.act;obtain⟨y,hy,k3,k4⟩:=hz'.act;rw[<-k2,<-k4];rcases dJ.1 hy with k|k
  .obtain⟨u,_,e,hl⟩:=h1.vF k
   obtain⟨v,hv,k5,k6⟩:=hl.act;rw[show y.act=u.act from(congrArg (·.2.1) e).symm,<-k6];exact hs v (inA hv) x hx (by rw[k5,k3,k1])
  .exact hs y (inB k) x hx (by rw[k3,k1])
 have hf:z'.filed=z.filed:=by
  have a1:z.filed<=z'.filed:=by
   obtain⟨y,hy,k3,k4⟩:=hz'.filed;rw[<-k4];rcases dJ.1 hy with k|k
   .obtain⟨u,_,e,hl⟩:=h1.vF k
    obtain⟨v,hv,k5,k6⟩:=hl.filed;rw[show y.filed=u.filed from(congrArg (·.2.2.1) e).symm,<-k6];exact hz.wB v (inA hv) (k5.trans k3)
   .exact hz.wB y (inB k) k3
  have a2:z'.filed<=z.filed:=by
   obtain⟨y,hy,k3,k4⟩:=hz.filed;rw[<-k4];rcases dJ.1 hy with k|k
   .obtain⟨t,ht,e,_,_,e2⟩:=h1.kQ k
    have:=hz'.wB t (inT ht) (e.trans k3);omega
   .exact hz'.wB y (afD k) k3
  omega
 have hse:z'.secret=z.secret:=by
  rw[Bool.eq_iff_iff,hz'.sec,hz.sec];constructor
  .intro h x hx e
   rcases dJ.1 hx with k|k
   .obtain⟨t,ht,e2,_⟩:=h1.kQ k
    have h2:=h t (inT ht) (e2.trans e);obtain⟨u,_,e3,hl⟩:=h1.vF ht;have h3:u.secret=true:=(congrArg (·.2.2.2) e3).trans h2;exact hl.sec.1 h3 x k e2.symm
   .exact h x (afD k) e
  .intro h t ht e
   rcases dJ.1 ht with k|k
   .obtain⟨u,_,e3,hl⟩:=h1.vF k
    have h3:u.secret=true:=hl.sec.2 (λx hx e4=>h x (inA hx) (e4.trans e));exact(congrArg (·.2.2.2) e3).symm.trans h3
   .exact h t (inB k) e
 show(z'.ref,z'.act,z'.filed,z'.secret)=(z.ref,z.act,z.filed,z.secret);rw[ha,hf,hse,hz'.ref,hz.ref]
theorem Ky{L L':List au}:∀{K:List Int},(∀r∈K,∃z z',look L r=some z/\look L' r=some z'/\z'.wC=z.wC)->(K.filterMap (look L')).map au.wC=(K.filterMap (look L)).map au.wC
 |[],_=>rfl
 |r::K,h=>by
  obtain⟨z,z',h1,h2,h3⟩:=h r (by simp);rw[List.filterMap_cons,List.filterMap_cons,h1,h2];simp only[kN,h3];rw[Ky (λx hx=>h x (jf _ hx))]
theorem d9.steps(hs:jP (A++B))(h1:d9 (aX A) T1 O1)(ho:∀b∈O1,b∈OO)(h:d9 (aX (T1++B)) T OO):d9 (aX (A++B)) T OO:=by
 have hr:(aX (T1++B)).map au.wC=(aX (A++B)).map au.wC:=by
  unfold aX;rw[Gw h1];refine Ky λr hr=>?_;obtain⟨z,k1,k2⟩:=vE hr;rw[<-Gw h1]at hr;obtain⟨z',k3,k4⟩:=vE hr;exact⟨z,z',k1,k3,UG hs h1 k2 k4⟩
 -- the facts of both,by Ref
 have both:∀z∈aX (A++B),∃z'∈aX (T1++B),z'.wC=z.wC:=λz hz=>by
  have:z.wC∈(aX (T1++B)).map au.wC:=by rw[hr];exact List.mem_map_of_mem hz
  obtain⟨z',k1,k2⟩:=dF.1 this;exact⟨z',k1,k2⟩
 have abq:∀z∈aX (A++B),∀z'∈aX (T1++B),z.ref=z'.ref->z.low<=z'.low/\z'.high<=z.high:=λz hz z' hz' e=>by
  have hl:=bU hz;have hl':=bU hz';refine⟨?_,?_⟩
  .obtain⟨x,hx,k1,k2⟩:=hl.low
   rw[<-k2];rcases dJ.1 hx with k|k
   .obtain⟨t,ht,e2,e3,_⟩:=h1.kQ k
    have:=hl'.Dl t (dJ.2 (.inl ht)) (by rw[e2,k1,e]);omega
   .exact hl'.Dl x (dJ.2 (.inr k)) (k1.trans e)
  .obtain⟨x,hx,k1,k2⟩:=hl.high
   rw[<-k2];rcases dJ.1 hx with k|k
   .obtain⟨t,ht,e2,_,e3,_⟩:=h1.kQ k
    have:=hl'.vD t (dJ.2 (.inl ht)) (by rw[e2,k1,e]);omega
   .exact hl'.vD x (dJ.2 (.inr k)) (k1.trans e)
 refine⟨h.rest.trans hr,λf hf t ht e=>?_,λf hf t ht e=>?_,h.NT,h.UF,λm hm hc t ht=>?_,λm hm hc t ht=>?_⟩
 .obtain⟨z',k1,k2⟩:=both f hf
  have a1:=(abq f hf z' k1 (eG k2).symm).1;have a2:=h.leL z' k1 t ht ((eG k2).trans e);omega
 .obtain⟨z',k1,k2⟩:=both f hf
  have a1:=(abq f hf z' k1 (eG k2).symm).2;have a2:=h.leH z' k1 t ht ((eG k2).trans e);omega
 .refine h.ZL m (λz' hz'=>?_) hc t ht
  have hl':=bU hz';obtain⟨x,hx,k1,k2⟩:=hl'.low;rw[<-k2,<-k1];have mA:∀y∈A++B,y.low<=m y.ref:=λy hy=>by
   obtain⟨z,hz,e⟩:=oH hy;have b1:=(bU hz).Dl y hy e.symm;have b2:=hm z hz;rw[e]at b2;omega
  rcases dJ.1 hx with k|k
  .refine h1.ZL m (λz hz=>?_) (λb hb=>hc b (ho b hb)) x k
   obtain⟨y,hy,k3,k4⟩:=(bU hz).low;rw[<-k4,<-k3];exact mA y (dJ.2 (.inl hy))
  .exact mA x (dJ.2 (.inr k))
 .refine h.ZM m (λz' hz'=>?_) hc t ht
  have hl':=bU hz';obtain⟨x,hx,k1,k2⟩:=hl'.high;rw[<-k2,<-k1];have mA:∀y∈A++B,m y.ref<=y.high:=λy hy=>by
   obtain⟨z,hz,e⟩:=oH hy;have b1:=(bU hz).vD y hy e.symm;have b2:=hm z hz;rw[e]at b2;omega
  rcases dJ.1 hx with k|k
  .refine h1.ZM m (λz hz=>?_) (λb hb=>hc b (ho b hb)) x k
   obtain⟨y,hy,k3,k4⟩:=(bU hz).high;rw[<-k4,<-k3];exact mA y (dJ.2 (.inl hy))
  .exact mA x (dJ.2 (.inr k))
end
theorem yB.steps{A B T1:List au}{OA OB O1:List aP}(hf:jo A OA T1 O1)(h:yB (T1++B) (O1++OB)):yB (A++B) (OA++OB):=by
 by_cases hs:jP (A++B)
 .rcases h with h|⟨T,OO,h1,h2,h3⟩
  .exact absurd ((Gv hf.same hf.tight).2 hs) h
  .have ho:∀x,x∈O1++OB↔x∈OA++OB:=λx=>by rw[dJ,dJ,hf.ord.2]
   exact .inr ⟨T,OO,h1.congr ho,d9.steps hs hf.tight (λb hb=>(h1.2 b).2 (dJ.2 (.inl hb))) h2,h3⟩
 .exact .inl hs
theorem jo.steps{A B T1 T:List au}{OA OB O1 OO:List aP}(hf:jo A OA T1 O1)(h:jo (T1++B) (O1++OB) T OO):jo (A++B) (OA++OB) T OO:=by
 have hs:jP (A++B):=(Gv hf.same hf.tight).1 h.same;have ho:∀x,x∈O1++OB↔x∈OA++OB:=λx=>by rw[dJ,dJ,hf.ord.2]
 exact⟨hs,h.ord.congr ho,d9.steps hs hf.tight (λb hb=>(h.ord.2 b).2 (dJ.2 (.inl hb))) h.tight,h.le⟩
theorem d9.more{A L TA T:List au}{OA OO:List aP}(h1:d9 (aX A) TA OA)(h:d9 (aX L) T OO)(hA:∀x∈A,x∈L)(ho:∀b∈OA,b∈OO)(hd:aT T)(hk:Known (aX A) OA){u t:au}(hu:u∈TA)(ht:t∈T)(e:u.ref=t.ref):u.low<=t.low/\t.high<=u.high:=by
 have kn:∀b∈OA,(∃x∈T,x.ref=b.ref)/\∃x∈T,x.ref=b.next:=λb hb=>by
  obtain⟨⟨x,hx,k1⟩,y,hy,k2⟩:=hk b hb;have find:∀z∈aX A,∃w∈T,w.ref=z.ref:=λz hz=>by
   obtain⟨v,hv,k3,_⟩:=(bU hz).act;obtain⟨w,hw,k4,_⟩:=h.kQ (hA v hv);exact⟨w,hw,k4.trans k3⟩
  obtain⟨w,hw,k3⟩:=find x hx;obtain⟨w',hw',k4⟩:=find y hy;exact⟨⟨w,hw,k3.trans k1⟩,w',hw',k4.trans k2⟩
 refine⟨h1.QF hd kn (λf hf=>?_) (λb hb=>h.NT b (ho b hb)) hu ht e,h1.LJ hd kn (λf hf=>?_) (λb hb=>h.UF b (ho b hb)) hu ht e⟩
 .obtain⟨v,hv,k1,k2⟩:=(bU hf).low
  obtain⟨w,hw,k3,k4,_⟩:=h.kQ (hA v hv);exact⟨w,hw,k3.trans k1,by omega⟩
 .obtain⟨v,hv,k1,k2⟩:=(bU hf).high
  obtain⟨w,hw,k3,_,k4,_⟩:=h.kQ (hA v hv);exact⟨w,hw,k3.trans k1,by omega⟩
theorem yB.more{A L:List au}{OA O OO:List aP}{T:List au}(h:yB A OA)(hf:jo L O T OO)(hA:∀x∈A,x∈L)(ho:∀b∈OA,b∈O)(hk:qo A OA):False:=by
 rcases h with h|⟨TA,O1,h1,h2,u,hu,h3⟩
 .exact h (λx hx y hy=>hf.same x (hA x hx) y (hA y hy))
 .obtain⟨z,hz,e⟩:=h2.had hu
  obtain⟨v,hv,k3,_⟩:=(bU hz).act;obtain⟨w,hw,k4,_⟩:=hf.tight.kQ (hA v hv);have e2:u.ref=w.ref:=by rw[k4,k3,eG e]
  have:=h2.more hf.tight hA (λb hb=>(hf.ord.2 b).2 (ho b ((h1.2 b).1 hb))) (hf.tight.distinct (dZ L)) (hk.known h1) hu hw e2;have:=hf.le w hw;omega
theorem JU{T:List au}(h:aT T){t:au}(ht:t∈T):look T t.ref=some t:=by
 rcases tQ T t.ref with⟨_,h2⟩|⟨z,h1,h2⟩
 .exact absurd rfl (h2 t ht)
 .have only:∀x∈T,x.ref=t.ref->x=t:=λx hx e=>eU h x hx t ht e
  rw[h1];congr 1;obtain⟨a,ha,k1,k2⟩:=h2.act;obtain⟨b,hb,k3,k4⟩:=h2.low;obtain⟨c,hc,k5,k6⟩:=h2.high;obtain⟨d,hd,k7,k8⟩:=h2.filed;rw[only a ha k1]at k2;rw[only b hb k3]at k4;rw[only c hc k5]at k6;rw[only d hd k7]at k8;have ks:z.secret=t.secret:=by
   rw[Bool.eq_iff_iff,h2.sec];exact⟨λk=>k t ht rfl,λk x hx e=>by rw[only x hx e];exact k⟩
  refine au.ext' ?_ k4.symm k6.symm;show(z.ref,z.act,z.filed,z.secret)=_;rw[h2.ref,<-k2,<-k8,ks];rfl
theorem iH{T:List au}(h:aT T):aX T=T:=by
 have hk:iX T=T.map (·.ref):=(pR (L:=T) h (λr=>by simp)).symm;unfold aX;rw[hk];have:∀S:List au,(∀x∈S,x∈T)->(S.map (·.ref)).filterMap (look T)=S:=λS=>by
  induction S with
  |nil=>intro _;rfl
  |cons a l ih=>
   intro hS;rw[kN,List.filterMap_cons,JU h (hS a (by simp))];simp only;rw[ih (λx hx=>hS x (jf _ hx))]
 exact this T (λ_ hx=>hx)
theorem aT.same{T:List au}(h:aT T):jP T:=λx hx y hy e=>by rw[eU h x hx y hy e]
theorem d9.self{F T:List au}{O:List aP}(h:d9 F T O)(hd:aT F):d9 T T O:=
 ⟨rfl,λf hf t ht e=>by rw[eU (h.distinct hd) f hf t ht e];exact iI _,
  λf hf t ht e=>by rw[eU (h.distinct hd) f hf t ht e];exact iI _,h.NT,h.UF,λm hm _ t ht=>hm t ht,λm hm _ t ht=>hm t ht⟩
theorem jo.again{L:List au}{O:List aP}{T:List au}{OO:List aP}(h:jo L O T OO):jo T OO T OO:=by
 have hd:=h.tight.distinct (dZ L);exact⟨hd.same,⟨h.ord.1,λ_=>.rfl⟩,by rw[iH hd];exact h.tight.self (dZ L),h.le⟩
structure May(L:List au)(O:List aP)(d:Int->Int):Prop where
 lo:∀x∈L,x.low<=d x.ref
 hi:∀x∈L,d x.ref<=x.high
 ord:∀b∈O,d b.ref<=d b.next
theorem May.tight{L T:List au}{O OO:List aP}{d:Int->Int}(h:May L O d)(ho:kg O OO)(ht:d9 (aX L) T OO):May T OO d:=by
 have hc:∀b∈OO,d b.ref<=d b.next:=λb hb=>h.ord b ((ho.2 b).1 hb);refine⟨ht.ZL d (λz hz=>?_) hc,ht.ZM d (λz hz=>?_) hc,hc⟩
 .obtain⟨x,hx,k1,k2⟩:=(bU hz).low
  rw[<-k2,<-k1];exact h.lo x hx
 .obtain⟨x,hx,k1,k2⟩:=(bU hz).high
  rw[<-k2,<-k1];exact h.hi x hx
theorem May.zD{L:List au}{O:List aP}{d:Int->Int}(h:May L O d)(hs:jP L):¬yB L O:=by
 rintro(h1|⟨T,OO,h1,h2,t,ht,h3⟩)
 .exact h1 hs
 .have k:=h.tight h1 h2
  have a:=k.lo t ht;have b:=k.hi t ht;omega
def lexLt:List Int->List Int->Prop
 |a::l,b::m=>a<b\/(a=b/\lexLt l m)
 |_,_=>False
theorem Kz:∀l:List Int,¬lexLt l l
 |[]=>λh=>h
 |a::l=>λh=>by
  rcases h with h|⟨_,h⟩
  .omega
  .exact Kz l h
theorem Ev:∀a b c:List Int,lexLt a b->lexLt b c->lexLt a c
 |x::a,y::b,z::c,h1,h2=>by
  rcases h1 with h1|⟨h1,h3⟩
  .rcases h2 with h2|⟨h2,_⟩
   .exact .inl (by omega)
   .exact .inl (by omega)
  .rcases h2 with h2|⟨h2,h4⟩
   .exact .inl (by omega)
   .exact .inr ⟨by omega,Ev a b c h3 h4⟩
 |[],_,_,h1,_=>h1.elim
 |_::_,[],_,h1,_=>h1.elim
 |_::_,_::_,[],_,h2=>h2.elim
theorem QG{A B:List (List Int)}(h1:A.Pairwise lexLt)(h2:B.Pairwise lexLt)(hm:∀x,x∈A↔x∈B):A=B:=nN Kz Ev h1 h2 hm
structure Day(T:List au)(OO:List aP)(u:Int)(day:Int->Int):Prop where
 lo:∀t∈T,min t.low u<=day t.ref
 hi:∀t∈T,day t.ref<=min t.high u
 ord:∀b∈OO,day b.ref<=day b.next
def gK(T:List au)(day:Int->Int):List Int:=T.map (λt=>day t.ref)
structure rH(T:List au)(OO:List aP)(u:Int)(Y:List (List Int)):Prop where
 sorted:Y.Pairwise lexLt
 mem:∀d,d∈Y↔∃day,d=gK T day/\Day T OO u day
theorem rH.unique{T:List au}{OO:List aP}{u:Int}{Y Y':List (List Int)}(h:rH T OO u Y)(h':rH T OO u Y'):Y=Y':=
 QG h.sorted h'.sorted (λd=>(h.mem d).trans (h'.mem d).symm)
theorem May.day{T:List au}{OO:List aP}{d:Int->Int}(h:May T OO d)(u:Int):Day T OO u (λr=>min (d r) u):=
 ⟨λt ht=>by have:=h.lo t ht;show min t.low u<=min (d t.ref) u;omega,λt ht=>by have:=h.hi t ht;show min (d t.ref) u<=min t.high u;omega,λb hb=>by have:=h.ord b hb;show min (d b.ref) u<=min (d b.next) u;omega⟩
theorem Day.some{T:List au}{OO:List aP}{F:List au}(u:Int)(h:d9 F T OO)(hd:aT F)(hk:Known F OO)(hl:∀t∈T,t.low<=t.high):∃day,Day T OO u day:=by
 refine⟨λr=>min (r_ (·.low) T r) u,λt ht=>?_,λt ht=>?_,λb hb=>?_⟩
 .show min t.low u<=min (r_ (·.low) T t.ref) u
  rw[fG (h.distinct hd) ht];exact iI _
 .show min (r_ (·.low) T t.ref) u<=min t.high u
  rw[fG (h.distinct hd) ht];have:=hl t ht;omega
 .show min (r_ (·.low) T b.ref) u<=min (r_ (·.low) T b.next) u
  obtain⟨⟨x,hx,h1⟩,y,hy,h2⟩:=h.known hk b hb;rw[<-h1,<-h2,fG (h.distinct hd) hx,fG (h.distinct hd) hy];have:=h.NT b hb x hx y hy h1 h2;omega
theorem Day.cut{T:List au}{OO:List aP}{e l:Int}(hel:e<=l){day:Int->Int}(h:Day T OO l day):Day T OO e (λr=>min (day r) e):=
 ⟨λt ht=>by have:=h.lo t ht;show min t.low e<=min (day t.ref) e;omega,λt ht=>by have:=h.hi t ht;show min (day t.ref) e<=min t.high e;omega,λb hb=>by have:=h.ord b hb;show min (day b.ref) e<=min (day b.next) e;omega⟩
theorem Day.extend{T F:List au}{OO:List aP}{e l:Int}(hel:e<=l)(ht:d9 F T OO)(hd:aT F)(hk:Known F OO)(hl:∀t∈T,t.low<=t.high){day:Int->Int}(h:Day T OO e day):
 ∃QH,Day T OO l QH/\∀t∈T,min (QH t.ref) e=day t.ref:=by
 refine⟨λr=>max (day r) (min (r_ (·.low) T r) l),⟨λt ht'=>?_,λt ht'=>?_,λb hb=>?_⟩,λt ht'=>?_⟩
 .show min t.low l<=max (day t.ref) (min (r_ (·.low) T t.ref) l)
  rw[fG (ht.distinct hd) ht'];omega
 .show max (day t.ref) (min (r_ (·.low) T t.ref) l)<=min t.high l
  rw[fG (ht.distinct hd) ht'];have a1:=h.hi t ht';have a2:=hl t ht';omega
 .show max (day b.ref) (min (r_ (·.low) T b.ref) l)<=max (day b.next) (min (r_ (·.low) T b.next) l)
  obtain⟨⟨x,hx,h1⟩,y,hy,h2⟩:=ht.known hk b hb;have a1:=h.ord b hb;have a2:=ht.NT b hb x hx y hy h1 h2;rw[<-h1,<-h2,fG (ht.distinct hd) hx,fG (ht.distinct hd) hy];rw[<-h1,<-h2]at a1;omega
 .show min (max (day t.ref) (min (r_ (·.low) T t.ref) l)) e=day t.ref
  rw[fG (ht.distinct hd) ht'];have a1:=h.lo t ht';have a2:=h.hi t ht';omega
theorem Day.narrow{A L TA T:List au}{OA O OAA OO:List aP}(h1:jo A OA TA OAA)(h:jo L O T OO)(hA:∀x∈A,x∈L)(ho:∀b∈OA,b∈O)(hk:qo A OA){u:Int}{day:Int->Int}(hd:Day T OO u day):Day TA OAA u day:=by
 have find:∀t∈TA,∃w∈T,w.ref=t.ref/\t.low<=w.low/\w.high<=t.high:=λt ht=>by
  obtain⟨z,hz,e⟩:=h1.tight.had ht;obtain⟨v,hv,k3,_⟩:=(bU hz).act;obtain⟨w,hw,k4,_⟩:=h.tight.kQ (hA v hv);have e2:t.ref=w.ref:=by rw[k4,k3,eG e]
  have:=h1.tight.more h.tight hA (λb hb=>(h.ord.2 b).2 (ho b ((h1.ord.2 b).1 hb))) (h.tight.distinct (dZ L)) (hk.known h1.ord) ht hw e2;exact⟨w,hw,e2.symm,this.1,this.2⟩
 refine⟨λt ht=>?_,λt ht=>?_,λb hb=>hd.ord b ((h.ord.2 b).2 (ho b ((h1.ord.2 b).1 hb)))⟩
 .obtain⟨w,hw,e,a1,a2⟩:=find t ht
  have:=hd.lo w hw;rw[<-e];omega
 .obtain⟨w,hw,e,a1,a2⟩:=find t ht
  have:=hd.hi w hw;rw[<-e];omega
def eX(F:List au)(D:List Int)(d:Int):List Int:=((F.zip D).filter (λp=>p.2==d)).map (λp=>p.1.ref)
def iD(F:List au)(r:Int):Int:=((F.find? (λx=>x.ref==r)).map (·.act)).getD 0
def kI(l:List Int):List Int:=l.foldl (λk x=>zX x k) []
theorem AL(l:List Int)(x:Int):kI (l++[x])=zX x (kI l):=by unfold kI;rw[tJ];rfl
theorem wD(l:List Int):(kI l).Pairwise (· < ·):=by
 induction l using qZ with
 |h0=>exact List.Pairwise.nil
 |h1 l x ih=>rw[AL];exact yu _ _ ih
theorem mY(l:List Int)(r:Int):r∈kI l↔r∈l:=by
 induction l using qZ with
 |h0=>simp[kI]
 |h1 l x ih=>rw[AL,BQ,ih,dJ,d_];exact Or.comm
theorem Ew{A B:List Int}(h1:A.Pairwise (· < ·))(h2:B.Pairwise (· < ·))(hm:∀x,x∈A↔x∈B):A=B:=nN (λa h=>Int.lt_irrefl a h) (λ_ _ _=>Int.lt_trans) h1 h2 hm
theorem NU{l m:List Int}(h:∀x,x∈l↔x∈m):kI l=kI m:=Ew (wD l) (wD m) (λx=>(mY l x).trans ((h x).trans (mY m x).symm))
def qx(F:List au)(D:List Int)(d:Int):List Int:=(kI (eX F D d)).map (iD F)++[-1]
def blocks(F:List au)(D:List Int)(n:Nat):List Int:=(List.range n).flatMap (λd:Nat=>qx F D (d:Int))
def dW(F:List au):Prop:=(F.map (·.ref)).Nodup
theorem aT.zF{F:List au}(h:aT F):dW F:=List.Pairwise.imp (λh=>by omega) h
instance (F:List au):Decidable (dW F):=inferInstanceAs (Decidable (List.Nodup _))
def bW(F:List au)(D:List Int)(u:Int):List Int:=
 if F.length=D.length/\0<=u/\u<=2000/\dW F then blocks F D u.toNat else[]
theorem wE{F:List au}{D:List Int}{u:Int}(h1:F.length=D.length)(h2:0<=u)(h3:u<=2000)(h4:dW F):bW F D u=blocks F D u.toNat:=by unfold bW;rw[if_pos ⟨h1,h2,h3,h4⟩]
theorem kR(F:List au)(D:List Int)(n:Nat):blocks F D (n+1)=blocks F D n++qx F D n:=by
 unfold blocks;rw[List.range_succ,Ef];simp
theorem oI{F:List au}{D:List Int}{d r:Int}:r∈eX F D d↔∃(i:Nat)(x:au),F[i]?=some x/\D[i]?=some d/\x.ref=r:=by
 unfold eX;simp only[dF,List.mem_filter,Prod.exists,beq_iff_eq];constructor
 .rintro⟨x,e,⟨h1,rfl⟩,rfl⟩
  obtain⟨i,hi,he⟩:=List.mem_iff_getElem.1 h1;rw[List.getElem_zip]at he;rw[List.length_zip]at hi;injection he with e1 e2
  exact⟨i,x,by rw[aW (by omega),e1],by rw[aW (by omega),e2],rfl⟩
 .rintro⟨i,x,h1,h2,rfl⟩
  obtain⟨k1,k2⟩:=bC.1 h1;obtain⟨k3,k4⟩:=bC.1 h2;refine⟨x,d,⟨List.mem_iff_getElem.2 ⟨i,by rw[List.length_zip];omega,?_⟩,rfl⟩,rfl⟩;rw[List.getElem_zip,k2,k4]
theorem Gx{F:List au}(h:dW F):∀x∈F,∀y∈F,x.ref=y.ref->x=y:=by
 unfold dW at h;induction F with
 |nil=>intro x hx;cases hx
 |cons a l ih=>
  rw[kN,List.nodup_cons]at h;intro x hx y hy e;rcases dI.1 hx with h1|h1
  .rcases dI.1 hy with h2|h2
   .rw[h1,h2]
   .exact absurd (by rw[<-h1,e];exact List.mem_map_of_mem h2) h.1
  .rcases dI.1 hy with h2|h2
   .exact absurd (by rw[<-h2,<-e];exact List.mem_map_of_mem h1) h.1
   .exact ih h.2 x h1 y h2 e
theorem vG{F:List au}(h:dW F){x:au}(hx:x∈F):iD F x.ref=x.act:=by
 unfold iD;cases e:F.find? (λy=>y.ref==x.ref)with
 |none=>have:=List.find?_eq_none.1 e x hx;simp at this
 |some y=>
  have h1:=List.mem_of_find?_eq_some e;have h2:=List.find?_some e;simp only[beq_iff_eq]at h2;rw[Gx h y h1 x hx h2];rfl
theorem NV{F F':List au}{D D':List Int}{d:Int}(hF:F.map (λx=>(x.ref,x.act))=F'.map (λx=>(x.ref,x.act)))(hD:∀i:Nat,D[i]?=some d↔D'[i]?=some d):qx F D d=qx F' D' d:=by
 have hget:∀(i:Nat),(F[i]?.map (λx=>(x.ref,x.act)))=(F'[i]?.map (λx=>(x.ref,x.act))):=λi=>by
  have:=congrArg (λl=>l[i]?) hF;simpa using this
 have hr:kI (eX F D d)=kI (eX F' D' d):=NU (λr=>by
  rw[oI,oI];constructor
  .rintro⟨i,x,h1,h2,h3⟩
   have:=hget i;rw[h1]at this;cases e:F'[i]? with
   |none=>rw[e]at this;cases this
   |some y=>rw[e]at this;simp only[kG,Option.some.injEq,Prod.mk.injEq]at this;exact⟨i,y,e,(hD i).1 h2,this.1.symm.trans h3⟩
  .rintro⟨i,x,h1,h2,h3⟩
   have:=hget i;rw[h1]at this;cases e:F[i]? with
   |none=>rw[e]at this;cases this
   |some y=>rw[e]at this;simp only[kG,Option.some.injEq,Prod.mk.injEq]at this;exact⟨i,y,e,(hD i).2 h2,this.1.trans h3⟩)
 have ha:iD F=iD F':=by
  funext r;have key:∀G:List au,iD G r=(((G.map (λx=>(x.ref,x.act))).find? (λp=>p.1==r)).map (·.2)).getD 0:=λG=>by
   unfold iD;rw[List.find?_map,Option.map_map];rfl
  rw[key,key,hF]
 unfold qx;rw[hr,ha]
theorem LM{F F':List au}{D D':List Int}{n:Nat}(hF:F.map (λx=>(x.ref,x.act))=F'.map (λx=>(x.ref,x.act)))(hD:∀(d:Nat),d<n->∀i:Nat,D[i]?=some (d:Int)↔D'[i]?=some (d:Int)):blocks F D n=blocks F' D' n:=by
 induction n with
 |zero=>rfl
 |succ n ih=>rw[kR,kR,ih (λd hd=>hD d (by omega)),NV hF (hD n (by omega))]
theorem Aj{F F':List au}(hF:F.map (λx=>(x.ref,x.act))=F'.map (λx=>(x.ref,x.act))):dW F↔dW F':=by
 have:=congrArg (List.map (·.1)) hF;rw[ow,ow]at this;unfold dW;rw[show F.map (·.ref)=F'.map (·.ref)from this]
theorem ru{F F':List au}{D D':List Int}{u:Int}(hF:F.map (λx=>(x.ref,x.act))=F'.map (λx=>(x.ref,x.act)))(hl:D.length=D'.length)(hD:∀(d:Nat),(d:Int)<u->∀i:Nat,D[i]?=some (d:Int)↔D'[i]?=some (d:Int)):bW F D u=bW F' D' u:=by
 have h1:F.length=F'.length:=by have:=congrArg List.length hF;simpa using this
 unfold bW;rw[h1,hl];by_cases h:F'.length=D'.length/\0<=u/\u<=2000/\dW F'
 .rw[if_pos h,if_pos ⟨h.1,h.2.1,h.2.2.1,(Aj hF).2 h.2.2.2⟩]
  exact LM hF (λd hd=>hD d (by omega))
 .rw[if_neg h,if_neg (λk=>h ⟨k.1,k.2.1,k.2.2.1,(Aj hF).1 k.2.2.2⟩)]
def mO:List Int->Int->List Int
 |[],_=>[]
 |a::l,n=>if 0<n then a::mO l (if a= -1 then n - 1 else n)else[]
theorem NW(A:List Int)(hA:∀a∈A,a≠ -1)(r:List Int)(n:Int)(hn:0<n):mO (A++(-1)::r) n=A++(-1)::mO r (n - 1):=by
 induction A with
 |nil=>simp[mO,hn]
 |cons a l ih=>
  rw[tH,mO,if_pos hn,if_neg (hA a (by simp)),ih (λx hx=>hA x (jf _ hx))];rfl
theorem NY(l:List Int):mO l 0=[]:=by cases l<;>simp[mO]
def Dm(F:List au):Prop:=∀x∈F,0<=x.act
theorem AO{F:List au}(h:Dm F)(hn:dW F)(D:List Int)(d:Int):∀a∈(kI (eX F D d)).map (iD F),a≠ -1:=λa ha=>by
 obtain⟨r,hr,rfl⟩:=dF.1 ha;rw[mY,oI]at hr;obtain⟨i,x,h1,_,rfl⟩:=hr;have hx:=bT h1;rw[vG hn hx];have:=h x hx;omega
theorem Gy{f:Int->List Int}(hf:∀d,∀a∈f d,a≠ -1):∀(n m k:Nat),k<=m->mO ((List.range' n m).flatMap (λd:Nat=>f (d:Int)++[-1])) k=(List.range' n k).flatMap (λd:Nat=>f (d:Int)++[-1])
 |n,m,0,_=>by simp[NY]
 |n,0,k+1,h=>by omega
 |n,m+1,k+1,h=>by
  rw[List.range'_succ,List.range'_succ,pK,pK,uW,List.singleton_append,NW _ (hf n) _ _ (by omega),show((k+1:Nat):Int) - 1=(k:Int) by omega,Gy hf (n+1) m k (by omega),uW,List.singleton_append]
theorem LP{F:List au}(h:Dm F)(hn:dW F)(D:List Int){e l:Nat}(hel:e<=l):mO (blocks F D l) e=blocks F D e:=by
 unfold blocks qx;rw[List.range_eq_range',List.range_eq_range'];exact Gy (f:=λd=>(kI (eX F D d)).map (iD F)) (λd=>AO h hn D d) 0 l e hel
theorem KA{x:Int}:∀{l:List Int},x∉l->(zX x l).Perm (x::l)
 |[],_=>.refl _
 |k::l,h=>by
  unfold zX;by_cases h1:x<k
  .rw[if_pos h1]
  .rw[if_neg h1,if_neg (λe=>h (by rw[e];simp))]
   exact((KA (λe=>h (jf _ e))).cons k).trans (List.Perm.swap x k l)
theorem Gz{l:List Int}(h:l.Nodup):(kI l).Perm l:=by
 induction l using qZ with
 |h0=>exact .refl _
 |h1 l x ih=>
  rw[List.nodup_append]at h;rw[AL];have hx:x∉kI l:=λe=>h.2.2 x ((mY l x).1 e) x (by simp) rfl;exact(KA hx).trans (((ih h.1).cons x).trans (List.perm_append_singleton x l).symm)
theorem BR{F:List au}(h:dW F){D:List Int}(hl:F.length=D.length)(d:Int):(eX F D d).Nodup:=by
 unfold eX dW at*;have h1:((F.zip D).map (λp=>p.1.ref)).Nodup:=by
  have:(F.zip D).map (λp=>p.1.ref)=((F.zip D).map (·.1)).map (·.ref):=by rw[ow];rfl
  rw[this,List.map_fst_zip (by omega)];exact h
 exact h1.sublist (List.Sublist.map _ List.filter_sublist)
theorem yC:∀{F:List au}{D:List Int},F.length=D.length->∀(q:Int->Bool),(F.zip D).countP (λp=>q p.2)=D.countP q
 |[],[],_,_=>rfl
 |_::_,[],h,_=>by simp at h
 |[],_::_,h,_=>by simp at h
 |x::F,d::D,h,q=>by
  rw[List.zip_cons_cons,List.countP_cons,List.countP_cons,yC (by simpa using h) q]
theorem LQ{F:List au}{D:List Int}(hl:F.length=D.length)(h:dW F)(d:Int):(qx F D d).length=D.countP (·==d)+1:=by
 unfold qx;rw[pJ,dS,(Gz (BR h hl d)).length_eq];unfold eX;rw[dS,<-List.countP_eq_length_filter,yC hl (λe=>e==d)];rfl
theorem GA(D:List Int)(n:Nat):D.countP (λe=>decide (0<=e)&&decide (e<((n+1:Nat):Int)))=D.countP (λe=>decide (0<=e)&&decide (e<(n:Int)))+D.countP (·==(n:Int)):=by
 induction D with
 |nil=>rfl
 |cons e D ih=>
  rw[List.countP_cons,List.countP_cons,List.countP_cons,ih];have:(if(decide (0<=e)&&decide (e<((n+1:Nat):Int)))=true then 1 else 0)=(if(decide (0<=e)&&decide (e<(n:Int)))=true then 1 else 0)+(if(e==(n:Int))=true then 1 else 0):=by
   simp only[bP,decide_eq_true_eq,beq_iff_eq];by_cases h1:0<=e/\e<((n+1:Nat):Int)
   .rw[if_pos h1]
    by_cases h2:e=n
    .rw[if_neg (by omega),if_pos h2]
    .rw[if_pos (by omega),if_neg h2]
   .rw[if_neg h1,if_neg (by omega),if_neg (by omega)]
  omega
theorem JV{F:List au}{D:List Int}(hl:F.length=D.length)(h:dW F)(n:Nat):(blocks F D n).length=D.countP (λe=>decide (0<=e)&&decide (e<(n:Int)))+n:=by
 induction n with
 |zero=>
  have:D.countP (λe=>decide (0<=e)&&decide (e<((0:Nat):Int)))=0:=by
   rw[List.countP_eq_zero];intro e _;simp only[bP,decide_eq_true_eq];omega
  rw[this];rfl
 |succ n ih=>rw[kR,pJ,ih,LQ hl h,GA];omega
structure Qh(n:Nat)(lo hi:Nat->Int)(P:List (Nat×Nat)):Prop where
 le:∀i,i<n->lo i<=hi i
 clL:∀p∈P,lo p.1<=lo p.2
 clH:∀p∈P,hi p.1<=hi p.2
 inn:∀p∈P,p.1<n/\p.2<n
structure Val(n:Nat)(lo hi:Nat->Int)(P:List (Nat×Nat))(d:Nat->Int):Prop where
 lo:∀i,i<n->lo i<=d i
 hi:∀i,i<n->d i<=hi i
 ord:∀p∈P,d p.1<=d p.2
def setAt(f:Nat->Int)(a:Nat)(v:Int):Nat->Int:=λi=>if i=a then v else f i
theorem eY(f:Nat->Int)(a:Nat)(v:Int):setAt f a v a=v:=by unfold setAt;rw[if_pos rfl]
theorem fq(f:Nat->Int){a x:Nat}(v:Int)(h:x≠a):setAt f a v x=f x:=by unfold setAt;rw[if_neg h]
structure Up(n:Nat)(lo hi:Nat->Int)(P:List (Nat×Nat))(a:Nat)(v:Int)(lo':Nat->Int)(later:List Nat):Prop where
 nd:later.Nodup
 lt:∀x∈later,x<n
 has:a∈later
 vat:lo' a=v
 ge:∀x,lo x<=lo' x
 alt:∀x,lo' x=lo x\/(lo' x=v/\lo x<v)
 hv:∀x∈later,v<=lo' x/\v<=hi x
 chg:∀x,lo' x≠lo x->x∈later
 val:∀d,Val n lo hi P d->d a=v->∀x,x<n->lo' x<=d x
theorem Up.start{n:Nat}{lo hi:Nat->Int}{P:List (Nat×Nat)}{a:Nat}{v:Int}(ha:a<n)(h1:lo a<=v)(h2:v<=hi a):Up n lo hi P a v (setAt lo a v) [a]:=by
 have hx:∀x,setAt lo a v x=if x=a then v else lo x:=λ_=>rfl
 refine⟨by simp,λx h=>by rw[d_.1 h];exact ha,by simp,eY _ _ _,λx=>?_,λx=>?_,λx h=>?_,λx h=>?_,λd hd he x hxn=>?_⟩
 .rw[hx];by_cases e:x=a
  .rw[if_pos e,e];exact h1
  .rw[if_neg e];exact iI _
 .rw[hx];by_cases e:x=a
  .rw[if_pos e,e];by_cases e2:lo a=v
   .exact .inl e2.symm
   .exact .inr ⟨rfl,by omega⟩
  .rw[if_neg e];exact .inl rfl
 .rw[d_.1 h,eY];exact⟨iI _,h2⟩
 .rw[hx]at h;by_cases e:x=a
  .rw[e];simp
  .rw[if_neg e]at h;exact absurd rfl h
 .rw[hx];by_cases e:x=a
  .rw[if_pos e,e,he];exact iI _
  .rw[if_neg e];exact hd.lo x hxn
theorem Up.step{n:Nat}{lo hi:Nat->Int}{P:List (Nat×Nat)}{a:Nat}{v:Int}{lo':Nat->Int}{later:List Nat}(h:Up n lo hi P a v lo' later)(hB:Qh n lo hi P){y b:Nat}(hy:y∈later)(hp:(y,b)∈P):
 (v<=lo' b/\max (lo' b) v=lo' b)\/(lo' b<v/\max (lo' b) v=v/\b∉later/\Up n lo hi P a v (setAt lo' b v) (later++[b])):=by
 by_cases c:v<=lo' b
 .exact .inl ⟨c,by omega⟩
 .have hb:b∉later:=λe=>c (h.hv b e).1
  have e0:lo' b=lo b:=by
   rcases h.alt b with e|⟨e,_⟩
   .exact e
   .omega
  have hx:∀x,setAt lo' b v x=if x=b then v else lo' x:=λ_=>rfl
  have hab:a≠b:=λe=>hb (e▸h.has);refine .inr ⟨by omega,by omega,hb,?_,λx hx'=>?_,dJ.2 (.inl h.has),by rw[fq _ _ hab];exact h.vat,λx=>?_,λx=>?_,λx hx'=>?_,λx hx'=>?_,λd hd he x hxn=>?_⟩
  .rw[List.nodup_append]
   exact⟨h.nd,by simp,λx h1 y h2=>by rw[d_.1 h2];exactλe=>hb (e▸h1)⟩
  .rcases dJ.1 hx' with k|k
   .exact h.lt x k
   .rw[d_.1 k];exact(hB.inn _ hp).2
  .rw[hx];by_cases e:x=b
   .rw[if_pos e,e];omega
   .rw[if_neg e];exact h.ge x
  .rw[hx];by_cases e:x=b
   .rw[if_pos e,e];exact .inr ⟨rfl,by omega⟩
   .rw[if_neg e];exact h.alt x
  .rw[hx];by_cases e:x=b
   .rw[if_pos e,e]
    have k1:=(h.hv y hy).2;have k2:=hB.clH _ hp;simp only at k2;exact⟨iI _,by omega⟩
   .rw[if_neg e]
    rcases dJ.1 hx' with k|k
    .exact h.hv x k
    .exact absurd (d_.1 k) e
  .rw[hx]at hx';by_cases e:x=b
   .rw[e];simp
   .rw[if_neg e]at hx';exact dJ.2 (.inl (h.chg x hx'))
  .rw[hx];by_cases e:x=b
   .rw[if_pos e,e]
    have k1:=h.val d hd he y (h.lt y hy);have k2:=(h.hv y hy).1;have k3:=hd.ord _ hp;simp only at k3;omega
   .rw[if_neg e];exact h.val d hd he x hxn
theorem Up.closed{n:Nat}{lo hi:Nat->Int}{P:List (Nat×Nat)}{a:Nat}{v:Int}{lo':Nat->Int}{later:List Nat}(h:Up n lo hi P a v lo' later)(hB:Qh n lo hi P)(hd:∀y∈later,∀b,(y,b)∈P->v<=lo' b):∀p∈P,lo' p.1<=lo' p.2:=λp hp=>by
 rcases h.alt p.1 with e|⟨e,e2⟩
 .rw[e];exact Int.le_trans (hB.clL p hp) (h.ge _)
 .rw[e];exact hd p.1 (h.chg _ (by omega)) p.2 hp
theorem GD:∀(n:Nat)(l:List Nat),l.Nodup->(∀x∈l,x<n)->l.length<=n
 |0,l,_,h=>by
  cases l with
  |nil=>exact bJ _
  |cons a l=>exact absurd (h a (by simp)) (by omega)
 |n+1,l,hd,h=>by
  by_cases c:n∈l
  .have h1:=GD n (l.erase n) (hd.erase n) (λx hx=>by
    have:=(hd.mem_erase_iff).1 hx;have:=h x this.2;omega)
   rw[List.length_erase_of_mem c]at h1;omega
  .have:=GD n l hd (λx hx=>by
    have:=h x hx;have:x≠n:=λe=>c (e▸hx);omega)
   omega
theorem Up.length{n:Nat}{lo hi:Nat->Int}{P:List (Nat×Nat)}{a:Nat}{v:Int}{lo':Nat->Int}{later:List Nat}(h:Up n lo hi P a v lo' later):later.length<=n:=GD n later h.nd h.lt
theorem chosen{n:Nat}{lo hi:Nat->Int}{P:List (Nat×Nat)}{a:Nat}{v:Int}{lo' hi':Nat->Int}{later earlier:List Nat}(hB:Qh n lo hi P)(ha:a<n)
 (hu:Up n lo hi P a v lo' later)(hud:∀y∈later,∀b,(y,b)∈P->v<=lo' b)
 (hw:Up n (λi=> - hi i) (λi=> - lo i) (P.map (λp=>(p.2,p.1))) a (-v) (λi=> - hi' i) earlier)(hwd:∀y∈earlier,∀b,(y,b)∈P.map (λp=>(p.2,p.1))-> -v<= - hi' b):
 Qh n lo' hi' P/\(∀d,Val n lo' hi' P d↔(Val n lo hi P d/\d a=v))/\lo' a=v/\hi' a=v/\∀i,lo i<=lo' i/\hi' i<=hi i:=by
 have hBn:Qh n (λi=> - hi i) (λi=> - lo i) (P.map (λp=>(p.2,p.1))):=by
  refine⟨λi hn=>by have:=hB.le i hn;omega,λp hp=>?_,λp hp=>?_,λp hp=>?_⟩;all_goals
   obtain⟨q,hq,rfl⟩:=dF.1 hp;simp only
  .have:=hB.clH q hq;omega
  .have:=hB.clL q hq;omega
  .exact⟨(hB.inn q hq).2,(hB.inn q hq).1⟩
 have cl1:=hu.closed hB hud;have cl2:∀p∈P,hi' p.1<=hi' p.2:=λp hp=>by
  have:=hw.closed hBn hwd (p.2,p.1) (dF.2 ⟨p,hp,rfl⟩);simp only at this;omega
 have e1:lo' a=v:=hu.vat;have e2:hi' a=v:=by have:=hw.vat;omega
 have g1:∀i,lo i<=lo' i:=hu.ge;have g2:∀i,hi' i<=hi i:=λi=>by have:=hw.ge i;omega
 have le':∀i,i<n->lo' i<=hi' i:=λi hn=>by
  have b0:=hB.le i hn;rcases hu.alt i with k1|⟨k1,k2⟩
  .by_cases c:hi' i= - (- hi i)
   .omega
   .have c2:=hw.chg i (by omega)
    have c3:=(hw.hv i c2).2;rcases hw.alt i with k3|⟨k3,k4⟩
    .omega
    .omega
  .have c1:=(hu.hv i (hu.chg i (by omega))).2
   rcases hw.alt i with k3|⟨k3,k4⟩
   .omega
   .omega
 refine⟨⟨le',cl1,cl2,hB.inn⟩,λd=>⟨λhd=>?_,λ⟨hd,he⟩=>?_⟩,e1,e2,λi=>⟨g1 i,g2 i⟩⟩
 .refine⟨⟨λi hn=>Int.le_trans (g1 i) (hd.lo i hn),λi hn=>Int.le_trans (hd.hi i hn) (g2 i),hd.ord⟩,?_⟩
  have:=hd.lo a ha;have:=hd.hi a ha;omega
 .have hdn:Val n (λi=> - hi i) (λi=> - lo i) (P.map (λp=>(p.2,p.1))) (λi=> - d i):=by
   refine⟨λi hn=>by have:=hd.hi i hn;omega,λi hn=>by have:=hd.lo i hn;omega,λp hp=>?_⟩;obtain⟨q,hq,rfl⟩:=dF.1 hp;have:=hd.ord q hq;simp only;omega
  exact⟨λi hn=>hu.val d hd he i hn,λi hn=>by have:=hw.val _ hdn (by omega) i hn;omega,hd.ord⟩
structure kS(n:Nat)(lo hi:Nat->Int)(P:List (Nat×Nat))(Y:List (List Int)):Prop where
 sorted:Y.Pairwise lexLt
 mem:∀l,l∈Y↔l.length=n/\Val n lo hi P (λi=>l.getD i 0)
structure qy(n:Nat)(lo hi:Nat->Int)(P:List (Nat×Nat))(k:Nat)(v:Int)(Y:List (List Int)):Prop where
 sorted:Y.Pairwise lexLt
 mem:∀l,l∈Y↔(l.length=n/\Val n lo hi P (λi=>l.getD i 0))/\l.getD k 0<v
theorem NZ:∀{l m:List Int}{k:Nat},k<l.length->l.length=m.length->(∀i,i<k->l.getD i 0=m.getD i 0)->l.getD k 0<m.getD k 0->lexLt l m
 |[],_,_,h,_,_,_=>by simp at h
 |a::l,[],_,_,h,_,_=>by simp at h
 |a::l,b::m,0,_,_,_,h=>.inl (by simpa using h)
 |a::l,b::m,k+1,h1,h2,h3,h4=>by
  have e:=h3 0 (by omega);simp only[List.getD_cons_zero]at e;refine .inr ⟨e,NZ (k:=k) (by simpa using h1) (by simpa using h2) (λi hi=>?_) (by simpa using h4)⟩;have:=h3 (i+1) (by omega);simpa using this
theorem BS{l m:List Int}(h:l.length=m.length)(he:∀i,i<l.length->l.getD i 0=m.getD i 0):l=m:=by
 refine List.ext_getElem h λi h1 h2=>?_;have:=he i h1;rw[F5,F5,aW h1,aW h2]at this;exact this
theorem kS.one{n:Nat}{lo hi:Nat->Int}{P:List (Nat×Nat)}(hB:Qh n lo hi P)(h:∀i,i<n->lo i=hi i){l:List Int}(hl:l.length=n)(he:∀i,i<n->l.getD i 0=lo i):kS n lo hi P [l]:=by
 refine⟨by simp,λm=>?_⟩;rw[d_];constructor
 .rintro rfl
  exact⟨hl,λi hi'=>by rw[he i hi'];exact iI _,λi hi'=>by rw[he i hi',h i hi'];exact iI _,λp hp=>by rw[he _ (hB.inn p hp).1,he _ (hB.inn p hp).2];exact hB.clL p hp⟩
 .rintro⟨h1,h2⟩
  refine BS (h1.trans hl.symm) (λi hi'=>?_);have a1:=h2.lo i (by omega);have a2:=h2.hi i (by omega);have a3:=h i (by omega);rw[he i (by omega)];omega
theorem qy.start(n:Nat)(lo hi:Nat->Int)(P:List (Nat×Nat)){k:Nat}(hk:k<n):qy n lo hi P k (lo k) []:=
 ⟨List.Pairwise.nil,λl=>⟨λh=>(by cases h),λ⟨⟨_,h⟩,h2⟩=>by have:=h.lo k hk;omega⟩⟩
theorem qy.step{n:Nat}{lo hi:Nat->Int}{P:List (Nat×Nat)}{k:Nat}{v:Int}{Y Z:List (List Int)}(h:qy n lo hi P k v Y)(hk:k<n)(hs:∀i,i<k->lo i=hi i){lo' hi':Nat->Int}(hZ:kS n lo' hi' P Z)(hv:∀d,Val n lo' hi' P d↔(Val n lo hi P d/\d k=v)):qy n lo hi P k (v+1) (Y++Z):=by
 refine⟨?_,λl=>?_⟩
 .rw[List.pairwise_append]
  refine⟨h.sorted,hZ.sorted,λl hl m hm=>?_⟩;obtain⟨⟨l1,l2⟩,l3⟩:=(h.mem l).1 hl;obtain⟨m1,m2⟩:=(hZ.mem m).1 hm;obtain⟨m3,m4⟩:=(hv _).1 m2;refine NZ (k:=k) (by omega) (by omega) (λi hi'=>?_) (by omega);have a1:=l2.lo i (by omega);have a2:=l2.hi i (by omega);have a3:=m3.lo i (by omega);have a4:=m3.hi i (by omega);have a5:=hs i hi';omega
 .rw[dJ,h.mem,hZ.mem,hv]
  constructor
  .rintro(⟨h1,h2⟩|⟨h1,h2,h3⟩)
   .exact⟨h1,by omega⟩
   .exact⟨⟨h1,h2⟩,by omega⟩
  .rintro⟨⟨h1,h2⟩,h3⟩
   by_cases c:l.getD k 0<v
   .exact .inl ⟨⟨h1,h2⟩,c⟩
   .exact .inr ⟨h1,h2,by omega⟩
theorem qy.done{n:Nat}{lo hi:Nat->Int}{P:List (Nat×Nat)}{k:Nat}{Y:List (List Int)}(h:qy n lo hi P k (hi k+1) Y)(hk:k<n):kS n lo hi P Y:=
 ⟨h.sorted,λl=>(h.mem l).trans ⟨λh1=>h1.1,λh1=>⟨h1,by have:=h1.2.hi k hk;omega⟩⟩⟩
def idxOf(T:List au)(r:Int):Nat:=T.findIdx (λx=>x.ref==r)
def bI(T:List au)(OO:List aP):List (Nat×Nat):=OO.map (λb=>(idxOf T b.ref,idxOf T b.next))
theorem jd{T:List au}(h:aT T){i:Nat}{t:au}(ht:T[i]?=some t):idxOf T t.ref=i:=by
 obtain⟨hi,rfl⟩:=bC.1 ht;unfold idxOf;have h1:T.findIdx (λx=>x.ref==T[i].ref)<T.length:=List.findIdx_lt_length.2 ⟨T[i],Ac hi,by simp⟩;have h2:=List.findIdx_getElem (w:=h1);simp only[beq_iff_eq]at h2;have h3:=eU h _ (Ac h1) _ (Ac hi) h2;have hm:∀(j:Nat)(hj:j<T.length),(T.map (·.ref))[j]'(by rw[dS];exact hj)=T[j].ref:=λj hj=>List.getElem_map _;rcases Nat.lt_trichotomy (T.findIdx (λx=>x.ref==T[i].ref)) i with c|c|c
 .have:=(Eh.1 h) _ i (by rw[dS];exact h1) (by rw[dS];exact hi) c
  rw[hm _ h1,hm i hi,h2]at this;omega
 .exact c
 .have:=(Eh.1 h) i _ (by rw[dS];exact hi) (by rw[dS];exact h1) c
  rw[hm _ h1,hm i hi,h2]at this;omega
def JW(T:List au)(u:Int)(i:Nat):Int:=min ((T.map (·.low)).getD i 0) u
def JX(T:List au)(u:Int)(i:Nat):Int:=min ((T.map (·.high)).getD i 0) u
theorem getD_map{α:Type}{T:List α}{g:α->Int}{i:Nat}{t:α}(h:T[i]?=some t):(T.map g).getD i 0=g t:=by
 rw[F5,fM,h];rfl
theorem Qh.Xj{F T:List au}{OO:List aP}(h:d9 F T OO)(hd:aT F)(hk:Known F OO)(hl:∀t∈T,t.low<=t.high)(u:Int):Qh T.length (JW T u) (JX T u) (bI T OO):=by
 have hp:∀p∈bI T OO,∃b∈OO,∃(i j:Nat)(x y:au),p=(i,j)/\T[i]?=some x/\T[j]?=some y/\x.ref=b.ref/\y.ref=b.next:=λp hp=>by
  obtain⟨b,hb,rfl⟩:=dF.1 hp;obtain⟨⟨x,hx,e1⟩,y,hy,e2⟩:=h.known hk b hb;obtain⟨i,hi⟩:=wZ hx;obtain⟨j,hj⟩:=wZ hy;exact⟨b,hb,i,j,x,y,by rw[<-e1,<-e2,jd (h.distinct hd) hi,jd (h.distinct hd) hj],hi,hj,e1,e2⟩
 refine⟨λi hi=>?_,λp hq=>?_,λp hq=>?_,λp hq=>?_⟩
 .unfold JW JX
  have e:T[i]?=some T[i]:=aW hi;rw[getD_map e,getD_map e];have:=hl _ (Ac hi);omega
 all_goals
  obtain⟨b,hb,i,j,x,y,rfl,hi,hj,e1,e2⟩:=hp p hq;have mx:=bT hi;have my:=bT hj
 .unfold JW
  simp only;rw[getD_map hi,getD_map hj];have:=h.NT b hb x mx y my e1 e2;omega
 .unfold JX
  simp only;rw[getD_map hi,getD_map hj];have:=h.UF b hb x mx y my e1 e2;omega
 .exact⟨(bC.1 hi).1,(bC.1 hj).1⟩
theorem kS.choices{F T:List au}{OO:List aP}{u:Int}{Y:List (List Int)}(h:d9 F T OO)(hd:aT F)(hk:Known F OO)(hY:kS T.length (JW T u) (JX T u) (bI T OO) Y):rH T OO u Y:=by
 have dT:=h.distinct hd;refine⟨hY.sorted,λl=>(hY.mem l).trans ⟨λ⟨h1,h2⟩=>?_,?_⟩⟩
 .refine⟨λr=>l.getD (idxOf T r) 0,?_,λt ht=>?_,λt ht=>?_,λb hb=>?_⟩
  .refine BS (by unfold gK;rw[dS];exact h1) (λi hi=>?_)
   have e:T[i]?=some (T[i]'(by omega)):=aW _;unfold gK;rw[getD_map e];show l.getD i 0=l.getD (idxOf T (T[i]'(by omega)).ref) 0;rw[jd dT e]
  .obtain⟨i,hi⟩:=wZ ht
   have:=h2.lo i (bC.1 hi).1;unfold JW at this;rw[getD_map hi]at this;rw[jd dT hi];exact this
  .obtain⟨i,hi⟩:=wZ ht
   have:=h2.hi i (bC.1 hi).1;unfold JX at this;rw[getD_map hi]at this;rw[jd dT hi];exact this
  .exact h2.ord _ (dF.2 ⟨b,hb,rfl⟩)
 .rintro⟨day,rfl,h2⟩
  have hg:∀{i:Nat}{t:au},T[i]?=some t->(gK T day).getD i 0=day t.ref:=λhi=>getD_map hi;refine⟨by unfold gK;rw[dS],λi hi=>?_,λi hi=>?_,λp hp=>?_⟩
  .have e:T[i]?=some T[i]:=aW hi
   unfold JW;rw[getD_map e,hg e];exact h2.lo _ (Ac hi)
  .have e:T[i]?=some T[i]:=aW hi
   unfold JX;rw[getD_map e,hg e];exact h2.hi _ (Ac hi)
  .obtain⟨b,hb,rfl⟩:=dF.1 hp
   obtain⟨⟨x,hx,e1⟩,y,hy,e2⟩:=h.known hk b hb;obtain⟨i,hi⟩:=wZ hx;obtain⟨j,hj⟩:=wZ hy;simp only;rw[<-e1,<-e2,jd dT hi,jd dT hj,hg hi,hg hj,e1,e2];exact h2.ord b hb
def au.GH(y:au)(v:Int):au:={y with low:=v}
def au.BU(y:au)(v:Int):au:={y with high:=v}
def jy(F:List au)(p:Nat×Nat):List au:=match F[p.1]?,F[p.2]? with
 |some x,some y=>F.set p.2 (y.GH (max y.low x.low))
 |_,_=>F
def mh(F:List au)(p:Nat×Nat):List au:=match F[p.1]?,F[p.2]? with
 |some x,some y=>F.set p.1 (x.BU (min x.high y.high))
 |_,_=>F
theorem N7{F:List au}{p:Nat×Nat}{x y:au}(hx:F[p.1]?=some x)(hy:F[p.2]?=some y):jy F p=F.set p.2 (y.GH (max y.low x.low)):=by unfold jy;rw[hx,hy]
theorem N8{F:List au}{p:Nat×Nat}{x y:au}(hx:F[p.1]?=some x)(hy:F[p.2]?=some y):mh F p=F.set p.1 (x.BU (min x.high y.high)):=by unfold mh;rw[hx,hy]
def BX(P:List (Nat×Nat))(F:List au):List au:=P.reverse.foldl mh (P.foldl jy F)
structure Less(F F':List au):Prop where
 rest:F'.map au.wC=F.map au.wC
 le:∀(i:Nat)(x x':au),F[i]?=some x->F'[i]?=some x'->x.low<=x'.low/\x'.high<=x.high
theorem Less.refl(F:List au):Less F F:=⟨rfl,λi x x' h h'=>by rw[h]at h';cases h';exact⟨iI _,iI _⟩⟩
theorem Less.length{F F':List au}(h:Less F F'):F'.length=F.length:=by have:=congrArg List.length h.rest;simpa using this
theorem Less.get{F F':List au}(h:Less F F'){i:Nat}{x:au}(hx:F[i]?=some x):∃x',F'[i]?=some x'/\x'.wC=x.wC/\x.low<=x'.low/\x'.high<=x.high:=by
 have hi:i<F'.length:=by rw[h.length];exact(bC.1 hx).1
 have hx':=aW hi;have hr:=congrArg (·[i]?) h.rest;simp only[fM,hx,hx',kG,Option.some.injEq]at hr;exact⟨_,hx',hr,h.le i x _ hx hx'⟩
theorem Less.back{F F':List au}(h:Less F F'){i:Nat}{x':au}(hx:F'[i]?=some x'):∃x,F[i]?=some x/\x'.wC=x.wC/\x.low<=x'.low/\x'.high<=x.high:=by
 have hi:i<F.length:=by rw[<-h.length];exact(bC.1 hx).1
 obtain⟨y,h1,h2⟩:=h.get (aW hi);rw[hx]at h1;cases h1
 exact⟨_,aW hi,h2⟩
theorem Less.trans{F G H:List au}(h:Less F G)(k:Less G H):Less F H:=⟨k.rest.trans h.rest,λi x x' hx hx'=>by
 obtain⟨y,hy,_,h1,h2⟩:=h.get hx;have:=k.le i y x' hy hx';omega⟩
theorem N9{F:List au}{i:Nat}{x x':au}(hx:F[i]?=some x)(hr:x'.wC=x.wC)(h1:x.low<=x'.low)(h2:x'.high<=x.high):Less F (F.set i x'):=by
 have hi:=(bC.1 hx).1;refine⟨?_,λj y y' hy hy'=>?_⟩
 .apply kM
  intro j;rw[fM,fM,j4];by_cases e:i=j
  .subst e
   rw[if_pos rfl,if_pos hi,hx];simp[hr]
  .rw[if_neg e]
 .rw[j4]at hy'
  by_cases e:i=j
  .subst e
   rw[if_pos rfl,if_pos hi]at hy';rw[hx]at hy;cases hy;cases hy'
   exact⟨h1,h2⟩
  .rw[if_neg e,hy]at hy'
   cases hy'
   exact⟨iI _,iI _⟩
theorem QI(F:List au)(p:Nat×Nat):Less F (jy F p):=by
 unfold jy;split
 .rename_i x y hx hy
  exact N9 hy rfl (by show y.low<=max y.low x.low;omega) (iI _)
 .exact Less.refl F
theorem QJ(F:List au)(p:Nat×Nat):Less F (mh F p):=by
 unfold mh;split
 .rename_i x y hx hy
  exact N9 hx rfl (iI _) (by show min x.high y.high<=x.high;omega)
 .exact Less.refl F
theorem jr(P:List (Nat×Nat))(F:List au):Less F (P.foldl jy F):=by
 induction P generalizing F with
 |nil=>exact Less.refl F
 |cons p P ih=>exact(QI F p).trans (ih _)
theorem mP(P:List (Nat×Nat))(F:List au):Less F (P.foldl mh F):=by
 induction P generalizing F with
 |nil=>exact Less.refl F
 |cons p P ih=>exact(QJ F p).trans (ih _)
theorem QK(P:List (Nat×Nat))(F:List au):Less F (BX P F):=(jr P F).trans (mP _ _)
def yD(P:List (Nat×Nat))(m:Nat->Int):Prop:=∀p∈P,m p.1<=m p.2
def uG(m:Nat->Int)(F:List au):Prop:=∀(i:Nat)(x:au),F[i]?=some x->x.low<=m i
def oZ(m:Nat->Int)(F:List au):Prop:=∀(i:Nat)(x:au),F[i]?=some x->m i<=x.high
theorem FM{F:List au}{i:Nat}{x':au}{j:Nat}{y:au}(h:(F.set i x')[j]?=some y):(j=i/\y=x')\/(j≠i/\F[j]?=some y):=by
 rw[j4]at h;by_cases e:i=j
 .subst e
  rw[if_pos rfl]at h;split at h
  .cases h;exact .inl ⟨rfl,rfl⟩
  .cases h
 .rw[if_neg e]at h
  exact .inr ⟨λk=>e k.symm,h⟩
theorem QL{m:Nat->Int}{F:List au}{p:Nat×Nat}(hp:m p.1<=m p.2)(h:uG m F):uG m (jy F p):=by
 unfold jy;split
 .rename_i x y hx hy
  intro j z hz;rcases FM hz with⟨rfl,rfl⟩|⟨_,hz⟩
  .have h1:=h _ _ hx
   have h2:=h _ _ hy;show max y.low x.low<=_;omega
  .exact h j z hz
 .exact h
theorem N_{m:Nat->Int}{F:List au}{p:Nat×Nat}(h:oZ m F):oZ m (jy F p):=by
 unfold jy;split
 .rename_i x y hx hy
  intro j z hz;rcases FM hz with⟨rfl,rfl⟩|⟨_,hz⟩
  .have h1:=h _ _ hy
   exact h1
  .exact h j z hz
 .exact h
theorem QM{m:Nat->Int}{F:List au}{p:Nat×Nat}(h:uG m F):uG m (mh F p):=by
 unfold mh;split
 .rename_i x y hx hy
  intro j z hz;rcases FM hz with⟨rfl,rfl⟩|⟨_,hz⟩
  .have h1:=h _ _ hx
   exact h1
  .exact h j z hz
 .exact h
theorem Oa{m:Nat->Int}{F:List au}{p:Nat×Nat}(hp:m p.1<=m p.2)(h:oZ m F):oZ m (mh F p):=by
 unfold mh;split
 .rename_i x y hx hy
  intro j z hz;rcases FM hz with⟨rfl,rfl⟩|⟨_,hz⟩
  .have h1:=h _ _ hx
   have h2:=h _ _ hy;show _<=min x.high y.high;omega
  .exact h j z hz
 .exact h
theorem GI{m:Nat->Int}:∀{P:List (Nat×Nat)}{F:List au},yD P m->uG m F->uG m (P.foldl jy F)
 |[],_,_,h=>h
 |p::P,_,hp,h=>GI (P:=P) (λq hq=>hp q (jf _ hq)) (QL (hp p (by simp)) h)
theorem Ey{m:Nat->Int}:∀{P:List (Nat×Nat)}{F:List au},oZ m F->oZ m (P.foldl jy F)
 |[],_,h=>h
 |_::P,_,h=>Ey (P:=P) (N_ h)
theorem GJ{m:Nat->Int}:∀{P:List (Nat×Nat)}{F:List au},uG m F->uG m (P.foldl mh F)
 |[],_,h=>h
 |_::P,_,h=>GJ (P:=P) (QM h)
theorem Ez{m:Nat->Int}:∀{P:List (Nat×Nat)}{F:List au},yD P m->oZ m F->oZ m (P.foldl mh F)
 |[],_,_,h=>h
 |p::P,_,hp,h=>Ez (P:=P) (λq hq=>hp q (jf _ hq)) (Oa (hp p (by simp)) h)
theorem yD.reverse{P:List (Nat×Nat)}{m:Nat->Int}(h:yD P m):yD P.reverse m:=λp hp=>h p (List.mem_reverse.1 hp)
structure vH(P:List (Nat×Nat))(F T:List au):Prop where
 less:Less F T
 Dl:∀m,yD P m->uG m F->uG m T
 vD:∀m,yD P m->oZ m F->oZ m T
theorem vH.refl(P:List (Nat×Nat))(F:List au):vH P F F:=⟨Less.refl F,λ_ _ h=>h,λ_ _ h=>h⟩
theorem vH.trans{P:List (Nat×Nat)}{F G H:List au}(h:vH P F G)(k:vH P G H):vH P F H:=⟨h.less.trans k.less,λm hm x=>k.Dl m hm (h.Dl m hm x),λm hm x=>k.vD m hm (h.vD m hm x)⟩
theorem yE(P:List (Nat×Nat))(F:List au):vH P F (BX P F):=⟨QK P F,λ_ hm h=>GJ (GI hm h),λ_ hm h=>Ez hm.reverse (Ey h)⟩
theorem QN{P:List (Nat×Nat)}{F:List au}{p:Nat×Nat}(hp:p∈P){x y':au}(hx:F[p.1]?=some x)(hlt:p.2<F.length)(hy:(P.foldl jy F)[p.2]?=some y'):x.low<=y'.low:=by
 obtain⟨A,B,rfl⟩:=List.append_of_mem hp;rw[tJ,List.foldl_cons]at hy;obtain⟨x1,h1,_,h2,_⟩:=(jr A F).get hx;have hl:p.2<(A.foldl jy F).length:=by rw[(jr A F).length];exact hlt
 have hy1:=aW hl;generalize(A.foldl jy F)[p.2]=y1 at hy1;have hs:=N7 h1 hy1;have hy2:(jy (A.foldl jy F) p)[p.2]?=some (y1.GH (max y1.low x1.low)):=by rw[hs,j4,if_pos rfl,if_pos hl]
 have h3:=((jr B _).le _ _ _ hy2 hy).1;have h4:max y1.low x1.low<=y'.low:=h3;omega
theorem QO{P:List (Nat×Nat)}{F:List au}{p:Nat×Nat}(hp:p∈P){y x':au}(hy:F[p.2]?=some y)(hlt:p.1<F.length)(hx:(P.foldl mh F)[p.1]?=some x'):x'.high<=y.high:=by
 obtain⟨A,B,rfl⟩:=List.append_of_mem hp;rw[tJ,List.foldl_cons]at hx;obtain⟨y1,h1,_,_,h2⟩:=(mP A F).get hy;have hl:p.1<(A.foldl mh F).length:=by rw[(mP A F).length];exact hlt
 have hx1:=aW hl;generalize(A.foldl mh F)[p.1]=x1 at hx1;have hs:=N8 hx1 h1;have hx2:(mh (A.foldl mh F) p)[p.1]?=some (x1.BU (min x1.high y1.high)):=by rw[hs,j4,if_pos rfl,if_pos hl]
 have h3:=((mP B _).le _ _ _ hx2 hx).2;have h4:x'.high<=min x1.high y1.high:=h3;omega
def gap(M m:Int)(F:List au):Nat:=(F.map (λx=>(M - x.low).toNat+(x.high - m).toNat)).sum
def QS(F F':List au):Prop:=∀(i:Nat)(x x':au),F[i]?=some x->F'[i]?=some x'->x.low<=x'.low/\x'.high<=x.high
theorem Xk{M m:Int}:∀{F F':List au},F.length=F'.length->QS F F'->gap M m F'<=gap M m F
 |[],[],_,_=>bJ _
 |[],_::_,h,_=>by simp at h
 |_::_,[],h,_=>by simp at h
 |x::F,x'::F',hl,h=>by
  have h1:=h 0 x x' rfl rfl;have h2:=Xk (M:=M) (m:=m) (F:=F) (F':=F') (by simpa using hl) (λi y y' hy hy'=>h (i+1) y y' hy hy');unfold gap at h2⊢;simp only[kN,List.sum_cons];omega
theorem Xl{M m:Int}:∀{F F':List au},F.length=F'.length->QS F F'->(∀x'∈F',x'.low<=M/\m<=x'.high)->(∃(i:Nat)(x x':au),F[i]?=some x/\F'[i]?=some x'/\(x.low<x'.low\/x'.high<x.high))->gap M m F'<gap M m F
 |[],[],_,_,_,⟨i,x,x',h,_⟩=>by simp at h
 |[],_::_,h,_,_,_=>by simp at h
 |_::_,[],h,_,_,_=>by simp at h
 |x::F,x'::F',hl,h,hb,⟨i,y,y',hy,hy',hlt⟩=>by
  have h1:=h 0 x x' rfl rfl;have hl':F.length=F'.length:=by simpa using hl
  have hr:QS F F':=λi y y' hy hy'=>h (i+1) y y' hy hy';have hbx:=hb x' (by simp);cases i with
  |zero=>
   simp only[Aa,Option.some.injEq]at hy hy';subst hy hy';have h2:=Xk (M:=M) (m:=m) hl' hr;unfold gap at h2⊢;simp only[kN,List.sum_cons];omega
  |succ i=>
   have h2:=Xl (M:=M) (m:=m) hl' hr (λx hx=>hb x (jf _ hx)) ⟨i,y,y',by simpa using hy,by simpa using hy',hlt⟩;unfold gap at h2⊢;simp only[kN,List.sum_cons];omega
theorem UH(F:List au):∃M m:Int,∀x∈F,x.low<=M/\m<=x.high:=by
 induction F with
 |nil=>exact⟨0,0,by simp⟩
 |cons x F ih=>
  obtain⟨M,m,h⟩:=ih;refine⟨max M x.low,min m x.high,λy hy=>?_⟩;rcases dI.1 hy with rfl|hy
  .omega
  .have:=h y hy;omega
theorem vH.bounded{P:List (Nat×Nat)}{F T:List au}{M m:Int}(h:vH P F T)(hb:∀x∈F,x.low<=M/\m<=x.high):∀x∈T,x.low<=M/\m<=x.high:=λx hx=>by
 obtain⟨i,hi⟩:=j3.1 hx;exact⟨h.Dl (λ_=>M) (λ_ _=>iI _) (λj y hy=>(hb y (bT hy)).1) i x hi,h.vD (λ_=>m) (λ_ _=>iI _) (λj y hy=>(hb y (bT hy)).2) i x hi⟩
theorem KC{P:List (Nat×Nat)}{F:List au}{M m:Int}(hb:∀x∈F,x.low<=M/\m<=x.high){p:Nat×Nat}(hp:p∈P){x y:au}(hx:F[p.1]?=some x)(hy:F[p.2]?=some y)(h:y.low<x.low\/y.high<x.high):gap M m (BX P F)<gap M m F:=by
 have hs:=yE P F;refine Xl hs.less.length.symm hs.less.le (hs.bounded hb) ?_;have h1:=(bC.1 hx).1;have h2:=(bC.1 hy).1;have hl:=(jr P F).length;rcases h with h|h
 .obtain⟨y1,k1,_,k2,_⟩:=(jr P F).get hy
  have k3:=QN hp hx h2 k1;obtain⟨y2,k4,_,k5,_⟩:=(mP P.reverse (P.foldl jy F)).get k1;exact⟨p.2,y,y2,hy,k4,.inl (by omega)⟩
 .obtain⟨y1,k1,_,_,k2⟩:=(jr P F).get hy
  obtain⟨x1,k3,_,_,k4⟩:=(jr P F).get hx;obtain⟨x2,k5,_,_,k6⟩:=(mP P.reverse (P.foldl jy F)).get k3;have k7:=QO (List.mem_reverse.2 hp) k1 (by rw[hl];exact h1) k5;exact⟨p.1,x,x2,hx,k5,.inr (by omega)⟩
theorem Less.ref{F T:List au}(h:Less F T){i:Nat}{x t:au}(hx:F[i]?=some x)(ht:T[i]?=some t):t.ref=x.ref:=by
 obtain⟨t',h1,h2,_⟩:=h.get hx;rw[ht]at h1;cases h1
 exact eG h2
theorem Less.refs{F T:List au}(h:Less F T):T.map (·.ref)=F.map (·.ref):=by
 have:=congrArg (List.map (·.1)) h.rest;rw[ow,ow]at this;exact this
theorem UJ{F:List au}{O:List aP}{b:aP}(hb:b∈O):(idxOf F b.ref,idxOf F b.next)∈bI F O:=dF.2 ⟨b,hb,rfl⟩
theorem vH.tight{F T:List au}{O:List aP}(h:vH (bI F O) F T)(hd:aT F)(hk:Known F O)(hc:∀p∈bI F O,∀x y,T[p.1]?=some x->T[p.2]?=some y->x.low<=y.low/\x.high<=y.high):d9 F T O:=by
 have hdT:aT T:=by unfold aT;rw[h.less.refs];exact hd
 have at':∀{f t:au}{i:Nat},F[i]?=some f->t∈T->f.ref=t.ref->T[i]?=some t:=λ{f t i} hf ht e=>by
  obtain⟨t',h1,h2,_⟩:=h.less.get hf;have e2:t'=t:=eU hdT t' (bT h1) t ht ((eG h2).trans e);rw[<-e2];exact h1
 have clo:∀b∈O,∀s∈T,∀t∈T,s.ref=b.ref->t.ref=b.next->s.low<=t.low/\s.high<=t.high:=λb hb s hs t ht e1 e2=>by
  obtain⟨⟨x,hx,h1⟩,y,hy,h2⟩:=hk b hb;obtain⟨i,hi⟩:=j3.1 hx;obtain⟨j,hj⟩:=j3.1 hy;have q:=hc _ (UJ (F:=F) hb) s t;rw[<-h1,<-h2,jd hd hi,jd hd hj]at q;exact q (at' hi hs (h1.trans e1.symm)) (at' hj ht (h2.trans e2.symm))
 have keeps:∀m:Int->Int,(∀b∈O,m b.ref<=m b.next)->yD (bI F O) (λi=>m ((F.map (·.ref)).getD i 0)):=λm hm p hp=>by
  obtain⟨b,hb,rfl⟩:=dF.1 hp;obtain⟨⟨x,hx,h1⟩,y,hy,h2⟩:=hk b hb;obtain⟨i,hi⟩:=j3.1 hx;obtain⟨j,hj⟩:=j3.1 hy;show m ((F.map (·.ref)).getD (idxOf F b.ref) 0)<=m ((F.map (·.ref)).getD (idxOf F b.next) 0);rw[<-h1,<-h2,jd hd hi,jd hd hj,getD_map hi,getD_map hj,h1,h2];exact hm b hb
 refine⟨h.less.rest,λf hf t ht e=>?_,λf hf t ht e=>?_,λb hb s hs t ht e1 e2=>(clo b hb s hs t ht e1 e2).1,λb hb s hs t ht e1 e2=>(clo b hb s hs t ht e1 e2).2,λm hm hc t ht=>?_,λm hm hc t ht=>?_⟩
 .obtain⟨i,hi⟩:=j3.1 hf
  exact(h.less.le i f t hi (at' hi ht e)).1
 .obtain⟨i,hi⟩:=j3.1 hf
  exact(h.less.le i f t hi (at' hi ht e)).2
 .obtain⟨i,hi⟩:=j3.1 ht
  obtain⟨x,hx,hr,_⟩:=h.less.back hi;have q:=h.Dl _ (keeps m hc) (λj y hy=>by show _<=m _;rw[getD_map hy];exact hm y (bT hy)) i t hi;simp only at q;rw[getD_map hx,<-eG hr]at q;exact q
 .obtain⟨i,hi⟩:=j3.1 ht
  obtain⟨x,hx,hr,_⟩:=h.less.back hi;have q:=h.vD _ (keeps m hc) (λj y hy=>by show m _<=_;rw[getD_map hy];exact hm y (bT hy)) i t hi;simp only at q;rw[getD_map hx,<-eG hr]at q;exact q
def Ob:Nat->(Nat->Int)->(Nat->Int)->List (List Int)
 |0,_,_=>[[]]
 |n+1,lo,hi=>(List.range (hi 0+1 - lo 0).toNat).flatMap (λj:Nat=>(Ob n (λi=>lo (i+1)) (λi=>hi (i+1))).map (λl=>(lo 0+(j:Int))::l))
theorem GK:∀(n:Nat)(lo hi:Nat->Int)(l:List Int),l∈Ob n lo hi↔l.length=n/\∀i,i<n->lo i<=l.getD i 0/\l.getD i 0<=hi i
 |0,lo,hi,l=>by
  unfold Ob;rw[d_];constructor
  .rintro rfl;exact⟨rfl,λi hi'=>absurd hi' (Nat.not_lt_zero _)⟩
  .rintro⟨h,_⟩;exact BJ h
 |n+1,lo,hi,l=>by
  unfold Ob;simp only[mU,List.mem_range,dF];constructor
  .rintro⟨j,hj,m,hm,rfl⟩
   obtain⟨h1,h2⟩:=(GK n _ _ m).1 hm;refine⟨by simp[h1],λi hi'=>?_⟩;cases i with
   |zero=>simp only[List.getD_cons_zero];omega
   |succ i=>simpa using h2 i (by omega)
  .rintro⟨h1,h2⟩
   cases l with
   |nil=>simp at h1
   |cons a l=>
    have h0:=h2 0 (by omega);simp only[List.getD_cons_zero]at h0;refine⟨(a - lo 0).toNat,by omega,l,(GK n _ _ l).2 ⟨by simpa using h1,λi hi'=>by simpa using h2 (i+1) (by omega)⟩,?_⟩;rw[show lo 0+((a - lo 0).toNat:Int)=a by omega]
theorem EA:∀(n:Nat)(lo hi:Nat->Int),(Ob n lo hi).Pairwise lexLt
 |0,lo,hi=>by unfold Ob;simp
 |n+1,lo,hi=>by
  unfold Ob;rw[List.pairwise_flatMap];refine⟨λj _=>?_,?_⟩
  .rw[List.pairwise_map]
   exact(EA n _ _).imp (λh=>.inr ⟨rfl,h⟩)
  .refine(List.pairwise_lt_range).imp (λ{i j} h x hx y hy=>?_)
   obtain⟨l,_,rfl⟩:=dF.1 hx;obtain⟨m,_,rfl⟩:=dF.1 hy;exact .inl (by omega)
theorem kS.ex(n:Nat)(lo hi:Nat->Int)(P:List (Nat×Nat)):∃Y,kS n lo hi P Y:=by
 refine⟨(Ob n lo hi).filter (λl=>P.all (λp=>decide (l.getD p.1 0<=l.getD p.2 0))),(EA n lo hi).filter _,λl=>?_⟩;rw[List.mem_filter,GK];simp only[fE,decide_eq_true_eq];constructor
 .rintro⟨⟨h1,h2⟩,h3⟩
  exact⟨h1,λi hi'=>(h2 i hi').1,λi hi'=>(h2 i hi').2,h3⟩
 .rintro⟨h1,h2⟩
  exact⟨⟨h1,λi hi'=>⟨h2.lo i hi',h2.hi i hi'⟩⟩,h2.ord⟩
theorem Ak{α:Type}[DecidableEq α]:∀{l m:List α},l.Nodup->(∀x∈l,x∈m)->l.length<=m.length
 |[],_,_,_=>aZ _
 |a::l,m,hd,h=>by
  have h1:=List.nodup_cons.1 hd;have h2:=Ak (l:=l) (m:=m.erase a) h1.2 (λx hx=>(List.mem_erase_of_ne (λe=>h1.1 (by rw[<-e];exact hx))).2 (h x (jf _ hx)));have h3:=h a (by simp);rw[List.length_erase_of_mem h3]at h2;have h4:0<m.length:=List.length_pos_of_mem h3;simp only[iN];omega
theorem BZ:∀l:List Int,¬lexLt l l
 |[],h=>h.elim
 |a::l,h=>by
  rcases h with h|⟨_,h⟩
  .omega
  .exact BZ l h
theorem qy.len{n:Nat}{lo hi:Nat->Int}{P:List (Nat×Nat)}{k:Nat}{v:Int}{Y Z:List (List Int)}(h:qy n lo hi P k v Y)(hZ:kS n lo hi P Z):Y.length<=Z.length:=by
 refine Ak (h.sorted.imp (λ{a b} hab e=>?_)) (λx hx=>(hZ.mem x).2 ((h.mem x).1 hx).1);subst e;exact BZ _ hab
end Go.Proofs.YtpmdedcnbockhaaGreatDoor

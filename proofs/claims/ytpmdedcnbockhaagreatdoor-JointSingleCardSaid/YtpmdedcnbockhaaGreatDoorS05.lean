/- part -/
import Derived.Test.YtpmdedcnbockhaaGreatDoorD
namespace Go.Proofs.YtpmdedcnbockhaaGreatDoor
structure ay where
 ref:Int
 act:Int
 low:Int
 high:Int
 filed:Int
 secret:Bool
structure aX where
 ref:Int
 next:Int
structure bR where
 house:Int
 facts:List ay
 orders:List aX
def Qw(y x:ay):ay:={y with low:=max y.low x.low,high:=min y.high x.high,filed:=min y.filed x.filed,secret:=y.secret&&x.secret}
def xG(r:Int)(o:Option ay)(x:ay):Option ay:=if x.ref=r then some (match o with|none=>x|some y=>Qw y x)else o
def look(L:List ay)(r:Int):Option ay:=L.foldl (xG r) none
theorem C9(L:List ay)(x:ay)(r:Int):look (L++[x]) r=xG r (look L r) x:=by unfold look;rw[uG];rfl
def Ad(L:List ay):Prop:=∀x∈L,∀y∈L,x.ref=y.ref->x.act=y.act
structure vL(L:List ay)(r:Int)(z:ay):Prop where
 ref:z.ref=r
 act:∃x∈L,x.ref=r/\x.act=z.act
 low:∃x∈L,x.ref=r/\x.low=z.low
 Qx:∀x∈L,x.ref=r->x.low<=z.low
 high:∃x∈L,x.ref=r/\x.high=z.high
 Gs:∀x∈L,x.ref=r->z.high<=x.high
 filed:∃x∈L,x.ref=r/\x.filed=z.filed
 Xr:∀x∈L,x.ref=r->z.filed<=x.filed
 sec:z.secret=true↔∀x∈L,x.ref=r->x.secret=true
theorem qQ{α:Type}{P:List α->Prop}(h0:P [])(h1:∀l a,P l->P (l++[a]))(l:List α):P l:=by
 have h:∀k:List α,P k.reverse:=λk=>by
  induction k with
  |nil=>exact h0
  |cons a k ih=>rw[List.reverse_cons];exact h1 _ _ ih
 have:=h l.reverse
 rwa [List.reverse_reverse]at this
theorem Qy(x:ay)(r:Int)(h:x.ref=r)(L:List ay)(hL:∀y∈L,y.ref≠r):vL (L++[x]) r x:=by
 have hm:∀y∈L++[x],y.ref=r->y=x:=λy hy e=>by
  rcases jU.1 hy with h1|h1
  .exact absurd e (hL y h1)
  .exact eB.1 h1
 have hx:x∈L++[x]:=by simp
 exact⟨h,⟨x,hx,h,rfl⟩,⟨x,hx,h,rfl⟩,λy hy e=>by rw[hm y hy e];exact iY _,⟨x,hx,h,rfl⟩,λy hy e=>by rw[hm y hy e];exact iY _,⟨x,hx,h,rfl⟩,λy hy e=>by rw[hm y hy e];exact iY _,⟨λe y hy f=>by rw[hm y hy f];exact e,λe=>e x hx h⟩⟩
theorem NK{L:List ay}{r:Int}{z:ay}(h:vL L r z)(x:ay)(e:x.ref=r):vL (L++[x]) r (Qw z x):=by
 have hx:x∈L++[x]:=by simp
 have hl:∀{y},y∈L->y∈L++[x]:=λhy=>jU.2 (.inl hy);refine⟨h.ref,?_,?_,?_,?_,?_,?_,?_,?_⟩
 .obtain⟨y,h1,h2,h3⟩:=h.act;exact⟨y,hl h1,h2,h3⟩
 .show∃y∈L++[x],y.ref=r/\y.low=max z.low x.low
  by_cases c:z.low<=x.low
  .exact⟨x,hx,e,by omega⟩
  .obtain⟨y,h1,h2,h3⟩:=h.low;exact⟨y,hl h1,h2,by omega⟩
 .intro y hy f
  show y.low<=max z.low x.low;rcases jU.1 hy with h1|h1
  .have:=h.Qx y h1 f;omega
  .rw[eB.1 h1];omega
 .show∃y∈L++[x],y.ref=r/\y.high=min z.high x.high
  by_cases c:x.high<=z.high
  .exact⟨x,hx,e,by omega⟩
  .obtain⟨y,h1,h2,h3⟩:=h.high;exact⟨y,hl h1,h2,by omega⟩
 .intro y hy f
  show min z.high x.high<=y.high;rcases jU.1 hy with h1|h1
  .have:=h.Gs y h1 f;omega
  .rw[eB.1 h1];omega
 .show∃y∈L++[x],y.ref=r/\y.filed=min z.filed x.filed
  by_cases c:x.filed<=z.filed
  .exact⟨x,hx,e,by omega⟩
  .obtain⟨y,h1,h2,h3⟩:=h.filed;exact⟨y,hl h1,h2,by omega⟩
 .intro y hy f
  show min z.filed x.filed<=y.filed;rcases jU.1 hy with h1|h1
  .have:=h.Xr y h1 f;omega
  .rw[eB.1 h1];omega
 .show(z.secret&&x.secret)=true↔_
  rw[bS,h.sec];constructor
  .rintro⟨h1,h2⟩ y hy f
   rcases jU.1 hy with h3|h3
   .exact h1 y h3 f
   .rw[eB.1 h3];exact h2
  .exactλh1=>⟨λy hy f=>h1 y (hl hy) f,h1 x hx e⟩
theorem NM{L:List ay}{r:Int}{z:ay}(h:vL L r z)(x:ay)(e:x.ref≠r):vL (L++[x]) r z:=by
 have hl:∀{y},y∈L->y∈L++[x]:=λhy=>jU.2 (.inl hy);have hm:∀{y},y∈L++[x]->y.ref=r->y∈L:=λ{y} hy f=>by
  rcases jU.1 hy with h3|h3
  .exact h3
  .rw[eB.1 h3]at f;exact absurd f e
 have ex:∀{p:ay->Prop},(∃y∈L,y.ref=r/\p y)->∃y∈L++[x],y.ref=r/\p y:=λ⟨y,h1,h2⟩=>⟨y,hl h1,h2⟩;exact⟨h.ref,ex h.act,ex h.low,λy hy f=>h.Qx y (hm hy f) f,ex h.high,λy hy f=>h.Gs y (hm hy f) f,ex h.filed,λy hy f=>h.Xr y (hm hy f) f,h.sec.trans ⟨λk y hy f=>k y (hm hy f) f,λk y hy f=>k y (hl hy) f⟩⟩
theorem BH(L:List ay)(r:Int):(look L r=none/\∀x∈L,x.ref≠r)\/∃z,look L r=some z/\vL L r z:=by
 induction L using qQ with
 |h0=>exact .inl ⟨rfl,λx h=>by cases h⟩
 |h1 L x ih=>
  rw[C9];unfold xG;by_cases e:x.ref=r
  .rw[if_pos e]
   rcases ih with⟨h1,h2⟩|⟨z,h1,h2⟩
   .rw[h1];exact .inr ⟨x,rfl,Qy x r e L h2⟩
   .rw[h1];exact .inr ⟨_,rfl,NK h2 x e⟩
  .rw[if_neg e]
   rcases ih with⟨h1,h2⟩|⟨z,h1,h2⟩
   .refine .inl ⟨h1,λy hy=>?_⟩
    rcases jU.1 hy with h3|h3
    .exact h2 y h3
    .rw[eB.1 h3];exact e
   .exact .inr ⟨z,h1,NM h2 x e⟩
theorem ny{α:Type}{lt:α->α->Prop}(irr:∀a,¬lt a a)(tr:∀a b c,lt a b->lt b c->lt a c):∀{l l':List α},l.Pairwise lt->l'.Pairwise lt->(∀x,x∈l↔x∈l')->l=l'
 |[],[],_,_,_=>rfl
 |[],b::l',_,_,h=>absurd ((h b).2 (by simp)) (by simp)
 |a::l,[],_,_,h=>absurd ((h a).1 (by simp)) (by simp)
 |a::l,b::l',h1,h2,h=>by
  rw[wF]at h1 h2;have e:a=b:=by
   rcases dx.1 ((h a).1 (by simp))with e|e
   .exact e
   .rcases dx.1 ((h b).2 (by simp))with e2|e2
    .exact e2.symm
    .exact absurd (tr _ _ _ (h1.1 b e2) (h2.1 a e)) (irr a)
  subst e;rw[ny irr tr h1.2 h2.2 (λx=>⟨λhx=>by
   rcases dx.1 ((h x).1 (kG _ hx))with e|e
   .subst e;exact absurd (h1.1 x hx) (irr x)
   .exact e,λhx=>by
   rcases dx.1 ((h x).2 (kG _ hx))with e|e
   .subst e;exact absurd (h2.1 x hx) (irr x)
   .exact e⟩)]
def zO(r:Int):List Int->List Int
 |[]=>[r]
 |k::l=>if r<k then r::k::l else if r=k then k::l else k::zO r l
theorem BI(r:Int):∀(l:List Int)(x:Int),x∈zO r l↔x=r\/x∈l
 |[],x=>by simp[zO]
 |k::l,x=>by
  unfold zO;by_cases h:r<k
  .rw[if_pos h];simp
  .rw[if_neg h]
   by_cases h2:r=k
   .rw[if_pos h2];subst h2;simp
   .rw[if_neg h2,dx,BI r l x,dx]
    constructor
    .rintro(h3|h3|h3)
     .exact .inr (.inl h3)
     .exact .inl h3
     .exact .inr (.inr h3)
    .rintro(h3|h3|h3)
     .exact .inr (.inl h3)
     .exact .inl h3
     .exact .inr (.inr h3)
theorem xH(r:Int):∀(l:List Int),l.Pairwise (· < ·)->(zO r l).Pairwise (· < ·)
 |[],_=>by simp[zO]
 |k::l,h=>by
  unfold zO;rw[wF]at h;by_cases h1:r<k
  .rw[if_pos h1,wF,wF]
   refine⟨λx hx=>?_,h.1,h.2⟩;rcases dx.1 hx with e|e
   .subst e;exact h1
   .exact Int.lt_trans h1 (h.1 x e)
  .rw[if_neg h1]
   by_cases h2:r=k
   .rw[if_pos h2,wF];exact h
   .rw[if_neg h2,wF]
    refine⟨λx hx=>?_,xH r l h.2⟩;rcases(BI r l x).1 hx with e|e
    .omega
    .exact h.1 x e
def keysOf(L:List ay):List Int:=L.foldl (λk x=>zO x.ref k) []
theorem xI(L:List ay)(x:ay):keysOf (L++[x])=zO x.ref (keysOf L):=by unfold keysOf;rw[uG];rfl
theorem Ae(L:List ay):(keysOf L).Pairwise (· < ·):=by
 induction L using qQ with
 |h0=>exact List.Pairwise.nil
 |h1 L x ih=>rw[xI];exact xH _ _ ih
theorem Ay(L:List ay)(r:Int):r∈keysOf L↔∃x∈L,x.ref=r:=by
 induction L using qQ with
 |h0=>simp[keysOf]
 |h1 L x ih=>
  rw[xI,BI,ih];constructor
  .rintro(h|⟨y,h1,h2⟩)
   .exact⟨x,by simp,h.symm⟩
   .exact⟨y,jU.2 (.inl h1),h2⟩
  .rintro⟨y,h1,h2⟩
   rcases jU.1 h1 with h3|h3
   .exact .inr ⟨y,h3,h2⟩
   .rw[eB.1 h3]at h2;exact .inl h2.symm
theorem Ej{L:List ay}{K:List Int}(h:K.Pairwise (· < ·))(hm:∀r,r∈K↔∃x∈L,x.ref=r):K=keysOf L:=
 ny (λa h=>Int.lt_irrefl a h) (λ_ _ _=>Int.lt_trans) h (Ae L) (λr=>(hm r).trans (Ay L r).symm)
def dI(L:List ay):List ay:=(keysOf L).filterMap (look L)
theorem C_{L:List ay}{r:Int}(h:r∈keysOf L):∃z,look L r=some z/\vL L r z:=by
 rcases BH L r with⟨_,h2⟩|h2
 .obtain⟨x,hx,hr⟩:=(Ay L r).1 h
  exact absurd hr (h2 x hx)
 .exact h2
theorem xJ{L:List ay}:∀{K:List Int},(∀r∈K,r∈keysOf L)->(K.filterMap (look L)).map (·.ref)=K
 |[],_=>rfl
 |r::K,h=>by
  obtain⟨z,h1,h2⟩:=C_ (h r (by simp));rw[List.filterMap_cons,h1];simp only[kN,h2.ref];rw[xJ (λx hx=>h x (kG _ hx))]
theorem vM(L:List ay):(dI L).map (·.ref)=keysOf L:=xJ (λ_ h=>h)
theorem El{L:List ay}{z:ay}(h:z∈dI L):vL L z.ref z:=by
 obtain⟨r,hr,he⟩:=List.mem_filterMap.1 h;obtain⟨y,h1,h2⟩:=C_ hr;rw[h1]at he;cases he
 have:=h2.ref;subst this;exact h2
def FD(a b:aX):Prop:=a.ref<b.ref\/(a.ref=b.ref/\a.next<b.next)
theorem FH(a:aX):¬FD a a:=by unfold FD;omega
theorem Kt(a b c:aX)(h1:FD a b)(h2:FD b c):FD a c:=by unfold FD at*;omega
theorem aae(a b:aX):FD a b\/a=b\/FD b a:=by
 unfold FD;by_cases h:a.ref=b.ref
 .by_cases h2:a.next=b.next
  .exact .inr (.inl (by cases a;cases b;simp only at h h2;subst h h2;rfl))
  .rcases Int.lt_or_gt_of_ne h2 with h3|h3
   .exact .inl (.inr ⟨h,h3⟩)
   .exact .inr (.inr (.inr ⟨h.symm,h3⟩))
 .rcases Int.lt_or_gt_of_ne h with h3|h3
  .exact .inl (.inl h3)
  .exact .inr (.inr (.inl h3))
theorem JH{A B:List aX}(h1:A.Pairwise FD)(h2:B.Pairwise FD)(hm:∀x,x∈A↔x∈B):A=B:=ny FH Kt h1 h2 hm
def ay.EU(x:ay):Int×Int×Int×Bool:=(x.ref,x.act,x.filed,x.secret)
theorem j3{x y:ay}(h:x.EU=y.EU):x.ref=y.ref:=congrArg (·.1) h
theorem ay.ext'{x y:ay}(h:x.EU=y.EU)(hl:x.low=y.low)(hh:x.high=y.high):x=y:=by
 cases x;cases y
 simp only[ay.EU,Prod.mk.injEq]at h hl hh;obtain⟨h1,h2,h3,h4⟩:=h;subst h1 h2 h3 h4 hl hh;rfl
structure jD(F T:List ay)(O:List aX):Prop where
 rest:T.map ay.EU=F.map ay.EU
 leL:∀f∈F,∀t∈T,f.ref=t.ref->f.low<=t.low
 leH:∀f∈F,∀t∈T,f.ref=t.ref->t.high<=f.high
 aaf:∀b∈O,∀s∈T,∀t∈T,s.ref=b.ref->t.ref=b.next->s.low<=t.low
 acP:∀b∈O,∀s∈T,∀t∈T,s.ref=b.ref->t.ref=b.next->s.high<=t.high
 ajB:∀m:Int->Int,(∀f∈F,f.low<=m f.ref)->(∀b∈O,m b.ref<=m b.next)->∀t∈T,t.low<=m t.ref
 ajC:∀m:Int->Int,(∀f∈F,m f.ref<=f.high)->(∀b∈O,m b.ref<=m b.next)->∀t∈T,m t.ref<=t.high
def Known(F:List ay)(O:List aX):Prop:=∀b∈O,(∃x∈F,x.ref=b.ref)/\∃x∈F,x.ref=b.next
def bF(F:List ay):Prop:=(F.map (·.ref)).Pairwise (· < ·)
theorem jH{F:List ay}(h:bF F):∀x∈F,∀y∈F,x.ref=y.ref->x=y:=by
 unfold bF at h;induction F with
 |nil=>intro x hx;cases hx
 |cons a l ih=>
  rw[kN,wF]at h;intro x hx y hy e;rcases dx.1 hx with h1|h1
  .rcases dx.1 hy with h2|h2
   .rw[h1,h2]
   .have:=h.1 y.ref (List.mem_map_of_mem h2)
    rw[h1]at e;omega
  .rcases dx.1 hy with h2|h2
   .have:=h.1 x.ref (List.mem_map_of_mem h1)
    rw[h2]at e;omega
   .exact ih h.2 x h1 y h2 e
def BJ(g:ay->Int)(T:List ay)(r:Int):Int:=((T.find? (λx=>x.ref==r)).map g).getD 0
theorem jf{g:ay->Int}{T:List ay}(h:bF T){t:ay}(ht:t∈T):BJ g T t.ref=g t:=by
 unfold BJ;cases e:T.find? (λx=>x.ref==t.ref)with
 |none=>
  have:=List.find?_eq_none.1 e t ht;simp at this
 |some y=>
  have h1:=List.mem_of_find?_eq_some e;have h2:=List.find?_some e;simp only[beq_iff_eq]at h2;rw[jH h y h1 t ht h2];rfl
theorem jD.refs{F T:List ay}{O:List aX}(h:jD F T O):T.map (·.ref)=F.map (·.ref):=by
 have:=congrArg (List.map (·.1)) h.rest;rw[List.map_map,List.map_map]at this;exact this
theorem jD.distinct{F T:List ay}{O:List aX}(h:jD F T O)(hd:bF F):bF T:=by unfold bF;rw[h.refs];exact hd
theorem jD.has{F T:List ay}{O:List aX}(h:jD F T O){f:ay}(hf:f∈F):∃t∈T,t.EU=f.EU:=by
 have h1:f.EU∈T.map ay.EU:=by rw[h.rest];exact List.mem_map_of_mem hf
 obtain⟨t,ht,e⟩:=cZ.1 h1;exact⟨t,ht,e⟩
theorem jD.had{F T:List ay}{O:List aX}(h:jD F T O){t:ay}(ht:t∈T):∃f∈F,f.EU=t.EU:=by
 have h1:t.EU∈F.map ay.EU:=by rw[<-h.rest];exact List.mem_map_of_mem ht
 obtain⟨f,hf,e⟩:=cZ.1 h1;exact⟨f,hf,e⟩
theorem jD.known{F T:List ay}{O:List aX}(h:jD F T O)(k:Known F O):Known T O:=λb hb=>by
 obtain⟨⟨x,hx,h1⟩,y,hy,h2⟩:=k b hb;obtain⟨x',hx',h3⟩:=h.has hx;obtain⟨y',hy',h4⟩:=h.has hy;exact⟨⟨x',hx',(j3 h3).trans h1⟩,y',hy',(j3 h4).trans h2⟩
theorem jD.Xt{F T T':List ay}{O:List aX}(h:jD F T O)(hd:bF T')(hk:Known T' O)(hF:∀f∈F,∃t∈T',t.ref=f.ref/\f.low<=t.low)(hc:∀b∈O,∀s∈T',∀t∈T',s.ref=b.ref->t.ref=b.next->s.low<=t.low){t t':ay}(ht:t∈T)(ht':t'∈T')(e:t.ref=t'.ref):t.low<=t'.low:=by
 have:=h.ajB (BJ (·.low) T') (λf hf=>by
  obtain⟨u,hu,h1,h2⟩:=hF f hf;rw[<-h1,jf hd hu];exact h2) (λb hb=>by
  obtain⟨⟨x,hx,h1⟩,y,hy,h2⟩:=hk b hb;rw[<-h1,<-h2,jf hd hx,jf hd hy];exact hc b hb x hx y hy h1 h2) t ht
 rw[e,jf hd ht']at this;exact this
theorem jD.Ta{F T T':List ay}{O:List aX}(h:jD F T O)(hd:bF T')(hk:Known T' O)(hF:∀f∈F,∃t∈T',t.ref=f.ref/\t.high<=f.high)(hc:∀b∈O,∀s∈T',∀t∈T',s.ref=b.ref->t.ref=b.next->s.high<=t.high){t t':ay}(ht:t∈T)(ht':t'∈T')(e:t.ref=t'.ref):t'.high<=t.high:=by
 have:=h.ajC (BJ (·.high) T') (λf hf=>by
  obtain⟨u,hu,h1,h2⟩:=hF f hf;rw[<-h1,jf hd hu];exact h2) (λb hb=>by
  obtain⟨⟨x,hx,h1⟩,y,hy,h2⟩:=hk b hb;rw[<-h1,<-h2,jf hd hx,jf hd hy];exact hc b hb x hx y hy h1 h2) t ht
 rw[e,jf hd ht']at this;exact this
theorem Tc:∀{T T':List ay},T.map ay.EU=T'.map ay.EU->bF T->(∀t∈T,∀t'∈T',t.ref=t'.ref->t.low=t'.low/\t.high=t'.high)->T=T'
 |[],[],_,_,_=>rfl
 |[],b::l,h,_,_=>by cases h
 |a::l,[],h,_,_=>by cases h
 |a::l,b::l',h,hd,he=>by
  rw[kN,kN]at h;injection h with h1 h2
  obtain⟨e1,e2⟩:=he a (by simp) b (by simp) (j3 h1);have hd2:bF l:=by unfold bF at hd⊢;rw[kN,wF]at hd;exact hd.2
  rw[ay.ext' h1 e1 e2,Tc h2 hd2 (λt ht t' ht'=>he t (kG _ ht) t' (kG _ ht'))]
theorem jD.unique{F T T':List ay}{O:List aX}(h:jD F T O)(h':jD F T' O)(hd:bF F)(hk:Known F O):T=T':=by
 have hF:∀f∈F,∃t∈T,t.ref=f.ref/\f.low<=t.low/\t.high<=f.high:=λf hf=>by
  obtain⟨t,ht,e⟩:=h.has hf;exact⟨t,ht,j3 e,h.leL f hf t ht (j3 e).symm,h.leH f hf t ht (j3 e).symm⟩
 have hF':∀f∈F,∃t∈T',t.ref=f.ref/\f.low<=t.low/\t.high<=f.high:=λf hf=>by
  obtain⟨t,ht,e⟩:=h'.has hf;exact⟨t,ht,j3 e,h'.leL f hf t ht (j3 e).symm,h'.leH f hf t ht (j3 e).symm⟩
 refine Tc (h.rest.trans h'.rest.symm) (h.distinct hd) λt ht t' ht' e=>?_;have a1:=h.Xt (h'.distinct hd) (h'.known hk) (λf hf=>by obtain⟨u,k1,k2,k3,_⟩:=hF' f hf;exact⟨u,k1,k2,k3⟩) h'.aaf ht ht' e;have a2:=h'.Xt (h.distinct hd) (h.known hk) (λf hf=>by obtain⟨u,k1,k2,k3,_⟩:=hF f hf;exact⟨u,k1,k2,k3⟩) h.aaf ht' ht e.symm;have a3:=h.Ta (h'.distinct hd) (h'.known hk) (λf hf=>by obtain⟨u,k1,k2,_,k3⟩:=hF' f hf;exact⟨u,k1,k2,k3⟩) h'.acP ht ht' e;have a4:=h'.Ta (h.distinct hd) (h.known hk) (λf hf=>by obtain⟨u,k1,k2,_,k3⟩:=hF f hf;exact⟨u,k1,k2,k3⟩) h.acP ht' ht e.symm;exact⟨by omega,by omega⟩
theorem lJ(L:List ay):bF (dI L):=by unfold bF;rw[vM];exact Ae L
theorem Gt{L:List ay}{x:ay}(h:x∈L):∃z∈dI L,z.ref=x.ref:=by
 have:x.ref∈(dI L).map (·.ref):=by rw[vM,Ay];exact⟨x,h,rfl⟩
 obtain⟨z,hz,e⟩:=cZ.1 this;exact⟨z,hz,e⟩
def pI(O OO:List aX):Prop:=OO.Pairwise FD/\∀x,x∈OO↔x∈O
theorem pI.unique{O OO OO':List aX}(h:pI O OO)(h':pI O OO'):OO=OO':=JH h.1 h'.1 (λx=>(h.2 x).trans (h'.2 x).symm)
structure tY(L:List ay)(O:List aX)(T:List ay)(OO:List aX):Prop where
 same:Ad L
 ord:pI O OO
 tight:jD (dI L) T OO
 le:∀t∈T,t.low<=t.high
def Xu(L:List ay)(O:List aX):Prop:=¬Ad L\/∃T OO,pI O OO/\jD (dI L) T OO/\∃t∈T,t.high<t.low
def xK(L:List ay)(O:List aX):Prop:=∀b∈O,(∃x∈L,x.ref=b.ref)/\∃x∈L,x.ref=b.next
theorem xK.known{L:List ay}{O OO:List aX}(h:xK L O)(ho:pI O OO):Known (dI L) OO:=λb hb=>by
 obtain⟨⟨x,hx,h1⟩,y,hy,h2⟩:=h b ((ho.2 b).1 hb);obtain⟨x',k1,k2⟩:=Gt hx;obtain⟨y',k3,k4⟩:=Gt hy;exact⟨⟨x',k1,k2.trans h1⟩,y',k3,k4.trans h2⟩
theorem tY.Td{L:List ay}{O:List aX}{T:List ay}{OO:List aX}(h:tY L O T OO)(hk:xK L O):¬Xu L O:=by
 rintro(h1|⟨T',O',h1,h2,t,ht,h3⟩)
 .exact h1 h.same
 .obtain rfl:=h.ord.unique h1
  obtain rfl:=h.tight.unique h2 (lJ L) (hk.known h.ord);have:=h.le t ht;omega
theorem tY.unique{L:List ay}{O:List aX}{T T':List ay}{OO OO':List aX}(h:tY L O T OO)(h':tY L O T' OO')(hk:xK L O):T=T'/\OO=OO':=by
 obtain rfl:=h.ord.unique h'.ord;exact⟨h.tight.unique h'.tight (lJ L) (hk.known h.ord),rfl⟩
section
variable {A B T1 T:List ay} {O1 OO:List aX}
end
theorem JI{T:List ay}(h:bF T){t:ay}(ht:t∈T):look T t.ref=some t:=by
 rcases BH T t.ref with⟨_,h2⟩|⟨z,h1,h2⟩
 .exact absurd rfl (h2 t ht)
 .have only:∀x∈T,x.ref=t.ref->x=t:=λx hx e=>jH h x hx t ht e
  rw[h1];congr 1;obtain⟨a,ha,k1,k2⟩:=h2.act;obtain⟨b,hb,k3,k4⟩:=h2.low;obtain⟨c,hc,k5,k6⟩:=h2.high;obtain⟨d,hd,k7,k8⟩:=h2.filed;rw[only a ha k1]at k2;rw[only b hb k3]at k4;rw[only c hc k5]at k6;rw[only d hd k7]at k8;have ks:z.secret=t.secret:=by
   rw[Bool.eq_iff_iff,h2.sec];exact⟨λk=>k t ht rfl,λk x hx e=>by rw[only x hx e];exact k⟩
  refine ay.ext' ?_ k4.symm k6.symm;show(z.ref,z.act,z.filed,z.secret)=_;rw[h2.ref,<-k2,<-k8,ks];rfl
theorem qR{T:List ay}(h:bF T):dI T=T:=by
 have hk:keysOf T=T.map (·.ref):=(Ej (L:=T) h (λr=>by simp)).symm;unfold dI;rw[hk];have:∀S:List ay,(∀x∈S,x∈T)->(S.map (·.ref)).filterMap (look T)=S:=λS=>by
  induction S with
  |nil=>intro _;rfl
  |cons a l ih=>
   intro hS;rw[kN,List.filterMap_cons,JI h (hS a (by simp))];simp only;rw[ih (λx hx=>hS x (kG _ hx))]
 exact this T (λ_ hx=>hx)
def lexLt:List Int->List Int->Prop
 |a::l,b::m=>a<b\/(a=b/\lexLt l m)
 |_,_=>False
theorem Ku:∀l:List Int,¬lexLt l l
 |[]=>λh=>h
 |a::l=>λh=>by
  rcases h with h|⟨_,h⟩
  .omega
  .exact Ku l h
theorem Em:∀a b c:List Int,lexLt a b->lexLt b c->lexLt a c
 |x::a,y::b,z::c,h1,h2=>by
  rcases h1 with h1|⟨h1,h3⟩
  .rcases h2 with h2|⟨h2,_⟩
   .exact .inl (by omega)
   .exact .inl (by omega)
  .rcases h2 with h2|⟨h2,h4⟩
   .exact .inl (by omega)
   .exact .inr ⟨by omega,Em a b c h3 h4⟩
 |[],_,_,h1,_=>h1.elim
 |_::_,[],_,h1,_=>h1.elim
 |_::_,_::_,[],_,h2=>h2.elim
theorem Qz{A B:List (List Int)}(h1:A.Pairwise lexLt)(h2:B.Pairwise lexLt)(hm:∀x,x∈A↔x∈B):A=B:=ny Ku Em h1 h2 hm
structure Day(T:List ay)(OO:List aX)(u:Int)(day:Int->Int):Prop where
 lo:∀t∈T,min t.low u<=day t.ref
 hi:∀t∈T,day t.ref<=min t.high u
 ord:∀b∈OO,day b.ref<=day b.next
def qh(T:List ay)(day:Int->Int):List Int:=T.map (λt=>day t.ref)
structure rC(T:List ay)(OO:List aX)(u:Int)(Y:List (List Int)):Prop where
 sorted:Y.Pairwise lexLt
 mem:∀d,d∈Y↔∃day,d=qh T day/\Day T OO u day
theorem rC.unique{T:List ay}{OO:List aX}{u:Int}{Y Y':List (List Int)}(h:rC T OO u Y)(h':rC T OO u Y'):Y=Y':=
 Qz h.sorted h'.sorted (λd=>(h.mem d).trans (h'.mem d).symm)
theorem Day.some{T:List ay}{OO:List aX}{F:List ay}(u:Int)(h:jD F T OO)(hd:bF F)(hk:Known F OO)(hl:∀t∈T,t.low<=t.high):∃day,Day T OO u day:=by
 refine⟨λr=>min (BJ (·.low) T r) u,λt ht=>?_,λt ht=>?_,λb hb=>?_⟩
 .show min t.low u<=min (BJ (·.low) T t.ref) u
  rw[jf (h.distinct hd) ht];exact iY _
 .show min (BJ (·.low) T t.ref) u<=min t.high u
  rw[jf (h.distinct hd) ht];have:=hl t ht;omega
 .show min (BJ (·.low) T b.ref) u<=min (BJ (·.low) T b.next) u
  obtain⟨⟨x,hx,h1⟩,y,hy,h2⟩:=h.known hk b hb;rw[<-h1,<-h2,jf (h.distinct hd) hx,jf (h.distinct hd) hy];have:=h.aaf b hb x hx y hy h1 h2;omega
def fU(F:List ay)(D:List Int)(d:Int):List Int:=((F.zip D).filter (λp=>p.2==d)).map (λp=>p.1.ref)
def jN(F:List ay)(r:Int):Int:=((F.find? (λx=>x.ref==r)).map (·.act)).getD 0
def nC(l:List Int):List Int:=l.foldl (λk x=>zO x k) []
theorem Az(l:List Int)(x:Int):nC (l++[x])=zO x (nC l):=by unfold nC;rw[uG];rfl
theorem Lu(l:List Int):(nC l).Pairwise (· < ·):=by
 induction l using qQ with
 |h0=>exact List.Pairwise.nil
 |h1 l x ih=>rw[Az];exact xH _ _ ih
theorem rD(l:List Int)(r:Int):r∈nC l↔r∈l:=by
 induction l using qQ with
 |h0=>simp[nC]
 |h1 l x ih=>rw[Az,BI,ih,jU,eB];exact Or.comm
theorem NP{A B:List Int}(h1:A.Pairwise (· < ·))(h2:B.Pairwise (· < ·))(hm:∀x,x∈A↔x∈B):A=B:=ny (λa h=>Int.lt_irrefl a h) (λ_ _ _=>Int.lt_trans) h1 h2 hm
def xL(F:List ay)(D:List Int)(d:Int):List Int:=(nC (fU F D d)).map (jN F)++[-1]
def blocks(F:List ay)(D:List Int)(n:Nat):List Int:=(List.range n).flatMap (λd:Nat=>xL F D (d:Int))
def fJ(F:List ay):Prop:=(F.map (·.ref)).Nodup
theorem bF.aag{F:List ay}(h:bF F):fJ F:=List.Pairwise.imp (λh=>by omega) h
instance (F:List ay):Decidable (fJ F):=inferInstanceAs (Decidable (List.Nodup _))
def gY(F:List ay)(D:List Int)(u:Int):List Int:=
 if F.length=D.length/\0<=u/\u<=2000/\fJ F then blocks F D u.toNat else[]
theorem Gu{F:List ay}{D:List Int}{u:Int}(h1:F.length=D.length)(h2:0<=u)(h3:u<=2000)(h4:fJ F):gY F D u=blocks F D u.toNat:=by unfold gY;rw[if_pos ⟨h1,h2,h3,h4⟩]
theorem pJ(F:List ay)(D:List Int)(n:Nat):blocks F D (n+1)=blocks F D n++xL F D n:=by
 unfold blocks;rw[List.range_succ,Bt];simp
theorem vN{F:List ay}{D:List Int}{d r:Int}:r∈fU F D d↔∃(i:Nat)(x:ay),F[i]?=some x/\D[i]?=some d/\x.ref=r:=by
 unfold fU;simp only[cZ,List.mem_filter,Prod.exists,beq_iff_eq];constructor
 .rintro⟨x,e,⟨h1,rfl⟩,rfl⟩
  obtain⟨i,hi,he⟩:=List.mem_iff_getElem.1 h1;rw[List.getElem_zip]at he;rw[List.length_zip]at hi;injection he with e1 e2
  exact⟨i,x,by rw[aS (by omega),e1],by rw[aS (by omega),e2],rfl⟩
 .rintro⟨i,x,h1,h2,rfl⟩
  obtain⟨k1,k2⟩:=bB.1 h1;obtain⟨k3,k4⟩:=bB.1 h2;refine⟨x,d,⟨List.mem_iff_getElem.2 ⟨i,by rw[List.length_zip];omega,?_⟩,rfl⟩,rfl⟩;rw[List.getElem_zip,k2,k4]
theorem Gv{F:List ay}(h:fJ F):∀x∈F,∀y∈F,x.ref=y.ref->x=y:=by
 unfold fJ at h;induction F with
 |nil=>intro x hx;cases hx
 |cons a l ih=>
  rw[kN,List.nodup_cons]at h;intro x hx y hy e;rcases dx.1 hx with h1|h1
  .rcases dx.1 hy with h2|h2
   .rw[h1,h2]
   .exact absurd (by rw[<-h1,e];exact List.mem_map_of_mem h2) h.1
  .rcases dx.1 hy with h2|h2
   .exact absurd (by rw[<-h2,<-e];exact List.mem_map_of_mem h1) h.1
   .exact ih h.2 x h1 y h2 e
theorem Da{F:List ay}(h:fJ F){x:ay}(hx:x∈F):jN F x.ref=x.act:=by
 unfold jN;cases e:F.find? (λy=>y.ref==x.ref)with
 |none=>have:=List.find?_eq_none.1 e x hx;simp at this
 |some y=>
  have h1:=List.mem_of_find?_eq_some e;have h2:=List.find?_some e;simp only[beq_iff_eq]at h2;rw[Gv h y h1 x hx h2];rfl
def Lv(F:List ay):Prop:=∀x∈F,0<=x.act
theorem Gw{F:List ay}(h:Lv F)(hn:fJ F)(D:List Int)(d:Int):∀a∈(nC (fU F D d)).map (jN F),a≠ -1:=λa ha=>by
 obtain⟨r,hr,rfl⟩:=cZ.1 ha;rw[rD,vN]at hr;obtain⟨i,x,h1,_,rfl⟩:=hr;have hx:=cK h1;rw[Da hn hx];have:=h x hx;omega
theorem Kv{x:Int}:∀{l:List Int},x∉l->(zO x l).Perm (x::l)
 |[],_=>.refl _
 |k::l,h=>by
  unfold zO;by_cases h1:x<k
  .rw[if_pos h1]
  .rw[if_neg h1,if_neg (λe=>h (by rw[e];simp))]
   exact((Kv (λe=>h (kG _ e))).cons k).trans (List.Perm.swap x k l)
theorem Gx{l:List Int}(h:l.Nodup):(nC l).Perm l:=by
 induction l using qQ with
 |h0=>exact .refl _
 |h1 l x ih=>
  rw[List.nodup_append]at h;rw[Az];have hx:x∉nC l:=λe=>h.2.2 x ((rD l x).1 e) x (by simp) rfl;exact(Kv hx).trans (((ih h.1).cons x).trans (List.perm_append_singleton x l).symm)
theorem BK{F:List ay}(h:fJ F){D:List Int}(hl:F.length=D.length)(d:Int):(fU F D d).Nodup:=by
 unfold fU fJ at*;have h1:((F.zip D).map (λp=>p.1.ref)).Nodup:=by
  have:(F.zip D).map (λp=>p.1.ref)=((F.zip D).map (·.1)).map (·.ref):=by rw[List.map_map];rfl
  rw[this,List.map_fst_zip (by omega)];exact h
 exact h1.sublist (List.Sublist.map _ List.filter_sublist)
theorem xM:∀{F:List ay}{D:List Int},F.length=D.length->∀(q:Int->Bool),(F.zip D).countP (λp=>q p.2)=D.countP q
 |[],[],_,_=>rfl
 |_::_,[],h,_=>by simp at h
 |[],_::_,h,_=>by simp at h
 |x::F,d::D,h,q=>by
  rw[List.zip_cons_cons,List.countP_cons,List.countP_cons,xM (by simpa using h) q]
theorem Lx{F:List ay}{D:List Int}(hl:F.length=D.length)(h:fJ F)(d:Int):(xL F D d).length=D.countP (·==d)+1:=by
 unfold xL;rw[mU,dU,(Gx (BK h hl d)).length_eq];unfold fU;rw[dU,<-List.countP_eq_length_filter,xM hl (λe=>e==d)];rfl
theorem Gy(D:List Int)(n:Nat):D.countP (λe=>decide (0<=e)&&decide (e<((n+1:Nat):Int)))=D.countP (λe=>decide (0<=e)&&decide (e<(n:Int)))+D.countP (·==(n:Int)):=by
 induction D with
 |nil=>rfl
 |cons e D ih=>
  rw[List.countP_cons,List.countP_cons,List.countP_cons,ih];have:(if(decide (0<=e)&&decide (e<((n+1:Nat):Int)))=true then 1 else 0)=(if(decide (0<=e)&&decide (e<(n:Int)))=true then 1 else 0)+(if(e==(n:Int))=true then 1 else 0):=by
   simp only[bS,decide_eq_true_eq,beq_iff_eq];by_cases h1:0<=e/\e<((n+1:Nat):Int)
   .rw[if_pos h1]
    by_cases h2:e=n
    .rw[if_neg (by omega),if_pos h2]
    .rw[if_pos (by omega),if_neg h2]
   .rw[if_neg h1,if_neg (by omega),if_neg (by omega)]
  omega
theorem JJ{F:List ay}{D:List Int}(hl:F.length=D.length)(h:fJ F)(n:Nat):(blocks F D n).length=D.countP (λe=>decide (0<=e)&&decide (e<(n:Int)))+n:=by
 induction n with
 |zero=>
  have:D.countP (λe=>decide (0<=e)&&decide (e<((0:Nat):Int)))=0:=by
   rw[List.countP_eq_zero];intro e _;simp only[bS,decide_eq_true_eq];omega
  rw[this];rfl
 |succ n ih=>rw[pJ,mU,ih,Lx hl h,Gy];omega
structure Qc(n:Nat)(lo hi:Nat->Int)(P:List (Nat×Nat)):Prop where
 le:∀i,i<n->lo i<=hi i
 clL:∀p∈P,lo p.1<=lo p.2
 clH:∀p∈P,hi p.1<=hi p.2
 inn:∀p∈P,p.1<n/\p.2<n
structure Val(n:Nat)(lo hi:Nat->Int)(P:List (Nat×Nat))(d:Nat->Int):Prop where
 lo:∀i,i<n->lo i<=d i
 hi:∀i,i<n->d i<=hi i
 ord:∀p∈P,d p.1<=d p.2
def setAt(f:Nat->Int)(a:Nat)(v:Int):Nat->Int:=λi=>if i=a then v else f i
theorem fD(f:Nat->Int)(a:Nat)(v:Int):setAt f a v a=v:=by unfold setAt;rw[if_pos rfl]
theorem fG(f:Nat->Int){a x:Nat}(v:Int)(h:x≠a):setAt f a v x=f x:=by unfold setAt;rw[if_neg h]
structure Up(n:Nat)(lo hi:Nat->Int)(P:List (Nat×Nat))(a:Nat)(v:Int)(lo':Nat->Int)(later:List Nat):Prop where
 nd:later.Nodup
 lt:∀x∈later,x<n
 has:a∈later
 vat:lo' a=v
 ge:∀x,lo x<=lo' x
 alt:∀x,lo' x=lo x\/(lo' x=v/\lo x<v)
 hv:∀x∈later,v<=lo' x/\v<=hi x
 chg:∀x,lo' x≠lo x->x∈later
 val:∀d,Val n lo hi P d->d a=v->∀x,x<n->lo' x<=d x
theorem Up.start{n:Nat}{lo hi:Nat->Int}{P:List (Nat×Nat)}{a:Nat}{v:Int}(ha:a<n)(h1:lo a<=v)(h2:v<=hi a):Up n lo hi P a v (setAt lo a v) [a]:=by
 have hx:∀x,setAt lo a v x=if x=a then v else lo x:=λ_=>rfl
 refine⟨by simp,λx h=>by rw[eB.1 h];exact ha,by simp,fD _ _ _,λx=>?_,λx=>?_,λx h=>?_,λx h=>?_,λd hd he x hxn=>?_⟩
 .rw[hx];by_cases e:x=a
  .rw[if_pos e,e];exact h1
  .rw[if_neg e];exact iY _
 .rw[hx];by_cases e:x=a
  .rw[if_pos e,e];by_cases e2:lo a=v
   .exact .inl e2.symm
   .exact .inr ⟨rfl,by omega⟩
  .rw[if_neg e];exact .inl rfl
 .rw[eB.1 h,fD];exact⟨iY _,h2⟩
 .rw[hx]at h;by_cases e:x=a
  .rw[e];simp
  .rw[if_neg e]at h;exact absurd rfl h
 .rw[hx];by_cases e:x=a
  .rw[if_pos e,e,he];exact iY _
  .rw[if_neg e];exact hd.lo x hxn
theorem Up.step{n:Nat}{lo hi:Nat->Int}{P:List (Nat×Nat)}{a:Nat}{v:Int}{lo':Nat->Int}{later:List Nat}(h:Up n lo hi P a v lo' later)(hB:Qc n lo hi P){y b:Nat}(hy:y∈later)(hp:(y,b)∈P):
 (v<=lo' b/\max (lo' b) v=lo' b)\/(lo' b<v/\max (lo' b) v=v/\b∉later/\Up n lo hi P a v (setAt lo' b v) (later++[b])):=by
 by_cases c:v<=lo' b
 .exact .inl ⟨c,by omega⟩
 .have hb:b∉later:=λe=>c (h.hv b e).1
  have e0:lo' b=lo b:=by
   rcases h.alt b with e|⟨e,_⟩
   .exact e
   .omega
  have hx:∀x,setAt lo' b v x=if x=b then v else lo' x:=λ_=>rfl
  have hab:a≠b:=λe=>hb (e▸h.has);refine .inr ⟨by omega,by omega,hb,?_,λx hx'=>?_,jU.2 (.inl h.has),by rw[fG _ _ hab];exact h.vat,λx=>?_,λx=>?_,λx hx'=>?_,λx hx'=>?_,λd hd he x hxn=>?_⟩
  .rw[List.nodup_append]
   exact⟨h.nd,by simp,λx h1 y h2=>by rw[eB.1 h2];exactλe=>hb (e▸h1)⟩
  .rcases jU.1 hx' with k|k
   .exact h.lt x k
   .rw[eB.1 k];exact(hB.inn _ hp).2
  .rw[hx];by_cases e:x=b
   .rw[if_pos e,e];omega
   .rw[if_neg e];exact h.ge x
  .rw[hx];by_cases e:x=b
   .rw[if_pos e,e];exact .inr ⟨rfl,by omega⟩
   .rw[if_neg e];exact h.alt x
  .rw[hx];by_cases e:x=b
   .rw[if_pos e,e]
    have k1:=(h.hv y hy).2;have k2:=hB.clH _ hp;simp only at k2;exact⟨iY _,by omega⟩
   .rw[if_neg e]
    rcases jU.1 hx' with k|k
    .exact h.hv x k
    .exact absurd (eB.1 k) e
  .rw[hx]at hx';by_cases e:x=b
   .rw[e];simp
   .rw[if_neg e]at hx';exact jU.2 (.inl (h.chg x hx'))
  .rw[hx];by_cases e:x=b
   .rw[if_pos e,e]
    have k1:=h.val d hd he y (h.lt y hy);have k2:=(h.hv y hy).1;have k3:=hd.ord _ hp;simp only at k3;omega
   .rw[if_neg e];exact h.val d hd he x hxn
theorem Up.closed{n:Nat}{lo hi:Nat->Int}{P:List (Nat×Nat)}{a:Nat}{v:Int}{lo':Nat->Int}{later:List Nat}(h:Up n lo hi P a v lo' later)(hB:Qc n lo hi P)(hd:∀y∈later,∀b,(y,b)∈P->v<=lo' b):∀p∈P,lo' p.1<=lo' p.2:=λp hp=>by
 rcases h.alt p.1 with e|⟨e,e2⟩
 .rw[e];exact Int.le_trans (hB.clL p hp) (h.ge _)
 .rw[e];exact hd p.1 (h.chg _ (by omega)) p.2 hp
theorem Gz:∀(n:Nat)(l:List Nat),l.Nodup->(∀x∈l,x<n)->l.length<=n
 |0,l,_,h=>by
  cases l with
  |nil=>exact bJ _
  |cons a l=>exact absurd (h a (by simp)) (by omega)
 |n+1,l,hd,h=>by
  by_cases c:n∈l
  .have h1:=Gz n (l.erase n) (hd.erase n) (λx hx=>by
    have:=(hd.mem_erase_iff).1 hx;have:=h x this.2;omega)
   rw[List.length_erase_of_mem c]at h1;omega
  .have:=Gz n l hd (λx hx=>by
    have:=h x hx;have:x≠n:=λe=>c (e▸hx);omega)
   omega
theorem Up.length{n:Nat}{lo hi:Nat->Int}{P:List (Nat×Nat)}{a:Nat}{v:Int}{lo':Nat->Int}{later:List Nat}(h:Up n lo hi P a v lo' later):later.length<=n:=Gz n later h.nd h.lt
theorem chosen{n:Nat}{lo hi:Nat->Int}{P:List (Nat×Nat)}{a:Nat}{v:Int}{lo' hi':Nat->Int}{later earlier:List Nat}(hB:Qc n lo hi P)(ha:a<n)
 (hu:Up n lo hi P a v lo' later)(hud:∀y∈later,∀b,(y,b)∈P->v<=lo' b)
 (hw:Up n (λi=> - hi i) (λi=> - lo i) (P.map (λp=>(p.2,p.1))) a (-v) (λi=> - hi' i) earlier)(hwd:∀y∈earlier,∀b,(y,b)∈P.map (λp=>(p.2,p.1))-> -v<= - hi' b):
 Qc n lo' hi' P/\(∀d,Val n lo' hi' P d↔(Val n lo hi P d/\d a=v))/\lo' a=v/\hi' a=v/\∀i,lo i<=lo' i/\hi' i<=hi i:=by
 have hBn:Qc n (λi=> - hi i) (λi=> - lo i) (P.map (λp=>(p.2,p.1))):=by
  refine⟨λi hn=>by have:=hB.le i hn;omega,λp hp=>?_,λp hp=>?_,λp hp=>?_⟩;all_goals
   obtain⟨q,hq,rfl⟩:=cZ.1 hp;simp only
  .have:=hB.clH q hq;omega
  .have:=hB.clL q hq;omega
  .exact⟨(hB.inn q hq).2,(hB.inn q hq).1⟩
 have cl1:=hu.closed hB hud;have cl2:∀p∈P,hi' p.1<=hi' p.2:=λp hp=>by
  have:=hw.closed hBn hwd (p.2,p.1) (cZ.2 ⟨p,hp,rfl⟩);simp only at this;omega
 have e1:lo' a=v:=hu.vat;have e2:hi' a=v:=by have:=hw.vat;omega
 have g1:∀i,lo i<=lo' i:=hu.ge;have g2:∀i,hi' i<=hi i:=λi=>by have:=hw.ge i;omega
 have le':∀i,i<n->lo' i<=hi' i:=λi hn=>by
  have b0:=hB.le i hn;rcases hu.alt i with k1|⟨k1,k2⟩
  .by_cases c:hi' i= - (- hi i)
   .omega
   .have c2:=hw.chg i (by omega)
    have c3:=(hw.hv i c2).2;rcases hw.alt i with k3|⟨k3,k4⟩
    .omega
    .omega
  .have c1:=(hu.hv i (hu.chg i (by omega))).2
   rcases hw.alt i with k3|⟨k3,k4⟩
   .omega
   .omega
 refine⟨⟨le',cl1,cl2,hB.inn⟩,λd=>⟨λhd=>?_,λ⟨hd,he⟩=>?_⟩,e1,e2,λi=>⟨g1 i,g2 i⟩⟩
 .refine⟨⟨λi hn=>Int.le_trans (g1 i) (hd.lo i hn),λi hn=>Int.le_trans (hd.hi i hn) (g2 i),hd.ord⟩,?_⟩
  have:=hd.lo a ha;have:=hd.hi a ha;omega
 .have hdn:Val n (λi=> - hi i) (λi=> - lo i) (P.map (λp=>(p.2,p.1))) (λi=> - d i):=by
   refine⟨λi hn=>by have:=hd.hi i hn;omega,λi hn=>by have:=hd.lo i hn;omega,λp hp=>?_⟩;obtain⟨q,hq,rfl⟩:=cZ.1 hp;have:=hd.ord q hq;simp only;omega
  exact⟨λi hn=>hu.val d hd he i hn,λi hn=>by have:=hw.val _ hdn (by omega) i hn;omega,hd.ord⟩
structure kQ(n:Nat)(lo hi:Nat->Int)(P:List (Nat×Nat))(Y:List (List Int)):Prop where
 sorted:Y.Pairwise lexLt
 mem:∀l,l∈Y↔l.length=n/\Val n lo hi P (λi=>l.getD i 0)
structure qj(n:Nat)(lo hi:Nat->Int)(P:List (Nat×Nat))(k:Nat)(v:Int)(Y:List (List Int)):Prop where
 sorted:Y.Pairwise lexLt
 mem:∀l,l∈Y↔(l.length=n/\Val n lo hi P (λi=>l.getD i 0))/\l.getD k 0<v
theorem NQ:∀{l m:List Int}{k:Nat},k<l.length->l.length=m.length->(∀i,i<k->l.getD i 0=m.getD i 0)->l.getD k 0<m.getD k 0->lexLt l m
 |[],_,_,h,_,_,_=>by simp at h
 |a::l,[],_,_,h,_,_=>by simp at h
 |a::l,b::m,0,_,_,_,h=>.inl (by simpa using h)
 |a::l,b::m,k+1,h1,h2,h3,h4=>by
  have e:=h3 0 (by omega);simp only[List.getD_cons_zero]at e;refine .inr ⟨e,NQ (k:=k) (by simpa using h1) (by simpa using h2) (λi hi=>?_) (by simpa using h4)⟩;have:=h3 (i+1) (by omega);simpa using this
theorem BL{l m:List Int}(h:l.length=m.length)(he:∀i,i<l.length->l.getD i 0=m.getD i 0):l=m:=by
 refine List.ext_getElem h λi h1 h2=>?_;have:=he i h1;rw[F3,F3,aS h1,aS h2]at this;exact this
theorem kQ.one{n:Nat}{lo hi:Nat->Int}{P:List (Nat×Nat)}(hB:Qc n lo hi P)(h:∀i,i<n->lo i=hi i){l:List Int}(hl:l.length=n)(he:∀i,i<n->l.getD i 0=lo i):kQ n lo hi P [l]:=by
 refine⟨by simp,λm=>?_⟩;rw[eB];constructor
 .rintro rfl
  exact⟨hl,λi hi'=>by rw[he i hi'];exact iY _,λi hi'=>by rw[he i hi',h i hi'];exact iY _,λp hp=>by rw[he _ (hB.inn p hp).1,he _ (hB.inn p hp).2];exact hB.clL p hp⟩
 .rintro⟨h1,h2⟩
  refine BL (h1.trans hl.symm) (λi hi'=>?_);have a1:=h2.lo i (by omega);have a2:=h2.hi i (by omega);have a3:=h i (by omega);rw[he i (by omega)];omega
theorem qj.start(n:Nat)(lo hi:Nat->Int)(P:List (Nat×Nat)){k:Nat}(hk:k<n):qj n lo hi P k (lo k) []:=
 ⟨List.Pairwise.nil,λl=>⟨λh=>(by cases h),λ⟨⟨_,h⟩,h2⟩=>by have:=h.lo k hk;omega⟩⟩
theorem qj.step{n:Nat}{lo hi:Nat->Int}{P:List (Nat×Nat)}{k:Nat}{v:Int}{Y Z:List (List Int)}(h:qj n lo hi P k v Y)(hk:k<n)(hs:∀i,i<k->lo i=hi i){lo' hi':Nat->Int}(hZ:kQ n lo' hi' P Z)(hv:∀d,Val n lo' hi' P d↔(Val n lo hi P d/\d k=v)):qj n lo hi P k (v+1) (Y++Z):=by
 refine⟨?_,λl=>?_⟩
 .rw[List.pairwise_append]
  refine⟨h.sorted,hZ.sorted,λl hl m hm=>?_⟩;obtain⟨⟨l1,l2⟩,l3⟩:=(h.mem l).1 hl;obtain⟨m1,m2⟩:=(hZ.mem m).1 hm;obtain⟨m3,m4⟩:=(hv _).1 m2;refine NQ (k:=k) (by omega) (by omega) (λi hi'=>?_) (by omega);have a1:=l2.lo i (by omega);have a2:=l2.hi i (by omega);have a3:=m3.lo i (by omega);have a4:=m3.hi i (by omega);have a5:=hs i hi';omega
 .rw[jU,h.mem,hZ.mem,hv]
  constructor
  .rintro(⟨h1,h2⟩|⟨h1,h2,h3⟩)
   .exact⟨h1,by omega⟩
   .exact⟨⟨h1,h2⟩,by omega⟩
  .rintro⟨⟨h1,h2⟩,h3⟩
   by_cases c:l.getD k 0<v
   .exact .inl ⟨⟨h1,h2⟩,c⟩
   .exact .inr ⟨h1,h2,by omega⟩
theorem qj.done{n:Nat}{lo hi:Nat->Int}{P:List (Nat×Nat)}{k:Nat}{Y:List (List Int)}(h:qj n lo hi P k (hi k+1) Y)(hk:k<n):kQ n lo hi P Y:=
 ⟨h.sorted,λl=>(h.mem l).trans ⟨λh1=>h1.1,λh1=>⟨h1,by have:=h1.2.hi k hk;omega⟩⟩⟩
def idxOf(T:List ay)(r:Int):Nat:=T.findIdx (λx=>x.ref==r)
def bL(T:List ay)(OO:List aX):List (Nat×Nat):=OO.map (λb=>(idxOf T b.ref,idxOf T b.next))
theorem jg{T:List ay}(h:bF T){i:Nat}{t:ay}(ht:T[i]?=some t):idxOf T t.ref=i:=by
 obtain⟨hi,rfl⟩:=bB.1 ht;unfold idxOf;have h1:T.findIdx (λx=>x.ref==T[i].ref)<T.length:=List.findIdx_lt_length.2 ⟨T[i],zZ hi,by simp⟩;have h2:=List.findIdx_getElem (w:=h1);simp only[beq_iff_eq]at h2;have h3:=jH h _ (zZ h1) _ (zZ hi) h2;have hm:∀(j:Nat)(hj:j<T.length),(T.map (·.ref))[j]'(by rw[dU];exact hj)=T[j].ref:=λj hj=>List.getElem_map _;rcases Nat.lt_trichotomy (T.findIdx (λx=>x.ref==T[i].ref)) i with c|c|c
 .have:=(Ea.1 h) _ i (by rw[dU];exact h1) (by rw[dU];exact hi) c
  rw[hm _ h1,hm i hi,h2]at this;omega
 .exact c
 .have:=(Ea.1 h) i _ (by rw[dU];exact hi) (by rw[dU];exact h1) c
  rw[hm _ h1,hm i hi,h2]at this;omega
def JK(T:List ay)(u:Int)(i:Nat):Int:=min ((T.map (·.low)).getD i 0) u
def JM(T:List ay)(u:Int)(i:Nat):Int:=min ((T.map (·.high)).getD i 0) u
theorem getD_map{α:Type}{T:List α}{g:α->Int}{i:Nat}{t:α}(h:T[i]?=some t):(T.map g).getD i 0=g t:=by
 rw[F3,gK,h];rfl
theorem Qc.Xv{F T:List ay}{OO:List aX}(h:jD F T OO)(hd:bF F)(hk:Known F OO)(hl:∀t∈T,t.low<=t.high)(u:Int):Qc T.length (JK T u) (JM T u) (bL T OO):=by
 have hp:∀p∈bL T OO,∃b∈OO,∃(i j:Nat)(x y:ay),p=(i,j)/\T[i]?=some x/\T[j]?=some y/\x.ref=b.ref/\y.ref=b.next:=λp hp=>by
  obtain⟨b,hb,rfl⟩:=cZ.1 hp;obtain⟨⟨x,hx,e1⟩,y,hy,e2⟩:=h.known hk b hb;obtain⟨i,hi⟩:=w_ hx;obtain⟨j,hj⟩:=w_ hy;exact⟨b,hb,i,j,x,y,by rw[<-e1,<-e2,jg (h.distinct hd) hi,jg (h.distinct hd) hj],hi,hj,e1,e2⟩
 refine⟨λi hi=>?_,λp hq=>?_,λp hq=>?_,λp hq=>?_⟩
 .unfold JK JM
  have e:T[i]?=some T[i]:=aS hi;rw[getD_map e,getD_map e];have:=hl _ (zZ hi);omega
 all_goals
  obtain⟨b,hb,i,j,x,y,rfl,hi,hj,e1,e2⟩:=hp p hq;have mx:=cK hi;have my:=cK hj
 .unfold JK
  simp only;rw[getD_map hi,getD_map hj];have:=h.aaf b hb x mx y my e1 e2;omega
 .unfold JM
  simp only;rw[getD_map hi,getD_map hj];have:=h.acP b hb x mx y my e1 e2;omega
 .exact⟨(bB.1 hi).1,(bB.1 hj).1⟩
theorem kQ.choices{F T:List ay}{OO:List aX}{u:Int}{Y:List (List Int)}(h:jD F T OO)(hd:bF F)(hk:Known F OO)(hY:kQ T.length (JK T u) (JM T u) (bL T OO) Y):rC T OO u Y:=by
 have dT:=h.distinct hd;refine⟨hY.sorted,λl=>(hY.mem l).trans ⟨λ⟨h1,h2⟩=>?_,?_⟩⟩
 .refine⟨λr=>l.getD (idxOf T r) 0,?_,λt ht=>?_,λt ht=>?_,λb hb=>?_⟩
  .refine BL (by unfold qh;rw[dU];exact h1) (λi hi=>?_)
   have e:T[i]?=some (T[i]'(by omega)):=aS _;unfold qh;rw[getD_map e];show l.getD i 0=l.getD (idxOf T (T[i]'(by omega)).ref) 0;rw[jg dT e]
  .obtain⟨i,hi⟩:=w_ ht
   have:=h2.lo i (bB.1 hi).1;unfold JK at this;rw[getD_map hi]at this;rw[jg dT hi];exact this
  .obtain⟨i,hi⟩:=w_ ht
   have:=h2.hi i (bB.1 hi).1;unfold JM at this;rw[getD_map hi]at this;rw[jg dT hi];exact this
  .exact h2.ord _ (cZ.2 ⟨b,hb,rfl⟩)
 .rintro⟨day,rfl,h2⟩
  have hg:∀{i:Nat}{t:ay},T[i]?=some t->(qh T day).getD i 0=day t.ref:=λhi=>getD_map hi;refine⟨by unfold qh;rw[dU],λi hi=>?_,λi hi=>?_,λp hp=>?_⟩
  .have e:T[i]?=some T[i]:=aS hi
   unfold JK;rw[getD_map e,hg e];exact h2.lo _ (zZ hi)
  .have e:T[i]?=some T[i]:=aS hi
   unfold JM;rw[getD_map e,hg e];exact h2.hi _ (zZ hi)
  .obtain⟨b,hb,rfl⟩:=cZ.1 hp
   obtain⟨⟨x,hx,e1⟩,y,hy,e2⟩:=h.known hk b hb;obtain⟨i,hi⟩:=w_ hx;obtain⟨j,hj⟩:=w_ hy;simp only;rw[<-e1,<-e2,jg dT hi,jg dT hj,hg hi,hg hj,e1,e2];exact h2.ord b hb
def ay.GA(y:ay)(v:Int):ay:={y with low:=v}
def ay.BM(y:ay)(v:Int):ay:={y with high:=v}
def jE(F:List ay)(p:Nat×Nat):List ay:=match F[p.1]?,F[p.2]? with
 |some x,some y=>F.set p.2 (y.GA (max y.low x.low))
 |_,_=>F
def l7(F:List ay)(p:Nat×Nat):List ay:=match F[p.1]?,F[p.2]? with
 |some x,some y=>F.set p.1 (x.BM (min x.high y.high))
 |_,_=>F
theorem NR{F:List ay}{p:Nat×Nat}{x y:ay}(hx:F[p.1]?=some x)(hy:F[p.2]?=some y):jE F p=F.set p.2 (y.GA (max y.low x.low)):=by unfold jE;rw[hx,hy]
theorem NS{F:List ay}{p:Nat×Nat}{x y:ay}(hx:F[p.1]?=some x)(hy:F[p.2]?=some y):l7 F p=F.set p.1 (x.BM (min x.high y.high)):=by unfold l7;rw[hx,hy]
def BN(P:List (Nat×Nat))(F:List ay):List ay:=P.reverse.foldl l7 (P.foldl jE F)
structure Less(F F':List ay):Prop where
 rest:F'.map ay.EU=F.map ay.EU
 le:∀(i:Nat)(x x':ay),F[i]?=some x->F'[i]?=some x'->x.low<=x'.low/\x'.high<=x.high
theorem Less.refl(F:List ay):Less F F:=⟨rfl,λi x x' h h'=>by rw[h]at h';cases h';exact⟨iY _,iY _⟩⟩
theorem Less.length{F F':List ay}(h:Less F F'):F'.length=F.length:=by have:=congrArg List.length h.rest;simpa using this
theorem Less.get{F F':List ay}(h:Less F F'){i:Nat}{x:ay}(hx:F[i]?=some x):∃x',F'[i]?=some x'/\x'.EU=x.EU/\x.low<=x'.low/\x'.high<=x.high:=by
 have hi:i<F'.length:=by rw[h.length];exact(bB.1 hx).1
 have hx':=aS hi;have hr:=congrArg (·[i]?) h.rest;simp only[gK,hx,hx',mZ,Option.some.injEq]at hr;exact⟨_,hx',hr,h.le i x _ hx hx'⟩
theorem Less.back{F F':List ay}(h:Less F F'){i:Nat}{x':ay}(hx:F'[i]?=some x'):∃x,F[i]?=some x/\x'.EU=x.EU/\x.low<=x'.low/\x'.high<=x.high:=by
 have hi:i<F.length:=by rw[<-h.length];exact(bB.1 hx).1
 obtain⟨y,h1,h2⟩:=h.get (aS hi);rw[hx]at h1;cases h1
 exact⟨_,aS hi,h2⟩
theorem Less.trans{F G H:List ay}(h:Less F G)(k:Less G H):Less F H:=⟨k.rest.trans h.rest,λi x x' hx hx'=>by
 obtain⟨y,hy,_,h1,h2⟩:=h.get hx;have:=k.le i y x' hy hx';omega⟩
theorem NT{F:List ay}{i:Nat}{x x':ay}(hx:F[i]?=some x)(hr:x'.EU=x.EU)(h1:x.low<=x'.low)(h2:x'.high<=x.high):Less F (F.set i x'):=by
 have hi:=(bB.1 hx).1;refine⟨?_,λj y y' hy hy'=>?_⟩
 .apply lX
  intro j;rw[gK,gK,j_];by_cases e:i=j
  .subst e
   rw[if_pos rfl,if_pos hi,hx];simp[hr]
  .rw[if_neg e]
 .rw[j_]at hy'
  by_cases e:i=j
  .subst e
   rw[if_pos rfl,if_pos hi]at hy';rw[hx]at hy;cases hy;cases hy'
   exact⟨h1,h2⟩
  .rw[if_neg e,hy]at hy'
   cases hy'
   exact⟨iY _,iY _⟩
theorem QA(F:List ay)(p:Nat×Nat):Less F (jE F p):=by
 unfold jE;split
 .rename_i x y hx hy
  exact NT hy rfl (by show y.low<=max y.low x.low;omega) (iY _)
 .exact Less.refl F
theorem QB(F:List ay)(p:Nat×Nat):Less F (l7 F p):=by
 unfold l7;split
 .rename_i x y hx hy
  exact NT hx rfl (iY _) (by show min x.high y.high<=x.high;omega)
 .exact Less.refl F
theorem jB(P:List (Nat×Nat))(F:List ay):Less F (P.foldl jE F):=by
 induction P generalizing F with
 |nil=>exact Less.refl F
 |cons p P ih=>exact(QA F p).trans (ih _)
theorem mK(P:List (Nat×Nat))(F:List ay):Less F (P.foldl l7 F):=by
 induction P generalizing F with
 |nil=>exact Less.refl F
 |cons p P ih=>exact(QB F p).trans (ih _)
theorem QC(P:List (Nat×Nat))(F:List ay):Less F (BN P F):=(jB P F).trans (mK _ _)
def xO(P:List (Nat×Nat))(m:Nat->Int):Prop:=∀p∈P,m p.1<=m p.2
def tZ(m:Nat->Int)(F:List ay):Prop:=∀(i:Nat)(x:ay),F[i]?=some x->x.low<=m i
def oQ(m:Nat->Int)(F:List ay):Prop:=∀(i:Nat)(x:ay),F[i]?=some x->m i<=x.high
theorem FI{F:List ay}{i:Nat}{x':ay}{j:Nat}{y:ay}(h:(F.set i x')[j]?=some y):(j=i/\y=x')\/(j≠i/\F[j]?=some y):=by
 rw[j_]at h;by_cases e:i=j
 .subst e
  rw[if_pos rfl]at h;split at h
  .cases h;exact .inl ⟨rfl,rfl⟩
  .cases h
 .rw[if_neg e]at h
  exact .inr ⟨λk=>e k.symm,h⟩
theorem QD{m:Nat->Int}{F:List ay}{p:Nat×Nat}(hp:m p.1<=m p.2)(h:tZ m F):tZ m (jE F p):=by
 unfold jE;split
 .rename_i x y hx hy
  intro j z hz;rcases FI hz with⟨rfl,rfl⟩|⟨_,hz⟩
  .have h1:=h _ _ hx
   have h2:=h _ _ hy;show max y.low x.low<=_;omega
  .exact h j z hz
 .exact h
theorem NU{m:Nat->Int}{F:List ay}{p:Nat×Nat}(h:oQ m F):oQ m (jE F p):=by
 unfold jE;split
 .rename_i x y hx hy
  intro j z hz;rcases FI hz with⟨rfl,rfl⟩|⟨_,hz⟩
  .have h1:=h _ _ hy
   exact h1
  .exact h j z hz
 .exact h
theorem QE{m:Nat->Int}{F:List ay}{p:Nat×Nat}(h:tZ m F):tZ m (l7 F p):=by
 unfold l7;split
 .rename_i x y hx hy
  intro j z hz;rcases FI hz with⟨rfl,rfl⟩|⟨_,hz⟩
  .have h1:=h _ _ hx
   exact h1
  .exact h j z hz
 .exact h
theorem NV{m:Nat->Int}{F:List ay}{p:Nat×Nat}(hp:m p.1<=m p.2)(h:oQ m F):oQ m (l7 F p):=by
 unfold l7;split
 .rename_i x y hx hy
  intro j z hz;rcases FI hz with⟨rfl,rfl⟩|⟨_,hz⟩
  .have h1:=h _ _ hx
   have h2:=h _ _ hy;show _<=min x.high y.high;omega
  .exact h j z hz
 .exact h
theorem GD{m:Nat->Int}:∀{P:List (Nat×Nat)}{F:List ay},xO P m->tZ m F->tZ m (P.foldl jE F)
 |[],_,_,h=>h
 |p::P,_,hp,h=>GD (P:=P) (λq hq=>hp q (kG _ hq)) (QD (hp p (by simp)) h)
theorem En{m:Nat->Int}:∀{P:List (Nat×Nat)}{F:List ay},oQ m F->oQ m (P.foldl jE F)
 |[],_,h=>h
 |_::P,_,h=>En (P:=P) (NU h)
theorem GH{m:Nat->Int}:∀{P:List (Nat×Nat)}{F:List ay},tZ m F->tZ m (P.foldl l7 F)
 |[],_,h=>h
 |_::P,_,h=>GH (P:=P) (QE h)
theorem Eo{m:Nat->Int}:∀{P:List (Nat×Nat)}{F:List ay},xO P m->oQ m F->oQ m (P.foldl l7 F)
 |[],_,_,h=>h
 |p::P,_,hp,h=>Eo (P:=P) (λq hq=>hp q (kG _ hq)) (NV (hp p (by simp)) h)
theorem xO.reverse{P:List (Nat×Nat)}{m:Nat->Int}(h:xO P m):xO P.reverse m:=λp hp=>h p (List.mem_reverse.1 hp)
structure uN(P:List (Nat×Nat))(F T:List ay):Prop where
 less:Less F T
 Qx:∀m,xO P m->tZ m F->tZ m T
 Gs:∀m,xO P m->oQ m F->oQ m T
theorem uN.refl(P:List (Nat×Nat))(F:List ay):uN P F F:=⟨Less.refl F,λ_ _ h=>h,λ_ _ h=>h⟩
theorem uN.trans{P:List (Nat×Nat)}{F G H:List ay}(h:uN P F G)(k:uN P G H):uN P F H:=⟨h.less.trans k.less,λm hm x=>k.Qx m hm (h.Qx m hm x),λm hm x=>k.Gs m hm (h.Gs m hm x)⟩
theorem xP(P:List (Nat×Nat))(F:List ay):uN P F (BN P F):=⟨QC P F,λ_ hm h=>GH (GD hm h),λ_ hm h=>Eo hm.reverse (En h)⟩
theorem QF{P:List (Nat×Nat)}{F:List ay}{p:Nat×Nat}(hp:p∈P){x y':ay}(hx:F[p.1]?=some x)(hlt:p.2<F.length)(hy:(P.foldl jE F)[p.2]?=some y'):x.low<=y'.low:=by
 obtain⟨A,B,rfl⟩:=List.append_of_mem hp;rw[uG,List.foldl_cons]at hy;obtain⟨x1,h1,_,h2,_⟩:=(jB A F).get hx;have hl:p.2<(A.foldl jE F).length:=by rw[(jB A F).length];exact hlt
 have hy1:=aS hl;generalize(A.foldl jE F)[p.2]=y1 at hy1;have hs:=NR h1 hy1;have hy2:(jE (A.foldl jE F) p)[p.2]?=some (y1.GA (max y1.low x1.low)):=by rw[hs,j_,if_pos rfl,if_pos hl]
 have h3:=((jB B _).le _ _ _ hy2 hy).1;have h4:max y1.low x1.low<=y'.low:=h3;omega
theorem QG{P:List (Nat×Nat)}{F:List ay}{p:Nat×Nat}(hp:p∈P){y x':ay}(hy:F[p.2]?=some y)(hlt:p.1<F.length)(hx:(P.foldl l7 F)[p.1]?=some x'):x'.high<=y.high:=by
 obtain⟨A,B,rfl⟩:=List.append_of_mem hp;rw[uG,List.foldl_cons]at hx;obtain⟨y1,h1,_,_,h2⟩:=(mK A F).get hy;have hl:p.1<(A.foldl l7 F).length:=by rw[(mK A F).length];exact hlt
 have hx1:=aS hl;generalize(A.foldl l7 F)[p.1]=x1 at hx1;have hs:=NS hx1 h1;have hx2:(l7 (A.foldl l7 F) p)[p.1]?=some (x1.BM (min x1.high y1.high)):=by rw[hs,j_,if_pos rfl,if_pos hl]
 have h3:=((mK B _).le _ _ _ hx2 hx).2;have h4:x'.high<=min x1.high y1.high:=h3;omega
def gap(M m:Int)(F:List ay):Nat:=(F.map (λx=>(M - x.low).toNat+(x.high - m).toNat)).sum
def QH(F F':List ay):Prop:=∀(i:Nat)(x x':ay),F[i]?=some x->F'[i]?=some x'->x.low<=x'.low/\x'.high<=x.high
theorem Xw{M m:Int}:∀{F F':List ay},F.length=F'.length->QH F F'->gap M m F'<=gap M m F
 |[],[],_,_=>bJ _
 |[],_::_,h,_=>by simp at h
 |_::_,[],h,_=>by simp at h
 |x::F,x'::F',hl,h=>by
  have h1:=h 0 x x' rfl rfl;have h2:=Xw (M:=M) (m:=m) (F:=F) (F':=F') (by simpa using hl) (λi y y' hy hy'=>h (i+1) y y' hy hy');unfold gap at h2⊢;simp only[kN,List.sum_cons];omega
theorem Xx{M m:Int}:∀{F F':List ay},F.length=F'.length->QH F F'->(∀x'∈F',x'.low<=M/\m<=x'.high)->(∃(i:Nat)(x x':ay),F[i]?=some x/\F'[i]?=some x'/\(x.low<x'.low\/x'.high<x.high))->gap M m F'<gap M m F
 |[],[],_,_,_,⟨i,x,x',h,_⟩=>by simp at h
 |[],_::_,h,_,_,_=>by simp at h
 |_::_,[],h,_,_,_=>by simp at h
 |x::F,x'::F',hl,h,hb,⟨i,y,y',hy,hy',hlt⟩=>by
  have h1:=h 0 x x' rfl rfl;have hl':F.length=F'.length:=by simpa using hl
  have hr:QH F F':=λi y y' hy hy'=>h (i+1) y y' hy hy';have hbx:=hb x' (by simp);cases i with
  |zero=>
   simp only[Bu,Option.some.injEq]at hy hy';subst hy hy';have h2:=Xw (M:=M) (m:=m) hl' hr;unfold gap at h2⊢;simp only[kN,List.sum_cons];omega
  |succ i=>
   have h2:=Xx (M:=M) (m:=m) hl' hr (λx hx=>hb x (kG _ hx)) ⟨i,y,y',by simpa using hy,by simpa using hy',hlt⟩;unfold gap at h2⊢;simp only[kN,List.sum_cons];omega
theorem UE(F:List ay):∃M m:Int,∀x∈F,x.low<=M/\m<=x.high:=by
 induction F with
 |nil=>exact⟨0,0,by simp⟩
 |cons x F ih=>
  obtain⟨M,m,h⟩:=ih;refine⟨max M x.low,min m x.high,λy hy=>?_⟩;rcases dx.1 hy with rfl|hy
  .omega
  .have:=h y hy;omega
theorem uN.bounded{P:List (Nat×Nat)}{F T:List ay}{M m:Int}(h:uN P F T)(hb:∀x∈F,x.low<=M/\m<=x.high):∀x∈T,x.low<=M/\m<=x.high:=λx hx=>by
 obtain⟨i,hi⟩:=jW.1 hx;exact⟨h.Qx (λ_=>M) (λ_ _=>iY _) (λj y hy=>(hb y (cK hy)).1) i x hi,h.Gs (λ_=>m) (λ_ _=>iY _) (λj y hy=>(hb y (cK hy)).2) i x hi⟩
theorem Kw{P:List (Nat×Nat)}{F:List ay}{M m:Int}(hb:∀x∈F,x.low<=M/\m<=x.high){p:Nat×Nat}(hp:p∈P){x y:ay}(hx:F[p.1]?=some x)(hy:F[p.2]?=some y)(h:y.low<x.low\/y.high<x.high):gap M m (BN P F)<gap M m F:=by
 have hs:=xP P F;refine Xx hs.less.length.symm hs.less.le (hs.bounded hb) ?_;have h1:=(bB.1 hx).1;have h2:=(bB.1 hy).1;have hl:=(jB P F).length;rcases h with h|h
 .obtain⟨y1,k1,_,k2,_⟩:=(jB P F).get hy
  have k3:=QF hp hx h2 k1;obtain⟨y2,k4,_,k5,_⟩:=(mK P.reverse (P.foldl jE F)).get k1;exact⟨p.2,y,y2,hy,k4,.inl (by omega)⟩
 .obtain⟨y1,k1,_,_,k2⟩:=(jB P F).get hy
  obtain⟨x1,k3,_,_,k4⟩:=(jB P F).get hx;obtain⟨x2,k5,_,_,k6⟩:=(mK P.reverse (P.foldl jE F)).get k3;have k7:=QG (List.mem_reverse.2 hp) k1 (by rw[hl];exact h1) k5;exact⟨p.1,x,x2,hx,k5,.inr (by omega)⟩
theorem Less.refs{F T:List ay}(h:Less F T):T.map (·.ref)=F.map (·.ref):=by
 have:=congrArg (List.map (·.1)) h.rest;rw[List.map_map,List.map_map]at this;exact this
theorem UF{F:List ay}{O:List aX}{b:aX}(hb:b∈O):(idxOf F b.ref,idxOf F b.next)∈bL F O:=cZ.2 ⟨b,hb,rfl⟩
theorem uN.tight{F T:List ay}{O:List aX}(h:uN (bL F O) F T)(hd:bF F)(hk:Known F O)(hc:∀p∈bL F O,∀x y,T[p.1]?=some x->T[p.2]?=some y->x.low<=y.low/\x.high<=y.high):jD F T O:=by
 have hdT:bF T:=by unfold bF;rw[h.less.refs];exact hd
 have at':∀{f t:ay}{i:Nat},F[i]?=some f->t∈T->f.ref=t.ref->T[i]?=some t:=λ{f t i} hf ht e=>by
  obtain⟨t',h1,h2,_⟩:=h.less.get hf;have e2:t'=t:=jH hdT t' (cK h1) t ht ((j3 h2).trans e);rw[<-e2];exact h1
 have clo:∀b∈O,∀s∈T,∀t∈T,s.ref=b.ref->t.ref=b.next->s.low<=t.low/\s.high<=t.high:=λb hb s hs t ht e1 e2=>by
  obtain⟨⟨x,hx,h1⟩,y,hy,h2⟩:=hk b hb;obtain⟨i,hi⟩:=jW.1 hx;obtain⟨j,hj⟩:=jW.1 hy;have q:=hc _ (UF (F:=F) hb) s t;rw[<-h1,<-h2,jg hd hi,jg hd hj]at q;exact q (at' hi hs (h1.trans e1.symm)) (at' hj ht (h2.trans e2.symm))
 have keeps:∀m:Int->Int,(∀b∈O,m b.ref<=m b.next)->xO (bL F O) (λi=>m ((F.map (·.ref)).getD i 0)):=λm hm p hp=>by
  obtain⟨b,hb,rfl⟩:=cZ.1 hp;obtain⟨⟨x,hx,h1⟩,y,hy,h2⟩:=hk b hb;obtain⟨i,hi⟩:=jW.1 hx;obtain⟨j,hj⟩:=jW.1 hy;show m ((F.map (·.ref)).getD (idxOf F b.ref) 0)<=m ((F.map (·.ref)).getD (idxOf F b.next) 0);rw[<-h1,<-h2,jg hd hi,jg hd hj,getD_map hi,getD_map hj,h1,h2];exact hm b hb
 refine⟨h.less.rest,λf hf t ht e=>?_,λf hf t ht e=>?_,λb hb s hs t ht e1 e2=>(clo b hb s hs t ht e1 e2).1,λb hb s hs t ht e1 e2=>(clo b hb s hs t ht e1 e2).2,λm hm hc t ht=>?_,λm hm hc t ht=>?_⟩
 .obtain⟨i,hi⟩:=jW.1 hf
  exact(h.less.le i f t hi (at' hi ht e)).1
 .obtain⟨i,hi⟩:=jW.1 hf
  exact(h.less.le i f t hi (at' hi ht e)).2
 .obtain⟨i,hi⟩:=jW.1 ht
  obtain⟨x,hx,hr,_⟩:=h.less.back hi;have q:=h.Qx _ (keeps m hc) (λj y hy=>by show _<=m _;rw[getD_map hy];exact hm y (cK hy)) i t hi;simp only at q;rw[getD_map hx,<-j3 hr]at q;exact q
 .obtain⟨i,hi⟩:=jW.1 ht
  obtain⟨x,hx,hr,_⟩:=h.less.back hi;have q:=h.Gs _ (keeps m hc) (λj y hy=>by show m _<=_;rw[getD_map hy];exact hm y (cK hy)) i t hi;simp only at q;rw[getD_map hx,<-j3 hr]at q;exact q
def NW:Nat->(Nat->Int)->(Nat->Int)->List (List Int)
 |0,_,_=>[[]]
 |n+1,lo,hi=>(List.range (hi 0+1 - lo 0).toNat).flatMap (λj:Nat=>(NW n (λi=>lo (i+1)) (λi=>hi (i+1))).map (λl=>(lo 0+(j:Int))::l))
theorem GI:∀(n:Nat)(lo hi:Nat->Int)(l:List Int),l∈NW n lo hi↔l.length=n/\∀i,i<n->lo i<=l.getD i 0/\l.getD i 0<=hi i
 |0,lo,hi,l=>by
  unfold NW;rw[eB];constructor
  .rintro rfl;exact⟨rfl,λi hi'=>absurd hi' (Nat.not_lt_zero _)⟩
  .rintro⟨h,_⟩;exact wZ h
 |n+1,lo,hi,l=>by
  unfold NW;simp only[Br,List.mem_range,cZ];constructor
  .rintro⟨j,hj,m,hm,rfl⟩
   obtain⟨h1,h2⟩:=(GI n _ _ m).1 hm;refine⟨by simp[h1],λi hi'=>?_⟩;cases i with
   |zero=>simp only[List.getD_cons_zero];omega
   |succ i=>simpa using h2 i (by omega)
  .rintro⟨h1,h2⟩
   cases l with
   |nil=>simp at h1
   |cons a l=>
    have h0:=h2 0 (by omega);simp only[List.getD_cons_zero]at h0;refine⟨(a - lo 0).toNat,by omega,l,(GI n _ _ l).2 ⟨by simpa using h1,λi hi'=>by simpa using h2 (i+1) (by omega)⟩,?_⟩;rw[show lo 0+((a - lo 0).toNat:Int)=a by omega]
theorem Ep:∀(n:Nat)(lo hi:Nat->Int),(NW n lo hi).Pairwise lexLt
 |0,lo,hi=>by unfold NW;simp
 |n+1,lo,hi=>by
  unfold NW;rw[List.pairwise_flatMap];refine⟨λj _=>?_,?_⟩
  .rw[List.pairwise_map]
   exact(Ep n _ _).imp (λh=>.inr ⟨rfl,h⟩)
  .refine(List.pairwise_lt_range).imp (λ{i j} h x hx y hy=>?_)
   obtain⟨l,_,rfl⟩:=cZ.1 hx;obtain⟨m,_,rfl⟩:=cZ.1 hy;exact .inl (by omega)
theorem kQ.ex(n:Nat)(lo hi:Nat->Int)(P:List (Nat×Nat)):∃Y,kQ n lo hi P Y:=by
 refine⟨(NW n lo hi).filter (λl=>P.all (λp=>decide (l.getD p.1 0<=l.getD p.2 0))),(Ep n lo hi).filter _,λl=>?_⟩;rw[List.mem_filter,GI];simp only[fV,decide_eq_true_eq];constructor
 .rintro⟨⟨h1,h2⟩,h3⟩
  exact⟨h1,λi hi'=>(h2 i hi').1,λi hi'=>(h2 i hi').2,h3⟩
 .rintro⟨h1,h2⟩
  exact⟨⟨h1,λi hi'=>⟨h2.lo i hi',h2.hi i hi'⟩⟩,h2.ord⟩
theorem Af{α:Type}[DecidableEq α]:∀{l m:List α},l.Nodup->(∀x∈l,x∈m)->l.length<=m.length
 |[],_,_,_=>aU _
 |a::l,m,hd,h=>by
  have h1:=List.nodup_cons.1 hd;have h2:=Af (l:=l) (m:=m.erase a) h1.2 (λx hx=>(List.mem_erase_of_ne (λe=>h1.1 (by rw[<-e];exact hx))).2 (h x (kG _ hx)));have h3:=h a (by simp);rw[List.length_erase_of_mem h3]at h2;have h4:0<m.length:=List.length_pos_of_mem h3;simp only[gV];omega
theorem BO:∀l:List Int,¬lexLt l l
 |[],h=>h.elim
 |a::l,h=>by
  rcases h with h|⟨_,h⟩
  .omega
  .exact BO l h
theorem qj.len{n:Nat}{lo hi:Nat->Int}{P:List (Nat×Nat)}{k:Nat}{v:Int}{Y Z:List (List Int)}(h:qj n lo hi P k v Y)(hZ:kQ n lo hi P Z):Y.length<=Z.length:=by
 refine Af (h.sorted.imp (λ{a b} hab e=>?_)) (λx hx=>(hZ.mem x).2 ((h.mem x).1 hx).1);subst e;exact BO _ hab
end Go.Proofs.YtpmdedcnbockhaaGreatDoor

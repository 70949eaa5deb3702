/- part -/
import Derived.Test.YtjoohkjmoghmoaaGreatDoorP07
set_option linter.all false
namespace Go.Proofs.YtjoohkjmoghmoaaGreatDoor
section
noncomputable section
def rk(r:List Int)(i:Nat):Int:=r.getD i (-1)
theorem rY{r:List Int}{i j:Nat}{x:Int}(hi:i<r.length):rk (r.set i x) j=if i=j then x else rk r j:=by
 unfold rk;rw[List.getD_eq_getElem?_getD,List.getD_eq_getElem?_getD,List.getElem?_set];by_cases h:i=j
 .rw[if_pos h,if_pos h,if_pos (by omega)];rfl
 .rw[if_neg h,if_neg h]
theorem pq{r:List Int}{i:Nat}{x:Int}(h:r[i]?=some x):rk r i=x:=by unfold rk;rw[List.getD_eq_getElem?_getD,h];rfl
theorem tV{r:List Int}{i:Nat}(h:i<r.length):r[i]?=some (rk r i):=by
 unfold rk;rw[List.getD_eq_getElem?_getD,List.getElem?_eq_getElem h];rfl
def mr(M:List (List (Int×Nat)))(i:Nat):List (Int×Nat):=M.getD i []
def nZ(M:List (List (Int×Nat)))(j:Nat):List Nat:=(List.range M.length).flatMap λi=>((mr M i).filter λx=>x.2==j).map λ_=>i
def hits(M:List (List (Int×Nat)))(i j:Nat):Nat:=((mr M i).filter λx=>x.2==j).length
theorem Js{l:List (Int×Nat)}{i k:Nat}:(l.map λ_=>i).count k=if k=i then l.length else 0:=by
 induction l with
 |nil=>simp
 |cons a l ih=>
  rw[List.map_cons,List.count_cons,ih];by_cases h:k=i
  .simp[h]
  .have:¬i=k:=λe=>h e.symm
   simp[h,this]
theorem Jt{M:List (List (Int×Nat))}{i j:Nat}(hi:i<M.length):(nZ M j).count i=hits M i j:=by
 unfold nZ hits;have key:∀n,((List.range n).flatMap λi=>((mr M i).filter λx=>x.2==j).map λ_=>i).count i=if i<n then((mr M i).filter λx=>x.2==j).length else 0:=by
  intro n;induction n with
  |zero=>simp
  |succ n ih=>
   rw[List.range_succ,List.flatMap_append,List.count_append,ih,List.flatMap_cons,List.flatMap_nil,List.append_nil,Js];by_cases h:i=n
   .subst h;simp
   .have h2:i<n+1↔i<n:=by omega
    simp[h,h2]
 rw[key,if_pos hi]
theorem H6{M:List (List (Int×Nat))}{i j:Nat}:i∈nZ M j↔i<M.length/\∃m,(m,j)∈mr M i:=by
 unfold nZ;rw[List.mem_flatMap];constructor
 .rintro⟨k,hk,hm⟩
  obtain⟨x,hx,rfl⟩:=List.mem_map.1 hm;have:=List.mem_filter.1 hx;refine⟨List.mem_range.1 hk,x.1,?_⟩;have e:x.2=j:=by simpa using this.2
  rw[<-e];exact this.1
 .rintro⟨hi,m,hm⟩
  exact⟨i,List.mem_range.2 hi,List.mem_map.2 ⟨(m,j),List.mem_filter.2 ⟨hm,by simp⟩,rfl⟩⟩
theorem H7{M:List (List (Int×Nat))}{i:Nat}:∀{L:List Nat},L.Nodup->(L.map (hits M i)).sum=((mr M i).filter λx=>L.contains x.2).length
 |[],_=>by rw[List.map_nil,List.sum_nil,List.filter_eq_nil_iff.2 (by simp)];rfl
 |j::L,h=>by
  rw[List.nodup_cons]at h;rw[List.map_cons,List.sum_cons,H7 h.2];unfold hits;generalize mr M i=l;induction l with
  |nil=>rfl
  |cons a l ih=>
   simp only[List.filter_cons];by_cases h1:a.2=j
   .subst h1
    have h2:L.contains a.2=false:=by simpa using h.1
    have h3:(a.2::L).contains a.2=true:=by simp
    simp only[h2,h3,beq_self_eq_true,if_true,Bool.false_eq_true,if_false,List.length_cons];omega
   .have h1b:(a.2==j)=false:=by simpa using h1
    cases h2:L.contains a.2 with
    |true=>
     have h3:(j::L).contains a.2=true:=by simp at h2⊢;exact .inr h2
     simp only[h1b,h3,if_true,Bool.false_eq_true,if_false,List.length_cons];omega
    |false=>
     have h3:(j::L).contains a.2=false:=by simp at h2⊢;exact⟨h1,h2⟩
     simp only[h1b,h3,Bool.false_eq_true,if_false];exact ih
theorem r9{M:List (List (Int×Nat))}{i:Nat}(hi:i<M.length){L:List Nat}(h:L.Nodup):(L.flatMap (nZ M)).count i=((mr M i).filter λx=>L.contains x.2).length:=by
 rw[<-H7 h];induction L with
 |nil=>simp
 |cons a L ih=>
  rw[List.nodup_cons]at h;rw[List.flatMap_cons,List.count_append,ih h.2,List.map_cons,List.sum_cons,Jt hi]
structure RI(C:aA)(party:Int)(P:List aR)(M:List (List (Int×Nat)))(r op:List Int)(Q E:List Nat)(n0:Nat):Prop where
 lr:r.length=P.length
 lo:op.length=P.length
 lm:M.length=P.length
 q:Q.Nodup
 qr:∀i,i∈Q↔i<P.length/\0<=rk r i
 neg:∀i, -1<=rk r i
 op:∀i,i<P.length->op.getD i 0=(mr M i).length - (E.count i:Int)
 lost:∀(i:Nat)(p:aR),P[i]?=some p->(rk r i=0↔anyFailed C p.st party=true)
 own:∀(i:Nat)(p:aR),P[i]?=some p->p.own=true->0<rk r i->∀m j,(m,j)∈mr M i->0<=rk r j/\rk r j<rk r i
 wS:∀(i:Nat)(p:aR),P[i]?=some p->p.own=false->0<rk r i->∃m j,(m,j)∈mr M i/\0<=rk r j/\rk r j<rk r i
 mono:Q.Pairwise λa b=>rk r a<=rk r b
 cl:∀(i:Nat)(p:aR),P[i]?=some p->rk r i= -1->(p.own=false->E.count i=0)/\(i<n0->p.own=true->E.count i≠(mr M i).length)
section
variable {C:aA} {party:Int} {P:List aR} {M:List (List (Int×Nat))} {r op:List Int} {Q E D:List Nat} {n0:Nat}
theorem RI.settle(a:RI C party P M r op Q E n0){f:Nat}{p:aR}{x:Int}(hf:P[f]?=some p)(hr:rk r f= -1)(hx:0<x)(hb:∀i∈Q,rk r i<=x)
 (h1:p.own=true->∀m j,(m,j)∈mr M f->0<=rk r j/\rk r j<x)(h2:p.own=false->∃m j,(m,j)∈mr M f/\0<=rk r j/\rk r j<x):RI C party P M (r.set f x) op (Q++[f]) E n0:=by
 have hl:=(List.getElem?_eq_some_iff.1 hf).1;have hl2:f<r.length:=by rw[a.lr];exact hl
 have nQ:f∉Q:=λh=>by have:=((a.qr f).1 h).2;omega
 have ne:∀{j:Nat},0<=rk r j->rk (r.set f x) j=rk r j:=λ{j} h=>by
  rw[rY hl2,if_neg (λe=>by subst e;omega)]
 have le:∀i,rk (r.set f x) i=if f=i then x else rk r i:=λi=>rY hl2
 refine⟨by simp[a.lr],a.lo,a.lm,?_,λi=>?_,λi=>?_,a.op,λi p' hi=>?_,λi p' hi ho hp m j hm=>?_,λi p' hi ho hp=>?_,?_,λi p' hi hp=>?_⟩
 .rw[List.nodup_append]
  exact⟨a.q,by simp,λy hy z hz e=>by simp at hz;subst hz;subst e;exact nQ hy⟩
 .rw[List.mem_append,List.mem_singleton,a.qr,le]
  by_cases h:f=i
  .rw[if_pos h]
   constructor
   .rintro _;exact⟨by omega,by omega⟩
   .intro _;exact .inr h.symm
  .rw[if_neg h]
   constructor
   .rintro(e|e)
    .exact e
    .exact absurd e.symm h
   .exactλe=>.inl e
 .rw[le];split
  .omega
  .exact a.neg i
 .rw[le]
  by_cases h:f=i
  .rw[if_pos h]
   subst h;have:=a.lost f p' hi;constructor
   .intro e;omega
   .intro e;have:=this.2 e;omega
  .rw[if_neg h];exact a.lost i p' hi
 .rw[le i]at hp⊢
  by_cases h:f=i
  .subst h
   rw[if_pos rfl];rw[hf]at hi;cases hi;obtain⟨g1,g2⟩:=h1 ho m j hm;rw[ne g1];exact⟨g1,g2⟩
  .rw[if_neg h]at hp⊢
   obtain⟨g1,g2⟩:=a.own i p' hi ho hp m j hm;rw[ne g1];exact⟨g1,g2⟩
 .rw[le]at hp
  by_cases h:f=i
  .subst h
   rw[hf]at hi;cases hi;obtain⟨m,j,g0,g1,g2⟩:=h2 ho;refine⟨m,j,g0,?_⟩;rw[ne g1,le,if_pos rfl];exact⟨g1,g2⟩
  .rw[if_neg h]at hp
   obtain⟨m,j,g0,g1,g2⟩:=a.wS i p' hi ho hp;refine⟨m,j,g0,?_⟩;rw[ne g1,le,if_neg h];exact⟨g1,g2⟩
 .rw[List.pairwise_append]
  refine⟨?_,by simp,λy hy z hz=>?_⟩
  .refine List.Pairwise.imp_of_mem (λ{y z} hy hz e=>?_) a.mono
   rw[ne ((a.qr y).1 hy).2,ne ((a.qr z).1 hz).2];exact e
  .simp at hz;subst hz
   rw[ne ((a.qr y).1 hy).2,le,if_pos rfl];exact hb y hy
 .rw[le]at hp
  by_cases h:f=i
  .rw[if_pos h]at hp;omega
  .rw[if_neg h]at hp;exact a.cl i p' hi hp
theorem RI.Mk(a:RI C party P M r op Q E n0):Q.length<=P.length:=by
 have key:∀(n:Nat)(l:List Nat),l.Nodup->(∀x∈l,x<n)->l.length<=n:=by
  intro n;induction n with
  |zero=>intro l _ h;cases l with
   |nil=>simp
   |cons a l=>exact absurd (h a (by simp)) (by omega)
  |succ n ih=>
   intro l hl h;have h1:=ih (l.erase n) (hl.erase n) λx hx=>by
    have h2:=h x (List.mem_of_mem_erase hx);have h3:=(List.Nodup.mem_erase_iff hl).1 hx;have:=h3.1;omega
   by_cases hm:n∈l
   .rw[List.length_erase_of_mem hm]at h1
    omega
   .rw[List.erase_of_not_mem hm]at h1;omega
 exact key _ _ a.q λx hx=>((a.qr x).1 hx).1
theorem RI.skip(a:RI C party P M r op Q [] n0){p:aR}(hp:P[n0]?=some p)(h:¬(p.own=true/\op.getD n0 0=0/\rk r n0= -1)):RI C party P M r op Q [] (n0+1):=by
 refine⟨a.lr,a.lo,a.lm,a.q,a.qr,a.neg,a.op,a.lost,a.own,a.wS,a.mono,λi p' hi hr=>⟨(a.cl i p' hi hr).1,λh1 h2=>?_⟩⟩;by_cases e:i<n0
 .exact(a.cl i p' hi hr).2 e h2
 .obtain rfl:i=n0:=by omega
  rw[hp]at hi;cases hi;intro e2;have hl:=(List.getElem?_eq_some_iff.1 hp).1;have:=a.op i hl;refine h ⟨h2,?_,hr⟩;rw[this,<-e2];simp
theorem RI.aep(a:RI C party P M r op Q [] n0){p:aR}(hp:P[n0]?=some p)(ho:p.own=true)(h0:op.getD n0 0=0)(hr:rk r n0= -1)(hb:∀i∈Q,rk r i<=1):RI C party P M (r.set n0 1) op (Q++[n0]) [] (n0+1):=by
 have hl:=(List.getElem?_eq_some_iff.1 hp).1;have h1:=a.op n0 hl;have h2:(mr M n0).length=0:=by rw[h0]at h1;simp at h1;omega
 have b:=a.settle hp hr (by omega) hb (λ_ m j hm=>by rw[List.length_eq_zero_iff.1 h2]at hm;cases hm) (λe=>by rw[ho]at e;cases e);refine RI.skip (n0:=n0) b hp λe=>?_;have:=e.2.2;rw[rY (by rw[a.lr];exact hl),if_pos rfl]at this;omega
theorem tX{E:List Nat}{f i:Nat}:(E++[f]).count i=E.count i+if f=i then 1 else 0:=by
 rw[List.count_append,List.count_singleton];by_cases h:f=i<;>simp[h]
theorem RI.edge(a:RI C party P M r op Q E n0){f:Nat}{p:aR}(hf:P[f]?=some p)(h:rk r f≠ -1\/(p.own=true/\op.getD f 0 - 1≠0)):RI C party P M r (op.set f (op.getD f 0 - 1)) Q (E++[f]) n0:=by
 have hl:=(List.getElem?_eq_some_iff.1 hf).1;have hop:∀i,i<P.length->(op.set f (op.getD f 0 - 1)).getD i 0=(mr M i).length - ((E++[f]).count i:Int):=λi hi=>by
  have h1:=a.op i hi;rw[tX,List.getD_eq_getElem?_getD,List.getElem?_set];rw[List.getD_eq_getElem?_getD]at h1;by_cases e:f=i
  .subst e
   rw[if_pos rfl,if_pos rfl,if_pos (by rw[a.lo];exact hl),List.getD_eq_getElem?_getD];simp only[Option.getD_some];rw[h1];omega
  .rw[if_neg e,if_neg e,h1];rfl
 refine⟨a.lr,by simp[a.lo],a.lm,a.q,a.qr,a.neg,hop,a.lost,a.own,a.wS,a.mono,λi p' hi hr=>?_⟩;by_cases e:f=i
 .subst e
  rw[hf]at hi;cases hi;rcases h with h|⟨h1,h2⟩
  .exact absurd hr h
  .refine⟨(λk=>by rw[h1]at k;cases k),λ_ _ k=>h2 ?_⟩
   have h3:=a.op f hl;rw[tX,if_pos rfl]at k;omega
 .obtain⟨g1,g2⟩:=a.cl i p' hi hr
  rw[tX,if_neg e];exact⟨g1,g2⟩
theorem RI.YG(a:RI C party P M r op Q E n0)(ht:∀(i:Nat) l m j,M[i]?=some l->(m,j)∈l->j<P.length){f to t:Nat}{p:aR}{rest:List Nat}(hQ:Q=D++to::rest)(hE:E=D.flatMap (nZ M)++(nZ M to).take t)(hb:∀i∈Q,rk r i<=rk r to+1)(hf:P[f]?=some p)(hft:(nZ M to)[t]?=some f)
 (hr:rk r f= -1)(h:p.own=false\/op.getD f 0 - 1=0):RI C party P M (r.set f (rk r to+1)) (op.set f (op.getD f 0 - 1)) (Q++[f]) (E++[f]) n0:=by
 have hl:=(List.getElem?_eq_some_iff.1 hf).1;have hto:=((a.qr to).1 (by rw[hQ];simp)).2;have hmem:f∈nZ M to:=List.mem_of_getElem? hft;obtain⟨_,mm,hmm⟩:=H6.1 hmem;have hQn:=a.q;rw[hQ]at hQn;have hDn:(D++[to]).Nodup:=by
  rw[show D++to::rest=(D++[to])++rest by simp]at hQn;exact(List.nodup_append.1 hQn).1
 have aer:∀j∈D++[to],0<=rk r j/\rk r j<=rk r to:=by
  intro j hj;have hm:=a.mono;rw[hQ,List.pairwise_append]at hm;rcases List.mem_append.1 hj with hj|hj
  .exact⟨((a.qr j).1 (by rw[hQ];simp[hj])).2,hm.2.2 j hj to (by simp)⟩
  .simp at hj;subst hj;exact⟨hto,by omega⟩
 have all:op.getD f 0 - 1=0->∀m j,(m,j)∈mr M f->0<=rk r j/\rk r j<rk r to+1:=by
  intro h0 m j hm;have h1:=a.op f hl;have h2:(E++[f]).count f=(mr M f).length:=by rw[tX,if_pos rfl];omega
  have h3:E++[f]=D.flatMap (nZ M)++(nZ M to).take (t+1):=by
   rw[hE,List.append_assoc,List.take_add_one,hft];rfl
  have h4:(E++[f]).count f<=((D++[to]).flatMap (nZ M)).count f:=by
   rw[h3,List.flatMap_append,List.count_append,List.count_append,List.flatMap_cons,List.flatMap_nil,List.append_nil];exact Nat.add_le_add_left ((List.take_sublist _ _).count_le _) _
  rw[r9 (by rw[a.lm];exact hl) hDn,h2]at h4;have h5:=List.length_filter_le (λx=>(D++[to]).contains x.2) (mr M f);have h6:=List.length_filter_eq_length_iff.1 (Nat.le_antisymm h5 h4) (m,j) hm;have h7:=aer j (by simpa using h6);omega
 have b:=a.settle hf hr (x:=rk r to+1) (by omega) hb (λho=>all (by
  rcases h with h|h
  .rw[ho]at h;cases h
  .exact h)) (λ_=>⟨mm,to,hmm,hto,by omega⟩)
 have hl2:f<r.length:=by rw[a.lr];exact hl
 refine RI.edge b hf (.inl ?_);rw[rY hl2,if_pos rfl];omega
theorem RI.Uu(a:RI C party P M r op Q E n0){f to t:Nat}{rest:List Nat}(hQ:Q=D++to::rest)(hE:E=D.flatMap (nZ M)++(nZ M to).take t)(hf:f<P.length):E.count f<=(mr M f).length:=by
 have hQn:=a.q;rw[hQ]at hQn;have hDn:(D++[to]).Nodup:=by
  rw[show D++to::rest=(D++[to])++rest by simp]at hQn;exact(List.nodup_append.1 hQn).1
 have h4:E.count f<=((D++[to]).flatMap (nZ M)).count f:=by
  rw[hE,List.flatMap_append,List.count_append,List.count_append,List.flatMap_cons,List.flatMap_nil,List.append_nil];exact Nat.add_le_add_left ((List.take_sublist _ _).count_le _) _
 rw[r9 (by rw[a.lm];exact hf) hDn]at h4;exact Nat.le_trans h4 (List.length_filter_le _ _)
theorem RI.done(a:RI C party P M r op Q E P.length)(hE:E=Q.flatMap (nZ M))(ht:∀(i:Nat) l m j,M[i]?=some l->(m,j)∈l->j<P.length):o_ C party P M r:=by
 have Sn:∀{i:Nat}{l:List (Int×Nat)},M[i]?=some l->mr M i=l:=λ{i l} h=>by unfold mr;rw[List.getD_eq_getElem?_getD,h];rfl
 have cnt:∀i,i<P.length->E.count i=((mr M i).filter λx=>Q.contains x.2).length:=λi hi=>by rw[hE,r9 (by rw[a.lm];exact hi) a.q]
 have sm:∀{j:Nat},j<P.length->r[j]?=some (rk r j):=λh=>tV (by rw[a.lr];exact h);have hi:∀{i:Nat}{p:aR},P[i]?=some p->i<P.length:=λh=>(List.getElem?_eq_some_iff.1 h).1;refine⟨a.lr,λi x h=>by rw[<-pq h];exact a.neg i,λi p x h1 h2=>by rw[<-pq h2];exact a.lost i p h1,λi p l x h1 h2 h3 h4 h5 m j hm=>?_,λi p l x h1 h2 h3 h4 h5=>?_,λi p l h1 h2 h3 h4=>?_,λi p l h1 h2 h3 h4 m j hm=>?_⟩
 .have e:=pq h3
  obtain⟨g1,g2⟩:=a.own i p h1 h4 (by omega) m j (by rw[Sn h2];exact hm);exact⟨_,sm (ht i l m j h2 hm),g1,by omega⟩
 .have e:=pq h3
  obtain⟨m,j,g0,g1,g2⟩:=a.wS i p h1 h4 (by omega);rw[Sn h2]at g0;exact⟨m,j,_,g0,sm (ht i l m j h2 g0),g1,by omega⟩
 .have e:=pq h3
  have h5:=(a.cl i p h1 e).2 (hi h1) h4;rw[cnt i (hi h1),Sn h2]at h5;by_cases hx:∀x∈l,Q.contains x.2=true
  .exact absurd (List.length_filter_eq_length_iff.2 hx) h5
  .obtain⟨⟨m,j⟩,hx2⟩:=Classical.not_forall.1 hx
   obtain⟨hx3,hx4⟩:=Classical.not_imp.1 hx2;refine⟨m,j,hx3,?_⟩;have hj:=ht i l m j h2 hx3;have nq:j∉Q:=by simpa using hx4
   rw[sm hj];congr 1;have:=a.neg j;by_cases e0:0<=rk r j
   .exact absurd ((a.qr j).2 ⟨hj,e0⟩) nq
   .omega
 .have e:=pq h3
  have h5:=(a.cl i p h1 e).1 h4;have hj:=ht i l m j h2 hm;rw[cnt i (hi h1),Sn h2,List.length_eq_zero_iff,List.filter_eq_nil_iff]at h5;have h6:=h5 (m,j) hm;have nq:j∉Q:=by simpa using h6
  rw[sm hj];congr 1;have:=a.neg j;by_cases e0:0<=rk r j
  .exact absurd ((a.qr j).2 ⟨hj,e0⟩) nq
  .omega
end
end
end
section
noncomputable section
open Classical
def aF.onto(k:aF)(l:List bP):aF:=⟨k.kind,k.role,k.act,k.need,l,k.after,k.fT,k.gP,k.final,k.pause,k.resume,k.value,k.unit,k.tgt,k.iL⟩
def yM(cl:List Nat)(c c':bP):Prop:=c'.is=c.is/\0<=c.clause/\∃p:Nat,c'.clause=p/\cl[p]?=some c.clause.toNat
def qx(cl:List Nat)(l l':List bP):Prop:=l'.length=l.length/\∀(n:Nat)(c c':bP),l[n]?=some c->l'[n]?=some c'->yM cl c c'
structure eP(C D:aA)(cl:List Nat):Prop where
 aC:D.aC=C.aC
 ah:D.ah=C.ah
 acts:D.acts=C.acts
 days:D.days=C.days
 off:D.off=C.off
 len:D.clauses.length=cl.length
 at_:∀(j i:Nat),cl[j]?=some i->∃k l,C.clauses[i]?=some k/\D.clauses[j]?=some (k.onto l)/\qx cl k.start l
def bQ(cl:List Nat)(ms:List au):List au:=cl.map λi=>(ms[i]?).getD ⟨0,0,0,0,false⟩
def aI.rs(cl:List Nat)(s:aI):aI:=⟨s.day,s.ah,s.used,bQ cl s.marks⟩
theorem qx.fwd{cl:List Nat}{l l':List bP}(h:qx cl l l'){c:bP}(hc:c∈l):∃c'∈l',yM cl c c':=by
 obtain⟨n,hn⟩:=List.getElem?_of_mem hc;have h1:n<l'.length:=by rw[h.1];exact(List.getElem?_eq_some_iff.1 hn).1
 exact⟨l'[n],List.getElem_mem h1,h.2 n c _ hn (List.getElem?_eq_getElem h1)⟩
theorem qx.bwd{cl:List Nat}{l l':List bP}(h:qx cl l l'){c':bP}(hc:c'∈l'):∃c∈l,yM cl c c':=by
 obtain⟨n,hn⟩:=List.getElem?_of_mem hc;have h1:n<l.length:=by rw[<-h.1];exact(List.getElem?_eq_some_iff.1 hn).1
 exact⟨l[n],List.getElem_mem h1,h.2 n _ c' (List.getElem?_eq_getElem h1) hn⟩
section
variable {C D:aA} {cl:List Nat} {ms:List au}
theorem r_:(bQ cl ms).length=cl.length:=by simp[bQ]
theorem jV(hr:∀i∈cl,i<ms.length){j i:Nat}(h:cl[j]?=some i):(bQ cl ms)[j]?=ms[i]?:=by
 have hi:=hr i (List.mem_of_getElem? h);simp[bQ,h,List.getElem?_eq_getElem hi]
theorem Sq(hr:∀i∈cl,i<ms.length){l:List au}(hl:l.length=cl.length)(h:∀j i:Nat,cl[j]?=some i->l[j]?=ms[i]?):l=bQ cl ms:=by
 apply List.ext_getElem?;intro j;by_cases hj:j<cl.length
 .have e:cl[j]?=some cl[j]:=List.getElem?_eq_getElem hj
  rw[jV hr e,h j _ e]
 .rw[List.getElem?_eq_none (by omega),List.getElem?_eq_none (by rw[r_];omega)]
theorem eP.lt(h:eP C D cl){i:Nat}(hi:i∈cl):i<C.clauses.length:=by
 obtain⟨j,hj⟩:=List.getElem?_of_mem hi;obtain⟨k,l,h1,_⟩:=h.at_ j i hj;exact(List.getElem?_eq_some_iff.1 h1).1
theorem tY(hr:∀i∈cl,i<ms.length){f g:Nat->au->au}{l l':List au}(hl:∀j:Nat,l[j]?=((bQ cl ms)[j]?).map (g j))(hl':∀i:Nat,l'[i]?=(ms[i]?).map (f i))(e:∀(j i:Nat)(m:au),cl[j]?=some i->g j m=f i m):l=bQ cl l':=by
 have h1:=jT hl;have h2:=jT hl';refine Sq (λi hi=>by rw[h2];exact hr i hi) (by rw[h1,r_]) λj i hj=>?_;rw[hl,hl',jV hr hj];cases ms[i]? with
 |none=>rfl
 |some m=>simp only[Option.map_some,e j i m hj]
theorem Ju(h:eP C D cl)(hr:∀i∈cl,i<ms.length)(t:Int):D.paused t (bQ cl ms)=bQ cl (C.paused t ms):=
 tY hr (iM D t _) (iM C t ms) λj i m hj=>by
  obtain⟨k,l,h1,h2,_⟩:=h.at_ j i hj;simp only[iW,h1,h2];rfl
theorem Ml(h:eP C D cl)(hr:∀i∈cl,i<ms.length)(t w:Int):D.nP t w (bQ cl ms)=bQ cl (C.nP t w ms):=
 tY hr (jD D t w _) (jD C t w ms) λj i m hj=>by
  obtain⟨k,l,h1,h2,_⟩:=h.at_ j i hj;simp only[oQ,h1,h2];rfl
theorem Jv(h:eP C D cl)(hr:∀i∈cl,i<ms.length)(b:Bool):D.vI b (bQ cl ms)=bQ cl (C.vI b ms):=
 tY hr (m_ D b _) (m_ C b ms) λj i m hj=>by
  obtain⟨k,l,h1,h2,_⟩:=h.at_ j i hj;simp only[qo,h1,h2];rfl
theorem Fq(h:eP C D cl)(hr:∀i∈cl,i<ms.length)(g t:Int):(gT (bQ cl ms) (bQ cl ms).length).foldl (λms i=>dO D g t i ms) (bQ cl ms)=bQ cl ((gT ms ms.length).foldl (λms i=>dO C g t i ms) ms):=
 tY hr (oV D g t _) (oV C g t ms) λj i m hj=>by
  obtain⟨k,l,h1,h2,_⟩:=h.at_ j i hj;simp only[oU,h1,h2];rfl
end
inductive Starts (C:aA) (ms:List au):Nat->Prop
 |mk {i:Nat} {k:aF} {m:au}:C.clauses[i]?=some k->ms[i]?=some m->m.status=0->k.iL=false->(∀c∈k.start,eu ms c=false->c.is=1)->(∀c∈k.start,eu ms c=false->Starts C ms c.clause.toNat)->Starts C ms i
theorem pz(is:Int):rU is 0=false:=by
 unfold rU;cases (is==1)<;>cases (is==2)<;>cases (is==3)<;>cases (is==4)<;>rfl
theorem Fu{is:Int}(h:rU is 1=true):is=1:=by
 unfold rU at h;by_cases e:is=1
 .exact e
 .rw[show(is==1)=false by simpa using e]at h
  revert h;cases (is==2)<;>cases (is==3)<;>cases (is==4)<;>simp
def Fv(C:aA)(hs:List Int)(ms x:List au):Prop:=x.length=ms.length/\∀(j:Nat)(m':au),x[j]?=some m'->∃m,ms[j]?=some m/\(m'=m\/m.status=0/\Starts C ms j/\∃k,C.clauses[j]?=some k/\m'=lU hs k)
theorem BP{C:aA}{hs:List Int}{ms x:List au}(h:Fv C hs ms x)(i:Nat):Fv C hs ms (gM C hs x i):=by
 refine⟨by rw[oN];exact h.1,λj m' hm=>?_⟩;cases hf:eF C x i with
 |false=>rw[(mZ C hs x i).2 hf]at hm;exact h.2 j m' hm
 |true=>
  have hf':=hf;unfold eF at hf';unfold gM at hm;cases hk:C.clauses[i]? with
  |none=>simp[hk]at hf'
  |some k=>
   cases Ql:x[i]? with
   |none=>simp[hk,Ql]at hf'
   |some m=>
    simp only[hk,Ql]at hf';simp only[hk,hf,cond_true]at hm;by_cases hij:i=j
    .subst hij
     rw[jC Ql]at hm;injection hm with hm
     simp only[dD,Bool.and_eq_true,beq_iff_eq,Bool.not_eq_true']at hf';obtain⟨f1,f2,f3⟩:=hf';obtain⟨m0,h1,h2⟩:=h.2 i m Ql;obtain rfl:m=m0:=by
      rcases h2 with h2|⟨_,_,_,_,rfl⟩
      .exact h2
      .exact absurd f1 (by show¬(1:Int)=0;decide)
     have hx:∀c∈k.start,eu ms c=false->c.is=1/\Starts C ms c.clause.toNat:=λc hc hn=>by
      have h3:eu x c=true:=List.all_eq_true.1 f3 c hc;unfold eu jQ at h3 hn;cases hxc:x[c.clause.toNat]? with
      |none=>rw[hxc]at h3;simp[pz]at h3
      |some mc=>
       rw[hxc]at h3;obtain⟨m1,h4,h5⟩:=h.2 _ mc hxc;rcases h5 with rfl|⟨_,h5,k',_,rfl⟩
       .rw[h4]at hn
        rw[hn]at h3;cases h3
       .exact⟨Fu h3,h5⟩
     exact⟨m,h1,.inr ⟨f1,.mk hk h1 f1 f2 (λc hc hn=>(hx c hc hn).1) (λc hc hn=>(hx c hc hn).2),k,hk,hm.symm⟩⟩
    .rw[List.getElem?_set,if_neg hij]at hm
     exact h.2 j m' hm
theorem tZ{C:aA}{hs:List Int}{ms x:List au}(h:Fv C hs ms x):∀n,Fv C hs ms (bN C hs x n)
 |0=>h
 |n+1=>BP (tZ h n) n
theorem ru{C:aA}{hs:List Int}{ms:List au}:∀(f:Nat)(x:List au),Fv C hs ms x->Fv C hs ms (fM C hs f x)
 |0,_,h=>h
 |f+1,x,h=>by
  rw[fM];cases bX C hs x C.clauses.length with
  |false=>exact h
  |true=>exact ru f _ (tZ h _)
theorem sj(C:aA)(hs:List Int)(ms:List au):Fv C hs ms (C.begin hs ms):=ru _ ms ⟨rfl,λ_ m' h=>⟨m',h,.inl rfl⟩⟩
theorem t_{C:aA}{hs:List Int}{ms:List au}{i:Nat}(h:Starts C ms i):∃k,C.clauses[i]?=some k/\(C.begin hs ms)[i]?=some (lU hs k):=by
 induction h with
 |@mk i k m hk hm h0 hw h1 _ ih=>
  refine⟨k,hk,?_⟩;have hi:i<(C.begin hs ms).length:=by rw[gJ];exact(List.getElem?_eq_some_iff.1 hm).1
  have hg:(C.begin hs ms)[i]?=some (C.begin hs ms)[i]:=List.getElem?_eq_getElem hi;obtain⟨m0,h2,h3⟩:=(sj C hs ms).2 i _ hg;rw[hm]at h2;cases h2
  rcases h3 with h3|⟨_,_,k',hk',h3⟩
  .have hn:=yI C hs ms i (List.getElem?_eq_some_iff.1 hk).1
   exfalso;unfold eF at hn;rw[hk,hg,h3]at hn;simp only[dD,h0,hw,beq_self_eq_true,Bool.true_and,Bool.not_false]at hn;have:gI (C.begin hs ms) k.start=true:=by
    unfold gI;rw[List.all_eq_true];intro c hc;cases hcm:eu ms c with
    |false=>
     obtain⟨kc,_,h5⟩:=ih c hc hcm;unfold eu jQ;rw[h5,h1 c hc hcm];rfl
    |true=>
     unfold eu jQ at hcm⊢;cases hmc:ms[c.clause.toNat]? with
     |none=>rw[hmc]at hcm;simp[pz]at hcm
     |some mc=>
      rw[hmc]at hcm;by_cases hz:mc.status=0
      .simp[hz,pz]at hcm
      .rw[Fh hmc hz]
       exact hcm
   rw[this]at hn;cases hn
  .rw[hk]at hk'
   cases hk'
   rw[hg,h3]
theorem Ad{C:aA}{hs:List Int}{ms:List au}{i:Nat}(h:¬Starts C ms i):(C.begin hs ms)[i]?=ms[i]?:=by
 cases hg:(C.begin hs ms)[i]? with
 |none=>rw[List.getElem?_eq_none_iff,gJ]at hg;exact(List.getElem?_eq_none hg).symm
 |some m'=>
  obtain⟨m0,h2,h3⟩:=(sj C hs ms).2 i m' hg;rcases h3 with rfl|⟨_,h3,_⟩
  .exact h2.symm
  .exact absurd h3 h
section
variable {C D:aA} {cl:List Nat} {ms:List au}
theorem yM.holds(hr:∀i∈cl,i<ms.length){c c':bP}(h:yM cl c c'):eu (bQ cl ms) c'=eu ms c:=by
 obtain⟨h1,_,p,h2,h3⟩:=h;unfold eu jQ;rw[h2,Int.toNat_natCast,jV hr h3,h1]
theorem Jw(h:eP C D cl)(hr:∀i∈cl,i<ms.length){j:Nat}(hs:Starts D (bQ cl ms) j):∀i:Nat,cl[j]?=some i->Starts C ms i:=by
 induction hs with
 |@mk j k' m hk hm h0 hw h1 _ ih=>
  intro i hj;obtain⟨k,l,g1,g2,g3⟩:=h.at_ j i hj;rw[hk]at g2;cases g2
  rw[jV hr hj]at hm;refine .mk g1 hm h0 hw (λc hc hn=>?_) λc hc hn=>?_
  .obtain⟨c',q1,q2⟩:=g3.fwd hc
   rw[<-q2.1];exact h1 c' q1 (by rw[q2.holds hr];exact hn)
  .obtain⟨c',q1,q2⟩:=g3.fwd hc
   obtain⟨p,e1,e2⟩:=q2.2.2;exact ih c' q1 (by rw[q2.holds hr];exact hn) _ (by rw[e1];exact e2)
theorem Jy(h:eP C D cl)(hr:∀i∈cl,i<ms.length){i:Nat}(hs:Starts C ms i):∀j:Nat,cl[j]?=some i->Starts D (bQ cl ms) j:=by
 induction hs with
 |@mk i k m hk hm h0 hw h1 _ ih=>
  intro j hj;obtain⟨k0,l,g1,g2,g3⟩:=h.at_ j i hj;rw[hk]at g1;cases g1
  refine .mk g2 (by rw[jV hr hj];exact hm) h0 hw (λc' hc hn=>?_) λc' hc hn=>?_
  .obtain⟨c,q1,q2⟩:=g3.bwd hc
   rw[q2.1];exact h1 c q1 (by rw[<-q2.holds hr];exact hn)
  .obtain⟨c,q1,q2⟩:=g3.bwd hc
   obtain⟨p,e1,e2⟩:=q2.2.2;exact ih c q1 (by rw[<-q2.holds hr];exact hn) _ (by rw[e1];exact e2)
theorem ug(h:eP C D cl)(hr:∀i∈cl,i<ms.length)(hs:List Int):D.begin hs (bQ cl ms)=bQ cl (C.begin hs ms):=by
 refine Sq (λi hi=>by rw[gJ];exact hr i hi) (by rw[gJ,r_]) λj i hj=>?_;by_cases hS:Starts C ms i
 .obtain⟨k,h1,h2⟩:=t_ (hs:=hs) hS
  obtain⟨k',h3,h4⟩:=t_ (hs:=hs) (Jy h hr hS j hj);obtain⟨k0,l,g1,g2,g3⟩:=h.at_ j i hj;rw[h1]at g1;cases g1
  rw[h3]at g2;cases g2
  rw[h2,h4];rfl
 .rw[Ad hS,Ad λe=>hS (Jw h hr e i hj),jV hr hj]
theorem Qp(h:eP C D cl){s:aI}(hl:s.marks.length=C.clauses.length):D.tick (s.rs cl)=(C.tick s).rs cl:=by
 have hr:∀i∈cl,i<s.marks.length:=λi hi=>by rw[hl];exact h.lt hi
 unfold aA.tick aI.rs;simp only[h.off,Jv h hr];rw[ug h λi hi=>by rw[yD];exact hr i hi]
theorem Uv(h:eP C D cl){s:aI}(hl:s.marks.length=C.clauses.length)(i:Nat)(a:dB):D.act i a (s.rs cl)=(C.act i a s).rs cl:=by
 have hr:∀i∈cl,i<s.marks.length:=λi hi=>by rw[hl];exact h.lt hi
 have hr1:∀j∈cl,j<(C.paused i s.marks).length:=λj hj=>by rw[yC];exact hr j hj
 have hr2:∀j∈cl,j<(C.nP i (bI s.ah a) (C.paused i s.marks)).length:=λj hj=>by rw[vJ];exact hr1 j hj
 unfold aA.act;simp only[aI.rs,Ju h hr,Ml h hr1];cases ((a.kind !=1)&&s.used.getD i false)with
 |true=>rfl
 |false=>
  cases (a.kind !=1)with
  |false=>simp only[cond_false];rw[ug h hr2]
  |true=>
   simp only[cond_true,cond_false,aA.shift];cases (a.kind !=3)with
   |true=>simp only[cond_true];rw[ug h hr2]
   |false=>
    simp only[cond_false,Fq h hr2];rw[ug h λj hj=>by rw[vH _ (λi ms=>iR C _ _ i ms)];exact hr2 j hj]
theorem jr(h:eP C D cl){s:aI}(hl:s.marks.length=C.clauses.length)(t:Int):D.bA (s.rs cl) t=(C.bA s t).rs cl:=by
 unfold aA.bA;rw[h.acts];by_cases e:t= -1
 .rw[if_pos e,if_pos e,Qp h hl]
 .rw[if_neg e,if_neg e]
  cases C.acts[t.toNat]? with
  |none=>rfl
  |some a=>exact Uv h hl _ a
theorem xg(h:eP C D cl)(s:aI)(t:Int):D.doer (s.rs cl) t=C.doer s t:=by
 unfold aA.doer;rw[h.acts];rfl
theorem iU{C:aA}{s:aI}{p:Int}:anyFailed C s p=true↔∃(i:Nat)(m:au)(k:aF),s.marks[i]?=some m/\C.clauses[i]?=some k/\iq k m p=true:=by
 unfold anyFailed;rw[List.any_eq_true];constructor
 .rintro⟨i,_,h⟩
  cases hm:s.marks[i]? with
  |none=>simp[hm]at h
  |some m=>
   cases hk:C.clauses[i]? with
   |none=>simp[hm,hk]at h
   |some k=>exact⟨i,m,k,hm,hk,by simpa only[hm,hk]using h⟩
 .rintro⟨i,m,k,hm,hk,h⟩
  refine⟨i,List.mem_range.2 (List.getElem?_eq_some_iff.1 hm).1,?_⟩;simp only[hm,hk,h]
theorem Jz(h:eP C D cl){s:aI}(hl:s.marks.length=C.clauses.length){p:Int}(hf:anyFailed D (s.rs cl) p=true):anyFailed C s p=true:=by
 have hr:∀i∈cl,i<s.marks.length:=λi hi=>by rw[hl];exact h.lt hi
 obtain⟨j,m,k',h1,h2,h3⟩:=iU.1 hf;have hj:j<cl.length:=by have:=(List.getElem?_eq_some_iff.1 h1).1;simpa [aI.rs,r_]using this
 obtain⟨k,l,g1,g2,_⟩:=h.at_ j _ (List.getElem?_eq_getElem hj);rw[h2]at g2;cases g2
 exact iU.2 ⟨_,m,k,(jV hr (List.getElem?_eq_getElem hj)).symm.trans h1,g1,h3⟩
theorem JA(h:eP C D cl){s:aI}(hl:s.marks.length=C.clauses.length){p:Int}{i:Nat}{m:au}{k:aF}(hi:i∈cl)(h1:s.marks[i]?=some m)(h2:C.clauses[i]?=some k)(h3:iq k m p=true):anyFailed D (s.rs cl) p=true:=by
 have hr:∀i∈cl,i<s.marks.length:=λi hi=>by rw[hl];exact h.lt hi
 obtain⟨j,hj⟩:=List.getElem?_of_mem hi;obtain⟨k',l,g1,g2,_⟩:=h.at_ j i hj;rw[h2]at g1;cases g1
 exact iU.2 ⟨j,m,_,(jV hr hj).trans h1,g2,h3⟩
theorem Mq(h:eP C D cl)(hD:D.valid=true){s:aI}(hs:aM C s):aM D (s.rs cl):=by
 have hr:∀i∈cl,i<s.marks.length:=λi hi=>by rw[hs.lm];exact h.lt hi
 have inv:∀(j:Nat)(m:au)(k':aF),(bQ cl s.marks)[j]?=some m->D.clauses[j]?=some k'->∃(i:Nat)(k:aF)(l:List bP),s.marks[i]?=some m/\C.clauses[i]?=some k/\k'=k.onto l/\qx cl k.start l:=λj m k' hm hk=>by
  have hj:j<cl.length:=by have:=(List.getElem?_eq_some_iff.1 hm).1;simpa [r_]using this
  obtain⟨k,l,g1,g2,g3⟩:=h.at_ j _ (List.getElem?_eq_getElem hj);rw[hk]at g2;cases g2
  exact⟨_,k,l,(jV hr (List.getElem?_eq_getElem hj)).symm.trans hm,g1,rfl,g3⟩
 refine⟨hD,hs.Fe,by rw[h.days];exact hs.Fg,by rw[h.ah];exact hs.lh,by rw[h.acts];exact hs.lu,by simp[aI.rs,r_,h.len],λp hp=>by rw[h.aC];exact hs.held p hp,λi a hu ha=>hs.used i a hu (by rw[<-h.acts];exact ha),λj m k' hm hk=>?_,λj m k' hm hk=>?_⟩
 .obtain⟨i,k,l,h1,h2,rfl,_⟩:=inv j m k' hm hk
  have:=hs.marks i m k h1 h2;unfold bO at this⊢;rw[h.aC];exact this
 .obtain⟨i,k,l,h1,h2,rfl,g3⟩:=inv j m k' hm hk
  have h4:=hs.still i m k h1 h2;have e:gI (bQ cl s.marks) l=gI s.marks k.start:=by
   rw[Bool.eq_iff_iff];unfold gI;rw[List.all_eq_true,List.all_eq_true];constructor
   .intro h5 c hc
    obtain⟨c',q1,q2⟩:=g3.fwd hc;rw[<-q2.holds hr];exact h5 c' q1
   .intro h5 c' hc
    obtain⟨c,q1,q2⟩:=g3.bwd hc;rw[q2.holds hr];exact h5 c q1
  have e2:dD (bQ cl s.marks) (k.onto l) m=dD s.marks k m:=by
   unfold dD;rw[show(k.onto l).start=l from rfl,e];rfl
  exact e2.trans h4
end
theorem fD{C:aA}{party:Int}{p:aR}{m:Int}{q:aR}:(m,q)∈C.oZ party p↔(m= -2/\p.own=true/\q=⟨p.st,false⟩)\/(m= -1/\p.own=false/\p.st.day<C.days/\q=⟨C.bA p.st (-1),true⟩)\/(∃i:Nat,i<C.acts.length/\m=i/\p.st.day<C.days/\C.Jr party p i/\q=⟨C.bA p.st i,true⟩):=by
 unfold aA.oZ aA.nW aA.nY;simp only[List.mem_append];constructor
 .rintro((h|h)|h)
  .split at h
   .simp at h;exact .inl ⟨h.1,by assumption,h.2⟩
   .simp at h
  .split at h
   .rename_i hc;simp at h;exact .inr (.inl ⟨h.1,hc.1,hc.2,h.2⟩)
   .simp at h
  .split at h
   .rename_i hc
    simp at h;obtain⟨i,⟨h1,h2⟩,h3,h4⟩:=h;exact .inr (.inr ⟨i,h1,h3.symm,hc,h2,h4.symm⟩)
   .simp at h
 .rintro(⟨rfl,h1,rfl⟩|⟨rfl,h1,h2,rfl⟩|⟨i,h1,rfl,h2,h3,rfl⟩)
  .exact .inl (.inl (by simp[h1]))
  .exact .inl (.inr (by simp[h1,h2]))
  .exact .inr (by simp only[h2,if_true];simp;exact⟨i,⟨h1,h3⟩,rfl,rfl⟩)
end
end
section
noncomputable section
open Classical
def aF.names(k:aF)(t:Int):Prop:=k.act=t\/k.pause=t\/k.resume=t
structure Parts(C:aA)(ps:List (List Nat×aA)):Prop where
 part:∀x∈ps,eP C x.2 x.1
 valid:∀x∈ps,x.2.valid=true
 cover:∀i:Nat,i<C.clauses.length->∃x∈ps,i∈x.1
 apart:∀x∈ps,∀y∈ps,x≠y->(∀a∈C.acts,a.kind=1)/\∀i∈x.1,∀j∈y.1,∀k k':aF,C.clauses[i]?=some k->C.clauses[j]?=some k'->∀t:Nat,k.names t->¬k'.names t
section
variable {C:aA} {ps:List (List Nat×aA)} {s:aI}
theorem step_ok(h:aM C s){t:Int}(hd:s.day<C.days):aM C (C.bA s t):=by
 unfold aA.bA;by_cases e:t= -1
 .rw[if_pos e];exact HZ h hd
 .rw[if_neg e]
  cases ha:C.acts[t.toNat]? with
  |none=>exact h
  |some a=>exact Mi h ha
theorem su{i:Nat}{a:dB}(ha:C.acts[i]?=some a):C.bA s i=C.act i a s:=by
 unfold aA.bA;rw[if_neg (by omega),Int.toNat_natCast,ha]
theorem Parts.other(P:Parts C ps)(h:aM C s){x y:List Nat×aA}(hx:x∈ps)(hy:y∈ps)(hxy:y≠x){i:Nat}(hi:i<C.acts.length)(hc:x.2.bA (s.rs x.1) i≠s.rs x.1):y.2.bA (s.rs y.1) i=s.rs y.1:=by
 obtain⟨h1,h2⟩:=P.apart x hx y hy λe=>hxy e.symm;obtain⟨a,ha⟩:∃a,C.acts[i]?=some a:=⟨_,List.getElem?_eq_getElem hi⟩;have hk:=h1 a (List.mem_of_getElem? ha);have still:∀z∈ps,(∀i'∈z.1,∀k:aF,C.clauses[i']?=some k->¬k.names i)->z.2.bA (s.rs z.1) i=s.rs z.1:=λz hz hn=>by
  have hp:=P.part z hz;rw[su (by rw[hp.acts];exact ha)];refine Mj (Mq hp (P.valid z hz) h) hk λj m k' hm hk' _=>?_;have hj:j<z.1.length:=by have:=(List.getElem?_eq_some_iff.1 hm).1;simpa [aI.rs,r_]using this
  obtain⟨k,l,g1,g2,_⟩:=hp.at_ j _ (List.getElem?_eq_getElem hj);rw[hk']at g2;cases g2
  have:=hn _ (List.getElem_mem hj) k g1;exact⟨λe=>this (.inl e),λe=>this (.inr (.inl e)),λe=>this (.inr (.inr e))⟩
 refine still y hy λj hj k' hk' hn=>hc (still x hx λi' hi' k hk hn'=>h2 i' hi' j hj k k' hk hk' i hn' hn)
theorem Parts.Uw(P:Parts C ps){party:Int}{p:aR}(h:dh C party p):aM C p.st->∃x∈ps,dh x.2 party ⟨p.st.rs x.1,p.own⟩:=by
 induction h with
 |@lost p hf=>
  intro hs;obtain⟨i,m,k,h1,h2,h3⟩:=iU.1 hf;obtain⟨x,hx,hi⟩:=P.cover i (List.getElem?_eq_some_iff.1 h2).1;exact⟨x,hx,.lost (JA (P.part x hx) hs.lm hi h1 h2 h3)⟩
 |@own p ho _ ih=>
  intro hs;obtain⟨s,o⟩:=p;subst ho;apply Classical.byContradiction;intro hn;have hn:∀x∈ps,¬dh x.2 party ⟨s.rs x.1,true⟩:=λx hx hd=>hn ⟨x,hx,hd⟩;obtain⟨x,hx,hd⟩:=ih (-2) ⟨s,false⟩ (fD.2 (.inl ⟨rfl,rfl,rfl⟩)) hs;have hp:=P.part x hx;have:¬∀m q,(m,q)∈x.2.oZ party ⟨s.rs x.1,true⟩->dh x.2 party q:=λe=>hn x hx (.own rfl e);obtain⟨m,e⟩:=Classical.not_forall.1 this;obtain⟨q,e⟩:=Classical.not_forall.1 e;obtain⟨hm,hq⟩:=Classical.not_imp.1 e;rcases fD.1 hm with⟨_,_,rfl⟩|⟨_,h1,_⟩|⟨i,h1,_,h2,h3,rfl⟩
  .exact hq hd
  .cases h1
  .rw[hp.acts]at h1
   have h2:s.day<C.days:=by rw[hp.days]at h2;exact h2
   have hmv:C.Jr party ⟨s,true⟩ i:=⟨by have:=h3.1;rw[xg hp]at this;exact this,λe=>h3.2 (by show x.2.bA (s.rs x.1) i=s.rs x.1;rw[jr hp hs.lm];exact congrArg (aI.rs x.1) e)⟩;obtain⟨y,hy,hdy⟩:=ih i ⟨C.bA s i,true⟩ (fD.2 (.inr (.inr ⟨i,h1,rfl,h2,hmv,rfl⟩))) (step_ok (t:=i) hs h2);change dh y.2 party ⟨(C.bA s i).rs y.1,true⟩at hdy;rw[<-jr (P.part y hy) hs.lm]at hdy;by_cases e:y=x
   .subst e
    exact hq hdy
   .rw[P.other hs hx hy e h1 h3.2]at hdy
    exact hn y hy hdy
 |@wS p m q ho hm _ ih=>
  intro hs;obtain⟨s,o⟩:=p;subst ho;rcases fD.1 hm with⟨_,h1,_⟩|⟨rfl,_,h2,rfl⟩|⟨i,h1,rfl,h2,h3,rfl⟩
  .cases h1
  .have h2:s.day<C.days:=h2
   obtain⟨x,hx,hd⟩:=ih (step_ok (t:= -1) hs h2);have hp:=P.part x hx;rw[<-jr hp hs.lm]at hd;exact⟨x,hx,.wS rfl (fD.2 (.inr (.inl ⟨rfl,rfl,by rw[hp.days];exact h2,rfl⟩))) hd⟩
  .have h2:s.day<C.days:=h2
   obtain⟨x,hx,hd⟩:=ih (step_ok (t:=i) hs h2);have hp:=P.part x hx;rw[<-jr hp hs.lm]at hd;refine⟨x,hx,?_⟩;by_cases e:x.2.bA (s.rs x.1) i=s.rs x.1
   .simp only[e]at hd
    cases hd with
    |lost hf=>exact .lost hf
    |own _ hall=>exact hall (-2) _ (fD.2 (.inl ⟨rfl,rfl,rfl⟩))
    |wS h=>cases h
   .exact .wS rfl (fD.2 (.inr (.inr ⟨i,by rw[hp.acts];exact h1,rfl,by rw[hp.days];exact h2,⟨by rw[xg hp];exact h3.1,e⟩,rfl⟩))) hd
def au.mu(m:au):Nat:=if m.status=0 then 30 else if m.runs=true then 20 - m.got.toNat else 0
def uh:List au->Nat
 |[]=>0
 |m::l=>m.mu+uh l
theorem Dt:∀{l l':List au},l'.length=l.length->(∀(i:Nat)(m m':au),l[i]?=some m->l'[i]?=some m'->m'=m\/m'.mu<m.mu)->uh l'<=uh l/\(l'≠l->uh l'<uh l)
 |[],[],_,_=>⟨Nat.le_refl _,λh=>absurd rfl h⟩
 |m::l,m'::l',hl,h=>by
  have hl:l'.length=l.length:=by simpa using hl
  obtain⟨h1,h2⟩:=Dt hl λi a b ha hb=>h (i+1) a b (by simpa using ha) (by simpa using hb);have h3:=h 0 m m' rfl rfl;simp only[uh];by_cases e:l'=l
  .subst e
   rcases h3 with rfl|h3
   .exact⟨Nat.le_refl _,λh=>absurd rfl h⟩
   .exact⟨by omega,λ_=>by omega⟩
  .have:=h2 e
   rcases h3 with rfl|h3
   .exact⟨by omega,λ_=>by omega⟩
   .exact⟨by omega,λ_=>by omega⟩
theorem Ux(h:aM C s){i:Nat}{a:dB}(ha:C.acts[i]?=some a)(hk:a.kind=1)(hr:a.role≠ -1):C.act i a s≠s->uh (C.act i a s).marks<uh s.marks:=by
 have hC:=aA.ok h.con;have h1:C.paused i s.marks=s.marks:=yL (iM C i s.marks) λj m hm hrn=>by
  unfold iW;cases hkc:C.clauses[j]? with
  |none=>rfl
  |some k=>
   have nat:C.natural i=true->False:=λe=>by
    unfold aA.natural aA.Dp at e;rw[if_pos (by omega),Int.toNat_natCast,ha]at e;simp at e;exact hr e.2
   have hp:=(hC.clause hkc).pause;have e2:((i:Int)==k.pause)=false:=by
    have:(i:Int)≠k.pause:=λe=>nat (by rw[e];exact(hp (.inl (by omega))).2.1);simpa using this
   have e3:((i:Int)==k.resume)=false:=by
    have:(i:Int)≠k.resume:=λe=>nat (by rw[e];exact(hp (.inr (by omega))).2.2);simpa using this
   simp only[e2,e3,cond_false]
 have q:(a.kind !=1)=false:=by simpa using hk
 unfold aA.act;simp only[q,Bool.false_and,cond_false,h1];intro hne;have hl:(C.begin s.ah (C.nP i (bI s.ah a) s.marks)).length=s.marks.length:=by rw[gJ,vJ]
 refine(Dt hl λj m m' hm hm'=>?_).2 λe=>hne (by rw[e]);obtain⟨m1,g1,g2⟩:=(sj C s.ah _).2 j m' hm';have g3:=jD C i (bI s.ah a) s.marks j;rw[g1,hm,Option.map_some,Option.some.injEq]at g3;have hj:j<C.clauses.length:=by rw[<-h.lm];exact(List.getElem?_eq_some_iff.1 hm).1
 have hkc:C.clauses[j]?=some C.clauses[j]:=List.getElem?_eq_getElem hj;generalize C.clauses[j]=k at hkc;have hmk:=h.marks j m k hm hkc;have akX:=hmk.got (hC.clause hkc);cases hrn:m.runs with
 |false=>
  rw[hrn,cond_false]at g3;subst g3;rcases g2 with rfl|⟨g2,_,k',_,rfl⟩
  .exact .inl rfl
  .right
   simp[au.mu,lU,au.runs,g2]
 |true=>
  rw[hrn,cond_true]at g3;have akY:=(iX m).1 hrn;have hmu:m.mu=20 - m.got.toNat:=by unfold au.mu;rw[if_neg (by omega),if_pos hrn]
  have ended:∀(x:au)(st:Int),st=3\/st=4\/st=5->(x.ended st).mu=0/\(x.ended st).status≠0:=λx st hst=>by
   have h0:(x.ended st).status=st:=rfl;have h2:(x.ended st).runs=false:=yK (by rw[h0];exact hst);refine⟨?_,by rw[h0];omega⟩;unfold au.mu;rw[h0,if_neg (by omega),h2];rfl
  have key:(m1=m\/m1.mu<m.mu)/\m1.status≠0:=by
   subst g3;unfold oQ;rw[hkc];dsimp only;cases ((k.act==(i:Int))&&((k.kind==4)||(m.aO==bI s.ah a)))with
   |false=>exact⟨.inl rfl,by simp only[cond_false];omega⟩
   |true=>
    simp only[cond_true,au.hit];cases (k.kind==1)with
    |true=>
     simp only[cond_true,au.performed];cases (m.got+1==k.need)with
     |true=>
      have:=ended ⟨m.status,m.left,m.got+1,m.aO,m.paused⟩ 3 (.inl rfl);simp only[cond_true];exact⟨.inr (by rw[this.1,hmu];omega),this.2⟩
     |false=>
      simp only[cond_false];refine⟨.inr ?_,by show m.status≠0;omega⟩;have:au.mu ⟨m.status,m.left,m.got+1,m.aO,m.paused⟩=20 - (m.got+1).toNat:=by
       unfold au.mu;rw[if_neg (by show¬m.status=0;omega),if_pos (by exact hrn)]
      rw[this,hmu];omega
    |false=>
     simp only[cond_false];cases (k.kind==2)with
     |true=>
      simp only[cond_true,au.violated];cases m.paused with
      |true=>exact⟨.inl rfl,by simp only[cond_true];omega⟩
      |false=>
       have:=ended m 4 (.inr (.inl rfl));exact⟨.inr (by simp only[cond_false];rw[this.1,hmu];omega),this.2⟩
     |false=>
      have:=ended m 3 (.inl rfl);exact⟨.inr (by simp only[cond_false];rw[this.1,hmu];omega),this.2⟩
  rcases g2 with rfl|⟨g2,_⟩
  .exact key.1
  .exact absurd g2 key.2
theorem Parts.Qq(P:Parts C ps){party:Int}(hp0:0<=party){x:List Nat×aA}(hx:x∈ps){q:aR}(h:dh x.2 party q):∀s:aI,aM C s->q.st=s.rs x.1->dh C party ⟨s,q.own⟩:=by
 have hp:=P.part x hx;induction h with
 |lost hf=>intro s hs e;rw[e]at hf;exact .lost (Jz hp hs.lm hf)
 |@own q ho _ ih=>
  obtain⟨r,o⟩:=q;subst ho;intro s;generalize hn:uh s.marks=n;induction n using Nat.strongRecOn generalizing s with
  |_ n ihn=>
   intro hs e;dsimp only at e;subst e;refine .own rfl λm q' hm=>?_;rcases fD.1 hm with⟨_,_,rfl⟩|⟨_,h1,_⟩|⟨i,h1,_,h2,h3,rfl⟩
   .exact ih (-2) ⟨s.rs x.1,false⟩ (fD.2 (.inl ⟨rfl,rfl,rfl⟩)) s hs rfl
   .cases h1
   .have h2:s.day<C.days:=h2
    have hs2:=step_ok (t:=i) hs h2;by_cases ec:x.2.bA (s.rs x.1) i=s.rs x.1
    .have WL:(C.bA s i).rs x.1=s.rs x.1:=by rw[<-jr hp hs.lm];exact ec
     obtain⟨a,ha⟩:∃a,C.acts[i]?=some a:=⟨_,List.getElem?_eq_getElem h1⟩;have hd:bI s.ah a=party:=by
      have:=h3.1.2 rfl;unfold aA.doer at this;rw[Int.toNat_natCast,ha]at this;exact this
     have YH:a.role≠ -1:=λe=>by unfold bI at hd;rw[e]at hd;simp at hd;omega
     have hne:=h3.2;rw[show aR.st ⟨s,_⟩=s from rfl,su ha]at hne⊢;rw[su ha]at WL hs2;by_cases hdo:∀a∈C.acts,a.kind=1
     .have:=Ux hs ha (hdo a (List.mem_of_getElem? ha)) YH hne
      exact ihn _ (by omega) _ rfl hs2 WL.symm
     .exfalso
      apply hne;have eq:∀y∈ps,y=x:=λy hy=>Classical.byContradiction λe=>hdo (P.apart y hy x hx e).1;generalize C.act i a s=s' at WL hs2;have l1:=hs.lm;have l2:=hs2.lm;obtain⟨d,ho,us,ms⟩:=s;obtain⟨d',ho',us',ms'⟩:=s';unfold aI.rs at WL;simp only[aI.mk.injEq]at WL l1 l2⊢;obtain⟨e1,e2,e3,e4⟩:=WL;refine⟨e1,e2,e3,List.ext_getElem? λj=>?_⟩;by_cases hj:j<C.clauses.length
      .obtain⟨y,hy,hjy⟩:=P.cover j hj
       rw[eq y hy]at hjy;have l1:ms.length=C.clauses.length:=l1;have l2:ms'.length=C.clauses.length:=l2;obtain⟨n,hn⟩:=List.getElem?_of_mem hjy;rw[<-jV (ms:=ms) (λi hi=>by rw[l1];exact hp.lt hi) hn,<-jV (ms:=ms') (λi hi=>by rw[l2];exact hp.lt hi) hn,e4]
      .rw[List.getElem?_eq_none (by omega),List.getElem?_eq_none (by omega)]
    .exact ih i ⟨x.2.bA (s.rs x.1) i,true⟩ (fD.2 (.inr (.inr ⟨i,by rw[hp.acts];exact h1,rfl,by rw[hp.days];exact h2,⟨by rw[xg hp];exact h3.1,ec⟩,rfl⟩))) _ hs2 (jr hp hs.lm i)
 |@wS q m q' ho hm _ ih=>
  obtain⟨r,o⟩:=q;subst ho;intro s hs e;dsimp only at e;subst e;rcases fD.1 hm with⟨_,h1,_⟩|⟨rfl,_,h2,rfl⟩|⟨i,h1,rfl,h2,h3,rfl⟩
  .cases h1
  .have h2:s.day<C.days:=by rw[hp.days]at h2;exact h2
   exact .wS rfl (fD.2 (.inr (.inl ⟨rfl,rfl,h2,rfl⟩))) (ih _ (step_ok (t:= -1) hs h2) (jr hp hs.lm (-1)))
  .have h2:s.day<C.days:=by rw[hp.days]at h2;exact h2
   have h1:i<C.acts.length:=by rw[hp.acts]at h1;exact h1
   refine .wS rfl (fD.2 (.inr (.inr ⟨i,h1,rfl,h2,⟨by have:=h3.1;rw[xg hp]at this;exact this,λe=>h3.2 ?_⟩,rfl⟩))) (ih _ (step_ok (t:=i) hs h2) (jr hp hs.lm i));show x.2.bA (s.rs x.1) i=s.rs x.1;rw[jr hp hs.lm];exact congrArg (aI.rs x.1) e
theorem Parts.Mr(P:Parts C ps){party:Int}(hp0:0<=party)(hs:aM C s)(o:Bool):dh C party ⟨s,o⟩↔∃x∈ps,dh x.2 party ⟨s.rs x.1,o⟩:=
 ⟨λh=>P.Uw h hs,λ⟨_,hx,h⟩=>P.Qq hp0 hx h s hs rfl⟩
end
end
end
noncomputable section
open Classical
structure jf(u r:Nat->Nat):Prop where
 le:∀i,u i<=i
 fix:∀i,u i=i->r i=i
 step:∀i,r (u i)=r i
def Fw(u:Nat->Nat)(i v:Nat):Nat->Nat:=λj=>if j=i then v else u j
section
variable {u r:Nat->Nat}
theorem jf.root(h:jf u r)(i:Nat):u (r i)=r i/\r i<=i:=by
 induction i using Nat.strongRecOn with
 |_ i ih=>
  by_cases e:u i=i
  .rw[h.fix i e];exact⟨e,Nat.le_refl _⟩
  .have:=h.le i
   obtain⟨h1,h2⟩:=ih (u i) (by omega);rw[h.step]at h1 h2;exact⟨h1,by omega⟩
theorem jf.idem(h:jf u r)(i:Nat):r (r i)=r i:=h.fix _ (h.root i).1
theorem jf.YI(h:jf u r)(i:Nat):jf (Fw u i (r i)) r:=by
 refine⟨λj=>?_,λj=>?_,λj=>?_⟩<;>unfold Fw<;>by_cases e:j=i
 .rw[if_pos e,e];exact(h.root i).2
 .rw[if_neg e];exact h.le j
 .rw[if_pos e,e];exact id
 .rw[if_neg e];exact h.fix j
 .rw[if_pos e,e];exact h.idem i
 .rw[if_neg e];exact h.step j
theorem jf.join(h:jf u r){a b:Nat}(ha:r a=a)(hb:r b=b)(hab:a<=b):jf (Fw u b a) (λx=>if r x=b then a else r x):=by
 refine⟨λj=>?_,λj=>?_,λj=>?_⟩<;>unfold Fw<;>by_cases e:j=b
 .rw[if_pos e];omega
 .rw[if_neg e];exact h.le j
 .rw[if_pos e,e];intro hh;rw[if_pos hb];exact hh
 .rw[if_neg e];intro hh;rw[h.fix j hh,if_neg e]
 .rw[if_pos e,e,ha,if_pos hb];split<;>rfl
 .rw[if_neg e,h.step]
def Sr(r r':Nat->Nat):Prop:=∀x y,r x=r y->r' x=r' y
theorem Sr.refl(r:Nat->Nat):Sr r r:=λ_ _ h=>h
theorem Sr.join(r:Nat->Nat)(a b:Nat):Sr r (λx=>if r x=b then a else r x):=λx y h=>by dsimp only;rw[h]
structure vM(r:Nat->Nat)(k:Nat)(m:Nat->Option Nat)(P:List (List Nat)):Prop where
 at_:∀i,i<k->r i=i->∃p:Nat,m i=some p/\P[p]?=some ((List.range k).filter λj=>decide (r j=i))
 of:∀(p:Nat)(l:List Nat),P[p]?=some l->∃i,i<k/\r i=i/\m i=some p/\l=(List.range k).filter λj=>decide (r j=i)
theorem vM.nil(r:Nat->Nat)(m:Nat->Option Nat):vM r 0 m []:=⟨λi h=>absurd h (Nat.not_lt_zero i),λp l h=>by simp at h⟩
theorem iO(r:Nat->Nat)(k i:Nat):(List.range (k+1)).filter (λj=>decide (r j=i))=(List.range k).filter (λj=>decide (r j=i))++if r k=i then[k]else[]:=by
 rw[List.range_succ,List.filter_append];congr 1;by_cases e:r k=i<;>simp[e]
theorem vM.old(h:jf u r){k:Nat}{m:Nat->Option Nat}{P:List (List Nat)}(g:vM r k m P)(hk:r k≠k):∃(p:Nat)(l:List Nat),m (r k)=some p/\P[p]?=some l/\vM r (k+1) m (P.set p (l++[k])):=by
 have hr:=h.root k;obtain⟨p,h1,h2⟩:=g.at_ (r k) (by omega) (h.idem k);have hp:=(List.getElem?_eq_some_iff.1 h2).1;refine⟨p,_,h1,h2,λi hi YJ=>?_,λq l hq=>?_⟩
 .have hik:i<k:=by
   by_cases e:i=k
   .subst e;exact absurd YJ hk
   .omega
  obtain⟨q,h3,h4⟩:=g.at_ i hik YJ;refine⟨q,h3,?_⟩;rw[List.getElem?_set,iO];by_cases e:r k=i
  .rw[<-e,h1]at h3
   cases h3
   rw[if_pos rfl,if_pos hp,if_pos e,e]
  .have hqp:p≠q:=λe2=>by
    subst e2;rw[h2]at h4;have h5:r k∈(List.range k).filter λj=>decide (r j=r k):=by simp[h.idem k];omega
    rw[Option.some.inj h4]at h5;have:=(List.mem_filter.1 h5).2;simp[h.idem k]at this;exact e this
   rw[if_neg hqp,if_neg e,List.append_nil];exact h4
 .rw[List.getElem?_set]at hq
  by_cases e:p=q
  .subst e
   rw[if_pos rfl,if_pos hp]at hq;cases hq
   refine⟨r k,by omega,h.idem k,h1,?_⟩;rw[iO,if_pos rfl]
  .rw[if_neg e]at hq
   obtain⟨i,h3,h4,h5,h6⟩:=g.of q l hq;refine⟨i,by omega,h4,h5,?_⟩;rw[iO,h6];by_cases e2:r k=i
   .subst e2
    rw[h1]at h5;cases h5
    exact absurd rfl e
   .rw[if_neg e2,List.append_nil]
theorem vM.new(h:jf u r){k:Nat}{m:Nat->Option Nat}{P:List (List Nat)}(g:vM r k m P)(hk:r k=k):vM r (k+1) (λi=>if i=k then some P.length else m i) ((P++[[]]).set P.length ([]++[k])):=by
 have hs:(P++[[]]).set P.length ([]++[k])=P++[[k]]:=by simp
 rw[hs];have lt:∀j,j<k->r j≠k:=λj hj e=>by have:=(h.root j).2;omega
 have hz:(List.range k).filter (λj=>decide (r j=k))=[]:=by
  rw[List.filter_eq_nil_iff];intro j hj;simpa using lt j (List.mem_range.1 hj)
 refine⟨λi hi YJ=>?_,λq l hq=>?_⟩
 .by_cases e:i=k
  .subst e
   refine⟨P.length,if_pos rfl,?_⟩;rw[List.getElem?_append_right (Nat.le_refl _),Nat.sub_self,iO,if_pos hk,hz];rfl
  .obtain⟨p,h1,h2⟩:=g.at_ i (by omega) YJ
   refine⟨p,by rw[if_neg e];exact h1,?_⟩;rw[List.getElem?_append_left (List.getElem?_eq_some_iff.1 h2).1,h2,iO,if_neg (by omega),List.append_nil]
 .by_cases hq2:q<P.length
  .rw[List.getElem?_append_left hq2]at hq
   obtain⟨i,h3,h4,h5,h6⟩:=g.of q l hq;refine⟨i,by omega,h4,by rw[if_neg (by omega)];exact h5,?_⟩;rw[iO,h6,if_neg (by omega),List.append_nil]
  .have hq3:=(List.getElem?_eq_some_iff.1 hq).1
   simp at hq3;obtain rfl:q=P.length:=by omega
   rw[List.getElem?_append_right (Nat.le_refl _),Nat.sub_self]at hq;cases hq
   refine⟨k,by omega,hk,if_pos rfl,?_⟩;rw[iO,if_pos hk,hz];rfl
end
def aF.nums(k:aF):List Int:=if k.pause= -1 then[k.act]else[k.act,k.pause,k.resume]
structure vN(C:aA)(P:List (List Nat)):Prop where
 aes:P.length<=C.clauses.length
 len:∀l∈P,l.length<=C.clauses.length
 lt:∀l∈P,∀i∈l,i<C.clauses.length
 cover:∀i,i<C.clauses.length->∃l∈P,i∈l
 apart:∀l∈P,∀l'∈P,l≠l'->(∀a∈C.acts,a.kind=1)/\∀i∈l,∀j∈l',∀k k':aF,C.clauses[i]?=some k->C.clauses[j]?=some k'->∀t∈k.nums,t∉k'.nums
theorem vN.of{C:aA}{u r:Nat->Nat}{m:Nat->Option Nat}{P:List (List Nat)}(hP:P.length<=C.clauses.length)(h:jf u r)(g:vM r C.clauses.length m P)
 (h1:(∃a∈C.acts,a.kind≠1)->∀i,i<C.clauses.length->r i=r 0)
 (h2:∀(i j:Nat)(k k':aF),C.clauses[i]?=some k->C.clauses[j]?=some k'->∀t∈k.nums,t∈k'.nums->r i=r j):vN C P:=by
 refine⟨hP,λl hl=>?_,λl hl i hi=>?_,λi hi=>?_,λl hl l' hl' hne=>?_⟩
 .obtain⟨p,hp⟩:=List.getElem?_of_mem hl
  obtain⟨q,_,_,_,rfl⟩:=g.of p l hp;have:=List.length_filter_le (λj=>decide (r j=q)) (List.range C.clauses.length);rw[List.length_range]at this;exact this
 .obtain⟨p,hp⟩:=List.getElem?_of_mem hl
  obtain⟨q,_,_,_,rfl⟩:=g.of p l hp;exact List.mem_range.1 (List.mem_filter.1 hi).1
 .have hr:=h.root i
  obtain⟨p,h3,h4⟩:=g.at_ (r i) (by omega) (h.idem i);exact⟨_,List.mem_of_getElem? h4,List.mem_filter.2 ⟨List.mem_range.2 hi,by simp⟩⟩
 .obtain⟨p,hp⟩:=List.getElem?_of_mem hl
  obtain⟨p',hp'⟩:=List.getElem?_of_mem hl';obtain⟨q,q1,q2,_,rfl⟩:=g.of p l hp;obtain⟨q',q1',q2',_,rfl⟩:=g.of p' l' hp';have hqq:q≠q':=λe=>hne (by rw[e]);refine⟨λa ha=>Classical.byContradiction λe=>hqq ?_,λi hi j hj k k' hk hk' t ht ht'=>hqq ?_⟩
  .have e1:=h1 ⟨a,ha,e⟩ q q1
   have e2:=h1 ⟨a,ha,e⟩ q' q1';omega
  .have e1:r i=q:=by simpa using(List.mem_filter.1 hi).2
   have e2:r j=q':=by simpa using(List.mem_filter.1 hj).2
   rw[<-e1,<-e2];exact h2 i j k k' hk hk' t ht ht'
def sw(C:aA)(cl:List Nat)(i:Nat):aF:=match C.clauses[i]? with
 |some k=>k.onto (k.start.map λc=>⟨(cl.idxOf c.clause.toNat:Nat),c.is⟩)
 |none=>⟨0,0,0,0,[],0,0,false,false,0,0,⟨0,0⟩,0,0,false⟩
def aA.part(C:aA)(cl:List Nat):aA:=⟨C.aC,C.ah,C.units,C.acts,cl.map (sw C cl),C.days,C.off⟩
theorem Qr{C:aA}{cl:List Nat}:(C.part cl).clauses.length=cl.length/\∀(j i:Nat)(k:aF),cl[j]?=some i->C.clauses[i]?=some k->(C.part cl).clauses[j]?=some (k.onto (k.start.map λc=>⟨(cl.idxOf c.clause.toNat:Nat),c.is⟩)):=by
 refine⟨by simp[aA.part],λj i k hj hk=>?_⟩;show(cl.map (sw C cl))[j]?=_;rw[List.getElem?_map,hj,Option.map_some,sw,hk]
theorem eP.of{C:aA}{cl:List Nat}(hl:∀i∈cl,i<C.clauses.length)(hc:∀i∈cl,∀k:aF,C.clauses[i]?=some k->∀c∈k.start,0<=c.clause/\c.clause.toNat∈cl):eP C (C.part cl) cl:=by
 obtain⟨h1,h2⟩:=Qr (C:=C) (cl:=cl);refine⟨rfl,rfl,rfl,rfl,rfl,h1,λj i hj=>?_⟩;have hi:=List.mem_of_getElem? hj;have hk:C.clauses[i]?=some (C.clauses[i]'(hl i hi)):=List.getElem?_eq_getElem (hl i hi);refine⟨_,_,hk,h2 j i _ hj hk,by simp,λn c c' hn hn'=>?_⟩;rw[List.getElem?_map,hn]at hn';cases hn'
 obtain⟨g1,g2⟩:=hc i hi _ hk c (List.mem_of_getElem? hn);exact⟨rfl,g1,_,rfl,by rw[List.getElem?_eq_getElem (List.idxOf_lt_length_of_mem g2),List.getElem_idxOf]⟩
theorem Parts.of{C:aA}{P:List (List Nat)}(hv:C.valid=true)(h:vN C P)(hp:∀l∈P,eP C (C.part l) l/\(C.part l).valid=true):Parts C (P.map λl=>(l,C.part l)):=by
 have mem:∀x∈P.map λl=>(l,C.part l),x.1∈P/\x.2=C.part x.1:=λx hx=>by
  obtain⟨l,hl,rfl⟩:=List.mem_map.1 hx;exact⟨hl,rfl⟩
 refine⟨λx hx=>?_,λx hx=>?_,λi hi=>?_,λx hx y hy hne=>?_⟩
 .obtain⟨h1,h2⟩:=mem x hx;rw[h2];exact(hp _ h1).1
 .obtain⟨h1,h2⟩:=mem x hx;rw[h2];exact(hp _ h1).2
 .obtain⟨l,hl,h1⟩:=h.cover i hi
  exact⟨_,List.mem_map.2 ⟨l,hl,rfl⟩,h1⟩
 .obtain⟨h1,h2⟩:=mem x hx
  obtain⟨h3,h4⟩:=mem y hy;have hxy:x.1≠y.1:=λe=>hne (by obtain⟨a,b⟩:=x;obtain⟨c,d⟩:=y;dsimp only at e h2 h4;subst e;rw[h2,h4]);obtain⟨g1,g2⟩:=h.apart _ h1 _ h3 hxy;refine⟨g1,λi hi j hj k k' hk hk' t ht ht'=>?_⟩;have hC:=aA.ok hv;have nm:∀(i:Nat)(k:aF),C.clauses[i]?=some k->k.names t->(t:Int)∈k.nums:=λi k hk hn=>by
   unfold aF.nums;have hp:=(hC.clause hk).pause;by_cases e:k.pause= -1
   .rw[if_pos e]
    rcases hn with hn|hn|hn
    .simp[hn]
    .omega
    .have hn1:=(hp (.inr (by omega))).2.1
     rw[e]at hn1;simp[aA.natural,aA.Dp]at hn1
   .rw[if_neg e]
    rcases hn with hn|hn|hn<;>simp[hn]
  exact g2 i hi j hj k k' hk hk' t (nm i k hk ht) (nm j k' hk' ht')
theorem Fx{C:aA}{P:List (List Nat)}(h:vN C P){party:Int}(hp0:0<=party){p:aR}(hs:aM C p.st)(hp:∀l∈P,eP C (C.part l) l/\(C.part l).valid=true):(∀l∈P,¬dh (C.part l) party ⟨p.st.rs l,p.own⟩)↔¬dh C party p:=by
 have:=(Parts.of hs.con h hp).Mr hp0 hs p.own;constructor
 .intro h1 h2
  obtain⟨x,hx,hd⟩:=this.1 h2;obtain⟨l,hl,rfl⟩:=List.mem_map.1 hx;exact h1 l hl hd
 .exactλh1 l hl hd=>h1 (this.2 ⟨_,List.mem_map.2 ⟨l,hl,rfl⟩,hd⟩)
end
end Go.Proofs.YtjoohkjmoghmoaaGreatDoor

/- part -/
import Derived.Test.YtjoohkjmoghmoaaGreatDoorP12
set_option linter.all false
namespace Go.Proofs.YtjoohkjmoghmoaaGreatDoor
section
noncomputable section
def rk(r:List Int)(i:Nat):Int:=r.getD i (-1)
theorem sP{r:List Int}{i j:Nat}{x:Int}(hi:i<r.length):rk (r.set i x) j=if i=j then x else rk r j:=by
 unfold rk;rw[List.getD_eq_getElem?_getD,List.getD_eq_getElem?_getD,List.getElem?_set];by_cases h:i=j
 .rw[if_pos h,if_pos h,if_pos (by omega)];rfl
 .rw[if_neg h,if_neg h]
theorem pX{r:List Int}{i:Nat}{x:Int}(h:r[i]?=some x):rk r i=x:=by unfold rk;rw[List.getD_eq_getElem?_getD,h];rfl
theorem uO{r:List Int}{i:Nat}(h:i<r.length):r[i]?=some (rk r i):=by
 unfold rk;rw[List.getD_eq_getElem?_getD,List.getElem?_eq_getElem h];rfl
def mr(M:List (List (Int×Nat)))(i:Nat):List (Int×Nat):=M.getD i []
def oD(M:List (List (Int×Nat)))(j:Nat):List Nat:=(List.range M.length).flatMap λi=>((mr M i).filter λx=>x.2==j).map λ_=>i
def hits(M:List (List (Int×Nat)))(i j:Nat):Nat:=((mr M i).filter λx=>x.2==j).length
theorem JY{l:List (Int×Nat)}{i k:Nat}:(l.map λ_=>i).count k=if k=i then l.length else 0:=by
 induction l with
 |nil=>simp
 |cons a l ih=>
  rw[List.map_cons,List.count_cons,ih];by_cases h:k=i
  .simp[h]
  .have:¬i=k:=λe=>h e.symm
   simp[h,this]
theorem JZ{M:List (List (Int×Nat))}{i j:Nat}(hi:i<M.length):(oD M j).count i=hits M i j:=by
 unfold oD hits;have key:∀n,((List.range n).flatMap λi=>((mr M i).filter λx=>x.2==j).map λ_=>i).count i=if i<n then((mr M i).filter λx=>x.2==j).length else 0:=by
  intro n;induction n with
  |zero=>simp
  |succ n ih=>
   rw[List.range_succ,List.flatMap_append,List.count_append,ih,List.flatMap_cons,List.flatMap_nil,List.append_nil,JY];by_cases h:i=n
   .subst h;simp
   .have h2:i<n+1↔i<n:=by omega
    simp[h,h2]
 rw[key,if_pos hi]
theorem IJ{M:List (List (Int×Nat))}{i j:Nat}:i∈oD M j↔i<M.length/\∃m,(m,j)∈mr M i:=by
 unfold oD;rw[List.mem_flatMap];constructor
 .rintro⟨k,hk,hm⟩
  obtain⟨x,hx,rfl⟩:=List.mem_map.1 hm;have:=List.mem_filter.1 hx;refine⟨List.mem_range.1 hk,x.1,?_⟩;have e:x.2=j:=by simpa using this.2
  rw[<-e];exact this.1
 .rintro⟨hi,m,hm⟩
  exact⟨i,List.mem_range.2 hi,List.mem_map.2 ⟨(m,j),List.mem_filter.2 ⟨hm,by simp⟩,rfl⟩⟩
theorem IK{M:List (List (Int×Nat))}{i:Nat}:∀{L:List Nat},L.Nodup->(L.map (hits M i)).sum=((mr M i).filter λx=>L.contains x.2).length
 |[],_=>by rw[List.map_nil,List.sum_nil,List.filter_eq_nil_iff.2 (by simp)];rfl
 |j::L,h=>by
  rw[List.nodup_cons]at h;rw[List.map_cons,List.sum_cons,IK h.2];unfold hits;generalize mr M i=l;induction l with
  |nil=>rfl
  |cons a l ih=>
   simp only[List.filter_cons];by_cases h1:a.2=j
   .subst h1
    have h2:L.contains a.2=false:=by simpa using h.1
    have h3:(a.2::L).contains a.2=true:=by simp
    simp only[h2,h3,beq_self_eq_true,if_true,Bool.false_eq_true,if_false,List.length_cons];omega
   .have h1b:(a.2==j)=false:=by simpa using h1
    cases h2:L.contains a.2 with
    |true=>
     have h3:(j::L).contains a.2=true:=by simp at h2⊢;exact .inr h2
     simp only[h1b,h3,if_true,Bool.false_eq_true,if_false,List.length_cons];omega
    |false=>
     have h3:(j::L).contains a.2=false:=by simp at h2⊢;exact⟨h1,h2⟩
     simp only[h1b,h3,Bool.false_eq_true,if_false];exact ih
theorem sQ{M:List (List (Int×Nat))}{i:Nat}(hi:i<M.length){L:List Nat}(h:L.Nodup):(L.flatMap (oD M)).count i=((mr M i).filter λx=>L.contains x.2).length:=by
 rw[<-IK h];induction L with
 |nil=>simp
 |cons a L ih=>
  rw[List.nodup_cons]at h;rw[List.flatMap_cons,List.count_append,ih h.2,List.map_cons,List.sum_cons,JZ hi]
structure RI(C:aA)(party:Int)(P:List aP)(M:List (List (Int×Nat)))(r op:List Int)(Q E:List Nat)(n0:Nat):Prop where
 lr:r.length=P.length
 lo:op.length=P.length
 lm:M.length=P.length
 q:Q.Nodup
 qr:∀i,i∈Q↔i<P.length/\0<=rk r i
 neg:∀i, -1<=rk r i
 op:∀i,i<P.length->op.getD i 0=(mr M i).length - (E.count i:Int)
 lost:∀(i:Nat)(p:aP),P[i]?=some p->(rk r i=0↔anyFailed C p.st party=true)
 own:∀(i:Nat)(p:aP),P[i]?=some p->p.own=true->0<rk r i->∀m j,(m,j)∈mr M i->0<=rk r j/\rk r j<rk r i
 jJ:∀(i:Nat)(p:aP),P[i]?=some p->p.own=false->0<rk r i->∃m j,(m,j)∈mr M i/\0<=rk r j/\rk r j<rk r i
 mono:Q.Pairwise λa b=>rk r a<=rk r b
 cl:∀(i:Nat)(p:aP),P[i]?=some p->rk r i= -1->(p.own=false->E.count i=0)/\(i<n0->p.own=true->E.count i≠(mr M i).length)
section
variable {C:aA} {party:Int} {P:List aP} {M:List (List (Int×Nat))} {r op:List Int} {Q E D:List Nat} {n0:Nat}
theorem RI.settle(a:RI C party P M r op Q E n0){f:Nat}{p:aP}{x:Int}(hf:P[f]?=some p)(hr:rk r f= -1)(hx:0<x)(hb:∀i∈Q,rk r i<=x)
 (h1:p.own=true->∀m j,(m,j)∈mr M f->0<=rk r j/\rk r j<x)(h2:p.own=false->∃m j,(m,j)∈mr M f/\0<=rk r j/\rk r j<x):RI C party P M (r.set f x) op (Q++[f]) E n0:=by
 have hl:=(List.getElem?_eq_some_iff.1 hf).1;have hl2:f<r.length:=by rw[a.lr];exact hl
 have nQ:f∉Q:=λh=>by have:=((a.qr f).1 h).2;omega
 have ne:∀{j:Nat},0<=rk r j->rk (r.set f x) j=rk r j:=λ{j} h=>by
  rw[sP hl2,if_neg (λe=>by subst e;omega)]
 have le:∀i,rk (r.set f x) i=if f=i then x else rk r i:=λi=>sP hl2
 refine⟨by simp[a.lr],a.lo,a.lm,?_,λi=>?_,λi=>?_,a.op,λi p' hi=>?_,λi p' hi ho hp m j hm=>?_,λi p' hi ho hp=>?_,?_,λi p' hi hp=>?_⟩
 .rw[List.nodup_append]
  exact⟨a.q,by simp,λy hy z hz e=>by simp at hz;subst hz;subst e;exact nQ hy⟩
 .rw[List.mem_append,List.mem_singleton,a.qr,le]
  by_cases h:f=i
  .rw[if_pos h]
   constructor
   .rintro _;exact⟨by omega,by omega⟩
   .intro _;exact .inr h.symm
  .rw[if_neg h]
   constructor
   .rintro(e|e)
    .exact e
    .exact absurd e.symm h
   .exactλe=>.inl e
 .rw[le];split
  .omega
  .exact a.neg i
 .rw[le]
  by_cases h:f=i
  .rw[if_pos h]
   subst h;have:=a.lost f p' hi;constructor
   .intro e;omega
   .intro e;have:=this.2 e;omega
  .rw[if_neg h];exact a.lost i p' hi
 .rw[le i]at hp⊢
  by_cases h:f=i
  .subst h
   rw[if_pos rfl];rw[hf]at hi;cases hi;obtain⟨g1,g2⟩:=h1 ho m j hm;rw[ne g1];exact⟨g1,g2⟩
  .rw[if_neg h]at hp⊢
   obtain⟨g1,g2⟩:=a.own i p' hi ho hp m j hm;rw[ne g1];exact⟨g1,g2⟩
 .rw[le]at hp
  by_cases h:f=i
  .subst h
   rw[hf]at hi;cases hi;obtain⟨m,j,g0,g1,g2⟩:=h2 ho;refine⟨m,j,g0,?_⟩;rw[ne g1,le,if_pos rfl];exact⟨g1,g2⟩
  .rw[if_neg h]at hp
   obtain⟨m,j,g0,g1,g2⟩:=a.jJ i p' hi ho hp;refine⟨m,j,g0,?_⟩;rw[ne g1,le,if_neg h];exact⟨g1,g2⟩
 .rw[List.pairwise_append]
  refine⟨?_,by simp,λy hy z hz=>?_⟩
  .refine List.Pairwise.imp_of_mem (λ{y z} hy hz e=>?_) a.mono
   rw[ne ((a.qr y).1 hy).2,ne ((a.qr z).1 hz).2];exact e
  .simp at hz;subst hz
   rw[ne ((a.qr y).1 hy).2,le,if_pos rfl];exact hb y hy
 .rw[le]at hp
  by_cases h:f=i
  .rw[if_pos h]at hp;omega
  .rw[if_neg h]at hp;exact a.cl i p' hi hp
theorem RI.NC(a:RI C party P M r op Q E n0):Q.length<=P.length:=by
 have key:∀(n:Nat)(l:List Nat),l.Nodup->(∀x∈l,x<n)->l.length<=n:=by
  intro n;induction n with
  |zero=>intro l _ h;cases l with
   |nil=>simp
   |cons a l=>exact absurd (h a (by simp)) (by omega)
  |succ n ih=>
   intro l hl h;have h1:=ih (l.erase n) (hl.erase n) λx hx=>by
    have h2:=h x (List.mem_of_mem_erase hx);have h3:=(List.Nodup.mem_erase_iff hl).1 hx;have:=h3.1;omega
   by_cases hm:n∈l
   .rw[List.length_erase_of_mem hm]at h1
    omega
   .rw[List.erase_of_not_mem hm]at h1;omega
 exact key _ _ a.q λx hx=>((a.qr x).1 hx).1
theorem RI.skip(a:RI C party P M r op Q [] n0){p:aP}(hp:P[n0]?=some p)(h:¬(p.own=true/\op.getD n0 0=0/\rk r n0= -1)):RI C party P M r op Q [] (n0+1):=by
 refine⟨a.lr,a.lo,a.lm,a.q,a.qr,a.neg,a.op,a.lost,a.own,a.jJ,a.mono,λi p' hi hr=>⟨(a.cl i p' hi hr).1,λh1 h2=>?_⟩⟩;by_cases e:i<n0
 .exact(a.cl i p' hi hr).2 e h2
 .obtain rfl:i=n0:=by omega
  rw[hp]at hi;cases hi;intro e2;have hl:=(List.getElem?_eq_some_iff.1 hp).1;have:=a.op i hl;refine h ⟨h2,?_,hr⟩;rw[this,<-e2];simp
theorem RI.afG(a:RI C party P M r op Q [] n0){p:aP}(hp:P[n0]?=some p)(ho:p.own=true)(h0:op.getD n0 0=0)(hr:rk r n0= -1)(hb:∀i∈Q,rk r i<=1):RI C party P M (r.set n0 1) op (Q++[n0]) [] (n0+1):=by
 have hl:=(List.getElem?_eq_some_iff.1 hp).1;have h1:=a.op n0 hl;have h2:(mr M n0).length=0:=by rw[h0]at h1;simp at h1;omega
 have b:=a.settle hp hr (by omega) hb (λ_ m j hm=>by rw[List.length_eq_zero_iff.1 h2]at hm;cases hm) (λe=>by rw[ho]at e;cases e);refine RI.skip (n0:=n0) b hp λe=>?_;have:=e.2.2;rw[sP (by rw[a.lr];exact hl),if_pos rfl]at this;omega
theorem uP{E:List Nat}{f i:Nat}:(E++[f]).count i=E.count i+if f=i then 1 else 0:=by
 rw[List.count_append,List.count_singleton];by_cases h:f=i<;>simp[h]
theorem RI.edge(a:RI C party P M r op Q E n0){f:Nat}{p:aP}(hf:P[f]?=some p)(h:rk r f≠ -1\/(p.own=true/\op.getD f 0 - 1≠0)):RI C party P M r (op.set f (op.getD f 0 - 1)) Q (E++[f]) n0:=by
 have hl:=(List.getElem?_eq_some_iff.1 hf).1;have hop:∀i,i<P.length->(op.set f (op.getD f 0 - 1)).getD i 0=(mr M i).length - ((E++[f]).count i:Int):=λi hi=>by
  have h1:=a.op i hi;rw[uP,List.getD_eq_getElem?_getD,List.getElem?_set];rw[List.getD_eq_getElem?_getD]at h1;by_cases e:f=i
  .subst e
   rw[if_pos rfl,if_pos rfl,if_pos (by rw[a.lo];exact hl),List.getD_eq_getElem?_getD];simp only[Option.getD_some];rw[h1];omega
  .rw[if_neg e,if_neg e,h1];rfl
 refine⟨a.lr,by simp[a.lo],a.lm,a.q,a.qr,a.neg,hop,a.lost,a.own,a.jJ,a.mono,λi p' hi hr=>?_⟩;by_cases e:f=i
 .subst e
  rw[hf]at hi;cases hi;rcases h with h|⟨h1,h2⟩
  .exact absurd hr h
  .refine⟨(λk=>by rw[h1]at k;cases k),λ_ _ k=>h2 ?_⟩
   have h3:=a.op f hl;rw[uP,if_pos rfl]at k;omega
 .obtain⟨g1,g2⟩:=a.cl i p' hi hr
  rw[uP,if_neg e];exact⟨g1,g2⟩
theorem RI.ZL(a:RI C party P M r op Q E n0)(ht:∀(i:Nat) l m j,M[i]?=some l->(m,j)∈l->j<P.length){f to t:Nat}{p:aP}{rest:List Nat}(hQ:Q=D++to::rest)(hE:E=D.flatMap (oD M)++(oD M to).take t)(hb:∀i∈Q,rk r i<=rk r to+1)(hf:P[f]?=some p)(hft:(oD M to)[t]?=some f)
 (hr:rk r f= -1)(h:p.own=false\/op.getD f 0 - 1=0):RI C party P M (r.set f (rk r to+1)) (op.set f (op.getD f 0 - 1)) (Q++[f]) (E++[f]) n0:=by
 have hl:=(List.getElem?_eq_some_iff.1 hf).1;have hto:=((a.qr to).1 (by rw[hQ];simp)).2;have hmem:f∈oD M to:=List.mem_of_getElem? hft;obtain⟨_,mm,hmm⟩:=IJ.1 hmem;have hQn:=a.q;rw[hQ]at hQn;have hDn:(D++[to]).Nodup:=by
  rw[show D++to::rest=(D++[to])++rest by simp]at hQn;exact(List.nodup_append.1 hQn).1
 have afH:∀j∈D++[to],0<=rk r j/\rk r j<=rk r to:=by
  intro j hj;have hm:=a.mono;rw[hQ,List.pairwise_append]at hm;rcases List.mem_append.1 hj with hj|hj
  .exact⟨((a.qr j).1 (by rw[hQ];simp[hj])).2,hm.2.2 j hj to (by simp)⟩
  .simp at hj;subst hj;exact⟨hto,by omega⟩
 have all:op.getD f 0 - 1=0->∀m j,(m,j)∈mr M f->0<=rk r j/\rk r j<rk r to+1:=by
  intro h0 m j hm;have h1:=a.op f hl;have h2:(E++[f]).count f=(mr M f).length:=by rw[uP,if_pos rfl];omega
  have h3:E++[f]=D.flatMap (oD M)++(oD M to).take (t+1):=by
   rw[hE,List.append_assoc,List.take_add_one,hft];rfl
  have h4:(E++[f]).count f<=((D++[to]).flatMap (oD M)).count f:=by
   rw[h3,List.flatMap_append,List.count_append,List.count_append,List.flatMap_cons,List.flatMap_nil,List.append_nil];exact Nat.add_le_add_left ((List.take_sublist _ _).count_le _) _
  rw[sQ (by rw[a.lm];exact hl) hDn,h2]at h4;have h5:=List.length_filter_le (λx=>(D++[to]).contains x.2) (mr M f);have h6:=List.length_filter_eq_length_iff.1 (Nat.le_antisymm h5 h4) (m,j) hm;have h7:=afH j (by simpa using h6);omega
 have b:=a.settle hf hr (x:=rk r to+1) (by omega) hb (λho=>all (by
  rcases h with h|h
  .rw[ho]at h;cases h
  .exact h)) (λ_=>⟨mm,to,hmm,hto,by omega⟩)
 have hl2:f<r.length:=by rw[a.lr];exact hl
 refine RI.edge b hf (.inl ?_);rw[sP hl2,if_pos rfl];omega
theorem RI.Vn(a:RI C party P M r op Q E n0){f to t:Nat}{rest:List Nat}(hQ:Q=D++to::rest)(hE:E=D.flatMap (oD M)++(oD M to).take t)(hf:f<P.length):E.count f<=(mr M f).length:=by
 have hQn:=a.q;rw[hQ]at hQn;have hDn:(D++[to]).Nodup:=by
  rw[show D++to::rest=(D++[to])++rest by simp]at hQn;exact(List.nodup_append.1 hQn).1
 have h4:E.count f<=((D++[to]).flatMap (oD M)).count f:=by
  rw[hE,List.flatMap_append,List.count_append,List.count_append,List.flatMap_cons,List.flatMap_nil,List.append_nil];exact Nat.add_le_add_left ((List.take_sublist _ _).count_le _) _
 rw[sQ (by rw[a.lm];exact hf) hDn]at h4;exact Nat.le_trans h4 (List.length_filter_le _ _)
theorem RI.done(a:RI C party P M r op Q E P.length)(hE:E=Q.flatMap (oD M))(ht:∀(i:Nat) l m j,M[i]?=some l->(m,j)∈l->j<P.length):lK C party P M r:=by
 have SS:∀{i:Nat}{l:List (Int×Nat)},M[i]?=some l->mr M i=l:=λ{i l} h=>by unfold mr;rw[List.getD_eq_getElem?_getD,h];rfl
 have cnt:∀i,i<P.length->E.count i=((mr M i).filter λx=>Q.contains x.2).length:=λi hi=>by rw[hE,sQ (by rw[a.lm];exact hi) a.q]
 have sm:∀{j:Nat},j<P.length->r[j]?=some (rk r j):=λh=>uO (by rw[a.lr];exact h);have hi:∀{i:Nat}{p:aP},P[i]?=some p->i<P.length:=λh=>(List.getElem?_eq_some_iff.1 h).1;refine⟨a.lr,λi x h=>by rw[<-pX h];exact a.neg i,λi p x h1 h2=>by rw[<-pX h2];exact a.lost i p h1,λi p l x h1 h2 h3 h4 h5 m j hm=>?_,λi p l x h1 h2 h3 h4 h5=>?_,λi p l h1 h2 h3 h4=>?_,λi p l h1 h2 h3 h4 m j hm=>?_⟩
 .have e:=pX h3
  obtain⟨g1,g2⟩:=a.own i p h1 h4 (by omega) m j (by rw[SS h2];exact hm);exact⟨_,sm (ht i l m j h2 hm),g1,by omega⟩
 .have e:=pX h3
  obtain⟨m,j,g0,g1,g2⟩:=a.jJ i p h1 h4 (by omega);rw[SS h2]at g0;exact⟨m,j,_,g0,sm (ht i l m j h2 g0),g1,by omega⟩
 .have e:=pX h3
  have h5:=(a.cl i p h1 e).2 (hi h1) h4;rw[cnt i (hi h1),SS h2]at h5;by_cases hx:∀x∈l,Q.contains x.2=true
  .exact absurd (List.length_filter_eq_length_iff.2 hx) h5
  .obtain⟨⟨m,j⟩,hx2⟩:=Classical.not_forall.1 hx
   obtain⟨hx3,hx4⟩:=Classical.not_imp.1 hx2;refine⟨m,j,hx3,?_⟩;have hj:=ht i l m j h2 hx3;have nq:j∉Q:=by simpa using hx4
   rw[sm hj];congr 1;have:=a.neg j;by_cases e0:0<=rk r j
   .exact absurd ((a.qr j).2 ⟨hj,e0⟩) nq
   .omega
 .have e:=pX h3
  have h5:=(a.cl i p h1 e).1 h4;have hj:=ht i l m j h2 hm;rw[cnt i (hi h1),SS h2,List.length_eq_zero_iff,List.filter_eq_nil_iff]at h5;have h6:=h5 (m,j) hm;have nq:j∉Q:=by simpa using h6
  rw[sm hj];congr 1;have:=a.neg j;by_cases e0:0<=rk r j
  .exact absurd ((a.qr j).2 ⟨hj,e0⟩) nq
  .omega
end
end
end
section
noncomputable section
set_option maxRecDepth 1000000
set_option maxHeartbeats 4000000
def ND:MC:=(.seq (.reg [nl (.iM 1 (.s 132) (.s 134)),nl (.ld none (.v 0)),nk 21 (.mv (.v 0))]) (.reg [nl (.mv (.s 17)),nl (.mv (.s 21)),nl (.mv (.s 18)),nl (.call (.v 2) [(.v 1),(.v 0)])]))
def Cz:MC:=(.seq (.seq (.reg [nk 124 (.mv (.s 19))]) (.cond (.s 124) .skip (.exit 6))) (.seq (.blk 7 (.seq (.reg [nl (.mv (.s 8)),nl (.mv (.s 18)),nl (.iM 1 (.v 1) (.v 0)),nk 132 (.ld none (.v 0)),nk 133 (.gW (.s 132)),nk 134 (.mv (.c (.i .i64 0)))]) (.blk 8 (xP 3 134 133 135 8 9 ND)))) (.reg [nl (.call (.c (.f 186 [])) [(.s 9)]),nl (.mv (.v 0)),nl (.ext (.v 0) 0),nl (.ext (.v 1) 1),nk 18 (.mv (.v 1)),nk 19 (.mv (.v 0))])))
def Gl:MC:=(.seq (.reg [nl (.mv (.s 94)),nl (.iM 5 (.s 92) (.s 94)),nl (.ld (some 5) (.v 0)),nk 16 (.al 45 [(.i .i64 0),(.k 1),(.k 1),(.k 1),(.b false)]),nk 15 (.mv (.v 2)),⟨none,(.st 5 (.s 16) (.v 0)),.n⟩]) (.seq (.reg [nl (.fa 4 (.s 16)),nl (.ld none (.v 0)),nl (.mv (.v 0)),ng 0 true (.ld none (.s 7)),ng 1 true (.mv (.s 15)),ng 2 true (.iM 1 (.v 1) (.v 0)),ng 3 true (.ld none (.v 0)),ng 4 true (.bin .eql 3 (.v 0) (.c (.i .i64 0))),nl (.pick (.v 5) (.v 0) (.c (.b false))),nl (.mv (.v 0)),ng 0 true (.ld none (.s 6)),ng 1 true (.mv (.s 15)),ng 2 true (.iM 1 (.v 1) (.v 0)),ng 3 true (.ld none (.v 0)),ng 4 true (.bin .eql 3 (.v 0) (.c (.i .i64 (.negSucc 0)))),nk 114 (.pick (.v 5) (.v 0) (.c (.b false)))]) (.cond (.s 114) (.reg [nl (.ld none (.s 14)),nl (.mv (.s 15)),nl (.call (.v 1) [(.v 0),(.c (.i .i64 1))])]) .skip)))
def Gm:MC:=(.seq (.reg [nl (.iM 2 (.s 59) (.s 61)),nl (.ld (some 2) (.v 0)),nk 13 (.al 223 [(.i .i64 0),(.i .i64 0)]),⟨none,(.st 2 (.s 13) (.v 0)),.n⟩]) (.yM 2 [mq 0 [] (.mv (.s 8)),mq 0 [] (.fa 1 (.s 13)),mq 1 [1] (.ld none (.v 0)),mq 0 [] (.mv (.s 8)),mq 0 [] (.fa 1 (.s 13)),mq 1 [4] (.ld none (.v 0)),mq 0 [3,5] (.iM 1 (.v 0) (.v 1)),mq 1 [6] (.ld none (.v 0)),mq 0 [] (.mv (.s 10)),mq 2 [8] (.KO 3 1 [(.i .i64 0)] [(0,(1,(.v 0)))]),mq 3 [7,9] (.app 3 1 (.v 0) (.v 1)),mq 0 [0,2] (.iM 1 (.v 0) (.v 1)),mq 3 [10,11] (.st 1 (.v 1) (.v 0))] [(2,11)] []))
def Gn:MC:=(.seq (.reg [nl (.mv (.s 38)),nl (.iM 5 (.s 36) (.s 38)),nl (.ld (some 5) (.v 0)),nk 11 (.al 45 [(.i .i64 0),(.k 1),(.k 1),(.k 1),(.b false)]),nk 10 (.mv (.v 2)),⟨none,(.st 5 (.s 11) (.v 0)),.n⟩]) (.seq (.yM 0 [mq 1 [] (.ld none (.s 6)),mq 0 [] (.mv (.s 10)),mq 1 [] (.ld none (.s 7)),mq 0 [] (.mv (.s 10)),mq 0 [] (.fa 2 (.s 3)),mq 1 [4] (.ld none (.v 0)),mq 0 [] (.mv (.s 10)),mq 0 [5,6] (.iM 1 (.v 0) (.v 1)),mq 1 [7] (.ld none (.v 0)),mq 1 [8] (.gW (.v 0)),mq 0 [0,1] (.iM 1 (.v 0) (.v 1)),mq 3 [10] (.st 1 (.v 0) (.c (.i .i64 (.negSucc 0)))),mq 0 [2,3] (.iM 1 (.v 0) (.v 1)),mq 3 [9,12] (.st 1 (.v 1) (.v 0))] [(2,12),(9,12)] []) (.seq (.seq (.reg [nl (.fa 2 (.s 3)),nl (.ld none (.v 0)),nl (.mv (.s 10)),nl (.iM 1 (.v 1) (.v 0)),nk 59 (.ld none (.v 0)),nk 60 (.gW (.s 59)),nk 61 (.mv (.c (.i .i64 0)))]) (.blk 2 (xP 3 61 60 62 2 3 Gm))) (.seq (.reg [nl (.ld (some 7) (.s 2)),nl (.fa 0 (.s 11)),nl (.ld (some 4) (.v 0)),nl (.fa 0 (.s 3)),nl (.ld none (.v 0)),nk 83 (.call (.c (.f 182 [])) [(.v 4),(.v 2),(.v 0)])]) (.cond (.s 83) (.seq (.reg [nl (.ld none (.s 6)),nl (.mv (.s 10)),nl (.iM 1 (.v 1) (.v 0)),⟨none,(.st 1 (.v 0) (.c (.i .i64 0))),.n⟩]) (.reg [nl (.mv (.s 10)),nl (.call (.c (.f 183 [])) [(.s 9),(.v 0)])])) .skip)))))
def ZM:MC:=(.seq (.reg [nk 2 (.box 27 7 (.s 0)),nk 3 (.box 150 3 (.s 1)),nk 4 (.mv (.c (.k 1)))]) (.seq (.seq (.reg [nl (.ld (some 7) (.s 2)),nl (.ld (some 3) (.s 3)),nl (.call (.c (.f 181 [])) [(.v 1),(.v 0)]),nk 25 (.not (.v 0))]) (.cond (.s 25) (.seq (.reg [nk 4 (.mv (.c (.k 1)))]) .ret) .skip)) (.seq (.reg [nl (.fa 1 (.s 3)),nl (.ld none (.v 0)),nl (.gW (.v 0)),nk 5 (.mv (.v 0))]) (.seq (.reg [nl (.mv (.s 5)),nl (.Ju 3 [(.i .i64 0)] (.v 0) (.v 0)),nk 6 (.al 22 [(.k 1)]),⟨none,(.st 1 (.s 6) (.v 0)),.n⟩]) (.seq (.reg [nl (.mv (.s 5)),nl (.Ju 3 [(.i .i64 0)] (.v 0) (.v 0)),nk 7 (.al 22 [(.k 1)]),⟨none,(.st 1 (.s 7) (.v 0)),.n⟩]) (.seq (.reg [nl (.mv (.s 5)),nl (.Ju 22 [(.k 1)] (.v 0) (.v 0)),nk 8 (.mv (.v 0))]) (.seq (.reg [nk 9 (.al 323 [(.k 1),(.i .i64 0)])]) (.seq (.seq (.reg [nl (.fa 1 (.s 3)),nk 36 (.ld none (.v 0)),nk 37 (.gW (.s 36)),nk 38 (.mv (.c (.i .i64 0)))]) (.blk 0 (xP 3 38 37 39 0 1 Gn))) (.seq (.reg [nl (.Fq 184 [(.s 6),(.s 9)]),nk 14 (.al 303 [(.k 3)]),⟨none,(.st 1 (.s 14) (.v 0)),.n⟩]) (.seq (.seq (.reg [nl (.fa 1 (.s 3)),nk 92 (.ld none (.v 0)),nk 93 (.gW (.s 92)),nk 94 (.mv (.c (.i .i64 0)))]) (.blk 4 (xP 3 94 93 95 4 5 Gl))) (.seq (.reg [nl (.Fq 185 [(.s 7),(.s 6),(.s 3),(.s 14)]),nk 17 (.mv (.v 0))]) (.seq (.seq (.reg [nl (.call (.c (.f 186 [])) [(.s 9)]),nl (.mv (.v 0)),nl (.ext (.v 0) 0),nl (.ext (.v 1) 1),nk 18 (.mv (.v 1)),nk 19 (.mv (.v 0))]) (.blk 6 (.loop Cz))) (.seq (.reg [nl (.ld none (.s 6)),nk 4 (.mv (.v 0))]) .ret)))))))))))))
theorem c105:xO Tryz.prog sl0 105=some ([true,true],ZM,[(.t 4)]):=by kernel_rfl
def NG:MC:=(.seq (.seq (.reg [nl (.mv (.s 12)),nl (.ld none (.s 14)),nl (.iM 1 (.v 1) (.v 0)),nl (.ld none (.v 0)),nl (.bin .neq 3 (.v 0) (.c (.i .i64 (.negSucc 1)))),nl (.mv (.v 0)),ng 0 true (.ld none (.s 13)),ng 1 true (.gW (.v 0)),ng 2 true (.bin .leq 3 (.v 0) (.c (.i .i64 4000))),nk 80 (.pick (.v 3) (.v 0) (.c (.b false)))]) (.cond (.s 80) .skip (.exit 4))) (.blk 5 (.reg [nl (.mv (.s 15)),nl (.mv (.s 12)),nl (.ld none (.s 14)),nl (.iM 1 (.v 1) (.v 0)),nl (.ld none (.v 0)),nl (.call (.v 4) [(.v 0)])])))
def SV:MC:=(.seq (.reg [nl (.iM 1 (.s 55) (.s 57)),nl (.ld none (.v 0)),nk 17 (.mv (.v 0))]) (.seq (.seq (.yM 0 [mq 0 [] (.fa 1 (.s 8)),mq 1 [0] (.ld none (.v 0)),mq 1 [] (.ld none (.s 14)),mq 0 [1,2] (.iM 5 (.v 0) (.v 1)),mq 0 [3] (.fa 0 (.v 0)),mq 0 [4] (.fa 0 (.v 0)),mq 1 [5] (.ld none (.v 0)),mq 0 [] (.fa 5 (.s 3)),mq 1 [7] (.ld none (.v 0)),mq 0 [6,8] (.bin .eql 3 (.v 0) (.v 1))] [] [(9,70)]) (.cond (.s 70) (.exit 2) .skip)) (.seq (.blk 4 (.loop NG)) (.seq (.seq (.yM 0 [mq 1 [] (.ld (some 7) (.s 3)),mq 0 [] (.fa 1 (.s 8)),mq 1 [1] (.ld none (.v 0)),mq 1 [] (.ld none (.s 14)),mq 0 [2,3] (.iM 5 (.v 0) (.v 1)),mq 0 [4] (.fa 0 (.v 0)),mq 1 [5] (.ld (some 4) (.v 0)),mq 0 [] (.mv (.s 17)),mq 3 [0,6,7] (.call (.c (.f 54 [])) [(.v 0),(.v 1),(.v 2)]),mq 1 [] (.ld none (.s 4)),mq 0 [8,9] (.bin .neq 3 (.v 0) (.v 1))] [(9,0)] [(10,97)]) (.cond (.s 97) (.reg [nl (.mv (.s 15)),nl (.mv (.s 17)),nl (.call (.v 1) [(.v 0)])]) .skip)) (.seq (.reg [nl (.ld none (.s 13)),nl (.gW (.v 0)),nk 103 (.bin .gtr 3 (.v 0) (.c (.i .i64 4000)))]) (.cond (.s 103) (.seq (.reg [nk 6 (.mv (.c (.k 1))),nk 7 (.mv (.c (.i .i64 3)))]) .ret) .skip))))))
def NH:MC:=(.seq (.reg [nl (.iM 1 (.s 26) (.s 28)),nl (.ld none (.v 0)),nk 11 (.mv (.v 0))]) (.seq (.reg [nl (.mv (.s 11)),nl (.bin .lss 3 (.v 0) (.c (.i .i64 (.negSucc 0)))),nl (.mv (.v 0)),ng 0 false (.mv (.s 11)),ng 1 false (.fa 3 (.s 3)),ng 2 false (.ld none (.v 0)),ng 3 false (.gW (.v 0)),ng 4 false (.bin .geq 3 (.v 3) (.v 0)),nk 40 (.pick (.v 5) (.c (.b true)) (.v 0))]) (.cond (.s 40) (.seq (.reg [nk 6 (.mv (.c (.k 1))),nk 7 (.mv (.c (.i .i64 1)))]) .ret) .skip)))
def m20:MC:=(.seq (.reg [nk 3 (.box 27 7 (.s 0)),nk 4 (.box 3 1 (.s 1)),nk 6 (.mv (.c (.k 1))),nk 7 (.mv (.c (.i .i64 0)))]) (.seq (.reg [nl (.ld (some 7) (.s 3)),nl (.ld none (.s 4)),nl (.call (.c (.f 50 [])) [(.v 1),(.v 0)]),nl (.mv (.v 0)),nl (.ext (.v 0) 0),nl (.ext (.v 1) 1),nk 8 (.al 150 [(.i .i64 0),(.k 1),(.k 1)]),⟨none,(.st 3 (.s 8) (.v 1)),.n⟩,nk 9 (.mv (.v 0))]) (.seq (.seq (.reg [nl (.mv (.s 9)),nk 25 (.bin .eql 31 (.v 0) (.c (.i .i64 1)))]) (.cond (.s 25) (.seq (.reg [nk 6 (.mv (.c (.k 1))),nk 7 (.mv (.c (.i .i64 1)))]) .ret) .skip)) (.seq (.seq (.reg [nk 26 (.mv (.s 2)),nk 27 (.gW (.s 26)),nk 28 (.mv (.c (.i .i64 0)))]) (.blk 0 (xP 3 28 27 29 0 1 NH))) (.seq (.seq (.reg [nl (.mv (.s 9)),nl (.bin .neq 31 (.v 0) (.c (.i .i64 0))),nl (.mv (.v 0)),ng 0 false (.mv (.s 2)),ng 1 false (.gW (.v 0)),ng 2 false (.bin .gtr 3 (.v 0) (.c (.i .i64 4000))),nk 48 (.pick (.v 3) (.c (.b true)) (.v 0))]) (.cond (.s 48) (.seq (.reg [nk 6 (.mv (.c (.k 1))),nk 7 (.mv (.c (.i .i64 3)))]) .ret) .skip)) (.seq (.yM 0 [mq 1 [] (.ld (some 3) (.s 8)),mq 1 [] (.ld (some 7) (.s 3)),mq 1 [] (.ld (some 3) (.s 8)),mq 3 [1,2] (.call (.c (.f 52 [])) [(.v 0),(.v 1)]),mq 3 [0,3] (.call (.c (.f 51 [])) [(.v 0),(.v 1)]),mq 0 [4] (.mv (.v 0))] [(0,4)] [(5,12)]) (.seq (.reg [nk 13 (.al 22 [(.k 1)])]) (.seq (.reg [nk 14 (.al 3 [(.i .i64 0)]),⟨none,(.st 1 (.s 14) (.c (.i .i64 0))),.n⟩]) (.seq (.reg [nl (.Fq 53 [(.s 13),(.s 14),(.s 3),(.s 8),(.s 4)]),nk 15 (.mv (.v 0))]) (.seq (.seq (.reg [nk 55 (.mv (.s 2)),nk 56 (.gW (.s 55)),nk 57 (.mv (.c (.i .i64 0)))]) (.blk 2 (xP 3 57 56 58 2 3 SV))) (.seq (.reg [nl (.ld none (.s 13)),nk 6 (.mv (.v 0)),nk 7 (.mv (.c (.i .i64 0)))]) .ret)))))))))))
theorem c20:xO Tryz.prog sl0 20=some ([true,true,true],m20,[(.t 6),(.t 7)]):=by kernel_rfl
def ZN:MC:=vF 182
def c182:=vT 182 ZN
def ZO:MC:=vF 181
def afI:=vT 181 ZO
def ZP:MC:=vF 183
def c183:=vT 183 ZP
def Vo:MC:=vF 186
def afJ:=vT 186 Vo
def ZQ:MC:=vF 184
def afK:=vT 184 ZQ
def ZR:MC:=vF 185
def afL:=vT 185 ZR
def m52:MC:=vF 52
def c52:=vT 52 m52
def m51:MC:=vF 51
def c51:=vT 51 m51
def m55:MC:=vF 55
def c55:=vT 55 m55
def m54:MC:=vF 54
def c54:=vT 54 m54
def m53:MC:=vF 53
def c53:=vT 53 m53
def ZT:MC:=vF 119
def c119:=vT 119 ZT
def Vp:MC:=vF 194
def c194:=vT 194 Vp
end
end
section
noncomputable section
section
variable {h h':AH} {n n':Nat} {v:CS} {C:aA} {tv:TS} {s:aI} {p:aP} {party:Int} {ps:List (TS×aP)} {wv:List AV} {M:List (List (Int×Nat))} {Q:AV->AH->Nat->Prop}
def sS(C:aA)(s:aI)(p:Int)(i:Nat):Bool:=match s.marks[i]?,C.clauses[i]? with|some m,some k=>jX k m p|_,_=>false
theorem uQ(C:aA)(s:aI)(p:Int):anyFailed C s p=(List.range s.marks.length).any (sS C s p):=rfl
theorem QO(K:Nat)(hC:aZ h n v C)(hS:cZ h n tv s)(so:aK C s)(hQ:∀h' n',Up h n h' n'->Q (.b (anyFailed C s party)) h' n'):CW (EF (K+1)) 182 [.agg (v.av C),.agg (tv.av s),.i .i64 party] h n Q:=by
 have ok:=aA.ok so.con;have:=so.lm;have:=ok.dQ;refine aD c182 rfl ?_;repeat' (first|(simp (disch:=omega) only[go_sem,simprocAttr,ZN,CS.av,TS.av,hS.marks.len])|(refine aR ?_ ?_<;>(intro hb hd;rw[hb];clear hb))|(with_reducible refine aj ?_))
 have u0:∀h0,h0=(Tr.set h n (.row 27 (v.av C))).set (n+1) (.row 43 (tv.av s))->Up h n h0 (n+2):=λh0 e=>by rw[e];exact aH
 have g0:∀h0,h0=(Tr.set h n (.row 27 (v.av C))).set (n+1) (.row 43 (tv.av s))->h0.get n=some (.row 27 (v.av C)):=λh0 e=>by rw[e];simp (disch:=omega) only[go_sem]
 have u0:=u0 _ rfl;have g0:=g0 _ rfl;refine bX s.marks.length (λk h3 n3 G=>(List.range k).any (sS C s party)=false/\Up h n h3 n3/\n+2<=n3/\h3.get n=some (.row 27 (v.av C))/\G=[(2,.i .i64 party),(3,.p n 0),(10,tv.m)]) (by omega) (by omega) (by omega) (by omega) (λk h8 n8 G ⟨_,_,_,_,e⟩=>by subst e;exact⟨rfl,rfl⟩) ⟨rfl,rfl,_,⟨rfl,u0,Nat.le_refl _,g0,rfl⟩,by(repeat' (first|exact aO|refine aN rfl ?_))⟩ ?_ ?_
 .rintro k h3 n3 G hk ⟨hno,u3,l3,r3,rfl⟩
  obtain⟨b1,o1,a,i1,ha,hb1,rd⟩:=(hS.marks.up u3).fu (k:=(k:Nat)) (by omega) (by omega) (by omega);rw[show((k:Nat):Int).toNat=k by omega]at ha;repeat' (first|(simp (disch:=omega) only[go_sem,simprocAttr,aJ i1,rd.el,rd.hd,rd.all,r3,CS.av])|(refine aR ?_ ?_<;>(intro hb hd;rw[hb];clear hb))|(with_reducible refine aj ?_))
  refine pR (hC.up u3) (by omega) (by omega) λb2 o2 kc t hkc hb2 _ eY=>?_;rw[show((k:Nat):Int).toNat=k by omega]at hkc;have hfa:sS C s party k=jX kc a party:=by unfold sS;rw[ha,hkc]
  have Wu:sS C s party k=false->(List.range (k+1)).any (sS C s party)=false:=λe=>by
   rw[List.range_succ,List.any_append,hno];simp[e]
  have hit:sS C s party k=true->anyFailed C s party=true:=λe=>by
   rw[uQ,List.any_eq_true];exact⟨k,List.mem_range.2 hk,e⟩
  repeat' (first|(simp (disch:=omega) only[go_sem,simprocAttr,eY.el,eY.hd])|(refine aR ?_ ?_<;>(intro hb hd;rw[hb];clear hb))|(with_reducible refine aj ?_))
  .have e:=hit (by rw[hfa];unfold jX;simp[*])
   rw[e]at hQ;exact hQ _ _ aH
  all_goals exact⟨rfl,rfl,_,⟨Wu (by rw[hfa];unfold jX;simp[*]),by exact aH,by omega,by simp (disch:=omega) only[go_sem,r3],rfl⟩,by(repeat' (first|exact aO|refine aN rfl ?_))⟩
 .rintro h3 n3 G ⟨hno,u3,_,_,rfl⟩
  repeat' (first|(simp (disch:=omega) only[go_sem,simprocAttr])|(refine aR ?_ ?_<;>(intro hb hd;rw[hb];clear hb))|(with_reducible refine aj ?_))
  rw[uQ,hno]at hQ;exact hQ _ _ u3
@[reducible] def oH (party:Int) (v w:AV):List AV:=[.i .i64 party,v,w]
theorem bV.tgt{P:List aP}(a:bV C party p P M){i:Nat}{l:List (Int×Nat)}{m:Int}{j:Nat}(hl:M[i]?=some l)(hm:(m,j)∈l):j<P.length:=by
 have hi:i<P.length:=by rw[<-a.len];exact(List.getElem?_eq_some_iff.1 hl).1
 obtain⟨r,h1,_⟩:=a.back (List.getElem?_eq_some_iff.2 ⟨hi,rfl⟩) hl hm;exact(List.getElem?_eq_some_iff.1 h1).1
theorem qW.len2{vv ww:AV}(ai:qW h n vv ww ps wv M){P:List aP}(a:bV C party p (ps.map (·.2)) M):wv.length=ps.length:=by
 rw[ai.len,a.len,List.length_map]
theorem Ae(K:Nat){vv ww:AV}(hC:aZ h n v C)(ho:C.off.length<=1000000)(ai:qW h n vv ww ps wv M)(ia:bV C party p (ps.map (·.2)) M)(h0:0<=party)(h1:party<C.aC)(so:∀x∈ps,aK C x.2.st)(hQ:∀h' n',Up h n h' n'->Q (.b true) h' n'):CW (EF (K+8)) 181 [.agg (v.av C),.agg (oH party vv ww)] h n Q:=by
 have hsm:=ia.small;have hlen:=ia.len;have hl2:=ai.len;rw[List.length_map]at hsm hlen;refine aD afI rfl ?_;repeat' (first|(simp (disch:=omega) only[go_sem,simprocAttr,ZO,CS.av,ai.row.len,ai.pos.len])|(refine aR ?_ ?_<;>(intro hb hd;rw[hb];clear hb))|(with_reducible refine aj ?_))
 .omega
 .omega
 .omega
 have u0:∀h0,h0=(Tr.set h n (.row 27 (v.av C))).set (n+1) (.row 150 (oH party vv ww))->Up h n h0 (n+2)/\h0.get n=some (.row 27 (v.av C))/\h0.get (n+1)=some (.row 150 (oH party vv ww)):=λh0 e=>by
  rw[e];exact⟨by exact aH,by simp (disch:=omega) only[go_sem],by simp (disch:=omega) only[go_sem]⟩
 obtain⟨u0,g0,g1⟩:=u0 _ rfl;refine bX ps.length (λk h3 n3 G=>Up h n h3 n3/\n+2<=n3/\h3.get n=some (.row 27 (v.av C))/\h3.get (n+1)=some (.row 150 (oH party vv ww))/\G=[(2,.p n 0),(3,.p (n+1) 0),(29,vv)]) (by omega) (by omega) (by omega) (by omega) (λk h8 n8 G ⟨_,_,_,_,e⟩=>by subst e;exact⟨rfl,rfl⟩) ⟨rfl,rfl,_,⟨u0,Nat.le_refl _,g0,g1,rfl⟩,by(repeat' (first|exact aO|refine aN rfl ?_))⟩ ?_ ?_
 .rintro k h3 n3 G hk ⟨u3,l3,r3,r4,rfl⟩
  obtain⟨b1,o1,x,i1,hx,hb1,rd⟩:=(ai.pos.up u3).fu (k:=(k:Nat)) (by omega) (by omega) (by omega);obtain⟨b2,o2,y,i2,hy,hb2,eY⟩:=(ai.row.up u3).fu (k:=(k:Nat)) (by omega) (by omega) (by omega);rw[show((k:Nat):Int).toNat=k by omega]at hx hy;obtain⟨l,hl⟩:∃l,M[k]?=some l:=⟨M[k]'(by omega),List.getElem?_eq_some_iff.2 ⟨by omega,rfl⟩⟩;have sl:=ai.mv k y l hy hl;have hll:l.length<=100:=by
   have hP:(ps.map (·.2))[k]?=some x.2:=by rw[List.getElem?_map,hx];rfl
   have e1:=(ia.mv k x.2 l hP hl).1;have e3:=uN C party x.2;have:=(aA.ok (so x (List.mem_of_getElem? hx)).con).kg;omega
  repeat' (first|(simp (disch:=omega) only[go_sem,simprocAttr,aJ i1,aJ i2,rd.all,eY.el,eY.hd,r4,sl.len])|(refine aR ?_ ?_<;>(intro hb hd;rw[hb];clear hb))|(with_reducible refine aj ?_))
  have u4:∀h0,h0=(Tr.set h3 n3 (.row 45 [.i .i64 0,.k 1,.k 1,.k 1,.b false])).set n3 (.row 45 (xC x))->Up h3 n3 h0 (n3+1)/\h0.get n3=some (.row 45 (xC x)):=λh0 e=>by
   rw[e];exact⟨by exact aH,aG⟩
  obtain⟨u4,g4⟩:=u4 _ rfl;generalize(Tr.set h3 n3 _).set n3 _=h4 at*;refine bX l.length (λj h5 n5 G=>Up h4 (n3+1) h5 n5/\G=[(2,.p n 0),(3,.p (n+1) 0),(29,vv),(30,.i .i64 (ps.length:Nat)),(31,.i .i64 (k:Nat)),(5,.i .i64 (k:Nat)),(6,.p n3 0),(40,y)]) (by omega) (by omega) (by omega) (by omega) (λk h8 n8 G ⟨_,e⟩=>by subst e;exact⟨rfl,rfl⟩) ⟨rfl,rfl,_,⟨Up.refl _ _,rfl⟩,by(repeat' (first|exact aO|refine aN rfl ?_))⟩ ?_ ?_
  .rintro j h5 n5 G hj ⟨u5,rfl⟩
   have e5:=u5.le;obtain⟨b3,o3,z,i3,hz,hb3,oF⟩:=(sl.up ((u3.trans u4).trans u5)).fu (k:=(j:Nat)) (by omega) (by omega) (by omega);rw[show((j:Nat):Int).toNat=j by omega]at hz;have hlt:=ia.tgt hl (List.mem_of_getElem? hz);rw[List.length_map]at hlt;have r5:h5.get (n+1)=some (.row 150 (oH party vv ww)):=by rw[u5.old _ (by omega),u4.old _ (by omega)];exact r4
   repeat' (first|(simp (disch:=omega) only[go_sem,simprocAttr,aJ i3,oF.all,r5,ai.pos.len])|(refine aR ?_ ?_<;>(intro hb hd;rw[hb];clear hb))|(with_reducible refine aj ?_))
   .exfalso;omega
   .exfalso;omega
   .exact⟨rfl,rfl,_,⟨by exact aH,rfl⟩,by(repeat' (first|exact aO|refine aN rfl ?_))⟩
  .rintro h5 n5 G ⟨u5,rfl⟩
   have e5:=u5.le;have r5:h5.get n=some (.row 27 (v.av C)):=by rw[u5.old _ (by omega),u4.old _ (by omega)];exact r3
   have r6:h5.get (n+1)=some (.row 150 (oH party vv ww)):=by rw[u5.old _ (by omega),u4.old _ (by omega)];exact r4
   have r7:h5.get n3=some (.row 45 (xC x)):=by rw[u5.old _ (by omega)];exact g4
   have u35:Up h n h5 n5:=(u3.trans u4).trans u5;have oks:C.dP x.2.st=true:=(eF C x.2.st).2 (so x (List.mem_of_getElem? hx));simp (disch:=omega) only[go_sem,simprocAttr,r5,r7,CS.av,TS.pv];rw[aU];refine iD _ (hC.up u35) ho ((ai.st x (List.mem_of_getElem? hx)).up u35) λh6 n6 u6=>?_;have e6:=u6.le;repeat' (first|(simp (disch:=omega) only[go_sem,simprocAttr,oks])|(refine aR ?_ ?_<;>(intro hb hd;rw[hb];clear hb))|(with_reducible refine aj ?_))
   exact⟨rfl,rfl,_,⟨u35.trans u6,by omega,by rw[u6.old _ (by omega)];exact r5,by rw[u6.old _ (by omega)];exact r6,rfl⟩,by(repeat' (first|exact aO|refine aN rfl ?_))⟩
 .rintro h3 n3 G ⟨u3,_,_,_,rfl⟩
  repeat' (first|(simp (disch:=omega) only[go_sem,simprocAttr])|(refine aR ?_ ?_<;>(intro hb hd;rw[hb];clear hb))|(with_reducible refine aj ?_))
  exact hQ _ _ u3
end
end
end
noncomputable section
abbrev iN(x:Int):List AV:=[.i .i64 x]
abbrev cn(x:Nat):List AV:=[.i .i64 (x:Nat)]
theorem lM{α:Type}{c:α->List AV}(hw:∀a,(c a).length=1){l:List α}{i:Nat}{a:α}{y:AV}(hi:i<l.length)(hy:c a=[y]):st1 (i*1) y (l.flatMap c)=some ((l.set i a).flatMap c):=by
 rw[sw,<-hy];exact uE hw l i a hi
theorem nR{t:TypeId}{α:Type}{c:α->List AV}(hw:∀a,(c a).length=1){l:List α}{i:Nat}{a:α}{y:AV}(hi:l[i]?=some a)(hy:c a=[y]):qQ (some (.row t (l.flatMap c))) (i*1) none=some y:=by
 have e:=vN hw hi (j:=0) (by omega);rw[Nat.add_zero,hy]at e;exact e
structure KV where
 rb:Nat
 ob:Nat
 bb:Nat
 b9:Nat
def KV.mem(g:KV)(x:Nat):Prop:=x=g.rb\/x=g.ob\/x=g.bb\/x=g.b9
structure nS(h:AH)(n:Nat)(g:KV)(X:Nat->Prop)(A:HP)(r op:List Int)(qv:AV)(Q:List Nat)(nx:Nat)(bs:List AV)(B:List (List Nat)):Prop where
 rr:h.get g.rb=some (.row 3 (r.flatMap iN))
 ro:h.get g.ob=some (.row 3 (op.flatMap iN))
 rq:h.get g.b9=some (.row 323 [qv,.i .i64 (nx:Nat)])
 rf:h.get g.bb=some (.row 22 (bs.flatMap one))
 gq:Gr h n 3 1 qv cn Q
 lb:bs.length=B.length
 gb:∀(j:Nat)(y:AV)(l:List Nat),bs[j]?=some y->B[j]?=some l->Gr h n 3 1 y cn l
 d1:g.rb≠g.ob/\g.rb≠g.bb/\g.rb≠g.b9/\g.ob≠g.bb/\g.ob≠g.b9/\g.bb≠g.b9
 d2:∀x,blk qv x->¬g.mem x
 d3:∀(j:Nat)(y:AV),bs[j]?=some y->∀x,blk y x->¬g.mem x/\¬blk qv x
 d4:∀(i j:Nat)(y z:AV),bs[i]?=some y->bs[j]?=some z->i≠j->∀x,blk y x->¬blk z x
 Xg:∀x,g.mem x->X x
 Xq:∀x,blk qv x->X x
 Xb:∀(j:Nat)(y:AV),bs[j]?=some y->∀x,blk y x->X x
 lt:∀x,X x->x<n
 A:Kp X h n A
section
variable {h h' h2 h3:AH} {n n' n2 n3:Nat} {g:KV} {X:Nat->Prop} {A:HP} {r op:List Int} {qv:AV} {Q:List Nat} {nx:Nat} {bs:List AV} {B:List (List Nat)}
theorem nS.up(a:nS h n g X A r op qv Q nx bs B)(u:Up h n h' n'):nS h' n' g X A r op qv Q nx bs B:=
 have o:∀x,g.mem x->h'.get x=h.get x:=λx hx=>u.old x (a.lt x (a.Xg x hx))
 ⟨(o _ (.inl rfl)).trans a.rr,(o _ (.inr (.inl rfl))).trans a.ro,(o _ (.inr (.inr (.inr rfl)))).trans a.rq,(o _ (.inr (.inr (.inl rfl)))).trans a.rf,a.gq.up u,a.lb,λj y l h1 h2=>(a.gb j y l h1 h2).up u,a.d1,a.d2,a.d3,a.d4,a.Xg,a.Xq,a.Xb,λx hx=>Nat.lt_of_lt_of_le (a.lt x hx) u.le,a.A.up u⟩
theorem nS.turn(a:nS h n g X A r op qv Q nx bs B){y:Nat}(hy:g.mem y)(ob:AO):(∀x,g.mem x->x≠y->(h.set y ob).get x=h.get x)/\Gr (h.set y ob) n 3 1 qv cn Q/\(∀(j:Nat)(z:AV)(l:List Nat),bs[j]?=some z->B[j]?=some l->Gr (h.set y ob) n 3 1 z cn l)/\Kp X (h.set y ob) n A:=
 ⟨λx _ e=>ay e,a.gq.on (Nat.le_refl _) λx _ hx=>ay λe=>a.d2 x hx (by rw[e];exact hy),λj z l h1 h2=>(a.gb j z l h1 h2).on (Nat.le_refl _) λx _ hx=>ay λe=>(a.d3 j z h1 x hx).1 (by rw[e];exact hy),a.A.set (.inl (a.Xg y hy)) (Nat.le_refl _)⟩
theorem nS.Vq(a:nS h n g X A r op qv Q nx bs B)(r':List Int):nS (h.set g.rb (.row 3 (r'.flatMap iN))) n g X A r' op qv Q nx bs B:=by
 obtain⟨t1,t2,t3,t4⟩:=a.turn (y:=g.rb) (.inl rfl) (.row 3 (r'.flatMap iN));obtain⟨e1,e2,e3,e4,e5,e6⟩:=a.d1;exact⟨aG,(t1 _ (.inr (.inl rfl)) (Ne.symm e1)).trans a.ro,(t1 _ (.inr (.inr (.inr rfl))) (Ne.symm e3)).trans a.rq,(t1 _ (.inr (.inr (.inl rfl))) (Ne.symm e2)).trans a.rf,t2,a.lb,t3,a.d1,a.d2,a.d3,a.d4,a.Xg,a.Xq,a.Xb,a.lt,t4⟩
theorem nS.F9(a:nS h n g X A r op qv Q nx bs B)(o':List Int):nS (h.set g.ob (.row 3 (o'.flatMap iN))) n g X A r o' qv Q nx bs B:=by
 obtain⟨t1,t2,t3,t4⟩:=a.turn (y:=g.ob) (.inr (.inl rfl)) (.row 3 (o'.flatMap iN));obtain⟨e1,e2,e3,e4,e5,e6⟩:=a.d1;exact⟨(t1 _ (.inl rfl) e1).trans a.rr,aG,(t1 _ (.inr (.inr (.inr rfl))) (Ne.symm e5)).trans a.rq,(t1 _ (.inr (.inr (.inl rfl))) (Ne.symm e4)).trans a.rf,t2,a.lb,t3,a.d1,a.d2,a.d3,a.d4,a.Xg,a.Xq,a.Xb,a.lt,t4⟩
theorem nS.afN(a:nS h n g X A r op qv Q nx bs B)(m:Nat):nS (h.set g.b9 (.row 323 [qv,.i .i64 (m:Nat)])) n g X A r op qv Q m bs B:=by
 obtain⟨t1,t2,t3,t4⟩:=a.turn (y:=g.b9) (.inr (.inr (.inr rfl))) (.row 323 [qv,.i .i64 (m:Nat)]);obtain⟨e1,e2,e3,e4,e5,e6⟩:=a.d1;exact⟨(t1 _ (.inl rfl) e3).trans a.rr,(t1 _ (.inr (.inl rfl)) e5).trans a.ro,aG,(t1 _ (.inr (.inr (.inl rfl))) e6).trans a.rf,t2,a.lb,t3,a.d1,a.d2,a.d3,a.d4,a.Xg,a.Xq,a.Xb,a.lt,t4⟩
theorem nS.push(a:nS h n g X A r op qv Q nx bs B){v':AV}{i:Nat}(u:Up h n h2 n2)(gr:Gr h3 n3 3 1 v' cn (Q++[i]))(le:n2<=n3)(s:∀x,x<n2->¬blk qv x->h3.get x=h2.get x)(b:∀x,blk v' x->blk qv x\/n2<=x):
 h3.get g.b9=some (.row 323 [qv,.i .i64 (nx:Nat)])/\nS (h3.set g.b9 (.row 323 [v',.i .i64 (nx:Nat)])) n3 g (λx=>X x\/blk v' x) A r op v' (Q++[i]) nx bs B:=by
 have hn:=u.le;have old:∀x,x<n->¬blk qv x->h3.get x=h.get x:=λx hx h2=>by rw[s x (by omega) h2,u.old x hx]
 have new:∀x,blk v' x->x<n->blk qv x:=λx hx hl=>(b x hx).elim id (by omega);have ml:∀x,g.mem x->x<n:=λx hx=>a.lt x (a.Xg x hx);have om:∀x,g.mem x->h3.get x=h.get x:=λx hx=>old x (ml x hx) λk=>a.d2 x k hx;have nv:∀x,blk v' x->¬g.mem x:=λx hx k=>by
  rcases b x hx with e|e
  .exact a.d2 x e k
  .have:=ml x k;omega
 have m9:g.mem g.b9:=.inr (.inr (.inr rfl));obtain⟨e1,e2,e3,e4,e5,e6⟩:=a.d1;refine⟨(om _ m9).trans a.rq,⟨?_,?_,aG,?_,?_,a.lb,λj y l h1 h2=>?_,a.d1,nv,λj y h1 x hx=>⟨(a.d3 j y h1 x hx).1,λk=>?_⟩,a.d4,λx hx=>.inl (a.Xg x hx),λx hx=>.inr hx,λj y h1 x hx=>.inl (a.Xb j y h1 x hx),λx hx=>?_,?_⟩⟩
 .rw[ay e3,om _ (.inl rfl)];exact a.rr
 .rw[ay e5,om _ (.inr (.inl rfl))];exact a.ro
 .rw[ay e6,om _ (.inr (.inr (.inl rfl)))];exact a.rf
 .exact gr.on (Nat.le_refl _) λx _ hx=>ay λk=>nv x hx (by rw[k];exact m9)
 .exact(a.gb j y l h1 h2).on (by omega) λx hx hb=>by
   obtain⟨k1,k2⟩:=a.d3 j y h1 x hb;rw[ay (λk=>k1 (by rw[k];exact m9)),old x hx k2]
 .rcases b x k with e|e
  .exact(a.d3 j y h1 x hx).2 e
  .have:=a.lt x (a.Xb j y h1 x hx);omega
 .rcases hx with hx|hx
  .have:=a.lt x hx;omega
  .exact gr.fF hx
 .refine(a.A.le λx hx (e:X x\/blk v' x)=>e.elim id λe=>a.Xq x (new x e hx)).on (by omega) λx hx e=>?_
  have e1:¬X x:=λk=>e (.inl k);rw[ay (λk=>e1 (by rw[k];exact a.Xg _ m9)),old x hx λk=>e1 (a.Xq x k)]
theorem nS.oD(a:nS h n g X A r op qv Q nx bs B){v' y:AV}{i j:Nat}{l:List Nat}(hy:bs[j]?=some y)(hl:B[j]?=some l)(u:Up h n h2 n2)(gr:Gr h3 n3 3 1 v' cn (l++[i]))(le:n2<=n3)(s:∀x,x<n2->¬blk y x->h3.get x=h2.get x)(b:∀x,blk v' x->blk y x\/n2<=x):
 h3.get g.bb=some (.row 22 (bs.flatMap one))/\nS (h3.set g.bb (.row 22 ((bs.set j v').flatMap one))) n3 g (λx=>X x\/blk v' x) A r op qv Q nx (bs.set j v') (B.set j (l++[i])):=by
 have hn:=u.le;have old:∀x,x<n->¬blk y x->h3.get x=h.get x:=λx hx h2=>by rw[s x (by omega) h2,u.old x hx]
 have new:∀x,blk v' x->x<n->blk y x:=λx hx hl=>(b x hx).elim id (by omega);have ml:∀x,g.mem x->x<n:=λx hx=>a.lt x (a.Xg x hx);have om:∀x,g.mem x->h3.get x=h.get x:=λx hx=>old x (ml x hx) λk=>(a.d3 j y hy x k).1 hx;have nv:∀x,blk v' x->¬g.mem x/\¬blk qv x:=λx hx=>by
  rcases b x hx with e|e
  .exact a.d3 j y hy x e
  .exact⟨λk=>by have:=ml x k;omega,λk=>by have:=a.lt x (a.Xq x k);omega⟩
 have mb:g.mem g.bb:=.inr (.inr (.inl rfl));have hjl:j<bs.length:=(List.getElem?_eq_some_iff.1 hy).1;have get:∀(k:Nat)(z:AV),(bs.set j v')[k]?=some z->(k=j/\z=v')\/(k≠j/\bs[k]?=some z):=λk z e=>by
  rw[List.getElem?_set]at e;by_cases h:j=k
  .rw[if_pos h,if_pos hjl]at e;exact .inl ⟨h.symm,by cases e;rfl⟩
  .rw[if_neg h]at e;exact .inr ⟨λk=>h k.symm,e⟩
 have nz:∀(k:Nat)(z:AV),k≠j->bs[k]?=some z->∀x,blk v' x->¬blk z x:=λk z hk hz x hx kx=>by
  rcases b x hx with e|e
  .exact a.d4 j k y z hy hz (Ne.symm hk) x e kx
  .have:=a.lt x (a.Xb k z hz x kx);omega
 obtain⟨e1,e2,e3,e4,e5,e6⟩:=a.d1;refine⟨(om _ mb).trans a.rf,⟨?_,?_,?_,aG,?_,by simp[a.lb],λk z l' h1 h2=>?_,a.d1,a.d2,λk z h1 x hx=>?_,λk m z w h1 h2 hkm x hx=>?_,λx hx=>.inl (a.Xg x hx),λx hx=>.inl (a.Xq x hx),λk z h1 x hx=>?_,λx hx=>?_,?_⟩⟩
 .rw[ay e2,om _ (.inl rfl)];exact a.rr
 .rw[ay e4,om _ (.inr (.inl rfl))];exact a.ro
 .rw[ay (Ne.symm e6),om _ (.inr (.inr (.inr rfl)))];exact a.rq
 .exact a.gq.on (by omega) λx hx hb=>by
   rw[ay (λk=>a.d2 x hb (by rw[k];exact mb)),old x hx λk=>(a.d3 j y hy x k).2 hb]
 .rcases get k z h1 with⟨rfl,rfl⟩|⟨hk,hz⟩
  .rw[List.getElem?_set,if_pos rfl,if_pos (by rw[<-a.lb];exact hjl)]at h2
   cases h2
   exact gr.on (Nat.le_refl _) λx _ hx=>ay λe=>(nv x hx).1 (by rw[e];exact mb)
  .rw[List.getElem?_set,if_neg (Ne.symm hk)]at h2
   exact(a.gb k z l' hz h2).on (by omega) λx hx hb=>by
    rw[ay (λe=>(a.d3 k z hz x hb).1 (by rw[e];exact mb)),old x hx λe=>a.d4 j k y z hy hz (Ne.symm hk) x e hb]
 .rcases get k z h1 with⟨rfl,rfl⟩|⟨hk,hz⟩
  .exact nv x hx
  .exact a.d3 k z hz x hx
 .rcases get k z h1 with⟨rfl,rfl⟩|⟨hk,hz⟩
  .rcases get m w h2 with⟨rfl,rfl⟩|⟨hm,hw⟩
   .exact absurd rfl hkm
   .exact nz m w hm hw x hx
  .rcases get m w h2 with⟨rfl,rfl⟩|⟨hm,hw⟩
   .exactλe=>nz k z hk hz x e hx
   .exact a.d4 k m z w hz hw hkm x hx
 .rcases get k z h1 with⟨rfl,rfl⟩|⟨hk,hz⟩
  .exact .inr hx
  .exact .inl (a.Xb k z hz x hx)
 .rcases hx with hx|hx
  .have:=a.lt x hx;omega
  .exact gr.fF hx
 .refine(a.A.le λx hx (e:X x\/blk v' x)=>e.elim id λe=>a.Xb j y hy x (new x e hx)).on (by omega) λx hx e=>?_
  have e1:¬X x:=λk=>e (.inl k);rw[ay (λk=>e1 (by rw[k];exact a.Xg _ mb)),old x hx λk=>e1 (a.Xb j y hy x k)]
theorem nS.vC{A':HP}(a:nS h n g X A r op qv Q nx bs B)(k:Kp X h n A'):nS h n g X A' r op qv Q nx bs B:=
 ⟨a.rr,a.ro,a.rq,a.rf,a.gq,a.lb,a.gb,a.d1,a.d2,a.d3,a.d4,a.Xg,a.Xq,a.Xb,a.lt,k⟩
theorem IL(K:Nat){i:Nat}{R:AV->AH->Nat->Prop}(a:nS h n g X A r op qv Q nx bs B)(hl:Q.length<=100000)(hR:∀v' X' h' n',nS h' n' g X' A r op v' (Q++[i]) nx bs B->n<=n'->(∀x,x<n->¬X x->h'.get x=h.get x)->(∀x,X x->X' x)->(∀x,X' x->X x\/n<=x)->R (.bN []) h' n'):CW (EF (K+1)) 183 [.p g.b9 0,.i .i64 (i:Nat)] h n R:=by
 have rq:=a.rq;refine aD c183 rfl ?_;simp (disch:=omega) only[go_sem,simprocAttr,ZP,rq];refine jm (l2:=[i]) (a.gq.up aH) ⟨rfl,?_⟩ (by simp;omega) λv' h4 n4 g4 l4 s4 b4=>?_
 .show bnd (iA (Tr.get _ _) 0 _) (λr=>lQ (Nat.mul 1 1) r)=_
  rw[aG];rfl
 obtain⟨q1,q2⟩:=a.push (show Up h n _ (n+1) by exact aH) g4 l4 s4 b4;simp (disch:=omega) only[go_sem,simprocAttr,q1,g4.cl];refine hR _ _ _ _ q2 (by omega) (λx hx hX=>?_) (λx hx=>.inl hx) λx hx=>?_
 .rw[ay (λe=>hX (by rw[e];exact a.Xg _ (.inr (.inr (.inr rfl))))),s4 x (by omega) (λe=>hX (a.Xq x e)),ay (by omega)]
 .rcases hx with e|e
  .exact .inl e
  .rcases b4 x e with e|e
   .exact .inl (a.Xq x e)
   .exact .inr (by omega)
theorem NI(K:Nat){R:AV->AH->Nat->Prop}(a:nS h n g X A r op qv Q nx bs B)(hl:Q.length<=100000)(hnx:nx<=Q.length)(hR1:nx=Q.length->R (.bN [.i .i64 0,.b false]) h n)
 (hR2:∀to,Q[nx]?=some to->nS (h.set g.b9 (.row 323 [qv,.i .i64 ((nx+1:Nat):Int)])) n g X A r op qv Q (nx+1) bs B->R (.bN [.i .i64 (to:Nat),.b true]) (h.set g.b9 (.row 323 [qv,.i .i64 ((nx+1:Nat):Int)])) n):CW (EF (K+1)) 186 [.p g.b9 0] h n R:=by
 have rq:=a.rq;refine aD afJ rfl ?_;by_cases hn:nx=Q.length
 .have hd:decide ((nx:Int)=(Q.length:Int))=true:=decide_eq_true (by omega)
  repeat' (first|(simp (disch:=omega) only[go_sem,simprocAttr,Vo,rq,a.gq.len,hd])|(refine aR ?_ ?_<;>(intro hb hd;rw[hb];clear hb))|(with_reducible refine aj ?_))
  exact hR1 hn
 .have hd:decide ((nx:Int)=(Q.length:Int))=false:=decide_eq_false (by omega)
  have w1:gM .i64 ((nx:Int)+1)=((nx+1:Nat):Int):=by rw[dN (by omega) (by omega)];rfl
  have w2:gM .i64 (((nx+1:Nat):Int) - 1)=(nx:Int):=by rw[dN (by omega) (by omega)];omega
  have a2:=a.afN (nx+1);have rq2:=a2.rq;obtain⟨b1,o1,x,i1,hx,hb1,rd⟩:=a2.gq.sl.fu (k:=(nx:Nat)) (by omega) (by omega) (by omega);rw[show((nx:Nat):Int).toNat=nx by omega]at hx;repeat' (first|(simp (disch:=omega) only[go_sem,simprocAttr,Vo,rq,a.gq.len,hd,w1])|(refine aR ?_ ?_<;>(intro hb hd;rw[hb];clear hb))|(with_reducible refine aj ?_))
  repeat' (first|(simp (disch:=omega) only[go_sem,simprocAttr,rq2,w2,i1,rd.el,rd.hd])|(refine aR ?_ ?_<;>(intro hb hd;rw[hb];clear hb))|(with_reducible refine aj ?_))
  exact hR2 _ hx a2
theorem AJ(K:Nat){b6 i:Nat}{x:Int}{R:AV->AH->Nat->Prop}(a:nS h n g X A r op qv Q nx bs B)(hl:Q.length<=100000)(h6:∀h n,A h n->h.get b6=some (.row 22 [.sl g.rb 0 0 r.length (some r.length)]))(hi:i<r.length)
 (hR:∀v' X' h' n',nS h' n' g X' A (r.set i x) op v' (Q++[i]) nx bs B->n<=n'->(∀x,x<n->¬X x->h'.get x=h.get x)->(∀x,X x->X' x)->(∀x,X' x->X x\/n<=x)->R (.bN []) h' n'):CW (EF (K+2)) 184 [.i .i64 (i:Nat),.i .i64 x,.p b6 0,.p g.b9 0] h n R:=by
 have r6:=h6 _ _ a.A.use;have rr:=a.rr;have hset:=lM (c:=iN) (λ_=>rfl) (a:=x) hi rfl;refine aD afK rfl ?_;simp (disch:=omega) only[go_sem,simprocAttr,ZQ,r6,bT hi,rr,hset,Option.map_some];rw[aU];have a2:=a.Vq (r.set i x);refine IL K a2 hl λv' X' h' n' a3 hn hs hX1 hX2=>?_;simp (disch:=omega) only[go_sem,simprocAttr];refine hR _ _ _ _ a3 hn (λx hx hX=>?_) hX1 hX2;rw[hs x hx hX,ay λe=>hX (by rw[e];exact a.Xg _ (.inl rfl))]
structure BkA(b6 b7 b3 b14:Nat)(g:KV)(N:Nat)(party:Int)(vv ww:AV)(ps:List (TS×aP))(h:AH)(n:Nat):Prop where
 r6:h.get b6=some (.row 22 [.sl g.rb 0 0 N (some N)])
 r7:h.get b7=some (.row 22 [.sl g.ob 0 0 N (some N)])
 r3:h.get b3=some (.row 150 (oH party vv ww))
 pY:h.get b14=some (.row 303 [.f 184 [.p b6 0,.p g.b9 0]])
 pos:SL h n 5 vv xC ps
theorem QS(K:Nat){b6 b7 b3 b14 f to N:Nat}{party:Int}{vv ww:AV}{ps:List (TS×aP)}{x:TS×aP}{R:AV->AH->Nat->Prop}(a:nS h n g X A r op qv Q nx bs B)(hl:Q.length<=100000)(hA:∀h n,A h n->BkA b6 b7 b3 b14 g N party vv ww ps h n)
 (lr:r.length=N)(lo:op.length=N)(lp:ps.length=N)(hx:ps[f]?=some x)(hto:to<N)(ho: -1000000<=op.getD f 0/\op.getD f 0<=1000000)(hrt: -1<=rk r to/\rk r to<=1000000)(hne:f≠to\/rk r f≠ -1)
 (hR1:(rk r f≠ -1\/(x.2.own=true/\op.getD f 0 - 1≠0))->∀h' n',nS h' n' g X A r (op.set f (op.getD f 0 - 1)) qv Q nx bs B->n<=n'->(∀x,x<n->¬X x->h'.get x=h.get x)->R (.bN []) h' n')
 (hR2:rk r f= -1->(x.2.own=false\/op.getD f 0 - 1=0)->∀v' X' h' n',nS h' n' g X' A (r.set f (rk r to+1)) (op.set f (op.getD f 0 - 1)) v' (Q++[f]) nx bs B->n<=n'->(∀x,x<n->¬X x->h'.get x=h.get x)->(∀x,X x->X' x)->(∀x,X' x->X x\/n<=x)->R (.bN []) h' n'):
 CW (EF (K+3)) 185 [.i .i64 (f:Nat),.i .i64 (to:Nat),.p b7 0,.p b6 0,.p b3 0,.p b14 0] h n R:=by
 have hf:f<N:=by rw[<-lp];exact(List.getElem?_eq_some_iff.1 hx).1
 have ba:=hA _ _ a.A.use;have r6:=ba.r6;have r7:=ba.r7;have r3:=ba.r3;have pY:=ba.pY;have ro:=a.ro;have hfo:f<op.length:=by omega
 have hop:op[f]?=some (op.getD f 0):=by rw[List.getD_eq_getElem?_getD,List.getElem?_eq_getElem hfo];rfl
 have rd1:=nR (t:=3) (c:=iN) (λ_=>rfl) hop rfl;have w1:gM .i64 (op.getD f 0 - 1)=op.getD f 0 - 1:=dN (by omega) (by omega);have st:=lM (c:=iN) (λ_=>rfl) (a:=op.getD f 0 - 1) hfo rfl;have a2:=a.F9 (op.set f (op.getD f 0 - 1));refine aD afL rfl ?_;simp (disch:=omega) only[go_sem,simprocAttr,ZR,r7,bT hf,ro,rd1,w1,st,Option.map_some];have us:∀x,x<n->¬X x->(h.set g.ob (.row 3 ((op.set f (op.getD f 0 - 1)).flatMap iN))).get x=h.get x:=λx _ hX=>ay λe=>hX (by rw[e];exact a.Xg _ (.inr (.inl rfl)));generalize Tr.set h g.ob _=h2 at*;clear r6 r7 r3 pY ba;have ba:=hA _ _ a2.A.use;have r6:=ba.r6;have r7:=ba.r7;have r3:=ba.r3;have pY:=ba.pY;have rr:=a2.rr;have ro2:=a2.ro;have rdf:=nR (t:=3) (c:=iN) (λ_=>rfl) (uO (r:=r) (i:=f) (by omega)) rfl;have rdt:=nR (t:=3) (c:=iN) (λ_=>rfl) (uO (r:=r) (i:=to) (by omega)) rfl;have hop2:(op.set f (op.getD f 0 - 1))[f]?=some (op.getD f 0 - 1):=by rw[List.getElem?_set,if_pos rfl,if_pos hfo]
 have QT:=nR (t:=3) (c:=iN) (λ_=>rfl) hop2 rfl;obtain⟨b1,o1,x',i1,hx',hb1,rd⟩:=ba.pos.fu (k:=(f:Nat)) (by omega) (by omega) (by omega);rw[show((f:Nat):Int).toNat=f by omega,hx]at hx';cases hx'
 have w2:gM .i64 (rk r to+1)=rk r to+1:=dN (by omega) (by omega);repeat' (first|(simp (disch:=omega) only[go_sem,simprocAttr,r6,r7,r3,pY,bT hf,rr,ro2,rdf,QT,rdt,w2,bU hto,aJ i1,rd.el,rd.hd])|(refine aR ?_ ?_<;>(intro hb hd;rw[hb];clear hb))|(with_reducible refine aj ?_))
 all_goals first
  |(
   rename_i q1 q2;exact hR1 (.inr ⟨by assumption,hd⟩) _ _ a2 (Nat.le_refl _) us)
  |exact hR1 (.inl hd) _ _ a2 (Nat.le_refl _) us
  |(
   rw[vP];show CW _ 184 [.i .i64 (f:Nat),.i .i64 (rk r to+1),.p b6 0,.p g.b9 0] _ _ _;refine AJ K a2 hl (λh n e=>by rw[lr];exact(hA h n e).r6) (by omega) λv' X' h3 n3 a3 hn hs hX1 hX2=>?_;simp (disch:=omega) only[go_sem,simprocAttr];refine hR2 (by assumption) (by first|exact .inl hd|exact .inr hd) v' X' _ _ a3 hn (λx hx hX=>by rw[hs x hx hX,us x hx hX]) hX1 hX2)
end
end
end Go.Proofs.YtjoohkjmoghmoaaGreatDoor

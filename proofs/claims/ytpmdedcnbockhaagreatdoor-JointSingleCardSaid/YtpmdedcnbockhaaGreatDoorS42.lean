/- part -/
import Derived.Test.YtpmdedcnbockhaaGreatDoorS32
import Derived.Test.YtpmdedcnbockhaaGreatDoorS41
namespace Go.Proofs.YtpmdedcnbockhaaGreatDoor
open Go.RowKit Go.Shelf
section
variable {C:au} {p:Int} {l V:List Int} {s:ak} {b r r' r0:List ak}
theorem M8{i:Nat}(hi:i<C.acts.length):hidJ C [p] s i=zT C s p i:=by
 obtain⟨a,ha⟩:∃a,C.acts[i]?=some a:=⟨C.acts[i],aS hi⟩;unfold hidJ zT au.sight au.nY au.named;simp only[ha,List.any_cons,List.any_nil,Bool.or_false];cases (a.kind==1)<;>cases (a.tgt== -1)<;>cases C.sees s p i<;>simp
theorem K8:qG C [p] b s↔Reach C p b s:=by
 constructor
 .intro h
  induction h with
  |base hs=>exact .base hs
  |step _ hd hi hh ih=>exact .step ih hd (aaL hi (by rw[<-M8 hi];exact hh))
 .intro h
  induction h with
  |base hs=>exact .base hs
  |step _ hd hx ih=>
   obtain⟨i,a,rfl,ha,hb⟩:=Mf hx;have hi:=(bB.1 ha).1;exact .step ih hd hi (by rw[M8 hi];exact hb)
theorem M9(h:yX C [p] b r):r_ C p b r:=
 ⟨h.sorted,h.few,h.ok,λs hs=>K8.1 (h.reach s hs),h.has,λs hs hd x hx=>by
  obtain⟨i,a,rfl,ha,hb⟩:=Mf hx;have hi:=(bB.1 ha).1;exact h.closed s hs hd i hi (by rw[M8 hi];exact hb)⟩
theorem P7(h:qN C [p] b):zF C p b:=by
 obtain⟨F,h1,h2,h3⟩:=h;exact⟨F,h1,h2,λs hs=>K8.1 (h3 s hs)⟩
theorem P8{x:Int}(hp:0<=p/\p<C.aF)(hx:C.jS x)(hb:∀s∈b,aV C s):C.gT [p] x b=C.nexts p x b:=by
 unfold au.gT au.nexts;rw[List.filter_congr (λs hs=>?_)];unfold yY fits;congr 1;cases hq:(x== -1)with
 |true=>rfl
 |false=>
  rcases hx with rfl|⟨h0,h1⟩
  .cases hq
  .obtain⟨i,rfl⟩:∃i:Nat,x=i:=⟨x.toNat,by omega⟩
   obtain⟨a,ha⟩:∃a,C.acts[i]?=some a:=⟨C.acts[i]'(by omega),aS _⟩;have hse:C.sees s p i=Ed s a p:=by
    unfold au.sees au.Av;have e1:C.f_ s=true:=(jr C s).2 (hb s hs);have e2:decide (0<=p)=true:=by simpa using hp.1
    have e3:decide (p<C.aF)=true:=by simpa using hp.2
    have e4:decide ((0:Int)<=i)=true:=by simp
    have e5:decide ((i:Int)<C.acts.length)=true:=by simpa using h1
    simp only[e1,e2,e3,e4,e5,Bool.true_and,sM,ha]
   unfold au.sight au.nY;simp only[sM,ha,List.any_cons,List.any_nil,Bool.or_false,Bool.false_or,hse];unfold Ed sP;cases (a.kind==1)<;>cases (a.tgt== -1)<;>simp
theorem SI{x:Int}(hp:0<=p/\p<C.aF)(hb:∀s∈b,aV C s)(h:D5 C [p] x b r):nR C p x b r:=by
 obtain⟨h1,h2,h3⟩:=h;rw[P8 hp h1 hb]at h2 h3;exact⟨h1,h2,M9 h3⟩
theorem P9{x er:Int}(hp:0<=p/\p<C.aF)(hb:∀s∈b,aV C s)(h:sH C [p] x b er):j5 C p x b er:=by
 rcases h with h|⟨h1,h⟩
 .exact .inl h
 .rw[P8 hp h1 hb]at h
  refine .inr ⟨h1,?_⟩;rcases h with h|⟨h2,h3⟩
  .exact .inl h
  .exact .inr ⟨h2,P7 h3⟩
theorem SN(h:C.oP [p]=true):0<=p/\p<C.aF:=by
 unfold au.oP at h;simpa using h
theorem SQ(h:0<=p/\p<C.aF):C.oP [p]=true:=by
 unfold au.oP;simpa using h
theorem Ji.sub{S:List ak}(h0:∀s∈b,s∈S)(h1:∀s∈S,s.day<C.days->∀x∈C.hid s p,C.next s x∈S)(h:Reach C p b s):s∈S:=by
 induction h with
 |base hs=>exact h0 _ hs
 |step _ hd hx ih=>exact h1 _ ih hd _ hx
theorem ze(h:r_ C p b r):¬zF C p b:=by
 rintro⟨F,hn,h3,hr⟩;have:=wu hn (λs hs=>Ji.sub h.has h.closed (hr s hs));have:=h.few;omega
theorem Jj:∀{l m:List ak},l.Pairwise (λa b=>a.text<b.text)->m.Pairwise (λa b=>a.text<b.text)->(∀s,s∈l↔s∈m)->l=m
 |[],[],_,_,_=>rfl
 |[],y::m,_,_,h=>by have:=(h y).2 List.mem_cons_self;cases this
 |x::l,[],_,_,h=>by have:=(h x).1 List.mem_cons_self;cases this
 |x::l,y::m,hl,hm,h=>by
  obtain⟨l1,l2⟩:=wF.1 hl;obtain⟨m1,m2⟩:=wF.1 hm;have e:x=y:=by
   rcases dx.1 ((h x).1 List.mem_cons_self)with e|h1
   .exact e
   .rcases dx.1 ((h y).2 List.mem_cons_self)with e|h2
    .exact e.symm
    .exact absurd (List.lt_trans (m1 x h1) (l1 y h2)) (List.lt_irrefl _)
  subst e;rw[Jj l2 m2 (λs=>⟨λhs=>?_,λhs=>?_⟩)]
  .rcases dx.1 ((h s).1 (kG _ hs))with e|h1
   .subst e;exact absurd (l1 s hs) (List.lt_irrefl _)
   .exact h1
  .rcases dx.1 ((h s).2 (kG _ hs))with e|h1
   .subst e;exact absurd (m1 s hs) (List.lt_irrefl _)
   .exact h1
theorem Jk(h:r_ C p b r)(h':r_ C p b r'):r=r':=
 Jj (List.pairwise_map.1 h.sorted) (List.pairwise_map.1 h'.sorted) (λs=>⟨λhs=>Ji.sub h'.has h'.closed (h.reach s hs),λhs=>Ji.sub h.has h.closed (h'.reach s hs)⟩)
theorem EO(h:fT C p V r):(V=[]/\C.mI p/\r_ C p [C.first] r)\/∃V0 x r0,V=V0++[x]/\fT C p V0 r0/\nR C p x r0 r:=by
 cases h with
 |nil h1 h2=>exact .inl ⟨rfl,h1,h2⟩
 |snoc h1 h2=>exact .inr ⟨_,_,_,rfl,h1,h2⟩
theorem lD(h:fT C p V r):∀{r'},fT C p V r'->r=r':=by
 induction h with
 |nil _ h2=>
  intro r' h;rcases EO h with⟨_,_,h1⟩|⟨l0,x,r0,e,_⟩
  .exact Jk h2 h1
  .simp at e
 |snoc _ h2 ih=>
  intro r' h;rcases EO h with⟨e,_⟩|⟨l1,y,r1,e,h3,h4⟩
  .simp at e
  .obtain⟨rfl,e2⟩:=List.append_inj' e rfl
   injection e2 with e2
   subst e2;obtain rfl:=ih h3;exact Jk h2.2.2 h4.2.2
theorem ru(h:fT C p V r):C.mI p/\∃r0,r_ C p [C.first] r0:=by
 induction h with
 |nil h1 h2=>exact⟨h1,_,h2⟩
 |snoc _ _ ih=>exact ih
theorem Jl(h:fT C p V r):∀s∈r,aV C s:=by
 obtain⟨_,hb⟩:=h.clo;exact hb.ok
theorem zh(h:fT C p V r):∀{k:Nat}{x:Int},V[k]?=some x->∃r1 r2,fT C p (V.take k) r1/\nR C p x r1 r2:=by
 induction h with
 |nil _ _=>intro k x hx;simp at hx
 |snoc h1 h2 ih=>
  rename_i V0 r1 r2 y;intro k x hx;by_cases hk:k<V0.length
  .rw[kH hk]at hx
   rw[List.take_append_of_le_length (by omega)];exact ih hx
  .have hk2:k=V0.length:=by
    have:=(bB.1 hx).1;rw[mU,rP]at this;omega
   subst hk2;rw[lW (bJ _),Nat.sub_self]at hx;simp at hx;subst hx;rw[List.take_append_of_le_length (bJ _),iG];exact⟨_,_,h1,h2⟩
theorem K9(hp:C.mI p)(h0:yX C [p] [C.first] r0)(h:jT C [p] r0 V r):fT C p V r:=by
 induction h with
 |nil=>exact .nil hp (M9 h0)
 |snoc _ h2 ih=>exact .snoc ih (SI hp.2 (Jl ih) h2)
theorem D9{x er:Int}(h:nR C p x b r)(h':j5 C p x b er):False:=by
 rcases h' with⟨_,h1⟩|⟨_,⟨_,h1⟩|⟨_,h1⟩⟩
 .exact h1 h.1
 .exact h.2.1 h1
 .exact ze h.2.2 h1
theorem Jm{x er Ki:Int}(h:j5 C p x b er)(h':j5 C p x b Ki):er=Ki:=by
 rcases h with⟨rfl,h1⟩|⟨h0,⟨rfl,h1⟩|⟨rfl,h1⟩⟩<;>rcases h' with⟨rfl,h2⟩|⟨g0,⟨rfl,h2⟩|⟨rfl,h2⟩⟩
 .rfl
 .exact absurd g0 h1
 .exact absurd g0 h1
 .exact absurd h0 h2
 .rfl
 .rw[h1]at h2
  obtain⟨F,hn,h3,hr⟩:=h2;have:∀s∈F,s∈([]:List ak):=λs hs=>Ji.sub (S:=[]) (λ_ h=>h) (λs hs=>by cases hs) (hr s hs);have h9:=wu hn this;rw[kM]at h9;omega
 .exact absurd h0 h2
 .rw[h2]at h1
  obtain⟨F,hn,h3,hr⟩:=h1;have:∀s∈F,s∈([]:List ak):=λs hs=>Ji.sub (S:=[]) (λ_ h=>h) (λs hs=>by cases hs) (hr s hs);have h9:=wu hn this;rw[kM]at h9;omega
 .rfl
theorem P_{k k':Nat}{r1 r2:List ak}{x x' er Ki:Int}(hx:V[k]?=some x)(h1:fT C p (V.take k) r1)(ha:j5 C p x r1 er)(hx':V[k']?=some x')(h2:fT C p (V.take k') r2)(hb:j5 C p x' r2 Ki):er=Ki:=by
 have key:∀{k k':Nat}{r1 r2:List ak}{x x' er Ki:Int},V[k]?=some x->fT C p (V.take k) r1->j5 C p x r1 er->V[k']?=some x'->fT C p (V.take k') r2->j5 C p x' r2 Ki->¬k<k':=by
  intro k k' r1 r2 x x' er Ki hx h1 ha hx' h2 hb hlt;obtain⟨r3,r4,h3,h4⟩:=zh h2 (k:=k) (x:=x) (by rw[List.getElem?_take_of_lt hlt];exact hx);rw[List.take_take,Nat.min_eq_left (by omega)]at h3;obtain rfl:=lD h1 h3;exact D9 h4 ha
 have e:k=k':=by
  have:=key hx h1 ha hx' h2 hb;have:=key hx' h2 hb hx h1 ha;omega
 subst e;rw[hx]at hx';cases hx'
 obtain rfl:=lD h1 h2;exact Jm ha hb
theorem M_{er Ki:Int}(hV:V.length<=4000)(h:Bh C [p] V r er)(h':(Ki=0/\M7 C p V r')\/(Ki≠0/\r'=[]/\Ut C p V Ki)):er=Ki/\r=r':=by
 rcases h with⟨rfl,rfl,hn⟩|⟨hv,hg,h⟩
 .have hs:¬C.mI p:=λh=>hn ⟨h.1,SQ h.2⟩
  rcases h' with⟨_,_,h1⟩|⟨_,rfl,(⟨rfl,_⟩|⟨_,h1,_⟩)|⟨_,h1⟩|⟨_,_,_,_,h1,_⟩⟩
  .exact absurd (ru h1).1 hs
  .exact⟨rfl,rfl⟩
  .exact absurd h1 hs
  .omega
  .exact absurd (ru h1).1 hs
 .have hs:C.mI p:=⟨hv,SN hg⟩
  rcases h with⟨rfl,rfl,hm⟩|⟨r0,h0,⟨_,_,h1⟩|⟨_,hw⟩⟩
  .have hm:=P7 hm
   rcases h' with⟨_,_,h1⟩|⟨_,rfl,(⟨_,h1⟩|⟨rfl,_⟩)|⟨_,h1⟩|⟨_,_,_,_,h1,_⟩⟩
   .obtain⟨_,r1,h2⟩:=ru h1
    exact absurd hm (ze h2)
   .exact absurd hs h1
   .exact⟨rfl,rfl⟩
   .omega
   .obtain⟨_,r1,h2⟩:=ru h1
    exact absurd hm (ze h2)
  .omega
  .have hc0:=M9 h0
   rcases hw with⟨rfl,hw⟩|⟨hne,rfl,k,r1,x,hx,h1,ha⟩
   .have hW:=K9 hs h0 hw
    rcases h' with⟨rfl,_,h1⟩|⟨_,rfl,(⟨_,h1⟩|⟨_,_,h1⟩)|⟨_,h1⟩|⟨k,r1,x,hx,h1,ha⟩⟩
    .exact⟨rfl,lD hW h1⟩
    .exact absurd hs h1
    .exact absurd h1 (ze hc0)
    .omega
    .obtain⟨r3,r4,h3,h4⟩:=zh hW hx
     obtain rfl:=lD h1 h3;exact(D9 h4 ha).elim
   .have hW:=K9 hs h0 h1
    have ha:=P9 hs.2 (Jl hW) ha;rcases h' with⟨rfl,_,h2⟩|⟨_,rfl,(⟨_,h2⟩|⟨_,_,h2⟩)|⟨_,h2⟩|⟨k',r2,x',hx',h2,hb⟩⟩
    .obtain⟨r3,r4,h3,h4⟩:=zh h2 hx
     obtain rfl:=lD hW h3;exact(D9 h4 ha).elim
    .exact absurd hs h2
    .exact absurd h2 (ze hc0)
    .omega
    .exact⟨P_ hx hW ha hx' h2 hb,rfl⟩
end
end Go.Proofs.YtpmdedcnbockhaaGreatDoor

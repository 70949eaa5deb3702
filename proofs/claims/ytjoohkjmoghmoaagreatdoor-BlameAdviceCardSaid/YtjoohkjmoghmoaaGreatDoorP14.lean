/- part -/
import Derived.Test.YtjoohkjmoghmoaaGreatDoorP13
set_option linter.all false
namespace Go.Proofs.YtjoohkjmoghmoaaGreatDoor
section
noncomputable section
def sU(M:List (List (Int×Nat)))(k j:Nat):List Nat:=(List.range k).flatMap λi=>((mr M i).filter λx=>x.2==j).map λ_=>i
def mP(M:List (List (Int×Nat)))(k:Nat)(l:List (Int×Nat))(t j:Nat):List Nat:=sU M k j++((l.take t).filter λx=>x.2==j).map λ_=>k
theorem NJ(M:List (List (Int×Nat)))(j:Nat):oD M j=sU M M.length j:=rfl
theorem Vr{M:List (List (Int×Nat))}{k:Nat}{l:List (Int×Nat)}{j:Nat}:mP M k l 0 j=sU M k j:=by simp[mP]
theorem NK{M:List (List (Int×Nat))}{k:Nat}{l:List (Int×Nat)}{j:Nat}(h:M[k]?=some l):mP M k l l.length j=sU M (k+1) j:=by
 have:mr M k=l:=by unfold mr;rw[List.getD_eq_getElem?_getD,h];rfl
 simp[mP,sU,List.range_succ,this]
theorem J2{M:List (List (Int×Nat))}{k t N:Nat}{l:List (Int×Nat)}{z:Int×Nat}(h:l[t]?=some z)(hz:z.2<N):(List.range N).map (mP M k l (t+1))=((List.range N).map (mP M k l t)).set z.2 (mP M k l t z.2++[k]):=by
 have key:∀j,mP M k l (t+1) j=if z.2=j then mP M k l t j++[k]else mP M k l t j:=λj=>by
  unfold mP;rw[List.take_add_one,h];simp only[Option.toList_some,List.filter_append,List.map_append];by_cases e:z.2=j
  .simp[e]
  .have:(z.2==j)=false:=by simpa using e
   simp[e,this]
 apply List.ext_getElem?;intro j;rw[List.getElem?_set];by_cases hj:j<N
 .by_cases e:z.2=j
  .subst e
   rw[if_pos rfl,if_pos (by simpa using hj),List.getElem?_map,List.getElem?_range hj,Option.map_some,key,if_pos rfl]
  .rw[if_neg e,List.getElem?_map,List.getElem?_map,List.getElem?_range hj,Option.map_some,Option.map_some,key,if_neg e]
 .have h1:((List.range N).map (mP M k l (t+1)))[j]?=none:=by simp;omega
  have h2:((List.range N).map (mP M k l t))[j]?=none:=by simp;omega
  rw[h1,if_neg (by omega),h2]
section
variable {h h':AH} {n n':Nat} {v:CS} {C:aA} {p:aP} {party:Int} {ps:List (TS×aP)} {wv:List AV} {M:List (List (Int×Nat))} {Q:AV->AH->Nat->Prop} {vv ww:AV}
theorem En{M:List (List (Int×Nat))}{c:Nat}(h:∀i,(mr M i).length<=c)(k j:Nat):(sU M k j).length<=k*c:=by
 induction k with
 |zero=>simp[sU]
 |succ k ih=>
  have e:sU M (k+1) j=sU M k j++((mr M k).filter λx=>x.2==j).map λ_=>k:=by simp[sU,List.range_succ]
  rw[e,List.length_append,List.length_map,Nat.succ_mul];have:=List.length_filter_le (λx:Int×Nat=>x.2==j) (mr M k);have:=h k;omega
theorem CB{D:DK}{h:AH}{n e w:Nat}{v y:AV}{α:Type}{c:α->List AV}{l l2:List α}{l':List MQ}{j r n0:Nat}{f:FT}{vs:List AV}{hs:List (Nat×AH)}{F:Fm}
 (g:Gr h n e w v c l)(hy:lS y=some l2.length/\je h w l2.length y=some (l2.flatMap c))(hl:l.length+l2.length<=1048576)
 (q:∀v' h' n',Gr h' n' e w v' c (l++l2)->n<=n'->(∀x,x<n->¬blk v x->h'.get x=h.get x)->(∀x,blk v' x->blk v x\/n<=x)->D l' (j+1) r n0 f h' n' (v'::vs) ((j+1,h')::hs) F):dR D (some ((jr e w).run h n v y)) l' j r n0 f vs hs F:=by
 obtain⟨v',h',n',e1,e2,e3,e4,e5⟩:=g.app hy.1 hy.2 hl;rw[e1,adW];exact q v' h' n' e2 e3 e4 e5
structure RkA(n0 b6 b7:Nat)(g:KV)(N:Nat)(v:CS)(C:aA)(party:Int)(vv ww:AV)(ps:List (TS×aP))(wv:List AV)(M:List (List (Int×Nat)))(h:AH)(n:Nat):Prop where
 r2:h.get n0=some (.row 27 (v.av C))
 r3:h.get (n0+1)=some (.row 150 (oH party vv ww))
 r6:h.get b6=some (.row 22 [.sl g.rb 0 0 N (some N)])
 r7:h.get b7=some (.row 22 [.sl g.ob 0 0 N (some N)])
 con:aZ h n v C
 ar:qW h n vv ww ps wv M
def kZ(C:aA)(party:Int)(P:List aP)(j:Nat):Bool:=match P[j]? with|some q=>anyFailed C q.st party|none=>false
def oh(C:aA)(party:Int)(P:List aP)(j:Nat):Int:=if kZ C party P j=true then 0 else -1
def qX(n1:Nat):KV:=⟨n1,n1+1+1,n1+1+1+1+1,n1+1+1+1+1+1⟩
def PA(h:AH)(n n1:Nat)(v:CS)(C:aA)(party:Int)(vv ww:AV)(ps:List (TS×aP))(wv:List AV)(M:List (List (Int×Nat)))(k:Nat)(hk:AH)(nk:Nat)(G:Fm):Prop:=∃(X:Nat->Prop)(r op:List Int)(qv:AV)(bs:List AV),
 nS hk nk (qX n1) X (RkA n (n1+1) (n1+1+1+1) (qX n1) ps.length v C party vv ww ps wv M) r op qv ((List.range k).filter (kZ C party (ps.map (·.2)))) 0 bs ((List.range ps.length).map (sU M k))/\r.length=ps.length/\op.length=ps.length/\
 (∀j,j<k->r[j]?=some (oh C party (ps.map (·.2)) j))/\(∀j,j<k->op[j]?=some ((mr M j).length:Int))/\Up h n hk nk/\(∀x,X x->n1<=x)/\
 G=[(2,.p n 0),(3,.p (n+1) 0),(5,.i .i64 (ps.length:Nat)),(6,.p (n1+1) 0),(7,.p (n1+1+1+1) 0),(8,.sl (n1+1+1+1+1) 0 0 ps.length (some ps.length)),(9,.p (n1+1+1+1+1+1) 0),(36,vv)]
def PB2(h:AH)(n n1 n3:Nat)(v:CS)(C:aA)(party:Int)(vv ww:AV)(ps:List (TS×aP))(wv:List AV)(M:List (List (Int×Nat)))(k:Nat)(x:TS×aP)(y qv:AV)(Qs:List Nat)(r op:List Int)(l:List (Int×Nat))(t:Nat)(hk:AH)(nk:Nat)(G:Fm):Prop:=∃(X:Nat->Prop)(bs:List AV),
 nS hk nk (qX n1) X (RkA n (n1+1) (n1+1+1+1) (qX n1) ps.length v C party vv ww ps wv M) r op qv Qs 0 bs ((List.range ps.length).map (mP M k l t))/\Up h n hk nk/\(∀x,X x->n1<=x)/\hk.get n3=some (.row 45 (xC x))/\¬X n3/\n3<nk/\
 G=[(2,.p n 0),(3,.p (n+1) 0),(5,.i .i64 (ps.length:Nat)),(6,.p (n1+1) 0),(7,.p (n1+1+1+1) 0),(8,.sl (n1+1+1+1+1) 0 0 ps.length (some ps.length)),(9,.p (n1+1+1+1+1+1) 0),(36,vv),(37,.i .i64 (ps.length:Nat)),(38,.i .i64 (k:Nat)),(11,.p n3 0),(10,.i .i64 (k:Nat)),(59,y)]
theorem RI.start{P:List aP}{r op:List Int}(lr:r.length=P.length)(lo:op.length=P.length)(lm:M.length=P.length)(hr:∀j,j<P.length->r[j]?=some (oh C party P j))(hop:∀j,j<P.length->op[j]?=some ((mr M j).length:Int)):
 RI C party P M r op ((List.range P.length).filter (kZ C party P)) [] 0/\∀i∈(List.range P.length).filter (kZ C party P),rk r i<=1:=by
 have e1:∀j,j<P.length->rk r j=oh C party P j:=λj hj=>pX (hr j hj);have e2:∀j,¬j<P.length->rk r j= -1:=λj hj=>by unfold rk;rw[List.getD_eq_getElem?_getD,List.getElem?_eq_none (by omega)];rfl
 have e3:∀j p,P[j]?=some p->kZ C party P j=anyFailed C p.st party:=λj p h=>by unfold kZ;rw[h]
 have e4:∀j,oh C party P j=0\/oh C party P j= -1:=λj=>by unfold oh;split;exact .inl rfl;exact .inr rfl
 have lt:∀{j:Nat}{p:aP},P[j]?=some p->j<P.length:=λh=>(List.getElem?_eq_some_iff.1 h).1;have le0:∀j,rk r j<=0:=λj=>by
  by_cases hj:j<P.length
  .rw[e1 j hj];rcases e4 j with e|e<;>omega
  .rw[e2 j hj];omega
 refine⟨⟨lr,lo,lm,List.Pairwise.filter _ List.nodup_range,λi=>?_,λi=>?_,λi hi=>?_,λi p hp=>?_,λi p _ _ h=>by have:=le0 i;omega,λi p _ _ h=>by have:=le0 i;omega,?_,λi p _ _=>⟨λ_=>rfl,λh=>by omega⟩⟩,λi _=>by have:=le0 i;omega⟩
 .rw[List.mem_filter,List.mem_range]
  constructor
  .rintro⟨a,b⟩
   refine⟨a,?_⟩;rw[e1 i a];unfold oh;rw[if_pos b];omega
  .rintro⟨a,b⟩
   refine⟨a,?_⟩;rw[e1 i a]at b;unfold oh at b;cases h:kZ C party P i with
   |true=>rfl
   |false=>rw[h]at b;simp at b
 .by_cases hj:i<P.length
  .rw[e1 i hj];rcases e4 i with e|e<;>omega
  .rw[e2 i hj];omega
 .rw[List.getD_eq_getElem?_getD,hop i hi];simp
 .rw[e1 i (lt hp)];unfold oh
  rw[e3 i p hp];cases anyFailed C p.st party<;>simp
 .refine List.Pairwise.imp_of_mem (R:=λ_ _=>True) (λ{a b} ha hb _=>?_) (List.pairwise_of_forall λ_ _=>trivial)
  have h1:=List.mem_filter.1 ha;have h2:=List.mem_filter.1 hb;rw[e1 a (List.mem_range.1 h1.1),e1 b (List.mem_range.1 h2.1)];unfold oh;rw[if_pos h1.2,if_pos h2.2];exact Int.le_refl _
structure J5(n0 b6 b7 b14:Nat)(g:KV)(N:Nat)(v:CS)(C:aA)(party:Int)(vv ww:AV)(ps:List (TS×aP))(wv:List AV)(M:List (List (Int×Nat)))(h:AH)(n:Nat):Prop where
 a:RkA n0 b6 b7 g N v C party vv ww ps wv M h n
 pY:h.get b14=some (.row 303 [.f 184 [.p b6 0,.p g.b9 0]])
theorem J5.bk{n0 b6 b7 b14:Nat}{g:KV}{N:Nat}(x:J5 n0 b6 b7 b14 g N v C party vv ww ps wv M h n):BkA b6 b7 (n0+1) b14 g N party vv ww ps h n:=⟨x.a.r6,x.a.r7,x.a.r3,x.pY,x.a.ar.pos⟩
def PB3(h:AH)(n n1 b14:Nat)(v:CS)(C:aA)(party:Int)(vv ww:AV)(ps:List (TS×aP))(wv:List AV)(M:List (List (Int×Nat)))(k:Nat)(hk:AH)(nk:Nat)(G:Fm):Prop:=∃(X:Nat->Prop)(r op:List Int)(qv:AV)(Qs:List Nat)(bs:List AV),
 nS hk nk (qX n1) X (J5 n (n1+1) (n1+1+1+1) b14 (qX n1) ps.length v C party vv ww ps wv M) r op qv Qs 0 bs ((List.range ps.length).map (oD M))/\RI C party (ps.map (·.2)) M r op Qs [] k/\(∀i∈Qs,rk r i<=1)/\Up h n hk nk/\(∀x,X x->n1<=x)/\b14<nk/\
 G=[(3,.p (n+1) 0),(6,.p (n1+1) 0),(7,.p (n1+1+1+1) 0),(8,.sl (n1+1+1+1+1) 0 0 ps.length (some ps.length)),(9,.p (n1+1+1+1+1+1) 0),(14,.p b14 0),(92,vv)]
def PC(h:AH)(n n1 b14:Nat)(v:CS)(C:aA)(party:Int)(vv ww:AV)(ps:List (TS×aP))(wv:List AV)(M:List (List (Int×Nat)))(m:Nat)(hk:AH)(nk:Nat)(G:Fm):Prop:=∃(X:Nat->Prop)(r op:List Int)(qv:AV)(Qs:List Nat)(bs:List AV)(nx:Nat)(D rest:List Nat)(to:Nat)(ok:Bool),
 nS hk nk (qX n1) X (J5 n (n1+1) (n1+1+1+1) b14 (qX n1) ps.length v C party vv ww ps wv M) r op qv Qs nx bs ((List.range ps.length).map (oD M))/\Up h n hk nk/\(∀x,X x->n1<=x)/\b14<nk/\
 ((ok=true/\Qs=D++to::rest/\nx=D.length+1/\RI C party (ps.map (·.2)) M r op Qs (D.flatMap (oD M)) ps.length/\(∀i∈Qs,rk r i<=rk r to+1)/\rk r to<=nx/\m+nx=ps.length+1)\/
  (ok=false/\RI C party (ps.map (·.2)) M r op Qs (Qs.flatMap (oD M)) ps.length/\m=0))/\
 G=[(3,.p (n+1) 0),(6,.p (n1+1) 0),(7,.p (n1+1+1+1) 0),(8,.sl (n1+1+1+1+1) 0 0 ps.length (some ps.length)),(9,.p (n1+1+1+1+1+1) 0),(14,.p b14 0),(17,.f 185 [.p (n1+1+1+1) 0,.p (n1+1) 0,.p (n+1) 0,.p b14 0]),(18,.i .i64 (to:Nat)),(19,.b ok)]
def PD(h:AH)(n n1 b14:Nat)(v:CS)(C:aA)(party:Int)(vv ww:AV)(ps:List (TS×aP))(wv:List AV)(M:List (List (Int×Nat)))(D:List Nat)(to:Nat)(y:AV)(bs:List AV)(t:Nat)(hk:AH)(nk:Nat)(G:Fm):Prop:=∃(X:Nat->Prop)(r op:List Int)(qv:AV)(Qs:List Nat)(rest:List Nat),
 nS hk nk (qX n1) X (J5 n (n1+1) (n1+1+1+1) b14 (qX n1) ps.length v C party vv ww ps wv M) r op qv Qs (D.length+1) bs ((List.range ps.length).map (oD M))/\Up h n hk nk/\(∀x,X x->n1<=x)/\b14<nk/\
 Qs=D++to::rest/\RI C party (ps.map (·.2)) M r op Qs (D.flatMap (oD M)++(oD M to).take t) ps.length/\(∀i∈Qs,rk r i<=rk r to+1)/\rk r to<=D.length+1/\
 G=[(3,.p (n+1) 0),(6,.p (n1+1) 0),(7,.p (n1+1+1+1) 0),(8,.sl (n1+1+1+1+1) 0 0 ps.length (some ps.length)),(9,.p (n1+1+1+1+1+1) 0),(14,.p b14 0),(17,.f 185 [.p (n1+1+1+1) 0,.p (n1+1) 0,.p (n+1) 0,.p b14 0]),(18,.i .i64 (to:Nat)),(132,y)]
theorem NM(K:Nat)(hC:aZ h n v C)(ho:C.off.length<=1000000)(ai:qW h n vv ww ps wv M)(ia:bV C party p (ps.map (·.2)) M)(h0:0<=party)(h1:party<C.aC)(so:aK C p.st)
 (hQ:∀v' r h' n',lK C party (ps.map (·.2)) M r->Up h n h' n'->Kp (λx=>x<n) h' n' (λh n=>SL h n 1 v' iN r)->Q v' h' n'):CW (EF (K+9)) 105 [.agg (v.av C),.agg (oH party vv ww)] h n Q:=by
 have hsm:=ia.small;have hlen:=ia.len;have hl2:=ai.len;rw[List.length_map]at hsm hlen;have SX:∀x∈ps,aK C x.2.st:=λx hx=>wm.ok so (ia.rch _ (List.mem_map_of_mem hx));have SS:∀i,(mr M i).length<=100:=λi=>by
  unfold mr;rw[List.getD_eq_getElem?_getD];cases hm:M[i]? with
  |none=>simp
  |some l=>
   have hi:i<ps.length:=by rw[<-hlen];exact(List.getElem?_eq_some_iff.1 hm).1
   have hx:ps[i]?=some ps[i]:=List.getElem?_eq_some_iff.2 ⟨hi,rfl⟩;have hP:(ps.map (·.2))[i]?=some ps[i].2:=by rw[List.getElem?_map,hx];rfl
   have e1:=(ia.mv i _ l hP hm).1;have e3:=uN C party ps[i].2;have:=(aA.ok (SX _ (List.mem_of_getElem? hx)).con).kg;show l.length<=100;omega
 refine aD c105 rfl ?_;simp (disch:=omega) only[go_sem,simprocAttr,ZM,CS.av];rw[aU];refine Ae _ (hC.up aH) ho (ai.up aH) ia h0 h1 SX λh1 n1 u1=>?_;have e1:=u1.le;have r2:h1.get n=some (.row 27 (v.av C)):=by rw[u1.old _ (by omega)];simp (disch:=omega) only[go_sem]
 have r3:h1.get (n+1)=some (.row 150 (oH party vv ww)):=by rw[u1.old _ (by omega)];simp (disch:=omega) only[go_sem]
 have ux:Up h n h1 n1:=by exact aH
 clear u1;repeat' (first|(simp (disch:=omega) only[go_sem,simprocAttr,ub.old,r3,ai.pos.len,Aw])|(simp (disch:=omega) only[go_sem,simprocAttr,r3,ai.pos.len,Aw])|(refine aR ?_ ?_<;>(intro hb hd;rw[hb];clear hb))|(with_reducible refine aj ?_))
 generalize hh:Tr.set (Tr.set (Tr.set (Tr.set (Tr.set (Tr.set (Tr.set (Tr.set h1 _ _) _ _) _ _) _ _) _ _) _ _) _ _) _ _=h2;have u2:Up h1 n1 h2 (n1+1+1+1+1+1+1):=by rw[<-hh];exact aH
 have g1:h2.get n1=some (.row 3 ((List.replicate ps.length (0:Int)).flatMap iN)):=by rw[<-hh,<-iV iN];simp (disch:=omega) only[go_sem]
 have g2:h2.get (n1+1)=some (.row 22 [.sl n1 0 0 ps.length (some ps.length)]):=by rw[<-hh];simp (disch:=omega) only[go_sem]
 have g3:h2.get (n1+1+1)=some (.row 3 ((List.replicate ps.length (0:Int)).flatMap iN)):=by rw[<-hh,<-iV iN];simp (disch:=omega) only[go_sem]
 have g4:h2.get (n1+1+1+1)=some (.row 22 [.sl (n1+1+1) 0 0 ps.length (some ps.length)]):=by rw[<-hh];simp (disch:=omega) only[go_sem]
 have g5:h2.get (n1+1+1+1+1)=some (.row 22 ((List.replicate ps.length (AV.k 1)).flatMap one)):=by rw[<-hh,<-iV one];simp (disch:=omega) only[go_sem]
 have g6:h2.get (n1+1+1+1+1+1)=some (.row 323 [.k 1,.i .i64 0]):=by rw[<-hh];simp (disch:=omega) only[go_sem]
 clear hh;have pa:PA h n n1 v C party vv ww ps wv M 0 h2 (n1+1+1+1+1+1+1) [(2,.p n 0),(3,.p (n+1) 0),(5,.i .i64 (ps.length:Nat)),(6,.p (n1+1) 0),(7,.p (n1+1+1+1) 0),(8,.sl (n1+1+1+1+1) 0 0 ps.length (some ps.length)),(9,.p (n1+1+1+1+1+1) 0),(36,vv)]:=by
  have hB:(List.range ps.length).map (sU M 0)=List.replicate ps.length []:=by
   apply List.ext_getElem?;intro j;by_cases hj:j<ps.length
   .rw[List.getElem?_map,List.getElem?_range hj,List.getElem?_replicate,if_pos hj];rfl
   .rw[List.getElem?_replicate,if_neg hj];simp;omega
  have gk:∀(j:Nat)(y:AV),(List.replicate ps.length (AV.k 1))[j]?=some y->y= .k 1:=λj y e=>by
   rw[List.getElem?_replicate]at e;split at e<;>cases e;rfl
  refine⟨(qX n1).mem,_,_,.k 1,List.replicate ps.length (.k 1),⟨g1,g3,g6,g5,Gr.nil λ_=>rfl,by simp,λj y l e1 e2=>?_,(by simp only[qX];refine⟨?_,?_,?_,?_,?_,?_⟩<;>omega),λx hx=>absurd hx eX,λj y e x hx=>?_,λi j y z e _ _ x hx=>?_,λx hx=>hx,λx hx=>absurd hx eX,λj y e x hx=>?_,λx hx=>?_,λh' n' hn he=>?_⟩,by simp,by simp,(λj hj=>absurd hj (by omega)),(λj hj=>absurd hj (by omega)),ux.trans u2,λx hx=>?_,rfl⟩
  .rw[hB,List.getElem?_replicate]at e2
   split at e2<;>cases e2
   rw[gk j y e1];exact Gr.nil λ_=>rfl
  .rw[gk j y e]at hx;exact absurd hx eX
  .rw[gk i y e]at hx;exact absurd hx eX
  .rw[gk j y e]at hx;exact absurd hx eX
  .have:=hx;simp only[KV.mem,qX]at this;omega
  .have nm:∀x,x<n1\/x=n1+1\/x=n1+1+1+1->¬(qX n1).mem x:=λx hx e=>by simp only[KV.mem,qX]at e;omega
   have old:∀x,x<n1->h'.get x=h1.get x:=λx hx=>(he x (by omega) (nm x (.inl hx))).trans (u2.old x hx);have u':Up h n h' n':=ux.trans ⟨by omega,old⟩;exact⟨(old _ (by omega)).trans r2,(old _ (by omega)).trans r3,(he _ (by omega) (nm _ (.inr (.inl rfl)))).trans g2,(he _ (by omega) (nm _ (.inr (.inr rfl)))).trans g4,hC.up u',ai.up u'⟩
  .simp only[KV.mem,qX]at hx;omega
 refine bX ps.length (PA h n n1 v C party vv ww ps wv M) (by omega) (by omega) (by omega) (by omega) (λk h8 n8 G ⟨X,r,op,qv,bs,_,_,_,_,_,_,_,e⟩=>by subst e;exact⟨rfl,rfl⟩) ⟨rfl,rfl,_,pa,by(repeat' (first|exact aO|refine aN rfl ?_))⟩ ?_ ?_
 .rintro k h3 n3 G hk ⟨X,r,op,qv,bs,a,lr,lo,hr,hop,u3,hX,rfl⟩
  have ca:=a.A.use;have r2:=ca.r2;have r3:=ca.r3;have r6:=ca.r6;have r7:=ca.r7;have rr:=a.rr;have ro:=a.ro;obtain⟨b1,o1,x,i1,hx,hb1,rd⟩:=ca.ar.pos.fu (k:=(k:Nat)) (by omega) (by omega) (by omega);obtain⟨b2,o2,y,i2,hy,hb2,eY⟩:=ca.ar.row.fu (k:=(k:Nat)) (by omega) (by omega) (by omega);rw[show((k:Nat):Int).toNat=k by omega]at hx hy;obtain⟨l,hl⟩:∃l,M[k]?=some l:=⟨M[k]'(by omega),List.getElem?_eq_some_iff.2 ⟨by omega,rfl⟩⟩;have sl:=ca.ar.mv k y l hy hl;have st1':=lM (c:=iN) (λ_=>rfl) (a:=(-1:Int)) (show k<r.length by omega) rfl;have st2':=lM (c:=iN) (λ_=>rfl) (a:=(l.length:Int)) (show k<op.length by omega) rfl;have hP:(ps.map (·.2))[k]?=some x.2:=by rw[List.getElem?_map,hx];rfl
  have hll:l.length<=100:=by
   have e1:=(ia.mv k x.2 l hP hl).1;have e3:=uN C party x.2;have:=(aA.ok (SX x (List.mem_of_getElem? hx)).con).kg;omega
  have lb9:n1+1+1+1+1+1<n3:=a.lt _ (a.Xg _ (.inr (.inr (.inr rfl))));simp only[qX]at r6 r7 rr ro;repeat' (first|(simp (disch:=omega) only[go_sem,simprocAttr,ub.old,Gn,aJ i1,i1,i2,rd.all,eY.el,eY.hd,r3,r6,r7,sl.len,bU hk,rr,ro,st1',st2',Option.map_some])|(simp (disch:=omega) only[go_sem,simprocAttr,Gn,aJ i1,i1,i2,rd.all,eY.el,eY.hd,r3,r6,r7,sl.len,bU hk,rr,ro,st1',st2',Option.map_some])|(refine aR ?_ ?_<;>(intro hb hd;rw[hb];clear hb))|(with_reducible refine aj ?_))
  have a2:nS ((((Tr.set h3 n3 (.row 45 [.i .i64 0,.k 1,.k 1,.k 1,.b false])).set n3 (.row 45 (xC x))).set n1 (.row 3 ((r.set k (-1)).flatMap iN))).set (n1+1+1) (.row 3 ((op.set k (l.length:Int)).flatMap iN))) (n3+1) (qX n1) X _ (r.set k (-1)) (op.set k (l.length:Int)) qv _ 0 bs _:=
   ((a.up (show Up h3 n3 ((Tr.set h3 n3 (.row 45 [.i .i64 0,.k 1,.k 1,.k 1,.b false])).set n3 (.row 45 (xC x))) (n3+1) by exact aH)).Vq (r.set k (-1))).F9 (op.set k (l.length:Int))
  have u4:Up h n ((((Tr.set h3 n3 (.row 45 [.i .i64 0,.k 1,.k 1,.k 1,.b false])).set n3 (.row 45 (xC x))).set n1 (.row 3 ((r.set k (-1)).flatMap iN))).set (n1+1+1) (.row 3 ((op.set k (l.length:Int)).flatMap iN))) (n3+1):=by exact aH
  have g4:((((Tr.set h3 n3 (.row 45 [.i .i64 0,.k 1,.k 1,.k 1,.b false])).set n3 (.row 45 (xC x))).set n1 (.row 3 ((r.set k (-1)).flatMap iN))).set (n1+1+1) (.row 3 ((op.set k (l.length:Int)).flatMap iN))).get n3=some (.row 45 (xC x)):=by simp (disch:=omega) only[go_sem]
  generalize Tr.set (Tr.set (Tr.set (Tr.set h3 _ _) _ _) _ _) _ _=h4 at*;obtain⟨b2,o2,y',i2,hy',hb2,eY⟩:=a2.A.use.ar.row.fu (k:=(k:Nat)) (by omega) (by omega) (by omega);rw[show((k:Nat):Int).toNat=k by omega,hy]at hy';cases hy'
  repeat' (first|(simp (disch:=omega) only[go_sem,simprocAttr,ub.old,aJ i2,eY.el,eY.hd,sl.len])|(simp (disch:=omega) only[go_sem,simprocAttr,aJ i2,eY.el,eY.hd,sl.len])|(refine aR ?_ ?_<;>(intro hb hd;rw[hb];clear hb))|(with_reducible refine aj ?_))
  have hBI:(List.range ps.length).map (sU M k)=(List.range ps.length).map (mP M k l 0):=by
   congr 1;funext j;exact Vr.symm
  rw[hBI]at a2;refine bX l.length (PB2 h n n1 n3 v C party vv ww ps wv M k x y qv _ (r.set k (-1)) (op.set k (l.length:Int)) l) (by omega) (by omega) (by omega) (by omega) (λk h8 n8 G ⟨_,_,_,_,_,_,_,_,e⟩=>by subst e;exact⟨rfl,rfl⟩) ⟨rfl,rfl,_,⟨X,bs,a2,u4,hX,g4,λe=>by have:=a.lt _ e;omega,Nat.lt_succ_self _,rfl⟩,by(repeat' (first|exact aO|refine aN rfl ?_))⟩ ?_ ?_
  .rintro t h5 n5 G ht ⟨X5,Vs,a5,u5,Vt,g5,ZU,ln5,rfl⟩
   have WM:=a5.A.use;obtain⟨b3,o3,z,i3,hz,hb3,oF⟩:=(WM.ar.mv k y l hy hl).fu (k:=(t:Nat)) (by omega) (by omega) (by omega);rw[show((t:Nat):Int).toNat=t by omega]at hz;have hlt:=ia.tgt hl (List.mem_of_getElem? hz);rw[List.length_map]at hlt;have lb9:n1+1+1+1+1+1<n5:=a5.lt _ (a5.Xg _ (.inr (.inr (.inr rfl))));have rf:=a5.rf;simp only[qX]at rf;have hBz:((List.range ps.length).map (mP M k l t))[z.2]?=some (mP M k l t z.2):=by rw[List.getElem?_map,List.getElem?_range hlt];rfl
   have hlb:=a5.lb;rw[List.length_map,List.length_range]at hlb;obtain⟨yz,hyz⟩:∃yz,Vs[z.2]?=some yz:=⟨Vs[z.2]'(by omega),List.getElem?_eq_some_iff.2 ⟨by omega,rfl⟩⟩;have rdz:=nR (t:=22) (c:=one) (λ_=>rfl) hyz rfl;have gz:=a5.gb _ _ _ hyz hBz;repeat' (first|(simp (disch:=omega) only[go_sem,simprocAttr,ub.old,Gm,aJ i3,oF.all,bU hlt,rf,rdz])|(simp (disch:=omega) only[go_sem,simprocAttr,Gm,aJ i3,oF.all,bU hlt,rf,rdz])|(refine aR ?_ ?_<;>(intro hb hd;rw[hb];clear hb))|(with_reducible refine aj ?_))
   have hln:(mP M k l t z.2).length<=200000:=by
    have e1:=En SS k z.2;have e2:=List.length_filter_le (λx:Int×Nat=>x.2==z.2) (l.take t);have e3:=List.length_take_le t l;unfold mP;rw[List.length_append,List.length_map];omega
   refine CB (l2:=[k]) (gz.up aH) ⟨rfl,?_⟩ (by simp;omega) λv' h6 n6 g6 l6 s6 b6=>?_
   .show bnd (iA (Tr.get _ _) 0 _) (λr=>lQ (Nat.mul 1 1) r)=_
    rw[aG];rfl
   obtain⟨q1,q2⟩:=a5.oD hyz hBz (show Up h5 n5 _ (n5+1+2) by exact aH) g6 l6 s6 b6;have ltz:∀x,blk yz x->x<n5:=λx hx=>gz.fF hx;have q3:h6.get n5=some (.row 223 [.i .i64 z.1,.i .i64 (z.2:Nat)]):=by
    rw[s6 n5 (by omega) (λe=>by have:=ltz _ e;omega)];simp (disch:=omega) only[go_sem]
   have st3:=lM (c:=one) (λ_=>rfl) (l:=Vs) (i:=z.2) (a:=v') (show z.2<Vs.length by omega) rfl;simp only[qX]at q1;simp (disch:=omega) only[go_sem,simprocAttr,g6.cl,q1,q3,bU hlt,st3,Option.map_some];have hYX:∀x,blk yz x->X5 x:=λx hx=>a5.Xb _ _ hyz x hx;have afQ:n3<n6:=by omega
   have ub:=u5.le;refine⟨rfl,rfl,_,⟨_,_,by rw[J2 hz hlt];exact q2,⟨by omega,λx hx=>?_⟩,λx hx=>?_,?_,λe=>?_,afQ,rfl⟩,by(repeat' (first|exact aO|refine aN rfl ?_))⟩
   .rw[ay (by omega),s6 x (by omega) (λe=>by have:=Vt x (hYX x e);omega)]
    rw[ay (by omega),ay (by omega),ay (by omega),u5.old x hx]
   .rcases hx with hx|hx
    .exact Vt x hx
    .rcases b6 x hx with e|e
     .exact Vt x (hYX x e)
     .omega
   .rw[ay (λe=>ZU (by rw[e];exact a5.Xg _ (.inr (.inr (.inl rfl))))),s6 n3 (by omega) (λe=>ZU (hYX _ e)),ay (by omega),ay (by omega),ay (by omega)];exact g5
   .rcases e with e|e
    .exact ZU e
    .rcases b6 n3 e with e|e
     .exact ZU (hYX _ e)
     .omega
  .rintro h5 n5 G ⟨X5,Vs,a5,u5,Vt,g5,ZU,ln5,rfl⟩
   have WM:=a5.A.use;have r2:=WM.r2;have r3:=WM.r3;have hBe:(List.range ps.length).map (mP M k l l.length)=(List.range ps.length).map (sU M (k+1)):=by
    congr 1;funext j;exact NK hl
   rw[hBe]at a5;simp (disch:=omega) only[go_sem,simprocAttr,r2,r3,g5,CS.av,TS.pv];rw[aU];have WO:=SX x (List.mem_of_getElem? hx);refine QO _ WM.con (WM.ar.st x (List.mem_of_getElem? hx)) WO λh6 n6 u6=>?_;have a6:=a5.up u6;have e6:=u6.le;have ca6:=a6.A.use;have r6:=ca6.r6;have rr:=a6.rr;simp only[qX]at r6 rr;have u36:=u5.trans u6;have mk:mr M k=l:=by unfold mr;rw[List.getD_eq_getElem?_getD,hl];rfl
   have hlb:kZ C party (ps.map (·.2)) k=anyFailed C x.2.st party:=by unfold kZ;rw[hP]
   have hop':∀j,j<k+1->(op.set k (l.length:Int))[j]?=some ((mr M j).length:Int):=λj hj=>by
    rw[List.getElem?_set];by_cases e:k=j
    .subst e;rw[if_pos rfl,if_pos (by omega),mk]
    .rw[if_neg e];exact hop j (by omega)
   have lk':k<(r.set k (-1)).length:=by simp;omega
   have st4:=lM (c:=iN) (λ_=>rfl) (l:=r.set k (-1)) (i:=k) (a:=(0:Int)) lk' rfl;have hfil:(List.range (k+1)).filter (kZ C party (ps.map (·.2)))=(List.range k).filter (kZ C party (ps.map (·.2)))++if anyFailed C x.2.st party=true then[k]else[]:=by
    rw[List.range_succ,List.filter_append];congr 1;cases hf:anyFailed C x.2.st party with
    |true=>simp[hlb,hf]
    |false=>simp[hlb,hf]
   cases hf:anyFailed C x.2.st party with
   |false=>
    rw[hf]at hfil;simp only[Bool.false_eq_true,if_false,List.append_nil]at hfil;repeat' (first|(simp (disch:=omega) only[go_sem,simprocAttr,ub.old])|(simp (disch:=omega) only[go_sem,simprocAttr])|(refine aR ?_ ?_<;>(intro hb hd;rw[hb];clear hb))|(with_reducible refine aj ?_))
    refine⟨rfl,rfl,_,⟨X5,r.set k (-1),op.set k (l.length:Int),qv,Vs,by rw[hfil];exact a6,by simp[lr],by simp[lo],λj hj=>?_,hop',u36,Vt,rfl⟩,by(repeat' (first|exact aO|refine aN rfl ?_))⟩;rw[List.getElem?_set];by_cases e:k=j
    .subst e;rw[if_pos rfl,if_pos (by omega),oh,hlb,hf];rfl
    .rw[if_neg e];exact hr j (by omega)
   |true=>
    rw[hf]at hfil;simp only[if_true]at hfil;have hlen':(r.set k (-1)).length=ps.length:=by simp[lr]
    repeat' (first|(simp (disch:=omega) only[go_sem,simprocAttr,ub.old,r6,bT hk,rr,st4,Option.map_some])|(simp (disch:=omega) only[go_sem,simprocAttr,r6,bT hk,rr,st4,Option.map_some])|(refine aR ?_ ?_<;>(intro hb hd;rw[hb];clear hb))|(with_reducible refine aj ?_))
    rw[aU];have a7:=a6.Vq ((r.set k (-1)).set k 0);have ZV:((List.range k).filter (kZ C party (ps.map (·.2)))).length<=100000:=by
     have:=List.length_filter_le (kZ C party (ps.map (·.2))) (List.range k);simp at this;omega
    refine IL (K+7) (g:=qX n1) (i:=k) a7 ZV λv' X' h8 n8 a8 hn8 hs8 Vm hX8=>?_;simp (disch:=omega) only[go_sem,simprocAttr];have lt6:=a6.lt;refine⟨rfl,rfl,_,⟨X',(r.set k (-1)).set k 0,op.set k (l.length:Int),v',Vs,by rw[hfil];exact a8,by simp[lr],by simp[lo],λj hj=>?_,hop',⟨by have:=u36.le;omega,λx hx=>?_⟩,λx hx=>?_,rfl⟩,by(repeat' (first|exact aO|refine aN rfl ?_))⟩
    .rw[List.getElem?_set]
     by_cases e:k=j
     .subst e;rw[if_pos rfl,if_pos lk',oh,hlb,hf];rfl
     .rw[if_neg e,List.getElem?_set,if_neg e];exact hr j (by omega)
    .have:=u36.le
     rw[hs8 x (by omega) (λe=>by have:=Vt x e;omega),ay (by show x≠n1;omega),u36.old x hx]
    .rcases hX8 x hx with e|e
     .exact Vt x e
     .have:=u36.le;have:=lt6 n1 (a6.Xg _ (.inl rfl));omega
 .rintro h3 n3 G ⟨X,r,op,qv,bs,a,lr,lo,hr,hop,u3,hX,rfl⟩
  have hlr:r.length=(ps.map (·.2)).length:=by rw[List.length_map];exact lr
  have hlo:op.length=(ps.map (·.2)).length:=by rw[List.length_map];exact lo
  have hlm:M.length=(ps.map (·.2)).length:=by rw[List.length_map];exact hlen
  obtain⟨ri,rb⟩:=RI.start (C:=C) (party:=party) hlr hlo hlm (λj hj=>hr j (by simpa using hj)) (λj hj=>hop j (by simpa using hj));rw[List.length_map]at ri rb;have ca:=a.A.use;have r3:=ca.r3;have lb9:n1+1+1+1+1+1<n3:=a.lt _ (a.Xg _ (.inr (.inr (.inr rfl))));simp (disch:=omega) only[go_sem,simprocAttr,r3,ca.ar.pos.len];have a2:nS ((Tr.set h3 n3 (.row 303 [.k 3])).set n3 (.row 303 [.f 184 [.p (n1+1) 0,.p (n1+1+1+1+1+1) 0]])) (n3+1) (qX n1) X (J5 n (n1+1) (n1+1+1+1) n3 (qX n1) ps.length v C party vv ww ps wv M) r op qv ((List.range ps.length).filter (kZ C party (ps.map (·.2)))) 0 bs ((List.range ps.length).map (oD M)):=by
   have hb:(List.range ps.length).map (sU M ps.length)=(List.range ps.length).map (oD M):=by
    congr 1;funext j;rw[NJ,hlen]
   rw[<-hb];have u:Up h3 n3 ((Tr.set h3 n3 (.row 303 [.k 3])).set n3 (.row 303 [.f 184 [.p (n1+1) 0,.p (n1+1+1+1+1+1) 0]])) (n3+1):=by exact aH
   refine(a.up u).vC (((a.A.up u).and (B:=λh n=>h.get n3=some (.row 303 [.f 184 [.p (n1+1) 0,.p (n1+1+1+1+1+1) 0]])) λh' n' hn he=>?_).wk λh n e=>⟨e.1,e.2⟩);exact(he n3 (by omega) (λe=>by have:=a.lt _ e;omega)).trans aG
  have u4:Up h n ((Tr.set h3 n3 (.row 303 [.k 3])).set n3 (.row 303 [.f 184 [.p (n1+1) 0,.p (n1+1+1+1+1+1) 0]])) (n3+1):=by exact aH
  generalize(Tr.set h3 n3 (.row 303 [.k 3])).set n3 _=h4 at*;refine bX ps.length (PB3 h n n1 n3 v C party vv ww ps wv M) (by omega) (by omega) (by omega) (by omega) (λk h8 n8 G ⟨X,r,op,qv,Qs,bs,_,_,_,_,_,_,e⟩=>by subst e;exact⟨rfl,rfl⟩) ⟨rfl,rfl,_,⟨X,r,op,qv,_,bs,a2,ri,rb,u4,hX,Nat.lt_succ_self _,rfl⟩,by(repeat' (first|exact aO|refine aN rfl ?_))⟩ ?_ ?_
  .clear a2 ri rb u4 a ca hr hop lr lo hlr hlo
   rintro k h5 n5 G hk ⟨X,r,op,qv,Qs,bs,a,ri,rb,u5,hX,JQ,rfl⟩;have ca:=a.A.use;have r6:=ca.a.r6;have r7:=ca.a.r7;have pY:=ca.pY;have rr:=a.rr;have ro:=a.ro;simp only[qX]at r6 r7 pY rr ro;have lr:=ri.lr;have lo:=ri.lo;rw[List.length_map]at lr lo;obtain⟨b1,o1,x,i1,hx,hb1,rd⟩:=ca.a.ar.pos.fu (k:=(k:Nat)) (by omega) (by omega) (by omega);rw[show((k:Nat):Int).toNat=k by omega]at hx;have hP:(ps.map (·.2))[k]?=some x.2:=by rw[List.getElem?_map,hx];rfl
   have lb9:n1+1+1+1+1+1<n5:=a.lt _ (a.Xg _ (.inr (.inr (.inr rfl))));have afT:op[k]?=some (op.getD k 0):=by rw[List.getD_eq_getElem?_getD,List.getElem?_eq_getElem (show k<op.length by omega)];rfl
   have QT:=nR (t:=3) (c:=iN) (λ_=>rfl) afT rfl;have rdr:=nR (t:=3) (c:=iN) (λ_=>rfl) (uO (r:=r) (i:=k) (by omega)) rfl;repeat' (first|(simp (disch:=omega) only[go_sem,simprocAttr,ub.old,Gl,aJ i1,rd.all,r6,r7,pY,rr,ro,bT hk,QT,rdr])|(simp (disch:=omega) only[go_sem,simprocAttr,Gl,aJ i1,rd.all,r6,r7,pY,rr,ro,bT hk,QT,rdr])|(refine aR ?_ ?_<;>(intro hb hd;rw[hb];clear hb))|(with_reducible refine aj ?_))
   .rw[Ci]
    show CW _ 184 [.i .i64 (k:Nat),.i .i64 1,.p (n1+1) 0,.p (n1+1+1+1+1+1) 0] _ _ _;have ZV:Qs.length<=100000:=by
     have:=ri.NC;rw[List.length_map]at this;omega
    have a':=a.up (show Up h5 n5 ((Tr.set h5 n5 (.row 45 [.i .i64 0,.k 1,.k 1,.k 1,.b false])).set n5 (.row 45 [.i .i64 x.2.st.day,x.1.h,x.1.u,x.1.m,.b true])) (n5+1) by exact aH);have us:Up h n ((Tr.set h5 n5 (.row 45 [.i .i64 0,.k 1,.k 1,.k 1,.b false])).set n5 (.row 45 [.i .i64 x.2.st.day,x.1.h,x.1.u,x.1.m,.b true])) (n5+1):=by exact aH
    refine AJ (K+6) (g:=qX n1) (i:=k) a' ZV (λh n e=>by rw[lr];exact e.a.r6) (by omega) λv' X' h8 n8 a8 hn8 hs8 Vm hX8=>?_;simp (disch:=omega) only[go_sem,simprocAttr];have ZW:=ri.afG hP (by assumption) (by assumption) hd rb;have e5:=us.le;have lk5:k<r.length:=by omega
    refine⟨rfl,rfl,_,⟨X',r.set k 1,op,v',Qs++[k],bs,a8,ZW,λi hi=>?_,⟨by omega,λx hx=>?_⟩,λx hx=>?_,by omega,rfl⟩,by(repeat' (first|exact aO|refine aN rfl ?_))⟩
    .rw[sP lk5]
     split
     .omega
     .rcases List.mem_append.1 hi with hi|hi
      .exact rb i hi
      .simp at hi;omega
    .rw[hs8 x (by omega) (λe=>by have:=hX x e;omega),us.old x hx]
    .rcases hX8 x hx with e|e
     .exact hX x e
     .omega
   all_goals exact⟨rfl,rfl,_,⟨X,r,op,qv,Qs,bs,a.up aH,ri.skip hP (λe=>by simp_all),rb,by exact aH,hX,by omega,rfl⟩,by(repeat' (first|exact aO|refine aN rfl ?_))⟩
  .clear a2 ri rb u4 a ca hr hop lr lo hlr hlo
   rintro h5 n5 G ⟨X,r,op,qv,Qs,bs,a,ri,rb,u5,hX,JQ,rfl⟩;have ZV:Qs.length<=100000:=by
    have:=ri.NC;rw[List.length_map]at this;omega
   have ht:∀(i:Nat) l m j,M[i]?=some l->(m,j)∈l->j<(ps.map (·.2)).length:=λi l m j e1 e2=>ia.tgt e1 e2;have loop:∀m h8 n8 (F:Fm),PC h n n1 n3 v C party vv ww ps wv M m h8 n8 F->m<=ps.length->∀F',(∀k w,lk F k=some w->lk F' k=some w)->SM Tryz.prog Y0 105 [It.c (.loop Cz),It.b 6,It.c (((MC.reg [⟨none,.ld none (.s 6),.l⟩,⟨none,.mv (.v 0),.k 4⟩]).seq .ret))] .bW (EF (K+8)) h8 n8 F' (KR [MS.t 4] Q):=by
    intro m h8 n8 F pc hm F' hF';refine jy (PC h n n1 n3 v C party vv ww ps wv M) m (by omega) ⟨F,pc,hF'⟩ ?_;clear pc hF' F' F h8 n8 hm m;rintro m h8 n8 F ⟨X,r,op,qv,Qs,bs,nx,D,rest,to,ok,a,u8,hX,JQ,hok,rfl⟩;rcases hok with⟨rfl,zT,hnx,ri,hbd,hto,hm⟩|⟨rfl,ri,rfl⟩
    .have Vu:=ri.NC
     rw[List.length_map]at Vu;subst hnx;have QU:to<ps.length:=by
      have:=((ri.qr to).1 (by rw[zT];simp)).1;rw[List.length_map]at this;exact this
     have QV:0<=rk r to:=((ri.qr to).1 (by rw[zT];simp)).2;have lb9:n1+1+1+1+1+1<n8:=a.lt _ (a.Xg _ (.inr (.inr (.inr rfl))));have rf:=a.rf;simp only[qX]at rf;have hlb:=a.lb;rw[List.length_map,List.length_range]at hlb;obtain⟨y,hy⟩:∃y,bs[to]?=some y:=⟨bs[to]'(by omega),List.getElem?_eq_some_iff.2 ⟨by omega,rfl⟩⟩;have hBy:((List.range ps.length).map (oD M))[to]?=some (oD M to):=by rw[List.getElem?_map,List.getElem?_range QU];rfl
     have WK:=nR (t:=22) (c:=one) (λ_=>rfl) hy rfl;have gy:=a.gb _ _ _ hy hBy;have hbl:(oD M to).length<=200000:=by
      have:=En SS M.length to;rw[NJ];omega
     simp (disch:=omega) only[go_sem,simprocAttr,Cz,bU QU,bT QU,rf,WK,gy.len];refine bX (oD M to).length (PD h n n1 n3 v C party vv ww ps wv M D to y bs) (by omega) (by omega) (by omega) (by omega) (λk h8 n8 G ⟨X,r,op,qv,Qs,rest,_,_,_,_,_,_,_,_,e⟩=>by subst e;exact⟨rfl,rfl⟩) ⟨rfl,rfl,_,⟨X,r,op,qv,Qs,rest,a,u8,hX,JQ,zT,by simpa using ri,hbd,by omega,rfl⟩,by(repeat' (first|exact aO|refine aN rfl ?_))⟩ ?_ ?_
     .clear ri hbd hto zT a u8 hX JQ Vu rf gy QV
      rintro t h9 n9 G ht' ⟨X,r,op,qv,Qs,rest,a,u9,hX,JQ,zT,ri,hbd,hto,rfl⟩;have gy:=a.gb _ _ _ hy hBy;obtain⟨b3,o3,f,i3,hf,hb3,oF⟩:=gy.sl.fu (k:=(t:Nat)) (by omega) (by omega) (by omega);rw[show((t:Nat):Int).toNat=t by omega]at hf;have hfN:f<ps.length:=by
       have:=(IJ.1 (List.mem_of_getElem? hf)).1;omega
      have hx:ps[f]?=some ps[f]:=List.getElem?_eq_some_iff.2 ⟨hfN,rfl⟩;have hP:(ps.map (·.2))[f]?=some ps[f].2:=by rw[List.getElem?_map,hx];rfl
      have QV:0<=rk r to:=((ri.qr to).1 (by rw[zT];simp)).2;have Vu:=ri.NC;rw[List.length_map]at Vu;have hc:=ri.Vn zT rfl (f:=f) (by rw[List.length_map];exact hfN);have hof:=ri.op f (by rw[List.length_map];exact hfN);have ai2:=SS f;have lr:=ri.lr;have lo:=ri.lo;rw[List.length_map]at lr lo;have htk:(oD M to).take (t+1)=(oD M to).take t++[f]:=by rw[List.take_add_one,hf];rfl
      have hDl:D.length<=1500:=by
       have:=congrArg List.length zT;simp at this;omega
      simp (disch:=omega) only[go_sem,simprocAttr,ND,aJ i3,oF.el,oF.hd];rw[Ci];show CW _ 185 [.i .i64 (f:Nat),.i .i64 (to:Nat),.p (n1+1+1+1) 0,.p (n1+1) 0,.p (n+1) 0,.p n3 0] _ _ _;refine QS (K+5) (g:=qX n1) (f:=f) (to:=to) a (by omega) (λh n e=>e.bk) lr lo rfl hx QU (by omega) (by omega) (by by_cases e:f=to;exact .inr (by rw[e];omega);exact .inl e) (λhc' h' n' a' hn' hs'=>?_) (λhr hc' v' X' h' n' a' hn' hs' Vm QW=>?_)
      .simp (disch:=omega) only[go_sem,simprocAttr]
       have ZW:=ri.edge hP hc';refine⟨rfl,rfl,_,⟨X,r,_,qv,Qs,rest,a',⟨by have:=u9.le;omega,λx hx=>?_⟩,hX,by omega,zT,by rw[htk,<-List.append_assoc];exact ZW,hbd,hto,rfl⟩,by(repeat' (first|exact aO|refine aN rfl ?_))⟩;have:=u9.le;rw[hs' x (by omega) (λe=>by have:=hX x e;omega),u9.old x hx]
      .simp (disch:=omega) only[go_sem,simprocAttr]
       have ZW:=ri.ZL ht zT rfl hbd hP hf hr hc';have hne:to≠f:=λe=>by rw[<-e]at hr;omega
       have lkf:f<r.length:=by omega
       have ZX:rk (r.set f (rk r to+1)) to=rk r to:=by rw[sP lkf,if_neg (Ne.symm hne)]
       refine⟨rfl,rfl,_,⟨X',_,_,v',Qs++[f],rest++[f],a',⟨by have:=u9.le;omega,λx hx=>?_⟩,λx hx=>?_,by omega,by rw[zT];simp,by rw[htk,<-List.append_assoc];exact ZW,λi hi=>?_,by rw[ZX];exact hto,rfl⟩,by(repeat' (first|exact aO|refine aN rfl ?_))⟩
       .have:=u9.le
        rw[hs' x (by omega) (λe=>by have:=hX x e;omega),u9.old x hx]
       .rcases QW x hx with e|e
        .exact hX x e
        .have:=a.lt _ (a.Xg n1 (.inl rfl));omega
       .rw[ZX,sP lkf]
        split
        .omega
        .rcases List.mem_append.1 hi with hi|hi
         .exact hbd i hi
         .simp at hi;omega
     .clear ri hbd hto zT a u8 hX JQ Vu rf gy QV
      rintro h9 n9 G ⟨X,r,op,qv,Qs,rest,a,u9,hX,JQ,zT,ri,hbd,hto,rfl⟩;have Vu:=ri.NC;rw[List.length_map]at Vu;have hlen':=congrArg List.length zT;simp only[List.length_append,List.length_cons]at hlen';rw[List.take_length]at ri;have hE:D.flatMap (oD M)++oD M to=(D++[to]).flatMap (oD M):=by simp
      rw[hE]at ri;simp (disch:=omega) only[go_sem,simprocAttr];rw[aU];refine NI (K+7) (g:=qX n1) a (by omega) (by omega) (λe=>?_) (λVv NP a2=>?_)
      .have hr0:rest=[]:=List.length_eq_zero_iff.1 (by omega)
       simp (disch:=omega) only[go_sem,simprocAttr];refine⟨0,_,by omega,⟨X,r,op,qv,Qs,bs,D.length+1,[],[],0,false,a,u9,hX,JQ,.inr ⟨rfl,by rw[zT,hr0];rw[zT,hr0]at ri;exact ri,rfl⟩,rfl⟩,by(repeat' (first|exact aO|refine aN rfl ?_))⟩
      .have hr1:∃rest',rest=Vv::rest':=by
        rw[zT,List.getElem?_append_right (by omega)]at NP;rw[show D.length+1 - D.length=1 by omega,List.getElem?_cons_succ]at NP;cases rest with
        |nil=>cases NP
        |cons a b=>simp at NP;subst NP;exact⟨b,rfl⟩
       obtain⟨rest',hr1⟩:=hr1;have Vw:Qs=(D++[to])++Vv::rest':=by rw[zT,hr1];simp
       have hle:rk r to<=rk r Vv:=by
        have hm:=ri.mono;rw[Vw,List.pairwise_append]at hm;exact hm.2.2 to (by simp) Vv (by simp)
       have amw:rk r Vv<=rk r to+1:=hbd Vv (by rw[Vw];simp);simp (disch:=omega) only[go_sem,simprocAttr];refine⟨m - 1,_,by omega,⟨X,r,op,qv,Qs,bs,D.length+1+1,D++[to],rest',Vv,true,a2,Up.st u9 _ _ (by have:=hX _ (a.Xg (qX n1).b9 (.inr (.inr (.inr rfl))));omega),hX,JQ,.inl ⟨rfl,Vw,by simp,ri,λi hi=>by have:=hbd i hi;omega,by omega,by omega⟩,rfl⟩,by(repeat' (first|exact aO|refine aN rfl ?_))⟩
    .have r6:=a.A.use.a.r6
     have rr:=a.rr;simp only[qX]at r6 rr;have lr:=ri.lr;rw[List.length_map]at lr;simp (disch:=omega) only[go_sem,simprocAttr,Cz,r6];have hN:ps.length=(ps.map (·.2)).length:=by rw[List.length_map]
     rw[hN]at ri;refine hQ _ r _ _ (ri.done rfl ht) u8 ?_;have sl:SL h8 n8 1 (.sl n1 0 0 ps.length (some ps.length)) iN r:=SL.of (λ_=>rfl) (a.lt _ (a.Xg n1 (.inl rfl))) rr rfl lr.symm (λk hk=>by cases hk;exact Nat.le_refl _);exact sl.kp λx hx=>by rw[dO]at hx;omega
   simp (disch:=omega) only[go_sem,simprocAttr];rw[aU];refine NI (K+7) (g:=qX n1) a ZV (Nat.zero_le _) (λe=>?_) (λto hto a2=>?_)
   .simp (disch:=omega) only[go_sem,simprocAttr]
    have WQ:Qs=[]:=List.length_eq_zero_iff.1 e.symm;exact loop 0 _ _ _ ⟨X,r,op,qv,Qs,bs,0,[],[],0,false,a,u5,hX,JQ,.inr ⟨rfl,by rw[WQ];rw[WQ]at ri;exact ri,rfl⟩,rfl⟩ (by omega) _ (by(repeat' (first|exact aO|refine aN rfl ?_)))
   .simp (disch:=omega) only[go_sem,simprocAttr]
    obtain⟨rest,zT⟩:∃rest,Qs=to::rest:=by
     cases Qs with
     |nil=>cases hto
     |cons a b=>simp at hto;subst hto;exact⟨b,rfl⟩
    have QV:0<=rk r to:=((ri.qr to).1 (by rw[zT];simp)).2;have amx:=rb to (by rw[zT];simp);exact loop ps.length _ _ _ ⟨X,r,op,qv,Qs,bs,0+1,[],rest,to,true,a2,Up.st u5 _ _ (by have:=hX _ (a.Xg (qX n1).b9 (.inr (.inr (.inr rfl))));omega),hX,JQ,.inl ⟨rfl,zT,rfl,ri,λi hi=>by have:=rb i hi;omega,by omega,by omega⟩,rfl⟩ (by omega) _ (by(repeat' (first|exact aO|refine aN rfl ?_)))
end
end
end
section
noncomputable section
abbrev SY(x:Bool):List AV:=[.b x]
def NQ(C:aA)(party:Int)(P:List aP)(sf:List Bool):Prop:=sf.length=P.length/\∀(j:Nat)(q:aP),P[j]?=some q->∃b,sf[j]?=some b/\(b=true↔¬bS C party q)
section
variable {h h':AH} {n n':Nat} {v:CS} {C:aA} {p:aP} {party:Int} {ps:List (TS×aP)} {wv:List AV} {M:List (List (Int×Nat))} {Q:AV->AH->Nat->Prop} {vv ww:AV}
theorem CF(K:Nat)(hC:aZ h n v C)(ho:C.off.length<=1000000)(ai:qW h n vv ww ps wv M)(ia:bV C party p (ps.map (·.2)) M)(h0:0<=party)(h1:party<C.aC)(so:aK C p.st)
 (hQ:∀v' sf h' n',NQ C party (ps.map (·.2)) sf->Up h n h' n'->Kp (λx=>x<n) h' n' (λh n=>SL h n 1 v' SY sf)->Q v' h' n'):CW (EF (K+10)) 52 [.agg (v.av C),.agg (oH party vv ww)] h n Q:=by
 have hsm:=ia.small;rw[List.length_map]at hsm;refine aD c52 rfl ?_;simp (disch:=omega) only[go_sem,simprocAttr,m52,CS.av];rw[aU];refine NM K (hC.up aH) ho (ai.up aH) ia h0 h1 so λv1 r h2 n2 ir u2 k2=>?_;have e2:=u2.le;have sl:=k2.use;have lr:=ir.len;rw[List.length_map]at lr;have ux:Up h n h2 n2:=by exact aH
 simp (disch:=omega) only[go_sem,simprocAttr,sl.len,Aw];have g3:(Tr.set h2 n2 (.row 4 (rep r.length [.b false]))).get n2=some (.row 4 ((List.replicate r.length false).flatMap SY)):=by rw[aG,<-iV SY]
 have u3:Up h2 n2 (Tr.set h2 n2 (.row 4 (rep r.length [.b false]))) (n2+1):=by exact aH
 generalize Tr.set h2 n2 _=h3 at*;refine bX r.length (λk h5 n5 G=>∃bl:List Bool,bl.length=r.length/\(∀j,j<k->bl[j]?=some (decide (rk r j= -1)))/\h5.get n2=some (.row 4 (bl.flatMap SY))/\Up h2 n2 h5 n5/\n2<n5/\G=[(6,.sl n2 0 0 r.length (some r.length)),(15,v1)]) (by omega) (by omega) (by omega) (by omega) (λk h8 n8 G ⟨_,_,_,_,_,_,e⟩=>by subst e;exact⟨rfl,rfl⟩) ⟨rfl,rfl,_,⟨_,by simp,(λj hj=>absurd hj (by omega)),g3,u3,Nat.lt_succ_self _,rfl⟩,by(repeat' (first|exact aO|refine aN rfl ?_))⟩ ?_ ?_
 .rintro k h5 n5 G hk ⟨bl,hbl,hb,g5,u5,l5,rfl⟩
  obtain⟨b1,o1,x,i1,hx,hb1,rd⟩:=(sl.up u5).fu (k:=(k:Nat)) (by omega) (by omega) (by omega);rw[show((k:Nat):Int).toNat=k by omega]at hx;have hrk:=pX hx;have st:=lM (c:=SY) (λ_=>rfl) (l:=bl) (i:=k) (a:=decide (x= -1)) (by omega) rfl;simp (disch:=omega) only[go_sem,simprocAttr,aJ i1,rd.el,rd.hd,bT hk,g5,st,Option.map_some];refine⟨rfl,rfl,_,⟨bl.set k (decide (x= -1)),by simp[hbl],λj hj=>?_,aG,⟨u5.le,λy hy=>?_⟩,l5,rfl⟩,by(repeat' (first|exact aO|refine aN rfl ?_))⟩
  .rw[List.getElem?_set]
   by_cases e:k=j
   .subst e;rw[if_pos rfl,if_pos (by omega),hrk]
   .rw[if_neg e];exact hb j (by omega)
  .rw[ay (by omega),u5.old y hy]
 .rintro h5 n5 G ⟨bl,hbl,hb,g5,u5,l5,rfl⟩
  simp (disch:=omega) only[go_sem,simprocAttr];refine hQ _ bl _ _ ⟨by rw[hbl,ir.len],λj q hq=>?_⟩ (ux.trans u5) ?_
  .have hj:=(List.getElem?_eq_some_iff.1 hq).1
   rw[List.length_map]at hj;refine⟨_,hb j (by omega),?_⟩;rw[decide_eq_true_iff];exact ir.safe ia hq (uO (by omega))
  .have sl5:SL h5 n5 1 (.sl n2 0 0 r.length (some r.length)) SY bl:=SL.of (λ_=>rfl) l5 g5 rfl hbl.symm (λk hk=>by cases hk;exact Nat.le_refl _)
   exact sl5.kp λx hx=>by rw[dO]at hx;have:=ux.le;omega
theorem CG{q r:aP}{m:Int}(hm:(m,r)∈C.kJ party q):r=if m= -2 then⟨q.st,false⟩else⟨C.aW q.st m,true⟩:=by
 unfold aA.kJ aA.mI at hm;rcases List.mem_append.1 hm with hm|hm
 .rcases List.mem_append.1 hm with hm|hm
  .split at hm
   .simp at hm;rw[hm.1,if_pos rfl];exact hm.2
   .cases hm
  .split at hm
   .simp at hm;rw[hm.1,if_neg (by omega)];exact hm.2
   .cases hm
 .split at hm
  .unfold aA.mJ at hm
   obtain⟨i,hi,e⟩:=List.mem_map.1 hm;cases e
   rw[if_neg (by omega)]
  .cases hm
theorem sV(so:aK C p.st)(ia:bV C party p (ps.map (·.2)) M){i:Nat}{l:List (Int×Nat)}(hl:M[i]?=some l):l.length<=100:=by
 have hlen:=ia.len;rw[List.length_map]at hlen;have hi:i<ps.length:=by rw[<-hlen];exact(List.getElem?_eq_some_iff.1 hl).1
 have hx:ps[i]?=some ps[i]:=List.getElem?_eq_some_iff.2 ⟨hi,rfl⟩;have hP:(ps.map (·.2))[i]?=some ps[i].2:=by rw[List.getElem?_map,hx];rfl
 have e1:=(ia.mv i _ l hP hl).1;have e3:=uN C party ps[i].2;have:=(aA.ok (wm.ok so (ia.rch _ (List.mem_of_getElem? hP))).con).kg;omega
theorem AL(K:Nat)(ai:qW h n vv ww ps wv M)(ia:bV C party p (ps.map (·.2)) M)(so:aK C p.st){i:Nat}{q:aP}{m:Int}(hi:(ps.map (·.2))[i]?=some q)
 (kD:∀j r,(ps.map (·.2))[j]?=some r->(m,r)∈C.kJ party q->∀h' n',Up h n h' n'->Q (.bN [.i .i64 (j:Nat),.b true]) h' n')(rQ:(∀r,(m,r)∉C.kJ party q)->∀h' n',Up h n h' n'->Q (.bN [.i .i64 0,.b false]) h' n'):CW (EF (K+1)) 55 [.agg (oH party vv ww),.i .i64 (i:Nat),.i .i64 m] h n Q:=by
 have hsm:=ia.small;have hlen:=ia.len;have hl2:=ai.len;have hin:=(List.getElem?_eq_some_iff.1 hi).1;rw[List.length_map]at hsm hlen hin;obtain⟨l,hl⟩:=ia.row hi;have hll:=sV so ia hl;obtain⟨b2,o2,y,i2,hy,hb2,eY⟩:=ai.row.fu (k:=(i:Nat)) (by omega) (by omega) (by omega);rw[show((i:Nat):Int).toNat=i by omega]at hy;have sl:=ai.mv i y l hy hl;refine aD c55 rfl ?_;repeat' (first|(simp (disch:=omega) only[go_sem,simprocAttr,m55,aJ i2,eY.el,eY.hd,sl.len])|(refine aR ?_ ?_<;>(intro hb hd;rw[hb];clear hb))|(with_reducible refine aj ?_))
 have u0:Up h n (Tr.set h n (.row 150 (oH party vv ww))) (n+1):=by exact aH
 generalize Tr.set h n (.row 150 (oH party vv ww))=h1 at*;refine bX l.length (λk h5 n5 G=>(∀j,j<k->∀x,l[j]?=some x->x.1≠m)/\Up h1 (n+1) h5 n5/\G=[(2,.i .i64 m),(14,y)]) (by omega) (by omega) (by omega) (by omega) (λk h8 n8 G ⟨_,_,e⟩=>by subst e;exact⟨rfl,rfl⟩) ⟨rfl,rfl,_,⟨(λj hj=>absurd hj (by omega)),Up.refl _ _,rfl⟩,by(repeat' (first|exact aO|refine aN rfl ?_))⟩ ?_ ?_
 .rintro k h5 n5 G hk ⟨hno,u5,rfl⟩
  have e5:=u5.le;obtain⟨b3,o3,z,i3,hz,hb3,oF⟩:=(sl.up (u0.trans u5)).fu (k:=(k:Nat)) (by omega) (by omega) (by omega);rw[show((k:Nat):Int).toNat=k by omega]at hz;repeat' (first|(simp (disch:=omega) only[go_sem,simprocAttr,aJ i3,oF.all])|(refine aR ?_ ?_<;>(intro hb hd;rw[hb];clear hb))|(with_reducible refine aj ?_))
  .obtain⟨r,h1r,h2r⟩:=ia.back hi hl (show(m,z.2)∈l by rw[<-hd];exact List.mem_of_getElem? hz)
   exact kD z.2 r h1r h2r _ _ aH
  .refine⟨rfl,rfl,_,⟨λj hj x hx=>?_,by exact aH,rfl⟩,by(repeat' (first|exact aO|refine aN rfl ?_))⟩
   by_cases e:j=k
   .subst e;rw[hz]at hx;cases hx;exact hd
   .exact hno j (by omega) x hx
 .rintro h5 n5 G ⟨hno,u5,rfl⟩
  simp (disch:=omega) only[go_sem,simprocAttr];refine rQ (λr hr=>?_) _ _ (u0.trans u5);obtain⟨j,hj,_⟩:=ia.move hi hl hr;obtain⟨k,hk⟩:=List.getElem?_of_mem hj;exact hno k (List.getElem?_eq_some_iff.1 hk).1 _ hk rfl
theorem AQ(K:Nat){s:aI}{tv:TS}(hC:aZ h n v C)(hS:cZ h n tv s)(so:aK C s){t:Int}(h1: -1<=t)(h2:t<C.acts.length)(hQ:∀h' n',Up h n h' n'->Q (.i .i64 (if t= -1 then -1 else C.doer s t)) h' n'):CW (EF (K+1)) 54 [.agg (v.av C),.agg (tv.av s),.i .i64 t] h n Q:=by
 refine aD c54 rfl ?_;have ok:=aA.ok so.con;have:=so.lh;have:=ok.j_;by_cases ht:t= -1
 .have hd:decide (t= -1)=true:=decide_eq_true ht
  rw[if_pos ht]at hQ;repeat' (first|(simp (disch:=omega) only[go_sem,simprocAttr,m54,CS.av,TS.av,hd])|(refine aR ?_ ?_<;>(intro hb hd;rw[hb];clear hb))|(with_reducible refine aj ?_))
  exact hQ _ _ aH
 .have hd:decide (t= -1)=false:=decide_eq_false ht
  rw[if_neg ht]at hQ;obtain⟨i,rfl⟩:=Int.eq_ofNat_of_zero_le (show 0<=t by omega);obtain⟨b1,o1,a,i1,ha,hb1,rd⟩:=hC.acts.fu (k:=(i:Nat)) (by omega) (by omega) (by omega);rw[show((i:Nat):Int).toNat=i by omega]at ha;have hdo:C.doer s (i:Nat)=bC s.ah a:=by unfold aA.doer;rw[show((i:Nat):Int).toNat=i by omega,ha]
  rw[hdo]at hQ;have act:=ok.act (List.mem_of_getElem? ha);repeat' (first|(simp (disch:=omega) only[go_sem,simprocAttr,m54,CS.av,TS.av,hd,aJ i1,i1,rd.el,rd.hd])|(refine aR ?_ ?_<;>(intro hb hd;rw[hb];clear hb))|(with_reducible refine aj ?_))
  .have e:bC s.ah a= -1:=by unfold bC;rw[‹a.role= -1›];rfl
   rw[e]at hQ;exact hQ _ _ aH
  .have hr:¬a.role= -1:=by assumption
   have hr2:=act.role hr;obtain⟨b2,o2,x,i2,hx,hb2,eY⟩:=hS.ah.fu (k:=a.role) (by omega) (by omega) (by omega);have Zz:bC s.ah a=x:=by unfold bC gQ;rw[hx,show(a.role== -1)=false by simpa using hr];rfl
   rw[Zz]at hQ;repeat' (first|(simp (disch:=omega) only[go_sem,simprocAttr,i2,eY.el,eY.hd])|(refine aR ?_ ?_<;>(intro hb hd;rw[hb];clear hb))|(with_reducible refine aj ?_))
   exact hQ _ _ aH
def afW(C:aA)(party:Int)(P:List aP)(wT:List Int):Prop:=wT.length=P.length/\∀(j:Nat)(q:aP),P[j]?=some q->∃x,wT[j]?=some x/\(q.own=true->¬bS C party q->∃r,(x,r)∈C.kJ party q/\¬bS C party r)/\(q.own=false\/bS C party q->x= -2)
theorem Gp(K:Nat){sv:AV}{sf:List Bool}(ai:qW h n vv ww ps wv M)(ia:bV C party p (ps.map (·.2)) M)(so:aK C p.st)(hs:SL h n 1 sv SY sf)(sl:NQ C party (ps.map (·.2)) sf)
 (hQ:∀v' wT h' n',afW C party (ps.map (·.2)) wT->Up h n h' n'->Kp (λx=>x<n) h' n' (λh n=>SL h n 1 v' iN wT)->Q v' h' n'):CW (EF (K+1)) 51 [.agg (oH party vv ww),sv] h n Q:=by
 have hsm:=ia.small;have hlen:=ia.len;have hl2:=ai.len;rw[List.length_map]at hsm hlen;refine aD c51 rfl ?_;repeat' (first|(simp (disch:=omega) only[go_sem,simprocAttr,m51,ai.pos.len,Aw])|(refine aR ?_ ?_<;>(intro hb hd;rw[hb];clear hb))|(with_reducible refine aj ?_))
 have g3:((Tr.set h n (.row 150 (oH party vv ww))).set (n+1) (.row 3 (rep ps.length [.i .i64 0]))).get (n+1)=some (.row 3 ((List.replicate ps.length (0:Int)).flatMap iN)):=by rw[aG,<-iV iN]
 have g4:((Tr.set h n (.row 150 (oH party vv ww))).set (n+1) (.row 3 (rep ps.length [.i .i64 0]))).get n=some (.row 150 (oH party vv ww)):=by simp (disch:=omega) only[go_sem]
 have u3:Up h n ((Tr.set h n (.row 150 (oH party vv ww))).set (n+1) (.row 3 (rep ps.length [.i .i64 0]))) (n+1+1):=by exact aH
 generalize(Tr.set h n (.row 150 (oH party vv ww))).set (n+1) _=h3 at*;have hsl:sf.length=ps.length:=by rw[sl.1,List.length_map]
 refine bX ps.length (λk h5 n5 G=>∃al:List Int,al.length=ps.length/\(∀(j:Nat)(q:aP),j<k->(ps.map (·.2))[j]?=some q->∃x,al[j]?=some x/\(q.own=true->¬bS C party q->∃r,(x,r)∈C.kJ party q/\¬bS C party r)/\(q.own=false\/bS C party q->x= -2))/\h5.get (n+1)=some (.row 3 (al.flatMap iN))/\h5.get n=some (.row 150 (oH party vv ww))/\Up h n h5 n5/\n+1<n5/\G=[(1,sv),(2,.p n 0),(5,.sl (n+1) 0 0 ps.length (some ps.length)),(15,vv)]) (by omega) (by omega) (by omega) (by omega) (λk h8 n8 G ⟨_,_,_,_,_,_,_,e⟩=>by subst e;exact⟨rfl,rfl⟩) ⟨rfl,rfl,_,⟨_,by simp,(λj q hj=>absurd hj (by omega)),g3,g4,u3,by omega,rfl⟩,by(repeat' (first|exact aO|refine aN rfl ?_))⟩ ?_ ?_
 .rintro k h5 n5 G hk ⟨al,hal,hb,g5,g6,u5,l5,rfl⟩
  obtain⟨b1,o1,x,i1,hx,hb1,rd⟩:=(ai.pos.up u5).fu (k:=(k:Nat)) (by omega) (by omega) (by omega);rw[show((k:Nat):Int).toNat=k by omega]at hx;have hP:(ps.map (·.2))[k]?=some x.2:=by rw[List.getElem?_map,hx];rfl
  obtain⟨l,hl⟩:=ia.row hP;have hll:=sV so ia hl;obtain⟨sb,hsb,p8⟩:=sl.2 k x.2 hP;have st1':=lM (c:=iN) (λ_=>rfl) (l:=al) (i:=k) (a:=(-2:Int)) (by omega) rfl;have lal:k<al.length:=by omega
  have old:∀z:Int,((x.2.own=true->¬bS C party x.2->∃r,(z,r)∈C.kJ party x.2/\¬bS C party r)/\(x.2.own=false\/bS C party x.2->z= -2))->∀(j:Nat)(q:aP),j<k+1->(ps.map (·.2))[j]?=some q->∃x,(al.set k z)[j]?=some x/\(q.own=true->¬bS C party q->∃r,(x,r)∈C.kJ party q/\¬bS C party r)/\(q.own=false\/bS C party q->x= -2):=λz hz j q hj hq=>by
   rw[List.getElem?_set];by_cases e:k=j
   .subst e
    rw[hP]at hq;cases hq;rw[if_pos rfl,if_pos lal];exact⟨z,rfl,hz⟩
   .rw[if_neg e];exact hb j q (by omega) hq
  repeat' (first|(simp (disch:=omega) only[go_sem,simprocAttr,aJ i1,rd.all,bT hk,g5,st1',Option.map_some])|(refine aR ?_ ?_<;>(intro hb hd;rw[hb];clear hb))|(with_reducible refine aj ?_))
  .refine⟨rfl,rfl,_,⟨al.set k (-2),by simp[hal],old (-2) ⟨(λe=>by rw[hd]at e;cases e),λ_=>rfl⟩,?_,?_,by exact aH,by omega,rfl⟩,by(repeat' (first|exact aO|refine aN rfl ?_))⟩
   .simp (disch:=omega) only[go_sem]
   .simp (disch:=omega) only[go_sem,g6]
  .have u7:Up h n (((Tr.set h5 n5 (.row 45 [.i .i64 0,.k 1,.k 1,.k 1,.b false])).set n5 (.row 45 (xC x))).set (n+1) (.row 3 ((al.set k (-2)).flatMap iN))) (n5+1):=by exact aH
   have g7:(((Tr.set h5 n5 (.row 45 [.i .i64 0,.k 1,.k 1,.k 1,.b false])).set n5 (.row 45 (xC x))).set (n+1) (.row 3 ((al.set k (-2)).flatMap iN))).get (n+1)=some (.row 3 ((al.set k (-2)).flatMap iN)):=aG;have g8:(((Tr.set h5 n5 (.row 45 [.i .i64 0,.k 1,.k 1,.k 1,.b false])).set n5 (.row 45 (xC x))).set (n+1) (.row 3 ((al.set k (-2)).flatMap iN))).get n=some (.row 150 (oH party vv ww)):=by simp (disch:=omega) only[go_sem,g6]
   generalize((Tr.set h5 n5 _).set n5 _).set (n+1) _=h7 at*;obtain⟨b3,o3,sb',i3,J8,hb3,oF⟩:=(hs.up u7).fu (k:=(k:Nat)) (by omega) (by omega) (by omega);obtain⟨b2,o2,y,i2,hy,hb2,eY⟩:=(ai.row.up u7).fu (k:=(k:Nat)) (by omega) (by omega) (by omega);rw[show((k:Nat):Int).toNat=k by omega]at J8 hy;rw[hsb]at J8;cases J8
   have sy:=ai.mv k y l hy hl;repeat' (first|(simp (disch:=omega) only[go_sem,simprocAttr,aJ i3,oF.el,oF.hd,g8,aJ i2,eY.el,eY.hd,sy.len])|(refine aR ?_ ?_<;>(intro hb hd;rw[hb];clear hb))|(with_reducible refine aj ?_))
   .refine⟨rfl,rfl,_,⟨al.set k (-2),by simp[hal],old (-2) ⟨λ_ hn=>?_,λ_=>rfl⟩,g7,g8,u7,by omega,rfl⟩,by(repeat' (first|exact aO|refine aN rfl ?_))⟩
    have:=p8.2 hn;rw[hd]at this;cases this
   have hown:x.2.own=true:=by assumption
   have hsf:=p8.1 hd;have afX:k<(al.set k (-2)).length:=by simp;omega
   refine bX l.length (λt h9 n9 G=>(∀j,j<t->∀z,l[j]?=some z->sf[z.2]?=some false)/\h9.get (n+1)=some (.row 3 ((al.set k (-2)).flatMap iN))/\h9.get n=some (.row 150 (oH party vv ww))/\Up h n h9 n9/\n+1<n9/\G=[(1,sv),(2,.p n 0),(5,.sl (n+1) 0 0 ps.length (some ps.length)),(15,vv),(16,.i .i64 (ps.length:Nat)),(17,.i .i64 (k:Nat)),(6,.i .i64 (k:Nat)),(39,y)]) (by omega) (by omega) (by omega) (by omega) (λk h8 n8 G ⟨_,_,_,_,_,e⟩=>by subst e;exact⟨rfl,rfl⟩) ⟨rfl,rfl,_,⟨(λj hj=>absurd hj (by omega)),g7,g8,u7,by omega,rfl⟩,by(repeat' (first|exact aO|refine aN rfl ?_))⟩ ?_ ?_
   .rintro t h9 n9 G ht ⟨hno,q7,q8,u9,l9,rfl⟩
    obtain⟨b4,o4,z,i4,hz,hb4,rd4⟩:=(sy.up u9).fu (k:=(t:Nat)) (by omega) (by omega) (by omega);rw[show((t:Nat):Int).toNat=t by omega]at hz;have TG:=List.mem_of_getElem? hz;have hlt:=ia.tgt hl TG;rw[List.length_map]at hlt;obtain⟨b5,o5,sz,i5,hsz,hb5,qU⟩:=(hs.up u9).fu (k:=(z.2:Nat)) (by omega) (by omega) (by omega);rw[show((z.2:Nat):Int).toNat=z.2 by omega]at hsz;have st2':=lM (c:=iN) (λ_=>rfl) (l:=al.set k (-2)) (i:=k) (a:=z.1) afX rfl;rw[List.set_set]at st2';obtain⟨r,hr1,hr2⟩:=ia.back hP hl (show(z.1,z.2)∈l from TG);obtain⟨sz',hsz',hsr⟩:=sl.2 z.2 r hr1;rw[hsz]at hsz';cases hsz'
    repeat' (first|(simp (disch:=omega) only[go_sem,simprocAttr,aJ i4,rd4.all,aJ i5,qU.el,qU.hd,bT hk,q7,st2',Option.map_some])|(refine aR ?_ ?_<;>(intro hb hd;rw[hb];clear hb))|(with_reducible refine aj ?_))
    .refine⟨rfl,rfl,_,⟨al.set k z.1,by simp[hal],old z.1 ⟨λ_ _=>⟨r,hr2,hsr.1 hd⟩,λe=>?_⟩,?_,?_,by exact aH,by omega,rfl⟩,by(repeat' (first|exact aO|refine aN rfl ?_))⟩
     .rcases e with e|e
      .rw[hown]at e;cases e
      .exact absurd e hsf
     .simp (disch:=omega) only[go_sem]
     .simp (disch:=omega) only[go_sem,q8]
    .refine⟨rfl,rfl,_,⟨λj hj w hw=>?_,?_,?_,by exact aH,by omega,rfl⟩,by(repeat' (first|exact aO|refine aN rfl ?_))⟩
     .by_cases e:j=t
      .subst e;rw[hz]at hw;cases hw;rw[hsz,hd]
      .exact hno j (by omega) w hw
     .simp (disch:=omega) only[go_sem,q7]
     .simp (disch:=omega) only[go_sem,q8]
   .rintro h9 n9 G ⟨hno,q7,q8,u9,l9,rfl⟩
    exfalso;refine hsf (.own hown λm r hmr=>?_);obtain⟨j,hj1,hj2⟩:=ia.move hP hl hmr;obtain⟨t,ht⟩:=List.getElem?_of_mem hj1;have:=hno t (List.getElem?_eq_some_iff.1 ht).1 _ ht;obtain⟨b,hb',hbr⟩:=sl.2 j r hj2;rw[this]at hb';cases hb';exact Classical.byContradiction λe=>by have:=hbr.2 e;cases this
 .rintro h5 n5 G ⟨al,hal,hb,g5,g6,u5,l5,rfl⟩
  simp (disch:=omega) only[go_sem,simprocAttr];refine hQ _ al _ _ ⟨by rw[hal,List.length_map],λj q hq=>hb j q (by have:=(List.getElem?_eq_some_iff.1 hq).1;rw[List.length_map]at this;exact this) hq⟩ u5 ?_;have sl5:SL h5 n5 1 (.sl (n+1) 0 0 ps.length (some ps.length)) iN al:=SL.of (λ_=>rfl) l5 g5 rfl hal.symm (λk hk=>by cases hk;exact Nat.le_refl _);exact sl5.kp λx hx=>by rw[dO]at hx;omega
end
end
end
noncomputable section
section
variable {C:aA} {s:aI} {p q r:aP} {party:Int} {t:Int}
theorem NR{N i:Nat}(hi:i<N)(h:C.Iy party q i):((i:Int),(⟨C.aW q.st i,true⟩:aP))∈C.mJ party q N:=by
 unfold aA.mJ;exact List.mem_map.2 ⟨i,List.mem_filter.2 ⟨List.mem_range.2 hi,by simpa using h⟩,rfl⟩
theorem xX{i:Nat}(hi:i<C.acts.length)(hd:q.st.day<C.days)(h:C.Iy party q i):((i:Int),(⟨C.aW q.st i,true⟩:aP))∈C.kJ party q:=by
 unfold aA.kJ;rw[if_pos hd];exact List.mem_append.2 (.inr (NR hi h))
theorem zJ(h:q.own=true):((-2:Int),(⟨q.st,false⟩:aP))∈C.kJ party q:=by
 unfold aA.kJ aA.mI;rw[if_pos h];simp
theorem Eo(h:q.own=false)(hd:q.st.day<C.days):((-1:Int),(⟨C.aW q.st (-1),true⟩:aP))∈C.kJ party q:=by
 unfold aA.kJ aA.mI;have h2:q.own=false/\q.st.day<C.days:=⟨h,hd⟩;rw[if_pos h2];simp
theorem QX(hp:0<=party)(h1: -1<=t)(h2:t<C.acts.length)(hd:s.day<C.days)(h:∀r,(t,r)∉C.kJ party ⟨s,decide (0<=t/\C.doer s t=party)⟩):C.aW s t=s:=by
 by_cases ht:t= -1
 .subst ht
  have e:decide (0<=(-1:Int)/\C.doer s (-1)=party)=false:=decide_eq_false (by omega);rw[e]at h;exact absurd (Eo (q:=⟨s,false⟩) rfl hd) (h _)
 .obtain⟨i,rfl⟩:=Int.eq_ofNat_of_zero_le (show 0<=t by omega)
  refine Classical.byContradiction λhne=>?_;by_cases hdo:C.doer s (i:Nat)=party
  .have e:decide (0<=((i:Nat):Int)/\C.doer s (i:Nat)=party)=true:=decide_eq_true ⟨by omega,hdo⟩
   rw[e]at h;exact h _ (xX (q:=⟨s,true⟩) (by omega) hd ⟨by simp[hdo],hne⟩)
  .have e:decide (0<=((i:Nat):Int)/\C.doer s (i:Nat)=party)=false:=decide_eq_false λe=>hdo e.2
   rw[e]at h;exact h _ (xX (q:=⟨s,false⟩) (by omega) hd ⟨by simp[hdo],hne⟩)
theorem NS(hm:(t,r)∈C.kJ party ⟨s,true⟩)(ht:t≠ -2):0<=t/\t<C.acts.length/\s.day<C.days/\C.doer s t=party:=by
 unfold aA.kJ aA.mI at hm;rcases List.mem_append.1 hm with hm|hm
 .rcases List.mem_append.1 hm with hm|hm
  .rw[if_pos rfl]at hm
   simp at hm;exact absurd hm.1 ht
  .split at hm
   .rename_i h;cases h.1
   .cases hm
 .split at hm
  .rename_i hd
   unfold aA.mJ at hm;obtain⟨i,hi,e⟩:=List.mem_map.1 hm;obtain⟨h1,h2⟩:=List.mem_filter.1 hi;have h3:C.Iy party ⟨s,true⟩ i:=by simpa using h2
   cases e
   exact⟨by omega,by have:=List.mem_range.1 h1;omega,hd,h3.1.2 rfl⟩
  .cases hm
theorem QY{i:Nat}{a:dh}:(C.act i a s).day=s.day:=by
 unfold aA.act;cases ((a.kind !=1)&&s.used.getD i false)with
 |true=>rfl
 |false=>
  simp only[cond_false];cases (a.kind !=1)<;>rfl
theorem Gq(ht:0<=t):(C.aW s t).day=s.day:=by
 unfold aA.aW;rw[if_neg (by omega)];split
 .exact QY
 .rfl
end
theorem RD.pre{h:AH}{b o w k:Nat}{cs:List AV}(r:RD h b o w cs)(hk:k<=w):qQ (h.get b) o (some k)=some (.agg (cs.take k)):=r.pre' k hk
def IQ(C:aA)(party:Int)(l:List Int)(S:List aI):Prop:=∀(k:Nat)(t:Int)(a b:aI),l[k]?=some t->S[k]?=some a->S[k+1]?=some b->¬bS C party ⟨a,true⟩->¬bS C party (C.decide party a b t)
structure ZY where
 b13:Nat
 b14:Nat
 b3:Nat
 b8:Nat
 b4:Nat
structure FoA(g:ZY)(v:CS)(C:aA)(party:Int)(vv ww:AV)(ps:List (TS×aP))(wv:List AV)(M:List (List (Int×Nat)))(h:AH)(n:Nat):Prop where
 r3:h.get g.b3=some (.row 27 (v.av C))
 r8:h.get g.b8=some (.row 150 (oH party vv ww))
 r4:h.get g.b4=some (.row 3 [.i .i64 party])
 con:aZ h n v C
 ar:qW h n vv ww ps wv M
structure KW(h:AH)(n:Nat)(g:ZY)(X:Nat->Prop)(A:HP)(lv:AV)(l:List Int)(i:Nat):Prop where
 wS:h.get g.b13=some (.row 22 [lv])
 gl:Gr h n 3 1 lv iN l
 pY:h.get g.b14=some (.row 3 [.i .i64 (i:Nat)])
 ne:g.b13≠g.b14
 d:∀x,blk lv x->x≠g.b13/\x≠g.b14
 Vx:X g.b13
 Vy:X g.b14
 Xl:∀x,blk lv x->X x
 lt:∀x,X x->x<n
 A:Kp X h n A
section
variable {h h' h2 h3:AH} {n n' n2 n3:Nat} {g:ZY} {X:Nat->Prop} {A:HP} {lv:AV} {l:List Int} {i:Nat}
theorem KW.up(a:KW h n g X A lv l i)(u:Up h n h' n'):KW h' n' g X A lv l i:=
 ⟨(u.old _ (a.lt _ a.Vx)).trans a.wS,a.gl.up u,(u.old _ (a.lt _ a.Vy)).trans a.pY,a.ne,a.d,a.Vx,a.Vy,a.Xl,λx hx=>Nat.lt_of_lt_of_le (a.lt x hx) u.le,a.A.up u⟩
theorem KW.at_(a:KW h n g X A lv l i)(j:Nat):KW (h.set g.b14 (.row 3 [.i .i64 (j:Nat)])) n g X A lv l j:=
 ⟨by rw[ay a.ne];exact a.wS,a.gl.on (Nat.le_refl _) λx _ hx=>ay (a.d x hx).2,aG,a.ne,a.d,a.Vx,a.Vy,a.Xl,a.lt,a.A.set (.inl a.Vy) (Nat.le_refl _)⟩
theorem KW.add(a:KW h n g X A lv l i){v':AV}{t:Int}(u:Up h n h2 n2)(gr:Gr h3 n3 3 1 v' iN (l++[t]))(le:n2<=n3)(s:∀x,x<n2->¬blk lv x->h3.get x=h2.get x)(b:∀x,blk v' x->blk lv x\/n2<=x):
 h3.get g.b13=some (.row 22 [lv])/\KW (h3.set g.b13 (.row 22 [v'])) n3 g (λx=>X x\/blk v' x) A v' (l++[t]) i:=by
 have hn:=u.le;have old:∀x,x<n->¬blk lv x->h3.get x=h.get x:=λx hx h2=>by rw[s x (by omega) h2,u.old x hx]
 have new:∀x,blk v' x->x<n->blk lv x:=λx hx hl=>(b x hx).elim id (by omega);have Xx:=a.lt _ a.Vx;have h14:=a.lt _ a.Vy;have nb:∀x,blk v' x->x≠g.b13/\x≠g.b14:=λx hx=>by
  rcases b x hx with e|e
  .exact a.d x e
  .exact⟨by omega,by omega⟩
 have o13:¬blk lv g.b13:=λe=>(a.d _ e).1 rfl;have o14:¬blk lv g.b14:=λe=>(a.d _ e).2 rfl;refine⟨(old _ Xx o13).trans a.wS,⟨aG,gr.on (Nat.le_refl _) λx _ hx=>ay (nb x hx).1,?_,a.ne,nb,.inl a.Vx,.inl a.Vy,λx hx=>.inr hx,λx hx=>?_,?_⟩⟩
 .rw[ay (Ne.symm a.ne),old _ h14 o14];exact a.pY
 .rcases hx with hx|hx
  .have:=a.lt x hx;omega
  .exact gr.fF hx
 .refine(a.A.le λx hx (e:X x\/blk v' x)=>e.elim id λe=>a.Xl x (new x e hx)).on (by omega) λx hx e=>?_
  have e1:¬X x:=λk=>e (.inl k);rw[ay (λk=>e1 (by rw[k];exact a.Vx)),old x hx λk=>e1 (a.Xl x k)]
end
section
variable {h:AH} {n:Nat} {g:ZY} {X:Nat->Prop} {A:HP} {lv:AV} {l:List Int} {i:Nat} {v:CS} {C:aA} {p:aP} {party:Int} {ps:List (TS×aP)} {wv:List AV} {M:List (List (Int×Nat))} {vv ww:AV} {Q:AV->AH->Nat->Prop}
theorem S9(K:Nat)(a:KW h n g X A lv l i)(hA:∀h n,A h n->FoA g v C party vv ww ps wv M h n)(ia:bV C party p (ps.map (·.2)) M)(so:aK C p.st)(hp:0<=party){s:aI}(hi:(ps.map (·.2))[i]?=some ⟨s,true⟩){t:Int}(h1: -1<=t)(h2:t<C.acts.length)(hd:s.day<C.days)(hl:l.length<=100000)
 (hQ:∀v' X' j h' n',KW h' n' g X' A v' (l++[t]) j->(ps.map (·.2))[j]?=some ⟨C.aW s t,true⟩->n<=n'->(∀x,x<n->¬X x->h'.get x=h.get x)->(∀x,X x->X' x)->(∀x,X' x->X x\/n<=x)->Q (.bN []) h' n'):CW (EF (K+2)) 53 [.i .i64 t,.p g.b13 0,.p g.b14 0,.p g.b3 0,.p g.b8 0,.p g.b4 0] h n Q:=by
 have wS:=a.wS;refine aD c53 rfl ?_;simp (disch:=omega) only[go_sem,simprocAttr,m53,wS];refine jm (l2:=[t]) (a.gl.up aH) ⟨rfl,?_⟩ (by simp;omega) λv' h4 n4 g4 l4 s4 b4=>?_
 .show bnd (iA (Tr.get _ _) 0 _) (λr=>lQ (Nat.mul 1 1) r)=_
  rw[aG];rfl
 obtain⟨q1,a2⟩:=a.add (show Up h n _ (n+1) by exact aH) g4 l4 s4 b4;have us:∀x,x<n->¬X x->(h4.set g.b13 (.row 22 [v'])).get x=h.get x:=λx hx hX=>by
  rw[ay (λe=>hX (by rw[e];exact a.Vx)),s4 x (by omega) (λe=>hX (a.Xl x e)),ay (by omega)]
 have hX2:∀x,(X x\/blk v' x)->X x\/n<=x:=λx hx=>by
  rcases hx with e|e
  .exact .inl e
  .rcases b4 x e with e|e
   .exact .inl (a.Xl x e)
   .exact .inr (by omega)
 simp (disch:=omega) only[go_sem,simprocAttr,q1,g4.cl];have hn4:n<=n4:=by omega
 generalize Tr.set h4 g.b13 _=h5 at*;have pY:=a2.pY;have fa:=hA _ _ a2.A.use;have r3:=fa.r3;have r8:=fa.r8;have r4:=fa.r4;have hin:=(List.getElem?_eq_some_iff.1 hi).1;rw[List.length_map]at hin;have hsm:=ia.small;rw[List.length_map]at hsm;obtain⟨b1,o1,x,i1,hx,hb1,rd⟩:=fa.ar.pos.fu (k:=(i:Nat)) (by omega) (by omega) (by omega);rw[show((i:Nat):Int).toNat=i by omega]at hx;have hx2:x.2=⟨s,true⟩:=by rw[List.getElem?_map,hx]at hi;simpa using hi
 have rp:=rd.pre (k:=4) (by omega);have e4:(xC x).take 4=x.1.av s:=by rw[xC,hx2];rfl
 rw[e4]at rp;have SX:aK C s:=wm.ok so (ia.rch _ (List.mem_of_getElem? hi));have hst:cZ h5 n4 x.1 s:=by have:=fa.ar.st x (List.mem_of_getElem? hx);rw[hx2]at this;exact this
 repeat' (first|(simp (disch:=omega) only[go_sem,simprocAttr,pY,r3,r8,CS.av,i1,rp])|(refine aR ?_ ?_<;>(intro hb hd;rw[hb];clear hb))|(with_reducible refine aj ?_))
 rw[bQ];refine AQ _ fa.con hst SX h1 h2 λh6 n6 u6=>?_;have a6:=a2.up u6;have e6:=u6.le;have fa6:=hA _ _ a6.A.use;have WR:=fa6.r4;have r8':=fa6.r8;have Z0:=a6.pY;have us6:∀x,x<n->¬X x->h6.get x=h.get x:=λx hx hX=>by rw[u6.old x (by omega),us x hx hX]
 have fin:∀(from_:Nat)(F:Fm) h7 n7,Up h6 n6 h7 n7->(ps.map (·.2))[from_]?=some ⟨s,decide (0<=t/\C.doer s t=party)⟩->CW (EF (K+1)) 55 [.agg (oH party vv ww),.i .i64 (from_:Nat),.i .i64 t] h7 n7 (λv h n=>(∃j:Nat,v= .bN [.i .i64 (j:Nat),.b true]/\Up h7 n7 h n/\(ps.map (·.2))[j]?=some ⟨C.aW s t,true⟩)\/(v= .bN [.i .i64 0,.b false]/\Up h7 n7 h n/\C.aW s t=s)):=by
  intro from_ F h7 n7 u7 hf;refine AL _ ((hA _ _ (a6.up u7).A.use).ar) ia so hf (λj r hj hr h8 n8 u8=>?_) (λhno h8 n8 u8=>?_)
  .have:=CG hr
   rw[if_neg (by omega)]at this;rw[this]at hj;exact .inl ⟨j,rfl,u8,hj⟩
  .exact .inr ⟨rfl,u8,QX hp h1 h2 hd hno⟩
 have lst:∀(j:Nat)(h8:AH)(n8:Nat),Up h6 n6 h8 n8->(ps.map (·.2))[j]?=some ⟨C.aW s t,true⟩->Q (.bN []) (h8.set g.b14 (.row 3 [.i .i64 (j:Nat)])) n8:=λj h8 n8 u8 hj=>by
  have a8:=(a6.up u8).at_ j;have:=u8.le;refine hQ _ _ _ _ _ a8 hj (by omega) (λx hx hX=>?_) (λx hx=>.inl hx) hX2;rw[ay (λe=>hX (by rw[e];exact a.Vy)),u8.old x (by omega),us6 x hx hX]
 have Z4:∀(h8:AH)(n8:Nat),Up h6 n6 h8 n8->C.aW s t=s->Q (.bN []) h8 n8:=λh8 n8 u8 hst=>by
  have:=u8.le;refine hQ _ _ _ _ _ (a6.up u8) (by rw[hst];exact hi) (by omega) (λx hx hX=>?_) (λx hx=>.inl hx) hX2;rw[u8.old x (by omega),us6 x hx hX]
 have dec:(if t= -1 then(-1:Int)else C.doer s t)=party↔(0<=t/\C.doer s t=party):=by
  by_cases ht:t= -1
  .rw[if_pos ht];constructor<;>intro e<;>omega
  .rw[if_neg ht];constructor
   .intro e;exact⟨by omega,e⟩
   .exactλe=>e.2
 by_cases hdp:(if t= -1 then(-1:Int)else C.doer s t)=party
 .have hdd:decide ((if t= -1 then(-1:Int)else C.doer s t)=party)=true:=decide_eq_true hdp
  have hdec:decide (0<=t/\C.doer s t=party)=true:=decide_eq_true (dec.1 hdp);repeat' (first|(simp (disch:=omega) only[go_sem,simprocAttr,WR,r4,hdd,r8',Z0])|(refine aR ?_ ?_<;>(intro hb hd;rw[hb];clear hb))|(with_reducible refine aj ?_))
  rw[aU];refine CW.mono (fin i [] h6 n6 (Up.refl _ _) (by rw[hdec];exact hi)) ?_;rintro w h8 n8 (⟨j,rfl,u8,hj⟩|⟨rfl,u8,hst⟩)
  .have Vz:=(a6.up u8).pY
   simp (disch:=omega) only[go_sem,simprocAttr,Vz];exact lst j _ _ u8 hj
  .simp (disch:=omega) only[go_sem,simprocAttr]
   exact Z4 _ _ u8 hst
 .have hdd:decide ((if t= -1 then(-1:Int)else C.doer s t)=party)=false:=decide_eq_false hdp
  have hdec:decide (0<=t/\C.doer s t=party)=false:=decide_eq_false λe=>hdp (dec.2 e);repeat' (first|(simp (disch:=omega) only[go_sem,simprocAttr,WR,r4,hdd,r8',Z0])|(refine aR ?_ ?_<;>(intro hb hd;rw[hb];clear hb))|(with_reducible refine aj ?_))
  rw[aU];refine AL _ (hA _ _ a6.A.use).ar ia so hi (λj r hj hr h7 n7 u7=>?_) (λhno=>absurd (zJ (q:=⟨s,true⟩) rfl) (hno _));have hr2:=CG hr;rw[if_pos rfl]at hr2;rw[hr2]at hj;have r8b:=(hA _ _ (a6.up u7).A.use).r8;simp (disch:=omega) only[go_sem,simprocAttr,r8b];rw[aU];refine CW.mono (fin j [] h7 n7 u7 (by rw[hdec];exact hj)) ?_;rintro w h8 n8 (⟨j,rfl,u8,hj⟩|⟨rfl,u8,hst⟩)
  .have Vz:=(a6.up (u7.trans u8)).pY
   simp (disch:=omega) only[go_sem,simprocAttr,Vz];exact lst j _ _ (u7.trans u8) hj
  .simp (disch:=omega) only[go_sem,simprocAttr]
   exact Z4 _ _ (u7.trans u8) hst
end
end
end Go.Proofs.YtjoohkjmoghmoaaGreatDoor

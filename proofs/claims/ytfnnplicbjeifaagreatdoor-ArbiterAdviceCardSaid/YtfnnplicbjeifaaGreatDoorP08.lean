/- part -/
import Derived.Test.YtfnnplicbjeifaaGreatDoorP07
set_option linter.all false
namespace Go.Proofs.YtfnnplicbjeifaaGreatDoor
section
noncomputable section
@[reducible] def zcn:AV:=.agg [.i .i64 0,.k 1,.k 1,.k 1,.k 1,.i .i64 0,.k 1]
theorem SL.int{h:AH}{n:Nat}{y:AV}{cl:List Nat}(s:SL h n 1 y cn cl):SL h n 1 y iw (cl.map λi:Nat=>(i:Int)):=by
 refine⟨λ_=>rfl,?_⟩;rw[List.length_map];have e:(cl.map λi:Nat=>(i:Int)).flatMap iw=cl.flatMap cn:=by rw[List.flatMap_map]
 rw[e];exact s.2
theorem QO{cl:List Nat}(hs:cl.Pairwise (· < ·)){i a:Nat}(h:cl[i]?=some a):cl.idxOf a=i:=by
 have hm:=List.mem_of_getElem? h;have h1:=List.idxOf_lt_length_of_mem hm;have h2:cl[cl.idxOf a]?=some a:=by rw[List.getElem?_eq_getElem h1,List.getElem_idxOf]
 obtain⟨h3,h4⟩:=List.getElem?_eq_some_iff.1 h;obtain⟨h5,h6⟩:=List.getElem?_eq_some_iff.1 h2;by_cases e1:cl.idxOf a<i
 .have:=List.pairwise_iff_getElem.1 hs _ _ h5 h3 e1;omega
 .by_cases e2:i<cl.idxOf a
  .have:=List.pairwise_iff_getElem.1 hs _ _ h3 h5 e2;omega
  .omega
theorem Uo{k:Nat}{y:AV}{L L' R:List AV}(h:st1 k y L=some L'):st1 k y (L++R)=some (L'++R):=by
 rw[uh]at h⊢;unfold pI at h⊢;split at h
 .rename_i hl
  cases h
  rw[if_pos (by simp at hl⊢;omega),List.take_append_of_le_length (by simp at hl;omega),List.drop_append_of_le_length (by simp at hl⊢;omega)];simp
 .cases h
theorem Gr.cell{h:AH}{n e w:Nat}{v:AV}{α:Type}{c:α->List AV}{l:List α}(g:Gr h n e w v c l){i j:Nat}{a a':α}{y:AV}(hi:l[i]?=some a)(hj:j<w)(hy:c a'=(c a).set j y):∃b cap cells cells',v= .sl b 0 0 l.length cap/\b<n/\h.get b=some (.row e cells)/\st1 (i*w+j) y cells=some cells'/\Gr (h.set b (.row e cells')) n e w v c (l.set i a'):=by
 have hw:=g.1;rcases g.2 with⟨_,rfl⟩|⟨b,cap,cells,rfl,h1,h2,h3,h4,h5,h6⟩
 .simp at hi
 .have hc:cells=l.flatMap c++cells.drop (l.length*w):=by conv=>lhs;rw[<-List.take_append_drop (l.length*w) cells,h3]
  have st:=Uo (R:=cells.drop (l.length*w)) (Gd hw hi hj hy);rw[<-hc]at st;have hl2:((l.set i a').flatMap c).length=l.length*w:=by rw[bN hw,List.length_set]
  refine⟨b,cap,cells,_,rfl,h1,h2,st,hw,.inr ⟨b,cap,_,by rw[List.length_set],h1,aF,?_,?_,λe=>?_,λk e=>?_⟩⟩
  .rw[List.length_set,<-hl2,List.take_left]
  .rw[List.length_set,List.length_append,hl2];omega
  .rw[List.length_set,List.length_append,hl2,List.length_drop,h5 e];omega
  .obtain⟨a1,a2⟩:=h6 k e
   rw[List.length_set,List.length_append,hl2,List.length_drop,a2];exact⟨a1,by have:=Nat.mul_le_mul_right w a1;omega⟩
def BO(cl:List Nat)(c:bU):bU:=⟨(cl.idxOf c.clause.toNat:Nat),c.is⟩
def tQ(cl:List Nat)(l:List bU)(s:Nat):List bU:=(l.take s).map (BO cl)++l.drop s
theorem Cu(cl:List Nat)(l:List bU)(s:Nat):(tQ cl l s).length=l.length:=by simp[tQ];omega
theorem Gh{cl:List Nat}{l:List bU}{s:Nat}{c:bU}(h:l[s]?=some c):(tQ cl l s)[s]?=some c:=by
 have hs:=(List.getElem?_eq_some_iff.1 h).1;unfold tQ;rw[List.getElem?_append_right (by simp;omega),List.getElem?_drop];simp[Nat.min_eq_left (Nat.le_of_lt hs),h]
theorem MN{cl:List Nat}{l:List bU}{s:Nat}{c:bU}(h:l[s]?=some c):(tQ cl l s).set s (BO cl c)=tQ cl l (s+1):=by
 have hs:=(List.getElem?_eq_some_iff.1 h).1;have hl:((l.take s).map (BO cl)).length=s:=by simp;omega
 have e1:l.drop s=c::l.drop (s+1):=by
  rw[List.drop_eq_getElem_cons hs];congr 1;exact(List.getElem?_eq_some_iff.1 h).2
 unfold tQ;rw[e1,List.set_append_right _ _ (by omega),hl,Nat.sub_self,List.set_cons_zero,List.take_add_one,h];simp
theorem MP(cl:List Nat)(l:List bU):tQ cl l l.length=l.map (BO cl):=by simp[tQ]
section
variable {h h':AH} {n n':Nat} {v:CS} {C:ay} {Q:AV->AH->Nat->Prop}
def PaI(h:AH)(n n1 nk pb:Nat)(y:AV)(v:CS)(C:ay)(cl:List Nat)(v2 v3 v4 v5:AV)(k:Nat)(hk:AH)(mk:Nat)(G:Fm):Prop:=∃l':List (aG×AV),l'.length=cl.length/\
 (∀(j i:Nat)(x:aG×AV),j<k->l'[j]?=some x->cl[j]?=some i->x.1=uM C cl i/\Kp (λx=>x<n1\/x=pb) hk mk (λh n=>SL h n 2 x.2 bU.av x.1.start))/\
 (∀(j i:Nat)(kc:aG),j<k->cl[j]?=some i->C.clauses[i]?=some kc->∀c∈kc.start,0<=c.clause/\c.clause.toNat∈cl)/\
 hk.get pb=some (.row 122 (l'.flatMap Er))/\hk.get nk=some (.row 27 [.i .i64 C.aD,v2,v3,v4,.sl pb 0 0 cl.length (some cl.length),.i .i64 C.days,v5])/\hk.get n=some (.row 27 (v.av C))/\hk.get (n+1)=some (.row 27 [.i .i64 0,.k 1,.k 1,.k 1,.k 1,.i .i64 0,.k 1])/\Up h n hk mk/\pb<mk/\
 Kp (λx=>x<n1\/x=pb) hk mk (λh n=>(SL h n 1 v2 (λx=>[AV.i .i64 x]) C.ah/\SL h n 5 v3 dP.av C.units)/\SL h n 7 v4 dM.av C.acts/\SL h n 1 v5 (λx=>[AV.i .i64 x]) C.off)/\
 G=[(1,y),(2,.p n 0),(4,.p (n+1) 0),(11,.p nk 0),(66,y)]
theorem MU(K:Nat){cl:List Nat}{y v2 v3 v4 v5:AV}{n1 nk pb:Nat}{h6:AH}{last:Int}(hC:aY h n v C)(hv:C.valid=true)(hcl:SL h n 1 y cn cl)(hln:cl.length<=1000000)
 (jV:∀h' n',Up h n h' n'->Q (.bJ [zcn,.i .i64 1]) h' n')
 (rQ:eY C (C.part cl) cl->∀v' h' n',Up h n h' n'->Kp (λx=>x<n) h' n' (λh n=>aY h n v' (C.part cl))->Q (.bJ [.agg (v'.av (C.part cl)),.i .i64 0]) h' n')
 (hp:cl.Pairwise (· < ·))(hlt:∀i∈cl,i<C.clauses.length)(u6:Up h n h6 (pb+1))(q6:h6.get nk=some (.row 27 [.i .i64 C.aD,v2,v3,v4,.sl pb 0 0 cl.length (some cl.length),.i .i64 C.days,v5]))(s6:h6.get pb=some (.row 122 ((List.replicate cl.length ((⟨0,0,0,0,[],0,0,false,false,0,0,⟨0,0⟩,0,0,false⟩,.k 1):aG×AV)).flatMap Er)))(p6:h6.get n=some (.row 27 (v.av C)))(r6:h6.get (n+1)=some (.row 27 [.i .i64 0,.k 1,.k 1,.k 1,.k 1,.i .i64 0,.k 1]))
 (kA:Kp (λx=>x<n1\/x=pb) h6 (pb+1) (λh n=>(SL h n 1 v2 (λx=>[AV.i .i64 x]) C.ah/\SL h n 5 v3 dP.av C.units)/\SL h n 7 v4 dM.av C.acts/\SL h n 1 v5 (λx=>[AV.i .i64 x]) C.off))(hn:n+1<nk/\nk<n1/\n1<=pb)(hkn:n+2<=nk):
 sK Tryz.prog Y0 285 99945 [.c (zf 3 68 67 69 2 3 I5),.b 2,.c (.seq (.reg [⟨none,.ld (some 7) (.s 11),.l⟩,⟨none,.st 7 (.s 4) (.v 0),.n⟩,⟨none,.mv (.c (.i .i64 0)),.k 5⟩]) .ret)] .bX (EF (K+6)) h6 (pb+1)
  [(1,y),(2,.p n 0),(4,.p (n+1) 0),(8,.i .i64 last),(26,y),(11,.p nk 0),(66,y),(67,.i .i64 (cl.length:Nat)),(68,.i .i64 0)] (Kn [.c 4 (some 7),.t 5] Q):=by
 have ok:=ay.ok hv;have:=ok.dJ;obtain⟨hn2,hn3,hn4⟩:=hn;refine bP cl.length (PaI h n n1 nk pb y v C cl v2 v3 v4 v5) (by omega) (by omega) (by omega) (by omega) (λk h8 n8 G ⟨_,_,_,_,_,_,_,_,_,_,_,e⟩=>by subst e;exact⟨rfl,rfl⟩) ⟨rfl,rfl,_,⟨_,by simp,(λj i x hj=>absurd hj (by omega)),(λj i kc hj=>absurd hj (by omega)),s6,q6,p6,r6,u6,Nat.lt_succ_self _,kA,rfl⟩,by(repeat' (first|exact aO|refine aM rfl ?_))⟩ ?_ ?_
 .rintro k hk mk G hkN ⟨l',hl',hx,hcd,s',q',p',r',uk,lb,kA',rfl⟩
  obtain⟨b1,o1,i,i1,hi,hb1,rd⟩:=(hcl.up uk).dL (k:=(k:Nat)) (by omega) (by omega) (by omega);rw[show((k:Nat):Int).toNat=k by omega]at hi;have hil:=hlt i (List.mem_of_getElem? hi);simp (disch:=omega) only[go_sem,simprocAttr,I5,aJ i1,rd.el,rd.hd,p',CS.av];refine oF hC (by omega) (by omega) λb o kc t hkc hb st eP=>?_;rw[show((i:Nat):Int).toNat=i by omega]at hkc;have zl:=ok.clause hkc;have hns:=zl.qH;simp (disch:=omega) only[go_sem,simprocAttr,uk.old b hb,eP.all,aG.av];rw[aR];have uks:=uk.le;refine eU k71 QH _ (st.up (uk.trans aH)) (by omega) λv7 h7 n7 u7 g7 b7 x7=>?_;have e7:=u7.le;have c7:h7.get mk=some (.row 122 (kc.av t)):=by rw[u7.old _ (by omega)];simp (disch:=omega) only[go_sem]
  have st1':st1 4 v7 (kc.av t)=some (kc.av v7):=rfl;simp (disch:=omega) only[go_sem,simprocAttr,g7.cl,c7,st1',Option.map_some,g7.len];generalize hz:Tr.set h7 mk _=h8;have c8:h8.get mk=some (.row 122 (kc.av v7)):=by rw[<-hz,aF]
  have o8:∀x,x<mk->h8.get x=hk.get x:=λx hx=>by rw[<-hz,au (by omega),u7.old x (by omega),au (by omega),au (by omega)]
  have g8:Gr h8 n7 217 2 v7 bU.av kc.start:=g7.on (Nat.le_refl _) λx hx hb=>by rw[<-hz,au (by have:=b7 x hb;omega)]
  clear hz;refine bP kc.start.length (λs h9 n9 G=>Gr h9 n9 217 2 v7 bU.av (tQ cl kc.start s)/\(∀c∈kc.start.take s,c.clause.toNat∈cl)/\(∀x,x<n7->¬blk v7 x->h9.get x=h8.get x)/\n7<=n9/\G=[(1,y),(2,.p n 0),(4,.p (n+1) 0),(11,.p nk 0),(66,y),(67,.i .i64 (cl.length:Nat)),(68,.i .i64 (k:Nat)),(12,.i .i64 (k:Nat)),(14,.p mk 0)]) (by omega) (by omega) (by omega) (by omega) (λk h8 n8 G ⟨_,_,_,_,e⟩=>by subst e;exact⟨rfl,rfl⟩) ⟨rfl,rfl,_,⟨g8,(λc hc=>by simp at hc),λ_ _ _=>rfl,Nat.le_refl _,rfl⟩,by(repeat' (first|exact aO|refine aM rfl ?_))⟩ ?_ ?_
  .rintro s h9 n9 G hs ⟨g9,m9,o9,l9,rfl⟩
   obtain⟨cd,hcd⟩:∃cd,kc.start[s]?=some cd:=⟨kc.start[s],List.getElem?_eq_getElem _⟩;have nv7:∀x,x<mk+1->¬blk v7 x:=λx hx e=>by have:=b7 x e;omega
   have c9:=(o9 mk (by omega) (nv7 mk (by omega))).trans c8;obtain⟨b3,o3,cd',i3,adK,hb3,nA⟩:=g9.sl.dL (k:=(s:Nat)) (by omega) (by rw[Cu];omega) (by omega);rw[show((s:Nat):Int).toNat=s by omega,Gh hcd]at adK;cases adK
   have Uq:∀x,x<n->h9.get x=h.get x:=λx hx=>by rw[o9 x (by omega) (nv7 x (by omega)),o8 x (by omega)];exact uk.old x hx
   simp (disch:=omega) only[go_sem,simprocAttr,Qy,c9,aG.av,aJ i3,nA.el,nA.hd,bU.av];rw[aR];have u9:Up h n h9 n9:=⟨by omega,Uq⟩;have hps:(cl.map λi:Nat=>(i:Int)).Pairwise (· < ·):=by
    rw[List.pairwise_map];exact hp.imp λh=>by omega
   refine AL (K+3) cd.clause (hcl.up u9).int hps (by rw[List.length_map];exact hln) λq h10 n10 hI rT=>?_;have e10:=rT.le;have r10:h10.get (n+1)=some (.row 27 [.i .i64 0,.k 1,.k 1,.k 1,.k 1,.i .i64 0,.k 1]):=by rw[rT.old _ (by omega),o9 _ (by omega) (nv7 _ (by omega)),o8 _ (by omega)];exact r'
   have c10:=(rT.old mk (by omega)).trans c9;have u0a:=u9.trans rT;cases hf:(cl.map λi:Nat=>(i:Int)).contains cd.clause with
   |false=>
    simp (disch:=omega) only[go_sem,simprocAttr,r10];exact jV _ _ (Up.st u0a _ _ (by omega))
   |true=>
    have hq:=hI hf;rw[List.getElem?_map]at hq;obtain⟨a,ha,hac⟩:=Option.map_eq_some_iff.1 hq;have hat:cd.clause.toNat=a:=by omega
    have hix:cl.idxOf cd.clause.toNat=q:=by rw[hat];exact QO hp ha
    have g10:=g9.up rT;have akJ:(BO cl cd).av=cd.av.set 0 (.i .i64 (q:Nat)):=by unfold BO;rw[hix];rfl
    obtain⟨vb,cap,cells,cells',hv7,hvb,gv,stc,gr⟩:=g10.cell (j:=0) (Gh (cl:=cl) hcd) (by omega) akJ;rw[Cu]at hv7;subst hv7;have hvm:=b7 vb (eu.2 rfl);rw[Nat.add_zero]at stc;simp (disch:=omega) only[go_sem,simprocAttr,c10,aG.av,b_ hs,gv,stc,Option.map_some];refine⟨rfl,rfl,_,⟨by rw[<-MN hcd];exact gr,λc hc=>?_,λx hx hb=>?_,by omega,rfl⟩,by(repeat' (first|exact aO|refine aM rfl ?_))⟩
    .rw[List.take_add_one,hcd]at hc
     simp at hc;rcases hc with hc|rfl
     .exact m9 c hc
     .rw[hat];exact List.mem_of_getElem? ha
    .rw[au (λe=>hb (eu.2 e)),rT.old x (by omega),o9 x hx hb]
  .rintro h9 n9 G ⟨g9,m9,o9,l9,rfl⟩
   have nv7:∀x,x<mk+1->¬blk v7 x:=λx hx e=>by have:=b7 x e;omega
   have Uq:∀x,x<mk->h9.get x=hk.get x:=λx hx=>by rw[o9 x (by omega) (nv7 x (by omega)),o8 x (by omega)]
   have c9:=(o9 mk (by omega) (nv7 mk (by omega))).trans c8;have q9:=(Uq nk (by omega)).trans q';have s9:=(Uq pb lb).trans s';have sp:pI (kc.av v7) (k*16) (l'.flatMap Er)=some ((l'.set k (kc.onto (kc.start.map (BO cl)),v7)).flatMap Er):=vM (c:=Er) (w:=16) (λ_=>rfl) l' k (kc.onto (kc.start.map (BO cl)),v7) (by omega);simp only[aG.av]at sp;simp (disch:=omega) only[go_sem,simprocAttr,q9,c9,aG.av,b_ hkN,s9,sp,Option.map_some];rw[List.take_length]at m9;rw[MP]at g9;have hpc:uM C cl i=kc.onto (kc.start.map (BO cl)):=by unfold uM;rw[hkc];rfl
   refine⟨rfl,rfl,_,⟨l'.set k (kc.onto (kc.start.map (BO cl)),v7),by simp[hl'],λj i' x hj hjx hji=>?_,λj i' kc' hj hji hk'=>?_,aF,by rw[au (by omega)];exact q9,by rw[au (by omega),Uq n (by omega)];exact p',by rw[au (by omega),Uq (n+1) (by omega)];exact r',⟨by omega,λx hx=>by rw[au (by omega),Uq x (by omega)];exact uk.old x hx⟩,by omega,(kA'.on (by omega) λx hx _=>Uq x hx).set (.inl (.inr rfl)) (Nat.le_refl _),rfl⟩,by(repeat' (first|exact aO|refine aM rfl ?_))⟩
   .rw[List.getElem?_set]at hjx
    by_cases e:k=j
    .subst e
     rw[if_pos rfl,if_pos (by omega)]at hjx;cases hjx
     rw[hi]at hji;cases hji
     exact⟨hpc.symm,(g9.sl.kp (X:=λx=>x<n1\/x=pb) λy hy e=>by have:=b7 y hy;omega).set (.inl (.inr rfl)) (Nat.le_refl _)⟩
    .rw[if_neg e]at hjx
     obtain⟨y1,y2⟩:=hx j i' x (by omega) hjx hji;exact⟨y1,(y2.on (by omega) λx hx _=>Uq x hx).set (.inl (.inr rfl)) (Nat.le_refl _)⟩
   .by_cases e:j=k
    .subst e
     rw[hi]at hji;cases hji
     rw[hkc]at hk';cases hk'
     exactλc hc=>⟨(zl.start c hc).1,m9 c hc⟩
    .exact hcd j i' kc' (by omega) hji hk'
 .rintro hk mk G ⟨l',hl',hx,hcd,s',q',p',r',uk,lb,kA',rfl⟩
  simp (disch:=omega) only[go_sem,simprocAttr,q',r'];have hpart:eY C (C.part cl) cl:=eY.of hlt λi hi kc hkc=>by
   obtain⟨j,hj⟩:=List.getElem?_of_mem hi;exact hcd j i kc (List.getElem?_eq_some_iff.1 hj).1 hj hkc
  have get:∀(j:Nat)(x:aG×AV),l'[j]?=some x->(C.part cl).clauses[j]?=some x.1/\Kp (λx=>x<n1\/x=pb) hk mk (λh n=>SL h n 2 x.2 bU.av x.1.start):=λj x e=>by
   have hj:=(List.getElem?_eq_some_iff.1 e).1;have hj2:cl[j]?=some (cl[j]'(by omega)):=List.getElem?_eq_getElem _;obtain⟨y1,y2⟩:=hx j _ x (by omega) e hj2;refine⟨?_,y2⟩;show(cl.map (uM C cl))[j]?=_;rw[List.getElem?_map,hj2,Option.map_some,y1]
  refine rQ hpart ⟨v2,v3,v4,_,v5⟩ _ _ (Up.st uk _ _ (by omega)) ?_;have hpl:(C.part cl).clauses.length=cl.length:=by simp[ay.part]
  have slk:SL hk mk 16 (.sl pb 0 0 cl.length (some cl.length)) Er l':=SL.of (λ_=>rfl) lb s' rfl hl'.symm (λk hk=>by cases hk;exact Nat.le_refl _);have ksl:Kp (λx=>x<n1) hk mk (λh n=>SL h n 16 (.sl pb 0 0 cl.length (some cl.length)) Er l'):=slk.kp λx hx e=>by rw[eu]at hx;omega
  have PI:Kp (λx=>x<n1) hk mk (λh n=>∀(j:Nat)(x:aG×AV),l'[j]?=some x->SL h n 2 x.2 bU.av x.1.start):=λh' n' a1 a2 j x e=>
   ((get j x e).2.le λy _ hy=>.inl hy) h' n' a1 a2
  have kA2:=kA'.le (Y:=λx=>x<n1) λy _ hy=>.inl hy;have hl1:(C.part cl).clauses.zip (l'.map (·.2))=l':=by
   apply List.ext_getElem?;intro j;cases hj:l'[j]? with
   |none=>
    rw[List.getElem?_eq_none_iff]at hj⊢;simp;omega
   |some x=>
    rw[List.getElem?_zip_eq_some];exact⟨(get j x hj).1,by rw[List.getElem?_map,hj];rfl⟩
  have kk:=((kA2.and ksl).and PI).wk (B:=λh n=>aY h n ⟨v2,v3,v4,.sl pb 0 0 cl.length (some cl.length),v5⟩ (C.part cl)) λh n e=>⟨e.1.1.1.1,e.1.1.1.2,e.1.1.2.1,⟨l'.map (·.2),by simp[hl',hpl],by rw[hl1];have:=e.1.2.2;rw[hl']at this;rw[hpl];exact this,λi k t h1 h2=>by
   rw[List.getElem?_map]at h2;cases hj:l'[i]? with
   |none=>rw[hj]at h2;cases h2
   |some x=>
    rw[hj]at h2;cases h2
    have h3:=(get i x hj).1;rw[h1]at h3;cases h3
    exact e.2 i x hj⟩,e.1.1.2.2⟩
  exact(kk.set (.inl (by omega)) (Nat.le_refl _)).le λx _ hx=>by omega
theorem Ur(K:Nat){cl:List Nat}{y:AV}(hC:aY h n v C)(ho:C.off.length<=1000000)(hv:C.valid=true)(hcl:SL h n 1 y cn cl)(hln:cl.length<=1000000)
 (jV:∀h' n',Up h n h' n'->Q (.bJ [zcn,.i .i64 1]) h' n')
 (rQ:eY C (C.part cl) cl->∀v' h' n',Up h n h' n'->Kp (λx=>x<n) h' n' (λh n=>aY h n v' (C.part cl))->Q (.bJ [.agg (v'.av (C.part cl)),.i .i64 0]) h' n'):CW (EF (K+7)) 285 [.agg (v.av C),y] h n Q:=by
 have ok:=ay.ok hv;have:=ok.dJ;have:=ok.iX;have:=ok.jm;have hu:C.units.length<=20:=by
  have h1:=hv;simp only[ay.valid,ay.over,Bool.and_eq_true,Bool.not_eq_true',Bool.or_eq_false_iff,decide_eq_false_iff_not]at h1;omega
 refine aC c131 rfl ?_;simp (disch:=omega) only[go_sem,simprocAttr,adh,CS.av];rw[aR];refine qM _ (hC.up aH) ho λei h2 n2 u2=>?_;have e2:=u2.le;have g2:h2.get n=some (.row 27 (v.av C)):=by rw[u2.old _ (by omega)];simp (disch:=omega) only[go_sem]
 have r2:h2.get (n+1)=some (.row 27 [.i .i64 0,.k 1,.k 1,.k 1,.k 1,.i .i64 0,.k 1]):=by rw[u2.old _ (by omega)];simp (disch:=omega) only[go_sem]
 have ux:Up h n h2 n2:=by exact aH
 clear u2;rw[(nG C).2 hv];simp (disch:=omega) only[go_sem,simprocAttr,hcl.len];refine bP cl.length (λk hk nk G=>hk=h2/\nk=n2/\∃last:Int, -1<=last/\(cl.take k).Pairwise (· < ·)/\(∀i∈cl.take k,(i:Int)<=last/\i<C.clauses.length)/\G=[(1,y),(2,.p n 0),(4,.p (n+1) 0),(8,.i .i64 last),(26,y)]) (by omega) (by omega) (by omega) (by omega) (λk h8 n8 G ⟨_,_,_,_,_,_,e⟩=>by subst e;exact⟨rfl,rfl⟩) ⟨rfl,rfl,_,⟨rfl,rfl, -1,by omega,by simp,(λi hi=>by simp at hi),rfl⟩,by(repeat' (first|exact aO|refine aM rfl ?_))⟩ ?_ ?_
 .rintro k _ _ G hk ⟨rfl,rfl,last,hl0,hp,hlt,rfl⟩
  obtain⟨b1,o1,i,i1,hi,hb1,rd⟩:=(hcl.up ux).dL (k:=(k:Nat)) (by omega) (by omega) (by omega);rw[show((k:Nat):Int).toNat=k by omega]at hi;repeat' (first|(simp (disch:=omega) only[go_sem,simprocAttr,ub.old,I6,aJ i1,rd.el,rd.hd,g2,r2,CS.av,hC.lk])|(simp (disch:=omega) only[go_sem,simprocAttr,I6,aJ i1,rd.el,rd.hd,g2,r2,CS.av,hC.lk])|(refine aS ?_ ?_<;>(intro hb hd;rw[hb];clear hb))|(with_reducible refine aj ?_))
  .exact jV _ _ aH
  .exact jV _ _ aH
  .refine⟨rfl,rfl,_,⟨rfl,rfl,i,by omega,?_,λj hj=>?_,rfl⟩,by(repeat' (first|exact aO|refine aM rfl ?_))⟩
   .rw[List.take_add_one,hi,List.pairwise_append]
    exact⟨hp,by simp,λa ha b hb=>by simp at hb;have:=(hlt a ha).1;omega⟩
   .rw[List.take_add_one,hi]at hj
    simp at hj;rcases hj with hj|hj
    .have:=hlt j hj;omega
    .omega
 rintro hk nk G ⟨rfl,rfl,last,_,hp,hlt,rfl⟩;rw[List.take_length]at hp hlt;replace hlt:=λi hi=>(hlt i hi).2;simp (disch:=omega) only[go_sem,simprocAttr,g2,CS.av];generalize hz:Tr.set (Tr.set hk nk _) nk _=h1;have ux1:Up h n h1 (nk+1):=by rw[<-hz];exact aH
 have q1:h1.get nk=some (.row 27 [.i .i64 C.aD,v.h,v.u,v.a,v.k,.i .i64 C.days,v.o]):=by rw[<-hz,aF]
 have p1:h1.get n=some (.row 27 (v.av C)):=by rw[<-hz,au (by omega),au (by omega)];exact g2
 have r1:h1.get (n+1)=some (.row 27 [.i .i64 0,.k 1,.k 1,.k 1,.k 1,.i .i64 0,.k 1]):=by rw[<-hz,au (by omega),au (by omega)];exact r2
 clear hz;generalize hn1:nk+1=n1 at*;rw[aR];refine eU Yk AA _ (hC.ah.up ux1) (by omega) λv2 h2 n2 u2 g2 b2 _=>?_;have e2:=u2.le;have q2:=(u2.old nk (by omega)).trans q1;have p2':=(u2.old n (by omega)).trans p1;simp (disch:=omega) only[go_sem,simprocAttr,g2.cl,q2,p2',CS.av];have EJ:=(g2.sl.kp (X:=λx=>x<n1) λx hx=>by have:=b2 x hx;omega).set (b:=nk) (o:=.row 27 [.i .i64 C.aD,v2,v.u,v.a,v.k,.i .i64 C.days,v.o]) (.inl (by omega)) (Nat.le_refl _);have wz:Up h n (h2.set nk (.row 27 [.i .i64 C.aD,v2,v.u,v.a,v.k,.i .i64 C.days,v.o])) n2:=Up.st (ux1.trans u2) _ _ (by omega);replace q2:(h2.set nk (.row 27 [.i .i64 C.aD,v2,v.u,v.a,v.k,.i .i64 C.days,v.o])).get nk=some (.row 27 [.i .i64 C.aD,v2,v.u,v.a,v.k,.i .i64 C.days,v.o]):=aF;have p2:(h2.set nk (.row 27 [.i .i64 C.aD,v2,v.u,v.a,v.k,.i .i64 C.days,v.o])).get n=some (.row 27 (v.av C)):=by rw[au (by omega),u2.old n (by omega)];exact p1
 have r2:(h2.set nk (.row 27 [.i .i64 C.aD,v2,v.u,v.a,v.k,.i .i64 C.days,v.o])).get (n+1)=some (.row 27 [.i .i64 0,.k 1,.k 1,.k 1,.k 1,.i .i64 0,.k 1]):=by rw[au (by omega),u2.old (n+1) (by omega)];exact r1
 generalize Tr.set h2 nk _=h2a at*;rw[aR];refine eU k68 V3 _ (hC.units.up wz) (by omega) λv3 h3 n3 u3 g3 b3 _=>?_;have e3:=u3.le;have q3:=(u3.old nk (by omega)).trans q2;have p3':=(u3.old n (by omega)).trans p2;simp (disch:=omega) only[go_sem,simprocAttr,g3.cl,q3,p3',CS.av];have EJ:=(EJ.up u3).set (b:=nk) (o:=.row 27 [.i .i64 C.aD,v2,v3,v.a,v.k,.i .i64 C.days,v.o]) (.inl (by omega)) (Nat.le_refl _);have KQ:=(g3.sl.kp (X:=λx=>x<n1) λx hx=>by have:=b3 x hx;omega).set (b:=nk) (o:=.row 27 [.i .i64 C.aD,v2,v3,v.a,v.k,.i .i64 C.days,v.o]) (.inl (by omega)) (Nat.le_refl _);have rR:Up h n (h3.set nk (.row 27 [.i .i64 C.aD,v2,v3,v.a,v.k,.i .i64 C.days,v.o])) n3:=Up.st (wz.trans u3) _ _ (by omega);replace q3:(h3.set nk (.row 27 [.i .i64 C.aD,v2,v3,v.a,v.k,.i .i64 C.days,v.o])).get nk=some (.row 27 [.i .i64 C.aD,v2,v3,v.a,v.k,.i .i64 C.days,v.o]):=aF;have p3:(h3.set nk (.row 27 [.i .i64 C.aD,v2,v3,v.a,v.k,.i .i64 C.days,v.o])).get n=some (.row 27 (v.av C)):=by rw[au (by omega),u3.old n (by omega)];exact p2
 have r3:(h3.set nk (.row 27 [.i .i64 C.aD,v2,v3,v.a,v.k,.i .i64 C.days,v.o])).get (n+1)=some (.row 27 [.i .i64 0,.k 1,.k 1,.k 1,.k 1,.i .i64 0,.k 1]):=by rw[au (by omega),u3.old (n+1) (by omega)];exact r2
 generalize Tr.set h3 nk _=h3a at*;rw[aR];refine eU k69 V4 _ (hC.acts.up rR) (by omega) λv4 h4 n4 u4 g4 b4 _=>?_;have e4:=u4.le;have q4:=(u4.old nk (by omega)).trans q3;have p4':=(u4.old n (by omega)).trans p3;simp (disch:=omega) only[go_sem,simprocAttr,g4.cl,q4,p4',CS.av];have EJ:=(EJ.up u4).set (b:=nk) (o:=.row 27 [.i .i64 C.aD,v2,v3,v4,v.k,.i .i64 C.days,v.o]) (.inl (by omega)) (Nat.le_refl _);have KQ:=(KQ.up u4).set (b:=nk) (o:=.row 27 [.i .i64 C.aD,v2,v3,v4,v.k,.i .i64 C.days,v.o]) (.inl (by omega)) (Nat.le_refl _);have RQ:=(g4.sl.kp (X:=λx=>x<n1) λx hx=>by have:=b4 x hx;omega).set (b:=nk) (o:=.row 27 [.i .i64 C.aD,v2,v3,v4,v.k,.i .i64 C.days,v.o]) (.inl (by omega)) (Nat.le_refl _);have Ze:Up h n (h4.set nk (.row 27 [.i .i64 C.aD,v2,v3,v4,v.k,.i .i64 C.days,v.o])) n4:=Up.st (rR.trans u4) _ _ (by omega);replace q4:(h4.set nk (.row 27 [.i .i64 C.aD,v2,v3,v4,v.k,.i .i64 C.days,v.o])).get nk=some (.row 27 [.i .i64 C.aD,v2,v3,v4,v.k,.i .i64 C.days,v.o]):=aF;have p4:(h4.set nk (.row 27 [.i .i64 C.aD,v2,v3,v4,v.k,.i .i64 C.days,v.o])).get n=some (.row 27 (v.av C)):=by rw[au (by omega),u4.old n (by omega)];exact p3
 have r4:(h4.set nk (.row 27 [.i .i64 C.aD,v2,v3,v4,v.k,.i .i64 C.days,v.o])).get (n+1)=some (.row 27 [.i .i64 0,.k 1,.k 1,.k 1,.k 1,.i .i64 0,.k 1]):=by rw[au (by omega),u4.old (n+1) (by omega)];exact r3
 generalize Tr.set h4 nk _=h4a at*;rw[aR];refine eU Yk AA _ (hC.off.up Ze) (by exact ho) λv5 h5 n5 u5 g5 b5 _=>?_;have e5:=u5.le;have q5:=(u5.old nk (by omega)).trans q4;have p5':=(u5.old n (by omega)).trans p4;simp (disch:=omega) only[go_sem,simprocAttr,g5.cl,q5,p5',CS.av];have EJ:=(EJ.up u5).set (b:=nk) (o:=.row 27 [.i .i64 C.aD,v2,v3,v4,v.k,.i .i64 C.days,v5]) (.inl (by omega)) (Nat.le_refl _);have KQ:=(KQ.up u5).set (b:=nk) (o:=.row 27 [.i .i64 C.aD,v2,v3,v4,v.k,.i .i64 C.days,v5]) (.inl (by omega)) (Nat.le_refl _);have RQ:=(RQ.up u5).set (b:=nk) (o:=.row 27 [.i .i64 C.aD,v2,v3,v4,v.k,.i .i64 C.days,v5]) (.inl (by omega)) (Nat.le_refl _);have kk5:=(g5.sl.kp (X:=λx=>x<n1) λx hx=>by have:=b5 x hx;omega).set (b:=nk) (o:=.row 27 [.i .i64 C.aD,v2,v3,v4,v.k,.i .i64 C.days,v5]) (.inl (by omega)) (Nat.le_refl _);have GH:Up h n (h5.set nk (.row 27 [.i .i64 C.aD,v2,v3,v4,v.k,.i .i64 C.days,v5])) n5:=Up.st (Ze.trans u5) _ _ (by omega);replace q5:(h5.set nk (.row 27 [.i .i64 C.aD,v2,v3,v4,v.k,.i .i64 C.days,v5])).get nk=some (.row 27 [.i .i64 C.aD,v2,v3,v4,v.k,.i .i64 C.days,v5]):=aF;have p5:(h5.set nk (.row 27 [.i .i64 C.aD,v2,v3,v4,v.k,.i .i64 C.days,v5])).get n=some (.row 27 (v.av C)):=by rw[au (by omega),u5.old n (by omega)];exact p4
 have r5:(h5.set nk (.row 27 [.i .i64 C.aD,v2,v3,v4,v.k,.i .i64 C.days,v5])).get (n+1)=some (.row 27 [.i .i64 0,.k 1,.k 1,.k 1,.k 1,.i .i64 0,.k 1]):=by rw[au (by omega),u5.old (n+1) (by omega)];exact r4
 generalize Tr.set h5 nk _=h5a at*;simp (disch:=omega) only[go_sem,simprocAttr,hcl.len,q5,Ce];generalize hz:Tr.set (Tr.set h5a n5 _) nk _=h6;have u6:Up h n h6 (n5+1):=by rw[<-hz];exact Up.st (Up.st (GH.wk (Nat.le_succ _)) _ _ (by omega)) _ _ (by omega)
 have q6:h6.get nk=some (.row 27 [.i .i64 C.aD,v2,v3,v4,.sl n5 0 0 cl.length (some cl.length),.i .i64 C.days,v5]):=by rw[<-hz,aF]
 have s6:h6.get n5=some (.row 122 ((List.replicate cl.length ((⟨0,0,0,0,[],0,0,false,false,0,0,⟨0,0⟩,0,0,false⟩,.k 1):aG×AV)).flatMap Er)):=by rw[<-hz,au (by omega),aF,<-jr Er]
 have p6:h6.get n=some (.row 27 (v.av C)):=by rw[<-hz,au (by omega),au (by omega)];exact p5
 have r6:h6.get (n+1)=some (.row 27 [.i .i64 0,.k 1,.k 1,.k 1,.k 1,.i .i64 0,.k 1]):=by rw[<-hz,au (by omega),au (by omega)];exact r5
 have kA:Kp (λx=>x<n1\/x=n5) h6 (n5+1) (λh n=>(SL h n 1 v2 (λx=>[AV.i .i64 x]) C.ah/\SL h n 5 v3 dP.av C.units)/\SL h n 7 v4 dM.av C.acts/\SL h n 1 v5 (λx=>[AV.i .i64 x]) C.off):=by
  have k0:=(EJ.and KQ).and (RQ.and kk5);have k1:Kp (λx=>x<n1\/x=n5) h5a n5 (λh n=>(SL h n 1 v2 (λx=>[AV.i .i64 x]) C.ah/\SL h n 5 v3 dP.av C.units)/\SL h n 7 v4 dM.av C.acts/\SL h n 1 v5 (λx=>[AV.i .i64 x]) C.off):=k0.le λx hx e=>by omega
  rw[<-hz];exact(k1.set (.inr (Nat.le_refl _)) (Nat.le_succ _)).set (.inl (.inl (by omega))) (Nat.le_refl _)
 clear hz;exact MU K hC hv hcl hln jV rQ hp hlt u6 q6 s6 p6 r6 kA (by omega) (by omega)
end
end
end
section
noncomputable section
section
variable {h h':AH} {n n':Nat} {v:CS} {C:ay} {tv:TS} {s:aI} {Q:AV->AH->Nat->Prop}
theorem BP(K:Nat){cl:List Nat}{y:AV}(hcl:SL h n 1 y cn cl)(hln:cl.length<=1000000)(hS:bI h n tv s)(l1:s.ah.length<=1000000)(l2:s.used.length<=1000000)(l3:s.marks.length<=1000000)(hlt:∀i∈cl,i<s.marks.length)
 (hQ:∀tv' h' n',Up h n h' n'->Kp (λx=>x<n) h' n' (λh n=>bI h n tv' (s.rs cl))->Q (.agg (tv'.av (s.rs cl))) h' n'):CW (EF (K+2)) 286 [y,.agg (tv.av s)] h n Q:=by
 refine aC ake rfl ?_;repeat' (first|(simp (disch:=omega) only[go_sem,simprocAttr,ub.old,Y6,TS.av])|(simp (disch:=omega) only[go_sem,simprocAttr,Y6,TS.av])|(refine aS ?_ ?_<;>(intro hb hd;rw[hb];clear hb))|(with_reducible refine aj ?_))
 rw[bF];refine eU Yk AA _ (hS.ah.up aH) l1 λv2 h2 n2 u2 g2 b2 _=>?_;have e2:=u2.le;have q2:h2.get n=some (.row 77 (tv.av s)):=by rw[u2.old _ (by omega)];simp (disch:=omega) only[go_sem]
 have z2:h2.get (n+1)=some (.row 77 [.i .i64 0,.k 1,.k 1,.k 1]):=by rw[u2.old _ (by omega)];simp (disch:=omega) only[go_sem]
 have wz:Up h n h2 n2:=by exact aH
 clear u2;simp (disch:=omega) only[go_sem,simprocAttr,q2,TS.av];rw[bF];refine eU ab0 VA _ (hS.used.up wz) l2 λv3 h3 n3 u3 g3 b3 _=>?_;have e3:=u3.le;have q3:=(u3.old n (by omega)).trans q2;have z3:=(u3.old (n+1) (by omega)).trans z2;have rR:=wz.trans u3;simp (disch:=omega) only[go_sem,simprocAttr,q2,q3,TS.av,g2.cl,g3.cl,hcl.len];generalize hz:Tr.set (Tr.set h3 (n+2) _) (n+2) _=h4;have Ze:Up h n h4 n3:=by rw[<-hz];exact Up.st (Up.st rR _ _ (by omega)) _ _ (by omega)
 have o4:h4.get (n+2)=some (.row 77 [.i .i64 s.day,v2,v3,.k 1]):=by rw[<-hz,aF]
 have q4:h4.get n=some (.row 77 (tv.av s)):=by rw[<-hz,au (by omega),au (by omega)];exact q3
 have z4:h4.get (n+1)=some (.row 77 [.i .i64 0,.k 1,.k 1,.k 1]):=by rw[<-hz,au (by omega),au (by omega)];exact z3
 have kA:Kp (λx=>x<n+4\/n3<=x) h4 n3 (λh n=>SL h n 1 v2 (λx=>[AV.i .i64 x]) s.ah/\SL h n 1 v3 (λx=>[AV.b x]) s.used):=by
  have k2:=((g2.sl.up u3).kp (X:=λx=>x<n+4\/n3<=x) λx hx e=>by have:=b2 x hx;have:=g2.fK hx;omega).and (g3.sl.kp (X:=λx=>x<n+4\/n3<=x) λx hx e=>by have:=b3 x hx;have:=g3.fK hx;omega);rw[<-hz];exact(k2.set (.inl (.inl (by omega))) (Nat.le_refl _)).set (.inl (.inl (by omega))) (Nat.le_refl _)
 clear hz;refine bP cl.length (λk hk nk G=>∃mv,Gr hk nk 185 5 mv aA.av (bV (cl.take k) s.marks)/\hk.get (n+2)=some (.row 77 [.i .i64 s.day,v2,v3,mv])/\(∀x,blk mv x->n3<=x)/\hk.get n=some (.row 77 (tv.av s))/\hk.get (n+1)=some (.row 77 [.i .i64 0,.k 1,.k 1,.k 1])/\Up h n hk nk/\n3<=nk/\Kp (λx=>x<n+4\/n3<=x) hk nk (λh n=>SL h n 1 v2 (λx=>[AV.i .i64 x]) s.ah/\SL h n 1 v3 (λx=>[AV.b x]) s.used)/\G=[(3,.p n 0),(4,.p (n+1) 0),(5,.p (n+2) 0),(17,y)]) (by omega) (by omega) (by omega) (by omega) (λk h8 n8 G ⟨_,_,_,_,_,_,_,_,_,e⟩=>by subst e;exact⟨rfl,rfl⟩) ⟨rfl,rfl,_,⟨.k 1,Gr.nil λ_=>rfl,o4,(λx hx=>absurd hx fA),q4,z4,Ze,Nat.le_refl _,kA,rfl⟩,by(repeat' (first|exact aO|refine aM rfl ?_))⟩ ?_ ?_
 .rintro k hk nk G hkN ⟨mv,gm,ok',bm,qk,zk,uk,lk,kA',rfl⟩
  obtain⟨b1,o1,i,i1,hi,hb1,rd⟩:=(hcl.up uk).dL (k:=(k:Nat)) (by omega) (by omega) (by omega);rw[show((k:Nat):Int).toNat=k by omega]at hi;have hil:=hlt i (List.mem_of_getElem? hi);obtain⟨b5,o5,m,i5,hm,hb5,sO⟩:=(hS.marks.up uk).dL (k:=(i:Nat)) (by omega) (by omega) (by omega);rw[show((i:Nat):Int).toNat=i by omega]at hm;have hrl:(bV (cl.take k) s.marks).length=k:=by simp[bV];omega
  repeat' (first|(simp (disch:=omega) only[go_sem,simprocAttr,ub.old,aJ i1,rd.el,rd.hd,ok',qk,TS.av,i5,sO.all,aA.av])|(simp (disch:=omega) only[go_sem,simprocAttr,aJ i1,rd.el,rd.hd,ok',qk,TS.av,i5,sO.all,aA.av])|(refine aS ?_ ?_<;>(intro hb hd;rw[hb];clear hb))|(with_reducible refine aj ?_))
  refine Eh (l2:=[m]) (gm.up aH) ⟨rfl,?_⟩ (by simp;omega) λmv' h6 n6 g6 l6 s6 b6=>?_
  .show bnd (iI (Tr.get _ _) 0 _) (λr=>mP (Nat.mul 1 5) r)=_
   rw[aF];rfl
  have QL:∀x,x<n3->h6.get x=hk.get x:=λx hx=>by rw[s6 x (by omega) (λe=>by have:=bm x e;omega),au (by omega)]
  have o6:=(QL (n+2) (by omega)).trans ok';have hnew:bV (cl.take k) s.marks++[m]=bV (cl.take (k+1)) s.marks:=by
   unfold bV;rw[List.take_add_one,hi,List.map_append];simp[hm]
  rw[hnew]at g6;simp (disch:=omega) only[go_sem,simprocAttr,o6,g6.cl];refine⟨rfl,rfl,_,⟨mv',g6.on (Nat.le_refl _) λx _ hx=>au (by rcases b6 x hx with e|e;(have:=bm x e;omega);omega),aF,λx hx=>?_,by rw[au (by omega),QL n (by omega)];exact qk,by rw[au (by omega),QL (n+1) (by omega)];exact zk,⟨by have:=uk.le;omega,λx hx=>by rw[au (by omega),QL x (by omega)];exact uk.old x hx⟩,by omega,(kA'.on (by omega) λx hx hX=>?_).set (.inl (.inl (by omega))) (Nat.le_refl _),rfl⟩,by(repeat' (first|exact aO|refine aM rfl ?_))⟩
  .rcases b6 x hx with e|e
   .exact bm x e
   .omega
  .exact QL x (by omega)
 .rintro hk nk G ⟨mv,gm,ok',bm,qk,zk,uk,lk,kA',rfl⟩
  rw[List.take_length]at gm;simp (disch:=omega) only[go_sem,simprocAttr,ok',zk];refine hQ ⟨v2,v3,mv⟩ _ _ (Up.st uk _ _ (by omega)) ?_;have km:Kp (λx=>x<n+2) hk nk (λh n=>SL h n 5 mv aA.av (bV cl s.marks)):=gm.sl.kp λx hx e=>by have:=bm x hx;omega
  have kk:=((kA'.le (Y:=λx=>x<n+2) λx _ hx=>.inl (by omega)).and km).wk (B:=λh n=>bI h n ⟨v2,v3,mv⟩ (s.rs cl)) λh n e=>⟨e.1.1,e.1.2,e.2⟩;exact(kk.set (.inl (by omega)) (Nat.le_refl _)).le λx _ hx=>by omega
end
end
end
section
noncomputable section
structure V6(h:AH)(n lb:Nat)(lv:AV)(L:List AV):Prop where
 box:h.get lb=some (.row 95 [lv])
 gr:Gr h n 22 1 lv one L
 Zh:lb<n
 ne:¬blk lv lb
def LX(lb:Nat)(lv:AV)(x:Nat):Prop:=x=lb\/blk lv x
section
variable {h h':AH} {n n':Nat} {v:CS} {C D:ay} {tv:TS} {q:aN} {party:Int} {Q:AV->AH->Nat->Prop} {lb pb:Nat} {lv y:AV} {L:List AV}
theorem V6.up(a:V6 h n lb lv L)(u:Up h n h' n'):V6 h' n' lb lv L:=⟨(u.old _ a.Zh).trans a.box,a.gr.up u,Nat.lt_of_lt_of_le a.Zh u.le,a.ne⟩
theorem Us(K:Nat)(hC:aY h n v D)(ho:D.off.length<=1000000)(hS:bI h n tv q.st)(hp:h.get pb=some (.row 3 [.i .i64 party]))(hpn:pb<n)(ls:V6 h n lb lv L)(hL:L.length<=1000000)(hy:pO y=some [y])
 (jV:∀e h' n',e≠0->Up h n h' n'->Q (.i .i64 e) h' n')
 (rQ:D.valid=true->¬bM D party q->∀h' n',Up h n h' n'->Q (.i .i64 0) h' n')
 (KA:D.valid=true->bM D party q->∀Ut h' n',V6 h' n' lb Ut (L++[y])->n<=n'->(∀x,x<n->¬LX lb lv x->h'.get x=h.get x)->(∀x,blk Ut x->blk lv x\/n<=x)->Q (.i .i64 0) h' n'):CW (EF (K+11)) 262 [y,.agg (v.av D),.agg (tv.pv q),.p pb 0,.p lb 0] h n Q:=by
 refine aC c73 rfl ?_;repeat' (first|(simp (disch:=omega) only[go_sem,simprocAttr,ub.old,m73,CS.av,TS.pv,hp])|(simp (disch:=omega) only[go_sem,simprocAttr,m73,CS.av,TS.pv,hp])|(refine aS ?_ ?_<;>(intro hb hd;rw[hb];clear hb))|(with_reducible refine aj ?_))
 rw[aR];have Zh:=ls.Zh;refine zq K (hC.up aH) ho (hS.up aH) ⟨λ_ h2 n2 u2=>?_,λ_ _ _ _ h2 n2 u2=>?_,λhp0 hp1 so ps wv M vv ww h2 n2 ia u2 k2=>?_⟩
 .have e2:=u2.le
  repeat' (first|(simp (disch:=omega) only[go_sem,simprocAttr,ub.old,EI,Int.reduceEq])|(simp (disch:=omega) only[go_sem,simprocAttr,EI,Int.reduceEq])|(refine aS ?_ ?_<;>(intro hb hd;rw[hb];clear hb))|(with_reducible refine aj ?_))
  exact jV 1 _ _ (by omega) aH
 .have e2:=u2.le
  repeat' (first|(simp (disch:=omega) only[go_sem,simprocAttr,ub.old,EI,Int.reduceEq])|(simp (disch:=omega) only[go_sem,simprocAttr,EI,Int.reduceEq])|(refine aS ?_ ?_<;>(intro hb hd;rw[hb];clear hb))|(with_reducible refine aj ?_))
  exact jV 3 _ _ (by omega) aH
 .have e2:=u2.le
  have g2:h2.get n=some (.row 27 (v.av D)):=by rw[u2.old _ (by omega)];simp (disch:=omega) only[go_sem]
  have ux:Up h n h2 n2:=by exact aH
  clear u2;repeat' (first|(simp (disch:=omega) only[go_sem,simprocAttr,ub.old,g2,CS.av])|(simp (disch:=omega) only[go_sem,simprocAttr,g2,CS.av])|(refine aS ?_ ?_<;>(intro hb hd;rw[hb];clear hb))|(with_reducible refine aj ?_))
  rw[aR];have ka:=(k2.set (b:=n2) (o:=.row 147 [.i .i64 0,.k 1,.k 1]) (.inr (Nat.le_refl _)) (Nat.le_refl _)).set (b:=n2) (o:=.row 147 [.i .i64 party,vv,ww]) (m:=n2+1) (.inr (Nat.le_refl _)) (Nat.le_succ _);refine zu K (hC.up aH) ho ka.use ia hp0 hp1 so λv' sf h3 n3 sl u3 k3=>?_;have e3:=u3.le;obtain⟨b,hb,qQ⟩:=sl.2 0 q ia.hd;obtain⟨b1,o1,b',i1,hb',hb1,rd⟩:=k3.use.dL (k:=(0:Int)) (by omega) (by have:=(List.getElem?_eq_some_iff.1 hb).1;omega) (by omega);rw[show((0:Int)).toNat=0 by rfl,hb]at hb';cases hb'
  have uf:Up h n h3 n3:=by exact aH
  cases b with
  |true=>
   simp (disch:=omega) only[go_sem,simprocAttr,aJ i1,rd.el,rd.hd];exact rQ so.con (qQ.1 rfl) _ _ uf
  |false=>
   have hd:bM D party q:=Classical.byContradiction λe=>by cases qQ.2 e
   have ls3:=ls.up uf;have bx:=ls3.box;simp (disch:=omega) only[go_sem,simprocAttr,aJ i1,rd.el,rd.hd,bx,hy];refine jq (l2:=[y]) (ls3.gr.up aH) ⟨rfl,?_⟩ (by simp;omega) λUt h4 n4 g4 l4 s4 b4=>?_
   .show bnd (iI (Tr.get _ _) 0 _) (λr=>mP (Nat.mul 1 1) r)=_
    rw[aF];rfl
   have lb3:=ls3.Zh;have s4':∀x,x<n3->¬blk lv x->h4.get x=h3.get x:=λx hx hb=>by rw[s4 x (by omega) hb,au (by omega)]
   have bx4:=(s4' lb lb3 ls3.ne).trans bx;have ne4:¬blk Ut lb:=λe=>by
    rcases b4 lb e with e|e
    .exact ls3.ne e
    .omega
   simp (disch:=omega) only[go_sem,simprocAttr,g4.cl,bx4];refine KA so.con hd Ut _ _ ⟨aF,g4.on (Nat.le_refl _) λx _ hx=>au λe=>ne4 (by rw[<-e];exact hx),by omega,ne4⟩ (by have:=uf.le;omega) (λx hx hX=>?_) λx hx=>?_
   .rw[au (λe=>hX (.inl e)),s4' x (by have:=uf.le;omega) (λe=>hX (.inr e)),uf.old x hx]
   .rcases b4 x hx with e|e
    .exact .inl e
    .exact .inr (by have:=uf.le;omega)
end
end
end
section
noncomputable section
section
variable {h h':AH} {n n':Nat} {v:CS} {C:ay} {tv:TS} {p:aN} {party:Int} {Q:AV->AH->Nat->Prop} {lb pb:Nat}
theorem QS(K:Nat){n0:Nat}(hC:aY h n0 v C)(ho:C.off.length<=1000000)(hS:bI h n0 tv p.st)(hn0:n0<=lb)(hp:h.get pb=some (.row 3 [.i .i64 party]))(hpn:pb<n)(ls:V6 h n lb (.k 1) [])(hne:pb≠lb)
 (jV:∀e h' n',e≠0->n<=n'->(∀x,x<n->x≠lb->h'.get x=h.get x)->Q (.i .i64 e) h' n')
 (rQ:0<=party->party<C.aD->aK C p.st->∀lv L h' n',(L=[]↔¬bM C party p)->V6 h' n' lb lv L->n<=n'->(∀x,x<n->x≠lb->h'.get x=h.get x)->L.length<=400->Q (.i .i64 0) h' n'):
 CW (EF (K+404)) 261 [.agg (v.av C),.i .i64 party,.agg (tv.pv p),.f 262 [.p pb 0,.p lb 0]] h n Q:=by
 have Z9:∀e h' n',e≠0->Up h n h' n'->Q (.i .i64 e) h' n':=λe h' n' he u=>jV e h' n' he u.le λx hx _=>u.old x hx;have Zh:=ls.Zh;have c0:Up h n0 h n:=Up.ge (by omega);have hC0:=hC;have hS0:=hS;replace hC:=hC.up c0;replace hS:=hS.up c0;refine aC c72 rfl ?_;by_cases hp0:party<0
 .have d0:decide (party<0)=true:=decide_eq_true hp0
  repeat' (first|(simp (disch:=omega) only[go_sem,simprocAttr,ub.old,m72,CS.av,TS.pv,d0])|(simp (disch:=omega) only[go_sem,simprocAttr,m72,CS.av,TS.pv,d0])|(refine aS ?_ ?_<;>(intro hb hd;rw[hb];clear hb))|(with_reducible refine aj ?_))
  exact Z9 1 _ _ (by omega) aH
 have d0:decide (party<0)=false:=decide_eq_false hp0;by_cases hp1:C.aD<=party
 .have d1:decide (C.aD<=party)=true:=decide_eq_true hp1
  repeat' (first|(simp (disch:=omega) only[go_sem,simprocAttr,ub.old,m72,CS.av,TS.pv,d0,d1])|(simp (disch:=omega) only[go_sem,simprocAttr,m72,CS.av,TS.pv,d0,d1])|(refine aS ?_ ?_<;>(intro hb hd;rw[hb];clear hb))|(with_reducible refine aj ?_))
  exact Z9 1 _ _ (by omega) aH
 have d1:decide (C.aD<=party)=false:=decide_eq_false hp1;simp (disch:=omega) only[go_sem,simprocAttr,m72,CS.av,TS.pv,d0,d1];rw[aR];refine gJ _ (hC.up aH) ho (hS.up aH) λh2 n2 u2=>?_;have e2:=u2.le;have g2:h2.get n=some (.row 27 (v.av C)):=by rw[u2.old _ (by omega)];simp (disch:=omega) only[go_sem]
 have q2:h2.get (n+1)=some (.row 114 (tv.pv p)):=by rw[u2.old _ (by omega)];simp (disch:=omega) only[go_sem]
 have wz:Up h n h2 n2:=by exact aH
 clear u2;cases hok:C.dB p.st with
 |false=>
  simp (disch:=omega) only[go_sem,simprocAttr];exact Z9 1 _ _ (by omega) wz
 |true=>
  have so:=(bR C p.st).1 hok;have ok:=ay.ok so.con;have:=ok.dJ;have:=ok.iX;have:=ok.jm;have:=so.lh;have:=so.lu;have:=so.lm;simp (disch:=omega) only[go_sem,simprocAttr,g2,CS.av];rw[aR];refine BN K (hC.up wz) ho so.con λP pv h3 n3 ic u3 rows=>?_;have e3:=u3.le;have hPl:=ic.akj;obtain⟨bs,rw1,rw2,rw3,rw4,rw5⟩:=rows;have g3:=(u3.old n (by omega)).trans g2;have q3:=(u3.old (n+1) (by omega)).trans q2;have rR:=wz.trans u3;simp (disch:=omega) only[go_sem,simprocAttr,rw1.len];refine bP bs.length (λk hk nk G=>∃lv L X,V6 hk nk lb lv L/\L.length<=k/\(L=[]↔∀l∈P.take k,¬bM (C.part l) party ⟨p.st.rs l,p.own⟩)/\(∀l∈P.take k,eY C (C.part l) l/\(C.part l).valid=true)/\n3<=nk/\(∀x,x<n->x≠lb->hk.get x=h.get x)/\((∀x,LX lb lv x->X x)/\∀x,X x->x=lb\/n3<=x)/\Kp X hk nk (λh n=>aY h n v C/\bI h n tv p.st)/\Kp X hk nk (λh n=>SL h n 1 pv one bs/\∀(j:Nat)(y:AV)(l:List Nat),bs[j]?=some y->P[j]?=some l->SL h n 1 y cn l)/\(hk.get n=some (.row 27 (v.av C))/\hk.get (n+1)=some (.row 114 (tv.pv p)))/\G=[(3,.f 262 [.p pb 0,.p lb 0]),(4,.p n 0),(6,.p (n+1) 0),(9,.i .i64 0),(30,pv)]) (by omega) (by omega) (by omega) (by omega) (λk h8 n8 G ⟨_,_,_,_,_,_,_,_,_,_,_,_,_,e⟩=>by subst e;exact⟨rfl,rfl⟩) ⟨rfl,rfl,_,⟨.k 1,[],LX lb (.k 1),ls.up rR,Nat.le_refl _,by simp,by simp,Nat.le_refl _,λx hx _=>rR.old x hx,⟨λx hx=>hx,λx hx=>hx.elim .inl λe=>absurd e fA⟩,?_,?_,⟨g3,q3⟩,rfl⟩,by(repeat' (first|exact aO|refine aM rfl ?_))⟩ ?_ ?_
  .have k0:Kp (LX lb (.k 1)) h n0 (λh n=>aY h n v C/\bI h n tv p.st):=Kp.Pm (λh' n' u=>⟨hC0.up u,hS0.up u⟩) λx hx=>by
    rcases hx with rfl|hx
    .exact hn0
    .exact absurd hx fA
   exact k0.on (by omega) λx hx _=>rR.old x (by omega)
  .have no:∀x,n2<=x->¬LX lb (.k 1) x:=λx hx e=>by
    rcases e with rfl|e
    .omega
    .exact absurd e fA
   exact(rw1.kp λx hx=>no x (rw4 x hx)).and λh' n' a1 a2 j y l e1 e2=>((rw3 j y l e1 e2).kp λx hx=>no x (rw5 j y e1 x hx)) h' n' a1 a2
  .rintro k hk nk G hkN ⟨lv,L,X,lsk,hLk,hLi,hPk,lk,same,⟨hX1,hX2⟩,kC,kR,⟨gk,qk⟩,rfl⟩
   obtain⟨b1,o1,y,i1,hy,hb1,rd⟩:=kR.use.1.dL (k:=(k:Nat)) (by omega) (by omega) (by omega);rw[show((k:Nat):Int).toNat=k by omega]at hy;obtain⟨l,hl⟩:∃l,P[k]?=some l:=⟨P[k]'(by omega),List.getElem?_eq_getElem _⟩;have hlP:=List.mem_of_getElem? hl;have sy:=kR.use.2 k y l hy hl;have hll:=ic.len l hlP;have uk:Up hk n hk nk:=Up.ge (by omega);simp (disch:=omega) only[go_sem,simprocAttr,aJ i1,rd.el,rd.hd,gk,CS.av];rw[aR];refine Ur _ kC.use.1 ho so.con sy (by omega) (λh5 n5 u5=>?_) λhpart v' h5 n5 u5 k5=>?_
   .have e5:=u5.le
    simp (disch:=omega) only[go_sem,simprocAttr,Int.reduceEq];exact jV 1 _ _ (by omega) (by omega) λx hx hx2=>by rw[au (by omega),au (by omega),u5.old x (by omega)];exact same x hx hx2
   .have e5:=u5.le
    have g5:=(u5.old n (by omega)).trans gk;have q5:=(u5.old (n+1) (by omega)).trans qk;repeat' (first|(simp (disch:=omega) only[go_sem,simprocAttr,ub.old,g5,q5,CS.av,TS.pv])|(simp (disch:=omega) only[go_sem,simprocAttr,g5,q5,CS.av,TS.pv])|(refine aS ?_ ?_<;>(intro hb hd;rw[hb];clear hb))|(with_reducible refine aj ?_))
    generalize hz:Tr.set (Tr.set h5 n5 _) n5 _=h6;have u6:Up h5 n5 h6 (n5+1):=by rw[<-hz];exact aH
    have g6:h6.get n5=some (.row 27 (v'.av (C.part l))):=by rw[<-hz,aF]
    clear hz;have u56:=u5.trans u6;have q6:=(u6.old (n+1) (by omega)).trans q5;rw[bF];refine BP (K+401) (sy.up u56) (by omega) (kC.use.2.up u56) (by omega) (by omega) (by omega) (λi hi=>by have:=hpart.lt hi;omega) λtv' h7 n7 u7 k7=>?_;have e7:=u7.le;have g7:=(u7.old n5 (by omega)).trans g6;have q7:=(u7.old (n+1) (by omega)).trans q6;have u57:=u56.trans u7;simp (disch:=omega) only[go_sem,simprocAttr,g6,g7,q6,q7,TS.pv,CS.av];rw[w_];show CW (EF (K+403)) 262 [y,.agg (v'.av (C.part l)),.agg (tv'.pv ⟨p.st.rs l,p.own⟩),.p pb 0,.p lb 0] _ _ _;rw[show K+403=(K+392)+11 by omega];have tk:P.take (k+1)=P.take k++[l]:=by rw[List.take_add_one,hl];rfl
    refine Us (K+392) (D:=C.part l) (q:=⟨p.st.rs l,p.own⟩) (k5.use.up (u6.trans u7)) ho k7.use (by rw[u57.old pb (by omega),same pb hpn hne];exact hp) (by omega) (lsk.up u57) (by omega) sy.cl (λe h8 n8 he u8=>?_) (λhv hnd h8 n8 u8=>?_) λhv V7 Ut h8 n8 ls8 l8 s8 b8=>?_
    .have e8:=u8.le
     have hd:decide (e=0)=false:=decide_eq_false he;simp (disch:=omega) only[go_sem,simprocAttr,g6,g7,q6,q7,hd];exact jV e _ _ he (by omega) λx hx hx2=>by rw[u8.old x (by omega),u57.old x (by omega)];exact same x hx hx2
    .have e8:=u8.le
     have u58:=u57.trans u8;simp (disch:=omega) only[go_sem,simprocAttr];refine⟨⟨by rw[g7];rfl,by rw[q6];rfl⟩,rfl,rfl,_,⟨lv,L,X,lsk.up u58,by omega,?_,λl' hl'=>?_,by omega,λx hx hx2=>by rw[u58.old x (by omega)];exact same x hx hx2,⟨hX1,hX2⟩,kC.up u58,kR.up u58,⟨(u58.old n (by omega)).trans gk,(u58.old (n+1) (by omega)).trans qk⟩,rfl⟩,by(repeat' (first|exact aO|refine aM rfl ?_))⟩
     .rw[hLi,tk]
      refine⟨λh l' hl'=>?_,λh l' hl'=>h l' (List.mem_append_left _ hl')⟩;rcases List.mem_append.1 hl' with h1|h1
      .exact h l' h1
      .rw[List.mem_singleton]at h1;subst h1;exact hnd
     .rw[tk]at hl'
      rcases List.mem_append.1 hl' with h1|h1
      .exact hPk l' h1
      .rw[List.mem_singleton]at h1;subst h1;exact⟨hpart,hv⟩
    .have o8:∀x,x<nk->¬X x->h8.get x=hk.get x:=λx hx hX=>by rw[s8 x (by omega) (λe=>hX (hX1 x e)),u57.old x hx]
     have nX:∀x,x<nk->(X x\/blk Ut x)->X x:=λx hx hX=>by
      rcases hX with e|e
      .exact e
      .rcases b8 x e with e|e
       .exact hX1 x (.inr e)
       .omega
     have nlv:∀x,x<n3->x≠lb->¬X x:=λx hx hne e=>by
      rcases hX2 x e with e|e
      .exact hne e
      .omega
     simp (disch:=omega) only[go_sem,simprocAttr];refine⟨⟨by rw[g7];rfl,by rw[q6];rfl⟩,rfl,rfl,_,⟨Ut,L++[y],λx=>X x\/blk Ut x,ls8,by simp;omega,?_,λl' hl'=>?_,by omega,λx hx hx2=>by rw[o8 x (by omega) (nlv x (by omega) hx2)];exact same x hx hx2,⟨λx hx=>?_,λx hx=>?_⟩,(kC.le λx hx hX=>nX x hx hX).on (by omega) λx hx hX=>o8 x hx λe=>hX (.inl e),(kR.le λx hx hX=>nX x hx hX).on (by omega) λx hx hX=>o8 x hx λe=>hX (.inl e),⟨(o8 n (by omega) (nlv n (by omega) (by omega))).trans gk,(o8 (n+1) (by omega) (nlv (n+1) (by omega) (by omega))).trans qk⟩,rfl⟩,by(repeat' (first|exact aO|refine aM rfl ?_))⟩
     .refine⟨λh=>by simp at h,λh=>absurd V7 (h l ?_)⟩
      rw[tk];simp
     .rw[tk]at hl'
      rcases List.mem_append.1 hl' with h1|h1
      .exact hPk l' h1
      .rw[List.mem_singleton]at h1;subst h1;exact⟨hpart,hv⟩
     .rcases hx with e|e
      .exact .inl (hX1 x (.inl e))
      .exact .inr e
     .rcases hx with e|e
      .exact hX2 x e
      .rcases b8 x e with e|e
       .exact hX2 x (hX1 x (.inr e))
       .exact .inr (by omega)
  .rintro hk nk G ⟨lv,L,X,lsk,hLk,hLi,hPk,lk,same,⟨hX1,hX2⟩,kC,kR,⟨gk,qk⟩,rfl⟩
   rw[rw2,List.take_length]at hLi hPk;simp (disch:=omega) only[go_sem,simprocAttr];exact rQ (by omega) (by omega) so lv L _ _ (hLi.trans (I8 ic (by omega) so hPk)) lsk (by omega) same (by omega)
theorem Uu(K:Nat)(hC:aY h n v C)(ho:C.off.length<=1000000)(hS:bI h n tv p.st)(jV:∀e h' n',e≠0->Up h n h' n'->Q (.bJ [.k 1,.i .i64 e]) h' n')
 (rQ:0<=party->party<C.aD->aK C p.st->∀lv (L:List AV) h' n',(L=[]↔¬bM C party p)->SL h' n' 1 lv one L->L.length<=400->Up h n h' n'->Q (.bJ [lv,.i .i64 0]) h' n'):CW (EF (K+405)) 228 [.agg (v.av C),.i .i64 party,.agg (tv.pv p)] h n Q:=by
 refine aC c38 rfl ?_;simp (disch:=omega) only[go_sem,simprocAttr,m38,CS.av,TS.pv];generalize hz:Tr.set (Tr.set (Tr.set (Tr.set h n _) (n+1) _) (n+1+1) _) (n+1+1+1) _=h1;have u1:Up h n h1 (n+4):=by rw[<-hz];exact aH
 have u1':Up h n h1 n:=⟨Nat.le_refl _,u1.old⟩;have p1:h1.get (n+1)=some (.row 3 [.i .i64 party]):=by rw[<-hz];simp (disch:=omega) only[go_sem]
 have l1:h1.get (n+1+1+1)=some (.row 95 [.k 1]):=by rw[<-hz];simp (disch:=omega) only[go_sem]
 clear hz;rw[aR];refine QS K (n0:=n) (lb:=n+1+1+1) (pb:=n+1) (hC.up u1') ho (hS.up u1') (by omega) p1 (by omega) ⟨l1,Gr.nil λ_=>rfl,by omega,fA⟩ (by omega) (λe h2 n2 he l2 x2=>?_) λhp0 hp1 so lv L h2 n2 hL ls l2 x2 hL4=>?_
 .have hd:decide (e=0)=false:=decide_eq_false he
  simp (disch:=omega) only[go_sem,simprocAttr,hd];exact jV e _ _ he ⟨by omega,λx hx=>by rw[x2 x (by omega) (by omega)];exact u1.old x hx⟩
 .have bx:=ls.box
  simp (disch:=omega) only[go_sem,simprocAttr,bx];exact rQ hp0 hp1 so lv L _ _ hL ls.gr.sl hL4 ⟨by omega,λx hx=>by rw[x2 x (by omega) (by omega)];exact u1.old x hx⟩
theorem QT(K:Nat)(hC:aY h n v C)(ho:C.off.length<=1000000)(hS:bI h n tv p.st)(jV:∀e h' n',e≠0->Up h n h' n'->Q (.bJ [.b false,.i .i64 e]) h' n')
 (rQ:0<=party->party<C.aD->aK C p.st->∀b h' n',(b=true↔¬bM C party p)->Up h n h' n'->Q (.bJ [.b b,.i .i64 0]) h' n'):CW (EF (K+406)) 149 [.agg (v.av C),.i .i64 party,.agg (tv.pv p)] h n Q:=by
 refine aC c12 rfl ?_;simp (disch:=omega) only[go_sem,simprocAttr,m12,CS.av,TS.pv];rw[aR];refine Uu K (party:=party) (p:=p) (tv:=tv) (hC.up aH) ho (hS.up aH) (λe h2 n2 he u2=>?_) λhp0 hp1 so lv L h2 n2 hL sl hL4 u2=>?_
 .have e2:=u2.le
  have hd:decide (e=0)=false:=decide_eq_false he;simp (disch:=omega) only[go_sem,simprocAttr,hd];exact jV e _ _ he aH
 .have e2:=u2.le
  simp (disch:=omega) only[go_sem,simprocAttr,sl.len];refine rQ hp0 hp1 so _ _ _ ?_ aH;rw[<-hL,decide_eq_true_iff];cases L<;>simp
  omega
end
end
end
section
noncomputable section
structure Jd(C:ay)(u:Nat)(party:Int)(B:Prop)(h:AH)(n j s l:Nat)(ent:List (List UInt8×AV)):Prop where
 row:∃r,r.length=6/\h.get j=some (.row 107 (.i .i64 party:: .m s:: .m l::r))
 ms:qK h s AV.s ent
 ml:∃le,qK h l (λi:Int=>AV.i .i64 i) le/\(le=[]\/le=[((u:Int),AV.b true)]/\B)
 ok:∀q,aK C q.st->∀x,jD ent (mO u q)=some x->∃b,x= .b b/\(b=true↔¬bM C party q)
 jn:j<n
 sn:s<n
 ln:l<n
 js:j≠s
 jl:j≠l
 sl:s≠l
section
variable {h h':AH} {n n':Nat} {Q:AV->AH->Nat->Prop} {C:ay} {cv sv tv dv:AV} {tq:TS} {p:aN} {party:Int} {u j s l:Nat} {ent:List (List UInt8×AV)} {B:Prop} {vs:List CS} {N:Nat}
theorem Jd.up(a:Jd C u party B h n j s l ent)(x:Up h n h' n'):Jd C u party B h' n' j s l ent:=by
 obtain⟨r,h1,h2⟩:=a.row;exact⟨⟨r,h1,(x.old _ a.jn).trans h2⟩,a.ms.on (x.old _ a.sn),a.ml.imp λ_ e=>⟨e.1.on (x.old _ a.ln),e.2⟩,a.ok,Nat.lt_of_lt_of_le a.jn x.le,Nat.lt_of_lt_of_le a.sn x.le,Nat.lt_of_lt_of_le a.ln x.le,a.js,a.jl,a.sl⟩
theorem Jd.put(a:Jd C u party B h n j s l ent){q:aN}(hq:aK C q.st){b:Bool}(hb:b=true↔¬bM C party q):∃o yU,CU (su Tryz.prog 30 9) (yX Tryz.prog 30 9) h n (.m s) (.s (mO u q)) (.b b)= .ok (.bJ []) (h.set s o) n/\Jd C u party B (h.set s o) n j s l yU:=by
 obtain⟨o,h1,h2⟩:=a.ms.put (k:=mO u q) (n:=n) FZ (.b b);obtain⟨r,h3,h4⟩:=a.row;refine⟨o,_,h1,⟨⟨r,h3,by rw[au a.js];exact h4⟩,h2,a.ml.imp λ_ e=>⟨e.1.on (au (Ne.symm a.sl)),e.2⟩,λq' hq' x hx=>?_,a.jn,a.sn,a.ln,a.js,a.jl,a.sl⟩⟩;rw[lU]at hx;split at hx
 .rename_i e
  cases MJ hq' hq e
  cases hx
  exact⟨b,rfl,hb⟩
 .exact a.ok q' hq' x hx
theorem Jd.large(a:Jd C u party B h n j s l ent)(hB:B):∃o,CU (su Tryz.prog 30 3) (yX Tryz.prog 30 3) h n (.m l) (.i .i64 (u:Nat)) (.b true)= .ok (.bJ []) (h.set l o) n/\Jd C u party B (h.set l o) n j s l ent:=by
 obtain⟨le,h1,h2⟩:=a.ml;obtain⟨o,h3,h4⟩:=h1.put (k:=(u:Int)) (n:=n) Jh (.b true);obtain⟨r,h5,h6⟩:=a.row;refine⟨o,h3,⟨r,h5,by rw[au a.jl];exact h6⟩,a.ms.on (au a.sl),⟨_,h4,.inr ⟨?_,hB⟩⟩,a.ok,a.jn,a.sn,a.ln,a.js,a.jl,a.sl⟩;rcases h2 with rfl|⟨rfl,_⟩
 .rfl
 .rw[Ch,if_pos rfl]
def Uv(X:Nat->Prop)(h:AH):Prop:=∀x,X x->∃es pX,h.get x=some (.mp es pX)
theorem qK.mps{h:AH}{κ:Type}{ke:κ->AV}{m:List (κ×AV)}{s:Nat}(b:qK h s ke m):Uv (λx=>x=s) h:=λx e=>by
 subst e;obtain⟨es,pX,h1,_⟩:=b;exact⟨es,pX,h1⟩
theorem Uv.or{X Y:Nat->Prop}{h:AH}(a:Uv X h)(b:Uv Y h):Uv (λx=>X x\/Y x) h:=λx e=>e.elim (a x) (b x)
theorem SL.nN{h:AH}{n w:Nat}{v:AV}{α:Type}{c:α->List AV}{l:List α}{X:Nat->Prop}(a:SL h n w v c l)(b:Uv X h):∀x,blk v x->¬X x:=by
 intro x hx hX;obtain⟨es,pX,h1⟩:=b x hX;rcases a.2 with⟨rfl,_⟩|⟨y,lo,o,cp,rfl,_,h3,_⟩|⟨_,_,rfl,_⟩
 rotate_left 2
 .exact Pn hx
 .exact fA hx
 .rw[eu]at hx
  subst hx;rw[h1]at h3;rcases h3 with⟨_,_,h3,_⟩|⟨_,h3,_⟩<;>cases h3
theorem bI.V8{h:AH}{n:Nat}{tv:TS}{st:aI}{X:Nat->Prop}(a:bI h n tv st)(b:Uv X h):Kp X h n (λh n=>bI h n tv st):=
 (((a.ah.kp (a.ah.nN b)).and (a.used.kp (a.used.nN b))).and (a.marks.kp (a.marks.nN b))).wk λh n e=>⟨e.1.1,e.1.2,e.2⟩
theorem aY.V8{v:CS}{X:Nat->Prop}(a:aY h n v C)(b:Uv X h):Kp X h n (λh n=>aY h n v C):=by
 obtain⟨ss,h1,h2,h3⟩:=a.clauses;have hz:(C.clauses.zip ss).length=C.clauses.length:=by simp[h1]
 have hk:SL h n 16 v.k Er (C.clauses.zip ss):=⟨λ_=>rfl,by rw[hz];exact h2⟩;have k1:=((a.ah.kp (a.ah.nN b)).and (a.units.kp (a.units.nN b))).and (a.acts.kp (a.acts.nN b));have k2:=(a.off.kp (a.off.nN b)).and (hk.kp (hk.nN b));have k3:Kp X h n (λh n=>∀(i:Nat)(k:aG)(t:AV),C.clauses[i]?=some k->ss[i]?=some t->SL h n 2 t bU.av k.start):=
  λh' n' a1 a2 i k t b1 b2=>((h3 i k t b1 b2).kp ((h3 i k t b1 b2).nN b)) h' n' a1 a2
 exact((k1.and k2).and k3).wk λh n e=>⟨e.1.1.1.1,e.1.1.1.2,e.1.1.2,⟨ss,h1,by have:=e.1.2.2.2;rw[hz]at this;exact this,e.2⟩,e.1.2.1⟩
theorem SM.fr{P:Program}{Y:YT}{g:FuncId}{s:List It}{x:Ex}{f:FT}{h:AH}{n:Nat}{F F':Fm}{Q:PQ}(a:SM P Y g s x f h n F' Q)(e:∀m v,lk F' m=some v->lk F m=some v):SM P Y g s x f h n F Q:=λt hF=>a t λm v hm=>hF m v (e m v hm)
def Zi:MC:=match m62 with
 | .seq _ (.seq _ (.seq _ (.seq _ (.seq _ d))))=>d
 |x=>x
def adQ:MC:=match Zi with
 | .seq a _=>a
 |x=>x
def adR:MC:=match Zi with
 | .seq _ b=>b
 |x=>x
theorem Cv(K:Nat){v:CS}{b7 b10 b11:Nat}(hC:aY h n v C)(ho:C.off.length<=1000000)(hu:u<100)(a:Jd C u party B h n j s l ent)(hS:bI h n tq p.st)(so:aK C p.st)(r7:h.get b7=some (.row 114 (tq.pv p)))(r10:h.get b10=some (.row 27 (v.av C)))(r11:h.get b11=some (.row 3 [.i .i64 (u:Nat)]))(l7:b7<n)(l11:b11<n)
 (jV:∀e h' n',e≠0->Up h n h' n'->Q (.bJ [.b false,.i .i64 e]) h' n')
 (rQ:∀b yU h' n',(b=true↔¬bM C party p)->Jd C u party B h' n' j s l yU->n<=n'->(∀x,x<n->x≠s->h'.get x=h.get x)->Q (.bJ [.b b,.i .i64 0]) h' n'):
 SM Tryz.prog Y0 87 [.c adQ,.c adR] .bX (EF (K+406)) h n [(0,.p j 0),(7,.p b7 0),(10,.p b10 0),(12,.f 147 [.p b11 0])] (Kn [.t 8,.t 9] Q):=by
 obtain⟨r,X_,hrow⟩:=a.row;have hjn:=a.jn;unfold adQ adR Zi;repeat' (first|(simp (disch:=omega) only[go_sem,simprocAttr,m62,r10,r7,CS.av,TS.pv,hrow])|(refine aS ?_ ?_<;>(intro hb hd;rw[hb];clear hb))|(with_reducible refine aj ?_))
 have pb:=so.pb p.own;rw[bF];refine QT K (party:=party) (p:=p) (tv:=tq) hC ho hS (λe h2 n2 he u2=>?_) λ_ _ _ b h2 n2 hb u2=>?_
 .have hd:decide (e=0)=false:=decide_eq_false he
  repeat' (first|(simp (disch:=omega) only[go_sem,simprocAttr,hd])|(refine aS ?_ ?_<;>(intro hb hd;rw[hb];clear hb))|(with_reducible refine aj ?_))
  exact jV e _ _ he u2
 .have e2:=u2.le
  have a2:=a.up u2;have xQ:=(u2.old j hjn).trans hrow;have q7:=(u2.old b7 l7).trans r7;have Co:=(u2.old b11 l11).trans r11;repeat' (first|(simp (disch:=omega) only[go_sem,simprocAttr,xQ,q7,TS.pv])|(refine aS ?_ ?_<;>(intro hb hd;rw[hb];clear hb))|(with_reducible refine aj ?_))
  rw[w_];show CW _ 147 [.agg (tq.pv p),.p b11 0] _ _ _;refine qV (K+398) (u:=u) (b11:=b11) hu Co (show b11<n2 by omega) (p:=p) (tv:=tq) (h:=h2) (n:=n2) (hS.up u2) pb λh9 n9 u9=>?_;have e9:=u9.le;have a9:=a2.up u9;have Jj:=(u9.old j (by omega)).trans xQ;obtain⟨o,Jl,m1,Qr⟩:=a9.put so (b:=b) hb;simp (disch:=omega) only[go_sem,simprocAttr,Jj,xQ,m1];refine rQ b Jl _ _ hb Qr (by omega) λx hx hne=>?_;rw[au hne,u9.old x (by omega),u2.old x hx]
open Classical in
theorem Cw(K:Nat){k:Nat}{v:CS}(hv:vs[k]?=some v)(hvs:SL h n 7 cv (λw:CS=>w.av C) vs)(hC:aY h n v C)(ho:C.off.length<=1000000)(hd:SL h n 1 dv cn (List.replicate N u))(hkN:k<N)(hu:u<100)(a:Jd C u party B h n j s l ent)(hS:bI h n tq p.st)(so:aK C p.st)(hp0:0<=party)(hp1:party<C.aD)(hB:gT C party p->B)
 (jV:∀e h' n',e≠0->B->n<=n'->(∀x,x<n->x≠s->x≠l->h'.get x=h.get x)->Q (.bJ [.b false,.i .i64 e]) h' n')
 (hQ:∀b yU h' n',(b=true↔¬bM C party p)->Jd C u party B h' n' j s l yU->n<=n'->(∀x,x<n->x≠s->x≠l->h'.get x=h.get x)->Q (.bJ [.b b,.i .i64 0]) h' n'):CW (EF (K+407)) 87 [.p j 0,.agg (rA cv sv tv dv),.i .i64 (k:Nat),.agg (tq.pv p)] h n Q:=by
 have hkl:=(List.getElem?_eq_some_iff.1 hv).1;obtain⟨b1,o1,v',i1,hv',hb1,Qk⟩:=hvs.dL (k:=(k:Nat)) (by omega) (by omega) (by omega);obtain⟨b2,o2,u',i2,hu',hb2,eP⟩:=hd.dL (k:=(k:Nat)) (by omega) (by simp;omega) (by omega);rw[show((k:Nat):Int).toNat=k by omega]at hv' hu';rw[hv]at hv';cases hv';rw[List.getElem?_replicate,if_pos hkN]at hu';cases hu';obtain⟨r,X_,hrow⟩:=a.row;have hjn:=a.jn;have hpre:∀x,jD ent (mO u p)=some x->jD ent (mO u p)=some (.b (decide (¬bM C party p))):=λx hk=>by
  obtain⟨b,rfl,hb⟩:=a.ok p so x hk;rw[hk];congr 2;by_cases hd:bM C party p
  .cases b with
   |true=>exact absurd hd (hb.1 rfl)
   |false=>simp[hd]
  .cases b with
   |true=>simp[hd]
   |false=>have:=hb.2 hd;cases this
 refine aC c62 rfl ?_;repeat' (first|(simp (disch:=omega) only[go_sem,simprocAttr,ub.old,m62,rA,i1,i2,Qk.all,eP.el,eP.hd])|(simp (disch:=omega) only[go_sem,simprocAttr,m62,rA,i1,i2,Qk.all,eP.el,eP.hd])|(refine aS ?_ ?_<;>(intro hb hd;rw[hb];clear hb))|(with_reducible refine aj ?_))
 have pb:=so.pb p.own;generalize hh:Tr.set (Tr.set (Tr.set (Tr.set (Tr.set (Tr.set h n _) (n+1) _) (n+2) _) (n+1+1+1) _) (n+2) _) (n+1+1+1) _=h1;have u1:Up h n h1 (n+5):=by rw[<-hh];exact aH
 have r7:h1.get (n+1)=some (.row 114 (tq.pv p)):=by rw[<-hh];simp (disch:=omega) only[go_sem]
 have r10:h1.get (n+2)=some (.row 27 (v.av C)):=by rw[<-hh];simp (disch:=omega) only[go_sem]
 have r11:h1.get (n+1+1+1)=some (.row 3 [.i .i64 (u:Nat)]):=by rw[<-hh];simp (disch:=omega) only[go_sem]
 clear hh;have a1:=a.up u1;have QU:h1.get j=some (.row 107 (.i .i64 party:: .m s:: .m l::r)):=(u1.old _ hjn).trans hrow;rw[<-u1.old j hjn];repeat' (first|(simp (disch:=omega) only[go_sem,simprocAttr,ub.old,QU,r7])|(simp (disch:=omega) only[go_sem,simprocAttr,QU,r7])|(refine aS ?_ ?_<;>(intro hb hd;rw[hb];clear hb))|(with_reducible refine aj ?_))
 rw[w_];show CW _ 147 [.agg (tq.pv p),.p (n+1+1+1) 0] _ _ _;refine qV (K+398) (u:=u) (b11:=n+1+1+1) hu r11 (show n+1+1+1<n+5 by omega) (p:=p) (tv:=tq) (h:=h1) (n:=n+5) (hS.up u1) pb λh2 n2 u2=>?_;have e2:=u2.le;have a2:=a1.up u2;have xQ:h2.get j=some (.row 107 (.i .i64 party:: .m s:: .m l::r)):=(u2.old _ (by omega)).trans QU;have AY:=a2.ms.look (k:=mO u p) FZ (z:=some (.b false)) (ok:=true) rfl;cases hk:jD ent (mO u p)with
 |some x=>
  rw[hpre x hk]at AY;simp only[bD]at AY;simp (disch:=omega) only[go_sem,simprocAttr,AY,xQ,QU];exact hQ _ ent _ _ (by simp) a2 (by omega) λx hx _ _=>by rw[u2.old x (by omega),u1.old x hx]
 |none=>
  rw[hk]at AY;simp only[bD]at AY;simp (disch:=omega) only[go_sem,simprocAttr,AY,xQ,QU];obtain⟨le,ml2,hle⟩:=a2.ml;have ll2:=ml2.look (k:=(u:Int)) Jh (z:=some (.b false)) (ok:=false) rfl;have Co:h2.get (n+1+1+1)=some (.row 3 [.i .i64 (u:Nat)]):=(u2.old _ (by omega)).trans r11;have RP:h2.get (n+2)=some (.row 27 (v.av C)):=(u2.old _ (by omega)).trans r10;have q7:h2.get (n+1)=some (.row 114 (tq.pv p)):=(u2.old _ (by omega)).trans r7;have asw:j<n2:=by omega
  rcases hle with rfl|⟨rfl,hBt⟩
  rotate_left
  .simp only[jD,if_true,gH]at ll2
   refine aj ?_;simp (disch:=omega) only[go_sem,simprocAttr,ll2,xQ,Co];have uP:=u1.trans u2;exact SM.fr (Cv K (v:=v) (b7:=n+1) (b10:=n+2) (b11:=n+1+1+1) (hC.up uP) ho hu a2 (hS.up uP) so q7 RP Co (by omega) (by omega) (λe h3 n3 he u3=>jV e _ _ he hBt (by have:=u3.le;omega) λx hx _ _=>by rw[u3.old x (by omega),uP.old x hx]) λb Zj h3 n3 hb a3 l3 x3=>hQ b Zj _ _ hb a3 (by omega) λx hx hne _=>by rw[x3 x (by omega) hne,uP.old x hx]) (by(repeat' (first|exact aO|refine aM rfl ?_)))
  simp only[jD,gH]at ll2;repeat' (first|(simp (disch:=omega) only[go_sem,simprocAttr,ub.old,ll2,xQ,Co,RP,q7,CS.av])|(simp (disch:=omega) only[go_sem,simprocAttr,ll2,xQ,Co,RP,q7,CS.av])|(refine aS ?_ ?_<;>(intro hb hd;rw[hb];clear hb))|(with_reducible refine aj ?_))
  rw[bF];have uP:=u1.trans u2;refine Mj (K+395) (p:=p) (tv:=tq) ((hC.up uP).up aH) ho ((hS.up uP).up aH) (λhn=>absurd ⟨hp0,hp1,so⟩ hn) (λ_ _ _ e h3 n3 u3=>?_) (λ_ _ _ adT h3 n3 u3=>?_) (λ_ _ _ hnd rows rv h3 n3 hrows u3 k3=>?_)
  .have e3:=u3.le
   have ln0:GA (some (AV.k 1))=some (.i .i64 ((0:Nat):Int)):=(SL.nil (h:=h) (n:=n) (c:=VW) (w:=6) λ_=>rfl).len;repeat' (first|(simp (disch:=omega) only[go_sem,simprocAttr,ub.old,YZ,ln0])|(simp (disch:=omega) only[go_sem,simprocAttr,YZ,ln0])|(refine aS ?_ ?_<;>(intro hb hd;rw[hb];clear hb))|(with_reducible refine aj ?_))
   have uz:Up h2 n2 ((Tr.set h3 n2 (.row 59 [.i .i64 0,.k 1])).set n2 (.row 59 [.i .i64 0,.k 1])) n3:=by exact aH
   generalize(Tr.set h3 n2 _).set n2 _=hz at*;have az:=a2.up uz;have uf:=uP.trans uz;have e0:=uf.le;refine bP 0 (λk hk nk G=>hk=hz/\nk=n3/\G=[(0,.p j 0),(7,.p (n+1) 0),(10,.p (n+2) 0),(11,.p (n+1+1+1) 0),(12,.f 147 [.p (n+1+1+1) 0]),(16,.i .i64 3)]) (by omega) (by omega) (by omega) (by omega) (λk h8 n8 G ⟨_,_,e⟩=>by subst e;exact⟨rfl,rfl⟩) ⟨rfl,rfl,_,⟨rfl,rfl,rfl⟩,by(repeat' (first|exact aO|refine aM rfl ?_))⟩ (λk _ _ _ hk=>absurd hk (by omega)) ?_;rintro _ _ G ⟨rfl,rfl,rfl⟩;obtain⟨rZ,hrZ,akM⟩:=az.row;have q7Z:=(uz.old (n+1) (by omega)).trans q7;have akN:=(uz.old (n+2) (by omega)).trans RP;have adV:=(uz.old (n+1+1+1) (by omega)).trans Co;obtain⟨o,m1,aL⟩:=az.large (hB e);simp (disch:=omega) only[go_sem,simprocAttr,Int.reduceEq];refine aj ?_;simp (disch:=omega) only[go_sem,simprocAttr,akM,adV,m1];obtain⟨le,mlZ,_⟩:=az.ml;have lln:=a.ln;have cL:=(((hC.up uf).V8 mlZ.mps).set (b:=l) (o:=o) (.inl rfl) (Nat.le_refl _)).use;have sL:=(((hS.up uf).V8 mlZ.mps).set (b:=l) (o:=o) (.inl rfl) (Nat.le_refl _)).use;exact SM.fr (Cv K (v:=v) (b7:=n+1) (b10:=n+2) (b11:=n+1+1+1) cL ho hu aL sL so ((au (by omega)).trans q7Z) ((au (by omega)).trans akN) ((au (by omega)).trans adV) (by omega) (by omega) (λe' h3 n3 he u3=>jV e' _ _ he (hB e) (by have:=u3.le;omega) λx hx _ hxl=>by rw[u3.old x (by omega),au hxl,uf.old x hx]) λb Zj h3 n3 hb a3 l3 x3=>hQ b Zj _ _ hb a3 (by omega) λx hx hne hxl=>by rw[x3 x (by omega) hne,au hxl,uf.old x hx]) (by(repeat' (first|exact aO|refine aM rfl ?_)))
  .have e3:=u3.le
   have a3:=a2.up (Up.trans (show Up h2 n2 h2 (n2+2) by exact aH) u3);have akO:h3.get j=some (.row 107 (.i .i64 party:: .m s:: .m l::r)):=(u3.old _ (by omega)).trans xQ;have q7':h3.get (n+1)=some (.row 114 (tq.pv p)):=(u3.old _ (by omega)).trans q7;have asz:h3.get (n+1+1+1)=some (.row 3 [.i .i64 (u:Nat)]):=(u3.old _ (by omega)).trans Co;have ln0:GA (some (AV.k 1))=some (.i .i64 ((0:Nat):Int)):=(SL.nil (h:=h) (n:=n) (c:=VW) (w:=6) λ_=>rfl).len;repeat' (first|(simp (disch:=omega) only[go_sem,simprocAttr,ub.old,YZ,ln0])|(simp (disch:=omega) only[go_sem,simprocAttr,YZ,ln0])|(refine aS ?_ ?_<;>(intro hb hd;rw[hb];clear hb))|(with_reducible refine aj ?_))
   have uz:Up h2 n2 ((Tr.set h3 n2 (.row 59 [.i .i64 0,.k 1])).set n2 (.row 59 [.i .i64 0,.k 1])) n3:=by exact aH
   have az:=a2.up uz;have q7z:=(uz.old _ (by omega)).trans q7;have Zk:=(uz.old _ (by omega)).trans Co;have sz:∀x,x<n->x≠s->((Tr.set h3 n2 (.row 59 [.i .i64 0,.k 1])).set n2 (.row 59 [.i .i64 0,.k 1])).get x=h.get x:=λx hx _=>(uz.old x (by omega)).trans (uP.old x hx);generalize(Tr.set h3 n2 _).set n2 _=hz at*;have V7:false=true↔¬bM C party p:=⟨(λe=>by cases e),λe=>absurd adT e⟩;refine bP 0 (λk hk nk G=>(∃yU,Jd C u party B hk nk j s l yU/\(∀x,x<n->x≠s->hk.get x=h.get x)/\hk.get (n+1)=some (.row 114 (tq.pv p))/\hk.get (n+1+1+1)=some (.row 3 [.i .i64 (u:Nat)])/\n+5<=nk)/\Up h2 n2 hk nk/\G=[(0,.p j 0),(7,.p (n+1) 0),(12,.f 147 [.p (n+1+1+1) 0]),(16,.i .i64 13)]) (by omega) (by omega) (by omega) (by omega) (λk h8 n8 G ⟨_,_,e⟩=>by subst e;exact⟨rfl,rfl⟩) ⟨rfl,rfl,_,⟨⟨ent,az,sz,q7z,Zk,by omega⟩,uz,rfl⟩,by(repeat' (first|exact aO|refine aM rfl ?_))⟩ (λk _ _ _ hk=>absurd hk (by omega)) ?_;rintro hk nk G ⟨⟨yU,aX,sX,Zl,MV,lX⟩,ux,rfl⟩;obtain⟨rX,hrX,wC⟩:=aX.row;have sXu:s<nk:=aX.sn;repeat' (first|(simp (disch:=omega) only[go_sem,simprocAttr,ub.old,Int.reduceEq,wC,Zl])|(simp (disch:=omega) only[go_sem,simprocAttr,Int.reduceEq,wC,Zl])|(refine aS ?_ ?_<;>(intro hb hd;rw[hb];clear hb))|(with_reducible refine aj ?_))
   rw[w_];show CW _ 147 [.agg (tq.pv p),.p (n+1+1+1) 0] _ _ _;refine qV (K+398) (u:=u) (b11:=n+1+1+1) hu MV (show n+1+1+1<nk by omega) (p:=p) (tv:=tq) (h:=hk) (n:=nk) ((hS.up uP).up ux) pb λh9 n9 u9=>?_;have e9:=u9.le;have a9:=aX.up u9;have Jj:h9.get j=some (.row 107 (.i .i64 party:: .m s:: .m l::rX)):=(u9.old _ aX.jn).trans wC;obtain⟨o,Jl,m1,Qr⟩:=a9.put so (b:=false) V7;simp (disch:=omega) only[go_sem,simprocAttr,Jj,wC,Int.reduceEq,m1];refine hQ false Jl _ _ V7 Qr (by omega) λx hx hne _=>?_;rw[au hne,u9.old x (by omega),sX x hx hne]
  .have e3:=u3.le
   have akO:h3.get j=some (.row 107 (.i .i64 party:: .m s:: .m l::r)):=(u3.old _ (by omega)).trans xQ;repeat' (first|(simp (disch:=omega) only[go_sem,simprocAttr,ub.old,k3.use.1.len])|(simp (disch:=omega) only[go_sem,simprocAttr,k3.use.1.len])|(refine aS ?_ ?_<;>(intro hb hd;rw[hb];clear hb))|(with_reducible refine aj ?_))
   have uz:Up h2 n2 ((Tr.set h3 n2 (.row 59 [.i .i64 0,.k 1])).set n2 (.row 59 [.i .i64 party,rv])) n3:=by exact aH
   have kz:=(k3.set (b:=n2) (o:=.row 59 [.i .i64 0,.k 1]) (.inl (by omega)) (Nat.le_refl _)).set (b:=n2) (o:=.row 59 [.i .i64 party,rv]) (.inl (by omega)) (Nat.le_refl _);have az:=a2.up uz;have q7z:=(uz.old _ (by omega)).trans q7;have Zk:=(uz.old _ (by omega)).trans Co;have sz:∀x,x<n->x≠s->((Tr.set h3 n2 (.row 59 [.i .i64 0,.k 1])).set n2 (.row 59 [.i .i64 party,rv])).get x=h.get x:=λx hx _=>(uz.old x (by omega)).trans (uP.old x hx);generalize(Tr.set h3 n2 _).set n2 _=hz at*;have hsf:true=true↔¬bM C party p:=⟨λ_=>hnd,λ_=>rfl⟩;have PI:Kp (λx=>x=s) hz n3 (λh n=>bI h n tq p.st):=((hS.up uP).up uz).V8 az.ms.mps;obtain⟨⟨PP,MM,hia,hmap⟩,hkeep⟩:=hrows;have hrow:∀x∈rows,aK C x.1.2.st/\¬bM C party x.1.2:=λx hx=>by
    have hm:x.1.2∈PP.filter (λq=>decide (¬bM C party q)):=by rw[<-hmap];exact List.mem_map_of_mem (f:=λx:(TS×aN)×Int=>x.1.2) hx
    obtain⟨h4,h5⟩:=List.mem_filter.1 hm;exact⟨wH.ok so (hia.rch _ h4),by simpa using h5⟩
   have hrl:rows.length<=1500:=by
    have e:=congrArg List.length hmap;rw[List.length_map]at e;have:=List.length_filter_le (λq=>decide (¬bM C party q)) PP;have:=hia.small;omega
   refine bP rows.length (λk hk nk G=>(∃yU,Jd C u party B hk nk j s l yU/\(∀x,x<n->x≠s->hk.get x=h.get x)/\hk.get (n+1)=some (.row 114 (tq.pv p))/\hk.get (n+1+1+1)=some (.row 3 [.i .i64 (u:Nat)])/\n+5<=nk)/\Kp (λx=>x=s) hk nk (λh n=>bI h n tq p.st)/\Kp (λx=>x<n2+2) hk nk (λh n=>SL h n 6 rv VW rows/\∀x∈rows,bI h n x.1.1 x.1.2.st)/\G=[(0,.p j 0),(7,.p (n+1) 0),(12,.f 147 [.p (n+1+1+1) 0]),(16,.i .i64 0),(63,rv)]) (by omega) (by omega) (by omega) (by omega) (λk h8 n8 G ⟨_,_,_,e⟩=>by subst e;exact⟨rfl,rfl⟩) ⟨rfl,rfl,_,⟨⟨ent,az,sz,q7z,Zk,by omega⟩,PI,kz,rfl⟩,by(repeat' (first|exact aO|refine aM rfl ?_))⟩ ?_ ?_
   .rintro i hk nk G hi ⟨⟨yU,aX,sX,Zl,MV,lX⟩,kX,kR,rfl⟩
    obtain⟨rX,hrX,wC⟩:=aX.row;obtain⟨b3,o3,x,i3,hx,hb3,nA⟩:=kR.use.1.dL (k:=(i:Nat)) (by omega) (by omega) (by omega);rw[show((i:Nat):Int).toNat=i by omega]at hx;have hxm:=List.mem_of_getElem? hx;obtain⟨Z8,ndx⟩:=hrow x hxm;have hsx:true=true↔¬bM C party x.1.2:=⟨λ_=>ndx,λ_=>rfl⟩;have jnk:=aX.jn;have snk:=aX.sn;repeat' (first|(simp (disch:=omega) only[go_sem,simprocAttr,ub.old,aJ i3,nA.all,wC])|(simp (disch:=omega) only[go_sem,simprocAttr,aJ i3,nA.all,wC])|(refine aS ?_ ?_<;>(intro hb hd;rw[hb];clear hb))|(with_reducible refine aj ?_))
    rw[w_];show CW _ 147 [.agg (x.1.1.pv x.1.2),.p (n+1+1+1) 0] _ _ _;have ub:Up hk nk ((Tr.set hk nk (.row 116 [.i .i64 0,.k 1,.k 1,.k 1,.b false,.i .i64 0])).set nk (.row 116 (VW x))) (nk+1):=by exact aH
    refine qV (K+398) (u:=u) (b11:=n+1+1+1) hu ((ub.old _ (by omega)).trans MV) (show n+1+1+1<nk+1 by omega) (p:=x.1.2) (tv:=x.1.1) ((kR.use.2 x hxm).up ub) (Z8.pb x.1.2.own) λh9 n9 u9=>?_;have e9:=u9.le;have Zm:=ub.trans u9;have a9:=aX.up Zm;have Jj:h9.get j=some (.row 107 (.i .i64 party:: .m s:: .m l::rX)):=(Zm.old _ aX.jn).trans wC;obtain⟨o,Jl,m1,Qr⟩:=a9.put Z8 (b:=true) hsx;simp (disch:=omega) only[go_sem,simprocAttr,Jj,wC,m1];have n1s:n+1≠s:=λe=>by have:=a.sn;omega
    have n3s:n+1+1+1≠s:=λe=>by have:=a.sn;omega
    have sn:=a.sn;refine⟨rfl,rfl,_,⟨⟨Jl,Qr,λy hy hne=>?_,by rw[au n1s,Zm.old _ (by omega)];exact Zl,by rw[au n3s,Zm.old _ (by omega)];exact MV,by omega⟩,(kX.up Zm).set (.inl rfl) (Nat.le_refl _),(kR.up Zm).set (.inl (by omega)) (Nat.le_refl _),rfl⟩,by(repeat' (first|exact aO|refine aM rfl ?_))⟩;rw[au hne,Zm.old y (by omega),sX y hy hne]
   .rintro hk nk G ⟨⟨yU,aX,sX,Zl,MV,lX⟩,kX,kR,rfl⟩
    obtain⟨rX,hrX,wC⟩:=aX.row;repeat' (first|(simp (disch:=omega) only[go_sem,simprocAttr,ub.old,Int.reduceEq,wC,Zl])|(simp (disch:=omega) only[go_sem,simprocAttr,Int.reduceEq,wC,Zl])|(refine aS ?_ ?_<;>(intro hb hd;rw[hb];clear hb))|(with_reducible refine aj ?_))
    rw[w_];show CW _ 147 [.agg (tq.pv p),.p (n+1+1+1) 0] _ _ _;refine qV (K+398) (u:=u) (b11:=n+1+1+1) hu MV (show n+1+1+1<nk by omega) (p:=p) (tv:=tq) (h:=hk) (n:=nk) kX.use pb λh9 n9 u9=>?_;have e9:=u9.le;have a9:=aX.up u9;have Jj:h9.get j=some (.row 107 (.i .i64 party:: .m s:: .m l::rX)):=(u9.old _ aX.jn).trans wC;obtain⟨o,Jl,m1,Qr⟩:=a9.put so (b:=true) hsf;simp (disch:=omega) only[go_sem,simprocAttr,Jj,wC,Int.reduceEq,m1];refine hQ true Jl _ _ hsf Qr (by omega) λx hx hne _=>?_;rw[au hne,u9.old x (by omega),sX x hx hne]
end
end
end
section
noncomputable section
theorem MW(l:List UInt8):sj l l=true:=by rw[jy];simp
theorem rY(a:Int):gu a a=true:=by rw[dz];simp
theorem Zn(a b c d:Int):(eB Tryz.prog 217 .neq).run (.agg [.i .i64 a,.i .i64 b]) (.agg [.i .i64 c,.i .i64 d])=bnd (bc (gu a c) (bc (gu b d) (some true) (some false)) (some false)) λe=>some (.b (qY e)):=by kernel_rfl
theorem Zo(a b c d e f g a' b' c' d' e' f' g':Int):(eB Tryz.prog 161 .neq).run (.agg [.i .i64 a,.i .i64 b,.i .i64 c,.i .i64 d,.i .i64 e,.i .i64 f,.i .i64 g]) (.agg [.i .i64 a',.i .i64 b',.i .i64 c',.i .i64 d',.i .i64 e',.i .i64 f',.i .i64 g'])=
 bnd (bc (gu a a') (bc (gu b b') (bc (gu c c') (bc (gu d d') (bc (gu e e') (bnd (bc (gu f f') (bc (gu g g') (some true) (some false)) (some false)) λx=>bc x (some true) (some false)) (some false)) (some false)) (some false)) (some false)) (some false)) λe=>some (.b (qY e)):=by kernel_rfl
theorem Zp(a a':List UInt8)(b c f g b' c' f' g':Int):(eB Tryz.prog 159 .neq).run (.agg [.s a,.i .i64 b,.i .i64 c,.i .i64 f,.i .i64 g]) (.agg [.s a',.i .i64 b',.i .i64 c',.i .i64 f',.i .i64 g'])=
 bnd (bc (sj a a') (bc (gu b b') (bc (gu c c') (bnd (bc (gu f f') (bc (gu g g') (some true) (some false)) (some false)) λx=>bc x (some true) (some false)) (some false)) (some false)) (some false)) λe=>some (.b (qY e)):=by kernel_rfl
theorem adW(a b:Bool):(eB Tryz.prog 4 .eql).run (.b a) (.b b)=bnd (some (bc a b (qY b))) λe=>some (.b e):=by kernel_rfl
theorem eqb(a:Bool):(eB Tryz.prog 4 .eql).run (.b a) (.b a)=some (.b true):=by rw[adW];cases a<;>rfl
theorem adX(k:bU):(eB Tryz.prog 217 .neq).run (.agg k.av) (.agg k.av)=some (.b false):=by
 rw[Zn,rY,rY];rfl
theorem adY(k:dM):(eB Tryz.prog 161 .neq).run (.agg k.av) (.agg k.av)=some (.b false):=by
 rw[Zo];simp only[rY];rfl
theorem adZ(k:dP):(eB Tryz.prog 159 .neq).run (.agg k.av) (.agg k.av)=some (.b false):=by
 rw[Zp];simp only[rY,MW];rfl
section
variable {h h':AH} {n n':Nat} {Q:AV->AH->Nat->Prop}
theorem Jm(K:Nat){x y:AV}{a:List bU}(hx:SL h n 2 x bU.av a)(hy:SL h n 2 y bU.av a)(hl:a.length<=1000000)(hQ:∀h' n',Up h n h' n'->Q (.b true) h' n'):CW (EF (K+1)) 226 [x,y] h n Q:=by
 refine aC akw rfl ?_;have hd:decide ((a.length:Int)=(a.length:Int))=true:=decide_eq_true rfl;simp (disch:=omega) only[go_sem,simprocAttr,adA,hx.len,hy.len,hd];refine gP a.length (λk=>True) h n (λk=>[(0,x),(1,y),(4,.b false)]) (by omega) (by omega) (by omega) (by omega) (λ_=>⟨rfl,rfl⟩) rfl rfl (by(repeat' (first|exact aO|refine aM rfl ?_))) aH trivial (λk h4 n4 hk hr u4=>?_) (λh4 n4 hr u4=>?_)
 .obtain⟨b1,o1,w1,i1,hw1,hb1,r1⟩:=(hx.up u4).dL (k:=(k:Nat)) (by omega) (by omega) (by omega)
  obtain⟨b2,o2,w2,i2,hw2,hb2,r2⟩:=(hy.up u4).dL (k:=(k:Nat)) (by omega) (by omega) (by omega);rw[hw1]at hw2;cases hw2;repeat' (first|(simp (disch:=omega) only[go_sem,simprocAttr,i1,i2,r1.all,r2.all,adX w1])|(refine aS ?_ ?_<;>(intro hb hd;rw[hb];clear hb))|(with_reducible refine aj ?_))
  exact iO rfl rfl trivial aH (by(repeat' (first|exact aO|refine aM rfl ?_)))
 .repeat' (first|(simp (disch:=omega) only[go_sem,simprocAttr])|(refine aS ?_ ?_<;>(intro hb hd;rw[hb];clear hb))|(with_reducible refine aj ?_))
  exact hQ _ _ u4
theorem Cx(K:Nat){x y:AV}{a:List dM}(hx:SL h n 7 x dM.av a)(hy:SL h n 7 y dM.av a)(hl:a.length<=1000000)(hQ:∀h' n',Up h n h' n'->Q (.b true) h' n'):CW (EF (K+1)) 142 [x,y] h n Q:=by
 refine aC akv rfl ?_;have hd:decide ((a.length:Int)=(a.length:Int))=true:=decide_eq_true rfl;simp (disch:=omega) only[go_sem,simprocAttr,adz,hx.len,hy.len,hd];refine gP a.length (λk=>True) h n (λk=>[(0,x),(1,y),(4,.b false)]) (by omega) (by omega) (by omega) (by omega) (λ_=>⟨rfl,rfl⟩) rfl rfl (by(repeat' (first|exact aO|refine aM rfl ?_))) aH trivial (λk h4 n4 hk hr u4=>?_) (λh4 n4 hr u4=>?_)
 .obtain⟨b1,o1,w1,i1,hw1,hb1,r1⟩:=(hx.up u4).dL (k:=(k:Nat)) (by omega) (by omega) (by omega)
  obtain⟨b2,o2,w2,i2,hw2,hb2,r2⟩:=(hy.up u4).dL (k:=(k:Nat)) (by omega) (by omega) (by omega);rw[hw1]at hw2;cases hw2;repeat' (first|(simp (disch:=omega) only[go_sem,simprocAttr,i1,i2,r1.all,r2.all,adY w1])|(refine aS ?_ ?_<;>(intro hb hd;rw[hb];clear hb))|(with_reducible refine aj ?_))
  exact iO rfl rfl trivial aH (by(repeat' (first|exact aO|refine aM rfl ?_)))
 .repeat' (first|(simp (disch:=omega) only[go_sem,simprocAttr])|(refine aS ?_ ?_<;>(intro hb hd;rw[hb];clear hb))|(with_reducible refine aj ?_))
  exact hQ _ _ u4
theorem Bd(K:Nat){x y:AV}{a:List dP}(hx:SL h n 5 x dP.av a)(hy:SL h n 5 y dP.av a)(hl:a.length<=1000000)(hQ:∀h' n',Up h n h' n'->Q (.b true) h' n'):CW (EF (K+1)) 141 [x,y] h n Q:=by
 refine aC aku rfl ?_;have hd:decide ((a.length:Int)=(a.length:Int))=true:=decide_eq_true rfl;simp (disch:=omega) only[go_sem,simprocAttr,ady,hx.len,hy.len,hd];refine gP a.length (λk=>True) h n (λk=>[(0,x),(1,y),(4,.b false)]) (by omega) (by omega) (by omega) (by omega) (λ_=>⟨rfl,rfl⟩) rfl rfl (by(repeat' (first|exact aO|refine aM rfl ?_))) aH trivial (λk h4 n4 hk hr u4=>?_) (λh4 n4 hr u4=>?_)
 .obtain⟨b1,o1,w1,i1,hw1,hb1,r1⟩:=(hx.up u4).dL (k:=(k:Nat)) (by omega) (by omega) (by omega)
  obtain⟨b2,o2,w2,i2,hw2,hb2,r2⟩:=(hy.up u4).dL (k:=(k:Nat)) (by omega) (by omega) (by omega);rw[hw1]at hw2;cases hw2;repeat' (first|(simp (disch:=omega) only[go_sem,simprocAttr,i1,i2,r1.all,r2.all,adZ w1])|(refine aS ?_ ?_<;>(intro hb hd;rw[hb];clear hb))|(with_reducible refine aj ?_))
  exact iO rfl rfl trivial aH (by(repeat' (first|exact aO|refine aM rfl ?_)))
 .repeat' (first|(simp (disch:=omega) only[go_sem,simprocAttr])|(refine aS ?_ ?_<;>(intro hb hd;rw[hb];clear hb))|(with_reducible refine aj ?_))
  exact hQ _ _ u4
theorem lZ(K:Nat){x y:AV}{a:List Int}(hx:SL h n 1 x (λx:Int=>[AV.i .i64 x]) a)(hy:SL h n 1 y (λx:Int=>[AV.i .i64 x]) a)(hl:a.length<=1000000)(hQ:∀h' n',Up h n h' n'->Q (.b true) h' n'):CW (EF (K+1)) 32 [x,y] h n Q:=
 Ci K hx hy hl λh' n' u=>by rw[yw rfl];exact hQ _ _ u
theorem BQ(K:Nat){g:FuncId}(cg:TQ g [true,true] Gc [.t 4]){k:aG}{x y:AV}(hx:SL h n 2 x bU.av k.start)(hy:SL h n 2 y bU.av k.start)(hl:k.start.length<=1000000)(hQ:∀h' n',Up h n h' n'->Q (.b true) h' n'):CW (EF (K+2)) g [.agg (k.av x),.agg (k.av y)] h n Q:=by
 refine aC cg.1 rfl (hg:=cg.2.1) (hg':=cg.2.2) ?_;repeat' (first|(simp (disch:=omega) only[go_sem,simprocAttr,ub.old,Gc,decide_true,eqb,Bool.and_true,Bool.true_and])|(simp (disch:=omega) only[go_sem,simprocAttr,Gc,decide_true,eqb,Bool.and_true,Bool.true_and])|((first|rw[aR]|rw[bF]);with_reducible refine Jm _ (hx.up aH) (hy.up aH) hl λh2 n2 u2=>?_;(first|replace ub:=Up.trans ub (Up.trans aH u2)|have ub:=u2);have hle:=ub.le;clear u2)|(refine aS ?_ ?_<;>(intro hb hd;rw[hb];clear hb))|(with_reducible refine aj ?_))
 exact hQ _ _ aH
theorem wD(K:Nat){g:FuncId}(cg:TQ g [true,true] Gc [.t 4]){x y:AV}{l:List aG}{ss st:List AV}(hx:yu h n x l ss)(hy:yu h n y l st)(hl:l.length<=1000)(hst:∀k∈l,k.start.length<=1000)(hQ:∀h' n',Up h n h' n'->Q (.b true) h' n'):CW (EF (K+3)) 143 [x,y,.f g []] h n Q:=by
 obtain⟨x1,x2,x3⟩:=hx;obtain⟨y1,y2,y3⟩:=hy;have zx:(l.zip ss).length=l.length:=by simp[x1]
 have zy:(l.zip st).length=l.length:=by simp[y1]
 have hx':SL h n 16 x Er (l.zip ss):=⟨λ_=>rfl,by rw[zx];exact x2⟩;have hy':SL h n 16 y Er (l.zip st):=⟨λ_=>rfl,by rw[zy];exact y2⟩;refine aC akx rfl ?_;have hd:decide ((l.length:Int)=(l.length:Int))=true:=decide_eq_true rfl;simp (disch:=omega) only[go_sem,simprocAttr,adB,hx'.len,hy'.len,zx,zy,hd];refine bP l.length (λk hk nk G=>Up h n hk nk/\G=[(1,y),(2,.f g []),(15,x)]) (by omega) (by omega) (by omega) (by omega) (λk h8 n8 G ⟨_,e⟩=>by subst e;exact⟨rfl,rfl⟩) ⟨rfl,rfl,_,⟨Up.refl _ _,rfl⟩,by(repeat' (first|exact aO|refine aM rfl ?_))⟩ ?_ ?_
 .rintro k h4 n4 G hk ⟨u4,rfl⟩
  have e4:=u4.le;obtain⟨b1,o1,w1,i1,hw1,hb1,r1⟩:=(hx'.up u4).dL (k:=(k:Nat)) (by omega) (by omega) (by omega);obtain⟨b2,o2,w2,i2,hw2,hb2,r2⟩:=(hy'.up u4).dL (k:=(k:Nat)) (by omega) (by omega) (by omega);rw[show((k:Nat):Int).toNat=k by omega]at hw1 hw2;rw[List.getElem?_zip_eq_some]at hw1 hw2;obtain⟨kc,ka⟩:=w1;obtain⟨kc',kb⟩:=w2;obtain⟨f1,f2⟩:=hw1;obtain⟨f3,f4⟩:=hw2;dsimp only at f1 f2 f3 f4;rw[f1]at f3;cases f3
  repeat' (first|(simp (disch:=omega) only[go_sem,simprocAttr,aJ i1,aJ i2,r1.all,r2.all])|(refine aS ?_ ?_<;>(intro hb hd;rw[hb];clear hb))|(with_reducible refine aj ?_))
  rw[aR];refine BQ _ cg (k:=kc) ((x3 k kc ka f1 f2).up (u4.trans aH)) ((y3 k kc kb f1 f4).up (u4.trans aH)) (by have:=hst kc (List.mem_of_getElem? f1);omega) λh5 n5 u5=>?_;have e5:=u5.le;repeat' (first|(simp (disch:=omega) only[go_sem,simprocAttr])|(refine aS ?_ ?_<;>(intro hb hd;rw[hb];clear hb))|(with_reducible refine aj ?_))
  exact⟨rfl,rfl,_,⟨by exact aH,rfl⟩,by(repeat' (first|exact aO|refine aM rfl ?_))⟩
 .rintro h4 n4 G ⟨u4,rfl⟩
  repeat' (first|(simp (disch:=omega) only[go_sem,simprocAttr])|(refine aS ?_ ?_<;>(intro hb hd;rw[hb];clear hb))|(with_reducible refine aj ?_))
  exact hQ _ _ u4
theorem ad1:TQ 144 [true,true] Gc [.t 4]:=⟨akt,rfl,rfl⟩
theorem yV(K:Nat){C:ay}{v v':CS}(hC:aY h n v C)(hC':aY h n v' C)(ok:C.Ok)(ho:C.off.length<=1000000)(hu:C.units.length<=1000000)(hQ:∀h' n',Up h n h' n'->Q (.b true) h' n'):CW (EF (K+4)) 85 [.agg (v.av C),.agg (v'.av C)] h n Q:=by
 have:=ok.dJ;have:=ok.iX;have:=ok.jm;obtain⟨ss,hs⟩:=hC.clauses;obtain⟨st,ht⟩:=hC'.clauses;have hst:∀k∈C.clauses,k.start.length<=1000:=λk hk=>by
  obtain⟨i,hi⟩:=List.getElem?_of_mem hk;have:=(ok.clause hi).qH;omega
 have cup:∀{h' n'},Up h n h' n'->yu h' n' v.k C.clauses ss:=λ{h' n'} u=>⟨hs.1,hs.2.1.up u,λi k t a b=>(hs.2.2 i k t a b).up u⟩;have Zq:∀{h' n'},Up h n h' n'->yu h' n' v'.k C.clauses st:=λ{h' n'} u=>⟨ht.1,ht.2.1.up u,λi k t a b=>(ht.2.2 i k t a b).up u⟩;refine aC c60 rfl ?_;repeat' (first|(simp (disch:=omega) only[go_sem,simprocAttr,ub.old,m60,CS.av,decide_true,Bool.and_true,Bool.true_and])|(simp (disch:=omega) only[go_sem,simprocAttr,m60,CS.av,decide_true,Bool.and_true,Bool.true_and])|((first|rw[aR]|rw[bF]);with_reducible refine lZ _ (hC.ah.up aH) (hC'.ah.up aH) (by omega) λh2 n2 u2=>?_;(first|replace ub:=Up.trans ub (Up.trans aH u2)|have ub:=u2);have hle:=ub.le;clear u2)|((first|rw[aR]|rw[bF]);with_reducible refine Bd _ (hC.units.up aH) (hC'.units.up aH) hu λh2 n2 u2=>?_;(first|replace ub:=Up.trans ub (Up.trans aH u2)|have ub:=u2);have hle:=ub.le;clear u2)|((first|rw[aR]|rw[bF]);with_reducible refine Cx _ (hC.acts.up aH) (hC'.acts.up aH) (by omega) λh2 n2 u2=>?_;(first|replace ub:=Up.trans ub (Up.trans aH u2)|have ub:=u2);have hle:=ub.le;clear u2)|((first|rw[aR]|rw[bF]);with_reducible refine lZ _ (hC.off.up aH) (hC'.off.up aH) ho λh2 n2 u2=>?_;(first|replace ub:=Up.trans ub (Up.trans aH u2)|have ub:=u2);have hle:=ub.le;clear u2)|((first|rw[aR]|rw[bF]);with_reducible refine wD _ ad1 (cup aH) (Zq aH) (by omega) hst λh2 n2 u2=>?_;(first|replace ub:=Up.trans ub (Up.trans aH u2)|have ub:=u2);have hle:=ub.le;clear u2)|(refine aS ?_ ?_<;>(intro hb hd;rw[hb];clear hb))|(with_reducible refine aj ?_))
 exact hQ _ _ aH
end
end
end
section
noncomputable section
set_option maxRecDepth 1000000
set_option maxHeartbeats 4000000
theorem ad2:yc Tryz.prog sl0 282=some ([true,true],Gc,[(.t 4)]):=by kernel_rfl
def V9:MC:=vF 15
def ad3:=vT 15 V9
def V_:MC:=vF 33
def ad4:=vT 33 V_
def QV:MC:=vF 35
def ad5:=vT 35 QV
def Gi:MC:=vB 35 (gW 35 0)
def QW:=vU 35 (gW 35 0) Gi
def iQ:MC:=vB 35 (gX 35 0)
def QX:=vU 35 (gX 35 0) iQ
def Wd:MC:=vF 67
def ad6:=vT 67 Wd
def Wh:MC:=vF 68
def ad7:=vT 68 Wh
def Wi:MC:=vF 69
def ad8:=vT 69 Wi
def Gj:MC:=vB 69 (gW 69 0)
def QY:=vU 69 (gW 69 0) Gj
def wE:MC:=vB 69 (gX 69 0)
def QZ:=vU 69 (gX 69 0) wE
def Wj:MC:=vF 70
def ad9:=vT 70 Wj
def Wm:MC:=vF 71
def ad_:=vT 71 Wm
def Wn:MC:=vF 121
def aea:=vT 121 Wn
def Cy:MC:=vF 122
def aeb:=vT 122 Cy
def Wo:MC:=vF 124
def aec:=vT 124 Wo
def Wp:MC:=vF 126
def aed:=vT 126 Wp
def Wq:MC:=vF 186
def aee:=vT 186 Wq
def Q0:MC:=vF 248
def aef:=vT 248 Q0
end
end
section
noncomputable section
section
variable {h h':AH} {n n':Nat} {rv:AV} {rs:List (TS×dU)} {Q:AV->AH->Nat->Prop} {w:Nat} {c:TS×dU->List AV} {g:FuncId} {party:Int}
theorem Zr(a b:Bool):(eB Tryz.prog 4 .eql).run (.b a) (.b b)=some (.b (a==b)):=by rw[adW];cases a<;>cases b<;>rfl
abbrev aeg(g:FuncId)(w:Nat)(c:TS×dU->List AV):Prop:=(Nat.beq g 124=true/\w=6/\c=A_)\/(Nat.beq g 126=true/\w=7/\c=Eo)
theorem Gl(K:Nat){sb yr e:Nat}(J:AH->Nat->Nat->Prop)(E:AH->Nat->Prop)(hg:aeg g w c)(hl:rs.length<=1000000)(hb:h.get sb=some (.row e [.i .i64 party,rv]))(j0:J h n 0)
 (hJ:∀h n h' n' k,J h n k->Up h n h' n'->J h' n' k)(KI:∀h n k,J h n k->iJ h n w rv c rs)
 (step:∀(k:Nat)(y:TS×dU) h0 n0 h1 n1,rs[k]?=some y->J h0 n0 k->Up h0 n0 h1 n1->RW (Y0 yr [.agg (y.1.pv y.2.pos)] (EF K) h1 n1) λu h2 n2=>∃b,u= .b b/\(b=true->J h2 n2 (k+1))/\(b=false->E h2 n2))
 (hQ:∀h' n',J h' n' rs.length->Q (.bJ []) h' n')(hE:∀h' n',E h' n'->Q (.bJ []) h' n'):CW (EF (K+1)) g [.y yr,.p sb 0] h n Q:=by
 have hR:=KI _ _ _ j0;rcases hg with⟨hg,rfl,rfl⟩|⟨hg,rfl,rfl⟩<;>obtain rfl:=beq_eq hg
 .refine aC aec rfl ?_
  simp (disch:=omega) only[go_sem,simprocAttr,Wo,hb,hR.sl.len];refine bP rs.length (λk h' n' G=>J h' n' k/\G=[(0,.y yr),(6,rv)]) (by omega) (by omega) (by omega) (by omega) (λk h8 n8 G ⟨_,e⟩=>by subst e;exact⟨rfl,rfl⟩) ⟨rfl,rfl,_,⟨j0,rfl⟩,by(repeat' (first|exact aO|refine aM rfl ?_))⟩ ?_ ?_
  .rintro k h1 n1 G hk ⟨j1,rfl⟩
   obtain⟨b1,o1,y,i1,hy,hb1,rd⟩:=(KI _ _ _ j1).sl.dL (k:=(k:Nat)) (by omega) (by omega) (by omega);rw[show((k:Nat):Int).toNat=k by omega]at hy;simp (disch:=omega) only[go_sem,simprocAttr,aJ i1,rd.all,A_];generalize hh:Tr.set (Tr.set h1 n1 _) n1 _=h2;have u2:Up h1 n1 h2 (n1+1):=by rw[<-hh];exact aH
   clear hh;rw[sI];refine RW.mono (step k y _ _ _ _ hy j1 u2) ?_;rintro _ h3 n3 ⟨b,rfl,hb1,hb2⟩;cases b with
   |true=>
    simp (disch:=omega) only[go_sem,simprocAttr];exact⟨rfl,rfl,_,⟨hb1 rfl,rfl⟩,by(repeat' (first|exact aO|refine aM rfl ?_))⟩
   |false=>
    simp (disch:=omega) only[go_sem,simprocAttr];exact hE _ _ (hb2 rfl)
  .rintro h1 n1 G ⟨j1,rfl⟩
   simp (disch:=omega) only[go_sem,simprocAttr];exact hQ _ _ j1
 .refine aC aed rfl ?_
  simp (disch:=omega) only[go_sem,simprocAttr,Wp,hb,hR.sl.len];refine bP rs.length (λk h' n' G=>J h' n' k/\G=[(0,.y yr),(6,rv)]) (by omega) (by omega) (by omega) (by omega) (λk h8 n8 G ⟨_,e⟩=>by subst e;exact⟨rfl,rfl⟩) ⟨rfl,rfl,_,⟨j0,rfl⟩,by(repeat' (first|exact aO|refine aM rfl ?_))⟩ ?_ ?_
  .rintro k h1 n1 G hk ⟨j1,rfl⟩
   obtain⟨b1,o1,y,i1,hy,hb1,rd⟩:=(KI _ _ _ j1).sl.dL (k:=(k:Nat)) (by omega) (by omega) (by omega);rw[show((k:Nat):Int).toNat=k by omega]at hy;simp (disch:=omega) only[go_sem,simprocAttr,aJ i1,rd.all,Eo];generalize hh:Tr.set (Tr.set h1 n1 _) n1 _=h2;have u2:Up h1 n1 h2 (n1+1):=by rw[<-hh];exact aH
   clear hh;rw[sI];refine RW.mono (step k y _ _ _ _ hy j1 u2) ?_;rintro _ h3 n3 ⟨b,rfl,hb1,hb2⟩;cases b with
   |true=>
    simp (disch:=omega) only[go_sem,simprocAttr];exact⟨rfl,rfl,_,⟨hb1 rfl,rfl⟩,by(repeat' (first|exact aO|refine aM rfl ?_))⟩
   |false=>
    simp (disch:=omega) only[go_sem,simprocAttr];exact hE _ _ (hb2 rfl)
  .rintro h1 n1 G ⟨j1,rfl⟩
   simp (disch:=omega) only[go_sem,simprocAttr];exact hQ _ _ j1
def Bf(st:LoopState)(pd:Option Code)(t:Tr AV):AO:=.lp st pd 69 t [16] (gW 69 0) (gX 69 0)
structure Jo(h:AH)(n B:Nat)(tv:TS)(p:aN)(f:Bool)(o:AO)(h':AH)(n':Nat):Prop where
 u:Up h n h' n'
 p:h'.get B=some (.row 114 (tv.pv p))
 f:h'.get (B+1)=some (.row 4 [.b f])
 l:h'.get (B+1+1)=some o
 b:n<=B
 n:B+3<=n'
theorem Jo.up{B:Nat}{tv:TS}{p:aN}{f:Bool}{o:AO}{h0 h1:AH}{n0 n1:Nat}(a:Jo h n B tv p f o h0 n0)(u:Up h0 n0 h1 n1):Jo h n B tv p f o h1 n1:=by
 have:=a.n;have:=u.le;exact⟨a.u.trans u,(u.old _ (by omega)).trans a.p,(u.old _ (by omega)).trans a.f,(u.old _ (by omega)).trans a.l,a.b,by omega⟩
theorem Jo.sQ{B:Nat}{tv:TS}{p:aN}{f:Bool}{o:AO}{h0:AH}{n0:Nat}(a:Jo h n B tv p f o h0 n0)(o':AO):Jo h n B tv p f o' (h0.set (B+1+1) o') n0:=by
 have:=a.b;have:=a.n;exact⟨Up.st a.u _ _ (by omega),by rw[au (by omega)];exact a.p,by rw[au (by omega)];exact a.f,aF,a.b,a.n⟩
theorem jO(K:Nat){sb e:Nat}{wv:AV}{ws:List (TS×aN)}(hg:aeg g w c)(hl:rs.length<=1000000)(hb:h.get sb=some (.row e [.i .i64 party,rv]))(hn:sb<n)(hR:iJ h n w rv c rs)(hw:SL h n 5 wv pJ ws)(hws:∀x∈ws,bI h n x.1 x.2.st)(hwl:ws.length<=1000)
 (hsr:∀x∈rs,x.2.pos.st.ah.length<=1000000/\x.2.pos.st.used.length<=1000000/\x.2.pos.st.marks.length<=1000000)
 (hQ:∀b h' n',Up h n h' n'->(b=true↔∀x∈ws,Ph (rs.map (·.2)) x.2)->Q (.b b) h' n'):CW (EF (K+4)) 69 [.f g [.p sb 0],wv] h n Q:=by
 refine aC ad8 rfl ?_;simp (disch:=omega) only[go_sem,simprocAttr,Wi,hw.len];refine bP ws.length (λk h' n' G=>Up h n h' n'/\(∀x∈ws.take k,Ph (rs.map (·.2)) x.2)/\G=[(0,.f g [.p sb 0]),(9,wv)]) (by omega) (by omega) (by omega) (by omega) (λk h8 n8 G ⟨_,_,e⟩=>by subst e;exact⟨rfl,rfl⟩) ⟨rfl,rfl,_,⟨Up.refl _ _,λx hx=>by simp at hx,rfl⟩,by(repeat' (first|exact aO|refine aM rfl ?_))⟩ ?_ ?_
 .rintro k h1 n1 G hk ⟨u1,hin,rfl⟩
  obtain⟨b1,o1,⟨tv,p⟩,i1,hy,hb1,rd⟩:=(hw.up u1).dL (k:=(k:Nat)) (by omega) (by omega) (by omega);rw[show((k:Nat):Int).toNat=k by omega]at hy;have hS:=hws _ (List.mem_of_getElem? hy);have e1:=u1.le;simp (disch:=omega) only[go_sem,simprocAttr,aJ i1,rd.all,pJ,TS.pv];refine oH rfl λt hF=>?_;generalize hh:Tr.set (Tr.set (Tr.set _ (n1+1) _) (n1+1) _) (n1+1+1) _=h2;have j0:Jo h n n1 tv p false (Bf .ready none t) h2 (n1+3):=by
   rw[<-hh];refine⟨by have u:=u1;exact Up.trans u aH,?_,?_,aF,e1,by omega⟩<;>simp (disch:=omega) only[go_sem]
  clear hh;refine Gl (K+2) (λh' n' j=>Jo h n n1 tv p false (Bf .ready none t) h' n'/\∀y:dU,y∈(rs.map (·.2)).take j->y.pos≠p) (λh' n'=>Jo h n n1 tv p true (Bf .done (some (.exit 2)) t) h' n'/\Ph (rs.map (·.2)) p) hg hl ((j0.u.old _ hn).trans hb) ⟨j0,λy hy=>by simp at hy⟩ (by rintro _ _ _ _ _ ⟨a,b⟩ u;exact⟨a.up u,b⟩) (by rintro _ _ _ ⟨a,_⟩;exact hR.up a.u) ?_ ?_ ?_
  .rintro j y h3 n3 h4 n4 hyj ⟨a3,hne⟩ u4
   have a4:=a3.up u4;have Z0:=List.mem_of_getElem? hyj;have hyS:=(hR.up a4.u).st y Z0;have hb4:=a4.b;have hn4:=a4.n;have tk:(rs.map (·.2)).take (j+1)=(rs.map (·.2)).take j++[y.2]:=by rw[List.take_add_one,List.getElem?_map,hyj];rfl
   refine RW.mono (lV (d:=19) (F:=_) (bs:=[true]) (R:=λb h' n'=>(b=true->Jo h n n1 tv p false (Bf .ready none t) h' n'/\∀y∈(rs.map (·.2)).take (j+1),y.pos≠p)/\(b=false->Jo h n n1 tv p true (Bf .done (some (.exit 2)) t) h' n'/\Ph (rs.map (·.2)) p)) a4.l hF (by kernel_rfl) rfl QY QZ ?_) ?_
   .simp (disch:=omega) only[go_sem,simprocAttr,Gj,Nu,TS.pv]
    generalize hh:Tr.set (Tr.set h4 n4 _) n4 _=h5;have u5:Up h4 n4 h5 (n4+1):=by rw[<-hh];exact aH
    have q5:h5.get n4=some (.row 114 (y.1.pv y.2.pos)):=by rw[<-hh];exact aF
    clear hh;have a5:=a4.up u5;refine⟨_,_,_,_,_,_,a5.l,?_⟩;have a6:=a5.sQ (.lp .busy none 69 t [16] (gW 69 0) (gX 69 0));have q6:(h5.set (n1+1+1) (.lp .busy none 69 t [16] (gW 69 0) (gX 69 0))).get n4=some (.row 114 (y.1.pv y.2.pos)):=by rw[au (by omega)];exact q5
    generalize h5.set (n1+1+1) _=h6 at*;have p6:=a6.p;have f6:=a6.f;have no:y.2.pos≠p->∀h' n',Jo h n n1 tv p false (.lp .busy none 69 t [16] (gW 69 0) (gX 69 0)) h' n'->yQ (n1+1+1) (λb h' n'=>(b=true->Jo h n n1 tv p false (Bf .ready none t) h' n'/\∀y∈(rs.map (·.2)).take (j+1),y.pos≠p)/\(b=false->Jo h n n1 tv p true (Bf .done (some (.exit 2)) t) h' n'/\Ph (rs.map (·.2)) p)) .bX h' n' []:=λhd h' n' a=>by
     refine⟨_,_,_,_,_,_,_,a.l,λ_=>⟨a.sQ _,λz hz=>?_⟩,λe=>(by cases e)⟩;rw[tk]at hz;rcases List.mem_append.1 hz with hz|hz
     .exact hne z hz
     .simp at hz;subst hz;exact hd
    by_cases ho:y.2.pos.own=p.own
    .have hb:(y.2.pos.own==p.own)=true:=by simpa using ho
     by_cases hd:y.2.pos.st.day=p.st.day
     .simp (disch:=omega) only[go_sem,simprocAttr,wE,q6,p6,TS.pv,Zr,hb,decide_eq_true hd]
      rw[aR];obtain⟨s1,s2,s3⟩:=hsr y Z0;have u46:Up h n h6 (n4+1):=a6.u
      with_reducible refine zi K ((hR.st y Z0).up u46) (hS.up u46) s1 s2 s3 λh7 n7 u7=>?_
      have a7:=a6.up u7;by_cases he:y.2.pos.st=p.st
      .rw[yw he]
       have f7:=a7.f;simp (disch:=omega) only[go_sem,simprocAttr,f7];have a8:Jo h n n1 tv p true (.lp .busy none 69 t [16] (gW 69 0) (gX 69 0)) (h7.set (n1+1) (.row 4 [.b true])) n7:=by
        have:=a7.b;have:=a7.n;exact⟨Up.st a7.u _ _ (by omega),by rw[au (by omega)];exact a7.p,aF,by rw[au (by omega)];exact a7.l,a7.b,a7.n⟩
       refine⟨_,_,_,_,_,_,_,a8.l,λe=>(by cases e),λ_=>⟨a8.sQ _,y.2,List.mem_map.2 ⟨y,Z0,rfl⟩,?_⟩⟩;have:∀a b:aN,a.st=b.st->a.own=b.own->a=b:=λ⟨_,_⟩ ⟨_,_⟩ h1 h2=>by cases h1;cases h2;rfl
       exact this _ _ he ho
      .rw[vN he]
       simp (disch:=omega) only[go_sem,simprocAttr];exact no (λe=>he (by rw[e])) _ _ a7
     .simp (disch:=omega) only[go_sem,simprocAttr,wE,q6,p6,TS.pv,Zr,hb,decide_eq_false hd]
      exact no (λe=>hd (by rw[e])) _ _ a6
    .have hb:(y.2.pos.own==p.own)=false:=by simpa using ho
     simp (disch:=omega) only[go_sem,simprocAttr,wE,q6,p6,TS.pv,Zr,hb];exact no (λe=>ho (by rw[e])) _ _ a6
   .rintro _ h' n' ⟨b,rfl,hb⟩
    exact⟨b,rfl,hb⟩
  .rintro h3 n3 ⟨a3,hne⟩
   refine⟨_,_,_,_,_,_,_,a3.l,.inl ⟨rfl,rfl,?_⟩⟩;have a4:=a3.sQ (.lp .exhausted none 69 t [16] (gW 69 0) (gX 69 0));have f4:=a3.f;simp (disch:=omega) only[go_sem,simprocAttr,f4];refine hQ false _ _ a4.u ⟨λe=>(by cases e),λe=>?_⟩;obtain⟨y,hy1,hy2⟩:=e _ (List.mem_of_getElem? hy);rw[<-List.length_map (f:=(·.2)),List.take_length]at hne;exact absurd hy2 (hne y hy1)
  .rintro h3 n3 ⟨a3,hr⟩
   refine⟨_,_,_,_,_,_,_,a3.l,.inr (.inr ⟨2,rfl,rfl,?_⟩)⟩;have a4:=a3.sQ (.lp .exhausted (some (.exit 2)) 69 t [16] (gW 69 0) (gX 69 0));have f4:=a3.f;simp (disch:=omega) only[go_sem,simprocAttr,f4];refine⟨rfl,rfl,_,⟨a4.u,λx hx=>?_,rfl⟩,by(repeat' (first|exact aO|refine aM rfl ?_))⟩;rw[List.take_add_one,hy]at hx;rcases List.mem_append.1 hx with hx|hx
   .exact hin x hx
   .simp at hx;subst hx;exact hr
 .rintro h1 n1 G ⟨u1,hin,rfl⟩
  rw[List.take_length]at hin;simp (disch:=omega) only[go_sem,simprocAttr];exact hQ true _ _ u1 ⟨λ_=>hin,λ_=>rfl⟩
end
end
end
section
noncomputable section
structure DV where
 i:Nat
 tf:TS
 pf:aN
 tt:TS
 pt:aN
@[reducible] def DV.av (d:DV):List AV:=[.i .i64 (d.i:Nat),.i .i64 d.pf.st.day,d.tf.h,d.tf.u,d.tf.m,.b d.pf.own,.i .i64 d.pt.st.day,d.tt.h,d.tt.u,d.tt.m,.b d.pt.own]
structure RS(h:AH)(n:Nat)(C:ay)(cv sv tv dv:AV)(vs:List CS)(dD:List (TS×aI))(l:List Int)(u:Nat):Prop where
 con:SL h n 7 cv (λw:CS=>w.av C) vs
 cons:∀w∈vs,aY h n w C
 NA:SL h n 4 sv QJ dD
 uN:∀x∈dD,bI h n x.1 x.2
 Jp:SL h n 1 tv iw l
 day:SL h n 1 dv cn (List.replicate dD.length u)
 len:vs.length=dD.length
theorem RS.up{h h':AH}{n n':Nat}{C:ay}{cv sv tv dv:AV}{vs:List CS}{dD:List (TS×aI)}{l:List Int}{u:Nat}(a:RS h n C cv sv tv dv vs dD l u)(x:Up h n h' n'):RS h' n' C cv sv tv dv vs dD l u:=
 ⟨a.con.up x,λw hw=>(a.cons w hw).up x,a.NA.up x,λy hy=>(a.uN y hy).up x,a.Jp.up x,a.day.up x,a.len⟩
structure akR(h:AH)(n rb pb:Nat)(C:ay)(cv sv tv dv:AV)(vs:List CS)(dD:List (TS×aI))(l:List Int)(u:Nat)(party:Int):Prop where
 r:h.get rb=some (.row 137 (rA cv sv tv dv))
 p:h.get pb=some (.row 3 [.i .i64 party])
 rn:rb<n
 pn:pb<n
 i:RS h n C cv sv tv dv vs dD l u
section
variable {h h':AH} {n n':Nat} {Q:AV->AH->Nat->Prop}
theorem Ev(K:Nat){cv sv tv dv:AV}{party:Int}(hQ:∀rb pb h' n',Up h n h' n'->h'.get rb=some (.row 137 (rA cv sv tv dv))->h'.get pb=some (.row 3 [.i .i64 party])->n<=rb->n<=pb->rb<n'->pb<n'->Q (.f 145 [.p rb 0,.p pb 0]) h' n'):CW (EF (K+1)) 86 [.agg (rA cv sv tv dv),.i .i64 party] h n Q:=by
 refine aC c61 rfl ?_;repeat' (first|(simp (disch:=omega) only[go_sem,simprocAttr,m61,rA])|(refine aS ?_ ?_<;>(intro hb hd;rw[hb];clear hb))|(with_reducible refine aj ?_))
 exact hQ n (n+1) _ _ aH (by simp (disch:=omega) only[go_sem]) (by simp (disch:=omega) only[go_sem]) (by omega) (by omega) (by omega) (by omega)
theorem Jq(K:Nat){C:ay}{cv sv tv dv:AV}{vs:List CS}{dD:List (TS×aI)}{l:List Int}{u:Nat}{party:Int}{rb pb yr:Nat}(J:AH->Nat->Nat->Prop)(E:AH->Nat->Prop)(ho:C.off.length<=1000000)(hl:l.length<=100000)(hp:0<=party)(run:fu C C.first l (dD.map (·.2)))(oks:∀x∈dD,aK C x.2)
 (hJ:∀h n h' n' k,J h n k->Up h n h' n'->J h' n' k)(KI:∀h n k,J h n k->akR h n rb pb C cv sv tv dv vs dD l u party)(j0:J h n 0)
 (hstep:∀(k:Nat)(t:Int)(x y:TS×aI)(d:DV) h1 n1,l[k]?=some t->dD[k]?=some x->dD[k+1]?=some y->J h1 n1 k->d.i=k->d.tf=x.1->d.pf=⟨x.2,true⟩->d.pt=C.decide party x.2 y.2 t->(d.tt=x.1/\d.pt.st=x.2\/d.tt=y.1/\d.pt.st=y.2)->RW (Y0 yr [.agg d.av] (EF (K+8)) h1 n1) λw h2 n2=>∃b,w= .b b/\(b=true->J h2 n2 (k+1))/\(b=false->E h2 n2))
 (hQ:∀h' n',J h' n' l.length->Q (.bJ []) h' n')(hE:∀h' n',E h' n'->Q (.bJ []) h' n'):CW (EF (K+9)) 145 [.y yr,.p rb 0,.p pb 0] h n Q:=by
 have d0:=KI _ _ _ j0;have r0:=d0.r;refine aC akn rfl ?_;repeat' (first|(simp (disch:=omega) only[go_sem,simprocAttr,adt,r0,rA,d0.i.Jp.len])|(refine aS ?_ ?_<;>(intro hb hd;rw[hb];clear hb))|(with_reducible refine aj ?_))
 refine bP l.length (λk hk nk G=>J hk nk k/\G=[(0,.y yr),(1,.p rb 0),(2,.p pb 0),(8,tv)]) (by omega) (by omega) (by omega) (by omega) (λk h8 n8 G ⟨_,e⟩=>by subst e;exact⟨rfl,rfl⟩) ⟨rfl,rfl,_,⟨j0,rfl⟩,by(repeat' (first|exact aO|refine aM rfl ?_))⟩ ?_ ?_
 .rintro k h3 n3 G hk ⟨j3,rfl⟩
  have d3:=KI _ _ _ j3;have r3:=d3.r;have p3:=d3.p;have rn:=d3.rn;have pn:=d3.pn;obtain⟨b1,o1,t,i1,ht,hb1,rd⟩:=d3.i.Jp.dL (k:=(k:Nat)) (by omega) (by omega) (by omega);rw[show((k:Nat):Int).toNat=k by omega]at ht;repeat' (first|(simp (disch:=omega) only[go_sem,simprocAttr,aJ i1,rd.el,rd.hd,r3])|(refine aS ?_ ?_<;>(intro hb hd;rw[hb];clear hb))|(with_reducible refine aj ?_))
  have hS:=run.len;rw[List.length_map]at hS;obtain⟨x,hx⟩:∃x,dD[k]?=some x:=⟨dD[k]'(by omega),List.getElem?_eq_some_iff.2 ⟨by omega,rfl⟩⟩;obtain⟨y,hy⟩:∃y,dD[k+1]?=some y:=⟨dD[k+1]'(by omega),List.getElem?_eq_some_iff.2 ⟨by omega,rfl⟩⟩;have hSk:(dD.map (·.2))[k]?=some x.2:=by rw[List.getElem?_map,hx];rfl
  obtain⟨s1,s2,s3,s4⟩:=run.step k t x.2 ht hSk;have Z8:=oks x (List.mem_of_getElem? hx);rw[bF];refine qW _ (d3.i.NA.up (show Up h3 n3 h3 (n3+2) by exact aH)) hx λh4 n4 u4=>?_;have e4:=u4.le;have r4:=(u4.old rb (by omega)).trans r3;repeat' (first|(simp (disch:=omega) only[go_sem,simprocAttr,r3,r4])|(refine aS ?_ ?_<;>(intro hb hd;rw[hb];clear hb))|(with_reducible refine aj ?_))
  rw[bF];refine qW _ ((d3.i.NA.up (show Up h3 n3 h3 (n3+2) by exact aH)).up u4) hx λh5 n5 u5=>?_;have e5:=u5.le;have u35:Up h3 n3 h5 n5:=Up.trans (Up.trans (show Up h3 n3 h3 (n3+2) by exact aH) u4) u5;have d5:=d3.i.up u35;have r5:=(u35.old rb rn).trans r3;have p5:=(u35.old pb pn).trans p3;have j5:=hJ _ _ _ _ _ j3 u35;simp (disch:=omega) only[go_sem,simprocAttr,r3,r4,r5];generalize hg:Tr.set (Tr.set (Tr.set h5 n3 _) n3 _) n3 _=h6;have u36:Up h3 n3 h6 n5:=by rw[<-hg];exact aH
  have g6:h6.get n3=some (.row 141 (DV.av ⟨k,x.1,⟨x.2,true⟩,x.1,⟨x.2,false⟩⟩)):=by rw[<-hg];exact aF
  clear hg r5 p5 j5 d5;have d6:=d3.i.up u36;have r6:=(u36.old rb rn).trans r3;have p6:=(u36.old pb pn).trans p3;have j6:=hJ _ _ _ _ _ j3 u36;by_cases ht0:0<=t
  .have hd0:decide (0<=t)=true:=decide_eq_true ht0
   have hlv:=d3.i.len;obtain⟨b6,o6,w,i6,hw,hb6,Tp⟩:=d6.con.dL (k:=(k:Nat)) (by omega) (by omega) (by omega);obtain⟨b7,o7,x',i7,hx',hb7,ZX⟩:=d6.NA.dL (k:=(k:Nat)) (by omega) (by omega) (by omega);rw[show((k:Nat):Int).toNat=k by omega]at hw hx';rw[hx]at hx';cases hx'
   obtain⟨a,ha⟩:∃a,C.acts[t.toNat]?=some a:=⟨C.acts[t.toNat]'(by omega),List.getElem?_eq_some_iff.2 ⟨by omega,rfl⟩⟩;have hdo:C.doer x.2 t=bC x.2.ah a:=by unfold ay.doer;rw[ha]
   repeat' (first|(simp (disch:=omega) only[go_sem,simprocAttr,hd0,r6,i6,i7,Tp.all,ZX.all])|(refine aS ?_ ?_<;>(intro hb hd;rw[hb];clear hb))|(with_reducible refine aj ?_))
   rw[bF];refine Ky _ (d6.cons w (List.mem_of_getElem? hw)) ho (d6.uN x (List.mem_of_getElem? hx)) ((bR C x.2).2 Z8) ht0 ha λh7 n7 u7=>?_;have e7:=u7.le;have d7:=d6.up u7;have r7:=(u7.old rb (by omega)).trans r6;have p7:=(u7.old pb (by omega)).trans p6;have g7:=(u7.old n3 (by omega)).trans g6;have j7:=hJ _ _ _ _ _ j6 u7;rw[<-hdo];by_cases hdp:C.doer x.2 t=party
   .have hdd:decide (C.doer x.2 t=party)=true:=decide_eq_true hdp
    repeat' (first|(simp (disch:=omega) only[go_sem,simprocAttr,p6,p7,hdd,r7])|(refine aS ?_ ?_<;>(intro hb hd;rw[hb];clear hb))|(with_reducible refine aj ?_))
    have wid:gN .i64 ((k:Int)+1)=((k+1:Nat):Int):=by rw[dI (by omega) (by omega)];rfl
    rw[wid,aR];refine qW _ d7.NA hy λh8 n8 u8=>?_;have e8:=u8.le;have g8:=(u8.old n3 (by omega)).trans g7;have u38:Up h3 n3 h8 n8:=(u36.trans u7).trans u8;simp (disch:=omega) only[go_sem,simprocAttr,g8];rw[sI];refine RW.mono (hstep k t x y ⟨k,x.1,⟨x.2,true⟩,y.1,⟨y.2,true⟩⟩ _ _ ht hx hy (hJ _ _ _ _ _ j3 (Up.st u38 _ _ (Nat.le_refl _))) rfl rfl rfl (by unfold ay.decide;rw[if_pos ⟨ht0,hdp⟩]) (.inr ⟨rfl,rfl⟩)) ?_;rintro _ h9 n9 ⟨b,rfl,hb1,hb2⟩;cases b with
    |false=>
     simp (disch:=omega) only[go_sem,simprocAttr];exact hE _ _ (hb2 rfl)
    |true=>
     simp (disch:=omega) only[go_sem,simprocAttr];exact⟨rfl,rfl,_,⟨hb1 rfl,rfl⟩,by(repeat' (first|exact aO|refine aM rfl ?_))⟩
   .have hdd:decide (C.doer x.2 t=party)=false:=decide_eq_false hdp
    repeat' (first|(simp (disch:=omega) only[go_sem,simprocAttr,p6,p7,hdd,g7])|(refine aS ?_ ?_<;>(intro hb hd;rw[hb];clear hb))|(with_reducible refine aj ?_))
    rw[sI];refine RW.mono (hstep k t x y ⟨k,x.1,⟨x.2,true⟩,x.1,⟨x.2,false⟩⟩ _ _ ht hx hy j7 rfl rfl rfl (by unfold ay.decide;rw[if_neg (λe=>hdp e.2)]) (.inl ⟨rfl,rfl⟩)) ?_;rintro _ h9 n9 ⟨b,rfl,hb1,hb2⟩;cases b with
    |false=>
     simp (disch:=omega) only[go_sem,simprocAttr];exact hE _ _ (hb2 rfl)
    |true=>
     simp (disch:=omega) only[go_sem,simprocAttr];exact⟨rfl,rfl,_,⟨hb1 rfl,rfl⟩,by(repeat' (first|exact aO|refine aM rfl ?_))⟩
  .have hd0:decide (0<=t)=false:=decide_eq_false ht0
   repeat' (first|(simp (disch:=omega) only[go_sem,simprocAttr,hd0,g6])|(refine aS ?_ ?_<;>(intro hb hd;rw[hb];clear hb))|(with_reducible refine aj ?_))
   rw[sI];refine RW.mono (hstep k t x y ⟨k,x.1,⟨x.2,true⟩,x.1,⟨x.2,false⟩⟩ _ _ ht hx hy j6 rfl rfl rfl (by unfold ay.decide;rw[if_neg (λe=>ht0 e.1)]) (.inl ⟨rfl,rfl⟩)) ?_;rintro _ h9 n9 ⟨b,rfl,hb1,hb2⟩;cases b with
   |false=>
    simp (disch:=omega) only[go_sem,simprocAttr];exact hE _ _ (hb2 rfl)
   |true=>
    simp (disch:=omega) only[go_sem,simprocAttr];exact⟨rfl,rfl,_,⟨hb1 rfl,rfl⟩,by(repeat' (first|exact aO|refine aM rfl ?_))⟩
 .rintro h3 n3 G ⟨j3,rfl⟩
  repeat' (first|(simp (disch:=omega) only[go_sem,simprocAttr])|(refine aS ?_ ?_<;>(intro hb hd;rw[hb];clear hb))|(with_reducible refine aj ?_))
  exact hQ _ _ j3
end
end
end
section
noncomputable section
def uO(C:ay)(party:Int)(l:List Int)(S:List aI)(k:Nat):Prop:=∀(i:Nat)(t:Int)(a b:aI),i<k->l[i]?=some t->S[i]?=some a->S[i+1]?=some b->¬bM C party ⟨a,true⟩/\¬bM C party (C.decide party a b t)
def Jr(C:ay)(party:Int)(l:List Int)(S:List aI)(k:Nat):Prop:=uO C party l S k/\∃t a b,l[k]?=some t/\S[k]?=some a/\S[k+1]?=some b/\¬bM C party ⟨a,true⟩/\bM C party (C.decide party a b t)
def Js(C:ay)(party:Int)(l:List Int)(S:List aI):Prop:=∃k,k<=l.length/\uO C party l S k/\(k=l.length\/k<l.length/\∃a,S[k]?=some a/\bM C party ⟨a,true⟩)
section
variable {h h':AH} {n n':Nat} {Q:AV->AH->Nat->Prop} {C:ay} {v:CS} {cv sv tv dv:AV} {vs:List CS} {dD:List (TS×aI)} {l:List Int} {party:Int} {u j s lm rb pb:Nat} {ent:List (List UInt8×AV)} {B:Prop}
theorem RS.V8{X:Nat->Prop}(a:RS h n C cv sv tv dv vs dD l u)(b:Uv X h):Kp X h n (λh n=>RS h n C cv sv tv dv vs dD l u):=by
 have k1:=((a.con.kp (a.con.nN b)).and (a.NA.kp (a.NA.nN b))).and ((a.Jp.kp (a.Jp.nN b)).and (a.day.kp (a.day.nN b)));have k2:Kp X h n (λh n=>∀w∈vs,aY h n w C):=λh' n' a1 a2 w hw=>(a.cons w hw).V8 b h' n' a1 a2;have k3:Kp X h n (λh n=>∀x∈dD,bI h n x.1 x.2):=λh' n' a1 a2 x hx=>(a.uN x hx).V8 b h' n' a1 a2;exact((k1.and k2).and k3).wk λh n e=>⟨e.1.1.1.1,e.1.2,e.1.1.1.2,e.2,e.1.1.2.1,e.1.1.2.2,a.len⟩
@[reducible] def dZ:List AV:=[.i .i64 0,.i .i64 0,.k 1,.k 1,.k 1,.b false,.i .i64 0,.k 1,.k 1,.k 1,.b false]
def Q5(st:LoopState)(pd:Option Code)(t:Tr AV):AO:=.lp st pd 42 t [16] (gW 42 0) (gX 42 0)
structure Uw(C:ay)(party:Int)(B:Prop)(u j s lm:Nat)(cv sv tv dv:AV)(vs:List CS)(dD:List (TS×aI))(l:List Int)(h0:AH)(n:Nat)(h:AH):Prop where
 i:RS h n C cv sv tv dv vs dD l u
 jd:∃ent,Jd C u party B h n j s lm ent
 b0:h.get n=some (.row 98 [.p j 0])
 b1:h.get (n+1)=some (.row 137 (rA cv sv tv dv))
 b2:h.get (n+1+1)=some (.row 141 dZ)
 b3:h.get (n+1+1+1)=some (.row 4 [.b false])
 b4:h.get (n+1+1+1+1)=some (.row 41 [.i .i64 0])
 same:∀x,x<n->x≠s->x≠lm->h.get x=h0.get x
 sn:s<n
 ln:lm<n
theorem Up.wide(h:AH){n n':Nat}(e:n<=n'):Up h n h n':=⟨e,λ_ _=>rfl⟩
theorem Uw.mv{h0:AH}(a:Uw C party B u j s lm cv sv tv dv vs dD l h0 n h)(x:∀y,y<n+5->h'.get y=h.get y):Uw C party B u j s lm cv sv tv dv vs dD l h0 n h':=by
 obtain⟨ent,jd⟩:=a.jd;have up:Up h n h' n:=⟨Nat.le_refl _,λy hy=>x y (by omega)⟩;exact⟨a.i.up up,⟨ent,jd.up up⟩,(x _ (by omega)).trans a.b0,(x _ (by omega)).trans a.b1,(x _ (by omega)).trans a.b2,(x _ (by omega)).trans a.b3,(x _ (by omega)).trans a.b4,λy h1 h2 h3=>(x y (by omega)).trans (a.same y h1 h2 h3),a.sn,a.ln⟩
theorem Jd.dn{n':Nat}(a:Jd C u party B h n j s lm ent)(h1:j<n')(h2:s<n')(h3:lm<n'):Jd C u party B h n' j s lm ent:=⟨a.row,a.ms,a.ml,a.ok,h1,h2,h3,a.js,a.jl,a.sl⟩
theorem Uw.on{h0:AH}(a:Uw C party B u j s lm cv sv tv dv vs dD l h0 n h){ent:List (List UInt8×AV)}{m:Nat}(jd:Jd C u party B h' m j s lm ent)(x:∀y,y<n+5->y≠s->y≠lm->h'.get y=h.get y):Uw C party B u j s lm cv sv tv dv vs dD l h0 n h':=by
 obtain⟨asE,jd0⟩:=a.jd;obtain⟨le,ml0,_⟩:=jd0.ml;have:=a.sn;have:=a.ln;exact⟨a.i.V8 (jd0.ms.mps.or ml0.mps) h' n (Nat.le_refl _) λy h1 h2=>x y (by omega) (λe=>h2 (.inl e)) λe=>h2 (.inr e),⟨ent,jd.dn jd0.jn jd0.sn jd0.ln⟩,(x _ (by omega) (by omega) (by omega)).trans a.b0,(x _ (by omega) (by omega) (by omega)).trans a.b1,(x _ (by omega) (by omega) (by omega)).trans a.b2,(x _ (by omega) (by omega) (by omega)).trans a.b3,(x _ (by omega) (by omega) (by omega)).trans a.b4,λy h1 h2 h3=>(x y (by omega) h2 h3).trans (a.same y h1 h2 h3),a.sn,a.ln⟩
theorem uO.succ{S:List aI}{k:Nat}{t:Int}{a b:aI}(h:uO C party l S k)(h1:l[k]?=some t)(h2:S[k]?=some a)(h3:S[k+1]?=some b)(h4:¬bM C party ⟨a,true⟩)(h5:¬bM C party (C.decide party a b t)):uO C party l S (k+1):=λi t' a' b' hi e1 e2 e3=>by
 by_cases e:i<k
 .exact h i t' a' b' e e1 e2 e3
 .obtain rfl:i=k:=by omega
  rw[h1]at e1;rw[h2]at e2;rw[h3]at e3;cases e1;cases e2;cases e3
  exact⟨h4,h5⟩
def LsE(C:ay)(party:Int)(B:Prop)(l:List Int)(S:List aI)(s lm:Nat)(h0:AH)(n L:Nat)(t:Tr AV)(h:AH)(m:Nat):Prop:=∃(d:DV)(b:Bool)(e:Int),h.get (n+1+1)=some (.row 141 d.av)/\h.get (n+1+1+1)=some (.row 4 [.b b])/\h.get (n+1+1+1+1)=some (.row 41 [.i .i64 e])/\
 h.get L=some (Q5 .done (some .ret) t)/\(e=0->b=true->Jr C party l S d.i)/\(e=0->b=false->Js C party l S)/\(e≠0->B)/\n<=m/\(∀x,x<n->x≠s->x≠lm->h.get x=h0.get x)/\n+5<=L
def dD0:DV:=⟨0,⟨.k 1,.k 1,.k 1⟩,⟨⟨0,[],[],[]⟩,false⟩,⟨.k 1,.k 1,.k 1⟩,⟨⟨0,[],[],[]⟩,false⟩⟩
theorem Q6(K:Nat)(hR:RS h n C cv sv tv dv vs dD l u)(a:Jd C u party B h n j s lm ent)(ho:C.off.length<=1000000)(hl:l.length<=100000)(hu:u<100)(hp0:0<=party)(hp1:party<C.aD)(run:fu C C.first l (dD.map (·.2)))(oks:∀x∈dD,aK C x.2)(hB:∀x∈dD,∀b,gT C party ⟨x.2,b⟩->B)
 (jV:∀(d:DV)(b:Bool) e h' n',e≠0->B->n<=n'->(∀x,x<n->x≠s->x≠lm->h'.get x=h.get x)->Q (.bJ [.agg d.av,.b b,.i .i64 e]) h' n')
 (hQ:∀(d:DV)(b:Bool) h' n',(b=true->Jr C party l (dD.map (·.2)) d.i)->(b=false->Js C party l (dD.map (·.2)))->n<=n'->(∀x,x<n->x≠s->x≠lm->h'.get x=h.get x)->Q (.bJ [.agg d.av,.b b,.i .i64 0]) h' n'):CW (EF (K+409)) 42 [.p j 0,.agg (rA cv sv tv dv)] h n Q:=by
 obtain⟨r,X_,hrow⟩:=a.row;have hjn:=a.jn;have hsn:=a.sn;have hln:=a.ln;refine aC c34 rfl ?_;repeat' (first|(simp (disch:=omega) only[go_sem,simprocAttr,ub.old,m34,rA,hrow])|(simp (disch:=omega) only[go_sem,simprocAttr,m34,rA,hrow])|(refine aS ?_ ?_<;>(intro hb hd;rw[hb];clear hb))|(with_reducible refine aj ?_))
 generalize hh:Tr.set (Tr.set (Tr.set (Tr.set (Tr.set h n _) (n+1) _) (n+1+1) _) (n+1+1+1) _) (n+1+1+1+1) _=h1;have u1:Up h n h1 (n+5):=by rw[<-hh];exact aH
 have b0:h1.get n=some (.row 98 [.p j 0]):=by rw[<-hh];simp (disch:=omega) only[go_sem]
 have b1:h1.get (n+1)=some (.row 137 (rA cv sv tv dv)):=by rw[<-hh];simp (disch:=omega) only[go_sem]
 have b2:h1.get (n+1+1)=some (.row 141 dZ):=by rw[<-hh];simp (disch:=omega) only[go_sem]
 have b3:h1.get (n+1+1+1)=some (.row 4 [.b false]):=by rw[<-hh];simp (disch:=omega) only[go_sem]
 have b4:h1.get (n+1+1+1+1)=some (.row 41 [.i .i64 0]):=by rw[<-hh];simp (disch:=omega) only[go_sem]
 clear hh;have A1:Uw C party B u j s lm cv sv tv dv vs dD l h n h1:=⟨hR.up ⟨Nat.le_refl _,u1.old⟩,⟨ent,a.up ⟨Nat.le_refl _,u1.old⟩⟩,b0,b1,b2,b3,b4,λx hx _ _=>u1.old x hx,hsn,hln⟩;rw[bF];show CW _ 86 [.agg (rA cv sv tv dv),.i .i64 party] h1 (n+5) _;refine Ev (K+407) λrb pb h2 n2 u2 r2 p2 g1 g2 g3 g4=>?_;have e2:=u2.le;have A2:=A1.mv u2.old;simp (disch:=omega) only[go_sem,simprocAttr,b1,A2.b1];refine oH rfl λt hF=>?_;refine Jq (K+399) (C:=C) (vs:=vs) (dD:=dD) (l:=l) (u:=u) (party:=party) (cv:=cv) (sv:=sv) (tv:=tv) (dv:=dv) (rb:=rb) (pb:=pb) (λhk nk k=>Uw C party B u j s lm cv sv tv dv vs dD l h n hk/\hk.get rb=some (.row 137 (rA cv sv tv dv))/\hk.get pb=some (.row 3 [.i .i64 party])/\hk.get n2=some (Q5 .ready none t)/\n2<nk/\uO C party l (dD.map (·.2)) k) (LsE C party B l (dD.map (·.2)) s lm h n n2 t) ho hl hp0 run oks ?_ ?_ ?_ ?_ ?_ ?_
 .rintro h' n' h'' n'' k ⟨c1,c2,c3,c6,c7,c8⟩ u
  have:=u.le;exact⟨c1.mv λy hy=>u.old y (by omega),(u.old _ (by omega)).trans c2,(u.old _ (by omega)).trans c3,(u.old _ c7).trans c6,by omega,c8⟩
 .rintro h' n' k ⟨c1,c2,c3,c6,c7,c8⟩
  exact⟨c2,c3,by omega,by omega,c1.i.up (Up.wide _ (by omega))⟩
 .exact⟨A2.mv λy hy=>au (by omega),(au (by omega)).trans r2,(au (by omega)).trans p2,aF,by omega,λi _ _ _ hi=>absurd hi (by omega)⟩
 .rintro k tk x y d h3 n3 hlk hx hy ⟨c1,c2,c3,c6,c7,c8⟩ d1 d2 d3 d4 d5
  have hk1:k<l.length:=(List.getElem?_eq_some_iff.1 hlk).1;have hkS:k<dD.length:=(List.getElem?_eq_some_iff.1 hx).1;have hlv:=c1.i.len;obtain⟨w,hw⟩:∃w,vs[k]?=some w:=⟨vs[k]'(by omega),List.getElem?_eq_some_iff.2 ⟨by omega,rfl⟩⟩;have hxm:=List.mem_of_getElem? hx;have hym:=List.mem_of_getElem? hy;have hS1:(dD.map (·.2))[k]?=some x.2:=by rw[List.getElem?_map,hx];rfl
  have hS2:(dD.map (·.2))[k+1]?=some y.2:=by rw[List.getElem?_map,hy];rfl
  refine RW.mono (lV (d:=19) (F:=_) (bs:=[true]) (R:=λb h' n'=>(b=true->Uw C party B u j s lm cv sv tv dv vs dD l h n h'/\h'.get rb=some (.row 137 (rA cv sv tv dv))/\h'.get pb=some (.row 3 [.i .i64 party])/\h'.get n2=some (Q5 .ready none t)/\n2<n'/\uO C party l (dD.map (·.2)) (k+1))/\(b=false->LsE C party B l (dD.map (·.2)) s lm h n n2 t h' n')) c6 hF (by kernel_rfl) rfl Zc Zd ?_) ?_
  .simp (disch:=omega) only[go_sem,simprocAttr,QD,Nu]
   generalize hx3:Tr.set (Tr.set h3 n3 _) n3 _=h4;have u34:Up h3 n3 h4 (n3+1):=by rw[<-hx3];exact aH
   have g7:h4.get n3=some (.row 141 d.av):=by rw[<-hx3];exact aF
   clear hx3;have r6:=(u34.old n2 c7).trans c6;refine⟨_,_,_,_,_,_,r6,?_⟩;have A4:=c1.mv (h':=h4.set n2 (.lp .busy none 42 t [16] (gW 42 0) (gX 42 0))) λy hy=>by rw[au (by omega),u34.old y (by omega)]
   have r2':(h4.set n2 (.lp .busy none 42 t [16] (gW 42 0) (gX 42 0))).get rb=some (.row 137 (rA cv sv tv dv)):=by rw[au (by omega),u34.old rb (by omega)];exact c2
   have p2':(h4.set n2 (.lp .busy none 42 t [16] (gW 42 0) (gX 42 0))).get pb=some (.row 3 [.i .i64 party]):=by rw[au (by omega),u34.old pb (by omega)];exact c3
   have r6':(h4.set n2 (.lp .busy none 42 t [16] (gW 42 0) (gX 42 0))).get n2=some (.lp .busy none 42 t [16] (gW 42 0) (gX 42 0)):=aF;have g7':(h4.set n2 (.lp .busy none 42 t [16] (gW 42 0) (gX 42 0))).get n3=some (.row 141 d.av):=by rw[au (by omega)];exact g7
   generalize h4.set n2 _=h5 at*;obtain⟨asG,jd5⟩:=A4.jd;obtain⟨r5,X3,aor⟩:=jd5.row;obtain⟨i0,tf,pf,tt,pt⟩:=d;dsimp only at d1 d2 d3 d4 d5;subst d1 d2 d3;simp (disch:=omega) only[go_sem,simprocAttr,QE,A4.b0,A4.b1,g7',DV.av];rw[aR];have R5:=A4.i.up (Up.wide h5 (show n<=n3+1 by omega));have sn:=A4.sn;have ln:=A4.ln;refine Cw K (k:=i0) (vs:=vs) (C:=C) (party:=party) (p:=⟨x.2,true⟩) (tq:=x.1) (N:=dD.length) (u:=u) hw R5.con (R5.cons w (List.mem_of_getElem? hw)) ho R5.day hkS hu (jd5.dn (by have:=jd5.jn;omega) (by omega) (by have:=jd5.ln;omega)) (R5.uN x hxm) (oks x hxm) hp0 hp1 (hB x hxm true) (λe h6 n6 he hBB l6 x6=>?_) λb1 asH h6 n6 hb1 jd6 l6 x6=>?_
   .have r66:=(x6 n2 (by omega) (by omega) (by omega)).trans r6'
    have b26:=(x6 (n+1+1) (by omega) (by omega) (by omega)).trans A4.b2;have b36:=(x6 (n+1+1+1) (by omega) (by omega) (by omega)).trans A4.b3;have b46:=(x6 (n+1+1+1+1) (by omega) (by omega) (by omega)).trans A4.b4;have hd:decide (e=0)=false:=decide_eq_false he;simp (disch:=omega) only[go_sem,simprocAttr,b26,b36,b46,hd];refine⟨_,_,_,_,_,_,_,by simp (disch:=omega) only[go_sem];exact r66,(λe=>by cases e),λ_=>?_⟩;refine⟨dD0,false,e,by simp (disch:=omega) only[go_sem];rfl,by simp (disch:=omega) only[go_sem],by simp (disch:=omega) only[go_sem],aF,(λh=>absurd h he),(λh=>absurd h he),λ_=>hBB,by omega,λy hy hne hne2=>?_,by omega⟩;simp (disch:=omega) only[go_sem];rw[x6 y (by omega) hne hne2];exact A4.same y hy hne hne2
   have A6:=A4.on jd6 λy hy hne hne2=>x6 y (by omega) hne hne2;have r26:=(x6 rb (by omega) (by omega) (by omega)).trans r2';have p26:=(x6 pb (by omega) (by omega) (by omega)).trans p2';have r66:=(x6 n2 (by omega) (by omega) (by omega)).trans r6';have g76:=(x6 n3 (by omega) (by omega) (by omega)).trans g7';cases b1 with
   |false=>
    have V7:bM C party ⟨x.2,true⟩:=Classical.byContradiction λe=>by cases hb1.2 e
    simp (disch:=omega) only[go_sem,simprocAttr,A6.b2,A6.b3,A6.b4];refine⟨_,_,_,_,_,_,_,by simp (disch:=omega) only[go_sem];exact r66,(λe=>by cases e),λ_=>?_⟩;refine⟨dD0,false,0,by simp (disch:=omega) only[go_sem];rfl,by simp (disch:=omega) only[go_sem],by simp (disch:=omega) only[go_sem],aF,(λ_ e=>by cases e),λ_ _=>⟨i0,by omega,c8,.inr ⟨hk1,_,hS1,V7⟩⟩,(λe=>absurd rfl e),by omega,λy hy hne hne2=>?_,by omega⟩;simp (disch:=omega) only[go_sem];exact A6.same y hy hne hne2
   |true=>
    have hsf:¬bM C party ⟨x.2,true⟩:=hb1.1 rfl;have R6:=A6.i.up (Up.wide h6 (show n<=n6 by omega));obtain⟨pst,Ux⟩:=pt;have hpt:bI h6 n6 tt pst/\aK C pst/\(gT C party ⟨pst,Ux⟩->B):=by
     rcases d5 with⟨rfl,e⟩|⟨rfl,e⟩
     .dsimp only at e;subst e;exact⟨R6.uN x hxm,oks x hxm,hB x hxm _⟩
     .dsimp only at e;subst e;exact⟨R6.uN y hym,oks y hym,hB y hym _⟩
    simp (disch:=omega) only[go_sem,simprocAttr,A6.b0,A6.b1,g76,DV.av];rw[aR];refine Cw K (k:=i0) (vs:=vs) (C:=C) (party:=party) (p:=⟨pst,Ux⟩) (tq:=tt) (N:=dD.length) (u:=u) hw R6.con (R6.cons w (List.mem_of_getElem? hw)) ho R6.day hkS hu jd6 hpt.1 hpt.2.1 hp0 hp1 hpt.2.2 (λe h7 n7 he hBB l7 x7=>?_) λb2 asM h7 n7 hb2 jd7 l7 x7=>?_
    .have r67:=(x7 n2 (by omega) (by omega) (by omega)).trans r66
     have b27:=(x7 (n+1+1) (by omega) (by omega) (by omega)).trans A6.b2;have b37:=(x7 (n+1+1+1) (by omega) (by omega) (by omega)).trans A6.b3;have b47:=(x7 (n+1+1+1+1) (by omega) (by omega) (by omega)).trans A6.b4;have hd:decide (e=0)=false:=decide_eq_false he;simp (disch:=omega) only[go_sem,simprocAttr,b27,b37,b47,hd];refine⟨_,_,_,_,_,_,_,by simp (disch:=omega) only[go_sem];exact r67,(λe=>by cases e),λ_=>?_⟩;refine⟨dD0,false,e,by simp (disch:=omega) only[go_sem];rfl,by simp (disch:=omega) only[go_sem],by simp (disch:=omega) only[go_sem],aF,(λh=>absurd h he),(λh=>absurd h he),λ_=>hBB,by omega,λy hy hne hne2=>?_,by omega⟩;simp (disch:=omega) only[go_sem];rw[x7 y (by omega) hne hne2];exact A6.same y hy hne hne2
    have A7:=A6.on jd7 λy hy hne hne2=>x7 y (by omega) hne hne2;have r27:=(x7 rb (by omega) (by omega) (by omega)).trans r26;have p27:=(x7 pb (by omega) (by omega) (by omega)).trans p26;have r67:=(x7 n2 (by omega) (by omega) (by omega)).trans r66;have g77:=(x7 n3 (by omega) (by omega) (by omega)).trans g76;cases b2 with
    |false=>
     have V7:bM C party ⟨pst,Ux⟩:=Classical.byContradiction λe=>by cases hb2.2 e
     simp (disch:=omega) only[go_sem,simprocAttr,g77,DV.av,A7.b2,A7.b3,A7.b4];refine⟨_,_,_,_,_,_,_,by simp (disch:=omega) only[go_sem];exact r67,(λe=>by cases e),λ_=>?_⟩;refine⟨⟨i0,x.1,⟨x.2,true⟩,tt,⟨pst,Ux⟩⟩,true,0,by simp (disch:=omega) only[go_sem],by simp (disch:=omega) only[go_sem],by simp (disch:=omega) only[go_sem],aF,λ_ _=>⟨c8,_,_,_,hlk,hS1,hS2,hsf,by rw[<-d4];exact V7⟩,(λ_ e=>by cases e),(λe=>absurd rfl e),by omega,λy hy hne hne2=>?_,by omega⟩;simp (disch:=omega) only[go_sem];exact A7.same y hy hne hne2
    |true=>
     simp (disch:=omega) only[go_sem,simprocAttr];refine⟨_,_,_,_,_,_,_,r67,λ_=>⟨A7.mv λy hy=>au (by omega),(au (by omega)).trans r27,(au (by omega)).trans p27,aF,by omega,c8.succ hlk hS1 hS2 hsf (by rw[<-d4];exact hb2.1 rfl)⟩,(λe=>by cases e)⟩
  .rintro u h' n' ⟨b,rfl,hb⟩
   exact⟨b,rfl,hb⟩
 .rintro h3 n3 ⟨c1,c2,c3,c6,c7,c8⟩
  refine⟨_,_,_,_,_,_,_,c6,.inl ⟨rfl,rfl,?_⟩⟩;simp (disch:=omega) only[go_sem,simprocAttr,c1.b2,c1.b3,c1.b4];refine hQ dD0 false _ _ (λe=>by cases e) (λ_=>⟨l.length,Nat.le_refl _,c8,.inl rfl⟩) (by omega) λx hx hne hne2=>?_;simp (disch:=omega) only[go_sem];exact c1.same x hx hne hne2
 .rintro h3 n3 ⟨d,b,e,q2,q3,q4,q5,q6,q7,qB,q8,q9,RP⟩
  refine⟨_,_,_,_,_,_,_,q5,.inr (.inl ⟨rfl,rfl,?_⟩)⟩;simp (disch:=omega) only[go_sem,simprocAttr,q2,q3,q4];by_cases he:e=0
  .subst he
   exact hQ d b _ _ (q6 rfl) (q7 rfl) (by omega) λx hx hne hne2=>by rw[au (by omega)];exact q9 x hx hne hne2
  .exact jV d b e _ _ he (qB he) (by omega) λx hx hne hne2=>by rw[au (by omega)];exact q9 x hx hne hne2
end
end
end
section
noncomputable section
set_option maxRecDepth 1000000
set_option maxHeartbeats 4000000
end
end
section
noncomputable section
section
variable {h h':AH} {n n':Nat} {Q:AV->AH->Nat->Prop}
theorem MX(K b c:Nat)(fv:AV)(h:AH)(n:Nat):EF (K+3) 73 [.sl b 0 0 0 (some c),fv] h n= .ok (.bJ []) h n:=by kernel_rfl
theorem Q7(K:Nat){b c:Nat}{fv:AV}(hQ:Q (.bJ []) h n):CW (EF (K+3)) 73 [.sl b 0 0 0 (some c),fv] h n Q:=⟨_,_,_,MX K b c fv h n,hQ⟩
theorem Cz:GA (some (AV.k 1))=some (.i .i64 ((0:Nat):Int)):=rfl
theorem Ws{b:Nat}{c:Option Nat}:GA (some (.sl b 0 0 0 c))=some (.i .i64 ((0:Nat):Int)):=rfl
theorem Q8(K:Nat)(hQ:∀b h' n',Up h n h' n'->b<n'->Q (.sl b 0 0 0 (some 0)) h' n'):CW (EF (K+4)) 37 [.k 1] h n Q:=by
 refine aC c35 rfl ?_;repeat' (first|(simp (disch:=omega) only[go_sem,simprocAttr,m35,Cz])|(refine aS ?_ ?_<;>(intro hb hd;rw[hb];clear hb))|(with_reducible refine aj ?_))
 refine bP 0 (λk hk nk G=>Up h n hk nk/\n<nk/\G=[(0,.k 1),(3,.sl n 0 0 0 (some 0))]) (by omega) (by omega) (by omega) (by omega) (λk h8 n8 G ⟨_,_,e⟩=>by subst e;exact⟨rfl,rfl⟩) ⟨rfl,rfl,_,⟨by exact aH,by omega,rfl⟩,by(repeat' (first|exact aO|refine aM rfl ?_))⟩ (λk _ _ _ hk=>absurd hk (by omega)) ?_;rintro h1 n1 G ⟨u1,l1,rfl⟩;have e1:=u1.le;simp (disch:=omega) only[go_sem,simprocAttr];rw[aR];refine Q7 K ?_;repeat' (first|(simp (disch:=omega) only[go_sem,simprocAttr,Cz,Ws])|(refine aS ?_ ?_<;>(intro hb hd;rw[hb];clear hb))|(with_reducible refine aj ?_))
 refine bP 0 (λk hk nk G=>Up h n hk nk/\n1<nk/\G=[(6,.sl n1 0 0 0 (some 0))]) (by omega) (by omega) (by omega) (by omega) (λk h8 n8 G ⟨_,_,e⟩=>by subst e;exact⟨rfl,rfl⟩) ⟨rfl,rfl,_,⟨by exact aH,by omega,rfl⟩,by(repeat' (first|exact aO|refine aM rfl ?_))⟩ (λk _ _ _ hk=>absurd hk (by omega)) ?_;rintro h2 n2 G ⟨u2,l2,rfl⟩;simp (disch:=omega) only[go_sem,simprocAttr];exact hQ n1 _ _ u2 l2
end
end
end
section
noncomputable section
section
variable {h h':AH} {n n':Nat} {Q:AV->AH->Nat->Prop} {C:ay} {v:CS} {l:List Int}
theorem MZ(K:Nat){tv:AV}(hQ:∀cb lb tb h' n',Up h n h' n'->h'.get cb=some (.row 27 (v.av C))->h'.get lb=some (.row 28 [.k 1])->h'.get tb=some (.row 22 [tv])->n<=cb->n<=lb->n<=tb->cb<n'->lb<n'->tb<n'->Q (.f 75 [.p cb 0,.p lb 0,.p tb 0]) h' n')(hc:pO tv=some [tv]):CW (EF (K+1)) 38 [.agg (v.av C),.k 1,tv] h n Q:=by
 refine aC c36 rfl ?_;repeat' (first|(simp (disch:=omega) only[go_sem,simprocAttr,m36,CS.av,hc])|(refine aS ?_ ?_<;>(intro hb hd;rw[hb];clear hb))|(with_reducible refine aj ?_))
 exact hQ n (n+1) (n+2) _ _ aH (by simp (disch:=omega) only[go_sem]) (by simp (disch:=omega) only[go_sem]) (by simp (disch:=omega) only[go_sem]) (by omega) (by omega) (by omega) (by omega) (by omega) (by omega)
structure Zt(h:AH)(n cb lb tb:Nat)(v:CS)(C:ay)(tv:AV)(l:List Int):Prop where
 c:h.get cb=some (.row 27 (v.av C))
 l0:h.get lb=some (.row 28 [.k 1])
 t:h.get tb=some (.row 22 [tv])
 cn:cb<n
 ln:lb<n
 tn:tb<n
 con:aY h n v C
 Jp:SL h n 1 tv iw l
def Bg(C:ay)(l:List Int)(S:List aI):Prop:=S.length<=l.length+1/\(S≠[]->fu C C.first (l.take (S.length - 1)) S)
theorem Bg.snoc{S:List aI}{k:Nat}{t:Int}{s:aI}(h:Bg C l S)(hk:S.length=k+1)(ht:l[k]?=some t)(hs:S[k]?=some s)(h1: -1<=t)(h2:t<C.acts.length)(h3:s.day<C.days):Bg C l (S++[C.aU s t]):=by
 have hkl:=(List.getElem?_eq_some_iff.1 ht).1;refine⟨by rw[List.length_append,List.length_singleton];omega,λ_=>?_⟩;have r:=h.2 (by rintro rfl;cases hk);rw[hk,Nat.add_sub_cancel]at r;have hlen:(l.take k).length=k:=by rw[List.length_take];omega
 have:=r.snoc (t:=t) (a:=s) (by rw[hlen];exact hs) h1 h2 h3;rw[List.length_append,List.length_singleton,hk,show k+1+1 - 1=k+1 by omega];have e:l.take (k+1)=l.take k++[t]:=by
  rw[List.take_succ,ht];rfl
 rw[e];exact this
theorem Kp.xL{X X' P:Nat->Prop}{A:HP}(k:Kp (λx=>X x\/P x) h n A)(le:n<=n')(s:∀x,x<n->¬X x->h'.get x=h.get x)(hx:∀x,X' x->X x\/n<=x):Kp (λx=>X' x\/P x) h' n' A:=λh2 n2 l2 s2=>k h2 n2 (Nat.le_trans le l2) λx hxn hX=>by
 rw[s2 x (by omega) (λe=>?_),s x hxn λe=>hX (.inl e)];rcases e with e|e
 .rcases hx x e with e|e
  .exact hX (.inl e)
  .omega
 .exact hX (.inr e)
theorem Kp.tr{Z Y:Nat->Prop}{A:HP}(k:Kp Z h n A)(le:n<=n')(s:∀x,x<n->¬Z x->h'.get x=h.get x)(y:∀x,x<n->Y x->Z x):Kp Y h' n' A:=
 λh2 n2 l2 s2=>k h2 n2 (Nat.le_trans le l2) λx hx hz=>(s2 x (by omega) λe=>hz (y x hx e)).trans (s x hx hz)
theorem fu.same{S S':List aI}{s:aI}{k:Nat}(a:fu C s l S')(b:fu C s (l.take k) S)(hk:k<=l.length):∀j,j<=k->S'[j]?=S[j]?:=by
 intro j;induction j with
 |zero=>intro _;rw[a.hd,b.hd]
 |succ j ih=>
  intro hj;have e:=ih (by omega);obtain⟨t,ht⟩:∃t,l[j]?=some t:=⟨l[j]'(by omega),List.getElem?_eq_some_iff.2 ⟨by omega,rfl⟩⟩;have ht':(l.take k)[j]?=some t:=by rw[List.getElem?_take,if_pos (by omega),ht]
  have hl:=b.len;rw[List.length_take]at hl;obtain⟨x,hx⟩:∃x,S[j]?=some x:=⟨S[j]'(by omega),List.getElem?_eq_some_iff.2 ⟨by omega,rfl⟩⟩;rw[(a.step j t x ht (e.trans hx)).2.2.2,(b.step j t x ht' hx).2.2.2]
theorem Bg.at_{S S':List aI}{k:Nat}{t:Int}{s:aI}(h:Bg C l S)(hk:S.length=k+1)(ht:l[k]?=some t)(hs:S[k]?=some s)(a:fu C C.first l S'): -1<=t/\t<C.acts.length/\s.day<C.days:=by
 have hkl:=(List.getElem?_eq_some_iff.1 ht).1;have r:=h.2 (by rintro rfl;cases hk);rw[hk,Nat.add_sub_cancel]at r;have e:=a.same r (by omega) k (Nat.le_refl _);obtain⟨h1,h2,h3,_⟩:=a.step k t s ht (e.trans hs);exact⟨h1,h2,h3⟩
structure SgJ(J:(Nat->Prop)->(Nat->Prop)->AH->Nat->List aI->Prop)(E:AH->Nat->Prop)(K cb lb tb yr:Nat)(v:CS)(C:ay)(tv:AV)(l:List Int)(h0:AH)(n0:Nat):Prop where
 up:∀P X h n h' n' S,J P X h n S->Up h n h' n'->J P X h' n' S
 pv:∀P X h n S b o,J P X h n S->P b->J P X (h.set b o) n S
 X:∀P X h n S,J P X h n S->∀x,X x->x<n/\¬P x
 i:∀P X h n S,J P X h n S->Zt h n cb lb tb v C tv l
 j0:∃X:Nat->Prop,(∀x,X x->x<n0)/\∀P h' n',Up h0 n0 h' n'->(∀x,P x->n0<=x/\x<n')->J P X h' n' []
 step:∀P X h1 n1 S s tq,J P X h1 n1 S->Bg C l (S++[s])->aK C s->Kp (λx=>X x\/(P x\/x<n0)) h1 n1 (λh n=>bI h n tq s)->RW (Y0 yr [.agg (v.av C++tq.av s),.i .i64 0] (EF (K+9)) h1 n1) λw h2 n2=>∃X',w= .b true/\J P X' h2 n2 (S++[s])/\n1<=n2/\(∀x,x<n1->¬X x->h2.get x=h1.get x)/\∀x,X' x->X x\/n1<=x
 err:∀P X h1 n1 S e c0 c1 c2 c3,J P X h1 n1 S->e≠0->(¬∃S',fu C C.first l S')->RW (Y0 yr [.agg (v.av C++[c0,c1,c2,c3]),.i .i64 e] (EF (K+9)) h1 n1) λw h2 n2=>w= .b false/\E h2 n2
theorem Jt(K:Nat){yr cb lb tb:Nat}{tv:AV}{J:(Nat->Prop)->(Nat->Prop)->AH->Nat->List aI->Prop}{E:AH->Nat->Prop}(hv:C.valid=true)(ho:C.off.length<=1000000)(hl:l.length<=100000)(c:SgJ J E K cb lb tb yr v C tv l h n)
 (hQ:∀P X h' n' S,fu C C.first l S->J P X h' n' S->Q (.bJ []) h' n')(hE:∀h' n',E h' n'->Q (.bJ []) h' n'):CW (EF (K+10)) 75 [.y yr,.p cb 0,.p lb 0,.p tb 0] h n Q:=by
 obtain⟨X0,x0,j0⟩:=c.j0;have d0:=c.i _ _ _ _ _ (j0 (λ_=>False) h n (Up.refl _ _) (λ_ h=>h.elim));have q1:=d0.c;have q2:=d0.l0;have q3:=d0.t;have cn:=d0.cn;have ln:=d0.ln;have tn:=d0.tn;refine aC c65 rfl ?_;repeat' (first|(simp (disch:=omega) only[go_sem,simprocAttr,ub.old,m65,CS.av,q1,q2,q3,Cz])|(simp (disch:=omega) only[go_sem,simprocAttr,m65,CS.av,q1,q2,q3,Cz])|(refine aS ?_ ?_<;>(intro hb hd;rw[hb];clear hb))|(with_reducible refine aj ?_))
 generalize hh:Tr.set (Tr.set h n _) n _=h1;have u1:Up h n h1 (n+1):=by rw[<-hh];exact aH
 have g1:h1.get n=some (.row 27 (v.av C)):=by rw[<-hh];exact aF
 clear hh;refine bP 0 (λk hk nk G=>hk=h1/\nk=n+1/\G=[(0,.y yr),(1,.p cb 0),(2,.p lb 0),(3,.p tb 0),(5,.p n 0)]) (by omega) (by omega) (by omega) (by omega) (λk h8 n8 G ⟨_,_,e⟩=>by subst e;exact⟨rfl,rfl⟩) ⟨rfl,rfl,_,⟨rfl,rfl,rfl⟩,by(repeat' (first|exact aO|refine aM rfl ?_))⟩ (λk _ _ _ hk=>absurd hk (by omega)) ?_;rintro _ _ G ⟨rfl,rfl,rfl⟩;simp (disch:=omega) only[go_sem,simprocAttr,g1,CS.av];rw[aR];refine AQ _ (d0.con.up u1) ho (λe=>by rw[hv]at e;cases e) λ_ RN h2 n2 u2 k2=>?_;have e2:=u2.le;have g2:=(u2.old n (by omega)).trans g1;simp (disch:=omega) only[go_sem,simprocAttr,TS.av,g2,CS.av];generalize hh:Tr.set (Tr.set h2 n2 _) n2 _=h3;have u3:Up h2 n2 h3 (n2+1):=by rw[<-hh];exact aH
 have k3:Kp (λx=>x<n+1\/x=n2) h3 (n2+1) (λh n=>bI h n RN C.first):=by
  rw[<-hh];exact((k2.le (Y:=λx=>x<n+1\/x=n2) λx hx e=>by omega).set (.inl (.inr rfl)) (Nat.le_refl _)).set (.inl (.inr rfl)) (by omega)
 have g3:h3.get n2=some (.row 77 (RN.av C.first)):=by rw[<-hh];exact aF
 clear hh;have g23:=(u3.old n (by omega)).trans g2;have J3:=j0 (λx=>x=n\/x=n2) h3 (n2+1) ((u1.trans u2).trans u3) (λx hx=>by rcases hx with rfl|rfl<;>exact⟨by omega,by omega⟩);have nX0:∀x,n<=x->¬X0 x:=λx hx e=>by have:=x0 _ e;omega
 have k3':Kp (λx=>X0 x\/((x=n\/x=n2)\/x<n)) h3 (n2+1) (λh n=>bI h n RN C.first):=k3.le λx _ e=>by
  rcases e with e|e
  .have:=x0 x e;omega
  .omega
 rw[sI];refine RW.mono (c.step _ _ _ _ _ C.first RN J3 ⟨by simp,λ_=>fu.nil C C.first⟩ (qI hv) k3') ?_;rintro _ h4 n4 ⟨X4,rfl,J4,l4,s4,x4⟩;have g4:=(s4 n (by omega) (nX0 _ (by omega))).trans g23;have g44:=(s4 n2 (by omega) (nX0 _ (by omega))).trans g3;have d4:=c.i _ _ _ _ _ J4;have q34:=d4.t;simp (disch:=omega) only[go_sem,simprocAttr,q34,d4.Jp.len];refine bP l.length (λk hk nk G=>∃X S s tq,J (λx=>x=n\/x=n2) X hk nk S/\S.length=k+1/\S[k]?=some s/\Bg C l S/\aK C s/\Kp (λx=>X x\/((x=n\/x=n2)\/x<n)) hk nk (λh n=>bI h n tq s)/\hk.get n=some (.row 27 (v.av C))/\hk.get n2=some (.row 77 (tq.av s))/\n2<nk/\G=[(0,.y yr),(2,.p lb 0),(5,.p n 0),(10,.p n2 0),(56,tv)]) (by omega) (by omega) (by omega) (by omega) (λk h8 n8 G ⟨_,_,_,_,_,_,_,_,_,_,_,_,_,e⟩=>by subst e;exact⟨rfl,rfl⟩) ⟨rfl,rfl,_,⟨X4,_,C.first,RN,J4,rfl,rfl,⟨by simp,λ_=>fu.nil C C.first⟩,qI hv,k3'.xL l4 s4 x4,g4,g44,by omega,rfl⟩,by(repeat' (first|exact aO|refine aM rfl ?_))⟩ ?_ ?_
 .rintro k0 hk nk G hkl ⟨X,S,s,tq,Jk,hS,hs,rt,so,ks,gn,gn2,ln2,rfl⟩
  have dk:=c.i _ _ _ _ _ Jk;have Xk:=c.X _ _ _ _ _ Jk;obtain⟨b1,o1,t,i1,ht,hb1,rd⟩:=dk.Jp.dL (k:=(k0:Nat)) (by omega) (by omega) (by omega);rw[show((k0:Nat):Int).toNat=k0 by omega]at ht;repeat' (first|(simp (disch:=omega) only[go_sem,simprocAttr,ub.old,aJ i1,rd.el,rd.hd,gn,gn2,CS.av,TS.av])|(simp (disch:=omega) only[go_sem,simprocAttr,aJ i1,rd.el,rd.hd,gn,gn2,CS.av,TS.av])|(refine aS ?_ ?_<;>(intro hb hd;rw[hb];clear hb))|(with_reducible refine aj ?_))
  rw[aR];have hst:=(bR C s).2 so;refine oK (K+1) (s:=s) (tv:=tq) dk.con ho ks.use t (λe h5 n5 u5=>?_) (λ_ e1 e2 e3 h5 n5 u5=>?_) (λ_ e1 e2 e3 Wt h5 n5 u5 k5=>?_)
  .have e5:=u5.le
   have gn5:=(u5.old n (by omega)).trans gn;have Q9:=(u5.old n2 (by omega)).trans gn2;have J6:=c.pv _ _ _ _ _ n2 (.row 77 [.i .i64 0,.k 1,.k 1,.k 1]) (c.up _ _ _ _ _ _ _ Jk u5) (.inr rfl);simp (disch:=omega) only[go_sem,simprocAttr,VG,Q9,TS.av,gn5,CS.av,Int.reduceEq];rw[sI];refine RW.mono (c.err _ _ _ _ _ 1 (.i .i64 0) (.k 1) (.k 1) (.k 1) J6 (by omega) λ⟨S',a⟩=>by
    obtain⟨w1,w2,w3⟩:=rt.at_ hS ht hs a;rcases e with e|e|e
    .rw[hst]at e;cases e
    .omega
    .omega) ?_
   rintro _ h6 n6 ⟨rfl,e6⟩;simp (disch:=omega) only[go_sem,simprocAttr];exact hE _ _ e6
  .have e5:=u5.le
   have gn5:=(u5.old n (by omega)).trans gn;have Q9:=(u5.old n2 (by omega)).trans gn2;have J6:=c.pv _ _ _ _ _ n2 (.row 77 [.i .i64 0,.k 1,.k 1,.k 1]) (c.up _ _ _ _ _ _ _ Jk u5) (.inr rfl);simp (disch:=omega) only[go_sem,simprocAttr,VG,Q9,TS.av,gn5,CS.av,Int.reduceEq];rw[sI];refine RW.mono (c.err _ _ _ _ _ 13 (.i .i64 0) (.k 1) (.k 1) (.k 1) J6 (by omega) λ⟨S',a⟩=>by
    obtain⟨w1,w2,w3⟩:=rt.at_ hS ht hs a;omega) ?_
   rintro _ h6 n6 ⟨rfl,e6⟩;simp (disch:=omega) only[go_sem,simprocAttr];exact hE _ _ e6
  .have e5:=u5.le
   have gn5:=(u5.old n (by omega)).trans gn;have Q9:=(u5.old n2 (by omega)).trans gn2;have l05:=(u5.old lb dk.ln).trans dk.l0;have J6:=c.pv _ _ _ _ _ n2 (.row 77 (Wt.av (C.aU s t))) (c.up _ _ _ _ _ _ _ Jk u5) (.inr rfl);have so6:=ko so e1 e2 e3;have k6:Kp (λx=>X x\/((x=n\/x=n2)\/x<n)) (h5.set n2 (.row 77 (Wt.av (C.aU s t)))) n5 (λh n=>bI h n Wt (C.aU s t)):=(k5.le (Y:=λx=>X x\/((x=n\/x=n2)\/x<n)) λx _ e=>by
    rcases e with e|e
    .exact(Xk x e).1
    .omega).set (.inl (.inr (.inl (.inr rfl)))) (Nat.le_refl _)
   have rt6:=rt.snoc hS ht hs e1 e2 e3;have hS6:(S++[C.aU s t])[k0+1]?=some (C.aU s t):=by rw[<-hS,List.getElem?_append_right (Nat.le_refl _)];simp
   simp (disch:=omega) only[go_sem,simprocAttr,Q9,TS.av];generalize hh:h5.set n2 _=h6 at*;have g6:h6.get n=some (.row 27 (v.av C)):=by rw[<-hh,au (by omega)];exact gn5
   have g26:h6.get n2=some (.row 77 (Wt.av (C.aU s t))):=by rw[<-hh];exact aF
   have l06:h6.get lb=some (.row 28 [.k 1]):=by rw[<-hh,au (by omega)];exact l05
   clear hh;refine zh (λhd=>?_) (λhd=>?_)<;>rw[hd]
   .simp (disch:=omega) only[go_sem,simprocAttr,l06,Cz]
    refine bP 0 (λk hk nk G=>hk=h6/\nk=n5/\G=[(0,.y yr),(2,.p lb 0),(5,.p n 0),(10,.p n2 0),(11,.i .i64 0),(56,tv),(57,.i .i64 (l.length:Nat)),(58,.i .i64 (k0:Nat))]) (by omega) (by omega) (by omega) (by omega) (λk h8 n8 G ⟨_,_,e⟩=>by subst e;exact⟨rfl,rfl⟩) ⟨rfl,rfl,_,⟨rfl,rfl,rfl⟩,by(repeat' (first|exact aO|refine aM rfl ?_))⟩ (λk _ _ _ hk=>absurd hk (by omega)) ?_;rintro _ _ G ⟨rfl,rfl,rfl⟩;simp (disch:=omega) only[go_sem,simprocAttr,g6,CS.av,g26,TS.av];rw[sI];refine RW.mono (c.step _ _ _ _ _ (C.aU s t) Wt J6 rt6 so6 k6) ?_;rintro _ h7 n7 ⟨X7,rfl,J7,l7,s7,x7⟩;have nX:∀x,(x=n\/x=n2)->¬X x:=λx hx e=>(Xk x e).2 hx;simp (disch:=omega) only[go_sem,simprocAttr];have wid:gN .i64 ((k0:Int)+1)=((k0+1:Nat):Int):=by rw[dI (by omega) (by omega)];rfl
    exact⟨rfl,rfl,_,⟨X7,_,_,Wt,J7,by rw[List.length_append,hS];rfl,hS6,rt6,so6,k6.xL l7 s7 x7,(s7 n (by omega) (nX _ (.inl rfl))).trans g6,(s7 n2 (by omega) (nX _ (.inr rfl))).trans g26,by omega,rfl⟩,by(repeat' (first|exact aO|refine aM rfl ?_))⟩
   .simp (disch:=omega) only[go_sem,simprocAttr,g6,CS.av,g26,TS.av]
    rw[sI];refine RW.mono (c.step _ _ _ _ _ (C.aU s t) Wt J6 rt6 so6 k6) ?_;rintro _ h7 n7 ⟨X7,rfl,J7,l7,s7,x7⟩;have nX:∀x,(x=n\/x=n2)->¬X x:=λx hx e=>(Xk x e).2 hx;simp (disch:=omega) only[go_sem,simprocAttr];have wid:gN .i64 ((k0:Int)+1)=((k0+1:Nat):Int):=by rw[dI (by omega) (by omega)];rfl
    exact⟨rfl,rfl,_,⟨X7,_,_,Wt,J7,by rw[List.length_append,hS];rfl,hS6,rt6,so6,k6.xL l7 s7 x7,(s7 n (by omega) (nX _ (.inl rfl))).trans g6,(s7 n2 (by omega) (nX _ (.inr rfl))).trans g26,by omega,rfl⟩,by(repeat' (first|exact aO|refine aM rfl ?_))⟩
 .rintro hk nk G ⟨X,S,s,tq,Jk,hS,hs,rt,so,ks,gn,gn2,ln2,rfl⟩
  simp (disch:=omega) only[go_sem,simprocAttr];have r:=rt.2 (by rintro rfl;cases hS);rw[hS,Nat.add_sub_cancel,List.take_length]at r;exact hQ _ _ _ _ _ r Jk
end
end
end
noncomputable section
section
variable {h h':AH} {n n':Nat} {Q:AV->AH->Nat->Prop} {C:ay} {v:CS} {l:List Int}
@[reducible] def Wu (C:ay) (w:CS):List AV:=w.av C
def yG(st:LoopState)(pd:Option Code)(t:Tr AV):AO:=.lp st pd 16 t [61,62] (gW 16 0) (gX 16 0)
structure M0(C:ay)(h0:AH)(n0 cb sb L:Nat)(A:HP)(P X:Nat->Prop)(h:AH)(m:Nat)(cv sv:AV)(vs:List CS)(dD:List (TS×aI)):Prop where
 c:h.get cb=some (.row 62 [cv])
 s:h.get sb=some (.row 63 [sv])
 gc:Gr h m 27 7 cv (Wu C) vs
 gs:Gr h m 77 4 sv QJ dD
 ln:vs.length=dD.length
 bc:∀x,blk cv x->X x
 bs:∀x,blk sv x->X x
 kc:Kp (λx=>X x\/(P x\/x<n0)) h m (λh n=>∀w∈vs,aY h n w C)
 ks:Kp (λx=>X x\/(P x\/x<n0)) h m (λh n=>∀x∈dD,bI h n x.1 x.2)
 Xc:X cb
 Xs:X sb
 XL:X L
 Xr:∀x,n0<x->x<n0+4->X x
 Ln:n0+4<=L
 xs:∀x,X x->x<m/\¬P x/\n0<x
 r1:h.get (n0+1)=some (.row 62 [.k 1])
 r2:h.get (n0+1+1)=some (.row 63 [.k 1])
 r3:h.get (n0+1+1+1)=some (.row 41 [.i .i64 0])
 old:∀x,x<n0->h.get x=h0.get x
 le:n0+4<=m
 ps:∀x,P x->n0+4<=x/\x<m
 a:Kp (λx=>X x\/P x) h m A
def Wv(C:ay)(h0:AH)(n0 cb sb L:Nat)(t:Tr AV)(A:HP)(P X:Nat->Prop)(h:AH)(m:Nat)(S:List aI):Prop:=
 ∃cv sv vs dD,M0 C h0 n0 cb sb L A P X h m cv sv vs dD/\dD.map (·.2)=S/\h.get L=some (yG .ready none t)
def RuE(C:ay)(l:List Int)(h0:AH)(n0 L:Nat)(t:Tr AV)(h:AH)(m:Nat):Prop:=∃e:Int,e≠0/\h.get L=some (yG .done (some .ret) t)/\h.get (n0+1)=some (.row 62 [.k 1])/\h.get (n0+1+1)=some (.row 63 [.k 1])/\h.get (n0+1+1+1)=some (.row 41 [.i .i64 e])/\(∀x,x<n0->h.get x=h0.get x)/\n0+4<=m/\n0+4<=L/\¬∃S',fu C C.first l S'
theorem qX(hv:C.valid=true):C.units.length<=20:=by
 unfold ay.valid ay.over at hv;simp only[Bool.and_eq_true,Bool.not_eq_true',Bool.or_eq_false_iff,decide_eq_false_iff_not]at hv;omega
section
variable {h0:AH} {n0 cb sb L:Nat} {t:Tr AV} {A:HP} {P X:Nat->Prop} {S:List aI} {cv sv:AV} {vs:List CS} {dD:List (TS×aI)}
theorem M0.up(a:M0 C h0 n0 cb sb L A P X h n cv sv vs dD)(u:Up h n h' n'):M0 C h0 n0 cb sb L A P X h' n' cv sv vs dD:=by
 have le:=a.le;have ul:=u.le;exact⟨(u.old _ (a.xs _ a.Xc).1).trans a.c,(u.old _ (a.xs _ a.Xs).1).trans a.s,a.gc.up u,a.gs.up u,a.ln,a.bc,a.bs,a.kc.up u,a.ks.up u,a.Xc,a.Xs,a.XL,a.Xr,a.Ln,λx hx=>⟨by have:=(a.xs x hx).1;omega,(a.xs x hx).2⟩,
  (u.old _ (by omega)).trans a.r1,(u.old _ (by omega)).trans a.r2,(u.old _ (by omega)).trans a.r3,λx hx=>(u.old x (by omega)).trans (a.old x hx),by omega,λx hx=>⟨(a.ps x hx).1,by have:=(a.ps x hx).2;omega⟩,a.a.up u⟩
theorem M0.set(a:M0 C h0 n0 cb sb L A P X h n cv sv vs dD){b:Nat}(o:AO)(hb:X b\/P b)(h1:b≠cb)(h2:b≠sb)(h3:¬blk cv b)(h4:¬blk sv b)(nb:n0+4<=b):M0 C h0 n0 cb sb L A P X (h.set b o) n cv sv vs dD:=by
 exact⟨(au (Ne.symm h1)).trans a.c,(au (Ne.symm h2)).trans a.s,a.gc.on (Nat.le_refl _) λx _ hx=>au λe=>h3 (by rw[<-e];exact hx),a.gs.on (Nat.le_refl _) λx _ hx=>au λe=>h4 (by rw[<-e];exact hx),a.ln,a.bc,a.bs,a.kc.set (.inl (hb.imp id .inl)) (Nat.le_refl _),a.ks.set (.inl (hb.imp id .inl)) (Nat.le_refl _),a.Xc,a.Xs,a.XL,a.Xr,a.Ln,a.xs,
  (au (by omega)).trans a.r1,(au (by omega)).trans a.r2,(au (by omega)).trans a.r3,λx hx=>(au (by omega)).trans (a.old x hx),a.le,a.ps,a.a.set (.inl hb) (Nat.le_refl _)⟩
theorem M0.pv(a:M0 C h0 n0 cb sb L A P X h n cv sv vs dD){b:Nat}(o:AO)(hb:P b):M0 C h0 n0 cb sb L A P X (h.set b o) n cv sv vs dD:=by
 have ne:∀x,X x->b≠x:=λx hx e=>(a.xs x hx).2.1 (by rw[<-e];exact hb);exact a.set o (.inr hb) (ne _ a.Xc) (ne _ a.Xs) (λe=>ne _ (a.bc _ e) rfl) (λe=>ne _ (a.bs _ e) rfl) (a.ps b hb).1
theorem M0.sQ(a:M0 C h0 n0 cb sb L A P X h n cv sv vs dD){st:LoopState}{pd:Option Code}{t:Tr AV}(hL:h.get L=some (yG st pd t))(o:AO):M0 C h0 n0 cb sb L A P X (h.set L o) n cv sv vs dD:=by
 refine a.set o (.inl a.XL) (λe=>?_) (λe=>?_) (λe=>?_) (λe=>?_) a.Ln
 .have:=a.c;rw[<-e,hL]at this;cases this
 .have:=a.s;rw[<-e,hL]at this;cases this
 .obtain⟨_,e'⟩:=a.gc.ty e;rw[hL]at e';cases e'
 .obtain⟨_,e'⟩:=a.gs.ty e;rw[hL]at e';cases e'
theorem Wv.up(a:Wv C h0 n0 cb sb L t A P X h n S)(u:Up h n h' n'):Wv C h0 n0 cb sb L t A P X h' n' S:=by
 obtain⟨cv,sv,vs,dD,a,e,l⟩:=a;exact⟨cv,sv,vs,dD,a.up u,e,(u.old _ (a.xs _ a.XL).1).trans l⟩
theorem Wv.pv(a:Wv C h0 n0 cb sb L t A P X h n S){b:Nat}(o:AO)(hb:P b):Wv C h0 n0 cb sb L t A P X (h.set b o) n S:=by
 obtain⟨cv,sv,vs,dD,a,e,l⟩:=a;exact⟨cv,sv,vs,dD,a.pv o hb,e,(au λe=>(a.xs _ a.XL).2.1 (by rw[e];exact hb)).trans l⟩
end
theorem Ju(K:Nat){tv:AV}{un:Int}(hC:aY h n v C)(ho:C.off.length<=1000000)(hl:l.length<=100000)(hT:SL h n 1 tv iw l)
 (jV:C.valid=false->∀h' n',Up h n h' n'->Q (.bJ [.k 1,.k 1,.i .i64 1]) h' n')
 (rQ:C.valid=true->4000<l.length->∀h' n',Up h n h' n'->Q (.bJ [.k 1,.k 1,.i .i64 3]) h' n')
 (KA:C.valid=true->l.length<=4000->(¬∃S,fu C C.first l S)->∀e h' n',e≠0->Up h n h' n'->Q (.bJ [.k 1,.k 1,.i .i64 e]) h' n')
 (hQ4:C.valid=true->l.length<=4000->∀cv sv vs dD h' n',fu C C.first l (dD.map (·.2))->vs.length=dD.length->Up h n h' n'->Kp (λx=>x<n) h' n' (λh n=>(SL h n 7 cv (Wu C) vs/\SL h n 4 sv QJ dD)/\(∀w∈vs,aY h n w C)/\∀x∈dD,bI h n x.1 x.2)->Q (.bJ [cv,sv,.i .i64 0]) h' n'):
 CW (EF (K+11)) 16 [.agg (v.av C),.k 1,.i .i64 un,tv] h n Q:=by
 refine aC c11 rfl ?_;repeat' (first|(simp (disch:=omega) only[go_sem,simprocAttr,m11,CS.av])|(refine aS ?_ ?_<;>(intro hb hd;rw[hb];clear hb))|(with_reducible refine aj ?_))
 generalize hh:Tr.set (Tr.set (Tr.set (Tr.set h n _) (n+1) _) (n+1+1) _) (n+1+1+1) _=h0;have u0:Up h n h0 (n+4):=by rw[<-hh];exact aH
 have g0:h0.get n=some (.row 27 (v.av C)):=by rw[<-hh];simp (disch:=omega) only[go_sem]
 have g1:h0.get (n+1)=some (.row 62 [.k 1]):=by rw[<-hh];simp (disch:=omega) only[go_sem]
 have g2:h0.get (n+1+1)=some (.row 63 [.k 1]):=by rw[<-hh];simp (disch:=omega) only[go_sem]
 have g3:h0.get (n+1+1+1)=some (.row 41 [.i .i64 0]):=by rw[<-hh];simp (disch:=omega) only[go_sem]
 clear hh;rw[aR];show CW _ 36 _ h0 (n+4) _;refine AQ _ (hC.up u0) ho (λhv h1 n1 u1=>?_) λhv RN h1 n1 u1 _=>?_
 .have e1:=u1.le
  have g11:=(u1.old _ (show n+1<n+4 by omega)).trans g1;have g21:=(u1.old _ (show n+1+1<n+4 by omega)).trans g2;have g31:=(u1.old _ (show n+1+1+1<n+4 by omega)).trans g3;simp (disch:=omega) only[go_sem,simprocAttr,VG,g11,g21,g31,Int.reduceEq];have ux:=u0.trans u1;exact jV hv _ _ aH
 .have e1:=u1.le
  have g01:=(u1.old _ (show n<n+4 by omega)).trans g0;have g11:=(u1.old _ (show n+1<n+4 by omega)).trans g1;have g21:=(u1.old _ (show n+1+1<n+4 by omega)).trans g2;have g31:=(u1.old _ (show n+1+1+1<n+4 by omega)).trans g3;have ux:=u0.trans u1;repeat' (first|(simp (disch:=omega) only[go_sem,simprocAttr,TS.av,Cz,hT.len])|(refine aS ?_ ?_<;>(intro hb hd;rw[hb];clear hb))|(with_reducible refine aj ?_))
  .simp (disch:=omega) only[go_sem,simprocAttr,g11,g21,g31]
   exact rQ hv (by omega) _ _ aH
  generalize hh:Tr.set (Tr.set h1 n1 _) n1 _=h2;have u2:Up h1 n1 h2 (n1+1):=by rw[<-hh];exact aH
  clear hh;rw[aR];refine Q8 (K+6) λob h3 n3 u3 _=>?_;have e3:=u3.le;simp (disch:=omega) only[go_sem,simprocAttr,Ws];refine bP 0 (λk hk nk G=>h3=hk/\n3=nk/\G=[(3,tv),(4,.p n 0),(8,.p (n+1) 0),(9,.p (n+1+1) 0),(10,.p (n+1+1+1) 0),(13,.k 1)]) (by omega) (by omega) (by omega) (by omega) (λk h8 n8 G ⟨_,_,e⟩=>by subst e;exact⟨rfl,rfl⟩) ⟨rfl,rfl,_,⟨rfl,rfl,rfl⟩,by(repeat' (first|exact aO|refine aM rfl ?_))⟩ (λk _ _ _ hk=>absurd hk (by omega)) ?_;rintro _ _ G ⟨rfl,rfl,rfl⟩;have KD:Up h1 n1 h3 n3:=u2.trans u3;have g03:=(KD.old _ (show n<n1 by omega)).trans g01;have g13:=(KD.old _ (show n+1<n1 by omega)).trans g11;have g23:=(KD.old _ (show n+1+1<n1 by omega)).trans g21;have g33:=(KD.old _ (show n+1+1+1<n1 by omega)).trans g31;have zn:=ux.trans KD;simp (disch:=omega) only[go_sem,simprocAttr,g03,CS.av];generalize hh:Tr.set (Tr.set h3 n3 _) (n3+1) _=h4;have u4:Up h3 n3 h4 (n3+2):=by rw[<-hh];exact aH
  have c4:h4.get n3=some (.row 62 [.k 1]):=by rw[<-hh];simp (disch:=omega) only[go_sem]
  have s4:h4.get (n3+1)=some (.row 63 [.k 1]):=by rw[<-hh];simp (disch:=omega) only[go_sem]
  clear hh;rw[aR];show CW _ 38 [.agg (v.av C),.k 1,tv] h4 (n3+2) _;refine MZ (K+9) (v:=v) (C:=C) (λcb lb tb h5 n5 u5 qc ql qt lc ll lt lc' ll' lt'=>?_) hT.cl;have e5:=u5.le;simp (disch:=omega) only[go_sem,simprocAttr];refine oH rfl λt hF=>?_;show CW _ 75 [.y n5,.p cb 0,.p lb 0,.p tb 0] _ _ _;refine Jt (K:=K) (v:=v) (C:=C) (l:=l) (cb:=cb) (lb:=lb) (tb:=tb) (tv:=tv) (yr:=n5) (J:=Wv C h n n3 (n3+1) n5 t (λh m=>Zt h m cb lb tb v C tv l)) (E:=RuE C l h n n5 t) hv ho hl ?_ ?_ ?_
  .have cL:∀y,y<n5->(Tr.set h5 n5 (AO.lp LoopState.ready none 16 t [61,62] (gW 16 0) (gX 16 0))).get y=h5.get y:=λy hy=>au (by omega)
   have c45:=(u5.old n3 (by omega)).trans c4;have s45:=(u5.old (n3+1) (by omega)).trans s4;have u35:=u4.trans u5;have PE:=zn.trans u35;have u5L:Up h5 n5 (Tr.set h5 n5 (AO.lp LoopState.ready none 16 t [61,62] (gW 16 0) (gX 16 0))) (n5+1):=by exact aH
   have ok:=ay.ok hv;refine⟨λP X h n h' n' S a u=>a.up u,λP X h n S b o a hb=>a.pv o hb,λP X h n S a x hx=>let⟨_,_,_,_,a,_,_⟩:=a;⟨(a.xs x hx).1,(a.xs x hx).2.1⟩,λP X h n S a=>let⟨_,_,_,_,a,_,_⟩:=a;a.a.use,?_,?_,?_⟩
   .refine⟨λx=>x=n3\/x=n3+1\/x=n5\/n<x/\x<n+4,λx hx=>by omega,λP h6 n6 u6 hP=>?_⟩
    have e6:=u6.le;have Jv:∀x,x<n5->h6.get x=h5.get x:=λx hx=>(u6.old x (by omega)).trans (cL x hx);refine⟨.k 1,.k 1,[],[],⟨(Jv _ (by omega)).trans c45,(Jv _ (by omega)).trans s45,Gr.nil λ_=>rfl,Gr.nil λ_=>rfl,rfl,λx hx=>absurd hx fA,λx hx=>absurd hx fA,λ_ _ _ _ w hw=>(by cases hw),λ_ _ _ _ x hx=>(by cases hx),.inl rfl,.inr (.inl rfl),.inr (.inr (.inl rfl)),λx h1 h2=>.inr (.inr (.inr ⟨h1,h2⟩)),by omega,
     λx hx=>⟨by omega,λhp=>by have:=(hP x hp).1;omega,by omega⟩,(Jv _ (by omega)).trans ((u35.old _ (by omega)).trans g13),(Jv _ (by omega)).trans ((u35.old _ (by omega)).trans g23),(Jv _ (by omega)).trans ((u35.old _ (by omega)).trans g33),λx hx=>(Jv _ (by omega)).trans (PE.old x hx),by omega,λx hx=>⟨by have:=(hP x hx).1;omega,(hP x hx).2⟩,?_⟩,rfl,(u6.old n5 (by omega)).trans aF⟩
    intro h7 n7 l7 s7;have nx:∀x,x<n5->x≠n3->x≠n3+1->¬(n<x/\x<n+4)->h7.get x=h5.get x:=λx hx h1 h2 h3=>(s7 x (by omega) λe=>by
     rcases e with e|e
     .omega
     .have:=(hP x e).1;omega).trans (Jv x hx)
    have un:Up h n h7 n7:=⟨by omega,λx hx=>(nx x (by omega) (by omega) (by omega) (by omega)).trans (PE.old x hx)⟩;exact⟨(nx _ (by omega) (by omega) (by omega) (by omega)).trans qc,(nx _ (by omega) (by omega) (by omega) (by omega)).trans ql,(nx _ (by omega) (by omega) (by omega) (by omega)).trans qt,by omega,by omega,by omega,hC.up un,hT.up un⟩
   .rintro P X h6 n6 S s tq ⟨cv,sv,vs,dD,a,hSS,lp⟩ rt so kq
    have XL:=a.xs _ a.XL;have Xc:=a.xs _ a.Xc;have Xs:=a.xs _ a.Xs;have ale:=a.le;have hlen:dD.length<=100001:=by have:=rt.1;rw[<-hSS]at this;simp at this;omega
    refine RW.mono (lV (d:=19) (F:=_) (bs:=[true,true]) (R:=λb h2 n2=>∃X',b=true/\Wv C h n n3 (n3+1) n5 t (λh m=>Zt h m cb lb tb v C tv l) P X' h2 n2 (S++[s])/\n6<=n2/\(∀x,x<n6->¬X x->h2.get x=h6.get x)/\∀x,X' x->X x\/n6<=x) lp hF (by kernel_rfl) rfl QF QG ?_) ?_
    .simp (disch:=omega) only[go_sem,simprocAttr,Jf,Nu,CS.av,TS.av,List.cons_append,List.nil_append]
     generalize hx:Tr.set (Tr.set h6 n6 _) n6 _=hA;have uA:Up h6 n6 hA (n6+1):=by rw[<-hx];exact aH
     have gA:hA.get n6=some (.row 131 [.i .i64 C.aD,v.h,v.u,v.a,v.k,.i .i64 C.days,v.o,.i .i64 s.day,tq.h,tq.u,tq.m]):=by rw[<-hx];exact aF
     clear hx;have lpA:=(uA.old n5 XL.1).trans lp;refine⟨_,_,_,_,_,_,lpA,?_⟩;have B7:=(a.up uA).sQ lpA (.lp .busy none 16 t [61,62] (gW 16 0) (gX 16 0));have lp7:(hA.set n5 (.lp .busy none 16 t [61,62] (gW 16 0) (gX 16 0))).get n5=some (.lp .busy none 16 t [61,62] (gW 16 0) (gX 16 0)):=aF;have g7:(hA.set n5 (.lp .busy none 16 t [61,62] (gW 16 0) (gX 16 0))).get n6=some (.row 131 [.i .i64 C.aD,v.h,v.u,v.a,v.k,.i .i64 C.days,v.o,.i .i64 s.day,tq.h,tq.u,tq.m]):=by rw[au (by omega)];exact gA
     have s67:∀x,x<n6->x≠n5->(hA.set n5 (.lp .busy none 16 t [61,62] (gW 16 0) (gX 16 0))).get x=h6.get x:=λx hx hne=>by rw[au hne,uA.old x hx]
     generalize hA.set n5 _=h7 at*;have c7:=B7.c;have s7:=B7.s;repeat' (first|(simp (disch:=omega) only[go_sem,simprocAttr,Jg,g7,c7])|(refine aS ?_ ?_<;>(intro hb hd;rw[hb];clear hb))|(with_reducible refine aj ?_))
     rw[bF];have A7:=(B7.up (Up.wide h7 (show n6+1<=n6+1+2 by omega))).a.use;refine Et (K+7) (v:=v) (A7.con) ok ho (by have:=qX hv;omega) λw h8 n8 u8 k8=>?_;have e8:=u8.le;have c8:=(u8.old _ (by omega)).trans c7;have g8:=(u8.old n6 (by omega)).trans g7;have lp8:=(u8.old n5 (by omega)).trans lp7;repeat' (first|(simp (disch:=omega) only[go_sem,simprocAttr,c8,c7])|(refine aS ?_ ?_<;>(intro hb hd;rw[hb];clear hb))|(with_reducible refine aj ?_))
     have u9:Up h7 (n6+1) (Tr.set h8 (n6+1) (.row 27 [.i .i64 C.aD,w.h,w.u,w.a,w.k,.i .i64 C.days,w.o])) n8:=⟨by omega,λx hx=>by rw[au (by omega),u8.old x (by omega)]⟩;have B9:=B7.up u9;have k9:=k8.set (b:=n6+1) (o:=.row 27 [.i .i64 C.aD,w.h,w.u,w.a,w.k,.i .i64 C.days,w.o]) (.inl (by omega)) (Nat.le_refl _);have g9:(Tr.set h8 (n6+1) (.row 27 [.i .i64 C.aD,w.h,w.u,w.a,w.k,.i .i64 C.days,w.o])).get n6=some (.row 131 [.i .i64 C.aD,v.h,v.u,v.a,v.k,.i .i64 C.days,v.o,.i .i64 s.day,tq.h,tq.u,tq.m]):=by rw[au (by omega)];exact g8
     have lp9:(Tr.set h8 (n6+1) (.row 27 [.i .i64 C.aD,w.h,w.u,w.a,w.k,.i .i64 C.days,w.o])).get n5=some (.lp .busy none 16 t [61,62] (gW 16 0) (gX 16 0)):=by rw[au (by omega)];exact lp8
     have q9:(Tr.set h8 (n6+1) (.row 27 [.i .i64 C.aD,w.h,w.u,w.a,w.k,.i .i64 C.days,w.o])).get (n6+1)=some (.row 27 [.i .i64 C.aD,w.h,w.u,w.a,w.k,.i .i64 C.days,w.o]):=aF;have s79:∀x,x<n6+1->(Tr.set h8 (n6+1) (.row 27 [.i .i64 C.aD,w.h,w.u,w.a,w.k,.i .i64 C.days,w.o])).get x=h7.get x:=u9.old;generalize Tr.set h8 (n6+1) _=h9 at*;obtain⟨cv',hB,nB,rB,gB,lB,sB,bB⟩:=B9.gc.app (l2:=[w]) (y:=.sl (n6+1) 0 0 1 (some 1)) rfl (by
      show bnd (iI (h9.get (n6+1)) 0 _) _=_;rw[q9];rfl) (by have:=B9.ln;simp;omega)
     have ncb:∀x,x<n6+1->(∀cells,h7.get x≠some (.row 27 cells))->¬blk cv x:=λx hx hne e=>by
      obtain⟨cells,hc⟩:=B7.gc.ty e;exact hne _ hc
     have nsb:∀x,(∀cells,h7.get x≠some (.row 77 cells))->¬blk sv x:=λx hne e=>by
      obtain⟨cells,hc⟩:=B7.gs.ty e;exact hne _ hc
     have c9:=(s79 n3 (by omega)).trans c7;have cB:=(sB n3 (by omega) (ncb n3 (by omega) λc e=>by rw[c7]at e;cases e)).trans c9;have tB:=(sB (n3+1) (by omega) (ncb _ (by omega) λc e=>by rw[s7]at e;cases e)).trans ((s79 (n3+1) (by omega)).trans s7);have gB6:=(sB n6 (by omega) (λe=>by have:=(a.xs _ (a.bc _ e)).1;omega)).trans g9;have lpB:=(sB n5 (by omega) (ncb _ (by omega) λc e=>by rw[lp7]at e;cases e)).trans lp9;have gsB:Gr hB nB 77 4 sv QJ dD:=B9.gs.on lB λx hx e=>sB x hx λe2=>by
      obtain⟨_,q1⟩:=B9.gc.ty e2;obtain⟨_,q2⟩:=B9.gs.ty e;rw[q1]at q2;cases q2
     repeat' (first|(simp (disch:=omega) only[go_sem,simprocAttr,rB,gB.cl,cB,c8,tB,gB6])|(refine aS ?_ ?_<;>(intro hb hd;rw[hb];clear hb))|(with_reducible refine aj ?_))
     generalize hx:(Tr.set hB n3 (.row 62 [cv'])).set nB _=hD;have sD:∀x,x<nB->x≠n3->hD.get x=hB.get x:=λx hx1 hx2=>by rw[<-hx,au (by omega),au hx2]
     have cD:hD.get n3=some (.row 62 [cv']):=by rw[<-hx,au (by omega)];exact aF
     have qD:hD.get nB=some (.row 77 [.i .i64 s.day,tq.h,tq.u,tq.m]):=by rw[<-hx];exact aF
     clear hx;have gsD:Gr hD (nB+1) 77 4 sv QJ dD:=gsB.on (by omega) λx hx e=>sD x hx λe2=>by
      obtain⟨_,q2⟩:=gsB.ty e;rw[e2,cB]at q2;cases q2
     obtain⟨Uy,hE,nE,rE,gE,lE,sE,bE⟩:=gsD.app (l2:=[(tq,s)]) (y:=.sl nB 0 0 1 (some 1)) rfl (by
      show bnd (iI (hD.get nB) 0 _) _=_;rw[qD];rfl) (by simp;omega)
     have nsD:∀x,x<n6+1->(∀cells,h7.get x≠some (.row 77 cells))->¬blk sv x:=λx _=>nsb x;have tE:=(sE (n3+1) (by omega) (nsb _ λc e=>by rw[s7]at e;cases e)).trans ((sD _ (by omega) (by omega)).trans tB);have cE:=(sE n3 (by omega) (nsb _ λc e=>by rw[c7]at e;cases e)).trans cD;have lpE:=(sE n5 (by omega) (nsb _ λc e=>by rw[lp7]at e;cases e)).trans ((sD _ (by omega) (by omega)).trans lpB);repeat' (first|(simp (disch:=omega) only[go_sem,simprocAttr,rE,gE.cl,tE])|(refine aS ?_ ?_<;>(intro hb hd;rw[hb];clear hb))|(with_reducible refine aj ?_))
     have akW:(Tr.set hE (n3+1) (.row 63 [Uy])).get n5=some (.lp .busy none 16 t [61,62] (gW 16 0) (gX 16 0)):=by rw[au (by omega)];exact lpE
     refine⟨_,_,_,_,_,_,_,akW,λx=>X x\/blk cv' x\/blk Uy x,rfl,?_⟩;have Xlt:∀x,X x->x<n6:=λx hx=>(a.xs x hx).1;have same':∀x,x<n6->x≠n5->x≠n3+1->x≠n3->¬blk cv x->¬blk sv x->((Tr.set hE (n3+1) (.row 63 [Uy])).set n5 (yG .ready none t)).get x=h6.get x:=λx hx d1 d2 d3 d4 d5=>by
      rw[au d1,au d2,sE x (by omega) d5,sD x (by omega) d3,sB x (by omega) d4,s79 x (by omega),s67 x hx d1]
     have same:∀x,x<n6->¬X x->((Tr.set hE (n3+1) (.row 63 [Uy])).set n5 (yG .ready none t)).get x=h6.get x:=λx hx hX=>
      same' x hx (λe=>hX (by rw[e];exact a.XL)) (λe=>hX (by rw[e];exact a.Xs)) (λe=>hX (by rw[e];exact a.Xc)) (λe=>hX (a.bc x e)) (λe=>hX (a.bs x e))
     have boxes:∀(x e:Nat)(c:List AV),n<x->x<n+4->h6.get x=some (.row e c)->e≠27->e≠77->((Tr.set hE (n3+1) (.row 63 [Uy])).set n5 (yG .ready none t)).get x=some (.row e c):=λx e c h1 h2 h3 h4 h5=>
      (same' x (by omega) (by omega) (by omega) (by omega) (λe=>by obtain⟨_,q⟩:=a.gc.ty e;rw[h3]at q;cases q;exact h4 rfl) (λe=>by obtain⟨_,q⟩:=a.gs.ty e;rw[h3]at q;cases q;exact h5 rfl)).trans h3
     have T_:∀x,(X x\/blk cv' x\/blk Uy x)->X x\/n6<=x:=λx e=>by
      rcases e with e|e|e
      .exact .inl e
      .rcases bB x e with e|e
       .exact .inl (a.bc x e)
       .exact .inr (by omega)
      .rcases bE x e with e|e
       .exact .inl (a.bs x e)
       .exact .inr (by omega)
     refine⟨⟨cv',Uy,vs++[w],dD++[(tq,s)],⟨?_,?_,?_,?_,by simp[a.ln],λx hx=>.inr (.inl hx),λx hx=>.inr (.inr hx),?_,?_,.inl a.Xc,.inl a.Xs,.inl a.XL,λx h1 h2=>.inl (a.Xr x h1 h2),a.Ln,λx hx=>?_,?_,?_,?_,λx hx=>?_,by omega,λx hx=>⟨(a.ps x hx).1,by have:=(a.ps x hx).2;omega⟩,a.a.xL (by omega) same T_⟩,by simp[hSS],aF⟩,by omega,same,T_⟩
     .rw[au (by omega),au (by omega)];exact cE
     .rw[au (by omega)];exact aF
     .refine gB.on (by omega) λx hx e=>?_
      obtain⟨_,q⟩:=gB.ty e;have d1:x≠n5:=λe=>by rw[e,lpB]at q;cases q
      have d2:x≠n3+1:=λe=>by rw[e,tB]at q;cases q
      have d3:x≠n3:=λe=>by rw[e,cB]at q;cases q
      rw[au d1,au d2,sE x (by omega) (λe2=>by obtain⟨_,q2⟩:=gsB.ty e2;rw[q]at q2;cases q2),sD x hx d3]
     .refine gE.on (Nat.le_refl _) λx hx e=>?_
      obtain⟨_,q⟩:=gE.ty e;have d1:x≠n5:=λe=>by rw[e,lpE]at q;cases q
      have d2:x≠n3+1:=λe=>by rw[e,tE]at q;cases q
      rw[au d1,au d2]
     .have kw:Kp (λx=>(X x\/blk cv' x\/blk Uy x)\/(P x\/x<n)) ((Tr.set hE (n3+1) (.row 63 [Uy])).set n5 (yG .ready none t)) nE (λh n=>aY h n w C):=by
       refine k9.tr (by omega) (λx hx hz=>?_) λx hx e=>?_
       .rw[au (by omega),au (by omega),sE x (by omega) (λe=>by have:=Xlt x (a.bs x e);omega),sD x (by omega) (by omega),sB x hx (λe=>by have:=Xlt x (a.bc x e);omega)]
       .rcases e with e|e
        .rcases e with e|e|e
         .have:=Xlt x e;omega
         .rcases bB x e with e|e
          .have:=Xlt x (a.bc x e);omega
          .omega
         .rcases bE x e with e|e
          .have:=Xlt x (a.bs x e);omega
          .omega
        .rcases e with e|e
         .have:=(a.ps x e).2;omega
         .omega
      exact((a.kc.xL (by omega) same T_).and kw).wk λh n e w' hw'=>by
       rcases List.mem_append.1 hw' with hw'|hw'
       .exact e.1 w' hw'
       .rw[List.mem_singleton]at hw';subst hw';exact e.2
     .exact((a.ks.xL (by omega) same T_).and ((kq.le (Y:=λx=>X x\/(P x\/x<n)) λx _ e=>e.imp id λe=>e.imp id λe=>by omega).xL (by omega) same T_)).wk λh n e x hx=>by
       rcases List.mem_append.1 hx with hx|hx
       .exact e.1 x hx
       .rw[List.mem_singleton]at hx;subst hx;exact e.2
     .refine⟨?_,λhp=>?_,?_⟩
      .rcases hx with hx|hx|hx
       .have:=Xlt x hx;omega
       .have:=gB.fK hx;omega
       .exact gE.fK hx
      .rcases T_ x hx with e|e
       .exact(a.xs x e).2.1 hp
       .have:=(a.ps x hp).2;omega
      .rcases T_ x hx with e|e
       .exact(a.xs x e).2.2
       .omega
     .exact boxes _ _ _ (by omega) (by omega) a.r1 (by decide) (by decide)
     .exact boxes _ _ _ (by omega) (by omega) a.r2 (by decide) (by decide)
     .exact boxes _ _ _ (by omega) (by omega) a.r3 (by decide) (by decide)
     .exact(same _ (by omega) λe=>by have:=(a.xs _ e).2.2;omega).trans (a.old x hx)
    .rintro u h7 n7 ⟨b,rfl,X',hb,r⟩
     exact⟨X',by rw[hb],r⟩
   .rintro P X h6 n6 S e c0 c1 c2 c3 ⟨cv,sv,vs,dD,a,hSS,lp⟩ he hn
    have XL:=a.xs _ a.XL;have ale:=a.le;refine RW.mono (lV (d:=19) (F:=_) (bs:=[true,true]) (R:=λb h2 n2=>b=false/\RuE C l h n n5 t h2 n2) lp hF (by kernel_rfl) rfl QF QG ?_) ?_
    .simp (disch:=omega) only[go_sem,simprocAttr,Jf,Nu,CS.av,TS.av,List.cons_append,List.nil_append]
     generalize hx:Tr.set (Tr.set h6 n6 _) n6 _=hA;have uA:Up h6 n6 hA (n6+1):=by rw[<-hx];exact aH
     clear hx;have lpA:=(uA.old n5 XL.1).trans lp;refine⟨_,_,_,_,_,_,lpA,?_⟩;have r17:(hA.set n5 (.lp .busy none 16 t [61,62] (gW 16 0) (gX 16 0))).get (n+1)=some (.row 62 [.k 1]):=by rw[au (by omega),uA.old _ (by omega)];exact a.r1
     have r27:(hA.set n5 (.lp .busy none 16 t [61,62] (gW 16 0) (gX 16 0))).get (n+1+1)=some (.row 63 [.k 1]):=by rw[au (by omega),uA.old _ (by omega)];exact a.r2
     have r37:(hA.set n5 (.lp .busy none 16 t [61,62] (gW 16 0) (gX 16 0))).get (n+1+1+1)=some (.row 41 [.i .i64 0]):=by rw[au (by omega),uA.old _ (by omega)];exact a.r3
     have lp7:(hA.set n5 (.lp .busy none 16 t [61,62] (gW 16 0) (gX 16 0))).get n5=some (.lp .busy none 16 t [61,62] (gW 16 0) (gX 16 0)):=aF;have o7:∀x,x<n->(hA.set n5 (.lp .busy none 16 t [61,62] (gW 16 0) (gX 16 0))).get x=h.get x:=λx hx=>by rw[au (by omega),uA.old x (by omega)];exact a.old x hx
     generalize hA.set n5 _=h7 at*;have hd:(decide (e=0))=false:=decide_eq_false he;simp (disch:=omega) only[go_sem,simprocAttr,Jg,hd,r17,r27,r37];refine⟨_,_,_,_,_,_,_,by simp (disch:=omega) only[go_sem];exact lp7,rfl,e,he,aF,by simp (disch:=omega) only[go_sem],by simp (disch:=omega) only[go_sem],by simp (disch:=omega) only[go_sem],λx hx=>?_,by omega,by omega,hn⟩;simp (disch:=omega) only[go_sem];exact o7 x hx
    .rintro u h7 n7 ⟨b,rfl,hb,r⟩
     exact⟨by rw[hb],r⟩
  .rintro P X h6 n6 S run ⟨cv,sv,vs,dD,a,hSS,lp⟩
   refine⟨_,_,_,_,_,_,_,lp,.inl ⟨rfl,rfl,?_⟩⟩;have XL:=a.xs _ a.XL;have ale:=a.le;have B:=a.sQ lp (yG .exhausted none t);have n5n:=a.Ln;repeat' (first|(simp (disch:=omega) only[go_sem,simprocAttr,a.c,a.s,a.r1,a.r2,a.r3,a.gc.cl,a.gs.cl])|(refine aS ?_ ?_<;>(intro hb hd;rw[hb];clear hb))|(with_reducible refine aj ?_))
   have hsame:∀x,x<n6->¬(n<x/\x<n+4)->x≠n5->((((Tr.set h6 n5 (.lp .exhausted none 16 t [61,62] (gW 16 0) (gX 16 0))).set (n+1) (.row 62 [cv])).set (n+1+1) (.row 63 [sv])).set (n+1+1+1) (.row 41 [.i .i64 0])).get x=h6.get x:=λx hx h1 h2=>by
    simp (disch:=omega) only[go_sem]
   have nb:∀e x,h6.get x=some (.row e [])\/(∃c,h6.get x=some (.row e c))->(e=27\/e=77)->¬(n<x/\x<n+4)/\x≠n5:=λe x hx he=>by
    have hx':∃c,h6.get x=some (.row e c):=by rcases hx with hx|hx;exact⟨_,hx⟩;exact hx
    obtain⟨c,hx⟩:=hx';refine⟨λ⟨h1,h2⟩=>?_,λe2=>?_⟩
    .have h3:x=n+1\/x=n+1+1\/x=n+1+1+1:=by omega
     rcases h3 with rfl|rfl|rfl
     .rw[a.r1]at hx;cases hx;rcases he with he|he<;>cases he
     .rw[a.r2]at hx;cases hx;rcases he with he|he<;>cases he
     .rw[a.r3]at hx;cases hx;rcases he with he|he<;>cases he
    .rw[e2,lp]at hx;cases hx
   have hX6:∀x,x<n6->¬(X x\/(P x\/x<n))->((((Tr.set h6 n5 (.lp .exhausted none 16 t [61,62] (gW 16 0) (gX 16 0))).set (n+1) (.row 62 [cv])).set (n+1+1) (.row 63 [sv])).set (n+1+1+1) (.row 41 [.i .i64 0])).get x=h6.get x:=λx hx h1=>hsame x hx (λ⟨h2,h3⟩=>h1 (.inl (a.Xr x h2 h3))) λe=>h1 (.inl (by rw[e];exact a.XL));refine hQ4 hv (by omega) cv sv vs dD _ _ (by rw[hSS];exact run) a.ln ⟨by omega,λx hx=>?_⟩ (Kp.and (Kp.and ?_ ?_) (Kp.and (a.kc.tr (Nat.le_refl _) hX6 λx _ hx=>.inr (.inr hx)) (a.ks.tr (Nat.le_refl _) hX6 λx _ hx=>.inr (.inr hx))))
   .rw[hsame x (by omega) (by omega) (by omega)];exact a.old x hx
   .refine(a.gc.on (Nat.le_refl _) λx hx e=>?_).sl.kp λx hx e=>by have:=(a.xs x (a.bc x hx)).2.2;omega
    obtain⟨q1,q2⟩:=nb 27 x (.inr (a.gc.ty e)) (.inl rfl);exact hsame x hx q1 q2
   .refine(a.gs.on (Nat.le_refl _) λx hx e=>?_).sl.kp λx hx e=>by have:=(a.xs x (a.bs x hx)).2.2;omega
    obtain⟨q1,q2⟩:=nb 77 x (.inr (a.gs.ty e)) (.inr rfl);exact hsame x hx q1 q2
  .rintro h6 n6 ⟨e,he,q1,q2,q3,q4,q5,q6,q7,q8⟩
   refine⟨_,_,_,_,_,_,_,q1,.inr (.inl ⟨rfl,rfl,?_⟩)⟩;simp (disch:=omega) only[go_sem,simprocAttr,q2,q3,q4];refine KA hv (by omega) q8 e _ _ he ⟨by omega,λx hx=>?_⟩;simp (disch:=omega) only[go_sem];exact q5 x hx
end
end
end Go.Proofs.YtfnnplicbjeifaaGreatDoor

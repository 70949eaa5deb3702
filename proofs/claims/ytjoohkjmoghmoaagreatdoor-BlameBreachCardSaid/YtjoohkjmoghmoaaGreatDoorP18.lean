/- part -/
import Derived.Test.YtjoohkjmoghmoaaGreatDoorP17
import Derived.Test.YtjoohkjmoghmoaaGreatDoorP16
set_option linter.all false
namespace Go.Proofs.YtjoohkjmoghmoaaGreatDoor
section
noncomputable section
@[reducible] def zcn:AV:=.agg [.i .i64 0,.k 1,.k 1,.k 1,.k 1,.i .i64 0,.k 1]
theorem SL.int{h:AH}{n:Nat}{y:AV}{cl:List Nat}(s:SL h n 1 y cn cl):SL h n 1 y lF (cl.map λi:Nat=>(i:Int)):=by
 refine⟨λ_=>rfl,?_⟩;rw[List.length_map];have e:(cl.map λi:Nat=>(i:Int)).flatMap lF=cl.flatMap cn:=by rw[List.flatMap_map]
 rw[e];exact s.2
theorem Ov{cl:List Nat}(hs:cl.Pairwise (· < ·)){i a:Nat}(h:cl[i]?=some a):cl.idxOf a=i:=by
 have hm:=List.mem_of_getElem? h;have h1:=List.idxOf_lt_length_of_mem hm;have h2:cl[cl.idxOf a]?=some a:=by rw[List.getElem?_eq_getElem h1,List.getElem_idxOf]
 obtain⟨h3,h4⟩:=List.getElem?_eq_some_iff.1 h;obtain⟨h5,h6⟩:=List.getElem?_eq_some_iff.1 h2;by_cases e1:cl.idxOf a<i
 .have:=List.pairwise_iff_getElem.1 hs _ _ h5 h3 e1;omega
 .by_cases e2:i<cl.idxOf a
  .have:=List.pairwise_iff_getElem.1 hs _ _ h3 h5 e2;omega
  .omega
theorem Rc{k:Nat}{y:AV}{L L' R:List AV}(h:st1 k y L=some L'):st1 k y (L++R)=some (L'++R):=by
 rw[rT]at h⊢;unfold nV at h⊢;split at h
 .rename_i hl
  cases h
  rw[if_pos (by simp at hl⊢;omega),List.take_append_of_le_length (by simp at hl;omega),List.drop_append_of_le_length (by simp at hl⊢;omega)];simp
 .cases h
theorem Gr.cell{h:AH}{n e w:Nat}{v:AV}{α:Type}{c:α->List AV}{l:List α}(g:Gr h n e w v c l){i j:Nat}{a a':α}{y:AV}(hi:l[i]?=some a)(hj:j<w)(hy:c a'=(c a).set j y):∃b cap cells cells',v= .sl b 0 0 l.length cap/\b<n/\h.get b=some (.row e cells)/\st1 (i*w+j) y cells=some cells'/\Gr (h.set b (.row e cells')) n e w v c (l.set i a'):=by
 have hw:=g.1;rcases g.2 with⟨_,rfl⟩|⟨b,cap,cells,rfl,h1,h2,h3,h4,h5,h6⟩
 .simp at hi
 .have hc:cells=l.flatMap c++cells.drop (l.length*w):=by conv=>lhs;rw[<-List.take_append_drop (l.length*w) cells,h3]
  have st:=Rc (R:=cells.drop (l.length*w)) (DY hw hi hj hy);rw[<-hc]at st;have hl2:((l.set i a').flatMap c).length=l.length*w:=by rw[bL hw,List.length_set]
  refine⟨b,cap,cells,_,rfl,h1,h2,st,hw,.inr ⟨b,cap,_,by rw[List.length_set],h1,aG,?_,?_,λe=>?_,λk e=>?_⟩⟩
  .rw[List.length_set,<-hl2,List.take_left]
  .rw[List.length_set,List.length_append,hl2];omega
  .rw[List.length_set,List.length_append,hl2,List.length_drop,h5 e];omega
  .obtain⟨a1,a2⟩:=h6 k e
   rw[List.length_set,List.length_append,hl2,List.length_drop,a2];exact⟨a1,by have:=Nat.mul_le_mul_right w a1;omega⟩
def zP(cl:List Nat)(c:bP):bP:=⟨(cl.idxOf c.clause.toNat:Nat),c.is⟩
def rC(cl:List Nat)(l:List bP)(s:Nat):List bP:=(l.take s).map (zP cl)++l.drop s
theorem Al(cl:List Nat)(l:List bP)(s:Nat):(rC cl l s).length=l.length:=by simp[rC];omega
theorem D5{cl:List Nat}{l:List bP}{s:Nat}{c:bP}(h:l[s]?=some c):(rC cl l s)[s]?=some c:=by
 have hs:=(List.getElem?_eq_some_iff.1 h).1;unfold rC;rw[List.getElem?_append_right (by simp;omega),List.getElem?_drop];simp[Nat.min_eq_left (Nat.le_of_lt hs),h]
theorem J2{cl:List Nat}{l:List bP}{s:Nat}{c:bP}(h:l[s]?=some c):(rC cl l s).set s (zP cl c)=rC cl l (s+1):=by
 have hs:=(List.getElem?_eq_some_iff.1 h).1;have hl:((l.take s).map (zP cl)).length=s:=by simp;omega
 have e1:l.drop s=c::l.drop (s+1):=by
  rw[List.drop_eq_getElem_cons hs];congr 1;exact(List.getElem?_eq_some_iff.1 h).2
 unfold rC;rw[e1,List.set_append_right _ _ (by omega),hl,Nat.sub_self,List.set_cons_zero,List.take_add_one,h];simp
theorem J5(cl:List Nat)(l:List bP):rC cl l l.length=l.map (zP cl):=by simp[rC]
section
variable {h h':AH} {n n':Nat} {v:CS} {C:aA} {Q:AV->AH->Nat->Prop}
def PaI(h:AH)(n n1 nk pb:Nat)(y:AV)(v:CS)(C:aA)(cl:List Nat)(v2 v3 v4 v5:AV)(k:Nat)(hk:AH)(mk:Nat)(G:Fm):Prop:=∃l':List (aF×AV),l'.length=cl.length/\
 (∀(j i:Nat)(x:aF×AV),j<k->l'[j]?=some x->cl[j]?=some i->x.1=sw C cl i/\Kp (λx=>x<n1\/x=pb) hk mk (λh n=>SL h n 2 x.2 bP.av x.1.start))/\
 (∀(j i:Nat)(kc:aF),j<k->cl[j]?=some i->C.clauses[i]?=some kc->∀c∈kc.start,0<=c.clause/\c.clause.toNat∈cl)/\
 hk.get pb=some (.row 112 (l'.flatMap Ce))/\hk.get nk=some (.row 27 [.i .i64 C.aC,v2,v3,v4,.sl pb 0 0 cl.length (some cl.length),.i .i64 C.days,v5])/\hk.get n=some (.row 27 (v.av C))/\hk.get (n+1)=some (.row 27 [.i .i64 0,.k 1,.k 1,.k 1,.k 1,.i .i64 0,.k 1])/\Up h n hk mk/\pb<mk/\
 Kp (λx=>x<n1\/x=pb) hk mk (λh n=>(SL h n 1 v2 (λx=>[AV.i .i64 x]) C.ah/\SL h n 5 v3 dI.av C.units)/\SL h n 7 v4 dB.av C.acts/\SL h n 1 v5 (λx=>[AV.i .i64 x]) C.off)/\
 G=[(1,y),(2,.p n 0),(4,.p (n+1) 0),(11,.p nk 0),(66,y)]
theorem J8(K:Nat){cl:List Nat}{y v2 v3 v4 v5:AV}{n1 nk pb:Nat}{h6:AH}{last:Int}(hC:aZ h n v C)(hv:C.valid=true)(hcl:SL h n 1 y cn cl)(hln:cl.length<=1000000)
 (lD:∀h' n',Up h n h' n'->Q (.bS [zcn,.i .i64 1]) h' n')
 (uO:eP C (C.part cl) cl->∀v' h' n',Up h n h' n'->Kp (λx=>x<n) h' n' (λh n=>aZ h n v' (C.part cl))->Q (.bS [.agg (v'.av (C.part cl)),.i .i64 0]) h' n')
 (hp:cl.Pairwise (· < ·))(hlt:∀i∈cl,i<C.clauses.length)(u6:Up h n h6 (pb+1))(q6:h6.get nk=some (.row 27 [.i .i64 C.aC,v2,v3,v4,.sl pb 0 0 cl.length (some cl.length),.i .i64 C.days,v5]))(s6:h6.get pb=some (.row 112 ((List.replicate cl.length ((⟨0,0,0,0,[],0,0,false,false,0,0,⟨0,0⟩,0,0,false⟩,.k 1):aF×AV)).flatMap Ce)))(p6:h6.get n=some (.row 27 (v.av C)))(r6:h6.get (n+1)=some (.row 27 [.i .i64 0,.k 1,.k 1,.k 1,.k 1,.i .i64 0,.k 1]))
 (kA:Kp (λx=>x<n1\/x=pb) h6 (pb+1) (λh n=>(SL h n 1 v2 (λx=>[AV.i .i64 x]) C.ah/\SL h n 5 v3 dI.av C.units)/\SL h n 7 v4 dB.av C.acts/\SL h n 1 v5 (λx=>[AV.i .i64 x]) C.off))(hn:n+1<nk/\nk<n1/\n1<=pb)(hkn:n+2<=nk):
 sK Tryz.prog Y0 131 99945 [.c (g_ 3 68 67 69 2 3 Gl),.b 2,.c (.seq (.reg [⟨none,.ld (some 7) (.s 11),.l⟩,⟨none,.st 7 (.s 4) (.v 0),.n⟩,⟨none,.mv (.c (.i .i64 0)),.k 5⟩]) .ret)] .bV (EF (K+6)) h6 (pb+1)
  [(1,y),(2,.p n 0),(4,.p (n+1) 0),(8,.i .i64 last),(26,y),(11,.p nk 0),(66,y),(67,.i .i64 (cl.length:Nat)),(68,.i .i64 0)] (R9 [.c 4 (some 7),.t 5] Q):=by
 have ok:=aA.ok hv;have:=ok.dN;obtain⟨hn2,hn3,hn4⟩:=hn;refine cK cl.length (PaI h n n1 nk pb y v C cl v2 v3 v4 v5) (by omega) (by omega) (by omega) (by omega) (λk h8 n8 G ⟨_,_,_,_,_,_,_,_,_,_,_,e⟩=>by subst e;exact⟨rfl,rfl⟩) ⟨rfl,rfl,_,⟨_,by simp,(λj i x hj=>absurd hj (by omega)),(λj i kc hj=>absurd hj (by omega)),s6,q6,p6,r6,u6,Nat.lt_succ_self _,kA,rfl⟩,by(repeat' (first|exact aP|refine aN rfl ?_))⟩ ?_ ?_
 .rintro k hk mk G hkN ⟨l',hl',hx,hcd,s',q',p',r',uk,lb,kA',rfl⟩
  obtain⟨b1,o1,i,i1,hi,hb1,rd⟩:=(hcl.up uk).fQ (k:=(k:Nat)) (by omega) (by omega) (by omega);rw[show((k:Nat):Int).toNat=k by omega]at hi;have hil:=hlt i (List.mem_of_getElem? hi);simp (disch:=omega) only[go_sem,Gl,aK i1,rd.el,rd.hd,p',CS.av];refine ni hC (by omega) (by omega) λb o kc t hkc hb st fP=>?_;rw[show((i:Nat):Int).toNat=i by omega]at hkc;have xw:=ok.clause hkc;have hns:=xw.rW;simp (disch:=omega) only[go_sem,uk.old b hb,fP.all,aF.av];rw[aU];have uks:=uk.le;refine eT k71 Oh _ (st.up (uk.trans aH)) (by omega) λv7 h7 n7 u7 g7 b7 x7=>?_;have e7:=u7.le;have c7:h7.get mk=some (.row 112 (kc.av t)):=by rw[u7.old _ (by omega)];simp (disch:=omega) only[go_sem]
  have st1':st1 4 v7 (kc.av t)=some (kc.av v7):=rfl;simp (disch:=omega) only[go_sem,g7.cl,c7,st1',Option.map_some,g7.len];generalize hz:Tr.set h7 mk _=h8;have c8:h8.get mk=some (.row 112 (kc.av v7)):=by rw[<-hz,aG]
  have o8:∀x,x<mk->h8.get x=hk.get x:=λx hx=>by rw[<-hz,ay (by omega),u7.old x (by omega),ay (by omega),ay (by omega)]
  have g8:Gr h8 n7 191 2 v7 bP.av kc.start:=g7.on (Nat.le_refl _) λx hx hb=>by rw[<-hz,ay (by have:=b7 x hb;omega)]
  clear hz;refine cK kc.start.length (λs h9 n9 G=>Gr h9 n9 191 2 v7 bP.av (rC cl kc.start s)/\(∀c∈kc.start.take s,c.clause.toNat∈cl)/\(∀x,x<n7->¬blk v7 x->h9.get x=h8.get x)/\n7<=n9/\G=[(1,y),(2,.p n 0),(4,.p (n+1) 0),(11,.p nk 0),(66,y),(67,.i .i64 (cl.length:Nat)),(68,.i .i64 (k:Nat)),(12,.i .i64 (k:Nat)),(14,.p mk 0)]) (by omega) (by omega) (by omega) (by omega) (λk h8 n8 G ⟨_,_,_,_,e⟩=>by subst e;exact⟨rfl,rfl⟩) ⟨rfl,rfl,_,⟨g8,(λc hc=>by simp at hc),λ_ _ _=>rfl,Nat.le_refl _,rfl⟩,by(repeat' (first|exact aP|refine aN rfl ?_))⟩ ?_ ?_
  .rintro s h9 n9 G hs ⟨g9,m9,o9,l9,rfl⟩
   obtain⟨cd,hcd⟩:∃cd,kc.start[s]?=some cd:=⟨kc.start[s],List.getElem?_eq_getElem _⟩;have Xd:∀x,x<mk+1->¬blk v7 x:=λx hx e=>by have:=b7 x e;omega
   have c9:=(o9 mk (by omega) (Xd mk (by omega))).trans c8;obtain⟨b3,o3,cd',i3,aaD,hb3,sH⟩:=g9.sl.fQ (k:=(s:Nat)) (by omega) (by rw[Al];omega) (by omega);rw[show((s:Nat):Int).toNat=s by omega,D5 hcd]at aaD;cases aaD
   have Rf:∀x,x<n->h9.get x=h.get x:=λx hx=>by rw[o9 x (by omega) (Xd x (by omega)),o8 x (by omega)];exact uk.old x hx
   simp (disch:=omega) only[go_sem,Ol,c9,aF.av,aK i3,sH.el,sH.hd,bP.av];rw[aU];have u9:Up h n h9 n9:=⟨by omega,Rf⟩;have hps:(cl.map λi:Nat=>(i:Int)).Pairwise (· < ·):=by
    rw[List.pairwise_map];exact hp.imp λh=>by omega
   refine y7 (K+3) cd.clause (hcl.up u9).int hps (by rw[List.length_map];exact hln) λq h10 n10 hI JK=>?_;have e10:=JK.le;have r10:h10.get (n+1)=some (.row 27 [.i .i64 0,.k 1,.k 1,.k 1,.k 1,.i .i64 0,.k 1]):=by rw[JK.old _ (by omega),o9 _ (by omega) (Xd _ (by omega)),o8 _ (by omega)];exact r'
   have c10:=(JK.old mk (by omega)).trans c9;have u0a:=u9.trans JK;cases hf:(cl.map λi:Nat=>(i:Int)).contains cd.clause with
   |false=>
    simp (disch:=omega) only[go_sem,r10];exact lD _ _ (Up.st u0a _ _ (by omega))
   |true=>
    have hq:=hI hf;rw[List.getElem?_map]at hq;obtain⟨a,ha,hac⟩:=Option.map_eq_some_iff.1 hq;have hat:cd.clause.toNat=a:=by omega
    have hix:cl.idxOf cd.clause.toNat=q:=by rw[hat];exact Ov hp ha
    have g10:=g9.up JK;have agx:(zP cl cd).av=cd.av.set 0 (.i .i64 (q:Nat)):=by unfold zP;rw[hix];rfl
    obtain⟨vb,cap,cells,cells',hv7,hvb,gv,stc,gr⟩:=g10.cell (j:=0) (D5 (cl:=cl) hcd) (by omega) agx;rw[Al]at hv7;subst hv7;have hvm:=b7 vb (eB.2 rfl);rw[Nat.add_zero]at stc;simp (disch:=omega) only[go_sem,c10,aF.av,b_ hs,gv,stc,Option.map_some];refine⟨rfl,rfl,_,⟨by rw[<-J2 hcd];exact gr,λc hc=>?_,λx hx hb=>?_,by omega,rfl⟩,by(repeat' (first|exact aP|refine aN rfl ?_))⟩
    .rw[List.take_add_one,hcd]at hc
     simp at hc;rcases hc with hc|rfl
     .exact m9 c hc
     .rw[hat];exact List.mem_of_getElem? ha
    .rw[ay (λe=>hb (eB.2 e)),JK.old x (by omega),o9 x hx hb]
  .rintro h9 n9 G ⟨g9,m9,o9,l9,rfl⟩
   have Xd:∀x,x<mk+1->¬blk v7 x:=λx hx e=>by have:=b7 x e;omega
   have Rf:∀x,x<mk->h9.get x=hk.get x:=λx hx=>by rw[o9 x (by omega) (Xd x (by omega)),o8 x (by omega)]
   have c9:=(o9 mk (by omega) (Xd mk (by omega))).trans c8;have q9:=(Rf nk (by omega)).trans q';have s9:=(Rf pb lb).trans s';have sp:nV (kc.av v7) (k*16) (l'.flatMap Ce)=some ((l'.set k (kc.onto (kc.start.map (zP cl)),v7)).flatMap Ce):=uq (c:=Ce) (w:=16) (λ_=>rfl) l' k (kc.onto (kc.start.map (zP cl)),v7) (by omega);simp only[aF.av]at sp;simp (disch:=omega) only[go_sem,q9,c9,aF.av,b_ hkN,s9,sp,Option.map_some];rw[List.take_length]at m9;rw[J5]at g9;have hpc:sw C cl i=kc.onto (kc.start.map (zP cl)):=by unfold sw;rw[hkc];rfl
   refine⟨rfl,rfl,_,⟨l'.set k (kc.onto (kc.start.map (zP cl)),v7),by simp[hl'],λj i' x hj hjx hji=>?_,λj i' kc' hj hji hk'=>?_,aG,by rw[ay (by omega)];exact q9,by rw[ay (by omega),Rf n (by omega)];exact p',by rw[ay (by omega),Rf (n+1) (by omega)];exact r',⟨by omega,λx hx=>by rw[ay (by omega),Rf x (by omega)];exact uk.old x hx⟩,by omega,(kA'.on (by omega) λx hx _=>Rf x hx).set (.inl (.inr rfl)) (Nat.le_refl _),rfl⟩,by(repeat' (first|exact aP|refine aN rfl ?_))⟩
   .rw[List.getElem?_set]at hjx
    by_cases e:k=j
    .subst e
     rw[if_pos rfl,if_pos (by omega)]at hjx;cases hjx
     rw[hi]at hji;cases hji
     exact⟨hpc.symm,(g9.sl.kp (X:=λx=>x<n1\/x=pb) λy hy e=>by have:=b7 y hy;omega).set (.inl (.inr rfl)) (Nat.le_refl _)⟩
    .rw[if_neg e]at hjx
     obtain⟨y1,y2⟩:=hx j i' x (by omega) hjx hji;exact⟨y1,(y2.on (by omega) λx hx _=>Rf x hx).set (.inl (.inr rfl)) (Nat.le_refl _)⟩
   .by_cases e:j=k
    .subst e
     rw[hi]at hji;cases hji
     rw[hkc]at hk';cases hk'
     exactλc hc=>⟨(xw.start c hc).1,m9 c hc⟩
    .exact hcd j i' kc' (by omega) hji hk'
 .rintro hk mk G ⟨l',hl',hx,hcd,s',q',p',r',uk,lb,kA',rfl⟩
  simp (disch:=omega) only[go_sem,q',r'];have hpart:eP C (C.part cl) cl:=eP.of hlt λi hi kc hkc=>by
   obtain⟨j,hj⟩:=List.getElem?_of_mem hi;exact hcd j i kc (List.getElem?_eq_some_iff.1 hj).1 hj hkc
  have get:∀(j:Nat)(x:aF×AV),l'[j]?=some x->(C.part cl).clauses[j]?=some x.1/\Kp (λx=>x<n1\/x=pb) hk mk (λh n=>SL h n 2 x.2 bP.av x.1.start):=λj x e=>by
   have hj:=(List.getElem?_eq_some_iff.1 e).1;have hj2:cl[j]?=some (cl[j]'(by omega)):=List.getElem?_eq_getElem _;obtain⟨y1,y2⟩:=hx j _ x (by omega) e hj2;refine⟨?_,y2⟩;show(cl.map (sw C cl))[j]?=_;rw[List.getElem?_map,hj2,Option.map_some,y1]
  refine uO hpart ⟨v2,v3,v4,_,v5⟩ _ _ (Up.st uk _ _ (by omega)) ?_;have hpl:(C.part cl).clauses.length=cl.length:=by simp[aA.part]
  have slk:SL hk mk 16 (.sl pb 0 0 cl.length (some cl.length)) Ce l':=SL.of (λ_=>rfl) lb s' rfl hl'.symm (λk hk=>by cases hk;exact Nat.le_refl _);have ksl:Kp (λx=>x<n1) hk mk (λh n=>SL h n 16 (.sl pb 0 0 cl.length (some cl.length)) Ce l'):=slk.kp λx hx e=>by rw[eB]at hx;omega
  have M7:Kp (λx=>x<n1) hk mk (λh n=>∀(j:Nat)(x:aF×AV),l'[j]?=some x->SL h n 2 x.2 bP.av x.1.start):=λh' n' a1 a2 j x e=>
   ((get j x e).2.le λy _ hy=>.inl hy) h' n' a1 a2
  have kA2:=kA'.le (Y:=λx=>x<n1) λy _ hy=>.inl hy;have hl1:(C.part cl).clauses.zip (l'.map (·.2))=l':=by
   apply List.ext_getElem?;intro j;cases hj:l'[j]? with
   |none=>
    rw[List.getElem?_eq_none_iff]at hj⊢;simp;omega
   |some x=>
    rw[List.getElem?_zip_eq_some];exact⟨(get j x hj).1,by rw[List.getElem?_map,hj];rfl⟩
  have kk:=((kA2.and ksl).and M7).wk (B:=λh n=>aZ h n ⟨v2,v3,v4,.sl pb 0 0 cl.length (some cl.length),v5⟩ (C.part cl)) λh n e=>⟨e.1.1.1.1,e.1.1.1.2,e.1.1.2.1,⟨l'.map (·.2),by simp[hl',hpl],by rw[hl1];have:=e.1.2.2;rw[hl']at this;rw[hpl];exact this,λi k t h1 h2=>by
   rw[List.getElem?_map]at h2;cases hj:l'[i]? with
   |none=>rw[hj]at h2;cases h2
   |some x=>
    rw[hj]at h2;cases h2
    have h3:=(get i x hj).1;rw[h1]at h3;cases h3
    exact e.2 i x hj⟩,e.1.1.2.2⟩
  exact(kk.set (.inl (by omega)) (Nat.le_refl _)).le λx _ hx=>by omega
theorem Rh(K:Nat){cl:List Nat}{y:AV}(hC:aZ h n v C)(ho:C.off.length<=1000000)(hv:C.valid=true)(hcl:SL h n 1 y cn cl)(hln:cl.length<=1000000)
 (lD:∀h' n',Up h n h' n'->Q (.bS [zcn,.i .i64 1]) h' n')
 (uO:eP C (C.part cl) cl->∀v' h' n',Up h n h' n'->Kp (λx=>x<n) h' n' (λh n=>aZ h n v' (C.part cl))->Q (.bS [.agg (v'.av (C.part cl)),.i .i64 0]) h' n'):CW (EF (K+7)) 131 [.agg (v.av C),y] h n Q:=by
 have ok:=aA.ok hv;have:=ok.dN;have:=ok.jU;have:=ok.kY;have hu:C.units.length<=20:=by
  have h1:=hv;simp only[aA.valid,aA.over,Bool.and_eq_true,Bool.not_eq_true',Bool.or_eq_false_iff,decide_eq_false_iff_not]at h1;omega
 refine aD c131 rfl ?_;simp (disch:=omega) only[go_sem,aav,CS.av];rw[aU];refine pG _ (hC.up aH) ho λei h2 n2 u2=>?_;have e2:=u2.le;have g2:h2.get n=some (.row 27 (v.av C)):=by rw[u2.old _ (by omega)];simp (disch:=omega) only[go_sem]
 have r2:h2.get (n+1)=some (.row 27 [.i .i64 0,.k 1,.k 1,.k 1,.k 1,.i .i64 0,.k 1]):=by rw[u2.old _ (by omega)];simp (disch:=omega) only[go_sem]
 have ux:Up h n h2 n2:=by exact aH
 clear u2;rw[(lY C).2 hv];simp (disch:=omega) only[go_sem,hcl.len];refine cK cl.length (λk hk nk G=>hk=h2/\nk=n2/\∃last:Int, -1<=last/\(cl.take k).Pairwise (· < ·)/\(∀i∈cl.take k,(i:Int)<=last/\i<C.clauses.length)/\G=[(1,y),(2,.p n 0),(4,.p (n+1) 0),(8,.i .i64 last),(26,y)]) (by omega) (by omega) (by omega) (by omega) (λk h8 n8 G ⟨_,_,_,_,_,_,e⟩=>by subst e;exact⟨rfl,rfl⟩) ⟨rfl,rfl,_,⟨rfl,rfl, -1,by omega,by simp,(λi hi=>by simp at hi),rfl⟩,by(repeat' (first|exact aP|refine aN rfl ?_))⟩ ?_ ?_
 .rintro k _ _ G hk ⟨rfl,rfl,last,hl0,hp,hlt,rfl⟩
  obtain⟨b1,o1,i,i1,hi,hb1,rd⟩:=(hcl.up ux).fQ (k:=(k:Nat)) (by omega) (by omega) (by omega);rw[show((k:Nat):Int).toNat=k by omega]at hi;repeat' (first|(simp (disch:=omega) only[go_sem,ub.old,Gm,aK i1,rd.el,rd.hd,g2,r2,CS.av,hC.lk])|(simp (disch:=omega) only[go_sem,Gm,aK i1,rd.el,rd.hd,g2,r2,CS.av,hC.lk])|(refine aS ?_ ?_<;>(intro hb hd;rw[hb];clear hb))|(with_reducible refine aj ?_))
  .exact lD _ _ aH
  .exact lD _ _ aH
  .refine⟨rfl,rfl,_,⟨rfl,rfl,i,by omega,?_,λj hj=>?_,rfl⟩,by(repeat' (first|exact aP|refine aN rfl ?_))⟩
   .rw[List.take_add_one,hi,List.pairwise_append]
    exact⟨hp,by simp,λa ha b hb=>by simp at hb;have:=(hlt a ha).1;omega⟩
   .rw[List.take_add_one,hi]at hj
    simp at hj;rcases hj with hj|hj
    .have:=hlt j hj;omega
    .omega
 rintro hk nk G ⟨rfl,rfl,last,_,hp,hlt,rfl⟩;rw[List.take_length]at hp hlt;replace hlt:=λi hi=>(hlt i hi).2;simp (disch:=omega) only[go_sem,g2,CS.av];generalize hz:Tr.set (Tr.set hk nk _) nk _=h1;have ux1:Up h n h1 (nk+1):=by rw[<-hz];exact aH
 have q1:h1.get nk=some (.row 27 [.i .i64 C.aC,v.h,v.u,v.a,v.k,.i .i64 C.days,v.o]):=by rw[<-hz,aG]
 have p1:h1.get n=some (.row 27 (v.av C)):=by rw[<-hz,ay (by omega),ay (by omega)];exact g2
 have r1:h1.get (n+1)=some (.row 27 [.i .i64 0,.k 1,.k 1,.k 1,.k 1,.i .i64 0,.k 1]):=by rw[<-hz,ay (by omega),ay (by omega)];exact r2
 clear hz;generalize hn1:nk+1=n1 at*;rw[aU];refine eT U7 yX _ (hC.ah.up ux1) (by omega) λv2 h2 n2 u2 g2 b2 _=>?_;have e2:=u2.le;have q2:=(u2.old nk (by omega)).trans q1;have p2':=(u2.old n (by omega)).trans p1;simp (disch:=omega) only[go_sem,g2.cl,q2,p2',CS.av];have Cx:=(g2.sl.kp (X:=λx=>x<n1) λx hx=>by have:=b2 x hx;omega).set (b:=nk) (o:=.row 27 [.i .i64 C.aC,v2,v.u,v.a,v.k,.i .i64 C.days,v.o]) (.inl (by omega)) (Nat.le_refl _);have KI:Up h n (h2.set nk (.row 27 [.i .i64 C.aC,v2,v.u,v.a,v.k,.i .i64 C.days,v.o])) n2:=Up.st (ux1.trans u2) _ _ (by omega);replace q2:(h2.set nk (.row 27 [.i .i64 C.aC,v2,v.u,v.a,v.k,.i .i64 C.days,v.o])).get nk=some (.row 27 [.i .i64 C.aC,v2,v.u,v.a,v.k,.i .i64 C.days,v.o]):=aG;have p2:(h2.set nk (.row 27 [.i .i64 C.aC,v2,v.u,v.a,v.k,.i .i64 C.days,v.o])).get n=some (.row 27 (v.av C)):=by rw[ay (by omega),u2.old n (by omega)];exact p1
 have r2:(h2.set nk (.row 27 [.i .i64 C.aC,v2,v.u,v.a,v.k,.i .i64 C.days,v.o])).get (n+1)=some (.row 27 [.i .i64 0,.k 1,.k 1,.k 1,.k 1,.i .i64 0,.k 1]):=by rw[ay (by omega),u2.old (n+1) (by omega)];exact r1
 generalize Tr.set h2 nk _=h2a at*;rw[aU];refine eT k68 Te _ (hC.units.up KI) (by omega) λv3 h3 n3 u3 g3 b3 _=>?_;have e3:=u3.le;have q3:=(u3.old nk (by omega)).trans q2;have p3':=(u3.old n (by omega)).trans p2;simp (disch:=omega) only[go_sem,g3.cl,q3,p3',CS.av];have Cx:=(Cx.up u3).set (b:=nk) (o:=.row 27 [.i .i64 C.aC,v2,v3,v.a,v.k,.i .i64 C.days,v.o]) (.inl (by omega)) (Nat.le_refl _);have Io:=(g3.sl.kp (X:=λx=>x<n1) λx hx=>by have:=b3 x hx;omega).set (b:=nk) (o:=.row 27 [.i .i64 C.aC,v2,v3,v.a,v.k,.i .i64 C.days,v.o]) (.inl (by omega)) (Nat.le_refl _);have rz:Up h n (h3.set nk (.row 27 [.i .i64 C.aC,v2,v3,v.a,v.k,.i .i64 C.days,v.o])) n3:=Up.st (KI.trans u3) _ _ (by omega);replace q3:(h3.set nk (.row 27 [.i .i64 C.aC,v2,v3,v.a,v.k,.i .i64 C.days,v.o])).get nk=some (.row 27 [.i .i64 C.aC,v2,v3,v.a,v.k,.i .i64 C.days,v.o]):=aG;have p3:(h3.set nk (.row 27 [.i .i64 C.aC,v2,v3,v.a,v.k,.i .i64 C.days,v.o])).get n=some (.row 27 (v.av C)):=by rw[ay (by omega),u3.old n (by omega)];exact p2
 have r3:(h3.set nk (.row 27 [.i .i64 C.aC,v2,v3,v.a,v.k,.i .i64 C.days,v.o])).get (n+1)=some (.row 27 [.i .i64 0,.k 1,.k 1,.k 1,.k 1,.i .i64 0,.k 1]):=by rw[ay (by omega),u3.old (n+1) (by omega)];exact r2
 generalize Tr.set h3 nk _=h3a at*;rw[aU];refine eT k69 Tf _ (hC.acts.up rz) (by omega) λv4 h4 n4 u4 g4 b4 _=>?_;have e4:=u4.le;have q4:=(u4.old nk (by omega)).trans q3;have p4':=(u4.old n (by omega)).trans p3;simp (disch:=omega) only[go_sem,g4.cl,q4,p4',CS.av];have Cx:=(Cx.up u4).set (b:=nk) (o:=.row 27 [.i .i64 C.aC,v2,v3,v4,v.k,.i .i64 C.days,v.o]) (.inl (by omega)) (Nat.le_refl _);have Io:=(Io.up u4).set (b:=nk) (o:=.row 27 [.i .i64 C.aC,v2,v3,v4,v.k,.i .i64 C.days,v.o]) (.inl (by omega)) (Nat.le_refl _);have Pb:=(g4.sl.kp (X:=λx=>x<n1) λx hx=>by have:=b4 x hx;omega).set (b:=nk) (o:=.row 27 [.i .i64 C.aC,v2,v3,v4,v.k,.i .i64 C.days,v.o]) (.inl (by omega)) (Nat.le_refl _);have VO:Up h n (h4.set nk (.row 27 [.i .i64 C.aC,v2,v3,v4,v.k,.i .i64 C.days,v.o])) n4:=Up.st (rz.trans u4) _ _ (by omega);replace q4:(h4.set nk (.row 27 [.i .i64 C.aC,v2,v3,v4,v.k,.i .i64 C.days,v.o])).get nk=some (.row 27 [.i .i64 C.aC,v2,v3,v4,v.k,.i .i64 C.days,v.o]):=aG;have p4:(h4.set nk (.row 27 [.i .i64 C.aC,v2,v3,v4,v.k,.i .i64 C.days,v.o])).get n=some (.row 27 (v.av C)):=by rw[ay (by omega),u4.old n (by omega)];exact p3
 have r4:(h4.set nk (.row 27 [.i .i64 C.aC,v2,v3,v4,v.k,.i .i64 C.days,v.o])).get (n+1)=some (.row 27 [.i .i64 0,.k 1,.k 1,.k 1,.k 1,.i .i64 0,.k 1]):=by rw[ay (by omega),u4.old (n+1) (by omega)];exact r3
 generalize Tr.set h4 nk _=h4a at*;rw[aU];refine eT U7 yX _ (hC.off.up VO) (by exact ho) λv5 h5 n5 u5 g5 b5 _=>?_;have e5:=u5.le;have q5:=(u5.old nk (by omega)).trans q4;have p5':=(u5.old n (by omega)).trans p4;simp (disch:=omega) only[go_sem,g5.cl,q5,p5',CS.av];have Cx:=(Cx.up u5).set (b:=nk) (o:=.row 27 [.i .i64 C.aC,v2,v3,v4,v.k,.i .i64 C.days,v5]) (.inl (by omega)) (Nat.le_refl _);have Io:=(Io.up u5).set (b:=nk) (o:=.row 27 [.i .i64 C.aC,v2,v3,v4,v.k,.i .i64 C.days,v5]) (.inl (by omega)) (Nat.le_refl _);have Pb:=(Pb.up u5).set (b:=nk) (o:=.row 27 [.i .i64 C.aC,v2,v3,v4,v.k,.i .i64 C.days,v5]) (.inl (by omega)) (Nat.le_refl _);have WY:=(g5.sl.kp (X:=λx=>x<n1) λx hx=>by have:=b5 x hx;omega).set (b:=nk) (o:=.row 27 [.i .i64 C.aC,v2,v3,v4,v.k,.i .i64 C.days,v5]) (.inl (by omega)) (Nat.le_refl _);have WT:Up h n (h5.set nk (.row 27 [.i .i64 C.aC,v2,v3,v4,v.k,.i .i64 C.days,v5])) n5:=Up.st (VO.trans u5) _ _ (by omega);replace q5:(h5.set nk (.row 27 [.i .i64 C.aC,v2,v3,v4,v.k,.i .i64 C.days,v5])).get nk=some (.row 27 [.i .i64 C.aC,v2,v3,v4,v.k,.i .i64 C.days,v5]):=aG;have p5:(h5.set nk (.row 27 [.i .i64 C.aC,v2,v3,v4,v.k,.i .i64 C.days,v5])).get n=some (.row 27 (v.av C)):=by rw[ay (by omega),u5.old n (by omega)];exact p4
 have r5:(h5.set nk (.row 27 [.i .i64 C.aC,v2,v3,v4,v.k,.i .i64 C.days,v5])).get (n+1)=some (.row 27 [.i .i64 0,.k 1,.k 1,.k 1,.k 1,.i .i64 0,.k 1]):=by rw[ay (by omega),u5.old (n+1) (by omega)];exact r4
 generalize Tr.set h5 nk _=h5a at*;simp (disch:=omega) only[go_sem,hcl.len,q5,Dw];generalize hz:Tr.set (Tr.set h5a n5 _) nk _=h6;have u6:Up h n h6 (n5+1):=by rw[<-hz];exact Up.st (Up.st (WT.wk (Nat.le_succ _)) _ _ (by omega)) _ _ (by omega)
 have q6:h6.get nk=some (.row 27 [.i .i64 C.aC,v2,v3,v4,.sl n5 0 0 cl.length (some cl.length),.i .i64 C.days,v5]):=by rw[<-hz,aG]
 have s6:h6.get n5=some (.row 112 ((List.replicate cl.length ((⟨0,0,0,0,[],0,0,false,false,0,0,⟨0,0⟩,0,0,false⟩,.k 1):aF×AV)).flatMap Ce)):=by rw[<-hz,ay (by omega),aG,<-je Ce]
 have p6:h6.get n=some (.row 27 (v.av C)):=by rw[<-hz,ay (by omega),ay (by omega)];exact p5
 have r6:h6.get (n+1)=some (.row 27 [.i .i64 0,.k 1,.k 1,.k 1,.k 1,.i .i64 0,.k 1]):=by rw[<-hz,ay (by omega),ay (by omega)];exact r5
 have kA:Kp (λx=>x<n1\/x=n5) h6 (n5+1) (λh n=>(SL h n 1 v2 (λx=>[AV.i .i64 x]) C.ah/\SL h n 5 v3 dI.av C.units)/\SL h n 7 v4 dB.av C.acts/\SL h n 1 v5 (λx=>[AV.i .i64 x]) C.off):=by
  have k0:=(Cx.and Io).and (Pb.and WY);have k1:Kp (λx=>x<n1\/x=n5) h5a n5 (λh n=>(SL h n 1 v2 (λx=>[AV.i .i64 x]) C.ah/\SL h n 5 v3 dI.av C.units)/\SL h n 7 v4 dB.av C.acts/\SL h n 1 v5 (λx=>[AV.i .i64 x]) C.off):=k0.le λx hx e=>by omega
  rw[<-hz];exact(k1.set (.inr (Nat.le_refl _)) (Nat.le_succ _)).set (.inl (.inl (by omega))) (Nat.le_refl _)
 clear hz;exact J8 K hC hv hcl hln lD uO hp hlt u6 q6 s6 p6 r6 kA (by omega) (by omega)
end
end
end
section
noncomputable section
section
variable {h h':AH} {n n':Nat} {v:CS} {C:aA} {tv:TS} {s:aI} {Q:AV->AH->Nat->Prop}
theorem zQ(K:Nat){cl:List Nat}{y:AV}(hcl:SL h n 1 y cn cl)(hln:cl.length<=1000000)(hS:bZ h n tv s)(l1:s.ah.length<=1000000)(l2:s.used.length<=1000000)(l3:s.marks.length<=1000000)(hlt:∀i∈cl,i<s.marks.length)
 (hQ:∀tv' h' n',Up h n h' n'->Kp (λx=>x<n) h' n' (λh n=>bZ h n tv' (s.rs cl))->Q (.agg (tv'.av (s.rs cl))) h' n'):CW (EF (K+2)) 132 [y,.agg (tv.av s)] h n Q:=by
 refine aD agm rfl ?_;repeat' (first|(simp (disch:=omega) only[go_sem,ub.old,VP,TS.av])|(simp (disch:=omega) only[go_sem,VP,TS.av])|(refine aS ?_ ?_<;>(intro hb hd;rw[hb];clear hb))|(with_reducible refine aj ?_))
 rw[bT];refine eT U7 yX _ (hS.ah.up aH) l1 λv2 h2 n2 u2 g2 b2 _=>?_;have e2:=u2.le;have q2:h2.get n=some (.row 43 (tv.av s)):=by rw[u2.old _ (by omega)];simp (disch:=omega) only[go_sem]
 have z2:h2.get (n+1)=some (.row 43 [.i .i64 0,.k 1,.k 1,.k 1]):=by rw[u2.old _ (by omega)];simp (disch:=omega) only[go_sem]
 have KI:Up h n h2 n2:=by exact aH
 clear u2;simp (disch:=omega) only[go_sem,q2,TS.av];rw[bT];refine eT Zh Sy _ (hS.used.up KI) l2 λv3 h3 n3 u3 g3 b3 _=>?_;have e3:=u3.le;have q3:=(u3.old n (by omega)).trans q2;have z3:=(u3.old (n+1) (by omega)).trans z2;have rz:=KI.trans u3;simp (disch:=omega) only[go_sem,q2,q3,TS.av,g2.cl,g3.cl,hcl.len];generalize hz:Tr.set (Tr.set h3 (n+2) _) (n+2) _=h4;have VO:Up h n h4 n3:=by rw[<-hz];exact Up.st (Up.st rz _ _ (by omega)) _ _ (by omega)
 have o4:h4.get (n+2)=some (.row 43 [.i .i64 s.day,v2,v3,.k 1]):=by rw[<-hz,aG]
 have q4:h4.get n=some (.row 43 (tv.av s)):=by rw[<-hz,ay (by omega),ay (by omega)];exact q3
 have z4:h4.get (n+1)=some (.row 43 [.i .i64 0,.k 1,.k 1,.k 1]):=by rw[<-hz,ay (by omega),ay (by omega)];exact z3
 have kA:Kp (λx=>x<n+4\/n3<=x) h4 n3 (λh n=>SL h n 1 v2 (λx=>[AV.i .i64 x]) s.ah/\SL h n 1 v3 (λx=>[AV.b x]) s.used):=by
  have k2:=((g2.sl.up u3).kp (X:=λx=>x<n+4\/n3<=x) λx hx e=>by have:=b2 x hx;have:=g2.fH hx;omega).and (g3.sl.kp (X:=λx=>x<n+4\/n3<=x) λx hx e=>by have:=b3 x hx;have:=g3.fH hx;omega);rw[<-hz];exact(k2.set (.inl (.inl (by omega))) (Nat.le_refl _)).set (.inl (.inl (by omega))) (Nat.le_refl _)
 clear hz;refine cK cl.length (λk hk nk G=>∃mv,Gr hk nk 144 5 mv au.av (bQ (cl.take k) s.marks)/\hk.get (n+2)=some (.row 43 [.i .i64 s.day,v2,v3,mv])/\(∀x,blk mv x->n3<=x)/\hk.get n=some (.row 43 (tv.av s))/\hk.get (n+1)=some (.row 43 [.i .i64 0,.k 1,.k 1,.k 1])/\Up h n hk nk/\n3<=nk/\Kp (λx=>x<n+4\/n3<=x) hk nk (λh n=>SL h n 1 v2 (λx=>[AV.i .i64 x]) s.ah/\SL h n 1 v3 (λx=>[AV.b x]) s.used)/\G=[(3,.p n 0),(4,.p (n+1) 0),(5,.p (n+2) 0),(17,y)]) (by omega) (by omega) (by omega) (by omega) (λk h8 n8 G ⟨_,_,_,_,_,_,_,_,_,e⟩=>by subst e;exact⟨rfl,rfl⟩) ⟨rfl,rfl,_,⟨.k 1,Gr.nil λ_=>rfl,o4,(λx hx=>absurd hx fE),q4,z4,VO,Nat.le_refl _,kA,rfl⟩,by(repeat' (first|exact aP|refine aN rfl ?_))⟩ ?_ ?_
 .rintro k hk nk G hkN ⟨mv,gm,ok',bm,qk,zk,uk,lk,kA',rfl⟩
  obtain⟨b1,o1,i,i1,hi,hb1,rd⟩:=(hcl.up uk).fQ (k:=(k:Nat)) (by omega) (by omega) (by omega);rw[show((k:Nat):Int).toNat=k by omega]at hi;have hil:=hlt i (List.mem_of_getElem? hi);obtain⟨b5,o5,m,i5,hm,hb5,sO⟩:=(hS.marks.up uk).fQ (k:=(i:Nat)) (by omega) (by omega) (by omega);rw[show((i:Nat):Int).toNat=i by omega]at hm;have hrl:(bQ (cl.take k) s.marks).length=k:=by simp[bQ];omega
  repeat' (first|(simp (disch:=omega) only[go_sem,ub.old,Gn,aK i1,rd.el,rd.hd,ok',qk,TS.av,i5,sO.all,au.av])|(simp (disch:=omega) only[go_sem,Gn,aK i1,rd.el,rd.hd,ok',qk,TS.av,i5,sO.all,au.av])|(refine aS ?_ ?_<;>(intro hb hd;rw[hb];clear hb))|(with_reducible refine aj ?_))
  refine Cb (l2:=[m]) (gm.up aH) ⟨rfl,?_⟩ (by simp;omega) λmv' h6 n6 g6 l6 s6 b6=>?_
  .show bnd (iA (Tr.get _ _) 0 _) (λr=>mH (Nat.mul 1 5) r)=_
   rw[aG];rfl
  have Oq:∀x,x<n3->h6.get x=hk.get x:=λx hx=>by rw[s6 x (by omega) (λe=>by have:=bm x e;omega),ay (by omega)]
  have o6:=(Oq (n+2) (by omega)).trans ok';have hnew:bQ (cl.take k) s.marks++[m]=bQ (cl.take (k+1)) s.marks:=by
   unfold bQ;rw[List.take_add_one,hi,List.map_append];simp[hm]
  rw[hnew]at g6;simp (disch:=omega) only[go_sem,o6,g6.cl];refine⟨rfl,rfl,_,⟨mv',g6.on (Nat.le_refl _) λx _ hx=>ay (by rcases b6 x hx with e|e;(have:=bm x e;omega);omega),aG,λx hx=>?_,by rw[ay (by omega),Oq n (by omega)];exact qk,by rw[ay (by omega),Oq (n+1) (by omega)];exact zk,⟨by have:=uk.le;omega,λx hx=>by rw[ay (by omega),Oq x (by omega)];exact uk.old x hx⟩,by omega,(kA'.on (by omega) λx hx hX=>?_).set (.inl (.inl (by omega))) (Nat.le_refl _),rfl⟩,by(repeat' (first|exact aP|refine aN rfl ?_))⟩
  .rcases b6 x hx with e|e
   .exact bm x e
   .omega
  .exact Oq x (by omega)
 .rintro hk nk G ⟨mv,gm,ok',bm,qk,zk,uk,lk,kA',rfl⟩
  rw[List.take_length]at gm;simp (disch:=omega) only[go_sem,ok',zk];refine hQ ⟨v2,v3,mv⟩ _ _ (Up.st uk _ _ (by omega)) ?_;have km:Kp (λx=>x<n+2) hk nk (λh n=>SL h n 5 mv au.av (bQ cl s.marks)):=gm.sl.kp λx hx e=>by have:=bm x hx;omega
  have kk:=((kA'.le (Y:=λx=>x<n+2) λx _ hx=>.inl (by omega)).and km).wk (B:=λh n=>bZ h n ⟨v2,v3,mv⟩ (s.rs cl)) λh n e=>⟨e.1.1,e.1.2,e.2⟩;exact(kk.set (.inl (by omega)) (Nat.le_refl _)).le λx _ hx=>by omega
end
end
end
section
noncomputable section
structure Tk(h:AH)(n lb:Nat)(lv:AV)(L:List AV):Prop where
 box:h.get lb=some (.row 50 [lv])
 gr:Gr h n 22 1 lv one L
 VW:lb<n
 ne:¬blk lv lb
def LX(lb:Nat)(lv:AV)(x:Nat):Prop:=x=lb\/blk lv x
section
variable {h h':AH} {n n':Nat} {v:CS} {C D:aA} {tv:TS} {q:aR} {party:Int} {Q:AV->AH->Nat->Prop} {lb pb:Nat} {lv y:AV} {L:List AV}
theorem Tk.up(a:Tk h n lb lv L)(u:Up h n h' n'):Tk h' n' lb lv L:=⟨(u.old _ a.VW).trans a.box,a.gr.up u,Nat.lt_of_lt_of_le a.VW u.le,a.ne⟩
theorem Ri(K:Nat)(hC:aZ h n v D)(ho:D.off.length<=1000000)(hS:bZ h n tv q.st)(hp:h.get pb=some (.row 3 [.i .i64 party]))(hpn:pb<n)(ls:Tk h n lb lv L)(hL:L.length<=1000000)(hy:qE y=some [y])
 (lD:∀e h' n',e≠0->Up h n h' n'->Q (.i .i64 e) h' n')
 (uO:D.valid=true->¬dh D party q->∀h' n',Up h n h' n'->Q (.i .i64 0) h' n')
 (KF:D.valid=true->dh D party q->∀Rj h' n',Tk h' n' lb Rj (L++[y])->n<=n'->(∀x,x<n->¬LX lb lv x->h'.get x=h.get x)->(∀x,blk Rj x->blk lv x\/n<=x)->Q (.i .i64 0) h' n'):CW (EF (K+11)) 73 [y,.agg (v.av D),.agg (tv.pv q),.p pb 0,.p lb 0] h n Q:=by
 refine aD c73 rfl ?_;repeat' (first|(simp (disch:=omega) only[go_sem,ub.old,m73,CS.av,TS.pv,hp])|(simp (disch:=omega) only[go_sem,m73,CS.av,TS.pv,hp])|(refine aS ?_ ?_<;>(intro hb hd;rw[hb];clear hb))|(with_reducible refine aj ?_))
 rw[aU];have VW:=ls.VW;refine Ii K (hC.up aH) ho (hS.up aH) ⟨λ_ h2 n2 u2=>?_,λ_ _ _ _ h2 n2 u2=>?_,λhp0 hp1 so ps wv M vv ww h2 n2 ia u2 k2=>?_⟩
 .have e2:=u2.le
  repeat' (first|(simp (disch:=omega) only[go_sem,ub.old,S9,Int.reduceEq])|(simp (disch:=omega) only[go_sem,S9,Int.reduceEq])|(refine aS ?_ ?_<;>(intro hb hd;rw[hb];clear hb))|(with_reducible refine aj ?_))
  exact lD 1 _ _ (by omega) aH
 .have e2:=u2.le
  repeat' (first|(simp (disch:=omega) only[go_sem,ub.old,S9,Int.reduceEq])|(simp (disch:=omega) only[go_sem,S9,Int.reduceEq])|(refine aS ?_ ?_<;>(intro hb hd;rw[hb];clear hb))|(with_reducible refine aj ?_))
  exact lD 3 _ _ (by omega) aH
 .have e2:=u2.le
  have g2:h2.get n=some (.row 27 (v.av D)):=by rw[u2.old _ (by omega)];simp (disch:=omega) only[go_sem]
  have ux:Up h n h2 n2:=by exact aH
  clear u2;repeat' (first|(simp (disch:=omega) only[go_sem,ub.old,g2,CS.av])|(simp (disch:=omega) only[go_sem,g2,CS.av])|(refine aS ?_ ?_<;>(intro hb hd;rw[hb];clear hb))|(with_reducible refine aj ?_))
  rw[aU];have ka:=(k2.set (b:=n2) (o:=.row 150 [.i .i64 0,.k 1,.k 1]) (.inr (Nat.le_refl _)) (Nat.le_refl _)).set (b:=n2) (o:=.row 150 [.i .i64 party,vv,ww]) (m:=n2+1) (.inr (Nat.le_refl _)) (Nat.le_succ _);refine Ik K (hC.up aH) ho ka.use ia hp0 hp1 so λv' sf h3 n3 sl u3 k3=>?_;have e3:=u3.le;obtain⟨b,hb,wC⟩:=sl.2 0 q ia.hd;obtain⟨b1,o1,b',i1,hb',hb1,rd⟩:=k3.use.fQ (k:=(0:Int)) (by omega) (by have:=(List.getElem?_eq_some_iff.1 hb).1;omega) (by omega);rw[show((0:Int)).toNat=0 by rfl,hb]at hb';cases hb'
  have uf:Up h n h3 n3:=by exact aH
  cases b with
  |true=>
   simp (disch:=omega) only[go_sem,aK i1,rd.el,rd.hd];exact uO so.con (wC.1 rfl) _ _ uf
  |false=>
   have hd:dh D party q:=Classical.byContradiction λe=>by cases wC.2 e
   have ls3:=ls.up uf;have bx:=ls3.box;simp (disch:=omega) only[go_sem,aK i1,rd.el,rd.hd,bx,hy];refine jW (l2:=[y]) (ls3.gr.up aH) ⟨rfl,?_⟩ (by simp;omega) λRj h4 n4 g4 l4 s4 b4=>?_
   .show bnd (iA (Tr.get _ _) 0 _) (λr=>mH (Nat.mul 1 1) r)=_
    rw[aG];rfl
   have lb3:=ls3.VW;have s4':∀x,x<n3->¬blk lv x->h4.get x=h3.get x:=λx hx hb=>by rw[s4 x (by omega) hb,ay (by omega)]
   have bx4:=(s4' lb lb3 ls3.ne).trans bx;have ne4:¬blk Rj lb:=λe=>by
    rcases b4 lb e with e|e
    .exact ls3.ne e
    .omega
   simp (disch:=omega) only[go_sem,g4.cl,bx4];refine KF so.con hd Rj _ _ ⟨aG,g4.on (Nat.le_refl _) λx _ hx=>ay λe=>ne4 (by rw[<-e];exact hx),by omega,ne4⟩ (by have:=uf.le;omega) (λx hx hX=>?_) λx hx=>?_
   .rw[ay (λe=>hX (.inl e)),s4' x (by have:=uf.le;omega) (λe=>hX (.inr e)),uf.old x hx]
   .rcases b4 x hx with e|e
    .exact .inl e
    .exact .inr (by have:=uf.le;omega)
end
end
end
section
noncomputable section
section
variable {h h':AH} {n n':Nat} {v:CS} {C:aA} {tv:TS} {p:aR} {party:Int} {Q:AV->AH->Nat->Prop} {lb pb:Nat}
theorem Ow(K:Nat){n0:Nat}(hC:aZ h n0 v C)(ho:C.off.length<=1000000)(hS:bZ h n0 tv p.st)(hn0:n0<=lb)(hp:h.get pb=some (.row 3 [.i .i64 party]))(hpn:pb<n)(ls:Tk h n lb (.k 1) [])(hne:pb≠lb)
 (lD:∀e h' n',e≠0->n<=n'->(∀x,x<n->x≠lb->h'.get x=h.get x)->Q (.i .i64 e) h' n')
 (uO:0<=party->party<C.aC->aM C p.st->∀lv L h' n',(L=[]↔¬dh C party p)->Tk h' n' lb lv L->n<=n'->(∀x,x<n->x≠lb->h'.get x=h.get x)->L.length<=400->Q (.i .i64 0) h' n'):
 CW (EF (K+404)) 72 [.agg (v.av C),.i .i64 party,.agg (tv.pv p),.f 73 [.p pb 0,.p lb 0]] h n Q:=by
 have WX:∀e h' n',e≠0->Up h n h' n'->Q (.i .i64 e) h' n':=λe h' n' he u=>lD e h' n' he u.le λx hx _=>u.old x hx;have VW:=ls.VW;have c0:Up h n0 h n:=Up.ge (by omega);have hC0:=hC;have hS0:=hS;replace hC:=hC.up c0;replace hS:=hS.up c0;refine aD c72 rfl ?_;by_cases hp0:party<0
 .have d0:decide (party<0)=true:=decide_eq_true hp0
  repeat' (first|(simp (disch:=omega) only[go_sem,ub.old,WZ,CS.av,TS.pv,d0])|(simp (disch:=omega) only[go_sem,WZ,CS.av,TS.pv,d0])|(refine aS ?_ ?_<;>(intro hb hd;rw[hb];clear hb))|(with_reducible refine aj ?_))
  exact WX 1 _ _ (by omega) aH
 have d0:decide (party<0)=false:=decide_eq_false hp0;by_cases hp1:C.aC<=party
 .have d1:decide (C.aC<=party)=true:=decide_eq_true hp1
  repeat' (first|(simp (disch:=omega) only[go_sem,ub.old,WZ,CS.av,TS.pv,d0,d1])|(simp (disch:=omega) only[go_sem,WZ,CS.av,TS.pv,d0,d1])|(refine aS ?_ ?_<;>(intro hb hd;rw[hb];clear hb))|(with_reducible refine aj ?_))
  exact WX 1 _ _ (by omega) aH
 have d1:decide (C.aC<=party)=false:=decide_eq_false hp1;simp (disch:=omega) only[go_sem,WZ,CS.av,TS.pv,d0,d1];rw[aU];refine gK _ (hC.up aH) ho (hS.up aH) λh2 n2 u2=>?_;have e2:=u2.le;have g2:h2.get n=some (.row 27 (v.av C)):=by rw[u2.old _ (by omega)];simp (disch:=omega) only[go_sem]
 have q2:h2.get (n+1)=some (.row 45 (tv.pv p)):=by rw[u2.old _ (by omega)];simp (disch:=omega) only[go_sem]
 have KI:Up h n h2 n2:=by exact aH
 clear u2;cases hok:C.dU p.st with
 |false=>
  simp (disch:=omega) only[go_sem];exact WX 1 _ _ (by omega) KI
 |true=>
  have so:=(dS C p.st).1 hok;have ok:=aA.ok so.con;have:=ok.dN;have:=ok.jU;have:=ok.kY;have:=so.lh;have:=so.lu;have:=so.lm;simp (disch:=omega) only[go_sem,g2,CS.av];rw[aU];refine zO K (hC.up KI) ho so.con λP pv h3 n3 ic u3 rows=>?_;have e3:=u3.le;have hPl:=ic.aes;obtain⟨bs,rw1,rw2,rw3,rw4,rw5⟩:=rows;have g3:=(u3.old n (by omega)).trans g2;have q3:=(u3.old (n+1) (by omega)).trans q2;have rz:=KI.trans u3;simp (disch:=omega) only[go_sem,rw1.len];refine cK bs.length (λk hk nk G=>∃lv L X,Tk hk nk lb lv L/\L.length<=k/\(L=[]↔∀l∈P.take k,¬dh (C.part l) party ⟨p.st.rs l,p.own⟩)/\(∀l∈P.take k,eP C (C.part l) l/\(C.part l).valid=true)/\n3<=nk/\(∀x,x<n->x≠lb->hk.get x=h.get x)/\((∀x,LX lb lv x->X x)/\∀x,X x->x=lb\/n3<=x)/\Kp X hk nk (λh n=>aZ h n v C/\bZ h n tv p.st)/\Kp X hk nk (λh n=>SL h n 1 pv one bs/\∀(j:Nat)(y:AV)(l:List Nat),bs[j]?=some y->P[j]?=some l->SL h n 1 y cn l)/\(hk.get n=some (.row 27 (v.av C))/\hk.get (n+1)=some (.row 45 (tv.pv p)))/\G=[(3,.f 73 [.p pb 0,.p lb 0]),(4,.p n 0),(6,.p (n+1) 0),(9,.i .i64 0),(30,pv)]) (by omega) (by omega) (by omega) (by omega) (λk h8 n8 G ⟨_,_,_,_,_,_,_,_,_,_,_,_,_,e⟩=>by subst e;exact⟨rfl,rfl⟩) ⟨rfl,rfl,_,⟨.k 1,[],LX lb (.k 1),ls.up rz,Nat.le_refl _,by simp,by simp,Nat.le_refl _,λx hx _=>rz.old x hx,⟨λx hx=>hx,λx hx=>hx.elim .inl λe=>absurd e fE⟩,?_,?_,⟨g3,q3⟩,rfl⟩,by(repeat' (first|exact aP|refine aN rfl ?_))⟩ ?_ ?_
  .have k0:Kp (LX lb (.k 1)) h n0 (λh n=>aZ h n v C/\bZ h n tv p.st):=Kp.JB (λh' n' u=>⟨hC0.up u,hS0.up u⟩) λx hx=>by
    rcases hx with rfl|hx
    .exact hn0
    .exact absurd hx fE
   exact k0.on (by omega) λx hx _=>rz.old x (by omega)
  .have no:∀x,n2<=x->¬LX lb (.k 1) x:=λx hx e=>by
    rcases e with rfl|e
    .omega
    .exact absurd e fE
   exact(rw1.kp λx hx=>no x (rw4 x hx)).and λh' n' a1 a2 j y l e1 e2=>((rw3 j y l e1 e2).kp λx hx=>no x (rw5 j y e1 x hx)) h' n' a1 a2
  .rintro k hk nk G hkN ⟨lv,L,X,lsk,hLk,hLi,hPk,lk,same,⟨hX1,hX2⟩,kC,kR,⟨gk,qk⟩,rfl⟩
   obtain⟨b1,o1,y,i1,hy,hb1,rd⟩:=kR.use.1.fQ (k:=(k:Nat)) (by omega) (by omega) (by omega);rw[show((k:Nat):Int).toNat=k by omega]at hy;obtain⟨l,hl⟩:∃l,P[k]?=some l:=⟨P[k]'(by omega),List.getElem?_eq_getElem _⟩;have hlP:=List.mem_of_getElem? hl;have sy:=kR.use.2 k y l hy hl;have hll:=ic.len l hlP;have uk:Up hk n hk nk:=Up.ge (by omega);simp (disch:=omega) only[go_sem,Ti,aK i1,rd.el,rd.hd,gk,CS.av];rw[aU];refine Rh _ kC.use.1 ho so.con sy (by omega) (λh5 n5 u5=>?_) λhpart v' h5 n5 u5 k5=>?_
   .have e5:=u5.le
    simp (disch:=omega) only[go_sem,Int.reduceEq];exact lD 1 _ _ (by omega) (by omega) λx hx hx2=>by rw[ay (by omega),ay (by omega),u5.old x (by omega)];exact same x hx hx2
   .have e5:=u5.le
    have g5:=(u5.old n (by omega)).trans gk;have q5:=(u5.old (n+1) (by omega)).trans qk;repeat' (first|(simp (disch:=omega) only[go_sem,ub.old,g5,q5,CS.av,TS.pv])|(simp (disch:=omega) only[go_sem,g5,q5,CS.av,TS.pv])|(refine aS ?_ ?_<;>(intro hb hd;rw[hb];clear hb))|(with_reducible refine aj ?_))
    generalize hz:Tr.set (Tr.set h5 n5 _) n5 _=h6;have u6:Up h5 n5 h6 (n5+1):=by rw[<-hz];exact aH
    have g6:h6.get n5=some (.row 27 (v'.av (C.part l))):=by rw[<-hz,aG]
    clear hz;have u56:=u5.trans u6;have q6:=(u6.old (n+1) (by omega)).trans q5;rw[bT];refine zQ (K+401) (sy.up u56) (by omega) (kC.use.2.up u56) (by omega) (by omega) (by omega) (λi hi=>by have:=hpart.lt hi;omega) λtv' h7 n7 u7 k7=>?_;have e7:=u7.le;have g7:=(u7.old n5 (by omega)).trans g6;have q7:=(u7.old (n+1) (by omega)).trans q6;have u57:=u56.trans u7;simp (disch:=omega) only[go_sem,g6,g7,q6,q7,TS.pv,CS.av];rw[vD];show CW (EF (K+403)) 73 [y,.agg (v'.av (C.part l)),.agg (tv'.pv ⟨p.st.rs l,p.own⟩),.p pb 0,.p lb 0] _ _ _;rw[show K+403=(K+392)+11 by omega];have tk:P.take (k+1)=P.take k++[l]:=by rw[List.take_add_one,hl];rfl
    refine Ri (K+392) (D:=C.part l) (q:=⟨p.st.rs l,p.own⟩) (k5.use.up (u6.trans u7)) ho k7.use (by rw[u57.old pb (by omega),same pb hpn hne];exact hp) (by omega) (lsk.up u57) (by omega) sy.cl (λe h8 n8 he u8=>?_) (λhv hnd h8 n8 u8=>?_) λhv Tm Rj h8 n8 ls8 l8 s8 b8=>?_
    .have e8:=u8.le
     have hd:decide (e=0)=false:=decide_eq_false he;simp (disch:=omega) only[go_sem,g6,g7,q6,q7,hd];exact lD e _ _ he (by omega) λx hx hx2=>by rw[u8.old x (by omega),u57.old x (by omega)];exact same x hx hx2
    .have e8:=u8.le
     have u58:=u57.trans u8;simp (disch:=omega) only[go_sem];refine⟨⟨by rw[g7];rfl,by rw[q6];rfl⟩,rfl,rfl,_,⟨lv,L,X,lsk.up u58,by omega,?_,λl' hl'=>?_,by omega,λx hx hx2=>by rw[u58.old x (by omega)];exact same x hx hx2,⟨hX1,hX2⟩,kC.up u58,kR.up u58,⟨(u58.old n (by omega)).trans gk,(u58.old (n+1) (by omega)).trans qk⟩,rfl⟩,by(repeat' (first|exact aP|refine aN rfl ?_))⟩
     .rw[hLi,tk]
      refine⟨λh l' hl'=>?_,λh l' hl'=>h l' (List.mem_append_left _ hl')⟩;rcases List.mem_append.1 hl' with h1|h1
      .exact h l' h1
      .rw[List.mem_singleton]at h1;subst h1;exact hnd
     .rw[tk]at hl'
      rcases List.mem_append.1 hl' with h1|h1
      .exact hPk l' h1
      .rw[List.mem_singleton]at h1;subst h1;exact⟨hpart,hv⟩
    .have o8:∀x,x<nk->¬X x->h8.get x=hk.get x:=λx hx hX=>by rw[s8 x (by omega) (λe=>hX (hX1 x e)),u57.old x hx]
     have nX:∀x,x<nk->(X x\/blk Rj x)->X x:=λx hx hX=>by
      rcases hX with e|e
      .exact e
      .rcases b8 x e with e|e
       .exact hX1 x (.inr e)
       .omega
     have nlv:∀x,x<n3->x≠lb->¬X x:=λx hx hne e=>by
      rcases hX2 x e with e|e
      .exact hne e
      .omega
     simp (disch:=omega) only[go_sem];refine⟨⟨by rw[g7];rfl,by rw[q6];rfl⟩,rfl,rfl,_,⟨Rj,L++[y],λx=>X x\/blk Rj x,ls8,by simp;omega,?_,λl' hl'=>?_,by omega,λx hx hx2=>by rw[o8 x (by omega) (nlv x (by omega) hx2)];exact same x hx hx2,⟨λx hx=>?_,λx hx=>?_⟩,(kC.le λx hx hX=>nX x hx hX).on (by omega) λx hx hX=>o8 x hx λe=>hX (.inl e),(kR.le λx hx hX=>nX x hx hX).on (by omega) λx hx hX=>o8 x hx λe=>hX (.inl e),⟨(o8 n (by omega) (nlv n (by omega) (by omega))).trans gk,(o8 (n+1) (by omega) (nlv (n+1) (by omega) (by omega))).trans qk⟩,rfl⟩,by(repeat' (first|exact aP|refine aN rfl ?_))⟩
     .refine⟨λh=>by simp at h,λh=>absurd Tm (h l ?_)⟩
      rw[tk];simp
     .rw[tk]at hl'
      rcases List.mem_append.1 hl' with h1|h1
      .exact hPk l' h1
      .rw[List.mem_singleton]at h1;subst h1;exact⟨hpart,hv⟩
     .rcases hx with e|e
      .exact .inl (hX1 x (.inl e))
      .exact .inr e
     .rcases hx with e|e
      .exact hX2 x e
      .rcases b8 x e with e|e
       .exact hX2 x (hX1 x (.inr e))
       .exact .inr (by omega)
  .rintro hk nk G ⟨lv,L,X,lsk,hLk,hLi,hPk,lk,same,⟨hX1,hX2⟩,kC,kR,⟨gk,qk⟩,rfl⟩
   rw[rw2,List.take_length]at hLi hPk;simp (disch:=omega) only[go_sem];exact uO (by omega) (by omega) so lv L _ _ (hLi.trans (Fx ic (by omega) so hPk)) lsk (by omega) same (by omega)
theorem Rk(K:Nat)(hC:aZ h n v C)(ho:C.off.length<=1000000)(hS:bZ h n tv p.st)(lD:∀e h' n',e≠0->Up h n h' n'->Q (.bS [.k 1,.i .i64 e]) h' n')
 (uO:0<=party->party<C.aC->aM C p.st->∀lv (L:List AV) h' n',(L=[]↔¬dh C party p)->SL h' n' 1 lv one L->L.length<=400->Up h n h' n'->Q (.bS [lv,.i .i64 0]) h' n'):CW (EF (K+405)) 38 [.agg (v.av C),.i .i64 party,.agg (tv.pv p)] h n Q:=by
 refine aD c38 rfl ?_;simp (disch:=omega) only[go_sem,m38,CS.av,TS.pv];generalize hz:Tr.set (Tr.set (Tr.set (Tr.set h n _) (n+1) _) (n+1+1) _) (n+1+1+1) _=h1;have u1:Up h n h1 (n+4):=by rw[<-hz];exact aH
 have u1':Up h n h1 n:=⟨Nat.le_refl _,u1.old⟩;have p1:h1.get (n+1)=some (.row 3 [.i .i64 party]):=by rw[<-hz];simp (disch:=omega) only[go_sem]
 have l1:h1.get (n+1+1+1)=some (.row 50 [.k 1]):=by rw[<-hz];simp (disch:=omega) only[go_sem]
 clear hz;rw[aU];refine Ow K (n0:=n) (lb:=n+1+1+1) (pb:=n+1) (hC.up u1') ho (hS.up u1') (by omega) p1 (by omega) ⟨l1,Gr.nil λ_=>rfl,by omega,fE⟩ (by omega) (λe h2 n2 he l2 x2=>?_) λhp0 hp1 so lv L h2 n2 hL ls l2 x2 hL4=>?_
 .have hd:decide (e=0)=false:=decide_eq_false he
  simp (disch:=omega) only[go_sem,hd];exact lD e _ _ he ⟨by omega,λx hx=>by rw[x2 x (by omega) (by omega)];exact u1.old x hx⟩
 .have bx:=ls.box
  simp (disch:=omega) only[go_sem,bx];exact uO hp0 hp1 so lv L _ _ hL ls.gr.sl hL4 ⟨by omega,λx hx=>by rw[x2 x (by omega) (by omega)];exact u1.old x hx⟩
theorem D6(K:Nat)(hC:aZ h n v C)(ho:C.off.length<=1000000)(hS:bZ h n tv p.st)(lD:∀e h' n',e≠0->Up h n h' n'->Q (.bS [.b false,.i .i64 e]) h' n')
 (uO:0<=party->party<C.aC->aM C p.st->∀b h' n',(b=true↔¬dh C party p)->Up h n h' n'->Q (.bS [.b b,.i .i64 0]) h' n'):CW (EF (K+406)) 12 [.agg (v.av C),.i .i64 party,.agg (tv.pv p)] h n Q:=by
 refine aD c12 rfl ?_;simp (disch:=omega) only[go_sem,m12,CS.av,TS.pv];rw[aU];refine Rk K (party:=party) (p:=p) (tv:=tv) (hC.up aH) ho (hS.up aH) (λe h2 n2 he u2=>?_) λhp0 hp1 so lv L h2 n2 hL sl hL4 u2=>?_
 .have e2:=u2.le
  have hd:decide (e=0)=false:=decide_eq_false he;simp (disch:=omega) only[go_sem,hd];exact lD e _ _ he aH
 .have e2:=u2.le
  simp (disch:=omega) only[go_sem,sl.len];refine uO hp0 hp1 so _ _ _ ?_ aH;rw[<-hL,decide_eq_true_iff];cases L<;>simp
  omega
end
end
end
section
noncomputable section
def wE(b:Bool):List UInt8:=wr (if b then 1 else 0)
def mkK(m:au):List UInt8:=wr m.status++wr m.left++wr m.got++wr m.aO++wE m.paused
def zR(p:aR):List UInt8:=wE p.own++wr p.st.day++p.st.ah.flatMap wr++p.st.used.flatMap wE++p.st.marks.flatMap mkK
theorem qz(b:Bool):(wE b).length<=6:=eD _
theorem Iq(m:au):(mkK m).length<=30:=by
 unfold mkK;have h1:=eD m.status;have h2:=eD m.left;have h3:=eD m.got;have h4:=eD m.aO;have h5:=qz m.paused;simp only[List.length_append];omega
theorem vS{x y:Bool}{r s:List UInt8}(h:wE x++r=wE y++s):x=y/\r=s:=by
 unfold wE at h;obtain⟨h1,h2⟩:=gD (by unfold NB;split<;>omega) (by unfold NB;split<;>omega) h;refine⟨?_,h2⟩;cases x<;>cases y<;>simp at h1⊢
theorem J9{x y:au}{r s:List UInt8}(hx:NB x.status/\NB x.left/\NB x.got/\NB x.aO)(hy:NB y.status/\NB y.left/\NB y.got/\NB y.aO)(h:mkK x++r=mkK y++s):x=y/\r=s:=by
 obtain⟨x1,x2,x3,x4,x5⟩:=x;obtain⟨y1,y2,y3,y4,y5⟩:=y;unfold mkK at h;simp only[List.append_assoc]at h;obtain⟨e1,h⟩:=gD hx.1 hy.1 h;obtain⟨e2,h⟩:=gD hx.2.1 hy.2.1 h;obtain⟨e3,h⟩:=gD hx.2.2.1 hy.2.2.1 h;obtain⟨e4,h⟩:=gD hx.2.2.2 hy.2.2.2 h;obtain⟨e5,h⟩:=vS h;dsimp only at e1 e2 e3 e4 e5;exact⟨by rw[e1,e2,e3,e4,e5],h⟩
theorem Rl{C:aA}{p q:aR}(hp:aM C p.st)(hq:aM C q.st)(h:zR p=zR q):p=q:=by
 have bp:=hp.pb p.own;have bq:=hq.pb q.own;unfold zR at h;rw[<-List.append_nil (p.st.marks.flatMap mkK),<-List.append_nil (q.st.marks.flatMap mkK)]at h;simp only[List.append_assoc]at h;obtain⟨e1,h⟩:=vS h;obtain⟨e2,h⟩:=gD bp.day bq.day h;obtain⟨e3,h⟩:=jY (B:=NB) (λx y r s=>gD) (by rw[hp.lh,hq.lh]) bp.ah bq.ah h;obtain⟨e4,h⟩:=jY (f:=wE) (B:=λ_=>True) (λx y r s _ _=>vS) (by rw[hp.lu,hq.lu]) (λ_ _=>trivial) (λ_ _=>trivial) h;obtain⟨e5,h⟩:=jY (B:=λx=>NB x.status/\NB x.left/\NB x.got/\NB x.aO) (λx y r s=>J9) (by rw[hp.lm,hq.lm]) bp.marks bq.marks h;obtain⟨⟨d,hs,us,ms⟩,o⟩:=p;obtain⟨⟨d',hs',us',ms'⟩,o'⟩:=q;cases e1;cases e2;cases e3;cases e4;cases e5
 rfl
section
variable {P P':Nat->Prop} {h h':AH} {n n' T tb:Nat} {l:List UInt8} {Q:AV->AH->Nat->Prop} {tv:TS} {p:aR}
theorem pO(K:Nat)(t:Tx h n P T tb l)(hl:l.length<=800000){x:Int}(hx:NB x)(hQ:∀h' n',Tx h' n' P T tb (l++wr x)->UP P h n h' n'->Q (.bS []) h' n'):CW (EF (K+5)) 192 [.i .i64 x,.p tb 0] h n Q:=by
 obtain⟨v,h1,h2,h3⟩:=t.ex;have hlt:=t.hi;have htn:(tn x).length<=5:=by have:=eD x;unfold wr at this;simp at this;omega
 refine aD af5 rfl ?_;simp (disch:=omega) only[go_sem,aag,h1];rw[aU];refine Ah _ h2 (by omega) hx.1 hx.2 λv' h4 n4 g4 l4 s4 b4=>?_;simp (disch:=omega) only[go_sem];refine uJ (b:=32) (g4.up aH) (by simp;omega) rfl rfl aG λv5 h5 n5 g5 l5 s5 b5=>?_;have ZH:∀y,y<n->¬blk v y->h5.get y=h.get y:=λy hy hb=>by
  rw[s5 y (by omega) (λe=>by rcases b4 y e with e|e;exact hb e;omega),ay (by omega),s4 y hy hb]
 obtain⟨q1,q2,q3⟩:=t.put h1 h3 (Up.refl _ _) g5 (by omega) ZH λy hy=>by
  rcases b5 y hy with e|e
  .exact b4 y e
  .exact .inr (by omega)
 simp (disch:=omega) only[go_sem,q1,g5.cl];rw[List.append_assoc]at q2;exact hQ _ _ q2 q3
theorem ze(K:Nat){b4:Nat}(t:Tx h n P T tb l)(hl:l.length<=800000)(h4:h.get b4=some (.row 146 [.f 192 [.p tb 0]]))(b:Bool)(hQ:∀h' n',Tx h' n' P T tb (l++wE b)->UP P h n h' n'->Q (.bS []) h' n'):CW (EF (K+6)) 193 [.b b,.p b4 0] h n Q:=by
 refine aD c193 rfl ?_;cases b with
 |true=>
  simp (disch:=omega) only[go_sem,VJ,h4];rw[mo];refine pO _ t hl (x:=1) (by unfold NB;omega) λh2 n2 t2 u2=>?_;simp (disch:=omega) only[go_sem];exact hQ _ _ t2 u2
 |false=>
  simp (disch:=omega) only[go_sem,VJ,h4];rw[mo];refine pO _ t hl (x:=0) (by unfold NB;omega) λh2 n2 t2 u2=>?_;simp (disch:=omega) only[go_sem];exact hQ _ _ t2 u2
theorem VX(K:Nat)(hS:bZ h n tv p.st)(pb:PB p)(hQ:∀h' n',Up h n h' n'->Q (.s (zR p)) h' n'):CW (EF (K+7)) 118 [.agg (tv.pv p)] h n Q:=by
 have lh:=pb.lh;have lu:=pb.lu;have lm:=pb.lm;refine aD af4 rfl ?_;repeat' (first|(simp (disch:=omega) only[go_sem,aaf])|(refine aS ?_ ?_<;>(intro hb hd;rw[hb];clear hb))|(with_reducible refine aj ?_))
 generalize hh:Tr.set (Tr.set (Tr.set (Tr.set h n _) (n+1) _) (n+1+1) _) (n+1+1) _=h1;have u1:Up h n h1 (n+1+1+1):=by rw[<-hh];exact aH
 have q1:h1.get n=some (.row 45 (tv.pv p)):=by rw[<-hh];simp (disch:=omega) only[go_sem]
 have q4:h1.get (n+1+1)=some (.row 146 [.f 192 [.p (n+1) 0]]):=by rw[<-hh];simp (disch:=omega) only[go_sem]
 have t1:Tx h1 (n+1+1+1) (λx=>x<n+3/\x≠n+1) 306 (n+1) []:=by
  refine⟨by omega,by omega,λx hx=>by omega,.k 1,by rw[<-hh];simp (disch:=omega) only[go_sem],Gr.nil λ_=>rfl,λx hx=>absurd hx fE⟩
 clear hh;have QV:∀{hk nk},UP (λx=>x<n+3/\x≠n+1) h1 (n+1+1+1) hk nk->Up h n hk nk:=λ{hk nk} u=>⟨by have:=u.le;omega,λx hx=>(u.at_ (show x<n+3/\x≠n+1 by omega) (by omega)).trans (u1.old x hx)⟩;have rn:∀{hk nk},UP (λx=>x<n+3/\x≠n+1) h1 (n+1+1+1) hk nk->hk.get n=some (.row 45 (tv.pv p))/\hk.get (n+1+1)=some (.row 146 [.f 192 [.p (n+1) 0]]):=λ{hk nk} u=>⟨(u.at_ (show n<n+3/\n≠n+1 by omega) (by omega)).trans q1,(u.at_ (show n+1+1<n+3/\n+1+1≠n+1 by omega) (by omega)).trans q4⟩;rw[mo];refine ze _ t1 (by simp) q4 p.own λh2 n2 t2 u2=>?_;obtain⟨q2,q42⟩:=rn u2;have e1:=qz p.own;simp (disch:=omega) only[go_sem,q2,q42,TS.pv];rw[mo];refine pO _ t2 (by simp;omega) pb.day λh3 n3 t3 u3=>?_;have rz:UP (λx=>x<n+3/\x≠n+1) h1 (n+1+1+1) h3 n3:=u2.trans u3;obtain⟨q3,q43⟩:=rn rz;have e2:=eD p.st.day;simp (disch:=omega) only[go_sem,q3,TS.pv,hS.ah.len];refine cK p.st.ah.length (λk h8 n8 G=>Tx h8 n8 (λx=>x<n+3/\x≠n+1) 306 (n+1) (wE p.own++wr p.st.day++(p.st.ah.take k).flatMap wr)/\UP (λx=>x<n+3/\x≠n+1) h1 (n+1+1+1) h8 n8/\G=[(1,.p n 0),(3,.p (n+1) 0),(4,.p (n+1+1) 0),(5,.f 193 [.p (n+1+1) 0]),(25,tv.h)]) (by omega) (by omega) (by omega) (by omega) (λk h8 n8 G ⟨_,_,e⟩=>by subst e;exact⟨rfl,rfl⟩) ⟨rfl,rfl,_,⟨by simpa using t3,rz,rfl⟩,by(repeat' (first|exact aP|refine aN rfl ?_))⟩ ?_ ?_
 .rintro k h8 n8 G hk ⟨t8,u8,rfl⟩
  obtain⟨r1,r4⟩:=rn u8;obtain⟨b1,o1,a,i1,ha,hb1,rd⟩:=(hS.ah.up (QV u8)).fQ (k:=(k:Nat)) (by omega) (by omega) (by omega);rw[show((k:Nat):Int).toNat=k by omega]at ha;have hlen:=gY (f:=wr) (k:=6) eD (p.st.ah.take k);have htk:=List.length_take_le k p.st.ah;have hpre:(wE p.own++wr p.st.day).length<=30000:=by simp only[List.length_append];omega
  simp (disch:=omega) only[go_sem,NZ,aK i1,rd.el,rd.hd,r4];rw[mo];refine pO _ t8 (by simp only[List.length_append];simp only[List.length_append]at hpre;omega) (pb.ah a (List.mem_of_getElem? ha)) λh9 n9 t9 u9=>?_;simp (disch:=omega) only[go_sem];rw[List.append_assoc,<-lZ ha]at t9;exact⟨rfl,rfl,_,⟨t9,u8.trans u9,rfl⟩,by(repeat' (first|exact aP|refine aN rfl ?_))⟩
 rintro h3 n3 G ⟨t3,rz,rfl⟩;rw[List.take_length]at t3;obtain⟨q3,q43⟩:=rn rz;have hlh:=gY (f:=wr) eD p.st.ah;simp (disch:=omega) only[go_sem,q3,TS.pv,hS.used.len];refine cK p.st.used.length (λk h8 n8 G=>Tx h8 n8 (λx=>x<n+3/\x≠n+1) 306 (n+1) (wE p.own++wr p.st.day++p.st.ah.flatMap wr++(p.st.used.take k).flatMap wE)/\UP (λx=>x<n+3/\x≠n+1) h1 (n+1+1+1) h8 n8/\G=[(1,.p n 0),(3,.p (n+1) 0),(4,.p (n+1+1) 0),(5,.f 193 [.p (n+1+1) 0]),(37,tv.u)]) (by omega) (by omega) (by omega) (by omega) (λk h8 n8 G ⟨_,_,e⟩=>by subst e;exact⟨rfl,rfl⟩) ⟨rfl,rfl,_,⟨by simpa using t3,rz,rfl⟩,by(repeat' (first|exact aP|refine aN rfl ?_))⟩ ?_ ?_
 .rintro k h8 n8 G hk ⟨t8,u8,rfl⟩
  obtain⟨r1,r4⟩:=rn u8;obtain⟨b1,o1,a,i1,ha,hb1,rd⟩:=(hS.used.up (QV u8)).fQ (k:=(k:Nat)) (by omega) (by omega) (by omega);rw[show((k:Nat):Int).toNat=k by omega]at ha;have hlen:=gY (f:=wE) (k:=6) qz (p.st.used.take k);have htk:=List.length_take_le k p.st.used;have hpre:(wE p.own++wr p.st.day++p.st.ah.flatMap wr).length<=30000:=by simp only[List.length_append];omega
  simp (disch:=omega) only[go_sem,NY,aK i1,rd.el,rd.hd];rw[mo];refine ze _ t8 (by simp only[List.length_append];simp only[List.length_append]at hpre;omega) r4 a λh9 n9 t9 u9=>?_;simp (disch:=omega) only[go_sem];rw[List.append_assoc,<-lZ ha]at t9;exact⟨rfl,rfl,_,⟨t9,u8.trans u9,rfl⟩,by(repeat' (first|exact aP|refine aN rfl ?_))⟩
 rintro h3 n3 G ⟨t3,rz,rfl⟩;rw[List.take_length]at t3;obtain⟨q3,q43⟩:=rn rz;have hlu:=gY (f:=wE) qz p.st.used;simp (disch:=omega) only[go_sem,q3,TS.pv,hS.marks.len];refine cK p.st.marks.length (λk h8 n8 G=>Tx h8 n8 (λx=>x<n+3/\x≠n+1) 306 (n+1) (wE p.own++wr p.st.day++p.st.ah.flatMap wr++p.st.used.flatMap wE++(p.st.marks.take k).flatMap mkK)/\UP (λx=>x<n+3/\x≠n+1) h1 (n+1+1+1) h8 n8/\G=[(1,.p n 0),(3,.p (n+1) 0),(4,.p (n+1+1) 0),(5,.f 193 [.p (n+1+1) 0]),(49,tv.m)]) (by omega) (by omega) (by omega) (by omega) (λk h8 n8 G ⟨_,_,e⟩=>by subst e;exact⟨rfl,rfl⟩) ⟨rfl,rfl,_,⟨by simpa using t3,rz,rfl⟩,by(repeat' (first|exact aP|refine aN rfl ?_))⟩ ?_ ?_
 .rintro k h8 n8 G hk ⟨t8,u8,rfl⟩
  obtain⟨r1,r4⟩:=rn u8;obtain⟨b1,o1,a,i1,ha,hb1,rd⟩:=(hS.marks.up (QV u8)).fQ (k:=(k:Nat)) (by omega) (by omega) (by omega);rw[show((k:Nat):Int).toNat=k by omega]at ha;have hlen:=gY (f:=mkK) (k:=30) Iq (p.st.marks.take k);have htk:=List.length_take_le k p.st.marks;have hpre:(wE p.own++wr p.st.day++p.st.ah.flatMap wr++p.st.used.flatMap wE).length<=30000:=by simp only[List.length_append];omega
  have hb:=pb.marks a (List.mem_of_getElem? ha);have v1:=eD a.status;have v2:=eD a.left;have v3:=eD a.got;have v4:=eD a.aO;have hlp:(wE p.own++wr p.st.day++p.st.ah.flatMap wr++p.st.used.flatMap wE++(p.st.marks.take k).flatMap mkK).length<=60000:=by
   simp only[List.length_append]at hpre⊢;omega
  generalize wE p.own++wr p.st.day++p.st.ah.flatMap wr++p.st.used.flatMap wE=pre at*;have n28:n+2<n8:=by have:=u8.le;omega
  simp (disch:=omega) only[go_sem,NW,aK i1,rd.el,rd.hd,rd.all,r4];generalize hg:Tr.set (Tr.set h8 n8 _) n8 _=h10;have JK:Up h8 n8 h10 (n8+1):=by rw[<-hg];exact aH
  have k0:h10.get n8=some (.row 144 a.av):=by rw[<-hg];simp (disch:=omega) only[go_sem]
  have c0:h10.get (n+1+1)=some (.row 146 [.f 192 [.p (n+1) 0]]):=(JK.old _ (by omega)).trans r4;have t10:=t8.box JK (Nat.lt_succ_self n8);clear hg;have pm:∀x,(x=n8\/x=n+1+1)->((x<n+3/\x≠n+1)\/x=n8):=λx e=>by omega
  rw[mo];refine pO _ t10 (by simp only[List.length_append]at hlp⊢;omega) hb.1 λh11 n11 t11 SQ=>?_;have k1:=(SQ.at_ (pm _ (.inl rfl)) (Nat.lt_succ_self n8)).trans k0;have c1:=(SQ.at_ (pm _ (.inr rfl)) (by omega)).trans c0;have l11:=SQ.le;simp (disch:=omega) only[go_sem,k1,c1];rw[mo];refine pO _ t11 (by simp only[List.length_append]at hlp⊢;omega) hb.2.1 λh12 n12 t12 wB=>?_;have k2:=(wB.at_ (pm _ (.inl rfl)) (by omega)).trans k1;have c2:=(wB.at_ (pm _ (.inr rfl)) (by omega)).trans c1;have l12:=wB.le;simp (disch:=omega) only[go_sem,k2,c2];rw[mo];refine pO _ t12 (by simp only[List.length_append]at hlp⊢;omega) hb.2.2.1 λh13 n13 t13 Ig=>?_;have k3:=(Ig.at_ (pm _ (.inl rfl)) (by omega)).trans k2;have c3:=(Ig.at_ (pm _ (.inr rfl)) (by omega)).trans c2;have l13:=Ig.le;simp (disch:=omega) only[go_sem,k3,c3];rw[mo];refine pO _ t13 (by simp only[List.length_append]at hlp⊢;omega) hb.2.2.2 λh14 n14 t14 SS=>?_;have k4:=(SS.at_ (pm _ (.inl rfl)) (by omega)).trans k3;have c4:=(SS.at_ (pm _ (.inr rfl)) (by omega)).trans c3;have JL:=SS.le;simp (disch:=omega) only[go_sem,k4];rw[mo];refine ze _ t14 (by simp only[List.length_append]at hlp⊢;omega) c4 a.paused λSV n15 t15 u15=>?_;simp (disch:=omega) only[go_sem];have t16:=t15.wk (P':=(λx=>x<n+3/\x≠n+1)) λx hx=>.inl hx;have e16:pre++(p.st.marks.take k).flatMap mkK++wr a.status++wr a.left++wr a.got++wr a.aO++wE a.paused=pre++(p.st.marks.take (k+1)).flatMap mkK:=by
   rw[lZ ha,mkK];simp only[List.append_assoc]
  rw[e16]at t16;have uu2:UP (λx=>x<n+3/\x≠n+1) h10 (n8+1) SV n15:=UP.wk (P:=λx=>(λx=>x<n+3/\x≠n+1) x\/x=n8) (UX.trans (UX.trans (UX.trans (UX.trans SQ wB) Ig) SS) u15) λx hx=>.inl hx;exact⟨rfl,rfl,_,⟨t16,(u8.trans (UX.up JK)).trans uu2,rfl⟩,by(repeat' (first|exact aP|refine aN rfl ?_))⟩
 rintro h3 n3 G ⟨t3,rz,rfl⟩;rw[List.take_length]at t3;obtain⟨v,r1,r2,r3⟩:=t3.ex;have hcb:Uc h3 (some v)=some (.s (zR p)):=Gr.Jb r2;simp (disch:=omega) only[go_sem,r1,hcb];exact hQ _ _ (QV rz)
end
end
end
section
noncomputable section
section
variable {h h':AH} {n n':Nat} {Q:AV->AH->Nat->Prop} {tv:TS} {p:aR}
theorem Ir{P:Program}{ty:TypeId}{a b:List UInt8}(hl:a.length+b.length<=1048576):(d_ P ty .add).run (.s a) (.s b)=some (.s (a++b)):=by
 show bc (Nat.ble (Nat.add (mG a) (mG b)) 1048576) (some (AV.s (Cv a b))) none=_;rw[eO,eO,Nat.ble_eq_true_of_le (by show a.length+b.length<=_;exact hl),bF,iG]
theorem Ox(pb:PB p):(zR p).length<=50000:=by
 have lh:=pb.lh;have lu:=pb.lu;have lm:=pb.lm;have h1:=gY (f:=wr) eD p.st.ah;have h2:=gY (f:=wE) qz p.st.used;have h3:=gY (f:=mkK) Iq p.st.marks;have h4:=qz p.own;have h5:=eD p.st.day;unfold zR;simp only[List.length_append];omega
theorem J_(K:Nat){u:Nat}(hu:u<100)(hQ:∀h' n',Up h n h' n'->Q (.s (dec u)) h' n'):CW (EF (K+2)) 254 [.i .i64 (u:Nat),.i .i64 10] h n Q:=by
 refine aD afq rfl ?_;have hd0:decide ((0:Int)<=(u:Int))=true:=decide_eq_true (by omega);have hd:decide ((u:Int)<100)=true:=decide_eq_true (by omega);repeat' (first|(simp (disch:=omega) only[go_sem,ub.old,Vk,Int.reduceEq,hd0,hd,pI])|(simp (disch:=omega) only[go_sem,Vk,Int.reduceEq,hd0,hd,pI])|(refine aS ?_ ?_<;>(intro hb hd;rw[hb];clear hb))|(with_reducible refine aj ?_))
 rw[aU];refine DR _ hu λh2 n2 u2=>?_;repeat' (first|(simp (disch:=omega) only[go_sem,ub.old])|(simp (disch:=omega) only[go_sem])|(refine aS ?_ ?_<;>(intro hb hd;rw[hb];clear hb))|(with_reducible refine aj ?_))
 exact hQ _ _ u2
theorem Rm(K:Nat){u:Nat}(hu:u<100)(hQ:∀h' n',Up h n h' n'->Q (.s (dec u)) h' n'):CW (EF (K+4)) 117 [.i .i64 (u:Nat)] h n Q:=by
 refine aD c117 rfl ?_;simp (disch:=omega) only[go_sem,ZC];rw[aU];refine aD afr rfl ?_;simp (disch:=omega) only[go_sem,ZB];rw[aU];refine J_ _ hu λh2 n2 u2=>?_;simp (disch:=omega) only[go_sem];exact hQ _ _ u2
def lC(u:Nat)(p:aR):List UInt8:=dec u++[58]++zR p
theorem Ka{C:aA}{u:Nat}{p q:aR}(hp:aM C p.st)(hq:aM C q.st)(h:lC u p=lC u q):p=q:=
 Rl hp hq (List.append_cancel_left h)
theorem pQ(K:Nat){u b11:Nat}(hu:u<100)(hb:h.get b11=some (.row 3 [.i .i64 (u:Nat)]))(hn:b11<n)(hS:bZ h n tv p.st)(pb:PB p)(hQ:∀h' n',Up h n h' n'->Q (.s (lC u p)) h' n'):CW (EF (K+8)) 116 [.agg (tv.pv p),.p b11 0] h n Q:=by
 refine aD c116 rfl ?_;repeat' (first|(simp (disch:=omega) only[go_sem,ub.old,VI,hb])|(simp (disch:=omega) only[go_sem,VI,hb])|(refine aS ?_ ?_<;>(intro hb hd;rw[hb];clear hb))|(with_reducible refine aj ?_))
 rw[bT];refine Rm _ hu λh2 n2 u2=>?_;have e2:=u2.le;have dl:=xB u;have kl:=Ox pb;have q2:h2.get n=some (.row 45 (tv.pv p)):=by rw[u2.old _ (by omega)];exact aG
 have e1:∀P ty,(d_ P ty .add).run (.s (dec u)) (.s [58])=some (.s (dec u++[58])):=λP ty=>Ir (by simp;omega);have e3:∀P ty,(d_ P ty .add).run (.s (dec u++[58])) (.s (zR p))=some (.s (dec u++[58]++zR p)):=λP ty=>Ir (by simp;omega);repeat' (first|(simp (disch:=omega) only[go_sem,ub.old,e1,q2])|(simp (disch:=omega) only[go_sem,e1,q2])|(refine aS ?_ ?_<;>(intro hb hd;rw[hb];clear hb))|(with_reducible refine aj ?_))
 rw[bT];refine VX _ (hS.up aH) pb λh3 n3 u3=>?_;repeat' (first|(simp (disch:=omega) only[go_sem,ub.old,e3,q2])|(simp (disch:=omega) only[go_sem,e3,q2])|(refine aS ?_ ?_<;>(intro hb hd;rw[hb];clear hb))|(with_reducible refine aj ?_))
 exact hQ _ _ aH
end
end
end
noncomputable section
@[reducible] def Xe (x:TS×aI):List AV:=x.1.av x.2
@[reducible] def rA (cv sv tv dv:AV):List AV:=[cv,sv,tv,dv]
section
variable {h h':AH} {n n':Nat} {Q:AV->AH->Nat->Prop} {v:CS} {C:aA} {cv sv tv dv:AV} {fB:List (TS×aI)}
theorem pR(K:Nat)(hs:SL h n 4 sv Xe fB){k:Nat}{x:TS×aI}(hk:fB[k]?=some x)(hQ:∀h' n',Up h n h' n'->Q (.agg (x.1.pv ⟨x.2,true⟩)) h' n'):CW (EF (K+1)) 90 [.agg (rA cv sv tv dv),.i .i64 (k:Nat)] h n Q:=by
 have hkl:=(List.getElem?_eq_some_iff.1 hk).1;obtain⟨b1,o1,y,i1,hy,hb1,rd⟩:=hs.fQ (k:=(k:Nat)) (by omega) (by omega) (by omega);rw[show((k:Nat):Int).toNat=k by omega,hk]at hy;cases hy
 refine aD c90 rfl ?_;repeat' (first|(simp (disch:=omega) only[go_sem,m90,rA,aK i1,rd.all,TS.av])|(refine aS ?_ ?_<;>(intro hb hd;rw[hb];clear hb))|(with_reducible refine aj ?_))
 exact hQ _ _ aH
theorem Oy(K:Nat)(hC:aZ h n v C)(ho:C.off.length<=1000000){party:Int}(hQ:∀h' n',Up h n h' n'->Q (.b (C.valid&&(decide (0<=party)&&decide (party<C.aC)))) h' n'):CW (EF (K+7)) 31 [.agg (v.av C),.i .i64 party] h n Q:=by
 refine aD c31 rfl ?_;repeat' (first|(simp (disch:=omega) only[go_sem,ub.old,m31,CS.av])|(simp (disch:=omega) only[go_sem,m31,CS.av])|((first|rw[aU]|rw[bT]);with_reducible refine pG _ (hC.up aH) ho λ_ h2 n2 u2=>?_;(first|replace ub:=Up.trans ub (Up.trans aH u2)|have ub:=u2);have hle:=ub.le;clear u2)|(refine aS ?_ ?_<;>(intro hb hd;rw[hb];clear hb))|(with_reducible refine aj ?_))
 .have hv:=(lY C).1 (by assumption)
  rw[hv,decide_eq_true hd,Bool.true_and,Bool.true_and]at hQ;exact hQ _ _ aH
 .rw[decide_eq_false hd,Bool.false_and,Bool.and_false]at hQ
  exact hQ _ _ aH
 .have hv:C.valid=false:=by
   cases hv:C.valid with
   |false=>rfl
   |true=>exact absurd ((lY C).2 hv) hd
  rw[hv,Bool.false_and]at hQ;exact hQ _ _ aH
@[reducible] def jA (party:Int) (s l sh d:Nat) (bg:Bool) (r:List AV):List AV:=[.i .i64 party,.m s,.m l,.m sh,.m d,.b bg]++r
theorem D7(K:Nat){party:Int}(hQ:∀j s l sh d h' n',Up h n h' n'->h'.get j=some (.row 136 [.i .i64 party,.m s,.m l,.m sh,.m d,.b false,.i .i64 0,.i .i64 0,.i .i64 0])->uw h' s AV.s []->uw h' l (λi:Int=>AV.i .i64 i) []->n<=j/\n<=s/\n<=l->j<n'/\s<n'/\l<n'->j≠s/\j≠l/\s≠l->Q (.p j 0) h' n'):CW (EF (K+1)) 33 [.i .i64 party] h n Q:=by
 refine aD c33 rfl ?_;repeat' (first|(simp (disch:=omega) only[go_sem,m33])|(refine aS ?_ ?_<;>(intro hb hd;rw[hb];clear hb))|(with_reducible refine aj ?_))
 refine hQ (n+1+1+1+1) n (n+1) (n+1+1) (n+1+1+1) _ _ aH aG ?_ ?_ ⟨by omega,by omega,by omega⟩ ⟨by omega,by omega,by omega⟩ ⟨by omega,by omega,by omega⟩
 .exact⟨[],0,by simp (disch:=omega) only[go_sem],rfl⟩
 .exact⟨[],0,by simp (disch:=omega) only[go_sem],rfl⟩
end
end
end Go.Proofs.YtjoohkjmoghmoaaGreatDoor

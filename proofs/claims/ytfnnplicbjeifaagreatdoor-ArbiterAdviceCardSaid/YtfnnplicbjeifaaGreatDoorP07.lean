/- part -/
import Derived.Test.YtfnnplicbjeifaaGreatDoorP06
set_option linter.all false
namespace Go.Proofs.YtfnnplicbjeifaaGreatDoor
section
noncomputable section
theorem akb{Y:YT}{S:SK}{q:FuncId}{a:AV}{cap:List AV}{d:MD}{r:List MR}{l:List AV}{s:List It}{f:FT}{h:AH}{n:Nat}{F:Fm}{Q:PQ}:kF Y S (some (.f q cap)) (some [a]) d r l s f h n F Q=CW f q (a::cap) h n λv h n=>mG S d v r l s f h n F Q:=rfl
def MC.a:MC->MC
 | .seq a _=>a
 |m=>m
def MC.b:MC->MC
 | .seq _ b=>b
 |m=>m
section
variable {h h':AH} {n n':Nat} {v:CS} {C:ay} {tv:TS} {p:aN} {party x m:Int} {lv:AV} {l:List Int} {Q:AV->AH->Nat->Prop} {rows:List dU}
theorem Mx(K:Nat)(hL:SL h n 1 lv iw l)(hl:l.length<=1000000)(hQ:∀r,(0<=r↔x∈l)->Q (.i .i64 r) h n):CW (EF (K+1)) 331 [lv,.i .i64 x] h n Q:=by
 refine aC ajZ rfl ?_;repeat' (first|(simp (disch:=omega) only[go_sem,simprocAttr,ac8,hL.len])|(refine aS ?_ ?_<;>(intro hb hd;rw[hb];clear hb))|(with_reducible refine aj ?_))
 refine bP l.length (λk h' n' G=>h'=h/\n'=n/\x∉l.take k/\G=[(0,lv),(1,.i .i64 x)]) (by omega) (by omega) (by omega) (by omega) (λk h8 n8 G ⟨_,_,_,e⟩=>by subst e;exact⟨rfl,rfl⟩) ⟨rfl,rfl,_,⟨rfl,rfl,by simp,rfl⟩,by(repeat' (first|exact aO|refine aM rfl ?_))⟩ ?_ ?_
 .rintro k _ _ G hk ⟨rfl,rfl,hx,rfl⟩
  obtain⟨b1,o1,a,i1,ha,hb1,rd⟩:=hL.dL (k:=(k:Nat)) (by omega) (by omega) (by omega);rw[show((k:Nat):Int).toNat=k by omega]at ha;simp (disch:=omega) only[go_sem,simprocAttr,aJ i1,rd.el,rd.hd];by_cases e:x=a
  .rw[decide_eq_true e]
   simp (disch:=omega) only[go_sem,simprocAttr];exact hQ k ⟨λ_=>by rw[e];exact List.mem_of_getElem? ha,λ_=>by omega⟩
  .rw[decide_eq_false e]
   simp (disch:=omega) only[go_sem,simprocAttr];refine⟨rfl,rfl,_,⟨rfl,rfl,?_,rfl⟩,by(repeat' (first|exact aO|refine aM rfl ?_))⟩;rw[List.take_add_one,ha];simp[hx,e]
 .rintro _ _ G ⟨rfl,rfl,hx,rfl⟩
  rw[List.take_length]at hx;simp (disch:=omega) only[go_sem,simprocAttr];exact hQ (-1) ⟨λe=>absurd e (by omega),λe=>absurd e hx⟩
theorem yC(K:Nat)(hL:SL h n 1 lv iw l)(hl:l.length<=1000000)(hQ:Q (.b (decide (x∈l))) h n):CW (EF (K+2)) 326 [lv,.i .i64 x] h n Q:=by
 refine aC ajV rfl ?_;simp (disch:=omega) only[go_sem,simprocAttr,ac5];rw[aR];refine Mx K hL hl λr hr=>?_;simp (disch:=omega) only[go_sem,simprocAttr];have:decide (0<=r)=decide (x∈l):=by simp[hr]
 rw[this];exact hQ
def Tst(K:Nat)(q:FuncId)(cap:List AV)(P:Int->Prop)(l:List Int)(h:AH)(n:Nat):Prop:=∀m∈l,∀h' n' (Q:AV->AH->Nat->Prop),Up h n h' n'->(∀b h2 n2,(b=true↔P m)->Up h' n' h2 n2->Q (.b b) h2 n2)->CW (EF K) q (.i .i64 m::cap) h' n' Q
theorem El(K:Nat){q:FuncId}{cap:List AV}{P:Int->Prop}(hL:SL h n 1 lv iw l)(hl:l.length<=1000000)(hF:Tst K q cap P l h n)(hQ:∀r h' n',(0<=r↔∃m∈l,P m)->Up h n h' n'->Q (.i .i64 r) h' n'):CW (EF (K+1)) 332 [lv,.f q cap] h n Q:=by
 refine aC aj0 rfl ?_;repeat' (first|(simp (disch:=omega) only[go_sem,simprocAttr,ac9,hL.len])|(refine aS ?_ ?_<;>(intro hb hd;rw[hb];clear hb))|(with_reducible refine aj ?_))
 refine bP l.length (λk h' n' G=>Up h n h' n'/\(∀m∈l.take k,¬P m)/\G=[(0,lv),(1,.f q cap)]) (by omega) (by omega) (by omega) (by omega) (λk h8 n8 G ⟨_,_,e⟩=>by subst e;exact⟨rfl,rfl⟩) ⟨rfl,rfl,_,⟨Up.refl _ _,by simp,rfl⟩,by(repeat' (first|exact aO|refine aM rfl ?_))⟩ ?_ ?_
 .rintro k h1 n1 G hk ⟨u1,hx,rfl⟩
  obtain⟨b1,o1,a,i1,ha,hb1,rd⟩:=(hL.up u1).dL (k:=(k:Nat)) (by omega) (by omega) (by omega);rw[show((k:Nat):Int).toNat=k by omega]at ha;have hm:=List.mem_of_getElem? ha;simp (disch:=omega) only[go_sem,simprocAttr,aJ i1,rd.el,rd.hd];rw[akb];refine hF a hm _ _ _ u1 λb h2 n2 hb u2=>?_;cases b with
  |true=>
   simp (disch:=omega) only[go_sem,simprocAttr];exact hQ k _ _ ⟨λ_=>⟨a,hm,hb.1 rfl⟩,λ_=>by omega⟩ (u1.trans u2)
  |false=>
   simp (disch:=omega) only[go_sem,simprocAttr];refine⟨rfl,rfl,_,⟨u1.trans u2,λm hm=>?_,rfl⟩,by(repeat' (first|exact aO|refine aM rfl ?_))⟩;rw[List.take_add_one,ha]at hm;rcases List.mem_append.1 hm with hm|hm
   .exact hx m hm
   .simp at hm;subst hm;exactλe=>by cases hb.2 e
 .rintro h1 n1 G ⟨u1,hx,rfl⟩
  rw[List.take_length]at hx;simp (disch:=omega) only[go_sem,simprocAttr];exact hQ (-1) _ _ ⟨λe=>absurd e (by omega),λ⟨m,hm,e⟩=>absurd e (hx m hm)⟩ u1
theorem jN(K:Nat){q:FuncId}{cap:List AV}{P:Int->Prop}(hL:SL h n 1 lv iw l)(hl:l.length<=1000000)(hF:Tst K q cap P l h n)(hQ:∀b h' n',(b=true↔∃m∈l,P m)->Up h n h' n'->Q (.b b) h' n'):CW (EF (K+2)) 327 [lv,.f q cap] h n Q:=by
 refine aC ajW rfl ?_;simp (disch:=omega) only[go_sem,simprocAttr,ac6];rw[aR];refine El K hL hl hF λr h' n' hr u=>?_;simp (disch:=omega) only[go_sem,simprocAttr];exact hQ _ _ _ (by simp[hr]) u
def RkT(C:ay)(L:List (List UInt8×AV))(rows:List dU):Prop:=∀q:aN,aK C q.st->match jD L (gG q)with
 |none=>∀x∈rows,x.pos≠q
 |some a=>∃r:Int,a= .i .i64 r/\(∃x∈rows,x.pos=q/\x.rank=r)/\∀x∈rows,x.pos=q->r<=x.rank
structure yT(h:AH)(n tb ty:Nat)(v:CS)(C:ay)(party:Int)(rows:List dU):Prop where
 row:∃mb L,h.get tb=some (.row ty [.i .i64 C.aD,v.h,v.u,v.a,v.k,.i .i64 C.days,v.o,.i .i64 party,.m mb])/\qK h mb AV.s L/\mb<n/\RkT C L rows
 lt:tb<n
 con:aY h n v C
theorem yT.up{tb ty:Nat}(a:yT h n tb ty v C party rows)(u:Up h n h' n'):yT h' n' tb ty v C party rows:=by
 obtain⟨⟨mb,L,e1,e2,e3,e4⟩,b,c⟩:=a;have:=u.le;exact⟨⟨mb,L,(u.old _ b).trans e1,e2.on (u.old _ e3),by omega,e4⟩,by omega,c.up u⟩
theorem Ug(hm:m∈(C.iK party p).map (·.1)):m= -2\/m≠ -2/\ -1<=m/\m<C.acts.length/\p.st.day<C.days:=by
 have:=fF.1 (D8 hm);rcases this with⟨e,_⟩|⟨e,_,e2,_⟩|⟨i,e1,e2,e3,_⟩
 .exact .inl e
 .exact .inr ⟨by omega,by omega,by omega,e2⟩
 .exact .inr ⟨by omega,by omega,by omega,e3⟩
theorem F7(K:Nat)(hS:bI h n tv p.st)(pb:PB p)(hQ:∀h' n',Up h n h' n'->Q (.s (gG p)) h' n'):CW (EF (K+6)) 84 [.agg (tv.pv p)] h n Q:=FW K ⟨ajO,rfl,rfl⟩ ⟨aj8,rfl,rfl⟩ ⟨aj_,rfl,rfl⟩ hS pb hQ
theorem F8(K:Nat){tb ty:Nat}(hT:yT h n tb ty v C party rows)(ho:C.off.length<=1000000)(hS:bI h n tv p.st)(ok:aK C p.st)(hm:m∈(C.iK party p).map (·.1))
 (hQ:∀r b h' n',Up h n h' n'->(b=true↔Ph rows (C.toPos p m))->(∀k,b=true/\r<k↔XJ rows (C.toPos p m) k)->Q (.bJ [.i .i64 r,.b b]) h' n'):CW (EF (K+9)) 329 [.p tb 0,.agg (tv.pv p),.i .i64 m] h n Q:=by
 have okq:aK C (C.toPos p m).st:=IJ ok (D8 hm);refine aC ajY rfl ?_;obtain⟨⟨mb,L,g1,g2,g3,g4⟩,g5,g6⟩:=hT;have key:∀(b:Bool)(r:Int),(match jD L (gG (C.toPos p m))with|some a=>bc true (.bJ [a,.b true]) a|none=>bc true (.bJ [.i .i64 0,.b false]) (.i .i64 0))=AV.bJ [.i .i64 r,.b b]->(b=true↔Ph rows (C.toPos p m))/\∀k,b=true/\r<k↔XJ rows (C.toPos p m) k:=λb r e=>by
  have:=g4 _ okq;cases ha:jD L (gG (C.toPos p m))with
  |none=>
   rw[ha]at e this;cases e
   exact⟨⟨λe=>(by cases e),λ⟨x,hx,e⟩=>absurd e (this x hx)⟩,λk=>⟨λe=>(by cases e.1),λ⟨x,hx,e,_⟩=>absurd e (this x hx)⟩⟩
  |some a=>
   rw[ha]at e this;obtain⟨r',rfl,⟨x,hx,e1,e2⟩,e3⟩:=this;cases e
   exact⟨⟨λ_=>⟨x,hx,e1⟩,λ_=>rfl⟩,λk=>⟨λe=>⟨x,hx,e1,by omega⟩,λ⟨y,hy,e4,e5⟩=>⟨rfl,by have:=e3 y hy e4;omega⟩⟩⟩
 have ex:∃b r,(match jD L (gG (C.toPos p m))with|some a=>bc true (AV.bJ [a,.b true]) a|none=>bc true (.bJ [.i .i64 0,.b false]) (.i .i64 0))=AV.bJ [.i .i64 r,.b b]:=by
  have:=g4 _ okq;cases ha:jD L (gG (C.toPos p m))with
  |none=>exact⟨_,_,rfl⟩
  |some a=>
   rw[ha]at this;obtain⟨r',rfl,_⟩:=this;exact⟨_,_,rfl⟩
 obtain⟨b,r,e⟩:=ex;obtain⟨k1,k2⟩:=key b r e;have e':(match jD L (gG (C.toPos p m))with|some v=>some (bc true (AV.bJ [v,.b true]) v)|none=>some (bc true (.bJ [AV.i .i64 0,.b false]) (AV.i .i64 0)))=some (AV.bJ [.i .i64 r,.b b]):=by rw[<-e];cases jD L (gG (C.toPos p m))<;>rfl
 have lk1:∀h',h'.get mb=h.get mb->Xj Tryz.prog 9 (some (.i .i64 0)) true h' (some (.m mb)) (some (.s (gG (C.toPos p m))))=some (.bJ [.i .i64 r,.b b]):=λh' hh=>((g2.on hh).look (k:=gG (C.toPos p m)) FZ (z:=some (.i .i64 0)) (ok:=true) rfl).trans e';clear key e e';have fin:∀(q:aN)(tq:TS)(h1:AH)(n1:Nat)(F:Fm),q=C.toPos p m->Up h n h1 n1->n+2<=n1->h1.get (n+1)=some (.row 114 (tq.pv q))->bI h1 n1 tq q.st->lk F 0=some (.p tb 0)->lk F 8=some (.p (n+1) 0)->
  SM Tryz.prog Y0 329 [.c Mk.b.b.b.a,.c Mk.b.b.b.b] .bX (EF (K+8)) h1 n1 F (Kn [.t 6,.t 7] Q):=by
  intro q tq h1 n1 F eq u1 hn q1 hS1 f0 f8;rw[<-eq]at lk1 okq;have q0:=(u1.old tb g5).trans g1;simp (disch:=omega) only[go_sem,simprocAttr,MC.a,MC.b,Mk]
  with_reducible refine aj ?_
  simp (disch:=omega) only[go_sem,simprocAttr,f0,f8,q0,q1,TS.pv];rw[bF]
  with_reducible refine F7 (K+2) hS1 (okq.pb _) λh2 n2 u2=>?_
  have:=u1.le;have q2:=(u2.old tb (by omega)).trans q0;have q3:=(u2.old (n+1) (by omega)).trans q1;have AY:=lk1 h2 ((u1.trans u2).old mb g3);simp (disch:=omega) only[go_sem,simprocAttr,fM,f0,f8,AY,q2,q3,TS.pv];exact hQ _ _ _ _ (u1.trans u2) k1 k2
 rcases Ug hm with rfl|⟨h1,h2,h3,h4⟩
 .simp (disch:=omega) only[go_sem,simprocAttr,Mk,TS.pv,decide_eq_true (rfl:(-2:Int)= -2)]
  exact fin ⟨p.st,false⟩ tv _ _ _ rfl aH (by omega) aF (hS.up aH) rfl rfl
 .simp (disch:=omega) only[go_sem,simprocAttr,Mk,TS.pv,decide_eq_false h1]
  have e9:C.toPos p m=⟨C.aU p.st m,true⟩:=if_neg h1
  with_reducible refine aj ?_
  simp (disch:=omega) only[go_sem,simprocAttr,g1,TS.pv];rw[bF];generalize hh:Tr.set (Tr.set _ (n+1) _) (n+1) _=h5;have u5:Up h n h5 (n+1+1):=by rw[<-hh];exact aH
  have q5:h5.get (n+1)=some (.row 114 (tv.pv ⟨p.st,true⟩)):=by rw[<-hh];exact aF
  clear hh
  with_reducible refine oK K (g6.up u5) ho (hS.up u5) m (λe=>?_) (λ_ _ _ e=>?_) (λ_ _ _ _ tv6 h6 n6 u6 k6=>?_)
  .exact absurd e (by rw[(bR C p.st).2 ok];simp;omega)
  .omega
  have e6:=u6.le;have q6:=(u6.old (n+1) (by omega)).trans q5;have k6':=k6.set (b:=n+1) (o:=.row 114 (tv6.pv ⟨C.aU p.st m,true⟩)) (.inl (by omega)) (Nat.le_refl _);simp (disch:=omega) only[go_sem,simprocAttr,q6,TS.pv,TS.av];refine fin ⟨C.aU p.st m,true⟩ tv6 _ _ _ e9.symm ((u5.trans u6).st _ _ (by omega)) (by omega) aF k6'.use rfl rfl
end
end
end
section
noncomputable section
set_option maxRecDepth 1000000
set_option maxHeartbeats 4000000
def IZ:MC:=(.seq (.reg [nl (.je 1 (.s 68) (.s 70)),nl (.ld none (.v 0)),nk 16 (.mv (.v 0))]) (.seq (.reg [nl (.mv (.s 10)),nl (.mv (.s 16)),nl (.look 3 (some (.i .i64 0)) (.v 1) (.v 0) true),nl (.mv (.v 0)),nl (.ext (.v 0) 0),nl (.ext (.v 1) 1),nk 17 (.mv (.v 1)),nk 18 (.mv (.v 0))]) (.seq (.reg [nk 80 (.mv (.s 18))]) (.cond (.s 80) (.reg [nl (.mv (.s 8)),nl (.mv (.s 17)),nl (.mv (.s 11)),nl (.call (.v 2) [(.v 1),(.v 0)])]) (.reg [nl (.mv (.s 10)),nl (.mv (.s 16)),nl (.mv (.s 11)),⟨none,(.upd 3 (.v 2) (.v 1) (.v 0)),.n⟩])))))
def I4:MC:=(.seq (.reg [nl (.je 2 (.s 55) (.s 57)),nl (.ld (some 2) (.v 0)),nk 14 (.al 217 [(.i .i64 0),(.i .i64 0)]),⟨none,(.st 2 (.s 14) (.v 0)),.n⟩]) (.reg [nl (.mv (.s 8)),nl (.mv (.s 11)),nl (.fa 0 (.s 14)),nl (.ld none (.v 0)),nl (.call (.v 3) [(.v 2),(.v 0)])]))
def Em:MC:=(.seq (.reg [nl (.mv (.s 45)),nl (.je 16 (.s 43) (.s 45)),nl (.ld (some 16) (.v 0)),nk 12 (.al 122 [(.i .i64 0),(.i .i64 0),(.i .i64 0),(.i .i64 0),(.k 1),(.i .i64 0),(.i .i64 0),(.b false),(.b false),(.i .i64 0),(.i .i64 0),(.i .i64 0),(.i .i64 0),(.i .i64 0),(.i .i64 0),(.b false)]),nk 11 (.mv (.v 2)),⟨none,(.st 16 (.s 12) (.v 0)),.n⟩]) (.seq (.seq (.reg [nk 50 (.mv (.s 9))]) (.cond (.s 50) (.reg [nl (.mv (.s 8)),nl (.mv (.s 11)),nl (.call (.v 1) [(.c (.i .i64 0)),(.v 0)])]) .skip)) (.seq (.seq (.reg [nl (.fa 4 (.s 12)),nk 55 (.ld none (.v 0)),nk 56 (.ig (.s 55)),nk 57 (.mv (.c (.i .i64 0)))]) (.blk 4 (zf 3 57 56 58 4 5 I4))) (.seq (.reg [nl (.ld (some 16) (.s 12)),nk 68 (.call (.c (.f 299 [])) [(.v 0)]),nk 69 (.ig (.s 68)),nk 70 (.mv (.c (.i .i64 0)))]) (.blk 6 (zf 3 70 69 71 6 7 IZ))))))
def Qw:MC:=(.seq (.reg [nl (.mv (.s 29)),nk 6 (.mv (.v 0))]) (.reg [nl (.mv (.s 6)),nl (.mv (.s 6)),nl (.Sq 1 400 (.s 5) (.v 1)),⟨none,(.st 1 (.v 0) (.v 1)),.n⟩]))
def adg:MC:=(.seq (.reg [nk 1 (.box 27 7 (.s 0)),nk 2 (.mv (.c (.k 1)))]) (.seq (.seq (.reg [nl (.ld (some 7) (.s 1)),nl (.call (.c (.f 52 [])) [(.v 0)]),nl (.mv (.v 0)),nl (.ext (.v 0) 0),nl (.ext (.v 1) 1),nk 3 (.mv (.v 1)),nl (.mv (.v 0))]) (.seq (.reg [nl (.mv (.s 3)),nk 25 (.bin .neq 41 (.v 0) (.c (.i .i64 0)))]) (.cond (.s 25) (.seq (.reg [nk 2 (.mv (.c (.k 1)))]) .ret) .skip))) (.seq (.reg [nk 5 (.al 434 (rep 400 [(.i .i64 0)]))]) (.seq (.seq (.reg [nl (.fa 4 (.s 1)),nl (.ld none (.v 0)),nk 28 (.ig (.v 0)),nk 29 (.mv (.c (.i .i64 0)))]) (.blk 0 (zf 3 29 28 30 0 1 Qw))) (.seq (.reg [nk 7 (.al 430 [(.k 3)])]) (.seq (.reg [nl (.Hw 295 [(.s 5),(.s 7)]),⟨none,(.st 1 (.s 7) (.v 0)),.n⟩]) (.seq (.reg [nl (.Hw 296 [(.s 7),(.s 5)]),nk 8 (.mv (.v 0))]) (.seq (.reg [nl (.fa 3 (.s 1)),nl (.ld none (.v 0)),nl (.call (.c (.f 297 [])) [(.v 0),(.c (.f 298 []))]),nk 9 (.mv (.v 0))]) (.seq (.reg [nl .Om,nk 10 (.mv (.v 0))]) (.seq (.seq (.reg [nl (.fa 4 (.s 1)),nk 43 (.ld none (.v 0)),nk 44 (.ig (.s 43)),nk 45 (.mv (.c (.i .i64 0)))]) (.blk 2 (zf 3 45 44 46 2 3 Em))) (.seq (.reg [nl (.fa 4 (.s 1)),nl (.ld none (.v 0)),nl (.ig (.v 0)),nl (.ld none (.s 7)),nl (.call (.c (.f 300 [])) [(.v 1),(.v 0)]),nk 2 (.mv (.v 0))]) .ret)))))))))))
theorem c130:yc Tryz.prog sl0 284=some ([true],adg,[(.t 2)]):=by kernel_rfl
def Qy:MC:=(.seq (.reg [nl (.mv (.s 85)),nk 15 (.mv (.v 0))]) (.seq (.reg [nl (.mv (.s 1)),nl (.fa 4 (.s 14)),nl (.ld none (.v 0)),nl (.mv (.s 15)),nl (.je 2 (.v 1) (.v 0)),nl (.fa 0 (.v 0)),nl (.ld none (.v 0)),nl (.call (.c (.f 207 [])) [(.v 6),(.v 0)]),nl (.mv (.v 0)),nl (.ext (.v 0) 0),nl (.ext (.v 1) 1),nk 16 (.mv (.v 1)),nk 17 (.mv (.v 0))]) (.seq (.seq (.reg [nl (.mv (.s 17)),nk 100 (.not (.v 0))]) (.cond (.s 100) (.seq (.reg [nl (.Ki [(.i .i64 0),(.k 1),(.k 1),(.k 1),(.k 1),(.i .i64 0),(.k 1)] []),⟨none,(.st 7 (.s 4) (.v 0)),.n⟩,nk 5 (.mv (.c (.i .i64 1)))]) .ret) .skip)) (.reg [nl (.fa 4 (.s 14)),nl (.ld none (.v 0)),nl (.mv (.s 15)),nl (.mv (.s 16)),nl (.je 2 (.v 2) (.v 1)),nl (.fa 0 (.v 0)),⟨none,(.st 1 (.v 0) (.v 2)),.n⟩]))))
def I5:MC:=(.seq (.reg [nl (.mv (.s 68)),nl (.je 1 (.s 66) (.s 68)),nl (.ld none (.v 0)),nk 12 (.mv (.v 2)),nk 13 (.mv (.v 0))]) (.seq (.reg [nl (.fa 4 (.s 2)),nl (.ld none (.v 0)),nl (.mv (.s 13)),nl (.je 16 (.v 1) (.v 0)),nl (.ld (some 16) (.v 0)),nk 14 (.al 122 [(.i .i64 0),(.i .i64 0),(.i .i64 0),(.i .i64 0),(.k 1),(.i .i64 0),(.i .i64 0),(.b false),(.b false),(.i .i64 0),(.i .i64 0),(.i .i64 0),(.i .i64 0),(.i .i64 0),(.i .i64 0),(.b false)]),⟨none,(.st 16 (.s 14) (.v 0)),.n⟩]) (.seq (.reg [nl (.fa 4 (.s 14)),nl (.ld none (.v 0)),nl (.call (.c (.f 82 [])) [(.v 0)]),nl (.fa 4 (.s 14)),⟨none,(.st 1 (.v 0) (.v 1)),.n⟩]) (.seq (.seq (.reg [nl (.fa 4 (.s 14)),nl (.ld none (.v 0)),nk 84 (.ig (.v 0)),nk 85 (.mv (.c (.i .i64 0)))]) (.blk 4 (zf 3 85 84 86 4 5 Qy))) (.reg [nl (.fa 4 (.s 11)),nl (.ld none (.v 0)),nl (.mv (.s 12)),nl (.ld (some 16) (.s 14)),nl (.je 16 (.v 2) (.v 1)),⟨none,(.st 16 (.v 0) (.v 1)),.n⟩])))))
def I6:MC:=(.seq (.reg [nl (.je 1 (.s 26) (.s 28)),nl (.ld none (.v 0)),nk 10 (.mv (.v 0))]) (.seq (.seq (.reg [nl (.mv (.s 10)),nl (.mv (.s 8)),nl (.bin .leq 3 (.v 1) (.v 0)),nl (.mv (.v 0)),ng 0 false (.mv (.s 10)),ng 1 false (.fa 4 (.s 2)),ng 2 false (.ld none (.v 0)),ng 3 false (.ig (.v 0)),ng 4 false (.bin .geq 3 (.v 3) (.v 0)),nk 41 (.pick (.v 5) (.c (.b true)) (.v 0))]) (.cond (.s 41) (.seq (.reg [nl (.Ki [(.i .i64 0),(.k 1),(.k 1),(.k 1),(.k 1),(.i .i64 0),(.k 1)] []),⟨none,(.st 7 (.s 4) (.v 0)),.n⟩,nk 5 (.mv (.c (.i .i64 1)))]) .ret) .skip)) (.reg [nl (.mv (.s 10)),nk 8 (.mv (.v 0))])))
def adh:MC:=(.seq (.reg [nk 2 (.box 27 7 (.s 0)),nk 4 (.al 27 [(.i .i64 0),(.k 1),(.k 1),(.k 1),(.k 1),(.i .i64 0),(.k 1)]),nk 5 (.mv (.c (.i .i64 0)))]) (.seq (.seq (.reg [nl (.ld (some 7) (.s 2)),nl (.call (.c (.f 52 [])) [(.v 0)]),nl (.mv (.v 0)),nl (.ext (.v 0) 0),nl (.ext (.v 1) 1),nk 6 (.mv (.v 1)),nl (.mv (.v 0))]) (.seq (.reg [nl (.mv (.s 6)),nk 24 (.bin .neq 41 (.v 0) (.c (.i .i64 0)))]) (.cond (.s 24) (.seq (.reg [nl (.Ki [(.i .i64 0),(.k 1),(.k 1),(.k 1),(.k 1),(.i .i64 0),(.k 1)] []),⟨none,(.st 7 (.s 4) (.v 0)),.n⟩,nk 5 (.mv (.c (.i .i64 1)))]) .ret) .skip))) (.seq (.reg [nk 8 (.mv (.c (.i .i64 (.negSucc 0))))]) (.seq (.seq (.reg [nk 26 (.mv (.s 1)),nk 27 (.ig (.s 26)),nk 28 (.mv (.c (.i .i64 0)))]) (.blk 0 (zf 3 28 27 29 0 1 I6))) (.seq (.reg [nl (.ld (some 7) (.s 2)),nk 11 (.al 27 [(.i .i64 0),(.k 1),(.k 1),(.k 1),(.k 1),(.i .i64 0),(.k 1)]),⟨none,(.st 7 (.s 11) (.v 0)),.n⟩]) (.seq (.reg [nl (.fa 1 (.s 2)),nl (.ld none (.v 0)),nl (.call (.c (.f 62 [])) [(.v 0)]),nl (.fa 1 (.s 11)),⟨none,(.st 1 (.v 0) (.v 1)),.n⟩]) (.seq (.reg [nl (.fa 2 (.s 2)),nl (.ld none (.v 0)),nl (.call (.c (.f 79 [])) [(.v 0)]),nl (.fa 2 (.s 11)),⟨none,(.st 1 (.v 0) (.v 1)),.n⟩]) (.seq (.reg [nl (.fa 3 (.s 2)),nl (.ld none (.v 0)),nl (.call (.c (.f 80 [])) [(.v 0)]),nl (.fa 3 (.s 11)),⟨none,(.st 1 (.v 0) (.v 1)),.n⟩]) (.seq (.reg [nl (.fa 6 (.s 2)),nl (.ld none (.v 0)),nl (.call (.c (.f 62 [])) [(.v 0)]),nl (.fa 6 (.s 11)),⟨none,(.st 1 (.v 0) (.v 1)),.n⟩]) (.seq (.reg [nl (.mv (.s 1)),nl (.ig (.v 0)),nl (.Lr 122 [(.i .i64 0),(.i .i64 0),(.i .i64 0),(.i .i64 0),(.k 1),(.i .i64 0),(.i .i64 0),(.b false),(.b false),(.i .i64 0),(.i .i64 0),(.i .i64 0),(.i .i64 0),(.i .i64 0),(.i .i64 0),(.b false)] (.v 0) (.v 0)),nl (.fa 4 (.s 11)),⟨none,(.st 1 (.v 0) (.v 1)),.n⟩]) (.seq (.seq (.reg [nk 66 (.mv (.s 1)),nk 67 (.ig (.s 66)),nk 68 (.mv (.c (.i .i64 0)))]) (.blk 2 (zf 3 68 67 69 2 3 I5))) (.seq (.reg [nl (.ld (some 7) (.s 11)),⟨none,(.st 7 (.s 4) (.v 0)),.n⟩,nk 5 (.mv (.c (.i .i64 0)))]) .ret))))))))))))
theorem c131:yc Tryz.prog sl0 285=some ([true,true],adh,[(.c 4 (some 7)),(.t 5)]):=by kernel_rfl
def En:MC:=(.seq (.reg [nl (.mv (.s 11)),nk 7 (.mv (.v 0))]) (.seq (.reg [nl (.mv (.s 1)),nl (.mv (.s 7)),nl (.call (.v 1) [(.v 0)]),nk 8 (.mv (.v 0))]) (.seq (.seq (.reg [nl (.mv (.s 8)),nl (.mv (.s 7)),nk 19 (.bin .eql 3 (.v 1) (.v 0))]) (.cond (.s 19) (.seq (.reg [nl (.mv (.s 6)),nl (.mv (.s 7)),nl (.mv (.s 5)),nl (.ig (.v 0)),⟨none,(.upd 3 (.v 3) (.v 2) (.v 0)),.n⟩]) (.reg [nl (.mv (.s 5)),nl (.Nn 22 1 [(.k 1)] [(0,(1,(.c (.k 1))))]),nl (.app 22 1 (.v 1) (.v 0)),nk 5 (.mv (.v 0))])) .skip)) (.zW 2 [mq 0 [] (.mv (.s 5)),mq 0 [] (.mv (.s 6)),mq 0 [] (.mv (.s 8)),mq 1 [1,2] (.look 3 (some (.i .i64 0)) (.v 0) (.v 1) false),mq 0 [] (.mv (.s 5)),mq 0 [] (.mv (.s 6)),mq 0 [] (.mv (.s 8)),mq 1 [5,6] (.look 3 (some (.i .i64 0)) (.v 0) (.v 1) false),mq 0 [4,7] (.je 1 (.v 0) (.v 1)),mq 1 [8] (.ld none (.v 0)),mq 0 [] (.mv (.s 7)),mq 2 [10] (.Nn 3 1 [(.i .i64 0)] [(0,(1,(.v 0)))]),mq 3 [9,11] (.app 3 1 (.v 0) (.v 1)),mq 0 [0,3] (.je 1 (.v 0) (.v 1)),mq 3 [12,13] (.st 1 (.v 1) (.v 0))] [(3,13)] []))))
def Y5:MC:=(.seq (.reg [nk 4 (.mv (.c (.k 1)))]) (.seq (.reg [nk 5 (.mv (.c (.k 1)))]) (.seq (.reg [nl .Om,nk 6 (.mv (.v 0))]) (.seq (.seq (.reg [nk 10 (.mv (.s 0)),nk 11 (.mv (.c (.i .i64 0)))]) (.blk 0 (zf 3 11 10 12 0 1 En))) (.seq (.reg [nl (.mv (.s 5)),nk 4 (.mv (.v 0))]) .ret)))))
theorem c228:yc Tryz.prog sl0 300=some ([true,true],Y5,[(.t 4)]):=by kernel_rfl
def m12:MC:=vF 149
def c12:=vT 149 m12
def m19:MC:=vF 324
def c19:=vT 324 m19
def m38:MC:=vF 228
def c38:=vT 228 m38
def m72:MC:=vF 261
def c72:=vT 261 m72
def m73:MC:=vF 262
def c73:=vT 262 m73
def Y6:MC:=vF 286
def ake:=vT 286 Y6
def Uh:MC:=vF 295
def akf:=vT 295 Uh
def Y7:MC:=vF 296
def akg:=vT 296 Y7
def adi:MC:=vF 297
def akh:=vT 297 adi
def adj:MC:=vF 298
def c226:=vT 298 adj
def Y8:MC:=vF 299
def c227:=vT 299 Y8
def adk:MC:=vF 304
def aki:=vT 304 adk
end
end
section
noncomputable section
open Classical
def aG.names(k:aG)(t:Int):Prop:=k.act=t\/k.pause=t\/k.resume=t
structure Parts(C:ay)(ps:List (List Nat×ay)):Prop where
 part:∀x∈ps,eY C x.2 x.1
 valid:∀x∈ps,x.2.valid=true
 cover:∀i:Nat,i<C.clauses.length->∃x∈ps,i∈x.1
 apart:∀x∈ps,∀y∈ps,x≠y->(∀a∈C.acts,a.kind=1)/\∀i∈x.1,∀j∈y.1,∀k k':aG,C.clauses[i]?=some k->C.clauses[j]?=some k'->∀t:Nat,k.names t->¬k'.names t
section
variable {C:ay} {ps:List (List Nat×ay)} {s:aI}
theorem step_ok(h:aK C s){t:Int}(hd:s.day<C.days):aK C (C.aU s t):=by
 unfold ay.aU;by_cases e:t= -1
 .rw[if_pos e];exact Kr h hd
 .rw[if_neg e]
  cases ha:C.acts[t.toNat]? with
  |none=>exact h
  |some a=>exact Pb h ha
theorem uL{i:Nat}{a:dM}(ha:C.acts[i]?=some a):C.aU s i=C.act i a s:=by
 unfold ay.aU;rw[if_neg (by omega),Int.toNat_natCast,ha]
theorem Parts.other(P:Parts C ps)(h:aK C s){x y:List Nat×ay}(hx:x∈ps)(hy:y∈ps)(hxy:y≠x){i:Nat}(hi:i<C.acts.length)(hc:x.2.aU (s.rs x.1) i≠s.rs x.1):y.2.aU (s.rs y.1) i=s.rs y.1:=by
 obtain⟨h1,h2⟩:=P.apart x hx y hy λe=>hxy e.symm;obtain⟨a,ha⟩:∃a,C.acts[i]?=some a:=⟨_,List.getElem?_eq_getElem hi⟩;have hk:=h1 a (List.mem_of_getElem? ha);have still:∀z∈ps,(∀i'∈z.1,∀k:aG,C.clauses[i']?=some k->¬k.names i)->z.2.aU (s.rs z.1) i=s.rs z.1:=λz hz hn=>by
  have hp:=P.part z hz;rw[uL (by rw[hp.acts];exact ha)];refine Pf (Qv hp (P.valid z hz) h) hk λj m k' hm hk' _=>?_;have hj:j<z.1.length:=by have:=(List.getElem?_eq_some_iff.1 hm).1;simpa [aI.rs,uJ]using this
  obtain⟨k,l,g1,g2,_⟩:=hp.at_ j _ (List.getElem?_eq_getElem hj);rw[hk']at g2;cases g2
  have:=hn _ (List.getElem_mem hj) k g1;exact⟨λe=>this (.inl e),λe=>this (.inr (.inl e)),λe=>this (.inr (.inr e))⟩
 refine still y hy λj hj k' hk' hn=>hc (still x hx λi' hi' k hk hn'=>h2 i' hi' j hj k k' hk hk' i hn' hn)
theorem Parts.Y9(P:Parts C ps){party:Int}{p:aN}(h:bM C party p):aK C p.st->∃x∈ps,bM x.2 party ⟨p.st.rs x.1,p.own⟩:=by
 induction h with
 |@lost p hf=>
  intro hs;obtain⟨i,m,k,h1,h2,h3⟩:=jE.1 hf;obtain⟨x,hx,hi⟩:=P.cover i (List.getElem?_eq_some_iff.1 h2).1;exact⟨x,hx,.lost (Mw (P.part x hx) hs.lm hi h1 h2 h3)⟩
 |@own p ho _ ih=>
  intro hs;obtain⟨s,o⟩:=p;subst ho;apply Classical.byContradiction;intro hn;have hn:∀x∈ps,¬bM x.2 party ⟨s.rs x.1,true⟩:=λx hx hd=>hn ⟨x,hx,hd⟩;obtain⟨x,hx,hd⟩:=ih (-2) ⟨s,false⟩ (fF.2 (.inl ⟨rfl,rfl,rfl⟩)) hs;have hp:=P.part x hx;have:¬∀m q,(m,q)∈x.2.iK party ⟨s.rs x.1,true⟩->bM x.2 party q:=λe=>hn x hx (.own rfl e);obtain⟨m,e⟩:=Classical.not_forall.1 this;obtain⟨q,e⟩:=Classical.not_forall.1 e;obtain⟨hm,hq⟩:=Classical.not_imp.1 e;rcases fF.1 hm with⟨_,_,rfl⟩|⟨_,h1,_⟩|⟨i,h1,_,h2,h3,rfl⟩
  .exact hq hd
  .cases h1
  .rw[hp.acts]at h1
   have h2:s.day<C.days:=by rw[hp.days]at h2;exact h2
   have hmv:C.Kt party ⟨s,true⟩ i:=⟨by have:=h3.1;rw[zA hp]at this;exact this,λe=>h3.2 (by show x.2.aU (s.rs x.1) i=s.rs x.1;rw[jY hp hs.lm];exact congrArg (aI.rs x.1) e)⟩;obtain⟨y,hy,hdy⟩:=ih i ⟨C.aU s i,true⟩ (fF.2 (.inr (.inr ⟨i,h1,rfl,h2,hmv,rfl⟩))) (step_ok (t:=i) hs h2);change bM y.2 party ⟨(C.aU s i).rs y.1,true⟩at hdy;rw[<-jY (P.part y hy) hs.lm]at hdy;by_cases e:y=x
   .subst e
    exact hq hdy
   .rw[P.other hs hx hy e h1 h3.2]at hdy
    exact hn y hy hdy
 |@jM p m q ho hm _ ih=>
  intro hs;obtain⟨s,o⟩:=p;subst ho;rcases fF.1 hm with⟨_,h1,_⟩|⟨rfl,_,h2,rfl⟩|⟨i,h1,rfl,h2,h3,rfl⟩
  .cases h1
  .have h2:s.day<C.days:=h2
   obtain⟨x,hx,hd⟩:=ih (step_ok (t:= -1) hs h2);have hp:=P.part x hx;rw[<-jY hp hs.lm]at hd;exact⟨x,hx,.jM rfl (fF.2 (.inr (.inl ⟨rfl,rfl,by rw[hp.days];exact h2,rfl⟩))) hd⟩
  .have h2:s.day<C.days:=h2
   obtain⟨x,hx,hd⟩:=ih (step_ok (t:=i) hs h2);have hp:=P.part x hx;rw[<-jY hp hs.lm]at hd;refine⟨x,hx,?_⟩;by_cases e:x.2.aU (s.rs x.1) i=s.rs x.1
   .simp only[e]at hd
    cases hd with
    |lost hf=>exact .lost hf
    |own _ hall=>exact hall (-2) _ (fF.2 (.inl ⟨rfl,rfl,rfl⟩))
    |jM h=>cases h
   .exact .jM rfl (fF.2 (.inr (.inr ⟨i,by rw[hp.acts];exact h1,rfl,by rw[hp.days];exact h2,⟨by rw[zA hp];exact h3.1,e⟩,rfl⟩))) hd
def aA.mu(m:aA):Nat:=if m.status=0 then 30 else if m.runs=true then 20 - m.got.toNat else 0
def wu:List aA->Nat
 |[]=>0
 |m::l=>m.mu+wu l
theorem F9:∀{l l':List aA},l'.length=l.length->(∀(i:Nat)(m m':aA),l[i]?=some m->l'[i]?=some m'->m'=m\/m'.mu<m.mu)->wu l'<=wu l/\(l'≠l->wu l'<wu l)
 |[],[],_,_=>⟨Nat.le_refl _,λh=>absurd rfl h⟩
 |m::l,m'::l',hl,h=>by
  have hl:l'.length=l.length:=by simpa using hl
  obtain⟨h1,h2⟩:=F9 hl λi a b ha hb=>h (i+1) a b (by simpa using ha) (by simpa using hb);have h3:=h 0 m m' rfl rfl;simp only[wu];by_cases e:l'=l
  .subst e
   rcases h3 with rfl|h3
   .exact⟨Nat.le_refl _,λh=>absurd rfl h⟩
   .exact⟨by omega,λ_=>by omega⟩
  .have:=h2 e
   rcases h3 with rfl|h3
   .exact⟨by omega,λ_=>by omega⟩
   .exact⟨by omega,λ_=>by omega⟩
theorem Y_(h:aK C s){i:Nat}{a:dM}(ha:C.acts[i]?=some a)(hk:a.kind=1)(hr:a.role≠ -1):C.act i a s≠s->wu (C.act i a s).marks<wu s.marks:=by
 have hC:=ay.ok h.con;have h1:C.paused i s.marks=s.marks:=Ap (jk C i s.marks) λj m hm hrn=>by
  unfold jH;cases hkc:C.clauses[j]? with
  |none=>rfl
  |some k=>
   have nat:C.natural i=true->False:=λe=>by
    unfold ay.natural ay.Fx at e;rw[if_pos (by omega),Int.toNat_natCast,ha]at e;simp at e;exact hr e.2
   have hp:=(hC.clause hkc).pause;have e2:((i:Int)==k.pause)=false:=by
    have:(i:Int)≠k.pause:=λe=>nat (by rw[e];exact(hp (.inl (by omega))).2.1);simpa using this
   have e3:((i:Int)==k.resume)=false:=by
    have:(i:Int)≠k.resume:=λe=>nat (by rw[e];exact(hp (.inr (by omega))).2.2);simpa using this
   simp only[e2,e3,cond_false]
 have q:(a.kind !=1)=false:=by simpa using hk
 unfold ay.act;simp only[q,Bool.false_and,cond_false,h1];intro hne;have hl:(C.begin s.ah (C.oZ i (bC s.ah a) s.marks)).length=s.marks.length:=by rw[g_,xC]
 refine(F9 hl λj m m' hm hm'=>?_).2 λe=>hne (by rw[e]);obtain⟨m1,g1,g2⟩:=(uK C s.ah _).2 j m' hm';have g3:=kg C i (bC s.ah a) s.marks j;rw[g1,hm,Option.map_some,Option.some.injEq]at g3;have hj:j<C.clauses.length:=by rw[<-h.lm];exact(List.getElem?_eq_some_iff.1 hm).1
 have hkc:C.clauses[j]?=some C.clauses[j]:=List.getElem?_eq_getElem hj;generalize C.clauses[j]=k at hkc;have hmk:=h.marks j m k hm hkc;have arE:=hmk.got (hC.clause hkc);cases hrn:m.runs with
 |false=>
  rw[hrn,cond_false]at g3;subst g3;rcases g2 with rfl|⟨g2,_,k',_,rfl⟩
  .exact .inl rfl
  .right
   simp[aA.mu,nu,aA.runs,g2]
 |true=>
  rw[hrn,cond_true]at g3;have arF:=(jI m).1 hrn;have hmu:m.mu=20 - m.got.toNat:=by unfold aA.mu;rw[if_neg (by omega),if_pos hrn]
  have ended:∀(x:aA)(st:Int),st=3\/st=4\/st=5->(x.ended st).mu=0/\(x.ended st).status≠0:=λx st hst=>by
   have h0:(x.ended st).status=st:=rfl;have h2:(x.ended st).runs=false:=Ao (by rw[h0];exact hst);refine⟨?_,by rw[h0];omega⟩;unfold aA.mu;rw[h0,if_neg (by omega),h2];rfl
  have key:(m1=m\/m1.mu<m.mu)/\m1.status≠0:=by
   subst g3;unfold qC;rw[hkc];dsimp only;cases ((k.act==(i:Int))&&((k.kind==4)||(m.aT==bC s.ah a)))with
   |false=>exact⟨.inl rfl,by simp only[cond_false];omega⟩
   |true=>
    simp only[cond_true,aA.hit];cases (k.kind==1)with
    |true=>
     simp only[cond_true,aA.performed];cases (m.got+1==k.need)with
     |true=>
      have:=ended ⟨m.status,m.left,m.got+1,m.aT,m.paused⟩ 3 (.inl rfl);simp only[cond_true];exact⟨.inr (by rw[this.1,hmu];omega),this.2⟩
     |false=>
      simp only[cond_false];refine⟨.inr ?_,by show m.status≠0;omega⟩;have:aA.mu ⟨m.status,m.left,m.got+1,m.aT,m.paused⟩=20 - (m.got+1).toNat:=by
       unfold aA.mu;rw[if_neg (by show¬m.status=0;omega),if_pos (by exact hrn)]
      rw[this,hmu];omega
    |false=>
     simp only[cond_false];cases (k.kind==2)with
     |true=>
      simp only[cond_true,aA.violated];cases m.paused with
      |true=>exact⟨.inl rfl,by simp only[cond_true];omega⟩
      |false=>
       have:=ended m 4 (.inr (.inl rfl));exact⟨.inr (by simp only[cond_false];rw[this.1,hmu];omega),this.2⟩
     |false=>
      have:=ended m 3 (.inl rfl);exact⟨.inr (by simp only[cond_false];rw[this.1,hmu];omega),this.2⟩
  rcases g2 with rfl|⟨g2,_⟩
  .exact key.1
  .exact absurd g2 key.2
theorem Parts.Ui(P:Parts C ps){party:Int}(hp0:0<=party){x:List Nat×ay}(hx:x∈ps){q:aN}(h:bM x.2 party q):∀s:aI,aK C s->q.st=s.rs x.1->bM C party ⟨s,q.own⟩:=by
 have hp:=P.part x hx;induction h with
 |lost hf=>intro s hs e;rw[e]at hf;exact .lost (Mv hp hs.lm hf)
 |@own q ho _ ih=>
  obtain⟨r,o⟩:=q;subst ho;intro s;generalize hn:wu s.marks=n;induction n using Nat.strongRecOn generalizing s with
  |_ n ihn=>
   intro hs e;dsimp only at e;subst e;refine .own rfl λm q' hm=>?_;rcases fF.1 hm with⟨_,_,rfl⟩|⟨_,h1,_⟩|⟨i,h1,_,h2,h3,rfl⟩
   .exact ih (-2) ⟨s.rs x.1,false⟩ (fF.2 (.inl ⟨rfl,rfl,rfl⟩)) s hs rfl
   .cases h1
   .have h2:s.day<C.days:=h2
    have hs2:=step_ok (t:=i) hs h2;by_cases ec:x.2.aU (s.rs x.1) i=s.rs x.1
    .have ec2:(C.aU s i).rs x.1=s.rs x.1:=by rw[<-jY hp hs.lm];exact ec
     obtain⟨a,ha⟩:∃a,C.acts[i]?=some a:=⟨_,List.getElem?_eq_getElem h1⟩;have hd:bC s.ah a=party:=by
      have:=h3.1.2 rfl;unfold ay.doer at this;rw[Int.toNat_natCast,ha]at this;exact this
     have adl:a.role≠ -1:=λe=>by unfold bC at hd;rw[e]at hd;simp at hd;omega
     have hne:=h3.2;rw[show aN.st ⟨s,_⟩=s from rfl,uL ha]at hne⊢;rw[uL ha]at ec2 hs2;by_cases hdo:∀a∈C.acts,a.kind=1
     .have:=Y_ hs ha (hdo a (List.mem_of_getElem? ha)) adl hne
      exact ihn _ (by omega) _ rfl hs2 ec2.symm
     .exfalso
      apply hne;have eq:∀y∈ps,y=x:=λy hy=>Classical.byContradiction λe=>hdo (P.apart y hy x hx e).1;generalize C.act i a s=s' at ec2 hs2;have l1:=hs.lm;have l2:=hs2.lm;obtain⟨d,ho,us,ms⟩:=s;obtain⟨d',ho',us',ms'⟩:=s';unfold aI.rs at ec2;simp only[aI.mk.injEq]at ec2 l1 l2⊢;obtain⟨e1,e2,e3,e4⟩:=ec2;refine⟨e1,e2,e3,List.ext_getElem? λj=>?_⟩;by_cases hj:j<C.clauses.length
      .obtain⟨y,hy,hjy⟩:=P.cover j hj
       rw[eq y hy]at hjy;have l1:ms.length=C.clauses.length:=l1;have l2:ms'.length=C.clauses.length:=l2;obtain⟨n,hn⟩:=List.getElem?_of_mem hjy;rw[<-lG (ms:=ms) (λi hi=>by rw[l1];exact hp.lt hi) hn,<-lG (ms:=ms') (λi hi=>by rw[l2];exact hp.lt hi) hn,e4]
      .rw[List.getElem?_eq_none (by omega),List.getElem?_eq_none (by omega)]
    .exact ih i ⟨x.2.aU (s.rs x.1) i,true⟩ (fF.2 (.inr (.inr ⟨i,by rw[hp.acts];exact h1,rfl,by rw[hp.days];exact h2,⟨by rw[zA hp];exact h3.1,ec⟩,rfl⟩))) _ hs2 (jY hp hs.lm i)
 |@jM q m q' ho hm _ ih=>
  obtain⟨r,o⟩:=q;subst ho;intro s hs e;dsimp only at e;subst e;rcases fF.1 hm with⟨_,h1,_⟩|⟨rfl,_,h2,rfl⟩|⟨i,h1,rfl,h2,h3,rfl⟩
  .cases h1
  .have h2:s.day<C.days:=by rw[hp.days]at h2;exact h2
   exact .jM rfl (fF.2 (.inr (.inl ⟨rfl,rfl,h2,rfl⟩))) (ih _ (step_ok (t:= -1) hs h2) (jY hp hs.lm (-1)))
  .have h2:s.day<C.days:=by rw[hp.days]at h2;exact h2
   have h1:i<C.acts.length:=by rw[hp.acts]at h1;exact h1
   refine .jM rfl (fF.2 (.inr (.inr ⟨i,h1,rfl,h2,⟨by have:=h3.1;rw[zA hp]at this;exact this,λe=>h3.2 ?_⟩,rfl⟩))) (ih _ (step_ok (t:=i) hs h2) (jY hp hs.lm i));show x.2.aU (s.rs x.1) i=s.rs x.1;rw[jY hp hs.lm];exact congrArg (aI.rs x.1) e
theorem Parts.Qz(P:Parts C ps){party:Int}(hp0:0<=party)(hs:aK C s)(o:Bool):bM C party ⟨s,o⟩↔∃x∈ps,bM x.2 party ⟨s.rs x.1,o⟩:=
 ⟨λh=>P.Y9 h hs,λ⟨_,hx,h⟩=>P.Ui hp0 hx h s hs rfl⟩
end
end
end
section
noncomputable section
open Classical
structure jR(u r:Nat->Nat):Prop where
 le:∀i,u i<=i
 fix:∀i,u i=i->r i=i
 step:∀i,r (u i)=r i
def I7(u:Nat->Nat)(i v:Nat):Nat->Nat:=λj=>if j=i then v else u j
section
variable {u r:Nat->Nat}
theorem jR.root(h:jR u r)(i:Nat):u (r i)=r i/\r i<=i:=by
 induction i using Nat.strongRecOn with
 |_ i ih=>
  by_cases e:u i=i
  .rw[h.fix i e];exact⟨e,Nat.le_refl _⟩
  .have:=h.le i
   obtain⟨h1,h2⟩:=ih (u i) (by omega);rw[h.step]at h1 h2;exact⟨h1,by omega⟩
theorem jR.idem(h:jR u r)(i:Nat):r (r i)=r i:=h.fix _ (h.root i).1
theorem jR.adn(h:jR u r)(i:Nat):jR (I7 u i (r i)) r:=by
 refine⟨λj=>?_,λj=>?_,λj=>?_⟩<;>unfold I7<;>by_cases e:j=i
 .rw[if_pos e,e];exact(h.root i).2
 .rw[if_neg e];exact h.le j
 .rw[if_pos e,e];exact id
 .rw[if_neg e];exact h.fix j
 .rw[if_pos e,e];exact h.idem i
 .rw[if_neg e];exact h.step j
theorem jR.join(h:jR u r){a b:Nat}(ha:r a=a)(hb:r b=b)(hab:a<=b):jR (I7 u b a) (λx=>if r x=b then a else r x):=by
 refine⟨λj=>?_,λj=>?_,λj=>?_⟩<;>unfold I7<;>by_cases e:j=b
 .rw[if_pos e];omega
 .rw[if_neg e];exact h.le j
 .rw[if_pos e,e];intro hh;rw[if_pos hb];exact hh
 .rw[if_neg e];intro hh;rw[h.fix j hh,if_neg e]
 .rw[if_pos e,e,ha,if_pos hb];split<;>rfl
 .rw[if_neg e,h.step]
def VY(r r':Nat->Nat):Prop:=∀x y,r x=r y->r' x=r' y
theorem VY.refl(r:Nat->Nat):VY r r:=λ_ _ h=>h
theorem VY.join(r:Nat->Nat)(a b:Nat):VY r (λx=>if r x=b then a else r x):=λx y h=>by dsimp only;rw[h]
structure xM(r:Nat->Nat)(k:Nat)(m:Nat->Option Nat)(P:List (List Nat)):Prop where
 at_:∀i,i<k->r i=i->∃p:Nat,m i=some p/\P[p]?=some ((List.range k).filter λj=>decide (r j=i))
 of:∀(p:Nat)(l:List Nat),P[p]?=some l->∃i,i<k/\r i=i/\m i=some p/\l=(List.range k).filter λj=>decide (r j=i)
theorem xM.nil(r:Nat->Nat)(m:Nat->Option Nat):xM r 0 m []:=⟨λi h=>absurd h (Nat.not_lt_zero i),λp l h=>by simp at h⟩
theorem jw(r:Nat->Nat)(k i:Nat):(List.range (k+1)).filter (λj=>decide (r j=i))=(List.range k).filter (λj=>decide (r j=i))++if r k=i then[k]else[]:=by
 rw[List.range_succ,List.filter_append];congr 1;by_cases e:r k=i<;>simp[e]
theorem xM.old(h:jR u r){k:Nat}{m:Nat->Option Nat}{P:List (List Nat)}(g:xM r k m P)(hk:r k≠k):∃(p:Nat)(l:List Nat),m (r k)=some p/\P[p]?=some l/\xM r (k+1) m (P.set p (l++[k])):=by
 have hr:=h.root k;obtain⟨p,h1,h2⟩:=g.at_ (r k) (by omega) (h.idem k);have hp:=(List.getElem?_eq_some_iff.1 h2).1;refine⟨p,_,h1,h2,λi hi hri=>?_,λq l hq=>?_⟩
 .have hik:i<k:=by
   by_cases e:i=k
   .subst e;exact absurd hri hk
   .omega
  obtain⟨q,h3,h4⟩:=g.at_ i hik hri;refine⟨q,h3,?_⟩;rw[List.getElem?_set,jw];by_cases e:r k=i
  .rw[<-e,h1]at h3
   cases h3
   rw[if_pos rfl,if_pos hp,if_pos e,e]
  .have hqp:p≠q:=λe2=>by
    subst e2;rw[h2]at h4;have h5:r k∈(List.range k).filter λj=>decide (r j=r k):=by simp[h.idem k];omega
    rw[Option.some.inj h4]at h5;have:=(List.mem_filter.1 h5).2;simp[h.idem k]at this;exact e this
   rw[if_neg hqp,if_neg e,List.append_nil];exact h4
 .rw[List.getElem?_set]at hq
  by_cases e:p=q
  .subst e
   rw[if_pos rfl,if_pos hp]at hq;cases hq
   refine⟨r k,by omega,h.idem k,h1,?_⟩;rw[jw,if_pos rfl]
  .rw[if_neg e]at hq
   obtain⟨i,h3,h4,h5,h6⟩:=g.of q l hq;refine⟨i,by omega,h4,h5,?_⟩;rw[jw,h6];by_cases e2:r k=i
   .subst e2
    rw[h1]at h5;cases h5
    exact absurd rfl e
   .rw[if_neg e2,List.append_nil]
theorem xM.new(h:jR u r){k:Nat}{m:Nat->Option Nat}{P:List (List Nat)}(g:xM r k m P)(hk:r k=k):xM r (k+1) (λi=>if i=k then some P.length else m i) ((P++[[]]).set P.length ([]++[k])):=by
 have hs:(P++[[]]).set P.length ([]++[k])=P++[[k]]:=by simp
 rw[hs];have lt:∀j,j<k->r j≠k:=λj hj e=>by have:=(h.root j).2;omega
 have hz:(List.range k).filter (λj=>decide (r j=k))=[]:=by
  rw[List.filter_eq_nil_iff];intro j hj;simpa using lt j (List.mem_range.1 hj)
 refine⟨λi hi hri=>?_,λq l hq=>?_⟩
 .by_cases e:i=k
  .subst e
   refine⟨P.length,if_pos rfl,?_⟩;rw[List.getElem?_append_right (Nat.le_refl _),Nat.sub_self,jw,if_pos hk,hz];rfl
  .obtain⟨p,h1,h2⟩:=g.at_ i (by omega) hri
   refine⟨p,by rw[if_neg e];exact h1,?_⟩;rw[List.getElem?_append_left (List.getElem?_eq_some_iff.1 h2).1,h2,jw,if_neg (by omega),List.append_nil]
 .by_cases hq2:q<P.length
  .rw[List.getElem?_append_left hq2]at hq
   obtain⟨i,h3,h4,h5,h6⟩:=g.of q l hq;refine⟨i,by omega,h4,by rw[if_neg (by omega)];exact h5,?_⟩;rw[jw,h6,if_neg (by omega),List.append_nil]
  .have hq3:=(List.getElem?_eq_some_iff.1 hq).1
   simp at hq3;obtain rfl:q=P.length:=by omega
   rw[List.getElem?_append_right (Nat.le_refl _),Nat.sub_self]at hq;cases hq
   refine⟨k,by omega,hk,if_pos rfl,?_⟩;rw[jw,if_pos hk,hz];rfl
end
def aG.nums(k:aG):List Int:=if k.pause= -1 then[k.act]else[k.act,k.pause,k.resume]
structure xO(C:ay)(P:List (List Nat)):Prop where
 akj:P.length<=C.clauses.length
 len:∀l∈P,l.length<=C.clauses.length
 lt:∀l∈P,∀i∈l,i<C.clauses.length
 cover:∀i,i<C.clauses.length->∃l∈P,i∈l
 apart:∀l∈P,∀l'∈P,l≠l'->(∀a∈C.acts,a.kind=1)/\∀i∈l,∀j∈l',∀k k':aG,C.clauses[i]?=some k->C.clauses[j]?=some k'->∀t∈k.nums,t∉k'.nums
theorem xO.of{C:ay}{u r:Nat->Nat}{m:Nat->Option Nat}{P:List (List Nat)}(hP:P.length<=C.clauses.length)(h:jR u r)(g:xM r C.clauses.length m P)
 (h1:(∃a∈C.acts,a.kind≠1)->∀i,i<C.clauses.length->r i=r 0)
 (h2:∀(i j:Nat)(k k':aG),C.clauses[i]?=some k->C.clauses[j]?=some k'->∀t∈k.nums,t∈k'.nums->r i=r j):xO C P:=by
 refine⟨hP,λl hl=>?_,λl hl i hi=>?_,λi hi=>?_,λl hl l' hl' hne=>?_⟩
 .obtain⟨p,hp⟩:=List.getElem?_of_mem hl
  obtain⟨q,_,_,_,rfl⟩:=g.of p l hp;have:=List.length_filter_le (λj=>decide (r j=q)) (List.range C.clauses.length);rw[List.length_range]at this;exact this
 .obtain⟨p,hp⟩:=List.getElem?_of_mem hl
  obtain⟨q,_,_,_,rfl⟩:=g.of p l hp;exact List.mem_range.1 (List.mem_filter.1 hi).1
 .have hr:=h.root i
  obtain⟨p,h3,h4⟩:=g.at_ (r i) (by omega) (h.idem i);exact⟨_,List.mem_of_getElem? h4,List.mem_filter.2 ⟨List.mem_range.2 hi,by simp⟩⟩
 .obtain⟨p,hp⟩:=List.getElem?_of_mem hl
  obtain⟨p',hp'⟩:=List.getElem?_of_mem hl';obtain⟨q,q1,q2,_,rfl⟩:=g.of p l hp;obtain⟨q',q1',q2',_,rfl⟩:=g.of p' l' hp';have hqq:q≠q':=λe=>hne (by rw[e]);refine⟨λa ha=>Classical.byContradiction λe=>hqq ?_,λi hi j hj k k' hk hk' t ht ht'=>hqq ?_⟩
  .have e1:=h1 ⟨a,ha,e⟩ q q1
   have e2:=h1 ⟨a,ha,e⟩ q' q1';omega
  .have e1:r i=q:=by simpa using(List.mem_filter.1 hi).2
   have e2:r j=q':=by simpa using(List.mem_filter.1 hj).2
   rw[<-e1,<-e2];exact h2 i j k k' hk hk' t ht ht'
def uM(C:ay)(cl:List Nat)(i:Nat):aG:=match C.clauses[i]? with
 |some k=>k.onto (k.start.map λc=>⟨(cl.idxOf c.clause.toNat:Nat),c.is⟩)
 |none=>⟨0,0,0,0,[],0,0,false,false,0,0,⟨0,0⟩,0,0,false⟩
def ay.part(C:ay)(cl:List Nat):ay:=⟨C.aD,C.ah,C.units,C.acts,cl.map (uM C cl),C.days,C.off⟩
theorem Uj{C:ay}{cl:List Nat}:(C.part cl).clauses.length=cl.length/\∀(j i:Nat)(k:aG),cl[j]?=some i->C.clauses[i]?=some k->(C.part cl).clauses[j]?=some (k.onto (k.start.map λc=>⟨(cl.idxOf c.clause.toNat:Nat),c.is⟩)):=by
 refine⟨by simp[ay.part],λj i k hj hk=>?_⟩;show(cl.map (uM C cl))[j]?=_;rw[List.getElem?_map,hj,Option.map_some,uM,hk]
theorem eY.of{C:ay}{cl:List Nat}(hl:∀i∈cl,i<C.clauses.length)(hc:∀i∈cl,∀k:aG,C.clauses[i]?=some k->∀c∈k.start,0<=c.clause/\c.clause.toNat∈cl):eY C (C.part cl) cl:=by
 obtain⟨h1,h2⟩:=Uj (C:=C) (cl:=cl);refine⟨rfl,rfl,rfl,rfl,rfl,h1,λj i hj=>?_⟩;have hi:=List.mem_of_getElem? hj;have hk:C.clauses[i]?=some (C.clauses[i]'(hl i hi)):=List.getElem?_eq_getElem (hl i hi);refine⟨_,_,hk,h2 j i _ hj hk,by simp,λn c c' hn hn'=>?_⟩;rw[List.getElem?_map,hn]at hn';cases hn'
 obtain⟨g1,g2⟩:=hc i hi _ hk c (List.mem_of_getElem? hn);exact⟨rfl,g1,_,rfl,by rw[List.getElem?_eq_getElem (List.idxOf_lt_length_of_mem g2),List.getElem_idxOf]⟩
theorem Parts.of{C:ay}{P:List (List Nat)}(hv:C.valid=true)(h:xO C P)(hp:∀l∈P,eY C (C.part l) l/\(C.part l).valid=true):Parts C (P.map λl=>(l,C.part l)):=by
 have mem:∀x∈P.map λl=>(l,C.part l),x.1∈P/\x.2=C.part x.1:=λx hx=>by
  obtain⟨l,hl,rfl⟩:=List.mem_map.1 hx;exact⟨hl,rfl⟩
 refine⟨λx hx=>?_,λx hx=>?_,λi hi=>?_,λx hx y hy hne=>?_⟩
 .obtain⟨h1,h2⟩:=mem x hx;rw[h2];exact(hp _ h1).1
 .obtain⟨h1,h2⟩:=mem x hx;rw[h2];exact(hp _ h1).2
 .obtain⟨l,hl,h1⟩:=h.cover i hi
  exact⟨_,List.mem_map.2 ⟨l,hl,rfl⟩,h1⟩
 .obtain⟨h1,h2⟩:=mem x hx
  obtain⟨h3,h4⟩:=mem y hy;have hxy:x.1≠y.1:=λe=>hne (by obtain⟨a,b⟩:=x;obtain⟨c,d⟩:=y;dsimp only at e h2 h4;subst e;rw[h2,h4]);obtain⟨g1,g2⟩:=h.apart _ h1 _ h3 hxy;refine⟨g1,λi hi j hj k k' hk hk' t ht ht'=>?_⟩;have hC:=ay.ok hv;have nm:∀(i:Nat)(k:aG),C.clauses[i]?=some k->k.names t->(t:Int)∈k.nums:=λi k hk hn=>by
   unfold aG.nums;have hp:=(hC.clause hk).pause;by_cases e:k.pause= -1
   .rw[if_pos e]
    rcases hn with hn|hn|hn
    .simp[hn]
    .omega
    .have hn1:=(hp (.inr (by omega))).2.1
     rw[e]at hn1;simp[ay.natural,ay.Fx]at hn1
   .rw[if_neg e]
    rcases hn with hn|hn|hn<;>simp[hn]
  exact g2 i hi j hj k k' hk hk' t (nm i k hk ht) (nm j k' hk' ht')
theorem I8{C:ay}{P:List (List Nat)}(h:xO C P){party:Int}(hp0:0<=party){p:aN}(hs:aK C p.st)(hp:∀l∈P,eY C (C.part l) l/\(C.part l).valid=true):(∀l∈P,¬bM (C.part l) party ⟨p.st.rs l,p.own⟩)↔¬bM C party p:=by
 have:=(Parts.of hs.con h hp).Qz hp0 hs p.own;constructor
 .intro h1 h2
  obtain⟨x,hx,hd⟩:=this.1 h2;obtain⟨l,hl,rfl⟩:=List.mem_map.1 hx;exact h1 l hl hd
 .exactλh1 l hl hd=>h1 (this.2 ⟨_,List.mem_map.2 ⟨l,hl,rfl⟩,hd⟩)
end
end
section
noncomputable section
@[go_sem] theorem anR {k j:IntKind} {a b:Int}:mnO (some (.i k a)) (some (.i j b))=some (.i k (if a<=b then a else b)):=by
 show some (AV.i k (bc (mo a b) a b))=_;rw[eZ];by_cases h:a<=b<;>simp[h,bc]
@[go_sem] theorem anS {k j:IntKind} {a b:Int}:mxO (some (.i k a)) (some (.i j b))=some (.i k (if b<=a then a else b)):=by
 show some (AV.i k (bc (mo b a) a b))=_;rw[eZ];by_cases h:b<=a<;>simp[h,bc]
section
variable {h h':AH} {n n':Nat} {v:CS} {C:ay} {tv:TS} {s:aI} {party:Int} {Q:AV->AH->Nat->Prop}
theorem QA(K:Nat)(a:dM)(hQ:∀h' n',Up h n h' n'->Q (.b (!decide (a.kind=1))) h' n'):CW (EF (K+1)) 298 [.agg a.av] h n Q:=by
 refine aC c226 rfl ?_;repeat' (first|(simp (disch:=omega) only[go_sem,simprocAttr,adj,dM.av])|(refine aS ?_ ?_<;>(intro hb hd;rw[hb];clear hb))|(with_reducible refine aj ?_))
 exact hQ _ _ aH
theorem Uk(K:Nat){x:AV}{l:List dM}(hx:SL h n 7 x dM.av l)(hl:l.length<=1000000)(hQ:∀(r:Int) h' n',(0<=r↔∃a∈l,a.kind≠1)->Up h n h' n'->Q (.i .i64 r) h' n'):CW (EF (K+2)) 304 [x,.f 298 []] h n Q:=by
 refine aC aki rfl ?_;repeat' (first|(simp (disch:=omega) only[go_sem,simprocAttr,adk,hx.len])|(refine aS ?_ ?_<;>(intro hb hd;rw[hb];clear hb))|(with_reducible refine aj ?_))
 refine gP l.length (λk=>∀(j:Nat)(a:dM),j<k->l[j]?=some a->a.kind=1) h n (λ_=>[(0,x),(1,.f 298 [])]) (by omega) (by omega) (by omega) (by omega) (λk=>⟨rfl,rfl⟩) rfl rfl (by(repeat' (first|exact aO|refine aM rfl ?_))) (Up.refl _ _) (λj a hj=>absurd hj (by omega)) ?_ ?_
 .intro k h3 n3 hk hno u
  obtain⟨b1,o1,a,i1,ha,hb1,rd⟩:=(hx.up u).dL (k:=(k:Nat)) (by omega) (by omega) (by omega);rw[show((k:Nat):Int).toNat=k by omega]at ha;simp (disch:=omega) only[go_sem,simprocAttr,aJ i1,rd.all];rw[aR];refine QA K a λh4 n4 u4=>?_;by_cases hd:a.kind=1
  .rw[decide_eq_true hd]
   simp (disch:=omega) only[go_sem,simprocAttr];refine iO rfl rfl (λj a' hj ha'=>?_) aH (by(repeat' (first|exact aO|refine aM rfl ?_)));by_cases e:j=k
   .subst e;rw[ha]at ha';cases ha';exact hd
   .exact hno j a' (by omega) ha'
  .rw[decide_eq_false hd]
   simp (disch:=omega) only[go_sem,simprocAttr];exact hQ _ _ _ ⟨λ_=>⟨a,List.mem_of_getElem? ha,hd⟩,λ_=>Int.natCast_nonneg _⟩ aH
 .intro h3 n3 hno u
  simp (disch:=omega) only[go_sem,simprocAttr];refine hQ _ _ _ ⟨λe=>by omega,λ⟨a,ha,hk⟩=>?_⟩ u;obtain⟨j,hj⟩:=List.getElem?_of_mem ha;exact absurd (hno j a (List.getElem?_eq_some_iff.1 hj).1 hj) hk
theorem Ul(K:Nat){x:AV}{l:List dM}(hx:SL h n 7 x dM.av l)(hl:l.length<=1000000)(hQ:∀b h' n',(b=true↔∃a∈l,a.kind≠1)->Up h n h' n'->Q (.b b) h' n'):CW (EF (K+3)) 297 [x,.f 298 []] h n Q:=by
 refine aC akh rfl ?_;simp (disch:=omega) only[go_sem,simprocAttr,adi];rw[aR];refine Uk K hx hl λr h2 n2 hr u=>?_;simp (disch:=omega) only[go_sem,simprocAttr];exact hQ _ _ _ (by rw[decide_eq_true_iff];exact hr) u
theorem I9(K:Nat)(k:aG)(t:AV)(hQ:∀v' h' n',Up h n h' n'->SL h' n' 1 v' iw k.nums->(∀x,blk v' x->n<=x)->Q v' h' n'):CW (EF (K+1)) 299 [.agg (k.av t)] h n Q:=by
 refine aC c227 rfl ?_;by_cases hp:k.pause= -1
 .have hd:decide (k.pause= -1)=true:=decide_eq_true hp
  repeat' (first|(simp (disch:=omega) only[go_sem,simprocAttr,Y8,aG.av,hd])|(refine aS ?_ ?_<;>(intro hb hd;rw[hb];clear hb))|(with_reducible refine aj ?_))
  refine hQ _ _ _ aH (SL.of (λ_=>rfl) (by omega) aF ?_ ?_ λ_ e=>by cases e;omega) (λx hx=>by rw[eu]at hx;omega)
  .unfold aG.nums;rw[if_pos hp];rfl
  .unfold aG.nums;rw[if_pos hp];rfl
 .have hd:decide (k.pause= -1)=false:=decide_eq_false hp
  repeat' (first|(simp (disch:=omega) only[go_sem,simprocAttr,Y8,aG.av,hd])|(refine aS ?_ ?_<;>(intro hb hd;rw[hb];clear hb))|(with_reducible refine aj ?_))
  refine hQ _ _ _ aH (SL.of (λ_=>rfl) (by omega) aF ?_ ?_ λ_ e=>by cases e;omega) (λx hx=>by rw[eu]at hx;omega)
  .unfold aG.nums;rw[if_neg hp];rfl
  .unfold aG.nums;rw[if_neg hp];rfl
theorem Cr(K:Nat)(hC:aY h n v C)(ho:C.off.length<=1000000)(hS:bI h n tv s)(so:aK C s)(h0:0<=party)(h1:party<C.aD)(hQ:∀h' n',Up h n h' n'->Q (.b (anyFailed C s party)) h' n'):CW (EF (K+8)) 324 [.agg (v.av C),.agg (tv.av s),.i .i64 party] h n Q:=by
 have ok:=ay.ok so.con;have:=so.lm;have:=ok.dJ;refine aC c19 rfl ?_;have d0:decide (party<0)=false:=decide_eq_false (by omega);have d1:decide (C.aD<=party)=false:=decide_eq_false (by omega);simp (disch:=omega) only[go_sem,simprocAttr,m19,CS.av,TS.av,d0,d1];rw[aR];refine gJ K (hC.up aH) ho (hS.up aH) λhx nx ux=>?_;have e1:=ux.le;have gx:hx.get n=some (.row 27 (v.av C)):=by rw[ux.old _ (by omega)];simp (disch:=omega) only[go_sem]
 have gy:hx.get (n+1)=some (.row 77 (tv.av s)):=by rw[ux.old _ (by omega)];simp (disch:=omega) only[go_sem]
 have u0:Up h n hx nx:=by exact aH
 clear ux;rw[(bR C s).2 so];simp (disch:=omega) only[go_sem,simprocAttr,gy,TS.av,hS.marks.len];refine bP s.marks.length (λk h3 n3 G=>(List.range k).any (jv C s party)=false/\Up h n h3 n3/\n+2<=n3/\h3.get n=some (.row 27 (v.av C))/\G=[(2,.i .i64 party),(3,.p n 0),(24,tv.m)]) (by omega) (by omega) (by omega) (by omega) (λk h8 n8 G ⟨_,_,_,_,e⟩=>by subst e;exact⟨rfl,rfl⟩) ⟨rfl,rfl,_,⟨rfl,u0,e1,gx,rfl⟩,by(repeat' (first|exact aO|refine aM rfl ?_))⟩ ?_ ?_
 .rintro k h3 n3 G hk ⟨hno,u3,l3,r3,rfl⟩
  obtain⟨b1,o1,a,i1,ha,hb1,rd⟩:=(hS.marks.up u3).dL (k:=(k:Nat)) (by omega) (by omega) (by omega);rw[show((k:Nat):Int).toNat=k by omega]at ha;repeat' (first|(simp (disch:=omega) only[go_sem,simprocAttr,aJ i1,rd.el,rd.hd,rd.all,r3,CS.av])|(refine aS ?_ ?_<;>(intro hb hd;rw[hb];clear hb))|(with_reducible refine aj ?_))
  refine oF (hC.up u3) (by omega) (by omega) λb2 o2 kc t hkc hb2 _ eP=>?_;rw[show((k:Nat):Int).toNat=k by omega]at hkc;have hfa:jv C s party k=iN kc a party:=by unfold jv;rw[ha,hkc]
  have Oo:jv C s party k=false->(List.range (k+1)).any (jv C s party)=false:=λe=>by
   rw[List.range_succ,List.any_append,hno];simp[e]
  have hit:jv C s party k=true->anyFailed C s party=true:=λe=>by
   rw[jX,List.any_eq_true];exact⟨k,List.mem_range.2 hk,e⟩
  repeat' (first|(simp (disch:=omega) only[go_sem,simprocAttr,eP.el,eP.hd])|(refine aS ?_ ?_<;>(intro hb hd;rw[hb];clear hb))|(with_reducible refine aj ?_))
  .have e:=hit (by rw[hfa];unfold iN;simp[*])
   rw[e]at hQ;exact hQ _ _ aH
  all_goals exact⟨rfl,rfl,_,⟨Oo (by rw[hfa];unfold iN;simp[*]),by exact aH,by omega,by simp (disch:=omega) only[go_sem,r3],rfl⟩,by(repeat' (first|exact aO|refine aM rfl ?_))⟩
 .rintro h3 n3 G ⟨hno,u3,_,_,rfl⟩
  repeat' (first|(simp (disch:=omega) only[go_sem,simprocAttr])|(refine aS ?_ ?_<;>(intro hb hd;rw[hb];clear hb))|(with_reducible refine aj ?_))
  rw[jX,hno]at hQ;exact hQ _ _ u3
end
end
end
section
noncomputable section
def Eo(x:TS×dU):List AV:=[.i .i64 x.2.pos.st.day,x.1.h,x.1.u,x.1.m,.b x.2.pos.own,.i .i64 x.2.rank,.i .i64 x.2.move]
def A_(x:TS×dU):List AV:=[.i .i64 x.2.pos.st.day,x.1.h,x.1.u,x.1.m,.b x.2.pos.own,.i .i64 x.2.move]
structure iJ(h:AH)(n w:Nat)(rv:AV)(c:TS×dU->List AV)(rs:List (TS×dU)):Prop where
 sl:SL h n w rv c rs
 st:∀x∈rs,bI h n x.1 x.2.pos.st
section
variable {h h':AH} {n n':Nat} {v:CS} {C:ay} {tv:TS} {p:aN} {party x m rank:Int} {rv:AV} {rs:List (TS×dU)} {Q:AV->AH->Nat->Prop} {rows:List dU} {tb ty w:Nat} {c:TS×dU->List AV}
theorem iJ.up(a:iJ h n w rv c rs)(u:Up h n h' n'):iJ h' n' w rv c rs:=⟨a.sl.up u,λx hx=>(a.st x hx).up u⟩
theorem Ga(K:Nat)(hT:yT h n tb ty v C party rows)(ho:C.off.length<=1000000)(hS:bI h n tv p.st)(ok:aK C p.st)(hm:m∈(C.iK party p).map (·.1))
 (hQ:∀b h' n',Up h n h' n'->(b=true↔XJ rows (C.toPos p m) rank)->Q (.b b) h' n'):CW (EF (K+10)) 337 [.p tb 0,.agg (tv.pv p),.i .i64 m,.i .i64 rank] h n Q:=by
 refine aC aj5 rfl ?_;simp (disch:=omega) only[go_sem,simprocAttr,ade,TS.pv];generalize hh:Tr.set _ n _=h1;have u1:Up h n h1 (n+1):=by rw[<-hh];exact aH
 clear hh;rw[aR]
 with_reducible refine F8 K (hT.up u1) ho (hS.up u1) ok hm λr b h2 n2 u2 k1 k2=>?_
 cases b with
 |false=>
  simp (disch:=omega) only[go_sem,simprocAttr];exact hQ _ _ _ (u1.trans u2) ⟨λe=>(by cases e),λe=>by have:=(k2 rank).2 e;cases this.1⟩
 |true=>
  simp (disch:=omega) only[go_sem,simprocAttr];exact hQ _ _ _ (u1.trans u2) ⟨λe=>(k2 rank).1 ⟨rfl,of_decide_eq_true e⟩,λe=>decide_eq_true ((k2 rank).2 e).2⟩
theorem Ba(K:Nat)(hT:yT h n tb ty v C party rows)(ho:C.off.length<=1000000)(hS:bI h n tv p.st)(ok:aK C p.st)(h0:0<=party)(hp:party<C.aD)
 (hQ:∀lv h' n',Up h n h' n'->SL h' n' 1 lv iw ((C.iK party p).map (·.1))->Q lv h' n'):CW (EF (K+11)) 325 [.p tb 0,.agg (tv.pv p)] h n Q:=by
 refine aC ajU rfl ?_;obtain⟨⟨mb,L,g1,g2,g3,g4⟩,g5,g6⟩:=hT;simp (disch:=omega) only[go_sem,simprocAttr,ac4,TS.pv];generalize hh:Tr.set _ n _=h1;have u1:Up h n h1 (n+1):=by rw[<-hh];exact aH
 have q0:=(u1.old tb g5).trans g1;have q1:h1.get n=some (.row 114 (tv.pv p)):=by rw[<-hh];exact aF
 clear hh
 with_reducible refine aj ?_
 simp (disch:=omega) only[go_sem,simprocAttr,q0,q1,TS.pv];rw[bF]
 with_reducible refine Ml K (g6.up u1) ho (hS.up u1) ok h0 hp λlv h2 n2 u2 sl=>?_
 simp (disch:=omega) only[go_sem,simprocAttr];exact hQ _ _ _ (u1.trans u2) sl
theorem adp(K:Nat){bt ba br e1 e2 e3:Nat}(g1:h.get bt=some (.row e1 [.p tb 0]))(g2:h.get ba=some (.row e2 (tv.pv p)))(g3:h.get br=some (.row e3 [.i .i64 rank]))(l1:bt<n)(l2:ba<n)(l3:br<n)
 (hT:yT h n tb ty v C party rows)(ho:C.off.length<=1000000)(hS:bI h n tv p.st)(ok:aK C p.st):Tst (K+11) 338 [.p bt 0,.p ba 0,.p br 0] (λm=>¬XJ rows (C.toPos p m) rank) ((C.iK party p).map (·.1)) h n:=by
 intro m hm h' n' Q u hQ;have q1:=(u.old bt l1).trans g1;have q2:=(u.old ba l2).trans g2;have q3:=(u.old br l3).trans g3;refine aC aj6 rfl ?_;simp (disch:=omega) only[go_sem,simprocAttr,adf,q1,q2,q3,TS.pv];rw[aR]
 with_reducible refine Ga K (hT.up u) ho (hS.up u) ok hm λb h2 n2 u2 hb=>?_
 simp (disch:=omega) only[go_sem,simprocAttr];exact hQ _ _ _ (by show _↔¬_;rw[<-hb];cases b<;>simp) u2
theorem VZ(K:Nat){bt ba e1 e2:Nat}{l:List Int}(hl:∀m∈l,m∈(C.iK party p).map (·.1))(g1:h.get bt=some (.row e1 [.p tb 0]))(g2:h.get ba=some (.row e2 (tv.pv p)))(l1:bt<n)(l2:ba<n)
 (hT:yT h n tb ty v C party rows)(ho:C.off.length<=1000000)(hS:bI h n tv p.st)(ok:aK C p.st):Tst (K+10) 328 [.p bt 0,.p ba 0] (λm=>¬Ph rows (C.toPos p m)) l h n:=by
 intro m hm h' n' Q u hQ;have q1:=(u.old bt l1).trans g1;have q2:=(u.old ba l2).trans g2;refine aC ajX rfl ?_;simp (disch:=omega) only[go_sem,simprocAttr,ac7,q1,q2,TS.pv];rw[aR]
 with_reducible refine F8 K (hT.up u) ho (hS.up u) ok (hl m hm) λr b h2 n2 u2 hb _=>?_
 simp (disch:=omega) only[go_sem,simprocAttr];exact hQ _ _ _ (by show _↔¬_;rw[<-hb];cases b<;>simp) u2
theorem I_(K:Nat){d:AV}(hd:d= .agg [.i .i64 x,rv])(hR:iJ h n 7 rv Eo rs){i:Nat}{y:TS×dU}(hy:rs[i]?=some y)(hn:rs.length<=1000000)(hT:yT h n tb ty v C party rows)(ho:C.off.length<=1000000)(ok:aK C y.2.pos.st)(h0:0<=party)(hp:party<C.aD)
 (hQ:∀b h' n',Up h n h' n'->(b=true↔FC C party rows y.2)->Q (.b b) h' n'):CW (EF (K+14)) 333 [d,.p tb 0,.i .i64 (i:Nat)] h n Q:=by
 subst hd;have hi:=(List.getElem?_eq_some_iff.1 hy).1;obtain⟨b1,o1,y',i1,hy',hb1,rd⟩:=hR.sl.dL (k:=(i:Nat)) (by omega) (by omega) (by omega);rw[show((i:Nat):Int).toNat=i by omega,hy]at hy';cases hy'
 have r5:pG (h.get b1) o1 (some 5)=some (.agg (y.1.pv y.2.pos)):=rd.pre' 5 (by omega);obtain⟨⟨mb,L,g1,g2,g3,g4⟩,g5,g6⟩:=id hT;have hS:=hR.st y (List.mem_of_getElem? hy);refine aC aj1 rfl ?_;repeat' (first|(simp (disch:=omega) only[go_sem,simprocAttr,ub.old,Y3,aJ i1,i1,rd.el,rd.hd,r5,Eo,TS.pv,g1])|(simp (disch:=omega) only[go_sem,simprocAttr,Y3,aJ i1,i1,rd.el,rd.hd,r5,Eo,TS.pv,g1])|(refine aS ?_ ?_<;>(intro hb hd;rw[hb];clear hb))|(with_reducible refine aj ?_))
 .generalize hh:Tr.set (Tr.set _ (n+2) _) (n+1+1+1) _=h9
  have u9:Up h n h9 (n+5):=by rw[<-hh];exact aH
  clear hh;rw[bF]
  with_reducible refine Cr (K+5) (g6.up u9) ho (hS.up u9) ok h0 hp λh2 n2 u2=>?_
  have h3:y.2.rank=0:=by assumption
  simp (disch:=omega) only[go_sem,simprocAttr];exact hQ _ _ _ (u9.trans u2) ⟨λe=>⟨λ_=>⟨h3,e⟩,λe=>by omega,λe=>by omega⟩,λe=>(e.1 (by omega)).2⟩
 .exact hQ false _ _ aH ⟨λe=>(by cases e),λe=>absurd (e.1 ‹_›).1 ‹_›⟩
 .generalize hh:Tr.set (Tr.set _ (n+2) _) (n+1+1+1) _=h9
  have u9:Up h n h9 (n+5):=by rw[<-hh];exact aH
  have q4:h9.get (n+1)=some (.row 220 [.p tb 0]):=by rw[<-hh];simp (disch:=omega) only[go_sem]
  have q7:h9.get (n+2)=some (.row 114 (y.1.pv y.2.pos)):=by rw[<-hh];simp (disch:=omega) only[go_sem]
  have q8:h9.get (n+1+1+1)=some (.row 3 [.i .i64 y.2.rank]):=by rw[<-hh];simp (disch:=omega) only[go_sem]
  clear hh;rw[aR]
  with_reducible refine Ba (K+2) (hT.up u9) ho (hS.up u9) ok h0 hp λlv h2 n2 u2 sl=>?_
  have e2:=u2.le;have r4:=(u2.old _ (show n+1<n+5 by omega)).trans q4;have r7:=(u2.old _ (show n+2<n+5 by omega)).trans q7;have r8:=(u2.old _ (show n+1+1+1<n+5 by omega)).trans q8;have u29:=u9.trans u2;have hlen:((C.iK party y.2.pos).map (·.1)).length<=1000000:=by
   have:=lW C party y.2.pos;have:=(ay.ok ok.con).iX;rw[List.length_map];omega
  have hr:¬y.2.rank<=0:=by assumption
  clear q4 q7 q8;cases ho':y.2.pos.own with
  |false=>
   simp (disch:=omega) only[go_sem,simprocAttr,r4,r7,r8,TS.pv,ho'];rw[aR]
   with_reducible refine yC (K+11) sl hlen ?_
   by_cases hm:y.2.move∈(C.iK party y.2.pos).map (·.1)
   .rw[decide_eq_true hm]
    simp (disch:=omega) only[go_sem,simprocAttr,r4,r7,r8,TS.pv,ho'];rw[aR];rw[<-ho']
    with_reducible refine Ga (K+3) (hT.up u29) ho (hS.up u29) ok hm λb h3 n3 u3 hb=>?_
    simp (disch:=omega) only[go_sem,simprocAttr];exact hQ _ _ _ (u29.trans u3) ⟨λe=>⟨λe=>absurd e hr,λ_ _=>⟨hm,hb.1 e⟩,λ_ e=>by rw[ho']at e;cases e⟩,λe=>hb.2 (e.2.1 (by omega) ho').2⟩
   .rw[decide_eq_false hm]
    simp (disch:=omega) only[go_sem,simprocAttr];exact hQ _ _ _ u29 ⟨λe=>(by cases e),λe=>absurd (e.2.1 (by omega) ho').1 hm⟩
  |true=>
   simp (disch:=omega) only[go_sem,simprocAttr,r4,r7,r8,TS.pv,ho'];rw[aR]
   with_reducible refine jN (K+11) sl hlen (adp K r4 r7 r8 (by omega) (by omega) (by omega) (hT.up u29) ho (hS.up u29) ok) λb h3 n3 hb u3=>?_
   simp (disch:=omega) only[go_sem,simprocAttr];exact hQ _ _ _ (u29.trans u3) ⟨λe=>⟨λe=>absurd e hr,λ_ e=>(by rw[ho']at e;cases e),λ_ _ m hm=>Classical.byContradiction λhn=>(by rw[hb.2 ⟨m,hm,hn⟩]at e;cases e)⟩,λe=>by
    cases b with
    |false=>rfl
    |true=>obtain⟨m,hm,hn⟩:=hb.1 rfl;exact absurd (e.2.2 (by omega) ho' m hm) hn⟩
end
end
end
section
noncomputable section
section
variable {h h':AH} {n n':Nat} {v:CS} {C:ay} {tv:TS} {p:aN} {party x m rank:Int} {rv:AV} {rs:List (TS×dU)} {Q:AV->AH->Nat->Prop} {rows:List dU} {tb ty w:Nat} {c:TS×dU->List AV}
theorem Ja(K:Nat){d:AV}(hd:d= .agg [.i .i64 x,rv])(hR:iJ h n 6 rv A_ rs){i:Nat}{y:TS×dU}(hy:rs[i]?=some y)(hn:rs.length<=1000000)(hT:yT h n tb ty v C party rows)(ho:C.off.length<=1000000)(ok:aK C y.2.pos.st)(h0:0<=party)(hp:party<C.aD)
 (hQ:∀b h' n',Up h n h' n'->(b=true↔Pj C party rows y.2)->Q (.b b) h' n'):CW (EF (K+14)) 320 [d,.p tb 0,.i .i64 (i:Nat)] h n Q:=by
 subst hd;have hi:=(List.getElem?_eq_some_iff.1 hy).1;obtain⟨b1,o1,y',i1,hy',hb1,rd⟩:=hR.sl.dL (k:=(i:Nat)) (by omega) (by omega) (by omega);rw[show((i:Nat):Int).toNat=i by omega,hy]at hy';cases hy'
 have r5:pG (h.get b1) o1 (some 5)=some (.agg (y.1.pv y.2.pos)):=rd.pre' 5 (by omega);obtain⟨⟨mb,L,g1,g2,g3,g4⟩,g5,g6⟩:=id hT;have hS:=hR.st y (List.mem_of_getElem? hy);refine aC ajQ rfl ?_;repeat' (first|(simp (disch:=omega) only[go_sem,simprocAttr,ub.old,Y2,aJ i1,i1,rd.el,rd.hd,r5,A_,TS.pv,g1])|(simp (disch:=omega) only[go_sem,simprocAttr,Y2,aJ i1,i1,rd.el,rd.hd,r5,A_,TS.pv,g1])|(refine aS ?_ ?_<;>(intro hb hd;rw[hb];clear hb))|(with_reducible refine aj ?_))
 generalize hh:Tr.set (Tr.set _ (n+2) _) _ _=h9;have u9:Up h n h9 (n+4):=by rw[<-hh];exact aH
 have q4:h9.get (n+1)=some (.row 220 [.p tb 0]):=by rw[<-hh];simp (disch:=omega) only[go_sem]
 have q7:h9.get (n+2)=some (.row 114 (y.1.pv y.2.pos)):=by rw[<-hh];simp (disch:=omega) only[go_sem]
 clear hh;rw[bF]
 with_reducible refine Cr (K+5) (g6.up u9) ho (hS.up u9) ok h0 hp λh1 n1 u1=>?_
 have e1:=u1.le;have r4:=(u1.old _ (show n+1<n+4 by omega)).trans q4;have r7:=(u1.old _ (show n+2<n+4 by omega)).trans q7;have u19:=u9.trans u1;clear q4 q7 u1 u9;cases hf:anyFailed C y.2.pos.st party with
 |true=>
  simp (disch:=omega) only[go_sem,simprocAttr];exact hQ _ _ _ u19 ⟨λe=>(by cases e),λe=>by have:=e.1;rw[hf]at this;cases this⟩
 |false=>
  simp (disch:=omega) only[go_sem,simprocAttr,r4,r7,TS.pv];rw[aR]
  with_reducible refine Ba (K+2) (hT.up u19) ho (hS.up u19) ok h0 hp λlv h2 n2 u2 sl=>?_
  have e2:=u2.le;have r4:=(u2.old _ (show n+1<n1 by omega)).trans r4;have r7:=(u2.old _ (show n+2<n1 by omega)).trans r7;have u29:=u19.trans u2;have hlen:((C.iK party y.2.pos).map (·.1)).length<=1000000:=by
   have:=lW C party y.2.pos;have:=(ay.ok ok.con).iX;rw[List.length_map];omega
  cases ho':y.2.pos.own with
  |true=>
   simp (disch:=omega) only[go_sem,simprocAttr,r4,r7,TS.pv,ho'];rw[aR]
   with_reducible refine yC (K+11) sl hlen ?_
   by_cases hm:y.2.move∈(C.iK party y.2.pos).map (·.1)
   .rw[decide_eq_true hm]
    simp (disch:=omega) only[go_sem,simprocAttr,r4,r7,TS.pv,ho'];rw[aR];have s1:SL (h2.set n2 (.row 3 [.i .i64 y.2.move])) (n2+1) 1 (.sl n2 0 0 1 (some 1)) iw [y.2.move]:=(Gr.all (e:=3) (b:=n2) (c:=iw) (l:=[y.2.move]) (λ_=>rfl) (by omega) aF rfl).sl;have u3:Up h2 n2 (h2.set n2 (.row 3 [.i .i64 y.2.move])) (n2+1):=by exact aH
    have u39:=u29.trans u3
    with_reducible refine jN (K+11) s1 (by simp) (VZ (K+1) (λm hm'=>by simp at hm';subst hm';exact hm) ((u3.old _ (by omega)).trans r4) ((u3.old _ (by omega)).trans r7) (by omega) (by omega) (hT.up u39) ho (hS.up u39) ok) λb h4 n4 hb u4=>?_
    simp (disch:=omega) only[go_sem,simprocAttr];exact hQ _ _ _ (u39.trans u4) ⟨λe=>⟨hf,λ_=>⟨hm,Classical.byContradiction λhn=>(by rw[hb.2 ⟨_,by simp,hn⟩]at e;cases e)⟩,λe=>(by rw[ho']at e;cases e)⟩,λe=>by
     cases b with
     |false=>rfl
     |true=>
      obtain⟨m,hm,hn⟩:=hb.1 rfl;simp at hm;subst hm;exact absurd (e.2.1 ho').2 hn⟩
   .rw[decide_eq_false hm]
    simp (disch:=omega) only[go_sem,simprocAttr];exact hQ _ _ _ u29 ⟨λe=>(by cases e),λe=>absurd (e.2.1 ho').1 hm⟩
  |false=>
   simp (disch:=omega) only[go_sem,simprocAttr,r4,r7,TS.pv,ho'];rw[aR]
   with_reducible refine jN (K+11) sl hlen (VZ (K+1) (λ_ hm=>hm) r4 r7 (by omega) (by omega) (hT.up u29) ho (hS.up u29) ok) λb h3 n3 hb u3=>?_
   simp (disch:=omega) only[go_sem,simprocAttr];exact hQ _ _ _ (u29.trans u3) ⟨λe=>⟨hf,λe=>(by rw[ho']at e;cases e),λ_ m hm=>Classical.byContradiction λhn=>(by rw[hb.2 ⟨m,hm,hn⟩]at e;cases e)⟩,λe=>by
    cases b with
    |false=>rfl
    |true=>obtain⟨m,hm,hn⟩:=hb.1 rfl;exact absurd (e.2.2 ho' m hm) hn⟩
theorem Jb(K:Nat)(hQ:∀h' n',Up h n h' n'->Q (.i .i64 x) h' n'):CW (EF (K+1)) 334 [.agg [.i .i64 x,rv]] h n Q:=by
 refine aC aj2 rfl ?_;simp (disch:=omega) only[go_sem,simprocAttr,ac_];exact hQ _ _ aH
theorem Jc(K:Nat)(hQ:∀h' n',Up h n h' n'->Q (.i .i64 x) h' n'):CW (EF (K+1)) 321 [.agg [.i .i64 x,rv]] h n Q:=by
 refine aC ajR rfl ?_;simp (disch:=omega) only[go_sem,simprocAttr,ac1];exact hQ _ _ aH
theorem ME(K:Nat)(hR:iJ h n w rv c rs)(hQ:∀h' n',Up h n h' n'->Q (.i .i64 (rs.length:Nat)) h' n'):CW (EF (K+1)) 336 [.agg [.i .i64 x,rv]] h n Q:=by
 refine aC aj4 rfl ?_;simp (disch:=omega) only[go_sem,simprocAttr,adb,hR.sl.len];exact hQ _ _ aH
theorem MF(K:Nat)(hR:iJ h n w rv c rs)(hQ:∀h' n',Up h n h' n'->Q (.i .i64 (rs.length:Nat)) h' n'):CW (EF (K+1)) 323 [.agg [.i .i64 x,rv]] h n Q:=by
 refine aC ajT rfl ?_;simp (disch:=omega) only[go_sem,simprocAttr,ac3,hR.sl.len];exact hQ _ _ aH
theorem QB(K:Nat)(hR:iJ h n 7 rv Eo rs){i:Nat}{y:TS×dU}(hy:rs[i]?=some y)(hn:rs.length<=1000000)(hQ:∀h' n',Up h n h' n'->Q (.bJ [.agg (y.1.pv y.2.pos),.i .i64 y.2.rank]) h' n'):CW (EF (K+1)) 335 [.agg [.i .i64 x,rv],.i .i64 (i:Nat)] h n Q:=by
 have hi:=(List.getElem?_eq_some_iff.1 hy).1;obtain⟨b1,o1,y',i1,hy',hb1,rd⟩:=hR.sl.dL (k:=(i:Nat)) (by omega) (by omega) (by omega);rw[show((i:Nat):Int).toNat=i by omega,hy]at hy';cases hy'
 have r5:pG (h.get b1) o1 (some 5)=some (.agg (y.1.pv y.2.pos)):=rd.pre' 5 (by omega);refine aC aj3 rfl ?_;repeat' (first|(simp (disch:=omega) only[go_sem,simprocAttr,ada,aJ i1,i1,rd.el,rd.hd,r5,Eo,TS.pv])|(refine aS ?_ ?_<;>(intro hb hd;rw[hb];clear hb))|(with_reducible refine aj ?_))
 exact hQ _ _ aH
theorem QC(K:Nat)(hR:iJ h n 6 rv A_ rs){i:Nat}{y:TS×dU}(hy:rs[i]?=some y)(hn:rs.length<=1000000)(hQ:∀h' n',Up h n h' n'->Q (.bJ [.agg (y.1.pv y.2.pos),.i .i64 0]) h' n'):CW (EF (K+1)) 322 [.agg [.i .i64 x,rv],.i .i64 (i:Nat)] h n Q:=by
 have hi:=(List.getElem?_eq_some_iff.1 hy).1;obtain⟨b1,o1,y',i1,hy',hb1,rd⟩:=hR.sl.dL (k:=(i:Nat)) (by omega) (by omega) (by omega);rw[show((i:Nat):Int).toNat=i by omega,hy]at hy';cases hy'
 have r5:pG (h.get b1) o1 (some 5)=some (.agg (y.1.pv y.2.pos)):=rd.pre' 5 (by omega);refine aC ajS rfl ?_;repeat' (first|(simp (disch:=omega) only[go_sem,simprocAttr,ac2,aJ i1,i1,rd.el,rd.hd,r5,A_,TS.pv])|(refine aS ?_ ?_<;>(intro hb hd;rw[hb];clear hb))|(with_reducible refine aj ?_))
 exact hQ _ _ aH
end
end
end
section
noncomputable section
section
variable {P:Program} {Y:YT} {S:SK} {D:DK} {q:FuncId} {ty:TypeId} {x:MO} {nm:String} {cs:List MO} {v:AV} {c:List AV} {d:MD} {r:List MR} {l:List AV} {s:List It} {f:FT} {h:AH} {n:Nat} {F:Fm} {Q:PQ} {m:List MQ} {j i n0:Nat} {vs:List AV} {hs:List (Nat×AH)}
theorem zB(hx:ev x F l=some (.wI ty v))(hm:sW P ty nm=some q)(hc:evs cs F l=some c)(e:CW f q (v::c) h n λv h n=>mG S d v r l s f h n F Q):jP P Y S (.inv x nm cs) d r l s f h n F Q:=λt hF=>by
 obtain⟨v',h',n',e1,e2⟩:=e;exact⟨v',h',n',by simp only[MI.run,bf hF hx,qh hF hc,hm,aP,e1],e2⟩
theorem Je(hx:ev x F l=some (.wI ty v))(hm:sW P ty nm=some q)(hc:evs cs F l=some c)(e:CW f q (v::c) h n λv h n=>D m (j+1) i n0 f h n (v::vs) ((j+1,h)::hs) F):dX P Y D (.inv x nm cs) l m j i n0 f h n vs hs F:=λt hF=>by
 obtain⟨v',h',n',e1,e2⟩:=e;exact⟨v',h',n',by simp only[MI.run,bf hF hx,qh hF hc,hm,aP,e1],e2⟩
end
theorem RkT.add{C:ay}{L:List (List UInt8×AV)}{rows:List dU}(t:RkT C L rows){x:dU}(hx:aK C x.pos.st):
 (jD L (gG x.pos)=none\/(∃r:Int,jD L (gG x.pos)=some (.i .i64 r)/\x.rank<r)->RkT C (Ch L (gG x.pos) (.i .i64 x.rank)) (rows++[x]))/\((∃r:Int,jD L (gG x.pos)=some (.i .i64 r)/\¬x.rank<r)->RkT C L (rows++[x])):=by
 constructor
 .intro h q hq
  rw[lU];by_cases e:gG q=gG x.pos
  .rw[if_pos e]
   have e2:=KG hq hx e;refine⟨x.rank,rfl,⟨x,by simp,e2.symm,rfl⟩,λy hy hyq=>?_⟩;rcases List.mem_append.1 hy with hy|hy
   .have:=t q hq
    rw[e]at this;rcases h with h|⟨r,h,hr⟩
    .rw[h]at this;exact absurd hyq (this y hy)
    .rw[h]at this
     obtain⟨r',e1,_,e3⟩:=this;cases e1
     have:=e3 y hy hyq;omega
   .simp at hy;subst hy;omega
  .rw[if_neg e]
   have:=t q hq;have hn:x.pos≠q:=λk=>e (by rw[k]);cases ha:jD L (gG q)with
   |none=>
    rw[ha]at this;intro y hy;rcases List.mem_append.1 hy with hy|hy
    .exact this y hy
    .simp at hy;subst hy;exact hn
   |some a=>
    rw[ha]at this;obtain⟨r,e1,⟨y,e2,e3,e4⟩,e5⟩:=this;refine⟨r,e1,⟨y,by simp[e2],e3,e4⟩,λz hz hzq=>?_⟩;rcases List.mem_append.1 hz with hz|hz
    .exact e5 z hz hzq
    .simp at hz;subst hz;exact absurd hzq hn
 .rintro⟨r0,h,hr⟩ q hq
  have:=t q hq;cases ha:jD L (gG q)with
  |none=>
   rw[ha]at this;intro y hy;rcases List.mem_append.1 hy with hy|hy
   .exact this y hy
   .simp at hy;subst hy;intro k;rw[<-k,h]at ha;cases ha
  |some a=>
   rw[ha]at this;obtain⟨r,e1,⟨y,e2,e3,e4⟩,e5⟩:=this;refine⟨r,e1,⟨y,by simp[e2],e3,e4⟩,λz hz hzq=>?_⟩;rcases List.mem_append.1 hz with hz|hz
   .exact e5 z hz hzq
   .simp at hz;subst hz
    rw[<-hzq,h]at ha;cases ha;cases e1;omega
structure Prf(K:Nat)(ty:TypeId)(d:AV)(A:HP)(v:CS)(C:ay)(party:Int)(rs:List (TS×dU))(R:List dU->dU->Prop) where
 f1:FuncId
 f2:FuncId
 f3:FuncId
 f4:FuncId
 m1:sW Tryz.prog ty "estoppel/witness.party"=some f1
 m2:sW Tryz.prog ty "estoppel/witness.size"=some f2
 m3:sW Tryz.prog ty "estoppel/witness.row"=some f3
 m4:sW Tryz.prog ty "estoppel/witness.holds"=some f4
 up:∀h n h' n',A h n->Up h n h' n'->A h' n'
 st:∀h n,A h n->∀x∈rs,bI h n x.1 x.2.pos.st
 pa:∀h n (Q:AV->AH->Nat->Prop),A h n->(∀h' n',Up h n h' n'->Q (.i .i64 party) h' n')->CW (EF K) f1 [d] h n Q
 sz:∀h n (Q:AV->AH->Nat->Prop),A h n->(∀h' n',Up h n h' n'->Q (.i .i64 (rs.length:Nat)) h' n')->CW (EF K) f2 [d] h n Q
 ro:∀h n (Q:AV->AH->Nat->Prop)(i:Nat)(y:TS×dU),A h n->rs[i]?=some y->rs.length<=1500->(∀h' n',Up h n h' n'->Q (.bJ [.agg (y.1.pv y.2.pos),.i .i64 y.2.rank]) h' n')->CW (EF K) f3 [d,.i .i64 (i:Nat)] h n Q
 ho:∀h n (Q:AV->AH->Nat->Prop)(i tb:Nat)(y:TS×dU),A h n->rs[i]?=some y->rs.length<=1500->yT h n tb 224 v C party (rs.map (·.2))->aK C y.2.pos.st->0<=party->party<C.aD->(∀b h' n',Up h n h' n'->(b=true↔R (rs.map (·.2)) y.2)->Q (.b b) h' n')->CW (EF K) f4 [d,.p tb 0,.i .i64 (i:Nat)] h n Q
section
variable {h h':AH} {n n':Nat} {v:CS} {C:ay} {party:Int} {rs:List (TS×dU)} {Q:AV->AH->Nat->Prop} {R:List dU->dU->Prop} {ty:TypeId} {d:AV} {A:HP}
theorem Gb(K:Nat)(P:Prf (K+14) ty d A v C party rs R)(hA:A h n)(hC:aY h n v C)(ho:C.off.length<=1000000)(hl:rs.length<=1000000)
 (hQ:∀b h' n',Up h n h' n'->(b=true↔LM C party R (rs.map (·.2)))->Q (.b b) h' n'):CW (EF (K+15)) 40 [.agg (v.av C),.wI ty d] h n Q:=by
 refine aC c58 rfl ?_;simp (disch:=omega) only[go_sem,simprocAttr,m58,CS.av]
 with_reducible refine aj ?_
 simp (disch:=omega) only[go_sem,simprocAttr,CS.av]
 with_reducible refine Je rfl P.m1 rfl (P.pa _ _ _ (P.up _ _ _ _ hA aH) λh1 n1 u1=>?_)
 have r0:h1.get n=some (.row 27 (v.av C)):=by rw[u1.old n (by omega)];simp (disch:=omega) only[go_sem]
 have e1:=u1.le;simp (disch:=omega) only[go_sem,simprocAttr,r0,CS.av];generalize hh:Tr.set (Tr.set h1 (n+1) _) (n+1+1) _=h2;have u2:Up h n h2 n1:=by rw[<-hh];exact aH
 have c0:h2.get n=some (.row 27 (v.av C)):=by rw[<-hh,au (by omega),au (by omega)];exact r0
 have c1:qK h2 (n+1) AV.s ([]:List (List UInt8×AV)):=by rw[<-hh];exact(qK.new _).on (au (by omega))
 have c2:h2.get (n+1+1)=some (.row 224 [.i .i64 C.aD,v.h,v.u,v.a,v.k,.i .i64 C.days,v.o,.i .i64 party,.m (n+1)]):=by rw[<-hh];exact aF
 clear hh r0 u1
 with_reducible refine aj ?_
 have bad:∀h' n',Up h n h' n'->¬LM C party R (rs.map (·.2))->Q (.b false) h' n':=λh' n' u e=>hQ false _ _ u ⟨λe=>(by cases e),λk=>absurd k e⟩;by_cases h0:party<0
 .simp (disch:=omega) only[go_sem,simprocAttr,c0,c2,CS.av,decide_eq_true h0]
  exact bad _ _ u2 λe=>by have:=e.p0;omega
 by_cases hp:C.aD<=party
 .simp (disch:=omega) only[go_sem,simprocAttr,c0,c2,CS.av,decide_eq_false h0,decide_eq_true hp]
  exact bad _ _ u2 λe=>by have:=e.p1;omega
 simp (disch:=omega) only[go_sem,simprocAttr,c0,c2,CS.av,decide_eq_false h0,decide_eq_false hp]
 with_reducible refine Je rfl P.m2 rfl (P.sz _ _ _ (P.up _ _ _ _ hA u2) λh3 n3 u3=>?_)
 have e3:=u3.le;by_cases hs:(rs.length:Int)<1
 .simp (disch:=omega) only[go_sem,simprocAttr,decide_eq_true hs]
  exact bad _ _ (u2.trans u3) λe=>by have:=e.l0;rw[List.length_map]at this;omega
 simp (disch:=omega) only[go_sem,simprocAttr,decide_eq_false hs]
 with_reducible refine Je rfl P.m2 rfl (P.sz _ _ _ (P.up _ _ _ _ hA (u2.trans u3)) λh4 n4 u4=>?_)
 have e4:=u4.le;by_cases hb:(1500:Int)<rs.length
 .simp (disch:=omega) only[go_sem,simprocAttr,decide_eq_true hb]
  exact bad _ _ ((u2.trans u3).trans u4) λe=>by have:=e.l1;rw[List.length_map]at this;omega
 simp (disch:=omega) only[go_sem,simprocAttr,decide_eq_false hb]
 with_reducible refine zB rfl P.m2 rfl (P.sz _ _ _ (P.up _ _ _ _ hA ((u2.trans u3).trans u4)) λh5 n5 u5=>?_)
 have e5:=u5.le;have u25:=(u3.trans u4).trans u5;have c0:=(u25.old n (by omega)).trans c0;have c1:=c1.on (u25.old (n+1) (by omega));have c2:=(u25.old (n+1+1) (by omega)).trans c2;have uh5:=u2.trans u25;simp (disch:=omega) only[go_sem,simprocAttr];refine bP rs.length (λk h' n' G=>∃L,Up h n h' n'/\n1<=n'/\h'.get n=some (.row 27 (v.av C))/\qK h' (n+1) AV.s L/\h'.get (n+1+1)=some (.row 224 [.i .i64 C.aD,v.h,v.u,v.a,v.k,.i .i64 C.days,v.o,.i .i64 party,.m (n+1)])/\RkT C L ((rs.map (·.2)).take k)/\(∀x∈(rs.map (·.2)).take k,C.dB x.pos.st=true)/\G=[(1,.wI ty d),(2,.p n 0),(5,.p (n+1+1) 0)]) (by omega) (by omega) (by omega) (by omega) (λk h8 n8 G ⟨_,_,_,_,_,_,_,_,e⟩=>by subst e;exact⟨rfl,rfl⟩) ⟨rfl,rfl,_,⟨[],uh5,by omega,c0,c1,c2,λq _ x hx=>by simp at hx,λx hx=>by simp at hx,rfl⟩,by(repeat' (first|exact aO|refine aM rfl ?_))⟩ ?_ ?_
 .rintro k h6 n6 G hk ⟨L,u6,l6,d0,d1,d2,d3,d4,rfl⟩
  obtain⟨y,hy⟩:∃y,rs[k]?=some y:=⟨rs[k]'hk,List.getElem?_eq_some_iff.2 ⟨hk,rfl⟩⟩;have hym:(rs.map (·.2))[k]?=some y.2:=by rw[List.getElem?_map,hy];rfl
  simp (disch:=omega) only[go_sem,simprocAttr]
  with_reducible refine zB rfl P.m3 rfl (P.ro _ _ _ k y (P.up _ _ _ _ hA u6) hy (by omega) λh7 n7 u7=>?_)
  have e7:=u7.le;have u67:=u6.trans u7;have d0:=(u7.old n (by omega)).trans d0;simp (disch:=omega) only[go_sem,simprocAttr,d0,CS.av,TS.pv];generalize hh:Tr.set (Tr.set h7 n7 _) n7 _=h8;have u8:Up h7 n7 h8 (n7+1):=by rw[<-hh];exact aH
  have q8:h8.get n7=some (.row 114 (y.1.pv y.2.pos)):=by rw[<-hh];exact aF
  clear hh;have u68:=u67.trans u8;have hS:=P.st _ _ (P.up _ _ _ _ hA u68) y (List.mem_of_getElem? hy);rw[aR]
  with_reducible refine gJ (K+7) (hC.up u68) ho hS λh9 n9 u9=>?_
  have e9:=u9.le;have u69:=u68.trans u9;have q9:=(u9.old n7 (by omega)).trans q8;cases hv:C.dB y.2.pos.st with
  |false=>
   simp (disch:=omega) only[go_sem,simprocAttr];exact bad _ _ u69 λe=>by have:=e.ok y.2 (List.mem_of_getElem? hym);rw[hv]at this;cases this
  |true=>
   have ok:=(bR C y.2.pos.st).1 hv;simp (disch:=omega) only[go_sem,simprocAttr,q9,TS.pv];rw[aR]
   with_reducible refine F7 (K+8) (hS.up u9) (ok.pb _) λh10 n10 rT=>?_
   have e10:=rT.le;have u7x:=(u7.trans u8).trans (u9.trans rT);have ux:Up h n h10 n10:=u6.trans u7x;have f0:=((u8.trans (u9.trans rT)).old n (by omega)).trans d0;have f1:=d1.on (u7x.old (n+1) (by omega));have f2:=(u7x.old (n+1+1) (by omega)).trans d2;have AY:=f1.look (k:=gG y.2.pos) FZ (z:=some (.i .i64 0)) (ok:=true) rfl;have tk:(rs.map (·.2)).take (k+1)=(rs.map (·.2)).take k++[y.2]:=by rw[List.take_add_one,hym];rfl
   have hok:∀x∈(rs.map (·.2)).take (k+1),C.dB x.pos.st=true:=λx hx=>by
    rw[tk]at hx;rcases List.mem_append.1 hx with hx|hx
    .exact d4 x hx
    .simp at hx;subst hx;exact hv
   obtain⟨t1,t2⟩:=d3.add ok;rw[<-tk]at t1 t2;have put:jD L (gG y.2.pos)=none\/(∃r:Int,jD L (gG y.2.pos)=some (.i .i64 r)/\y.2.rank<r)->∃ob,CU (su Tryz.prog 30 9) (yX Tryz.prog 30 9) h10 n10 (.m (n+1)) (.s (gG y.2.pos)) (.i .i64 y.2.rank)= .ok (.bJ []) (h10.set (n+1) ob) n10/\qK (h10.set (n+1) ob) (n+1) AV.s (Ch L (gG y.2.pos) (.i .i64 y.2.rank)):=λ_=>by
    obtain⟨ob,m1,m2⟩:=f1.put (k:=gG y.2.pos) (n:=n10) FZ (.i .i64 y.2.rank);exact⟨ob,m1,m2⟩
   have Oo:∀ob,qK (h10.set (n+1) ob) (n+1) AV.s (Ch L (gG y.2.pos) (.i .i64 y.2.rank))->Up h n (h10.set (n+1) ob) n10/\(h10.set (n+1) ob).get n=some (.row 27 (v.av C))/\(h10.set (n+1) ob).get (n+1+1)=some (.row 224 [.i .i64 C.aD,v.h,v.u,v.a,v.k,.i .i64 C.days,v.o,.i .i64 party,.m (n+1)]):=λob _=>⟨Up.st ux _ _ (by omega),by rw[au (by omega)];exact f0,by rw[au (by omega)];exact f2⟩;have hd3:=d3 y.2.pos ok;cases ha:jD L (gG y.2.pos)with
   |none=>
    rw[ha]at AY;obtain⟨ob,m1,m2⟩:=put (.inl ha);obtain⟨g1,g2,g3⟩:=Oo ob m2;simp only[bD]at AY;simp (disch:=omega) only[go_sem,simprocAttr,f2,AY,m1];exact⟨rfl,rfl,_,⟨_,g1,by omega,g2,m2,g3,t1 (.inl ha),hok,rfl⟩,by(repeat' (first|exact aO|refine aM rfl ?_))⟩
   |some a=>
    rw[ha]at AY hd3;obtain⟨r,rfl,_⟩:=hd3;simp only[bD]at AY;by_cases hr:y.2.rank<r
    .obtain⟨ob,m1,m2⟩:=put (.inr ⟨r,ha,hr⟩)
     obtain⟨g1,g2,g3⟩:=Oo ob m2;simp (disch:=omega) only[go_sem,simprocAttr,f2,AY,decide_eq_true hr,m1];exact⟨rfl,rfl,_,⟨_,g1,by omega,g2,m2,g3,t1 (.inr ⟨r,ha,hr⟩),hok,rfl⟩,by(repeat' (first|exact aO|refine aM rfl ?_))⟩
    .simp (disch:=omega) only[go_sem,simprocAttr,f2,AY,decide_eq_false hr]
     exact⟨rfl,rfl,_,⟨_,ux,by omega,f0,f1,f2,t2 ⟨r,ha,hr⟩,hok,rfl⟩,by(repeat' (first|exact aO|refine aM rfl ?_))⟩
 .rintro h6 n6 G ⟨L,u6,l6,d0,d1,d2,d3,d4,rfl⟩
  rw[<-List.length_map (f:=(·.2)),List.take_length]at d3 d4;simp (disch:=omega) only[go_sem,simprocAttr]
  with_reducible refine zB rfl P.m2 rfl (P.sz _ _ _ (P.up _ _ _ _ hA u6) λh7 n7 u7=>?_)
  have e7:=u7.le;have u67:=u6.trans u7;have tb7:yT h7 n7 (n+1+1) 224 v C party (rs.map (·.2)):=⟨⟨n+1,L,(u7.old _ (by omega)).trans d2,d1.on (u7.old _ (by omega)),by omega,d3⟩,by omega,hC.up u67⟩;simp (disch:=omega) only[go_sem,simprocAttr];refine bP rs.length (λk h' n' G=>Up h7 n7 h' n'/\(∀x∈(rs.map (·.2)).take k,R (rs.map (·.2)) x)/\G=[(1,.wI ty d),(5,.p (n+1+1) 0)]) (by omega) (by omega) (by omega) (by omega) (λk h8 n8 G ⟨_,_,e⟩=>by subst e;exact⟨rfl,rfl⟩) ⟨rfl,rfl,_,⟨Up.refl _ _,λx hx=>by simp at hx,rfl⟩,by(repeat' (first|exact aO|refine aM rfl ?_))⟩ ?_ ?_
  .rintro k h8 n8 G hk ⟨u8,hx,rfl⟩
   obtain⟨y,hy⟩:∃y,rs[k]?=some y:=⟨rs[k]'hk,List.getElem?_eq_some_iff.2 ⟨hk,rfl⟩⟩;have hym:(rs.map (·.2))[k]?=some y.2:=by rw[List.getElem?_map,hy];rfl
   have ok:=(bR C y.2.pos.st).1 (d4 _ (List.mem_of_getElem? hym));simp (disch:=omega) only[go_sem,simprocAttr]
   with_reducible refine zB rfl P.m4 rfl (P.ho _ _ _ k _ y (P.up _ _ _ _ hA (u67.trans u8)) hy (by omega) (tb7.up u8) ok (by omega) (by omega) λb h9 n9 u9 hb=>?_)
   cases b with
   |false=>
    simp (disch:=omega) only[go_sem,simprocAttr];exact bad _ _ ((u67.trans u8).trans u9) λe=>by cases hb.2 (e.row y.2 (List.mem_of_getElem? hym))
   |true=>
    simp (disch:=omega) only[go_sem,simprocAttr];refine⟨rfl,rfl,_,⟨u8.trans u9,λx hx'=>?_,rfl⟩,by(repeat' (first|exact aO|refine aM rfl ?_))⟩;rw[List.take_add_one,hym]at hx';rcases List.mem_append.1 hx' with hx'|hx'
    .exact hx x hx'
    .simp at hx';subst hx';exact hb.1 rfl
  .rintro h8 n8 G ⟨u8,hx,rfl⟩
   rw[<-List.length_map (f:=(·.2)),List.take_length]at hx;simp (disch:=omega) only[go_sem,simprocAttr];exact hQ true _ _ (u67.trans u8) ⟨λ_=>⟨by omega,by omega,by rw[List.length_map];omega,by rw[List.length_map];omega,d4,hx⟩,λ_=>rfl⟩
def adr(K:Nat)(rv:AV)(v:CS)(C:ay)(party:Int)(rs:List (TS×dU))(ho:C.off.length<=1000000):Prf (K+14) 348 (.agg [.i .i64 party,rv]) (λh n=>iJ h n 7 rv Eo rs) v C party rs (FC C party) where
 f1:=334
 f2:=336
 f3:=335
 f4:=333
 m1:=by kernel_rfl
 m2:=by kernel_rfl
 m3:=by kernel_rfl
 m4:=by kernel_rfl
 up:=λ_ _ _ _ a u=>a.up u
 st:=λ_ _ a x hx=>a.st x hx
 pa:=λ_ _ _ _ q=>Jb (K+13) q
 sz:=λ_ _ _ a q=>ME (K+13) a q
 ro:=λ_ _ _ i y a hy hl q=>QB (K+13) a hy (by omega) q
 ho:=λ_ _ _ i tb y a hy hl t ok h0 hp q=>I_ K rfl a hy (by omega) t ho ok h0 hp q
def ads(K:Nat)(rv:AV)(v:CS)(C:ay)(party:Int)(rs:List (TS×dU))(ho:C.off.length<=1000000)(hz:∀x∈rs,x.2.rank=0):Prf (K+14) 135 (.agg [.i .i64 party,rv]) (λh n=>iJ h n 6 rv A_ rs) v C party rs (Pj C party) where
 f1:=321
 f2:=323
 f3:=322
 f4:=320
 m1:=by kernel_rfl
 m2:=by kernel_rfl
 m3:=by kernel_rfl
 m4:=by kernel_rfl
 up:=λ_ _ _ _ a u=>a.up u
 st:=λ_ _ a x hx=>a.st x hx
 pa:=λ_ _ _ _ q=>Jc (K+13) q
 sz:=λ_ _ _ a q=>MF (K+13) a q
 ro:=λ_ _ _ i y a hy hl q=>QC (K+13) a hy (by omega) (by rw[hz y (List.mem_of_getElem? hy)]at q;exact q)
 ho:=λ_ _ _ i tb y a hy hl t ok h0 hp q=>Ja K rfl a hy (by omega) t ho ok h0 hp q
theorem Ep(K:Nat){rv:AV}(hR:iJ h n 7 rv Eo rs)(hC:aY h n v C)(ho:C.off.length<=1000000)(hl:rs.length<=1000000)
 (hQ:∀b h' n',Up h n h' n'->(b=true↔LM C party (FC C party) (rs.map (·.2)))->Q (.b b) h' n'):CW (EF (K+16)) 125 [.agg (v.av C),.agg [.i .i64 party,rv]] h n Q:=by
 refine aC c25 rfl ?_;simp (disch:=omega) only[go_sem,simprocAttr,m25,CS.av];generalize hh:Tr.set (Tr.set h n _) _ _=h1;have u1:Up h n h1 (n+2):=by rw[<-hh];exact aH
 clear hh;rw[aR]
 with_reducible refine Gb K (adr K rv v C party rs ho) (hR.up u1) (hC.up u1) ho hl λb h2 n2 u2 hb=>?_
 simp (disch:=omega) only[go_sem,simprocAttr];exact hQ _ _ _ (u1.trans u2) hb
theorem Bb(K:Nat){rv:AV}(hR:iJ h n 6 rv A_ rs)(hz:∀x∈rs,x.2.rank=0)(hC:aY h n v C)(ho:C.off.length<=1000000)(hl:rs.length<=1000000)
 (hQ:∀b h' n',Up h n h' n'->(b=true↔LM C party (Pj C party) (rs.map (·.2)))->Q (.b b) h' n'):CW (EF (K+16)) 17 [.agg (v.av C),.agg [.i .i64 party,rv]] h n Q:=by
 refine aC c22 rfl ?_;simp (disch:=omega) only[go_sem,simprocAttr,m22,CS.av];generalize hh:Tr.set (Tr.set h n _) _ _=h1;have u1:Up h n h1 (n+2):=by rw[<-hh];exact aH
 clear hh;rw[aR]
 with_reducible refine Gb K (ads K rv v C party rs ho hz) (hR.up u1) (hC.up u1) ho hl λb h2 n2 u2 hb=>?_
 simp (disch:=omega) only[go_sem,simprocAttr];exact hQ _ _ _ (u1.trans u2) hb
end
end
end
section
noncomputable section
set_option maxRecDepth 1000000
set_option maxHeartbeats 4000000
def m90:MC:=vF 65
def c90:=vT 65 m90
def m61:MC:=vF 86
def c61:=vT 86 m61
def adt:MC:=vF 145
def akn:=vT 145 adt
def m62:MC:=vF 87
def c62:=vT 87 m62
def Za:MC:=vF 147
def c116:=vT 147 Za
def adw:MC:=vF 115
def ako:=vT 115 adw
def adx:MC:=vF 182
def akp:=vT 182 adx
def Zb:MC:=vF 183
def c193:=vT 183 Zb
def m34:MC:=vF 42
def c34:=vT 42 m34
def QD:MC:=vB 42 (gW 42 0)
def Zc:=vU 42 (gW 42 0) QD
def QE:MC:=vB 42 (gX 42 0)
def Zd:=vU 42 (gX 42 0) QE
def m33:MC:=vF 30
def c33:=vT 30 m33
def m31:MC:=vF 27
def c31:=vT 27 m31
def m32:MC:=vF 41
def c32:=vT 41 m32
def m60:MC:=vF 85
def c60:=vT 85 m60
def Gc:MC:=vF 144
def akt:=vT 144 Gc
def ady:MC:=vF 141
def aku:=vT 141 ady
def adz:MC:=vF 142
def akv:=vT 142 adz
def adA:MC:=vF 226
def akw:=vT 226 adA
def adB:MC:=vF 143
def akx:=vT 143 adB
def m10:MC:=vF 19
def c10:=vT 19 m10
def m35:MC:=vF 37
def c35:=vT 37 m35
def m36:MC:=vF 38
def c36:=vT 38 m36
def m65:MC:=vF 75
def c65:=vT 75 m65
def m37:MC:=vF 39
def c37:=vT 39 m37
def m11:MC:=vF 16
def c11:=vT 16 m11
def Jf:MC:=vB 16 (gW 16 0)
def QF:=vU 16 (gW 16 0) Jf
def Jg:MC:=vB 16 (gX 16 0)
def QG:=vU 16 (gX 16 0) Jg
end
end
section
noncomputable section
theorem V3:FM 23:=⟨λ_ _ _ _ _=>by kernel_rfl,λ_ _=>by kernel_rfl,by kernel_rfl⟩
theorem V4:FM 24:=⟨λ_ _ _ _ _=>by kernel_rfl,λ_ _=>by kernel_rfl,by kernel_rfl⟩
theorem adC:FM 25:=⟨λ_ _ _ _ _=>by kernel_rfl,λ_ _=>by kernel_rfl,by kernel_rfl⟩
theorem QH:FM 120:=⟨λ_ _ _ _ _=>by kernel_rfl,λ_ _=>by kernel_rfl,by kernel_rfl⟩
theorem k68:yc Tryz.prog sl0 79=some ([true],mK 23 159 5,[(.t 2)]):=by kernel_rfl
theorem k69:yc Tryz.prog sl0 80=some ([true],mK 24 161 7,[(.t 2)]):=by kernel_rfl
theorem k70:yc Tryz.prog sl0 81=some ([true],mK 25 122 16,[(.t 2)]):=by kernel_rfl
theorem k71:yc Tryz.prog sl0 82=some ([true],mK 120 217 2,[(.t 2)]):=by kernel_rfl
theorem Gd{α:Type}{c:α->List AV}{w:Nat}(hw:∀a,(c a).length=w){l:List α}{i j:Nat}{a a':α}{y:AV}(hi:l[i]?=some a)(hj:j<w)(hy:c a'=(c a).set j y):st1 (i*w+j) y (l.flatMap c)=some ((l.set i a').flatMap c):=by
 have hl:=(List.getElem?_eq_some_iff.1 hi).1;have h1:=vM hw l i a' hl;have hm5:(i+1)*w<=l.length*w:=Nat.mul_le_mul_right w hl;rw[Nat.succ_mul]at hm5;have hfl:(l.flatMap c).length=l.length*w:=bN hw l;have hat:((l.flatMap c).drop (i*w)).take w=c a:=ou hw hi;rw[<-h1,uh];unfold pI;rw[if_pos (by rw[hfl];show i*w+j+1<=_;omega),if_pos (by rw[hfl,hw];omega)];congr 1;rw[hy];generalize hL:l.flatMap c=L at*;have FN:(c a).length=w:=hw a;have hsplit:L=L.take (i*w)++(c a++L.drop (i*w+w)):=by
  rw[<-hat,<-List.drop_drop,List.take_append_drop,List.take_append_drop]
 rw[List.length_set,FN];show L.take (i*w+j)++y::L.drop (i*w+j+1)=L.take (i*w)++((c a).set j y++L.drop (i*w+w));have e1:L.set (i*w+j) y=L.take (i*w+j)++y::L.drop (i*w+j+1):=by rw[List.set_eq_take_append_cons_drop,if_pos (by omega)]
 rw[<-e1];have e2:(L.take (i*w)++(c a++L.drop (i*w+w))).set (i*w+j) y=L.take (i*w)++((c a).set j y++L.drop (i*w+w)):=by
  rw[List.set_append,List.length_take,Nat.min_eq_left (by omega),if_neg (by omega),List.set_append,show i*w+j - i*w=j by omega,if_pos (by rw[FN];omega)]
 rw[<-e2,<-hsplit]
abbrev Er(p:aG×AV):List AV:=p.1.av p.2
section
variable {h h':AH} {n n':Nat} {v:CS} {C:ay} {Q:AV->AH->Nat->Prop}
theorem Et(K:Nat)(hC:aY h n v C)(ok:C.Ok)(ho:C.off.length<=1000000)(hu:C.units.length<=1000000)
 (hQ:∀v' h' n',Up h n h' n'->Kp (λx=>x<n) h' n' (λh n=>aY h n v' C)->Q (.agg (v'.av C)) h' n'):CW (EF (K+2)) 39 [.agg (v.av C)] h n Q:=by
 have:=ok.dJ;have:=ok.iX;have:=ok.jm;obtain⟨ss,hs1,hs2,hs3⟩:=hC.clauses;have hz:(C.clauses.zip ss).length=C.clauses.length:=by simp[hs1]
 have hk:SL h n 16 v.k Er (C.clauses.zip ss):=⟨λ_=>rfl,by rw[hz];exact hs2⟩;refine aC c37 rfl ?_;repeat' (first|(simp (disch:=omega) only[go_sem,simprocAttr,ub.old,m37,CS.av])|(simp (disch:=omega) only[go_sem,simprocAttr,m37,CS.av])|(refine aS ?_ ?_<;>(intro hb hd;rw[hb];clear hb))|(with_reducible refine aj ?_))
 generalize hh:Tr.set (Tr.set h n _) (n+1) _=h1;have u1:Up h n h1 (n+2):=by rw[<-hh];exact aH
 have q1:h1.get n=some (.row 27 (v.av C)):=by rw[<-hh];simp (disch:=omega) only[go_sem]
 have p1:h1.get (n+1)=some (.row 27 [.i .i64 0,.k 1,.k 1,.k 1,.k 1,.i .i64 0,.k 1]):=by rw[<-hh];simp (disch:=omega) only[go_sem]
 clear hh;have ux1:=u1;rw[aR];refine eU Yk AA _ (hC.ah.up ux1) (by omega) λv2 h2 n2 u2 g2 b2 x2=>?_;have e2:=u2.le;have q2:=(u2.old n (by omega)).trans q1;have p2:=(u2.old (n+1) (by omega)).trans p1;simp (disch:=omega) only[go_sem,simprocAttr,g2.cl,q2,CS.av];have EJ:=(g2.sl.kp (X:=λx=>x<n+2) λx hx=>by have:=b2 x hx;omega).set (b:=n) (o:=.row 27 [.i .i64 C.aD,v2,v.u,v.a,v.k,.i .i64 C.days,v.o]) (.inl (by omega)) (Nat.le_refl _);have wz:Up h n (h2.set n (.row 27 [.i .i64 C.aD,v2,v.u,v.a,v.k,.i .i64 C.days,v.o])) n2:=Up.st (ux1.trans u2) _ _ (Nat.le_refl _);replace q2:(h2.set n (.row 27 [.i .i64 C.aD,v2,v.u,v.a,v.k,.i .i64 C.days,v.o])).get n=some (.row 27 [.i .i64 C.aD,v2,v.u,v.a,v.k,.i .i64 C.days,v.o]):=aF;replace p2:(h2.set n (.row 27 [.i .i64 C.aD,v2,v.u,v.a,v.k,.i .i64 C.days,v.o])).get (n+1)=some (.row 27 [.i .i64 0,.k 1,.k 1,.k 1,.k 1,.i .i64 0,.k 1]):=by rw[au (by omega)];exact p2
 generalize Tr.set h2 n _=h2a at*;rw[aR];refine eU k68 V3 _ (hC.units.up wz) (hu) λv3 h3 n3 u3 g3 b3 x3=>?_;have e3:=u3.le;have q3:=(u3.old n (by omega)).trans q2;have p3:=(u3.old (n+1) (by omega)).trans p2;simp (disch:=omega) only[go_sem,simprocAttr,g3.cl,q3,CS.av];have EJ:=(EJ.up u3).set (b:=n) (o:=.row 27 [.i .i64 C.aD,v2,v3,v.a,v.k,.i .i64 C.days,v.o]) (.inl (by omega)) (Nat.le_refl _);have KQ:=(g3.sl.kp (X:=λx=>x<n+2) λx hx=>by have:=b3 x hx;omega).set (b:=n) (o:=.row 27 [.i .i64 C.aD,v2,v3,v.a,v.k,.i .i64 C.days,v.o]) (.inl (by omega)) (Nat.le_refl _);have rR:Up h n (h3.set n (.row 27 [.i .i64 C.aD,v2,v3,v.a,v.k,.i .i64 C.days,v.o])) n3:=Up.st (wz.trans u3) _ _ (Nat.le_refl _);replace q3:(h3.set n (.row 27 [.i .i64 C.aD,v2,v3,v.a,v.k,.i .i64 C.days,v.o])).get n=some (.row 27 [.i .i64 C.aD,v2,v3,v.a,v.k,.i .i64 C.days,v.o]):=aF;replace p3:(h3.set n (.row 27 [.i .i64 C.aD,v2,v3,v.a,v.k,.i .i64 C.days,v.o])).get (n+1)=some (.row 27 [.i .i64 0,.k 1,.k 1,.k 1,.k 1,.i .i64 0,.k 1]):=by rw[au (by omega)];exact p3
 generalize Tr.set h3 n _=h3a at*;rw[aR];refine eU k69 V4 _ (hC.acts.up rR) (by omega) λv4 h4 n4 u4 g4 b4 x4=>?_;have e4:=u4.le;have q4:=(u4.old n (by omega)).trans q3;have p4:=(u4.old (n+1) (by omega)).trans p3;simp (disch:=omega) only[go_sem,simprocAttr,g4.cl,q4,CS.av];have EJ:=(EJ.up u4).set (b:=n) (o:=.row 27 [.i .i64 C.aD,v2,v3,v4,v.k,.i .i64 C.days,v.o]) (.inl (by omega)) (Nat.le_refl _);have KQ:=(KQ.up u4).set (b:=n) (o:=.row 27 [.i .i64 C.aD,v2,v3,v4,v.k,.i .i64 C.days,v.o]) (.inl (by omega)) (Nat.le_refl _);have RQ:=(g4.sl.kp (X:=λx=>x<n+2) λx hx=>by have:=b4 x hx;omega).set (b:=n) (o:=.row 27 [.i .i64 C.aD,v2,v3,v4,v.k,.i .i64 C.days,v.o]) (.inl (by omega)) (Nat.le_refl _);have Ze:Up h n (h4.set n (.row 27 [.i .i64 C.aD,v2,v3,v4,v.k,.i .i64 C.days,v.o])) n4:=Up.st (rR.trans u4) _ _ (Nat.le_refl _);replace q4:(h4.set n (.row 27 [.i .i64 C.aD,v2,v3,v4,v.k,.i .i64 C.days,v.o])).get n=some (.row 27 [.i .i64 C.aD,v2,v3,v4,v.k,.i .i64 C.days,v.o]):=aF;replace p4:(h4.set n (.row 27 [.i .i64 C.aD,v2,v3,v4,v.k,.i .i64 C.days,v.o])).get (n+1)=some (.row 27 [.i .i64 0,.k 1,.k 1,.k 1,.k 1,.i .i64 0,.k 1]):=by rw[au (by omega)];exact p4
 generalize Tr.set h4 n _=h4a at*;rw[aR];refine eU Yk AA _ (hC.off.up Ze) (ho) λv5 h5 n5 u5 g5 b5 x5=>?_;have e5:=u5.le;have q5:=(u5.old n (by omega)).trans q4;have p5:=(u5.old (n+1) (by omega)).trans p4;simp (disch:=omega) only[go_sem,simprocAttr,g5.cl,q5,CS.av];have EJ:=(EJ.up u5).set (b:=n) (o:=.row 27 [.i .i64 C.aD,v2,v3,v4,v.k,.i .i64 C.days,v5]) (.inl (by omega)) (Nat.le_refl _);have KQ:=(KQ.up u5).set (b:=n) (o:=.row 27 [.i .i64 C.aD,v2,v3,v4,v.k,.i .i64 C.days,v5]) (.inl (by omega)) (Nat.le_refl _);have RQ:=(RQ.up u5).set (b:=n) (o:=.row 27 [.i .i64 C.aD,v2,v3,v4,v.k,.i .i64 C.days,v5]) (.inl (by omega)) (Nat.le_refl _);have kk5:=(g5.sl.kp (X:=λx=>x<n+2) λx hx=>by have:=b5 x hx;omega).set (b:=n) (o:=.row 27 [.i .i64 C.aD,v2,v3,v4,v.k,.i .i64 C.days,v5]) (.inl (by omega)) (Nat.le_refl _);have GH:Up h n (h5.set n (.row 27 [.i .i64 C.aD,v2,v3,v4,v.k,.i .i64 C.days,v5])) n5:=Up.st (Ze.trans u5) _ _ (Nat.le_refl _);replace q5:(h5.set n (.row 27 [.i .i64 C.aD,v2,v3,v4,v.k,.i .i64 C.days,v5])).get n=some (.row 27 [.i .i64 C.aD,v2,v3,v4,v.k,.i .i64 C.days,v5]):=aF;replace p5:(h5.set n (.row 27 [.i .i64 C.aD,v2,v3,v4,v.k,.i .i64 C.days,v5])).get (n+1)=some (.row 27 [.i .i64 0,.k 1,.k 1,.k 1,.k 1,.i .i64 0,.k 1]):=by rw[au (by omega)];exact p5
 generalize Tr.set h5 n _=h5a at*;rw[aR];refine eU k70 adC _ (hk.up GH) (by rw[hz];omega) λv6 h6 n6 u6 g6 b6 x6=>?_;have e6:=u6.le;have q6:=(u6.old n (by omega)).trans q5;have p6:=(u6.old (n+1) (by omega)).trans p5;simp (disch:=omega) only[go_sem,simprocAttr,g6.cl,q6,CS.av];have EJ:=(EJ.up u6).set (b:=n) (o:=.row 27 [.i .i64 C.aD,v2,v3,v4,v6,.i .i64 C.days,v5]) (.inl (by omega)) (Nat.le_refl _);have KQ:=(KQ.up u6).set (b:=n) (o:=.row 27 [.i .i64 C.aD,v2,v3,v4,v6,.i .i64 C.days,v5]) (.inl (by omega)) (Nat.le_refl _);have RQ:=(RQ.up u6).set (b:=n) (o:=.row 27 [.i .i64 C.aD,v2,v3,v4,v6,.i .i64 C.days,v5]) (.inl (by omega)) (Nat.le_refl _);have kk5:=(kk5.up u6).set (b:=n) (o:=.row 27 [.i .i64 C.aD,v2,v3,v4,v6,.i .i64 C.days,v5]) (.inl (by omega)) (Nat.le_refl _);have kk6:=(g6.sl.kp (X:=λx=>x<n+2) λx hx=>by have:=b6 x hx;omega).set (b:=n) (o:=.row 27 [.i .i64 C.aD,v2,v3,v4,v6,.i .i64 C.days,v5]) (.inl (by omega)) (Nat.le_refl _);have ux6:Up h n (h6.set n (.row 27 [.i .i64 C.aD,v2,v3,v4,v6,.i .i64 C.days,v5])) n6:=Up.st (GH.trans u6) _ _ (Nat.le_refl _);replace q6:(h6.set n (.row 27 [.i .i64 C.aD,v2,v3,v4,v6,.i .i64 C.days,v5])).get n=some (.row 27 [.i .i64 C.aD,v2,v3,v4,v6,.i .i64 C.days,v5]):=aF;replace p6:(h6.set n (.row 27 [.i .i64 C.aD,v2,v3,v4,v6,.i .i64 C.days,v5])).get (n+1)=some (.row 27 [.i .i64 0,.k 1,.k 1,.k 1,.k 1,.i .i64 0,.k 1]):=by rw[au (by omega)];exact p6
 have x6':=λhne=>(x6 hne).imp λb e=>(show _/\(h6.set n (.row 27 [.i .i64 C.aD,v2,v3,v4,v6,.i .i64 C.days,v5])).get b=_/\_/\_ from⟨e.1,(au (by omega)).trans e.2.1,e.2.2⟩);generalize Tr.set h6 n _=h6a at*;have l2:∀x,blk v2 x->n+2<=x/\x<n5:=λx hx=>⟨by have:=b2 x hx;omega,by have:=g2.fK hx;omega⟩;have l3:∀x,blk v3 x->n+2<=x/\x<n5:=λx hx=>⟨by have:=b3 x hx;omega,by have:=g3.fK hx;omega⟩;have l4:∀x,blk v4 x->n+2<=x/\x<n5:=λx hx=>⟨by have:=b4 x hx;omega,by have:=g4.fK hx;omega⟩;have l5:∀x,blk v5 x->n+2<=x/\x<n5:=λx hx=>⟨by have:=b5 x hx;omega,by have:=g5.fK hx;omega⟩;simp (disch:=omega) only[go_sem,simprocAttr,kk6.use.len,hz];by_cases h0:C.clauses=[]
 .have hN:C.clauses.length=0:=by rw[h0];rfl
  refine bP C.clauses.length (λk hk nk G=>hk=h6a/\nk=n6/\G=[(1,.p n 0),(2,.p (n+1) 0),(26,v6)]) (by omega) (by omega) (by omega) (by omega) (λk h8 n8 G ⟨_,_,e⟩=>by subst e;exact⟨rfl,rfl⟩) ⟨rfl,rfl,_,⟨rfl,rfl,rfl⟩,by(repeat' (first|exact aO|refine aM rfl ?_))⟩ ?_ ?_
  .intro k _ _ _ hk;omega
  .rintro hk nk G ⟨rfl,rfl,rfl⟩
   simp (disch:=omega) only[go_sem,simprocAttr,q6,p6];refine hQ ⟨v2,v3,v4,v6,v5⟩ _ _ (Up.st ux6 _ _ (by omega)) ?_;have k6':Kp (λx=>x<n+2) hk nk (λh n=>aY h n ⟨v2,v3,v4,v6,v5⟩ C):=(((EJ.and KQ).and (RQ.and kk5)).and kk6).wk λh n e=>⟨e.1.1.1,e.1.1.2,e.1.2.1,⟨[],by rw[h0];rfl,by rw[h0];have:=e.2.2;rw[hz,h0]at this;simpa using this,λi k t h=>by rw[h0]at h;cases h⟩,e.1.2.2⟩;exact(k6'.set (.inl (by omega)) (Nat.le_refl _)).le λx _ hx=>by omega
 .have hne:C.clauses.zip ss≠[]:=λe=>h0 (by have:=congrArg List.length e;rw[hz]at this;exact List.length_eq_zero_iff.1 this)
  obtain⟨b,rfl,gb,hb1,hb2⟩:=x6' hne;rw[hz];have kA:=(((EJ.use.kp (X:=λx=>x<n+2\/x=b) λx hx e=>by have:=l2 x hx;omega).and (KQ.use.kp (X:=λx=>x<n+2\/x=b) λx hx e=>by have:=l3 x hx;omega)).and
   ((RQ.use.kp (X:=λx=>x<n+2\/x=b) λx hx e=>by have:=l4 x hx;omega).and (kk5.use.kp (X:=λx=>x<n+2\/x=b) λx hx e=>by have:=l5 x hx;omega)))
  have adE:∀(j:Nat)(x:aG×AV),(C.clauses.zip ss)[j]?=some x->C.clauses[j]?=some x.1/\ss[j]?=some x.2:=λj x e=>by rw[List.getElem?_zip_eq_some]at e;exact e
  refine bP C.clauses.length (λk hk nk G=>∃l':List (aG×AV),l'.length=C.clauses.length/\(∀(j:Nat)(x:aG×AV),l'[j]?=some x->C.clauses[j]?=some x.1/\(j<k->Kp (λx=>x<n+2\/x=b) hk nk (λh n=>SL h n 2 x.2 bU.av x.1.start))/\(k<=j->ss[j]?=some x.2))/\hk.get b=some (.row 122 (l'.flatMap Er))/\hk.get n=some (.row 27 [.i .i64 C.aD,v2,v3,v4,.sl b 0 0 C.clauses.length none,.i .i64 C.days,v5])/\hk.get (n+1)=some (.row 27 [.i .i64 0,.k 1,.k 1,.k 1,.k 1,.i .i64 0,.k 1])/\Up h n hk nk/\b<nk/\
   Kp (λx=>x<n+2\/x=b) hk nk (λh n=>(SL h n 1 v2 (λx=>[AV.i .i64 x]) C.ah/\SL h n 5 v3 dP.av C.units)/\SL h n 7 v4 dM.av C.acts/\SL h n 1 v5 (λx=>[AV.i .i64 x]) C.off)/\G=[(1,.p n 0),(2,.p (n+1) 0),(26,.sl b 0 0 C.clauses.length none)]) (by omega) (by omega) (by omega) (by omega) (λk h8 n8 G ⟨_,_,_,_,_,_,_,_,_,e⟩=>by subst e;exact⟨rfl,rfl⟩) ⟨rfl,rfl,_,⟨C.clauses.zip ss,hz,λj x e=>⟨(adE j x e).1,(λhj=>absurd hj (by omega)),λ_=>(adE j x e).2⟩,gb,by rw[q6,hz],p6,ux6,hb2,kA,rfl⟩,by(repeat' (first|exact aO|refine aM rfl ?_))⟩ ?_ ?_
  .rintro k hk nk G hk' ⟨l',hl',hx,gb',q',p',uk,lb,kA',rfl⟩
   obtain⟨x,hxk⟩:∃x,l'[k]?=some x:=⟨l'[k]'(by omega),List.getElem?_eq_some_iff.2 ⟨by omega,rfl⟩⟩;obtain⟨hx1,_,hx3⟩:=hx k x hxk;have sx:=hs3 k x.1 x.2 hx1 (hx3 (Nat.le_refl _));have zl:=ok.clause hx1;have hns:=zl.qH;have rdw:=Pv (e:=122) (c:=Er) (w:=16) (λ_=>rfl) hxk;repeat' (first|(simp (disch:=omega) only[go_sem,simprocAttr,ub.old,b_ hk',cK hk',gb',rdw,q'])|(simp (disch:=omega) only[go_sem,simprocAttr,b_ hk',cK hk',gb',rdw,q'])|(refine aS ?_ ?_<;>(intro hb hd;rw[hb];clear hb))|(with_reducible refine aj ?_))
   rw[bF];have ukl:=uk.le;refine eU k71 QH _ (sx.up (uk.trans aH)) (by omega) λv7 h7 n7 u7 g7 b7 _=>?_;have e7:=u7.le;have rb7:h7.get b=some (.row 122 (l'.flatMap Er)):=by rw[u7.old _ (by omega),au (by omega),au (by omega)];exact gb'
   have rn7:h7.get n=some (.row 27 [.i .i64 C.aD,v2,v3,v4,.sl b 0 0 C.clauses.length none,.i .i64 C.days,v5]):=by rw[u7.old _ (by omega),au (by omega),au (by omega)];exact q'
   have rp7:h7.get (n+1)=some (.row 27 [.i .i64 0,.k 1,.k 1,.k 1,.k 1,.i .i64 0,.k 1]):=by rw[u7.old _ (by omega),au (by omega),au (by omega)];exact p'
   have st:=Gd (c:=Er) (w:=16) (j:=4) (y:=v7) (a':=(x.1,v7)) (λ_=>rfl) hxk (by omega) rfl;have u77:Up hk nk h7 n7:=by exact aH
   simp (disch:=omega) only[go_sem,simprocAttr,g7.cl,rb7,rn7,q',cK hk',st,Option.map_some];refine⟨rfl,rfl,_,⟨l'.set k (x.1,v7),by simp[hl'],λj z hz'=>?_,aF,by rw[au (by omega)];exact rn7,by rw[au (by omega)];exact rp7,Up.st (uk.trans u77) _ _ (by omega),by omega,(kA'.up u77).set (.inl (.inr rfl)) (Nat.le_refl _),rfl⟩,by(repeat' (first|exact aO|refine aM rfl ?_))⟩;rw[List.getElem?_set]at hz';by_cases e:k=j
   .subst e
    rw[if_pos rfl,if_pos (by omega)]at hz';cases hz'
    refine⟨hx1,λ_=>?_,λh=>absurd h (by omega)⟩;exact(g7.sl.kp (X:=λx=>x<n+2\/x=b) λy hy e=>by have:=b7 y hy;omega).set (.inl (.inr rfl)) (Nat.le_refl _)
   .rw[if_neg e]at hz'
    obtain⟨y1,y2,y3⟩:=hx j z hz';exact⟨y1,λhj=>((y2 (by omega)).up u77).set (.inl (.inr rfl)) (Nat.le_refl _),λhj=>y3 (by omega)⟩
  .rintro hk nk G ⟨l',hl',hx,gb',q',p',uk,lb,kA',rfl⟩
   simp (disch:=omega) only[go_sem,simprocAttr,q',p'];refine hQ ⟨v2,v3,v4,_,v5⟩ _ _ (Up.st uk _ _ (by omega)) ?_;have slk:SL hk nk 16 (.sl b 0 0 C.clauses.length none) Er l':=SL.of (λ_=>rfl) lb gb' rfl hl'.symm (λk hk=>by cases hk);have ksl:Kp (λx=>x<n+2) hk nk (λh n=>SL h n 16 (.sl b 0 0 C.clauses.length none) Er l'):=slk.kp λx hx e=>by rw[eu]at hx;omega
   have PI:Kp (λx=>x<n+2) hk nk (λh n=>∀(j:Nat)(x:aG×AV),l'[j]?=some x->SL h n 2 x.2 bU.av x.1.start):=λh' n' a1 a2 j x e=>by
    have hj:=(List.getElem?_eq_some_iff.1 e).1;exact(((hx j x e).2.1 (by omega)).le λy _ hy=>.inl hy) h' n' a1 a2
   have kA2:=kA'.le (Y:=λx=>x<n+2) λy _ hy=>.inl hy;have hl1:C.clauses.zip (l'.map (·.2))=l':=by
    apply List.ext_getElem?;intro j;cases hj:l'[j]? with
    |none=>
     rw[List.getElem?_eq_none_iff]at hj⊢;simp;omega
    |some x=>
     rw[List.getElem?_zip_eq_some];exact⟨(hx j x hj).1,by rw[List.getElem?_map,hj];rfl⟩
   have kk:=((kA2.and ksl).and PI).wk (B:=λh n=>aY h n ⟨v2,v3,v4,.sl b 0 0 C.clauses.length none,v5⟩ C) λh n e=>⟨e.1.1.1.1,e.1.1.1.2,e.1.1.2.1,⟨l'.map (·.2),by simp[hl'],by rw[hl1];have:=e.1.2.2;rw[hl']at this;exact this,λi k t h1 h2=>by
    rw[List.getElem?_map]at h2;cases hj:l'[i]? with
    |none=>rw[hj]at h2;cases h2
    |some x=>
     rw[hj]at h2;cases h2
     have h3:=(hx i x hj).1;rw[h1]at h3;cases h3
     exact e.2 i x hj⟩,e.1.1.2.2⟩
   exact(kk.set (.inl (by omega)) (Nat.le_refl _)).le λx _ hx=>by omega
end
end
end
section
noncomputable section
def yD(b:Bool):List UInt8:=wr (if b then 1 else 0)
def mkK(m:aA):List UInt8:=wr m.status++wr m.left++wr m.got++wr m.aT++yD m.paused
def BM(p:aN):List UInt8:=yD p.own++wr p.st.day++p.st.ah.flatMap wr++p.st.used.flatMap yD++p.st.marks.flatMap mkK
theorem rW(b:Bool):(yD b).length<=6:=eG _
theorem KR(m:aA):(mkK m).length<=30:=by
 unfold mkK;have h1:=eG m.status;have h2:=eG m.left;have h3:=eG m.got;have h4:=eG m.aT;have h5:=rW m.paused;simp only[List.length_append];omega
theorem xP{x y:Bool}{r s:List UInt8}(h:yD x++r=yD y++s):x=y/\r=s:=by
 unfold yD at h;obtain⟨h1,h2⟩:=gQ (by unfold NB;split<;>omega) (by unfold NB;split<;>omega) h;refine⟨?_,h2⟩;cases x<;>cases y<;>simp at h1⊢
theorem MG{x y:aA}{r s:List UInt8}(hx:NB x.status/\NB x.left/\NB x.got/\NB x.aT)(hy:NB y.status/\NB y.left/\NB y.got/\NB y.aT)(h:mkK x++r=mkK y++s):x=y/\r=s:=by
 obtain⟨x1,x2,x3,x4,x5⟩:=x;obtain⟨y1,y2,y3,y4,y5⟩:=y;unfold mkK at h;simp only[List.append_assoc]at h;obtain⟨e1,h⟩:=gQ hx.1 hy.1 h;obtain⟨e2,h⟩:=gQ hx.2.1 hy.2.1 h;obtain⟨e3,h⟩:=gQ hx.2.2.1 hy.2.2.1 h;obtain⟨e4,h⟩:=gQ hx.2.2.2 hy.2.2.2 h;obtain⟨e5,h⟩:=xP h;dsimp only at e1 e2 e3 e4 e5;exact⟨by rw[e1,e2,e3,e4,e5],h⟩
theorem Um{C:ay}{p q:aN}(hp:aK C p.st)(hq:aK C q.st)(h:BM p=BM q):p=q:=by
 have bp:=hp.pb p.own;have bq:=hq.pb q.own;unfold BM at h;rw[<-List.append_nil (p.st.marks.flatMap mkK),<-List.append_nil (q.st.marks.flatMap mkK)]at h;simp only[List.append_assoc]at h;obtain⟨e1,h⟩:=xP h;obtain⟨e2,h⟩:=gQ bp.day bq.day h;obtain⟨e3,h⟩:=lF (B:=NB) (λx y r s=>gQ) (by rw[hp.lh,hq.lh]) bp.ah bq.ah h;obtain⟨e4,h⟩:=lF (f:=yD) (B:=λ_=>True) (λx y r s _ _=>xP) (by rw[hp.lu,hq.lu]) (λ_ _=>trivial) (λ_ _=>trivial) h;obtain⟨e5,h⟩:=lF (B:=λx=>NB x.status/\NB x.left/\NB x.got/\NB x.aT) (λx y r s=>MG) (by rw[hp.lm,hq.lm]) bp.marks bq.marks h;obtain⟨⟨d,hs,us,ms⟩,o⟩:=p;obtain⟨⟨d',hs',us',ms'⟩,o'⟩:=q;cases e1;cases e2;cases e3;cases e4;cases e5
 rfl
section
variable {P P':Nat->Prop} {h h':AH} {n n' T tb:Nat} {l:List UInt8} {Q:AV->AH->Nat->Prop} {tv:TS} {p:aN}
theorem qU(K:Nat)(t:Tx h n P T tb l)(hl:l.length<=800000){x:Int}(hx:NB x)(hQ:∀h' n',Tx h' n' P T tb (l++wr x)->UP P h n h' n'->Q (.bJ []) h' n'):CW (EF (K+5)) 182 [.i .i64 x,.p tb 0] h n Q:=by
 obtain⟨v,h1,h2,h3⟩:=t.ex;have hlt:=t.hi;have htn:(tn x).length<=5:=by have:=eG x;unfold wr at this;simp at this;omega
 refine aC akp rfl ?_;simp (disch:=omega) only[go_sem,simprocAttr,adx,h1];rw[aR];refine Cj _ h2 (by omega) hx.1 hx.2 λv' h4 n4 g4 l4 s4 b4=>?_;simp (disch:=omega) only[go_sem,simprocAttr];refine vS (b:=32) (g4.up aH) (by simp;omega) rfl rfl aF λv5 h5 n5 g5 l5 s5 b5=>?_;have s45:∀y,y<n->¬blk v y->h5.get y=h.get y:=λy hy hb=>by
  rw[s5 y (by omega) (λe=>by rcases b4 y e with e|e;exact hb e;omega),au (by omega),s4 y hy hb]
 obtain⟨q1,q2,q3⟩:=t.put h1 h3 (Up.refl _ _) g5 (by omega) s45 λy hy=>by
  rcases b5 y hy with e|e
  .exact b4 y e
  .exact .inr (by omega)
 simp (disch:=omega) only[go_sem,simprocAttr,q1,g5.cl];rw[List.append_assoc]at q2;exact hQ _ _ q2 q3
theorem Bc(K:Nat){b4:Nat}(t:Tx h n P T tb l)(hl:l.length<=800000)(h4:h.get b4=some (.row 157 [.f 182 [.p tb 0]]))(b:Bool)(hQ:∀h' n',Tx h' n' P T tb (l++yD b)->UP P h n h' n'->Q (.bJ []) h' n'):CW (EF (K+6)) 183 [.b b,.p b4 0] h n Q:=by
 refine aC c193 rfl ?_;cases b with
 |true=>
  simp (disch:=omega) only[go_sem,simprocAttr,Zb,h4];rw[nK];refine qU _ t hl (x:=1) (by unfold NB;omega) λh2 n2 t2 u2=>?_;simp (disch:=omega) only[go_sem,simprocAttr];exact hQ _ _ t2 u2
 |false=>
  simp (disch:=omega) only[go_sem,simprocAttr,Zb,h4];rw[nK];refine qU _ t hl (x:=0) (by unfold NB;omega) λh2 n2 t2 u2=>?_;simp (disch:=omega) only[go_sem,simprocAttr];exact hQ _ _ t2 u2
theorem Zf(K:Nat)(hS:bI h n tv p.st)(pb:PB p)(hQ:∀h' n',Up h n h' n'->Q (.s (BM p)) h' n'):CW (EF (K+7)) 115 [.agg (tv.pv p)] h n Q:=by
 have lh:=pb.lh;have lu:=pb.lu;have lm:=pb.lm;refine aC ako rfl ?_;repeat' (first|(simp (disch:=omega) only[go_sem,simprocAttr,adw])|(refine aS ?_ ?_<;>(intro hb hd;rw[hb];clear hb))|(with_reducible refine aj ?_))
 generalize hh:Tr.set (Tr.set (Tr.set (Tr.set h n _) (n+1) _) (n+1+1) _) (n+1+1) _=h1;have u1:Up h n h1 (n+1+1+1):=by rw[<-hh];exact aH
 have q1:h1.get n=some (.row 114 (tv.pv p)):=by rw[<-hh];simp (disch:=omega) only[go_sem]
 have q4:h1.get (n+1+1)=some (.row 157 [.f 182 [.p (n+1) 0]]):=by rw[<-hh];simp (disch:=omega) only[go_sem]
 have t1:Tx h1 (n+1+1+1) (λx=>x<n+3/\x≠n+1) 276 (n+1) []:=by
  refine⟨by omega,by omega,λx hx=>by omega,.k 1,by rw[<-hh];simp (disch:=omega) only[go_sem],Gr.nil λ_=>rfl,λx hx=>absurd hx fA⟩
 clear hh;have TP:∀{hk nk},UP (λx=>x<n+3/\x≠n+1) h1 (n+1+1+1) hk nk->Up h n hk nk:=λ{hk nk} u=>⟨by have:=u.le;omega,λx hx=>(u.at_ (show x<n+3/\x≠n+1 by omega) (by omega)).trans (u1.old x hx)⟩;have rn:∀{hk nk},UP (λx=>x<n+3/\x≠n+1) h1 (n+1+1+1) hk nk->hk.get n=some (.row 114 (tv.pv p))/\hk.get (n+1+1)=some (.row 157 [.f 182 [.p (n+1) 0]]):=λ{hk nk} u=>⟨(u.at_ (show n<n+3/\n≠n+1 by omega) (by omega)).trans q1,(u.at_ (show n+1+1<n+3/\n+1+1≠n+1 by omega) (by omega)).trans q4⟩;rw[nK];refine Bc _ t1 (by simp) q4 p.own λh2 n2 t2 u2=>?_;obtain⟨q2,q42⟩:=rn u2;have e1:=rW p.own;simp (disch:=omega) only[go_sem,simprocAttr,q2,q42,TS.pv];rw[nK];refine qU _ t2 (by simp;omega) pb.day λh3 n3 t3 u3=>?_;have rR:UP (λx=>x<n+3/\x≠n+1) h1 (n+1+1+1) h3 n3:=u2.trans u3;obtain⟨q3,q43⟩:=rn rR;have e2:=eG p.st.day;simp (disch:=omega) only[go_sem,simprocAttr,q3,TS.pv,hS.ah.len];refine bP p.st.ah.length (λk h8 n8 G=>Tx h8 n8 (λx=>x<n+3/\x≠n+1) 276 (n+1) (yD p.own++wr p.st.day++(p.st.ah.take k).flatMap wr)/\UP (λx=>x<n+3/\x≠n+1) h1 (n+1+1+1) h8 n8/\G=[(1,.p n 0),(3,.p (n+1) 0),(4,.p (n+1+1) 0),(5,.f 183 [.p (n+1+1) 0]),(25,tv.h)]) (by omega) (by omega) (by omega) (by omega) (λk h8 n8 G ⟨_,_,e⟩=>by subst e;exact⟨rfl,rfl⟩) ⟨rfl,rfl,_,⟨by simpa using t3,rR,rfl⟩,by(repeat' (first|exact aO|refine aM rfl ?_))⟩ ?_ ?_
 .rintro k h8 n8 G hk ⟨t8,u8,rfl⟩
  obtain⟨r1,r4⟩:=rn u8;obtain⟨b1,o1,a,i1,ha,hb1,rd⟩:=(hS.ah.up (TP u8)).dL (k:=(k:Nat)) (by omega) (by omega) (by omega);rw[show((k:Nat):Int).toNat=k by omega]at ha;have hlen:=iG (f:=wr) (k:=6) eG (p.st.ah.take k);have htk:=List.length_take_le k p.st.ah;have hpre:(yD p.own++wr p.st.day).length<=30000:=by simp only[List.length_append];omega
  simp (disch:=omega) only[go_sem,simprocAttr,aJ i1,rd.el,rd.hd,r4];rw[nK];refine qU _ t8 (by simp only[List.length_append];simp only[List.length_append]at hpre;omega) (pb.ah a (List.mem_of_getElem? ha)) λh9 n9 t9 u9=>?_;simp (disch:=omega) only[go_sem,simprocAttr];rw[List.append_assoc,<-nH ha]at t9;exact⟨rfl,rfl,_,⟨t9,u8.trans u9,rfl⟩,by(repeat' (first|exact aO|refine aM rfl ?_))⟩
 rintro h3 n3 G ⟨t3,rR,rfl⟩;rw[List.take_length]at t3;obtain⟨q3,q43⟩:=rn rR;have hlh:=iG (f:=wr) eG p.st.ah;simp (disch:=omega) only[go_sem,simprocAttr,q3,TS.pv,hS.used.len];refine bP p.st.used.length (λk h8 n8 G=>Tx h8 n8 (λx=>x<n+3/\x≠n+1) 276 (n+1) (yD p.own++wr p.st.day++p.st.ah.flatMap wr++(p.st.used.take k).flatMap yD)/\UP (λx=>x<n+3/\x≠n+1) h1 (n+1+1+1) h8 n8/\G=[(1,.p n 0),(3,.p (n+1) 0),(4,.p (n+1+1) 0),(5,.f 183 [.p (n+1+1) 0]),(37,tv.u)]) (by omega) (by omega) (by omega) (by omega) (λk h8 n8 G ⟨_,_,e⟩=>by subst e;exact⟨rfl,rfl⟩) ⟨rfl,rfl,_,⟨by simpa using t3,rR,rfl⟩,by(repeat' (first|exact aO|refine aM rfl ?_))⟩ ?_ ?_
 .rintro k h8 n8 G hk ⟨t8,u8,rfl⟩
  obtain⟨r1,r4⟩:=rn u8;obtain⟨b1,o1,a,i1,ha,hb1,rd⟩:=(hS.used.up (TP u8)).dL (k:=(k:Nat)) (by omega) (by omega) (by omega);rw[show((k:Nat):Int).toNat=k by omega]at ha;have hlen:=iG (f:=yD) (k:=6) rW (p.st.used.take k);have htk:=List.length_take_le k p.st.used;have hpre:(yD p.own++wr p.st.day++p.st.ah.flatMap wr).length<=30000:=by simp only[List.length_append];omega
  simp (disch:=omega) only[go_sem,simprocAttr,aJ i1,rd.el,rd.hd];rw[nK];refine Bc _ t8 (by simp only[List.length_append];simp only[List.length_append]at hpre;omega) r4 a λh9 n9 t9 u9=>?_;simp (disch:=omega) only[go_sem,simprocAttr];rw[List.append_assoc,<-nH ha]at t9;exact⟨rfl,rfl,_,⟨t9,u8.trans u9,rfl⟩,by(repeat' (first|exact aO|refine aM rfl ?_))⟩
 rintro h3 n3 G ⟨t3,rR,rfl⟩;rw[List.take_length]at t3;obtain⟨q3,q43⟩:=rn rR;have hlu:=iG (f:=yD) rW p.st.used;simp (disch:=omega) only[go_sem,simprocAttr,q3,TS.pv,hS.marks.len];refine bP p.st.marks.length (λk h8 n8 G=>Tx h8 n8 (λx=>x<n+3/\x≠n+1) 276 (n+1) (yD p.own++wr p.st.day++p.st.ah.flatMap wr++p.st.used.flatMap yD++(p.st.marks.take k).flatMap mkK)/\UP (λx=>x<n+3/\x≠n+1) h1 (n+1+1+1) h8 n8/\G=[(1,.p n 0),(3,.p (n+1) 0),(4,.p (n+1+1) 0),(5,.f 183 [.p (n+1+1) 0]),(49,tv.m)]) (by omega) (by omega) (by omega) (by omega) (λk h8 n8 G ⟨_,_,e⟩=>by subst e;exact⟨rfl,rfl⟩) ⟨rfl,rfl,_,⟨by simpa using t3,rR,rfl⟩,by(repeat' (first|exact aO|refine aM rfl ?_))⟩ ?_ ?_
 .rintro k h8 n8 G hk ⟨t8,u8,rfl⟩
  obtain⟨r1,r4⟩:=rn u8;obtain⟨b1,o1,a,i1,ha,hb1,rd⟩:=(hS.marks.up (TP u8)).dL (k:=(k:Nat)) (by omega) (by omega) (by omega);rw[show((k:Nat):Int).toNat=k by omega]at ha;have hlen:=iG (f:=mkK) (k:=30) KR (p.st.marks.take k);have htk:=List.length_take_le k p.st.marks;have hpre:(yD p.own++wr p.st.day++p.st.ah.flatMap wr++p.st.used.flatMap yD).length<=30000:=by simp only[List.length_append];omega
  have hb:=pb.marks a (List.mem_of_getElem? ha);have v1:=eG a.status;have v2:=eG a.left;have v3:=eG a.got;have v4:=eG a.aT;have hlp:(yD p.own++wr p.st.day++p.st.ah.flatMap wr++p.st.used.flatMap yD++(p.st.marks.take k).flatMap mkK).length<=60000:=by
   simp only[List.length_append]at hpre⊢;omega
  generalize yD p.own++wr p.st.day++p.st.ah.flatMap wr++p.st.used.flatMap yD=pre at*;have n28:n+2<n8:=by have:=u8.le;omega
  simp (disch:=omega) only[go_sem,simprocAttr,aJ i1,rd.el,rd.hd,rd.all,r4];generalize hg:Tr.set (Tr.set h8 n8 _) n8 _=h10;have rT:Up h8 n8 h10 (n8+1):=by rw[<-hg];exact aH
  have k0:h10.get n8=some (.row 185 a.av):=by rw[<-hg];simp (disch:=omega) only[go_sem]
  have c0:h10.get (n+1+1)=some (.row 157 [.f 182 [.p (n+1) 0]]):=(rT.old _ (by omega)).trans r4;have t10:=t8.box rT (Nat.lt_succ_self n8);clear hg;have pm:∀x,(x=n8\/x=n+1+1)->((x<n+3/\x≠n+1)\/x=n8):=λx e=>by omega
  rw[nK];refine qU _ t10 (by simp only[List.length_append]at hlp⊢;omega) hb.1 λh11 n11 t11 yx=>?_;have k1:=(yx.at_ (pm _ (.inl rfl)) (Nat.lt_succ_self n8)).trans k0;have c1:=(yx.at_ (pm _ (.inr rfl)) (by omega)).trans c0;have l11:=yx.le;simp (disch:=omega) only[go_sem,simprocAttr,k1,c1];rw[nK];refine qU _ t11 (by simp only[List.length_append]at hlp⊢;omega) hb.2.1 λh12 n12 t12 uP=>?_;have k2:=(uP.at_ (pm _ (.inl rfl)) (by omega)).trans k1;have c2:=(uP.at_ (pm _ (.inr rfl)) (by omega)).trans c1;have l12:=uP.le;simp (disch:=omega) only[go_sem,simprocAttr,k2,c2];rw[nK];refine qU _ t12 (by simp only[List.length_append]at hlp⊢;omega) hb.2.2.1 λh13 n13 t13 KD=>?_;have k3:=(KD.at_ (pm _ (.inl rfl)) (by omega)).trans k2;have c3:=(KD.at_ (pm _ (.inr rfl)) (by omega)).trans c2;have l13:=KD.le;simp (disch:=omega) only[go_sem,simprocAttr,k3,c3];rw[nK];refine qU _ t13 (by simp only[List.length_append]at hlp⊢;omega) hb.2.2.2 λh14 n14 t14 VL=>?_;have k4:=(VL.at_ (pm _ (.inl rfl)) (by omega)).trans k3;have c4:=(VL.at_ (pm _ (.inr rfl)) (by omega)).trans c3;have L9:=VL.le;simp (disch:=omega) only[go_sem,simprocAttr,k4];rw[nK];refine Bc _ t14 (by simp only[List.length_append]at hlp⊢;omega) c4 a.paused λVN n15 t15 u15=>?_;simp (disch:=omega) only[go_sem,simprocAttr];have t16:=t15.wk (P':=(λx=>x<n+3/\x≠n+1)) λx hx=>.inl hx;have e16:pre++(p.st.marks.take k).flatMap mkK++wr a.status++wr a.left++wr a.got++wr a.aT++yD a.paused=pre++(p.st.marks.take (k+1)).flatMap mkK:=by
   rw[nH ha,mkK];simp only[List.append_assoc]
  rw[e16]at t16;have uu2:UP (λx=>x<n+3/\x≠n+1) h10 (n8+1) VN n15:=UP.wk (P:=λx=>(λx=>x<n+3/\x≠n+1) x\/x=n8) (UX.trans (UX.trans (UX.trans (UX.trans yx uP) KD) VL) u15) λx hx=>.inl hx;exact⟨rfl,rfl,_,⟨t16,(u8.trans (UX.up rT)).trans uu2,rfl⟩,by(repeat' (first|exact aO|refine aM rfl ?_))⟩
 rintro h3 n3 G ⟨t3,rR,rfl⟩;rw[List.take_length]at t3;obtain⟨v,r1,r2,r3⟩:=t3.ex;have hcb:Xm h3 (some v)=some (.s (BM p)):=Gr.Np r2;simp (disch:=omega) only[go_sem,simprocAttr,r1,hcb];exact hQ _ _ (TP rR)
end
end
end
section
noncomputable section
section
variable {h h':AH} {n n':Nat} {Q:AV->AH->Nat->Prop} {tv:TS} {p:aN}
theorem KS{P:Program}{ty:TypeId}{a b:List UInt8}(hl:a.length+b.length<=1048576):(eB P ty .add).run (.s a) (.s b)=some (.s (a++b)):=by
 show bc (Nat.ble (Nat.add (nP a) (nP b)) 1048576) (some (AV.s (CP a b))) none=_;rw[eT,eT,Nat.ble_eq_true_of_le (by show a.length+b.length<=_;exact hl),bD,iZ]
theorem QI(pb:PB p):(BM p).length<=50000:=by
 have lh:=pb.lh;have lu:=pb.lu;have lm:=pb.lm;have h1:=iG (f:=wr) eG p.st.ah;have h2:=iG (f:=yD) rW p.st.used;have h3:=iG (f:=mkK) KR p.st.marks;have h4:=rW p.own;have h5:=eG p.st.day;unfold BM;simp only[List.length_append];omega
theorem MH(K:Nat){u:Nat}(hu:u<100)(hQ:∀h' n',Up h n h' n'->Q (.s (dec u)) h' n'):CW (EF (K+2)) 260 [.i .i64 (u:Nat),.i .i64 10] h n Q:=by
 refine aC aiZ rfl ?_;have hd0:decide ((0:Int)<=(u:Int))=true:=decide_eq_true (by omega);have hd:decide ((u:Int)<100)=true:=decide_eq_true (by omega);repeat' (first|(simp (disch:=omega) only[go_sem,simprocAttr,ub.old,Yy,Int.reduceEq,hd0,hd,qN])|(simp (disch:=omega) only[go_sem,simprocAttr,Yy,Int.reduceEq,hd0,hd,qN])|(refine aS ?_ ?_<;>(intro hb hd;rw[hb];clear hb))|(with_reducible refine aj ?_))
 rw[aR];refine FV _ hu λh2 n2 u2=>?_;repeat' (first|(simp (disch:=omega) only[go_sem,simprocAttr,ub.old])|(simp (disch:=omega) only[go_sem,simprocAttr])|(refine aS ?_ ?_<;>(intro hb hd;rw[hb];clear hb))|(with_reducible refine aj ?_))
 exact hQ _ _ u2
theorem Un(K:Nat){u:Nat}(hu:u<100)(hQ:∀h' n',Up h n h' n'->Q (.s (dec u)) h' n'):CW (EF (K+4)) 148 [.i .i64 (u:Nat)] h n Q:=by
 refine aC c117 rfl ?_;simp (disch:=omega) only[go_sem,simprocAttr,aco];rw[aR];refine aC ai0 rfl ?_;simp (disch:=omega) only[go_sem,simprocAttr,acn];rw[aR];refine MH _ hu λh2 n2 u2=>?_;simp (disch:=omega) only[go_sem,simprocAttr];exact hQ _ _ u2
def mO(u:Nat)(p:aN):List UInt8:=dec u++[58]++BM p
theorem MJ{C:ay}{u:Nat}{p q:aN}(hp:aK C p.st)(hq:aK C q.st)(h:mO u p=mO u q):p=q:=
 Um hp hq (List.append_cancel_left h)
theorem qV(K:Nat){u b11:Nat}(hu:u<100)(hb:h.get b11=some (.row 3 [.i .i64 (u:Nat)]))(hn:b11<n)(hS:bI h n tv p.st)(pb:PB p)(hQ:∀h' n',Up h n h' n'->Q (.s (mO u p)) h' n'):CW (EF (K+8)) 147 [.agg (tv.pv p),.p b11 0] h n Q:=by
 refine aC c116 rfl ?_;repeat' (first|(simp (disch:=omega) only[go_sem,simprocAttr,ub.old,Za,hb])|(simp (disch:=omega) only[go_sem,simprocAttr,Za,hb])|(refine aS ?_ ?_<;>(intro hb hd;rw[hb];clear hb))|(with_reducible refine aj ?_))
 rw[bF];refine Un _ hu λh2 n2 u2=>?_;have e2:=u2.le;have dl:=zo u;have kl:=QI pb;have q2:h2.get n=some (.row 114 (tv.pv p)):=by rw[u2.old _ (by omega)];exact aF
 have e1:∀P ty,(eB P ty .add).run (.s (dec u)) (.s [58])=some (.s (dec u++[58])):=λP ty=>KS (by simp;omega);have e3:∀P ty,(eB P ty .add).run (.s (dec u++[58])) (.s (BM p))=some (.s (dec u++[58]++BM p)):=λP ty=>KS (by simp;omega);repeat' (first|(simp (disch:=omega) only[go_sem,simprocAttr,ub.old,e1,q2])|(simp (disch:=omega) only[go_sem,simprocAttr,e1,q2])|(refine aS ?_ ?_<;>(intro hb hd;rw[hb];clear hb))|(with_reducible refine aj ?_))
 rw[bF];refine Zf _ (hS.up aH) pb λh3 n3 u3=>?_;repeat' (first|(simp (disch:=omega) only[go_sem,simprocAttr,ub.old,e3,q2])|(simp (disch:=omega) only[go_sem,simprocAttr,e3,q2])|(refine aS ?_ ?_<;>(intro hb hd;rw[hb];clear hb))|(with_reducible refine aj ?_))
 exact hQ _ _ aH
end
end
end
section
noncomputable section
@[reducible] def QJ (x:TS×aI):List AV:=x.1.av x.2
@[reducible] def rA (cv sv tv dv:AV):List AV:=[cv,sv,tv,dv]
section
variable {h h':AH} {n n':Nat} {Q:AV->AH->Nat->Prop} {v:CS} {C:ay} {cv sv tv dv:AV} {dD:List (TS×aI)}
theorem qW(K:Nat)(hs:SL h n 4 sv QJ dD){k:Nat}{x:TS×aI}(hk:dD[k]?=some x)(hQ:∀h' n',Up h n h' n'->Q (.agg (x.1.pv ⟨x.2,true⟩)) h' n'):CW (EF (K+1)) 65 [.agg (rA cv sv tv dv),.i .i64 (k:Nat)] h n Q:=by
 have hkl:=(List.getElem?_eq_some_iff.1 hk).1;obtain⟨b1,o1,y,i1,hy,hb1,rd⟩:=hs.dL (k:=(k:Nat)) (by omega) (by omega) (by omega);rw[show((k:Nat):Int).toNat=k by omega,hk]at hy;cases hy
 refine aC c90 rfl ?_;repeat' (first|(simp (disch:=omega) only[go_sem,simprocAttr,m90,rA,aJ i1,rd.all,TS.av])|(refine aS ?_ ?_<;>(intro hb hd;rw[hb];clear hb))|(with_reducible refine aj ?_))
 exact hQ _ _ aH
theorem QK(K:Nat)(hC:aY h n v C)(ho:C.off.length<=1000000){party:Int}(hQ:∀h' n',Up h n h' n'->Q (.b (C.valid&&(decide (0<=party)&&decide (party<C.aD)))) h' n'):CW (EF (K+7)) 27 [.agg (v.av C),.i .i64 party] h n Q:=by
 refine aC c31 rfl ?_;repeat' (first|(simp (disch:=omega) only[go_sem,simprocAttr,ub.old,m31,CS.av])|(simp (disch:=omega) only[go_sem,simprocAttr,m31,CS.av])|((first|rw[aR]|rw[bF]);with_reducible refine qM _ (hC.up aH) ho λ_ h2 n2 u2=>?_;(first|replace ub:=Up.trans ub (Up.trans aH u2)|have ub:=u2);have hle:=ub.le;clear u2)|(refine aS ?_ ?_<;>(intro hb hd;rw[hb];clear hb))|(with_reducible refine aj ?_))
 .have hv:=(nG C).1 (by assumption)
  rw[hv,decide_eq_true hd,Bool.true_and,Bool.true_and]at hQ;exact hQ _ _ aH
 .rw[decide_eq_false hd,Bool.false_and,Bool.and_false]at hQ
  exact hQ _ _ aH
 .have hv:C.valid=false:=by
   cases hv:C.valid with
   |false=>rfl
   |true=>exact absurd ((nG C).2 hv) hd
  rw[hv,Bool.false_and]at hQ;exact hQ _ _ aH
@[reducible] def jA (party:Int) (s l sh d:Nat) (bg:Bool) (r:List AV):List AV:=[.i .i64 party,.m s,.m l,.m sh,.m d,.b bg]++r
theorem Gf(K:Nat){party:Int}(hQ:∀j s l sh d h' n',Up h n h' n'->h'.get j=some (.row 107 [.i .i64 party,.m s,.m l,.m sh,.m d,.b false,.i .i64 0,.i .i64 0,.i .i64 0])->qK h' s AV.s []->qK h' l (λi:Int=>AV.i .i64 i) []->n<=j/\n<=s/\n<=l->j<n'/\s<n'/\l<n'->j≠s/\j≠l/\s≠l->Q (.p j 0) h' n'):CW (EF (K+1)) 30 [.i .i64 party] h n Q:=by
 refine aC c33 rfl ?_;repeat' (first|(simp (disch:=omega) only[go_sem,simprocAttr,m33])|(refine aS ?_ ?_<;>(intro hb hd;rw[hb];clear hb))|(with_reducible refine aj ?_))
 refine hQ (n+1+1+1+1) n (n+1) (n+1+1) (n+1+1+1) _ _ aH aF ?_ ?_ ⟨by omega,by omega,by omega⟩ ⟨by omega,by omega,by omega⟩ ⟨by omega,by omega,by omega⟩
 .exact⟨[],0,by simp (disch:=omega) only[go_sem],rfl⟩
 .exact⟨[],0,by simp (disch:=omega) only[go_sem],rfl⟩
end
end
end
section
noncomputable section
structure UF(h:AH)(n ab rb:Nat)(A:List Nat)(r:Nat->Nat):Prop where
 row:h.get ab=some (.row 434 (A.flatMap cn))
 fn:h.get rb=some (.row 430 [.f 295 [.p ab 0,.p rb 0]])
 len:A.length=400
 roots:jR (λi=>A.getD i 0) r
 Nz:ab<n
 Mc:rb<n
 ne:rb≠ab
section
variable {h h':AH} {n n' ab rb:Nat} {A:List Nat} {r:Nat->Nat} {Q:AV->AH->Nat->Prop}
theorem UF.up(u:UF h n ab rb A r)(x:Up h n h' n'):UF h' n' ab rb A r:=⟨(x.old _ u.Nz).trans u.row,(x.old _ u.Mc).trans u.fn,u.len,u.roots,Nat.lt_of_lt_of_le u.Nz x.le,Nat.lt_of_lt_of_le u.Mc x.le,u.ne⟩
theorem MK(A:List Nat){i v:Nat}(hi:i<A.length):(λj=>(A.set i v).getD j 0)=I7 (λj=>A.getD j 0) i v:=by
 funext j;unfold I7;rw[List.getD_eq_getElem?_getD,List.getElem?_set];by_cases e:j=i
 .subst e;rw[if_pos rfl,if_pos hi,if_pos rfl];rfl
 .rw[if_neg (Ne.symm e),if_neg e];simp[List.getD_eq_getElem?_getD]
theorem UF.set(u:UF h n ab rb A r){i v:Nat}{r':Nat->Nat}(hi:i<400)(hr:jR (I7 (λj=>A.getD j 0) i v) r'):UF (h.set ab (.row 434 ((A.set i v).flatMap cn))) n ab rb (A.set i v) r':=
 ⟨aF,(au u.ne).trans u.fn,by rw[List.length_set];exact u.len,by rw[MK A (by rw[u.len];exact hi)];exact hr,u.Nz,u.Mc,u.ne⟩
theorem UF.at_(u:UF h n ab rb A r){i:Nat}(hi:i<400):A[i]?=some (A.getD i 0):=by
 rw[List.getD_eq_getElem?_getD,List.getElem?_eq_getElem (by rw[u.len];exact hi)];rfl
theorem nv1{A:List Nat}{i x:Nat}(h:A[i]?=some x):nv (A.flatMap cn) (0+i*1)=some (.i .i64 (x:Nat)):=by
 have e:=oM (t:=434) (c:=cn) (λ_=>rfl) h rfl;rw[abh,<-Nat.zero_add (i*1)]at e;exact e
theorem Zg{A:List Nat}{i x:Nat}(h:i<A.length):st1 (0+i*1) (.i .i64 (x:Nat)) (A.flatMap cn)=some ((A.set i x).flatMap cn):=by
 rw[Nat.zero_add];exact mM (c:=cn) (λ_=>rfl) h rfl
theorem wB:∀(i K:Nat){h:AH}{n:Nat}{A:List Nat}{Q:AV->AH->Nat->Prop},UF h n ab rb A r->i<400->(∀A' h' n',UF h' n' ab rb A' r->n<=n'->(∀x,x<n->x≠ab->h'.get x=h.get x)->Q (.i .i64 (r i:Nat)) h' n')->CW (EF (K+i+1)) 295 [.i .i64 (i:Nat),.p ab 0,.p rb 0] h n Q:=by
 intro i;induction i using Nat.strongRecOn with
 |_ i ih=>
  intro K h n A Q u hi hQ;have rd:=nv1 (u.at_ hi);have row:=u.row;have fn:=u.fn;have hle:A.getD i 0<=i:=u.roots.le i;refine aC akf rfl ?_;by_cases he:A.getD i 0=i
  .have hr:r i=i:=u.roots.fix i he
   rw[hr]at hQ;rw[he]at rd;simp (disch:=omega) only[go_sem,simprocAttr,Uh,uq,Int.toNat_natCast,row,rd];exact hQ A _ _ u (Nat.le_refl _) λ_ _ _=>rfl
  .have hd:decide (((A.getD i 0:Nat):Int)=(i:Int))=false:=decide_eq_false (by omega)
   have hst:r (A.getD i 0)=r i:=u.roots.step i;repeat' (first|(simp (disch:=omega) only[go_sem,simprocAttr,ub.old,Uh,uq,Int.toNat_natCast,row,rd,hd,fn])|(simp (disch:=omega) only[go_sem,simprocAttr,Uh,uq,Int.toNat_natCast,row,rd,hd,fn])|(refine aS ?_ ?_<;>(intro hb hd;rw[hb];clear hb))|(with_reducible refine aj ?_))
   rw[w_];show CW (EF (K+i)) 295 [.i .i64 (A.getD i 0:Nat),.p ab 0,.p rb 0] _ _ _;rw[show K+i=(K+(i - (A.getD i 0+1)))+A.getD i 0+1 by omega];refine ih _ (by omega) _ u (by omega) λA' h2 n2 u2 l2 x2=>?_;rw[hst];have st:=Zg (A:=A') (i:=i) (x:=r i) (by rw[u2.len];exact hi);have xQ:=u2.row;have u3:=u2.set (i:=i) (v:=r i) hi (u2.roots.adn i);have hA3:(A'.set i (r i))[i]?=some (r i):=by rw[List.getElem?_set,if_pos rfl,if_pos (by rw[u2.len];exact hi)]
   have nA:=nv1 hA3;simp (disch:=omega) only[go_sem,simprocAttr,uq,Int.toNat_natCast,xQ,st,Option.map_some];simp (disch:=omega) only[go_sem,simprocAttr,uq,Int.toNat_natCast,nA];exact hQ _ _ _ u3 l2 λx hx hne=>by rw[au hne];exact x2 x hx hne
theorem Eu(K:Nat){i j:Nat}(u:UF h n ab rb A r)(hi:i<400)(hj:j<400)(hQ:∀A' r' h' n',UF h' n' ab rb A' r'->VY r r'->r' i=r' j->n<=n'->(∀x,x<n->x≠ab->h'.get x=h.get x)->Q (.bJ []) h' n'):CW (EF (K+402)) 296 [.i .i64 (i:Nat),.i .i64 (j:Nat),.p rb 0,.p ab 0] h n Q:=by
 have fn:=u.fn;refine aC akg rfl ?_;repeat' (first|(simp (disch:=omega) only[go_sem,simprocAttr,ub.old,Y7,fn])|(simp (disch:=omega) only[go_sem,simprocAttr,Y7,fn])|(refine aS ?_ ?_<;>(intro hb hd;rw[hb];clear hb))|(with_reducible refine aj ?_))
 rw[w_];show CW (EF (K+401)) 295 [.i .i64 (i:Nat),.p ab 0,.p rb 0] _ _ _;rw[show K+401=(K+(400 - i))+i+1 by omega];refine wB i _ u hi λA1 h1 n1 u1 l1 x1=>?_;rw[show(K+(400 - i))+i+1=K+401 by omega];have fn1:=u1.fn;simp (disch:=omega) only[go_sem,simprocAttr,fn1];rw[w_];show CW (EF (K+401)) 295 [.i .i64 (j:Nat),.p ab 0,.p rb 0] _ _ _;rw[show K+401=(K+(400 - j))+j+1 by omega];refine wB j _ u1 hj λA2 h2 n2 u2 l2 x2=>?_;rw[show(K+(400 - j))+j+1=K+401 by omega];have fn2:=u2.fn;simp (disch:=omega) only[go_sem,simprocAttr,fn2];rw[w_];show CW (EF (K+401)) 295 [.i .i64 (i:Nat),.p ab 0,.p rb 0] _ _ _;rw[show K+401=(K+(400 - i))+i+1 by omega];refine wB i _ u2 hi λA3 h3 n3 u3 l3 x3=>?_;rw[show(K+(400 - i))+i+1=K+401 by omega];have fn3:=u3.fn;simp (disch:=omega) only[go_sem,simprocAttr,fn3];rw[w_];show CW (EF (K+401)) 295 [.i .i64 (j:Nat),.p ab 0,.p rb 0] _ _ _;rw[show K+401=(K+(400 - j))+j+1 by omega];refine wB j _ u3 hj λA4 h4 n4 u4 l4 x4=>?_;rw[show(K+(400 - j))+j+1=K+401 by omega];have fn4:=u4.fn;simp (disch:=omega) only[go_sem,simprocAttr,fn4];refine⟨⟨by rw[fn];rfl,by rw[fn];rfl,by rw[fn1];rfl,by rw[fn];rfl,by rw[fn1];rfl,by rw[fn2];rfl⟩,?_⟩;have hri:=(u.roots.root i).2;have hrj:=(u.roots.root j).2;obtain⟨lo,hh,e1,e2,e3,e4⟩:∃lo hh:Nat,(if((r i:Nat):Int)<=((r j:Nat):Int)then((r i:Nat):Int)else((r j:Nat):Int))=(lo:Int)/\(if((r j:Nat):Int)<=((r i:Nat):Int)then((r i:Nat):Int)else((r j:Nat):Int))=(hh:Int)/\lo<=hh/\((lo=r i/\hh=r j)\/(lo=r j/\hh=r i)):=by
  by_cases h1:r i<=r j
  .refine⟨r i,r j,if_pos (by omega),?_,h1,.inl ⟨rfl,rfl⟩⟩
   by_cases h2:r j<=r i
   .rw[if_pos (by omega)];omega
   .rw[if_neg (by omega)]
  .exact⟨r j,r i,if_neg (by omega),if_pos (by omega),by omega,.inr ⟨rfl,rfl⟩⟩
 rw[e1,e2];have hh4:hh<400:=by omega
 have rlo:r lo=lo:=by rcases e4 with⟨e,_⟩|⟨e,_⟩<;>rw[e,u.roots.idem]
 have rhh:r hh=hh:=by rcases e4 with⟨_,e⟩|⟨_,e⟩<;>rw[e,u.roots.idem]
 have akF:=u4.row;have st:=Zg (A:=A4) (i:=hh) (x:=lo) (by rw[u4.len];exact hh4);have u5:=u4.set hh4 (u4.roots.join rlo rhh e3);simp (disch:=omega) only[go_sem,simprocAttr,uq,Int.toNat_natCast,akF,st,Option.map_some];refine hQ _ _ _ _ u5 (VY.join r lo hh) ?_ (by omega) λx hx hne=>by rw[au hne,x4 x (by omega) hne,x3 x (by omega) hne,x2 x (by omega) hne,x1 x hx hne]
 rcases e4 with⟨e,e'⟩|⟨e,e'⟩
 .rw[if_pos e'.symm];split
  .rfl
  .exact e.symm
 .rw[if_pos (c:=r i=hh) e'.symm];split
  .rfl
  .exact e
end
end
end
section
noncomputable section
theorem Gr.adG{h:AH}{n e:Nat}{v:AV}{l:List AV}(g:Gr h n e 1 v one l){p:Nat}(hp:p<l.length)(y:AV):∃b cap cells cells',v= .sl b 0 0 l.length cap/\b<n/\h.get b=some (.row e cells)/\st1 (p*1) y cells=some cells'/\nv cells (p*1)=l[p]?/\Gr (h.set b (.row e cells')) n e 1 v one (l.set p y):=by
 rcases g.2 with⟨_,rfl⟩|⟨b,cap,cells,rfl,h1,h2,h3,h4,h5,h6⟩
 .cases hp
 .have hf:∀l:List AV,l.flatMap one=l:=λl=>by induction l with|nil=>rfl|cons a l ih=>rw[List.flatMap_cons,ih];rfl
  rw[hf,Nat.mul_one]at h3;rw[Nat.mul_one]at h4;have hc:cells=l++cells.drop l.length:=by conv=>lhs;rw[<-List.take_append_drop l.length cells,h3]
  refine⟨b,cap,cells,cells.set p y,rfl,h1,h2,?_,?_,g.1,.inr ⟨b,cap,cells.set p y,by rw[List.length_set],h1,aF,?_,by simp;omega,λe=>by simp;have:=h5 e;omega,λk e=>by simp;have:=h6 k e;omega⟩⟩
  .rw[uh,Nat.mul_one]
   unfold pI;rw[if_pos (by simp;omega),List.set_eq_take_append_cons_drop,if_pos (by omega)];rfl
  .rw[tF,Nat.mul_one,<-h3,List.getElem?_take,if_pos hp]
  .rw[hf,List.length_set,Nat.mul_one,List.take_set,h3]
structure PG(h:AH)(n n0 mb:Nat)(pv:AV)(bs:List AV)(B:List (List Nat)):Prop where
 gp:Gr h n 22 1 pv one bs
 lb:bs.length=B.length
 gb:∀(j:Nat)(y:AV)(l:List Nat),bs[j]?=some y->B[j]?=some l->Gr h n 3 1 y cn l
 d1:∀(j:Nat)(y:AV),bs[j]?=some y->∀x,blk y x->¬blk pv x
 d2:∀(i j:Nat)(y z:AV),bs[i]?=some y->bs[j]?=some z->i≠j->∀x,blk y x->¬blk z x
 np:∀x,blk pv x->n0<=x/\x≠mb
 nb:∀(j:Nat)(y:AV),bs[j]?=some y->∀x,blk y x->n0<=x/\x≠mb
section
variable {h h':AH} {n n' n0 mb:Nat} {pv:AV} {bs:List AV} {B:List (List Nat)}
theorem PG.on(a:PG h n n0 mb pv bs B)(hn:n<=n')(e:∀x,x<n->n0<=x->x≠mb->h'.get x=h.get x):PG h' n' n0 mb pv bs B:=
 ⟨a.gp.on hn λx hx hb=>e x hx (a.np x hb).1 (a.np x hb).2,a.lb,λj y l h1 h2=>(a.gb j y l h1 h2).on hn λx hx hb=>e x hx (a.nb j y h1 x hb).1 (a.nb j y h1 x hb).2,a.d1,a.d2,a.np,a.nb⟩
theorem PG.new(a:PG h n n0 mb pv bs B){pv':AV}(g:Gr h' n' 22 1 pv' one (bs++[.k 1]))(hn:n<=n')(hm:mb<n)(h0:n0<=n)(s:∀x,x<n->¬blk pv x->h'.get x=h.get x)(b:∀x,blk pv' x->blk pv x\/n<=x):PG h' n' n0 mb pv' (bs++[.k 1]) (B++[[]]):=by
 have get:∀(j:Nat)(y:AV),(bs++[AV.k 1])[j]?=some y->(j<bs.length/\bs[j]?=some y)\/(j=bs.length/\y= .k 1):=λj y e=>by
  by_cases hj:j<bs.length
  .rw[List.getElem?_append_left hj]at e;exact .inl ⟨hj,e⟩
  .have:=(List.getElem?_eq_some_iff.1 e).1
   simp at this;obtain rfl:j=bs.length:=by omega
   rw[List.getElem?_append_right (Nat.le_refl _),Nat.sub_self]at e;cases e
   exact .inr ⟨rfl,rfl⟩
 refine⟨g,by simp[a.lb],λj y l h1 h2=>?_,λj y h1 x hx=>?_,λi j y z h1 h2 hij x hx=>?_,λx hx=>?_,λj y h1 x hx=>?_⟩
 .rcases get j y h1 with⟨hj,e⟩|⟨rfl,rfl⟩
  .rw[List.getElem?_append_left (by rw[<-a.lb];exact hj)]at h2
   exact(a.gb j y l e h2).on hn λx hx hb=>s x hx (a.d1 j y e x hb)
  .rw[a.lb,List.getElem?_append_right (Nat.le_refl _),Nat.sub_self]at h2
   cases h2
   exact Gr.nil λ_=>rfl
 .rcases get j y h1 with⟨hj,e⟩|⟨rfl,rfl⟩
  .intro hp
   rcases b x hp with hp|hp
   .exact a.d1 j y e x hx hp
   .obtain⟨l,hl⟩:∃l,B[j]?=some l:=⟨B[j]'(by rw[<-a.lb];exact hj),List.getElem?_eq_getElem _⟩
    have:=(a.gb j y l e hl).fK hx;omega
  .exact absurd hx fA
 .rcases get i y h1 with⟨hi,e1⟩|⟨rfl,rfl⟩
  .rcases get j z h2 with⟨hj,e2⟩|⟨rfl,rfl⟩
   .exact a.d2 i j y z e1 e2 hij x hx
   .exact fA
  .exact absurd hx fA
 .rcases b x hx with hp|hp
  .exact a.np x hp
  .omega
 .rcases get j y h1 with⟨hj,e⟩|⟨rfl,rfl⟩
  .exact a.nb j y e x hx
  .exact absurd hx fA
theorem PG.put(a:PG h n n0 mb pv bs B){p i:Nat}{y y':AV}{l:List Nat}(hy:bs[p]?=some y)(hl:B[p]?=some l)(g:Gr h' n' 3 1 y' cn (l++[i]))(hn:n<=n')(hm:mb<n)(h0:n0<=n)(s:∀x,x<n->¬blk y x->h'.get x=h.get x)(b:∀x,blk y' x->blk y x\/n<=x):
 ∃pb cap cells cells',pv= .sl pb 0 0 bs.length cap/\pb<n/\h'.get pb=some (.row 22 cells)/\st1 (p*1) y' cells=some cells'/\PG (h'.set pb (.row 22 cells')) n' n0 mb pv (bs.set p y') (B.set p (l++[i])):=by
 have hp:=(List.getElem?_eq_some_iff.1 hy).1;have gp':Gr h' n' 22 1 pv one bs:=a.gp.on hn λx hx hb=>s x hx λe=>a.d1 p y hy x e hb;obtain⟨pb,cap,cells,cells',q1,q2,q3,q4,q5,q6⟩:=gp'.adG hp y';have hpb:blk pv pb:=by rw[q1];exact eu.2 rfl
 have hpn:=a.gp.fK hpb;have get:∀(k:Nat)(z:AV),(bs.set p y')[k]?=some z->(k=p/\z=y')\/(k≠p/\bs[k]?=some z):=λk z e=>by
  rw[List.getElem?_set]at e;by_cases h:p=k
  .rw[if_pos h,if_pos hp]at e;exact .inl ⟨h.symm,by cases e;rfl⟩
  .rw[if_neg h]at e;exact .inr ⟨λk=>h k.symm,e⟩
 have lt:∀(k:Nat)(z:AV),bs[k]?=some z->∀x,blk z x->x<n:=λk z e x hx=>by
  obtain⟨l,hl⟩:∃l,B[k]?=some l:=⟨B[k]'(by rw[<-a.lb];exact(List.getElem?_eq_some_iff.1 e).1),List.getElem?_eq_getElem _⟩;exact(a.gb k z l e hl).fK hx
 have ny:∀x,blk y' x->¬blk pv x:=λx hx hb=>by
  rcases b x hx with e|e
  .exact a.d1 p y hy x e hb
  .have:=a.gp.fK hb;omega
 refine⟨pb,cap,cells,cells',q1,hpn,q3,q4,q6,by simp[a.lb],λj z l' h1 h2=>?_,λj z h1 x hx=>?_,λi j z w h1 h2 hij x hx=>?_,a.np,λj z h1 x hx=>?_⟩
 .rcases get j z h1 with⟨rfl,rfl⟩|⟨hj,hz⟩
  .rw[List.getElem?_set,if_pos rfl,if_pos (by rw[<-a.lb];exact hp)]at h2
   cases h2
   exact g.on (Nat.le_refl _) λx _ hx=>au λe=>ny x hx (by rw[e];exact hpb)
  .rw[List.getElem?_set,if_neg (Ne.symm hj)]at h2
   exact(a.gb j z l' hz h2).on hn λx hx hb=>by
    rw[au (λe=>a.d1 j z hz x hb (by rw[e];exact hpb)),s x hx λe=>a.d2 p j y z hy hz (Ne.symm hj) x e hb]
 .rcases get j z h1 with⟨rfl,rfl⟩|⟨hj,hz⟩
  .exact ny x hx
  .exact a.d1 j z hz x hx
 .have ne:∀(k:Nat)(z:AV),k≠p->bs[k]?=some z->∀x,blk y' x->¬blk z x:=λk z hk hz x hx kx=>by
   rcases b x hx with e|e
   .exact a.d2 p k y z hy hz (Ne.symm hk) x e kx
   .have:=lt k z hz x kx;omega
  rcases get i z h1 with⟨rfl,rfl⟩|⟨hi,hz⟩
  .rcases get j w h2 with⟨rfl,rfl⟩|⟨hj,hw⟩
   .exact absurd rfl hij
   .exact ne j w hj hw x hx
  .rcases get j w h2 with⟨rfl,rfl⟩|⟨hj,hw⟩
   .exactλe=>ne i z hi hz x e hx
   .exact a.d2 i j z w hz hw hij x hx
 .rcases get j z h1 with⟨rfl,rfl⟩|⟨hj,hz⟩
  .rcases b x hx with e|e
   .exact a.nb j y hy x e
   .omega
  .exact a.nb j z hz x hx
end
end
end
section
noncomputable section
theorem Jh:Po Tryz.prog 3 (λi:Int=>AV.i .i64 i):=by
 refine⟨λa b=>⟨gu a b,by kernel_rfl,by rw[dz];simp⟩,λa=>by kernel_rfl,λa=>rfl⟩
def Gg(h:AH)(n m0:Nat)(pv:AV)(P:List (List Nat)):Prop:=∃bs:List AV,SL h n 1 pv one bs/\bs.length=P.length/\(∀(j:Nat)(y:AV)(l:List Nat),bs[j]?=some y->P[j]?=some l->SL h n 1 y cn l)/\(∀x,blk pv x->m0<=x)/\∀(j:Nat)(y:AV),bs[j]?=some y->∀x,blk y x->m0<=x
theorem Gg.lo{h:AH}{n m0 m1:Nat}{pv:AV}{P:List (List Nat)}(a:Gg h n m0 pv P)(e:m1<=m0):Gg h n m1 pv P:=
 let⟨bs,h1,h2,h3,h4,h5⟩:=a
 ⟨bs,h1,h2,h3,λx hx=>Nat.le_trans e (h4 x hx),λj y hj x hx=>Nat.le_trans e (h5 j y hj x hx)⟩
section
variable {h h':AH} {n n' ab rb:Nat} {A:List Nat} {r:Nat->Nat} {Q:AV->AH->Nat->Prop}
def GaI(h:AH)(n ab rb:Nat)(r:Nat->Nat)(k:Nat)(hk:AH)(nk:Nat)(G:Fm):Prop:=∃(A:List Nat)(pv:AV)(bs:List AV)(B:List (List Nat))(m:List (Int×AV))(pl:Nat->Option Nat),
 UF hk nk ab rb A r/\PG hk nk n n pv bs B/\qK hk n (λi:Int=>AV.i .i64 i) m/\(∀i p:Nat,pl i=some p->jD m (i:Int)=some (.i .i64 (p:Nat)))/\xM r k pl B/\B.length<=k/\n<nk/\(∀x,x<n->x≠ab->hk.get x=h.get x)/\G=[(1,.f 295 [.p ab 0,.p rb 0]),(5,pv),(6,.m n)]
theorem UF.on(u:UF h n ab rb A r)(hn:n<=n')(e1:h'.get ab=h.get ab)(e2:h'.get rb=h.get rb):UF h' n' ab rb A r:=⟨e1.trans u.row,e2.trans u.fn,u.len,u.roots,Nat.lt_of_lt_of_le u.Nz hn,Nat.lt_of_lt_of_le u.Mc hn,u.ne⟩
def mGd:MC:=match En with
 | .seq _ (.seq _ (.seq _ d))=>d
 |x=>x
theorem yF{K k N:Nat}{h4:AH}{n4:Nat}{pv:AV}{bs:List AV}{B:List (List Nat)}{m:List (Int×AV)}{pl:Nat->Option Nat}{p:Nat}{l:List Nat}{bb:Bool}{S:List It}{Qx:PQ}(hk:k<N)(hN:N<=400)(hab:ab<n)(hrb:rb<n)(u:UF h4 n4 ab rb A r)(pg:PG h4 n4 n n pv bs B)(mp:qK h4 n (λi:Int=>AV.i .i64 i) m)
 (hpl:∀i p:Nat,pl i=some p->jD m (i:Int)=some (.i .i64 (p:Nat)))(hal:jD m ((r k:Nat):Int)=some (.i .i64 (p:Nat)))(hl:B[p]?=some l)(ga:xM r (k+1) pl (B.set p (l++[k])))(hB:B.length<=k+1)(hn:n<n4)(same:∀x,x<n->x≠ab->h4.get x=h.get x):
 SM Tryz.prog Y0 300 [.c mGd] .bX (EF (K+401)) h4 n4 [(1,.f 295 [.p ab 0,.p rb 0]),(5,pv),(6,.m n),(10,.i .i64 (N:Nat)),(11,.i .i64 (k:Nat)),(7,.i .i64 (k:Nat)),(8,.i .i64 (r k:Nat)),(19,.b bb)] (Vu Tryz.prog Y0 300 (GaI h n ab rb r) k 11 10 N 1 S (EF (K+401)) Qx):=by
 have hp:=(List.getElem?_eq_some_iff.1 hl).1;have lb:=pg.lb;obtain⟨y,hy⟩:∃y,bs[p]?=some y:=⟨bs[p]'(by omega),List.getElem?_eq_getElem _⟩;obtain⟨pb,cap,cells,_,rfl,q2,q3,_,q5,_⟩:=pg.gp.adG (p:=p) (by omega) (.k 1);rw[hy]at q5;have lk:=mp.look (k:=((r k:Nat):Int)) Jh (z:=some (.i .i64 0)) (ok:=false) rfl;rw[hal]at lk;simp only[gH]at lk;have adH:p<bs.length:=by omega
 have gy:=pg.gb p y l hy hl;unfold mGd;have hll:l.length<=401:=by
  obtain⟨i,_,_,_,e⟩:=ga.of p (l++[k]) (by rw[List.getElem?_set,if_pos rfl,if_pos hp]);have e:=congrArg List.length e;have:=List.length_filter_le (λj=>decide (r j=i)) (List.range (k+1));simp at e this;omega
 repeat' (first|(simp (disch:=omega) only[go_sem,simprocAttr,En,lk,cK adH,q3,q5])|(refine aS ?_ ?_<;>(intro hb hd;rw[hb];clear hb))|(with_reducible refine aj ?_))
 refine Eh (l2:=[k]) (gy.up aH) ⟨rfl,?_⟩ (by simp;omega) λy' h6 n6 g6 l6 s6 b6=>?_
 .show bnd (iI (Tr.get _ _) 0 _) (λr=>mP (Nat.mul 1 1) r)=_
  rw[aF];rfl
 have QL:∀x,x<n4->¬blk y x->h6.get x=h4.get x:=λx hx hb=>by rw[s6 x (by omega) hb,au (by omega)]
 obtain⟨pb2,cap2,QM,cells',e1,e2,e3,e4,pg6⟩:=pg.put hy hl g6 (by omega) (by omega) (by omega) QL λx hx=>(b6 x hx).imp id λe=>by omega
 cases e1
 have Nz:=u.Nz;have Mc:=u.Mc;have hne:=u.ne;have uab:n4<=n6:=by omega
 have mp6:=mp.on (QL n hn λe=>(pg.nb p y hy n e).2 rfl);have lk6:=mp6.look (k:=((r k:Nat):Int)) Jh (z:=some (.i .i64 0)) (ok:=false) rfl;rw[hal]at lk6;simp only[gH]at lk6;have rs:fQ (some (.row 22 QM)) (p*1) (some [y'])=some (.row 22 cells'):=by
  show(match pI [y'] (p*1) QM with|some m=>some (AO.row 22 m)|none=>none)=_;rw[<-uh,e4]
 simp (disch:=omega) only[go_sem,simprocAttr,cK adH,e3,g6.cl,rs];refine⟨lk6,?_⟩;obtain⟨p1,p2⟩:=pg.np pb (eu.2 rfl);have ny:∀x,x<n->¬blk y x:=λx hx e=>by have:=(pg.nb p y hy x e).1;omega
 refine⟨rfl,rfl,_,⟨A,_,bs.set p y',B.set p (l++[k]),m,pl,u.on (by omega) (by rw[au (by omega),QL ab (by omega) (ny ab hab)]) (by rw[au (by omega),QL rb (by omega) (ny rb hrb)]),pg6,mp6.on (au (Ne.symm p2)),hpl,ga,by rw[List.length_set];exact hB,by omega,λx hx hne=>by rw[au (by omega),QL x (by omega) (ny x hx),same x hx hne],rfl⟩,by(repeat' (first|exact aO|refine aM rfl ?_))⟩
theorem ML(K:Nat){N:Nat}(u:UF h n ab rb A r)(hN:N<=400)(hQ:∀A' m P pv h' n',UF h' n' ab rb A' r->xM r N m P->P.length<=N->Gg h' n' n pv P->n<=n'->(∀x,x<n->x≠ab->h'.get x=h.get x)->Q pv h' n'):CW (EF (K+402)) 300 [.i .i64 (N:Nat),.f 295 [.p ab 0,.p rb 0]] h n Q:=by
 have Nz:=u.Nz;have Mc:=u.Mc;have rne:=u.ne;refine aC c228 rfl ?_;repeat' (first|(simp (disch:=omega) only[go_sem,simprocAttr,ub.old,Y5])|(simp (disch:=omega) only[go_sem,simprocAttr,Y5])|(refine aS ?_ ?_<;>(intro hb hd;rw[hb];clear hb))|(with_reducible refine aj ?_))
 refine bP N (GaI h n ab rb r) (by omega) (by omega) (by omega) (by omega) (λk h8 n8 G ⟨_,_,_,_,_,_,_,_,_,_,_,_,_,_,e⟩=>by subst e;exact⟨rfl,rfl⟩) ⟨rfl,rfl,_,⟨A,.k 1,[],[],[],λ_=>none,u.up aH,⟨Gr.nil λ_=>rfl,rfl,λj y l h1=>by simp at h1,λj y h1=>by simp at h1,λi j y z h1=>by simp at h1,λx hx=>absurd hx fA,λj y h1=>by simp at h1⟩,qK.new _,(λ_ _ e=>by cases e),xM.nil r _,Nat.le_refl _,by omega,λx hx _=>au (by omega),rfl⟩,by(repeat' (first|exact aO|refine aM rfl ?_))⟩ ?_ ?_
 .rintro k hk nk G hkN ⟨A1,pv,bs,B,m,pl,u1,pg,mp,hpl,ga,hBk,hn,same,rfl⟩
  simp (disch:=omega) only[go_sem,simprocAttr,En];rw[DX];show CW (EF (K+401)) 295 [.i .i64 (k:Nat),.p ab 0,.p rb 0] _ _ _;rw[show K+401=(K+(400 - k))+k+1 by omega];refine wB k _ u1 (by omega) λA2 h2 n2 u2 l2 x2=>?_;rw[show(K+(400 - k))+k+1=K+401 by omega];have pg2:PG h2 n2 n n pv bs B:=pg.on l2 λx hx h1 h3=>x2 x hx (by omega);have mp2:=mp.on (x2 n hn (by omega));have hrk:=(u1.roots.root k).2;have V5:∀x,x<n->x≠ab->h2.get x=h.get x:=λx hx hne=>(x2 x (by omega) hne).trans (same x hx hne);by_cases hroot:r k=k
  .have hd:decide (((r k:Nat):Int)=(k:Int))=true:=decide_eq_true (by omega)
   obtain⟨o,up1,mp3⟩:=mp2.put (n:=n2) (k:=(k:Int)) Jh (.i .i64 (bs.length:Nat));have akI:=pg2.gp.len;have lbs:=pg2.lb;simp (disch:=omega) only[go_sem,simprocAttr,hd,akI,up1];have pg3:PG (h2.set n o) n2 n n pv bs B:=pg2.on (Nat.le_refl _) λx _ _ h3=>au h3;refine jq (l2:=[AV.k 1]) (pg3.gp.up aH) ⟨rfl,?_⟩ (by simp;omega) λpv' h4 n4 g4 l4 s4 b4=>?_
   .show bnd (iI (Tr.get _ _) 0 _) (λr=>mP (Nat.mul 1 1) r)=_
    rw[aF];rfl
   simp (disch:=omega) only[go_sem,simprocAttr,g4.cl];have hal:jD (Ch m (k:Int) (.i .i64 (bs.length:Nat))) ((r k:Nat):Int)=some (.i .i64 (bs.length:Nat)):=by rw[lU,if_pos (by omega)]
   have hl':(B++[[]])[bs.length]?=some []:=by rw[lbs,List.getElem?_append_right (Nat.le_refl _),Nat.sub_self];rfl
   have ga':=ga.new u1.roots hroot;rw[<-lbs]at ga';have hpl':∀i p:Nat,(if i=k then some bs.length else pl i)=some p->jD (Ch m (k:Int) (.i .i64 (bs.length:Nat))) (i:Int)=some (.i .i64 (p:Nat)):=λi p e=>by
    rw[lU];by_cases hik:i=k
    .rw[if_pos hik]at e;cases e;rw[if_pos (by omega)]
    .rw[if_neg hik]at e;rw[if_neg (by omega)];exact hpl i p e
   have pgn:=pg3.new g4 (by omega) (by omega) (by omega) (λx hx hb=>by rw[s4 x (by omega) hb,au (by omega)]) (λx hx=>(b4 x hx).imp id λe=>by omega);have hB':(B++[[]]).length<=k+1:=by simp;omega
   have jM:∀x,x<n2->¬blk pv x->h4.get x=(Tr.set h2 n o).get x:=λx hx hb=>by rw[s4 x (by omega) hb,au (by omega)]
   have u5:UF h4 n4 ab rb A2 r:=u2.on (by omega) (by rw[jM ab (by omega) λe=>by have:=(pg3.np ab e).1;omega,au (by omega)]) (by rw[jM rb (by omega) λe=>by have:=(pg3.np rb e).1;omega,au (by omega)]);have mp5:=mp3.on (jM n (by omega) λe=>(pg3.np n e).2 rfl);have adI:∀x,x<n->x≠ab->h4.get x=h.get x:=λx hx hne=>by rw[jM x (by omega) λe=>by have:=(pg3.np x e).1;omega,au (by omega),V5 x hx hne]
   have hn5:n<n4:=by omega
   clear jM;exact yF hkN hN Nz Mc u5 pgn mp5 hpl' hal hl' ga' hB' hn5 adI
  .have hd:decide (((r k:Nat):Int)=(k:Int))=false:=decide_eq_false (by omega)
   simp (disch:=omega) only[go_sem,simprocAttr,hd];obtain⟨p5,l5,e1,hl',ga'⟩:=ga.old u1.roots hroot;have hal:=hpl _ _ e1;exact yF hkN hN Nz Mc u2 pg2 mp2 hpl hal hl' ga' (by omega) (by omega) V5
 .rintro hk nk G ⟨A1,pv,bs,B,m,pl,u1,pg,mp,hpl,ga,hBk,hn,same,rfl⟩
  simp (disch:=omega) only[go_sem,simprocAttr];exact hQ A1 pl B pv _ _ u1 ga hBk ⟨bs,pg.gp.sl,pg.lb,λj y l e1 e2=>(pg.gb j y l e1 e2).sl,λx hx=>(pg.np x hx).1,λj y hj x hx=>(pg.nb j y hj x hx).1⟩ (by omega) same
end
end
end
noncomputable section
def xR(k:Nat):List Nat:=(List.range 400).map λi=>if i<k then i else 0
theorem nM(k:Nat):(xR k).length=400:=by simp[xR]
theorem zC{k i:Nat}(h:i<400):(xR k)[i]?=some (if i<k then i else 0):=by simp[xR,h]
theorem QN{k:Nat}(h:k<400):(xR k).set k k=xR (k+1):=by
 apply List.ext_getElem?;intro j;by_cases hj:j<400
 .rw[List.getElem?_set,zC hj]
  by_cases e:k=j
  .subst e;rw[if_pos rfl,if_pos (by rw[nM];exact hj),zC hj,if_pos (by omega)]
  .rw[if_neg e,zC hj]
   by_cases h1:j<k
   .rw[if_pos h1,if_pos (by omega)]
   .rw[if_neg h1,if_neg (by omega)]
 .rw[List.getElem?_eq_none (by rw[List.length_set,nM];omega),List.getElem?_eq_none (by rw[nM];omega)]
theorem Ji(k:Nat):jR (λi=>(xR k).getD i 0) (λi=>if i<k/\i<400 then i else 0):=by
 have e:∀i,(xR k).getD i 0=if i<k/\i<400 then i else 0:=λi=>by
  rw[List.getD_eq_getElem?_getD];by_cases h:i<400
  .rw[zC h];simp[h]
  .rw[List.getElem?_eq_none (by rw[nM];omega),if_neg (by omega)];rfl
 refine⟨λi=>?_,λi=>?_,λi=>?_⟩
 .rw[e];split<;>omega
 .rw[e];exact id
 .rw[e]
  by_cases h:i<k/\i<400
  .rw[if_pos h,if_pos h]
  .rw[if_neg h];split<;>rfl
section
variable {h h':AH} {n n' ab rb:Nat} {A:List Nat} {r:Nat->Nat} {Q:AV->AH->Nat->Prop} {v:CS} {C:ay}
structure KT(h:AH)(n ab rb mb:Nat)(v:CS)(C:ay)(A:List Nat)(r:Nat->Nat)(m:List (Int×AV))(w:Bool)(ks ka:Nat)(hk:AH)(nk:Nat):Prop where
 uf:UF hk nk ab rb A r
 mp:qK hk mb (λi:Int=>AV.i .i64 i) m
 vals:∀(a:Int)(x:AV),jD m a=some x->∃u:Nat,u<400/\x= .i .i64 (u:Nat)
 seen:∀(j:Nat)(kc:aG),j<ks->C.clauses[j]?=some kc->∀a∈kc.nums,∃u:Nat,jD m a=some (.i .i64 (u:Nat))/\r u=r j
 all:w=true->∀j,j<ka->r j=r 0
 up:Up h n hk nk
 box:hk.get n=some (.row 27 (v.av C))
 Nv:mb<nk
 d:n<ab/\n<rb/\n<mb/\mb≠ab/\mb≠rb
theorem KT.join{mb:Nat}{m:List (Int×AV)}{w:Bool}{ks ka:Nat}{hk hk':AH}{nk nk':Nat}{A':List Nat}{r':Nat->Nat}(a:KT h n ab rb mb v C A r m w ks ka hk nk)(u:UF hk' nk' ab rb A' r')(mr:VY r r')(hn:nk<=nk')(same:∀x,x<nk->x≠ab->hk'.get x=hk.get x):KT h n ab rb mb v C A' r' m w ks ka hk' nk':=by
 obtain⟨d1,d2,d3,d4,d5⟩:=a.d;have:=a.up.le;have:=a.Nv;exact⟨u,a.mp.on (same mb a.Nv d4),a.vals,λj kc hj hk x hx=>(a.seen j kc hj hk x hx).imp λu e=>⟨e.1,mr _ _ e.2⟩,λhw j hj=>mr _ _ (a.all hw j hj),⟨by omega,λx hx=>by rw[same x (by omega) (by omega)];exact a.up.old x hx⟩,by rw[same n (by omega) (by omega)];exact a.box,by omega,a.d⟩
theorem KT.more{mb:Nat}{m:List (Int×AV)}{w:Bool}{ks ka:Nat}{hk hk':AH}{nk nk':Nat}(a:KT h n ab rb mb v C A r m w ks ka hk nk)(x:Up hk nk hk' nk'):KT h n ab rb mb v C A r m w ks ka hk' nk':=
 a.join (a.uf.up x) (VY.refl r) x.le λy hy _=>x.old y hy
theorem KT.put{mb:Nat}{m:List (Int×AV)}{w:Bool}{ks ka k:Nat}{hk:AH}{nk:Nat}{a:Int}{o:AO}(c:KT h n ab rb mb v C A r m w ks ka hk nk)(mp:qK (hk.set mb o) mb (λi:Int=>AV.i .i64 i) (Ch m a (.i .i64 (k:Nat))))(hn:jD m a=none)(hk4:k<400):KT h n ab rb mb v C A r (Ch m a (.i .i64 (k:Nat))) w ks ka (hk.set mb o) nk:=by
 obtain⟨d1,d2,d3,d4,d5⟩:=c.d;refine⟨c.uf.on (Nat.le_refl _) (au (Ne.symm d4)) (au (Ne.symm d5)),mp,λa' x hx=>?_,λj kc hj hk a' ha=>?_,c.all,Up.st c.up _ _ (by omega),by rw[au (by omega)];exact c.box,c.Nv,c.d⟩
 .rw[lU]at hx
  split at hx
  .cases hx;exact⟨k,hk4,rfl⟩
  .exact c.vals a' x hx
 .obtain⟨u,h1,h2⟩:=c.seen j kc hj hk a' ha
  refine⟨u,?_,h2⟩;rw[lU,if_neg (λe=>by rw[e,hn]at h1;cases h1)];exact h1
def CmI(h:AH)(n ab rb mb:Nat)(v:CS)(C:ay)(w:Bool)(k:Nat)(hk:AH)(nk:Nat)(G:Fm):Prop:=∃A r m,KT h n ab rb mb v C A r m w k k hk nk/\G=[(1,.p n 0),(7,.p rb 0),(8,.f 296 [.p rb 0,.p ab 0]),(9,.b w),(10,.m mb),(43,v.k)]
def mC3:MC:=match Em with
 | .seq _ (.seq _ (.seq _ d))=>d
 |x=>x
theorem Ct{K k N mb nb:Nat}{m:List (Int×AV)}{w:Bool}{h9:AH}{n9:Nat}{kc:aG}{t:AV}{S:List It}{Qx:PQ}(hv:C.valid=true)(hkc:C.clauses[k]?=some kc)(hN:N=C.clauses.length)(c:KT h n ab rb mb v C A r m w k (k+1) h9 n9)(st:SL h9 n9 2 t bU.av kc.start)(g9:h9.get nb=some (.row 122 (kc.av t)))(hb:nb<n9)(hn:n<nb)(hab:nb≠ab/\nb≠rb/\nb≠mb)(tab:∀x,blk t x->x≠ab):
 SM Tryz.prog Y0 284 [.c (zf 3 57 56 58 4 5 I4),.b 4,.c mC3] .bX (EF (K+402)) h9 n9 [(1,.p n 0),(7,.p rb 0),(8,.f 296 [.p rb 0,.p ab 0]),(9,.b w),(10,.m mb),(43,v.k),(44,.i .i64 (N:Nat)),(45,.i .i64 (k:Nat)),(12,.p nb 0),(11,.i .i64 (k:Nat)),(50,.b w),(55,t),(56,.i .i64 (kc.start.length:Nat)),(57,.i .i64 0)] (Vu Tryz.prog Y0 284 (CmI h n ab rb mb v C w) k 45 44 N 3 S (EF (K+402)) Qx):=by
 have ok:=ay.ok hv;have:=ok.dJ;have hkl:=(List.getElem?_eq_some_iff.1 hkc).1;have hns:=(ok.clause hkc).qH;have hst:=(ok.clause hkc).start;refine bP kc.start.length (λ_ hk nk G=>∃A r,KT h n ab rb mb v C A r m w k (k+1) hk nk/\Kp (λx=>x=ab) hk nk (λh n=>SL h n 2 t bU.av kc.start/\h.get nb=some (.row 122 (kc.av t))/\nb<n)/\G=[(1,.p n 0),(7,.p rb 0),(8,.f 296 [.p rb 0,.p ab 0]),(9,.b w),(10,.m mb),(43,v.k),(44,.i .i64 (N:Nat)),(45,.i .i64 (k:Nat)),(12,.p nb 0),(11,.i .i64 (k:Nat)),(55,t)]) (by omega) (by omega) (by omega) (by omega) (λk h8 n8 G ⟨_,_,_,_,e⟩=>by subst e;exact⟨rfl,rfl⟩) ⟨rfl,rfl,_,⟨A,r,c,(st.kp λx hx e=>tab x hx e).and λh' n' hn' e=>⟨by rw[e nb hb hab.1];exact g9,by omega⟩,rfl⟩,by(repeat' (first|exact aO|refine aM rfl ?_))⟩ ?_ ?_
 .rintro s hk nk G hs ⟨A1,r1,c1,k1,rfl⟩
  obtain⟨b1,o1,cd,i1,hcd,hb1,rd⟩:=k1.use.1.dL (k:=(s:Nat)) (by omega) (by omega) (by omega);rw[show((s:Nat):Int).toNat=s by omega]at hcd;obtain⟨q1,q2,_⟩:=hst cd (List.mem_of_getElem? hcd);obtain⟨i,hi⟩:=Int.eq_ofNat_of_zero_le q1;simp (disch:=omega) only[go_sem,simprocAttr,I4,aJ i1,rd.all,bU.av];generalize hz:(Tr.set (Tr.set hk _ _) nk _)=h8;have u8:Up hk nk h8 (nk+1):=by rw[<-hz];exact aH
  clear hz;have c8:=c1.more u8;rw[DX,hi];show CW (EF (K+402)) 296 [.i .i64 (k:Nat),.i .i64 (i:Nat),.p rb 0,.p ab 0] _ _ _;refine Eu K c8.uf (by omega) (by omega) λA2 r2 h2 n2 u2 mr _ l2 x2=>?_;simp (disch:=omega) only[go_sem,simprocAttr];exact⟨rfl,rfl,_,⟨A2,r2,c8.join u2 mr l2 x2,(k1.up u8).on l2 x2,rfl⟩,by(repeat' (first|exact aO|refine aM rfl ?_))⟩
 .rintro hk nk G ⟨A1,r1,c1,k1,rfl⟩
  unfold mC3;simp (disch:=omega) only[go_sem,simprocAttr,Em,k1.use.2.1,aG.av];rw[aR];refine I9 (K+401) kc t λv4 h4 n4 u4 s4 b4=>?_;have c4:=c1.more u4;have hnl:kc.nums.length<=3:=by unfold aG.nums;split<;>simp
  have Nz:=c1.uf.Nz;have Nv:=c1.Nv;simp (disch:=omega) only[go_sem,simprocAttr,s4.len];refine bP kc.nums.length (λs hk nk G=>∃A r m,KT h n ab rb mb v C A r m w k (k+1) hk nk/\(∀a∈kc.nums.take s,∃u:Nat,jD m a=some (.i .i64 (u:Nat))/\r u=r k)/\Kp (λx=>x=ab\/x=mb) hk nk (λh n=>SL h n 1 v4 iw kc.nums)/\G=[(1,.p n 0),(7,.p rb 0),(8,.f 296 [.p rb 0,.p ab 0]),(9,.b w),(10,.m mb),(43,v.k),(44,.i .i64 (N:Nat)),(45,.i .i64 (k:Nat)),(11,.i .i64 (k:Nat)),(68,v4)]) (by omega) (by omega) (by omega) (by omega) (λk h8 n8 G ⟨_,_,_,_,_,_,e⟩=>by subst e;exact⟨rfl,rfl⟩) ⟨rfl,rfl,_,⟨A1,r1,m,c4,(λa ha=>by simp at ha),s4.kp λx hx e=>by have:=b4 x hx;omega,rfl⟩,by(repeat' (first|exact aO|refine aM rfl ?_))⟩ ?_ ?_
  .rintro s h5 n5 G hs ⟨A5,r5,m5,c5,sn5,k5,rfl⟩
   obtain⟨b1,o1,a,i1,ha,hb1,rd⟩:=k5.use.dL (k:=(s:Nat)) (by omega) (by omega) (by omega);rw[show((s:Nat):Int).toNat=s by omega]at ha;have lk:=c5.mp.look (k:=a) Jh (z:=some (.i .i64 0)) (ok:=true) rfl;have htk:∀a'∈kc.nums.take (s+1),a'∈kc.nums.take s\/a'=a:=λa' h=>by
    rw[List.take_add_one,ha]at h;simpa using h
   cases hal:jD m5 a with
   |some x=>
    obtain⟨u,hu,rfl⟩:=c5.vals a x hal;rw[hal]at lk;simp only[bD]at lk;simp (disch:=omega) only[go_sem,simprocAttr,IZ,aJ i1,rd.el,rd.hd,lk];rw[DX];show CW (EF (K+402)) 296 [.i .i64 (u:Nat),.i .i64 (k:Nat),.p rb 0,.p ab 0] _ _ _;refine Eu K c5.uf (by omega) (by omega) λA2 r2 h2 n2 u2 mr req l2 x2=>?_;simp (disch:=omega) only[go_sem,simprocAttr];refine⟨rfl,rfl,_,⟨A2,r2,m5,c5.join u2 mr l2 x2,λa' h=>?_,k5.on l2 λx hx hne=>x2 x hx λe=>hne (.inl e),rfl⟩,by(repeat' (first|exact aO|refine aM rfl ?_))⟩;rcases htk a' h with h|rfl
    .exact(sn5 a' h).imp λu e=>⟨e.1,mr _ _ e.2⟩
    .exact⟨u,hal,req⟩
   |none=>
    rw[hal]at lk;simp only[bD]at lk;obtain⟨o,up1,mp6⟩:=c5.mp.put (n:=n5) (k:=a) Jh (.i .i64 (k:Nat));simp (disch:=omega) only[go_sem,simprocAttr,IZ,aJ i1,rd.el,rd.hd,lk,up1];refine⟨rfl,rfl,_,⟨A5,r5,_,c5.put mp6 hal (by omega),λa' h=>?_,k5.set (.inl (.inr rfl)) (Nat.le_refl _),rfl⟩,by(repeat' (first|exact aO|refine aM rfl ?_))⟩;rcases htk a' h with h|rfl
    .obtain⟨u,h1,h2⟩:=sn5 a' h
     exact⟨u,by rw[lU,if_neg (λe=>by rw[e,hal]at h1;cases h1)];exact h1,h2⟩
    .exact⟨k,by rw[lU,if_pos rfl],rfl⟩
  .rintro h5 n5 G ⟨A5,r5,m5,c5,sn5,k5,rfl⟩
   rw[List.take_length]at sn5;simp (disch:=omega) only[go_sem,simprocAttr];refine⟨rfl,rfl,_,⟨A5,r5,m5,⟨c5.uf,c5.mp,c5.vals,λj kc' hj hk'=>?_,c5.all,c5.up,c5.box,c5.Nv,c5.d⟩,rfl⟩,by(repeat' (first|exact aO|refine aM rfl ?_))⟩;by_cases e:j=k
   .subst e;rw[hkc]at hk';cases hk';exact sn5
   .exact c5.seen j kc' (by omega) hk'
theorem BN(K:Nat)(hC:aY h n v C)(ho:C.off.length<=1000000)(hv:C.valid=true)(hQ:∀P pv h' n',xO C P->Up h n h' n'->Gg h' n' n pv P->Q pv h' n'):CW (EF (K+403)) 284 [.agg (v.av C)] h n Q:=by
 have ok:=ay.ok hv;have:=ok.dJ;have:=ok.iX;refine aC c130 rfl ?_;simp (disch:=omega) only[go_sem,simprocAttr,adg,CS.av];rw[aR];refine qM _ (hC.up aH) ho λei h2 n2 u2=>?_;have e2:=u2.le;have g2:h2.get n=some (.row 27 (v.av C)):=by rw[u2.old _ (by omega)];exact aF
 have ux:Up h n h2 n2:=by exact aH
 clear u2;rw[(nG C).2 hv];simp (disch:=omega) only[go_sem,simprocAttr,g2,CS.av,hC.lk];generalize hz:Tr.set h2 n2 _=h3;have u3:Up h2 n2 h3 (n2+1):=by rw[<-hz];exact aH
 have g3:h3.get n2=some (.row 434 ((xR 0).flatMap cn)):=by rw[<-hz,aF];kernel_rfl
 clear hz;refine bP C.clauses.length (λk hk nk G=>hk.get n2=some (.row 434 ((xR k).flatMap cn))/\nk=n2+1/\(∀x,x≠n2->hk.get x=h3.get x)/\G=[(1,.p n 0),(5,.p n2 0)]) (by omega) (by omega) (by omega) (by omega) (λk h8 n8 G ⟨_,_,_,e⟩=>by subst e;exact⟨rfl,rfl⟩) ⟨rfl,rfl,_,⟨g3,rfl,λ_ _=>rfl,rfl⟩,by(repeat' (first|exact aO|refine aM rfl ?_))⟩ ?_ ?_
 .rintro k hk nk G hkN ⟨gk,rfl,sk,rfl⟩
  have st:=Zg (A:=xR k) (i:=k) (x:=k) (by rw[nM];omega);rw[QN (by omega)]at st;simp (disch:=omega) only[go_sem,simprocAttr,Qw,uq,Int.toNat_natCast,gk,st,Option.map_some];exact⟨rfl,rfl,_,⟨aF,rfl,λx hx=>by rw[au hx];exact sk x hx,rfl⟩,by(repeat' (first|exact aO|refine aM rfl ?_))⟩
 rintro h4 n4 G ⟨g4,rfl,s4,rfl⟩;have u4:Up h n h4 (n2+1):=⟨by omega,λx hx=>by rw[s4 x (by omega),u3.old x (by omega),ux.old x hx]⟩;have q4:h4.get n=some (.row 27 (v.av C)):=by rw[s4 n (by omega),u3.old n (by omega)];exact g2
 simp (disch:=omega) only[go_sem,simprocAttr,q4,CS.av];generalize hz:(Tr.set (Tr.set h4 _ _) (n2+1) _)=h5;have u5:Up h4 (n2+1) h5 (n2+1+1):=by rw[<-hz];exact aH
 have g5:h5.get (n2+1)=some (.row 430 [.f 295 [.p n2 0,.p (n2+1) 0]]):=by rw[<-hz,aF]
 clear hz;have PE:=u4.trans u5;rw[aR];refine Ul _ (hC.acts.up PE) (by omega) λw h6 n6 hw u6=>?_;have e6:=u6.le;have q6:h6.get n=some (.row 27 (v.av C)):=by rw[u6.old n (by omega),u5.old n (by omega)];exact q4
 have uf6:UF h6 n6 n2 (n2+1) (xR C.clauses.length) (λi=>if i<C.clauses.length/\i<400 then i else 0):=⟨by rw[u6.old _ (by omega),u5.old _ (by omega)];exact g4,by rw[u6.old _ (by omega)];exact g5,nM _,Ji _,by omega,by omega,by omega⟩;simp (disch:=omega) only[go_sem,simprocAttr,q6,CS.av,hC.lk];have c0:KT h n n2 (n2+1) n6 v C (xR C.clauses.length) (λi=>if i<C.clauses.length/\i<400 then i else 0) [] w 0 0 (Tr.set h6 n6 (.mp [] 0)) (n6+1):=⟨uf6.up aH,qK.new _,(λa x e=>by cases e),(λj kc hj=>absurd hj (by omega)),(λ_ j hj=>absurd hj (by omega)),by exact aH,by rw[au (by omega)];exact q6,by omega,by omega⟩;generalize Tr.set h6 n6 _=h7 at*;refine bP C.clauses.length (CmI h n n2 (n2+1) n6 v C w) (by omega) (by omega) (by omega) (by omega) (λk h8 n8 G ⟨_,_,_,_,e⟩=>by subst e;exact⟨rfl,rfl⟩) ⟨rfl,rfl,_,⟨_,_,_,c0,rfl⟩,by(repeat' (first|exact aO|refine aM rfl ?_))⟩ ?_ ?_
 .rintro k hk nk G hkN ⟨A,r,m,c,rfl⟩
  simp (disch:=omega) only[go_sem,simprocAttr,Em];refine oF hC (by omega) (by omega) λb o kc t hkc hb st rd=>?_;rw[show((k:Nat):Int).toNat=k by omega]at hkc;simp (disch:=omega) only[go_sem,simprocAttr,c.up.old b hb,rd.all,aG.av];generalize hz:(Tr.set (Tr.set hk _ _) nk _)=h8;have u8:Up hk nk h8 (nk+1):=by rw[<-hz];exact aH
  have g8:h8.get nk=some (.row 122 (kc.av t)):=by rw[<-hz,aF]
  clear hz;have c8:=c.more u8;have tab:∀x,blk t x->x≠n2:=λx hx=>by have:=st.fK hx;omega
  have s8:=st.up (c.up.trans u8);have nkg:n6<nk:=c.Nv;cases w with
  |false=>
   simp (disch:=omega) only[go_sem,simprocAttr,g8,aG.av,s8.len];exact Ct hv hkc rfl ⟨c8.uf,c8.mp,c8.vals,c8.seen,(λe=>by cases e),c8.up,c8.box,c8.Nv,c8.d⟩ s8 g8 (by omega) (by omega) (by omega) tab
  |true=>
   simp (disch:=omega) only[go_sem,simprocAttr];rw[DX];show CW (EF (K+402)) 296 [.i .i64 ((0:Nat):Int),.i .i64 (k:Nat),.p (n2+1) 0,.p n2 0] _ _ _;refine Eu K c8.uf (by omega) (by omega) λA2 r2 h9 n9 u9 mr req l9 x9=>?_;have g9:=(x9 nk (by omega) (by omega)).trans g8;have s9:=(s8.kp (X:=λx=>x=n2) λx hx e=>tab x hx e).on l9 x9;have c9:=c8.join u9 mr l9 x9;simp (disch:=omega) only[go_sem,simprocAttr,g9,aG.av,s9.use.len];refine Ct hv hkc rfl ⟨c9.uf,c9.mp,c9.vals,c9.seen,λ_ j hj=>?_,c9.up,c9.box,c9.Nv,c9.d⟩ s9.use g9 (by omega) (by omega) (by omega) tab;by_cases e:j=k
   .subst e;exact req.symm
   .exact c9.all rfl j (by omega)
 .rintro hk nk G ⟨A,r,m,c,rfl⟩
  have fn:=c.uf.fn;simp (disch:=omega) only[go_sem,simprocAttr,c.box,CS.av,hC.lk,fn];rw[aR];refine ML K (N:=C.clauses.length) c.uf (by omega) λA' mm P pv h8 n8 u8 ga hP rows l8 x8=>?_;simp (disch:=omega) only[go_sem,simprocAttr];have:=c.up.le;refine hQ P pv _ _ (xO.of hP c.uf.roots ga (λe i hi=>c.all (hw.2 e) i hi) λi j k k' hk hk' t ht ht'=>?_) ⟨by omega,λx hx=>by rw[x8 x (by omega) (by omega)];exact c.up.old x hx⟩ (rows.lo (by omega));obtain⟨u,e1,e2⟩:=c.seen i k (List.getElem?_eq_some_iff.1 hk).1 hk t ht;obtain⟨u',e3,e4⟩:=c.seen j k' (List.getElem?_eq_some_iff.1 hk').1 hk' t ht';rw[e1]at e3;have e5:u=u':=by simp at e3;omega
  rw[<-e2,<-e4,e5]
end
end
end Go.Proofs.YtfnnplicbjeifaaGreatDoor

/- part -/
import Derived.Test.YtfnnplicbjeifaaGreatDoorP05
set_option linter.all false
namespace Go.Proofs.YtfnnplicbjeifaaGreatDoor
section
noncomputable section
section
variable {h h':AH} {n n':Nat} {v:CS} {C:ay} {tv:TS} {s:aI} {p:aN} {party:Int} {ps:List (TS×aN)} {wv:List AV} {M:List (List (Int×Nat))} {Q:AV->AH->Nat->Prop}
def jv(C:ay)(s:aI)(p:Int)(i:Nat):Bool:=match s.marks[i]?,C.clauses[i]? with|some m,some k=>iN k m p|_,_=>false
theorem jX(C:ay)(s:aI)(p:Int):anyFailed C s p=(List.range s.marks.length).any (jv C s p):=rfl
theorem TU(K:Nat)(hC:aY h n v C)(hS:bI h n tv s)(so:aK C s)(hQ:∀h' n',Up h n h' n'->Q (.b (anyFailed C s party)) h' n'):CW (EF (K+1)) 156 [.agg (v.av C),.agg (tv.av s),.i .i64 party] h n Q:=by
 have ok:=ay.ok so.con;have:=so.lm;have:=ok.dJ;refine aC c182 rfl ?_;repeat' (first|(simp (disch:=omega) only[go_sem,simprocAttr,acL,CS.av,TS.av,hS.marks.len])|(refine aS ?_ ?_<;>(intro hb hd;rw[hb];clear hb))|(with_reducible refine aj ?_))
 have u0:∀h0,h0=(Tr.set h n (.row 27 (v.av C))).set (n+1) (.row 77 (tv.av s))->Up h n h0 (n+2):=λh0 e=>by rw[e];exact aH
 have g0:∀h0,h0=(Tr.set h n (.row 27 (v.av C))).set (n+1) (.row 77 (tv.av s))->h0.get n=some (.row 27 (v.av C)):=λh0 e=>by rw[e];simp (disch:=omega) only[go_sem]
 have u0:=u0 _ rfl;have g0:=g0 _ rfl;refine bP s.marks.length (λk h3 n3 G=>(List.range k).any (jv C s party)=false/\Up h n h3 n3/\n+2<=n3/\h3.get n=some (.row 27 (v.av C))/\G=[(2,.i .i64 party),(3,.p n 0),(10,tv.m)]) (by omega) (by omega) (by omega) (by omega) (λk h8 n8 G ⟨_,_,_,_,e⟩=>by subst e;exact⟨rfl,rfl⟩) ⟨rfl,rfl,_,⟨rfl,u0,Nat.le_refl _,g0,rfl⟩,by(repeat' (first|exact aO|refine aM rfl ?_))⟩ ?_ ?_
 .rintro k h3 n3 G hk ⟨hno,u3,l3,r3,rfl⟩
  obtain⟨b1,o1,a,i1,ha,hb1,rd⟩:=(hS.marks.up u3).dL (k:=(k:Nat)) (by omega) (by omega) (by omega);rw[show((k:Nat):Int).toNat=k by omega]at ha;repeat' (first|(simp (disch:=omega) only[go_sem,simprocAttr,aJ i1,rd.el,rd.hd,rd.all,r3,CS.av])|(refine aS ?_ ?_<;>(intro hb hd;rw[hb];clear hb))|(with_reducible refine aj ?_))
  refine oF (hC.up u3) (by omega) (by omega) λb2 o2 kc t hkc hb2 _ eP=>?_;rw[show((k:Nat):Int).toNat=k by omega]at hkc;have hfa:jv C s party k=iN kc a party:=by unfold jv;rw[ha,hkc]
  have Oo:jv C s party k=false->(List.range (k+1)).any (jv C s party)=false:=λe=>by
   rw[List.range_succ,List.any_append,hno];simp[e]
  have hit:jv C s party k=true->anyFailed C s party=true:=λe=>by
   rw[jX,List.any_eq_true];exact⟨k,List.mem_range.2 hk,e⟩
  repeat' (first|(simp (disch:=omega) only[go_sem,simprocAttr,eP.el,eP.hd])|(refine aS ?_ ?_<;>(intro hb hd;rw[hb];clear hb))|(with_reducible refine aj ?_))
  .have e:=hit (by rw[hfa];unfold iN;simp[*])
   rw[e]at hQ;exact hQ _ _ aH
  all_goals exact⟨rfl,rfl,_,⟨Oo (by rw[hfa];unfold iN;simp[*]),by exact aH,by omega,by simp (disch:=omega) only[go_sem,r3],rfl⟩,by(repeat' (first|exact aO|refine aM rfl ?_))⟩
 .rintro h3 n3 G ⟨hno,u3,_,_,rfl⟩
  repeat' (first|(simp (disch:=omega) only[go_sem,simprocAttr])|(refine aS ?_ ?_<;>(intro hb hd;rw[hb];clear hb))|(with_reducible refine aj ?_))
  rw[jX,hno]at hQ;exact hQ _ _ u3
@[reducible] def oL (party:Int) (v w:AV):List AV:=[.i .i64 party,v,w]
theorem bZ.tgt{P:List aN}(a:bZ C party p P M){i:Nat}{l:List (Int×Nat)}{m:Int}{j:Nat}(hl:M[i]?=some l)(hm:(m,j)∈l):j<P.length:=by
 have hi:i<P.length:=by rw[<-a.len];exact(List.getElem?_eq_some_iff.1 hl).1
 obtain⟨r,h1,_⟩:=a.back (List.getElem?_eq_some_iff.2 ⟨hi,rfl⟩) hl hm;exact(List.getElem?_eq_some_iff.1 h1).1
theorem BL(K:Nat){vv ww:AV}(hC:aY h n v C)(ho:C.off.length<=1000000)(ai:uD h n vv ww ps wv M)(ia:bZ C party p (ps.map (·.2)) M)(h0:0<=party)(h1:party<C.aD)(so:∀x∈ps,aK C x.2.st)(hQ:∀h' n',Up h n h' n'->Q (.b true) h' n'):CW (EF (K+8)) 155 [.agg (v.av C),.agg (oL party vv ww)] h n Q:=by
 have hsm:=ia.small;have hlen:=ia.len;have hl2:=ai.len;rw[List.length_map]at hsm hlen;refine aC ajr rfl ?_;repeat' (first|(simp (disch:=omega) only[go_sem,simprocAttr,acM,CS.av,ai.row.len,ai.pos.len])|(refine aS ?_ ?_<;>(intro hb hd;rw[hb];clear hb))|(with_reducible refine aj ?_))
 .omega
 .omega
 .omega
 have u0:∀h0,h0=(Tr.set h n (.row 27 (v.av C))).set (n+1) (.row 147 (oL party vv ww))->Up h n h0 (n+2)/\h0.get n=some (.row 27 (v.av C))/\h0.get (n+1)=some (.row 147 (oL party vv ww)):=λh0 e=>by
  rw[e];exact⟨by exact aH,by simp (disch:=omega) only[go_sem],by simp (disch:=omega) only[go_sem]⟩
 obtain⟨u0,g0,g1⟩:=u0 _ rfl;refine bP ps.length (λk h3 n3 G=>Up h n h3 n3/\n+2<=n3/\h3.get n=some (.row 27 (v.av C))/\h3.get (n+1)=some (.row 147 (oL party vv ww))/\G=[(2,.p n 0),(3,.p (n+1) 0),(29,vv)]) (by omega) (by omega) (by omega) (by omega) (λk h8 n8 G ⟨_,_,_,_,e⟩=>by subst e;exact⟨rfl,rfl⟩) ⟨rfl,rfl,_,⟨u0,Nat.le_refl _,g0,g1,rfl⟩,by(repeat' (first|exact aO|refine aM rfl ?_))⟩ ?_ ?_
 .rintro k h3 n3 G hk ⟨u3,l3,r3,r4,rfl⟩
  obtain⟨b1,o1,x,i1,hx,hb1,rd⟩:=(ai.pos.up u3).dL (k:=(k:Nat)) (by omega) (by omega) (by omega);obtain⟨b2,o2,y,i2,hy,hb2,eP⟩:=(ai.row.up u3).dL (k:=(k:Nat)) (by omega) (by omega) (by omega);rw[show((k:Nat):Int).toNat=k by omega]at hx hy;obtain⟨l,hl⟩:∃l,M[k]?=some l:=⟨M[k]'(by omega),List.getElem?_eq_some_iff.2 ⟨by omega,rfl⟩⟩;have sl:=ai.mv k y l hy hl;have hll:l.length<=100:=by
   have hP:(ps.map (·.2))[k]?=some x.2:=by rw[List.getElem?_map,hx];rfl
   have e1:=(ia.mv k x.2 l hP hl).1;have e3:=lW C party x.2;have:=(ay.ok (so x (List.mem_of_getElem? hx)).con).iX;omega
  repeat' (first|(simp (disch:=omega) only[go_sem,simprocAttr,aJ i1,aJ i2,rd.all,eP.el,eP.hd,r4,sl.len])|(refine aS ?_ ?_<;>(intro hb hd;rw[hb];clear hb))|(with_reducible refine aj ?_))
  have u4:∀h0,h0=(Tr.set h3 n3 (.row 114 [.i .i64 0,.k 1,.k 1,.k 1,.b false])).set n3 (.row 114 (pJ x))->Up h3 n3 h0 (n3+1)/\h0.get n3=some (.row 114 (pJ x)):=λh0 e=>by
   rw[e];exact⟨by exact aH,aF⟩
  obtain⟨u4,g4⟩:=u4 _ rfl;generalize(Tr.set h3 n3 _).set n3 _=h4 at*;refine bP l.length (λj h5 n5 G=>Up h4 (n3+1) h5 n5/\G=[(2,.p n 0),(3,.p (n+1) 0),(29,vv),(30,.i .i64 (ps.length:Nat)),(31,.i .i64 (k:Nat)),(5,.i .i64 (k:Nat)),(6,.p n3 0),(40,y)]) (by omega) (by omega) (by omega) (by omega) (λk h8 n8 G ⟨_,e⟩=>by subst e;exact⟨rfl,rfl⟩) ⟨rfl,rfl,_,⟨Up.refl _ _,rfl⟩,by(repeat' (first|exact aO|refine aM rfl ?_))⟩ ?_ ?_
  .rintro j h5 n5 G hj ⟨u5,rfl⟩
   have e5:=u5.le;obtain⟨b3,o3,z,i3,hz,hb3,nA⟩:=(sl.up ((u3.trans u4).trans u5)).dL (k:=(j:Nat)) (by omega) (by omega) (by omega);rw[show((j:Nat):Int).toNat=j by omega]at hz;have hlt:=ia.tgt hl (List.mem_of_getElem? hz);rw[List.length_map]at hlt;have r5:h5.get (n+1)=some (.row 147 (oL party vv ww)):=by rw[u5.old _ (by omega),u4.old _ (by omega)];exact r4
   repeat' (first|(simp (disch:=omega) only[go_sem,simprocAttr,aJ i3,nA.all,r5,ai.pos.len])|(refine aS ?_ ?_<;>(intro hb hd;rw[hb];clear hb))|(with_reducible refine aj ?_))
   .exfalso;omega
   .exfalso;omega
   .exact⟨rfl,rfl,_,⟨by exact aH,rfl⟩,by(repeat' (first|exact aO|refine aM rfl ?_))⟩
  .rintro h5 n5 G ⟨u5,rfl⟩
   have e5:=u5.le;have r5:h5.get n=some (.row 27 (v.av C)):=by rw[u5.old _ (by omega),u4.old _ (by omega)];exact r3
   have r6:h5.get (n+1)=some (.row 147 (oL party vv ww)):=by rw[u5.old _ (by omega),u4.old _ (by omega)];exact r4
   have r7:h5.get n3=some (.row 114 (pJ x)):=by rw[u5.old _ (by omega)];exact g4
   have u35:Up h n h5 n5:=(u3.trans u4).trans u5;have oks:C.dB x.2.st=true:=(bR C x.2.st).2 (so x (List.mem_of_getElem? hx));simp (disch:=omega) only[go_sem,simprocAttr,r5,r7,CS.av,TS.pv];rw[aR];refine gJ _ (hC.up u35) ho ((ai.st x (List.mem_of_getElem? hx)).up u35) λh6 n6 u6=>?_;have e6:=u6.le;repeat' (first|(simp (disch:=omega) only[go_sem,simprocAttr,oks])|(refine aS ?_ ?_<;>(intro hb hd;rw[hb];clear hb))|(with_reducible refine aj ?_))
   exact⟨rfl,rfl,_,⟨u35.trans u6,by omega,by rw[u6.old _ (by omega)];exact r5,by rw[u6.old _ (by omega)];exact r6,rfl⟩,by(repeat' (first|exact aO|refine aM rfl ?_))⟩
 .rintro h3 n3 G ⟨u3,_,_,_,rfl⟩
  repeat' (first|(simp (disch:=omega) only[go_sem,simprocAttr])|(refine aS ?_ ?_<;>(intro hb hd;rw[hb];clear hb))|(with_reducible refine aj ?_))
  exact hQ _ _ u3
end
end
end
section
noncomputable section
abbrev iw(x:Int):List AV:=[.i .i64 x]
abbrev cn(x:Nat):List AV:=[.i .i64 (x:Nat)]
theorem mM{α:Type}{c:α->List AV}(hw:∀a,(c a).length=1){l:List α}{i:Nat}{a:α}{y:AV}(hi:i<l.length)(hy:c a=[y]):st1 (i*1) y (l.flatMap c)=some ((l.set i a).flatMap c):=by
 rw[uh,<-hy];exact vM hw l i a hi
theorem oM{t:TypeId}{α:Type}{c:α->List AV}(hw:∀a,(c a).length=1){l:List α}{i:Nat}{a:α}{y:AV}(hi:l[i]?=some a)(hy:c a=[y]):pG (some (.row t (l.flatMap c))) (i*1) none=some y:=by
 have e:=w9 hw hi (j:=0) (by omega);rw[Nat.add_zero,hy]at e;exact e
structure Nw where
 rb:Nat
 ob:Nat
 bb:Nat
 b9:Nat
def Nw.mem(g:Nw)(x:Nat):Prop:=x=g.rb\/x=g.ob\/x=g.bb\/x=g.b9
structure oN(h:AH)(n:Nat)(g:Nw)(X:Nat->Prop)(A:HP)(r op:List Int)(qv:AV)(Q:List Nat)(nx:Nat)(bs:List AV)(B:List (List Nat)):Prop where
 rr:h.get g.rb=some (.row 3 (r.flatMap iw))
 ro:h.get g.ob=some (.row 3 (op.flatMap iw))
 rq:h.get g.b9=some (.row 322 [qv,.i .i64 (nx:Nat)])
 rf:h.get g.bb=some (.row 22 (bs.flatMap one))
 gq:Gr h n 3 1 qv cn Q
 lb:bs.length=B.length
 gb:∀(j:Nat)(y:AV)(l:List Nat),bs[j]?=some y->B[j]?=some l->Gr h n 3 1 y cn l
 d1:g.rb≠g.ob/\g.rb≠g.bb/\g.rb≠g.b9/\g.ob≠g.bb/\g.ob≠g.b9/\g.bb≠g.b9
 d2:∀x,blk qv x->¬g.mem x
 d3:∀(j:Nat)(y:AV),bs[j]?=some y->∀x,blk y x->¬g.mem x/\¬blk qv x
 d4:∀(i j:Nat)(y z:AV),bs[i]?=some y->bs[j]?=some z->i≠j->∀x,blk y x->¬blk z x
 Xg:∀x,g.mem x->X x
 Xq:∀x,blk qv x->X x
 Xb:∀(j:Nat)(y:AV),bs[j]?=some y->∀x,blk y x->X x
 lt:∀x,X x->x<n
 A:Kp X h n A
section
variable {h h' h2 h3:AH} {n n' n2 n3:Nat} {g:Nw} {X:Nat->Prop} {A:HP} {r op:List Int} {qv:AV} {Q:List Nat} {nx:Nat} {bs:List AV} {B:List (List Nat)}
theorem oN.up(a:oN h n g X A r op qv Q nx bs B)(u:Up h n h' n'):oN h' n' g X A r op qv Q nx bs B:=
 have o:∀x,g.mem x->h'.get x=h.get x:=λx hx=>u.old x (a.lt x (a.Xg x hx))
 ⟨(o _ (.inl rfl)).trans a.rr,(o _ (.inr (.inl rfl))).trans a.ro,(o _ (.inr (.inr (.inr rfl)))).trans a.rq,(o _ (.inr (.inr (.inl rfl)))).trans a.rf,a.gq.up u,a.lb,λj y l h1 h2=>(a.gb j y l h1 h2).up u,a.d1,a.d2,a.d3,a.d4,a.Xg,a.Xq,a.Xb,λx hx=>Nat.lt_of_lt_of_le (a.lt x hx) u.le,a.A.up u⟩
theorem oN.turn(a:oN h n g X A r op qv Q nx bs B){y:Nat}(hy:g.mem y)(ob:AO):(∀x,g.mem x->x≠y->(h.set y ob).get x=h.get x)/\Gr (h.set y ob) n 3 1 qv cn Q/\(∀(j:Nat)(z:AV)(l:List Nat),bs[j]?=some z->B[j]?=some l->Gr (h.set y ob) n 3 1 z cn l)/\Kp X (h.set y ob) n A:=
 ⟨λx _ e=>au e,a.gq.on (Nat.le_refl _) λx _ hx=>au λe=>a.d2 x hx (by rw[e];exact hy),λj z l h1 h2=>(a.gb j z l h1 h2).on (Nat.le_refl _) λx _ hx=>au λe=>(a.d3 j z h1 x hx).1 (by rw[e];exact hy),a.A.set (.inl (a.Xg y hy)) (Nat.le_refl _)⟩
theorem oN.YL(a:oN h n g X A r op qv Q nx bs B)(r':List Int):oN (h.set g.rb (.row 3 (r'.flatMap iw))) n g X A r' op qv Q nx bs B:=by
 obtain⟨t1,t2,t3,t4⟩:=a.turn (y:=g.rb) (.inl rfl) (.row 3 (r'.flatMap iw));obtain⟨e1,e2,e3,e4,e5,e6⟩:=a.d1;exact⟨aF,(t1 _ (.inr (.inl rfl)) (Ne.symm e1)).trans a.ro,(t1 _ (.inr (.inr (.inr rfl))) (Ne.symm e3)).trans a.rq,(t1 _ (.inr (.inr (.inl rfl))) (Ne.symm e2)).trans a.rf,t2,a.lb,t3,a.d1,a.d2,a.d3,a.d4,a.Xg,a.Xq,a.Xb,a.lt,t4⟩
theorem oN.Ir(a:oN h n g X A r op qv Q nx bs B)(o':List Int):oN (h.set g.ob (.row 3 (o'.flatMap iw))) n g X A r o' qv Q nx bs B:=by
 obtain⟨t1,t2,t3,t4⟩:=a.turn (y:=g.ob) (.inr (.inl rfl)) (.row 3 (o'.flatMap iw));obtain⟨e1,e2,e3,e4,e5,e6⟩:=a.d1;exact⟨(t1 _ (.inl rfl) e1).trans a.rr,aF,(t1 _ (.inr (.inr (.inr rfl))) (Ne.symm e5)).trans a.rq,(t1 _ (.inr (.inr (.inl rfl))) (Ne.symm e4)).trans a.rf,t2,a.lb,t3,a.d1,a.d2,a.d3,a.d4,a.Xg,a.Xq,a.Xb,a.lt,t4⟩
theorem oN.ajw(a:oN h n g X A r op qv Q nx bs B)(m:Nat):oN (h.set g.b9 (.row 322 [qv,.i .i64 (m:Nat)])) n g X A r op qv Q m bs B:=by
 obtain⟨t1,t2,t3,t4⟩:=a.turn (y:=g.b9) (.inr (.inr (.inr rfl))) (.row 322 [qv,.i .i64 (m:Nat)]);obtain⟨e1,e2,e3,e4,e5,e6⟩:=a.d1;exact⟨(t1 _ (.inl rfl) e3).trans a.rr,(t1 _ (.inr (.inl rfl)) e5).trans a.ro,aF,(t1 _ (.inr (.inr (.inl rfl))) e6).trans a.rf,t2,a.lb,t3,a.d1,a.d2,a.d3,a.d4,a.Xg,a.Xq,a.Xb,a.lt,t4⟩
theorem oN.push(a:oN h n g X A r op qv Q nx bs B){v':AV}{i:Nat}(u:Up h n h2 n2)(gr:Gr h3 n3 3 1 v' cn (Q++[i]))(le:n2<=n3)(s:∀x,x<n2->¬blk qv x->h3.get x=h2.get x)(b:∀x,blk v' x->blk qv x\/n2<=x):
 h3.get g.b9=some (.row 322 [qv,.i .i64 (nx:Nat)])/\oN (h3.set g.b9 (.row 322 [v',.i .i64 (nx:Nat)])) n3 g (λx=>X x\/blk v' x) A r op v' (Q++[i]) nx bs B:=by
 have hn:=u.le;have old:∀x,x<n->¬blk qv x->h3.get x=h.get x:=λx hx h2=>by rw[s x (by omega) h2,u.old x hx]
 have new:∀x,blk v' x->x<n->blk qv x:=λx hx hl=>(b x hx).elim id (by omega);have ml:∀x,g.mem x->x<n:=λx hx=>a.lt x (a.Xg x hx);have om:∀x,g.mem x->h3.get x=h.get x:=λx hx=>old x (ml x hx) λk=>a.d2 x k hx;have nv:∀x,blk v' x->¬g.mem x:=λx hx k=>by
  rcases b x hx with e|e
  .exact a.d2 x e k
  .have:=ml x k;omega
 have m9:g.mem g.b9:=.inr (.inr (.inr rfl));obtain⟨e1,e2,e3,e4,e5,e6⟩:=a.d1;refine⟨(om _ m9).trans a.rq,⟨?_,?_,aF,?_,?_,a.lb,λj y l h1 h2=>?_,a.d1,nv,λj y h1 x hx=>⟨(a.d3 j y h1 x hx).1,λk=>?_⟩,a.d4,λx hx=>.inl (a.Xg x hx),λx hx=>.inr hx,λj y h1 x hx=>.inl (a.Xb j y h1 x hx),λx hx=>?_,?_⟩⟩
 .rw[au e3,om _ (.inl rfl)];exact a.rr
 .rw[au e5,om _ (.inr (.inl rfl))];exact a.ro
 .rw[au e6,om _ (.inr (.inr (.inl rfl)))];exact a.rf
 .exact gr.on (Nat.le_refl _) λx _ hx=>au λk=>nv x hx (by rw[k];exact m9)
 .exact(a.gb j y l h1 h2).on (by omega) λx hx hb=>by
   obtain⟨k1,k2⟩:=a.d3 j y h1 x hb;rw[au (λk=>k1 (by rw[k];exact m9)),old x hx k2]
 .rcases b x k with e|e
  .exact(a.d3 j y h1 x hx).2 e
  .have:=a.lt x (a.Xb j y h1 x hx);omega
 .rcases hx with hx|hx
  .have:=a.lt x hx;omega
  .exact gr.fK hx
 .refine(a.A.le λx hx (e:X x\/blk v' x)=>e.elim id λe=>a.Xq x (new x e hx)).on (by omega) λx hx e=>?_
  have e1:¬X x:=λk=>e (.inl k);rw[au (λk=>e1 (by rw[k];exact a.Xg _ m9)),old x hx λk=>e1 (a.Xq x k)]
theorem oN.pK(a:oN h n g X A r op qv Q nx bs B){v' y:AV}{i j:Nat}{l:List Nat}(hy:bs[j]?=some y)(hl:B[j]?=some l)(u:Up h n h2 n2)(gr:Gr h3 n3 3 1 v' cn (l++[i]))(le:n2<=n3)(s:∀x,x<n2->¬blk y x->h3.get x=h2.get x)(b:∀x,blk v' x->blk y x\/n2<=x):
 h3.get g.bb=some (.row 22 (bs.flatMap one))/\oN (h3.set g.bb (.row 22 ((bs.set j v').flatMap one))) n3 g (λx=>X x\/blk v' x) A r op qv Q nx (bs.set j v') (B.set j (l++[i])):=by
 have hn:=u.le;have old:∀x,x<n->¬blk y x->h3.get x=h.get x:=λx hx h2=>by rw[s x (by omega) h2,u.old x hx]
 have new:∀x,blk v' x->x<n->blk y x:=λx hx hl=>(b x hx).elim id (by omega);have ml:∀x,g.mem x->x<n:=λx hx=>a.lt x (a.Xg x hx);have om:∀x,g.mem x->h3.get x=h.get x:=λx hx=>old x (ml x hx) λk=>(a.d3 j y hy x k).1 hx;have nv:∀x,blk v' x->¬g.mem x/\¬blk qv x:=λx hx=>by
  rcases b x hx with e|e
  .exact a.d3 j y hy x e
  .exact⟨λk=>by have:=ml x k;omega,λk=>by have:=a.lt x (a.Xq x k);omega⟩
 have mb:g.mem g.bb:=.inr (.inr (.inl rfl));have hjl:j<bs.length:=(List.getElem?_eq_some_iff.1 hy).1;have get:∀(k:Nat)(z:AV),(bs.set j v')[k]?=some z->(k=j/\z=v')\/(k≠j/\bs[k]?=some z):=λk z e=>by
  rw[List.getElem?_set]at e;by_cases h:j=k
  .rw[if_pos h,if_pos hjl]at e;exact .inl ⟨h.symm,by cases e;rfl⟩
  .rw[if_neg h]at e;exact .inr ⟨λk=>h k.symm,e⟩
 have nz:∀(k:Nat)(z:AV),k≠j->bs[k]?=some z->∀x,blk v' x->¬blk z x:=λk z hk hz x hx kx=>by
  rcases b x hx with e|e
  .exact a.d4 j k y z hy hz (Ne.symm hk) x e kx
  .have:=a.lt x (a.Xb k z hz x kx);omega
 obtain⟨e1,e2,e3,e4,e5,e6⟩:=a.d1;refine⟨(om _ mb).trans a.rf,⟨?_,?_,?_,aF,?_,by simp[a.lb],λk z l' h1 h2=>?_,a.d1,a.d2,λk z h1 x hx=>?_,λk m z w h1 h2 hkm x hx=>?_,λx hx=>.inl (a.Xg x hx),λx hx=>.inl (a.Xq x hx),λk z h1 x hx=>?_,λx hx=>?_,?_⟩⟩
 .rw[au e2,om _ (.inl rfl)];exact a.rr
 .rw[au e4,om _ (.inr (.inl rfl))];exact a.ro
 .rw[au (Ne.symm e6),om _ (.inr (.inr (.inr rfl)))];exact a.rq
 .exact a.gq.on (by omega) λx hx hb=>by
   rw[au (λk=>a.d2 x hb (by rw[k];exact mb)),old x hx λk=>(a.d3 j y hy x k).2 hb]
 .rcases get k z h1 with⟨rfl,rfl⟩|⟨hk,hz⟩
  .rw[List.getElem?_set,if_pos rfl,if_pos (by rw[<-a.lb];exact hjl)]at h2
   cases h2
   exact gr.on (Nat.le_refl _) λx _ hx=>au λe=>(nv x hx).1 (by rw[e];exact mb)
  .rw[List.getElem?_set,if_neg (Ne.symm hk)]at h2
   exact(a.gb k z l' hz h2).on (by omega) λx hx hb=>by
    rw[au (λe=>(a.d3 k z hz x hb).1 (by rw[e];exact mb)),old x hx λe=>a.d4 j k y z hy hz (Ne.symm hk) x e hb]
 .rcases get k z h1 with⟨rfl,rfl⟩|⟨hk,hz⟩
  .exact nv x hx
  .exact a.d3 k z hz x hx
 .rcases get k z h1 with⟨rfl,rfl⟩|⟨hk,hz⟩
  .rcases get m w h2 with⟨rfl,rfl⟩|⟨hm,hw⟩
   .exact absurd rfl hkm
   .exact nz m w hm hw x hx
  .rcases get m w h2 with⟨rfl,rfl⟩|⟨hm,hw⟩
   .exactλe=>nz k z hk hz x e hx
   .exact a.d4 k m z w hz hw hkm x hx
 .rcases get k z h1 with⟨rfl,rfl⟩|⟨hk,hz⟩
  .exact .inr hx
  .exact .inl (a.Xb k z hz x hx)
 .rcases hx with hx|hx
  .have:=a.lt x hx;omega
  .exact gr.fK hx
 .refine(a.A.le λx hx (e:X x\/blk v' x)=>e.elim id λe=>a.Xb j y hy x (new x e hx)).on (by omega) λx hx e=>?_
  have e1:¬X x:=λk=>e (.inl k);rw[au (λk=>e1 (by rw[k];exact a.Xg _ mb)),old x hx λk=>e1 (a.Xb j y hy x k)]
theorem oN.wP{A':HP}(a:oN h n g X A r op qv Q nx bs B)(k:Kp X h n A'):oN h n g X A' r op qv Q nx bs B:=
 ⟨a.rr,a.ro,a.rq,a.rf,a.gq,a.lb,a.gb,a.d1,a.d2,a.d3,a.d4,a.Xg,a.Xq,a.Xb,a.lt,k⟩
theorem KM(K:Nat){i:Nat}{R:AV->AH->Nat->Prop}(a:oN h n g X A r op qv Q nx bs B)(hl:Q.length<=100000)(hR:∀v' X' h' n',oN h' n' g X' A r op v' (Q++[i]) nx bs B->n<=n'->(∀x,x<n->¬X x->h'.get x=h.get x)->(∀x,X x->X' x)->(∀x,X' x->X x\/n<=x)->R (.bJ []) h' n'):CW (EF (K+1)) 157 [.p g.b9 0,.i .i64 (i:Nat)] h n R:=by
 have rq:=a.rq;refine aC c183 rfl ?_;simp (disch:=omega) only[go_sem,simprocAttr,acN,rq];refine jq (l2:=[i]) (a.gq.up aH) ⟨rfl,?_⟩ (by simp;omega) λv' h4 n4 g4 l4 s4 b4=>?_
 .show bnd (iI (Tr.get _ _) 0 _) (λr=>mP (Nat.mul 1 1) r)=_
  rw[aF];rfl
 obtain⟨q1,q2⟩:=a.push (show Up h n _ (n+1) by exact aH) g4 l4 s4 b4;simp (disch:=omega) only[go_sem,simprocAttr,q1,g4.cl];refine hR _ _ _ _ q2 (by omega) (λx hx hX=>?_) (λx hx=>.inl hx) λx hx=>?_
 .rw[au (λe=>hX (by rw[e];exact a.Xg _ (.inr (.inr (.inr rfl))))),s4 x (by omega) (λe=>hX (a.Xq x e)),au (by omega)]
 .rcases hx with e|e
  .exact .inl e
  .rcases b4 x e with e|e
   .exact .inl (a.Xq x e)
   .exact .inr (by omega)
theorem Qj(K:Nat){R:AV->AH->Nat->Prop}(a:oN h n g X A r op qv Q nx bs B)(hl:Q.length<=100000)(hnx:nx<=Q.length)(hR1:nx=Q.length->R (.bJ [.i .i64 0,.b false]) h n)
 (hR2:∀to,Q[nx]?=some to->oN (h.set g.b9 (.row 322 [qv,.i .i64 ((nx+1:Nat):Int)])) n g X A r op qv Q (nx+1) bs B->R (.bJ [.i .i64 (to:Nat),.b true]) (h.set g.b9 (.row 322 [qv,.i .i64 ((nx+1:Nat):Int)])) n):CW (EF (K+1)) 160 [.p g.b9 0] h n R:=by
 have rq:=a.rq;refine aC ajs rfl ?_;by_cases hn:nx=Q.length
 .have hd:decide ((nx:Int)=(Q.length:Int))=true:=decide_eq_true (by omega)
  repeat' (first|(simp (disch:=omega) only[go_sem,simprocAttr,YJ,rq,a.gq.len,hd])|(refine aS ?_ ?_<;>(intro hb hd;rw[hb];clear hb))|(with_reducible refine aj ?_))
  exact hR1 hn
 .have hd:decide ((nx:Int)=(Q.length:Int))=false:=decide_eq_false (by omega)
  have w1:gN .i64 ((nx:Int)+1)=((nx+1:Nat):Int):=by rw[dI (by omega) (by omega)];rfl
  have w2:gN .i64 (((nx+1:Nat):Int) - 1)=(nx:Int):=by rw[dI (by omega) (by omega)];omega
  have a2:=a.ajw (nx+1);have rq2:=a2.rq;obtain⟨b1,o1,x,i1,hx,hb1,rd⟩:=a2.gq.sl.dL (k:=(nx:Nat)) (by omega) (by omega) (by omega);rw[show((nx:Nat):Int).toNat=nx by omega]at hx;repeat' (first|(simp (disch:=omega) only[go_sem,simprocAttr,YJ,rq,a.gq.len,hd,w1])|(refine aS ?_ ?_<;>(intro hb hd;rw[hb];clear hb))|(with_reducible refine aj ?_))
  repeat' (first|(simp (disch:=omega) only[go_sem,simprocAttr,rq2,w2,i1,rd.el,rd.hd])|(refine aS ?_ ?_<;>(intro hb hd;rw[hb];clear hb))|(with_reducible refine aj ?_))
  exact hR2 _ hx a2
theorem Cm(K:Nat){b6 i:Nat}{x:Int}{R:AV->AH->Nat->Prop}(a:oN h n g X A r op qv Q nx bs B)(hl:Q.length<=100000)(h6:∀h n,A h n->h.get b6=some (.row 22 [.sl g.rb 0 0 r.length (some r.length)]))(hi:i<r.length)
 (hR:∀v' X' h' n',oN h' n' g X' A (r.set i x) op v' (Q++[i]) nx bs B->n<=n'->(∀x,x<n->¬X x->h'.get x=h.get x)->(∀x,X x->X' x)->(∀x,X' x->X x\/n<=x)->R (.bJ []) h' n'):CW (EF (K+2)) 158 [.i .i64 (i:Nat),.i .i64 x,.p b6 0,.p g.b9 0] h n R:=by
 have r6:=h6 _ _ a.A.use;have rr:=a.rr;have hset:=mM (c:=iw) (λ_=>rfl) (a:=x) hi rfl;refine aC ajt rfl ?_;simp (disch:=omega) only[go_sem,simprocAttr,acO,r6,b_ hi,rr,hset,Option.map_some];rw[aR];have a2:=a.YL (r.set i x);refine KM K a2 hl λv' X' h' n' a3 hn hs hX1 hX2=>?_;simp (disch:=omega) only[go_sem,simprocAttr];refine hR _ _ _ _ a3 hn (λx hx hX=>?_) hX1 hX2;rw[hs x hx hX,au λe=>hX (by rw[e];exact a.Xg _ (.inl rfl))]
structure BkA(b6 b7 b3 b14:Nat)(g:Nw)(N:Nat)(party:Int)(vv ww:AV)(ps:List (TS×aN))(h:AH)(n:Nat):Prop where
 r6:h.get b6=some (.row 22 [.sl g.rb 0 0 N (some N)])
 r7:h.get b7=some (.row 22 [.sl g.ob 0 0 N (some N)])
 r3:h.get b3=some (.row 147 (oL party vv ww))
 qP:h.get b14=some (.row 273 [.f 158 [.p b6 0,.p g.b9 0]])
 pos:SL h n 5 vv pJ ps
theorem TV(K:Nat){b6 b7 b3 b14 f to N:Nat}{party:Int}{vv ww:AV}{ps:List (TS×aN)}{x:TS×aN}{R:AV->AH->Nat->Prop}(a:oN h n g X A r op qv Q nx bs B)(hl:Q.length<=100000)(hA:∀h n,A h n->BkA b6 b7 b3 b14 g N party vv ww ps h n)
 (lr:r.length=N)(lo:op.length=N)(lp:ps.length=N)(hx:ps[f]?=some x)(hto:to<N)(ho: -1000000<=op.getD f 0/\op.getD f 0<=1000000)(hrt: -1<=rk r to/\rk r to<=1000000)(hne:f≠to\/rk r f≠ -1)
 (hR1:(rk r f≠ -1\/(x.2.own=true/\op.getD f 0 - 1≠0))->∀h' n',oN h' n' g X A r (op.set f (op.getD f 0 - 1)) qv Q nx bs B->n<=n'->(∀x,x<n->¬X x->h'.get x=h.get x)->R (.bJ []) h' n')
 (hR2:rk r f= -1->(x.2.own=false\/op.getD f 0 - 1=0)->∀v' X' h' n',oN h' n' g X' A (r.set f (rk r to+1)) (op.set f (op.getD f 0 - 1)) v' (Q++[f]) nx bs B->n<=n'->(∀x,x<n->¬X x->h'.get x=h.get x)->(∀x,X x->X' x)->(∀x,X' x->X x\/n<=x)->R (.bJ []) h' n'):
 CW (EF (K+3)) 159 [.i .i64 (f:Nat),.i .i64 (to:Nat),.p b7 0,.p b6 0,.p b3 0,.p b14 0] h n R:=by
 have hf:f<N:=by rw[<-lp];exact(List.getElem?_eq_some_iff.1 hx).1
 have ba:=hA _ _ a.A.use;have r6:=ba.r6;have r7:=ba.r7;have r3:=ba.r3;have qP:=ba.qP;have ro:=a.ro;have hfo:f<op.length:=by omega
 have hop:op[f]?=some (op.getD f 0):=by rw[List.getD_eq_getElem?_getD,List.getElem?_eq_getElem hfo];rfl
 have Qk:=oM (t:=3) (c:=iw) (λ_=>rfl) hop rfl;have w1:gN .i64 (op.getD f 0 - 1)=op.getD f 0 - 1:=dI (by omega) (by omega);have st:=mM (c:=iw) (λ_=>rfl) (a:=op.getD f 0 - 1) hfo rfl;have a2:=a.Ir (op.set f (op.getD f 0 - 1));refine aC aju rfl ?_;simp (disch:=omega) only[go_sem,simprocAttr,acP,r7,b_ hf,ro,Qk,w1,st,Option.map_some];have us:∀x,x<n->¬X x->(h.set g.ob (.row 3 ((op.set f (op.getD f 0 - 1)).flatMap iw))).get x=h.get x:=λx _ hX=>au λe=>hX (by rw[e];exact a.Xg _ (.inr (.inl rfl)));generalize Tr.set h g.ob _=h2 at*;clear r6 r7 r3 qP ba;have ba:=hA _ _ a2.A.use;have r6:=ba.r6;have r7:=ba.r7;have r3:=ba.r3;have qP:=ba.qP;have rr:=a2.rr;have ro2:=a2.ro;have rdf:=oM (t:=3) (c:=iw) (λ_=>rfl) (vV (r:=r) (i:=f) (by omega)) rfl;have rdt:=oM (t:=3) (c:=iw) (λ_=>rfl) (vV (r:=r) (i:=to) (by omega)) rfl;have hop2:(op.set f (op.getD f 0 - 1))[f]?=some (op.getD f 0 - 1):=by rw[List.getElem?_set,if_pos rfl,if_pos hfo]
 have TW:=oM (t:=3) (c:=iw) (λ_=>rfl) hop2 rfl;obtain⟨b1,o1,x',i1,hx',hb1,rd⟩:=ba.pos.dL (k:=(f:Nat)) (by omega) (by omega) (by omega);rw[show((f:Nat):Int).toNat=f by omega,hx]at hx';cases hx'
 have w2:gN .i64 (rk r to+1)=rk r to+1:=dI (by omega) (by omega);repeat' (first|(simp (disch:=omega) only[go_sem,simprocAttr,r6,r7,r3,qP,b_ hf,rr,ro2,rdf,TW,rdt,w2,cK hto,aJ i1,rd.el,rd.hd])|(refine aS ?_ ?_<;>(intro hb hd;rw[hb];clear hb))|(with_reducible refine aj ?_))
 all_goals first
  |(
   rename_i q1 q2;exact hR1 (.inr ⟨by assumption,hd⟩) _ _ a2 (Nat.le_refl _) us)
  |exact hR1 (.inl hd) _ _ a2 (Nat.le_refl _) us
  |(
   rw[w_];show CW _ 158 [.i .i64 (f:Nat),.i .i64 (rk r to+1),.p b6 0,.p g.b9 0] _ _ _;refine Cm K a2 hl (λh n e=>by rw[lr];exact(hA h n e).r6) (by omega) λv' X' h3 n3 a3 hn hs hX1 hX2=>?_;simp (disch:=omega) only[go_sem,simprocAttr];refine hR2 (by assumption) (by first|exact .inl hd|exact .inr hd) v' X' _ _ a3 hn (λx hx hX=>by rw[hs x hx hX,us x hx hX]) hX1 hX2)
end
end
end
section
noncomputable section
def uH(M:List (List (Int×Nat)))(k j:Nat):List Nat:=(List.range k).flatMap λi=>((mr M i).filter λx=>x.2==j).map λ_=>i
def nL(M:List (List (Int×Nat)))(k:Nat)(l:List (Int×Nat))(t j:Nat):List Nat:=uH M k j++((l.take t).filter λx=>x.2==j).map λ_=>k
theorem Ql(M:List (List (Int×Nat)))(j:Nat):pK M j=uH M M.length j:=rfl
theorem YM{M:List (List (Int×Nat))}{k:Nat}{l:List (Int×Nat)}{j:Nat}:nL M k l 0 j=uH M k j:=by simp[nL]
theorem Qm{M:List (List (Int×Nat))}{k:Nat}{l:List (Int×Nat)}{j:Nat}(h:M[k]?=some l):nL M k l l.length j=uH M (k+1) j:=by
 have:mr M k=l:=by unfold mr;rw[List.getD_eq_getElem?_getD,h];rfl
 simp[nL,uH,List.range_succ,this]
theorem Mf{M:List (List (Int×Nat))}{k t N:Nat}{l:List (Int×Nat)}{z:Int×Nat}(h:l[t]?=some z)(hz:z.2<N):(List.range N).map (nL M k l (t+1))=((List.range N).map (nL M k l t)).set z.2 (nL M k l t z.2++[k]):=by
 have key:∀j,nL M k l (t+1) j=if z.2=j then nL M k l t j++[k]else nL M k l t j:=λj=>by
  unfold nL;rw[List.take_add_one,h];simp only[Option.toList_some,List.filter_append,List.map_append];by_cases e:z.2=j
  .simp[e]
  .have:(z.2==j)=false:=by simpa using e
   simp[e,this]
 apply List.ext_getElem?;intro j;rw[List.getElem?_set];by_cases hj:j<N
 .by_cases e:z.2=j
  .subst e
   rw[if_pos rfl,if_pos (by simpa using hj),List.getElem?_map,List.getElem?_range hj,Option.map_some,key,if_pos rfl]
  .rw[if_neg e,List.getElem?_map,List.getElem?_map,List.getElem?_range hj,Option.map_some,Option.map_some,key,if_neg e]
 .have h1:((List.range N).map (nL M k l (t+1)))[j]?=none:=by simp;omega
  have h2:((List.range N).map (nL M k l t))[j]?=none:=by simp;omega
  rw[h1,if_neg (by omega),h2]
section
variable {h h':AH} {n n':Nat} {v:CS} {C:ay} {p:aN} {party:Int} {ps:List (TS×aN)} {wv:List AV} {M:List (List (Int×Nat))} {Q:AV->AH->Nat->Prop} {vv ww:AV}
theorem F6{M:List (List (Int×Nat))}{c:Nat}(h:∀i,(mr M i).length<=c)(k j:Nat):(uH M k j).length<=k*c:=by
 induction k with
 |zero=>simp[uH]
 |succ k ih=>
  have e:uH M (k+1) j=uH M k j++((mr M k).filter λx=>x.2==j).map λ_=>k:=by simp[uH,List.range_succ]
  rw[e,List.length_append,List.length_map,Nat.succ_mul];have:=List.length_filter_le (λx:Int×Nat=>x.2==j) (mr M k);have:=h k;omega
theorem Eh{D:DK}{h:AH}{n e w:Nat}{v y:AV}{α:Type}{c:α->List AV}{l l2:List α}{l':List MQ}{j r n0:Nat}{f:FT}{vs:List AV}{hs:List (Nat×AH)}{F:Fm}
 (g:Gr h n e w v c l)(hy:mR y=some l2.length/\jG h w l2.length y=some (l2.flatMap c))(hl:l.length+l2.length<=1048576)
 (q:∀v' h' n',Gr h' n' e w v' c (l++l2)->n<=n'->(∀x,x<n->¬blk v x->h'.get x=h.get x)->(∀x,blk v' x->blk v x\/n<=x)->D l' (j+1) r n0 f h' n' (v'::vs) ((j+1,h')::hs) F):dR D (some ((jS e w).run h n v y)) l' j r n0 f vs hs F:=by
 obtain⟨v',h',n',e1,e2,e3,e4,e5⟩:=g.app hy.1 hy.2 hl;rw[e1,ahE];exact q v' h' n' e2 e3 e4 e5
structure RkA(n0 b6 b7:Nat)(g:Nw)(N:Nat)(v:CS)(C:ay)(party:Int)(vv ww:AV)(ps:List (TS×aN))(wv:List AV)(M:List (List (Int×Nat)))(h:AH)(n:Nat):Prop where
 r2:h.get n0=some (.row 27 (v.av C))
 r3:h.get (n0+1)=some (.row 147 (oL party vv ww))
 r6:h.get b6=some (.row 22 [.sl g.rb 0 0 N (some N)])
 r7:h.get b7=some (.row 22 [.sl g.ob 0 0 N (some N)])
 con:aY h n v C
 ar:uD h n vv ww ps wv M
def lY(C:ay)(party:Int)(P:List aN)(j:Nat):Bool:=match P[j]? with|some q=>anyFailed C q.st party|none=>false
def pq(C:ay)(party:Int)(P:List aN)(j:Nat):Int:=if lY C party P j=true then 0 else -1
def sS(n1:Nat):Nw:=⟨n1,n1+1+1,n1+1+1+1+1,n1+1+1+1+1+1⟩
def PA(h:AH)(n n1:Nat)(v:CS)(C:ay)(party:Int)(vv ww:AV)(ps:List (TS×aN))(wv:List AV)(M:List (List (Int×Nat)))(k:Nat)(hk:AH)(nk:Nat)(G:Fm):Prop:=∃(X:Nat->Prop)(r op:List Int)(qv:AV)(bs:List AV),
 oN hk nk (sS n1) X (RkA n (n1+1) (n1+1+1+1) (sS n1) ps.length v C party vv ww ps wv M) r op qv ((List.range k).filter (lY C party (ps.map (·.2)))) 0 bs ((List.range ps.length).map (uH M k))/\r.length=ps.length/\op.length=ps.length/\
 (∀j,j<k->r[j]?=some (pq C party (ps.map (·.2)) j))/\(∀j,j<k->op[j]?=some ((mr M j).length:Int))/\Up h n hk nk/\(∀x,X x->n1<=x)/\
 G=[(2,.p n 0),(3,.p (n+1) 0),(5,.i .i64 (ps.length:Nat)),(6,.p (n1+1) 0),(7,.p (n1+1+1+1) 0),(8,.sl (n1+1+1+1+1) 0 0 ps.length (some ps.length)),(9,.p (n1+1+1+1+1+1) 0),(36,vv)]
def PB2(h:AH)(n n1 n3:Nat)(v:CS)(C:ay)(party:Int)(vv ww:AV)(ps:List (TS×aN))(wv:List AV)(M:List (List (Int×Nat)))(k:Nat)(x:TS×aN)(y qv:AV)(Qs:List Nat)(r op:List Int)(l:List (Int×Nat))(t:Nat)(hk:AH)(nk:Nat)(G:Fm):Prop:=∃(X:Nat->Prop)(bs:List AV),
 oN hk nk (sS n1) X (RkA n (n1+1) (n1+1+1+1) (sS n1) ps.length v C party vv ww ps wv M) r op qv Qs 0 bs ((List.range ps.length).map (nL M k l t))/\Up h n hk nk/\(∀x,X x->n1<=x)/\hk.get n3=some (.row 114 (pJ x))/\¬X n3/\n3<nk/\
 G=[(2,.p n 0),(3,.p (n+1) 0),(5,.i .i64 (ps.length:Nat)),(6,.p (n1+1) 0),(7,.p (n1+1+1+1) 0),(8,.sl (n1+1+1+1+1) 0 0 ps.length (some ps.length)),(9,.p (n1+1+1+1+1+1) 0),(36,vv),(37,.i .i64 (ps.length:Nat)),(38,.i .i64 (k:Nat)),(11,.p n3 0),(10,.i .i64 (k:Nat)),(59,y)]
theorem RI.start{P:List aN}{r op:List Int}(lr:r.length=P.length)(lo:op.length=P.length)(lm:M.length=P.length)(hr:∀j,j<P.length->r[j]?=some (pq C party P j))(hop:∀j,j<P.length->op[j]?=some ((mr M j).length:Int)):
 RI C party P M r op ((List.range P.length).filter (lY C party P)) [] 0/\∀i∈(List.range P.length).filter (lY C party P),rk r i<=1:=by
 have e1:∀j,j<P.length->rk r j=pq C party P j:=λj hj=>qO (hr j hj);have e2:∀j,¬j<P.length->rk r j= -1:=λj hj=>by unfold rk;rw[List.getD_eq_getElem?_getD,List.getElem?_eq_none (by omega)];rfl
 have e3:∀j p,P[j]?=some p->lY C party P j=anyFailed C p.st party:=λj p h=>by unfold lY;rw[h]
 have e4:∀j,pq C party P j=0\/pq C party P j= -1:=λj=>by unfold pq;split;exact .inl rfl;exact .inr rfl
 have lt:∀{j:Nat}{p:aN},P[j]?=some p->j<P.length:=λh=>(List.getElem?_eq_some_iff.1 h).1;have le0:∀j,rk r j<=0:=λj=>by
  by_cases hj:j<P.length
  .rw[e1 j hj];rcases e4 j with e|e<;>omega
  .rw[e2 j hj];omega
 refine⟨⟨lr,lo,lm,List.Pairwise.filter _ List.nodup_range,λi=>?_,λi=>?_,λi hi=>?_,λi p hp=>?_,λi p _ _ h=>by have:=le0 i;omega,λi p _ _ h=>by have:=le0 i;omega,?_,λi p _ _=>⟨λ_=>rfl,λh=>by omega⟩⟩,λi _=>by have:=le0 i;omega⟩
 .rw[List.mem_filter,List.mem_range]
  constructor
  .rintro⟨a,b⟩
   refine⟨a,?_⟩;rw[e1 i a];unfold pq;rw[if_pos b];omega
  .rintro⟨a,b⟩
   refine⟨a,?_⟩;rw[e1 i a]at b;unfold pq at b;cases h:lY C party P i with
   |true=>rfl
   |false=>rw[h]at b;simp at b
 .by_cases hj:i<P.length
  .rw[e1 i hj];rcases e4 i with e|e<;>omega
  .rw[e2 i hj];omega
 .rw[List.getD_eq_getElem?_getD,hop i hi];simp
 .rw[e1 i (lt hp)];unfold pq
  rw[e3 i p hp];cases anyFailed C p.st party<;>simp
 .refine List.Pairwise.imp_of_mem (R:=λ_ _=>True) (λ{a b} ha hb _=>?_) (List.pairwise_of_forall λ_ _=>trivial)
  have h1:=List.mem_filter.1 ha;have h2:=List.mem_filter.1 hb;rw[e1 a (List.mem_range.1 h1.1),e1 b (List.mem_range.1 h2.1)];unfold pq;rw[if_pos h1.2,if_pos h2.2];exact Int.le_refl _
structure Mg(n0 b6 b7 b14:Nat)(g:Nw)(N:Nat)(v:CS)(C:ay)(party:Int)(vv ww:AV)(ps:List (TS×aN))(wv:List AV)(M:List (List (Int×Nat)))(h:AH)(n:Nat):Prop where
 a:RkA n0 b6 b7 g N v C party vv ww ps wv M h n
 qP:h.get b14=some (.row 273 [.f 158 [.p b6 0,.p g.b9 0]])
theorem Mg.bk{n0 b6 b7 b14:Nat}{g:Nw}{N:Nat}(x:Mg n0 b6 b7 b14 g N v C party vv ww ps wv M h n):BkA b6 b7 (n0+1) b14 g N party vv ww ps h n:=⟨x.a.r6,x.a.r7,x.a.r3,x.qP,x.a.ar.pos⟩
def PB3(h:AH)(n n1 b14:Nat)(v:CS)(C:ay)(party:Int)(vv ww:AV)(ps:List (TS×aN))(wv:List AV)(M:List (List (Int×Nat)))(k:Nat)(hk:AH)(nk:Nat)(G:Fm):Prop:=∃(X:Nat->Prop)(r op:List Int)(qv:AV)(Qs:List Nat)(bs:List AV),
 oN hk nk (sS n1) X (Mg n (n1+1) (n1+1+1+1) b14 (sS n1) ps.length v C party vv ww ps wv M) r op qv Qs 0 bs ((List.range ps.length).map (pK M))/\RI C party (ps.map (·.2)) M r op Qs [] k/\(∀i∈Qs,rk r i<=1)/\Up h n hk nk/\(∀x,X x->n1<=x)/\b14<nk/\
 G=[(3,.p (n+1) 0),(6,.p (n1+1) 0),(7,.p (n1+1+1+1) 0),(8,.sl (n1+1+1+1+1) 0 0 ps.length (some ps.length)),(9,.p (n1+1+1+1+1+1) 0),(14,.p b14 0),(92,vv)]
def PC(h:AH)(n n1 b14:Nat)(v:CS)(C:ay)(party:Int)(vv ww:AV)(ps:List (TS×aN))(wv:List AV)(M:List (List (Int×Nat)))(m:Nat)(hk:AH)(nk:Nat)(G:Fm):Prop:=∃(X:Nat->Prop)(r op:List Int)(qv:AV)(Qs:List Nat)(bs:List AV)(nx:Nat)(D rest:List Nat)(to:Nat)(ok:Bool),
 oN hk nk (sS n1) X (Mg n (n1+1) (n1+1+1+1) b14 (sS n1) ps.length v C party vv ww ps wv M) r op qv Qs nx bs ((List.range ps.length).map (pK M))/\Up h n hk nk/\(∀x,X x->n1<=x)/\b14<nk/\
 ((ok=true/\Qs=D++to::rest/\nx=D.length+1/\RI C party (ps.map (·.2)) M r op Qs (D.flatMap (pK M)) ps.length/\(∀i∈Qs,rk r i<=rk r to+1)/\rk r to<=nx/\m+nx=ps.length+1)\/
  (ok=false/\RI C party (ps.map (·.2)) M r op Qs (Qs.flatMap (pK M)) ps.length/\m=0))/\
 G=[(3,.p (n+1) 0),(6,.p (n1+1) 0),(7,.p (n1+1+1+1) 0),(8,.sl (n1+1+1+1+1) 0 0 ps.length (some ps.length)),(9,.p (n1+1+1+1+1+1) 0),(14,.p b14 0),(17,.f 159 [.p (n1+1+1+1) 0,.p (n1+1) 0,.p (n+1) 0,.p b14 0]),(18,.i .i64 (to:Nat)),(19,.b ok)]
def PD(h:AH)(n n1 b14:Nat)(v:CS)(C:ay)(party:Int)(vv ww:AV)(ps:List (TS×aN))(wv:List AV)(M:List (List (Int×Nat)))(D:List Nat)(to:Nat)(y:AV)(bs:List AV)(t:Nat)(hk:AH)(nk:Nat)(G:Fm):Prop:=∃(X:Nat->Prop)(r op:List Int)(qv:AV)(Qs:List Nat)(rest:List Nat),
 oN hk nk (sS n1) X (Mg n (n1+1) (n1+1+1+1) b14 (sS n1) ps.length v C party vv ww ps wv M) r op qv Qs (D.length+1) bs ((List.range ps.length).map (pK M))/\Up h n hk nk/\(∀x,X x->n1<=x)/\b14<nk/\
 Qs=D++to::rest/\RI C party (ps.map (·.2)) M r op Qs (D.flatMap (pK M)++(pK M to).take t) ps.length/\(∀i∈Qs,rk r i<=rk r to+1)/\rk r to<=D.length+1/\
 G=[(3,.p (n+1) 0),(6,.p (n1+1) 0),(7,.p (n1+1+1+1) 0),(8,.sl (n1+1+1+1+1) 0 0 ps.length (some ps.length)),(9,.p (n1+1+1+1+1+1) 0),(14,.p b14 0),(17,.f 159 [.p (n1+1+1+1) 0,.p (n1+1) 0,.p (n+1) 0,.p b14 0]),(18,.i .i64 (to:Nat)),(132,y)]
theorem Qn(K:Nat)(hC:aY h n v C)(ho:C.off.length<=1000000)(ai:uD h n vv ww ps wv M)(ia:bZ C party p (ps.map (·.2)) M)(h0:0<=party)(h1:party<C.aD)(so:aK C p.st)
 (hQ:∀v' r h' n',qJ C party (ps.map (·.2)) M r->Up h n h' n'->Kp (λx=>x<n) h' n' (λh n=>SL h n 1 v' iw r)->Q v' h' n'):CW (EF (K+9)) 92 [.agg (v.av C),.agg (oL party vv ww)] h n Q:=by
 have hsm:=ia.small;have hlen:=ia.len;have hl2:=ai.len;rw[List.length_map]at hsm hlen;have VR:∀x∈ps,aK C x.2.st:=λx hx=>wH.ok so (ia.rch _ (List.mem_map_of_mem hx));have VP:∀i,(mr M i).length<=100:=λi=>by
  unfold mr;rw[List.getD_eq_getElem?_getD];cases hm:M[i]? with
  |none=>simp
  |some l=>
   have hi:i<ps.length:=by rw[<-hlen];exact(List.getElem?_eq_some_iff.1 hm).1
   have hx:ps[i]?=some ps[i]:=List.getElem?_eq_some_iff.2 ⟨hi,rfl⟩;have hP:(ps.map (·.2))[i]?=some ps[i].2:=by rw[List.getElem?_map,hx];rfl
   have e1:=(ia.mv i _ l hP hm).1;have e3:=lW C party ps[i].2;have:=(ay.ok (VR _ (List.mem_of_getElem? hx)).con).iX;show l.length<=100;omega
 refine aC c105 rfl ?_;simp (disch:=omega) only[go_sem,simprocAttr,acK,CS.av];rw[aR];refine BL _ (hC.up aH) ho (ai.up aH) ia h0 h1 VR λh1 n1 u1=>?_;have e1:=u1.le;have r2:h1.get n=some (.row 27 (v.av C)):=by rw[u1.old _ (by omega)];simp (disch:=omega) only[go_sem]
 have r3:h1.get (n+1)=some (.row 147 (oL party vv ww)):=by rw[u1.old _ (by omega)];simp (disch:=omega) only[go_sem]
 have ux:Up h n h1 n1:=by exact aH
 clear u1;repeat' (first|(simp (disch:=omega) only[go_sem,simprocAttr,ub.old,r3,ai.pos.len,Ce])|(simp (disch:=omega) only[go_sem,simprocAttr,r3,ai.pos.len,Ce])|(refine aS ?_ ?_<;>(intro hb hd;rw[hb];clear hb))|(with_reducible refine aj ?_))
 generalize hh:Tr.set (Tr.set (Tr.set (Tr.set (Tr.set (Tr.set (Tr.set (Tr.set h1 _ _) _ _) _ _) _ _) _ _) _ _) _ _) _ _=h2;have u2:Up h1 n1 h2 (n1+1+1+1+1+1+1):=by rw[<-hh];exact aH
 have g1:h2.get n1=some (.row 3 ((List.replicate ps.length (0:Int)).flatMap iw)):=by rw[<-hh,<-jr iw];simp (disch:=omega) only[go_sem]
 have g2:h2.get (n1+1)=some (.row 22 [.sl n1 0 0 ps.length (some ps.length)]):=by rw[<-hh];simp (disch:=omega) only[go_sem]
 have g3:h2.get (n1+1+1)=some (.row 3 ((List.replicate ps.length (0:Int)).flatMap iw)):=by rw[<-hh,<-jr iw];simp (disch:=omega) only[go_sem]
 have g4:h2.get (n1+1+1+1)=some (.row 22 [.sl (n1+1+1) 0 0 ps.length (some ps.length)]):=by rw[<-hh];simp (disch:=omega) only[go_sem]
 have g5:h2.get (n1+1+1+1+1)=some (.row 22 ((List.replicate ps.length (AV.k 1)).flatMap one)):=by rw[<-hh,<-jr one];simp (disch:=omega) only[go_sem]
 have g6:h2.get (n1+1+1+1+1+1)=some (.row 322 [.k 1,.i .i64 0]):=by rw[<-hh];simp (disch:=omega) only[go_sem]
 clear hh;have pa:PA h n n1 v C party vv ww ps wv M 0 h2 (n1+1+1+1+1+1+1) [(2,.p n 0),(3,.p (n+1) 0),(5,.i .i64 (ps.length:Nat)),(6,.p (n1+1) 0),(7,.p (n1+1+1+1) 0),(8,.sl (n1+1+1+1+1) 0 0 ps.length (some ps.length)),(9,.p (n1+1+1+1+1+1) 0),(36,vv)]:=by
  have hB:(List.range ps.length).map (uH M 0)=List.replicate ps.length []:=by
   apply List.ext_getElem?;intro j;by_cases hj:j<ps.length
   .rw[List.getElem?_map,List.getElem?_range hj,List.getElem?_replicate,if_pos hj];rfl
   .rw[List.getElem?_replicate,if_neg hj];simp;omega
  have gk:∀(j:Nat)(y:AV),(List.replicate ps.length (AV.k 1))[j]?=some y->y= .k 1:=λj y e=>by
   rw[List.getElem?_replicate]at e;split at e<;>cases e;rfl
  refine⟨(sS n1).mem,_,_,.k 1,List.replicate ps.length (.k 1),⟨g1,g3,g6,g5,Gr.nil λ_=>rfl,by simp,λj y l e1 e2=>?_,(by simp only[sS];refine⟨?_,?_,?_,?_,?_,?_⟩<;>omega),λx hx=>absurd hx fA,λj y e x hx=>?_,λi j y z e _ _ x hx=>?_,λx hx=>hx,λx hx=>absurd hx fA,λj y e x hx=>?_,λx hx=>?_,λh' n' hn he=>?_⟩,by simp,by simp,(λj hj=>absurd hj (by omega)),(λj hj=>absurd hj (by omega)),ux.trans u2,λx hx=>?_,rfl⟩
  .rw[hB,List.getElem?_replicate]at e2
   split at e2<;>cases e2
   rw[gk j y e1];exact Gr.nil λ_=>rfl
  .rw[gk j y e]at hx;exact absurd hx fA
  .rw[gk i y e]at hx;exact absurd hx fA
  .rw[gk j y e]at hx;exact absurd hx fA
  .have:=hx;simp only[Nw.mem,sS]at this;omega
  .have nm:∀x,x<n1\/x=n1+1\/x=n1+1+1+1->¬(sS n1).mem x:=λx hx e=>by simp only[Nw.mem,sS]at e;omega
   have old:∀x,x<n1->h'.get x=h1.get x:=λx hx=>(he x (by omega) (nm x (.inl hx))).trans (u2.old x hx);have u':Up h n h' n':=ux.trans ⟨by omega,old⟩;exact⟨(old _ (by omega)).trans r2,(old _ (by omega)).trans r3,(he _ (by omega) (nm _ (.inr (.inl rfl)))).trans g2,(he _ (by omega) (nm _ (.inr (.inr rfl)))).trans g4,hC.up u',ai.up u'⟩
  .simp only[Nw.mem,sS]at hx;omega
 refine bP ps.length (PA h n n1 v C party vv ww ps wv M) (by omega) (by omega) (by omega) (by omega) (λk h8 n8 G ⟨X,r,op,qv,bs,_,_,_,_,_,_,_,e⟩=>by subst e;exact⟨rfl,rfl⟩) ⟨rfl,rfl,_,pa,by(repeat' (first|exact aO|refine aM rfl ?_))⟩ ?_ ?_
 .rintro k h3 n3 G hk ⟨X,r,op,qv,bs,a,lr,lo,hr,hop,u3,hX,rfl⟩
  have ca:=a.A.use;have r2:=ca.r2;have r3:=ca.r3;have r6:=ca.r6;have r7:=ca.r7;have rr:=a.rr;have ro:=a.ro;obtain⟨b1,o1,x,i1,hx,hb1,rd⟩:=ca.ar.pos.dL (k:=(k:Nat)) (by omega) (by omega) (by omega);obtain⟨b2,o2,y,i2,hy,hb2,eP⟩:=ca.ar.row.dL (k:=(k:Nat)) (by omega) (by omega) (by omega);rw[show((k:Nat):Int).toNat=k by omega]at hx hy;obtain⟨l,hl⟩:∃l,M[k]?=some l:=⟨M[k]'(by omega),List.getElem?_eq_some_iff.2 ⟨by omega,rfl⟩⟩;have sl:=ca.ar.mv k y l hy hl;have st1':=mM (c:=iw) (λ_=>rfl) (a:=(-1:Int)) (show k<r.length by omega) rfl;have st2':=mM (c:=iw) (λ_=>rfl) (a:=(l.length:Int)) (show k<op.length by omega) rfl;have hP:(ps.map (·.2))[k]?=some x.2:=by rw[List.getElem?_map,hx];rfl
  have hll:l.length<=100:=by
   have e1:=(ia.mv k x.2 l hP hl).1;have e3:=lW C party x.2;have:=(ay.ok (VR x (List.mem_of_getElem? hx)).con).iX;omega
  have lb9:n1+1+1+1+1+1<n3:=a.lt _ (a.Xg _ (.inr (.inr (.inr rfl))));simp only[sS]at r6 r7 rr ro;repeat' (first|(simp (disch:=omega) only[go_sem,simprocAttr,ub.old,IQ,aJ i1,i1,i2,rd.all,eP.el,eP.hd,r3,r6,r7,sl.len,cK hk,rr,ro,st1',st2',Option.map_some])|(simp (disch:=omega) only[go_sem,simprocAttr,IQ,aJ i1,i1,i2,rd.all,eP.el,eP.hd,r3,r6,r7,sl.len,cK hk,rr,ro,st1',st2',Option.map_some])|(refine aS ?_ ?_<;>(intro hb hd;rw[hb];clear hb))|(with_reducible refine aj ?_))
  have a2:oN ((((Tr.set h3 n3 (.row 114 [.i .i64 0,.k 1,.k 1,.k 1,.b false])).set n3 (.row 114 (pJ x))).set n1 (.row 3 ((r.set k (-1)).flatMap iw))).set (n1+1+1) (.row 3 ((op.set k (l.length:Int)).flatMap iw))) (n3+1) (sS n1) X _ (r.set k (-1)) (op.set k (l.length:Int)) qv _ 0 bs _:=
   ((a.up (show Up h3 n3 ((Tr.set h3 n3 (.row 114 [.i .i64 0,.k 1,.k 1,.k 1,.b false])).set n3 (.row 114 (pJ x))) (n3+1) by exact aH)).YL (r.set k (-1))).Ir (op.set k (l.length:Int))
  have u4:Up h n ((((Tr.set h3 n3 (.row 114 [.i .i64 0,.k 1,.k 1,.k 1,.b false])).set n3 (.row 114 (pJ x))).set n1 (.row 3 ((r.set k (-1)).flatMap iw))).set (n1+1+1) (.row 3 ((op.set k (l.length:Int)).flatMap iw))) (n3+1):=by exact aH
  have g4:((((Tr.set h3 n3 (.row 114 [.i .i64 0,.k 1,.k 1,.k 1,.b false])).set n3 (.row 114 (pJ x))).set n1 (.row 3 ((r.set k (-1)).flatMap iw))).set (n1+1+1) (.row 3 ((op.set k (l.length:Int)).flatMap iw))).get n3=some (.row 114 (pJ x)):=by simp (disch:=omega) only[go_sem]
  generalize Tr.set (Tr.set (Tr.set (Tr.set h3 _ _) _ _) _ _) _ _=h4 at*;obtain⟨b2,o2,y',i2,hy',hb2,eP⟩:=a2.A.use.ar.row.dL (k:=(k:Nat)) (by omega) (by omega) (by omega);rw[show((k:Nat):Int).toNat=k by omega,hy]at hy';cases hy'
  repeat' (first|(simp (disch:=omega) only[go_sem,simprocAttr,ub.old,aJ i2,eP.el,eP.hd,sl.len])|(simp (disch:=omega) only[go_sem,simprocAttr,aJ i2,eP.el,eP.hd,sl.len])|(refine aS ?_ ?_<;>(intro hb hd;rw[hb];clear hb))|(with_reducible refine aj ?_))
  have hBI:(List.range ps.length).map (uH M k)=(List.range ps.length).map (nL M k l 0):=by
   congr 1;funext j;exact YM.symm
  rw[hBI]at a2;refine bP l.length (PB2 h n n1 n3 v C party vv ww ps wv M k x y qv _ (r.set k (-1)) (op.set k (l.length:Int)) l) (by omega) (by omega) (by omega) (by omega) (λk h8 n8 G ⟨_,_,_,_,_,_,_,_,e⟩=>by subst e;exact⟨rfl,rfl⟩) ⟨rfl,rfl,_,⟨X,bs,a2,u4,hX,g4,λe=>by have:=a.lt _ e;omega,Nat.lt_succ_self _,rfl⟩,by(repeat' (first|exact aO|refine aM rfl ?_))⟩ ?_ ?_
  .rintro t h5 n5 G ht ⟨X5,YN,a5,u5,YO,g5,nX5,ln5,rfl⟩
   have Z7:=a5.A.use;obtain⟨b3,o3,z,i3,hz,hb3,nA⟩:=(Z7.ar.mv k y l hy hl).dL (k:=(t:Nat)) (by omega) (by omega) (by omega);rw[show((t:Nat):Int).toNat=t by omega]at hz;have hlt:=ia.tgt hl (List.mem_of_getElem? hz);rw[List.length_map]at hlt;have lb9:n1+1+1+1+1+1<n5:=a5.lt _ (a5.Xg _ (.inr (.inr (.inr rfl))));have rf:=a5.rf;simp only[sS]at rf;have hBz:((List.range ps.length).map (nL M k l t))[z.2]?=some (nL M k l t z.2):=by rw[List.getElem?_map,List.getElem?_range hlt];rfl
   have hlb:=a5.lb;rw[List.length_map,List.length_range]at hlb;obtain⟨yz,hyz⟩:∃yz,YN[z.2]?=some yz:=⟨YN[z.2]'(by omega),List.getElem?_eq_some_iff.2 ⟨by omega,rfl⟩⟩;have rdz:=oM (t:=22) (c:=one) (λ_=>rfl) hyz rfl;have gz:=a5.gb _ _ _ hyz hBz;repeat' (first|(simp (disch:=omega) only[go_sem,simprocAttr,ub.old,IL,aJ i3,nA.all,cK hlt,rf,rdz])|(simp (disch:=omega) only[go_sem,simprocAttr,IL,aJ i3,nA.all,cK hlt,rf,rdz])|(refine aS ?_ ?_<;>(intro hb hd;rw[hb];clear hb))|(with_reducible refine aj ?_))
   have hln:(nL M k l t z.2).length<=200000:=by
    have e1:=F6 VP k z.2;have e2:=List.length_filter_le (λx:Int×Nat=>x.2==z.2) (l.take t);have e3:=List.length_take_le t l;unfold nL;rw[List.length_append,List.length_map];omega
   refine Eh (l2:=[k]) (gz.up aH) ⟨rfl,?_⟩ (by simp;omega) λv' h6 n6 g6 l6 s6 b6=>?_
   .show bnd (iI (Tr.get _ _) 0 _) (λr=>mP (Nat.mul 1 1) r)=_
    rw[aF];rfl
   obtain⟨q1,q2⟩:=a5.pK hyz hBz (show Up h5 n5 _ (n5+1+2) by exact aH) g6 l6 s6 b6;have ltz:∀x,blk yz x->x<n5:=λx hx=>gz.fK hx;have q3:h6.get n5=some (.row 243 [.i .i64 z.1,.i .i64 (z.2:Nat)]):=by
    rw[s6 n5 (by omega) (λe=>by have:=ltz _ e;omega)];simp (disch:=omega) only[go_sem]
   have st3:=mM (c:=one) (λ_=>rfl) (l:=YN) (i:=z.2) (a:=v') (show z.2<YN.length by omega) rfl;simp only[sS]at q1;simp (disch:=omega) only[go_sem,simprocAttr,g6.cl,q1,q3,cK hlt,st3,Option.map_some];have hYX:∀x,blk yz x->X5 x:=λx hx=>a5.Xb _ _ hyz x hx;have ajz:n3<n6:=by omega
   have ub:=u5.le;refine⟨rfl,rfl,_,⟨_,_,by rw[Mf hz hlt];exact q2,⟨by omega,λx hx=>?_⟩,λx hx=>?_,?_,λe=>?_,ajz,rfl⟩,by(repeat' (first|exact aO|refine aM rfl ?_))⟩
   .rw[au (by omega),s6 x (by omega) (λe=>by have:=YO x (hYX x e);omega)]
    rw[au (by omega),au (by omega),au (by omega),u5.old x hx]
   .rcases hx with hx|hx
    .exact YO x hx
    .rcases b6 x hx with e|e
     .exact YO x (hYX x e)
     .omega
   .rw[au (λe=>nX5 (by rw[e];exact a5.Xg _ (.inr (.inr (.inl rfl))))),s6 n3 (by omega) (λe=>nX5 (hYX _ e)),au (by omega),au (by omega),au (by omega)];exact g5
   .rcases e with e|e
    .exact nX5 e
    .rcases b6 n3 e with e|e
     .exact nX5 (hYX _ e)
     .omega
  .rintro h5 n5 G ⟨X5,YN,a5,u5,YO,g5,nX5,ln5,rfl⟩
   have Z7:=a5.A.use;have r2:=Z7.r2;have r3:=Z7.r3;have hBe:(List.range ps.length).map (nL M k l l.length)=(List.range ps.length).map (uH M (k+1)):=by
    congr 1;funext j;exact Qm hl
   rw[hBe]at a5;simp (disch:=omega) only[go_sem,simprocAttr,r2,r3,g5,CS.av,TS.pv];rw[aR];have Z8:=VR x (List.mem_of_getElem? hx);refine TU _ Z7.con (Z7.ar.st x (List.mem_of_getElem? hx)) Z8 λh6 n6 u6=>?_;have a6:=a5.up u6;have e6:=u6.le;have ca6:=a6.A.use;have r6:=ca6.r6;have rr:=a6.rr;simp only[sS]at r6 rr;have u36:=u5.trans u6;have mk:mr M k=l:=by unfold mr;rw[List.getD_eq_getElem?_getD,hl];rfl
   have hlb:lY C party (ps.map (·.2)) k=anyFailed C x.2.st party:=by unfold lY;rw[hP]
   have hop':∀j,j<k+1->(op.set k (l.length:Int))[j]?=some ((mr M j).length:Int):=λj hj=>by
    rw[List.getElem?_set];by_cases e:k=j
    .subst e;rw[if_pos rfl,if_pos (by omega),mk]
    .rw[if_neg e];exact hop j (by omega)
   have lk':k<(r.set k (-1)).length:=by simp;omega
   have st4:=mM (c:=iw) (λ_=>rfl) (l:=r.set k (-1)) (i:=k) (a:=(0:Int)) lk' rfl;have hfil:(List.range (k+1)).filter (lY C party (ps.map (·.2)))=(List.range k).filter (lY C party (ps.map (·.2)))++if anyFailed C x.2.st party=true then[k]else[]:=by
    rw[List.range_succ,List.filter_append];congr 1;cases hf:anyFailed C x.2.st party with
    |true=>simp[hlb,hf]
    |false=>simp[hlb,hf]
   cases hf:anyFailed C x.2.st party with
   |false=>
    rw[hf]at hfil;simp only[Bool.false_eq_true,if_false,List.append_nil]at hfil;repeat' (first|(simp (disch:=omega) only[go_sem,simprocAttr,ub.old])|(simp (disch:=omega) only[go_sem,simprocAttr])|(refine aS ?_ ?_<;>(intro hb hd;rw[hb];clear hb))|(with_reducible refine aj ?_))
    refine⟨rfl,rfl,_,⟨X5,r.set k (-1),op.set k (l.length:Int),qv,YN,by rw[hfil];exact a6,by simp[lr],by simp[lo],λj hj=>?_,hop',u36,YO,rfl⟩,by(repeat' (first|exact aO|refine aM rfl ?_))⟩;rw[List.getElem?_set];by_cases e:k=j
    .subst e;rw[if_pos rfl,if_pos (by omega),pq,hlb,hf];rfl
    .rw[if_neg e];exact hr j (by omega)
   |true=>
    rw[hf]at hfil;simp only[if_true]at hfil;have hlen':(r.set k (-1)).length=ps.length:=by simp[lr]
    repeat' (first|(simp (disch:=omega) only[go_sem,simprocAttr,ub.old,r6,b_ hk,rr,st4,Option.map_some])|(simp (disch:=omega) only[go_sem,simprocAttr,r6,b_ hk,rr,st4,Option.map_some])|(refine aS ?_ ?_<;>(intro hb hd;rw[hb];clear hb))|(with_reducible refine aj ?_))
    rw[aR];have a7:=a6.YL ((r.set k (-1)).set k 0);have hql:((List.range k).filter (lY C party (ps.map (·.2)))).length<=100000:=by
     have:=List.length_filter_le (lY C party (ps.map (·.2))) (List.range k);simp at this;omega
    refine KM (K+7) (g:=sS n1) (i:=k) a7 hql λv' X' h8 n8 a8 hn8 hs8 YH hX8=>?_;simp (disch:=omega) only[go_sem,simprocAttr];have lt6:=a6.lt;refine⟨rfl,rfl,_,⟨X',(r.set k (-1)).set k 0,op.set k (l.length:Int),v',YN,by rw[hfil];exact a8,by simp[lr],by simp[lo],λj hj=>?_,hop',⟨by have:=u36.le;omega,λx hx=>?_⟩,λx hx=>?_,rfl⟩,by(repeat' (first|exact aO|refine aM rfl ?_))⟩
    .rw[List.getElem?_set]
     by_cases e:k=j
     .subst e;rw[if_pos rfl,if_pos lk',pq,hlb,hf];rfl
     .rw[if_neg e,List.getElem?_set,if_neg e];exact hr j (by omega)
    .have:=u36.le
     rw[hs8 x (by omega) (λe=>by have:=YO x e;omega),au (by show x≠n1;omega),u36.old x hx]
    .rcases hX8 x hx with e|e
     .exact YO x e
     .have:=u36.le;have:=lt6 n1 (a6.Xg _ (.inl rfl));omega
 .rintro h3 n3 G ⟨X,r,op,qv,bs,a,lr,lo,hr,hop,u3,hX,rfl⟩
  have hlr:r.length=(ps.map (·.2)).length:=by rw[List.length_map];exact lr
  have hlo:op.length=(ps.map (·.2)).length:=by rw[List.length_map];exact lo
  have hlm:M.length=(ps.map (·.2)).length:=by rw[List.length_map];exact hlen
  obtain⟨ri,rb⟩:=RI.start (C:=C) (party:=party) hlr hlo hlm (λj hj=>hr j (by simpa using hj)) (λj hj=>hop j (by simpa using hj));rw[List.length_map]at ri rb;have ca:=a.A.use;have r3:=ca.r3;have lb9:n1+1+1+1+1+1<n3:=a.lt _ (a.Xg _ (.inr (.inr (.inr rfl))));simp (disch:=omega) only[go_sem,simprocAttr,r3,ca.ar.pos.len];have a2:oN ((Tr.set h3 n3 (.row 273 [.k 3])).set n3 (.row 273 [.f 158 [.p (n1+1) 0,.p (n1+1+1+1+1+1) 0]])) (n3+1) (sS n1) X (Mg n (n1+1) (n1+1+1+1) n3 (sS n1) ps.length v C party vv ww ps wv M) r op qv ((List.range ps.length).filter (lY C party (ps.map (·.2)))) 0 bs ((List.range ps.length).map (pK M)):=by
   have hb:(List.range ps.length).map (uH M ps.length)=(List.range ps.length).map (pK M):=by
    congr 1;funext j;rw[Ql,hlen]
   rw[<-hb];have u:Up h3 n3 ((Tr.set h3 n3 (.row 273 [.k 3])).set n3 (.row 273 [.f 158 [.p (n1+1) 0,.p (n1+1+1+1+1+1) 0]])) (n3+1):=by exact aH
   refine(a.up u).wP (((a.A.up u).and (B:=λh n=>h.get n3=some (.row 273 [.f 158 [.p (n1+1) 0,.p (n1+1+1+1+1+1) 0]])) λh' n' hn he=>?_).wk λh n e=>⟨e.1,e.2⟩);exact(he n3 (by omega) (λe=>by have:=a.lt _ e;omega)).trans aF
  have u4:Up h n ((Tr.set h3 n3 (.row 273 [.k 3])).set n3 (.row 273 [.f 158 [.p (n1+1) 0,.p (n1+1+1+1+1+1) 0]])) (n3+1):=by exact aH
  generalize(Tr.set h3 n3 (.row 273 [.k 3])).set n3 _=h4 at*;refine bP ps.length (PB3 h n n1 n3 v C party vv ww ps wv M) (by omega) (by omega) (by omega) (by omega) (λk h8 n8 G ⟨X,r,op,qv,Qs,bs,_,_,_,_,_,_,e⟩=>by subst e;exact⟨rfl,rfl⟩) ⟨rfl,rfl,_,⟨X,r,op,qv,_,bs,a2,ri,rb,u4,hX,Nat.lt_succ_self _,rfl⟩,by(repeat' (first|exact aO|refine aM rfl ?_))⟩ ?_ ?_
  .clear a2 ri rb u4 a ca hr hop lr lo hlr hlo
   rintro k h5 n5 G hk ⟨X,r,op,qv,Qs,bs,a,ri,rb,u5,hX,L9,rfl⟩;have ca:=a.A.use;have r6:=ca.a.r6;have r7:=ca.a.r7;have qP:=ca.qP;have rr:=a.rr;have ro:=a.ro;simp only[sS]at r6 r7 qP rr ro;have lr:=ri.lr;have lo:=ri.lo;rw[List.length_map]at lr lo;obtain⟨b1,o1,x,i1,hx,hb1,rd⟩:=ca.a.ar.pos.dL (k:=(k:Nat)) (by omega) (by omega) (by omega);rw[show((k:Nat):Int).toNat=k by omega]at hx;have hP:(ps.map (·.2))[k]?=some x.2:=by rw[List.getElem?_map,hx];rfl
   have lb9:n1+1+1+1+1+1<n5:=a.lt _ (a.Xg _ (.inr (.inr (.inr rfl))));have ajC:op[k]?=some (op.getD k 0):=by rw[List.getD_eq_getElem?_getD,List.getElem?_eq_getElem (show k<op.length by omega)];rfl
   have TW:=oM (t:=3) (c:=iw) (λ_=>rfl) ajC rfl;have rdr:=oM (t:=3) (c:=iw) (λ_=>rfl) (vV (r:=r) (i:=k) (by omega)) rfl;repeat' (first|(simp (disch:=omega) only[go_sem,simprocAttr,ub.old,IK,aJ i1,rd.all,r6,r7,qP,rr,ro,b_ hk,TW,rdr])|(simp (disch:=omega) only[go_sem,simprocAttr,IK,aJ i1,rd.all,r6,r7,qP,rr,ro,b_ hk,TW,rdr])|(refine aS ?_ ?_<;>(intro hb hd;rw[hb];clear hb))|(with_reducible refine aj ?_))
   .rw[DX]
    show CW _ 158 [.i .i64 (k:Nat),.i .i64 1,.p (n1+1) 0,.p (n1+1+1+1+1+1) 0] _ _ _;have hql:Qs.length<=100000:=by
     have:=ri.Qf;rw[List.length_map]at this;omega
    have a':=a.up (show Up h5 n5 ((Tr.set h5 n5 (.row 114 [.i .i64 0,.k 1,.k 1,.k 1,.b false])).set n5 (.row 114 [.i .i64 x.2.st.day,x.1.h,x.1.u,x.1.m,.b true])) (n5+1) by exact aH);have us:Up h n ((Tr.set h5 n5 (.row 114 [.i .i64 0,.k 1,.k 1,.k 1,.b false])).set n5 (.row 114 [.i .i64 x.2.st.day,x.1.h,x.1.u,x.1.m,.b true])) (n5+1):=by exact aH
    refine Cm (K+6) (g:=sS n1) (i:=k) a' hql (λh n e=>by rw[lr];exact e.a.r6) (by omega) λv' X' h8 n8 a8 hn8 hs8 YH hX8=>?_;simp (disch:=omega) only[go_sem,simprocAttr];have ri2:=ri.ajp hP (by assumption) (by assumption) hd rb;have e5:=us.le;have lk5:k<r.length:=by omega
    refine⟨rfl,rfl,_,⟨X',r.set k 1,op,v',Qs++[k],bs,a8,ri2,λi hi=>?_,⟨by omega,λx hx=>?_⟩,λx hx=>?_,by omega,rfl⟩,by(repeat' (first|exact aO|refine aM rfl ?_))⟩
    .rw[uE lk5]
     split
     .omega
     .rcases List.mem_append.1 hi with hi|hi
      .exact rb i hi
      .simp at hi;omega
    .rw[hs8 x (by omega) (λe=>by have:=hX x e;omega),us.old x hx]
    .rcases hX8 x hx with e|e
     .exact hX x e
     .omega
   all_goals exact⟨rfl,rfl,_,⟨X,r,op,qv,Qs,bs,a.up aH,ri.skip hP (λe=>by simp_all),rb,by exact aH,hX,by omega,rfl⟩,by(repeat' (first|exact aO|refine aM rfl ?_))⟩
  .clear a2 ri rb u4 a ca hr hop lr lo hlr hlo
   rintro h5 n5 G ⟨X,r,op,qv,Qs,bs,a,ri,rb,u5,hX,L9,rfl⟩;have hql:Qs.length<=100000:=by
    have:=ri.Qf;rw[List.length_map]at this;omega
   have ht:∀(i:Nat) l m j,M[i]?=some l->(m,j)∈l->j<(ps.map (·.2)).length:=λi l m j e1 e2=>ia.tgt e1 e2;have loop:∀m h8 n8 (F:Fm),PC h n n1 n3 v C party vv ww ps wv M m h8 n8 F->m<=ps.length->∀F',(∀k w,lk F k=some w->lk F' k=some w)->SM Tryz.prog Y0 92 [It.c (.loop Ef),It.b 6,It.c (((MC.reg [⟨none,.ld none (.s 6),.l⟩,⟨none,.mv (.v 0),.k 4⟩]).seq .ret))] .bX (EF (K+8)) h8 n8 F' (Kn [MS.t 4] Q):=by
    intro m h8 n8 F pc hm F' hF';refine iF (PC h n n1 n3 v C party vv ww ps wv M) m (by omega) ⟨F,pc,hF'⟩ ?_;clear pc hF' F' F h8 n8 hm m;rintro m h8 n8 F ⟨X,r,op,qv,Qs,bs,nx,D,rest,to,ok,a,u8,hX,L9,hok,rfl⟩;rcases hok with⟨rfl,Bu,hnx,ri,hbd,hto,hm⟩|⟨rfl,ri,rfl⟩
    .have YP:=ri.Qf
     rw[List.length_map]at YP;subst hnx;have TY:to<ps.length:=by
      have:=((ri.qr to).1 (by rw[Bu];simp)).1;rw[List.length_map]at this;exact this
     have T9:0<=rk r to:=((ri.qr to).1 (by rw[Bu];simp)).2;have lb9:n1+1+1+1+1+1<n8:=a.lt _ (a.Xg _ (.inr (.inr (.inr rfl))));have rf:=a.rf;simp only[sS]at rf;have hlb:=a.lb;rw[List.length_map,List.length_range]at hlb;obtain⟨y,hy⟩:∃y,bs[to]?=some y:=⟨bs[to]'(by omega),List.getElem?_eq_some_iff.2 ⟨by omega,rfl⟩⟩;have hBy:((List.range ps.length).map (pK M))[to]?=some (pK M to):=by rw[List.getElem?_map,List.getElem?_range TY];rfl
     have Z5:=oM (t:=22) (c:=one) (λ_=>rfl) hy rfl;have gy:=a.gb _ _ _ hy hBy;have hbl:(pK M to).length<=200000:=by
      have:=F6 VP M.length to;rw[Ql];omega
     simp (disch:=omega) only[go_sem,simprocAttr,Ef,cK TY,b_ TY,rf,Z5,gy.len];refine bP (pK M to).length (PD h n n1 n3 v C party vv ww ps wv M D to y bs) (by omega) (by omega) (by omega) (by omega) (λk h8 n8 G ⟨X,r,op,qv,Qs,rest,_,_,_,_,_,_,_,_,e⟩=>by subst e;exact⟨rfl,rfl⟩) ⟨rfl,rfl,_,⟨X,r,op,qv,Qs,rest,a,u8,hX,L9,Bu,by simpa using ri,hbd,by omega,rfl⟩,by(repeat' (first|exact aO|refine aM rfl ?_))⟩ ?_ ?_
     .clear ri hbd hto Bu a u8 hX L9 YP rf gy T9
      rintro t h9 n9 G ht' ⟨X,r,op,qv,Qs,rest,a,u9,hX,L9,Bu,ri,hbd,hto,rfl⟩;have gy:=a.gb _ _ _ hy hBy;obtain⟨b3,o3,f,i3,hf,hb3,nA⟩:=gy.sl.dL (k:=(t:Nat)) (by omega) (by omega) (by omega);rw[show((t:Nat):Int).toNat=t by omega]at hf;have hfN:f<ps.length:=by
       have:=(KJ.1 (List.mem_of_getElem? hf)).1;omega
      have hx:ps[f]?=some ps[f]:=List.getElem?_eq_some_iff.2 ⟨hfN,rfl⟩;have hP:(ps.map (·.2))[f]?=some ps[f].2:=by rw[List.getElem?_map,hx];rfl
      have T9:0<=rk r to:=((ri.qr to).1 (by rw[Bu];simp)).2;have YP:=ri.Qf;rw[List.length_map]at YP;have hc:=ri.YI Bu rfl (f:=f) (by rw[List.length_map];exact hfN);have hof:=ri.op f (by rw[List.length_map];exact hfN);have anr:=VP f;have lr:=ri.lr;have lo:=ri.lo;rw[List.length_map]at lr lo;have htk:(pK M to).take (t+1)=(pK M to).take t++[f]:=by rw[List.take_add_one,hf];rfl
      have hDl:D.length<=1500:=by
       have:=congrArg List.length Bu;simp at this;omega
      simp (disch:=omega) only[go_sem,simprocAttr,Qg,aJ i3,nA.el,nA.hd];rw[DX];show CW _ 159 [.i .i64 (f:Nat),.i .i64 (to:Nat),.p (n1+1+1+1) 0,.p (n1+1) 0,.p (n+1) 0,.p n3 0] _ _ _;refine TV (K+5) (g:=sS n1) (f:=f) (to:=to) a (by omega) (λh n e=>e.bk) lr lo rfl hx TY (by omega) (by omega) (by by_cases e:f=to;exact .inr (by rw[e];omega);exact .inl e) (λhc' h' n' a' hn' hs'=>?_) (λhr hc' v' X' h' n' a' hn' hs' YH T_=>?_)
      .simp (disch:=omega) only[go_sem,simprocAttr]
       have ri2:=ri.edge hP hc';refine⟨rfl,rfl,_,⟨X,r,_,qv,Qs,rest,a',⟨by have:=u9.le;omega,λx hx=>?_⟩,hX,by omega,Bu,by rw[htk,<-List.append_assoc];exact ri2,hbd,hto,rfl⟩,by(repeat' (first|exact aO|refine aM rfl ?_))⟩;have:=u9.le;rw[hs' x (by omega) (λe=>by have:=hX x e;omega),u9.old x hx]
      .simp (disch:=omega) only[go_sem,simprocAttr]
       have ri2:=ri.acJ ht Bu rfl hbd hP hf hr hc';have hne:to≠f:=λe=>by rw[<-e]at hr;omega
       have lkf:f<r.length:=by omega
       have acU:rk (r.set f (rk r to+1)) to=rk r to:=by rw[uE lkf,if_neg (Ne.symm hne)]
       refine⟨rfl,rfl,_,⟨X',_,_,v',Qs++[f],rest++[f],a',⟨by have:=u9.le;omega,λx hx=>?_⟩,λx hx=>?_,by omega,by rw[Bu];simp,by rw[htk,<-List.append_assoc];exact ri2,λi hi=>?_,by rw[acU];exact hto,rfl⟩,by(repeat' (first|exact aO|refine aM rfl ?_))⟩
       .have:=u9.le
        rw[hs' x (by omega) (λe=>by have:=hX x e;omega),u9.old x hx]
       .rcases T_ x hx with e|e
        .exact hX x e
        .have:=a.lt _ (a.Xg n1 (.inl rfl));omega
       .rw[acU,uE lkf]
        split
        .omega
        .rcases List.mem_append.1 hi with hi|hi
         .exact hbd i hi
         .simp at hi;omega
     .clear ri hbd hto Bu a u8 hX L9 YP rf gy T9
      rintro h9 n9 G ⟨X,r,op,qv,Qs,rest,a,u9,hX,L9,Bu,ri,hbd,hto,rfl⟩;have YP:=ri.Qf;rw[List.length_map]at YP;have hlen':=congrArg List.length Bu;simp only[List.length_append,List.length_cons]at hlen';rw[List.take_length]at ri;have hE:D.flatMap (pK M)++pK M to=(D++[to]).flatMap (pK M):=by simp
      rw[hE]at ri;simp (disch:=omega) only[go_sem,simprocAttr];rw[aR];refine Qj (K+7) (g:=sS n1) a (by omega) (by omega) (λe=>?_) (λYQ Qo a2=>?_)
      .have hr0:rest=[]:=List.length_eq_zero_iff.1 (by omega)
       simp (disch:=omega) only[go_sem,simprocAttr];refine⟨0,_,by omega,⟨X,r,op,qv,Qs,bs,D.length+1,[],[],0,false,a,u9,hX,L9,.inr ⟨rfl,by rw[Bu,hr0];rw[Bu,hr0]at ri;exact ri,rfl⟩,rfl⟩,by(repeat' (first|exact aO|refine aM rfl ?_))⟩
      .have hr1:∃rest',rest=YQ::rest':=by
        rw[Bu,List.getElem?_append_right (by omega)]at Qo;rw[show D.length+1 - D.length=1 by omega,List.getElem?_cons_succ]at Qo;cases rest with
        |nil=>cases Qo
        |cons a b=>simp at Qo;subst Qo;exact⟨b,rfl⟩
       obtain⟨rest',hr1⟩:=hr1;have YR:Qs=(D++[to])++YQ::rest':=by rw[Bu,hr1];simp
       have hle:rk r to<=rk r YQ:=by
        have hm:=ri.mono;rw[YR,List.pairwise_append]at hm;exact hm.2.2 to (by simp) YQ (by simp)
       have aq_:rk r YQ<=rk r to+1:=hbd YQ (by rw[YR];simp);simp (disch:=omega) only[go_sem,simprocAttr];refine⟨m - 1,_,by omega,⟨X,r,op,qv,Qs,bs,D.length+1+1,D++[to],rest',YQ,true,a2,Up.st u9 _ _ (by have:=hX _ (a.Xg (sS n1).b9 (.inr (.inr (.inr rfl))));omega),hX,L9,.inl ⟨rfl,YR,by simp,ri,λi hi=>by have:=hbd i hi;omega,by omega,by omega⟩,rfl⟩,by(repeat' (first|exact aO|refine aM rfl ?_))⟩
    .have r6:=a.A.use.a.r6
     have rr:=a.rr;simp only[sS]at r6 rr;have lr:=ri.lr;rw[List.length_map]at lr;simp (disch:=omega) only[go_sem,simprocAttr,Ef,r6];have hN:ps.length=(ps.map (·.2)).length:=by rw[List.length_map]
     rw[hN]at ri;refine hQ _ r _ _ (ri.done rfl ht) u8 ?_;have sl:SL h8 n8 1 (.sl n1 0 0 ps.length (some ps.length)) iw r:=SL.of (λ_=>rfl) (a.lt _ (a.Xg n1 (.inl rfl))) rr rfl lr.symm (λk hk=>by cases hk;exact Nat.le_refl _);exact sl.kp λx hx=>by rw[eu]at hx;omega
   simp (disch:=omega) only[go_sem,simprocAttr];rw[aR];refine Qj (K+7) (g:=sS n1) a hql (Nat.zero_le _) (λe=>?_) (λto hto a2=>?_)
   .simp (disch:=omega) only[go_sem,simprocAttr]
    have Z9:Qs=[]:=List.length_eq_zero_iff.1 e.symm;exact loop 0 _ _ _ ⟨X,r,op,qv,Qs,bs,0,[],[],0,false,a,u5,hX,L9,.inr ⟨rfl,by rw[Z9];rw[Z9]at ri;exact ri,rfl⟩,rfl⟩ (by omega) _ (by(repeat' (first|exact aO|refine aM rfl ?_)))
   .simp (disch:=omega) only[go_sem,simprocAttr]
    obtain⟨rest,Bu⟩:∃rest,Qs=to::rest:=by
     cases Qs with
     |nil=>cases hto
     |cons a b=>simp at hto;subst hto;exact⟨b,rfl⟩
    have T9:0<=rk r to:=((ri.qr to).1 (by rw[Bu];simp)).2;have ara:=rb to (by rw[Bu];simp);exact loop ps.length _ _ _ ⟨X,r,op,qv,Qs,bs,0+1,[],rest,to,true,a2,Up.st u5 _ _ (by have:=hX _ (a.Xg (sS n1).b9 (.inr (.inr (.inr rfl))));omega),hX,L9,.inl ⟨rfl,Bu,rfl,ri,λi hi=>by have:=rb i hi;omega,by omega,by omega⟩,rfl⟩ (by omega) _ (by(repeat' (first|exact aO|refine aM rfl ?_)))
end
end
end
section
noncomputable section
abbrev Ua(x:Bool):List AV:=[.b x]
def KN(C:ay)(party:Int)(P:List aN)(sf:List Bool):Prop:=sf.length=P.length/\∀(j:Nat)(q:aN),P[j]?=some q->∃b,sf[j]?=some b/\(b=true↔¬bM C party q)
section
variable {h h':AH} {n n':Nat} {v:CS} {C:ay} {p:aN} {party:Int} {ps:List (TS×aN)} {wv:List AV} {M:List (List (Int×Nat))} {Q:AV->AH->Nat->Prop} {vv ww:AV}
theorem zu(K:Nat)(hC:aY h n v C)(ho:C.off.length<=1000000)(ai:uD h n vv ww ps wv M)(ia:bZ C party p (ps.map (·.2)) M)(h0:0<=party)(h1:party<C.aD)(so:aK C p.st)
 (hQ:∀v' sf h' n',KN C party (ps.map (·.2)) sf->Up h n h' n'->Kp (λx=>x<n) h' n' (λh n=>SL h n 1 v' Ua sf)->Q v' h' n'):CW (EF (K+10)) 45 [.agg (v.av C),.agg (oL party vv ww)] h n Q:=by
 have hsm:=ia.small;rw[List.length_map]at hsm;refine aC c52 rfl ?_;simp (disch:=omega) only[go_sem,simprocAttr,m52,CS.av];rw[aR];refine Qn K (hC.up aH) ho (ai.up aH) ia h0 h1 so λv1 r h2 n2 ir u2 k2=>?_;have e2:=u2.le;have sl:=k2.use;have lr:=ir.len;rw[List.length_map]at lr;have ux:Up h n h2 n2:=by exact aH
 simp (disch:=omega) only[go_sem,simprocAttr,sl.len,Ce];have g3:(Tr.set h2 n2 (.row 4 (rep r.length [.b false]))).get n2=some (.row 4 ((List.replicate r.length false).flatMap Ua)):=by rw[aF,<-jr Ua]
 have u3:Up h2 n2 (Tr.set h2 n2 (.row 4 (rep r.length [.b false]))) (n2+1):=by exact aH
 generalize Tr.set h2 n2 _=h3 at*;refine bP r.length (λk h5 n5 G=>∃bl:List Bool,bl.length=r.length/\(∀j,j<k->bl[j]?=some (decide (rk r j= -1)))/\h5.get n2=some (.row 4 (bl.flatMap Ua))/\Up h2 n2 h5 n5/\n2<n5/\G=[(6,.sl n2 0 0 r.length (some r.length)),(15,v1)]) (by omega) (by omega) (by omega) (by omega) (λk h8 n8 G ⟨_,_,_,_,_,_,e⟩=>by subst e;exact⟨rfl,rfl⟩) ⟨rfl,rfl,_,⟨_,by simp,(λj hj=>absurd hj (by omega)),g3,u3,Nat.lt_succ_self _,rfl⟩,by(repeat' (first|exact aO|refine aM rfl ?_))⟩ ?_ ?_
 .rintro k h5 n5 G hk ⟨bl,hbl,hb,g5,u5,l5,rfl⟩
  obtain⟨b1,o1,x,i1,hx,hb1,rd⟩:=(sl.up u5).dL (k:=(k:Nat)) (by omega) (by omega) (by omega);rw[show((k:Nat):Int).toNat=k by omega]at hx;have hrk:=qO hx;have st:=mM (c:=Ua) (λ_=>rfl) (l:=bl) (i:=k) (a:=decide (x= -1)) (by omega) rfl;simp (disch:=omega) only[go_sem,simprocAttr,aJ i1,rd.el,rd.hd,b_ hk,g5,st,Option.map_some];refine⟨rfl,rfl,_,⟨bl.set k (decide (x= -1)),by simp[hbl],λj hj=>?_,aF,⟨u5.le,λy hy=>?_⟩,l5,rfl⟩,by(repeat' (first|exact aO|refine aM rfl ?_))⟩
  .rw[List.getElem?_set]
   by_cases e:k=j
   .subst e;rw[if_pos rfl,if_pos (by omega),hrk]
   .rw[if_neg e];exact hb j (by omega)
  .rw[au (by omega),u5.old y hy]
 .rintro h5 n5 G ⟨bl,hbl,hb,g5,u5,l5,rfl⟩
  simp (disch:=omega) only[go_sem,simprocAttr];refine hQ _ bl _ _ ⟨by rw[hbl,ir.len],λj q hq=>?_⟩ (ux.trans u5) ?_
  .have hj:=(List.getElem?_eq_some_iff.1 hq).1
   rw[List.length_map]at hj;refine⟨_,hb j (by omega),?_⟩;rw[decide_eq_true_iff];exact ir.safe ia hq (vV (by omega))
  .have sl5:SL h5 n5 1 (.sl n2 0 0 r.length (some r.length)) Ua bl:=SL.of (λ_=>rfl) l5 g5 rfl hbl.symm (λk hk=>by cases hk;exact Nat.le_refl _)
   exact sl5.kp λx hx=>by rw[eu]at hx;have:=ux.le;omega
theorem xK{q r:aN}{m:Int}(hm:(m,r)∈C.iK party q):r=if m= -2 then⟨q.st,false⟩else⟨C.aU q.st m,true⟩:=by
 unfold ay.iK ay.mI at hm;rcases List.mem_append.1 hm with hm|hm
 .rcases List.mem_append.1 hm with hm|hm
  .split at hm
   .simp at hm;rw[hm.1,if_pos rfl];exact hm.2
   .cases hm
  .split at hm
   .simp at hm;rw[hm.1,if_neg (by omega)];exact hm.2
   .cases hm
 .split at hm
  .unfold ay.mJ at hm
   obtain⟨i,hi,e⟩:=List.mem_map.1 hm;cases e
   rw[if_neg (by omega)]
  .cases hm
theorem uI(so:aK C p.st)(ia:bZ C party p (ps.map (·.2)) M){i:Nat}{l:List (Int×Nat)}(hl:M[i]?=some l):l.length<=100:=by
 have hlen:=ia.len;rw[List.length_map]at hlen;have hi:i<ps.length:=by rw[<-hlen];exact(List.getElem?_eq_some_iff.1 hl).1
 have hx:ps[i]?=some ps[i]:=List.getElem?_eq_some_iff.2 ⟨hi,rfl⟩;have hP:(ps.map (·.2))[i]?=some ps[i].2:=by rw[List.getElem?_map,hx];rfl
 have e1:=(ia.mv i _ l hP hl).1;have e3:=lW C party ps[i].2;have:=(ay.ok (wH.ok so (ia.rch _ (List.mem_of_getElem? hP))).con).iX;omega
theorem rU(K:Nat)(ai:uD h n vv ww ps wv M)(ia:bZ C party p (ps.map (·.2)) M)(so:aK C p.st){i:Nat}{q:aN}{m:Int}(hi:(ps.map (·.2))[i]?=some q)
 (jV:∀j r,(ps.map (·.2))[j]?=some r->(m,r)∈C.iK party q->∀h' n',Up h n h' n'->Q (.bJ [.i .i64 (j:Nat),.b true]) h' n')(rQ:(∀r,(m,r)∉C.iK party q)->∀h' n',Up h n h' n'->Q (.bJ [.i .i64 0,.b false]) h' n'):CW (EF (K+1)) 51 [.agg (oL party vv ww),.i .i64 (i:Nat),.i .i64 m] h n Q:=by
 have hsm:=ia.small;have hlen:=ia.len;have hl2:=ai.len;have hin:=(List.getElem?_eq_some_iff.1 hi).1;rw[List.length_map]at hsm hlen hin;obtain⟨l,hl⟩:=ia.row hi;have hll:=uI so ia hl;obtain⟨b2,o2,y,i2,hy,hb2,eP⟩:=ai.row.dL (k:=(i:Nat)) (by omega) (by omega) (by omega);rw[show((i:Nat):Int).toNat=i by omega]at hy;have sl:=ai.mv i y l hy hl;refine aC c55 rfl ?_;repeat' (first|(simp (disch:=omega) only[go_sem,simprocAttr,m55,aJ i2,eP.el,eP.hd,sl.len])|(refine aS ?_ ?_<;>(intro hb hd;rw[hb];clear hb))|(with_reducible refine aj ?_))
 have u0:Up h n (Tr.set h n (.row 147 (oL party vv ww))) (n+1):=by exact aH
 generalize Tr.set h n (.row 147 (oL party vv ww))=h1 at*;refine bP l.length (λk h5 n5 G=>(∀j,j<k->∀x,l[j]?=some x->x.1≠m)/\Up h1 (n+1) h5 n5/\G=[(2,.i .i64 m),(14,y)]) (by omega) (by omega) (by omega) (by omega) (λk h8 n8 G ⟨_,_,e⟩=>by subst e;exact⟨rfl,rfl⟩) ⟨rfl,rfl,_,⟨(λj hj=>absurd hj (by omega)),Up.refl _ _,rfl⟩,by(repeat' (first|exact aO|refine aM rfl ?_))⟩ ?_ ?_
 .rintro k h5 n5 G hk ⟨hno,u5,rfl⟩
  have e5:=u5.le;obtain⟨b3,o3,z,i3,hz,hb3,nA⟩:=(sl.up (u0.trans u5)).dL (k:=(k:Nat)) (by omega) (by omega) (by omega);rw[show((k:Nat):Int).toNat=k by omega]at hz;repeat' (first|(simp (disch:=omega) only[go_sem,simprocAttr,aJ i3,nA.all])|(refine aS ?_ ?_<;>(intro hb hd;rw[hb];clear hb))|(with_reducible refine aj ?_))
  .obtain⟨r,h1r,h2r⟩:=ia.back hi hl (show(m,z.2)∈l by rw[<-hd];exact List.mem_of_getElem? hz)
   exact jV z.2 r h1r h2r _ _ aH
  .refine⟨rfl,rfl,_,⟨λj hj x hx=>?_,by exact aH,rfl⟩,by(repeat' (first|exact aO|refine aM rfl ?_))⟩
   by_cases e:j=k
   .subst e;rw[hz]at hx;cases hx;exact hd
   .exact hno j (by omega) x hx
 .rintro h5 n5 G ⟨hno,u5,rfl⟩
  simp (disch:=omega) only[go_sem,simprocAttr];refine rQ (λr hr=>?_) _ _ (u0.trans u5);obtain⟨j,hj,_⟩:=ia.move hi hl hr;obtain⟨k,hk⟩:=List.getElem?_of_mem hj;exact hno k (List.getElem?_eq_some_iff.1 hk).1 _ hk rfl
theorem Cn(K:Nat){s:aI}{tv:TS}(hC:aY h n v C)(hS:bI h n tv s)(so:aK C s){t:Int}(h1: -1<=t)(h2:t<C.acts.length)(hQ:∀h' n',Up h n h' n'->Q (.i .i64 (if t= -1 then -1 else C.doer s t)) h' n'):CW (EF (K+1)) 50 [.agg (v.av C),.agg (tv.av s),.i .i64 t] h n Q:=by
 refine aC c54 rfl ?_;have ok:=ay.ok so.con;have:=so.lh;have:=ok.jm;by_cases ht:t= -1
 .have hd:decide (t= -1)=true:=decide_eq_true ht
  rw[if_pos ht]at hQ;repeat' (first|(simp (disch:=omega) only[go_sem,simprocAttr,m54,CS.av,TS.av,hd])|(refine aS ?_ ?_<;>(intro hb hd;rw[hb];clear hb))|(with_reducible refine aj ?_))
  exact hQ _ _ aH
 .have hd:decide (t= -1)=false:=decide_eq_false ht
  rw[if_neg ht]at hQ;obtain⟨i,rfl⟩:=Int.eq_ofNat_of_zero_le (show 0<=t by omega);obtain⟨b1,o1,a,i1,ha,hb1,rd⟩:=hC.acts.dL (k:=(i:Nat)) (by omega) (by omega) (by omega);rw[show((i:Nat):Int).toNat=i by omega]at ha;have hdo:C.doer s (i:Nat)=bC s.ah a:=by unfold ay.doer;rw[show((i:Nat):Int).toNat=i by omega,ha]
  rw[hdo]at hQ;have act:=ok.act (List.mem_of_getElem? ha);repeat' (first|(simp (disch:=omega) only[go_sem,simprocAttr,m54,CS.av,TS.av,hd,aJ i1,i1,rd.el,rd.hd])|(refine aS ?_ ?_<;>(intro hb hd;rw[hb];clear hb))|(with_reducible refine aj ?_))
  .have e:bC s.ah a= -1:=by unfold bC;rw[‹a.role= -1›];rfl
   rw[e]at hQ;exact hQ _ _ aH
  .have hr:¬a.role= -1:=by assumption
   have hr2:=act.role hr;obtain⟨b2,o2,x,i2,hx,hb2,eP⟩:=hS.ah.dL (k:=a.role) (by omega) (by omega) (by omega);have hdx:bC s.ah a=x:=by unfold bC gY;rw[hx,show(a.role== -1)=false by simpa using hr];rfl
   rw[hdx]at hQ;repeat' (first|(simp (disch:=omega) only[go_sem,simprocAttr,i2,eP.el,eP.hd])|(refine aS ?_ ?_<;>(intro hb hd;rw[hb];clear hb))|(with_reducible refine aj ?_))
   exact hQ _ _ aH
def ajF(C:ay)(party:Int)(P:List aN)(xL:List Int):Prop:=xL.length=P.length/\∀(j:Nat)(q:aN),P[j]?=some q->∃x,xL[j]?=some x/\(q.own=true->¬bM C party q->∃r,(x,r)∈C.iK party q/\¬bM C party r)/\(q.own=false\/bM C party q->x= -2)
theorem AZ(K:Nat){sv:AV}{sf:List Bool}(ai:uD h n vv ww ps wv M)(ia:bZ C party p (ps.map (·.2)) M)(so:aK C p.st)(hs:SL h n 1 sv Ua sf)(sl:KN C party (ps.map (·.2)) sf)
 (hQ:∀v' xL h' n',ajF C party (ps.map (·.2)) xL->Up h n h' n'->Kp (λx=>x<n) h' n' (λh n=>SL h n 1 v' iw xL)->Q v' h' n'):CW (EF (K+1)) 46 [.agg (oL party vv ww),sv] h n Q:=by
 have hsm:=ia.small;have hlen:=ia.len;have hl2:=ai.len;rw[List.length_map]at hsm hlen;refine aC c51 rfl ?_;repeat' (first|(simp (disch:=omega) only[go_sem,simprocAttr,m51,ai.pos.len,Ce])|(refine aS ?_ ?_<;>(intro hb hd;rw[hb];clear hb))|(with_reducible refine aj ?_))
 have g3:((Tr.set h n (.row 147 (oL party vv ww))).set (n+1) (.row 3 (rep ps.length [.i .i64 0]))).get (n+1)=some (.row 3 ((List.replicate ps.length (0:Int)).flatMap iw)):=by rw[aF,<-jr iw]
 have g4:((Tr.set h n (.row 147 (oL party vv ww))).set (n+1) (.row 3 (rep ps.length [.i .i64 0]))).get n=some (.row 147 (oL party vv ww)):=by simp (disch:=omega) only[go_sem]
 have u3:Up h n ((Tr.set h n (.row 147 (oL party vv ww))).set (n+1) (.row 3 (rep ps.length [.i .i64 0]))) (n+1+1):=by exact aH
 generalize(Tr.set h n (.row 147 (oL party vv ww))).set (n+1) _=h3 at*;have hsl:sf.length=ps.length:=by rw[sl.1,List.length_map]
 refine bP ps.length (λk h5 n5 G=>∃al:List Int,al.length=ps.length/\(∀(j:Nat)(q:aN),j<k->(ps.map (·.2))[j]?=some q->∃x,al[j]?=some x/\(q.own=true->¬bM C party q->∃r,(x,r)∈C.iK party q/\¬bM C party r)/\(q.own=false\/bM C party q->x= -2))/\h5.get (n+1)=some (.row 3 (al.flatMap iw))/\h5.get n=some (.row 147 (oL party vv ww))/\Up h n h5 n5/\n+1<n5/\G=[(1,sv),(2,.p n 0),(5,.sl (n+1) 0 0 ps.length (some ps.length)),(15,vv)]) (by omega) (by omega) (by omega) (by omega) (λk h8 n8 G ⟨_,_,_,_,_,_,_,e⟩=>by subst e;exact⟨rfl,rfl⟩) ⟨rfl,rfl,_,⟨_,by simp,(λj q hj=>absurd hj (by omega)),g3,g4,u3,by omega,rfl⟩,by(repeat' (first|exact aO|refine aM rfl ?_))⟩ ?_ ?_
 .rintro k h5 n5 G hk ⟨al,hal,hb,g5,g6,u5,l5,rfl⟩
  obtain⟨b1,o1,x,i1,hx,hb1,rd⟩:=(ai.pos.up u5).dL (k:=(k:Nat)) (by omega) (by omega) (by omega);rw[show((k:Nat):Int).toNat=k by omega]at hx;have hP:(ps.map (·.2))[k]?=some x.2:=by rw[List.getElem?_map,hx];rfl
  obtain⟨l,hl⟩:=ia.row hP;have hll:=uI so ia hl;obtain⟨sb,hsb,qQ⟩:=sl.2 k x.2 hP;have st1':=mM (c:=iw) (λ_=>rfl) (l:=al) (i:=k) (a:=(-2:Int)) (by omega) rfl;have lal:k<al.length:=by omega
  have old:∀z:Int,((x.2.own=true->¬bM C party x.2->∃r,(z,r)∈C.iK party x.2/\¬bM C party r)/\(x.2.own=false\/bM C party x.2->z= -2))->∀(j:Nat)(q:aN),j<k+1->(ps.map (·.2))[j]?=some q->∃x,(al.set k z)[j]?=some x/\(q.own=true->¬bM C party q->∃r,(x,r)∈C.iK party q/\¬bM C party r)/\(q.own=false\/bM C party q->x= -2):=λz hz j q hj hq=>by
   rw[List.getElem?_set];by_cases e:k=j
   .subst e
    rw[hP]at hq;cases hq;rw[if_pos rfl,if_pos lal];exact⟨z,rfl,hz⟩
   .rw[if_neg e];exact hb j q (by omega) hq
  repeat' (first|(simp (disch:=omega) only[go_sem,simprocAttr,aJ i1,rd.all,b_ hk,g5,st1',Option.map_some])|(refine aS ?_ ?_<;>(intro hb hd;rw[hb];clear hb))|(with_reducible refine aj ?_))
  .refine⟨rfl,rfl,_,⟨al.set k (-2),by simp[hal],old (-2) ⟨(λe=>by rw[hd]at e;cases e),λ_=>rfl⟩,?_,?_,by exact aH,by omega,rfl⟩,by(repeat' (first|exact aO|refine aM rfl ?_))⟩
   .simp (disch:=omega) only[go_sem]
   .simp (disch:=omega) only[go_sem,g6]
  .have u7:Up h n (((Tr.set h5 n5 (.row 114 [.i .i64 0,.k 1,.k 1,.k 1,.b false])).set n5 (.row 114 (pJ x))).set (n+1) (.row 3 ((al.set k (-2)).flatMap iw))) (n5+1):=by exact aH
   have g7:(((Tr.set h5 n5 (.row 114 [.i .i64 0,.k 1,.k 1,.k 1,.b false])).set n5 (.row 114 (pJ x))).set (n+1) (.row 3 ((al.set k (-2)).flatMap iw))).get (n+1)=some (.row 3 ((al.set k (-2)).flatMap iw)):=aF;have g8:(((Tr.set h5 n5 (.row 114 [.i .i64 0,.k 1,.k 1,.k 1,.b false])).set n5 (.row 114 (pJ x))).set (n+1) (.row 3 ((al.set k (-2)).flatMap iw))).get n=some (.row 147 (oL party vv ww)):=by simp (disch:=omega) only[go_sem,g6]
   generalize((Tr.set h5 n5 _).set n5 _).set (n+1) _=h7 at*;obtain⟨b3,o3,sb',i3,Mh,hb3,nA⟩:=(hs.up u7).dL (k:=(k:Nat)) (by omega) (by omega) (by omega);obtain⟨b2,o2,y,i2,hy,hb2,eP⟩:=(ai.row.up u7).dL (k:=(k:Nat)) (by omega) (by omega) (by omega);rw[show((k:Nat):Int).toNat=k by omega]at Mh hy;rw[hsb]at Mh;cases Mh
   have sy:=ai.mv k y l hy hl;repeat' (first|(simp (disch:=omega) only[go_sem,simprocAttr,aJ i3,nA.el,nA.hd,g8,aJ i2,eP.el,eP.hd,sy.len])|(refine aS ?_ ?_<;>(intro hb hd;rw[hb];clear hb))|(with_reducible refine aj ?_))
   .refine⟨rfl,rfl,_,⟨al.set k (-2),by simp[hal],old (-2) ⟨λ_ hn=>?_,λ_=>rfl⟩,g7,g8,u7,by omega,rfl⟩,by(repeat' (first|exact aO|refine aM rfl ?_))⟩
    have:=qQ.2 hn;rw[hd]at this;cases this
   have hown:x.2.own=true:=by assumption
   have hsf:=qQ.1 hd;have ajG:k<(al.set k (-2)).length:=by simp;omega
   refine bP l.length (λt h9 n9 G=>(∀j,j<t->∀z,l[j]?=some z->sf[z.2]?=some false)/\h9.get (n+1)=some (.row 3 ((al.set k (-2)).flatMap iw))/\h9.get n=some (.row 147 (oL party vv ww))/\Up h n h9 n9/\n+1<n9/\G=[(1,sv),(2,.p n 0),(5,.sl (n+1) 0 0 ps.length (some ps.length)),(15,vv),(16,.i .i64 (ps.length:Nat)),(17,.i .i64 (k:Nat)),(6,.i .i64 (k:Nat)),(39,y)]) (by omega) (by omega) (by omega) (by omega) (λk h8 n8 G ⟨_,_,_,_,_,e⟩=>by subst e;exact⟨rfl,rfl⟩) ⟨rfl,rfl,_,⟨(λj hj=>absurd hj (by omega)),g7,g8,u7,by omega,rfl⟩,by(repeat' (first|exact aO|refine aM rfl ?_))⟩ ?_ ?_
   .rintro t h9 n9 G ht ⟨hno,q7,q8,u9,l9,rfl⟩
    obtain⟨b4,o4,z,i4,hz,hb4,Z_⟩:=(sy.up u9).dL (k:=(t:Nat)) (by omega) (by omega) (by omega);rw[show((t:Nat):Int).toNat=t by omega]at hz;have WQ:=List.mem_of_getElem? hz;have hlt:=ia.tgt hl WQ;rw[List.length_map]at hlt;obtain⟨b5,o5,sz,i5,hsz,hb5,sO⟩:=(hs.up u9).dL (k:=(z.2:Nat)) (by omega) (by omega) (by omega);rw[show((z.2:Nat):Int).toNat=z.2 by omega]at hsz;have st2':=mM (c:=iw) (λ_=>rfl) (l:=al.set k (-2)) (i:=k) (a:=z.1) ajG rfl;rw[List.set_set]at st2';obtain⟨r,hr1,hr2⟩:=ia.back hP hl (show(z.1,z.2)∈l from WQ);obtain⟨sz',hsz',hsr⟩:=sl.2 z.2 r hr1;rw[hsz]at hsz';cases hsz'
    repeat' (first|(simp (disch:=omega) only[go_sem,simprocAttr,aJ i4,Z_.all,aJ i5,sO.el,sO.hd,b_ hk,q7,st2',Option.map_some])|(refine aS ?_ ?_<;>(intro hb hd;rw[hb];clear hb))|(with_reducible refine aj ?_))
    .refine⟨rfl,rfl,_,⟨al.set k z.1,by simp[hal],old z.1 ⟨λ_ _=>⟨r,hr2,hsr.1 hd⟩,λe=>?_⟩,?_,?_,by exact aH,by omega,rfl⟩,by(repeat' (first|exact aO|refine aM rfl ?_))⟩
     .rcases e with e|e
      .rw[hown]at e;cases e
      .exact absurd e hsf
     .simp (disch:=omega) only[go_sem]
     .simp (disch:=omega) only[go_sem,q8]
    .refine⟨rfl,rfl,_,⟨λj hj w hw=>?_,?_,?_,by exact aH,by omega,rfl⟩,by(repeat' (first|exact aO|refine aM rfl ?_))⟩
     .by_cases e:j=t
      .subst e;rw[hz]at hw;cases hw;rw[hsz,hd]
      .exact hno j (by omega) w hw
     .simp (disch:=omega) only[go_sem,q7]
     .simp (disch:=omega) only[go_sem,q8]
   .rintro h9 n9 G ⟨hno,q7,q8,u9,l9,rfl⟩
    exfalso;refine hsf (.own hown λm r hmr=>?_);obtain⟨j,hj1,hj2⟩:=ia.move hP hl hmr;obtain⟨t,ht⟩:=List.getElem?_of_mem hj1;have:=hno t (List.getElem?_eq_some_iff.1 ht).1 _ ht;obtain⟨b,hb',hbr⟩:=sl.2 j r hj2;rw[this]at hb';cases hb';exact Classical.byContradiction λe=>by have:=hbr.2 e;cases this
 .rintro h5 n5 G ⟨al,hal,hb,g5,g6,u5,l5,rfl⟩
  simp (disch:=omega) only[go_sem,simprocAttr];refine hQ _ al _ _ ⟨by rw[hal,List.length_map],λj q hq=>hb j q (by have:=(List.getElem?_eq_some_iff.1 hq).1;rw[List.length_map]at this;exact this) hq⟩ u5 ?_;have sl5:SL h5 n5 1 (.sl (n+1) 0 0 ps.length (some ps.length)) iw al:=SL.of (λ_=>rfl) l5 g5 rfl hal.symm (λk hk=>by cases hk;exact Nat.le_refl _);exact sl5.kp λx hx=>by rw[eu]at hx;omega
end
end
end
section
noncomputable section
section
variable {C:ay} {s:aI} {p q r:aN} {party:Int} {t:Int}
theorem Qp{N i:Nat}(hi:i<N)(h:C.Kt party q i):((i:Int),(⟨C.aU q.st i,true⟩:aN))∈C.mJ party q N:=by
 unfold ay.mJ;exact List.mem_map.2 ⟨i,List.mem_filter.2 ⟨List.mem_range.2 hi,by simpa using h⟩,rfl⟩
theorem zw{i:Nat}(hi:i<C.acts.length)(hd:q.st.day<C.days)(h:C.Kt party q i):((i:Int),(⟨C.aU q.st i,true⟩:aN))∈C.iK party q:=by
 unfold ay.iK;rw[if_pos hd];exact List.mem_append.2 (.inr (Qp hi h))
theorem vX(h:q.own=true):((-2:Int),(⟨q.st,false⟩:aN))∈C.iK party q:=by
 unfold ay.iK ay.mI;rw[if_pos h];simp
theorem A8(h:q.own=false)(hd:q.st.day<C.days):((-1:Int),(⟨C.aU q.st (-1),true⟩:aN))∈C.iK party q:=by
 unfold ay.iK ay.mI;have h2:q.own=false/\q.st.day<C.days:=⟨h,hd⟩;rw[if_pos h2];simp
theorem Ub(hp:0<=party)(h1: -1<=t)(h2:t<C.acts.length)(hd:s.day<C.days)(h:∀r,(t,r)∉C.iK party ⟨s,decide (0<=t/\C.doer s t=party)⟩):C.aU s t=s:=by
 by_cases ht:t= -1
 .subst ht
  have e:decide (0<=(-1:Int)/\C.doer s (-1)=party)=false:=decide_eq_false (by omega);rw[e]at h;exact absurd (A8 (q:=⟨s,false⟩) rfl hd) (h _)
 .obtain⟨i,rfl⟩:=Int.eq_ofNat_of_zero_le (show 0<=t by omega)
  refine Classical.byContradiction λhne=>?_;by_cases hdo:C.doer s (i:Nat)=party
  .have e:decide (0<=((i:Nat):Int)/\C.doer s (i:Nat)=party)=true:=decide_eq_true ⟨by omega,hdo⟩
   rw[e]at h;exact h _ (zw (q:=⟨s,true⟩) (by omega) hd ⟨by simp[hdo],hne⟩)
  .have e:decide (0<=((i:Nat):Int)/\C.doer s (i:Nat)=party)=false:=decide_eq_false λe=>hdo e.2
   rw[e]at h;exact h _ (zw (q:=⟨s,false⟩) (by omega) hd ⟨by simp[hdo],hne⟩)
theorem Qq(hm:(t,r)∈C.iK party ⟨s,true⟩)(ht:t≠ -2):0<=t/\t<C.acts.length/\s.day<C.days/\C.doer s t=party:=by
 unfold ay.iK ay.mI at hm;rcases List.mem_append.1 hm with hm|hm
 .rcases List.mem_append.1 hm with hm|hm
  .rw[if_pos rfl]at hm
   simp at hm;exact absurd hm.1 ht
  .split at hm
   .rename_i h;cases h.1
   .cases hm
 .split at hm
  .rename_i hd
   unfold ay.mJ at hm;obtain⟨i,hi,e⟩:=List.mem_map.1 hm;obtain⟨h1,h2⟩:=List.mem_filter.1 hi;have h3:C.Kt party ⟨s,true⟩ i:=by simpa using h2
   cases e
   exact⟨by omega,by have:=List.mem_range.1 h1;omega,hd,h3.1.2 rfl⟩
  .cases hm
theorem Uc{i:Nat}{a:dM}:(C.act i a s).day=s.day:=by
 unfold ay.act;cases ((a.kind !=1)&&s.used.getD i false)with
 |true=>rfl
 |false=>
  simp only[cond_false];cases (a.kind !=1)<;>rfl
theorem IU(ht:0<=t):(C.aU s t).day=s.day:=by
 unfold ay.aU;rw[if_neg (by omega)];split
 .exact Uc
 .rfl
end
theorem RD.pre{h:AH}{b o w k:Nat}{cs:List AV}(r:RD h b o w cs)(hk:k<=w):pG (h.get b) o (some k)=some (.agg (cs.take k)):=r.pre' k hk
def Ei(C:ay)(party:Int)(l:List Int)(S:List aI):Prop:=∀(k:Nat)(t:Int)(a b:aI),l[k]?=some t->S[k]?=some a->S[k+1]?=some b->¬bM C party ⟨a,true⟩->¬bM C party (C.decide party a b t)
structure FoB where
 b13:Nat
 b14:Nat
 b3:Nat
 b8:Nat
 b4:Nat
structure FoA(g:FoB)(v:CS)(C:ay)(party:Int)(vv ww:AV)(ps:List (TS×aN))(wv:List AV)(M:List (List (Int×Nat)))(h:AH)(n:Nat):Prop where
 r3:h.get g.b3=some (.row 27 (v.av C))
 r8:h.get g.b8=some (.row 147 (oL party vv ww))
 r4:h.get g.b4=some (.row 3 [.i .i64 party])
 con:aY h n v C
 ar:uD h n vv ww ps wv M
structure Ny(h:AH)(n:Nat)(g:FoB)(X:Nat->Prop)(A:HP)(lv:AV)(l:List Int)(i:Nat):Prop where
 yB:h.get g.b13=some (.row 22 [lv])
 gl:Gr h n 3 1 lv iw l
 qP:h.get g.b14=some (.row 3 [.i .i64 (i:Nat)])
 ne:g.b13≠g.b14
 d:∀x,blk lv x->x≠g.b13/\x≠g.b14
 YS:X g.b13
 YU:X g.b14
 Xl:∀x,blk lv x->X x
 lt:∀x,X x->x<n
 A:Kp X h n A
section
variable {h h' h2 h3:AH} {n n' n2 n3:Nat} {g:FoB} {X:Nat->Prop} {A:HP} {lv:AV} {l:List Int} {i:Nat}
theorem Ny.up(a:Ny h n g X A lv l i)(u:Up h n h' n'):Ny h' n' g X A lv l i:=
 ⟨(u.old _ (a.lt _ a.YS)).trans a.yB,a.gl.up u,(u.old _ (a.lt _ a.YU)).trans a.qP,a.ne,a.d,a.YS,a.YU,a.Xl,λx hx=>Nat.lt_of_lt_of_le (a.lt x hx) u.le,a.A.up u⟩
theorem Ny.at_(a:Ny h n g X A lv l i)(j:Nat):Ny (h.set g.b14 (.row 3 [.i .i64 (j:Nat)])) n g X A lv l j:=
 ⟨by rw[au a.ne];exact a.yB,a.gl.on (Nat.le_refl _) λx _ hx=>au (a.d x hx).2,aF,a.ne,a.d,a.YS,a.YU,a.Xl,a.lt,a.A.set (.inl a.YU) (Nat.le_refl _)⟩
theorem Ny.add(a:Ny h n g X A lv l i){v':AV}{t:Int}(u:Up h n h2 n2)(gr:Gr h3 n3 3 1 v' iw (l++[t]))(le:n2<=n3)(s:∀x,x<n2->¬blk lv x->h3.get x=h2.get x)(b:∀x,blk v' x->blk lv x\/n2<=x):
 h3.get g.b13=some (.row 22 [lv])/\Ny (h3.set g.b13 (.row 22 [v'])) n3 g (λx=>X x\/blk v' x) A v' (l++[t]) i:=by
 have hn:=u.le;have old:∀x,x<n->¬blk lv x->h3.get x=h.get x:=λx hx h2=>by rw[s x (by omega) h2,u.old x hx]
 have new:∀x,blk v' x->x<n->blk lv x:=λx hx hl=>(b x hx).elim id (by omega);have h13:=a.lt _ a.YS;have h14:=a.lt _ a.YU;have nb:∀x,blk v' x->x≠g.b13/\x≠g.b14:=λx hx=>by
  rcases b x hx with e|e
  .exact a.d x e
  .exact⟨by omega,by omega⟩
 have o13:¬blk lv g.b13:=λe=>(a.d _ e).1 rfl;have o14:¬blk lv g.b14:=λe=>(a.d _ e).2 rfl;refine⟨(old _ h13 o13).trans a.yB,⟨aF,gr.on (Nat.le_refl _) λx _ hx=>au (nb x hx).1,?_,a.ne,nb,.inl a.YS,.inl a.YU,λx hx=>.inr hx,λx hx=>?_,?_⟩⟩
 .rw[au (Ne.symm a.ne),old _ h14 o14];exact a.qP
 .rcases hx with hx|hx
  .have:=a.lt x hx;omega
  .exact gr.fK hx
 .refine(a.A.le λx hx (e:X x\/blk v' x)=>e.elim id λe=>a.Xl x (new x e hx)).on (by omega) λx hx e=>?_
  have e1:¬X x:=λk=>e (.inl k);rw[au (λk=>e1 (by rw[k];exact a.YS)),old x hx λk=>e1 (a.Xl x k)]
end
section
variable {h:AH} {n:Nat} {g:FoB} {X:Nat->Prop} {A:HP} {lv:AV} {l:List Int} {i:Nat} {v:CS} {C:ay} {p:aN} {party:Int} {ps:List (TS×aN)} {wv:List AV} {M:List (List (Int×Nat))} {vv ww:AV} {Q:AV->AH->Nat->Prop}
theorem VT(K:Nat)(a:Ny h n g X A lv l i)(hA:∀h n,A h n->FoA g v C party vv ww ps wv M h n)(ia:bZ C party p (ps.map (·.2)) M)(so:aK C p.st)(hp:0<=party){s:aI}(hi:(ps.map (·.2))[i]?=some ⟨s,true⟩){t:Int}(h1: -1<=t)(h2:t<C.acts.length)(hd:s.day<C.days)(hl:l.length<=100000)
 (hQ:∀v' X' j h' n',Ny h' n' g X' A v' (l++[t]) j->(ps.map (·.2))[j]?=some ⟨C.aU s t,true⟩->n<=n'->(∀x,x<n->¬X x->h'.get x=h.get x)->(∀x,X x->X' x)->(∀x,X' x->X x\/n<=x)->Q (.bJ []) h' n'):CW (EF (K+2)) 49 [.i .i64 t,.p g.b13 0,.p g.b14 0,.p g.b3 0,.p g.b8 0,.p g.b4 0] h n Q:=by
 have yB:=a.yB;refine aC c53 rfl ?_;simp (disch:=omega) only[go_sem,simprocAttr,m53,yB];refine jq (l2:=[t]) (a.gl.up aH) ⟨rfl,?_⟩ (by simp;omega) λv' h4 n4 g4 l4 s4 b4=>?_
 .show bnd (iI (Tr.get _ _) 0 _) (λr=>mP (Nat.mul 1 1) r)=_
  rw[aF];rfl
 obtain⟨q1,a2⟩:=a.add (show Up h n _ (n+1) by exact aH) g4 l4 s4 b4;have us:∀x,x<n->¬X x->(h4.set g.b13 (.row 22 [v'])).get x=h.get x:=λx hx hX=>by
  rw[au (λe=>hX (by rw[e];exact a.YS)),s4 x (by omega) (λe=>hX (a.Xl x e)),au (by omega)]
 have hX2:∀x,(X x\/blk v' x)->X x\/n<=x:=λx hx=>by
  rcases hx with e|e
  .exact .inl e
  .rcases b4 x e with e|e
   .exact .inl (a.Xl x e)
   .exact .inr (by omega)
 simp (disch:=omega) only[go_sem,simprocAttr,q1,g4.cl];have hn4:n<=n4:=by omega
 generalize Tr.set h4 g.b13 _=h5 at*;have qP:=a2.qP;have fa:=hA _ _ a2.A.use;have r3:=fa.r3;have r8:=fa.r8;have r4:=fa.r4;have hin:=(List.getElem?_eq_some_iff.1 hi).1;rw[List.length_map]at hin;have hsm:=ia.small;rw[List.length_map]at hsm;obtain⟨b1,o1,x,i1,hx,hb1,rd⟩:=fa.ar.pos.dL (k:=(i:Nat)) (by omega) (by omega) (by omega);rw[show((i:Nat):Int).toNat=i by omega]at hx;have hx2:x.2=⟨s,true⟩:=by rw[List.getElem?_map,hx]at hi;simpa using hi
 have rp:=rd.pre (k:=4) (by omega);have e4:(pJ x).take 4=x.1.av s:=by rw[pJ,hx2];rfl
 rw[e4]at rp;have VR:aK C s:=wH.ok so (ia.rch _ (List.mem_of_getElem? hi));have hst:bI h5 n4 x.1 s:=by have:=fa.ar.st x (List.mem_of_getElem? hx);rw[hx2]at this;exact this
 repeat' (first|(simp (disch:=omega) only[go_sem,simprocAttr,qP,r3,r8,CS.av,i1,rp])|(refine aS ?_ ?_<;>(intro hb hd;rw[hb];clear hb))|(with_reducible refine aj ?_))
 rw[bF];refine Cn _ fa.con hst VR h1 h2 λh6 n6 u6=>?_;have a6:=a2.up u6;have e6:=u6.le;have fa6:=hA _ _ a6.A.use;have r4':=fa6.r4;have r8':=fa6.r8;have acW:=a6.qP;have us6:∀x,x<n->¬X x->h6.get x=h.get x:=λx hx hX=>by rw[u6.old x (by omega),us x hx hX]
 have fin:∀(from_:Nat)(F:Fm) h7 n7,Up h6 n6 h7 n7->(ps.map (·.2))[from_]?=some ⟨s,decide (0<=t/\C.doer s t=party)⟩->CW (EF (K+1)) 51 [.agg (oL party vv ww),.i .i64 (from_:Nat),.i .i64 t] h7 n7 (λv h n=>(∃j:Nat,v= .bJ [.i .i64 (j:Nat),.b true]/\Up h7 n7 h n/\(ps.map (·.2))[j]?=some ⟨C.aU s t,true⟩)\/(v= .bJ [.i .i64 0,.b false]/\Up h7 n7 h n/\C.aU s t=s)):=by
  intro from_ F h7 n7 u7 hf;refine rU _ ((hA _ _ (a6.up u7).A.use).ar) ia so hf (λj r hj hr h8 n8 u8=>?_) (λhno h8 n8 u8=>?_)
  .have:=xK hr
   rw[if_neg (by omega)]at this;rw[this]at hj;exact .inl ⟨j,rfl,u8,hj⟩
  .exact .inr ⟨rfl,u8,Ub hp h1 h2 hd hno⟩
 have lst:∀(j:Nat)(h8:AH)(n8:Nat),Up h6 n6 h8 n8->(ps.map (·.2))[j]?=some ⟨C.aU s t,true⟩->Q (.bJ []) (h8.set g.b14 (.row 3 [.i .i64 (j:Nat)])) n8:=λj h8 n8 u8 hj=>by
  have a8:=(a6.up u8).at_ j;have:=u8.le;refine hQ _ _ _ _ _ a8 hj (by omega) (λx hx hX=>?_) (λx hx=>.inl hx) hX2;rw[au (λe=>hX (by rw[e];exact a.YU)),u8.old x (by omega),us6 x hx hX]
 have acX:∀(h8:AH)(n8:Nat),Up h6 n6 h8 n8->C.aU s t=s->Q (.bJ []) h8 n8:=λh8 n8 u8 hst=>by
  have:=u8.le;refine hQ _ _ _ _ _ (a6.up u8) (by rw[hst];exact hi) (by omega) (λx hx hX=>?_) (λx hx=>.inl hx) hX2;rw[u8.old x (by omega),us6 x hx hX]
 have dec:(if t= -1 then(-1:Int)else C.doer s t)=party↔(0<=t/\C.doer s t=party):=by
  by_cases ht:t= -1
  .rw[if_pos ht];constructor<;>intro e<;>omega
  .rw[if_neg ht];constructor
   .intro e;exact⟨by omega,e⟩
   .exactλe=>e.2
 by_cases hdp:(if t= -1 then(-1:Int)else C.doer s t)=party
 .have hdd:decide ((if t= -1 then(-1:Int)else C.doer s t)=party)=true:=decide_eq_true hdp
  have hdec:decide (0<=t/\C.doer s t=party)=true:=decide_eq_true (dec.1 hdp);repeat' (first|(simp (disch:=omega) only[go_sem,simprocAttr,r4',r4,hdd,r8',acW])|(refine aS ?_ ?_<;>(intro hb hd;rw[hb];clear hb))|(with_reducible refine aj ?_))
  rw[aR];refine CW.mono (fin i [] h6 n6 (Up.refl _ _) (by rw[hdec];exact hi)) ?_;rintro w h8 n8 (⟨j,rfl,u8,hj⟩|⟨rfl,u8,hst⟩)
  .have YV:=(a6.up u8).qP
   simp (disch:=omega) only[go_sem,simprocAttr,YV];exact lst j _ _ u8 hj
  .simp (disch:=omega) only[go_sem,simprocAttr]
   exact acX _ _ u8 hst
 .have hdd:decide ((if t= -1 then(-1:Int)else C.doer s t)=party)=false:=decide_eq_false hdp
  have hdec:decide (0<=t/\C.doer s t=party)=false:=decide_eq_false λe=>hdp (dec.2 e);repeat' (first|(simp (disch:=omega) only[go_sem,simprocAttr,r4',r4,hdd,r8',acW])|(refine aS ?_ ?_<;>(intro hb hd;rw[hb];clear hb))|(with_reducible refine aj ?_))
  rw[aR];refine rU _ (hA _ _ a6.A.use).ar ia so hi (λj r hj hr h7 n7 u7=>?_) (λhno=>absurd (vX (q:=⟨s,true⟩) rfl) (hno _));have hr2:=xK hr;rw[if_pos rfl]at hr2;rw[hr2]at hj;have r8b:=(hA _ _ (a6.up u7).A.use).r8;simp (disch:=omega) only[go_sem,simprocAttr,r8b];rw[aR];refine CW.mono (fin j [] h7 n7 u7 (by rw[hdec];exact hj)) ?_;rintro w h8 n8 (⟨j,rfl,u8,hj⟩|⟨rfl,u8,hst⟩)
  .have YV:=(a6.up (u7.trans u8)).qP
   simp (disch:=omega) only[go_sem,simprocAttr,YV];exact lst j _ _ (u7.trans u8) hj
  .simp (disch:=omega) only[go_sem,simprocAttr]
   exact acX _ _ (u7.trans u8) hst
end
end
end
section
noncomputable section
section
variable {h h':AH} {n n':Nat} {v:CS} {C:ay} {p:aN} {party:Int} {ps:List (TS×aN)} {wv:List AV} {M:List (List (Int×Nat))} {Q:AV->AH->Nat->Prop} {vv ww ov:AV} {jM:List Int}
structure FwA(g:FoB)(v:CS)(C:ay)(party:Int)(vv ww:AV)(ps:List (TS×aN))(wv:List AV)(M:List (List (Int×Nat)))(mv ov:AV)(xL jM:List Int)(h:AH)(n:Nat):Prop where
 f:FoA g v C party vv ww ps wv M h n
 mv:SL h n 1 mv iw xL
 ov:SL h n 1 ov iw jM
structure FwS(C:ay)(party:Int)(P:List aN)(l:List Int)(S:List aI)(i:Nat)(s:aI):Prop where
 run:fu C C.first l S
 last:S[l.length]?=some s
 pos:P[i]?=some ⟨s,true⟩
 dec:Ei C party l S
theorem FwS.step{P:List aN}{l:List Int}{S:List aI}{i j:Nat}{s:aI}{t:Int}(a:FwS C party P l S i s)(h1: -1<=t)(h2:t<C.acts.length)(h3:s.day<C.days)(hj:P[j]?=some ⟨C.aU s t,true⟩)(hs:¬bM C party ⟨s,true⟩->¬bM C party (C.decide party s (C.aU s t) t)):
 FwS C party P (l++[t]) (S++[C.aU s t]) j (C.aU s t):=by
 have hl:=a.run.len;refine⟨a.run.snoc a.last h1 h2 h3,?_,hj,λk u x y hk hx hy=>?_⟩
 .rw[List.length_append,List.getElem?_append_right (by simp;omega),hl];simp
 .by_cases hkl:k<l.length
  .rw[List.getElem?_append_left hkl]at hk
   rw[List.getElem?_append_left (by omega)]at hx hy;exact a.dec k u x y hk hx hy
  .have hk2:k<(l++[t]).length:=(List.getElem?_eq_some_iff.1 hk).1
   obtain rfl:k=l.length:=by simp at hk2;omega
   rw[List.getElem?_append_right (Nat.le_refl _)]at hk;rw[List.getElem?_append_left (by omega),a.last]at hx;rw[List.getElem?_append_right (by omega),hl]at hy;simp at hk hy;subst hk;cases hx
   subst hy;exact hs
def FL(h:AH)(n n3 n7:Nat)(v:CS)(C:ay)(party:Int)(vv ww:AV)(ps:List (TS×aN))(wv:List AV)(M:List (List (Int×Nat)))(mv ov:AV)(xL jM:List Int)(hk:AH)(nk:Nat)(l:List Int)(S:List aI)(i:Nat)(s:aI):Prop:=∃(X:Nat->Prop)(lv:AV),
 Ny hk nk ⟨n7,n7+1,n,n3,n+1⟩ X (FwA ⟨n7,n7+1,n,n3,n+1⟩ v C party vv ww ps wv M mv ov xL jM) lv l i/\FwS C party (ps.map (·.2)) l S i s/\Up h n hk nk/\∀x,X x->n<=x
theorem Mi(K:Nat)(hC:aY h n v C)(ho:C.off.length<=1000000)(hO:SL h n 1 ov iw jM)(hol:jM.length<=1000000)(hal:C.acts.length<=1000000)
 (hE:∀e h' n',e=1\/e=3->Up h n h' n'->Q (.bJ [.k 1,.i .i64 e]) h' n')
 (hQ:∀v' l S h' n',C.valid=true->0<=party->party<C.aD->¬gT C party ⟨C.first,true⟩->fu C C.first l S->Ei C party l S->l.length<=4000->Up h n h' n'->Kp (λx=>x<n) h' n' (λh n=>SL h n 1 v' iw l)->Q (.bJ [v',.i .i64 0]) h' n'):
 CW (EF (K+12)) 23 [.agg (v.av C),.i .i64 party,ov] h n Q:=by
 refine aC c20 rfl ?_;repeat' (first|(simp (disch:=omega) only[go_sem,simprocAttr,m20,CS.av])|(refine aS ?_ ?_<;>(intro hb hd;rw[hb];clear hb))|(with_reducible refine aj ?_))
 rw[aR]
 -- the checks of the others' steps
 have chk:∀(h3:AH)(n3 b8:Nat)(err:Int)(F:Fm)(st:List It),Up h n h3 n3->n+2<=n3->h3.get n=some (.row 27 (v.av C))->lk F 26=some ov->lk F 27=some (.i .i64 (jM.length:Nat))->lk F 28=some (.i .i64 0)->lk F 2=some ov->lk F 3=some (.p n 0)->lk F 4=some (.p (n+1) 0)->lk F 8=some (.p b8 0)->lk F 9=some (.i .i64 err)->
  (∀(h4:AH)(n4:Nat),Up h3 n3 h4 n4->(∀t∈jM, -1<=t/\t<C.acts.length)->sK Tryz.prog Y0 23 100000 st (.exit 0) (EF (K+11)) h4 n4 [(2,ov),(3,.p n 0),(4,.p (n+1) 0),(8,.p b8 0),(9,.i .i64 err),(26,ov)] (Kn [.t 6,.t 7] Q))->
  (∀(h4:AH)(n4:Nat)(F:Fm),Up h3 n3 h4 n4->lk F 6=some (.k 1)->lk F 7=some (.i .i64 1)->sK Tryz.prog Y0 23 100000 st .ret (EF (K+11)) h4 n4 F (Kn [.t 6,.t 7] Q))->
  SM Tryz.prog Y0 23 (.c (zf 3 28 27 29 0 1 Qi)::st) .bX (EF (K+11)) h3 n3 F (Kn [.t 6,.t 7] Q):=by
  intro h3 n3 b8 err F st u3 l3 r3 f26 f27 f28 f2 f3 f4 f8 f9 fin bad;refine bP jM.length (λk h5 n5 G=>(∀j,j<k->∀t,jM[j]?=some t-> -1<=t/\t<C.acts.length)/\Up h3 n3 h5 n5/\G=[(2,ov),(3,.p n 0),(4,.p (n+1) 0),(8,.p b8 0),(9,.i .i64 err),(26,ov)]) (by omega) (by omega) (by omega) (by omega) (λk h8 n8 G ⟨_,_,e⟩=>by subst e;exact⟨rfl,rfl⟩) ⟨f28,f27,_,⟨(λj hj=>absurd hj (by omega)),Up.refl _ _,rfl⟩,aM f2 (aM f3 (aM f4 (aM f8 (aM f9 (aM f26 aO)))))⟩ ?_ ?_
  .rintro k h5 n5 G hk ⟨hb,u5,rfl⟩
   have e5:=u5.le;obtain⟨b1,o1,t,i1,hx,hb1,rd⟩:=(hO.up (u3.trans u5)).dL (k:=(k:Nat)) (by omega) (by omega) (by omega);rw[show((k:Nat):Int).toNat=k by omega]at hx;have r5:=(u5.old n (by omega)).trans r3;repeat' (first|(simp (disch:=omega) only[go_sem,simprocAttr,Qi,aJ i1,rd.el,rd.hd,r5,CS.av,hC.acts.len])|(refine aS ?_ ?_<;>(intro hb hd;rw[hb];clear hb))|(with_reducible refine aj ?_))
   .exact bad _ _ _ u5 rfl rfl
   .exact bad _ _ _ u5 rfl rfl
   .refine⟨rfl,rfl,_,⟨λj hj y hy=>?_,u5,rfl⟩,by(repeat' (first|exact aO|refine aM rfl ?_))⟩
    by_cases e:j=k
    .subst e;rw[hx]at hy;cases hy;omega
    .exact hb j (by omega) y hy
  .rintro h5 n5 G ⟨hb,u5,rfl⟩
   refine fin _ _ u5 λt ht=>?_;obtain⟨j,hj⟩:=List.getElem?_of_mem ht;exact hb j (List.getElem?_eq_some_iff.1 hj).1 t hj
 refine Qe K (hC.up aH) ho (λhn h3 n3 u3=>?_) (λhv hp0 hp1 hbig h3 n3 u3=>?_) (λhv hp0 hp1 ps wv M vv ww h3 n3 ia u3 k3=>?_)
 .have e3:=u3.le
  repeat' (first|(simp (disch:=omega) only[go_sem,simprocAttr,EI,Int.reduceEq])|(refine aS ?_ ?_<;>(intro hb hd;rw[hb];clear hb))|(with_reducible refine aj ?_))
  exact hE 1 _ _ (.inl rfl) aH
 .have e3:=u3.le
  have r3:h3.get n=some (.row 27 (v.av C)):=by rw[u3.old _ (by omega)];simp (disch:=omega) only[go_sem]
  have ux:Up h n h3 n3:=by exact aH
  clear u3;repeat' (first|(simp (disch:=omega) only[go_sem,simprocAttr,EI,Int.reduceEq,hO.len])|(refine aS ?_ ?_<;>(intro hb hd;rw[hb];clear hb))|(with_reducible refine aj ?_))
  refine chk _ _ n3 3 _ _ aH (by omega) (by simp (disch:=omega) only[go_sem,r3]) rfl rfl rfl rfl rfl rfl rfl rfl (λh4 n4 u4 _=>?_) (λh4 n4 F u4 f6 f7=>?_)
  .repeat' (first|(simp (disch:=omega) only[go_sem,simprocAttr,Int.reduceEq])|(refine aS ?_ ?_<;>(intro hb hd;rw[hb];clear hb))|(with_reducible refine aj ?_))
   exact hE 3 _ _ (.inr rfl) aH
  .simp (disch:=omega) only[go_sem,simprocAttr,f6,f7]
   exact hE 1 _ _ (.inl rfl) aH
 .have e3:=u3.le
  have r3:h3.get n=some (.row 27 (v.av C)):=by rw[u3.old _ (by omega)];simp (disch:=omega) only[go_sem]
  have r4:h3.get (n+1)=some (.row 3 [.i .i64 party]):=by rw[u3.old _ (by omega)];simp (disch:=omega) only[go_sem]
  have ux:Up h n h3 n3:=by exact aH
  clear u3;repeat' (first|(simp (disch:=omega) only[go_sem,simprocAttr,Int.reduceEq,hO.len])|(refine aS ?_ ?_<;>(intro hb hd;rw[hb];clear hb))|(with_reducible refine aj ?_))
  have g8:((Tr.set h3 n3 (.row 147 [.i .i64 0,.k 1,.k 1])).set n3 (.row 147 (oL party vv ww))).get n3=some (.row 147 (oL party vv ww)):=aF;have g3:((Tr.set h3 n3 (.row 147 [.i .i64 0,.k 1,.k 1])).set n3 (.row 147 (oL party vv ww))).get n=some (.row 27 (v.av C)):=by simp (disch:=omega) only[go_sem,r3]
  have g4:((Tr.set h3 n3 (.row 147 [.i .i64 0,.k 1,.k 1])).set n3 (.row 147 (oL party vv ww))).get (n+1)=some (.row 3 [.i .i64 party]):=by simp (disch:=omega) only[go_sem,r4]
  have ar:=(k3.up (show Up h3 n3 ((Tr.set h3 n3 (.row 147 [.i .i64 0,.k 1,.k 1])).set n3 (.row 147 (oL party vv ww))) (n3+1) by exact aH));have GH:Up h n ((Tr.set h3 n3 (.row 147 [.i .i64 0,.k 1,.k 1])).set n3 (.row 147 (oL party vv ww))) (n3+1):=by exact aH
  generalize(Tr.set h3 n3 (.row 147 [.i .i64 0,.k 1,.k 1])).set n3 _=h5 at*;refine chk _ _ n3 0 _ _ GH (by omega) g3 rfl rfl rfl rfl rfl rfl rfl rfl (λh4 n4 u4 hall=>?_) (λh4 n4 F u4 f6 f7=>?_);rotate_left
  .simp (disch:=omega) only[go_sem,simprocAttr,f6,f7]
   exact hE 1 _ _ (.inl rfl) aH
  have e4:=u4.le;have g8:=(u4.old n3 (by omega)).trans g8;have g3:=(u4.old n (by omega)).trans g3;have g4:=(u4.old (n+1) (by omega)).trans g4;have so1:=qI hv;repeat' (first|(simp (disch:=omega) only[go_sem,simprocAttr,Int.reduceEq,hO.len,g8,g3,CS.av])|(refine aS ?_ ?_<;>(intro hb hd;rw[hb];clear hb))|(with_reducible refine aj ?_))
  .exact hE 3 _ _ (.inr rfl) aH
  rw[bF];refine zu (K+1) (hC.up (GH.trans u4)) ho (ar.up u4).use ia hp0 hp1 so1 λsv sf h6 n6 hsf u6 k6=>?_;have e6:=u6.le;have g8':=(u6.old n3 (by omega)).trans g8;simp (disch:=omega) only[go_sem,simprocAttr];rw[bF];refine AZ _ ((ar.up u4).up u6).use ia so1 k6.use hsf λmv xL h7 n7 YW u7 k7=>?_;have e7:=u7.le;have acY:=(u7.old n3 (by omega)).trans g8';repeat' (first|(simp (disch:=omega) only[go_sem,simprocAttr,g8,g8',acY,hO.len])|(refine aS ?_ ?_<;>(intro hb hd;rw[hb];clear hb))|(with_reducible refine aj ?_))
  have hsm:=ia.small;have hlen:=ia.len;rw[List.length_map]at hsm hlen;have ark:xL.length=ps.length:=by rw[YW.1,List.length_map]
  have fl0:FL h n n3 n7 v C party vv ww ps wv M mv ov xL jM (((Tr.set h7 n7 (.row 22 [.k 1])).set (n7+1) (.row 3 [.i .i64 0])).set (n7+1) (.row 3 [.i .i64 0])) (n7+1+1) [] [C.first] 0 C.first:=by
   have u47:=u6.trans u7;have uz:Up h7 n7 (((Tr.set h7 n7 (.row 22 [.k 1])).set (n7+1) (.row 3 [.i .i64 0])).set (n7+1) (.row 3 [.i .i64 0])) (n7+1+1):=by exact aH
   refine⟨λx=>x=n7\/x=n7+1,.k 1,⟨by simp (disch:=omega) only[go_sem],Gr.nil λ_=>rfl,aF,by show n7≠n7+1;omega,λx hx=>absurd hx fA,.inl rfl,.inr rfl,λx hx=>absurd hx fA,λx hx=>by omega,λh' n' hn he=>?_⟩,⟨fu.nil C C.first,rfl,ia.hd,λk t a b hk=>by cases hk⟩,(((GH.trans u4).trans u47).trans uz),λx hx=>by have:=GH.le;omega⟩;have o:∀x,x<n7->h'.get x=h7.get x:=λx hx=>(he x (by omega) (by omega)).trans (uz.old x hx);have u':Up h7 n7 h' n':=⟨by omega,o⟩;have u4':Up h4 n4 h' n':=u47.trans u';exact⟨⟨(u4'.old n (by omega)).trans g3,(u4'.old n3 (by omega)).trans g8,(u4'.old (n+1) (by omega)).trans g4,hC.up ((GH.trans u4).trans u4'),((ar.up u4).up u4').use⟩,(k7.up u').use,hO.up ((GH.trans u4).trans u4')⟩
  generalize((Tr.set h7 n7 _).set (n7+1) _).set (n7+1) _=h8 at*;clear g8 g8' acY g3 g4 k6 k7 k3 ar ux r3 r4 chk;have tail:∀hk nk l S i s,FL h n n3 n7 v C party vv ww ps wv M mv ov xL jM hk nk l S i s->l.length<=4000->∀e F,e=2->lk F 13=some (.p n7 0)->sK Tryz.prog Y0 23 100000 [It.b 2,It.c ((MC.reg [⟨none,.ld none (.s 13),.l⟩,⟨none,.mv (.v 0),.k 6⟩,⟨none,.mv (.c (.i .i64 0)),.k 7⟩]).seq .ret)] (.exit e) (EF (K+11)) hk nk F (Kn [.t 6,.t 7] Q):=by
   rintro hk nk l S i s ⟨X,lv,a,fs,uk,hX⟩ hl e F rfl f13;have yB:=a.yB;have nb:∀x,blk lv x->¬x<n:=λx hx e=>by have:=hX x (a.Xl x hx);omega
   simp (disch:=omega) only[go_sem,simprocAttr,f13,yB,fM];exact hQ _ l S _ _ hv hp0 hp1 (ia.Pg .refl) fs.run fs.dec hl uk (a.gl.sl.kp nb)
  have acts:∀(k:Nat)(t:Int)(st:List It)(Q':PQ),(∀hk nk l S i s,FL h n n3 n7 v C party vv ww ps wv M mv ov xL jM hk nk l S i s->l.length<=4001->s.day<C.days->(xL[i]?=some (-2)\/4000<l.length)->∀F,(∀m w,lk [(3,.p n 0),(4,.p (n+1) 0),(8,.p n3 0),(12,mv),(13,.p n7 0),(14,.p (n7+1) 0),(15,.f 49 [.p n7 0,.p (n7+1) 0,.p n 0,.p n3 0,.p (n+1) 0]),(55,ov),(56,.i .i64 (jM.length:Nat)),(57,.i .i64 (k:Nat)),(17,.i .i64 t)] m=some w->lk F m=some w)->sK Tryz.prog Y0 23 100000 st (.exit 4) (EF (K+11)) hk nk F Q')->
   ∀hk nk l S i s F,FL h n n3 n7 v C party vv ww ps wv M mv ov xL jM hk nk l S i s->l.length<=4000->s.day<C.days->(∀m w,lk [(3,.p n 0),(4,.p (n+1) 0),(8,.p n3 0),(12,mv),(13,.p n7 0),(14,.p (n7+1) 0),(15,.f 49 [.p n7 0,.p (n7+1) 0,.p n 0,.p n3 0,.p (n+1) 0]),(55,ov),(56,.i .i64 (jM.length:Nat)),(57,.i .i64 (k:Nat)),(17,.i .i64 t)] m=some w->lk F m=some w)->SM Tryz.prog Y0 23 (It.c (.loop Qh)::st) .bX (EF (K+11)) hk nk F Q':=by
   intro k t st Q' after hk nk l S i s F fl hl jW hF;refine iF (λm hk nk F=>(∃l S i s,FL h n n3 n7 v C party vv ww ps wv M mv ov xL jM hk nk l S i s/\l.length+m=4001/\s.day<C.days)/\F=[(3,.p n 0),(4,.p (n+1) 0),(8,.p n3 0),(12,mv),(13,.p n7 0),(14,.p (n7+1) 0),(15,.f 49 [.p n7 0,.p (n7+1) 0,.p n 0,.p n3 0,.p (n+1) 0]),(55,ov),(56,.i .i64 (jM.length:Nat)),(57,.i .i64 (k:Nat)),(17,.i .i64 t)]) (4001 - l.length) (by omega) ⟨_,⟨⟨l,S,i,s,fl,by omega,jW⟩,rfl⟩,hF⟩ ?_;clear hF jW hl fl F s i S l nk hk;rintro m hk nk F ⟨⟨l,S,i,s,⟨X,lv,a,fs,uk,hX⟩,hm,jW⟩,rfl⟩;have fw:=a.A.use;have yB:=a.yB;have qP:=a.qP;dsimp only at yB qP;have hin:=(List.getElem?_eq_some_iff.1 fs.pos).1;rw[List.length_map]at hin;obtain⟨b2,o2,x,i2,hx,hb2,eP⟩:=fw.mv.dL (k:=(i:Nat)) (by omega) (by omega) (by omega);rw[show((i:Nat):Int).toNat=i by omega]at hx;obtain⟨x',hx',YX,ajJ⟩:=YW.2 i _ fs.pos;rw[hx]at hx';cases hx'
   repeat' (first|(simp (disch:=omega) only[go_sem,simprocAttr,Qh,qP,aJ i2,eP.el,eP.hd,yB,a.gl.len])|(refine aS ?_ ?_<;>(intro hb hd;rw[hb];clear hb))|(with_reducible refine aj ?_))
   .have hne:¬x= -2:=by assumption
    have hnd:¬bM C party ⟨s,true⟩:=λe=>hne (ajJ (.inr e));obtain⟨r,hr,hnr⟩:=YX rfl hnd;obtain⟨y0,y1,y2,y3⟩:=Qq hr hne;have hr2:=xK hr;rw[if_neg hne]at hr2;rw[hr2]at hnr;rw[DX];show CW _ 49 [.i .i64 x,.p n7 0,.p (n7+1) 0,.p n 0,.p n3 0,.p (n+1) 0] _ _ _;refine VT (K+9) (g:=⟨n7,n7+1,n,n3,n+1⟩) a (λh n e=>e.f) ia so1 hp0 fs.pos (by omega) y1 jW (by omega) λv' X' j h9 n9 a9 hj hn9 hs9 YH hX9=>?_;simp (disch:=omega) only[go_sem,simprocAttr];have fs2:=fs.step (by omega) y1 jW hj λ_=>by unfold ay.decide;rw[if_pos ⟨y0,y3⟩];exact hnr
    have ukl:=uk.le;refine⟨m - 1,_,by omega,⟨⟨_,_,j,_,⟨X',v',a9,fs2,⟨by omega,λy hy=>?_⟩,λy hy=>?_⟩,by simp;omega,by rw[IU y0];exact jW⟩,rfl⟩,by(repeat' (first|exact aO|refine aM rfl ?_))⟩
    .rw[hs9 y (by omega) (λe=>by have:=hX y e;omega),uk.old y hy]
    .rcases hX9 y hy with e|e
     .exact hX y e
     .omega
   .exact after _ _ l S i s ⟨X,lv,a,fs,uk,hX⟩ (by omega) jW (.inr (by omega)) _ (by(repeat' (first|exact aO|refine aM rfl ?_)))
   .exact after _ _ l S i s ⟨X,lv,a,fs,uk,hX⟩ (by omega) jW (.inl (by rw[hx,hd])) _ (by(repeat' (first|exact aO|refine aM rfl ?_)))
  refine bP jM.length (λk hk nk G=>(∃l S i s,FL h n n3 n7 v C party vv ww ps wv M mv ov xL jM hk nk l S i s/\l.length<=4000)/\G=[(3,.p n 0),(4,.p (n+1) 0),(8,.p n3 0),(12,mv),(13,.p n7 0),(14,.p (n7+1) 0),(15,.f 49 [.p n7 0,.p (n7+1) 0,.p n 0,.p n3 0,.p (n+1) 0]),(55,ov)]) (by omega) (by omega) (by omega) (by omega) (λk h8 n8 G ⟨_,e⟩=>by subst e;exact⟨rfl,rfl⟩) ⟨rfl,rfl,_,⟨⟨_,_,_,_,fl0,by simp⟩,rfl⟩,by(repeat' (first|exact aO|refine aM rfl ?_))⟩ ?_ ?_;rotate_left
  .rintro hk nk G ⟨⟨l,S,i,s,fl,hl⟩,rfl⟩
   refine tail _ _ _ _ _ _ fl hl 2 _ rfl ?_;rfl
  clear fl0;rintro k h8 n8 G hk ⟨⟨l,S,i,s,⟨X,lv,a,fs,uk,hX⟩,hl⟩,rfl⟩;have fw:=a.A.use;have r3:=fw.f.r3;have r8:=fw.f.r8;dsimp only at r3 r8;have qP:=a.qP;dsimp only at qP;have hin:=(List.getElem?_eq_some_iff.1 fs.pos).1;rw[List.length_map]at hin;obtain⟨b1,o1,t,i1,ht,hb1,rd⟩:=fw.ov.dL (k:=(k:Nat)) (by omega) (by omega) (by omega);obtain⟨b2,o2,x,i2,hx,hb2,eP⟩:=fw.f.ar.pos.dL (k:=(i:Nat)) (by omega) (by omega) (by omega);rw[show((k:Nat):Int).toNat=k by omega]at ht;rw[show((i:Nat):Int).toNat=i by omega]at hx;have hx2:x.2=⟨s,true⟩:=by have:=fs.pos;rw[List.getElem?_map,hx]at this;simpa using this
  have rdd:pG (h8.get b2) o2 none=some (.i .i64 s.day):=by rw[eP.hd];show nv (pJ x) 0=_;rw[pJ,hx2];rfl
  repeat' (first|(simp (disch:=omega) only[go_sem,simprocAttr,VQ,aJ i1,rd.el,rd.hd,r8,qP,i2,rdd,r3])|(refine aS ?_ ?_<;>(intro hb hd;rw[hb];clear hb))|(with_reducible refine aj ?_))
  .have yB:=a.yB
   dsimp only at yB;simp (disch:=omega) only[go_sem,simprocAttr,yB];exact hQ _ l S _ _ hv hp0 hp1 (ia.Pg .refl) fs.run fs.dec hl uk (a.gl.sl.kp λx hx (e:x<n)=>by have:=hX x (a.Xl x hx);omega)
  have hdy:s.day<C.days:=by
   have:=(wH.ok so1 (ia.rch _ (List.mem_of_getElem? fs.pos))).Fz;dsimp only at this;omega
  refine acts k t _ _ (λhk nk l S i s fl hl jW hor F hF=>?_) _ _ l S i s _ ⟨X,lv,a,fs,uk,hX⟩ hl hdy (by(repeat' (first|exact aO|refine aM rfl ?_)));clear hdy hd rdd hx2 hx eP i2 hin qP r8 r3 fw hX uk fs a hb2;obtain⟨X,lv,a,fs,uk,hX⟩:=fl;have f3:=hF 3 _ rfl;have f4:=hF 4 _ rfl;have f8:=hF 8 _ rfl;have f13:=hF 13 _ rfl;have f14:=hF 14 _ rfl;have f15:=hF 15 _ rfl;have f17:=hF 17 _ rfl;have fw:=a.A.use;have r3:=fw.f.r3;have r8:=fw.f.r8;have r4:=fw.f.r4;have qP:=a.qP;dsimp only at r3 r8 qP r4;have hin:=(List.getElem?_eq_some_iff.1 fs.pos).1;rw[List.length_map]at hin;obtain⟨b2,o2,x,i2,hx,hb2,eP⟩:=fw.f.ar.pos.dL (k:=(i:Nat)) (by omega) (by omega) (by omega);rw[show((i:Nat):Int).toNat=i by omega]at hx;have hx2:x.2=⟨s,true⟩:=by have:=fs.pos;rw[List.getElem?_map,hx]at this;simpa using this
  have rp:=eP.pre (k:=4) (by omega);have e4':(pJ x).take 4=x.1.av s:=by rw[pJ,hx2];rfl
  rw[e4']at rp;have VR:aK C s:=wH.ok so1 (ia.rch _ (List.mem_of_getElem? fs.pos));have hst:bI hk nk x.1 s:=by have:=fw.f.ar.st x (List.mem_of_getElem? hx);rw[hx2]at this;exact this
  obtain⟨t1,t2⟩:=hall t (List.mem_of_getElem? ht);repeat' (first|(simp (disch:=omega) only[go_sem,simprocAttr,f3,f8,f14,f17,f4,r3,r8,qP,CS.av,i2,rp])|(refine aS ?_ ?_<;>(intro hb hd;rw[hb];clear hb))|(with_reducible refine aj ?_))
  rw[bF];refine Cn _ fw.f.con hst VR t1 t2 λh9 n9 u9=>?_;have a9:=a.up u9;have e9:=u9.le;have fw9:=a9.A.use;have r4':=fw9.f.r4;have Qd:=a9.yB;dsimp only at r4' Qd;have f12:=hF 12 _ rfl;have f55:=hF 55 _ rfl;have f56:=hF 56 _ rfl;have f57:=hF 57 _ rfl;have dec:(if t= -1 then(-1:Int)else C.doer s t)=party↔(0<=t/\C.doer s t=party):=by
   by_cases ht:t= -1
   .rw[if_pos ht];constructor<;>intro e<;>omega
   .rw[if_neg ht];constructor
    .intro e;exact⟨by omega,e⟩
    .exactλe=>e.2
  have u9k:Up h n h9 n9:=uk.trans u9;have leF:∀x y m w,lk [(3,.p n 0),(4,.p (n+1) 0),(8,.p n3 0),(12,mv),(13,.p n7 0),(14,.p (n7+1) 0),(15,.f 49 [.p n7 0,.p (n7+1) 0,.p n 0,.p n3 0,.p (n+1) 0]),(55,ov)] m=some w->lk (pt (pt F 97 x) 103 y) m=some w:=λx y m w hm=>by
   have h1:m≠97:=by rintro rfl;cases hm
   have h2:m≠103:=by rintro rfl;cases hm
   have hle:∀m w,lk [(3,.p n 0),(4,.p (n+1) 0),(8,.p n3 0),(12,mv),(13,.p n7 0),(14,.p (n7+1) 0),(15,.f 49 [.p n7 0,.p (n7+1) 0,.p n 0,.p n3 0,.p (n+1) 0]),(55,ov)] m=some w->lk [(3,.p n 0),(4,.p (n+1) 0),(8,.p n3 0),(12,mv),(13,.p n7 0),(14,.p (n7+1) 0),(15,.f 49 [.p n7 0,.p (n7+1) 0,.p n 0,.p n3 0,.p (n+1) 0]),(55,ov),(56,.i .i64 (jM.length:Nat)),(57,.i .i64 (k:Nat)),(17,.i .i64 t)] m=some w:=by(repeat' (first|exact aO|refine aM rfl ?_))
   rw[fM,if_neg h2,fM,if_neg h1];exact hF m w (hle m w hm)
  by_cases hdp:(if t= -1 then(-1:Int)else C.doer s t)=party
  .have hdd:decide ((if t= -1 then(-1:Int)else C.doer s t)=party)=true:=decide_eq_true hdp
   repeat' (first|(simp (disch:=omega) only[go_sem,simprocAttr,r4',r4,hdd,f3,f4,f8,f12,f13,f14,f15,f17,f55,f56,f57,fM,Qd,a9.gl.len])|(refine aS ?_ ?_<;>(intro hb hd;rw[hb];clear hb))|(with_reducible refine aj ?_))
   .exact hE 3 _ _ (.inr rfl) aH
   .refine⟨by rw[fM,if_neg (by omega),fM,if_neg (by omega)];exact f57,by rw[fM,if_neg (by omega),fM,if_neg (by omega)];exact f56,_,⟨⟨l,S,i,s,⟨X,lv,a9,fs,u9k,hX⟩,by omega⟩,rfl⟩,?_⟩
    exact leF _ _
  .have hdd:decide ((if t= -1 then(-1:Int)else C.doer s t)=party)=false:=decide_eq_false hdp
   repeat' (first|(simp (disch:=omega) only[go_sem,simprocAttr,r4',r4,hdd,f3,f4,f8,f12,f13,f14,f15,f17,f55,f56,f57,fM,Qd,a9.gl.len])|(refine aS ?_ ?_<;>(intro hb hd;rw[hb];clear hb))|(with_reducible refine aj ?_))
   rw[DX];show CW _ 49 [.i .i64 t,.p n7 0,.p (n7+1) 0,.p n 0,.p n3 0,.p (n+1) 0] _ _ _;refine VT (K+9) (g:=⟨n7,n7+1,n,n3,n+1⟩) a9 (λh n e=>e.f) ia so1 hp0 fs.pos t1 t2 jW (by omega) λv' X' j h10 n10 Qr hj arq ajM YH ajN=>?_;have VU:=Qr.yB;dsimp only at VU;have e9k:=u9k.le;have rT:Up h n h10 n10:=⟨by omega,λy hy=>by rw[ajM y (by omega) (λe=>by have:=hX y e;omega),u9k.old y hy]⟩;repeat' (first|(simp (disch:=omega) only[go_sem,simprocAttr,f3,f4,f8,f12,f13,f14,f15,f17,f55,f56,f57,fM,VU,Qr.gl.len])|(refine aS ?_ ?_<;>(intro hb hd;rw[hb];clear hb))|(with_reducible refine aj ?_))
   .exact hE 3 _ _ (.inr rfl) aH
   .have hl1:l.length+1<=4000:=by
     have:¬(4000:Int)<((l++[t]).length:Nat):=hd;simp at this;omega
    have fs2:=fs.step t1 t2 jW hj λhnd=>by
     have hnp:¬(0<=t/\C.doer s t=party):=λe=>hdp (dec.2 e);unfold ay.decide;rw[if_neg hnp];rcases hor with e|e
     .obtain⟨x',hx',YX,_⟩:=YW.2 i _ fs.pos
      rw[e]at hx';cases hx';obtain⟨r,hr,hnr⟩:=YX rfl hnd;have hr2:=xK hr;rw[if_pos rfl]at hr2;rw[hr2]at hnr;exact hnr
     .omega
    refine⟨by rw[fM,if_neg (by omega),fM,if_neg (by omega)];exact f57,by rw[fM,if_neg (by omega),fM,if_neg (by omega)];exact f56,_,⟨⟨_,_,j,_,⟨X',v',Qr,fs2,rT,λy hy=>?_⟩,by simp;omega⟩,rfl⟩,leF _ _⟩;rcases ajN y hy with e|e
    .exact hX y e
    .omega
end
end
end
section
noncomputable section
section
variable {h h':AH} {n n':Nat} {v:CS} {C:ay} {tv:TS} {p:aN} {party:Int} {ps:List (TS×aN)} {wv:List AV} {M:List (List (Int×Nat))} {Q:AV->AH->Nat->Prop} {vv ww sv:AV} {sf:List Bool}
def Qt(C:ay)(party:Int)(q:aN)(x:Int):Prop:=(q.own=true->∃r,(x,r)∈C.iK party q/\¬bM C party r)/\(q.own=false->x=0)
theorem IV(K:Nat)(ai:uD h n vv ww ps wv M)(ia:bZ C party p (ps.map (·.2)) M)(so:aK C p.st)(hs:SL h n 1 sv Ua sf)(sl:KN C party (ps.map (·.2)) sf){i:Nat}{q:aN}(hi:(ps.map (·.2))[i]?=some q)(qQ:¬bM C party q)
 (hQ:∀x h' n',Qt C party q x->Up h n h' n'->Q (.i .i64 x) h' n'):CW (EF (K+1)) 184 [.agg (oL party vv ww),sv,.i .i64 (i:Nat)] h n Q:=by
 have hsm:=ia.small;have hlen:=ia.len;have hl2:=ai.len;have hin:=(List.getElem?_eq_some_iff.1 hi).1;rw[List.length_map]at hsm hlen hin;have hsl:sf.length=ps.length:=by rw[sl.1,List.length_map]
 obtain⟨l,hl⟩:=ia.row hi;have hll:=uI so ia hl;obtain⟨b1,o1,x,i1,hx,hb1,rd⟩:=ai.pos.dL (k:=(i:Nat)) (by omega) (by omega) (by omega);obtain⟨b2,o2,y,i2,hy,hb2,eP⟩:=ai.row.dL (k:=(i:Nat)) (by omega) (by omega) (by omega);rw[show((i:Nat):Int).toNat=i by omega]at hx hy;have hx2:x.2=q:=by rw[List.getElem?_map,hx]at hi;simpa using hi
 have sy:=ai.mv i y l hy hl;have TW:pG (h.get b1) (o1+4) none=some (.b q.own):=by rw[rd.el 4 (by omega),<-hx2];rfl
 refine aC c194 rfl ?_;cases hown:q.own with
 |false=>
  rw[hown]at TW;repeat' (first|(simp (disch:=omega) only[go_sem,simprocAttr,YK,aJ i1,TW])|(refine aS ?_ ?_<;>(intro hb hd;rw[hb];clear hb))|(with_reducible refine aj ?_))
  exact hQ 0 _ _ ⟨(λe=>by rw[hown]at e;cases e),λ_=>rfl⟩ aH
 |true=>
  rw[hown]at TW;repeat' (first|(simp (disch:=omega) only[go_sem,simprocAttr,YK,aJ i1,TW,aJ i2,eP.el,eP.hd,sy.len])|(refine aS ?_ ?_<;>(intro hb hd;rw[hb];clear hb))|(with_reducible refine aj ?_))
  have u0:Up h n (Tr.set h n (.row 147 (oL party vv ww))) (n+1):=by exact aH
  generalize Tr.set h n (.row 147 (oL party vv ww))=h1 at*;refine bP l.length (λt h9 n9 G=>(∀j,j<t->∀z,l[j]?=some z->sf[z.2]?=some false)/\Up h n h9 n9/\G=[(1,sv),(20,y)]) (by omega) (by omega) (by omega) (by omega) (λk h8 n8 G ⟨_,_,e⟩=>by subst e;exact⟨rfl,rfl⟩) ⟨rfl,rfl,_,⟨(λj hj=>absurd hj (by omega)),u0,rfl⟩,by(repeat' (first|exact aO|refine aM rfl ?_))⟩ ?_ ?_
  .rintro t h9 n9 G ht ⟨hno,u9,rfl⟩
   have e9:=u9.le;obtain⟨b4,o4,z,i4,hz,hb4,Z_⟩:=(sy.up u9).dL (k:=(t:Nat)) (by omega) (by omega) (by omega);rw[show((t:Nat):Int).toNat=t by omega]at hz;have WQ:=List.mem_of_getElem? hz;have hlt:=ia.tgt hl WQ;rw[List.length_map]at hlt;obtain⟨b5,o5,sz,i5,hsz,hb5,sO⟩:=(hs.up u9).dL (k:=(z.2:Nat)) (by omega) (by omega) (by omega);rw[show((z.2:Nat):Int).toNat=z.2 by omega]at hsz;obtain⟨r,hr1,hr2⟩:=ia.back hi hl (show(z.1,z.2)∈l from WQ);obtain⟨sz',hsz',hsr⟩:=sl.2 z.2 r hr1;rw[hsz]at hsz';cases hsz'
   repeat' (first|(simp (disch:=omega) only[go_sem,simprocAttr,aJ i4,Z_.all,aJ i5,sO.el,sO.hd])|(refine aS ?_ ?_<;>(intro hb hd;rw[hb];clear hb))|(with_reducible refine aj ?_))
   .exact hQ z.1 _ _ ⟨λ_=>⟨r,hr2,hsr.1 hd⟩,(λe=>by rw[hown]at e;cases e)⟩ aH
   .refine⟨rfl,rfl,_,⟨λj hj w hw=>?_,by exact aH,rfl⟩,by(repeat' (first|exact aO|refine aM rfl ?_))⟩
    by_cases e:j=t
    .subst e;rw[hz]at hw;cases hw;rw[hsz,hd]
    .exact hno j (by omega) w hw
  .rintro h9 n9 G ⟨hno,u9,rfl⟩
   exfalso;refine qQ (.own hown λm r hmr=>?_);obtain⟨j,hj1,hj2⟩:=ia.move hi hl hmr;obtain⟨t,ht⟩:=List.getElem?_of_mem hj1;have:=hno t (List.getElem?_eq_some_iff.1 ht).1 _ ht;obtain⟨b,hb',hbr⟩:=sl.2 j r hj2;rw[this]at hb';cases hb';exact Classical.byContradiction λe=>by have:=hbr.2 e;cases this
@[reducible] def VW (x:(TS×aN)×Int):List AV:=[.i .i64 x.1.2.st.day,x.1.1.h,x.1.1.u,x.1.1.m,.b x.1.2.own,.i .i64 x.2]
def YZ:AV:=.agg [.i .i64 0,.k 1]
open Classical in
def Y1(C:ay)(party:Int)(p:aN)(rows:List ((TS×aN)×Int)):Prop:=(∃P M,bZ C party p P M/\rows.map (λx=>x.1.2)=P.filter λq=>decide (¬bM C party q))/\∀x∈rows,Qt C party x.1.2 x.2
open Classical in
theorem Mj(K:Nat)(hC:aY h n v C)(ho:C.off.length<=1000000)(hS:bI h n tv p.st)
 (jV:¬(0<=party/\party<C.aD/\aK C p.st)->∀h' n',Up h n h' n'->Q (.bJ [YZ,.i .i64 1]) h' n')(rQ:0<=party->party<C.aD->aK C p.st->gT C party p->∀h' n',Up h n h' n'->Q (.bJ [YZ,.i .i64 3]) h' n')
 (KA:0<=party->party<C.aD->aK C p.st->bM C party p->∀h' n',Up h n h' n'->Q (.bJ [YZ,.i .i64 13]) h' n')
 (hQ4:0<=party->party<C.aD->aK C p.st->¬bM C party p->∀rows rv h' n',Y1 C party p rows->Up h n h' n'->Kp (λx=>x<n) h' n' (λh n=>SL h n 6 rv VW rows/\∀x∈rows,bI h n x.1.1 x.1.2.st)->Q (.bJ [.agg [.i .i64 party,rv],.i .i64 0]) h' n'):
 CW (EF (K+11)) 116 [.agg (v.av C),.i .i64 party,.agg (tv.pv p)] h n Q:=by
 refine aC c119 rfl ?_;repeat' (first|(simp (disch:=omega) only[go_sem,simprocAttr,acQ,CS.av,TS.pv])|(refine aS ?_ ?_<;>(intro hb hd;rw[hb];clear hb))|(with_reducible refine aj ?_))
 rw[aR];refine zq K (hC.up aH) ho (hS.up aH) ⟨λhn h3 n3 u3=>?_,λhp0 hp1 so hbig h3 n3 u3=>?_,λhp0 hp1 so ps wv M vv ww h3 n3 ia u3 k3=>?_⟩
 .have e3:=u3.le
  have r2:h3.get (n+1+1)=some (.row 59 [.i .i64 0,.k 1]):=by rw[u3.old _ (by omega)];simp (disch:=omega) only[go_sem]
  repeat' (first|(simp (disch:=omega) only[go_sem,simprocAttr,EI,Int.reduceEq,r2])|(refine aS ?_ ?_<;>(intro hb hd;rw[hb];clear hb))|(with_reducible refine aj ?_))
  exact jV hn _ _ aH
 .have e3:=u3.le
  have r2:h3.get (n+1+1)=some (.row 59 [.i .i64 0,.k 1]):=by rw[u3.old _ (by omega)];simp (disch:=omega) only[go_sem]
  repeat' (first|(simp (disch:=omega) only[go_sem,simprocAttr,EI,Int.reduceEq,r2])|(refine aS ?_ ?_<;>(intro hb hd;rw[hb];clear hb))|(with_reducible refine aj ?_))
  exact rQ hp0 hp1 so hbig _ _ aH
 .have e3:=u3.le
  have r2:h3.get (n+1+1)=some (.row 59 [.i .i64 0,.k 1]):=by rw[u3.old _ (by omega)];simp (disch:=omega) only[go_sem]
  have r3:h3.get n=some (.row 27 (v.av C)):=by rw[u3.old _ (by omega)];simp (disch:=omega) only[go_sem]
  have ux:Up h n h3 n3:=by exact aH
  clear u3;have hsm:=ia.small;rw[List.length_map]at hsm;repeat' (first|(simp (disch:=omega) only[go_sem,simprocAttr,Int.reduceEq,r3,CS.av])|(refine aS ?_ ?_<;>(intro hb hd;rw[hb];clear hb))|(with_reducible refine aj ?_))
  rw[aR];have k5:=(k3.up (show Up h3 n3 ((Tr.set h3 n3 (.row 147 [.i .i64 0,.k 1,.k 1])).set n3 (.row 147 (oL party vv ww))) (n3+1) by exact aH));refine zu K (hC.up aH) ho k5.use ia hp0 hp1 so λsv sf h6 n6 hsf u6 k6=>?_;have e6:=u6.le;have hd0:=ia.hd;obtain⟨s0,hs0,hs1⟩:=hsf.2 0 p hd0;have ars:sf.length=ps.length:=by rw[hsf.1,List.length_map]
  have aru:0<ps.length:=by have:=(List.getElem?_eq_some_iff.1 hd0).1;rw[List.length_map]at this;exact this
  obtain⟨b1,o1,z,i1,hz,hb1,rd⟩:=k6.use.dL (k:=0) (by omega) (by omega) (by omega);rw[show(0:Int).toNat=0 by rfl,hs0]at hz;cases hz
  have r2':h6.get (n+1+1)=some (.row 59 [.i .i64 0,.k 1]):=by rw[u6.old _ (by omega),au (by omega),au (by omega)];exact r2
  have r8:h6.get n3=some (.row 147 (oL party vv ww)):=by rw[u6.old _ (by omega),aF]
  have ux6:Up h n h6 n6:=by exact aH
  repeat' (first|(simp (disch:=omega) only[go_sem,simprocAttr,aJ i1,rd.el,rd.hd,r2',r8,(k5.up u6).use.pos.len])|(refine aS ?_ ?_<;>(intro hb hd;rw[hb];clear hb))|(with_reducible refine aj ?_))
  .refine KA hp0 hp1 so (Classical.byContradiction λe=>?_) _ _ aH
   have:=hs1.2 e;rw[hd]at this;cases this
  have hnd:=hs1.1 hd;have u7:Up h6 n6 ((Tr.set h6 n6 (.row 59 [.i .i64 0,.k 1])).set n6 (.row 59 [.i .i64 party,.k 1])) (n6+1):=by exact aH
  have g7:((Tr.set h6 n6 (.row 59 [.i .i64 0,.k 1])).set n6 (.row 59 [.i .i64 party,.k 1])).get n6=some (.row 59 [.i .i64 party,.k 1]):=aF;generalize(Tr.set h6 n6 (.row 59 [.i .i64 0,.k 1])).set n6 _=h7 at*;have ar6:=k5.up u6;refine bP ps.length (λk hk nk G=>∃(rv:AV)(rows:List ((TS×aN)×Int)),Up h6 n6 hk nk/\n6<nk/\hk.get n6=some (.row 59 [.i .i64 party,rv])/\Gr hk nk 116 6 rv VW rows/\(∀x,blk rv x->n6<x)/\rows.map (·.1)=(ps.take k).filter (λx=>decide (¬bM C party x.2))/\(∀x∈rows,Qt C party x.1.2 x.2)/\
   G=[(6,.p (n+1+1) 0),(8,.p n3 0),(10,sv),(11,.p n6 0),(36,vv)]) (by omega) (by omega) (by omega) (by omega) (λk h8 n8 G ⟨_,_,_,_,_,_,_,_,_,e⟩=>by subst e;exact⟨rfl,rfl⟩) ⟨rfl,rfl,_,⟨.k 1,[],u7,Nat.lt_succ_self _,g7,Gr.nil λ_=>rfl,λx hx=>absurd hx fA,rfl,(λx hx=>by cases hx),rfl⟩,by(repeat' (first|exact aO|refine aM rfl ?_))⟩ ?_ ?_
  .rintro k h8 n8 G hk ⟨rv,rows,u8,l8,g8,gr,hb,hm,hkq,rfl⟩
   have e8:=u8.le;have ar8:=(ar6.up u8).use;obtain⟨b2,o2,x,i2,hx,hb2,eP⟩:=ar8.pos.dL (k:=(k:Nat)) (by omega) (by omega) (by omega);obtain⟨b3,o3,sb,i3,hsb,hb3,nA⟩:=(k6.use.up u8).dL (k:=(k:Nat)) (by omega) (by omega) (by omega);rw[show((k:Nat):Int).toNat=k by omega]at hx hsb;have hP:(ps.map (·.2))[k]?=some x.2:=by rw[List.getElem?_map,hx];rfl
   obtain⟨sb',Mh,qQ⟩:=hsf.2 k x.2 hP;rw[hsb]at Mh;cases Mh
   have r8k:=(u8.old n3 (by omega)).trans r8;have htk:(ps.take (k+1)).filter (λx=>decide (¬bM C party x.2))=(ps.take k).filter (λx=>decide (¬bM C party x.2))++if sb=true then[x]else[]:=by
    rw[List.take_add_one,hx,List.filter_append];congr 1;cases sb with
    |true=>have:=qQ.1 rfl;simp[this]
    |false=>
     have:bM C party x.2:=Classical.byContradiction λe=>by have:=qQ.2 e;cases this
     simp[this]
   repeat' (first|(simp (disch:=omega) only[go_sem,simprocAttr,aJ i2,eP.all,aJ i3,nA.el,nA.hd,g8,r8k])|(refine aS ?_ ?_<;>(intro hb hd;rw[hb];clear hb))|(with_reducible refine aj ?_))
   .rw[bF]
    refine IV _ (ar8.up aH) ia so ((k6.use.up u8).up aH) hsf hP (qQ.1 hd) λmv h9 n9 hmv u9=>?_;have e9:=u9.le;have q13:h9.get n8=some (.row 114 (pJ x)):=by rw[u9.old _ (by omega)];exact aF
    have Co:h9.get n6=some (.row 59 [.i .i64 party,rv]):=by rw[u9.old _ (by omega),au (by omega),au (by omega)];exact g8
    repeat' (first|(simp (disch:=omega) only[go_sem,simprocAttr,q13,Co,g8])|(refine aS ?_ ?_<;>(intro hb hd;rw[hb];clear hb))|(with_reducible refine aj ?_))
    have hrl:rows.length<=1500:=by
     have e:=congrArg List.length hm;rw[List.length_map]at e;have e1:=List.length_filter_le (λx:TS×aN=>decide (¬bM C party x.2)) (ps.take k);have e2:=List.length_take_le k ps;omega
    refine Eh (l2:=[(x,mv)]) (gr.up aH) ⟨rfl,?_⟩ (by simp;omega) λv' h10 n10 g10 l10 s10 b10=>?_
    .show bnd (iI (Tr.get _ _) 0 _) (λr=>mP (Nat.mul 1 6) r)=_
     rw[aF];rfl
    have n6b:¬blk rv n6:=λe=>by have:=hb _ e;omega
    have RP:h10.get n6=some (.row 59 [.i .i64 party,rv]):=by rw[s10 n6 (by omega) n6b,au (by omega)];exact Co
    simp (disch:=omega) only[go_sem,simprocAttr,RP,g10.cl,Co,q13];refine⟨rfl,rfl,_,⟨v',rows++[(x,mv)],⟨by omega,λy hy=>?_⟩,by omega,aF,g10.on (Nat.le_refl _) λy _ hy=>au ?_,λy hy=>?_,by rw[htk,hd,List.map_append,hm];rfl,λy hy=>?_,rfl⟩,by(repeat' (first|exact aO|refine aM rfl ?_))⟩
    .rw[au (by omega),s10 y (by omega) (λe=>by have:=hb y e;omega),au (by omega),u9.old y (by omega),au (by omega),au (by omega),u8.old y hy]
    .rintro rfl
     rcases b10 _ hy with e|e
     .exact n6b e
     .omega
    .rcases b10 y hy with e|e
     .exact hb y e
     .omega
    .rcases List.mem_append.1 hy with hy|hy
     .exact hkq y hy
     .simp at hy;subst hy;exact hmv
   .refine⟨rfl,rfl,_,⟨rv,rows,u8.trans aH,by omega,by simp (disch:=omega) only[go_sem,g8],gr.up aH,hb,by rw[htk,hd];simpa using hm,hkq,rfl⟩,by(repeat' (first|exact aO|refine aM rfl ?_))⟩
  .rintro h8 n8 G ⟨rv,rows,u8,l8,g8,gr,hb,hm,hkq,rfl⟩
   have e8:=u8.le;have r2k:=(u8.old (n+1+1) (by omega)).trans r2';rw[List.take_length]at hm;have ux8:Up h n h8 n8:=ux6.trans u8;repeat' (first|(simp (disch:=omega) only[go_sem,simprocAttr,g8,r2k])|(refine aS ?_ ?_<;>(intro hb hd;rw[hb];clear hb))|(with_reducible refine aj ?_))
   have hmp:rows.map (λx=>x.1.2)=(ps.map (·.2)).filter (λq=>decide (¬bM C party q)):=by
    have e:=congrArg (List.map (λx:TS×aN=>x.2)) hm;rw[List.map_map]at e;rw[List.filter_map];exact e
   refine hQ4 hp0 hp1 so hnd rows rv _ _ ⟨⟨_,M,ia,hmp⟩,hkq⟩ aH ?_;have kr:Kp (λx=>x<n+1+1+1) h8 n8 (λh n=>SL h n 6 rv VW rows):=gr.sl.kp λx hx=>by have:=hb x hx;omega
   have ka:=ar6.up u8;have kk:=(kr.and ka).wk (B:=λh n=>SL h n 6 rv VW rows/\∀x∈rows,bI h n x.1.1 x.1.2.st) λh n e=>⟨e.1,λx hx=>e.2.st x.1 ((List.mem_filter.1 (show x.1∈ps.filter (λx=>decide (¬bM C party x.2)) by rw[<-hm];exact List.mem_map_of_mem hx)).1)⟩;exact(kk.set (.inl (by omega)) (Nat.le_refl _)).le λx _ hx=>by omega
end
end
end
section
noncomputable section
set_option maxRecDepth 1000000
set_option maxHeartbeats 4000000
theorem ajO:yc Tryz.prog sl0 84=some ([true],mTx 139 140,[(.t 2)]):=by kernel_rfl
def ac0:MC:=vF 330
def ajP:=vT 330 ac0
def KO:MC:=vB 330 (gW 330 0)
def Ud:=vU 330 (gW 330 0) KO
def KP:MC:=vB 330 (gX 330 0)
def Ue:=vU 330 (gX 330 0) KP
def Y2:MC:=vF 320
def ajQ:=vT 320 Y2
def ac1:MC:=vF 321
def ajR:=vT 321 ac1
def ac2:MC:=vF 322
def ajS:=vT 322 ac2
def ac3:MC:=vF 323
def ajT:=vT 323 ac3
def ac4:MC:=vF 325
def ajU:=vT 325 ac4
def ac5:MC:=vF 326
def ajV:=vT 326 ac5
def ac6:MC:=vF 327
def ajW:=vT 327 ac6
def ac7:MC:=vF 328
def ajX:=vT 328 ac7
def Mk:MC:=vF 329
def ajY:=vT 329 Mk
def ac8:MC:=vF 331
def ajZ:=vT 331 ac8
def ac9:MC:=vF 332
def aj0:=vT 332 ac9
def Y3:MC:=vF 333
def aj1:=vT 333 Y3
def ac_:MC:=vF 334
def aj2:=vT 334 ac_
def ada:MC:=vF 335
def aj3:=vT 335 ada
def adb:MC:=vF 336
def aj4:=vT 336 adb
def ade:MC:=vF 337
def aj5:=vT 337 ade
def adf:MC:=vF 338
def aj6:=vT 338 adf
def aj7:MC:=vF 139
def aj8:=vT 139 aj7
def aj9:MC:=vF 140
def aj_:=vT 140 aj9
def m22:MC:=vF 17
def c22:=vT 17 m22
def m25:MC:=vF 125
def c25:=vT 125 m25
def m58:MC:=vF 40
def c58:=vT 40 m58
end
end
section
noncomputable section
section
variable {h h':AH} {n n':Nat} {v:CS} {C:ay} {tv:TS} {p:aN} {party:Int} {Q:AV->AH->Nat->Prop}
def MvJ(h:AH)(n:Nat)(pb cb tb mb L:Nat)(v:CS)(C:ay)(tv:TS)(p:aN)(party:Int)(t:Tr AV)(h':AH)(n':Nat)(l:List (Int×aN)):Prop:=∃lv,Up h n h' n'/\L_ h' n' pb cb tb v C tv p party/\h'.get mb=some (.row 22 [lv])/\Gr h' n' 3 1 lv iw (l.map (·.1))/\
 h'.get L=some (.lp .ready none 330 t [19,20] (gW 330 0) (gX 330 0))/\mb<n'/\L<n'/\n<=mb/\n<=L/\mb≠L/\mb≠pb/\mb≠cb/\mb≠tb/\L≠pb/\L≠cb/\L≠tb/\∀x,blk lv x->n<=x/\x≠mb/\x≠L/\x≠pb/\x≠cb/\x≠tb
theorem Ml(K:Nat)(hC:aY h n v C)(ho:C.off.length<=1000000)(hS:bI h n tv p.st)(ok:aK C p.st)(h0:0<=party)(h1:party<C.aD)(hQ:∀lv h' n',Up h n h' n'->SL h' n' 1 lv iw ((C.iK party p).map (·.1))->Q (.bJ [lv,.i .i64 0]) h' n'):CW (EF (K+10)) 330 [.agg (v.av C),.i .i64 party,.agg (tv.pv p)] h n Q:=by
 refine aC ajP rfl ?_;repeat' (first|(simp (disch:=omega) only[go_sem,simprocAttr,ac0,CS.av,TS.pv])|(refine aS ?_ ?_<;>(intro hb hd;rw[hb];clear hb))|(with_reducible refine aj ?_))
 rw[aR];refine yA _ (hC.up aH) ho (hS.up aH) λh1 n1 u1=>?_;have e1:=u1.le;rw[show(decide (0<=party)&&decide (party<C.aD)&&C.dB p.st)=true by rw[decide_eq_true h0,decide_eq_true (by assumption),(bR C p.st).2 ok];rfl];have r0:h1.get n=some (.row 27 (v.av C)):=by rw[u1.old n (by omega)];simp (disch:=omega) only[go_sem]
 have r1:h1.get (n+1)=some (.row 114 (tv.pv p)):=by rw[u1.old _ (by omega)];simp (disch:=omega) only[go_sem]
 have ux:Up h n h1 n1:=by exact aH
 clear u1;repeat' (first|(simp (disch:=omega) only[go_sem,simprocAttr,r0,r1,CS.av,TS.pv])|(refine aS ?_ ?_<;>(intro hb hd;rw[hb];clear hb))|(with_reducible refine aj ?_))
 generalize hh:Tr.set h1 n1 _=h2;have u2:Up h n h2 (n1+1):=by rw[<-hh];exact aH
 have r2:h2.get n1=some (.row 22 [.k 1]):=by rw[<-hh];exact aF
 clear hh;rw[aR];refine FX _ (hC.up u2) (hS.up u2) λpb cb tb h3 n3 u3 mi e7 e8 e9=>?_;have e3:=u3.le;have q2:=(u3.old n1 (by omega)).trans r2;simp (disch:=omega) only[go_sem,simprocAttr];refine oH rfl λt hF=>?_;have:=mi.pn;have:=mi.cn;have:=mi.tn;refine KH K (v:=v) (tv:=tv) (party:=party) (MvJ h n pb cb tb n1 n3 v C tv p party t) (λ_ _=>False) ho ok ?_ ?_ ?_ ?_ ?_ ?_
 .rintro h' n' h'' n'' l ⟨lv,b1,b2,b3,b4,b5,b6,b7,b8⟩ u
  have:=u.le;exact⟨lv,b1.trans u,b2.up u,(u.old _ b6).trans b3,b4.up u,(u.old _ b7).trans b5,by omega,by omega,b8⟩
 .rintro h' n' l ⟨lv,b1,b2,_⟩
  exact b2
 .refine⟨.k 1,by have:=u2.trans u3;exact aH,mi.up aH,by rw[au (by omega)];exact q2,Gr.nil λ_=>rfl,aF,by omega,by omega,by omega,by omega,by omega,by omega,by omega,by omega,by omega,by omega,by omega,λx hx=>absurd hx fA⟩
 .rintro done m q tq h4 n4 h5 n5 hpre ⟨lv,b1,b2,b3,b4,b5,b6,b7,b8,b9,b10,b11,b12,b13,b14,b15,b16,b17⟩ u5 kq
  have e5:=u5.le;have r5:=(u5.old n3 b7).trans b5;refine RW.mono (lV (d:=19) (F:=_) (bs:=[true,true]) (R:=λb h' n'=>b=true/\MvJ h n pb cb tb n1 n3 v C tv p party t h' n' (done++[(m,q)])) r5 hF (by kernel_rfl) rfl Ud Ue ?_) ?_
  .have a1:=b1.trans u5
   have a2:=b2.up u5;have a3:=(u5.old n1 b6).trans b3;have a4:=b4.up u5;have hll:done.length<=100000:=by
    have ok1:=ay.ok ok.con;have:=ok1.iX;have e2:done.length<=(C.iK party p).length:=by
     have:=hpre.length_le;simp at this;omega
    have e3:=lW C party p;omega
   simp (disch:=omega) only[go_sem,simprocAttr,KO,Nu];refine⟨_,_,_,_,_,_,r5,?_⟩;have c3:(h5.set n3 (.lp .busy none 330 t [19,20] (gW 330 0) (gX 330 0))).get n1=some (.row 22 [lv]):=by rw[au (by omega)];exact a3
   have c4:Gr (h5.set n3 (.lp .busy none 330 t [19,20] (gW 330 0) (gX 330 0))) n5 3 1 lv iw (done.map (·.1)):=a4.on (Nat.le_refl _) λx _ hx=>au (b17 x hx).2.2.1;simp (disch:=omega) only[go_sem,simprocAttr,KP,c3];refine jq (l2:=[m]) (c4.up aH) ⟨rfl,?_⟩ (by simp;omega) λv' h6 n6 g6 l6 s6 b6'=>?_
   .show bnd (iI (Tr.get _ _) 0 _) (λr=>mP (Nat.mul 1 1) r)=_
    rw[aF];rfl
   have nb:∀x,x<n5->¬blk lv x->x≠n3->h6.get x=h5.get x:=λx hx hb hn=>by rw[s6 x (by omega) hb,au (by omega),au hn]
   have q6:h6.get n1=some (.row 22 [lv]):=by rw[nb n1 (by omega) (λe=>(b17 _ e).2.1 rfl) (by omega)];exact a3
   simp (disch:=omega) only[go_sem,simprocAttr,q6,g6.cl];have q9:(h6.set n1 (.row 22 [v'])).get n3=some (.lp .busy none 330 t [19,20] (gW 330 0) (gX 330 0)):=by rw[au (by omega),s6 n3 (by omega) (λe=>(b17 _ e).2.2.1 rfl),au (by omega),aF]
   have old:∀x,x<n5->¬blk lv x->x≠n3->x≠n1->((h6.set n1 (.row 22 [v'])).set n3 (.lp .ready none 330 t [19,20] (gW 330 0) (gX 330 0))).get x=h5.get x:=λx hx hb hn hm=>by rw[au hn,au hm,nb x hx hb hn]
   have ux:Up h n ((h6.set n1 (.row 22 [v'])).set n3 (.lp .ready none 330 t [19,20] (gW 330 0) (gX 330 0))) n6:=⟨by have:=a1.le;omega,λx hx=>(old x (by have:=a1.le;omega) (λe=>by have:=(b17 x e).1;omega) (by omega) (by omega)).trans (a1.old x hx)⟩;refine⟨_,_,_,_,_,_,_,q9,rfl,v',ux,?_,by rw[au (by omega),aF],?_,aF,by omega,by omega,b8,b9,b10,b11,b12,b13,b14,b15,b16,λx hx=>?_⟩
   .have k:∀x,x<n5->x≠n3->x≠n1->(∀e:blk lv x,False)->((h6.set n1 (.row 22 [v'])).set n3 (.lp .ready none 330 t [19,20] (gW 330 0) (gX 330 0))).get x=h5.get x:=λx hx h1 h2 h3=>old x hx h3 h1 h2
    have:=a2.pn;have:=a2.cn;have:=a2.tn;exact⟨(k _ a2.pn (by omega) (by omega) λe=>(b17 _ e).2.2.2.1 rfl).trans a2.rp,(k _ a2.cn (by omega) (by omega) λe=>(b17 _ e).2.2.2.2.1 rfl).trans a2.rc,(k _ a2.tn (by omega) (by omega) λe=>(b17 _ e).2.2.2.2.2 rfl).trans a2.rt,by omega,by omega,by omega,hC.up ux,hS.up ux⟩
   .rw[List.map_append]
    have hn:∀x,blk v' x->x≠n1/\x≠n3:=λx hx=>by
     rcases b6' x hx with e|e
     .exact⟨(b17 x e).2.1,(b17 x e).2.2.1⟩
     .exact⟨by omega,by omega⟩
    exact g6.on (Nat.le_refl _) λx _ hx=>by rw[au (hn x hx).2,au (hn x hx).1]
   .have:=a2.pn;have:=a2.cn;have:=a2.tn;have:=a1.le
    rcases b6' x hx with e|e
    .exact b17 x e
    .exact⟨by omega,by omega,by omega,by omega,by omega,by omega⟩
  .rintro _ h' n' ⟨b,rfl,rfl,hb⟩
   exact⟨true,rfl,λ_=>hb,λe=>by cases e⟩
 .rintro h' n' ⟨lv,b1,b2,b3,b4,b5,b6,b7,b8,b9,b10,b11,b12,b13,b14,b15,b16,b17⟩
  refine⟨_,_,_,_,_,_,_,b5,.inl ⟨rfl,rfl,?_⟩⟩;simp (disch:=omega) only[go_sem,simprocAttr,b3,b4.cl];exact hQ lv _ _ (Up.st b1 _ _ b9) ((b4.on (Nat.le_refl _) λx _ hx=>au (b17 x hx).2.2.1).sl)
 .intro h' n' e;exact e.elim
end
end
end
noncomputable section
open Classical
def aG.onto(k:aG)(l:List bU):aG:=⟨k.kind,k.role,k.act,k.need,l,k.after,k.gK,k.iA,k.final,k.pause,k.resume,k.value,k.unit,k.tgt,k.ji⟩
def A9(cl:List Nat)(c c':bU):Prop:=c'.is=c.is/\0<=c.clause/\∃p:Nat,c'.clause=p/\cl[p]?=some c.clause.toNat
def rV(cl:List Nat)(l l':List bU):Prop:=l'.length=l.length/\∀(n:Nat)(c c':bU),l[n]?=some c->l'[n]?=some c'->A9 cl c c'
structure eY(C D:ay)(cl:List Nat):Prop where
 aD:D.aD=C.aD
 ah:D.ah=C.ah
 acts:D.acts=C.acts
 days:D.days=C.days
 off:D.off=C.off
 len:D.clauses.length=cl.length
 at_:∀(j i:Nat),cl[j]?=some i->∃k l,C.clauses[i]?=some k/\D.clauses[j]?=some (k.onto l)/\rV cl k.start l
def bV(cl:List Nat)(ms:List aA):List aA:=cl.map λi=>(ms[i]?).getD ⟨0,0,0,0,false⟩
def aI.rs(cl:List Nat)(s:aI):aI:=⟨s.day,s.ah,s.used,bV cl s.marks⟩
theorem rV.fwd{cl:List Nat}{l l':List bU}(h:rV cl l l'){c:bU}(hc:c∈l):∃c'∈l',A9 cl c c':=by
 obtain⟨n,hn⟩:=List.getElem?_of_mem hc;have h1:n<l'.length:=by rw[h.1];exact(List.getElem?_eq_some_iff.1 hn).1
 exact⟨l'[n],List.getElem_mem h1,h.2 n c _ hn (List.getElem?_eq_getElem h1)⟩
theorem rV.bwd{cl:List Nat}{l l':List bU}(h:rV cl l l'){c':bU}(hc:c'∈l'):∃c∈l,A9 cl c c':=by
 obtain⟨n,hn⟩:=List.getElem?_of_mem hc;have h1:n<l.length:=by rw[<-h.1];exact(List.getElem?_eq_some_iff.1 hn).1
 exact⟨l[n],List.getElem_mem h1,h.2 n _ c' (List.getElem?_eq_getElem h1) hn⟩
section
variable {C D:ay} {cl:List Nat} {ms:List aA}
theorem uJ:(bV cl ms).length=cl.length:=by simp[bV]
theorem lG(hr:∀i∈cl,i<ms.length){j i:Nat}(h:cl[j]?=some i):(bV cl ms)[j]?=ms[i]?:=by
 have hi:=hr i (List.mem_of_getElem? h);simp[bV,h,List.getElem?_eq_getElem hi]
theorem VX(hr:∀i∈cl,i<ms.length){l:List aA}(hl:l.length=cl.length)(h:∀j i:Nat,cl[j]?=some i->l[j]?=ms[i]?):l=bV cl ms:=by
 apply List.ext_getElem?;intro j;by_cases hj:j<cl.length
 .have e:cl[j]?=some cl[j]:=List.getElem?_eq_getElem hj
  rw[lG hr e,h j _ e]
 .rw[List.getElem?_eq_none (by omega),List.getElem?_eq_none (by rw[uJ];omega)]
theorem eY.lt(h:eY C D cl){i:Nat}(hi:i∈cl):i<C.clauses.length:=by
 obtain⟨j,hj⟩:=List.getElem?_of_mem hi;obtain⟨k,l,h1,_⟩:=h.at_ j i hj;exact(List.getElem?_eq_some_iff.1 h1).1
theorem vY(hr:∀i∈cl,i<ms.length){f g:Nat->aA->aA}{l l':List aA}(hl:∀j:Nat,l[j]?=((bV cl ms)[j]?).map (g j))(hl':∀i:Nat,l'[i]?=(ms[i]?).map (f i))(e:∀(j i:Nat)(m:aA),cl[j]?=some i->g j m=f i m):l=bV cl l':=by
 have h1:=lC hl;have h2:=lC hl';refine VX (λi hi=>by rw[h2];exact hr i hi) (by rw[h1,uJ]) λj i hj=>?_;rw[hl,hl',lG hr hj];cases ms[i]? with
 |none=>rfl
 |some m=>simp only[Option.map_some,e j i m hj]
theorem Mq(h:eY C D cl)(hr:∀i∈cl,i<ms.length)(t:Int):D.paused t (bV cl ms)=bV cl (C.paused t ms):=
 vY hr (jk D t _) (jk C t ms) λj i m hj=>by
  obtain⟨k,l,h1,h2,_⟩:=h.at_ j i hj;simp only[jH,h1,h2];rfl
theorem Qu(h:eY C D cl)(hr:∀i∈cl,i<ms.length)(t w:Int):D.oZ t w (bV cl ms)=bV cl (C.oZ t w ms):=
 vY hr (kg D t w _) (kg C t w ms) λj i m hj=>by
  obtain⟨k,l,h1,h2,_⟩:=h.at_ j i hj;simp only[qC,h1,h2];rfl
theorem Mr(h:eY C D cl)(hr:∀i∈cl,i<ms.length)(b:Bool):D.xB b (bV cl ms)=bV cl (C.xB b ms):=
 vY hr (oD D b _) (oD C b ms) λj i m hj=>by
  obtain⟨k,l,h1,h2,_⟩:=h.at_ j i hj;simp only[rM,h1,h2];rfl
theorem IW(h:eY C D cl)(hr:∀i∈cl,i<ms.length)(g t:Int):(iB (bV cl ms) (bV cl ms).length).foldl (λms i=>dY D g t i ms) (bV cl ms)=bV cl ((iB ms ms.length).foldl (λms i=>dY C g t i ms) ms):=
 vY hr (qF D g t _) (qF C g t ms) λj i m hj=>by
  obtain⟨k,l,h1,h2,_⟩:=h.at_ j i hj;simp only[qE,h1,h2];rfl
end
inductive Starts (C:ay) (ms:List aA):Nat->Prop
 |mk {i:Nat} {k:aG} {m:aA}:C.clauses[i]?=some k->ms[i]?=some m->m.status=0->k.ji=false->(∀c∈k.start,eF ms c=false->c.is=1)->(∀c∈k.start,eF ms c=false->Starts C ms c.clause.toNat)->Starts C ms i
theorem qR(is:Int):uj is 0=false:=by
 unfold uj;cases (is==1)<;>cases (is==2)<;>cases (is==3)<;>cases (is==4)<;>rfl
theorem IX{is:Int}(h:uj is 1=true):is=1:=by
 unfold uj at h;by_cases e:is=1
 .exact e
 .rw[show(is==1)=false by simpa using e]at h
  revert h;cases (is==2)<;>cases (is==3)<;>cases (is==4)<;>simp
def IY(C:ay)(hs:List Int)(ms x:List aA):Prop:=x.length=ms.length/\∀(j:Nat)(m':aA),x[j]?=some m'->∃m,ms[j]?=some m/\(m'=m\/m.status=0/\Starts C ms j/\∃k,C.clauses[j]?=some k/\m'=nu hs k)
theorem Ej{C:ay}{hs:List Int}{ms x:List aA}(h:IY C hs ms x)(i:Nat):IY C hs ms (iq C hs x i):=by
 refine⟨by rw[qy];exact h.1,λj m' hm=>?_⟩;cases hf:eH C x i with
 |false=>rw[(oC C hs x i).2 hf]at hm;exact h.2 j m' hm
 |true=>
  have hf':=hf;unfold eH at hf';unfold iq at hm;cases hk:C.clauses[i]? with
  |none=>simp[hk]at hf'
  |some k=>
   cases Tc:x[i]? with
   |none=>simp[hk,Tc]at hf'
   |some m=>
    simp only[hk,Tc]at hf';simp only[hk,hf,cond_true]at hm;by_cases hij:i=j
    .subst hij
     rw[j_ Tc]at hm;injection hm with hm
     simp only[dO,Bool.and_eq_true,beq_iff_eq,Bool.not_eq_true']at hf';obtain⟨f1,f2,f3⟩:=hf';obtain⟨m0,h1,h2⟩:=h.2 i m Tc;obtain rfl:m=m0:=by
      rcases h2 with h2|⟨_,_,_,_,rfl⟩
      .exact h2
      .exact absurd f1 (by show¬(1:Int)=0;decide)
     have hx:∀c∈k.start,eF ms c=false->c.is=1/\Starts C ms c.clause.toNat:=λc hc hn=>by
      have h3:eF x c=true:=List.all_eq_true.1 f3 c hc;unfold eF kV at h3 hn;cases hxc:x[c.clause.toNat]? with
      |none=>rw[hxc]at h3;simp[qR]at h3
      |some mc=>
       rw[hxc]at h3;obtain⟨m1,h4,h5⟩:=h.2 _ mc hxc;rcases h5 with rfl|⟨_,h5,k',_,rfl⟩
       .rw[h4]at hn
        rw[hn]at h3;cases h3
       .exact⟨IX h3,h5⟩
     exact⟨m,h1,.inr ⟨f1,.mk hk h1 f1 f2 (λc hc hn=>(hx c hc hn).1) (λc hc hn=>(hx c hc hn).2),k,hk,hm.symm⟩⟩
    .rw[List.getElem?_set,if_neg hij]at hm
     exact h.2 j m' hm
theorem vZ{C:ay}{hs:List Int}{ms x:List aA}(h:IY C hs ms x):∀n,IY C hs ms (bQ C hs x n)
 |0=>h
 |n+1=>Ej (vZ h n) n
theorem tO{C:ay}{hs:List Int}{ms:List aA}:∀(f:Nat)(x:List aA),IY C hs ms x->IY C hs ms (gF C hs f x)
 |0,_,h=>h
 |f+1,x,h=>by
  rw[gF];cases cZ C hs x C.clauses.length with
  |false=>exact h
  |true=>exact tO f _ (vZ h _)
theorem uK(C:ay)(hs:List Int)(ms:List aA):IY C hs ms (C.begin hs ms):=tO _ ms ⟨rfl,λ_ m' h=>⟨m',h,.inl rfl⟩⟩
theorem wh{C:ay}{hs:List Int}{ms:List aA}{i:Nat}(h:Starts C ms i):∃k,C.clauses[i]?=some k/\(C.begin hs ms)[i]?=some (nu hs k):=by
 induction h with
 |@mk i k m hk hm h0 hw h1 _ ih=>
  refine⟨k,hk,?_⟩;have hi:i<(C.begin hs ms).length:=by rw[g_];exact(List.getElem?_eq_some_iff.1 hm).1
  have hg:(C.begin hs ms)[i]?=some (C.begin hs ms)[i]:=List.getElem?_eq_getElem hi;obtain⟨m0,h2,h3⟩:=(uK C hs ms).2 i _ hg;rw[hm]at h2;cases h2
  rcases h3 with h3|⟨_,_,k',hk',h3⟩
  .have hn:=Am C hs ms i (List.getElem?_eq_some_iff.1 hk).1
   exfalso;unfold eH at hn;rw[hk,hg,h3]at hn;simp only[dO,h0,hw,beq_self_eq_true,Bool.true_and,Bool.not_false]at hn;have:gZ (C.begin hs ms) k.start=true:=by
    unfold gZ;rw[List.all_eq_true];intro c hc;cases hcm:eF ms c with
    |false=>
     obtain⟨kc,_,h5⟩:=ih c hc hcm;unfold eF kV;rw[h5,h1 c hc hcm];rfl
    |true=>
     unfold eF kV at hcm⊢;cases hmc:ms[c.clause.toNat]? with
     |none=>rw[hmc]at hcm;simp[qR]at hcm
     |some mc=>
      rw[hmc]at hcm;by_cases hz:mc.status=0
      .simp[hz,qR]at hcm
      .rw[Ic hmc hz]
       exact hcm
   rw[this]at hn;cases hn
  .rw[hk]at hk'
   cases hk'
   rw[hg,h3]
theorem Cq{C:ay}{hs:List Int}{ms:List aA}{i:Nat}(h:¬Starts C ms i):(C.begin hs ms)[i]?=ms[i]?:=by
 cases hg:(C.begin hs ms)[i]? with
 |none=>rw[List.getElem?_eq_none_iff,g_]at hg;exact(List.getElem?_eq_none hg).symm
 |some m'=>
  obtain⟨m0,h2,h3⟩:=(uK C hs ms).2 i m' hg;rcases h3 with rfl|⟨_,h3,_⟩
  .exact h2.symm
  .exact absurd h3 h
section
variable {C D:ay} {cl:List Nat} {ms:List aA}
theorem A9.holds(hr:∀i∈cl,i<ms.length){c c':bU}(h:A9 cl c c'):eF (bV cl ms) c'=eF ms c:=by
 obtain⟨h1,_,p,h2,h3⟩:=h;unfold eF kV;rw[h2,Int.toNat_natCast,lG hr h3,h1]
theorem Ms(h:eY C D cl)(hr:∀i∈cl,i<ms.length){j:Nat}(hs:Starts D (bV cl ms) j):∀i:Nat,cl[j]?=some i->Starts C ms i:=by
 induction hs with
 |@mk j k' m hk hm h0 hw h1 _ ih=>
  intro i hj;obtain⟨k,l,g1,g2,g3⟩:=h.at_ j i hj;rw[hk]at g2;cases g2
  rw[lG hr hj]at hm;refine .mk g1 hm h0 hw (λc hc hn=>?_) λc hc hn=>?_
  .obtain⟨c',q1,q2⟩:=g3.fwd hc
   rw[<-q2.1];exact h1 c' q1 (by rw[q2.holds hr];exact hn)
  .obtain⟨c',q1,q2⟩:=g3.fwd hc
   obtain⟨p,e1,e2⟩:=q2.2.2;exact ih c' q1 (by rw[q2.holds hr];exact hn) _ (by rw[e1];exact e2)
theorem Mt(h:eY C D cl)(hr:∀i∈cl,i<ms.length){i:Nat}(hs:Starts C ms i):∀j:Nat,cl[j]?=some i->Starts D (bV cl ms) j:=by
 induction hs with
 |@mk i k m hk hm h0 hw h1 _ ih=>
  intro j hj;obtain⟨k0,l,g1,g2,g3⟩:=h.at_ j i hj;rw[hk]at g1;cases g1
  refine .mk g2 (by rw[lG hr hj];exact hm) h0 hw (λc' hc hn=>?_) λc' hc hn=>?_
  .obtain⟨c,q1,q2⟩:=g3.bwd hc
   rw[q2.1];exact h1 c q1 (by rw[<-q2.holds hr];exact hn)
  .obtain⟨c,q1,q2⟩:=g3.bwd hc
   obtain⟨p,e1,e2⟩:=q2.2.2;exact ih c q1 (by rw[<-q2.holds hr];exact hn) _ (by rw[e1];exact e2)
theorem wm(h:eY C D cl)(hr:∀i∈cl,i<ms.length)(hs:List Int):D.begin hs (bV cl ms)=bV cl (C.begin hs ms):=by
 refine VX (λi hi=>by rw[g_];exact hr i hi) (by rw[g_,uJ]) λj i hj=>?_;by_cases hS:Starts C ms i
 .obtain⟨k,h1,h2⟩:=wh (hs:=hs) hS
  obtain⟨k',h3,h4⟩:=wh (hs:=hs) (Mt h hr hS j hj);obtain⟨k0,l,g1,g2,g3⟩:=h.at_ j i hj;rw[h1]at g1;cases g1
  rw[h3]at g2;cases g2
  rw[h2,h4];rfl
 .rw[Cq hS,Cq λe=>hS (Ms h hr e i hj),lG hr hj]
theorem Uf(h:eY C D cl){s:aI}(hl:s.marks.length=C.clauses.length):D.tick (s.rs cl)=(C.tick s).rs cl:=by
 have hr:∀i∈cl,i<s.marks.length:=λi hi=>by rw[hl];exact h.lt hi
 unfold ay.tick aI.rs;simp only[h.off,Mr h hr];rw[wm h λi hi=>by rw[Ai];exact hr i hi]
theorem Y4(h:eY C D cl){s:aI}(hl:s.marks.length=C.clauses.length)(i:Nat)(a:dM):D.act i a (s.rs cl)=(C.act i a s).rs cl:=by
 have hr:∀i∈cl,i<s.marks.length:=λi hi=>by rw[hl];exact h.lt hi
 have hr1:∀j∈cl,j<(C.paused i s.marks).length:=λj hj=>by rw[Ah];exact hr j hj
 have hr2:∀j∈cl,j<(C.oZ i (bC s.ah a) (C.paused i s.marks)).length:=λj hj=>by rw[xC];exact hr1 j hj
 unfold ay.act;simp only[aI.rs,Mq h hr,Qu h hr1];cases ((a.kind !=1)&&s.used.getD i false)with
 |true=>rfl
 |false=>
  cases (a.kind !=1)with
  |false=>simp only[cond_false];rw[wm h hr2]
  |true=>
   simp only[cond_true,cond_false,ay.shift];cases (a.kind !=3)with
   |true=>simp only[cond_true];rw[wm h hr2]
   |false=>
    simp only[cond_false,IW h hr2];rw[wm h λj hj=>by rw[xw _ (λi ms=>jB C _ _ i ms)];exact hr2 j hj]
theorem jY(h:eY C D cl){s:aI}(hl:s.marks.length=C.clauses.length)(t:Int):D.aU (s.rs cl) t=(C.aU s t).rs cl:=by
 unfold ay.aU;rw[h.acts];by_cases e:t= -1
 .rw[if_pos e,if_pos e,Uf h hl]
 .rw[if_neg e,if_neg e]
  cases C.acts[t.toNat]? with
  |none=>rfl
  |some a=>exact Y4 h hl _ a
theorem zA(h:eY C D cl)(s:aI)(t:Int):D.doer (s.rs cl) t=C.doer s t:=by
 unfold ay.doer;rw[h.acts];rfl
theorem jE{C:ay}{s:aI}{p:Int}:anyFailed C s p=true↔∃(i:Nat)(m:aA)(k:aG),s.marks[i]?=some m/\C.clauses[i]?=some k/\iN k m p=true:=by
 unfold anyFailed;rw[List.any_eq_true];constructor
 .rintro⟨i,_,h⟩
  cases hm:s.marks[i]? with
  |none=>simp[hm]at h
  |some m=>
   cases hk:C.clauses[i]? with
   |none=>simp[hm,hk]at h
   |some k=>exact⟨i,m,k,hm,hk,by simpa only[hm,hk]using h⟩
 .rintro⟨i,m,k,hm,hk,h⟩
  refine⟨i,List.mem_range.2 (List.getElem?_eq_some_iff.1 hm).1,?_⟩;simp only[hm,hk,h]
theorem Mv(h:eY C D cl){s:aI}(hl:s.marks.length=C.clauses.length){p:Int}(hf:anyFailed D (s.rs cl) p=true):anyFailed C s p=true:=by
 have hr:∀i∈cl,i<s.marks.length:=λi hi=>by rw[hl];exact h.lt hi
 obtain⟨j,m,k',h1,h2,h3⟩:=jE.1 hf;have hj:j<cl.length:=by have:=(List.getElem?_eq_some_iff.1 h1).1;simpa [aI.rs,uJ]using this
 obtain⟨k,l,g1,g2,_⟩:=h.at_ j _ (List.getElem?_eq_getElem hj);rw[h2]at g2;cases g2
 exact jE.2 ⟨_,m,k,(lG hr (List.getElem?_eq_getElem hj)).symm.trans h1,g1,h3⟩
theorem Mw(h:eY C D cl){s:aI}(hl:s.marks.length=C.clauses.length){p:Int}{i:Nat}{m:aA}{k:aG}(hi:i∈cl)(h1:s.marks[i]?=some m)(h2:C.clauses[i]?=some k)(h3:iN k m p=true):anyFailed D (s.rs cl) p=true:=by
 have hr:∀i∈cl,i<s.marks.length:=λi hi=>by rw[hl];exact h.lt hi
 obtain⟨j,hj⟩:=List.getElem?_of_mem hi;obtain⟨k',l,g1,g2,_⟩:=h.at_ j i hj;rw[h2]at g1;cases g1
 exact jE.2 ⟨j,m,_,(lG hr hj).trans h1,g2,h3⟩
theorem Qv(h:eY C D cl)(hD:D.valid=true){s:aI}(hs:aK C s):aK D (s.rs cl):=by
 have hr:∀i∈cl,i<s.marks.length:=λi hi=>by rw[hs.lm];exact h.lt hi
 have inv:∀(j:Nat)(m:aA)(k':aG),(bV cl s.marks)[j]?=some m->D.clauses[j]?=some k'->∃(i:Nat)(k:aG)(l:List bU),s.marks[i]?=some m/\C.clauses[i]?=some k/\k'=k.onto l/\rV cl k.start l:=λj m k' hm hk=>by
  have hj:j<cl.length:=by have:=(List.getElem?_eq_some_iff.1 hm).1;simpa [uJ]using this
  obtain⟨k,l,g1,g2,g3⟩:=h.at_ j _ (List.getElem?_eq_getElem hj);rw[hk]at g2;cases g2
  exact⟨_,k,l,(lG hr (List.getElem?_eq_getElem hj)).symm.trans hm,g1,rfl,g3⟩
 refine⟨hD,hs.BJ,by rw[h.days];exact hs.Fz,by rw[h.ah];exact hs.lh,by rw[h.acts];exact hs.lu,by simp[aI.rs,uJ,h.len],λp hp=>by rw[h.aD];exact hs.held p hp,λi a hu ha=>hs.used i a hu (by rw[<-h.acts];exact ha),λj m k' hm hk=>?_,λj m k' hm hk=>?_⟩
 .obtain⟨i,k,l,h1,h2,rfl,_⟩:=inv j m k' hm hk
  have:=hs.marks i m k h1 h2;unfold bS at this⊢;rw[h.aD];exact this
 .obtain⟨i,k,l,h1,h2,rfl,g3⟩:=inv j m k' hm hk
  have h4:=hs.still i m k h1 h2;have e:gZ (bV cl s.marks) l=gZ s.marks k.start:=by
   rw[Bool.eq_iff_iff];unfold gZ;rw[List.all_eq_true,List.all_eq_true];constructor
   .intro h5 c hc
    obtain⟨c',q1,q2⟩:=g3.fwd hc;rw[<-q2.holds hr];exact h5 c' q1
   .intro h5 c' hc
    obtain⟨c,q1,q2⟩:=g3.bwd hc;rw[q2.holds hr];exact h5 c q1
  have e2:dO (bV cl s.marks) (k.onto l) m=dO s.marks k m:=by
   unfold dO;rw[show(k.onto l).start=l from rfl,e];rfl
  exact e2.trans h4
end
theorem fF{C:ay}{party:Int}{p:aN}{m:Int}{q:aN}:(m,q)∈C.iK party p↔(m= -2/\p.own=true/\q=⟨p.st,false⟩)\/(m= -1/\p.own=false/\p.st.day<C.days/\q=⟨C.aU p.st (-1),true⟩)\/(∃i:Nat,i<C.acts.length/\m=i/\p.st.day<C.days/\C.Kt party p i/\q=⟨C.aU p.st i,true⟩):=by
 unfold ay.iK ay.mI ay.mJ;simp only[List.mem_append];constructor
 .rintro((h|h)|h)
  .split at h
   .simp at h;exact .inl ⟨h.1,by assumption,h.2⟩
   .simp at h
  .split at h
   .rename_i hc;simp at h;exact .inr (.inl ⟨h.1,hc.1,hc.2,h.2⟩)
   .simp at h
  .split at h
   .rename_i hc
    simp at h;obtain⟨i,⟨h1,h2⟩,h3,h4⟩:=h;exact .inr (.inr ⟨i,h1,h3.symm,hc,h2,h4.symm⟩)
   .simp at h
 .rintro(⟨rfl,h1,rfl⟩|⟨rfl,h1,h2,rfl⟩|⟨i,h1,rfl,h2,h3,rfl⟩)
  .exact .inl (.inl (by simp[h1]))
  .exact .inl (.inr (by simp[h1,h2]))
  .exact .inr (by simp only[h2,if_true];simp;exact⟨i,⟨h1,h3⟩,rfl,rfl⟩)
end
end Go.Proofs.YtfnnplicbjeifaaGreatDoor

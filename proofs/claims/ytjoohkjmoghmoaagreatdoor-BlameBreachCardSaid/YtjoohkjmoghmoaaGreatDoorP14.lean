/- part -/
import Derived.Test.YtjoohkjmoghmoaaGreatDoorP13
set_option linter.all false
namespace Go.Proofs.YtjoohkjmoghmoaaGreatDoor
section
noncomputable section
section
variable {C:aA} {s:aH} {p q r:aP} {party:Int} {t:Int}
theorem Ny{N i:Nat}(hi:i<N)(h:C.JE party q i):((i:Int),(⟨C.aZ q.st i,true⟩:aP))∈C.ou party q N:=by
 unfold aA.ou;exact List.mem_map.2 ⟨i,List.mem_filter.2 ⟨List.mem_range.2 hi,by simpa using h⟩,rfl⟩
theorem Iu{i:Nat}(hi:i<C.acts.length)(hd:q.st.day<C.days)(h:C.JE party q i):((i:Int),(⟨C.aZ q.st i,true⟩:aP))∈C.pO party q:=by
 unfold aA.pO;rw[if_pos hd];exact List.mem_append.2 (.inr (Ny hi h))
theorem Ea(h:q.own=true):((-2:Int),(⟨q.st,false⟩:aP))∈C.pO party q:=by
 unfold aA.pO aA.oq;rw[if_pos h];simp
theorem Nz(h:q.own=false)(hd:q.st.day<C.days):((-1:Int),(⟨C.aZ q.st (-1),true⟩:aP))∈C.pO party q:=by
 unfold aA.pO aA.oq;have h2:q.own=false/\q.st.day<C.days:=⟨h,hd⟩;rw[if_pos h2];simp
end
theorem RD.pre{h:AH}{b o w k:Nat}{cs:List AV}(r:RD h b o w cs)(hk:k<=w):qX (h.get b) o (some k)=some (.agg (cs.take k)):=r.pre' k hk
def QG(C:aA)(party:Int)(l:List Int)(S:List aH):Prop:=∀(k:Nat)(t:Int)(a b:aH),l[k]?=some t->S[k]?=some a->S[k+1]?=some b->¬bY C party ⟨a,true⟩->¬bY C party (C.decide party a b t)
structure ZE where
 b13:Nat
 b14:Nat
 b3:Nat
 b8:Nat
 b4:Nat
structure FoA(g:ZE)(v:CS)(C:aA)(party:Int)(vv ww:AV)(ps:List (TS×aP))(wv:List AV)(M:List (List (Int×Nat)))(h:AH)(n:Nat):Prop where
 r3:h.get g.b3=some (.row 27 (v.av C))
 r8:h.get g.b8=some (.row 150 (D9 party vv ww))
 r4:h.get g.b4=some (.row 3 [.i .i64 party])
 con:aY h n v C
 ar:vW h n vv ww ps wv M
structure QH(h:AH)(n:Nat)(g:ZE)(X:Nat->Prop)(A:HP)(lv:AV)(l:List Int)(i:Nat):Prop where
 OH:h.get g.b13=some (.row 22 [lv])
 gl:Gr h n 3 1 lv kD l
 Ew:h.get g.b14=some (.row 3 [.i .i64 (i:Nat)])
 ne:g.b13≠g.b14
 d:∀x,blk lv x->x≠g.b13/\x≠g.b14
 Wu:X g.b13
 Wv:X g.b14
 Xl:∀x,blk lv x->X x
 lt:∀x,X x->x<n
 A:Kp X h n A
section
variable {h h' h2 h3:AH} {n n' n2 n3:Nat} {g:ZE} {X:Nat->Prop} {A:HP} {lv:AV} {l:List Int} {i:Nat}
theorem QH.up(a:QH h n g X A lv l i)(u:Up h n h' n'):QH h' n' g X A lv l i:=
 ⟨(u.old _ (a.lt _ a.Wu)).trans a.OH,a.gl.up u,(u.old _ (a.lt _ a.Wv)).trans a.Ew,a.ne,a.d,a.Wu,a.Wv,a.Xl,λx hx=>Nat.lt_of_lt_of_le (a.lt x hx) u.le,a.A.up u⟩
theorem QH.at_(a:QH h n g X A lv l i)(j:Nat):QH (h.set g.b14 (.row 3 [.i .i64 (j:Nat)])) n g X A lv l j:=
 ⟨by rw[ay a.ne];exact a.OH,a.gl.on (Nat.le_refl _) λx _ hx=>ay (a.d x hx).2,aG,a.ne,a.d,a.Wu,a.Wv,a.Xl,a.lt,a.A.set (.inl a.Wv) (Nat.le_refl _)⟩
theorem QH.add(a:QH h n g X A lv l i){v':AV}{t:Int}(u:Up h n h2 n2)(gr:Gr h3 n3 3 1 v' kD (l++[t]))(le:n2<=n3)(s:∀x,x<n2->¬blk lv x->h3.get x=h2.get x)(b:∀x,blk v' x->blk lv x\/n2<=x):
 h3.get g.b13=some (.row 22 [lv])/\QH (h3.set g.b13 (.row 22 [v'])) n3 g (λx=>X x\/blk v' x) A v' (l++[t]) i:=by
 have hn:=u.le;have old:∀x,x<n->¬blk lv x->h3.get x=h.get x:=λx hx h2=>by rw[s x (by omega) h2,u.old x hx]
 have new:∀x,blk v' x->x<n->blk lv x:=λx hx hl=>(b x hx).elim id (by omega);have WW:=a.lt _ a.Wu;have h14:=a.lt _ a.Wv;have nb:∀x,blk v' x->x≠g.b13/\x≠g.b14:=λx hx=>by
  rcases b x hx with e|e
  .exact a.d x e
  .exact⟨by omega,by omega⟩
 have o13:¬blk lv g.b13:=λe=>(a.d _ e).1 rfl;have o14:¬blk lv g.b14:=λe=>(a.d _ e).2 rfl;refine⟨(old _ WW o13).trans a.OH,⟨aG,gr.on (Nat.le_refl _) λx _ hx=>ay (nb x hx).1,?_,a.ne,nb,.inl a.Wu,.inl a.Wv,λx hx=>.inr hx,λx hx=>?_,?_⟩⟩
 .rw[ay (Ne.symm a.ne),old _ h14 o14];exact a.Ew
 .rcases hx with hx|hx
  .have:=a.lt x hx;omega
  .exact gr.fE hx
 .refine(a.A.le λx hx (e:X x\/blk v' x)=>e.elim id λe=>a.Xl x (new x e hx)).on (by omega) λx hx e=>?_
  have e1:¬X x:=λk=>e (.inl k);rw[ay (λk=>e1 (by rw[k];exact a.Wu)),old x hx λk=>e1 (a.Xl x k)]
end
section
variable {h:AH} {n:Nat} {g:ZE} {X:Nat->Prop} {A:HP} {lv:AV} {l:List Int} {i:Nat} {v:CS} {C:aA} {p:aP} {party:Int} {ps:List (TS×aP)} {wv:List AV} {M:List (List (Int×Nat))} {vv ww:AV} {Q:AV->AH->Nat->Prop}
end
end
end
section
noncomputable section
section
variable {h h':AH} {n n':Nat} {v:CS} {C:aA} {p:aP} {party:Int} {ps:List (TS×aP)} {wv:List AV} {M:List (List (Int×Nat))} {Q:AV->AH->Nat->Prop} {vv ww ov:AV} {vS:List Int}
structure FwA(g:ZE)(v:CS)(C:aA)(party:Int)(vv ww:AV)(ps:List (TS×aP))(wv:List AV)(M:List (List (Int×Nat)))(mv ov:AV)(QI vS:List Int)(h:AH)(n:Nat):Prop where
 f:FoA g v C party vv ww ps wv M h n
 mv:SL h n 1 mv kD QI
 ov:SL h n 1 ov kD vS
structure FwS(C:aA)(party:Int)(P:List aP)(l:List Int)(S:List aH)(i:Nat)(s:aH):Prop where
 run:eX C C.first l S
 last:S[l.length]?=some s
 pos:P[i]?=some ⟨s,true⟩
 dec:QG C party l S
theorem FwS.step{P:List aP}{l:List Int}{S:List aH}{i j:Nat}{s:aH}{t:Int}(a:FwS C party P l S i s)(h1: -1<=t)(h2:t<C.acts.length)(h3:s.day<C.days)(hj:P[j]?=some ⟨C.aZ s t,true⟩)(hs:¬bY C party ⟨s,true⟩->¬bY C party (C.decide party s (C.aZ s t) t)):
 FwS C party P (l++[t]) (S++[C.aZ s t]) j (C.aZ s t):=by
 have hl:=a.run.len;refine⟨a.run.snoc a.last h1 h2 h3,?_,hj,λk u x y hk hx hy=>?_⟩
 .rw[List.length_append,List.getElem?_append_right (by simp;omega),hl];simp
 .by_cases hkl:k<l.length
  .rw[List.getElem?_append_left hkl]at hk
   rw[List.getElem?_append_left (by omega)]at hx hy;exact a.dec k u x y hk hx hy
  .have hk2:k<(l++[t]).length:=(List.getElem?_eq_some_iff.1 hk).1
   obtain rfl:k=l.length:=by simp at hk2;omega
   rw[List.getElem?_append_right (Nat.le_refl _)]at hk;rw[List.getElem?_append_left (by omega),a.last]at hx;rw[List.getElem?_append_right (by omega),hl]at hy;simp at hk hy;subst hk;cases hx
   subst hy;exact hs
end
end
end
section
noncomputable section
section
variable {h h':AH} {n n':Nat} {v:CS} {C:aA} {tv:TS} {p:aP} {party:Int} {ps:List (TS×aP)} {wv:List AV} {M:List (List (Int×Nat))} {Q:AV->AH->Nat->Prop} {vv ww sv:AV} {sf:List Bool}
def NA(C:aA)(party:Int)(q:aP)(x:Int):Prop:=(q.own=true->∃r,(x,r)∈C.pO party q/\¬bY C party r)/\(q.own=false->x=0)
theorem Gd(K:Nat)(ai:vW h n vv ww ps wv M)(ia:dx C party p (ps.map (·.2)) M)(so:aM C p.st)(hs:SL h n 1 sv Vi sf)(sl:SE C party (ps.map (·.2)) sf){i:Nat}{q:aP}(hi:(ps.map (·.2))[i]?=some q)(wL:¬bY C party q)
 (hQ:∀x h' n',NA C party q x->Up h n h' n'->Q (.i .i64 x) h' n'):CW (EF (K+1)) 194 [.agg (D9 party vv ww),sv,.i .i64 (i:Nat)] h n Q:=by
 have hsm:=ia.small;have hlen:=ia.len;have hl2:=ai.len;have hin:=(List.getElem?_eq_some_iff.1 hi).1;rw[List.length_map]at hsm hlen hin;have hsl:sf.length=ps.length:=by rw[sl.1,List.length_map]
 obtain⟨l,hl⟩:=ia.row hi;have hll:=Gc so ia hl;obtain⟨b1,o1,x,i1,hx,hb1,rd⟩:=ai.pos.gD (k:=(i:Nat)) (by omega) (by omega) (by omega);obtain⟨b2,o2,y,i2,hy,hb2,gu⟩:=ai.row.gD (k:=(i:Nat)) (by omega) (by omega) (by omega);rw[show((i:Nat):Int).toNat=i by omega]at hx hy;have hx2:x.2=q:=by rw[List.getElem?_map,hx]at hi;simpa using hi
 have sy:=ai.mv i y l hy hl;have QC:qX (h.get b1) (o1+4) none=some (.b q.own):=by rw[rd.el 4 (by omega),<-hx2];rfl
 refine aD c194 rfl ?_;cases hown:q.own with
 |false=>
  rw[hown]at QC;repeat' (first|(simp (disch:=omega) only[go_sem,simprocAttr,U_,aK i1,QC])|(refine aT ?_ ?_<;>(intro hb hd;rw[hb];clear hb))|(with_reducible refine aj ?_))
  exact hQ 0 _ _ ⟨(λe=>by rw[hown]at e;cases e),λ_=>rfl⟩ aI
 |true=>
  rw[hown]at QC;repeat' (first|(simp (disch:=omega) only[go_sem,simprocAttr,U_,aK i1,QC,aK i2,gu.el,gu.hd,sy.len])|(refine aT ?_ ?_<;>(intro hb hd;rw[hb];clear hb))|(with_reducible refine aj ?_))
  have u0:Up h n (Tr.set h n (.row 150 (D9 party vv ww))) (n+1):=by exact aI
  generalize Tr.set h n (.row 150 (D9 party vv ww))=h1 at*;refine b_ l.length (λt h9 n9 G=>(∀j,j<t->∀z,l[j]?=some z->sf[z.2]?=some false)/\Up h n h9 n9/\G=[(1,sv),(20,y)]) (by omega) (by omega) (by omega) (by omega) (λk h8 n8 G ⟨_,_,e⟩=>by subst e;exact⟨rfl,rfl⟩) ⟨rfl,rfl,_,⟨(λj hj=>absurd hj (by omega)),u0,rfl⟩,by(repeat' (first|exact aR|refine aN rfl ?_))⟩ ?_ ?_
  .rintro t h9 n9 G ht ⟨hno,u9,rfl⟩
   have e9:=u9.le;obtain⟨b4,o4,z,i4,hz,hb4,rd4⟩:=(sy.up u9).gD (k:=(t:Nat)) (by omega) (by omega) (by omega);rw[show((t:Nat):Int).toNat=t by omega]at hz;have hzm:=List.mem_of_getElem? hz;have hlt:=ia.tgt hl hzm;rw[List.length_map]at hlt;obtain⟨b5,o5,sz,i5,hsz,hb5,sQ⟩:=(hs.up u9).gD (k:=(z.2:Nat)) (by omega) (by omega) (by omega);rw[show((z.2:Nat):Int).toNat=z.2 by omega]at hsz;obtain⟨r,hr1,hr2⟩:=ia.back hi hl (show(z.1,z.2)∈l from hzm);obtain⟨sz',hsz',hsr⟩:=sl.2 z.2 r hr1;rw[hsz]at hsz';cases hsz'
   repeat' (first|(simp (disch:=omega) only[go_sem,simprocAttr,aK i4,rd4.all,aK i5,sQ.el,sQ.hd])|(refine aT ?_ ?_<;>(intro hb hd;rw[hb];clear hb))|(with_reducible refine aj ?_))
   .exact hQ z.1 _ _ ⟨λ_=>⟨r,hr2,hsr.1 hd⟩,(λe=>by rw[hown]at e;cases e)⟩ aI
   .refine⟨rfl,rfl,_,⟨λj hj w hw=>?_,by exact aI,rfl⟩,by(repeat' (first|exact aR|refine aN rfl ?_))⟩
    by_cases e:j=t
    .subst e;rw[hz]at hw;cases hw;rw[hsz,hd]
    .exact hno j (by omega) w hw
  .rintro h9 n9 G ⟨hno,u9,rfl⟩
   exfalso;refine wL (.own hown λm r hmr=>?_);obtain⟨j,hj1,hj2⟩:=ia.move hi hl hmr;obtain⟨t,ht⟩:=List.getElem?_of_mem hj1;have:=hno t (List.getElem?_eq_some_iff.1 ht).1 _ ht;obtain⟨b,hb',hbr⟩:=sl.2 j r hj2;rw[this]at hb';cases hb';exact Classical.byContradiction λe=>by have:=hbr.2 e;cases this
@[reducible] def SF (x:(TS×aP)×Int):List AV:=[.i .i64 x.1.2.st.day,x.1.1.h,x.1.1.u,x.1.1.m,.b x.1.2.own,.i .i64 x.2]
def Vj:AV:=.agg [.i .i64 0,.k 1]
open Classical in
def Vk(C:aA)(party:Int)(p:aP)(rows:List ((TS×aP)×Int)):Prop:=(∃P M,dx C party p P M/\rows.map (λx=>x.1.2)=P.filter λq=>decide (¬bY C party q))/\∀x∈rows,NA C party x.1.2 x.2
open Classical in
theorem JR(K:Nat)(hC:aY h n v C)(ho:C.off.length<=1000000)(hS:bX h n tv p.st)
 (lK:¬(0<=party/\party<C.aC/\aM C p.st)->∀h' n',Up h n h' n'->Q (.bQ [Vj,.i .i64 1]) h' n')(uS:0<=party->party<C.aC->aM C p.st->iw C party p->∀h' n',Up h n h' n'->Q (.bQ [Vj,.i .i64 3]) h' n')
 (KN:0<=party->party<C.aC->aM C p.st->bY C party p->∀h' n',Up h n h' n'->Q (.bQ [Vj,.i .i64 13]) h' n')
 (ZF:0<=party->party<C.aC->aM C p.st->¬bY C party p->∀rows rv h' n',Vk C party p rows->Up h n h' n'->Kp (λx=>x<n) h' n' (λh n=>SL h n 6 rv SF rows/\∀x∈rows,bX h n x.1.1 x.1.2.st)->Q (.bQ [.agg [.i .i64 party,rv],.i .i64 0]) h' n'):
 CW (EF (K+11)) 119 [.agg (v.av C),.i .i64 party,.agg (tv.pv p)] h n Q:=by
 refine aD c119 rfl ?_;repeat' (first|(simp (disch:=omega) only[go_sem,simprocAttr,Zy,CS.av,TS.pv])|(refine aT ?_ ?_<;>(intro hb hd;rw[hb];clear hb))|(with_reducible refine aj ?_))
 rw[aU];refine Il K (hC.up aI) ho (hS.up aI) ⟨λhn h3 n3 u3=>?_,λhp0 hp1 so hbig h3 n3 u3=>?_,λhp0 hp1 so ps wv M vv ww h3 n3 ia u3 k3=>?_⟩
 .have e3:=u3.le
  have r2:h3.get (n+1+1)=some (.row 80 [.i .i64 0,.k 1]):=by rw[u3.old _ (by omega)];simp (disch:=omega) only[go_sem]
  repeat' (first|(simp (disch:=omega) only[go_sem,simprocAttr,SB,Int.reduceEq,r2])|(refine aT ?_ ?_<;>(intro hb hd;rw[hb];clear hb))|(with_reducible refine aj ?_))
  exact lK hn _ _ aI
 .have e3:=u3.le
  have r2:h3.get (n+1+1)=some (.row 80 [.i .i64 0,.k 1]):=by rw[u3.old _ (by omega)];simp (disch:=omega) only[go_sem]
  repeat' (first|(simp (disch:=omega) only[go_sem,simprocAttr,SB,Int.reduceEq,r2])|(refine aT ?_ ?_<;>(intro hb hd;rw[hb];clear hb))|(with_reducible refine aj ?_))
  exact uS hp0 hp1 so hbig _ _ aI
 .have e3:=u3.le
  have r2:h3.get (n+1+1)=some (.row 80 [.i .i64 0,.k 1]):=by rw[u3.old _ (by omega)];simp (disch:=omega) only[go_sem]
  have r3:h3.get n=some (.row 27 (v.av C)):=by rw[u3.old _ (by omega)];simp (disch:=omega) only[go_sem]
  have ux:Up h n h3 n3:=by exact aI
  clear u3;have hsm:=ia.small;rw[List.length_map]at hsm;repeat' (first|(simp (disch:=omega) only[go_sem,simprocAttr,Int.reduceEq,r3,CS.av])|(refine aT ?_ ?_<;>(intro hb hd;rw[hb];clear hb))|(with_reducible refine aj ?_))
  rw[aU];have k5:=(k3.up (show Up h3 n3 ((Tr.set h3 n3 (.row 150 [.i .i64 0,.k 1,.k 1])).set n3 (.row 150 (D9 party vv ww))) (n3+1) by exact aI));refine Ir K (hC.up aI) ho k5.use ia hp0 hp1 so λsv sf h6 n6 hsf u6 k6=>?_;have e6:=u6.le;have hd0:=ia.hd;obtain⟨s0,hs0,hs1⟩:=hsf.2 0 p hd0;have alZ:sf.length=ps.length:=by rw[hsf.1,List.length_map]
  have al0:0<ps.length:=by have:=(List.getElem?_eq_some_iff.1 hd0).1;rw[List.length_map]at this;exact this
  obtain⟨b1,o1,z,i1,hz,hb1,rd⟩:=k6.use.gD (k:=0) (by omega) (by omega) (by omega);rw[show(0:Int).toNat=0 by rfl,hs0]at hz;cases hz
  have r2':h6.get (n+1+1)=some (.row 80 [.i .i64 0,.k 1]):=by rw[u6.old _ (by omega),ay (by omega),ay (by omega)];exact r2
  have r8:h6.get n3=some (.row 150 (D9 party vv ww)):=by rw[u6.old _ (by omega),aG]
  have ux6:Up h n h6 n6:=by exact aI
  repeat' (first|(simp (disch:=omega) only[go_sem,simprocAttr,aK i1,rd.el,rd.hd,r2',r8,(k5.up u6).use.pos.len])|(refine aT ?_ ?_<;>(intro hb hd;rw[hb];clear hb))|(with_reducible refine aj ?_))
  .refine KN hp0 hp1 so (Classical.byContradiction λe=>?_) _ _ aI
   have:=hs1.2 e;rw[hd]at this;cases this
  have hnd:=hs1.1 hd;have u7:Up h6 n6 ((Tr.set h6 n6 (.row 80 [.i .i64 0,.k 1])).set n6 (.row 80 [.i .i64 party,.k 1])) (n6+1):=by exact aI
  have g7:((Tr.set h6 n6 (.row 80 [.i .i64 0,.k 1])).set n6 (.row 80 [.i .i64 party,.k 1])).get n6=some (.row 80 [.i .i64 party,.k 1]):=aG;generalize(Tr.set h6 n6 (.row 80 [.i .i64 0,.k 1])).set n6 _=h7 at*;have ar6:=k5.up u6;refine b_ ps.length (λk hk nk G=>∃(rv:AV)(rows:List ((TS×aP)×Int)),Up h6 n6 hk nk/\n6<nk/\hk.get n6=some (.row 80 [.i .i64 party,rv])/\Gr hk nk 163 6 rv SF rows/\(∀x,blk rv x->n6<x)/\rows.map (·.1)=(ps.take k).filter (λx=>decide (¬bY C party x.2))/\(∀x∈rows,NA C party x.1.2 x.2)/\
   G=[(6,.p (n+1+1) 0),(8,.p n3 0),(10,sv),(11,.p n6 0),(36,vv)]) (by omega) (by omega) (by omega) (by omega) (λk h8 n8 G ⟨_,_,_,_,_,_,_,_,_,e⟩=>by subst e;exact⟨rfl,rfl⟩) ⟨rfl,rfl,_,⟨.k 1,[],u7,Nat.lt_succ_self _,g7,Gr.nil λ_=>rfl,λx hx=>absurd hx fA,rfl,(λx hx=>by cases hx),rfl⟩,by(repeat' (first|exact aR|refine aN rfl ?_))⟩ ?_ ?_
  .rintro k h8 n8 G hk ⟨rv,rows,u8,l8,g8,gr,hb,hm,hkq,rfl⟩
   have e8:=u8.le;have ar8:=(ar6.up u8).use;obtain⟨b2,o2,x,i2,hx,hb2,gu⟩:=ar8.pos.gD (k:=(k:Nat)) (by omega) (by omega) (by omega);obtain⟨b3,o3,sb,i3,hsb,hb3,sj⟩:=(k6.use.up u8).gD (k:=(k:Nat)) (by omega) (by omega) (by omega);rw[show((k:Nat):Int).toNat=k by omega]at hx hsb;have hP:(ps.map (·.2))[k]?=some x.2:=by rw[List.getElem?_map,hx];rfl
   obtain⟨sb',ZG,wL⟩:=hsf.2 k x.2 hP;rw[hsb]at ZG;cases ZG
   have r8k:=(u8.old n3 (by omega)).trans r8;have htk:(ps.take (k+1)).filter (λx=>decide (¬bY C party x.2))=(ps.take k).filter (λx=>decide (¬bY C party x.2))++if sb=true then[x]else[]:=by
    rw[List.take_add_one,hx,List.filter_append];congr 1;cases sb with
    |true=>have:=wL.1 rfl;simp[this]
    |false=>
     have:bY C party x.2:=Classical.byContradiction λe=>by have:=wL.2 e;cases this
     simp[this]
   repeat' (first|(simp (disch:=omega) only[go_sem,simprocAttr,aK i2,gu.all,aK i3,sj.el,sj.hd,g8,r8k])|(refine aT ?_ ?_<;>(intro hb hd;rw[hb];clear hb))|(with_reducible refine aj ?_))
   .rw[bR]
    refine Gd _ (ar8.up aI) ia so ((k6.use.up u8).up aI) hsf hP (wL.1 hd) λmv h9 n9 hmv u9=>?_;have e9:=u9.le;have q13:h9.get n8=some (.row 45 (Ev x)):=by rw[u9.old _ (by omega)];exact aG
    have Ey:h9.get n6=some (.row 80 [.i .i64 party,rv]):=by rw[u9.old _ (by omega),ay (by omega),ay (by omega)];exact g8
    repeat' (first|(simp (disch:=omega) only[go_sem,simprocAttr,q13,Ey,g8])|(refine aT ?_ ?_<;>(intro hb hd;rw[hb];clear hb))|(with_reducible refine aj ?_))
    have hrl:rows.length<=1500:=by
     have e:=congrArg List.length hm;rw[List.length_map]at e;have e1:=List.length_filter_le (λx:TS×aP=>decide (¬bY C party x.2)) (ps.take k);have e2:=List.length_take_le k ps;omega
    refine Co (l2:=[(x,mv)]) (gr.up aI) ⟨rfl,?_⟩ (by simp;omega) λv' h10 n10 g10 l10 s10 b10=>?_
    .show bnd (iD (Tr.get _ _) 0 _) (λr=>mO (Nat.mul 1 6) r)=_
     rw[aG];rfl
    have n6b:¬blk rv n6:=λe=>by have:=hb _ e;omega
    have Vl:h10.get n6=some (.row 80 [.i .i64 party,rv]):=by rw[s10 n6 (by omega) n6b,ay (by omega)];exact Ey
    simp (disch:=omega) only[go_sem,simprocAttr,Vl,g10.cl,Ey,q13];refine⟨rfl,rfl,_,⟨v',rows++[(x,mv)],⟨by omega,λy hy=>?_⟩,by omega,aG,g10.on (Nat.le_refl _) λy _ hy=>ay ?_,λy hy=>?_,by rw[htk,hd,List.map_append,hm];rfl,λy hy=>?_,rfl⟩,by(repeat' (first|exact aR|refine aN rfl ?_))⟩
    .rw[ay (by omega),s10 y (by omega) (λe=>by have:=hb y e;omega),ay (by omega),u9.old y (by omega),ay (by omega),ay (by omega),u8.old y hy]
    .rintro rfl
     rcases b10 _ hy with e|e
     .exact n6b e
     .omega
    .rcases b10 y hy with e|e
     .exact hb y e
     .omega
    .rcases List.mem_append.1 hy with hy|hy
     .exact hkq y hy
     .simp at hy;subst hy;exact hmv
   .refine⟨rfl,rfl,_,⟨rv,rows,u8.trans aI,by omega,by simp (disch:=omega) only[go_sem,g8],gr.up aI,hb,by rw[htk,hd];simpa using hm,hkq,rfl⟩,by(repeat' (first|exact aR|refine aN rfl ?_))⟩
  .rintro h8 n8 G ⟨rv,rows,u8,l8,g8,gr,hb,hm,hkq,rfl⟩
   have e8:=u8.le;have r2k:=(u8.old (n+1+1) (by omega)).trans r2';rw[List.take_length]at hm;have ux8:Up h n h8 n8:=ux6.trans u8;repeat' (first|(simp (disch:=omega) only[go_sem,simprocAttr,g8,r2k])|(refine aT ?_ ?_<;>(intro hb hd;rw[hb];clear hb))|(with_reducible refine aj ?_))
   have hmp:rows.map (λx=>x.1.2)=(ps.map (·.2)).filter (λq=>decide (¬bY C party q)):=by
    have e:=congrArg (List.map (λx:TS×aP=>x.2)) hm;rw[List.map_map]at e;rw[List.filter_map];exact e
   refine ZF hp0 hp1 so hnd rows rv _ _ ⟨⟨_,M,ia,hmp⟩,hkq⟩ aI ?_;have kr:Kp (λx=>x<n+1+1+1) h8 n8 (λh n=>SL h n 6 rv SF rows):=gr.sl.kp λx hx=>by have:=hb x hx;omega
   have ka:=ar6.up u8;have kk:=(kr.and ka).wk (B:=λh n=>SL h n 6 rv SF rows/\∀x∈rows,bX h n x.1.1 x.1.2.st) λh n e=>⟨e.1,λx hx=>e.2.st x.1 ((List.mem_filter.1 (show x.1∈ps.filter (λx=>decide (¬bY C party x.2)) by rw[<-hm];exact List.mem_map_of_mem hx)).1)⟩;exact(kk.set (.inl (by omega)) (Nat.le_refl _)).le λx _ hx=>by omega
end
end
end
section
noncomputable section
set_option maxRecDepth 1000000
set_option maxHeartbeats 4000000
def m90:MC:=vF 90
def c90:=vT 90 m90
def m61:MC:=vF 61
def c61:=vT 61 m61
def ZH:MC:=vF 114
def afE:=vT 114 ZH
def ZI:MC:=vF 62
def c62:=vT 62 ZI
def Vm:MC:=vF 116
def c116:=vT 116 Vm
def ZJ:MC:=vF 118
def afF:=vT 118 ZJ
def ZK:MC:=vF 192
def afG:=vT 192 ZK
def Vn:MC:=vF 193
def c193:=vT 193 Vn
def m34:MC:=vF 34
def c34:=vT 34 m34
def NC:MC:=vB 34 (jE 34 0)
def Vo:=vU 34 (jE 34 0) NC
def ND:MC:=vB 34 (jF 34 0)
def Vp:=vU 34 (jF 34 0) ND
def m33:MC:=vF 33
def c33:=vT 33 m33
def m31:MC:=vF 31
def c31:=vT 31 m31
def m32:MC:=vF 32
def c32:=vT 32 m32
def m60:MC:=vF 60
def c60:=vT 60 m60
def JU:MC:=vF 113
def afK:=vT 113 JU
def ZL:MC:=vF 110
def afL:=vT 110 ZL
def ZM:MC:=vF 111
def afM:=vT 111 ZM
def ZN:MC:=vF 190
def afN:=vT 190 ZN
def ZO:MC:=vF 112
def afO:=vT 112 ZO
def m10:MC:=vF 10
def c10:=vT 10 m10
def m35:MC:=vF 35
def c35:=vT 35 m35
def m36:MC:=vF 36
def c36:=vT 36 m36
def m65:MC:=vF 65
def c65:=vT 65 m65
def m37:MC:=vF 37
def c37:=vT 37 m37
def m11:MC:=vF 11
def c11:=vT 11 m11
def Gf:MC:=vB 11 (jE 11 0)
def NG:=vU 11 (jE 11 0) Gf
def Gg:MC:=vB 11 (jF 11 0)
def NH:=vU 11 (jF 11 0) Gg
end
end
section
noncomputable section
theorem SG:DW 23:=⟨λ_ _ _ _ _=>by kernel_rfl,λ_ _=>by kernel_rfl,by kernel_rfl⟩
theorem SH:DW 24:=⟨λ_ _ _ _ _=>by kernel_rfl,λ_ _=>by kernel_rfl,by kernel_rfl⟩
theorem ZP:DW 25:=⟨λ_ _ _ _ _=>by kernel_rfl,λ_ _=>by kernel_rfl,by kernel_rfl⟩
theorem NI:DW 110:=⟨λ_ _ _ _ _=>by kernel_rfl,λ_ _=>by kernel_rfl,by kernel_rfl⟩
theorem k68:yC Tryz.prog sl0 68=some ([true],lH 23 167 5,[(.t 2)]):=by kernel_rfl
theorem k69:yC Tryz.prog sl0 69=some ([true],lH 24 169 7,[(.t 2)]):=by kernel_rfl
theorem k70:yC Tryz.prog sl0 70=some ([true],lH 25 112 16,[(.t 2)]):=by kernel_rfl
theorem k71:yC Tryz.prog sl0 71=some ([true],lH 110 191 2,[(.t 2)]):=by kernel_rfl
theorem Eb{α:Type}{c:α->List AV}{w:Nat}(hw:∀a,(c a).length=w){l:List α}{i j:Nat}{a a':α}{y:AV}(hi:l[i]?=some a)(hj:j<w)(hy:c a'=(c a).set j y):st1 (i*w+j) y (l.flatMap c)=some ((l.set i a').flatMap c):=by
 have hl:=(List.getElem?_eq_some_iff.1 hi).1;have h1:=ug hw l i a' hl;have YF:(i+1)*w<=l.length*w:=Nat.mul_le_mul_right w hl;rw[Nat.succ_mul]at YF;have hfl:(l.flatMap c).length=l.length*w:=bJ hw l;have hat:((l.flatMap c).drop (i*w)).take w=c a:=nA hw hi;rw[<-h1,rV];unfold oh;rw[if_pos (by rw[hfl];show i*w+j+1<=_;omega),if_pos (by rw[hfl,hw];omega)];congr 1;rw[hy];generalize hL:l.flatMap c=L at*;have DX:(c a).length=w:=hw a;have hsplit:L=L.take (i*w)++(c a++L.drop (i*w+w)):=by
  rw[<-hat,<-List.drop_drop,List.take_append_drop,List.take_append_drop]
 rw[List.length_set,DX];show L.take (i*w+j)++y::L.drop (i*w+j+1)=L.take (i*w)++((c a).set j y++L.drop (i*w+w));have e1:L.set (i*w+j) y=L.take (i*w+j)++y::L.drop (i*w+j+1):=by rw[List.set_eq_take_append_cons_drop,if_pos (by omega)]
 rw[<-e1];have e2:(L.take (i*w)++(c a++L.drop (i*w+w))).set (i*w+j) y=L.take (i*w)++((c a).set j y++L.drop (i*w+w)):=by
  rw[List.set_append,List.length_take,Nat.min_eq_left (by omega),if_neg (by omega),List.set_append,show i*w+j - i*w=j by omega,if_pos (by rw[DX];omega)]
 rw[<-e2,<-hsplit]
abbrev Cq(p:aF×AV):List AV:=p.1.av p.2
section
variable {h h':AH} {n n':Nat} {v:CS} {C:aA} {Q:AV->AH->Nat->Prop}
theorem Cr(K:Nat)(hC:aY h n v C)(ok:C.Ok)(ho:C.off.length<=1000000)(hu:C.units.length<=1000000)
 (hQ:∀v' h' n',Up h n h' n'->Kp (λx=>x<n) h' n' (λh n=>aY h n v' C)->Q (.agg (v'.av C)) h' n'):CW (EF (K+2)) 37 [.agg (v.av C)] h n Q:=by
 have:=ok.dL;have:=ok.jY;have:=ok.lG;obtain⟨ss,hs1,hs2,hs3⟩:=hC.clauses;have hz:(C.clauses.zip ss).length=C.clauses.length:=by simp[hs1]
 have hk:SL h n 16 v.k Cq (C.clauses.zip ss):=⟨λ_=>rfl,by rw[hz];exact hs2⟩;refine aD c37 rfl ?_;repeat' (first|(simp (disch:=omega) only[go_sem,simprocAttr,ub.old,m37,CS.av])|(simp (disch:=omega) only[go_sem,simprocAttr,m37,CS.av])|(refine aT ?_ ?_<;>(intro hb hd;rw[hb];clear hb))|(with_reducible refine aj ?_))
 generalize hh:Tr.set (Tr.set h n _) (n+1) _=h1;have u1:Up h n h1 (n+2):=by rw[<-hh];exact aI
 have q1:h1.get n=some (.row 27 (v.av C)):=by rw[<-hh];simp (disch:=omega) only[go_sem]
 have p1:h1.get (n+1)=some (.row 27 [.i .i64 0,.k 1,.k 1,.k 1,.k 1,.i .i64 0,.k 1]):=by rw[<-hh];simp (disch:=omega) only[go_sem]
 clear hh;have ZQ:=u1;rw[aU];refine eG UE zh _ (hC.ah.up ZQ) (by omega) λv2 h2 n2 u2 g2 b2 x2=>?_;have e2:=u2.le;have q2:=(u2.old n (by omega)).trans q1;have p2:=(u2.old (n+1) (by omega)).trans p1;simp (disch:=omega) only[go_sem,simprocAttr,g2.cl,q2,CS.av];have CP:=(g2.sl.kp (X:=λx=>x<n+2) λx hx=>by have:=b2 x hx;omega).set (b:=n) (o:=.row 27 [.i .i64 C.aC,v2,v.u,v.a,v.k,.i .i64 C.days,v.o]) (.inl (by omega)) (Nat.le_refl _);have KQ:Up h n (h2.set n (.row 27 [.i .i64 C.aC,v2,v.u,v.a,v.k,.i .i64 C.days,v.o])) n2:=Up.st (ZQ.trans u2) _ _ (Nat.le_refl _);replace q2:(h2.set n (.row 27 [.i .i64 C.aC,v2,v.u,v.a,v.k,.i .i64 C.days,v.o])).get n=some (.row 27 [.i .i64 C.aC,v2,v.u,v.a,v.k,.i .i64 C.days,v.o]):=aG;replace p2:(h2.set n (.row 27 [.i .i64 C.aC,v2,v.u,v.a,v.k,.i .i64 C.days,v.o])).get (n+1)=some (.row 27 [.i .i64 0,.k 1,.k 1,.k 1,.k 1,.i .i64 0,.k 1]):=by rw[ay (by omega)];exact p2
 generalize Tr.set h2 n _=h2a at*;rw[aU];refine eG k68 SG _ (hC.units.up KQ) (hu) λv3 h3 n3 u3 g3 b3 x3=>?_;have e3:=u3.le;have q3:=(u3.old n (by omega)).trans q2;have p3:=(u3.old (n+1) (by omega)).trans p2;simp (disch:=omega) only[go_sem,simprocAttr,g3.cl,q3,CS.av];have CP:=(CP.up u3).set (b:=n) (o:=.row 27 [.i .i64 C.aC,v2,v3,v.a,v.k,.i .i64 C.days,v.o]) (.inl (by omega)) (Nat.le_refl _);have Iw:=(g3.sl.kp (X:=λx=>x<n+2) λx hx=>by have:=b3 x hx;omega).set (b:=n) (o:=.row 27 [.i .i64 C.aC,v2,v3,v.a,v.k,.i .i64 C.days,v.o]) (.inl (by omega)) (Nat.le_refl _);have rG:Up h n (h3.set n (.row 27 [.i .i64 C.aC,v2,v3,v.a,v.k,.i .i64 C.days,v.o])) n3:=Up.st (KQ.trans u3) _ _ (Nat.le_refl _);replace q3:(h3.set n (.row 27 [.i .i64 C.aC,v2,v3,v.a,v.k,.i .i64 C.days,v.o])).get n=some (.row 27 [.i .i64 C.aC,v2,v3,v.a,v.k,.i .i64 C.days,v.o]):=aG;replace p3:(h3.set n (.row 27 [.i .i64 C.aC,v2,v3,v.a,v.k,.i .i64 C.days,v.o])).get (n+1)=some (.row 27 [.i .i64 0,.k 1,.k 1,.k 1,.k 1,.i .i64 0,.k 1]):=by rw[ay (by omega)];exact p3
 generalize Tr.set h3 n _=h3a at*;rw[aU];refine eG k69 SH _ (hC.acts.up rG) (by omega) λv4 h4 n4 u4 g4 b4 x4=>?_;have e4:=u4.le;have q4:=(u4.old n (by omega)).trans q3;have p4:=(u4.old (n+1) (by omega)).trans p3;simp (disch:=omega) only[go_sem,simprocAttr,g4.cl,q4,CS.av];have CP:=(CP.up u4).set (b:=n) (o:=.row 27 [.i .i64 C.aC,v2,v3,v4,v.k,.i .i64 C.days,v.o]) (.inl (by omega)) (Nat.le_refl _);have Iw:=(Iw.up u4).set (b:=n) (o:=.row 27 [.i .i64 C.aC,v2,v3,v4,v.k,.i .i64 C.days,v.o]) (.inl (by omega)) (Nat.le_refl _);have OJ:=(g4.sl.kp (X:=λx=>x<n+2) λx hx=>by have:=b4 x hx;omega).set (b:=n) (o:=.row 27 [.i .i64 C.aC,v2,v3,v4,v.k,.i .i64 C.days,v.o]) (.inl (by omega)) (Nat.le_refl _);have Vq:Up h n (h4.set n (.row 27 [.i .i64 C.aC,v2,v3,v4,v.k,.i .i64 C.days,v.o])) n4:=Up.st (rG.trans u4) _ _ (Nat.le_refl _);replace q4:(h4.set n (.row 27 [.i .i64 C.aC,v2,v3,v4,v.k,.i .i64 C.days,v.o])).get n=some (.row 27 [.i .i64 C.aC,v2,v3,v4,v.k,.i .i64 C.days,v.o]):=aG;replace p4:(h4.set n (.row 27 [.i .i64 C.aC,v2,v3,v4,v.k,.i .i64 C.days,v.o])).get (n+1)=some (.row 27 [.i .i64 0,.k 1,.k 1,.k 1,.k 1,.i .i64 0,.k 1]):=by rw[ay (by omega)];exact p4
 generalize Tr.set h4 n _=h4a at*;rw[aU];refine eG UE zh _ (hC.off.up Vq) (ho) λv5 h5 n5 u5 g5 b5 x5=>?_;have e5:=u5.le;have q5:=(u5.old n (by omega)).trans q4;have p5:=(u5.old (n+1) (by omega)).trans p4;simp (disch:=omega) only[go_sem,simprocAttr,g5.cl,q5,CS.av];have CP:=(CP.up u5).set (b:=n) (o:=.row 27 [.i .i64 C.aC,v2,v3,v4,v.k,.i .i64 C.days,v5]) (.inl (by omega)) (Nat.le_refl _);have Iw:=(Iw.up u5).set (b:=n) (o:=.row 27 [.i .i64 C.aC,v2,v3,v4,v.k,.i .i64 C.days,v5]) (.inl (by omega)) (Nat.le_refl _);have OJ:=(OJ.up u5).set (b:=n) (o:=.row 27 [.i .i64 C.aC,v2,v3,v4,v.k,.i .i64 C.days,v5]) (.inl (by omega)) (Nat.le_refl _);have Ww:=(g5.sl.kp (X:=λx=>x<n+2) λx hx=>by have:=b5 x hx;omega).set (b:=n) (o:=.row 27 [.i .i64 C.aC,v2,v3,v4,v.k,.i .i64 C.days,v5]) (.inl (by omega)) (Nat.le_refl _);have Wo:Up h n (h5.set n (.row 27 [.i .i64 C.aC,v2,v3,v4,v.k,.i .i64 C.days,v5])) n5:=Up.st (Vq.trans u5) _ _ (Nat.le_refl _);replace q5:(h5.set n (.row 27 [.i .i64 C.aC,v2,v3,v4,v.k,.i .i64 C.days,v5])).get n=some (.row 27 [.i .i64 C.aC,v2,v3,v4,v.k,.i .i64 C.days,v5]):=aG;replace p5:(h5.set n (.row 27 [.i .i64 C.aC,v2,v3,v4,v.k,.i .i64 C.days,v5])).get (n+1)=some (.row 27 [.i .i64 0,.k 1,.k 1,.k 1,.k 1,.i .i64 0,.k 1]):=by rw[ay (by omega)];exact p5
 generalize Tr.set h5 n _=h5a at*;rw[aU];refine eG k70 ZP _ (hk.up Wo) (by rw[hz];omega) λv6 h6 n6 u6 g6 b6 x6=>?_;have e6:=u6.le;have q6:=(u6.old n (by omega)).trans q5;have p6:=(u6.old (n+1) (by omega)).trans p5;simp (disch:=omega) only[go_sem,simprocAttr,g6.cl,q6,CS.av];have CP:=(CP.up u6).set (b:=n) (o:=.row 27 [.i .i64 C.aC,v2,v3,v4,v6,.i .i64 C.days,v5]) (.inl (by omega)) (Nat.le_refl _);have Iw:=(Iw.up u6).set (b:=n) (o:=.row 27 [.i .i64 C.aC,v2,v3,v4,v6,.i .i64 C.days,v5]) (.inl (by omega)) (Nat.le_refl _);have OJ:=(OJ.up u6).set (b:=n) (o:=.row 27 [.i .i64 C.aC,v2,v3,v4,v6,.i .i64 C.days,v5]) (.inl (by omega)) (Nat.le_refl _);have Ww:=(Ww.up u6).set (b:=n) (o:=.row 27 [.i .i64 C.aC,v2,v3,v4,v6,.i .i64 C.days,v5]) (.inl (by omega)) (Nat.le_refl _);have kk6:=(g6.sl.kp (X:=λx=>x<n+2) λx hx=>by have:=b6 x hx;omega).set (b:=n) (o:=.row 27 [.i .i64 C.aC,v2,v3,v4,v6,.i .i64 C.days,v5]) (.inl (by omega)) (Nat.le_refl _);have ux6:Up h n (h6.set n (.row 27 [.i .i64 C.aC,v2,v3,v4,v6,.i .i64 C.days,v5])) n6:=Up.st (Wo.trans u6) _ _ (Nat.le_refl _);replace q6:(h6.set n (.row 27 [.i .i64 C.aC,v2,v3,v4,v6,.i .i64 C.days,v5])).get n=some (.row 27 [.i .i64 C.aC,v2,v3,v4,v6,.i .i64 C.days,v5]):=aG;replace p6:(h6.set n (.row 27 [.i .i64 C.aC,v2,v3,v4,v6,.i .i64 C.days,v5])).get (n+1)=some (.row 27 [.i .i64 0,.k 1,.k 1,.k 1,.k 1,.i .i64 0,.k 1]):=by rw[ay (by omega)];exact p6
 have x6':=λhne=>(x6 hne).imp λb e=>(show _/\(h6.set n (.row 27 [.i .i64 C.aC,v2,v3,v4,v6,.i .i64 C.days,v5])).get b=_/\_/\_ from⟨e.1,(ay (by omega)).trans e.2.1,e.2.2⟩);generalize Tr.set h6 n _=h6a at*;have l2:∀x,blk v2 x->n+2<=x/\x<n5:=λx hx=>⟨by have:=b2 x hx;omega,by have:=g2.fE hx;omega⟩;have l3:∀x,blk v3 x->n+2<=x/\x<n5:=λx hx=>⟨by have:=b3 x hx;omega,by have:=g3.fE hx;omega⟩;have l4:∀x,blk v4 x->n+2<=x/\x<n5:=λx hx=>⟨by have:=b4 x hx;omega,by have:=g4.fE hx;omega⟩;have l5:∀x,blk v5 x->n+2<=x/\x<n5:=λx hx=>⟨by have:=b5 x hx;omega,by have:=g5.fE hx;omega⟩;simp (disch:=omega) only[go_sem,simprocAttr,kk6.use.len,hz];by_cases h0:C.clauses=[]
 .have hN:C.clauses.length=0:=by rw[h0];rfl
  refine b_ C.clauses.length (λk hk nk G=>hk=h6a/\nk=n6/\G=[(1,.p n 0),(2,.p (n+1) 0),(26,v6)]) (by omega) (by omega) (by omega) (by omega) (λk h8 n8 G ⟨_,_,e⟩=>by subst e;exact⟨rfl,rfl⟩) ⟨rfl,rfl,_,⟨rfl,rfl,rfl⟩,by(repeat' (first|exact aR|refine aN rfl ?_))⟩ ?_ ?_
  .intro k _ _ _ hk;omega
  .rintro hk nk G ⟨rfl,rfl,rfl⟩
   simp (disch:=omega) only[go_sem,simprocAttr,q6,p6];refine hQ ⟨v2,v3,v4,v6,v5⟩ _ _ (Up.st ux6 _ _ (by omega)) ?_;have k6':Kp (λx=>x<n+2) hk nk (λh n=>aY h n ⟨v2,v3,v4,v6,v5⟩ C):=(((CP.and Iw).and (OJ.and Ww)).and kk6).wk λh n e=>⟨e.1.1.1,e.1.1.2,e.1.2.1,⟨[],by rw[h0];rfl,by rw[h0];have:=e.2.2;rw[hz,h0]at this;simpa using this,λi k t h=>by rw[h0]at h;cases h⟩,e.1.2.2⟩;exact(k6'.set (.inl (by omega)) (Nat.le_refl _)).le λx _ hx=>by omega
 .have hne:C.clauses.zip ss≠[]:=λe=>h0 (by have:=congrArg List.length e;rw[hz]at this;exact List.length_eq_zero_iff.1 this)
  obtain⟨b,rfl,gb,hb1,hb2⟩:=x6' hne;rw[hz];have kA:=(((CP.use.kp (X:=λx=>x<n+2\/x=b) λx hx e=>by have:=l2 x hx;omega).and (Iw.use.kp (X:=λx=>x<n+2\/x=b) λx hx e=>by have:=l3 x hx;omega)).and
   ((OJ.use.kp (X:=λx=>x<n+2\/x=b) λx hx e=>by have:=l4 x hx;omega).and (Ww.use.kp (X:=λx=>x<n+2\/x=b) λx hx e=>by have:=l5 x hx;omega)))
  have ZR:∀(j:Nat)(x:aF×AV),(C.clauses.zip ss)[j]?=some x->C.clauses[j]?=some x.1/\ss[j]?=some x.2:=λj x e=>by rw[List.getElem?_zip_eq_some]at e;exact e
  refine b_ C.clauses.length (λk hk nk G=>∃l':List (aF×AV),l'.length=C.clauses.length/\(∀(j:Nat)(x:aF×AV),l'[j]?=some x->C.clauses[j]?=some x.1/\(j<k->Kp (λx=>x<n+2\/x=b) hk nk (λh n=>SL h n 2 x.2 bN.av x.1.start))/\(k<=j->ss[j]?=some x.2))/\hk.get b=some (.row 112 (l'.flatMap Cq))/\hk.get n=some (.row 27 [.i .i64 C.aC,v2,v3,v4,.sl b 0 0 C.clauses.length none,.i .i64 C.days,v5])/\hk.get (n+1)=some (.row 27 [.i .i64 0,.k 1,.k 1,.k 1,.k 1,.i .i64 0,.k 1])/\Up h n hk nk/\b<nk/\
   Kp (λx=>x<n+2\/x=b) hk nk (λh n=>(SL h n 1 v2 (λx=>[AV.i .i64 x]) C.ah/\SL h n 5 v3 dB.av C.units)/\SL h n 7 v4 dh.av C.acts/\SL h n 1 v5 (λx=>[AV.i .i64 x]) C.off)/\G=[(1,.p n 0),(2,.p (n+1) 0),(26,.sl b 0 0 C.clauses.length none)]) (by omega) (by omega) (by omega) (by omega) (λk h8 n8 G ⟨_,_,_,_,_,_,_,_,_,e⟩=>by subst e;exact⟨rfl,rfl⟩) ⟨rfl,rfl,_,⟨C.clauses.zip ss,hz,λj x e=>⟨(ZR j x e).1,(λhj=>absurd hj (by omega)),λ_=>(ZR j x e).2⟩,gb,by rw[q6,hz],p6,ux6,hb2,kA,rfl⟩,by(repeat' (first|exact aR|refine aN rfl ?_))⟩ ?_ ?_
  .rintro k hk nk G hk' ⟨l',hl',hx,ZT,q',p',uk,lb,kA',rfl⟩
   obtain⟨x,hxk⟩:∃x,l'[k]?=some x:=⟨l'[k]'(by omega),List.getElem?_eq_some_iff.2 ⟨by omega,rfl⟩⟩;obtain⟨hx1,_,hx3⟩:=hx k x hxk;have sx:=hs3 k x.1 x.2 hx1 (hx3 (Nat.le_refl _));have xI:=ok.clause hx1;have hns:=xI.r9;have rdw:=MH (e:=112) (c:=Cq) (w:=16) (λ_=>rfl) hxk;repeat' (first|(simp (disch:=omega) only[go_sem,simprocAttr,ub.old,bZ hk',bS hk',ZT,rdw,q'])|(simp (disch:=omega) only[go_sem,simprocAttr,bZ hk',bS hk',ZT,rdw,q'])|(refine aT ?_ ?_<;>(intro hb hd;rw[hb];clear hb))|(with_reducible refine aj ?_))
   rw[bR];have ukl:=uk.le;refine eG k71 NI _ (sx.up (uk.trans aI)) (by omega) λv7 h7 n7 u7 g7 b7 _=>?_;have e7:=u7.le;have rb7:h7.get b=some (.row 112 (l'.flatMap Cq)):=by rw[u7.old _ (by omega),ay (by omega),ay (by omega)];exact ZT
   have rn7:h7.get n=some (.row 27 [.i .i64 C.aC,v2,v3,v4,.sl b 0 0 C.clauses.length none,.i .i64 C.days,v5]):=by rw[u7.old _ (by omega),ay (by omega),ay (by omega)];exact q'
   have rp7:h7.get (n+1)=some (.row 27 [.i .i64 0,.k 1,.k 1,.k 1,.k 1,.i .i64 0,.k 1]):=by rw[u7.old _ (by omega),ay (by omega),ay (by omega)];exact p'
   have st:=Eb (c:=Cq) (w:=16) (j:=4) (y:=v7) (a':=(x.1,v7)) (λ_=>rfl) hxk (by omega) rfl;have u77:Up hk nk h7 n7:=by exact aI
   simp (disch:=omega) only[go_sem,simprocAttr,g7.cl,rb7,rn7,q',bS hk',st,Option.map_some];refine⟨rfl,rfl,_,⟨l'.set k (x.1,v7),by simp[hl'],λj z hz'=>?_,aG,by rw[ay (by omega)];exact rn7,by rw[ay (by omega)];exact rp7,Up.st (uk.trans u77) _ _ (by omega),by omega,(kA'.up u77).set (.inl (.inr rfl)) (Nat.le_refl _),rfl⟩,by(repeat' (first|exact aR|refine aN rfl ?_))⟩;rw[List.getElem?_set]at hz';by_cases e:k=j
   .subst e
    rw[if_pos rfl,if_pos (by omega)]at hz';cases hz'
    refine⟨hx1,λ_=>?_,λh=>absurd h (by omega)⟩;exact(g7.sl.kp (X:=λx=>x<n+2\/x=b) λy hy e=>by have:=b7 y hy;omega).set (.inl (.inr rfl)) (Nat.le_refl _)
   .rw[if_neg e]at hz'
    obtain⟨y1,y2,y3⟩:=hx j z hz';exact⟨y1,λhj=>((y2 (by omega)).up u77).set (.inl (.inr rfl)) (Nat.le_refl _),λhj=>y3 (by omega)⟩
  .rintro hk nk G ⟨l',hl',hx,ZT,q',p',uk,lb,kA',rfl⟩
   simp (disch:=omega) only[go_sem,simprocAttr,q',p'];refine hQ ⟨v2,v3,v4,_,v5⟩ _ _ (Up.st uk _ _ (by omega)) ?_;have slk:SL hk nk 16 (.sl b 0 0 C.clauses.length none) Cq l':=SL.of (λ_=>rfl) lb ZT rfl hl'.symm (λk hk=>by cases hk);have ksl:Kp (λx=>x<n+2) hk nk (λh n=>SL h n 16 (.sl b 0 0 C.clauses.length none) Cq l'):=slk.kp λx hx e=>by rw[d_]at hx;omega
   have MP:Kp (λx=>x<n+2) hk nk (λh n=>∀(j:Nat)(x:aF×AV),l'[j]?=some x->SL h n 2 x.2 bN.av x.1.start):=λh' n' a1 a2 j x e=>by
    have hj:=(List.getElem?_eq_some_iff.1 e).1;exact(((hx j x e).2.1 (by omega)).le λy _ hy=>.inl hy) h' n' a1 a2
   have kA2:=kA'.le (Y:=λx=>x<n+2) λy _ hy=>.inl hy;have hl1:C.clauses.zip (l'.map (·.2))=l':=by
    apply List.ext_getElem?;intro j;cases hj:l'[j]? with
    |none=>
     rw[List.getElem?_eq_none_iff]at hj⊢;simp;omega
    |some x=>
     rw[List.getElem?_zip_eq_some];exact⟨(hx j x hj).1,by rw[List.getElem?_map,hj];rfl⟩
   have kk:=((kA2.and ksl).and MP).wk (B:=λh n=>aY h n ⟨v2,v3,v4,.sl b 0 0 C.clauses.length none,v5⟩ C) λh n e=>⟨e.1.1.1.1,e.1.1.1.2,e.1.1.2.1,⟨l'.map (·.2),by simp[hl'],by rw[hl1];have:=e.1.2.2;rw[hl']at this;exact this,λi k t h1 h2=>by
    rw[List.getElem?_map]at h2;cases hj:l'[i]? with
    |none=>rw[hj]at h2;cases h2
    |some x=>
     rw[hj]at h2;cases h2
     have h3:=(hx i x hj).1;rw[h1]at h3;cases h3
     exact e.2 i x hj⟩,e.1.1.2.2⟩
   exact(kk.set (.inl (by omega)) (Nat.le_refl _)).le λx _ hx=>by omega
end
end
end
section
noncomputable section
def wM(b:Bool):List UInt8:=wr (if b then 1 else 0)
def mkK(m:au):List UInt8:=wr m.status++wr m.left++wr m.got++wr m.aO++wM m.paused
def z8(p:aP):List UInt8:=wM p.own++wr p.st.day++p.st.ah.flatMap wr++p.st.used.flatMap wM++p.st.marks.flatMap mkK
theorem qE(b:Bool):(wM b).length<=6:=eu _
theorem Iy(m:au):(mkK m).length<=30:=by
 unfold mkK;have h1:=eu m.status;have h2:=eu m.left;have h3:=eu m.got;have h4:=eu m.aO;have h5:=qE m.paused;simp only[List.length_append];omega
theorem vX{x y:Bool}{r s:List UInt8}(h:wM x++r=wM y++s):x=y/\r=s:=by
 unfold wM at h;obtain⟨h1,h2⟩:=gJ (by unfold NB;split<;>omega) (by unfold NB;split<;>omega) h;refine⟨?_,h2⟩;cases x<;>cases y<;>simp at h1⊢
theorem JV{x y:au}{r s:List UInt8}(hx:NB x.status/\NB x.left/\NB x.got/\NB x.aO)(hy:NB y.status/\NB y.left/\NB y.got/\NB y.aO)(h:mkK x++r=mkK y++s):x=y/\r=s:=by
 obtain⟨x1,x2,x3,x4,x5⟩:=x;obtain⟨y1,y2,y3,y4,y5⟩:=y;unfold mkK at h;simp only[List.append_assoc]at h;obtain⟨e1,h⟩:=gJ hx.1 hy.1 h;obtain⟨e2,h⟩:=gJ hx.2.1 hy.2.1 h;obtain⟨e3,h⟩:=gJ hx.2.2.1 hy.2.2.1 h;obtain⟨e4,h⟩:=gJ hx.2.2.2 hy.2.2.2 h;obtain⟨e5,h⟩:=vX h;dsimp only at e1 e2 e3 e4 e5;exact⟨by rw[e1,e2,e3,e4,e5],h⟩
theorem QJ{C:aA}{p q:aP}(hp:aM C p.st)(hq:aM C q.st)(h:z8 p=z8 q):p=q:=by
 have bp:=hp.pb p.own;have bq:=hq.pb q.own;unfold z8 at h;rw[<-List.append_nil (p.st.marks.flatMap mkK),<-List.append_nil (q.st.marks.flatMap mkK)]at h;simp only[List.append_assoc]at h;obtain⟨e1,h⟩:=vX h;obtain⟨e2,h⟩:=gJ bp.day bq.day h;obtain⟨e3,h⟩:=kg (B:=NB) (λx y r s=>gJ) (by rw[hp.lh,hq.lh]) bp.ah bq.ah h;obtain⟨e4,h⟩:=kg (f:=wM) (B:=λ_=>True) (λx y r s _ _=>vX) (by rw[hp.lu,hq.lu]) (λ_ _=>trivial) (λ_ _=>trivial) h;obtain⟨e5,h⟩:=kg (B:=λx=>NB x.status/\NB x.left/\NB x.got/\NB x.aO) (λx y r s=>JV) (by rw[hp.lm,hq.lm]) bp.marks bq.marks h;obtain⟨⟨d,hs,us,ms⟩,o⟩:=p;obtain⟨⟨d',hs',us',ms'⟩,o'⟩:=q;cases e1;cases e2;cases e3;cases e4;cases e5
 rfl
section
variable {P P':Nat->Prop} {h h':AH} {n n' T tb:Nat} {l:List UInt8} {Q:AV->AH->Nat->Prop} {tv:TS} {p:aP}
theorem pV(K:Nat)(t:Tx h n P T tb l)(hl:l.length<=800000){x:Int}(hx:NB x)(hQ:∀h' n',Tx h' n' P T tb (l++wr x)->UP P h n h' n'->Q (.bQ []) h' n'):CW (EF (K+5)) 192 [.i .i64 x,.p tb 0] h n Q:=by
 obtain⟨v,h1,h2,h3⟩:=t.ex;have hlt:=t.hi;have htn:(tn x).length<=5:=by have:=eu x;unfold wr at this;simp at this;omega
 refine aD afG rfl ?_;simp (disch:=omega) only[go_sem,simprocAttr,ZK,h1];rw[aU];refine Ar _ h2 (by omega) hx.1 hx.2 λv' h4 n4 g4 l4 s4 b4=>?_;simp (disch:=omega) only[go_sem,simprocAttr];refine uE (b:=32) (g4.up aI) (by simp;omega) rfl rfl aG λv5 h5 n5 g5 l5 s5 b5=>?_;have Zd:∀y,y<n->¬blk v y->h5.get y=h.get y:=λy hy hb=>by
  rw[s5 y (by omega) (λe=>by rcases b4 y e with e|e;exact hb e;omega),ay (by omega),s4 y hy hb]
 obtain⟨q1,q2,q3⟩:=t.put h1 h3 (Up.refl _ _) g5 (by omega) Zd λy hy=>by
  rcases b5 y hy with e|e
  .exact b4 y e
  .exact .inr (by omega)
 simp (disch:=omega) only[go_sem,simprocAttr,q1,g5.cl];rw[List.append_assoc]at q2;exact hQ _ _ q2 q3
theorem zw(K:Nat){b4:Nat}(t:Tx h n P T tb l)(hl:l.length<=800000)(h4:h.get b4=some (.row 146 [.f 192 [.p tb 0]]))(b:Bool)(hQ:∀h' n',Tx h' n' P T tb (l++wM b)->UP P h n h' n'->Q (.bQ []) h' n'):CW (EF (K+6)) 193 [.b b,.p b4 0] h n Q:=by
 refine aD c193 rfl ?_;cases b with
 |true=>
  simp (disch:=omega) only[go_sem,simprocAttr,Vn,h4];rw[mH];refine pV _ t hl (x:=1) (by unfold NB;omega) λh2 n2 t2 u2=>?_;simp (disch:=omega) only[go_sem,simprocAttr];exact hQ _ _ t2 u2
 |false=>
  simp (disch:=omega) only[go_sem,simprocAttr,Vn,h4];rw[mH];refine pV _ t hl (x:=0) (by unfold NB;omega) λh2 n2 t2 u2=>?_;simp (disch:=omega) only[go_sem,simprocAttr];exact hQ _ _ t2 u2
theorem Vr(K:Nat)(hS:bX h n tv p.st)(pb:PB p)(hQ:∀h' n',Up h n h' n'->Q (.s (z8 p)) h' n'):CW (EF (K+7)) 118 [.agg (tv.pv p)] h n Q:=by
 have lh:=pb.lh;have lu:=pb.lu;have lm:=pb.lm;refine aD afF rfl ?_;repeat' (first|(simp (disch:=omega) only[go_sem,simprocAttr,ZJ])|(refine aT ?_ ?_<;>(intro hb hd;rw[hb];clear hb))|(with_reducible refine aj ?_))
 generalize hh:Tr.set (Tr.set (Tr.set (Tr.set h n _) (n+1) _) (n+1+1) _) (n+1+1) _=h1;have u1:Up h n h1 (n+1+1+1):=by rw[<-hh];exact aI
 have q1:h1.get n=some (.row 45 (tv.pv p)):=by rw[<-hh];simp (disch:=omega) only[go_sem]
 have q4:h1.get (n+1+1)=some (.row 146 [.f 192 [.p (n+1) 0]]):=by rw[<-hh];simp (disch:=omega) only[go_sem]
 have t1:Tx h1 (n+1+1+1) (λx=>x<n+3/\x≠n+1) 306 (n+1) []:=by
  refine⟨by omega,by omega,λx hx=>by omega,.k 1,by rw[<-hh];simp (disch:=omega) only[go_sem],Gr.nil λ_=>rfl,λx hx=>absurd hx fA⟩
 clear hh;have Qu:∀{hk nk},UP (λx=>x<n+3/\x≠n+1) h1 (n+1+1+1) hk nk->Up h n hk nk:=λ{hk nk} u=>⟨by have:=u.le;omega,λx hx=>(u.at_ (show x<n+3/\x≠n+1 by omega) (by omega)).trans (u1.old x hx)⟩;have rn:∀{hk nk},UP (λx=>x<n+3/\x≠n+1) h1 (n+1+1+1) hk nk->hk.get n=some (.row 45 (tv.pv p))/\hk.get (n+1+1)=some (.row 146 [.f 192 [.p (n+1) 0]]):=λ{hk nk} u=>⟨(u.at_ (show n<n+3/\n≠n+1 by omega) (by omega)).trans q1,(u.at_ (show n+1+1<n+3/\n+1+1≠n+1 by omega) (by omega)).trans q4⟩;rw[mH];refine zw _ t1 (by simp) q4 p.own λh2 n2 t2 u2=>?_;obtain⟨q2,q42⟩:=rn u2;have e1:=qE p.own;simp (disch:=omega) only[go_sem,simprocAttr,q2,q42,TS.pv];rw[mH];refine pV _ t2 (by simp;omega) pb.day λh3 n3 t3 u3=>?_;have rG:UP (λx=>x<n+3/\x≠n+1) h1 (n+1+1+1) h3 n3:=u2.trans u3;obtain⟨q3,q43⟩:=rn rG;have e2:=eu p.st.day;simp (disch:=omega) only[go_sem,simprocAttr,q3,TS.pv,hS.ah.len];refine b_ p.st.ah.length (λk h8 n8 G=>Tx h8 n8 (λx=>x<n+3/\x≠n+1) 306 (n+1) (wM p.own++wr p.st.day++(p.st.ah.take k).flatMap wr)/\UP (λx=>x<n+3/\x≠n+1) h1 (n+1+1+1) h8 n8/\G=[(1,.p n 0),(3,.p (n+1) 0),(4,.p (n+1+1) 0),(5,.f 193 [.p (n+1+1) 0]),(25,tv.h)]) (by omega) (by omega) (by omega) (by omega) (λk h8 n8 G ⟨_,_,e⟩=>by subst e;exact⟨rfl,rfl⟩) ⟨rfl,rfl,_,⟨by simpa using t3,rG,rfl⟩,by(repeat' (first|exact aR|refine aN rfl ?_))⟩ ?_ ?_
 .rintro k h8 n8 G hk ⟨t8,u8,rfl⟩
  obtain⟨r1,r4⟩:=rn u8;obtain⟨b1,o1,a,i1,ha,hb1,rd⟩:=(hS.ah.up (Qu u8)).gD (k:=(k:Nat)) (by omega) (by omega) (by omega);rw[show((k:Nat):Int).toNat=k by omega]at ha;have hlen:=ig (f:=wr) (k:=6) eu (p.st.ah.take k);have htk:=List.length_take_le k p.st.ah;have hpre:(wM p.own++wr p.st.day).length<=30000:=by simp only[List.length_append];omega
  simp (disch:=omega) only[go_sem,simprocAttr,aK i1,rd.el,rd.hd,r4];rw[mH];refine pV _ t8 (by simp only[List.length_append];simp only[List.length_append]at hpre;omega) (pb.ah a (List.mem_of_getElem? ha)) λh9 n9 t9 u9=>?_;simp (disch:=omega) only[go_sem,simprocAttr];rw[List.append_assoc,<-mF ha]at t9;exact⟨rfl,rfl,_,⟨t9,u8.trans u9,rfl⟩,by(repeat' (first|exact aR|refine aN rfl ?_))⟩
 rintro h3 n3 G ⟨t3,rG,rfl⟩;rw[List.take_length]at t3;obtain⟨q3,q43⟩:=rn rG;have hlh:=ig (f:=wr) eu p.st.ah;simp (disch:=omega) only[go_sem,simprocAttr,q3,TS.pv,hS.used.len];refine b_ p.st.used.length (λk h8 n8 G=>Tx h8 n8 (λx=>x<n+3/\x≠n+1) 306 (n+1) (wM p.own++wr p.st.day++p.st.ah.flatMap wr++(p.st.used.take k).flatMap wM)/\UP (λx=>x<n+3/\x≠n+1) h1 (n+1+1+1) h8 n8/\G=[(1,.p n 0),(3,.p (n+1) 0),(4,.p (n+1+1) 0),(5,.f 193 [.p (n+1+1) 0]),(37,tv.u)]) (by omega) (by omega) (by omega) (by omega) (λk h8 n8 G ⟨_,_,e⟩=>by subst e;exact⟨rfl,rfl⟩) ⟨rfl,rfl,_,⟨by simpa using t3,rG,rfl⟩,by(repeat' (first|exact aR|refine aN rfl ?_))⟩ ?_ ?_
 .rintro k h8 n8 G hk ⟨t8,u8,rfl⟩
  obtain⟨r1,r4⟩:=rn u8;obtain⟨b1,o1,a,i1,ha,hb1,rd⟩:=(hS.used.up (Qu u8)).gD (k:=(k:Nat)) (by omega) (by omega) (by omega);rw[show((k:Nat):Int).toNat=k by omega]at ha;have hlen:=ig (f:=wM) (k:=6) qE (p.st.used.take k);have htk:=List.length_take_le k p.st.used;have hpre:(wM p.own++wr p.st.day++p.st.ah.flatMap wr).length<=30000:=by simp only[List.length_append];omega
  simp (disch:=omega) only[go_sem,simprocAttr,aK i1,rd.el,rd.hd];rw[mH];refine zw _ t8 (by simp only[List.length_append];simp only[List.length_append]at hpre;omega) r4 a λh9 n9 t9 u9=>?_;simp (disch:=omega) only[go_sem,simprocAttr];rw[List.append_assoc,<-mF ha]at t9;exact⟨rfl,rfl,_,⟨t9,u8.trans u9,rfl⟩,by(repeat' (first|exact aR|refine aN rfl ?_))⟩
 rintro h3 n3 G ⟨t3,rG,rfl⟩;rw[List.take_length]at t3;obtain⟨q3,q43⟩:=rn rG;have hlu:=ig (f:=wM) qE p.st.used;simp (disch:=omega) only[go_sem,simprocAttr,q3,TS.pv,hS.marks.len];refine b_ p.st.marks.length (λk h8 n8 G=>Tx h8 n8 (λx=>x<n+3/\x≠n+1) 306 (n+1) (wM p.own++wr p.st.day++p.st.ah.flatMap wr++p.st.used.flatMap wM++(p.st.marks.take k).flatMap mkK)/\UP (λx=>x<n+3/\x≠n+1) h1 (n+1+1+1) h8 n8/\G=[(1,.p n 0),(3,.p (n+1) 0),(4,.p (n+1+1) 0),(5,.f 193 [.p (n+1+1) 0]),(49,tv.m)]) (by omega) (by omega) (by omega) (by omega) (λk h8 n8 G ⟨_,_,e⟩=>by subst e;exact⟨rfl,rfl⟩) ⟨rfl,rfl,_,⟨by simpa using t3,rG,rfl⟩,by(repeat' (first|exact aR|refine aN rfl ?_))⟩ ?_ ?_
 .rintro k h8 n8 G hk ⟨t8,u8,rfl⟩
  obtain⟨r1,r4⟩:=rn u8;obtain⟨b1,o1,a,i1,ha,hb1,rd⟩:=(hS.marks.up (Qu u8)).gD (k:=(k:Nat)) (by omega) (by omega) (by omega);rw[show((k:Nat):Int).toNat=k by omega]at ha;have hlen:=ig (f:=mkK) (k:=30) Iy (p.st.marks.take k);have htk:=List.length_take_le k p.st.marks;have hpre:(wM p.own++wr p.st.day++p.st.ah.flatMap wr++p.st.used.flatMap wM).length<=30000:=by simp only[List.length_append];omega
  have hb:=pb.marks a (List.mem_of_getElem? ha);have v1:=eu a.status;have v2:=eu a.left;have v3:=eu a.got;have v4:=eu a.aO;have hlp:(wM p.own++wr p.st.day++p.st.ah.flatMap wr++p.st.used.flatMap wM++(p.st.marks.take k).flatMap mkK).length<=60000:=by
   simp only[List.length_append]at hpre⊢;omega
  generalize wM p.own++wr p.st.day++p.st.ah.flatMap wr++p.st.used.flatMap wM=pre at*;have n28:n+2<n8:=by have:=u8.le;omega
  simp (disch:=omega) only[go_sem,simprocAttr,aK i1,rd.el,rd.hd,rd.all,r4];generalize hg:Tr.set (Tr.set h8 n8 _) n8 _=h10;have JG:Up h8 n8 h10 (n8+1):=by rw[<-hg];exact aI
  have k0:h10.get n8=some (.row 144 a.av):=by rw[<-hg];simp (disch:=omega) only[go_sem]
  have c0:h10.get (n+1+1)=some (.row 146 [.f 192 [.p (n+1) 0]]):=(JG.old _ (by omega)).trans r4;have t10:=t8.box JG (Nat.lt_succ_self n8);clear hg;have pm:∀x,(x=n8\/x=n+1+1)->((x<n+3/\x≠n+1)\/x=n8):=λx e=>by omega
  rw[mH];refine pV _ t10 (by simp only[List.length_append]at hlp⊢;omega) hb.1 λh11 n11 t11 Sv=>?_;have k1:=(Sv.at_ (pm _ (.inl rfl)) (Nat.lt_succ_self n8)).trans k0;have c1:=(Sv.at_ (pm _ (.inr rfl)) (by omega)).trans c0;have l11:=Sv.le;simp (disch:=omega) only[go_sem,simprocAttr,k1,c1];rw[mH];refine pV _ t11 (by simp only[List.length_append]at hlp⊢;omega) hb.2.1 λh12 n12 t12 wK=>?_;have k2:=(wK.at_ (pm _ (.inl rfl)) (by omega)).trans k1;have c2:=(wK.at_ (pm _ (.inr rfl)) (by omega)).trans c1;have l12:=wK.le;simp (disch:=omega) only[go_sem,simprocAttr,k2,c2];rw[mH];refine pV _ t12 (by simp only[List.length_append]at hlp⊢;omega) hb.2.2.1 λWW n13 t13 Ii=>?_;have k3:=(Ii.at_ (pm _ (.inl rfl)) (by omega)).trans k2;have c3:=(Ii.at_ (pm _ (.inr rfl)) (by omega)).trans c2;have l13:=Ii.le;simp (disch:=omega) only[go_sem,simprocAttr,k3,c3];rw[mH];refine pV _ t13 (by simp only[List.length_append]at hlp⊢;omega) hb.2.2.2 λh14 n14 t14 Sw=>?_;have k4:=(Sw.at_ (pm _ (.inl rfl)) (by omega)).trans k3;have c4:=(Sw.at_ (pm _ (.inr rfl)) (by omega)).trans c3;have JH:=Sw.le;simp (disch:=omega) only[go_sem,simprocAttr,k4];rw[mH];refine zw _ t14 (by simp only[List.length_append]at hlp⊢;omega) c4 a.paused λSy n15 t15 u15=>?_;simp (disch:=omega) only[go_sem,simprocAttr];have t16:=t15.wk (P':=(λx=>x<n+3/\x≠n+1)) λx hx=>.inl hx;have e16:pre++(p.st.marks.take k).flatMap mkK++wr a.status++wr a.left++wr a.got++wr a.aO++wM a.paused=pre++(p.st.marks.take (k+1)).flatMap mkK:=by
   rw[mF ha,mkK];simp only[List.append_assoc]
  rw[e16]at t16;have uu2:UP (λx=>x<n+3/\x≠n+1) h10 (n8+1) Sy n15:=UP.wk (P:=λx=>(λx=>x<n+3/\x≠n+1) x\/x=n8) (UX.trans (UX.trans (UX.trans (UX.trans Sv wK) Ii) Sw) u15) λx hx=>.inl hx;exact⟨rfl,rfl,_,⟨t16,(u8.trans (UX.up JG)).trans uu2,rfl⟩,by(repeat' (first|exact aR|refine aN rfl ?_))⟩
 rintro h3 n3 G ⟨t3,rG,rfl⟩;rw[List.take_length]at t3;obtain⟨v,r1,r2,r3⟩:=t3.ex;have hcb:TK h3 (some v)=some (.s (z8 p)):=Gr.KI r2;simp (disch:=omega) only[go_sem,simprocAttr,r1,hcb];exact hQ _ _ (Qu rG)
end
end
end
section
noncomputable section
section
variable {h h':AH} {n n':Nat} {Q:AV->AH->Nat->Prop} {tv:TS} {p:aP}
theorem Iz{P:Program}{ty:TypeId}{a b:List UInt8}(hl:a.length+b.length<=1048576):(dY P ty .add).run (.s a) (.s b)=some (.s (a++b)):=by
 show bc (Nat.ble (Nat.add (mM a) (mM b)) 1048576) (some (AV.s (CK a b))) none=_;rw[eF,eF,Nat.ble_eq_true_of_le (by show a.length+b.length<=_;exact hl),bD,iK]
theorem NJ(pb:PB p):(z8 p).length<=50000:=by
 have lh:=pb.lh;have lu:=pb.lu;have lm:=pb.lm;have h1:=ig (f:=wr) eu p.st.ah;have h2:=ig (f:=wM) qE p.st.used;have h3:=ig (f:=mkK) Iy p.st.marks;have h4:=qE p.own;have h5:=eu p.st.day;unfold z8;simp only[List.length_append];omega
theorem JW(K:Nat){u:Nat}(hu:u<100)(hQ:∀h' n',Up h n h' n'->Q (.s (dec u)) h' n'):CW (EF (K+2)) 254 [.i .i64 (u:Nat),.i .i64 10] h n Q:=by
 refine aD aeZ rfl ?_;have hd0:decide ((0:Int)<=(u:Int))=true:=decide_eq_true (by omega);have hd:decide ((u:Int)<100)=true:=decide_eq_true (by omega);repeat' (first|(simp (disch:=omega) only[go_sem,simprocAttr,ub.old,UY,Int.reduceEq,hd0,hd,pQ])|(simp (disch:=omega) only[go_sem,simprocAttr,UY,Int.reduceEq,hd0,hd,pQ])|(refine aT ?_ ?_<;>(intro hb hd;rw[hb];clear hb))|(with_reducible refine aj ?_))
 rw[aU];refine D6 _ hu λh2 n2 u2=>?_;repeat' (first|(simp (disch:=omega) only[go_sem,simprocAttr,ub.old])|(simp (disch:=omega) only[go_sem,simprocAttr])|(refine aT ?_ ?_<;>(intro hb hd;rw[hb];clear hb))|(with_reducible refine aj ?_))
 exact hQ _ _ u2
theorem QK(K:Nat){u:Nat}(hu:u<100)(hQ:∀h' n',Up h n h' n'->Q (.s (dec u)) h' n'):CW (EF (K+4)) 117 [.i .i64 (u:Nat)] h n Q:=by
 refine aD c117 rfl ?_;simp (disch:=omega) only[go_sem,simprocAttr,Y_];rw[aU];refine aD ae0 rfl ?_;simp (disch:=omega) only[go_sem,simprocAttr,Y9];rw[aU];refine JW _ hu λh2 n2 u2=>?_;simp (disch:=omega) only[go_sem,simprocAttr];exact hQ _ _ u2
def lJ(u:Nat)(p:aP):List UInt8:=dec u++[58]++z8 p
theorem JX{C:aA}{u:Nat}{p q:aP}(hp:aM C p.st)(hq:aM C q.st)(h:lJ u p=lJ u q):p=q:=
 QJ hp hq (List.append_cancel_left h)
theorem pW(K:Nat){u b11:Nat}(hu:u<100)(hb:h.get b11=some (.row 3 [.i .i64 (u:Nat)]))(hn:b11<n)(hS:bX h n tv p.st)(pb:PB p)(hQ:∀h' n',Up h n h' n'->Q (.s (lJ u p)) h' n'):CW (EF (K+8)) 116 [.agg (tv.pv p),.p b11 0] h n Q:=by
 refine aD c116 rfl ?_;repeat' (first|(simp (disch:=omega) only[go_sem,simprocAttr,ub.old,Vm,hb])|(simp (disch:=omega) only[go_sem,simprocAttr,Vm,hb])|(refine aT ?_ ?_<;>(intro hb hd;rw[hb];clear hb))|(with_reducible refine aj ?_))
 rw[bR];refine QK _ hu λh2 n2 u2=>?_;have e2:=u2.le;have dl:=xK u;have kl:=NJ pb;have q2:h2.get n=some (.row 45 (tv.pv p)):=by rw[u2.old _ (by omega)];exact aG
 have e1:∀P ty,(dY P ty .add).run (.s (dec u)) (.s [58])=some (.s (dec u++[58])):=λP ty=>Iz (by simp;omega);have e3:∀P ty,(dY P ty .add).run (.s (dec u++[58])) (.s (z8 p))=some (.s (dec u++[58]++z8 p)):=λP ty=>Iz (by simp;omega);repeat' (first|(simp (disch:=omega) only[go_sem,simprocAttr,ub.old,e1,q2])|(simp (disch:=omega) only[go_sem,simprocAttr,e1,q2])|(refine aT ?_ ?_<;>(intro hb hd;rw[hb];clear hb))|(with_reducible refine aj ?_))
 rw[bR];refine Vr _ (hS.up aI) pb λh3 n3 u3=>?_;repeat' (first|(simp (disch:=omega) only[go_sem,simprocAttr,ub.old,e3,q2])|(simp (disch:=omega) only[go_sem,simprocAttr,e3,q2])|(refine aT ?_ ?_<;>(intro hb hd;rw[hb];clear hb))|(with_reducible refine aj ?_))
 exact hQ _ _ aI
end
end
end
section
noncomputable section
@[reducible] def Wx (x:TS×aH):List AV:=x.1.av x.2
@[reducible] def rA (cv sv tv dv:AV):List AV:=[cv,sv,tv,dv]
section
variable {h h':AH} {n n':Nat} {Q:AV->AH->Nat->Prop} {v:CS} {C:aA} {cv sv tv dv:AV} {fq:List (TS×aH)}
theorem pX(K:Nat)(hs:SL h n 4 sv Wx fq){k:Nat}{x:TS×aH}(hk:fq[k]?=some x)(hQ:∀h' n',Up h n h' n'->Q (.agg (x.1.pv ⟨x.2,true⟩)) h' n'):CW (EF (K+1)) 90 [.agg (rA cv sv tv dv),.i .i64 (k:Nat)] h n Q:=by
 have hkl:=(List.getElem?_eq_some_iff.1 hk).1;obtain⟨b1,o1,y,i1,hy,hb1,rd⟩:=hs.gD (k:=(k:Nat)) (by omega) (by omega) (by omega);rw[show((k:Nat):Int).toNat=k by omega,hk]at hy;cases hy
 refine aD c90 rfl ?_;repeat' (first|(simp (disch:=omega) only[go_sem,simprocAttr,m90,rA,aK i1,rd.all,TS.av])|(refine aT ?_ ?_<;>(intro hb hd;rw[hb];clear hb))|(with_reducible refine aj ?_))
 exact hQ _ _ aI
theorem NK(K:Nat)(hC:aY h n v C)(ho:C.off.length<=1000000){party:Int}(hQ:∀h' n',Up h n h' n'->Q (.b (C.valid&&(decide (0<=party)&&decide (party<C.aC)))) h' n'):CW (EF (K+7)) 31 [.agg (v.av C),.i .i64 party] h n Q:=by
 refine aD c31 rfl ?_;repeat' (first|(simp (disch:=omega) only[go_sem,simprocAttr,ub.old,m31,CS.av])|(simp (disch:=omega) only[go_sem,simprocAttr,m31,CS.av])|((first|rw[aU]|rw[bR]);with_reducible refine pK _ (hC.up aI) ho λ_ h2 n2 u2=>?_;(first|replace ub:=Up.trans ub (Up.trans aI u2)|have ub:=u2);have hle:=ub.le;clear u2)|(refine aT ?_ ?_<;>(intro hb hd;rw[hb];clear hb))|(with_reducible refine aj ?_))
 .have hv:=(mE C).1 (by assumption)
  rw[hv,decide_eq_true hd,Bool.true_and,Bool.true_and]at hQ;exact hQ _ _ aI
 .rw[decide_eq_false hd,Bool.false_and,Bool.and_false]at hQ
  exact hQ _ _ aI
 .have hv:C.valid=false:=by
   cases hv:C.valid with
   |false=>rfl
   |true=>exact absurd ((mE C).2 hv) hd
  rw[hv,Bool.false_and]at hQ;exact hQ _ _ aI
@[reducible] def jA (party:Int) (s l sh d:Nat) (bg:Bool) (r:List AV):List AV:=[.i .i64 party,.m s,.m l,.m sh,.m d,.b bg]++r
theorem Ec(K:Nat){party:Int}(hQ:∀j s l sh d h' n',Up h n h' n'->h'.get j=some (.row 136 [.i .i64 party,.m s,.m l,.m sh,.m d,.b false,.i .i64 0,.i .i64 0,.i .i64 0])->uh h' s AV.s []->uh h' l (λi:Int=>AV.i .i64 i) []->n<=j/\n<=s/\n<=l->j<n'/\s<n'/\l<n'->j≠s/\j≠l/\s≠l->Q (.p j 0) h' n'):CW (EF (K+1)) 33 [.i .i64 party] h n Q:=by
 refine aD c33 rfl ?_;repeat' (first|(simp (disch:=omega) only[go_sem,simprocAttr,m33])|(refine aT ?_ ?_<;>(intro hb hd;rw[hb];clear hb))|(with_reducible refine aj ?_))
 refine hQ (n+1+1+1+1) n (n+1) (n+1+1) (n+1+1+1) _ _ aI aG ?_ ?_ ⟨by omega,by omega,by omega⟩ ⟨by omega,by omega,by omega⟩ ⟨by omega,by omega,by omega⟩
 .exact⟨[],0,by simp (disch:=omega) only[go_sem],rfl⟩
 .exact⟨[],0,by simp (disch:=omega) only[go_sem],rfl⟩
end
end
end
noncomputable section
set_option maxRecDepth 1000000
set_option maxHeartbeats 4000000
def Gh:MC:=(.seq (.reg [nl (.jc 1 (.s 68) (.s 70)),nl (.ld none (.v 0)),nk 16 (.mv (.v 0))]) (.seq (.reg [nl (.mv (.s 10)),nl (.mv (.s 16)),nl (.look 3 (some (.i .i64 0)) (.v 1) (.v 0) true),nl (.mv (.v 0)),nl (.ext (.v 0) 0),nl (.ext (.v 1) 1),nk 17 (.mv (.v 1)),nk 18 (.mv (.v 0))]) (.seq (.reg [nk 80 (.mv (.s 18))]) (.cond (.s 80) (.reg [nl (.mv (.s 8)),nl (.mv (.s 17)),nl (.mv (.s 11)),nl (.call (.v 2) [(.v 1),(.v 0)])]) (.reg [nl (.mv (.s 10)),nl (.mv (.s 16)),nl (.mv (.s 11)),⟨none,(.upd 3 (.v 2) (.v 1) (.v 0)),.n⟩])))))
def Gi:MC:=(.seq (.reg [nl (.jc 2 (.s 55) (.s 57)),nl (.ld (some 2) (.v 0)),nk 14 (.al 191 [(.i .i64 0),(.i .i64 0)]),⟨none,(.st 2 (.s 14) (.v 0)),.n⟩]) (.reg [nl (.mv (.s 8)),nl (.mv (.s 11)),nl (.fa 0 (.s 14)),nl (.ld none (.v 0)),nl (.call (.v 3) [(.v 2),(.v 0)])]))
def Ct:MC:=(.seq (.reg [nl (.mv (.s 45)),nl (.jc 16 (.s 43) (.s 45)),nl (.ld (some 16) (.v 0)),nk 12 (.al 112 [(.i .i64 0),(.i .i64 0),(.i .i64 0),(.i .i64 0),(.k 1),(.i .i64 0),(.i .i64 0),(.b false),(.b false),(.i .i64 0),(.i .i64 0),(.i .i64 0),(.i .i64 0),(.i .i64 0),(.i .i64 0),(.b false)]),nk 11 (.mv (.v 2)),⟨none,(.st 16 (.s 12) (.v 0)),.n⟩]) (.seq (.seq (.reg [nk 50 (.mv (.s 9))]) (.cond (.s 50) (.reg [nl (.mv (.s 8)),nl (.mv (.s 11)),nl (.call (.v 1) [(.c (.i .i64 0)),(.v 0)])]) .skip)) (.seq (.seq (.reg [nl (.fa 4 (.s 12)),nk 55 (.ld none (.v 0)),nk 56 (.iE (.s 55)),nk 57 (.mv (.c (.i .i64 0)))]) (.blk 4 (zW 3 57 56 58 4 5 Gi))) (.seq (.reg [nl (.ld (some 16) (.s 12)),nk 68 (.call (.c (.f 227 [])) [(.v 0)]),nk 69 (.iE (.s 68)),nk 70 (.mv (.c (.i .i64 0)))]) (.blk 6 (zW 3 70 69 71 6 7 Gh))))))
def NM:MC:=(.seq (.reg [nl (.mv (.s 29)),nk 6 (.mv (.v 0))]) (.reg [nl (.mv (.s 6)),nl (.mv (.s 6)),nl (.Pg 1 400 (.s 5) (.v 1)),⟨none,(.st 1 (.v 0) (.v 1)),.n⟩]))
def ZU:MC:=(.seq (.reg [nk 1 (.box 27 7 (.s 0)),nk 2 (.mv (.c (.k 1)))]) (.seq (.seq (.reg [nl (.ld (some 7) (.s 1)),nl (.call (.c (.f 44 [])) [(.v 0)]),nl (.mv (.v 0)),nl (.ext (.v 0) 0),nl (.ext (.v 1) 1),nk 3 (.mv (.v 1)),nl (.mv (.v 0))]) (.seq (.reg [nl (.mv (.s 3)),nk 25 (.bin .neq 31 (.v 0) (.c (.i .i64 0)))]) (.cond (.s 25) (.seq (.reg [nk 2 (.mv (.c (.k 1)))]) .ret) .skip))) (.seq (.reg [nk 5 (.al 347 (rep 400 [(.i .i64 0)]))]) (.seq (.seq (.reg [nl (.fa 4 (.s 1)),nl (.ld none (.v 0)),nk 28 (.iE (.v 0)),nk 29 (.mv (.c (.i .i64 0)))]) (.blk 0 (zW 3 29 28 30 0 1 NM))) (.seq (.reg [nk 7 (.al 348 [(.k 3)])]) (.seq (.reg [nl (.HV 223 [(.s 5),(.s 7)]),⟨none,(.st 1 (.s 7) (.v 0)),.n⟩]) (.seq (.reg [nl (.HV 224 [(.s 7),(.s 5)]),nk 8 (.mv (.v 0))]) (.seq (.reg [nl (.fa 3 (.s 1)),nl (.ld none (.v 0)),nl (.call (.c (.f 225 [])) [(.v 0),(.c (.f 226 []))]),nk 9 (.mv (.v 0))]) (.seq (.reg [nl .LA,nk 10 (.mv (.v 0))]) (.seq (.seq (.reg [nl (.fa 4 (.s 1)),nk 43 (.ld none (.v 0)),nk 44 (.iE (.s 43)),nk 45 (.mv (.c (.i .i64 0)))]) (.blk 2 (zW 3 45 44 46 2 3 Ct))) (.seq (.reg [nl (.fa 4 (.s 1)),nl (.ld none (.v 0)),nl (.iE (.v 0)),nl (.ld none (.s 7)),nl (.call (.c (.f 228 [])) [(.v 1),(.v 0)]),nk 2 (.mv (.v 0))]) .ret)))))))))))
theorem c130:yC Tryz.prog sl0 130=some ([true],ZU,[(.t 2)]):=by kernel_rfl
def NP:MC:=(.seq (.reg [nl (.mv (.s 85)),nk 15 (.mv (.v 0))]) (.seq (.reg [nl (.mv (.s 1)),nl (.fa 4 (.s 14)),nl (.ld none (.v 0)),nl (.mv (.s 15)),nl (.jc 2 (.v 1) (.v 0)),nl (.fa 0 (.v 0)),nl (.ld none (.v 0)),nl (.call (.c (.f 99 [])) [(.v 6),(.v 0)]),nl (.mv (.v 0)),nl (.ext (.v 0) 0),nl (.ext (.v 1) 1),nk 16 (.mv (.v 1)),nk 17 (.mv (.v 0))]) (.seq (.seq (.reg [nl (.mv (.s 17)),nk 100 (.not (.v 0))]) (.cond (.s 100) (.seq (.reg [nl (.Hz [(.i .i64 0),(.k 1),(.k 1),(.k 1),(.k 1),(.i .i64 0),(.k 1)] []),⟨none,(.st 7 (.s 4) (.v 0)),.n⟩,nk 5 (.mv (.c (.i .i64 1)))]) .ret) .skip)) (.reg [nl (.fa 4 (.s 14)),nl (.ld none (.v 0)),nl (.mv (.s 15)),nl (.mv (.s 16)),nl (.jc 2 (.v 2) (.v 1)),nl (.fa 0 (.v 0)),⟨none,(.st 1 (.v 0) (.v 2)),.n⟩]))))
def Gj:MC:=(.seq (.reg [nl (.mv (.s 68)),nl (.jc 1 (.s 66) (.s 68)),nl (.ld none (.v 0)),nk 12 (.mv (.v 2)),nk 13 (.mv (.v 0))]) (.seq (.reg [nl (.fa 4 (.s 2)),nl (.ld none (.v 0)),nl (.mv (.s 13)),nl (.jc 16 (.v 1) (.v 0)),nl (.ld (some 16) (.v 0)),nk 14 (.al 112 [(.i .i64 0),(.i .i64 0),(.i .i64 0),(.i .i64 0),(.k 1),(.i .i64 0),(.i .i64 0),(.b false),(.b false),(.i .i64 0),(.i .i64 0),(.i .i64 0),(.i .i64 0),(.i .i64 0),(.i .i64 0),(.b false)]),⟨none,(.st 16 (.s 14) (.v 0)),.n⟩]) (.seq (.reg [nl (.fa 4 (.s 14)),nl (.ld none (.v 0)),nl (.call (.c (.f 71 [])) [(.v 0)]),nl (.fa 4 (.s 14)),⟨none,(.st 1 (.v 0) (.v 1)),.n⟩]) (.seq (.seq (.reg [nl (.fa 4 (.s 14)),nl (.ld none (.v 0)),nk 84 (.iE (.v 0)),nk 85 (.mv (.c (.i .i64 0)))]) (.blk 4 (zW 3 85 84 86 4 5 NP))) (.reg [nl (.fa 4 (.s 11)),nl (.ld none (.v 0)),nl (.mv (.s 12)),nl (.ld (some 16) (.s 14)),nl (.jc 16 (.v 2) (.v 1)),⟨none,(.st 16 (.v 0) (.v 1)),.n⟩])))))
def Gl:MC:=(.seq (.reg [nl (.jc 1 (.s 26) (.s 28)),nl (.ld none (.v 0)),nk 10 (.mv (.v 0))]) (.seq (.seq (.reg [nl (.mv (.s 10)),nl (.mv (.s 8)),nl (.bin .leq 3 (.v 1) (.v 0)),nl (.mv (.v 0)),ng 0 false (.mv (.s 10)),ng 1 false (.fa 4 (.s 2)),ng 2 false (.ld none (.v 0)),ng 3 false (.iE (.v 0)),ng 4 false (.bin .geq 3 (.v 3) (.v 0)),nk 41 (.pick (.v 5) (.c (.b true)) (.v 0))]) (.cond (.s 41) (.seq (.reg [nl (.Hz [(.i .i64 0),(.k 1),(.k 1),(.k 1),(.k 1),(.i .i64 0),(.k 1)] []),⟨none,(.st 7 (.s 4) (.v 0)),.n⟩,nk 5 (.mv (.c (.i .i64 1)))]) .ret) .skip)) (.reg [nl (.mv (.s 10)),nk 8 (.mv (.v 0))])))
def ZV:MC:=(.seq (.reg [nk 2 (.box 27 7 (.s 0)),nk 4 (.al 27 [(.i .i64 0),(.k 1),(.k 1),(.k 1),(.k 1),(.i .i64 0),(.k 1)]),nk 5 (.mv (.c (.i .i64 0)))]) (.seq (.seq (.reg [nl (.ld (some 7) (.s 2)),nl (.call (.c (.f 44 [])) [(.v 0)]),nl (.mv (.v 0)),nl (.ext (.v 0) 0),nl (.ext (.v 1) 1),nk 6 (.mv (.v 1)),nl (.mv (.v 0))]) (.seq (.reg [nl (.mv (.s 6)),nk 24 (.bin .neq 31 (.v 0) (.c (.i .i64 0)))]) (.cond (.s 24) (.seq (.reg [nl (.Hz [(.i .i64 0),(.k 1),(.k 1),(.k 1),(.k 1),(.i .i64 0),(.k 1)] []),⟨none,(.st 7 (.s 4) (.v 0)),.n⟩,nk 5 (.mv (.c (.i .i64 1)))]) .ret) .skip))) (.seq (.reg [nk 8 (.mv (.c (.i .i64 (.negSucc 0))))]) (.seq (.seq (.reg [nk 26 (.mv (.s 1)),nk 27 (.iE (.s 26)),nk 28 (.mv (.c (.i .i64 0)))]) (.blk 0 (zW 3 28 27 29 0 1 Gl))) (.seq (.reg [nl (.ld (some 7) (.s 2)),nk 11 (.al 27 [(.i .i64 0),(.k 1),(.k 1),(.k 1),(.k 1),(.i .i64 0),(.k 1)]),⟨none,(.st 7 (.s 11) (.v 0)),.n⟩]) (.seq (.reg [nl (.fa 1 (.s 2)),nl (.ld none (.v 0)),nl (.call (.c (.f 45 [])) [(.v 0)]),nl (.fa 1 (.s 11)),⟨none,(.st 1 (.v 0) (.v 1)),.n⟩]) (.seq (.reg [nl (.fa 2 (.s 2)),nl (.ld none (.v 0)),nl (.call (.c (.f 68 [])) [(.v 0)]),nl (.fa 2 (.s 11)),⟨none,(.st 1 (.v 0) (.v 1)),.n⟩]) (.seq (.reg [nl (.fa 3 (.s 2)),nl (.ld none (.v 0)),nl (.call (.c (.f 69 [])) [(.v 0)]),nl (.fa 3 (.s 11)),⟨none,(.st 1 (.v 0) (.v 1)),.n⟩]) (.seq (.reg [nl (.fa 6 (.s 2)),nl (.ld none (.v 0)),nl (.call (.c (.f 45 [])) [(.v 0)]),nl (.fa 6 (.s 11)),⟨none,(.st 1 (.v 0) (.v 1)),.n⟩]) (.seq (.reg [nl (.mv (.s 1)),nl (.iE (.v 0)),nl (.Jh 112 [(.i .i64 0),(.i .i64 0),(.i .i64 0),(.i .i64 0),(.k 1),(.i .i64 0),(.i .i64 0),(.b false),(.b false),(.i .i64 0),(.i .i64 0),(.i .i64 0),(.i .i64 0),(.i .i64 0),(.i .i64 0),(.b false)] (.v 0) (.v 0)),nl (.fa 4 (.s 11)),⟨none,(.st 1 (.v 0) (.v 1)),.n⟩]) (.seq (.seq (.reg [nk 66 (.mv (.s 1)),nk 67 (.iE (.s 66)),nk 68 (.mv (.c (.i .i64 0)))]) (.blk 2 (zW 3 68 67 69 2 3 Gj))) (.seq (.reg [nl (.ld (some 7) (.s 11)),⟨none,(.st 7 (.s 4) (.v 0)),.n⟩,nk 5 (.mv (.c (.i .i64 0)))]) .ret))))))))))))
theorem c131:yC Tryz.prog sl0 131=some ([true,true],ZV,[(.c 4 (some 7)),(.t 5)]):=by kernel_rfl
def Cu:MC:=(.seq (.reg [nl (.mv (.s 11)),nk 7 (.mv (.v 0))]) (.seq (.reg [nl (.mv (.s 1)),nl (.mv (.s 7)),nl (.call (.v 1) [(.v 0)]),nk 8 (.mv (.v 0))]) (.seq (.seq (.reg [nl (.mv (.s 8)),nl (.mv (.s 7)),nk 19 (.bin .eql 3 (.v 1) (.v 0))]) (.cond (.s 19) (.seq (.reg [nl (.mv (.s 6)),nl (.mv (.s 7)),nl (.mv (.s 5)),nl (.iE (.v 0)),⟨none,(.upd 3 (.v 3) (.v 2) (.v 0)),.n⟩]) (.reg [nl (.mv (.s 5)),nl (.KH 22 1 [(.k 1)] [(0,(1,(.c (.k 1))))]),nl (.app 22 1 (.v 1) (.v 0)),nk 5 (.mv (.v 0))])) .skip)) (.Aj 2 [mq 0 [] (.mv (.s 5)),mq 0 [] (.mv (.s 6)),mq 0 [] (.mv (.s 8)),mq 1 [1,2] (.look 3 (some (.i .i64 0)) (.v 0) (.v 1) false),mq 0 [] (.mv (.s 5)),mq 0 [] (.mv (.s 6)),mq 0 [] (.mv (.s 8)),mq 1 [5,6] (.look 3 (some (.i .i64 0)) (.v 0) (.v 1) false),mq 0 [4,7] (.jc 1 (.v 0) (.v 1)),mq 1 [8] (.ld none (.v 0)),mq 0 [] (.mv (.s 7)),mq 2 [10] (.KH 3 1 [(.i .i64 0)] [(0,(1,(.v 0)))]),mq 3 [9,11] (.app 3 1 (.v 0) (.v 1)),mq 0 [0,3] (.jc 1 (.v 0) (.v 1)),mq 3 [12,13] (.st 1 (.v 1) (.v 0))] [(3,13)] []))))
def Vs:MC:=(.seq (.reg [nk 4 (.mv (.c (.k 1)))]) (.seq (.reg [nk 5 (.mv (.c (.k 1)))]) (.seq (.reg [nl .LA,nk 6 (.mv (.v 0))]) (.seq (.seq (.reg [nk 10 (.mv (.s 0)),nk 11 (.mv (.c (.i .i64 0)))]) (.blk 0 (zW 3 11 10 12 0 1 Cu))) (.seq (.reg [nl (.mv (.s 5)),nk 4 (.mv (.v 0))]) .ret)))))
theorem c228:yC Tryz.prog sl0 228=some ([true,true],Vs,[(.t 4)]):=by kernel_rfl
def m5:MC:=vF 5
def c5:=vT 5 m5
def m12:MC:=vF 12
def c12:=vT 12 m12
def m19:MC:=vF 19
def c19:=vT 19 m19
def m38:MC:=vF 38
def c38:=vT 38 m38
def Wy:MC:=vF 72
def c72:=vT 72 Wy
def m73:MC:=vF 73
def c73:=vT 73 m73
def Vt:MC:=vF 132
def afW:=vT 132 Vt
def QL:MC:=vF 223
def afX:=vT 223 QL
def Vu:MC:=vF 224
def afY:=vT 224 Vu
def ZW:MC:=vF 225
def afZ:=vT 225 ZW
def ZX:MC:=vF 226
def c226:=vT 226 ZX
def Vv:MC:=vF 227
def c227:=vT 227 Vv
def ZY:MC:=vF 262
def af0:=vT 262 ZY
end
end Go.Proofs.YtjoohkjmoghmoaaGreatDoor

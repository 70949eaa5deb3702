/- part -/
import Derived.Test.YtjoohkjmoghmoaaGreatDoorP18
import Derived.Shelf.Strconv.Itoa1
set_option linter.all false
namespace Go.Proofs.YtjoohkjmoghmoaaGreatDoor
section
noncomputable section
section
variable {h h':AH} {n n':Nat} {Q:AV->AH->Nat->Prop} {C:aA} {v:CS} {l:List Int}
@[reducible] def csC (C:aA) (w:CS):List AV:=w.av C
def wX(st:LoopState)(pd:Option Code)(t:Tr AV):AO:=.lp st pd 11 t [61,62] (jF 11 0) (jG 11 0)
structure KC(C:aA)(h0:AH)(n0 cb sb L:Nat)(A:HP)(P X:Nat->Prop)(h:AH)(m:Nat)(cv sv:AV)(vs:List CS)(fA:List (TS×aI)):Prop where
 c:h.get cb=some (.row 34 [cv])
 s:h.get sb=some (.row 35 [sv])
 gc:Gr h m 27 7 cv (csC C) vs
 gs:Gr h m 43 4 sv WV fA
 ln:vs.length=fA.length
 bc:∀x,blk cv x->X x
 bs:∀x,blk sv x->X x
 kc:Kp (λx=>X x\/(P x\/x<n0)) h m (λh n=>∀w∈vs,aZ h n w C)
 ks:Kp (λx=>X x\/(P x\/x<n0)) h m (λh n=>∀x∈fA,cZ h n x.1 x.2)
 Xc:X cb
 Xs:X sb
 XL:X L
 Xr:∀x,n0<x->x<n0+4->X x
 Ln:n0+4<=L
 xs:∀x,X x->x<m/\¬P x/\n0<x
 r1:h.get (n0+1)=some (.row 34 [.k 1])
 r2:h.get (n0+1+1)=some (.row 35 [.k 1])
 r3:h.get (n0+1+1+1)=some (.row 31 [.i .i64 0])
 old:∀x,x<n0->h.get x=h0.get x
 le:n0+4<=m
 ps:∀x,P x->n0+4<=x/\x<m
 a:Kp (λx=>X x\/P x) h m A
def Tp(C:aA)(h0:AH)(n0 cb sb L:Nat)(t:Tr AV)(A:HP)(P X:Nat->Prop)(h:AH)(m:Nat)(S:List aI):Prop:=
 ∃cv sv vs fA,KC C h0 n0 cb sb L A P X h m cv sv vs fA/\fA.map (·.2)=S/\h.get L=some (wX .ready none t)
def RuE(C:aA)(l:List Int)(h0:AH)(n0 L:Nat)(t:Tr AV)(h:AH)(m:Nat):Prop:=∃e:Int,e≠0/\h.get L=some (wX .done (some .ret) t)/\h.get (n0+1)=some (.row 34 [.k 1])/\h.get (n0+1+1)=some (.row 35 [.k 1])/\h.get (n0+1+1+1)=some (.row 31 [.i .i64 e])/\(∀x,x<n0->h.get x=h0.get x)/\n0+4<=m/\n0+4<=L/\¬∃S',f_ C C.first l S'
theorem wY(hv:C.valid=true):C.units.length<=20:=by
 unfold aA.valid aA.over at hv;simp only[Bool.and_eq_true,Bool.not_eq_true',Bool.or_eq_false_iff,decide_eq_false_iff_not]at hv;omega
section
variable {h0:AH} {n0 cb sb L:Nat} {t:Tr AV} {A:HP} {P X:Nat->Prop} {S:List aI} {cv sv:AV} {vs:List CS} {fA:List (TS×aI)}
theorem KC.up(a:KC C h0 n0 cb sb L A P X h n cv sv vs fA)(u:Up h n h' n'):KC C h0 n0 cb sb L A P X h' n' cv sv vs fA:=by
 have le:=a.le;have ul:=u.le;exact⟨(u.old _ (a.xs _ a.Xc).1).trans a.c,(u.old _ (a.xs _ a.Xs).1).trans a.s,a.gc.up u,a.gs.up u,a.ln,a.bc,a.bs,a.kc.up u,a.ks.up u,a.Xc,a.Xs,a.XL,a.Xr,a.Ln,λx hx=>⟨by have:=(a.xs x hx).1;omega,(a.xs x hx).2⟩,
  (u.old _ (by omega)).trans a.r1,(u.old _ (by omega)).trans a.r2,(u.old _ (by omega)).trans a.r3,λx hx=>(u.old x (by omega)).trans (a.old x hx),by omega,λx hx=>⟨(a.ps x hx).1,by have:=(a.ps x hx).2;omega⟩,a.a.up u⟩
theorem KC.set(a:KC C h0 n0 cb sb L A P X h n cv sv vs fA){b:Nat}(o:AO)(hb:X b\/P b)(h1:b≠cb)(h2:b≠sb)(h3:¬blk cv b)(h4:¬blk sv b)(nb:n0+4<=b):KC C h0 n0 cb sb L A P X (h.set b o) n cv sv vs fA:=by
 exact⟨(ay (Ne.symm h1)).trans a.c,(ay (Ne.symm h2)).trans a.s,a.gc.on (Nat.le_refl _) λx _ hx=>ay λe=>h3 (by rw[<-e];exact hx),a.gs.on (Nat.le_refl _) λx _ hx=>ay λe=>h4 (by rw[<-e];exact hx),a.ln,a.bc,a.bs,a.kc.set (.inl (hb.imp id .inl)) (Nat.le_refl _),a.ks.set (.inl (hb.imp id .inl)) (Nat.le_refl _),a.Xc,a.Xs,a.XL,a.Xr,a.Ln,a.xs,
  (ay (by omega)).trans a.r1,(ay (by omega)).trans a.r2,(ay (by omega)).trans a.r3,λx hx=>(ay (by omega)).trans (a.old x hx),a.le,a.ps,a.a.set (.inl hb) (Nat.le_refl _)⟩
theorem KC.pv(a:KC C h0 n0 cb sb L A P X h n cv sv vs fA){b:Nat}(o:AO)(hb:P b):KC C h0 n0 cb sb L A P X (h.set b o) n cv sv vs fA:=by
 have ne:∀x,X x->b≠x:=λx hx e=>(a.xs x hx).2.1 (by rw[<-e];exact hb);exact a.set o (.inr hb) (ne _ a.Xc) (ne _ a.Xs) (λe=>ne _ (a.bc _ e) rfl) (λe=>ne _ (a.bs _ e) rfl) (a.ps b hb).1
theorem KC.JU(a:KC C h0 n0 cb sb L A P X h n cv sv vs fA){st:LoopState}{pd:Option Code}{t:Tr AV}(hL:h.get L=some (wX st pd t))(o:AO):KC C h0 n0 cb sb L A P X (h.set L o) n cv sv vs fA:=by
 refine a.set o (.inl a.XL) (λe=>?_) (λe=>?_) (λe=>?_) (λe=>?_) a.Ln
 .have:=a.c;rw[<-e,hL]at this;cases this
 .have:=a.s;rw[<-e,hL]at this;cases this
 .obtain⟨_,e'⟩:=a.gc.ty e;rw[hL]at e';cases e'
 .obtain⟨_,e'⟩:=a.gs.ty e;rw[hL]at e';cases e'
theorem Tp.up(a:Tp C h0 n0 cb sb L t A P X h n S)(u:Up h n h' n'):Tp C h0 n0 cb sb L t A P X h' n' S:=by
 obtain⟨cv,sv,vs,fA,a,e,l⟩:=a;exact⟨cv,sv,vs,fA,a.up u,e,(u.old _ (a.xs _ a.XL).1).trans l⟩
theorem Tp.pv(a:Tp C h0 n0 cb sb L t A P X h n S){b:Nat}(o:AO)(hb:P b):Tp C h0 n0 cb sb L t A P X (h.set b o) n S:=by
 obtain⟨cv,sv,vs,fA,a,e,l⟩:=a;exact⟨cv,sv,vs,fA,a.pv o hb,e,(ay λe=>(a.xs _ a.XL).2.1 (by rw[e];exact hb)).trans l⟩
end
theorem Wd(K:Nat){tv:AV}{un:Int}(hC:aZ h n v C)(ho:C.off.length<=1000000)(hl:l.length<=100000)(hT:SL h n 1 tv iN l)
 (kD:C.valid=false->∀h' n',Up h n h' n'->Q (.bN [.k 1,.k 1,.i .i64 1]) h' n')
 (rQ:C.valid=true->4000<l.length->∀h' n',Up h n h' n'->Q (.bN [.k 1,.k 1,.i .i64 3]) h' n')
 (Iz:C.valid=true->l.length<=4000->(¬∃S,f_ C C.first l S)->∀e h' n',e≠0->Up h n h' n'->Q (.bN [.k 1,.k 1,.i .i64 e]) h' n')
 (Z6:C.valid=true->l.length<=4000->∀cv sv vs fA h' n',f_ C C.first l (fA.map (·.2))->vs.length=fA.length->Up h n h' n'->Kp (λx=>x<n) h' n' (λh n=>(SL h n 7 cv (csC C) vs/\SL h n 4 sv WV fA)/\(∀w∈vs,aZ h n w C)/\∀x∈fA,cZ h n x.1 x.2)->Q (.bN [cv,sv,.i .i64 0]) h' n'):
 CW (EF (K+11)) 11 [.agg (v.av C),.k 1,.i .i64 un,tv] h n Q:=by
 refine aD c11 rfl ?_;repeat' (first|(simp (disch:=omega) only[go_sem,simprocAttr,m11,CS.av])|(refine aR ?_ ?_<;>(intro hb hd;rw[hb];clear hb))|(with_reducible refine aj ?_))
 generalize hh:Tr.set (Tr.set (Tr.set (Tr.set h n _) (n+1) _) (n+1+1) _) (n+1+1+1) _=h0;have u0:Up h n h0 (n+4):=by rw[<-hh];exact aH
 have g0:h0.get n=some (.row 27 (v.av C)):=by rw[<-hh];simp (disch:=omega) only[go_sem]
 have g1:h0.get (n+1)=some (.row 34 [.k 1]):=by rw[<-hh];simp (disch:=omega) only[go_sem]
 have g2:h0.get (n+1+1)=some (.row 35 [.k 1]):=by rw[<-hh];simp (disch:=omega) only[go_sem]
 have g3:h0.get (n+1+1+1)=some (.row 31 [.i .i64 0]):=by rw[<-hh];simp (disch:=omega) only[go_sem]
 clear hh;rw[aU];show CW _ 17 _ h0 (n+4) _;refine zG _ (hC.up u0) ho (λhv h1 n1 u1=>?_) λhv O1 h1 n1 u1 _=>?_
 .have e1:=u1.le
  have g11:=(u1.old _ (show n+1<n+4 by omega)).trans g1;have g21:=(u1.old _ (show n+1+1<n+4 by omega)).trans g2;have g31:=(u1.old _ (show n+1+1+1<n+4 by omega)).trans g3;simp (disch:=omega) only[go_sem,simprocAttr,SA,g11,g21,g31,Int.reduceEq];have ux:=u0.trans u1;exact kD hv _ _ aH
 .have e1:=u1.le
  have g01:=(u1.old _ (show n<n+4 by omega)).trans g0;have g11:=(u1.old _ (show n+1<n+4 by omega)).trans g1;have g21:=(u1.old _ (show n+1+1<n+4 by omega)).trans g2;have g31:=(u1.old _ (show n+1+1+1<n+4 by omega)).trans g3;have ux:=u0.trans u1;repeat' (first|(simp (disch:=omega) only[go_sem,simprocAttr,TS.av,A9,hT.len])|(refine aR ?_ ?_<;>(intro hb hd;rw[hb];clear hb))|(with_reducible refine aj ?_))
  .simp (disch:=omega) only[go_sem,simprocAttr,g11,g21,g31]
   exact rQ hv (by omega) _ _ aH
  generalize hh:Tr.set (Tr.set h1 n1 _) n1 _=h2;have u2:Up h1 n1 h2 (n1+1):=by rw[<-hh];exact aH
  clear hh;rw[aU];refine Ov (K+6) λob h3 n3 u3 _=>?_;have e3:=u3.le;simp (disch:=omega) only[go_sem,simprocAttr,Tm];refine bX 0 (λk hk nk G=>h3=hk/\n3=nk/\G=[(3,tv),(4,.p n 0),(8,.p (n+1) 0),(9,.p (n+1+1) 0),(10,.p (n+1+1+1) 0),(13,.k 1)]) (by omega) (by omega) (by omega) (by omega) (λk h8 n8 G ⟨_,_,e⟩=>by subst e;exact⟨rfl,rfl⟩) ⟨rfl,rfl,_,⟨rfl,rfl,rfl⟩,by(repeat' (first|exact aO|refine aN rfl ?_))⟩ (λk _ _ _ hk=>absurd hk (by omega)) ?_;rintro _ _ G ⟨rfl,rfl,rfl⟩;have IE:Up h1 n1 h3 n3:=u2.trans u3;have g03:=(IE.old _ (show n<n1 by omega)).trans g01;have g13:=(IE.old _ (show n+1<n1 by omega)).trans g11;have g23:=(IE.old _ (show n+1+1<n1 by omega)).trans g21;have g33:=(IE.old _ (show n+1+1+1<n1 by omega)).trans g31;have Iw:=ux.trans IE;simp (disch:=omega) only[go_sem,simprocAttr,g03,CS.av];generalize hh:Tr.set (Tr.set h3 n3 _) (n3+1) _=h4;have u4:Up h3 n3 h4 (n3+2):=by rw[<-hh];exact aH
  have c4:h4.get n3=some (.row 34 [.k 1]):=by rw[<-hh];simp (disch:=omega) only[go_sem]
  have s4:h4.get (n3+1)=some (.row 35 [.k 1]):=by rw[<-hh];simp (disch:=omega) only[go_sem]
  clear hh;rw[aU];show CW _ 36 [.agg (v.av C),.k 1,tv] h4 (n3+2) _;refine KA (K+9) (v:=v) (C:=C) (λcb lb tb h5 n5 u5 qc ql qt lc ll lt lc' ll' lt'=>?_) hT.cl;have e5:=u5.le;simp (disch:=omega) only[go_sem,simprocAttr];refine xR rfl λt hF=>?_;show CW _ 65 [.y n5,.p cb 0,.p lb 0,.p tb 0] _ _ _;refine G5 (K:=K) (v:=v) (C:=C) (l:=l) (cb:=cb) (lb:=lb) (tb:=tb) (tv:=tv) (yr:=n5) (J:=Tp C h n n3 (n3+1) n5 t (λh m=>V_ h m cb lb tb v C tv l)) (E:=RuE C l h n n5 t) hv ho hl ?_ ?_ ?_
  .have cL:∀y,y<n5->(Tr.set h5 n5 (AO.lp LoopState.ready none 11 t [61,62] (jF 11 0) (jG 11 0))).get y=h5.get y:=λy hy=>ay (by omega)
   have c45:=(u5.old n3 (by omega)).trans c4;have Zw:=(u5.old (n3+1) (by omega)).trans s4;have u35:=u4.trans u5;have U2:=Iw.trans u35;have u5L:Up h5 n5 (Tr.set h5 n5 (AO.lp LoopState.ready none 11 t [61,62] (jF 11 0) (jG 11 0))) (n5+1):=by exact aH
   have ok:=aA.ok hv;refine⟨λP X h n h' n' S a u=>a.up u,λP X h n S b o a hb=>a.pv o hb,λP X h n S a x hx=>let⟨_,_,_,_,a,_,_⟩:=a;⟨(a.xs x hx).1,(a.xs x hx).2.1⟩,λP X h n S a=>let⟨_,_,_,_,a,_,_⟩:=a;a.a.use,?_,?_,?_⟩
   .refine⟨λx=>x=n3\/x=n3+1\/x=n5\/n<x/\x<n+4,λx hx=>by omega,λP h6 n6 u6 hP=>?_⟩
    have e6:=u6.le;have G6:∀x,x<n5->h6.get x=h5.get x:=λx hx=>(u6.old x (by omega)).trans (cL x hx);refine⟨.k 1,.k 1,[],[],⟨(G6 _ (by omega)).trans c45,(G6 _ (by omega)).trans Zw,Gr.nil λ_=>rfl,Gr.nil λ_=>rfl,rfl,λx hx=>absurd hx eX,λx hx=>absurd hx eX,λ_ _ _ _ w hw=>(by cases hw),λ_ _ _ _ x hx=>(by cases hx),.inl rfl,.inr (.inl rfl),.inr (.inr (.inl rfl)),λx h1 h2=>.inr (.inr (.inr ⟨h1,h2⟩)),by omega,
     λx hx=>⟨by omega,λhp=>by have:=(hP x hp).1;omega,by omega⟩,(G6 _ (by omega)).trans ((u35.old _ (by omega)).trans g13),(G6 _ (by omega)).trans ((u35.old _ (by omega)).trans g23),(G6 _ (by omega)).trans ((u35.old _ (by omega)).trans g33),λx hx=>(G6 _ (by omega)).trans (U2.old x hx),by omega,λx hx=>⟨by have:=(hP x hx).1;omega,(hP x hx).2⟩,?_⟩,rfl,(u6.old n5 (by omega)).trans aG⟩
    intro h7 n7 l7 s7;have nx:∀x,x<n5->x≠n3->x≠n3+1->¬(n<x/\x<n+4)->h7.get x=h5.get x:=λx hx h1 h2 h3=>(s7 x (by omega) λe=>by
     rcases e with e|e
     .omega
     .have:=(hP x e).1;omega).trans (G6 x hx)
    have un:Up h n h7 n7:=⟨by omega,λx hx=>(nx x (by omega) (by omega) (by omega) (by omega)).trans (U2.old x hx)⟩;exact⟨(nx _ (by omega) (by omega) (by omega) (by omega)).trans qc,(nx _ (by omega) (by omega) (by omega) (by omega)).trans ql,(nx _ (by omega) (by omega) (by omega) (by omega)).trans qt,by omega,by omega,by omega,hC.up un,hT.up un⟩
   .rintro P X h6 n6 S s tq ⟨cv,sv,vs,fA,a,hSS,lp⟩ rt so kq
    have XL:=a.xs _ a.XL;have Xc:=a.xs _ a.Xc;have Xs:=a.xs _ a.Xs;have ale:=a.le;have hlen:fA.length<=100001:=by have:=rt.1;rw[<-hSS]at this;simp at this;omega
    refine RW.mono (uH (d:=19) (F:=_) (bs:=[true,true]) (R:=λb h2 n2=>∃X',b=true/\Tp C h n n3 (n3+1) n5 t (λh m=>V_ h m cb lb tb v C tv l) P X' h2 n2 (S++[s])/\n6<=n2/\(∀x,x<n6->¬X x->h2.get x=h6.get x)/\∀x,X' x->X x\/n6<=x) lp hF (by kernel_rfl) rfl NY NZ ?_) ?_
    .simp (disch:=omega) only[go_sem,simprocAttr,Gt,Qg,CS.av,TS.av,List.cons_append,List.nil_append]
     generalize hx:Tr.set (Tr.set h6 n6 _) n6 _=hA;have uA:Up h6 n6 hA (n6+1):=by rw[<-hx];exact aH
     have gA:hA.get n6=some (.row 121 [.i .i64 C.aC,v.h,v.u,v.a,v.k,.i .i64 C.days,v.o,.i .i64 s.day,tq.h,tq.u,tq.m]):=by rw[<-hx];exact aG
     clear hx;have lpA:=(uA.old n5 XL.1).trans lp;refine⟨_,_,_,_,_,_,lpA,?_⟩;have B7:=(a.up uA).JU lpA (.lp .busy none 11 t [61,62] (jF 11 0) (jG 11 0));have lp7:(hA.set n5 (.lp .busy none 11 t [61,62] (jF 11 0) (jG 11 0))).get n5=some (.lp .busy none 11 t [61,62] (jF 11 0) (jG 11 0)):=aG;have g7:(hA.set n5 (.lp .busy none 11 t [61,62] (jF 11 0) (jG 11 0))).get n6=some (.row 121 [.i .i64 C.aC,v.h,v.u,v.a,v.k,.i .i64 C.days,v.o,.i .i64 s.day,tq.h,tq.u,tq.m]):=by rw[ay (by omega)];exact gA
     have s67:∀x,x<n6->x≠n5->(hA.set n5 (.lp .busy none 11 t [61,62] (jF 11 0) (jG 11 0))).get x=h6.get x:=λx hx hne=>by rw[ay hne,uA.old x hx]
     generalize hA.set n5 _=h7 at*;have c7:=B7.c;have s7:=B7.s;repeat' (first|(simp (disch:=omega) only[go_sem,simprocAttr,Gu,g7,c7])|(refine aR ?_ ?_<;>(intro hb hd;rw[hb];clear hb))|(with_reducible refine aj ?_))
     rw[bQ];have A7:=(B7.up (Up.wide h7 (show n6+1<=n6+1+2 by omega))).a.use;refine CK (K+7) (v:=v) (A7.con) ok ho (by have:=wY hv;omega) λw h8 n8 u8 k8=>?_;have e8:=u8.le;have c8:=(u8.old _ (by omega)).trans c7;have g8:=(u8.old n6 (by omega)).trans g7;have lp8:=(u8.old n5 (by omega)).trans lp7;repeat' (first|(simp (disch:=omega) only[go_sem,simprocAttr,c8,c7])|(refine aR ?_ ?_<;>(intro hb hd;rw[hb];clear hb))|(with_reducible refine aj ?_))
     have u9:Up h7 (n6+1) (Tr.set h8 (n6+1) (.row 27 [.i .i64 C.aC,w.h,w.u,w.a,w.k,.i .i64 C.days,w.o])) n8:=⟨by omega,λx hx=>by rw[ay (by omega),u8.old x (by omega)]⟩;have B9:=B7.up u9;have k9:=k8.set (b:=n6+1) (o:=.row 27 [.i .i64 C.aC,w.h,w.u,w.a,w.k,.i .i64 C.days,w.o]) (.inl (by omega)) (Nat.le_refl _);have g9:(Tr.set h8 (n6+1) (.row 27 [.i .i64 C.aC,w.h,w.u,w.a,w.k,.i .i64 C.days,w.o])).get n6=some (.row 121 [.i .i64 C.aC,v.h,v.u,v.a,v.k,.i .i64 C.days,v.o,.i .i64 s.day,tq.h,tq.u,tq.m]):=by rw[ay (by omega)];exact g8
     have lp9:(Tr.set h8 (n6+1) (.row 27 [.i .i64 C.aC,w.h,w.u,w.a,w.k,.i .i64 C.days,w.o])).get n5=some (.lp .busy none 11 t [61,62] (jF 11 0) (jG 11 0)):=by rw[ay (by omega)];exact lp8
     have q9:(Tr.set h8 (n6+1) (.row 27 [.i .i64 C.aC,w.h,w.u,w.a,w.k,.i .i64 C.days,w.o])).get (n6+1)=some (.row 27 [.i .i64 C.aC,w.h,w.u,w.a,w.k,.i .i64 C.days,w.o]):=aG;have s79:∀x,x<n6+1->(Tr.set h8 (n6+1) (.row 27 [.i .i64 C.aC,w.h,w.u,w.a,w.k,.i .i64 C.days,w.o])).get x=h7.get x:=u9.old;generalize Tr.set h8 (n6+1) _=h9 at*;obtain⟨cv',hB,nB,rB,gB,lB,sB,bB⟩:=B9.gc.app (l2:=[w]) (y:=.sl (n6+1) 0 0 1 (some 1)) rfl (by
      show bnd (iA (h9.get (n6+1)) 0 _) _=_;rw[q9];rfl) (by have:=B9.ln;simp;omega)
     have ncb:∀x,x<n6+1->(∀cells,h7.get x≠some (.row 27 cells))->¬blk cv x:=λx hx hne e=>by
      obtain⟨cells,hc⟩:=B7.gc.ty e;exact hne _ hc
     have nsb:∀x,(∀cells,h7.get x≠some (.row 43 cells))->¬blk sv x:=λx hne e=>by
      obtain⟨cells,hc⟩:=B7.gs.ty e;exact hne _ hc
     have c9:=(s79 n3 (by omega)).trans c7;have cB:=(sB n3 (by omega) (ncb n3 (by omega) λc e=>by rw[c7]at e;cases e)).trans c9;have tB:=(sB (n3+1) (by omega) (ncb _ (by omega) λc e=>by rw[s7]at e;cases e)).trans ((s79 (n3+1) (by omega)).trans s7);have gB6:=(sB n6 (by omega) (λe=>by have:=(a.xs _ (a.bc _ e)).1;omega)).trans g9;have lpB:=(sB n5 (by omega) (ncb _ (by omega) λc e=>by rw[lp7]at e;cases e)).trans lp9;have gsB:Gr hB nB 43 4 sv WV fA:=B9.gs.on lB λx hx e=>sB x hx λe2=>by
      obtain⟨_,q1⟩:=B9.gc.ty e2;obtain⟨_,q2⟩:=B9.gs.ty e;rw[q1]at q2;cases q2
     repeat' (first|(simp (disch:=omega) only[go_sem,simprocAttr,rB,gB.cl,cB,c8,tB,gB6])|(refine aR ?_ ?_<;>(intro hb hd;rw[hb];clear hb))|(with_reducible refine aj ?_))
     generalize hx:(Tr.set hB n3 (.row 34 [cv'])).set nB _=hD;have sD:∀x,x<nB->x≠n3->hD.get x=hB.get x:=λx hx1 hx2=>by rw[<-hx,ay (by omega),ay hx2]
     have cD:hD.get n3=some (.row 34 [cv']):=by rw[<-hx,ay (by omega)];exact aG
     have qD:hD.get nB=some (.row 43 [.i .i64 s.day,tq.h,tq.u,tq.m]):=by rw[<-hx];exact aG
     clear hx;have gsD:Gr hD (nB+1) 43 4 sv WV fA:=gsB.on (by omega) λx hx e=>sD x hx λe2=>by
      obtain⟨_,q2⟩:=gsB.ty e;rw[e2,cB]at q2;cases q2
     obtain⟨Rm,hE,nE,rE,gE,lE,sE,bE⟩:=gsD.app (l2:=[(tq,s)]) (y:=.sl nB 0 0 1 (some 1)) rfl (by
      show bnd (iA (hD.get nB) 0 _) _=_;rw[qD];rfl) (by simp;omega)
     have nsD:∀x,x<n6+1->(∀cells,h7.get x≠some (.row 43 cells))->¬blk sv x:=λx _=>nsb x;have tE:=(sE (n3+1) (by omega) (nsb _ λc e=>by rw[s7]at e;cases e)).trans ((sD _ (by omega) (by omega)).trans tB);have cE:=(sE n3 (by omega) (nsb _ λc e=>by rw[c7]at e;cases e)).trans cD;have lpE:=(sE n5 (by omega) (nsb _ λc e=>by rw[lp7]at e;cases e)).trans ((sD _ (by omega) (by omega)).trans lpB);repeat' (first|(simp (disch:=omega) only[go_sem,simprocAttr,rE,gE.cl,tE])|(refine aR ?_ ?_<;>(intro hb hd;rw[hb];clear hb))|(with_reducible refine aj ?_))
     have agQ:(Tr.set hE (n3+1) (.row 35 [Rm])).get n5=some (.lp .busy none 11 t [61,62] (jF 11 0) (jG 11 0)):=by rw[ay (by omega)];exact lpE
     refine⟨_,_,_,_,_,_,_,agQ,λx=>X x\/blk cv' x\/blk Rm x,rfl,?_⟩;have Xe:∀x,X x->x<n6:=λx hx=>(a.xs x hx).1;have same':∀x,x<n6->x≠n5->x≠n3+1->x≠n3->¬blk cv x->¬blk sv x->((Tr.set hE (n3+1) (.row 35 [Rm])).set n5 (wX .ready none t)).get x=h6.get x:=λx hx d1 d2 d3 d4 d5=>by
      rw[ay d1,ay d2,sE x (by omega) d5,sD x (by omega) d3,sB x (by omega) d4,s79 x (by omega),s67 x hx d1]
     have same:∀x,x<n6->¬X x->((Tr.set hE (n3+1) (.row 35 [Rm])).set n5 (wX .ready none t)).get x=h6.get x:=λx hx hX=>
      same' x hx (λe=>hX (by rw[e];exact a.XL)) (λe=>hX (by rw[e];exact a.Xs)) (λe=>hX (by rw[e];exact a.Xc)) (λe=>hX (a.bc x e)) (λe=>hX (a.bs x e))
     have boxes:∀(x e:Nat)(c:List AV),n<x->x<n+4->h6.get x=some (.row e c)->e≠27->e≠43->((Tr.set hE (n3+1) (.row 35 [Rm])).set n5 (wX .ready none t)).get x=some (.row e c):=λx e c h1 h2 h3 h4 h5=>
      (same' x (by omega) (by omega) (by omega) (by omega) (λe=>by obtain⟨_,q⟩:=a.gc.ty e;rw[h3]at q;cases q;exact h4 rfl) (λe=>by obtain⟨_,q⟩:=a.gs.ty e;rw[h3]at q;cases q;exact h5 rfl)).trans h3
     have QW:∀x,(X x\/blk cv' x\/blk Rm x)->X x\/n6<=x:=λx e=>by
      rcases e with e|e|e
      .exact .inl e
      .rcases bB x e with e|e
       .exact .inl (a.bc x e)
       .exact .inr (by omega)
      .rcases bE x e with e|e
       .exact .inl (a.bs x e)
       .exact .inr (by omega)
     refine⟨⟨cv',Rm,vs++[w],fA++[(tq,s)],⟨?_,?_,?_,?_,by simp[a.ln],λx hx=>.inr (.inl hx),λx hx=>.inr (.inr hx),?_,?_,.inl a.Xc,.inl a.Xs,.inl a.XL,λx h1 h2=>.inl (a.Xr x h1 h2),a.Ln,λx hx=>?_,?_,?_,?_,λx hx=>?_,by omega,λx hx=>⟨(a.ps x hx).1,by have:=(a.ps x hx).2;omega⟩,a.a.wT (by omega) same QW⟩,by simp[hSS],aG⟩,by omega,same,QW⟩
     .rw[ay (by omega),ay (by omega)];exact cE
     .rw[ay (by omega)];exact aG
     .refine gB.on (by omega) λx hx e=>?_
      obtain⟨_,q⟩:=gB.ty e;have d1:x≠n5:=λe=>by rw[e,lpB]at q;cases q
      have d2:x≠n3+1:=λe=>by rw[e,tB]at q;cases q
      have d3:x≠n3:=λe=>by rw[e,cB]at q;cases q
      rw[ay d1,ay d2,sE x (by omega) (λe2=>by obtain⟨_,q2⟩:=gsB.ty e2;rw[q]at q2;cases q2),sD x hx d3]
     .refine gE.on (Nat.le_refl _) λx hx e=>?_
      obtain⟨_,q⟩:=gE.ty e;have d1:x≠n5:=λe=>by rw[e,lpE]at q;cases q
      have d2:x≠n3+1:=λe=>by rw[e,tE]at q;cases q
      rw[ay d1,ay d2]
     .have kw:Kp (λx=>(X x\/blk cv' x\/blk Rm x)\/(P x\/x<n)) ((Tr.set hE (n3+1) (.row 35 [Rm])).set n5 (wX .ready none t)) nE (λh n=>aZ h n w C):=by
       refine k9.tr (by omega) (λx hx hz=>?_) λx hx e=>?_
       .rw[ay (by omega),ay (by omega),sE x (by omega) (λe=>by have:=Xe x (a.bs x e);omega),sD x (by omega) (by omega),sB x hx (λe=>by have:=Xe x (a.bc x e);omega)]
       .rcases e with e|e
        .rcases e with e|e|e
         .have:=Xe x e;omega
         .rcases bB x e with e|e
          .have:=Xe x (a.bc x e);omega
          .omega
         .rcases bE x e with e|e
          .have:=Xe x (a.bs x e);omega
          .omega
        .rcases e with e|e
         .have:=(a.ps x e).2;omega
         .omega
      exact((a.kc.wT (by omega) same QW).and kw).wk λh n e w' hw'=>by
       rcases List.mem_append.1 hw' with hw'|hw'
       .exact e.1 w' hw'
       .rw[List.mem_singleton]at hw';subst hw';exact e.2
     .exact((a.ks.wT (by omega) same QW).and ((kq.le (Y:=λx=>X x\/(P x\/x<n)) λx _ e=>e.imp id λe=>e.imp id λe=>by omega).wT (by omega) same QW)).wk λh n e x hx=>by
       rcases List.mem_append.1 hx with hx|hx
       .exact e.1 x hx
       .rw[List.mem_singleton]at hx;subst hx;exact e.2
     .refine⟨?_,λhp=>?_,?_⟩
      .rcases hx with hx|hx|hx
       .have:=Xe x hx;omega
       .have:=gB.fF hx;omega
       .exact gE.fF hx
      .rcases QW x hx with e|e
       .exact(a.xs x e).2.1 hp
       .have:=(a.ps x hp).2;omega
      .rcases QW x hx with e|e
       .exact(a.xs x e).2.2
       .omega
     .exact boxes _ _ _ (by omega) (by omega) a.r1 (by decide) (by decide)
     .exact boxes _ _ _ (by omega) (by omega) a.r2 (by decide) (by decide)
     .exact boxes _ _ _ (by omega) (by omega) a.r3 (by decide) (by decide)
     .exact(same _ (by omega) λe=>by have:=(a.xs _ e).2.2;omega).trans (a.old x hx)
    .rintro u h7 n7 ⟨b,rfl,X',hb,r⟩
     exact⟨X',by rw[hb],r⟩
   .rintro P X h6 n6 S e c0 c1 c2 c3 ⟨cv,sv,vs,fA,a,hSS,lp⟩ he hn
    have XL:=a.xs _ a.XL;have ale:=a.le;refine RW.mono (uH (d:=19) (F:=_) (bs:=[true,true]) (R:=λb h2 n2=>b=false/\RuE C l h n n5 t h2 n2) lp hF (by kernel_rfl) rfl NY NZ ?_) ?_
    .simp (disch:=omega) only[go_sem,simprocAttr,Gt,Qg,CS.av,TS.av,List.cons_append,List.nil_append]
     generalize hx:Tr.set (Tr.set h6 n6 _) n6 _=hA;have uA:Up h6 n6 hA (n6+1):=by rw[<-hx];exact aH
     clear hx;have lpA:=(uA.old n5 XL.1).trans lp;refine⟨_,_,_,_,_,_,lpA,?_⟩;have r17:(hA.set n5 (.lp .busy none 11 t [61,62] (jF 11 0) (jG 11 0))).get (n+1)=some (.row 34 [.k 1]):=by rw[ay (by omega),uA.old _ (by omega)];exact a.r1
     have r27:(hA.set n5 (.lp .busy none 11 t [61,62] (jF 11 0) (jG 11 0))).get (n+1+1)=some (.row 35 [.k 1]):=by rw[ay (by omega),uA.old _ (by omega)];exact a.r2
     have r37:(hA.set n5 (.lp .busy none 11 t [61,62] (jF 11 0) (jG 11 0))).get (n+1+1+1)=some (.row 31 [.i .i64 0]):=by rw[ay (by omega),uA.old _ (by omega)];exact a.r3
     have lp7:(hA.set n5 (.lp .busy none 11 t [61,62] (jF 11 0) (jG 11 0))).get n5=some (.lp .busy none 11 t [61,62] (jF 11 0) (jG 11 0)):=aG;have o7:∀x,x<n->(hA.set n5 (.lp .busy none 11 t [61,62] (jF 11 0) (jG 11 0))).get x=h.get x:=λx hx=>by rw[ay (by omega),uA.old x (by omega)];exact a.old x hx
     generalize hA.set n5 _=h7 at*;have hd:(decide (e=0))=false:=decide_eq_false he;simp (disch:=omega) only[go_sem,simprocAttr,Gu,hd,r17,r27,r37];refine⟨_,_,_,_,_,_,_,by simp (disch:=omega) only[go_sem];exact lp7,rfl,e,he,aG,by simp (disch:=omega) only[go_sem],by simp (disch:=omega) only[go_sem],by simp (disch:=omega) only[go_sem],λx hx=>?_,by omega,by omega,hn⟩;simp (disch:=omega) only[go_sem];exact o7 x hx
    .rintro u h7 n7 ⟨b,rfl,hb,r⟩
     exact⟨by rw[hb],r⟩
  .rintro P X h6 n6 S run ⟨cv,sv,vs,fA,a,hSS,lp⟩
   refine⟨_,_,_,_,_,_,_,lp,.inl ⟨rfl,rfl,?_⟩⟩;have XL:=a.xs _ a.XL;have ale:=a.le;have B:=a.JU lp (wX .exhausted none t);have n5n:=a.Ln;repeat' (first|(simp (disch:=omega) only[go_sem,simprocAttr,a.c,a.s,a.r1,a.r2,a.r3,a.gc.cl,a.gs.cl])|(refine aR ?_ ?_<;>(intro hb hd;rw[hb];clear hb))|(with_reducible refine aj ?_))
   have hsame:∀x,x<n6->¬(n<x/\x<n+4)->x≠n5->((((Tr.set h6 n5 (.lp .exhausted none 11 t [61,62] (jF 11 0) (jG 11 0))).set (n+1) (.row 34 [cv])).set (n+1+1) (.row 35 [sv])).set (n+1+1+1) (.row 31 [.i .i64 0])).get x=h6.get x:=λx hx h1 h2=>by
    simp (disch:=omega) only[go_sem]
   have nb:∀e x,h6.get x=some (.row e [])\/(∃c,h6.get x=some (.row e c))->(e=27\/e=43)->¬(n<x/\x<n+4)/\x≠n5:=λe x hx he=>by
    have hx':∃c,h6.get x=some (.row e c):=by rcases hx with hx|hx;exact⟨_,hx⟩;exact hx
    obtain⟨c,hx⟩:=hx';refine⟨λ⟨h1,h2⟩=>?_,λe2=>?_⟩
    .have h3:x=n+1\/x=n+1+1\/x=n+1+1+1:=by omega
     rcases h3 with rfl|rfl|rfl
     .rw[a.r1]at hx;cases hx;rcases he with he|he<;>cases he
     .rw[a.r2]at hx;cases hx;rcases he with he|he<;>cases he
     .rw[a.r3]at hx;cases hx;rcases he with he|he<;>cases he
    .rw[e2,lp]at hx;cases hx
   have hX6:∀x,x<n6->¬(X x\/(P x\/x<n))->((((Tr.set h6 n5 (.lp .exhausted none 11 t [61,62] (jF 11 0) (jG 11 0))).set (n+1) (.row 34 [cv])).set (n+1+1) (.row 35 [sv])).set (n+1+1+1) (.row 31 [.i .i64 0])).get x=h6.get x:=λx hx h1=>hsame x hx (λ⟨h2,h3⟩=>h1 (.inl (a.Xr x h2 h3))) λe=>h1 (.inl (by rw[e];exact a.XL));refine Z6 hv (by omega) cv sv vs fA _ _ (by rw[hSS];exact run) a.ln ⟨by omega,λx hx=>?_⟩ (Kp.and (Kp.and ?_ ?_) (Kp.and (a.kc.tr (Nat.le_refl _) hX6 λx _ hx=>.inr (.inr hx)) (a.ks.tr (Nat.le_refl _) hX6 λx _ hx=>.inr (.inr hx))))
   .rw[hsame x (by omega) (by omega) (by omega)];exact a.old x hx
   .refine(a.gc.on (Nat.le_refl _) λx hx e=>?_).sl.kp λx hx e=>by have:=(a.xs x (a.bc x hx)).2.2;omega
    obtain⟨q1,q2⟩:=nb 27 x (.inr (a.gc.ty e)) (.inl rfl);exact hsame x hx q1 q2
   .refine(a.gs.on (Nat.le_refl _) λx hx e=>?_).sl.kp λx hx e=>by have:=(a.xs x (a.bs x hx)).2.2;omega
    obtain⟨q1,q2⟩:=nb 43 x (.inr (a.gs.ty e)) (.inr rfl);exact hsame x hx q1 q2
  .rintro h6 n6 ⟨e,he,q1,q2,q3,q4,q5,q6,q7,q8⟩
   refine⟨_,_,_,_,_,_,_,q1,.inr (.inl ⟨rfl,rfl,?_⟩)⟩;simp (disch:=omega) only[go_sem,simprocAttr,q2,q3,q4];refine Iz hv (by omega) q8 e _ _ he ⟨by omega,λx hx=>?_⟩;simp (disch:=omega) only[go_sem];exact q5 x hx
end
end
end
section
noncomputable section
section
variable {h h':AH} {n n':Nat} {Q:AV->AH->Nat->Prop} {C:aA} {v:CS} {l:List Int}
def Tq:AV:=.agg [.k 1,.k 1,.k 1,.k 1]
theorem KD(K:Nat){tv:AV}(hC:aZ h n v C)(ho:C.off.length<=1000000)(hl:l.length<=100000)(hT:SL h n 1 tv iN l)
 (kD:C.valid=false->∀h' n',Up h n h' n'->Q (.bN [Tq,.i .i64 1]) h' n')
 (rQ:C.valid=true->4000<l.length->∀h' n',Up h n h' n'->Q (.bN [Tq,.i .i64 3]) h' n')
 (Iz:C.valid=true->l.length<=4000->(¬∃S,f_ C C.first l S)->∀e h' n',e≠0->Up h n h' n'->Q (.bN [Tq,.i .i64 e]) h' n')
 (Z6:C.valid=true->l.length<=4000->∀cv sv dv vs fA h' n',f_ C C.first l (fA.map (·.2))->Up h n h' n'->O6 h' n' C cv sv tv dv vs fA l 0->Q (.bN [.agg (rA cv sv tv dv),.i .i64 0]) h' n'):
 CW (EF (K+12)) 32 [.agg (v.av C),.k 1,tv] h n Q:=by
 refine aD c32 rfl ?_;repeat' (first|(simp (disch:=omega) only[go_sem,simprocAttr,m32,CS.av])|(refine aR ?_ ?_<;>(intro hb hd;rw[hb];clear hb))|(with_reducible refine aj ?_))
 generalize hh:Tr.set (Tr.set h n _) (n+1) _=h0;have u0:Up h n h0 (n+2):=by rw[<-hh];exact aH
 have g0:h0.get n=some (.row 27 (v.av C)):=by rw[<-hh];simp (disch:=omega) only[go_sem]
 have g1:h0.get (n+1)=some (.row 100 [.k 1,.k 1,.k 1,.k 1]):=by rw[<-hh];simp (disch:=omega) only[go_sem]
 clear hh;rw[aU];show CW _ 11 _ h0 (n+2) _;have bad:∀(e:Int),e≠0->(∀h' n',Up h n h' n'->Q (.bN [Tq,.i .i64 e]) h' n')->∀h1 n1,Up h0 (n+2) h1 n1->True:=λ_ _ _ _ _ _=>trivial;refine Wd K (hC.up u0) ho hl (hT.up u0) (λhv h1 n1 u1=>?_) (λhv hln h1 n1 u1=>?_) (λhv hln hr e h1 n1 he u1=>?_) (λhv hln cv sv vs fA h1 n1 run ln u1 kR=>?_)
 .have e1:=u1.le
  have g11:=(u1.old _ (show n+1<n+2 by omega)).trans g1;have ux:=u0.trans u1;simp (disch:=omega) only[go_sem,simprocAttr,g11,Int.reduceEq];exact kD hv _ _ aH
 .have e1:=u1.le
  have g11:=(u1.old _ (show n+1<n+2 by omega)).trans g1;have ux:=u0.trans u1;simp (disch:=omega) only[go_sem,simprocAttr,g11,Int.reduceEq];exact rQ hv hln _ _ aH
 .have e1:=u1.le
  have g11:=(u1.old _ (show n+1<n+2 by omega)).trans g1;have ux:=u0.trans u1;have hd:decide (e=0)=false:=decide_eq_false he;simp (disch:=omega) only[go_sem,simprocAttr,g11,hd];exact Iz hv hln hr e _ _ he aH
 .obtain⟨⟨s1,s2⟩,s3,s4⟩:=kR.use
  have e1:=u1.le;have g11:=(u1.old _ (show n+1<n+2 by omega)).trans g1;have ux:=u0.trans u1;have ok:=aA.ok hv;have hus:=wY hv;have hSl:=run.len;rw[List.length_map]at hSl;simp (disch:=omega) only[go_sem,simprocAttr,s1.cl,s2.cl,hT.cl,s2.len];generalize hh:Tr.set (Tr.set h1 n1 _) n1 _=h2;have u2:Up h1 n1 h2 (n1+1):=by rw[<-hh];exact aH
  have g2:h2.get n1=some (.row 100 [cv,sv,tv,.k 1]):=by rw[<-hh];exact aG
  clear hh;refine bX fA.length (λk hk nk G=>Up h1 n1 hk nk/\n1<nk/\(∃dv,hk.get n1=some (.row 100 [cv,sv,tv,dv])/\Gr hk nk 3 1 dv cn (List.replicate k 0)/\∀x,blk dv x->n1<x)/\G=[(6,.p (n+1) 0),(8,cv),(11,.p n1 0),(31,sv)]) (by omega) (by omega) (by omega) (by omega) (λk h8 n8 G ⟨_,_,_,e⟩=>by subst e;exact⟨rfl,rfl⟩) ⟨rfl,rfl,_,⟨u2,by omega,⟨.k 1,g2,Gr.nil λ_=>rfl,λx hx=>absurd hx eX⟩,rfl⟩,by(repeat' (first|exact aO|refine aN rfl ?_))⟩ ?_ ?_
  .rintro k hk nk G hkl ⟨uk,lk,⟨dv,gd,gr,bd⟩,rfl⟩
   obtain⟨b1,o1,x,i1,hx,hb1,rd⟩:=(s2.up uk).fu (k:=(k:Nat)) (by omega) (by omega) (by omega);rw[show((k:Nat):Int).toNat=k by omega]at hx;repeat' (first|(simp (disch:=omega) only[go_sem,simprocAttr,aJ i1,rd.all,TS.av])|(refine aR ?_ ?_<;>(intro hb hd;rw[hb];clear hb))|(with_reducible refine aj ?_))
   .have hkp:0<k:=by omega
    obtain⟨b2,o2,w2,i2,hw2,hb2,eY⟩:=(s1.up uk).fu (k:=(k:Nat)) (by omega) (by omega) (by omega);obtain⟨b3,o3,w3,i3,hw3,hb3,oF⟩:=(s1.up uk).fu (k:=((k - 1:Nat):Int)) (by omega) (by omega) (by omega);have wid:gM .i64 ((k:Int) - 1)=((k - 1:Nat):Int):=by rw[dN (by omega) (by omega)];omega
    have a2:=eY.all;have a3:=oF.all;generalize hz:Tr.set (Tr.set hk nk _) nk _=h5;have u5:Up hk nk h5 (nk+1):=by rw[<-hz];exact aH
    clear hz;rw[<-u5.old b2 hb2]at a2;rw[<-u5.old b3 hb3]at a3;repeat' (first|(simp (disch:=omega) only[go_sem,simprocAttr,wid,i2,i3,a2,a3])|(refine aR ?_ ?_<;>(intro hb hd;rw[hb];clear hb))|(with_reducible refine aj ?_))
    rw[bQ];have uk5:=uk.trans u5;refine xE (K+7) ((s3 w3 (List.mem_of_getElem? hw3)).up uk5) ((s3 w2 (List.mem_of_getElem? hw2)).up uk5) ok ho (by omega) λh4 n4 u4=>?_;have e4:=u4.le;have u54:=u5.trans u4;have gd4:=(u54.old n1 (by omega)).trans gd;obtain⟨b6,o6,y6,i6,hy6,hb6,WH⟩:=((gr.up u54).sl).fu (k:=((k - 1:Nat):Int)) (by omega) (by simp;omega) (by omega);rw[show((k - 1:Nat):Int).toNat=k - 1 by omega,List.getElem?_replicate,if_pos (by omega)]at hy6;cases hy6
    have a6:=WH.hd;repeat' (first|(simp (disch:=omega) only[go_sem,simprocAttr,gd4,wid,i6,aJ i6,a6])|(refine aR ?_ ?_<;>(intro hb hd;rw[hb];clear hb))|(with_reducible refine aj ?_))
    generalize hz:Tr.set h4 n4 (.row 3 [.i .i64 0])=h6;have u6:Up hk nk h6 (n4+1):=by rw[<-hz];exact aH
    have q6:h6.get n4=some (.row 3 [.i .i64 0]):=by rw[<-hz];exact aG
    clear hz;obtain⟨dv',h7,n7,r7,g7,l7,s7,b7⟩:=(gr.up u6).app (l2:=[0]) (y:=.sl n4 0 0 1 (some 1)) rfl (by
     show bnd (iA (h6.get _) 0 _) _=_;rw[q6];rfl) (by simp<;>omega)
    have c7:=(s7 n1 (by have:=u6.le;omega) (λe=>by have:=bd n1 e;omega)).trans ((u6.old n1 (by omega)).trans gd);repeat' (first|(simp (disch:=omega) only[go_sem,simprocAttr,r7,g7.cl,c7])|(refine aR ?_ ?_<;>(intro hb hd;rw[hb];clear hb))|(with_reducible refine aj ?_))
    have Vh:gM .i64 ((k:Int)+1)=((k+1:Nat):Int):=by rw[dN (by omega) (by omega)];rfl
    have l6:=u6.le;refine⟨rfl,rfl,_,⟨⟨by have:=uk.le;omega,λy hy=>?_⟩,by omega,⟨dv',aG,g7.on (Nat.le_refl _) (λy hy e=>ay λe2=>?_)|>λg=>by rw[List.replicate_succ'];exact g,λy hy=>?_⟩,rfl⟩,by(repeat' (first|exact aO|refine aN rfl ?_))⟩
    .rw[ay (by omega),s7 y (by have:=uk.le;omega) (λe=>by have:=bd y e;omega),u6.old y (by have:=uk.le;omega),uk.old y hy]
    .obtain⟨_,q⟩:=g7.ty e
     rw[e2,c7]at q;cases q
    .rcases b7 y hy with e|e
     .exact bd y e
     .omega
   .have hk0:k=0:=by omega
    subst hk0;have jC:x.2.day=0:=by
     have e:=run.hd;rw[List.getElem?_map,hx]at e;simp only[Option.map_some,Option.some.injEq]at e;rw[e];rfl
    generalize hz:Tr.set (Tr.set hk nk _) nk _=h5;have u5:Up hk nk h5 (nk+1):=by rw[<-hz];exact aH
    clear hz;have gd5:=(u5.old n1 (by omega)).trans gd;repeat' (first|(simp (disch:=omega) only[go_sem,simprocAttr,gd,gd5,jC])|(refine aR ?_ ?_<;>(intro hb hd;rw[hb];clear hb))|(with_reducible refine aj ?_))
    generalize hz:Tr.set h5 (nk+1) (.row 3 [.i .i64 0])=h6;have u6:Up hk nk h6 ((nk+1)+1):=by rw[<-hz];exact aH
    have q6:h6.get (nk+1)=some (.row 3 [.i .i64 0]):=by rw[<-hz];exact aG
    clear hz;obtain⟨dv',h7,n7,r7,g7,l7,s7,b7⟩:=(gr.up u6).app (l2:=[0]) (y:=.sl (nk+1) 0 0 1 (some 1)) rfl (by
     show bnd (iA (h6.get _) 0 _) _=_;rw[q6];rfl) (by simp<;>omega)
    have c7:=(s7 n1 (by have:=u6.le;omega) (λe=>by have:=bd n1 e;omega)).trans ((u6.old n1 (by omega)).trans gd);repeat' (first|(simp (disch:=omega) only[go_sem,simprocAttr,r7,g7.cl,c7])|(refine aR ?_ ?_<;>(intro hb hd;rw[hb];clear hb))|(with_reducible refine aj ?_))
    have Vh:gM .i64 (((0:Nat):Int)+1)=((0+1:Nat):Int):=by rfl
    have l6:=u6.le;refine⟨rfl,rfl,_,⟨⟨by have:=uk.le;omega,λy hy=>?_⟩,by omega,⟨dv',aG,g7.on (Nat.le_refl _) (λy hy e=>ay λe2=>?_)|>λg=>by rw[List.replicate_succ'];exact g,λy hy=>?_⟩,rfl⟩,by(repeat' (first|exact aO|refine aN rfl ?_))⟩
    .rw[ay (by omega),s7 y (by have:=uk.le;omega) (λe=>by have:=bd y e;omega),u6.old y (by have:=uk.le;omega),uk.old y hy]
    .obtain⟨_,q⟩:=g7.ty e
     rw[e2,c7]at q;cases q
    .rcases b7 y hy with e|e
     .exact bd y e
     .omega
  .rintro hk nk G ⟨uk,lk,⟨dv,gd,gr,bd⟩,rfl⟩
   have g1k:=(uk.old _ (show n+1<n1 by omega)).trans g11;have uxk:=ux.trans uk;repeat' (first|(simp (disch:=omega) only[go_sem,simprocAttr,gd,g1k,gr.cl,s1.cl,s2.cl,hT.cl])|(refine aR ?_ ?_<;>(intro hb hd;rw[hb];clear hb))|(with_reducible refine aj ?_))
   have kd:Kp (λx=>x<n1) hk nk (λh n=>SL h n 1 dv cn (List.replicate fA.length 0)):=gr.sl.kp λx hx e=>by have:=bd x hx;omega
   have kf:=((kR.up uk).set (b:=n+1) (o:=.row 100 [cv,sv,tv,dv]) (.inl (by omega)) (Nat.le_refl _)).use;have kf2:=(kd.set (b:=n+1) (o:=.row 100 [cv,sv,tv,dv]) (.inl (by omega)) (Nat.le_refl _)).use;have uf:Up h n (Tr.set hk (n+1) (.row 100 [cv,sv,tv,dv])) nk:=Up.st uxk _ _ (by omega);exact Z6 hv hln cv sv dv vs fA _ _ run uf ⟨kf.1.1,kf.2.1,kf.1.2,kf.2.2,hT.up uf,kf2,ln⟩
end
end
end
section
noncomputable section
section
variable {h h':AH} {n n':Nat} {Q:AV->AH->Nat->Prop} {C:aA} {v:CS} {l:List Int} {party:Int}
theorem Ox{S:List aI}(hv:C.valid=true)(run:f_ C C.first l S):∀(k:Nat)(s:aI),S[k]?=some s->aK C s
 |0,s,e=>by rw[run.hd]at e;cases e;exact pQ hv
 |k+1,s,e=>by
  have hk:=(List.getElem?_eq_some_iff.1 e).1;have hl:=run.len;obtain⟨t,ht⟩:∃t,l[k]?=some t:=⟨l[k]'(by omega),List.getElem?_eq_some_iff.2 ⟨by omega,rfl⟩⟩;obtain⟨a,ha⟩:∃a,S[k]?=some a:=⟨S[k]'(by omega),List.getElem?_eq_some_iff.2 ⟨by omega,rfl⟩⟩;obtain⟨h1,h2,h3,h4⟩:=run.step k t a ht ha;rw[e]at h4;cases h4
  exact jK (Ox hv run k a ha) h1 h2 h3
theorem IY{S:List aI}(hp:0<=party)(run:f_ C C.first l S):∀(k:Nat)(s:aI),S[k]?=some s->wm C party ⟨C.first,true⟩ ⟨s,true⟩
 |0,s,e=>by rw[run.hd]at e;cases e;exact .refl
 |k+1,s,e=>by
  have hk:=(List.getElem?_eq_some_iff.1 e).1;have hl:=run.len;obtain⟨t,ht⟩:∃t,l[k]?=some t:=⟨l[k]'(by omega),List.getElem?_eq_some_iff.2 ⟨by omega,rfl⟩⟩;obtain⟨a,ha⟩:∃a,S[k]?=some a:=⟨S[k]'(by omega),List.getElem?_eq_some_iff.2 ⟨by omega,rfl⟩⟩;obtain⟨h1,h2,h3,h4⟩:=run.step k t a ht ha;rw[e]at h4;cases h4
  have ih:=IY hp run k a ha;by_cases hst:C.aW a t=a
  .rw[hst];exact ih
  by_cases ho:0<=t/\C.doer a t=party
  .obtain⟨i,rfl⟩:=Int.eq_ofNat_of_zero_le ho.1
   exact ih.step (xX (q:=⟨a,true⟩) (by omega) h3 ⟨⟨λ_=>rfl,λ_=>ho.2⟩,hst⟩)
  .have ih2:=ih.step (zJ (C:=C) (party:=party) (q:=⟨a,true⟩) rfl)
   by_cases ht0:t= -1
   .subst ht0
    exact ih2.step (Eo (q:=⟨a,false⟩) rfl h3)
   .obtain⟨i,rfl⟩:=Int.eq_ofNat_of_zero_le (show 0<=t by omega)
    refine ih2.step (xX (q:=⟨a,false⟩) (by omega) h3 ⟨⟨λe=>absurd ⟨Int.natCast_nonneg _,e⟩ ho,λe=>(by cases e)⟩,hst⟩)
theorem Rn{S:List aI}(hp:0<=party)(run:f_ C C.first l S){k:Nat}{s:aI}(hs:S[k]?=some s){b:Bool}(e:gL C party ⟨s,b⟩):gL C party ⟨C.first,true⟩:=by
 have r:=IY hp run k s hs;refine e.of ?_;cases b with
 |true=>exact r
 |false=>exact r.step (zJ (C:=C) (party:=party) (q:=⟨s,true⟩) rfl)
theorem Oy(K:Nat){tv:AV}(hC:aZ h n v C)(ho:C.off.length<=1000000)(hl:l.length<=100000)(hT:SL h n 1 tv iN l)
 (kD:∀e h' n',e≠0->(C.valid=true->0<=party->party<C.aC->l.length<=4000->¬gL C party ⟨C.first,true⟩->¬∃S,f_ C C.first l S)->Up h n h' n'->Q (.bN [.i .i64 0,.i .i64 e]) h' n')
 (rQ:C.valid=true->0<=party->party<C.aC->∀S (r:Int) h' n',f_ C C.first l S->(∀k:Nat,r=(k:Nat)->GY C party l S k)->(r= -1->GZ C party l S)-> -1<=r->Up h n h' n'->Q (.bN [.i .i64 r,.i .i64 0]) h' n'):
 CW (EF (K+410)) 10 [.agg (v.av C),.k 1,.i .i64 party,tv] h n Q:=by
 refine aD c10 rfl ?_;repeat' (first|(simp (disch:=omega) only[go_sem,simprocAttr,ub.old,m10,CS.av])|(simp (disch:=omega) only[go_sem,simprocAttr,m10,CS.av])|(refine aR ?_ ?_<;>(intro hb hd;rw[hb];clear hb))|(with_reducible refine aj ?_))
 generalize hh:Tr.set h n _=h0;have u0:Up h n h0 (n+1):=by rw[<-hh];exact aH
 have g0:h0.get n=some (.row 27 (v.av C)):=by rw[<-hh];exact aG
 clear hh;rw[aU];refine N9 (K+402) (hC.up u0) ho λh1 n1 u1=>?_;have e1:=u1.le;have g1:=(u1.old n (by omega)).trans g0;cases hk:(C.valid&&(decide (0<=party)&&decide (party<C.aC)))with
 |false=>
  repeat' (first|(simp (disch:=omega) only[go_sem,simprocAttr,ub.old,hk])|(simp (disch:=omega) only[go_sem,simprocAttr,hk])|(refine aR ?_ ?_<;>(intro hb hd;rw[hb];clear hb))|(with_reducible refine aj ?_))
  refine kD 1 _ _ (by omega) (λa b c=>?_) (u0.trans u1);rw[a,decide_eq_true b,decide_eq_true c]at hk;cases hk
 |true=>
  simp only[Bool.and_eq_true,decide_eq_true_eq]at hk;obtain⟨hv,hp0,hp1⟩:=hk;repeat' (first|(simp (disch:=omega) only[go_sem,simprocAttr,ub.old,g1,CS.av])|(simp (disch:=omega) only[go_sem,simprocAttr,g1,CS.av])|(refine aR ?_ ?_<;>(intro hb hd;rw[hb];clear hb))|(with_reducible refine aj ?_))
  rw[aU];have O4:=u0.trans u1;refine KD (K+397) (hC.up O4) ho hl (hT.up O4) (λe=>by rw[hv]at e;cases e) (λ_ hln h2 n2 u2=>?_) (λ_ hln hr e h2 n2 he u2=>?_) (λ_ hln cv sv dv vs fA h2 n2 run u2 rin=>?_)
  .have zU:=O4.trans u2
   have e2:=zU.le;repeat' (first|(simp (disch:=omega) only[go_sem,simprocAttr,ub.old,Tq,Int.reduceEq])|(simp (disch:=omega) only[go_sem,simprocAttr,Tq,Int.reduceEq])|(refine aR ?_ ?_<;>(intro hb hd;rw[hb];clear hb))|(with_reducible refine aj ?_))
   exact kD 3 _ _ (by omega) (λ_ _ _ h _=>by omega) aH
  .have zU:=O4.trans u2
   have e2:=zU.le;have hd:decide (e=0)=false:=decide_eq_false he;repeat' (first|(simp (disch:=omega) only[go_sem,simprocAttr,ub.old,Tq,hd])|(simp (disch:=omega) only[go_sem,simprocAttr,Tq,hd])|(refine aR ?_ ?_<;>(intro hb hd;rw[hb];clear hb))|(with_reducible refine aj ?_))
   exact kD e _ _ he (λ_ _ _ _ _=>hr) aH
  .have zU:=O4.trans u2
   have e2:=u2.le;simp (disch:=omega) only[go_sem,simprocAttr,rA];generalize hh:Tr.set (Tr.set h2 n2 _) n2 _=h3;have u3:Up h2 n2 h3 (n2+1):=by rw[<-hh];exact aH
   have g3:h3.get n2=some (.row 100 (rA cv sv tv dv)):=by rw[<-hh];exact aG
   clear hh;repeat' (first|(simp (disch:=omega) only[go_sem,simprocAttr,ub.old])|(simp (disch:=omega) only[go_sem,simprocAttr])|(refine aR ?_ ?_<;>(intro hb hd;rw[hb];clear hb))|(with_reducible refine aj ?_))
   rw[bQ];refine Er (K+408) λj s lm sh dd h4 n4 u4 q1 q2 q3 q4 q5 q6=>?_;have e4:=u4.le;have g4:=(u4.old n2 (by omega)).trans g3;repeat' (first|(simp (disch:=omega) only[go_sem,simprocAttr,ub.old,g3,g4,rA])|(simp (disch:=omega) only[go_sem,simprocAttr,g3,g4,rA])|(refine aR ?_ ?_<;>(intro hb hd;rw[hb];clear hb))|(with_reducible refine aj ?_))
   rw[bQ];have uR:Up h2 n2 h4 n4:=u3.trans ((Up.wide h3 (by omega)).trans u4);have agS:=rin.up uR;have oks:∀x∈fA,aK C x.2:=λx hx=>by
    obtain⟨k,hk⟩:=List.getElem?_of_mem hx;exact Ox hv run k x.2 (by rw[List.getElem?_map,hk];rfl)
   have hB:∀x∈fA,∀b,gL C party ⟨x.2,b⟩->gL C party ⟨C.first,true⟩:=λx hx b e=>by
    obtain⟨k,hk⟩:=List.getElem?_of_mem hx;exact Rn hp0 run (k:=k) (s:=x.2) (by rw[List.getElem?_map,hk];rfl) e
   refine Ot K (B:=gL C party ⟨C.first,true⟩) (h:=h4) (n:=n4) (l:=l) (u:=0) (j:=j) (s:=s) (lm:=lm) (ent:=[]) (vs:=vs) (fA:=fA) agS ⟨⟨_,rfl,q1⟩,q2,⟨[],q3,.inl rfl⟩,λq _ x hx=>(by cases hx),q5.1,q5.2.1,q5.2.2,q6.1,q6.2.1,q6.2.2⟩ ho hl (by omega) hp0 hp1 run oks hB (λd b e h5 n5 he hBB l5 x5=>?_) λd b h5 n5 hb1 hb2 l5 x5=>?_
   .have g5:=(x5 n2 (by omega) (by omega) (by omega)).trans g4
    have l02:=zU.le;have uF:Up h n h5 n5:=⟨by omega,λx hx=>by rw[x5 x (by omega) (by omega) (by omega)];exact(zU.trans uR).old x hx⟩;have hd:decide (e=0)=false:=decide_eq_false he;repeat' (first|(simp (disch:=omega) only[go_sem,simprocAttr,ub.old,g5,DV.av,hd])|(simp (disch:=omega) only[go_sem,simprocAttr,g5,DV.av,hd])|(refine aR ?_ ?_<;>(intro hb hd;rw[hb];clear hb))|(with_reducible refine aj ?_))
    refine⟨by rw[g3];rfl,?_⟩;exact kD e _ _ he (λ_ _ _ _ nb=>absurd hBB nb) (by first|exact uF|exact Up.st uF _ _ (by omega)|exact Up.st (Up.st uF _ _ (by omega)) _ _ (by omega))
   have g5:=(x5 n2 (by omega) (by omega) (by omega)).trans g4;have l02:=zU.le;have uF:Up h n h5 n5:=⟨by omega,λx hx=>by rw[x5 x (by omega) (by omega) (by omega)];exact(zU.trans uR).old x hx⟩;repeat' (first|(simp (disch:=omega) only[go_sem,simprocAttr,ub.old,g5,DV.av])|(simp (disch:=omega) only[go_sem,simprocAttr,g5,DV.av])|(refine aR ?_ ?_<;>(intro hb hd;rw[hb];clear hb))|(with_reducible refine aj ?_))
   refine⟨by rw[g3];rfl,?_⟩;cases b with
   |false=>
    simp (disch:=omega) only[go_sem,simprocAttr];exact rQ hv hp0 hp1 _ (-1) _ _ run (λk e=>by omega) (λ_=>hb2 rfl) (by omega) (Up.st (Up.st uF _ _ (by omega)) _ _ (by omega))
   |true=>
    simp (disch:=omega) only[go_sem,simprocAttr];exact rQ hv hp0 hp1 _ (d.i:Nat) _ _ run (λk e=>by
     have:d.i=k:=by omega
     rw[<-this];exact hb1 rfl) (λe=>by omega) (by omega) (Up.st (Up.st uF _ _ (by omega)) _ _ (by omega))
end
end
end
section
noncomputable section
set_option maxRecDepth 1000000
set_option maxHeartbeats 4000000
def m28:MC:=vF 28
def c28:=vT 28 m28
def m14:MC:=vF 14
def c14:=vT 14 m14
end
end
section
noncomputable section
section
variable {h h':AH} {n n':Nat} {Q:AV->AH->Nat->Prop} {C:aA} {v:CS} {l:List Int} {party:Int}
theorem Ew(K:Nat)(hC:aZ h n v C)(hQ:∀b h' n',(b=true->C.off.length<=100/\C.acts.length<=70)->Up h n h' n'->Q (.b b) h' n'):CW (EF (K+1)) 14 [.agg (v.av C),.i .i64 6] h n Q:=by
 refine aD c14 rfl ?_;repeat' (first|(simp (disch:=omega) only[go_sem,simprocAttr,m14,CS.av,hC.ah.len,hC.units.len,hC.acts.len,hC.lk,hC.off.len])|(refine aR ?_ ?_<;>(intro hb hd;rw[hb];clear hb))|(with_reducible refine aj ?_))
 .exact hQ false _ _ (λe=>by cases e) aH
 .exact hQ false _ _ (λe=>by cases e) aH
 .exact hQ false _ _ (λe=>by cases e) aH
 .exact hQ false _ _ (λe=>by cases e) aH
 .exact hQ false _ _ (λe=>by cases e) aH
 generalize hh:Tr.set h n _=h1;have u1:Up h n h1 (n+1):=by rw[<-hh];exact aH
 have g1:h1.get n=some (.row 27 (v.av C)):=by rw[<-hh];exact aG
 clear hh;refine jy (λi hk nk F=>∃k,k<=C.clauses.length/\i=C.clauses.length - k/\h1=hk/\nk=n+1/\F=[(2,.p n 0),(5,.i .i64 (k:Nat))]) C.clauses.length (by omega) ⟨_,⟨0,by omega,rfl,rfl,rfl,rfl⟩,by(repeat' (first|exact aO|refine aN rfl ?_))⟩ ?_;rintro i _ _ F ⟨k,hk1,rfl,rfl,rfl,rfl⟩;repeat' (first|(simp (disch:=omega) only[go_sem,simprocAttr,g1,CS.av,hC.lk])|(refine aR ?_ ?_<;>(intro hb hd;rw[hb];clear hb))|(with_reducible refine aj ?_))
 .refine pR (hC.up u1) (by omega) (by omega) λb o a t ha hb hst rd=>?_
  repeat' (first|(simp (disch:=omega) only[go_sem,simprocAttr,rd.el,aF.av,hst.len])|(refine aR ?_ ?_<;>(intro hb hd;rw[hb];clear hb))|(with_reducible refine aj ?_))
  .exact hQ false _ _ (λe=>by cases e) u1
  .have wid:gM .i64 ((k:Int)+1)=((k+1:Nat):Int):=by rw[dN (by omega) (by omega)];rfl
   rw[D5,wid];exact⟨_,_,by omega,⟨k+1,by omega,rfl,rfl,rfl,rfl⟩,by(repeat' (first|exact aO|refine aN rfl ?_))⟩
 .exact hQ true _ _ (λ_=>by omega) u1
theorem Ro(K:Nat)(hC:aZ h n v C)(hQ:∀b h' n',(b=true->C.off.length<=100/\C.acts.length<=70)->Up h n h' n'->Q (.b b) h' n'):CW (EF (K+2)) 28 [.agg (v.av C)] h n Q:=by
 refine aD c28 rfl ?_;repeat' (first|(simp (disch:=omega) only[go_sem,simprocAttr,m28,CS.av])|(refine aR ?_ ?_<;>(intro hb hd;rw[hb];clear hb))|(with_reducible refine aj ?_))
 generalize hh:Tr.set h n _=h1;have u1:Up h n h1 (n+1):=by rw[<-hh];exact aH
 have g1:h1.get n=some (.row 27 (v.av C)):=by rw[<-hh];exact aG
 clear hh;rw[aU];refine Ew K (hC.up u1) λb h2 n2 hb u2=>?_;have g2:=(u2.old n (by omega)).trans g1;have zU:=u1.trans u2;cases b with
 |false=>simp (disch:=omega) only[go_sem,simprocAttr];exact hQ false _ _ (λe=>by cases e) zU
 |true=>
  repeat' (first|(simp (disch:=omega) only[go_sem,simprocAttr,g2,CS.av,hC.acts.len])|(refine aR ?_ ?_<;>(intro hb hd;rw[hb];clear hb))|(with_reducible refine aj ?_))
  all_goals first|exact hQ false _ _ (λe=>by cases e) zU|exact hQ true _ _ (λ_=>hb rfl) zU|exact hQ _ _ _ (λ_=>hb rfl) zU
end
end
end
section
noncomputable section
set_option maxRecDepth 1000000
set_option maxHeartbeats 4000000
def m6:MC:=vF 6
def c6:=vT 6 m6
def m9:MC:=vF 9
def c9:=vT 9 m9
end
end
section
noncomputable section
section
variable {h h':AH} {n n':Nat} {Q:AV->AH->Nat->Prop} {C:aA} {v:CS} {l:List Int} {party:Int}
theorem KE(K:Nat)(hQ:Q (.b true) h n):CW (EF (K+1)) 29 [.k 1,.i .i64 2] h n Q:=⟨_,_,_,(by kernel_rfl:EF (K+1) 29 [.k 1,.i .i64 2] h n= .ok (.b true) h n),hQ⟩
theorem Rp(K:Nat)(hQ:Q (.b true) h n):CW (EF (K+1)) 30 [.k 1] h n Q:=⟨_,_,_,(by kernel_rfl:EF (K+1) 30 [.k 1] h n= .ok (.b true) h n),hQ⟩
theorem Oz(K:Nat){tv:AV}(hC:aZ h n v C)(hT:SL h n 1 tv iN l)(hQ:∀b h' n',(b=true->C.off.length<=100/\C.acts.length<=70/\l.length<=16)->Up h n h' n'->Q (.b b) h' n'):CW (EF (K+3)) 9 [.agg (v.av C),.k 1,.k 1,tv] h n Q:=by
 refine aD c9 rfl ?_;repeat' (first|(simp (disch:=omega) only[go_sem,simprocAttr,m9,CS.av])|(refine aR ?_ ?_<;>(intro hb hd;rw[hb];clear hb))|(with_reducible refine aj ?_))
 generalize hh:Tr.set h n _=h1;have u1:Up h n h1 (n+1):=by rw[<-hh];exact aH
 have g1:h1.get n=some (.row 27 (v.av C)):=by rw[<-hh];exact aG
 clear hh;rw[aU];refine Ro K (hC.up u1) λb h2 n2 hb u2=>?_;have g2:=(u2.old n (by omega)).trans g1;have zU:=u1.trans u2;cases b with
 |false=>simp (disch:=omega) only[go_sem,simprocAttr];exact hQ false _ _ (λe=>by cases e) zU
 |true=>
  repeat' (first|(simp (disch:=omega) only[go_sem,simprocAttr,g2,CS.av,hC.lk])|(refine aR ?_ ?_<;>(intro hb hd;rw[hb];clear hb))|(with_reducible refine aj ?_))
  .rw[aU]
   refine KE (K+1) ?_;simp (disch:=omega) only[go_sem,simprocAttr];rw[aU];refine Rp (K+1) ?_;repeat' (first|(simp (disch:=omega) only[go_sem,simprocAttr,hT.len])|(refine aR ?_ ?_<;>(intro hb hd;rw[hb];clear hb))|(with_reducible refine aj ?_))
   exact hQ _ _ _ (λe=>⟨(hb rfl).1,(hb rfl).2,by have:=of_decide_eq_true e;omega⟩) zU
  .exact hQ false _ _ (λe=>by cases e) zU
  .exact hQ false _ _ (λe=>by cases e) zU
theorem KF(K:Nat){ov:AV}{jJ:List Int}(hH:∀{h:AH}{n:Nat}{Q:AV->AH->Nat->Prop},(∀h' n',Up h n h' n'->Q (.b true) h' n')->CW (EF (K+410)) 8 [] h n Q)(hC:aZ h n v C)(hO:SL h n 1 ov iN jJ)(hQ:∀h' n',Up h n h' n'->Q (.b true) h' n'):CW (EF (K+411)) 6 [.agg (v.av C),.i .i64 party,ov] h n Q:=by
 refine aD c6 rfl ?_;repeat' (first|(simp (disch:=omega) only[go_sem,simprocAttr,ub.old,m6,CS.av])|(simp (disch:=omega) only[go_sem,simprocAttr,m6,CS.av])|(refine aR ?_ ?_<;>(intro hb hd;rw[hb];clear hb))|(with_reducible refine aj ?_))
 generalize hh:Tr.set h n _=h1;have u1:Up h n h1 (n+1):=by rw[<-hh];exact aH
 have g1:h1.get n=some (.row 27 (v.av C)):=by rw[<-hh];exact aG
 clear hh;rw[aU];refine hH λh2 n2 u2=>?_;have e2:=u2.le;have g2:=(u2.old n (by omega)).trans g1;have zU:=u1.trans u2;simp (disch:=omega) only[go_sem,simprocAttr,g2,CS.av];rw[aU];refine Oz (K+407) (hC.up zU) (hO.up zU) λb h3 n3 hb u3=>?_;have e3:=u3.le;have g3:=(u3.old n (by omega)).trans g2;have Iw:=zU.trans u3;cases b with
 |false=>
  simp (disch:=omega) only[go_sem,simprocAttr];exact hQ _ _ Iw
 |true=>
  obtain⟨ho,ha,hl⟩:=hb rfl;simp (disch:=omega) only[go_sem,simprocAttr,g3,CS.av];rw[aU];refine J9 (K+398) (hC.up Iw) (by omega) (hO.up Iw) (by omega) (by omega) (λe h4 n4 he u4=>?_) λv' l S h4 n4 hv hp0 hp1 nb run safe hll u4 k4=>?_
  .have hd:decide (e=0)=false:=decide_eq_false (by omega)
   simp (disch:=omega) only[go_sem,simprocAttr,hd];exact hQ _ _ (Iw.trans u4)
  .have e4:=u4.le
   have g4:=(u4.old n (by omega)).trans g3;have Zl:=Iw.trans u4;simp (disch:=omega) only[go_sem,simprocAttr,g4,CS.av];rw[aU];refine Oy K (hC.up Zl) (by omega) (by omega) k4.use (λe h5 n5 he hr u5=>?_) λ_ _ _ S' r h5 n5 run' r1 r2 r3 u5=>?_
   .exact absurd ⟨S,run⟩ (hr hv hp0 hp1 hll nb)
   .have hS:S'=S:=by
     apply List.ext_getElem?;intro j;have hl1:=run.len;have hl2:=run'.len;by_cases hj:j<=l.length
     .exact run'.same (k:=l.length) (by rw[List.take_length];exact run) (Nat.le_refl _) j hj
     .rw[List.getElem?_eq_none (by omega),List.getElem?_eq_none (by omega)]
    subst hS;have hr:r= -1:=by
     apply Classical.byContradiction;intro hne;obtain⟨k,rfl⟩:=Int.eq_ofNat_of_zero_le (show 0<=r by omega);obtain⟨_,t,a,b,e1,e2,e3,e4,e5⟩:=r1 k rfl;exact safe k t a b e1 e2 e3 e4 e5
    subst hr;simp (disch:=omega) only[go_sem,simprocAttr];exact hQ _ _ (Zl.trans u5)
end
end
end
open Go.RowKit
noncomputable section
section
variable (w:World)
def K3:Value->Option AV
 | .bool x=>some (.b x)
 | .int k n=>some (.i k n)
 | .string s=>some (.s s.data.toList)
 | .slice none 0 0=>some (.k 1)
 | .slice (some a) n c=>if n=0 then some (.es a c)else if a.spot=none/\a.block<w.heap.size then some (.sl a.block 0 a.off n (some c))else none
 |_=>none
def qY:List Value->Option (List AV)
 |[]=>some []
 |v::l=>match K3 w v,qY l with
  |some a,some b=>some (a::b)
  |_,_=>none
def IZ:Th:=λx=>if x<w.heap.size then some (x,0)else none
def Tt(b:Nat):Option AO:=match w.heap[b]? with
 |some (.cells cs _ _)=>some (.ro λk m=>if k+m<=cs.size then qY w ((cs.toList.drop k).take m)else none)
 |_=>none
def KG:Nat->AH
 |0=>.z
 |n+1=>match Tt w n with
  |some o=>(KG n).set n o
  |none=>KG n
def hW:AH:=KG w w.heap.size
variable {w}
theorem OA{v:Value}{a:AV}(e:K3 w v=some a):aV (IZ w) a v/\v.oneCell'=true:=by
 unfold K3 at e;split at e
 .cases e;exact⟨rfl,rfl⟩
 .cases e;exact⟨rfl,rfl⟩
 .cases e
  rename_i s;obtain⟨d⟩:=s;exact⟨rfl,rfl⟩
 .cases e;exact⟨rfl,rfl⟩
 .rename_i a' n c
  split at e
  .rename_i h0;cases e;subst h0;exact⟨⟨_,_,rfl⟩,rfl⟩
  .split at e
   .rename_i h1
    cases e
    obtain⟨b,o,s⟩:=a';obtain⟨h2,h3⟩:=h1;dsimp only at h2 h3;subst h2;exact⟨⟨b,0,by unfold IZ;rw[if_pos h3],λe=>(by cases e),rfl⟩,rfl⟩
   .cases e
 .cases e
theorem CY:∀{l:List Value}{us:List AV},qY w l=some us->eU (IZ w) us l/\∀x∈l,x.oneCell'=true
 |[],_,e=>by cases e;exact⟨rfl,λx hx=>by cases hx⟩
 |v::l,us,e=>by
  unfold qY at e;split at e
  .rename_i a b h1 h2
   cases e
   obtain⟨g1,g2⟩:=OA h1;obtain⟨g3,g4⟩:=CY h2;exact⟨⟨v,l,g1,g3,rfl⟩,λx hx=>by rcases List.mem_cons.1 hx with rfl|hx;exact g2;exact g4 x hx⟩
  .cases e
theorem I4:∀{l m:List Value}{us bs:List AV},qY w l=some us->qY w m=some bs->qY w (l++m)=some (us++bs)
 |[],_,_,_,e,h=>by cases e;exact h
 |v::l,m,us,bs,e,h=>by
  unfold qY at e;split at e
  .rename_i a b h1 h2
   cases e
   show qY w (v::(l++m))=_;unfold qY;rw[h1,I4 h2 h];rfl
  .cases e
theorem Ey{α:Type}{f:α->List Value}{c:α->List AV}:∀{l:List α},(∀a∈l,qY w (f a)=some (c a))->qY w (l.flatMap f)=some (l.flatMap c)
 |[],_=>rfl
 |a::l,h=>by
  rw[List.flatMap_cons,List.flatMap_cons];exact I4 (h a (List.mem_cons_self ..)) (Ey λb hb=>h b (List.mem_cons_of_mem _ hb))
theorem I5:∀{l:List Value}{us:List AV},qY w l=some us->us.length=l.length:=λe=>(CY e).1.length.symm
theorem Rq{l:List Value}{us:List AV}(e:qY w l=some us)(i m:Nat):qY w ((l.drop i).take m)=some ((us.drop i).take m):=by
 induction l generalizing us i m with
 |nil=>cases e;simp;rfl
 |cons v l ih=>
  unfold qY at e;split at e
  .rename_i a b h1 h2
   cases e
   cases i with
   |succ i=>exact ih h2 i m
   |zero=>
    cases m with
    |zero=>rfl
    |succ m=>
     have:=ih h2 0 m;rw[List.drop_zero,List.drop_zero]at this⊢;rw[List.take_succ_cons,List.take_succ_cons];unfold qY;rw[h1,this]
  .cases e
theorem zN:∀(n x:Nat),(KG w n).get x=if x<n then Tt w x else none
 |0,x=>by unfold KG;rw[Tr.iI,if_neg (by omega)]
 |n+1,x=>by
  unfold KG;split
  .rename_i o ho
   rw[iq,zN n x];by_cases h:x=n
   .rw[if_pos h,if_pos (by omega),h,ho]
   .rw[if_neg h]
    by_cases h2:x<n
    .rw[if_pos h2,if_pos (by omega)]
    .rw[if_neg h2,if_neg (by omega)]
  .rename_i ho
   rw[zN n x];by_cases h:x=n
   .rw[if_neg (by omega),if_pos (by omega),h,ho]
   .by_cases h2:x<n
    .rw[if_pos h2,if_pos (by omega)]
    .rw[if_neg h2,if_neg (by omega)]
theorem CZ(x:Nat):(hW w).get x=Tt w x:=by
 unfold hW;rw[zN];by_cases h:x<w.heap.size
 .rw[if_pos h]
 .rw[if_neg h]
  unfold Tt;rw[Array.getElem?_eq_none (by omega)]
theorem G7{x:Nat}{o:AO}(e:Tt w x=some o):∃cs t fz,w.heap[x]?=some (.cells cs t fz)/\o= .ro λk m=>if k+m<=cs.size then qY w ((cs.toList.drop k).take m)else none:=by
 unfold Tt at e;split at e
 .rename_i cs t fz h
  cases e
  exact⟨cs,t,fz,h,rfl⟩
 .cases e
theorem RH.world{P:Program}{sl:FuncId->Sl}(hT:Lib.TabIs P w "internal/strconv.uint64pow10" .u64 Lib.pow10Tab):RH P sl (IZ w) (hW w) w.heap.size w where
 at_:=λx o e=>by
  rw[CZ]at e;obtain⟨cs,t,fz,h1,rfl⟩:=G7 e;refine⟨x,0,_,by unfold IZ;rw[if_pos (bH h1)],h1,cs,t,fz,rfl,λk m l hl=>?_⟩;dsimp only at hl;split at hl
  .rename_i hle
   obtain⟨g1,g2⟩:=CY hl;refine⟨_,g1,g2,λj v hv=>?_⟩;rw[List.getElem?_take]at hv;split at hv
   .rw[List.getElem?_drop]at hv
    rw[<-Array.getElem?_toList];exact hv
   .cases hv
  .cases hl
 inj:=λx y r c d _ _ e1 e2=>by
  unfold IZ at e1 e2;split at e1
  .split at e2
   .cases e1;cases e2;rfl
   .cases e2
  .cases e1
 new:=λx hx=>by unfold IZ;rw[if_neg (by omega)]
 gl:=λg e=>by
  unfold Lib.TabIs World.var? at hT;rw[e]at hT;replace hT:(match w.heap[g]? with|some (.cells cs _ _)=>some cs|_=>none)=some (Lib.pow10Tab.map λz=>Value.int .u64 z).toArray:=hT;split at hT
  .rename_i cs t fz h
   cases hT
   refine⟨t,fz,h,λ⟨x,c,hx,_⟩=>?_⟩;obtain⟨o,ho⟩:=Option.isSome_iff_exists.1 (gH hx);rw[ho]at hx;rw[CZ]at ho;obtain⟨_,_,_,_,rfl⟩:=G7 ho;cases hx
  .cases hT
theorem Wh{k:Nat}:¬Im (IZ w) (hW w) k:=λ⟨x,c,hx,_⟩=>by
 obtain⟨o,ho⟩:=Option.isSome_iff_exists.1 (gH hx);rw[ho]at hx;rw[CZ]at ho;obtain⟨_,_,_,_,rfl⟩:=G7 ho;cases hx
theorem KH{P:Program}{sl:FuncId->Sl}{O:OT}(hP:qO P)(hO:Ab P sl O)(hT:Lib.TabIs P w "internal/strconv.uint64pow10" .u64 Lib.pow10Tab){k g:Nat}{avs:List AV}{vs:List Value}{Q:AV->AH->Nat->Prop}
 (e:CW (lV P sl O k) g avs (hW w) w.heap.size Q)(ha:eU (IZ w) avs vs):Calls P g vs.toArray w λe w'=>∃v h' n' bR u,Q v h' n'/\e= .returned u/\aV bR v u/\Below w.heap.size w w':=by
 obtain⟨v,h',n',e1,e2⟩:=e;refine((ug hP hO k _ _ _ _ _ _ _ e1).2 (IZ w) w vs (RH.world hT) ha).mono ?_;rintro e w' ⟨bR,u,rfl,h1,h2,F⟩;exact⟨v,h',n',bR,u,e2,rfl,h1,⟨F.os,F.tape,F.output,F.size,λk hk=>F.block k hk Wh⟩⟩
theorem KI{b o:Nat}{cells:List Value}{us:List AV}(hb:b<w.heap.size)(hc:∀j v,cells[j]?=some v->w.cell? ⟨b,o+j,none⟩=some v)(h0:0<cells.length)(ha:qY w cells=some us):JB ((hW w).get b) o us:=by
 have h1:∃cs t fz,w.heap[b]?=some (.cells cs t fz):=by
  obtain⟨v,hv⟩:∃v,cells[0]?=some v:=⟨cells[0],List.getElem?_eq_some_iff.2 ⟨h0,rfl⟩⟩;have:=hc 0 v hv;unfold World.cell? at this;split at this
  .exact⟨_,_,_,‹_›⟩
  .cases this
 obtain⟨cs,t,fz,h1⟩:=h1;have h2:Tt w b=some (.ro λk m=>if k+m<=cs.size then qY w ((cs.toList.drop k).take m)else none):=by unfold Tt;rw[h1]
 have h3:∀j v,cells[j]?=some v->cs[o+j]?=some v:=λj v hv=>by
  have:=hc j v hv;unfold World.cell? at this;simpa only[h1,Option.isSome_none,Bool.false_eq_true,if_false]using this
 have hlen:o+cells.length<=cs.size:=by
  obtain⟨v,hv⟩:∃v,cells[cells.length - 1]?=some v:=⟨cells[cells.length - 1],List.getElem?_eq_some_iff.2 ⟨by omega,rfl⟩⟩;have:=(Array.getElem?_eq_some_iff.1 (h3 _ v hv)).1;omega
 have h4:(cs.toList.drop o).take cells.length=cells:=by
  apply List.ext_getElem?;intro j;rw[List.getElem?_take];by_cases hj:j<cells.length
  .rw[if_pos hj,List.getElem?_drop,Array.getElem?_toList]
   have hv:cells[j]?=some cells[j]:=List.getElem?_eq_getElem hj;rw[hv,h3 j _ hv]
  .rw[if_neg hj,List.getElem?_eq_none (by omega)]
 have hal:=I5 ha;refine .inr ⟨_,(CZ b).trans h2,λi m him=>?_⟩;rw[if_pos (by omega)];have h5:=Rq ha i m;rw[<-h4,List.drop_take,List.take_take,List.drop_drop,Nat.min_eq_left (by omega)]at h5;exact h5
end
end
end Go.Proofs.YtjoohkjmoghmoaaGreatDoor
namespace Go.Proofs
open Go.Shelf
def Tryz.laysDigits_ren:Go.Shelf.Ren:=⟨λ|284=>287|129=>204|317=>311|318=>312|n=>n,λ|53=>338|3=>3|212=>419|0=>0|4=>4|46=>248|5=>5|9=>9|n=>n,λ|17=>0|n=>n⟩
theorem Tryz.laysDigits:Go.Proofs.LaysM.n284 Tryz.prog Tryz.laysDigits_ren:={
 mixed:=by kernel_rfl
 f129:=Tryz.func204.trans (congrArg some (by kernel_rfl))
 f284:=Tryz.func287.trans (congrArg some (by kernel_rfl))
 f317:=Tryz.func311.trans (congrArg some (by kernel_rfl))
 f318:=Tryz.func312.trans (congrArg some (by kernel_rfl))
 t0:=Tryz.underlying0
 a0:=Tryz.isAgg0
 z0:=Tryz.sizeOf0
 v0:=Tryz.zeroValue0
 t3:=Tryz.underlying3
 a3:=Tryz.isAgg3
 z3:=Tryz.sizeOf3
 v3:=Tryz.zeroValue3
 t4:=Tryz.underlying4
 a4:=Tryz.isAgg4
 z4:=Tryz.sizeOf4
 v4:=Tryz.zeroValue4
 t5:=Tryz.underlying5
 a5:=Tryz.isAgg5
 z5:=Tryz.sizeOf5
 v5:=Tryz.zeroValue5
 t9:=Tryz.underlying9
 a9:=Tryz.isAgg9
 z9:=Tryz.sizeOf9
 v9:=Tryz.zeroValue9
 t46:=Tryz.underlying248
 a46:=Tryz.isAgg248
 z46:=Tryz.sizeOf248
 v46:=Tryz.zeroValue248
 t53:=Tryz.underlying338
 a53:=Tryz.isAgg338
 z53:=Tryz.sizeOf338
 v53:=Tryz.zeroValue338
 t212:=Tryz.underlying419
 a212:=Tryz.isAgg419
 z212:=Tryz.sizeOf419
 v212:=Tryz.zeroValue419
 g17:=by kernel_rfl
 i0:=by kernel_rfl
 i3:=by kernel_rfl
 i4:=by kernel_rfl
 i5:=by kernel_rfl
 i9:=by kernel_rfl
 i46:=by kernel_rfl
 i53:=by kernel_rfl
 i212:=by kernel_rfl
 m17:=by kernel_rfl}
end Go.Proofs
namespace Go.Proofs.YtjoohkjmoghmoaaGreatDoor
section
noncomputable section
theorem Rs:qO Tryz.prog:=by
 refine⟨by kernel_rfl,λg fn e=>?_⟩;have h:Tryz.prog.funcs.toList.all (λfn=> !(fn.name== "runtime.NumGoroutine"))=true:=by kernel_rfl
 have:=List.all_eq_true.1 h fn (by
  rw[<-Array.getElem?_toList]at e;exact List.mem_of_getElem? e)
 simpa using this
def OE:OT:=λf g args h n=>bc (Nat.beq g 43) (some (Uh f args h n)) (OD f g args h n)
theorem Tv:Ab Tryz.prog sl0 OD:=λf hf g args h n v h' n' e=>by
 obtain⟨e1,e2⟩:=bI (show bc (Nat.beq g KS) _ none=some _ from e);obtain rfl:=beq_eq e1;split at e2
 case h_2=>cases e2
 rename_i u;obtain⟨e3,e4⟩:=bI e2;obtain⟨e5,e6⟩:=bI e4;cases e6
 refine⟨⟨_,_,Tryz.func287,rfl⟩,λθ w vs H ha=>?_⟩;obtain⟨_,_,rfl,rfl,rfl⟩:=ha;have hg:Tryz.prog.globalNamed "internal/strconv.uint64pow10"=some 0:=by kernel_rfl
 obtain⟨ty,q,k1,_⟩:=H.gl 0 hg;have ht:Lib.TabIs Tryz.prog w "internal/strconv.uint64pow10" .u64 Lib.pow10Tab:=by
  unfold Lib.TabIs World.var?;rw[hg];simp only[Option.bind_some,k1]
 refine(Any.internal_strconv_numDigits Tryz.laysDigits u (Nat.le_of_ble_eq_true e3) (Nat.lt_succ_of_le (Nat.le_of_ble_eq_true e5)) w ht).mono ?_;rintro en w' ⟨rfl,rfl⟩;exact⟨θ,_,rfl,rfl,H,Fr.refl _ _ _⟩
theorem I6:Ab Tryz.prog sl0 OE:=λf hf g args h n v h' n' e=>by
 have e':bc (Nat.beq g 43) (some (Uh f args h n)) (OD f g args h n)=some (.ok v h' n'):=e;cases hg:Nat.beq g 43 with
 |true=>
  rw[hg,bF]at e';obtain rfl:=beq_eq hg;exact PY Rs hf (Option.some.inj e')
 |false=>rw[hg,gu]at e';exact Tv f hf g args h n v h' n' e'
end
end
section
noncomputable section
def kn(g0:Nat)(A:List AV)(G:AH)(n0:Nat)(v:AV)(O:OT):OT:=λf g args h n=>bc (bc (Nat.beq g g0) (bc (Nat.beq n n0) (bc (vw args A) (std G h n0) false) false) false) (some (.ok v h n)) (O f g args h n)
theorem OC{g0 n0 K:Nat}{A:List AV}{G:AH}{v:AV}{O O':OT}(hO':Ab Tryz.prog sl0 O')(e:WC v G n0 (lV Tryz.prog sl0 O' K g0 A G n0)=true)(hn:∀x o,G.get x=some o->x<n0)(hO:Ab Tryz.prog sl0 O):Ab Tryz.prog sl0 (kn g0 A G n0 v O):=λf hf g args h n v' h' n' e'=>by
 cases hc:bc (Nat.beq g g0) (bc (Nat.beq n n0) (bc (vw args A) (std G h n0) false) false) false with
 |false=>
  refine hO f hf g args h n v' h' n' ?_;rw[<-e'];unfold kn;rw[hc];rfl
 |true=>
  have e2:some (eZ.ok v h n)=some (.ok v' h' n'):=by rw[<-e'];unfold kn;rw[hc];rfl
  cases e2
  obtain⟨h1,h2⟩:=cO hc;obtain⟨h3,h4⟩:=cO h2;obtain⟨h5,h6⟩:=cO h4;obtain rfl:=beq_eq h1;obtain rfl:=beq_eq h3;obtain rfl:=qy _ _ h5;exact apart Rs hO' e h6 hn
theorem C8{G:AH}{k j:Nat}{a:AO}(hG:∀x o,G.get x=some o->x<k)(hj:j<k):∀x o,(G.set j a).get x=some o->x<k:=λx o e=>by
 rw[iq]at e;split at e
 .omega
 .exact hG x o e
end
end
noncomputable section
def sA:AV:=.agg [.i .i64 1,.sl 4 0 0 1 (some 1),.sl 5 0 0 1 (some 1),.sl 6 0 0 1 (some 1),.sl 7 0 0 1 (some 1),.i .i64 5,.k 1]
def sG:AH:=(((Tr.z.set 4 (AO.row 3 [.i .i64 0])).set 5 (.row 167 [.s [69,85,82],.i .i64 2,.i .i64 0,.i .i64 1,.i .i64 1])).set 6 (.row 169 [.i .i64 1,.i .i64 0,.i .i64 0,.i .i64 (.negSucc 0),.i .i64 (.negSucc 0),.i .i64 0,.i .i64 1])).set 7
 (.row 112 [.i .i64 1,.i .i64 0,.i .i64 0,.i .i64 1,.k 1,.i .i64 2,.i .i64 0,.b false,.b true,.i .i64 (.negSucc 0),.i .i64 (.negSucc 0),.i .i64 50,.i .i64 1,.i .i64 0,.i .i64 0,.b false])
theorem OG{k:Nat}(hk:8<=k):∀x o,sG.get x=some o->x<k:=λx o e=>by
 unfold sG at e;simp only[iq]at e;repeat' split at e
 all_goals first|omega|cases e
end
end Go.Proofs.YtjoohkjmoghmoaaGreatDoor

/- part -/
import Derived.Test.YtjoohkjmoghmoaaGreatDoorP17
import Derived.Shelf.Strconv.Itoa1
set_option linter.all false
namespace Go.Proofs.YtjoohkjmoghmoaaGreatDoor
section
noncomputable section
section
variable {h h':AH} {n n':Nat} {Q:AV->AH->Nat->Prop} {C:aA} {v:CS} {l:List Int}
@[reducible] def csC (C:aA) (w:CS):List AV:=w.av C
def wQ(st:LoopState)(pd:Option Code)(t:Tr AV):AO:=.lp st pd 11 t [61,62] (jE 11 0) (jF 11 0)
structure Ko(C:aA)(h0:AH)(n0 cb sb L:Nat)(A:HP)(P X:Nat->Prop)(h:AH)(m:Nat)(cv sv:AV)(vs:List CS)(fq:List (TS×aH)):Prop where
 c:h.get cb=some (.row 34 [cv])
 s:h.get sb=some (.row 35 [sv])
 gc:Gr h m 27 7 cv (csC C) vs
 gs:Gr h m 43 4 sv Wx fq
 ln:vs.length=fq.length
 bc:∀x,blk cv x->X x
 bs:∀x,blk sv x->X x
 kc:Kp (λx=>X x\/(P x\/x<n0)) h m (λh n=>∀w∈vs,aY h n w C)
 ks:Kp (λx=>X x\/(P x\/x<n0)) h m (λh n=>∀x∈fq,bX h n x.1 x.2)
 Xc:X cb
 Xs:X sb
 XL:X L
 Xr:∀x,n0<x->x<n0+4->X x
 Ln:n0+4<=L
 xs:∀x,X x->x<m/\¬P x/\n0<x
 r1:h.get (n0+1)=some (.row 34 [.k 1])
 r2:h.get (n0+1+1)=some (.row 35 [.k 1])
 r3:h.get (n0+1+1+1)=some (.row 31 [.i .i64 0])
 old:∀x,x<n0->h.get x=h0.get x
 le:n0+4<=m
 ps:∀x,P x->n0+4<=x/\x<m
 a:Kp (λx=>X x\/P x) h m A
def S_(C:aA)(h0:AH)(n0 cb sb L:Nat)(t:Tr AV)(A:HP)(P X:Nat->Prop)(h:AH)(m:Nat)(S:List aH):Prop:=
 ∃cv sv vs fq,Ko C h0 n0 cb sb L A P X h m cv sv vs fq/\fq.map (·.2)=S/\h.get L=some (wQ .ready none t)
def RuE(C:aA)(l:List Int)(h0:AH)(n0 L:Nat)(t:Tr AV)(h:AH)(m:Nat):Prop:=∃e:Int,e≠0/\h.get L=some (wQ .done (some .ret) t)/\h.get (n0+1)=some (.row 34 [.k 1])/\h.get (n0+1+1)=some (.row 35 [.k 1])/\h.get (n0+1+1+1)=some (.row 31 [.i .i64 e])/\(∀x,x<n0->h.get x=h0.get x)/\n0+4<=m/\n0+4<=L/\¬∃S',eX C C.first l S'
theorem wR(hv:C.valid=true):C.units.length<=20:=by
 unfold aA.valid aA.over at hv;simp only[Bool.and_eq_true,Bool.not_eq_true',Bool.or_eq_false_iff,decide_eq_false_iff_not]at hv;omega
section
variable {h0:AH} {n0 cb sb L:Nat} {t:Tr AV} {A:HP} {P X:Nat->Prop} {S:List aH} {cv sv:AV} {vs:List CS} {fq:List (TS×aH)}
theorem Ko.up(a:Ko C h0 n0 cb sb L A P X h n cv sv vs fq)(u:Up h n h' n'):Ko C h0 n0 cb sb L A P X h' n' cv sv vs fq:=by
 have le:=a.le;have ul:=u.le;exact⟨(u.old _ (a.xs _ a.Xc).1).trans a.c,(u.old _ (a.xs _ a.Xs).1).trans a.s,a.gc.up u,a.gs.up u,a.ln,a.bc,a.bs,a.kc.up u,a.ks.up u,a.Xc,a.Xs,a.XL,a.Xr,a.Ln,λx hx=>⟨by have:=(a.xs x hx).1;omega,(a.xs x hx).2⟩,
  (u.old _ (by omega)).trans a.r1,(u.old _ (by omega)).trans a.r2,(u.old _ (by omega)).trans a.r3,λx hx=>(u.old x (by omega)).trans (a.old x hx),by omega,λx hx=>⟨(a.ps x hx).1,by have:=(a.ps x hx).2;omega⟩,a.a.up u⟩
theorem Ko.set(a:Ko C h0 n0 cb sb L A P X h n cv sv vs fq){b:Nat}(o:AO)(hb:X b\/P b)(h1:b≠cb)(h2:b≠sb)(h3:¬blk cv b)(h4:¬blk sv b)(nb:n0+4<=b):Ko C h0 n0 cb sb L A P X (h.set b o) n cv sv vs fq:=by
 exact⟨(ay (Ne.symm h1)).trans a.c,(ay (Ne.symm h2)).trans a.s,a.gc.on (Nat.le_refl _) λx _ hx=>ay λe=>h3 (by rw[<-e];exact hx),a.gs.on (Nat.le_refl _) λx _ hx=>ay λe=>h4 (by rw[<-e];exact hx),a.ln,a.bc,a.bs,a.kc.set (.inl (hb.imp id .inl)) (Nat.le_refl _),a.ks.set (.inl (hb.imp id .inl)) (Nat.le_refl _),a.Xc,a.Xs,a.XL,a.Xr,a.Ln,a.xs,
  (ay (by omega)).trans a.r1,(ay (by omega)).trans a.r2,(ay (by omega)).trans a.r3,λx hx=>(ay (by omega)).trans (a.old x hx),a.le,a.ps,a.a.set (.inl hb) (Nat.le_refl _)⟩
theorem Ko.pv(a:Ko C h0 n0 cb sb L A P X h n cv sv vs fq){b:Nat}(o:AO)(hb:P b):Ko C h0 n0 cb sb L A P X (h.set b o) n cv sv vs fq:=by
 have ne:∀x,X x->b≠x:=λx hx e=>(a.xs x hx).2.1 (by rw[<-e];exact hb);exact a.set o (.inr hb) (ne _ a.Xc) (ne _ a.Xs) (λe=>ne _ (a.bc _ e) rfl) (λe=>ne _ (a.bs _ e) rfl) (a.ps b hb).1
theorem Ko.JJ(a:Ko C h0 n0 cb sb L A P X h n cv sv vs fq){st:LoopState}{pd:Option Code}{t:Tr AV}(hL:h.get L=some (wQ st pd t))(o:AO):Ko C h0 n0 cb sb L A P X (h.set L o) n cv sv vs fq:=by
 refine a.set o (.inl a.XL) (λe=>?_) (λe=>?_) (λe=>?_) (λe=>?_) a.Ln
 .have:=a.c;rw[<-e,hL]at this;cases this
 .have:=a.s;rw[<-e,hL]at this;cases this
 .obtain⟨_,e'⟩:=a.gc.ty e;rw[hL]at e';cases e'
 .obtain⟨_,e'⟩:=a.gs.ty e;rw[hL]at e';cases e'
theorem S_.up(a:S_ C h0 n0 cb sb L t A P X h n S)(u:Up h n h' n'):S_ C h0 n0 cb sb L t A P X h' n' S:=by
 obtain⟨cv,sv,vs,fq,a,e,l⟩:=a;exact⟨cv,sv,vs,fq,a.up u,e,(u.old _ (a.xs _ a.XL).1).trans l⟩
theorem S_.pv(a:S_ C h0 n0 cb sb L t A P X h n S){b:Nat}(o:AO)(hb:P b):S_ C h0 n0 cb sb L t A P X (h.set b o) n S:=by
 obtain⟨cv,sv,vs,fq,a,e,l⟩:=a;exact⟨cv,sv,vs,fq,a.pv o hb,e,(ay λe=>(a.xs _ a.XL).2.1 (by rw[e];exact hb)).trans l⟩
end
theorem VO(K:Nat){tv:AV}{un:Int}(hC:aY h n v C)(ho:C.off.length<=1000000)(hl:l.length<=100000)(hT:SL h n 1 tv kD l)
 (lK:C.valid=false->∀h' n',Up h n h' n'->Q (.bQ [.k 1,.k 1,.i .i64 1]) h' n')
 (uS:C.valid=true->4000<l.length->∀h' n',Up h n h' n'->Q (.bQ [.k 1,.k 1,.i .i64 3]) h' n')
 (KN:C.valid=true->l.length<=4000->(¬∃S,eX C C.first l S)->∀e h' n',e≠0->Up h n h' n'->Q (.bQ [.k 1,.k 1,.i .i64 e]) h' n')
 (ZF:C.valid=true->l.length<=4000->∀cv sv vs fq h' n',eX C C.first l (fq.map (·.2))->vs.length=fq.length->Up h n h' n'->Kp (λx=>x<n) h' n' (λh n=>(SL h n 7 cv (csC C) vs/\SL h n 4 sv Wx fq)/\(∀w∈vs,aY h n w C)/\∀x∈fq,bX h n x.1 x.2)->Q (.bQ [cv,sv,.i .i64 0]) h' n'):
 CW (EF (K+11)) 11 [.agg (v.av C),.k 1,.i .i64 un,tv] h n Q:=by
 refine aD c11 rfl ?_;repeat' (first|(simp (disch:=omega) only[go_sem,simprocAttr,m11,CS.av])|(refine aT ?_ ?_<;>(intro hb hd;rw[hb];clear hb))|(with_reducible refine aj ?_))
 generalize hh:Tr.set (Tr.set (Tr.set (Tr.set h n _) (n+1) _) (n+1+1) _) (n+1+1+1) _=h0;have u0:Up h n h0 (n+4):=by rw[<-hh];exact aI
 have g0:h0.get n=some (.row 27 (v.av C)):=by rw[<-hh];simp (disch:=omega) only[go_sem]
 have g1:h0.get (n+1)=some (.row 34 [.k 1]):=by rw[<-hh];simp (disch:=omega) only[go_sem]
 have g2:h0.get (n+1+1)=some (.row 35 [.k 1]):=by rw[<-hh];simp (disch:=omega) only[go_sem]
 have g3:h0.get (n+1+1+1)=some (.row 31 [.i .i64 0]):=by rw[<-hh];simp (disch:=omega) only[go_sem]
 clear hh;rw[aU];show CW _ 17 _ h0 (n+4) _;refine zn _ (hC.up u0) ho (λhv h1 n1 u1=>?_) λhv Sz h1 n1 u1 _=>?_
 .have e1:=u1.le
  have g11:=(u1.old _ (show n+1<n+4 by omega)).trans g1;have g21:=(u1.old _ (show n+1+1<n+4 by omega)).trans g2;have g31:=(u1.old _ (show n+1+1+1<n+4 by omega)).trans g3;simp (disch:=omega) only[go_sem,simprocAttr,Sj,g11,g21,g31,Int.reduceEq];have ux:=u0.trans u1;exact lK hv _ _ aI
 .have e1:=u1.le
  have g01:=(u1.old _ (show n<n+4 by omega)).trans g0;have g11:=(u1.old _ (show n+1<n+4 by omega)).trans g1;have g21:=(u1.old _ (show n+1+1<n+4 by omega)).trans g2;have g31:=(u1.old _ (show n+1+1+1<n+4 by omega)).trans g3;have ux:=u0.trans u1;repeat' (first|(simp (disch:=omega) only[go_sem,simprocAttr,TS.av,AJ,hT.len])|(refine aT ?_ ?_<;>(intro hb hd;rw[hb];clear hb))|(with_reducible refine aj ?_))
  .simp (disch:=omega) only[go_sem,simprocAttr,g11,g21,g31]
   exact uS hv (by omega) _ _ aI
  generalize hh:Tr.set (Tr.set h1 n1 _) n1 _=h2;have u2:Up h1 n1 h2 (n1+1):=by rw[<-hh];exact aI
  clear hh;rw[aU];refine Oa (K+6) λob h3 n3 u3 _=>?_;have e3:=u3.le;simp (disch:=omega) only[go_sem,simprocAttr,SY];refine b_ 0 (λk hk nk G=>h3=hk/\n3=nk/\G=[(3,tv),(4,.p n 0),(8,.p (n+1) 0),(9,.p (n+1+1) 0),(10,.p (n+1+1+1) 0),(13,.k 1)]) (by omega) (by omega) (by omega) (by omega) (λk h8 n8 G ⟨_,_,e⟩=>by subst e;exact⟨rfl,rfl⟩) ⟨rfl,rfl,_,⟨rfl,rfl,rfl⟩,by(repeat' (first|exact aR|refine aN rfl ?_))⟩ (λk _ _ _ hk=>absurd hk (by omega)) ?_;rintro _ _ G ⟨rfl,rfl,rfl⟩;have Ii:Up h1 n1 h3 n3:=u2.trans u3;have g03:=(Ii.old _ (show n<n1 by omega)).trans g01;have g13:=(Ii.old _ (show n+1<n1 by omega)).trans g11;have g23:=(Ii.old _ (show n+1+1<n1 by omega)).trans g21;have g33:=(Ii.old _ (show n+1+1+1<n1 by omega)).trans g31;have KM:=ux.trans Ii;simp (disch:=omega) only[go_sem,simprocAttr,g03,CS.av];generalize hh:Tr.set (Tr.set h3 n3 _) (n3+1) _=h4;have u4:Up h3 n3 h4 (n3+2):=by rw[<-hh];exact aI
  have c4:h4.get n3=some (.row 34 [.k 1]):=by rw[<-hh];simp (disch:=omega) only[go_sem]
  have s4:h4.get (n3+1)=some (.row 35 [.k 1]):=by rw[<-hh];simp (disch:=omega) only[go_sem]
  clear hh;rw[aU];show CW _ 36 [.agg (v.av C),.k 1,tv] h4 (n3+2) _;refine Kn (K+9) (v:=v) (C:=C) (λcb lb tb h5 n5 u5 qc ql qt lc ll lt lc' ll' lt'=>?_) hT.cl;have e5:=u5.le;simp (disch:=omega) only[go_sem,simprocAttr];refine xH rfl λt hF=>?_;show CW _ 65 [.y n5,.p cb 0,.p lb 0,.p tb 0] _ _ _;refine GD (K:=K) (v:=v) (C:=C) (l:=l) (cb:=cb) (lb:=lb) (tb:=tb) (tv:=tv) (yr:=n5) (J:=S_ C h n n3 (n3+1) n5 t (λh m=>VN h m cb lb tb v C tv l)) (E:=RuE C l h n n5 t) hv ho hl ?_ ?_ ?_
  .have cL:∀y,y<n5->(Tr.set h5 n5 (AO.lp LoopState.ready none 11 t [61,62] (jE 11 0) (jF 11 0))).get y=h5.get y:=λy hy=>ay (by omega)
   have c45:=(u5.old n3 (by omega)).trans c4;have Zd:=(u5.old (n3+1) (by omega)).trans s4;have u35:=u4.trans u5;have OG:=KM.trans u35;have u5L:Up h5 n5 (Tr.set h5 n5 (AO.lp LoopState.ready none 11 t [61,62] (jE 11 0) (jF 11 0))) (n5+1):=by exact aI
   have ok:=aA.ok hv;refine⟨λP X h n h' n' S a u=>a.up u,λP X h n S b o a hb=>a.pv o hb,λP X h n S a x hx=>let⟨_,_,_,_,a,_,_⟩:=a;⟨(a.xs x hx).1,(a.xs x hx).2.1⟩,λP X h n S a=>let⟨_,_,_,_,a,_,_⟩:=a;a.a.use,?_,?_,?_⟩
   .refine⟨λx=>x=n3\/x=n3+1\/x=n5\/n<x/\x<n+4,λx hx=>by omega,λP h6 n6 u6 hP=>?_⟩
    have e6:=u6.le;have GH:∀x,x<n5->h6.get x=h5.get x:=λx hx=>(u6.old x (by omega)).trans (cL x hx);refine⟨.k 1,.k 1,[],[],⟨(GH _ (by omega)).trans c45,(GH _ (by omega)).trans Zd,Gr.nil λ_=>rfl,Gr.nil λ_=>rfl,rfl,λx hx=>absurd hx fA,λx hx=>absurd hx fA,λ_ _ _ _ w hw=>(by cases hw),λ_ _ _ _ x hx=>(by cases hx),.inl rfl,.inr (.inl rfl),.inr (.inr (.inl rfl)),λx h1 h2=>.inr (.inr (.inr ⟨h1,h2⟩)),by omega,
     λx hx=>⟨by omega,λhp=>by have:=(hP x hp).1;omega,by omega⟩,(GH _ (by omega)).trans ((u35.old _ (by omega)).trans g13),(GH _ (by omega)).trans ((u35.old _ (by omega)).trans g23),(GH _ (by omega)).trans ((u35.old _ (by omega)).trans g33),λx hx=>(GH _ (by omega)).trans (OG.old x hx),by omega,λx hx=>⟨by have:=(hP x hx).1;omega,(hP x hx).2⟩,?_⟩,rfl,(u6.old n5 (by omega)).trans aG⟩
    intro h7 n7 l7 s7;have nx:∀x,x<n5->x≠n3->x≠n3+1->¬(n<x/\x<n+4)->h7.get x=h5.get x:=λx hx h1 h2 h3=>(s7 x (by omega) λe=>by
     rcases e with e|e
     .omega
     .have:=(hP x e).1;omega).trans (GH x hx)
    have un:Up h n h7 n7:=⟨by omega,λx hx=>(nx x (by omega) (by omega) (by omega) (by omega)).trans (OG.old x hx)⟩;exact⟨(nx _ (by omega) (by omega) (by omega) (by omega)).trans qc,(nx _ (by omega) (by omega) (by omega) (by omega)).trans ql,(nx _ (by omega) (by omega) (by omega) (by omega)).trans qt,by omega,by omega,by omega,hC.up un,hT.up un⟩
   .rintro P X h6 n6 S s tq ⟨cv,sv,vs,fq,a,hSS,lp⟩ rt so kq
    have XL:=a.xs _ a.XL;have Xc:=a.xs _ a.Xc;have Xs:=a.xs _ a.Xs;have ale:=a.le;have hlen:fq.length<=100001:=by have:=rt.1;rw[<-hSS]at this;simp at this;omega
    refine RW.mono (uj (d:=19) (F:=_) (bs:=[true,true]) (R:=λb h2 n2=>∃X',b=true/\S_ C h n n3 (n3+1) n5 t (λh m=>VN h m cb lb tb v C tv l) P X' h2 n2 (S++[s])/\n6<=n2/\(∀x,x<n6->¬X x->h2.get x=h6.get x)/\∀x,X' x->X x\/n6<=x) lp hF (by kernel_rfl) rfl NG NH ?_) ?_
    .simp (disch:=omega) only[go_sem,simprocAttr,Gf,PX,CS.av,TS.av,List.cons_append,List.nil_append]
     generalize hx:Tr.set (Tr.set h6 n6 _) n6 _=hA;have uA:Up h6 n6 hA (n6+1):=by rw[<-hx];exact aI
     have gA:hA.get n6=some (.row 121 [.i .i64 C.aC,v.h,v.u,v.a,v.k,.i .i64 C.days,v.o,.i .i64 s.day,tq.h,tq.u,tq.m]):=by rw[<-hx];exact aG
     clear hx;have lpA:=(uA.old n5 XL.1).trans lp;refine⟨_,_,_,_,_,_,lpA,?_⟩;have B7:=(a.up uA).JJ lpA (.lp .busy none 11 t [61,62] (jE 11 0) (jF 11 0));have lp7:(hA.set n5 (.lp .busy none 11 t [61,62] (jE 11 0) (jF 11 0))).get n5=some (.lp .busy none 11 t [61,62] (jE 11 0) (jF 11 0)):=aG;have g7:(hA.set n5 (.lp .busy none 11 t [61,62] (jE 11 0) (jF 11 0))).get n6=some (.row 121 [.i .i64 C.aC,v.h,v.u,v.a,v.k,.i .i64 C.days,v.o,.i .i64 s.day,tq.h,tq.u,tq.m]):=by rw[ay (by omega)];exact gA
     have s67:∀x,x<n6->x≠n5->(hA.set n5 (.lp .busy none 11 t [61,62] (jE 11 0) (jF 11 0))).get x=h6.get x:=λx hx hne=>by rw[ay hne,uA.old x hx]
     generalize hA.set n5 _=h7 at*;have c7:=B7.c;have s7:=B7.s;repeat' (first|(simp (disch:=omega) only[go_sem,simprocAttr,Gg,g7,c7])|(refine aT ?_ ?_<;>(intro hb hd;rw[hb];clear hb))|(with_reducible refine aj ?_))
     rw[bR];have A7:=(B7.up (Up.wide h7 (show n6+1<=n6+1+2 by omega))).a.use;refine Cr (K+7) (v:=v) (A7.con) ok ho (by have:=wR hv;omega) λw h8 n8 u8 k8=>?_;have e8:=u8.le;have c8:=(u8.old _ (by omega)).trans c7;have g8:=(u8.old n6 (by omega)).trans g7;have lp8:=(u8.old n5 (by omega)).trans lp7;repeat' (first|(simp (disch:=omega) only[go_sem,simprocAttr,c8,c7])|(refine aT ?_ ?_<;>(intro hb hd;rw[hb];clear hb))|(with_reducible refine aj ?_))
     have u9:Up h7 (n6+1) (Tr.set h8 (n6+1) (.row 27 [.i .i64 C.aC,w.h,w.u,w.a,w.k,.i .i64 C.days,w.o])) n8:=⟨by omega,λx hx=>by rw[ay (by omega),u8.old x (by omega)]⟩;have B9:=B7.up u9;have k9:=k8.set (b:=n6+1) (o:=.row 27 [.i .i64 C.aC,w.h,w.u,w.a,w.k,.i .i64 C.days,w.o]) (.inl (by omega)) (Nat.le_refl _);have g9:(Tr.set h8 (n6+1) (.row 27 [.i .i64 C.aC,w.h,w.u,w.a,w.k,.i .i64 C.days,w.o])).get n6=some (.row 121 [.i .i64 C.aC,v.h,v.u,v.a,v.k,.i .i64 C.days,v.o,.i .i64 s.day,tq.h,tq.u,tq.m]):=by rw[ay (by omega)];exact g8
     have lp9:(Tr.set h8 (n6+1) (.row 27 [.i .i64 C.aC,w.h,w.u,w.a,w.k,.i .i64 C.days,w.o])).get n5=some (.lp .busy none 11 t [61,62] (jE 11 0) (jF 11 0)):=by rw[ay (by omega)];exact lp8
     have q9:(Tr.set h8 (n6+1) (.row 27 [.i .i64 C.aC,w.h,w.u,w.a,w.k,.i .i64 C.days,w.o])).get (n6+1)=some (.row 27 [.i .i64 C.aC,w.h,w.u,w.a,w.k,.i .i64 C.days,w.o]):=aG;have s79:∀x,x<n6+1->(Tr.set h8 (n6+1) (.row 27 [.i .i64 C.aC,w.h,w.u,w.a,w.k,.i .i64 C.days,w.o])).get x=h7.get x:=u9.old;generalize Tr.set h8 (n6+1) _=h9 at*;obtain⟨cv',hB,nB,rB,gB,lB,sB,bB⟩:=B9.gc.app (l2:=[w]) (y:=.sl (n6+1) 0 0 1 (some 1)) rfl (by
      show bnd (iD (h9.get (n6+1)) 0 _) _=_;rw[q9];rfl) (by have:=B9.ln;simp;omega)
     have ncb:∀x,x<n6+1->(∀cells,h7.get x≠some (.row 27 cells))->¬blk cv x:=λx hx hne e=>by
      obtain⟨cells,hc⟩:=B7.gc.ty e;exact hne _ hc
     have nsb:∀x,(∀cells,h7.get x≠some (.row 43 cells))->¬blk sv x:=λx hne e=>by
      obtain⟨cells,hc⟩:=B7.gs.ty e;exact hne _ hc
     have c9:=(s79 n3 (by omega)).trans c7;have cB:=(sB n3 (by omega) (ncb n3 (by omega) λc e=>by rw[c7]at e;cases e)).trans c9;have tB:=(sB (n3+1) (by omega) (ncb _ (by omega) λc e=>by rw[s7]at e;cases e)).trans ((s79 (n3+1) (by omega)).trans s7);have gB6:=(sB n6 (by omega) (λe=>by have:=(a.xs _ (a.bc _ e)).1;omega)).trans g9;have lpB:=(sB n5 (by omega) (ncb _ (by omega) λc e=>by rw[lp7]at e;cases e)).trans lp9;have gsB:Gr hB nB 43 4 sv Wx fq:=B9.gs.on lB λx hx e=>sB x hx λe2=>by
      obtain⟨_,q1⟩:=B9.gc.ty e2;obtain⟨_,q2⟩:=B9.gs.ty e;rw[q1]at q2;cases q2
     repeat' (first|(simp (disch:=omega) only[go_sem,simprocAttr,rB,gB.cl,cB,c8,tB,gB6])|(refine aT ?_ ?_<;>(intro hb hd;rw[hb];clear hb))|(with_reducible refine aj ?_))
     generalize hx:(Tr.set hB n3 (.row 34 [cv'])).set nB _=hD;have sD:∀x,x<nB->x≠n3->hD.get x=hB.get x:=λx hx1 hx2=>by rw[<-hx,ay (by omega),ay hx2]
     have cD:hD.get n3=some (.row 34 [cv']):=by rw[<-hx,ay (by omega)];exact aG
     have qD:hD.get nB=some (.row 43 [.i .i64 s.day,tq.h,tq.u,tq.m]):=by rw[<-hx];exact aG
     clear hx;have gsD:Gr hD (nB+1) 43 4 sv Wx fq:=gsB.on (by omega) λx hx e=>sD x hx λe2=>by
      obtain⟨_,q2⟩:=gsB.ty e;rw[e2,cB]at q2;cases q2
     obtain⟨Q7,hE,nE,rE,gE,lE,sE,bE⟩:=gsD.app (l2:=[(tq,s)]) (y:=.sl nB 0 0 1 (some 1)) rfl (by
      show bnd (iD (hD.get nB) 0 _) _=_;rw[qD];rfl) (by simp;omega)
     have nsD:∀x,x<n6+1->(∀cells,h7.get x≠some (.row 43 cells))->¬blk sv x:=λx _=>nsb x;have tE:=(sE (n3+1) (by omega) (nsb _ λc e=>by rw[s7]at e;cases e)).trans ((sD _ (by omega) (by omega)).trans tB);have cE:=(sE n3 (by omega) (nsb _ λc e=>by rw[c7]at e;cases e)).trans cD;have lpE:=(sE n5 (by omega) (nsb _ λc e=>by rw[lp7]at e;cases e)).trans ((sD _ (by omega) (by omega)).trans lpB);repeat' (first|(simp (disch:=omega) only[go_sem,simprocAttr,rE,gE.cl,tE])|(refine aT ?_ ?_<;>(intro hb hd;rw[hb];clear hb))|(with_reducible refine aj ?_))
     have agn:(Tr.set hE (n3+1) (.row 35 [Q7])).get n5=some (.lp .busy none 11 t [61,62] (jE 11 0) (jF 11 0)):=by rw[ay (by omega)];exact lpE
     refine⟨_,_,_,_,_,_,_,agn,λx=>X x\/blk cv' x\/blk Q7 x,rfl,?_⟩;have WJ:∀x,X x->x<n6:=λx hx=>(a.xs x hx).1;have same':∀x,x<n6->x≠n5->x≠n3+1->x≠n3->¬blk cv x->¬blk sv x->((Tr.set hE (n3+1) (.row 35 [Q7])).set n5 (wQ .ready none t)).get x=h6.get x:=λx hx d1 d2 d3 d4 d5=>by
      rw[ay d1,ay d2,sE x (by omega) d5,sD x (by omega) d3,sB x (by omega) d4,s79 x (by omega),s67 x hx d1]
     have same:∀x,x<n6->¬X x->((Tr.set hE (n3+1) (.row 35 [Q7])).set n5 (wQ .ready none t)).get x=h6.get x:=λx hx hX=>
      same' x hx (λe=>hX (by rw[e];exact a.XL)) (λe=>hX (by rw[e];exact a.Xs)) (λe=>hX (by rw[e];exact a.Xc)) (λe=>hX (a.bc x e)) (λe=>hX (a.bs x e))
     have boxes:∀(x e:Nat)(c:List AV),n<x->x<n+4->h6.get x=some (.row e c)->e≠27->e≠43->((Tr.set hE (n3+1) (.row 35 [Q7])).set n5 (wQ .ready none t)).get x=some (.row e c):=λx e c h1 h2 h3 h4 h5=>
      (same' x (by omega) (by omega) (by omega) (by omega) (λe=>by obtain⟨_,q⟩:=a.gc.ty e;rw[h3]at q;cases q;exact h4 rfl) (λe=>by obtain⟨_,q⟩:=a.gs.ty e;rw[h3]at q;cases q;exact h5 rfl)).trans h3
     have QF:∀x,(X x\/blk cv' x\/blk Q7 x)->X x\/n6<=x:=λx e=>by
      rcases e with e|e|e
      .exact .inl e
      .rcases bB x e with e|e
       .exact .inl (a.bc x e)
       .exact .inr (by omega)
      .rcases bE x e with e|e
       .exact .inl (a.bs x e)
       .exact .inr (by omega)
     refine⟨⟨cv',Q7,vs++[w],fq++[(tq,s)],⟨?_,?_,?_,?_,by simp[a.ln],λx hx=>.inr (.inl hx),λx hx=>.inr (.inr hx),?_,?_,.inl a.Xc,.inl a.Xs,.inl a.XL,λx h1 h2=>.inl (a.Xr x h1 h2),a.Ln,λx hx=>?_,?_,?_,?_,λx hx=>?_,by omega,λx hx=>⟨(a.ps x hx).1,by have:=(a.ps x hx).2;omega⟩,a.a.QI (by omega) same QF⟩,by simp[hSS],aG⟩,by omega,same,QF⟩
     .rw[ay (by omega),ay (by omega)];exact cE
     .rw[ay (by omega)];exact aG
     .refine gB.on (by omega) λx hx e=>?_
      obtain⟨_,q⟩:=gB.ty e;have d1:x≠n5:=λe=>by rw[e,lpB]at q;cases q
      have d2:x≠n3+1:=λe=>by rw[e,tB]at q;cases q
      have d3:x≠n3:=λe=>by rw[e,cB]at q;cases q
      rw[ay d1,ay d2,sE x (by omega) (λe2=>by obtain⟨_,q2⟩:=gsB.ty e2;rw[q]at q2;cases q2),sD x hx d3]
     .refine gE.on (Nat.le_refl _) λx hx e=>?_
      obtain⟨_,q⟩:=gE.ty e;have d1:x≠n5:=λe=>by rw[e,lpE]at q;cases q
      have d2:x≠n3+1:=λe=>by rw[e,tE]at q;cases q
      rw[ay d1,ay d2]
     .have kw:Kp (λx=>(X x\/blk cv' x\/blk Q7 x)\/(P x\/x<n)) ((Tr.set hE (n3+1) (.row 35 [Q7])).set n5 (wQ .ready none t)) nE (λh n=>aY h n w C):=by
       refine k9.tr (by omega) (λx hx hz=>?_) λx hx e=>?_
       .rw[ay (by omega),ay (by omega),sE x (by omega) (λe=>by have:=WJ x (a.bs x e);omega),sD x (by omega) (by omega),sB x hx (λe=>by have:=WJ x (a.bc x e);omega)]
       .rcases e with e|e
        .rcases e with e|e|e
         .have:=WJ x e;omega
         .rcases bB x e with e|e
          .have:=WJ x (a.bc x e);omega
          .omega
         .rcases bE x e with e|e
          .have:=WJ x (a.bs x e);omega
          .omega
        .rcases e with e|e
         .have:=(a.ps x e).2;omega
         .omega
      exact((a.kc.QI (by omega) same QF).and kw).wk λh n e w' hw'=>by
       rcases List.mem_append.1 hw' with hw'|hw'
       .exact e.1 w' hw'
       .rw[List.mem_singleton]at hw';subst hw';exact e.2
     .exact((a.ks.QI (by omega) same QF).and ((kq.le (Y:=λx=>X x\/(P x\/x<n)) λx _ e=>e.imp id λe=>e.imp id λe=>by omega).QI (by omega) same QF)).wk λh n e x hx=>by
       rcases List.mem_append.1 hx with hx|hx
       .exact e.1 x hx
       .rw[List.mem_singleton]at hx;subst hx;exact e.2
     .refine⟨?_,λhp=>?_,?_⟩
      .rcases hx with hx|hx|hx
       .have:=WJ x hx;omega
       .have:=gB.fE hx;omega
       .exact gE.fE hx
      .rcases QF x hx with e|e
       .exact(a.xs x e).2.1 hp
       .have:=(a.ps x hp).2;omega
      .rcases QF x hx with e|e
       .exact(a.xs x e).2.2
       .omega
     .exact boxes _ _ _ (by omega) (by omega) a.r1 (by decide) (by decide)
     .exact boxes _ _ _ (by omega) (by omega) a.r2 (by decide) (by decide)
     .exact boxes _ _ _ (by omega) (by omega) a.r3 (by decide) (by decide)
     .exact(same _ (by omega) λe=>by have:=(a.xs _ e).2.2;omega).trans (a.old x hx)
    .rintro u h7 n7 ⟨b,rfl,X',hb,r⟩
     exact⟨X',by rw[hb],r⟩
   .rintro P X h6 n6 S e c0 c1 c2 c3 ⟨cv,sv,vs,fq,a,hSS,lp⟩ he hn
    have XL:=a.xs _ a.XL;have ale:=a.le;refine RW.mono (uj (d:=19) (F:=_) (bs:=[true,true]) (R:=λb h2 n2=>b=false/\RuE C l h n n5 t h2 n2) lp hF (by kernel_rfl) rfl NG NH ?_) ?_
    .simp (disch:=omega) only[go_sem,simprocAttr,Gf,PX,CS.av,TS.av,List.cons_append,List.nil_append]
     generalize hx:Tr.set (Tr.set h6 n6 _) n6 _=hA;have uA:Up h6 n6 hA (n6+1):=by rw[<-hx];exact aI
     clear hx;have lpA:=(uA.old n5 XL.1).trans lp;refine⟨_,_,_,_,_,_,lpA,?_⟩;have r17:(hA.set n5 (.lp .busy none 11 t [61,62] (jE 11 0) (jF 11 0))).get (n+1)=some (.row 34 [.k 1]):=by rw[ay (by omega),uA.old _ (by omega)];exact a.r1
     have r27:(hA.set n5 (.lp .busy none 11 t [61,62] (jE 11 0) (jF 11 0))).get (n+1+1)=some (.row 35 [.k 1]):=by rw[ay (by omega),uA.old _ (by omega)];exact a.r2
     have r37:(hA.set n5 (.lp .busy none 11 t [61,62] (jE 11 0) (jF 11 0))).get (n+1+1+1)=some (.row 31 [.i .i64 0]):=by rw[ay (by omega),uA.old _ (by omega)];exact a.r3
     have lp7:(hA.set n5 (.lp .busy none 11 t [61,62] (jE 11 0) (jF 11 0))).get n5=some (.lp .busy none 11 t [61,62] (jE 11 0) (jF 11 0)):=aG;have o7:∀x,x<n->(hA.set n5 (.lp .busy none 11 t [61,62] (jE 11 0) (jF 11 0))).get x=h.get x:=λx hx=>by rw[ay (by omega),uA.old x (by omega)];exact a.old x hx
     generalize hA.set n5 _=h7 at*;have hd:(decide (e=0))=false:=decide_eq_false he;simp (disch:=omega) only[go_sem,simprocAttr,Gg,hd,r17,r27,r37];refine⟨_,_,_,_,_,_,_,by simp (disch:=omega) only[go_sem];exact lp7,rfl,e,he,aG,by simp (disch:=omega) only[go_sem],by simp (disch:=omega) only[go_sem],by simp (disch:=omega) only[go_sem],λx hx=>?_,by omega,by omega,hn⟩;simp (disch:=omega) only[go_sem];exact o7 x hx
    .rintro u h7 n7 ⟨b,rfl,hb,r⟩
     exact⟨by rw[hb],r⟩
  .rintro P X h6 n6 S run ⟨cv,sv,vs,fq,a,hSS,lp⟩
   refine⟨_,_,_,_,_,_,_,lp,.inl ⟨rfl,rfl,?_⟩⟩;have XL:=a.xs _ a.XL;have ale:=a.le;have B:=a.JJ lp (wQ .exhausted none t);have n5n:=a.Ln;repeat' (first|(simp (disch:=omega) only[go_sem,simprocAttr,a.c,a.s,a.r1,a.r2,a.r3,a.gc.cl,a.gs.cl])|(refine aT ?_ ?_<;>(intro hb hd;rw[hb];clear hb))|(with_reducible refine aj ?_))
   have hsame:∀x,x<n6->¬(n<x/\x<n+4)->x≠n5->((((Tr.set h6 n5 (.lp .exhausted none 11 t [61,62] (jE 11 0) (jF 11 0))).set (n+1) (.row 34 [cv])).set (n+1+1) (.row 35 [sv])).set (n+1+1+1) (.row 31 [.i .i64 0])).get x=h6.get x:=λx hx h1 h2=>by
    simp (disch:=omega) only[go_sem]
   have nb:∀e x,h6.get x=some (.row e [])\/(∃c,h6.get x=some (.row e c))->(e=27\/e=43)->¬(n<x/\x<n+4)/\x≠n5:=λe x hx he=>by
    have hx':∃c,h6.get x=some (.row e c):=by rcases hx with hx|hx;exact⟨_,hx⟩;exact hx
    obtain⟨c,hx⟩:=hx';refine⟨λ⟨h1,h2⟩=>?_,λe2=>?_⟩
    .have h3:x=n+1\/x=n+1+1\/x=n+1+1+1:=by omega
     rcases h3 with rfl|rfl|rfl
     .rw[a.r1]at hx;cases hx;rcases he with he|he<;>cases he
     .rw[a.r2]at hx;cases hx;rcases he with he|he<;>cases he
     .rw[a.r3]at hx;cases hx;rcases he with he|he<;>cases he
    .rw[e2,lp]at hx;cases hx
   have hX6:∀x,x<n6->¬(X x\/(P x\/x<n))->((((Tr.set h6 n5 (.lp .exhausted none 11 t [61,62] (jE 11 0) (jF 11 0))).set (n+1) (.row 34 [cv])).set (n+1+1) (.row 35 [sv])).set (n+1+1+1) (.row 31 [.i .i64 0])).get x=h6.get x:=λx hx h1=>hsame x hx (λ⟨h2,h3⟩=>h1 (.inl (a.Xr x h2 h3))) λe=>h1 (.inl (by rw[e];exact a.XL));refine ZF hv (by omega) cv sv vs fq _ _ (by rw[hSS];exact run) a.ln ⟨by omega,λx hx=>?_⟩ (Kp.and (Kp.and ?_ ?_) (Kp.and (a.kc.tr (Nat.le_refl _) hX6 λx _ hx=>.inr (.inr hx)) (a.ks.tr (Nat.le_refl _) hX6 λx _ hx=>.inr (.inr hx))))
   .rw[hsame x (by omega) (by omega) (by omega)];exact a.old x hx
   .refine(a.gc.on (Nat.le_refl _) λx hx e=>?_).sl.kp λx hx e=>by have:=(a.xs x (a.bc x hx)).2.2;omega
    obtain⟨q1,q2⟩:=nb 27 x (.inr (a.gc.ty e)) (.inl rfl);exact hsame x hx q1 q2
   .refine(a.gs.on (Nat.le_refl _) λx hx e=>?_).sl.kp λx hx e=>by have:=(a.xs x (a.bs x hx)).2.2;omega
    obtain⟨q1,q2⟩:=nb 43 x (.inr (a.gs.ty e)) (.inr rfl);exact hsame x hx q1 q2
  .rintro h6 n6 ⟨e,he,q1,q2,q3,q4,q5,q6,q7,q8⟩
   refine⟨_,_,_,_,_,_,_,q1,.inr (.inl ⟨rfl,rfl,?_⟩)⟩;simp (disch:=omega) only[go_sem,simprocAttr,q2,q3,q4];refine KN hv (by omega) q8 e _ _ he ⟨by omega,λx hx=>?_⟩;simp (disch:=omega) only[go_sem];exact q5 x hx
end
end
end
section
noncomputable section
section
variable {h h':AH} {n n':Nat} {Q:AV->AH->Nat->Prop} {C:aA} {v:CS} {l:List Int}
def Ta:AV:=.agg [.k 1,.k 1,.k 1,.k 1]
theorem Kq(K:Nat){tv:AV}(hC:aY h n v C)(ho:C.off.length<=1000000)(hl:l.length<=100000)(hT:SL h n 1 tv kD l)
 (lK:C.valid=false->∀h' n',Up h n h' n'->Q (.bQ [Ta,.i .i64 1]) h' n')
 (uS:C.valid=true->4000<l.length->∀h' n',Up h n h' n'->Q (.bQ [Ta,.i .i64 3]) h' n')
 (KN:C.valid=true->l.length<=4000->(¬∃S,eX C C.first l S)->∀e h' n',e≠0->Up h n h' n'->Q (.bQ [Ta,.i .i64 e]) h' n')
 (ZF:C.valid=true->l.length<=4000->∀cv sv dv vs fq h' n',eX C C.first l (fq.map (·.2))->Up h n h' n'->OL h' n' C cv sv tv dv vs fq l 0->Q (.bQ [.agg (rA cv sv tv dv),.i .i64 0]) h' n'):
 CW (EF (K+12)) 32 [.agg (v.av C),.k 1,tv] h n Q:=by
 refine aD c32 rfl ?_;repeat' (first|(simp (disch:=omega) only[go_sem,simprocAttr,m32,CS.av])|(refine aT ?_ ?_<;>(intro hb hd;rw[hb];clear hb))|(with_reducible refine aj ?_))
 generalize hh:Tr.set (Tr.set h n _) (n+1) _=h0;have u0:Up h n h0 (n+2):=by rw[<-hh];exact aI
 have g0:h0.get n=some (.row 27 (v.av C)):=by rw[<-hh];simp (disch:=omega) only[go_sem]
 have g1:h0.get (n+1)=some (.row 100 [.k 1,.k 1,.k 1,.k 1]):=by rw[<-hh];simp (disch:=omega) only[go_sem]
 clear hh;rw[aU];show CW _ 11 _ h0 (n+2) _;have bad:∀(e:Int),e≠0->(∀h' n',Up h n h' n'->Q (.bQ [Ta,.i .i64 e]) h' n')->∀h1 n1,Up h0 (n+2) h1 n1->True:=λ_ _ _ _ _ _=>trivial;refine VO K (hC.up u0) ho hl (hT.up u0) (λhv h1 n1 u1=>?_) (λhv hln h1 n1 u1=>?_) (λhv hln hr e h1 n1 he u1=>?_) (λhv hln cv sv vs fq h1 n1 run ln u1 kR=>?_)
 .have e1:=u1.le
  have g11:=(u1.old _ (show n+1<n+2 by omega)).trans g1;have ux:=u0.trans u1;simp (disch:=omega) only[go_sem,simprocAttr,g11,Int.reduceEq];exact lK hv _ _ aI
 .have e1:=u1.le
  have g11:=(u1.old _ (show n+1<n+2 by omega)).trans g1;have ux:=u0.trans u1;simp (disch:=omega) only[go_sem,simprocAttr,g11,Int.reduceEq];exact uS hv hln _ _ aI
 .have e1:=u1.le
  have g11:=(u1.old _ (show n+1<n+2 by omega)).trans g1;have ux:=u0.trans u1;have hd:decide (e=0)=false:=decide_eq_false he;simp (disch:=omega) only[go_sem,simprocAttr,g11,hd];exact KN hv hln hr e _ _ he aI
 .obtain⟨⟨s1,s2⟩,s3,s4⟩:=kR.use
  have e1:=u1.le;have g11:=(u1.old _ (show n+1<n+2 by omega)).trans g1;have ux:=u0.trans u1;have ok:=aA.ok hv;have hus:=wR hv;have hSl:=run.len;rw[List.length_map]at hSl;simp (disch:=omega) only[go_sem,simprocAttr,s1.cl,s2.cl,hT.cl,s2.len];generalize hh:Tr.set (Tr.set h1 n1 _) n1 _=h2;have u2:Up h1 n1 h2 (n1+1):=by rw[<-hh];exact aI
  have g2:h2.get n1=some (.row 100 [cv,sv,tv,.k 1]):=by rw[<-hh];exact aG
  clear hh;refine b_ fq.length (λk hk nk G=>Up h1 n1 hk nk/\n1<nk/\(∃dv,hk.get n1=some (.row 100 [cv,sv,tv,dv])/\Gr hk nk 3 1 dv cn (List.replicate k 0)/\∀x,blk dv x->n1<x)/\G=[(6,.p (n+1) 0),(8,cv),(11,.p n1 0),(31,sv)]) (by omega) (by omega) (by omega) (by omega) (λk h8 n8 G ⟨_,_,_,e⟩=>by subst e;exact⟨rfl,rfl⟩) ⟨rfl,rfl,_,⟨u2,by omega,⟨.k 1,g2,Gr.nil λ_=>rfl,λx hx=>absurd hx fA⟩,rfl⟩,by(repeat' (first|exact aR|refine aN rfl ?_))⟩ ?_ ?_
  .rintro k hk nk G hkl ⟨uk,lk,⟨dv,gd,gr,bd⟩,rfl⟩
   obtain⟨b1,o1,x,i1,hx,hb1,rd⟩:=(s2.up uk).gD (k:=(k:Nat)) (by omega) (by omega) (by omega);rw[show((k:Nat):Int).toNat=k by omega]at hx;repeat' (first|(simp (disch:=omega) only[go_sem,simprocAttr,aK i1,rd.all,TS.av])|(refine aT ?_ ?_<;>(intro hb hd;rw[hb];clear hb))|(with_reducible refine aj ?_))
   .have hkp:0<k:=by omega
    obtain⟨b2,o2,w2,i2,hw2,hb2,gu⟩:=(s1.up uk).gD (k:=(k:Nat)) (by omega) (by omega) (by omega);obtain⟨b3,o3,w3,i3,hw3,hb3,sj⟩:=(s1.up uk).gD (k:=((k - 1:Nat):Int)) (by omega) (by omega) (by omega);have wid:gK .i64 ((k:Int) - 1)=((k - 1:Nat):Int):=by rw[dJ (by omega) (by omega)];omega
    have a2:=gu.all;have a3:=sj.all;generalize hz:Tr.set (Tr.set hk nk _) nk _=h5;have u5:Up hk nk h5 (nk+1):=by rw[<-hz];exact aI
    clear hz;rw[<-u5.old b2 hb2]at a2;rw[<-u5.old b3 hb3]at a3;repeat' (first|(simp (disch:=omega) only[go_sem,simprocAttr,wid,i2,i3,a2,a3])|(refine aT ?_ ?_<;>(intro hb hd;rw[hb];clear hb))|(with_reducible refine aj ?_))
    rw[bR];have uk5:=uk.trans u5;refine xk (K+7) ((s3 w3 (List.mem_of_getElem? hw3)).up uk5) ((s3 w2 (List.mem_of_getElem? hw2)).up uk5) ok ho (by omega) λh4 n4 u4=>?_;have e4:=u4.le;have u54:=u5.trans u4;have gd4:=(u54.old n1 (by omega)).trans gd;obtain⟨b6,o6,y6,i6,hy6,hb6,Wi⟩:=((gr.up u54).sl).gD (k:=((k - 1:Nat):Int)) (by omega) (by simp;omega) (by omega);rw[show((k - 1:Nat):Int).toNat=k - 1 by omega,List.getElem?_replicate,if_pos (by omega)]at hy6;cases hy6
    have a6:=Wi.hd;repeat' (first|(simp (disch:=omega) only[go_sem,simprocAttr,gd4,wid,i6,aK i6,a6])|(refine aT ?_ ?_<;>(intro hb hd;rw[hb];clear hb))|(with_reducible refine aj ?_))
    generalize hz:Tr.set h4 n4 (.row 3 [.i .i64 0])=h6;have u6:Up hk nk h6 (n4+1):=by rw[<-hz];exact aI
    have q6:h6.get n4=some (.row 3 [.i .i64 0]):=by rw[<-hz];exact aG
    clear hz;obtain⟨dv',h7,n7,r7,g7,l7,s7,b7⟩:=(gr.up u6).app (l2:=[0]) (y:=.sl n4 0 0 1 (some 1)) rfl (by
     show bnd (iD (h6.get _) 0 _) _=_;rw[q6];rfl) (by simp<;>omega)
    have c7:=(s7 n1 (by have:=u6.le;omega) (λe=>by have:=bd n1 e;omega)).trans ((u6.old n1 (by omega)).trans gd);repeat' (first|(simp (disch:=omega) only[go_sem,simprocAttr,r7,g7.cl,c7])|(refine aT ?_ ?_<;>(intro hb hd;rw[hb];clear hb))|(with_reducible refine aj ?_))
    have U3:gK .i64 ((k:Int)+1)=((k+1:Nat):Int):=by rw[dJ (by omega) (by omega)];rfl
    have l6:=u6.le;refine⟨rfl,rfl,_,⟨⟨by have:=uk.le;omega,λy hy=>?_⟩,by omega,⟨dv',aG,g7.on (Nat.le_refl _) (λy hy e=>ay λe2=>?_)|>λg=>by rw[List.replicate_succ'];exact g,λy hy=>?_⟩,rfl⟩,by(repeat' (first|exact aR|refine aN rfl ?_))⟩
    .rw[ay (by omega),s7 y (by have:=uk.le;omega) (λe=>by have:=bd y e;omega),u6.old y (by have:=uk.le;omega),uk.old y hy]
    .obtain⟨_,q⟩:=g7.ty e
     rw[e2,c7]at q;cases q
    .rcases b7 y hy with e|e
     .exact bd y e
     .omega
   .have hk0:k=0:=by omega
    subst hk0;have w_:x.2.day=0:=by
     have e:=run.hd;rw[List.getElem?_map,hx]at e;simp only[Option.map_some,Option.some.injEq]at e;rw[e];rfl
    generalize hz:Tr.set (Tr.set hk nk _) nk _=h5;have u5:Up hk nk h5 (nk+1):=by rw[<-hz];exact aI
    clear hz;have gd5:=(u5.old n1 (by omega)).trans gd;repeat' (first|(simp (disch:=omega) only[go_sem,simprocAttr,gd,gd5,w_])|(refine aT ?_ ?_<;>(intro hb hd;rw[hb];clear hb))|(with_reducible refine aj ?_))
    generalize hz:Tr.set h5 (nk+1) (.row 3 [.i .i64 0])=h6;have u6:Up hk nk h6 ((nk+1)+1):=by rw[<-hz];exact aI
    have q6:h6.get (nk+1)=some (.row 3 [.i .i64 0]):=by rw[<-hz];exact aG
    clear hz;obtain⟨dv',h7,n7,r7,g7,l7,s7,b7⟩:=(gr.up u6).app (l2:=[0]) (y:=.sl (nk+1) 0 0 1 (some 1)) rfl (by
     show bnd (iD (h6.get _) 0 _) _=_;rw[q6];rfl) (by simp<;>omega)
    have c7:=(s7 n1 (by have:=u6.le;omega) (λe=>by have:=bd n1 e;omega)).trans ((u6.old n1 (by omega)).trans gd);repeat' (first|(simp (disch:=omega) only[go_sem,simprocAttr,r7,g7.cl,c7])|(refine aT ?_ ?_<;>(intro hb hd;rw[hb];clear hb))|(with_reducible refine aj ?_))
    have U3:gK .i64 (((0:Nat):Int)+1)=((0+1:Nat):Int):=by rfl
    have l6:=u6.le;refine⟨rfl,rfl,_,⟨⟨by have:=uk.le;omega,λy hy=>?_⟩,by omega,⟨dv',aG,g7.on (Nat.le_refl _) (λy hy e=>ay λe2=>?_)|>λg=>by rw[List.replicate_succ'];exact g,λy hy=>?_⟩,rfl⟩,by(repeat' (first|exact aR|refine aN rfl ?_))⟩
    .rw[ay (by omega),s7 y (by have:=uk.le;omega) (λe=>by have:=bd y e;omega),u6.old y (by have:=uk.le;omega),uk.old y hy]
    .obtain⟨_,q⟩:=g7.ty e
     rw[e2,c7]at q;cases q
    .rcases b7 y hy with e|e
     .exact bd y e
     .omega
  .rintro hk nk G ⟨uk,lk,⟨dv,gd,gr,bd⟩,rfl⟩
   have g1k:=(uk.old _ (show n+1<n1 by omega)).trans g11;have uxk:=ux.trans uk;repeat' (first|(simp (disch:=omega) only[go_sem,simprocAttr,gd,g1k,gr.cl,s1.cl,s2.cl,hT.cl])|(refine aT ?_ ?_<;>(intro hb hd;rw[hb];clear hb))|(with_reducible refine aj ?_))
   have kd:Kp (λx=>x<n1) hk nk (λh n=>SL h n 1 dv cn (List.replicate fq.length 0)):=gr.sl.kp λx hx e=>by have:=bd x hx;omega
   have kf:=((kR.up uk).set (b:=n+1) (o:=.row 100 [cv,sv,tv,dv]) (.inl (by omega)) (Nat.le_refl _)).use;have kf2:=(kd.set (b:=n+1) (o:=.row 100 [cv,sv,tv,dv]) (.inl (by omega)) (Nat.le_refl _)).use;have uf:Up h n (Tr.set hk (n+1) (.row 100 [cv,sv,tv,dv])) nk:=Up.st uxk _ _ (by omega);exact ZF hv hln cv sv dv vs fq _ _ run uf ⟨kf.1.1,kf.2.1,kf.1.2,kf.2.2,hT.up uf,kf2,ln⟩
end
end
end
section
noncomputable section
section
variable {h h':AH} {n n':Nat} {Q:AV->AH->Nat->Prop} {C:aA} {v:CS} {l:List Int} {party:Int}
theorem GI{S:List aH}(hv:C.valid=true)(run:eX C C.first l S):∀(k:Nat)(s:aH),S[k]?=some s->aM C s
 |0,s,e=>by rw[run.hd]at e;cases e;exact yV hv
 |k+1,s,e=>by
  have hk:=(List.getElem?_eq_some_iff.1 e).1;have hl:=run.len;obtain⟨t,ht⟩:∃t,l[k]?=some t:=⟨l[k]'(by omega),List.getElem?_eq_some_iff.2 ⟨by omega,rfl⟩⟩;obtain⟨a,ha⟩:∃a,S[k]?=some a:=⟨S[k]'(by omega),List.getElem?_eq_some_iff.2 ⟨by omega,rfl⟩⟩;obtain⟨h1,h2,h3,h4⟩:=run.step k t a ht ha;rw[e]at h4;cases h4
  exact jI (GI hv run k a ha) h1 h2 h3
theorem IE{S:List aH}(hp:0<=party)(run:eX C C.first l S):∀(k:Nat)(s:aH),S[k]?=some s->zo C party ⟨C.first,true⟩ ⟨s,true⟩
 |0,s,e=>by rw[run.hd]at e;cases e;exact .refl
 |k+1,s,e=>by
  have hk:=(List.getElem?_eq_some_iff.1 e).1;have hl:=run.len;obtain⟨t,ht⟩:∃t,l[k]?=some t:=⟨l[k]'(by omega),List.getElem?_eq_some_iff.2 ⟨by omega,rfl⟩⟩;obtain⟨a,ha⟩:∃a,S[k]?=some a:=⟨S[k]'(by omega),List.getElem?_eq_some_iff.2 ⟨by omega,rfl⟩⟩;obtain⟨h1,h2,h3,h4⟩:=run.step k t a ht ha;rw[e]at h4;cases h4
  have ih:=IE hp run k a ha;by_cases hst:C.aZ a t=a
  .rw[hst];exact ih
  by_cases ho:0<=t/\C.doer a t=party
  .obtain⟨i,rfl⟩:=Int.eq_ofNat_of_zero_le ho.1
   exact ih.step (Iu (q:=⟨a,true⟩) (by omega) h3 ⟨⟨λ_=>rfl,λ_=>ho.2⟩,hst⟩)
  .have ih2:=ih.step (Ea (C:=C) (party:=party) (q:=⟨a,true⟩) rfl)
   by_cases ht0:t= -1
   .subst ht0
    exact ih2.step (Nz (q:=⟨a,false⟩) rfl h3)
   .obtain⟨i,rfl⟩:=Int.eq_ofNat_of_zero_le (show 0<=t by omega)
    refine ih2.step (Iu (q:=⟨a,false⟩) (by omega) h3 ⟨⟨λe=>absurd ⟨Int.natCast_nonneg _,e⟩ ho,λe=>(by cases e)⟩,hst⟩)
theorem Q8{S:List aH}(hp:0<=party)(run:eX C C.first l S){k:Nat}{s:aH}(hs:S[k]?=some s){b:Bool}(e:iw C party ⟨s,b⟩):iw C party ⟨C.first,true⟩:=by
 have r:=IE hp run k s hs;refine e.of ?_;cases b with
 |true=>exact r
 |false=>exact r.step (Ea (C:=C) (party:=party) (q:=⟨s,true⟩) rfl)
theorem Oc(K:Nat){tv:AV}(hC:aY h n v C)(ho:C.off.length<=1000000)(hl:l.length<=100000)(hT:SL h n 1 tv kD l)
 (lK:∀e h' n',e≠0->(C.valid=true->0<=party->party<C.aC->l.length<=4000->¬iw C party ⟨C.first,true⟩->¬∃S,eX C C.first l S)->Up h n h' n'->Q (.bQ [.i .i64 0,.i .i64 e]) h' n')
 (uS:C.valid=true->0<=party->party<C.aC->∀S (r:Int) h' n',eX C C.first l S->(∀k:Nat,r=(k:Nat)->zB C party l S k)->(r= -1->zC C party l S)-> -1<=r->Up h n h' n'->Q (.bQ [.i .i64 r,.i .i64 0]) h' n'):
 CW (EF (K+410)) 10 [.agg (v.av C),.k 1,.i .i64 party,tv] h n Q:=by
 refine aD c10 rfl ?_;repeat' (first|(simp (disch:=omega) only[go_sem,simprocAttr,ub.old,m10,CS.av])|(simp (disch:=omega) only[go_sem,simprocAttr,m10,CS.av])|(refine aT ?_ ?_<;>(intro hb hd;rw[hb];clear hb))|(with_reducible refine aj ?_))
 generalize hh:Tr.set h n _=h0;have u0:Up h n h0 (n+1):=by rw[<-hh];exact aI
 have g0:h0.get n=some (.row 27 (v.av C)):=by rw[<-hh];exact aG
 clear hh;rw[aU];refine NK (K+402) (hC.up u0) ho λh1 n1 u1=>?_;have e1:=u1.le;have g1:=(u1.old n (by omega)).trans g0;cases hk:(C.valid&&(decide (0<=party)&&decide (party<C.aC)))with
 |false=>
  repeat' (first|(simp (disch:=omega) only[go_sem,simprocAttr,ub.old,hk])|(simp (disch:=omega) only[go_sem,simprocAttr,hk])|(refine aT ?_ ?_<;>(intro hb hd;rw[hb];clear hb))|(with_reducible refine aj ?_))
  refine lK 1 _ _ (by omega) (λa b c=>?_) (u0.trans u1);rw[a,decide_eq_true b,decide_eq_true c]at hk;cases hk
 |true=>
  simp only[Bool.and_eq_true,decide_eq_true_eq]at hk;obtain⟨hv,hp0,hp1⟩:=hk;repeat' (first|(simp (disch:=omega) only[go_sem,simprocAttr,ub.old,g1,CS.av])|(simp (disch:=omega) only[go_sem,simprocAttr,g1,CS.av])|(refine aT ?_ ?_<;>(intro hb hd;rw[hb];clear hb))|(with_reducible refine aj ?_))
  rw[aU];have OI:=u0.trans u1;refine Kq (K+397) (hC.up OI) ho hl (hT.up OI) (λe=>by rw[hv]at e;cases e) (λ_ hln h2 n2 u2=>?_) (λ_ hln hr e h2 n2 he u2=>?_) (λ_ hln cv sv dv vs fq h2 n2 run u2 rin=>?_)
  .have zM:=OI.trans u2
   have e2:=zM.le;repeat' (first|(simp (disch:=omega) only[go_sem,simprocAttr,ub.old,Ta,Int.reduceEq])|(simp (disch:=omega) only[go_sem,simprocAttr,Ta,Int.reduceEq])|(refine aT ?_ ?_<;>(intro hb hd;rw[hb];clear hb))|(with_reducible refine aj ?_))
   exact lK 3 _ _ (by omega) (λ_ _ _ h _=>by omega) aI
  .have zM:=OI.trans u2
   have e2:=zM.le;have hd:decide (e=0)=false:=decide_eq_false he;repeat' (first|(simp (disch:=omega) only[go_sem,simprocAttr,ub.old,Ta,hd])|(simp (disch:=omega) only[go_sem,simprocAttr,Ta,hd])|(refine aT ?_ ?_<;>(intro hb hd;rw[hb];clear hb))|(with_reducible refine aj ?_))
   exact lK e _ _ he (λ_ _ _ _ _=>hr) aI
  .have zM:=OI.trans u2
   have e2:=u2.le;simp (disch:=omega) only[go_sem,simprocAttr,rA];generalize hh:Tr.set (Tr.set h2 n2 _) n2 _=h3;have u3:Up h2 n2 h3 (n2+1):=by rw[<-hh];exact aI
   have g3:h3.get n2=some (.row 100 (rA cv sv tv dv)):=by rw[<-hh];exact aG
   clear hh;repeat' (first|(simp (disch:=omega) only[go_sem,simprocAttr,ub.old])|(simp (disch:=omega) only[go_sem,simprocAttr])|(refine aT ?_ ?_<;>(intro hb hd;rw[hb];clear hb))|(with_reducible refine aj ?_))
   rw[bR];refine Ec (K+408) λj s lm sh dd h4 n4 u4 q1 q2 q3 q4 q5 q6=>?_;have e4:=u4.le;have g4:=(u4.old n2 (by omega)).trans g3;repeat' (first|(simp (disch:=omega) only[go_sem,simprocAttr,ub.old,g3,g4,rA])|(simp (disch:=omega) only[go_sem,simprocAttr,g3,g4,rA])|(refine aT ?_ ?_<;>(intro hb hd;rw[hb];clear hb))|(with_reducible refine aj ?_))
   rw[bR];have uR:Up h2 n2 h4 n4:=u3.trans ((Up.wide h3 (by omega)).trans u4);have agq:=rin.up uR;have oks:∀x∈fq,aM C x.2:=λx hx=>by
    obtain⟨k,hk⟩:=List.getElem?_of_mem hx;exact GI hv run k x.2 (by rw[List.getElem?_map,hk];rfl)
   have hB:∀x∈fq,∀b,iw C party ⟨x.2,b⟩->iw C party ⟨C.first,true⟩:=λx hx b e=>by
    obtain⟨k,hk⟩:=List.getElem?_of_mem hx;exact Q8 hp0 run (k:=k) (s:=x.2) (by rw[List.getElem?_map,hk];rfl) e
   refine N9 K (B:=iw C party ⟨C.first,true⟩) (h:=h4) (n:=n4) (l:=l) (u:=0) (j:=j) (s:=s) (lm:=lm) (ent:=[]) (vs:=vs) (fq:=fq) agq ⟨⟨_,rfl,q1⟩,q2,⟨[],q3,.inl rfl⟩,λq _ x hx=>(by cases hx),q5.1,q5.2.1,q5.2.2,q6.1,q6.2.1,q6.2.2⟩ ho hl (by omega) hp0 hp1 run oks hB (λd b e h5 n5 he hBB l5 x5=>?_) λd b h5 n5 hb1 hb2 l5 x5=>?_
   .have g5:=(x5 n2 (by omega) (by omega) (by omega)).trans g4
    have l02:=zM.le;have uF:Up h n h5 n5:=⟨by omega,λx hx=>by rw[x5 x (by omega) (by omega) (by omega)];exact(zM.trans uR).old x hx⟩;have hd:decide (e=0)=false:=decide_eq_false he;repeat' (first|(simp (disch:=omega) only[go_sem,simprocAttr,ub.old,g5,DV.av,hd])|(simp (disch:=omega) only[go_sem,simprocAttr,g5,DV.av,hd])|(refine aT ?_ ?_<;>(intro hb hd;rw[hb];clear hb))|(with_reducible refine aj ?_))
    refine⟨by rw[g3];rfl,?_⟩;exact lK e _ _ he (λ_ _ _ _ nb=>absurd hBB nb) (by first|exact uF|exact Up.st uF _ _ (by omega)|exact Up.st (Up.st uF _ _ (by omega)) _ _ (by omega))
   have g5:=(x5 n2 (by omega) (by omega) (by omega)).trans g4;have l02:=zM.le;have uF:Up h n h5 n5:=⟨by omega,λx hx=>by rw[x5 x (by omega) (by omega) (by omega)];exact(zM.trans uR).old x hx⟩;repeat' (first|(simp (disch:=omega) only[go_sem,simprocAttr,ub.old,g5,DV.av])|(simp (disch:=omega) only[go_sem,simprocAttr,g5,DV.av])|(refine aT ?_ ?_<;>(intro hb hd;rw[hb];clear hb))|(with_reducible refine aj ?_))
   refine⟨by rw[g3];rfl,?_⟩;cases b with
   |false=>
    simp (disch:=omega) only[go_sem,simprocAttr];exact uS hv hp0 hp1 _ (-1) _ _ run (λk e=>by omega) (λ_=>hb2 rfl) (by omega) (Up.st (Up.st uF _ _ (by omega)) _ _ (by omega))
   |true=>
    simp (disch:=omega) only[go_sem,simprocAttr];exact uS hv hp0 hp1 _ (d.i:Nat) _ _ run (λk e=>by
     have:d.i=k:=by omega
     rw[<-this];exact hb1 rfl) (λe=>by omega) (by omega) (Up.st (Up.st uF _ _ (by omega)) _ _ (by omega))
end
end
end
section
noncomputable section
set_option maxRecDepth 1000000
set_option maxHeartbeats 4000000
def m28:MC:=vF 28
def c28:=vT 28 m28
def m14:MC:=vF 14
def c14:=vT 14 m14
end
end
section
noncomputable section
section
variable {h h':AH} {n n':Nat} {Q:AV->AH->Nat->Prop} {C:aA} {v:CS} {l:List Int} {party:Int}
theorem Ei(K:Nat)(hC:aY h n v C)(hQ:∀b h' n',(b=true->C.off.length<=100/\C.acts.length<=70)->Up h n h' n'->Q (.b b) h' n'):CW (EF (K+1)) 14 [.agg (v.av C),.i .i64 6] h n Q:=by
 refine aD c14 rfl ?_;repeat' (first|(simp (disch:=omega) only[go_sem,simprocAttr,m14,CS.av,hC.ah.len,hC.units.len,hC.acts.len,hC.lk,hC.off.len])|(refine aT ?_ ?_<;>(intro hb hd;rw[hb];clear hb))|(with_reducible refine aj ?_))
 .exact hQ false _ _ (λe=>by cases e) aI
 .exact hQ false _ _ (λe=>by cases e) aI
 .exact hQ false _ _ (λe=>by cases e) aI
 .exact hQ false _ _ (λe=>by cases e) aI
 .exact hQ false _ _ (λe=>by cases e) aI
 generalize hh:Tr.set h n _=h1;have u1:Up h n h1 (n+1):=by rw[<-hh];exact aI
 have g1:h1.get n=some (.row 27 (v.av C)):=by rw[<-hh];exact aG
 clear hh;refine jw (λi hk nk F=>∃k,k<=C.clauses.length/\i=C.clauses.length - k/\h1=hk/\nk=n+1/\F=[(2,.p n 0),(5,.i .i64 (k:Nat))]) C.clauses.length (by omega) ⟨_,⟨0,by omega,rfl,rfl,rfl,rfl⟩,by(repeat' (first|exact aR|refine aN rfl ?_))⟩ ?_;rintro i _ _ F ⟨k,hk1,rfl,rfl,rfl,rfl⟩;repeat' (first|(simp (disch:=omega) only[go_sem,simprocAttr,g1,CS.av,hC.lk])|(refine aT ?_ ?_<;>(intro hb hd;rw[hb];clear hb))|(with_reducible refine aj ?_))
 .refine nH (hC.up u1) (by omega) (by omega) λb o a t ha hb hst rd=>?_
  repeat' (first|(simp (disch:=omega) only[go_sem,simprocAttr,rd.el,aF.av,hst.len])|(refine aT ?_ ?_<;>(intro hb hd;rw[hb];clear hb))|(with_reducible refine aj ?_))
  .exact hQ false _ _ (λe=>by cases e) u1
  .have wid:gK .i64 ((k:Int)+1)=((k+1:Nat):Int):=by rw[dJ (by omega) (by omega)];rfl
   rw[Ak,wid];exact⟨_,_,by omega,⟨k+1,by omega,rfl,rfl,rfl,rfl⟩,by(repeat' (first|exact aR|refine aN rfl ?_))⟩
 .exact hQ true _ _ (λ_=>by omega) u1
theorem Q9(K:Nat)(hC:aY h n v C)(hQ:∀b h' n',(b=true->C.off.length<=100/\C.acts.length<=70)->Up h n h' n'->Q (.b b) h' n'):CW (EF (K+2)) 28 [.agg (v.av C)] h n Q:=by
 refine aD c28 rfl ?_;repeat' (first|(simp (disch:=omega) only[go_sem,simprocAttr,m28,CS.av])|(refine aT ?_ ?_<;>(intro hb hd;rw[hb];clear hb))|(with_reducible refine aj ?_))
 generalize hh:Tr.set h n _=h1;have u1:Up h n h1 (n+1):=by rw[<-hh];exact aI
 have g1:h1.get n=some (.row 27 (v.av C)):=by rw[<-hh];exact aG
 clear hh;rw[aU];refine Ei K (hC.up u1) λb h2 n2 hb u2=>?_;have g2:=(u2.old n (by omega)).trans g1;have zM:=u1.trans u2;cases b with
 |false=>simp (disch:=omega) only[go_sem,simprocAttr];exact hQ false _ _ (λe=>by cases e) zM
 |true=>
  repeat' (first|(simp (disch:=omega) only[go_sem,simprocAttr,g2,CS.av,hC.acts.len])|(refine aT ?_ ?_<;>(intro hb hd;rw[hb];clear hb))|(with_reducible refine aj ?_))
  all_goals first|exact hQ false _ _ (λe=>by cases e) zM|exact hQ true _ _ (λ_=>hb rfl) zM|exact hQ _ _ _ (λ_=>hb rfl) zM
end
end
end
section
noncomputable section
set_option maxRecDepth 1000000
set_option maxHeartbeats 4000000
def m6:MC:=vF 6
def c6:=vT 6 m6
def m9:MC:=vF 9
def c9:=vT 9 m9
end
end
section
noncomputable section
section
variable {h h':AH} {n n':Nat} {Q:AV->AH->Nat->Prop} {C:aA} {v:CS} {l:List Int} {party:Int}
theorem Kr(K:Nat)(hQ:Q (.b true) h n):CW (EF (K+1)) 29 [.k 1,.i .i64 2] h n Q:=⟨_,_,_,(by kernel_rfl:EF (K+1) 29 [.k 1,.i .i64 2] h n= .ok (.b true) h n),hQ⟩
theorem Q_(K:Nat)(hQ:Q (.b true) h n):CW (EF (K+1)) 30 [.k 1] h n Q:=⟨_,_,_,(by kernel_rfl:EF (K+1) 30 [.k 1] h n= .ok (.b true) h n),hQ⟩
theorem Od(K:Nat){tv:AV}(hC:aY h n v C)(hT:SL h n 1 tv kD l)(hQ:∀b h' n',(b=true->C.off.length<=100/\C.acts.length<=70/\l.length<=16)->Up h n h' n'->Q (.b b) h' n'):CW (EF (K+3)) 9 [.agg (v.av C),.k 1,.k 1,tv] h n Q:=by
 refine aD c9 rfl ?_;repeat' (first|(simp (disch:=omega) only[go_sem,simprocAttr,m9,CS.av])|(refine aT ?_ ?_<;>(intro hb hd;rw[hb];clear hb))|(with_reducible refine aj ?_))
 generalize hh:Tr.set h n _=h1;have u1:Up h n h1 (n+1):=by rw[<-hh];exact aI
 have g1:h1.get n=some (.row 27 (v.av C)):=by rw[<-hh];exact aG
 clear hh;rw[aU];refine Q9 K (hC.up u1) λb h2 n2 hb u2=>?_;have g2:=(u2.old n (by omega)).trans g1;have zM:=u1.trans u2;cases b with
 |false=>simp (disch:=omega) only[go_sem,simprocAttr];exact hQ false _ _ (λe=>by cases e) zM
 |true=>
  repeat' (first|(simp (disch:=omega) only[go_sem,simprocAttr,g2,CS.av,hC.lk])|(refine aT ?_ ?_<;>(intro hb hd;rw[hb];clear hb))|(with_reducible refine aj ?_))
  .rw[aU]
   refine Kr (K+1) ?_;simp (disch:=omega) only[go_sem,simprocAttr];rw[aU];refine Q_ (K+1) ?_;repeat' (first|(simp (disch:=omega) only[go_sem,simprocAttr,hT.len])|(refine aT ?_ ?_<;>(intro hb hd;rw[hb];clear hb))|(with_reducible refine aj ?_))
   exact hQ _ _ _ (λe=>⟨(hb rfl).1,(hb rfl).2,by have:=of_decide_eq_true e;omega⟩) zM
  .exact hQ false _ _ (λe=>by cases e) zM
  .exact hQ false _ _ (λe=>by cases e) zM
end
end
end
section
noncomputable section
section
variable {C:aA} {party:Int} {l:List Int} {S:List aH} {s:aH}
theorem Kt{a:aH}{t:Int}(h1: -1<=t)(h2:t<C.acts.length)(h3:a.day<C.days)(hs:¬bY C party ⟨a,true⟩)(hd:¬bY C party (C.decide party a (C.aZ a t) t)):¬bY C party ⟨C.aZ a t,true⟩:=by
 unfold aA.decide at hd;by_cases ho:0<=t/\C.doer a t=party
 .rw[if_pos ho]at hd;exact hd
 .rw[if_neg ho]at hd
  by_cases hst:C.aZ a t=a
  .rw[hst];exact hs
  .intro hq
   by_cases ht:t= -1
   .subst ht
    exact hd (.vS rfl (fF.2 (.inr (.inl ⟨rfl,rfl,h3,rfl⟩))) hq)
   .obtain⟨i,rfl⟩:=Int.eq_ofNat_of_zero_le (show 0<=t by omega)
    exact hd (.vS rfl (fF.2 (.inr (.inr ⟨i,by omega,rfl,h3,⟨⟨λe=>absurd ⟨Int.natCast_nonneg _,e⟩ ho,λe=>(by cases e)⟩,hst⟩,rfl⟩))) hq)
theorem Ej(run:eX C s l S)(h0:¬bY C party ⟨s,true⟩){k:Nat}(hk:k<=l.length)(hs:p8 C party l S k):∀j,j<=k->∀a,S[j]?=some a->¬bY C party ⟨a,true⟩
 |0,_,a,e=>by rw[run.hd]at e;cases e;exact h0
 |j+1,hj,a,e=>by
  have hl:=run.len;have ht:l[j]?=some (l[j]'(by omega)):=List.getElem?_eq_getElem _;have hb:S[j]?=some (S[j]'(by omega)):=List.getElem?_eq_getElem _;obtain⟨g1,g2,g3,g4⟩:=run.step j _ _ ht hb;rw[g4]at e;cases e
  exact Kt g1 g2 g3 (Ej run h0 hk hs j (by omega) _ hb) (hs j _ _ _ (by omega) ht hb g4).2
theorem GJ(run:eX C s l S)(h0:¬bY C party ⟨s,true⟩)(hn:zC C party l S){a:aH}(ha:S[l.length]?=some a):anyFailed C a party=false:=by
 obtain⟨k,hk,h1,h2⟩:=hn;have hs:=Ej run h0 hk h1 k (Nat.le_refl _);have:k=l.length:=by
  rcases h2 with h2|⟨_,b,hb,hd⟩
  .exact h2
  .exact absurd hd (hs b hb)
 subst this;cases hf:anyFailed C a party with
 |false=>rfl
 |true=>exact absurd (.lost hf) (hs a ha)
theorem Ku(run:eX C s l S){k:Nat}(h:zB C party l S k):¬bY C party ⟨s,true⟩:=by
 obtain⟨h1,t,a,b,ht,ha,hb,h2,_⟩:=h;cases k with
 |zero=>rw[run.hd]at ha;cases ha;exact h2
 |succ k=>
  have hk:=(List.getElem?_eq_some_iff.1 ht).1;have hl:=run.len;have e1:l[0]?=some (l[0]'(by omega)):=List.getElem?_eq_getElem _;have e3:S[0+1]?=some (S[0+1]'(by omega)):=List.getElem?_eq_getElem _;exact(h1 0 _ _ _ (by omega) e1 run.hd e3).1
end
end
end
section
noncomputable section
section
variable {h h':AH} {n n':Nat} {Q:AV->AH->Nat->Prop} {C:aA} {v:CS} {l:List Int} {party:Int}
theorem Kv(K:Nat){tv:TS}{p:aP}(hC:aY h n v C)(ho:C.off.length<=1000000)(hS:bX h n tv p.st)(hQ:∀b e h' n',(e=0->0<=party/\party<C.aC/\(b=true↔¬bY C party p))->Up h n h' n'->Q (.bQ [.b b,.i .i64 e]) h' n'):CW (EF (K+406)) 12 [.agg (v.av C),.i .i64 party,.agg (tv.pv p)] h n Q:=
 Eh K hC ho hS (λe h' n' he u=>hQ false e h' n' (λh=>absurd h he) u) λa b _ x h' n' hx u=>hQ x 0 h' n' (λ_=>⟨a,b,hx⟩) u
theorem Kw(K:Nat){tv:AV}(hC:aY h n v C)(ho:C.off.length<=1000000)(hl:l.length<=100000)(hT:SL h n 1 tv kD l)(hQ:∀(r:Int) e h' n',(e=0->∃S,eX C C.first l S/\(∀k:Nat,r=(k:Nat)->zB C party l S k)/\(r= -1->zC C party l S)/\ -1<=r)->Up h n h' n'->Q (.bQ [.i .i64 r,.i .i64 e]) h' n'):CW (EF (K+410)) 10 [.agg (v.av C),.k 1,.i .i64 party,tv] h n Q:=
 Oc K hC ho hl hT (λe h' n' he _ u=>hQ 0 e h' n' (λh=>absurd h he) u) λ_ _ _ S r h' n' run a b c u=>hQ r 0 h' n' (λ_=>⟨S,run,a,b,c⟩) u
theorem Oe(K:Nat){tv:TS}{s:aH}(hC:aY h n v C)(ho:C.off.length<=1000000)(hS:bX h n tv s)(t:Int)(hQ:∀tv' s' e h' n',(e=0-> -1<=t/\t<C.acts.length/\s.day<C.days/\s'=C.aZ s t)->Up h n h' n'->Kp (λx=>x<n) h' n' (λh n=>bX h n tv' s')->Q (.bQ [.agg (tv'.av s'),.i .i64 e]) h' n'):CW (EF (K+8)) 18 [.agg (v.av C),.agg (tv.av s),.i .i64 t] h n Q:=by
 have z:∀h n,Kp (λx=>x<n) h n (λh n=>bX h n ⟨.k 1,.k 1,.k 1⟩ ⟨0,[],[],[]⟩):=λh n _ _ _ _=>⟨SL.nil λ_=>rfl,SL.nil λ_=>rfl,SL.nil λ_=>rfl⟩;refine uD K hC ho hS t (λ_ h' n' u=>?_) (λ_ _ _ _ h' n' u=>?_) λ_ h1 h2 h3 tv' h' n' u k=>hQ tv' _ 0 h' n' (λ_=>⟨h1,h2,h3,rfl⟩) u k
 .exact hQ ⟨.k 1,.k 1,.k 1⟩ ⟨0,[],[],[]⟩ 1 h' n' (λe=>by cases e) u ((z h' n').le λx _ hx=>by have:=u.le;omega)
 .exact hQ ⟨.k 1,.k 1,.k 1⟩ ⟨0,[],[],[]⟩ 13 h' n' (λe=>by cases e) u ((z h' n').le λx _ hx=>by have:=u.le;omega)
theorem Ky(K:Nat){tv:AV}(hH:∀{h:AH}{n:Nat}{Q:AV->AH->Nat->Prop},(∀h' n',Up h n h' n'->Q (.b true) h' n')->CW (EF (K+410)) 8 [] h n Q)(hC:aY h n v C)(hT:SL h n 1 tv kD l)(hQ:∀h' n',Up h n h' n'->Q (.b true) h' n'):CW (EF (K+411)) 5 [.agg (v.av C),tv,.i .i64 party] h n Q:=by
 refine aD c5 rfl ?_;repeat' (first|(simp (disch:=omega) only[go_sem,simprocAttr,ub.old,m5,CS.av])|(simp (disch:=omega) only[go_sem,simprocAttr,m5,CS.av])|(refine aT ?_ ?_<;>(intro hb hd;rw[hb];clear hb))|(with_reducible refine aj ?_))
 generalize hh:Tr.set h n _=h1;have u1:Up h n h1 (n+1):=by rw[<-hh];exact aI
 have g1:h1.get n=some (.row 27 (v.av C)):=by rw[<-hh];exact aG
 clear hh;rw[aU];refine hH λh2 n2 u2=>?_;have e2:=u2.le;have g2:=(u2.old n (by omega)).trans g1;have zM:=u1.trans u2;simp (disch:=omega) only[go_sem,simprocAttr,g2,CS.av];rw[aU];refine Od (K+407) (hC.up zM) (hT.up zM) λb h3 n3 hb u3=>?_;have e3:=u3.le;have g3:=(u3.old n (by omega)).trans g2;have KM:=zM.trans u3;cases b with
 |false=>
  simp (disch:=omega) only[go_sem,simprocAttr];exact hQ _ _ KM
 |true=>
  obtain⟨ho,ha,hl⟩:=hb rfl;simp (disch:=omega) only[go_sem,simprocAttr,g3,CS.av];rw[aU];refine zn (K+403) (hC.up KM) (by omega) (λ_ h4 n4 u4=>?_) λhv Nh h4 n4 u4 k4=>?_
  .have e4:=u4.le
   repeat' (first|(simp (disch:=omega) only[go_sem,simprocAttr,ub.old,Sj,Int.reduceEq])|(simp (disch:=omega) only[go_sem,simprocAttr,Sj,Int.reduceEq])|(refine aT ?_ ?_<;>(intro hb hd;rw[hb];clear hb))|(with_reducible refine aj ?_))
   exact hQ _ _ aI
  .have e4:=u4.le
   have g4:=(u4.old n (by omega)).trans g3;have Si:=KM.trans u4;simp (disch:=omega) only[go_sem,simprocAttr,g4,CS.av,TS.av,Int.reduceEq];generalize hh:Tr.set (Tr.set h4 _ _) n4 _=h5;have u5:Up h4 n4 h5 (n4+1):=by rw[<-hh];exact aI
   have g5:h5.get n4=some (.row 43 (Nh.av C.first)):=by rw[<-hh,aG]
   have s5:Kp (λx=>x=n4) h5 (n4+1) (λh n=>bX h n Nh C.first):=by
    have k5:=k4.use.ah;rw[<-hh];have k6:Kp (λx=>x=n4) h4 n4 (λh n=>bX h n Nh C.first):=Kp.Jv (λh' n' u=>k4.use.up u) λx hx=>by omega
    exact(k6.set (.inl rfl) (Nat.le_refl _)).set (.inl rfl) (Nat.le_succ _)
   clear hh;have OG:=Si.trans u5;have q5:=(u5.old n (by omega)).trans g4;rw[aU];refine Kv (K+4) (party:=party) (p:=⟨C.first,true⟩) (tv:=Nh) (hC.up OG) (by omega) s5.use λsf f h6 n6 hsf u6=>?_;have e6:=u6.le;have g6:=(u6.old n4 (by omega)).trans g5;have q6:=(u6.old n (by omega)).trans q5;have s6:=s5.up u6;have u06:=OG.trans u6;simp (disch:=omega) only[go_sem,simprocAttr];refine jw (λi hk nk F=>∃k e s tvs,k<=l.length/\i=l.length - k/\hk.get n4=some (.row 43 (tvs.av s))/\Kp (λx=>x=n4) hk nk (λh n=>bX h n tvs s)/\(e=0->∃S,eX C C.first (l.take k) S/\S[k]?=some s)/\Up h n hk nk/\n4<nk/\hk.get n=some (.row 27 (v.av C))/\F=[(1,tv),(2,.i .i64 party),(3,.p n 0),(7,.b true),(8,.p n4 0),(9,.i .i64 e),(10,.b sf),(11,.i .i64 f),(12,.i .i64 (k:Nat))]) l.length (by omega) ⟨_,⟨0,0,C.first,Nh,by omega,rfl,g6,s6,λ_=>⟨[C.first],eX.nil C C.first,rfl⟩,u06,by omega,q6,rfl⟩,by(repeat' (first|exact aR|refine aN rfl ?_))⟩ ?_;rintro i hk nk F ⟨k,e,s,tvs,hkl,rfl,gk,sk,run,uk,lk,qk,rfl⟩;have ho2:C.off.length<=1000000:=by omega
   by_cases hgo:k<l.length/\e=0
   .obtain⟨hk1,rfl⟩:=hgo
    have hd1:decide ((k:Int)<(l.length:Int))=true:=decide_eq_true (by omega);obtain⟨b1,o1,t,i1,ht,hb1,rd⟩:=(hT.up uk).gD (k:=(k:Nat)) (by omega) (by omega) (by omega);rw[show((k:Nat):Int).toNat=k by omega]at ht;repeat' (first|(simp (disch:=omega) only[go_sem,simprocAttr,ub.old,(hT.up uk).len,hd1,qk,gk,CS.av,TS.av,i1,rd.el,rd.hd])|(simp (disch:=omega) only[go_sem,simprocAttr,(hT.up uk).len,hd1,qk,gk,CS.av,TS.av,i1,rd.el,rd.hd])|(refine aT ?_ ?_<;>(intro hb hd;rw[hb];clear hb))|(with_reducible refine aj ?_))
    rw[bR];refine Oe (K+402) (hC.up uk) ho2 sk.use t λtv' s' e' h7 n7 hst u7 k7=>?_;have e7:=u7.le;have g7:=(u7.old n4 (by omega)).trans gk;have wid:gK .i64 ((k:Int)+1)=((k+1:Nat):Int):=by rw[dJ (by omega) (by omega)];rfl
    simp (disch:=omega) only[go_sem,simprocAttr,g7,TS.av,wid];rw[Ak];refine⟨_,_,by omega,⟨k+1,e',s',tv',by omega,rfl,aG,(k7.le λx _ hx=>by omega).set (.inl rfl) (Nat.le_refl _),λhe=>?_,Up.st (uk.trans u7) _ _ (by have:=Si.le;omega),by omega,by rw[ay (by have:=Si.le;omega),u7.old n (by have:=Si.le;omega)];exact qk,rfl⟩,by(repeat' (first|exact aR|refine aN rfl ?_))⟩;obtain⟨S,rn,WG⟩:=run rfl;obtain⟨t1,t2,t3,rfl⟩:=hst he;have htl:(l.take k).length=k:=by rw[List.length_take];omega
    have:=rn.snoc (t:=t) (a:=s) (by rw[htl];exact WG) t1 t2 t3;refine⟨_,by rw[List.take_add_one,ht];exact this,?_⟩;have hSl:=rn.len;rw[htl]at hSl;rw[List.getElem?_append_right (by omega),hSl];simp
   .have hcond:(decide ((k:Int)<(l.length:Int))=false)\/(decide (e=0)=false/\decide ((k:Int)<(l.length:Int))=true):=by
     by_cases h1:k<l.length
     .exact .inr ⟨decide_eq_false λe=>hgo ⟨h1,e⟩,decide_eq_true (by omega)⟩
     .exact .inl (decide_eq_false (by omega))
    have hlen:=(hT.up uk).len;rcases hcond with hd|⟨hd,hd1⟩
    all_goals
     first|simp (disch:=omega) only[go_sem,simprocAttr,hlen,hd,hd1,qk,CS.av]|simp (disch:=omega) only[go_sem,simprocAttr,hlen,hd,qk,CS.av]
     rw[aU];refine Kw K (party:=party) (hC.up uk) ho2 (by omega) (hT.up uk) λr g h8 n8 hr u8=>?_;have e8:=u8.le;have g8:=(u8.old n4 (by omega)).trans gk;have q8:=(u8.old n (by have:=Si.le;omega)).trans qk;have WK:=uk.trans u8;by_cases he:e=0
     .by_cases hf:f=0
      .by_cases hg:g=0
       .subst he hf hg
        obtain⟨hp0,hp1,aaw⟩:=hsf rfl;obtain⟨S',run',r1,r2,r3⟩:=hr rfl;obtain⟨S,rn,WG⟩:=run rfl;have hkN:k=l.length:=by
         by_cases h1:k<l.length
         .exact absurd ⟨h1,rfl⟩ hgo
         .omega
        subst hkN;rw[List.take_length]at rn;have so:=GI hv rn _ s WG;have hS':S'[l.length]?=some s:=by
         rw[run'.same (k:=l.length) (by rw[List.take_length];exact rn) (Nat.le_refl _) _ (Nat.le_refl _)];exact WG
        cases sf with
        |false=>
         have hr1:r= -1:=Classical.byContradiction λhne=>by
          obtain⟨k,rfl⟩:=Int.eq_ofNat_of_zero_le (show 0<=r by omega);cases aaw.2 (Ku run' (r1 k rfl))
         subst hr1;simp (disch:=omega) only[go_sem,simprocAttr];exact hQ _ _ WK
        |true=>
         simp (disch:=omega) only[go_sem,simprocAttr,q8,g8,CS.av,TS.av];rw[aU];refine J_ (K+402) (party:=party) (hC.up WK) ho2 (sk.up u8).use so hp0 hp1 λh9 n9 u9=>?_;have u09:=WK.trans u9;cases hfl:anyFailed C s party with
         |false=>
          simp (disch:=omega) only[go_sem,simprocAttr];exact hQ _ _ u09
         |true=>
          have hr0:decide (0<=r)=true:=decide_eq_true<|Classical.byContradiction λhne=>by
           have:=GJ run' (aaw.1 rfl) (r2 (by omega)) hS';rw[hfl]at this;cases this
          simp (disch:=omega) only[go_sem,simprocAttr,hr0];exact hQ _ _ u09
       .have d3:decide (g=0)=false:=decide_eq_false hg
        subst he hf;simp (disch:=omega) only[go_sem,simprocAttr,d3];exact hQ _ _ WK
      .have d2:decide (f=0)=false:=decide_eq_false hf
       subst he;simp (disch:=omega) only[go_sem,simprocAttr,d2];exact hQ _ _ WK
     .have d1:decide (e=0)=false:=decide_eq_false he
      simp (disch:=omega) only[go_sem,simprocAttr,d1];exact hQ _ _ WK
end
end
end
open Go.RowKit
noncomputable section
section
variable (w:World)
def KT:Value->Option AV
 | .bool x=>some (.b x)
 | .int k n=>some (.i k n)
 | .string s=>some (.s s.data.toList)
 | .slice none 0 0=>some (.k 1)
 | .slice (some a) n c=>if n=0 then some (.es a c)else if a.spot=none/\a.block<w.heap.size then some (.sl a.block 0 a.off n (some c))else none
 |_=>none
def qP:List Value->Option (List AV)
 |[]=>some []
 |v::l=>match KT w v,qP l with
  |some a,some b=>some (a::b)
  |_,_=>none
def IG:Th:=λx=>if x<w.heap.size then some (x,0)else none
def Tc(b:Nat):Option AO:=match w.heap[b]? with
 |some (.cells cs _ _)=>some (.ro λk m=>if k+m<=cs.size then qP w ((cs.toList.drop k).take m)else none)
 |_=>none
def Kz:Nat->AH
 |0=>.z
 |n+1=>match Tc w n with
  |some o=>(Kz n).set n o
  |none=>Kz n
def hW:AH:=Kz w w.heap.size
variable {w}
theorem Og{v:Value}{a:AV}(e:KT w v=some a):aV (IG w) a v/\v.oneCell'=true:=by
 unfold KT at e;split at e
 .cases e;exact⟨rfl,rfl⟩
 .cases e;exact⟨rfl,rfl⟩
 .cases e
  rename_i s;obtain⟨d⟩:=s;exact⟨rfl,rfl⟩
 .cases e;exact⟨rfl,rfl⟩
 .rename_i a' n c
  split at e
  .rename_i h0;cases e;subst h0;exact⟨⟨_,_,rfl⟩,rfl⟩
  .split at e
   .rename_i h1
    cases e
    obtain⟨b,o,s⟩:=a';obtain⟨h2,h3⟩:=h1;dsimp only at h2 h3;subst h2;exact⟨⟨b,0,by unfold IG;rw[if_pos h3],λe=>(by cases e),rfl⟩,rfl⟩
   .cases e
 .cases e
theorem Cz:∀{l:List Value}{us:List AV},qP w l=some us->eU (IG w) us l/\∀x∈l,x.oneCell'=true
 |[],_,e=>by cases e;exact⟨rfl,λx hx=>by cases hx⟩
 |v::l,us,e=>by
  unfold qP at e;split at e
  .rename_i a b h1 h2
   cases e
   obtain⟨g1,g2⟩:=Og h1;obtain⟨g3,g4⟩:=Cz h2;exact⟨⟨v,l,g1,g3,rfl⟩,λx hx=>by rcases List.mem_cons.1 hx with rfl|hx;exact g2;exact g4 x hx⟩
  .cases e
theorem II:∀{l m:List Value}{us bs:List AV},qP w l=some us->qP w m=some bs->qP w (l++m)=some (us++bs)
 |[],_,_,_,e,h=>by cases e;exact h
 |v::l,m,us,bs,e,h=>by
  unfold qP at e;split at e
  .rename_i a b h1 h2
   cases e
   show qP w (v::(l++m))=_;unfold qP;rw[h1,II h2 h];rfl
  .cases e
theorem El{α:Type}{f:α->List Value}{c:α->List AV}:∀{l:List α},(∀a∈l,qP w (f a)=some (c a))->qP w (l.flatMap f)=some (l.flatMap c)
 |[],_=>rfl
 |a::l,h=>by
  rw[List.flatMap_cons,List.flatMap_cons];exact II (h a (List.mem_cons_self ..)) (El λb hb=>h b (List.mem_cons_of_mem _ hb))
theorem IJ:∀{l:List Value}{us:List AV},qP w l=some us->us.length=l.length:=λe=>(Cz e).1.length.symm
theorem Ra{l:List Value}{us:List AV}(e:qP w l=some us)(i m:Nat):qP w ((l.drop i).take m)=some ((us.drop i).take m):=by
 induction l generalizing us i m with
 |nil=>cases e;simp;rfl
 |cons v l ih=>
  unfold qP at e;split at e
  .rename_i a b h1 h2
   cases e
   cases i with
   |succ i=>exact ih h2 i m
   |zero=>
    cases m with
    |zero=>rfl
    |succ m=>
     have:=ih h2 0 m;rw[List.drop_zero,List.drop_zero]at this⊢;rw[List.take_succ_cons,List.take_succ_cons];unfold qP;rw[h1,this]
  .cases e
theorem zF:∀(n x:Nat),(Kz w n).get x=if x<n then Tc w x else none
 |0,x=>by unfold Kz;rw[Tr.iI,if_neg (by omega)]
 |n+1,x=>by
  unfold Kz;split
  .rename_i o ho
   rw[h_,zF n x];by_cases h:x=n
   .rw[if_pos h,if_pos (by omega),h,ho]
   .rw[if_neg h]
    by_cases h2:x<n
    .rw[if_pos h2,if_pos (by omega)]
    .rw[if_neg h2,if_neg (by omega)]
  .rename_i ho
   rw[zF n x];by_cases h:x=n
   .rw[if_neg (by omega),if_pos (by omega),h,ho]
   .by_cases h2:x<n
    .rw[if_pos h2,if_pos (by omega)]
    .rw[if_neg h2,if_neg (by omega)]
theorem CB(x:Nat):(hW w).get x=Tc w x:=by
 unfold hW;rw[zF];by_cases h:x<w.heap.size
 .rw[if_pos h]
 .rw[if_neg h]
  unfold Tc;rw[Array.getElem?_eq_none (by omega)]
theorem GK{x:Nat}{o:AO}(e:Tc w x=some o):∃cs t fz,w.heap[x]?=some (.cells cs t fz)/\o= .ro λk m=>if k+m<=cs.size then qP w ((cs.toList.drop k).take m)else none:=by
 unfold Tc at e;split at e
 .rename_i cs t fz h
  cases e
  exact⟨cs,t,fz,h,rfl⟩
 .cases e
theorem RH.world{P:Program}{sl:FuncId->Sl}(hT:Lib.TabIs P w "internal/strconv.uint64pow10" .u64 Lib.pow10Tab):RH P sl (IG w) (hW w) w.heap.size w where
 at_:=λx o e=>by
  rw[CB]at e;obtain⟨cs,t,fz,h1,rfl⟩:=GK e;refine⟨x,0,_,by unfold IG;rw[if_pos (bG h1)],h1,cs,t,fz,rfl,λk m l hl=>?_⟩;dsimp only at hl;split at hl
  .rename_i hle
   obtain⟨g1,g2⟩:=Cz hl;refine⟨_,g1,g2,λj v hv=>?_⟩;rw[List.getElem?_take]at hv;split at hv
   .rw[List.getElem?_drop]at hv
    rw[<-Array.getElem?_toList];exact hv
   .cases hv
  .cases hl
 inj:=λx y r c d _ _ e1 e2=>by
  unfold IG at e1 e2;split at e1
  .split at e2
   .cases e1;cases e2;rfl
   .cases e2
  .cases e1
 new:=λx hx=>by unfold IG;rw[if_neg (by omega)]
 gl:=λg e=>by
  unfold Lib.TabIs World.var? at hT;rw[e]at hT;replace hT:(match w.heap[g]? with|some (.cells cs _ _)=>some cs|_=>none)=some (Lib.pow10Tab.map λz=>Value.int .u64 z).toArray:=hT;split at hT
  .rename_i cs t fz h
   cases hT
   refine⟨t,fz,h,λ⟨x,c,hx,_⟩=>?_⟩;obtain⟨o,ho⟩:=Option.isSome_iff_exists.1 (gH hx);rw[ho]at hx;rw[CB]at ho;obtain⟨_,_,_,_,rfl⟩:=GK ho;cases hx
  .cases hT
theorem VP{k:Nat}:¬Im (IG w) (hW w) k:=λ⟨x,c,hx,_⟩=>by
 obtain⟨o,ho⟩:=Option.isSome_iff_exists.1 (gH hx);rw[ho]at hx;rw[CB]at ho;obtain⟨_,_,_,_,rfl⟩:=GK ho;cases hx
theorem KA{P:Program}{sl:FuncId->Sl}{O:OT}(hP:qK P)(hO:zV P sl O)(hT:Lib.TabIs P w "internal/strconv.uint64pow10" .u64 Lib.pow10Tab){k g:Nat}{avs:List AV}{vs:List Value}{Q:AV->AH->Nat->Prop}
 (e:CW (lS P sl O k) g avs (hW w) w.heap.size Q)(ha:eU (IG w) avs vs):Calls P g vs.toArray w λe w'=>∃v h' n' bP u,Q v h' n'/\e= .returned u/\aV bP v u/\Below w.heap.size w w':=by
 obtain⟨v,h',n',e1,e2⟩:=e;refine((tO hP hO k _ _ _ _ _ _ _ e1).2 (IG w) w vs (RH.world hT) ha).mono ?_;rintro e w' ⟨bP,u,rfl,h1,h2,F⟩;exact⟨v,h',n',bP,u,e2,rfl,h1,⟨F.os,F.tape,F.output,F.size,λk hk=>F.block k hk VP⟩⟩
theorem KC{b o:Nat}{cells:List Value}{us:List AV}(hb:b<w.heap.size)(hc:∀j v,cells[j]?=some v->w.cell? ⟨b,o+j,none⟩=some v)(h0:0<cells.length)(ha:qP w cells=some us):Jp ((hW w).get b) o us:=by
 have h1:∃cs t fz,w.heap[b]?=some (.cells cs t fz):=by
  obtain⟨v,hv⟩:∃v,cells[0]?=some v:=⟨cells[0],List.getElem?_eq_some_iff.2 ⟨h0,rfl⟩⟩;have:=hc 0 v hv;unfold World.cell? at this;split at this
  .exact⟨_,_,_,‹_›⟩
  .cases this
 obtain⟨cs,t,fz,h1⟩:=h1;have h2:Tc w b=some (.ro λk m=>if k+m<=cs.size then qP w ((cs.toList.drop k).take m)else none):=by unfold Tc;rw[h1]
 have h3:∀j v,cells[j]?=some v->cs[o+j]?=some v:=λj v hv=>by
  have:=hc j v hv;unfold World.cell? at this;simpa only[h1,Option.isSome_none,Bool.false_eq_true,if_false]using this
 have hlen:o+cells.length<=cs.size:=by
  obtain⟨v,hv⟩:∃v,cells[cells.length - 1]?=some v:=⟨cells[cells.length - 1],List.getElem?_eq_some_iff.2 ⟨by omega,rfl⟩⟩;have:=(Array.getElem?_eq_some_iff.1 (h3 _ v hv)).1;omega
 have h4:(cs.toList.drop o).take cells.length=cells:=by
  apply List.ext_getElem?;intro j;rw[List.getElem?_take];by_cases hj:j<cells.length
  .rw[if_pos hj,List.getElem?_drop,Array.getElem?_toList]
   have hv:cells[j]?=some cells[j]:=List.getElem?_eq_getElem hj;rw[hv,h3 j _ hv]
  .rw[if_neg hj,List.getElem?_eq_none (by omega)]
 have hal:=IJ ha;refine .inr ⟨_,(CB b).trans h2,λi m him=>?_⟩;rw[if_pos (by omega)];have h5:=Ra ha i m;rw[<-h4,List.drop_take,List.take_take,List.drop_drop,Nat.min_eq_left (by omega)]at h5;exact h5
end
end
end Go.Proofs.YtjoohkjmoghmoaaGreatDoor
namespace Go.Proofs
open Go.Shelf
def Tryz.laysDigits_ren:Go.Shelf.Ren:=⟨λ|284=>287|129=>204|317=>311|318=>312|n=>n,λ|53=>338|3=>3|212=>419|0=>0|4=>4|46=>248|5=>5|9=>9|n=>n,λ|17=>0|n=>n⟩
theorem Tryz.laysDigits:Go.Proofs.LaysM.n284 Tryz.prog Tryz.laysDigits_ren:={
 mixed:=by kernel_rfl
 f129:=Tryz.func204.trans (congrArg some (by kernel_rfl))
 f284:=Tryz.func287.trans (congrArg some (by kernel_rfl))
 f317:=Tryz.func311.trans (congrArg some (by kernel_rfl))
 f318:=Tryz.func312.trans (congrArg some (by kernel_rfl))
 t0:=Tryz.underlying0
 a0:=Tryz.isAgg0
 z0:=Tryz.sizeOf0
 v0:=Tryz.zeroValue0
 t3:=Tryz.underlying3
 a3:=Tryz.isAgg3
 z3:=Tryz.sizeOf3
 v3:=Tryz.zeroValue3
 t4:=Tryz.underlying4
 a4:=Tryz.isAgg4
 z4:=Tryz.sizeOf4
 v4:=Tryz.zeroValue4
 t5:=Tryz.underlying5
 a5:=Tryz.isAgg5
 z5:=Tryz.sizeOf5
 v5:=Tryz.zeroValue5
 t9:=Tryz.underlying9
 a9:=Tryz.isAgg9
 z9:=Tryz.sizeOf9
 v9:=Tryz.zeroValue9
 t46:=Tryz.underlying248
 a46:=Tryz.isAgg248
 z46:=Tryz.sizeOf248
 v46:=Tryz.zeroValue248
 t53:=Tryz.underlying338
 a53:=Tryz.isAgg338
 z53:=Tryz.sizeOf338
 v53:=Tryz.zeroValue338
 t212:=Tryz.underlying419
 a212:=Tryz.isAgg419
 z212:=Tryz.sizeOf419
 v212:=Tryz.zeroValue419
 g17:=by kernel_rfl
 i0:=by kernel_rfl
 i3:=by kernel_rfl
 i4:=by kernel_rfl
 i5:=by kernel_rfl
 i9:=by kernel_rfl
 i46:=by kernel_rfl
 i53:=by kernel_rfl
 i212:=by kernel_rfl
 m17:=by kernel_rfl}
end Go.Proofs
namespace Go.Proofs.YtjoohkjmoghmoaaGreatDoor
section
noncomputable section
theorem Rb:qK Tryz.prog:=by
 refine⟨by kernel_rfl,λg fn e=>?_⟩;have h:Tryz.prog.funcs.toList.all (λfn=> !(fn.name== "runtime.NumGoroutine"))=true:=by kernel_rfl
 have:=List.all_eq_true.1 h fn (by
  rw[<-Array.getElem?_toList]at e;exact List.mem_of_getElem? e)
 simpa using this
def OE:OT:=λf g args h n=>bc (Nat.beq g 43) (some (TU f args h n)) (OD f g args h n)
theorem Td:zV Tryz.prog sl0 OD:=λf hf g args h n v h' n' e=>by
 obtain⟨e1,e2⟩:=bI (show bc (Nat.beq g KL) _ none=some _ from e);obtain rfl:=beq_eq e1;split at e2
 case h_2=>cases e2
 rename_i u;obtain⟨e3,e4⟩:=bI e2;obtain⟨e5,e6⟩:=bI e4;cases e6
 refine⟨⟨_,_,Tryz.func287,rfl⟩,λθ w vs H ha=>?_⟩;obtain⟨_,_,rfl,rfl,rfl⟩:=ha;have hg:Tryz.prog.globalNamed "internal/strconv.uint64pow10"=some 0:=by kernel_rfl
 obtain⟨ty,q,k1,_⟩:=H.gl 0 hg;have ht:Lib.TabIs Tryz.prog w "internal/strconv.uint64pow10" .u64 Lib.pow10Tab:=by
  unfold Lib.TabIs World.var?;rw[hg];simp only[Option.bind_some,k1]
 refine(Any.internal_strconv_numDigits Tryz.laysDigits u (Nat.le_of_ble_eq_true e3) (Nat.lt_succ_of_le (Nat.le_of_ble_eq_true e5)) w ht).mono ?_;rintro en w' ⟨rfl,rfl⟩;exact⟨θ,_,rfl,rfl,H,Fr.refl _ _ _⟩
theorem IK:zV Tryz.prog sl0 OE:=λf hf g args h n v h' n' e=>by
 have e':bc (Nat.beq g 43) (some (TU f args h n)) (OD f g args h n)=some (.ok v h' n'):=e;cases hg:Nat.beq g 43 with
 |true=>
  rw[hg,bD]at e';obtain rfl:=beq_eq hg;exact Px Rb hf (Option.some.inj e')
 |false=>rw[hg,fU]at e';exact Td f hf g args h n v h' n' e'
end
end
section
noncomputable section
def kn(g0:Nat)(A:List AV)(G:AH)(n0:Nat)(v:AV)(O:OT):OT:=λf g args h n=>bc (bc (Nat.beq g g0) (bc (Nat.beq n n0) (bc (uW args A) (std G h n0) false) false) false) (some (.ok v h n)) (O f g args h n)
theorem Oh{g0 n0 K:Nat}{A:List AV}{G:AH}{v:AV}{O O':OT}(hO':zV Tryz.prog sl0 O')(e:V_ v G n0 (lS Tryz.prog sl0 O' K g0 A G n0)=true)(hn:∀x o,G.get x=some o->x<n0)(hO:zV Tryz.prog sl0 O):zV Tryz.prog sl0 (kn g0 A G n0 v O):=λf hf g args h n v' h' n' e'=>by
 cases hc:bc (Nat.beq g g0) (bc (Nat.beq n n0) (bc (uW args A) (std G h n0) false) false) false with
 |false=>
  refine hO f hf g args h n v' h' n' ?_;rw[<-e'];unfold kn;rw[hc];rfl
 |true=>
  have e2:some (eY.ok v h n)=some (.ok v' h' n'):=by rw[<-e'];unfold kn;rw[hc];rfl
  cases e2
  obtain⟨h1,h2⟩:=cO hc;obtain⟨h3,h4⟩:=cO h2;obtain⟨h5,h6⟩:=cO h4;obtain rfl:=beq_eq h1;obtain rfl:=beq_eq h3;obtain rfl:=qm _ _ h5;exact apart Rb hO' e h6 hn
theorem CF{G:AH}{k j:Nat}{a:AO}(hG:∀x o,G.get x=some o->x<k)(hj:j<k):∀x o,(G.set j a).get x=some o->x<k:=λx o e=>by
 rw[h_]at e;split at e
 .omega
 .exact hG x o e
end
end
noncomputable section
def sA:AV:=.agg [.i .i64 1,.sl 4 0 0 1 (some 1),.sl 5 0 0 1 (some 1),.sl 6 0 0 1 (some 1),.sl 7 0 0 1 (some 1),.i .i64 5,.k 1]
def sG:AH:=(((Tr.z.set 4 (AO.row 3 [.i .i64 0])).set 5 (.row 167 [.s [69,85,82],.i .i64 2,.i .i64 0,.i .i64 1,.i .i64 1])).set 6 (.row 169 [.i .i64 1,.i .i64 0,.i .i64 0,.i .i64 (.negSucc 0),.i .i64 (.negSucc 0),.i .i64 0,.i .i64 1])).set 7
 (.row 112 [.i .i64 1,.i .i64 0,.i .i64 0,.i .i64 1,.k 1,.i .i64 2,.i .i64 0,.b false,.b true,.i .i64 (.negSucc 0),.i .i64 (.negSucc 0),.i .i64 50,.i .i64 1,.i .i64 0,.i .i64 0,.b false])
theorem Oi{k:Nat}(hk:8<=k):∀x o,sG.get x=some o->x<k:=λx o e=>by
 unfold sG at e;simp only[h_]at e;repeat' split at e
 all_goals first|omega|cases e
end
end Go.Proofs.YtjoohkjmoghmoaaGreatDoor

/- part -/
import Derived.Test.YtjoohkjmoghmoaaGreatDoorP14
set_option linter.all false
namespace Go.Proofs.YtjoohkjmoghmoaaGreatDoor
section
noncomputable section
section
variable {h h':AH} {n n':Nat} {v:CS} {C:aA} {p:aP} {party:Int} {ps:List (TS×aP)} {wv:List AV} {M:List (List (Int×Nat))} {Q:AV->AH->Nat->Prop} {vv ww ov:AV} {jJ:List Int}
structure FwA(g:ZY)(v:CS)(C:aA)(party:Int)(vv ww:AV)(ps:List (TS×aP))(wv:List AV)(M:List (List (Int×Nat)))(mv ov:AV)(wT jJ:List Int)(h:AH)(n:Nat):Prop where
 f:FoA g v C party vv ww ps wv M h n
 mv:SL h n 1 mv iN wT
 ov:SL h n 1 ov iN jJ
structure FwS(C:aA)(party:Int)(P:List aP)(l:List Int)(S:List aI)(i:Nat)(s:aI):Prop where
 run:f_ C C.first l S
 last:S[l.length]?=some s
 pos:P[i]?=some ⟨s,true⟩
 dec:IQ C party l S
theorem FwS.step{P:List aP}{l:List Int}{S:List aI}{i j:Nat}{s:aI}{t:Int}(a:FwS C party P l S i s)(h1: -1<=t)(h2:t<C.acts.length)(h3:s.day<C.days)(hj:P[j]?=some ⟨C.aW s t,true⟩)(hs:¬bS C party ⟨s,true⟩->¬bS C party (C.decide party s (C.aW s t) t)):
 FwS C party P (l++[t]) (S++[C.aW s t]) j (C.aW s t):=by
 have hl:=a.run.len;refine⟨a.run.snoc a.last h1 h2 h3,?_,hj,λk u x y hk hx hy=>?_⟩
 .rw[List.length_append,List.getElem?_append_right (by simp;omega),hl];simp
 .by_cases hkl:k<l.length
  .rw[List.getElem?_append_left hkl]at hk
   rw[List.getElem?_append_left (by omega)]at hx hy;exact a.dec k u x y hk hx hy
  .have hk2:k<(l++[t]).length:=(List.getElem?_eq_some_iff.1 hk).1
   obtain rfl:k=l.length:=by simp at hk2;omega
   rw[List.getElem?_append_right (Nat.le_refl _)]at hk;rw[List.getElem?_append_left (by omega),a.last]at hx;rw[List.getElem?_append_right (by omega),hl]at hy;simp at hk hy;subst hk;cases hx
   subst hy;exact hs
def FL(h:AH)(n n3 n7:Nat)(v:CS)(C:aA)(party:Int)(vv ww:AV)(ps:List (TS×aP))(wv:List AV)(M:List (List (Int×Nat)))(mv ov:AV)(wT jJ:List Int)(hk:AH)(nk:Nat)(l:List Int)(S:List aI)(i:Nat)(s:aI):Prop:=∃(X:Nat->Prop)(lv:AV),
 KW hk nk ⟨n7,n7+1,n,n3,n+1⟩ X (FwA ⟨n7,n7+1,n,n3,n+1⟩ v C party vv ww ps wv M mv ov wT jJ) lv l i/\FwS C party (ps.map (·.2)) l S i s/\Up h n hk nk/\∀x,X x->n<=x
theorem J9(K:Nat)(hC:aZ h n v C)(ho:C.off.length<=1000000)(hO:SL h n 1 ov iN jJ)(hol:jJ.length<=1000000)(hal:C.acts.length<=1000000)
 (hE:∀e h' n',e=1\/e=3->Up h n h' n'->Q (.bN [.k 1,.i .i64 e]) h' n')
 (hQ:∀v' l S h' n',C.valid=true->0<=party->party<C.aC->¬gL C party ⟨C.first,true⟩->f_ C C.first l S->IQ C party l S->l.length<=4000->Up h n h' n'->Kp (λx=>x<n) h' n' (λh n=>SL h n 1 v' iN l)->Q (.bN [v',.i .i64 0]) h' n'):
 CW (EF (K+12)) 20 [.agg (v.av C),.i .i64 party,ov] h n Q:=by
 refine aD c20 rfl ?_;repeat' (first|(simp (disch:=omega) only[go_sem,simprocAttr,m20,CS.av])|(refine aR ?_ ?_<;>(intro hb hd;rw[hb];clear hb))|(with_reducible refine aj ?_))
 rw[aU]
 -- the checks of the others' steps
 have chk:∀(h3:AH)(n3 b8:Nat)(err:Int)(F:Fm)(st:List It),Up h n h3 n3->n+2<=n3->h3.get n=some (.row 27 (v.av C))->lk F 26=some ov->lk F 27=some (.i .i64 (jJ.length:Nat))->lk F 28=some (.i .i64 0)->lk F 2=some ov->lk F 3=some (.p n 0)->lk F 4=some (.p (n+1) 0)->lk F 8=some (.p b8 0)->lk F 9=some (.i .i64 err)->
  (∀(h4:AH)(n4:Nat),Up h3 n3 h4 n4->(∀t∈jJ, -1<=t/\t<C.acts.length)->sK Tryz.prog Y0 20 100000 st (.exit 0) (EF (K+11)) h4 n4 [(2,ov),(3,.p n 0),(4,.p (n+1) 0),(8,.p b8 0),(9,.i .i64 err),(26,ov)] (KR [.t 6,.t 7] Q))->
  (∀(h4:AH)(n4:Nat)(F:Fm),Up h3 n3 h4 n4->lk F 6=some (.k 1)->lk F 7=some (.i .i64 1)->sK Tryz.prog Y0 20 100000 st .ret (EF (K+11)) h4 n4 F (KR [.t 6,.t 7] Q))->
  SM Tryz.prog Y0 20 (.c (xP 3 28 27 29 0 1 NH)::st) .bW (EF (K+11)) h3 n3 F (KR [.t 6,.t 7] Q):=by
  intro h3 n3 b8 err F st u3 l3 r3 f26 f27 f28 f2 f3 f4 f8 f9 fin bad;refine bX jJ.length (λk h5 n5 G=>(∀j,j<k->∀t,jJ[j]?=some t-> -1<=t/\t<C.acts.length)/\Up h3 n3 h5 n5/\G=[(2,ov),(3,.p n 0),(4,.p (n+1) 0),(8,.p b8 0),(9,.i .i64 err),(26,ov)]) (by omega) (by omega) (by omega) (by omega) (λk h8 n8 G ⟨_,_,e⟩=>by subst e;exact⟨rfl,rfl⟩) ⟨f28,f27,_,⟨(λj hj=>absurd hj (by omega)),Up.refl _ _,rfl⟩,aN f2 (aN f3 (aN f4 (aN f8 (aN f9 (aN f26 aO)))))⟩ ?_ ?_
  .rintro k h5 n5 G hk ⟨hb,u5,rfl⟩
   have e5:=u5.le;obtain⟨b1,o1,t,i1,hx,hb1,rd⟩:=(hO.up (u3.trans u5)).fu (k:=(k:Nat)) (by omega) (by omega) (by omega);rw[show((k:Nat):Int).toNat=k by omega]at hx;have r5:=(u5.old n (by omega)).trans r3;repeat' (first|(simp (disch:=omega) only[go_sem,simprocAttr,NH,aJ i1,rd.el,rd.hd,r5,CS.av,hC.acts.len])|(refine aR ?_ ?_<;>(intro hb hd;rw[hb];clear hb))|(with_reducible refine aj ?_))
   .exact bad _ _ _ u5 rfl rfl
   .exact bad _ _ _ u5 rfl rfl
   .refine⟨rfl,rfl,_,⟨λj hj y hy=>?_,u5,rfl⟩,by(repeat' (first|exact aO|refine aN rfl ?_))⟩
    by_cases e:j=k
    .subst e;rw[hx]at hy;cases hy;omega
    .exact hb j (by omega) y hy
  .rintro h5 n5 G ⟨hb,u5,rfl⟩
   refine fin _ _ u5 λt ht=>?_;obtain⟨j,hj⟩:=List.getElem?_of_mem ht;exact hb j (List.getElem?_eq_some_iff.1 hj).1 t hj
 refine NA K (hC.up aH) ho (λhn h3 n3 u3=>?_) (λhv hp0 hp1 hbig h3 n3 u3=>?_) (λhv hp0 hp1 ps wv M vv ww h3 n3 ia u3 k3=>?_)
 .have e3:=u3.le
  repeat' (first|(simp (disch:=omega) only[go_sem,simprocAttr,EI,Int.reduceEq])|(refine aR ?_ ?_<;>(intro hb hd;rw[hb];clear hb))|(with_reducible refine aj ?_))
  exact hE 1 _ _ (.inl rfl) aH
 .have e3:=u3.le
  have r3:h3.get n=some (.row 27 (v.av C)):=by rw[u3.old _ (by omega)];simp (disch:=omega) only[go_sem]
  have ux:Up h n h3 n3:=by exact aH
  clear u3;repeat' (first|(simp (disch:=omega) only[go_sem,simprocAttr,EI,Int.reduceEq,hO.len])|(refine aR ?_ ?_<;>(intro hb hd;rw[hb];clear hb))|(with_reducible refine aj ?_))
  refine chk _ _ n3 3 _ _ aH (by omega) (by simp (disch:=omega) only[go_sem,r3]) rfl rfl rfl rfl rfl rfl rfl rfl (λh4 n4 u4 _=>?_) (λh4 n4 F u4 f6 f7=>?_)
  .repeat' (first|(simp (disch:=omega) only[go_sem,simprocAttr,Int.reduceEq])|(refine aR ?_ ?_<;>(intro hb hd;rw[hb];clear hb))|(with_reducible refine aj ?_))
   exact hE 3 _ _ (.inr rfl) aH
  .simp (disch:=omega) only[go_sem,simprocAttr,f6,f7]
   exact hE 1 _ _ (.inl rfl) aH
 .have e3:=u3.le
  have r3:h3.get n=some (.row 27 (v.av C)):=by rw[u3.old _ (by omega)];simp (disch:=omega) only[go_sem]
  have r4:h3.get (n+1)=some (.row 3 [.i .i64 party]):=by rw[u3.old _ (by omega)];simp (disch:=omega) only[go_sem]
  have ux:Up h n h3 n3:=by exact aH
  clear u3;repeat' (first|(simp (disch:=omega) only[go_sem,simprocAttr,Int.reduceEq,hO.len])|(refine aR ?_ ?_<;>(intro hb hd;rw[hb];clear hb))|(with_reducible refine aj ?_))
  have g8:((Tr.set h3 n3 (.row 150 [.i .i64 0,.k 1,.k 1])).set n3 (.row 150 (oH party vv ww))).get n3=some (.row 150 (oH party vv ww)):=aG;have g3:((Tr.set h3 n3 (.row 150 [.i .i64 0,.k 1,.k 1])).set n3 (.row 150 (oH party vv ww))).get n=some (.row 27 (v.av C)):=by simp (disch:=omega) only[go_sem,r3]
  have g4:((Tr.set h3 n3 (.row 150 [.i .i64 0,.k 1,.k 1])).set n3 (.row 150 (oH party vv ww))).get (n+1)=some (.row 3 [.i .i64 party]):=by simp (disch:=omega) only[go_sem,r4]
  have ar:=(k3.up (show Up h3 n3 ((Tr.set h3 n3 (.row 150 [.i .i64 0,.k 1,.k 1])).set n3 (.row 150 (oH party vv ww))) (n3+1) by exact aH));have JX:Up h n ((Tr.set h3 n3 (.row 150 [.i .i64 0,.k 1,.k 1])).set n3 (.row 150 (oH party vv ww))) (n3+1):=by exact aH
  generalize(Tr.set h3 n3 (.row 150 [.i .i64 0,.k 1,.k 1])).set n3 _=h5 at*;refine chk _ _ n3 0 _ _ JX (by omega) g3 rfl rfl rfl rfl rfl rfl rfl rfl (λh4 n4 u4 hall=>?_) (λh4 n4 F u4 f6 f7=>?_);rotate_left
  .simp (disch:=omega) only[go_sem,simprocAttr,f6,f7]
   exact hE 1 _ _ (.inl rfl) aH
  have e4:=u4.le;have g8:=(u4.old n3 (by omega)).trans g8;have g3:=(u4.old n (by omega)).trans g3;have g4:=(u4.old (n+1) (by omega)).trans g4;have WS:=pQ hv;repeat' (first|(simp (disch:=omega) only[go_sem,simprocAttr,Int.reduceEq,hO.len,g8,g3,CS.av])|(refine aR ?_ ?_<;>(intro hb hd;rw[hb];clear hb))|(with_reducible refine aj ?_))
  .exact hE 3 _ _ (.inr rfl) aH
  rw[bQ];refine CF (K+1) (hC.up (JX.trans u4)) ho (ar.up u4).use ia hp0 hp1 WS λsv sf h6 n6 hsf u6 k6=>?_;have e6:=u6.le;have g8':=(u6.old n3 (by omega)).trans g8;simp (disch:=omega) only[go_sem,simprocAttr];rw[bQ];refine Gp _ ((ar.up u4).up u6).use ia WS k6.use hsf λmv wT h7 n7 VA u7 k7=>?_;have e7:=u7.le;have Z5:=(u7.old n3 (by omega)).trans g8';repeat' (first|(simp (disch:=omega) only[go_sem,simprocAttr,g8,g8',Z5,hO.len])|(refine aR ?_ ?_<;>(intro hb hd;rw[hb];clear hb))|(with_reducible refine aj ?_))
  have hsm:=ia.small;have hlen:=ia.len;rw[List.length_map]at hsm hlen;have amG:wT.length=ps.length:=by rw[VA.1,List.length_map]
  have fl0:FL h n n3 n7 v C party vv ww ps wv M mv ov wT jJ (((Tr.set h7 n7 (.row 22 [.k 1])).set (n7+1) (.row 3 [.i .i64 0])).set (n7+1) (.row 3 [.i .i64 0])) (n7+1+1) [] [C.first] 0 C.first:=by
   have u47:=u6.trans u7;have uz:Up h7 n7 (((Tr.set h7 n7 (.row 22 [.k 1])).set (n7+1) (.row 3 [.i .i64 0])).set (n7+1) (.row 3 [.i .i64 0])) (n7+1+1):=by exact aH
   refine⟨λx=>x=n7\/x=n7+1,.k 1,⟨by simp (disch:=omega) only[go_sem],Gr.nil λ_=>rfl,aG,by show n7≠n7+1;omega,λx hx=>absurd hx eX,.inl rfl,.inr rfl,λx hx=>absurd hx eX,λx hx=>by omega,λh' n' hn he=>?_⟩,⟨f_.nil C C.first,rfl,ia.hd,λk t a b hk=>by cases hk⟩,(((JX.trans u4).trans u47).trans uz),λx hx=>by have:=JX.le;omega⟩;have o:∀x,x<n7->h'.get x=h7.get x:=λx hx=>(he x (by omega) (by omega)).trans (uz.old x hx);have u':Up h7 n7 h' n':=⟨by omega,o⟩;have WT:Up h4 n4 h' n':=u47.trans u';exact⟨⟨(WT.old n (by omega)).trans g3,(WT.old n3 (by omega)).trans g8,(WT.old (n+1) (by omega)).trans g4,hC.up ((JX.trans u4).trans WT),((ar.up u4).up WT).use⟩,(k7.up u').use,hO.up ((JX.trans u4).trans WT)⟩
  generalize((Tr.set h7 n7 _).set (n7+1) _).set (n7+1) _=h8 at*;clear g8 g8' Z5 g3 g4 k6 k7 k3 ar ux r3 r4 chk;have tail:∀hk nk l S i s,FL h n n3 n7 v C party vv ww ps wv M mv ov wT jJ hk nk l S i s->l.length<=4000->∀e F,e=2->lk F 13=some (.p n7 0)->sK Tryz.prog Y0 20 100000 [It.b 2,It.c ((MC.reg [⟨none,.ld none (.s 13),.l⟩,⟨none,.mv (.v 0),.k 6⟩,⟨none,.mv (.c (.i .i64 0)),.k 7⟩]).seq .ret)] (.exit e) (EF (K+11)) hk nk F (KR [.t 6,.t 7] Q):=by
   rintro hk nk l S i s ⟨X,lv,a,fs,uk,hX⟩ hl e F rfl f13;have wS:=a.wS;have nb:∀x,blk lv x->¬x<n:=λx hx e=>by have:=hX x (a.Xl x hx);omega
   simp (disch:=omega) only[go_sem,simprocAttr,f13,wS,fQ];exact hQ _ l S _ _ hv hp0 hp1 (ia.M6 .refl) fs.run fs.dec hl uk (a.gl.sl.kp nb)
  have acts:∀(k:Nat)(t:Int)(st:List It)(Q':PQ),(∀hk nk l S i s,FL h n n3 n7 v C party vv ww ps wv M mv ov wT jJ hk nk l S i s->l.length<=4001->s.day<C.days->(wT[i]?=some (-2)\/4000<l.length)->∀F,(∀m w,lk [(3,.p n 0),(4,.p (n+1) 0),(8,.p n3 0),(12,mv),(13,.p n7 0),(14,.p (n7+1) 0),(15,.f 53 [.p n7 0,.p (n7+1) 0,.p n 0,.p n3 0,.p (n+1) 0]),(55,ov),(56,.i .i64 (jJ.length:Nat)),(57,.i .i64 (k:Nat)),(17,.i .i64 t)] m=some w->lk F m=some w)->sK Tryz.prog Y0 20 100000 st (.exit 4) (EF (K+11)) hk nk F Q')->
   ∀hk nk l S i s F,FL h n n3 n7 v C party vv ww ps wv M mv ov wT jJ hk nk l S i s->l.length<=4000->s.day<C.days->(∀m w,lk [(3,.p n 0),(4,.p (n+1) 0),(8,.p n3 0),(12,mv),(13,.p n7 0),(14,.p (n7+1) 0),(15,.f 53 [.p n7 0,.p (n7+1) 0,.p n 0,.p n3 0,.p (n+1) 0]),(55,ov),(56,.i .i64 (jJ.length:Nat)),(57,.i .i64 (k:Nat)),(17,.i .i64 t)] m=some w->lk F m=some w)->SM Tryz.prog Y0 20 (It.c (.loop NG)::st) .bW (EF (K+11)) hk nk F Q':=by
   intro k t st Q' after hk nk l S i s F fl hl jC hF;refine jy (λm hk nk F=>(∃l S i s,FL h n n3 n7 v C party vv ww ps wv M mv ov wT jJ hk nk l S i s/\l.length+m=4001/\s.day<C.days)/\F=[(3,.p n 0),(4,.p (n+1) 0),(8,.p n3 0),(12,mv),(13,.p n7 0),(14,.p (n7+1) 0),(15,.f 53 [.p n7 0,.p (n7+1) 0,.p n 0,.p n3 0,.p (n+1) 0]),(55,ov),(56,.i .i64 (jJ.length:Nat)),(57,.i .i64 (k:Nat)),(17,.i .i64 t)]) (4001 - l.length) (by omega) ⟨_,⟨⟨l,S,i,s,fl,by omega,jC⟩,rfl⟩,hF⟩ ?_;clear hF jC hl fl F s i S l nk hk;rintro m hk nk F ⟨⟨l,S,i,s,⟨X,lv,a,fs,uk,hX⟩,hm,jC⟩,rfl⟩;have fw:=a.A.use;have wS:=a.wS;have pY:=a.pY;dsimp only at wS pY;have hin:=(List.getElem?_eq_some_iff.1 fs.pos).1;rw[List.length_map]at hin;obtain⟨b2,o2,x,i2,hx,hb2,eY⟩:=fw.mv.fu (k:=(i:Nat)) (by omega) (by omega) (by omega);rw[show((i:Nat):Int).toNat=i by omega]at hx;obtain⟨x',hx',VB,af2⟩:=VA.2 i _ fs.pos;rw[hx]at hx';cases hx'
   repeat' (first|(simp (disch:=omega) only[go_sem,simprocAttr,NG,pY,aJ i2,eY.el,eY.hd,wS,a.gl.len])|(refine aR ?_ ?_<;>(intro hb hd;rw[hb];clear hb))|(with_reducible refine aj ?_))
   .have hne:¬x= -2:=by assumption
    have hnd:¬bS C party ⟨s,true⟩:=λe=>hne (af2 (.inr e));obtain⟨r,hr,hnr⟩:=VB rfl hnd;obtain⟨y0,y1,y2,y3⟩:=NS hr hne;have hr2:=CG hr;rw[if_neg hne]at hr2;rw[hr2]at hnr;rw[Ci];show CW _ 53 [.i .i64 x,.p n7 0,.p (n7+1) 0,.p n 0,.p n3 0,.p (n+1) 0] _ _ _;refine S9 (K+9) (g:=⟨n7,n7+1,n,n3,n+1⟩) a (λh n e=>e.f) ia WS hp0 fs.pos (by omega) y1 jC (by omega) λv' X' j h9 n9 a9 hj hn9 hs9 Vm hX9=>?_;simp (disch:=omega) only[go_sem,simprocAttr];have fs2:=fs.step (by omega) y1 jC hj λ_=>by unfold aA.decide;rw[if_pos ⟨y0,y3⟩];exact hnr
    have ukl:=uk.le;refine⟨m - 1,_,by omega,⟨⟨_,_,j,_,⟨X',v',a9,fs2,⟨by omega,λy hy=>?_⟩,λy hy=>?_⟩,by simp;omega,by rw[Gq y0];exact jC⟩,rfl⟩,by(repeat' (first|exact aO|refine aN rfl ?_))⟩
    .rw[hs9 y (by omega) (λe=>by have:=hX y e;omega),uk.old y hy]
    .rcases hX9 y hy with e|e
     .exact hX y e
     .omega
   .exact after _ _ l S i s ⟨X,lv,a,fs,uk,hX⟩ (by omega) jC (.inr (by omega)) _ (by(repeat' (first|exact aO|refine aN rfl ?_)))
   .exact after _ _ l S i s ⟨X,lv,a,fs,uk,hX⟩ (by omega) jC (.inl (by rw[hx,hd])) _ (by(repeat' (first|exact aO|refine aN rfl ?_)))
  refine bX jJ.length (λk hk nk G=>(∃l S i s,FL h n n3 n7 v C party vv ww ps wv M mv ov wT jJ hk nk l S i s/\l.length<=4000)/\G=[(3,.p n 0),(4,.p (n+1) 0),(8,.p n3 0),(12,mv),(13,.p n7 0),(14,.p (n7+1) 0),(15,.f 53 [.p n7 0,.p (n7+1) 0,.p n 0,.p n3 0,.p (n+1) 0]),(55,ov)]) (by omega) (by omega) (by omega) (by omega) (λk h8 n8 G ⟨_,e⟩=>by subst e;exact⟨rfl,rfl⟩) ⟨rfl,rfl,_,⟨⟨_,_,_,_,fl0,by simp⟩,rfl⟩,by(repeat' (first|exact aO|refine aN rfl ?_))⟩ ?_ ?_;rotate_left
  .rintro hk nk G ⟨⟨l,S,i,s,fl,hl⟩,rfl⟩
   refine tail _ _ _ _ _ _ fl hl 2 _ rfl ?_;rfl
  clear fl0;rintro k h8 n8 G hk ⟨⟨l,S,i,s,⟨X,lv,a,fs,uk,hX⟩,hl⟩,rfl⟩;have fw:=a.A.use;have r3:=fw.f.r3;have r8:=fw.f.r8;dsimp only at r3 r8;have pY:=a.pY;dsimp only at pY;have hin:=(List.getElem?_eq_some_iff.1 fs.pos).1;rw[List.length_map]at hin;obtain⟨b1,o1,t,i1,ht,hb1,rd⟩:=fw.ov.fu (k:=(k:Nat)) (by omega) (by omega) (by omega);obtain⟨b2,o2,x,i2,hx,hb2,eY⟩:=fw.f.ar.pos.fu (k:=(i:Nat)) (by omega) (by omega) (by omega);rw[show((k:Nat):Int).toNat=k by omega]at ht;rw[show((i:Nat):Int).toNat=i by omega]at hx;have hx2:x.2=⟨s,true⟩:=by have:=fs.pos;rw[List.getElem?_map,hx]at this;simpa using this
  have rdd:qQ (h8.get b2) o2 none=some (.i .i64 s.day):=by rw[eY.hd];show nv (xC x) 0=_;rw[xC,hx2];rfl
  repeat' (first|(simp (disch:=omega) only[go_sem,simprocAttr,SV,aJ i1,rd.el,rd.hd,r8,pY,i2,rdd,r3])|(refine aR ?_ ?_<;>(intro hb hd;rw[hb];clear hb))|(with_reducible refine aj ?_))
  .have wS:=a.wS
   dsimp only at wS;simp (disch:=omega) only[go_sem,simprocAttr,wS];exact hQ _ l S _ _ hv hp0 hp1 (ia.M6 .refl) fs.run fs.dec hl uk (a.gl.sl.kp λx hx (e:x<n)=>by have:=hX x (a.Xl x hx);omega)
  have hdy:s.day<C.days:=by
   have:=(wm.ok WS (ia.rch _ (List.mem_of_getElem? fs.pos))).D8;dsimp only at this;omega
  refine acts k t _ _ (λhk nk l S i s fl hl jC hor F hF=>?_) _ _ l S i s _ ⟨X,lv,a,fs,uk,hX⟩ hl hdy (by(repeat' (first|exact aO|refine aN rfl ?_)));clear hdy hd rdd hx2 hx eY i2 hin pY r8 r3 fw hX uk fs a hb2;obtain⟨X,lv,a,fs,uk,hX⟩:=fl;have f3:=hF 3 _ rfl;have f4:=hF 4 _ rfl;have f8:=hF 8 _ rfl;have f13:=hF 13 _ rfl;have f14:=hF 14 _ rfl;have f15:=hF 15 _ rfl;have f17:=hF 17 _ rfl;have fw:=a.A.use;have r3:=fw.f.r3;have r8:=fw.f.r8;have r4:=fw.f.r4;have pY:=a.pY;dsimp only at r3 r8 pY r4;have hin:=(List.getElem?_eq_some_iff.1 fs.pos).1;rw[List.length_map]at hin;obtain⟨b2,o2,x,i2,hx,hb2,eY⟩:=fw.f.ar.pos.fu (k:=(i:Nat)) (by omega) (by omega) (by omega);rw[show((i:Nat):Int).toNat=i by omega]at hx;have hx2:x.2=⟨s,true⟩:=by have:=fs.pos;rw[List.getElem?_map,hx]at this;simpa using this
  have rp:=eY.pre (k:=4) (by omega);have e4':(xC x).take 4=x.1.av s:=by rw[xC,hx2];rfl
  rw[e4']at rp;have SX:aK C s:=wm.ok WS (ia.rch _ (List.mem_of_getElem? fs.pos));have hst:cZ hk nk x.1 s:=by have:=fw.f.ar.st x (List.mem_of_getElem? hx);rw[hx2]at this;exact this
  obtain⟨t1,t2⟩:=hall t (List.mem_of_getElem? ht);repeat' (first|(simp (disch:=omega) only[go_sem,simprocAttr,f3,f8,f14,f17,f4,r3,r8,pY,CS.av,i2,rp])|(refine aR ?_ ?_<;>(intro hb hd;rw[hb];clear hb))|(with_reducible refine aj ?_))
  rw[bQ];refine AQ _ fw.f.con hst SX t1 t2 λh9 n9 u9=>?_;have a9:=a.up u9;have e9:=u9.le;have fw9:=a9.A.use;have WR:=fw9.f.r4;have Nz:=a9.wS;dsimp only at WR Nz;have f12:=hF 12 _ rfl;have f55:=hF 55 _ rfl;have f56:=hF 56 _ rfl;have f57:=hF 57 _ rfl;have dec:(if t= -1 then(-1:Int)else C.doer s t)=party↔(0<=t/\C.doer s t=party):=by
   by_cases ht:t= -1
   .rw[if_pos ht];constructor<;>intro e<;>omega
   .rw[if_neg ht];constructor
    .intro e;exact⟨by omega,e⟩
    .exactλe=>e.2
  have u9k:Up h n h9 n9:=uk.trans u9;have leF:∀x y m w,lk [(3,.p n 0),(4,.p (n+1) 0),(8,.p n3 0),(12,mv),(13,.p n7 0),(14,.p (n7+1) 0),(15,.f 53 [.p n7 0,.p (n7+1) 0,.p n 0,.p n3 0,.p (n+1) 0]),(55,ov)] m=some w->lk (pt (pt F 97 x) 103 y) m=some w:=λx y m w hm=>by
   have h1:m≠97:=by rintro rfl;cases hm
   have h2:m≠103:=by rintro rfl;cases hm
   have hle:∀m w,lk [(3,.p n 0),(4,.p (n+1) 0),(8,.p n3 0),(12,mv),(13,.p n7 0),(14,.p (n7+1) 0),(15,.f 53 [.p n7 0,.p (n7+1) 0,.p n 0,.p n3 0,.p (n+1) 0]),(55,ov)] m=some w->lk [(3,.p n 0),(4,.p (n+1) 0),(8,.p n3 0),(12,mv),(13,.p n7 0),(14,.p (n7+1) 0),(15,.f 53 [.p n7 0,.p (n7+1) 0,.p n 0,.p n3 0,.p (n+1) 0]),(55,ov),(56,.i .i64 (jJ.length:Nat)),(57,.i .i64 (k:Nat)),(17,.i .i64 t)] m=some w:=by(repeat' (first|exact aO|refine aN rfl ?_))
   rw[fQ,if_neg h2,fQ,if_neg h1];exact hF m w (hle m w hm)
  by_cases hdp:(if t= -1 then(-1:Int)else C.doer s t)=party
  .have hdd:decide ((if t= -1 then(-1:Int)else C.doer s t)=party)=true:=decide_eq_true hdp
   repeat' (first|(simp (disch:=omega) only[go_sem,simprocAttr,WR,r4,hdd,f3,f4,f8,f12,f13,f14,f15,f17,f55,f56,f57,fQ,Nz,a9.gl.len])|(refine aR ?_ ?_<;>(intro hb hd;rw[hb];clear hb))|(with_reducible refine aj ?_))
   .exact hE 3 _ _ (.inr rfl) aH
   .refine⟨by rw[fQ,if_neg (by omega),fQ,if_neg (by omega)];exact f57,by rw[fQ,if_neg (by omega),fQ,if_neg (by omega)];exact f56,_,⟨⟨l,S,i,s,⟨X,lv,a9,fs,u9k,hX⟩,by omega⟩,rfl⟩,?_⟩
    exact leF _ _
  .have hdd:decide ((if t= -1 then(-1:Int)else C.doer s t)=party)=false:=decide_eq_false hdp
   repeat' (first|(simp (disch:=omega) only[go_sem,simprocAttr,WR,r4,hdd,f3,f4,f8,f12,f13,f14,f15,f17,f55,f56,f57,fQ,Nz,a9.gl.len])|(refine aR ?_ ?_<;>(intro hb hd;rw[hb];clear hb))|(with_reducible refine aj ?_))
   rw[Ci];show CW _ 53 [.i .i64 t,.p n7 0,.p (n7+1) 0,.p n 0,.p n3 0,.p (n+1) 0] _ _ _;refine S9 (K+9) (g:=⟨n7,n7+1,n,n3,n+1⟩) a9 (λh n e=>e.f) ia WS hp0 fs.pos t1 t2 jC (by omega) λv' X' j h10 n10 NT hj amL af5 Vm af6=>?_;have S_:=NT.wS;dsimp only at S_;have e9k:=u9k.le;have Gj:Up h n h10 n10:=⟨by omega,λy hy=>by rw[af5 y (by omega) (λe=>by have:=hX y e;omega),u9k.old y hy]⟩;repeat' (first|(simp (disch:=omega) only[go_sem,simprocAttr,f3,f4,f8,f12,f13,f14,f15,f17,f55,f56,f57,fQ,S_,NT.gl.len])|(refine aR ?_ ?_<;>(intro hb hd;rw[hb];clear hb))|(with_reducible refine aj ?_))
   .exact hE 3 _ _ (.inr rfl) aH
   .have hl1:l.length+1<=4000:=by
     have:¬(4000:Int)<((l++[t]).length:Nat):=hd;simp at this;omega
    have fs2:=fs.step t1 t2 jC hj λhnd=>by
     have hnp:¬(0<=t/\C.doer s t=party):=λe=>hdp (dec.2 e);unfold aA.decide;rw[if_neg hnp];rcases hor with e|e
     .obtain⟨x',hx',VB,_⟩:=VA.2 i _ fs.pos
      rw[e]at hx';cases hx';obtain⟨r,hr,hnr⟩:=VB rfl hnd;have hr2:=CG hr;rw[if_pos rfl]at hr2;rw[hr2]at hnr;exact hnr
     .omega
    refine⟨by rw[fQ,if_neg (by omega),fQ,if_neg (by omega)];exact f57,by rw[fQ,if_neg (by omega),fQ,if_neg (by omega)];exact f56,_,⟨⟨_,_,j,_,⟨X',v',NT,fs2,Gj,λy hy=>?_⟩,by simp;omega⟩,rfl⟩,leF _ _⟩;rcases af6 y hy with e|e
    .exact hX y e
    .omega
end
end
end
section
noncomputable section
section
variable {h h':AH} {n n':Nat} {v:CS} {C:aA} {tv:TS} {p:aP} {party:Int} {ps:List (TS×aP)} {wv:List AV} {M:List (List (Int×Nat))} {Q:AV->AH->Nat->Prop} {vv ww sv:AV} {sf:List Bool}
def NU(C:aA)(party:Int)(q:aP)(x:Int):Prop:=(q.own=true->∃r,(x,r)∈C.kJ party q/\¬bS C party r)/\(q.own=false->x=0)
theorem Gs(K:Nat)(ai:qW h n vv ww ps wv M)(ia:bV C party p (ps.map (·.2)) M)(so:aK C p.st)(hs:SL h n 1 sv SY sf)(sl:NQ C party (ps.map (·.2)) sf){i:Nat}{q:aP}(hi:(ps.map (·.2))[i]?=some q)(p8:¬bS C party q)
 (hQ:∀x h' n',NU C party q x->Up h n h' n'->Q (.i .i64 x) h' n'):CW (EF (K+1)) 194 [.agg (oH party vv ww),sv,.i .i64 (i:Nat)] h n Q:=by
 have hsm:=ia.small;have hlen:=ia.len;have hl2:=ai.len;have hin:=(List.getElem?_eq_some_iff.1 hi).1;rw[List.length_map]at hsm hlen hin;have hsl:sf.length=ps.length:=by rw[sl.1,List.length_map]
 obtain⟨l,hl⟩:=ia.row hi;have hll:=sV so ia hl;obtain⟨b1,o1,x,i1,hx,hb1,rd⟩:=ai.pos.fu (k:=(i:Nat)) (by omega) (by omega) (by omega);obtain⟨b2,o2,y,i2,hy,hb2,eY⟩:=ai.row.fu (k:=(i:Nat)) (by omega) (by omega) (by omega);rw[show((i:Nat):Int).toNat=i by omega]at hx hy;have hx2:x.2=q:=by rw[List.getElem?_map,hx]at hi;simpa using hi
 have sy:=ai.mv i y l hy hl;have QT:qQ (h.get b1) (o1+4) none=some (.b q.own):=by rw[rd.el 4 (by omega),<-hx2];rfl
 refine aD c194 rfl ?_;cases hown:q.own with
 |false=>
  rw[hown]at QT;repeat' (first|(simp (disch:=omega) only[go_sem,simprocAttr,Vp,aJ i1,QT])|(refine aR ?_ ?_<;>(intro hb hd;rw[hb];clear hb))|(with_reducible refine aj ?_))
  exact hQ 0 _ _ ⟨(λe=>by rw[hown]at e;cases e),λ_=>rfl⟩ aH
 |true=>
  rw[hown]at QT;repeat' (first|(simp (disch:=omega) only[go_sem,simprocAttr,Vp,aJ i1,QT,aJ i2,eY.el,eY.hd,sy.len])|(refine aR ?_ ?_<;>(intro hb hd;rw[hb];clear hb))|(with_reducible refine aj ?_))
  have u0:Up h n (Tr.set h n (.row 150 (oH party vv ww))) (n+1):=by exact aH
  generalize Tr.set h n (.row 150 (oH party vv ww))=h1 at*;refine bX l.length (λt h9 n9 G=>(∀j,j<t->∀z,l[j]?=some z->sf[z.2]?=some false)/\Up h n h9 n9/\G=[(1,sv),(20,y)]) (by omega) (by omega) (by omega) (by omega) (λk h8 n8 G ⟨_,_,e⟩=>by subst e;exact⟨rfl,rfl⟩) ⟨rfl,rfl,_,⟨(λj hj=>absurd hj (by omega)),u0,rfl⟩,by(repeat' (first|exact aO|refine aN rfl ?_))⟩ ?_ ?_
  .rintro t h9 n9 G ht ⟨hno,u9,rfl⟩
   have e9:=u9.le;obtain⟨b4,o4,z,i4,hz,hb4,rd4⟩:=(sy.up u9).fu (k:=(t:Nat)) (by omega) (by omega) (by omega);rw[show((t:Nat):Int).toNat=t by omega]at hz;have TG:=List.mem_of_getElem? hz;have hlt:=ia.tgt hl TG;rw[List.length_map]at hlt;obtain⟨b5,o5,sz,i5,hsz,hb5,qU⟩:=(hs.up u9).fu (k:=(z.2:Nat)) (by omega) (by omega) (by omega);rw[show((z.2:Nat):Int).toNat=z.2 by omega]at hsz;obtain⟨r,hr1,hr2⟩:=ia.back hi hl (show(z.1,z.2)∈l from TG);obtain⟨sz',hsz',hsr⟩:=sl.2 z.2 r hr1;rw[hsz]at hsz';cases hsz'
   repeat' (first|(simp (disch:=omega) only[go_sem,simprocAttr,aJ i4,rd4.all,aJ i5,qU.el,qU.hd])|(refine aR ?_ ?_<;>(intro hb hd;rw[hb];clear hb))|(with_reducible refine aj ?_))
   .exact hQ z.1 _ _ ⟨λ_=>⟨r,hr2,hsr.1 hd⟩,(λe=>by rw[hown]at e;cases e)⟩ aH
   .refine⟨rfl,rfl,_,⟨λj hj w hw=>?_,by exact aH,rfl⟩,by(repeat' (first|exact aO|refine aN rfl ?_))⟩
    by_cases e:j=t
    .subst e;rw[hz]at hw;cases hw;rw[hsz,hd]
    .exact hno j (by omega) w hw
  .rintro h9 n9 G ⟨hno,u9,rfl⟩
   exfalso;refine p8 (.own hown λm r hmr=>?_);obtain⟨j,hj1,hj2⟩:=ia.move hi hl hmr;obtain⟨t,ht⟩:=List.getElem?_of_mem hj1;have:=hno t (List.getElem?_eq_some_iff.1 ht).1 _ ht;obtain⟨b,hb',hbr⟩:=sl.2 j r hj2;rw[this]at hb';cases hb';exact Classical.byContradiction λe=>by have:=hbr.2 e;cases this
@[reducible] def Ta (x:(TS×aP)×Int):List AV:=[.i .i64 x.1.2.st.day,x.1.1.h,x.1.1.u,x.1.1.m,.b x.1.2.own,.i .i64 x.2]
def VD:AV:=.agg [.i .i64 0,.k 1]
open Classical in
def VE(C:aA)(party:Int)(p:aP)(rows:List ((TS×aP)×Int)):Prop:=(∃P M,bV C party p P M/\rows.map (λx=>x.1.2)=P.filter λq=>decide (¬bS C party q))/\∀x∈rows,NU C party x.1.2 x.2
open Classical in
theorem J_(K:Nat)(hC:aZ h n v C)(ho:C.off.length<=1000000)(hS:cZ h n tv p.st)
 (kD:¬(0<=party/\party<C.aC/\aK C p.st)->∀h' n',Up h n h' n'->Q (.bN [VD,.i .i64 1]) h' n')(rQ:0<=party->party<C.aC->aK C p.st->gL C party p->∀h' n',Up h n h' n'->Q (.bN [VD,.i .i64 3]) h' n')
 (Iz:0<=party->party<C.aC->aK C p.st->bS C party p->∀h' n',Up h n h' n'->Q (.bN [VD,.i .i64 13]) h' n')
 (Z6:0<=party->party<C.aC->aK C p.st->¬bS C party p->∀rows rv h' n',VE C party p rows->Up h n h' n'->Kp (λx=>x<n) h' n' (λh n=>SL h n 6 rv Ta rows/\∀x∈rows,cZ h n x.1.1 x.1.2.st)->Q (.bN [.agg [.i .i64 party,rv],.i .i64 0]) h' n'):
 CW (EF (K+11)) 119 [.agg (v.av C),.i .i64 party,.agg (tv.pv p)] h n Q:=by
 refine aD c119 rfl ?_;repeat' (first|(simp (disch:=omega) only[go_sem,simprocAttr,ZT,CS.av,TS.pv])|(refine aR ?_ ?_<;>(intro hb hd;rw[hb];clear hb))|(with_reducible refine aj ?_))
 rw[aU];refine Cy K (hC.up aH) ho (hS.up aH) ⟨λhn h3 n3 u3=>?_,λhp0 hp1 so hbig h3 n3 u3=>?_,λhp0 hp1 so ps wv M vv ww h3 n3 ia u3 k3=>?_⟩
 .have e3:=u3.le
  have r2:h3.get (n+1+1)=some (.row 80 [.i .i64 0,.k 1]):=by rw[u3.old _ (by omega)];simp (disch:=omega) only[go_sem]
  repeat' (first|(simp (disch:=omega) only[go_sem,simprocAttr,EI,Int.reduceEq,r2])|(refine aR ?_ ?_<;>(intro hb hd;rw[hb];clear hb))|(with_reducible refine aj ?_))
  exact kD hn _ _ aH
 .have e3:=u3.le
  have r2:h3.get (n+1+1)=some (.row 80 [.i .i64 0,.k 1]):=by rw[u3.old _ (by omega)];simp (disch:=omega) only[go_sem]
  repeat' (first|(simp (disch:=omega) only[go_sem,simprocAttr,EI,Int.reduceEq,r2])|(refine aR ?_ ?_<;>(intro hb hd;rw[hb];clear hb))|(with_reducible refine aj ?_))
  exact rQ hp0 hp1 so hbig _ _ aH
 .have e3:=u3.le
  have r2:h3.get (n+1+1)=some (.row 80 [.i .i64 0,.k 1]):=by rw[u3.old _ (by omega)];simp (disch:=omega) only[go_sem]
  have r3:h3.get n=some (.row 27 (v.av C)):=by rw[u3.old _ (by omega)];simp (disch:=omega) only[go_sem]
  have ux:Up h n h3 n3:=by exact aH
  clear u3;have hsm:=ia.small;rw[List.length_map]at hsm;repeat' (first|(simp (disch:=omega) only[go_sem,simprocAttr,Int.reduceEq,r3,CS.av])|(refine aR ?_ ?_<;>(intro hb hd;rw[hb];clear hb))|(with_reducible refine aj ?_))
  rw[aU];have k5:=(k3.up (show Up h3 n3 ((Tr.set h3 n3 (.row 150 [.i .i64 0,.k 1,.k 1])).set n3 (.row 150 (oH party vv ww))) (n3+1) by exact aH));refine CF K (hC.up aH) ho k5.use ia hp0 hp1 so λsv sf h6 n6 hsf u6 k6=>?_;have e6:=u6.le;have hd0:=ia.hd;obtain⟨s0,hs0,hs1⟩:=hsf.2 0 p hd0;have amM:sf.length=ps.length:=by rw[hsf.1,List.length_map]
  have amN:0<ps.length:=by have:=(List.getElem?_eq_some_iff.1 hd0).1;rw[List.length_map]at this;exact this
  obtain⟨b1,o1,z,i1,hz,hb1,rd⟩:=k6.use.fu (k:=0) (by omega) (by omega) (by omega);rw[show(0:Int).toNat=0 by rfl,hs0]at hz;cases hz
  have r2':h6.get (n+1+1)=some (.row 80 [.i .i64 0,.k 1]):=by rw[u6.old _ (by omega),ay (by omega),ay (by omega)];exact r2
  have r8:h6.get n3=some (.row 150 (oH party vv ww)):=by rw[u6.old _ (by omega),aG]
  have ux6:Up h n h6 n6:=by exact aH
  repeat' (first|(simp (disch:=omega) only[go_sem,simprocAttr,aJ i1,rd.el,rd.hd,r2',r8,(k5.up u6).use.pos.len])|(refine aR ?_ ?_<;>(intro hb hd;rw[hb];clear hb))|(with_reducible refine aj ?_))
  .refine Iz hp0 hp1 so (Classical.byContradiction λe=>?_) _ _ aH
   have:=hs1.2 e;rw[hd]at this;cases this
  have hnd:=hs1.1 hd;have u7:Up h6 n6 ((Tr.set h6 n6 (.row 80 [.i .i64 0,.k 1])).set n6 (.row 80 [.i .i64 party,.k 1])) (n6+1):=by exact aH
  have g7:((Tr.set h6 n6 (.row 80 [.i .i64 0,.k 1])).set n6 (.row 80 [.i .i64 party,.k 1])).get n6=some (.row 80 [.i .i64 party,.k 1]):=aG;generalize(Tr.set h6 n6 (.row 80 [.i .i64 0,.k 1])).set n6 _=h7 at*;have ar6:=k5.up u6;refine bX ps.length (λk hk nk G=>∃(rv:AV)(rows:List ((TS×aP)×Int)),Up h6 n6 hk nk/\n6<nk/\hk.get n6=some (.row 80 [.i .i64 party,rv])/\Gr hk nk 163 6 rv Ta rows/\(∀x,blk rv x->n6<x)/\rows.map (·.1)=(ps.take k).filter (λx=>decide (¬bS C party x.2))/\(∀x∈rows,NU C party x.1.2 x.2)/\
   G=[(6,.p (n+1+1) 0),(8,.p n3 0),(10,sv),(11,.p n6 0),(36,vv)]) (by omega) (by omega) (by omega) (by omega) (λk h8 n8 G ⟨_,_,_,_,_,_,_,_,_,e⟩=>by subst e;exact⟨rfl,rfl⟩) ⟨rfl,rfl,_,⟨.k 1,[],u7,Nat.lt_succ_self _,g7,Gr.nil λ_=>rfl,λx hx=>absurd hx eX,rfl,(λx hx=>by cases hx),rfl⟩,by(repeat' (first|exact aO|refine aN rfl ?_))⟩ ?_ ?_
  .rintro k h8 n8 G hk ⟨rv,rows,u8,l8,g8,gr,hb,hm,hkq,rfl⟩
   have e8:=u8.le;have ar8:=(ar6.up u8).use;obtain⟨b2,o2,x,i2,hx,hb2,eY⟩:=ar8.pos.fu (k:=(k:Nat)) (by omega) (by omega) (by omega);obtain⟨b3,o3,sb,i3,hsb,hb3,oF⟩:=(k6.use.up u8).fu (k:=(k:Nat)) (by omega) (by omega) (by omega);rw[show((k:Nat):Int).toNat=k by omega]at hx hsb;have hP:(ps.map (·.2))[k]?=some x.2:=by rw[List.getElem?_map,hx];rfl
   obtain⟨sb',J8,p8⟩:=hsf.2 k x.2 hP;rw[hsb]at J8;cases J8
   have r8k:=(u8.old n3 (by omega)).trans r8;have htk:(ps.take (k+1)).filter (λx=>decide (¬bS C party x.2))=(ps.take k).filter (λx=>decide (¬bS C party x.2))++if sb=true then[x]else[]:=by
    rw[List.take_add_one,hx,List.filter_append];congr 1;cases sb with
    |true=>have:=p8.1 rfl;simp[this]
    |false=>
     have:bS C party x.2:=Classical.byContradiction λe=>by have:=p8.2 e;cases this
     simp[this]
   repeat' (first|(simp (disch:=omega) only[go_sem,simprocAttr,aJ i2,eY.all,aJ i3,oF.el,oF.hd,g8,r8k])|(refine aR ?_ ?_<;>(intro hb hd;rw[hb];clear hb))|(with_reducible refine aj ?_))
   .rw[bQ]
    refine Gs _ (ar8.up aH) ia so ((k6.use.up u8).up aH) hsf hP (p8.1 hd) λmv h9 n9 hmv u9=>?_;have e9:=u9.le;have q13:h9.get n8=some (.row 45 (xC x)):=by rw[u9.old _ (by omega)];exact aG
    have EJ:h9.get n6=some (.row 80 [.i .i64 party,rv]):=by rw[u9.old _ (by omega),ay (by omega),ay (by omega)];exact g8
    repeat' (first|(simp (disch:=omega) only[go_sem,simprocAttr,q13,EJ,g8])|(refine aR ?_ ?_<;>(intro hb hd;rw[hb];clear hb))|(with_reducible refine aj ?_))
    have hrl:rows.length<=1500:=by
     have e:=congrArg List.length hm;rw[List.length_map]at e;have e1:=List.length_filter_le (λx:TS×aP=>decide (¬bS C party x.2)) (ps.take k);have e2:=List.length_take_le k ps;omega
    refine CB (l2:=[(x,mv)]) (gr.up aH) ⟨rfl,?_⟩ (by simp;omega) λv' h10 n10 g10 l10 s10 b10=>?_
    .show bnd (iA (Tr.get _ _) 0 _) (λr=>lQ (Nat.mul 1 6) r)=_
     rw[aG];rfl
    have n6b:¬blk rv n6:=λe=>by have:=hb _ e;omega
    have VF:h10.get n6=some (.row 80 [.i .i64 party,rv]):=by rw[s10 n6 (by omega) n6b,ay (by omega)];exact EJ
    simp (disch:=omega) only[go_sem,simprocAttr,VF,g10.cl,EJ,q13];refine⟨rfl,rfl,_,⟨v',rows++[(x,mv)],⟨by omega,λy hy=>?_⟩,by omega,aG,g10.on (Nat.le_refl _) λy _ hy=>ay ?_,λy hy=>?_,by rw[htk,hd,List.map_append,hm];rfl,λy hy=>?_,rfl⟩,by(repeat' (first|exact aO|refine aN rfl ?_))⟩
    .rw[ay (by omega),s10 y (by omega) (λe=>by have:=hb y e;omega),ay (by omega),u9.old y (by omega),ay (by omega),ay (by omega),u8.old y hy]
    .rintro rfl
     rcases b10 _ hy with e|e
     .exact n6b e
     .omega
    .rcases b10 y hy with e|e
     .exact hb y e
     .omega
    .rcases List.mem_append.1 hy with hy|hy
     .exact hkq y hy
     .simp at hy;subst hy;exact hmv
   .refine⟨rfl,rfl,_,⟨rv,rows,u8.trans aH,by omega,by simp (disch:=omega) only[go_sem,g8],gr.up aH,hb,by rw[htk,hd];simpa using hm,hkq,rfl⟩,by(repeat' (first|exact aO|refine aN rfl ?_))⟩
  .rintro h8 n8 G ⟨rv,rows,u8,l8,g8,gr,hb,hm,hkq,rfl⟩
   have e8:=u8.le;have r2k:=(u8.old (n+1+1) (by omega)).trans r2';rw[List.take_length]at hm;have ux8:Up h n h8 n8:=ux6.trans u8;repeat' (first|(simp (disch:=omega) only[go_sem,simprocAttr,g8,r2k])|(refine aR ?_ ?_<;>(intro hb hd;rw[hb];clear hb))|(with_reducible refine aj ?_))
   have hmp:rows.map (λx=>x.1.2)=(ps.map (·.2)).filter (λq=>decide (¬bS C party q)):=by
    have e:=congrArg (List.map (λx:TS×aP=>x.2)) hm;rw[List.map_map]at e;rw[List.filter_map];exact e
   refine Z6 hp0 hp1 so hnd rows rv _ _ ⟨⟨_,M,ia,hmp⟩,hkq⟩ aH ?_;have kr:Kp (λx=>x<n+1+1+1) h8 n8 (λh n=>SL h n 6 rv Ta rows):=gr.sl.kp λx hx=>by have:=hb x hx;omega
   have ka:=ar6.up u8;have kk:=(kr.and ka).wk (B:=λh n=>SL h n 6 rv Ta rows/\∀x∈rows,cZ h n x.1.1 x.1.2.st) λh n e=>⟨e.1,λx hx=>e.2.st x.1 ((List.mem_filter.1 (show x.1∈ps.filter (λx=>decide (¬bS C party x.2)) by rw[<-hm];exact List.mem_map_of_mem hx)).1)⟩;exact(kk.set (.inl (by omega)) (Nat.le_refl _)).le λx _ hx=>by omega
end
end
end
section
noncomputable section
set_option maxRecDepth 1000000
set_option maxHeartbeats 4000000
def m90:MC:=vF 90
def c90:=vT 90 m90
def m61:MC:=vF 61
def c61:=vT 61 m61
def Z7:MC:=vF 114
def af7:=vT 114 Z7
def Z8:MC:=vF 62
def c62:=vT 62 Z8
def VG:MC:=vF 116
def c116:=vT 116 VG
def Z9:MC:=vF 118
def af8:=vT 118 Z9
def Z_:MC:=vF 192
def af9:=vT 192 Z_
def VH:MC:=vF 193
def c193:=vT 193 VH
def m34:MC:=vF 34
def c34:=vT 34 m34
def NV:MC:=vB 34 (jF 34 0)
def VI:=vU 34 (jF 34 0) NV
def NW:MC:=vB 34 (jG 34 0)
def VJ:=vU 34 (jG 34 0) NW
def m33:MC:=vF 33
def c33:=vT 33 m33
def m31:MC:=vF 31
def c31:=vT 31 m31
def m32:MC:=vF 32
def c32:=vT 32 m32
def m60:MC:=vF 60
def c60:=vT 60 m60
def Ka:MC:=vF 113
def agc:=vT 113 Ka
def aac:MC:=vF 110
def agd:=vT 110 aac
def aad:MC:=vF 111
def agf:=vT 111 aad
def aae:MC:=vF 190
def agh:=vT 190 aae
def aaf:MC:=vF 112
def agi:=vT 112 aaf
def m10:MC:=vF 10
def c10:=vT 10 m10
def m35:MC:=vF 35
def c35:=vT 35 m35
def m36:MC:=vF 36
def c36:=vT 36 m36
def m65:MC:=vF 65
def c65:=vT 65 m65
def m37:MC:=vF 37
def c37:=vT 37 m37
def m11:MC:=vF 11
def c11:=vT 11 m11
def Gt:MC:=vB 11 (jF 11 0)
def NY:=vU 11 (jF 11 0) Gt
def Gu:MC:=vB 11 (jG 11 0)
def NZ:=vU 11 (jG 11 0) Gu
end
end
section
noncomputable section
theorem Tc:Ed 23:=⟨λ_ _ _ _ _=>by kernel_rfl,λ_ _=>by kernel_rfl,by kernel_rfl⟩
theorem Td:Ed 24:=⟨λ_ _ _ _ _=>by kernel_rfl,λ_ _=>by kernel_rfl,by kernel_rfl⟩
theorem aag:Ed 25:=⟨λ_ _ _ _ _=>by kernel_rfl,λ_ _=>by kernel_rfl,by kernel_rfl⟩
theorem N7:Ed 110:=⟨λ_ _ _ _ _=>by kernel_rfl,λ_ _=>by kernel_rfl,by kernel_rfl⟩
theorem k68:xO Tryz.prog sl0 68=some ([true],lJ 23 167 5,[(.t 2)]):=by kernel_rfl
theorem k69:xO Tryz.prog sl0 69=some ([true],lJ 24 169 7,[(.t 2)]):=by kernel_rfl
theorem k70:xO Tryz.prog sl0 70=some ([true],lJ 25 112 16,[(.t 2)]):=by kernel_rfl
theorem k71:xO Tryz.prog sl0 71=some ([true],lJ 110 191 2,[(.t 2)]):=by kernel_rfl
theorem Ep{α:Type}{c:α->List AV}{w:Nat}(hw:∀a,(c a).length=w){l:List α}{i j:Nat}{a a':α}{y:AV}(hi:l[i]?=some a)(hj:j<w)(hy:c a'=(c a).set j y):st1 (i*w+j) y (l.flatMap c)=some ((l.set i a').flatMap c):=by
 have hl:=(List.getElem?_eq_some_iff.1 hi).1;have h1:=uE hw l i a' hl;have YX:(i+1)*w<=l.length*w:=Nat.mul_le_mul_right w hl;rw[Nat.succ_mul]at YX;have hfl:(l.flatMap c).length=l.length*w:=bJ hw l;have hat:((l.flatMap c).drop (i*w)).take w=c a:=nH hw hi;rw[<-h1,sw];unfold oz;rw[if_pos (by rw[hfl];show i*w+j+1<=_;omega),if_pos (by rw[hfl,hw];omega)];congr 1;rw[hy];generalize hL:l.flatMap c=L at*;have Ee:(c a).length=w:=hw a;have hsplit:L=L.take (i*w)++(c a++L.drop (i*w+w)):=by
  rw[<-hat,<-List.drop_drop,List.take_append_drop,List.take_append_drop]
 rw[List.length_set,Ee];show L.take (i*w+j)++y::L.drop (i*w+j+1)=L.take (i*w)++((c a).set j y++L.drop (i*w+w));have e1:L.set (i*w+j) y=L.take (i*w+j)++y::L.drop (i*w+j+1):=by rw[List.set_eq_take_append_cons_drop,if_pos (by omega)]
 rw[<-e1];have e2:(L.take (i*w)++(c a++L.drop (i*w+w))).set (i*w+j) y=L.take (i*w)++((c a).set j y++L.drop (i*w+w)):=by
  rw[List.set_append,List.length_take,Nat.min_eq_left (by omega),if_neg (by omega),List.set_append,show i*w+j - i*w=j by omega,if_pos (by rw[Ee];omega)]
 rw[<-e2,<-hsplit]
abbrev CJ(p:aF×AV):List AV:=p.1.av p.2
section
variable {h h':AH} {n n':Nat} {v:CS} {C:aA} {Q:AV->AH->Nat->Prop}
theorem CK(K:Nat)(hC:aZ h n v C)(ok:C.Ok)(ho:C.off.length<=1000000)(hu:C.units.length<=1000000)
 (hQ:∀v' h' n',Up h n h' n'->Kp (λx=>x<n) h' n' (λh n=>aZ h n v' C)->Q (.agg (v'.av C)) h' n'):CW (EF (K+2)) 37 [.agg (v.av C)] h n Q:=by
 have:=ok.dQ;have:=ok.kg;have:=ok.j_;obtain⟨ss,hs1,hs2,hs3⟩:=hC.clauses;have hz:(C.clauses.zip ss).length=C.clauses.length:=by simp[hs1]
 have hk:SL h n 16 v.k CJ (C.clauses.zip ss):=⟨λ_=>rfl,by rw[hz];exact hs2⟩;refine aD c37 rfl ?_;repeat' (first|(simp (disch:=omega) only[go_sem,simprocAttr,ub.old,m37,CS.av])|(simp (disch:=omega) only[go_sem,simprocAttr,m37,CS.av])|(refine aR ?_ ?_<;>(intro hb hd;rw[hb];clear hb))|(with_reducible refine aj ?_))
 generalize hh:Tr.set (Tr.set h n _) (n+1) _=h1;have u1:Up h n h1 (n+2):=by rw[<-hh];exact aH
 have q1:h1.get n=some (.row 27 (v.av C)):=by rw[<-hh];simp (disch:=omega) only[go_sem]
 have p1:h1.get (n+1)=some (.row 27 [.i .i64 0,.k 1,.k 1,.k 1,.k 1,.i .i64 0,.k 1]):=by rw[<-hh];simp (disch:=omega) only[go_sem]
 clear hh;have ux1:=u1;rw[aU];refine eG UY zB _ (hC.ah.up ux1) (by omega) λv2 h2 n2 u2 g2 b2 x2=>?_;have e2:=u2.le;have q2:=(u2.old n (by omega)).trans q1;have p2:=(u2.old (n+1) (by omega)).trans p1;simp (disch:=omega) only[go_sem,simprocAttr,g2.cl,q2,CS.av];have Dc:=(g2.sl.kp (X:=λx=>x<n+2) λx hx=>by have:=b2 x hx;omega).set (b:=n) (o:=.row 27 [.i .i64 C.aC,v2,v.u,v.a,v.k,.i .i64 C.days,v.o]) (.inl (by omega)) (Nat.le_refl _);have KX:Up h n (h2.set n (.row 27 [.i .i64 C.aC,v2,v.u,v.a,v.k,.i .i64 C.days,v.o])) n2:=Up.st (ux1.trans u2) _ _ (Nat.le_refl _);replace q2:(h2.set n (.row 27 [.i .i64 C.aC,v2,v.u,v.a,v.k,.i .i64 C.days,v.o])).get n=some (.row 27 [.i .i64 C.aC,v2,v.u,v.a,v.k,.i .i64 C.days,v.o]):=aG;replace p2:(h2.set n (.row 27 [.i .i64 C.aC,v2,v.u,v.a,v.k,.i .i64 C.days,v.o])).get (n+1)=some (.row 27 [.i .i64 0,.k 1,.k 1,.k 1,.k 1,.i .i64 0,.k 1]):=by rw[ay (by omega)];exact p2
 generalize Tr.set h2 n _=h2a at*;rw[aU];refine eG k68 Tc _ (hC.units.up KX) (hu) λv3 h3 n3 u3 g3 b3 x3=>?_;have e3:=u3.le;have q3:=(u3.old n (by omega)).trans q2;have p3:=(u3.old (n+1) (by omega)).trans p2;simp (disch:=omega) only[go_sem,simprocAttr,g3.cl,q3,CS.av];have Dc:=(Dc.up u3).set (b:=n) (o:=.row 27 [.i .i64 C.aC,v2,v3,v.a,v.k,.i .i64 C.days,v.o]) (.inl (by omega)) (Nat.le_refl _);have IU:=(g3.sl.kp (X:=λx=>x<n+2) λx hx=>by have:=b3 x hx;omega).set (b:=n) (o:=.row 27 [.i .i64 C.aC,v2,v3,v.a,v.k,.i .i64 C.days,v.o]) (.inl (by omega)) (Nat.le_refl _);have rR:Up h n (h3.set n (.row 27 [.i .i64 C.aC,v2,v3,v.a,v.k,.i .i64 C.days,v.o])) n3:=Up.st (KX.trans u3) _ _ (Nat.le_refl _);replace q3:(h3.set n (.row 27 [.i .i64 C.aC,v2,v3,v.a,v.k,.i .i64 C.days,v.o])).get n=some (.row 27 [.i .i64 C.aC,v2,v3,v.a,v.k,.i .i64 C.days,v.o]):=aG;replace p3:(h3.set n (.row 27 [.i .i64 C.aC,v2,v3,v.a,v.k,.i .i64 C.days,v.o])).get (n+1)=some (.row 27 [.i .i64 0,.k 1,.k 1,.k 1,.k 1,.i .i64 0,.k 1]):=by rw[ay (by omega)];exact p3
 generalize Tr.set h3 n _=h3a at*;rw[aU];refine eG k69 Td _ (hC.acts.up rR) (by omega) λv4 h4 n4 u4 g4 b4 x4=>?_;have e4:=u4.le;have q4:=(u4.old n (by omega)).trans q3;have p4:=(u4.old (n+1) (by omega)).trans p3;simp (disch:=omega) only[go_sem,simprocAttr,g4.cl,q4,CS.av];have Dc:=(Dc.up u4).set (b:=n) (o:=.row 27 [.i .i64 C.aC,v2,v3,v4,v.k,.i .i64 C.days,v.o]) (.inl (by omega)) (Nat.le_refl _);have IU:=(IU.up u4).set (b:=n) (o:=.row 27 [.i .i64 C.aC,v2,v3,v4,v.k,.i .i64 C.days,v.o]) (.inl (by omega)) (Nat.le_refl _);have O5:=(g4.sl.kp (X:=λx=>x<n+2) λx hx=>by have:=b4 x hx;omega).set (b:=n) (o:=.row 27 [.i .i64 C.aC,v2,v3,v4,v.k,.i .i64 C.days,v.o]) (.inl (by omega)) (Nat.le_refl _);have VK:Up h n (h4.set n (.row 27 [.i .i64 C.aC,v2,v3,v4,v.k,.i .i64 C.days,v.o])) n4:=Up.st (rR.trans u4) _ _ (Nat.le_refl _);replace q4:(h4.set n (.row 27 [.i .i64 C.aC,v2,v3,v4,v.k,.i .i64 C.days,v.o])).get n=some (.row 27 [.i .i64 C.aC,v2,v3,v4,v.k,.i .i64 C.days,v.o]):=aG;replace p4:(h4.set n (.row 27 [.i .i64 C.aC,v2,v3,v4,v.k,.i .i64 C.days,v.o])).get (n+1)=some (.row 27 [.i .i64 0,.k 1,.k 1,.k 1,.k 1,.i .i64 0,.k 1]):=by rw[ay (by omega)];exact p4
 generalize Tr.set h4 n _=h4a at*;rw[aU];refine eG UY zB _ (hC.off.up VK) (ho) λv5 h5 n5 u5 g5 b5 x5=>?_;have e5:=u5.le;have q5:=(u5.old n (by omega)).trans q4;have p5:=(u5.old (n+1) (by omega)).trans p4;simp (disch:=omega) only[go_sem,simprocAttr,g5.cl,q5,CS.av];have Dc:=(Dc.up u5).set (b:=n) (o:=.row 27 [.i .i64 C.aC,v2,v3,v4,v.k,.i .i64 C.days,v5]) (.inl (by omega)) (Nat.le_refl _);have IU:=(IU.up u5).set (b:=n) (o:=.row 27 [.i .i64 C.aC,v2,v3,v4,v.k,.i .i64 C.days,v5]) (.inl (by omega)) (Nat.le_refl _);have O5:=(O5.up u5).set (b:=n) (o:=.row 27 [.i .i64 C.aC,v2,v3,v4,v.k,.i .i64 C.days,v5]) (.inl (by omega)) (Nat.le_refl _);have WU:=(g5.sl.kp (X:=λx=>x<n+2) λx hx=>by have:=b5 x hx;omega).set (b:=n) (o:=.row 27 [.i .i64 C.aC,v2,v3,v4,v.k,.i .i64 C.days,v5]) (.inl (by omega)) (Nat.le_refl _);have JX:Up h n (h5.set n (.row 27 [.i .i64 C.aC,v2,v3,v4,v.k,.i .i64 C.days,v5])) n5:=Up.st (VK.trans u5) _ _ (Nat.le_refl _);replace q5:(h5.set n (.row 27 [.i .i64 C.aC,v2,v3,v4,v.k,.i .i64 C.days,v5])).get n=some (.row 27 [.i .i64 C.aC,v2,v3,v4,v.k,.i .i64 C.days,v5]):=aG;replace p5:(h5.set n (.row 27 [.i .i64 C.aC,v2,v3,v4,v.k,.i .i64 C.days,v5])).get (n+1)=some (.row 27 [.i .i64 0,.k 1,.k 1,.k 1,.k 1,.i .i64 0,.k 1]):=by rw[ay (by omega)];exact p5
 generalize Tr.set h5 n _=h5a at*;rw[aU];refine eG k70 aag _ (hk.up JX) (by rw[hz];omega) λv6 h6 n6 u6 g6 b6 x6=>?_;have e6:=u6.le;have q6:=(u6.old n (by omega)).trans q5;have p6:=(u6.old (n+1) (by omega)).trans p5;simp (disch:=omega) only[go_sem,simprocAttr,g6.cl,q6,CS.av];have Dc:=(Dc.up u6).set (b:=n) (o:=.row 27 [.i .i64 C.aC,v2,v3,v4,v6,.i .i64 C.days,v5]) (.inl (by omega)) (Nat.le_refl _);have IU:=(IU.up u6).set (b:=n) (o:=.row 27 [.i .i64 C.aC,v2,v3,v4,v6,.i .i64 C.days,v5]) (.inl (by omega)) (Nat.le_refl _);have O5:=(O5.up u6).set (b:=n) (o:=.row 27 [.i .i64 C.aC,v2,v3,v4,v6,.i .i64 C.days,v5]) (.inl (by omega)) (Nat.le_refl _);have WU:=(WU.up u6).set (b:=n) (o:=.row 27 [.i .i64 C.aC,v2,v3,v4,v6,.i .i64 C.days,v5]) (.inl (by omega)) (Nat.le_refl _);have kk6:=(g6.sl.kp (X:=λx=>x<n+2) λx hx=>by have:=b6 x hx;omega).set (b:=n) (o:=.row 27 [.i .i64 C.aC,v2,v3,v4,v6,.i .i64 C.days,v5]) (.inl (by omega)) (Nat.le_refl _);have ux6:Up h n (h6.set n (.row 27 [.i .i64 C.aC,v2,v3,v4,v6,.i .i64 C.days,v5])) n6:=Up.st (JX.trans u6) _ _ (Nat.le_refl _);replace q6:(h6.set n (.row 27 [.i .i64 C.aC,v2,v3,v4,v6,.i .i64 C.days,v5])).get n=some (.row 27 [.i .i64 C.aC,v2,v3,v4,v6,.i .i64 C.days,v5]):=aG;replace p6:(h6.set n (.row 27 [.i .i64 C.aC,v2,v3,v4,v6,.i .i64 C.days,v5])).get (n+1)=some (.row 27 [.i .i64 0,.k 1,.k 1,.k 1,.k 1,.i .i64 0,.k 1]):=by rw[ay (by omega)];exact p6
 have x6':=λhne=>(x6 hne).imp λb e=>(show _/\(h6.set n (.row 27 [.i .i64 C.aC,v2,v3,v4,v6,.i .i64 C.days,v5])).get b=_/\_/\_ from⟨e.1,(ay (by omega)).trans e.2.1,e.2.2⟩);generalize Tr.set h6 n _=h6a at*;have l2:∀x,blk v2 x->n+2<=x/\x<n5:=λx hx=>⟨by have:=b2 x hx;omega,by have:=g2.fF hx;omega⟩;have l3:∀x,blk v3 x->n+2<=x/\x<n5:=λx hx=>⟨by have:=b3 x hx;omega,by have:=g3.fF hx;omega⟩;have l4:∀x,blk v4 x->n+2<=x/\x<n5:=λx hx=>⟨by have:=b4 x hx;omega,by have:=g4.fF hx;omega⟩;have l5:∀x,blk v5 x->n+2<=x/\x<n5:=λx hx=>⟨by have:=b5 x hx;omega,by have:=g5.fF hx;omega⟩;simp (disch:=omega) only[go_sem,simprocAttr,kk6.use.len,hz];by_cases h0:C.clauses=[]
 .have hN:C.clauses.length=0:=by rw[h0];rfl
  refine bX C.clauses.length (λk hk nk G=>hk=h6a/\nk=n6/\G=[(1,.p n 0),(2,.p (n+1) 0),(26,v6)]) (by omega) (by omega) (by omega) (by omega) (λk h8 n8 G ⟨_,_,e⟩=>by subst e;exact⟨rfl,rfl⟩) ⟨rfl,rfl,_,⟨rfl,rfl,rfl⟩,by(repeat' (first|exact aO|refine aN rfl ?_))⟩ ?_ ?_
  .intro k _ _ _ hk;omega
  .rintro hk nk G ⟨rfl,rfl,rfl⟩
   simp (disch:=omega) only[go_sem,simprocAttr,q6,p6];refine hQ ⟨v2,v3,v4,v6,v5⟩ _ _ (Up.st ux6 _ _ (by omega)) ?_;have k6':Kp (λx=>x<n+2) hk nk (λh n=>aZ h n ⟨v2,v3,v4,v6,v5⟩ C):=(((Dc.and IU).and (O5.and WU)).and kk6).wk λh n e=>⟨e.1.1.1,e.1.1.2,e.1.2.1,⟨[],by rw[h0];rfl,by rw[h0];have:=e.2.2;rw[hz,h0]at this;simpa using this,λi k t h=>by rw[h0]at h;cases h⟩,e.1.2.2⟩;exact(k6'.set (.inl (by omega)) (Nat.le_refl _)).le λx _ hx=>by omega
 .have hne:C.clauses.zip ss≠[]:=λe=>h0 (by have:=congrArg List.length e;rw[hz]at this;exact List.length_eq_zero_iff.1 this)
  obtain⟨b,rfl,gb,hb1,hb2⟩:=x6' hne;rw[hz];have kA:=(((Dc.use.kp (X:=λx=>x<n+2\/x=b) λx hx e=>by have:=l2 x hx;omega).and (IU.use.kp (X:=λx=>x<n+2\/x=b) λx hx e=>by have:=l3 x hx;omega)).and
   ((O5.use.kp (X:=λx=>x<n+2\/x=b) λx hx e=>by have:=l4 x hx;omega).and (WU.use.kp (X:=λx=>x<n+2\/x=b) λx hx e=>by have:=l5 x hx;omega)))
  have aai:∀(j:Nat)(x:aF×AV),(C.clauses.zip ss)[j]?=some x->C.clauses[j]?=some x.1/\ss[j]?=some x.2:=λj x e=>by rw[List.getElem?_zip_eq_some]at e;exact e
  refine bX C.clauses.length (λk hk nk G=>∃l':List (aF×AV),l'.length=C.clauses.length/\(∀(j:Nat)(x:aF×AV),l'[j]?=some x->C.clauses[j]?=some x.1/\(j<k->Kp (λx=>x<n+2\/x=b) hk nk (λh n=>SL h n 2 x.2 bO.av x.1.start))/\(k<=j->ss[j]?=some x.2))/\hk.get b=some (.row 112 (l'.flatMap CJ))/\hk.get n=some (.row 27 [.i .i64 C.aC,v2,v3,v4,.sl b 0 0 C.clauses.length none,.i .i64 C.days,v5])/\hk.get (n+1)=some (.row 27 [.i .i64 0,.k 1,.k 1,.k 1,.k 1,.i .i64 0,.k 1])/\Up h n hk nk/\b<nk/\
   Kp (λx=>x<n+2\/x=b) hk nk (λh n=>(SL h n 1 v2 (λx=>[AV.i .i64 x]) C.ah/\SL h n 5 v3 dB.av C.units)/\SL h n 7 v4 dh.av C.acts/\SL h n 1 v5 (λx=>[AV.i .i64 x]) C.off)/\G=[(1,.p n 0),(2,.p (n+1) 0),(26,.sl b 0 0 C.clauses.length none)]) (by omega) (by omega) (by omega) (by omega) (λk h8 n8 G ⟨_,_,_,_,_,_,_,_,_,e⟩=>by subst e;exact⟨rfl,rfl⟩) ⟨rfl,rfl,_,⟨C.clauses.zip ss,hz,λj x e=>⟨(aai j x e).1,(λhj=>absurd hj (by omega)),λ_=>(aai j x e).2⟩,gb,by rw[q6,hz],p6,ux6,hb2,kA,rfl⟩,by(repeat' (first|exact aO|refine aN rfl ?_))⟩ ?_ ?_
  .rintro k hk nk G hk' ⟨l',hl',hx,gb',q',p',uk,lb,kA',rfl⟩
   obtain⟨x,hxk⟩:∃x,l'[k]?=some x:=⟨l'[k]'(by omega),List.getElem?_eq_some_iff.2 ⟨by omega,rfl⟩⟩;obtain⟨hx1,_,hx3⟩:=hx k x hxk;have sx:=hs3 k x.1 x.2 hx1 (hx3 (Nat.le_refl _));have xS:=ok.clause hx1;have hns:=xS.sI;have rdw:=MW (e:=112) (c:=CJ) (w:=16) (λ_=>rfl) hxk;repeat' (first|(simp (disch:=omega) only[go_sem,simprocAttr,ub.old,bT hk',bU hk',gb',rdw,q'])|(simp (disch:=omega) only[go_sem,simprocAttr,bT hk',bU hk',gb',rdw,q'])|(refine aR ?_ ?_<;>(intro hb hd;rw[hb];clear hb))|(with_reducible refine aj ?_))
   rw[bQ];have ukl:=uk.le;refine eG k71 N7 _ (sx.up (uk.trans aH)) (by omega) λv7 h7 n7 u7 g7 b7 _=>?_;have e7:=u7.le;have rb7:h7.get b=some (.row 112 (l'.flatMap CJ)):=by rw[u7.old _ (by omega),ay (by omega),ay (by omega)];exact gb'
   have rn7:h7.get n=some (.row 27 [.i .i64 C.aC,v2,v3,v4,.sl b 0 0 C.clauses.length none,.i .i64 C.days,v5]):=by rw[u7.old _ (by omega),ay (by omega),ay (by omega)];exact q'
   have rp7:h7.get (n+1)=some (.row 27 [.i .i64 0,.k 1,.k 1,.k 1,.k 1,.i .i64 0,.k 1]):=by rw[u7.old _ (by omega),ay (by omega),ay (by omega)];exact p'
   have st:=Ep (c:=CJ) (w:=16) (j:=4) (y:=v7) (a':=(x.1,v7)) (λ_=>rfl) hxk (by omega) rfl;have u77:Up hk nk h7 n7:=by exact aH
   simp (disch:=omega) only[go_sem,simprocAttr,g7.cl,rb7,rn7,q',bU hk',st,Option.map_some];refine⟨rfl,rfl,_,⟨l'.set k (x.1,v7),by simp[hl'],λj z hz'=>?_,aG,by rw[ay (by omega)];exact rn7,by rw[ay (by omega)];exact rp7,Up.st (uk.trans u77) _ _ (by omega),by omega,(kA'.up u77).set (.inl (.inr rfl)) (Nat.le_refl _),rfl⟩,by(repeat' (first|exact aO|refine aN rfl ?_))⟩;rw[List.getElem?_set]at hz';by_cases e:k=j
   .subst e
    rw[if_pos rfl,if_pos (by omega)]at hz';cases hz'
    refine⟨hx1,λ_=>?_,λh=>absurd h (by omega)⟩;exact(g7.sl.kp (X:=λx=>x<n+2\/x=b) λy hy e=>by have:=b7 y hy;omega).set (.inl (.inr rfl)) (Nat.le_refl _)
   .rw[if_neg e]at hz'
    obtain⟨y1,y2,y3⟩:=hx j z hz';exact⟨y1,λhj=>((y2 (by omega)).up u77).set (.inl (.inr rfl)) (Nat.le_refl _),λhj=>y3 (by omega)⟩
  .rintro hk nk G ⟨l',hl',hx,gb',q',p',uk,lb,kA',rfl⟩
   simp (disch:=omega) only[go_sem,simprocAttr,q',p'];refine hQ ⟨v2,v3,v4,_,v5⟩ _ _ (Up.st uk _ _ (by omega)) ?_;have slk:SL hk nk 16 (.sl b 0 0 C.clauses.length none) CJ l':=SL.of (λ_=>rfl) lb gb' rfl hl'.symm (λk hk=>by cases hk);have ksl:Kp (λx=>x<n+2) hk nk (λh n=>SL h n 16 (.sl b 0 0 C.clauses.length none) CJ l'):=slk.kp λx hx e=>by rw[dO]at hx;omega
   have M5:Kp (λx=>x<n+2) hk nk (λh n=>∀(j:Nat)(x:aF×AV),l'[j]?=some x->SL h n 2 x.2 bO.av x.1.start):=λh' n' a1 a2 j x e=>by
    have hj:=(List.getElem?_eq_some_iff.1 e).1;exact(((hx j x e).2.1 (by omega)).le λy _ hy=>.inl hy) h' n' a1 a2
   have kA2:=kA'.le (Y:=λx=>x<n+2) λy _ hy=>.inl hy;have hl1:C.clauses.zip (l'.map (·.2))=l':=by
    apply List.ext_getElem?;intro j;cases hj:l'[j]? with
    |none=>
     rw[List.getElem?_eq_none_iff]at hj⊢;simp;omega
    |some x=>
     rw[List.getElem?_zip_eq_some];exact⟨(hx j x hj).1,by rw[List.getElem?_map,hj];rfl⟩
   have kk:=((kA2.and ksl).and M5).wk (B:=λh n=>aZ h n ⟨v2,v3,v4,.sl b 0 0 C.clauses.length none,v5⟩ C) λh n e=>⟨e.1.1.1.1,e.1.1.1.2,e.1.1.2.1,⟨l'.map (·.2),by simp[hl'],by rw[hl1];have:=e.1.2.2;rw[hl']at this;exact this,λi k t h1 h2=>by
    rw[List.getElem?_map]at h2;cases hj:l'[i]? with
    |none=>rw[hj]at h2;cases h2
    |some x=>
     rw[hj]at h2;cases h2
     have h3:=(hx i x hj).1;rw[h1]at h3;cases h3
     exact e.2 i x hj⟩,e.1.1.2.2⟩
   exact(kk.set (.inl (by omega)) (Nat.le_refl _)).le λx _ hx=>by omega
end
end
end
section
noncomputable section
def wU(b:Bool):List UInt8:=wr (if b then 1 else 0)
def mkK(m:au):List UInt8:=wr m.status++wr m.left++wr m.got++wr m.aS++wU m.paused
def Af(p:aP):List UInt8:=wU p.own++wr p.st.day++p.st.ah.flatMap wr++p.st.used.flatMap wU++p.st.marks.flatMap mkK
theorem qI(b:Bool):(wU b).length<=6:=d_ _
theorem IV(m:au):(mkK m).length<=30:=by
 unfold mkK;have h1:=d_ m.status;have h2:=d_ m.left;have h3:=d_ m.got;have h4:=d_ m.aS;have h5:=qI m.paused;simp only[List.length_append];omega
theorem wz{x y:Bool}{r s:List UInt8}(h:wU x++r=wU y++s):x=y/\r=s:=by
 unfold wU at h;obtain⟨h1,h2⟩:=gJ (by unfold NB;split<;>omega) (by unfold NB;split<;>omega) h;refine⟨?_,h2⟩;cases x<;>cases y<;>simp at h1⊢
theorem Kc{x y:au}{r s:List UInt8}(hx:NB x.status/\NB x.left/\NB x.got/\NB x.aS)(hy:NB y.status/\NB y.left/\NB y.got/\NB y.aS)(h:mkK x++r=mkK y++s):x=y/\r=s:=by
 obtain⟨x1,x2,x3,x4,x5⟩:=x;obtain⟨y1,y2,y3,y4,y5⟩:=y;unfold mkK at h;simp only[List.append_assoc]at h;obtain⟨e1,h⟩:=gJ hx.1 hy.1 h;obtain⟨e2,h⟩:=gJ hx.2.1 hy.2.1 h;obtain⟨e3,h⟩:=gJ hx.2.2.1 hy.2.2.1 h;obtain⟨e4,h⟩:=gJ hx.2.2.2 hy.2.2.2 h;obtain⟨e5,h⟩:=wz h;dsimp only at e1 e2 e3 e4 e5;exact⟨by rw[e1,e2,e3,e4,e5],h⟩
theorem QZ{C:aA}{p q:aP}(hp:aK C p.st)(hq:aK C q.st)(h:Af p=Af q):p=q:=by
 have bp:=hp.pb p.own;have bq:=hq.pb q.own;unfold Af at h;rw[<-List.append_nil (p.st.marks.flatMap mkK),<-List.append_nil (q.st.marks.flatMap mkK)]at h;simp only[List.append_assoc]at h;obtain⟨e1,h⟩:=wz h;obtain⟨e2,h⟩:=gJ bp.day bq.day h;obtain⟨e3,h⟩:=kE (B:=NB) (λx y r s=>gJ) (by rw[hp.lh,hq.lh]) bp.ah bq.ah h;obtain⟨e4,h⟩:=kE (f:=wU) (B:=λ_=>True) (λx y r s _ _=>wz) (by rw[hp.lu,hq.lu]) (λ_ _=>trivial) (λ_ _=>trivial) h;obtain⟨e5,h⟩:=kE (B:=λx=>NB x.status/\NB x.left/\NB x.got/\NB x.aS) (λx y r s=>Kc) (by rw[hp.lm,hq.lm]) bp.marks bq.marks h;obtain⟨⟨d,hs,us,ms⟩,o⟩:=p;obtain⟨⟨d',hs',us',ms'⟩,o'⟩:=q;cases e1;cases e2;cases e3;cases e4;cases e5
 rfl
section
variable {P P':Nat->Prop} {h h':AH} {n n' T tb:Nat} {l:List UInt8} {Q:AV->AH->Nat->Prop} {tv:TS} {p:aP}
theorem p9(K:Nat)(t:Tx h n P T tb l)(hl:l.length<=800000){x:Int}(hx:NB x)(hQ:∀h' n',Tx h' n' P T tb (l++wr x)->UP P h n h' n'->Q (.bN []) h' n'):CW (EF (K+5)) 192 [.i .i64 x,.p tb 0] h n Q:=by
 obtain⟨v,h1,h2,h3⟩:=t.ex;have hlt:=t.hi;have htn:(tn x).length<=5:=by have:=d_ x;unfold wr at this;simp at this;omega
 refine aD af9 rfl ?_;simp (disch:=omega) only[go_sem,simprocAttr,Z_,h1];rw[aU];refine AA _ h2 (by omega) hx.1 hx.2 λv' h4 n4 g4 l4 s4 b4=>?_;simp (disch:=omega) only[go_sem,simprocAttr];refine uM (b:=32) (g4.up aH) (by simp;omega) rfl rfl aG λv5 h5 n5 g5 l5 s5 b5=>?_;have Zw:∀y,y<n->¬blk v y->h5.get y=h.get y:=λy hy hb=>by
  rw[s5 y (by omega) (λe=>by rcases b4 y e with e|e;exact hb e;omega),ay (by omega),s4 y hy hb]
 obtain⟨q1,q2,q3⟩:=t.put h1 h3 (Up.refl _ _) g5 (by omega) Zw λy hy=>by
  rcases b5 y hy with e|e
  .exact b4 y e
  .exact .inr (by omega)
 simp (disch:=omega) only[go_sem,simprocAttr,q1,g5.cl];rw[List.append_assoc]at q2;exact hQ _ _ q2 q3
theorem zK(K:Nat){b4:Nat}(t:Tx h n P T tb l)(hl:l.length<=800000)(h4:h.get b4=some (.row 146 [.f 192 [.p tb 0]]))(b:Bool)(hQ:∀h' n',Tx h' n' P T tb (l++wU b)->UP P h n h' n'->Q (.bN []) h' n'):CW (EF (K+6)) 193 [.b b,.p b4 0] h n Q:=by
 refine aD c193 rfl ?_;cases b with
 |true=>
  simp (disch:=omega) only[go_sem,simprocAttr,VH,h4];rw[mO];refine p9 _ t hl (x:=1) (by unfold NB;omega) λh2 n2 t2 u2=>?_;simp (disch:=omega) only[go_sem,simprocAttr];exact hQ _ _ t2 u2
 |false=>
  simp (disch:=omega) only[go_sem,simprocAttr,VH,h4];rw[mO];refine p9 _ t hl (x:=0) (by unfold NB;omega) λh2 n2 t2 u2=>?_;simp (disch:=omega) only[go_sem,simprocAttr];exact hQ _ _ t2 u2
theorem VL(K:Nat)(hS:cZ h n tv p.st)(pb:PB p)(hQ:∀h' n',Up h n h' n'->Q (.s (Af p)) h' n'):CW (EF (K+7)) 118 [.agg (tv.pv p)] h n Q:=by
 have lh:=pb.lh;have lu:=pb.lu;have lm:=pb.lm;refine aD af8 rfl ?_;repeat' (first|(simp (disch:=omega) only[go_sem,simprocAttr,Z9])|(refine aR ?_ ?_<;>(intro hb hd;rw[hb];clear hb))|(with_reducible refine aj ?_))
 generalize hh:Tr.set (Tr.set (Tr.set (Tr.set h n _) (n+1) _) (n+1+1) _) (n+1+1) _=h1;have u1:Up h n h1 (n+1+1+1):=by rw[<-hh];exact aH
 have q1:h1.get n=some (.row 45 (tv.pv p)):=by rw[<-hh];simp (disch:=omega) only[go_sem]
 have q4:h1.get (n+1+1)=some (.row 146 [.f 192 [.p (n+1) 0]]):=by rw[<-hh];simp (disch:=omega) only[go_sem]
 have t1:Tx h1 (n+1+1+1) (λx=>x<n+3/\x≠n+1) 306 (n+1) []:=by
  refine⟨by omega,by omega,λx hx=>by omega,.k 1,by rw[<-hh];simp (disch:=omega) only[go_sem],Gr.nil λ_=>rfl,λx hx=>absurd hx eX⟩
 clear hh;have QJ:∀{hk nk},UP (λx=>x<n+3/\x≠n+1) h1 (n+1+1+1) hk nk->Up h n hk nk:=λ{hk nk} u=>⟨by have:=u.le;omega,λx hx=>(u.at_ (show x<n+3/\x≠n+1 by omega) (by omega)).trans (u1.old x hx)⟩;have rn:∀{hk nk},UP (λx=>x<n+3/\x≠n+1) h1 (n+1+1+1) hk nk->hk.get n=some (.row 45 (tv.pv p))/\hk.get (n+1+1)=some (.row 146 [.f 192 [.p (n+1) 0]]):=λ{hk nk} u=>⟨(u.at_ (show n<n+3/\n≠n+1 by omega) (by omega)).trans q1,(u.at_ (show n+1+1<n+3/\n+1+1≠n+1 by omega) (by omega)).trans q4⟩;rw[mO];refine zK _ t1 (by simp) q4 p.own λh2 n2 t2 u2=>?_;obtain⟨q2,q42⟩:=rn u2;have e1:=qI p.own;simp (disch:=omega) only[go_sem,simprocAttr,q2,q42,TS.pv];rw[mO];refine p9 _ t2 (by simp;omega) pb.day λh3 n3 t3 u3=>?_;have rR:UP (λx=>x<n+3/\x≠n+1) h1 (n+1+1+1) h3 n3:=u2.trans u3;obtain⟨q3,q43⟩:=rn rR;have e2:=d_ p.st.day;simp (disch:=omega) only[go_sem,simprocAttr,q3,TS.pv,hS.ah.len];refine bX p.st.ah.length (λk h8 n8 G=>Tx h8 n8 (λx=>x<n+3/\x≠n+1) 306 (n+1) (wU p.own++wr p.st.day++(p.st.ah.take k).flatMap wr)/\UP (λx=>x<n+3/\x≠n+1) h1 (n+1+1+1) h8 n8/\G=[(1,.p n 0),(3,.p (n+1) 0),(4,.p (n+1+1) 0),(5,.f 193 [.p (n+1+1) 0]),(25,tv.h)]) (by omega) (by omega) (by omega) (by omega) (λk h8 n8 G ⟨_,_,e⟩=>by subst e;exact⟨rfl,rfl⟩) ⟨rfl,rfl,_,⟨by simpa using t3,rR,rfl⟩,by(repeat' (first|exact aO|refine aN rfl ?_))⟩ ?_ ?_
 .rintro k h8 n8 G hk ⟨t8,u8,rfl⟩
  obtain⟨r1,r4⟩:=rn u8;obtain⟨b1,o1,a,i1,ha,hb1,rd⟩:=(hS.ah.up (QJ u8)).fu (k:=(k:Nat)) (by omega) (by omega) (by omega);rw[show((k:Nat):Int).toNat=k by omega]at ha;have hlen:=iw (f:=wr) (k:=6) d_ (p.st.ah.take k);have htk:=List.length_take_le k p.st.ah;have hpre:(wU p.own++wr p.st.day).length<=30000:=by simp only[List.length_append];omega
  simp (disch:=omega) only[go_sem,simprocAttr,aJ i1,rd.el,rd.hd,r4];rw[mO];refine p9 _ t8 (by simp only[List.length_append];simp only[List.length_append]at hpre;omega) (pb.ah a (List.mem_of_getElem? ha)) λh9 n9 t9 u9=>?_;simp (disch:=omega) only[go_sem,simprocAttr];rw[List.append_assoc,<-mK ha]at t9;exact⟨rfl,rfl,_,⟨t9,u8.trans u9,rfl⟩,by(repeat' (first|exact aO|refine aN rfl ?_))⟩
 rintro h3 n3 G ⟨t3,rR,rfl⟩;rw[List.take_length]at t3;obtain⟨q3,q43⟩:=rn rR;have hlh:=iw (f:=wr) d_ p.st.ah;simp (disch:=omega) only[go_sem,simprocAttr,q3,TS.pv,hS.used.len];refine bX p.st.used.length (λk h8 n8 G=>Tx h8 n8 (λx=>x<n+3/\x≠n+1) 306 (n+1) (wU p.own++wr p.st.day++p.st.ah.flatMap wr++(p.st.used.take k).flatMap wU)/\UP (λx=>x<n+3/\x≠n+1) h1 (n+1+1+1) h8 n8/\G=[(1,.p n 0),(3,.p (n+1) 0),(4,.p (n+1+1) 0),(5,.f 193 [.p (n+1+1) 0]),(37,tv.u)]) (by omega) (by omega) (by omega) (by omega) (λk h8 n8 G ⟨_,_,e⟩=>by subst e;exact⟨rfl,rfl⟩) ⟨rfl,rfl,_,⟨by simpa using t3,rR,rfl⟩,by(repeat' (first|exact aO|refine aN rfl ?_))⟩ ?_ ?_
 .rintro k h8 n8 G hk ⟨t8,u8,rfl⟩
  obtain⟨r1,r4⟩:=rn u8;obtain⟨b1,o1,a,i1,ha,hb1,rd⟩:=(hS.used.up (QJ u8)).fu (k:=(k:Nat)) (by omega) (by omega) (by omega);rw[show((k:Nat):Int).toNat=k by omega]at ha;have hlen:=iw (f:=wU) (k:=6) qI (p.st.used.take k);have htk:=List.length_take_le k p.st.used;have hpre:(wU p.own++wr p.st.day++p.st.ah.flatMap wr).length<=30000:=by simp only[List.length_append];omega
  simp (disch:=omega) only[go_sem,simprocAttr,aJ i1,rd.el,rd.hd];rw[mO];refine zK _ t8 (by simp only[List.length_append];simp only[List.length_append]at hpre;omega) r4 a λh9 n9 t9 u9=>?_;simp (disch:=omega) only[go_sem,simprocAttr];rw[List.append_assoc,<-mK ha]at t9;exact⟨rfl,rfl,_,⟨t9,u8.trans u9,rfl⟩,by(repeat' (first|exact aO|refine aN rfl ?_))⟩
 rintro h3 n3 G ⟨t3,rR,rfl⟩;rw[List.take_length]at t3;obtain⟨q3,q43⟩:=rn rR;have hlu:=iw (f:=wU) qI p.st.used;simp (disch:=omega) only[go_sem,simprocAttr,q3,TS.pv,hS.marks.len];refine bX p.st.marks.length (λk h8 n8 G=>Tx h8 n8 (λx=>x<n+3/\x≠n+1) 306 (n+1) (wU p.own++wr p.st.day++p.st.ah.flatMap wr++p.st.used.flatMap wU++(p.st.marks.take k).flatMap mkK)/\UP (λx=>x<n+3/\x≠n+1) h1 (n+1+1+1) h8 n8/\G=[(1,.p n 0),(3,.p (n+1) 0),(4,.p (n+1+1) 0),(5,.f 193 [.p (n+1+1) 0]),(49,tv.m)]) (by omega) (by omega) (by omega) (by omega) (λk h8 n8 G ⟨_,_,e⟩=>by subst e;exact⟨rfl,rfl⟩) ⟨rfl,rfl,_,⟨by simpa using t3,rR,rfl⟩,by(repeat' (first|exact aO|refine aN rfl ?_))⟩ ?_ ?_
 .rintro k h8 n8 G hk ⟨t8,u8,rfl⟩
  obtain⟨r1,r4⟩:=rn u8;obtain⟨b1,o1,a,i1,ha,hb1,rd⟩:=(hS.marks.up (QJ u8)).fu (k:=(k:Nat)) (by omega) (by omega) (by omega);rw[show((k:Nat):Int).toNat=k by omega]at ha;have hlen:=iw (f:=mkK) (k:=30) IV (p.st.marks.take k);have htk:=List.length_take_le k p.st.marks;have hpre:(wU p.own++wr p.st.day++p.st.ah.flatMap wr++p.st.used.flatMap wU).length<=30000:=by simp only[List.length_append];omega
  have hb:=pb.marks a (List.mem_of_getElem? ha);have v1:=d_ a.status;have v2:=d_ a.left;have v3:=d_ a.got;have v4:=d_ a.aS;have hlp:(wU p.own++wr p.st.day++p.st.ah.flatMap wr++p.st.used.flatMap wU++(p.st.marks.take k).flatMap mkK).length<=60000:=by
   simp only[List.length_append]at hpre⊢;omega
  generalize wU p.own++wr p.st.day++p.st.ah.flatMap wr++p.st.used.flatMap wU=pre at*;have n28:n+2<n8:=by have:=u8.le;omega
  simp (disch:=omega) only[go_sem,simprocAttr,aJ i1,rd.el,rd.hd,rd.all,r4];generalize hg:Tr.set (Tr.set h8 n8 _) n8 _=h10;have Gj:Up h8 n8 h10 (n8+1):=by rw[<-hg];exact aH
  have k0:h10.get n8=some (.row 144 a.av):=by rw[<-hg];simp (disch:=omega) only[go_sem]
  have c0:h10.get (n+1+1)=some (.row 146 [.f 192 [.p (n+1) 0]]):=(Gj.old _ (by omega)).trans r4;have t10:=t8.box Gj (Nat.lt_succ_self n8);clear hg;have pm:∀x,(x=n8\/x=n+1+1)->((x<n+3/\x≠n+1)\/x=n8):=λx e=>by omega
  rw[mO];refine p9 _ t10 (by simp only[List.length_append]at hlp⊢;omega) hb.1 λh11 n11 t11 SH=>?_;have k1:=(SH.at_ (pm _ (.inl rfl)) (Nat.lt_succ_self n8)).trans k0;have c1:=(SH.at_ (pm _ (.inr rfl)) (by omega)).trans c0;have l11:=SH.le;simp (disch:=omega) only[go_sem,simprocAttr,k1,c1];rw[mO];refine p9 _ t11 (by simp only[List.length_append]at hlp⊢;omega) hb.2.1 λh12 n12 t12 wR=>?_;have k2:=(wR.at_ (pm _ (.inl rfl)) (by omega)).trans k1;have c2:=(wR.at_ (pm _ (.inr rfl)) (by omega)).trans c1;have l12:=wR.le;simp (disch:=omega) only[go_sem,simprocAttr,k2,c2];rw[mO];refine p9 _ t12 (by simp only[List.length_append]at hlp⊢;omega) hb.2.2.1 λXx n13 t13 IE=>?_;have k3:=(IE.at_ (pm _ (.inl rfl)) (by omega)).trans k2;have c3:=(IE.at_ (pm _ (.inr rfl)) (by omega)).trans c2;have l13:=IE.le;simp (disch:=omega) only[go_sem,simprocAttr,k3,c3];rw[mO];refine p9 _ t13 (by simp only[List.length_append]at hlp⊢;omega) hb.2.2.2 λh14 n14 t14 SI=>?_;have k4:=(SI.at_ (pm _ (.inl rfl)) (by omega)).trans k3;have c4:=(SI.at_ (pm _ (.inr rfl)) (by omega)).trans c3;have JQ:=SI.le;simp (disch:=omega) only[go_sem,simprocAttr,k4];rw[mO];refine zK _ t14 (by simp only[List.length_append]at hlp⊢;omega) c4 a.paused λSN n15 t15 u15=>?_;simp (disch:=omega) only[go_sem,simprocAttr];have t16:=t15.wk (P':=(λx=>x<n+3/\x≠n+1)) λx hx=>.inl hx;have e16:pre++(p.st.marks.take k).flatMap mkK++wr a.status++wr a.left++wr a.got++wr a.aS++wU a.paused=pre++(p.st.marks.take (k+1)).flatMap mkK:=by
   rw[mK ha,mkK];simp only[List.append_assoc]
  rw[e16]at t16;have uu2:UP (λx=>x<n+3/\x≠n+1) h10 (n8+1) SN n15:=UP.wk (P:=λx=>(λx=>x<n+3/\x≠n+1) x\/x=n8) (UX.trans (UX.trans (UX.trans (UX.trans SH wR) IE) SI) u15) λx hx=>.inl hx;exact⟨rfl,rfl,_,⟨t16,(u8.trans (UX.up Gj)).trans uu2,rfl⟩,by(repeat' (first|exact aO|refine aN rfl ?_))⟩
 rintro h3 n3 G ⟨t3,rR,rfl⟩;rw[List.take_length]at t3;obtain⟨v,r1,r2,r3⟩:=t3.ex;have hcb:T_ h3 (some v)=some (.s (Af p)):=Gr.KP r2;simp (disch:=omega) only[go_sem,simprocAttr,r1,hcb];exact hQ _ _ (QJ rR)
end
end
end
section
noncomputable section
section
variable {h h':AH} {n n':Nat} {Q:AV->AH->Nat->Prop} {tv:TS} {p:aP}
theorem IW{P:Program}{ty:TypeId}{a b:List UInt8}(hl:a.length+b.length<=1048576):(dY P ty .add).run (.s a) (.s b)=some (.s (a++b)):=by
 show bc (Nat.ble (Nat.add (mU a) (mU b)) 1048576) (some (AV.s (Da a b))) none=_;rw[eD,eD,Nat.ble_eq_true_of_le (by show a.length+b.length<=_;exact hl),bF,iK]
theorem N8(pb:PB p):(Af p).length<=50000:=by
 have lh:=pb.lh;have lu:=pb.lu;have lm:=pb.lm;have h1:=iw (f:=wr) d_ p.st.ah;have h2:=iw (f:=wU) qI p.st.used;have h3:=iw (f:=mkK) IV p.st.marks;have h4:=qI p.own;have h5:=d_ p.st.day;unfold Af;simp only[List.length_append];omega
theorem Ke(K:Nat){u:Nat}(hu:u<100)(hQ:∀h' n',Up h n h' n'->Q (.s (dec u)) h' n'):CW (EF (K+2)) 254 [.i .i64 (u:Nat),.i .i64 10] h n Q:=by
 refine aD afh rfl ?_;have hd0:decide ((0:Int)<=(u:Int))=true:=decide_eq_true (by omega);have hd:decide ((u:Int)<100)=true:=decide_eq_true (by omega);repeat' (first|(simp (disch:=omega) only[go_sem,simprocAttr,ub.old,Vb,Int.reduceEq,hd0,hd,pW])|(simp (disch:=omega) only[go_sem,simprocAttr,Vb,Int.reduceEq,hd0,hd,pW])|(refine aR ?_ ?_<;>(intro hb hd;rw[hb];clear hb))|(with_reducible refine aj ?_))
 rw[aU];refine Ej _ hu λh2 n2 u2=>?_;repeat' (first|(simp (disch:=omega) only[go_sem,simprocAttr,ub.old])|(simp (disch:=omega) only[go_sem,simprocAttr])|(refine aR ?_ ?_<;>(intro hb hd;rw[hb];clear hb))|(with_reducible refine aj ?_))
 exact hQ _ _ u2
theorem Q0(K:Nat){u:Nat}(hu:u<100)(hQ:∀h' n',Up h n h' n'->Q (.s (dec u)) h' n'):CW (EF (K+4)) 117 [.i .i64 (u:Nat)] h n Q:=by
 refine aD c117 rfl ?_;simp (disch:=omega) only[go_sem,simprocAttr,Zr];rw[aU];refine aD afi rfl ?_;simp (disch:=omega) only[go_sem,simprocAttr,Zq];rw[aU];refine Ke _ hu λh2 n2 u2=>?_;simp (disch:=omega) only[go_sem,simprocAttr];exact hQ _ _ u2
def lN(u:Nat)(p:aP):List UInt8:=dec u++[58]++Af p
theorem Kg{C:aA}{u:Nat}{p q:aP}(hp:aK C p.st)(hq:aK C q.st)(h:lN u p=lN u q):p=q:=
 QZ hp hq (List.append_cancel_left h)
theorem qb(K:Nat){u b11:Nat}(hu:u<100)(hb:h.get b11=some (.row 3 [.i .i64 (u:Nat)]))(hn:b11<n)(hS:cZ h n tv p.st)(pb:PB p)(hQ:∀h' n',Up h n h' n'->Q (.s (lN u p)) h' n'):CW (EF (K+8)) 116 [.agg (tv.pv p),.p b11 0] h n Q:=by
 refine aD c116 rfl ?_;repeat' (first|(simp (disch:=omega) only[go_sem,simprocAttr,ub.old,VG,hb])|(simp (disch:=omega) only[go_sem,simprocAttr,VG,hb])|(refine aR ?_ ?_<;>(intro hb hd;rw[hb];clear hb))|(with_reducible refine aj ?_))
 rw[bQ];refine Q0 _ hu λh2 n2 u2=>?_;have e2:=u2.le;have dl:=xW u;have kl:=N8 pb;have q2:h2.get n=some (.row 45 (tv.pv p)):=by rw[u2.old _ (by omega)];exact aG
 have e1:∀P ty,(dY P ty .add).run (.s (dec u)) (.s [58])=some (.s (dec u++[58])):=λP ty=>IW (by simp;omega);have e3:∀P ty,(dY P ty .add).run (.s (dec u++[58])) (.s (Af p))=some (.s (dec u++[58]++Af p)):=λP ty=>IW (by simp;omega);repeat' (first|(simp (disch:=omega) only[go_sem,simprocAttr,ub.old,e1,q2])|(simp (disch:=omega) only[go_sem,simprocAttr,e1,q2])|(refine aR ?_ ?_<;>(intro hb hd;rw[hb];clear hb))|(with_reducible refine aj ?_))
 rw[bQ];refine VL _ (hS.up aH) pb λh3 n3 u3=>?_;repeat' (first|(simp (disch:=omega) only[go_sem,simprocAttr,ub.old,e3,q2])|(simp (disch:=omega) only[go_sem,simprocAttr,e3,q2])|(refine aR ?_ ?_<;>(intro hb hd;rw[hb];clear hb))|(with_reducible refine aj ?_))
 exact hQ _ _ aH
end
end
end
noncomputable section
@[reducible] def WV (x:TS×aI):List AV:=x.1.av x.2
@[reducible] def rA (cv sv tv dv:AV):List AV:=[cv,sv,tv,dv]
section
variable {h h':AH} {n n':Nat} {Q:AV->AH->Nat->Prop} {v:CS} {C:aA} {cv sv tv dv:AV} {fA:List (TS×aI)}
theorem qd(K:Nat)(hs:SL h n 4 sv WV fA){k:Nat}{x:TS×aI}(hk:fA[k]?=some x)(hQ:∀h' n',Up h n h' n'->Q (.agg (x.1.pv ⟨x.2,true⟩)) h' n'):CW (EF (K+1)) 90 [.agg (rA cv sv tv dv),.i .i64 (k:Nat)] h n Q:=by
 have hkl:=(List.getElem?_eq_some_iff.1 hk).1;obtain⟨b1,o1,y,i1,hy,hb1,rd⟩:=hs.fu (k:=(k:Nat)) (by omega) (by omega) (by omega);rw[show((k:Nat):Int).toNat=k by omega,hk]at hy;cases hy
 refine aD c90 rfl ?_;repeat' (first|(simp (disch:=omega) only[go_sem,simprocAttr,m90,rA,aJ i1,rd.all,TS.av])|(refine aR ?_ ?_<;>(intro hb hd;rw[hb];clear hb))|(with_reducible refine aj ?_))
 exact hQ _ _ aH
theorem N9(K:Nat)(hC:aZ h n v C)(ho:C.off.length<=1000000){party:Int}(hQ:∀h' n',Up h n h' n'->Q (.b (C.valid&&(decide (0<=party)&&decide (party<C.aC)))) h' n'):CW (EF (K+7)) 31 [.agg (v.av C),.i .i64 party] h n Q:=by
 refine aD c31 rfl ?_;repeat' (first|(simp (disch:=omega) only[go_sem,simprocAttr,ub.old,m31,CS.av])|(simp (disch:=omega) only[go_sem,simprocAttr,m31,CS.av])|((first|rw[aU]|rw[bQ]);with_reducible refine pV _ (hC.up aH) ho λ_ h2 n2 u2=>?_;(first|replace ub:=Up.trans ub (Up.trans aH u2)|have ub:=u2);have hle:=ub.le;clear u2)|(refine aR ?_ ?_<;>(intro hb hd;rw[hb];clear hb))|(with_reducible refine aj ?_))
 .have hv:=(mH C).1 (by assumption)
  rw[hv,decide_eq_true hd,Bool.true_and,Bool.true_and]at hQ;exact hQ _ _ aH
 .rw[decide_eq_false hd,Bool.false_and,Bool.and_false]at hQ
  exact hQ _ _ aH
 .have hv:C.valid=false:=by
   cases hv:C.valid with
   |false=>rfl
   |true=>exact absurd ((mH C).2 hv) hd
  rw[hv,Bool.false_and]at hQ;exact hQ _ _ aH
@[reducible] def jA (party:Int) (s l sh d:Nat) (bg:Bool) (r:List AV):List AV:=[.i .i64 party,.m s,.m l,.m sh,.m d,.b bg]++r
theorem Er(K:Nat){party:Int}(hQ:∀j s l sh d h' n',Up h n h' n'->h'.get j=some (.row 136 [.i .i64 party,.m s,.m l,.m sh,.m d,.b false,.i .i64 0,.i .i64 0,.i .i64 0])->uG h' s AV.s []->uG h' l (λi:Int=>AV.i .i64 i) []->n<=j/\n<=s/\n<=l->j<n'/\s<n'/\l<n'->j≠s/\j≠l/\s≠l->Q (.p j 0) h' n'):CW (EF (K+1)) 33 [.i .i64 party] h n Q:=by
 refine aD c33 rfl ?_;repeat' (first|(simp (disch:=omega) only[go_sem,simprocAttr,m33])|(refine aR ?_ ?_<;>(intro hb hd;rw[hb];clear hb))|(with_reducible refine aj ?_))
 refine hQ (n+1+1+1+1) n (n+1) (n+1+1) (n+1+1+1) _ _ aH aG ?_ ?_ ⟨by omega,by omega,by omega⟩ ⟨by omega,by omega,by omega⟩ ⟨by omega,by omega,by omega⟩
 .exact⟨[],0,by simp (disch:=omega) only[go_sem],rfl⟩
 .exact⟨[],0,by simp (disch:=omega) only[go_sem],rfl⟩
end
end
end Go.Proofs.YtjoohkjmoghmoaaGreatDoor

/- part -/
import Derived.Test.YtjoohkjmoghmoaaGreatDoorP16
set_option linter.all false
namespace Go.Proofs.YtjoohkjmoghmoaaGreatDoor
section
noncomputable section
section
variable {h h':AH} {n n':Nat} {v:CS} {C:aH} {p:aS} {party:Int} {ps:List (TS×aS)} {wv:List AV} {M:List (List (Int×Nat))} {Q:AV->AH->Nat->Prop} {vv ww ov:AV} {nV:List Int}
structure FwA(g:XI)(v:CS)(C:aH)(party:Int)(vv ww:AV)(ps:List (TS×aS))(wv:List AV)(M:List (List (Int×Nat)))(mv ov:AV)(uL nV:List Int)(h:AH)(n:Nat):Prop where
 f:FoA g v C party vv ww ps wv M h n
 mv:SL h n 1 mv iJ uL
 ov:SL h n 1 ov iJ nV
structure ZY(C:aH)(party:Int)(P:List aS)(l:List Int)(S:List aO)(i:Nat)(s:aO):Prop where
 run:fF C C.first l S
 last:S[l.length]?=some s
 pos:P[i]?=some ⟨s,true⟩
 dec:FQ C party l S
theorem ZY.step{P:List aS}{l:List Int}{S:List aO}{i j:Nat}{s:aO}{t:Int}(a:ZY C party P l S i s)(h1: -1<=t)(h2:t<C.acts.length)(h3:s.day<C.days)(hj:P[j]?=some ⟨C.bL s t,true⟩)(hs:¬dI C party ⟨s,true⟩->¬dI C party (C.decide party s (C.bL s t) t)):
 ZY C party P (l++[t]) (S++[C.bL s t]) j (C.bL s t):=by
 have hl:=a.run.len;refine⟨a.run.snoc a.last h1 h2 h3,?_,hj,λk u x y hk hx hy=>?_⟩
 .rw[List.length_append,List.getElem?_append_right (by simp;omega),hl];simp
 .by_cases hkl:k<l.length
  .rw[List.getElem?_append_left hkl]at hk
   rw[List.getElem?_append_left (by omega)]at hx hy;exact a.dec k u x y hk hx hy
  .have hk2:k<(l++[t]).length:=(List.getElem?_eq_some_iff.1 hk).1
   obtain rfl:k=l.length:=by simp at hk2;omega
   rw[List.getElem?_append_right (Nat.le_refl _)]at hk;rw[List.getElem?_append_left (by omega),a.last]at hx;rw[List.getElem?_append_right (by omega),hl]at hy;simp at hk hy;subst hk;cases hx
   subst hy;exact hs
def FL(h:AH)(n n3 n7:Nat)(v:CS)(C:aH)(party:Int)(vv ww:AV)(ps:List (TS×aS))(wv:List AV)(M:List (List (Int×Nat)))(mv ov:AV)(uL nV:List Int)(hk:AH)(nk:Nat)(l:List Int)(S:List aO)(i:Nat)(s:aO):Prop:=∃(X:Nat->Prop)(lv:AV),
 IJ hk nk ⟨n7,n7+1,n,n3,n+1⟩ X (FwA ⟨n7,n7+1,n,n3,n+1⟩ v C party vv ww ps wv M mv ov uL nV) lv l i/\ZY C party (ps.map (·.2)) l S i s/\Up h n hk nk/\∀x,X x->n<=x
theorem Hu(K:Nat)(hC:bG h n v C)(ho:C.off.length<=1000000)(hO:SL h n 1 ov iJ nV)(hol:nV.length<=1000000)(hal:C.acts.length<=1000000)
 (hE:∀e h' n',e=1\/e=3->Up h n h' n'->Q (.bV [.k 1,.i .i64 e]) h' n')
 (hQ:∀v' l S h' n',C.valid=true->0<=party->party<C.aK->¬gK C party ⟨C.first,true⟩->fF C C.first l S->FQ C party l S->l.length<=4000->Up h n h' n'->Kp (λx=>x<n) h' n' (λh n=>SL h n 1 v' iJ l)->Q (.bV [v',.i .i64 0]) h' n'):
 CW (EF (K+12)) 20 [.agg (v.av C),.i .i64 party,ov] h n Q:=by
 refine aJ c20 rfl ?_;repeat' (first|(simp (disch:=omega) only[go_sem,m20,CS.av])|(with_reducible first|apply aj|apply ah|apply ay|apply aB|apply aA|apply au)<;>intro hd<;>(rw[hd];try simp only[decide_eq_true_eq,decide_eq_false_iff_not,Bool.not_eq_true',Bool.not_eq_false']at hd)|(with_reducible refine aD ?_))
 rw[bA]
 -- the checks of the others' steps
 have chk:∀(h3:AH)(n3 b8:Nat)(err:Int)(F:Fm)(st:List It),Up h n h3 n3->n+2<=n3->h3.get n=some (.row 27 (v.av C))->lk F 26=some ov->lk F 27=some (.i .i64 (nV.length:Nat))->lk F 28=some (.i .i64 0)->lk F 2=some ov->lk F 3=some (.p n 0)->lk F 4=some (.p (n+1) 0)->lk F 8=some (.p b8 0)->lk F 9=some (.i .i64 err)->
  (∀(h4:AH)(n4:Nat),Up h3 n3 h4 n4->(∀t∈nV, -1<=t/\t<C.acts.length)->sK Tryz.prog Y0 20 100000 st (.exit 0) (EF (K+11)) h4 n4 [(2,ov),(3,.p n 0),(4,.p (n+1) 0),(8,.p b8 0),(9,.i .i64 err),(26,ov)] (MP [.t 6,.t 7] Q))->
  (∀(h4:AH)(n4:Nat)(F:Fm),Up h3 n3 h4 n4->lk F 6=some (.k 1)->lk F 7=some (.i .i64 1)->sK Tryz.prog Y0 20 100000 st .ret (EF (K+11)) h4 n4 F (MP [.t 6,.t 7] Q))->
  SM Tryz.prog Y0 20 (.c (iD 3 28 27 29 0 1 Lh)::st) .bZ (EF (K+11)) h3 n3 F (MP [.t 6,.t 7] Q):=by
  intro h3 n3 b8 err F st u3 l3 r3 f26 f27 f28 f2 f3 f4 f8 f9 fin bad;refine dD nV.length (λk h5 n5 G=>(∀j,j<k->∀t,nV[j]?=some t-> -1<=t/\t<C.acts.length)/\Up h3 n3 h5 n5/\G=[(2,ov),(3,.p n 0),(4,.p (n+1) 0),(8,.p b8 0),(9,.i .i64 err),(26,ov)]) (by omega) (by omega) (by omega) (by omega) (λk h8 n8 G ⟨_,_,e⟩=>by subst e;exact⟨rfl,rfl⟩) ⟨f28,f27,_,⟨(λj hj=>absurd hj (by omega)),Up.refl _ _,rfl⟩,aW f2 (aW f3 (aW f4 (aW f8 (aW f9 (aW f26 aZ)))))⟩ ?_ ?_
  .rintro k h5 n5 G hk ⟨hb,u5,rfl⟩
   have e5:=u5.le;obtain⟨b1,o1,t,i1,hx,hb1,rd⟩:=(hO.up (u3.trans u5)).fE (k:=(k:Nat)) (by omega) (by omega) (by omega);rw[show((k:Nat):Int).toNat=k by omega]at hx;have r5:=(u5.old n (by omega)).trans r3;repeat' (first|(simp (disch:=omega) only[go_sem,Lh,aR i1,rd.el,rd.hd,r5,CS.av,hC.acts.len])|(with_reducible first|apply aj|apply ah|apply ay|apply aB|apply aA|apply au)<;>intro hd<;>(rw[hd];try simp only[decide_eq_true_eq,decide_eq_false_iff_not,Bool.not_eq_true',Bool.not_eq_false']at hd)|(with_reducible refine aD ?_))
   .exact bad _ _ _ u5 rfl rfl
   .exact bad _ _ _ u5 rfl rfl
   .refine⟨rfl,rfl,_,⟨λj hj y hy=>?_,u5,rfl⟩,by(repeat' (first|exact aZ|refine aW rfl ?_))⟩
    by_cases e:j=k
    .subst e;rw[hx]at hy;cases hy;omega
    .exact hb j (by omega) y hy
  .rintro h5 n5 G ⟨hb,u5,rfl⟩
   refine fin _ _ u5 λt ht=>?_;obtain⟨j,hj⟩:=List.getElem?_of_mem ht;exact hb j (List.getElem?_eq_some_iff.1 hj).1 t hj
 refine Lb K (hC.up aL) ho (λhn h3 n3 u3=>?_) (λhv hp0 hp1 hbig h3 n3 u3=>?_) (λhv hp0 hp1 ps wv M vv ww h3 n3 ia u3 k3=>?_)
 .have e3:=u3.le
  repeat' (first|(simp (disch:=omega) only[go_sem,IG,Int.reduceEq])|(with_reducible first|apply aj|apply ah|apply ay|apply aB|apply aA|apply au)<;>intro hd<;>(rw[hd];try simp only[decide_eq_true_eq,decide_eq_false_iff_not,Bool.not_eq_true',Bool.not_eq_false']at hd)|(with_reducible refine aD ?_))
  exact hE 1 _ _ (.inl rfl) aL
 .have e3:=u3.le
  have r3:h3.get n=some (.row 27 (v.av C)):=by rw[u3.old _ (by omega)];simp (disch:=omega) only[go_sem]
  have ux:Up h n h3 n3:=by exact aL
  clear u3;repeat' (first|(simp (disch:=omega) only[go_sem,IG,Int.reduceEq,hO.len])|(with_reducible first|apply aj|apply ah|apply ay|apply aB|apply aA|apply au)<;>intro hd<;>(rw[hd];try simp only[decide_eq_true_eq,decide_eq_false_iff_not,Bool.not_eq_true',Bool.not_eq_false']at hd)|(with_reducible refine aD ?_))
  refine chk _ _ n3 3 _ _ aL (by omega) (by simp (disch:=omega) only[go_sem,r3]) rfl rfl rfl rfl rfl rfl rfl rfl (λh4 n4 u4 _=>?_) (λh4 n4 F u4 f6 f7=>?_)
  .repeat' (first|(simp (disch:=omega) only[go_sem,Int.reduceEq])|(with_reducible first|apply aj|apply ah|apply ay|apply aB|apply aA|apply au)<;>intro hd<;>(rw[hd];try simp only[decide_eq_true_eq,decide_eq_false_iff_not,Bool.not_eq_true',Bool.not_eq_false']at hd)|(with_reducible refine aD ?_))
   exact hE 3 _ _ (.inr rfl) aL
  .simp (disch:=omega) only[go_sem,f6,f7]
   exact hE 1 _ _ (.inl rfl) aL
 .have e3:=u3.le
  have r3:h3.get n=some (.row 27 (v.av C)):=by rw[u3.old _ (by omega)];simp (disch:=omega) only[go_sem]
  have r4:h3.get (n+1)=some (.row 3 [.i .i64 party]):=by rw[u3.old _ (by omega)];simp (disch:=omega) only[go_sem]
  have ux:Up h n h3 n3:=by exact aL
  clear u3;repeat' (first|(simp (disch:=omega) only[go_sem,Int.reduceEq,hO.len])|(with_reducible first|apply aj|apply ah|apply ay|apply aB|apply aA|apply au)<;>intro hd<;>(rw[hd];try simp only[decide_eq_true_eq,decide_eq_false_iff_not,Bool.not_eq_true',Bool.not_eq_false']at hd)|(with_reducible refine aD ?_))
  have g8:((Tr.set h3 n3 (.row 150 [.i .i64 0,.k 1,.k 1])).set n3 (.row 150 (m_ party vv ww))).get n3=some (.row 150 (m_ party vv ww)):=aM;have g3:((Tr.set h3 n3 (.row 150 [.i .i64 0,.k 1,.k 1])).set n3 (.row 150 (m_ party vv ww))).get n=some (.row 27 (v.av C)):=by simp (disch:=omega) only[go_sem,r3]
  have g4:((Tr.set h3 n3 (.row 150 [.i .i64 0,.k 1,.k 1])).set n3 (.row 150 (m_ party vv ww))).get (n+1)=some (.row 3 [.i .i64 party]):=by simp (disch:=omega) only[go_sem,r4]
  have ar:=(k3.up (show Up h3 n3 ((Tr.set h3 n3 (.row 150 [.i .i64 0,.k 1,.k 1])).set n3 (.row 150 (m_ party vv ww))) (n3+1) by exact aL));have K_:Up h n ((Tr.set h3 n3 (.row 150 [.i .i64 0,.k 1,.k 1])).set n3 (.row 150 (m_ party vv ww))) (n3+1):=by exact aL
  generalize(Tr.set h3 n3 (.row 150 [.i .i64 0,.k 1,.k 1])).set n3 _=h5 at*;refine chk _ _ n3 0 _ _ K_ (by omega) g3 rfl rfl rfl rfl rfl rfl rfl rfl (λh4 n4 u4 hall=>?_) (λh4 n4 F u4 f6 f7=>?_);rotate_left
  .simp (disch:=omega) only[go_sem,f6,f7]
   exact hE 1 _ _ (.inl rfl) aL
  have e4:=u4.le;have g8:=(u4.old n3 (by omega)).trans g8;have g3:=(u4.old n (by omega)).trans g3;have g4:=(u4.old (n+1) (by omega)).trans g4;have Ut:=nU hv;repeat' (first|(simp (disch:=omega) only[go_sem,Int.reduceEq,hO.len,g8,g3,CS.av])|(with_reducible first|apply aj|apply ah|apply ay|apply aB|apply aA|apply au)<;>intro hd<;>(rw[hd];try simp only[decide_eq_true_eq,decide_eq_false_iff_not,Bool.not_eq_true',Bool.not_eq_false']at hd)|(with_reducible refine aD ?_))
  .exact hE 3 _ _ (.inr rfl) aL
  rw[bU];refine FP (K+1) (hC.up (K_.trans u4)) ho (ar.up u4).use ia hp0 hp1 Ut λsv sf h6 n6 hsf u6 k6=>?_;have e6:=u6.le;have g8':=(u6.old n3 (by omega)).trans g8;simp (disch:=omega) only[go_sem];rw[bU];refine Em _ ((ar.up u4).up u6).use ia Ut k6.use hsf λmv uL h7 n7 Ti u7 k7=>?_;have e7:=u7.le;have XM:=(u7.old n3 (by omega)).trans g8';repeat' (first|(simp (disch:=omega) only[go_sem,g8,g8',XM,hO.len])|(with_reducible first|apply aj|apply ah|apply ay|apply aB|apply aA|apply au)<;>intro hd<;>(rw[hd];try simp only[decide_eq_true_eq,decide_eq_false_iff_not,Bool.not_eq_true',Bool.not_eq_false']at hd)|(with_reducible refine aD ?_))
  have hsm:=ia.small;have hlen:=ia.len;rw[List.length_map]at hsm hlen;have ajw:uL.length=ps.length:=by rw[Ti.1,List.length_map]
  have fl0:FL h n n3 n7 v C party vv ww ps wv M mv ov uL nV (((Tr.set h7 n7 (.row 22 [.k 1])).set (n7+1) (.row 3 [.i .i64 0])).set (n7+1) (.row 3 [.i .i64 0])) (n7+1+1) [] [C.first] 0 C.first:=by
   have u47:=u6.trans u7;have uz:Up h7 n7 (((Tr.set h7 n7 (.row 22 [.k 1])).set (n7+1) (.row 3 [.i .i64 0])).set (n7+1) (.row 3 [.i .i64 0])) (n7+1+1):=by exact aL
   refine⟨λx=>x=n7\/x=n7+1,.k 1,⟨by simp (disch:=omega) only[go_sem],Gr.nil λ_=>rfl,aM,by show n7≠n7+1;omega,λx hx=>absurd hx gM,.inl rfl,.inr rfl,λx hx=>absurd hx gM,λx hx=>by omega,λh' n' hn he=>?_⟩,⟨fF.nil C C.first,rfl,ia.hd,λk t a b hk=>by cases hk⟩,(((K_.trans u4).trans u47).trans uz),λx hx=>by have:=K_.le;omega⟩;have o:∀x,x<n7->h'.get x=h7.get x:=λx hx=>(he x (by omega) (by omega)).trans (uz.old x hx);have u':Up h7 n7 h' n':=⟨by omega,o⟩;have Uu:Up h4 n4 h' n':=u47.trans u';exact⟨⟨(Uu.old n (by omega)).trans g3,(Uu.old n3 (by omega)).trans g8,(Uu.old (n+1) (by omega)).trans g4,hC.up ((K_.trans u4).trans Uu),((ar.up u4).up Uu).use⟩,(k7.up u').use,hO.up ((K_.trans u4).trans Uu)⟩
  generalize((Tr.set h7 n7 _).set (n7+1) _).set (n7+1) _=h8 at*;clear g8 g8' XM g3 g4 k6 k7 k3 ar ux r3 r4 chk;have tail:∀hk nk l S i s,FL h n n3 n7 v C party vv ww ps wv M mv ov uL nV hk nk l S i s->l.length<=4000->∀e F,e=2->lk F 13=some (.p n7 0)->sK Tryz.prog Y0 20 100000 [It.b 2,It.c ((MC.reg [⟨none,.ld none (.s 13),.l⟩,⟨none,.mv (.v 0),.k 6⟩,⟨none,.mv (.c (.i .i64 0)),.k 7⟩]).seq .ret)] (.exit e) (EF (K+11)) hk nk F (MP [.t 6,.t 7] Q):=by
   rintro hk nk l S i s ⟨X,lv,a,fs,uk,hX⟩ hl e F rfl f13;have uK:=a.uK;have nb:∀x,blk lv x->¬x<n:=λx hx e=>by have:=hX x (a.Xl x hx);omega
   simp (disch:=omega) only[go_sem,f13,uK,fD];exact hQ _ l S _ _ hv hp0 hp1 (ia.Kg .refl) fs.run fs.dec hl uk (a.gl.sl.kp nb)
  have acts:∀(k:Nat)(t:Int)(st:List It)(Q':PQ),(∀hk nk l S i s,FL h n n3 n7 v C party vv ww ps wv M mv ov uL nV hk nk l S i s->l.length<=4001->s.day<C.days->(uL[i]?=some (-2)\/4000<l.length)->∀F,(∀m w,lk [(3,.p n 0),(4,.p (n+1) 0),(8,.p n3 0),(12,mv),(13,.p n7 0),(14,.p (n7+1) 0),(15,.f 53 [.p n7 0,.p (n7+1) 0,.p n 0,.p n3 0,.p (n+1) 0]),(55,ov),(56,.i .i64 (nV.length:Nat)),(57,.i .i64 (k:Nat)),(17,.i .i64 t)] m=some w->lk F m=some w)->sK Tryz.prog Y0 20 100000 st (.exit 4) (EF (K+11)) hk nk F Q')->
   ∀hk nk l S i s F,FL h n n3 n7 v C party vv ww ps wv M mv ov uL nV hk nk l S i s->l.length<=4000->s.day<C.days->(∀m w,lk [(3,.p n 0),(4,.p (n+1) 0),(8,.p n3 0),(12,mv),(13,.p n7 0),(14,.p (n7+1) 0),(15,.f 53 [.p n7 0,.p (n7+1) 0,.p n 0,.p n3 0,.p (n+1) 0]),(55,ov),(56,.i .i64 (nV.length:Nat)),(57,.i .i64 (k:Nat)),(17,.i .i64 t)] m=some w->lk F m=some w)->SM Tryz.prog Y0 20 (It.c (.loop Lg)::st) .bZ (EF (K+11)) hk nk F Q':=by
   intro k t st Q' after hk nk l S i s F fl hl iZ hF;refine iX (λm hk nk F=>(∃l S i s,FL h n n3 n7 v C party vv ww ps wv M mv ov uL nV hk nk l S i s/\l.length+m=4001/\s.day<C.days)/\F=[(3,.p n 0),(4,.p (n+1) 0),(8,.p n3 0),(12,mv),(13,.p n7 0),(14,.p (n7+1) 0),(15,.f 53 [.p n7 0,.p (n7+1) 0,.p n 0,.p n3 0,.p (n+1) 0]),(55,ov),(56,.i .i64 (nV.length:Nat)),(57,.i .i64 (k:Nat)),(17,.i .i64 t)]) (4001 - l.length) (by omega) ⟨_,⟨⟨l,S,i,s,fl,by omega,iZ⟩,rfl⟩,hF⟩ ?_;clear hF iZ hl fl F s i S l nk hk;rintro m hk nk F ⟨⟨l,S,i,s,⟨X,lv,a,fs,uk,hX⟩,hm,iZ⟩,rfl⟩;have fw:=a.A.use;have uK:=a.uK;have oq:=a.oq;dsimp only at uK oq;have hin:=(List.getElem?_eq_some_iff.1 fs.pos).1;rw[List.length_map]at hin;obtain⟨b2,o2,x,i2,hx,hb2,eT⟩:=fw.mv.fE (k:=(i:Nat)) (by omega) (by omega) (by omega);rw[show((i:Nat):Int).toNat=i by omega]at hx;obtain⟨x',hx',Tj,adA⟩:=Ti.2 i _ fs.pos;rw[hx]at hx';cases hx'
   repeat' (first|(simp (disch:=omega) only[go_sem,Lg,oq,aR i2,eT.el,eT.hd,uK,a.gl.len])|(with_reducible first|apply aj|apply ah|apply ay|apply aB|apply aA|apply au)<;>intro hd<;>(rw[hd];try simp only[decide_eq_true_eq,decide_eq_false_iff_not,Bool.not_eq_true',Bool.not_eq_false']at hd)|(with_reducible refine aD ?_))
   .have hne:¬x= -2:=by assumption
    have hnd:¬dI C party ⟨s,true⟩:=λe=>hne (adA (.inr e));obtain⟨r,hr,hnr⟩:=Tj rfl hnd;obtain⟨y0,y1,y2,y3⟩:=LA hr hne;have hr2:=Aq hr;rw[if_neg hne]at hr2;rw[hr2]at hnr;rw[JR];show CW _ 53 [.i .i64 x,.p n7 0,.p (n7+1) 0,.p n 0,.p n3 0,.p (n+1) 0] _ _ _;refine Qx (K+9) (g:=⟨n7,n7+1,n,n3,n+1⟩) a (λh n e=>e.f) ia Ut hp0 fs.pos (by omega) y1 iZ (by omega) λv' X' j h9 n9 a9 hj hn9 hs9 SQ hX9=>?_;simp (disch:=omega) only[go_sem];have fs2:=fs.step (by omega) y1 iZ hj λ_=>by unfold aH.decide;rw[if_pos ⟨y0,y3⟩];exact hnr
    have ukl:=uk.le;refine⟨m - 1,_,by omega,⟨⟨_,_,j,_,⟨X',v',a9,fs2,⟨by omega,λy hy=>?_⟩,λy hy=>?_⟩,by simp;omega,by rw[En y0];exact iZ⟩,rfl⟩,by(repeat' (first|exact aZ|refine aW rfl ?_))⟩
    .rw[hs9 y (by omega) (λe=>by have:=hX y e;omega),uk.old y hy]
    .rcases hX9 y hy with e|e
     .exact hX y e
     .omega
   .exact after _ _ l S i s ⟨X,lv,a,fs,uk,hX⟩ (by omega) iZ (.inr (by omega)) _ (by(repeat' (first|exact aZ|refine aW rfl ?_)))
   .exact after _ _ l S i s ⟨X,lv,a,fs,uk,hX⟩ (by omega) iZ (.inl (by rw[hx,hd])) _ (by(repeat' (first|exact aZ|refine aW rfl ?_)))
  refine dD nV.length (λk hk nk G=>(∃l S i s,FL h n n3 n7 v C party vv ww ps wv M mv ov uL nV hk nk l S i s/\l.length<=4000)/\G=[(3,.p n 0),(4,.p (n+1) 0),(8,.p n3 0),(12,mv),(13,.p n7 0),(14,.p (n7+1) 0),(15,.f 53 [.p n7 0,.p (n7+1) 0,.p n 0,.p n3 0,.p (n+1) 0]),(55,ov)]) (by omega) (by omega) (by omega) (by omega) (λk h8 n8 G ⟨_,e⟩=>by subst e;exact⟨rfl,rfl⟩) ⟨rfl,rfl,_,⟨⟨_,_,_,_,fl0,by simp⟩,rfl⟩,by(repeat' (first|exact aZ|refine aW rfl ?_))⟩ ?_ ?_;rotate_left
  .rintro hk nk G ⟨⟨l,S,i,s,fl,hl⟩,rfl⟩
   refine tail _ _ _ _ _ _ fl hl 2 _ rfl ?_;rfl
  clear fl0;rintro k h8 n8 G hk ⟨⟨l,S,i,s,⟨X,lv,a,fs,uk,hX⟩,hl⟩,rfl⟩;have fw:=a.A.use;have r3:=fw.f.r3;have r8:=fw.f.r8;dsimp only at r3 r8;have oq:=a.oq;dsimp only at oq;have hin:=(List.getElem?_eq_some_iff.1 fs.pos).1;rw[List.length_map]at hin;obtain⟨b1,o1,t,i1,ht,hb1,rd⟩:=fw.ov.fE (k:=(k:Nat)) (by omega) (by omega) (by omega);obtain⟨b2,o2,x,i2,hx,hb2,eT⟩:=fw.f.ar.pos.fE (k:=(i:Nat)) (by omega) (by omega) (by omega);rw[show((k:Nat):Int).toNat=k by omega]at ht;rw[show((i:Nat):Int).toNat=i by omega]at hx;have hx2:x.2=⟨s,true⟩:=by have:=fs.pos;rw[List.getElem?_map,hx]at this;simpa using this
  have rdd:pF (h8.get b2) o2 none=some (.i .i64 s.day):=by rw[eT.hd];show nv (vk x) 0=_;rw[vk,hx2];rfl
  repeat' (first|(simp (disch:=omega) only[go_sem,Qu,aR i1,rd.el,rd.hd,r8,oq,i2,rdd,r3])|(with_reducible first|apply aj|apply ah|apply ay|apply aB|apply aA|apply au)<;>intro hd<;>(rw[hd];try simp only[decide_eq_true_eq,decide_eq_false_iff_not,Bool.not_eq_true',Bool.not_eq_false']at hd)|(with_reducible refine aD ?_))
  .have uK:=a.uK
   dsimp only at uK;simp (disch:=omega) only[go_sem,uK];exact hQ _ l S _ _ hv hp0 hp1 (ia.Kg .refl) fs.run fs.dec hl uk (a.gl.sl.kp λx hx (e:x<n)=>by have:=hX x (a.Xl x hx);omega)
  have hdy:s.day<C.days:=by
   have:=(tY.ok Ut (ia.rch _ (List.mem_of_getElem? fs.pos))).DC;dsimp only at this;omega
  refine acts k t _ _ (λhk nk l S i s fl hl iZ hor F hF=>?_) _ _ l S i s _ ⟨X,lv,a,fs,uk,hX⟩ hl hdy (by(repeat' (first|exact aZ|refine aW rfl ?_)));clear hdy hd rdd hx2 hx eT i2 hin oq r8 r3 fw hX uk fs a hb2;obtain⟨X,lv,a,fs,uk,hX⟩:=fl;have f3:=hF 3 _ rfl;have f4:=hF 4 _ rfl;have f8:=hF 8 _ rfl;have f13:=hF 13 _ rfl;have f14:=hF 14 _ rfl;have f15:=hF 15 _ rfl;have f17:=hF 17 _ rfl;have fw:=a.A.use;have r3:=fw.f.r3;have r8:=fw.f.r8;have r4:=fw.f.r4;have oq:=a.oq;dsimp only at r3 r8 oq r4;have hin:=(List.getElem?_eq_some_iff.1 fs.pos).1;rw[List.length_map]at hin;obtain⟨b2,o2,x,i2,hx,hb2,eT⟩:=fw.f.ar.pos.fE (k:=(i:Nat)) (by omega) (by omega) (by omega);rw[show((i:Nat):Int).toNat=i by omega]at hx;have hx2:x.2=⟨s,true⟩:=by have:=fs.pos;rw[List.getElem?_map,hx]at this;simpa using this
  have rp:=eT.pre (k:=4) (by omega);have e4':(vk x).take 4=x.1.av s:=by rw[vk,hx2];rfl
  rw[e4']at rp;have Qv:aU C s:=tY.ok Ut (ia.rch _ (List.mem_of_getElem? fs.pos));have hst:dO hk nk x.1 s:=by have:=fw.f.ar.st x (List.mem_of_getElem? hx);rw[hx2]at this;exact this
  obtain⟨t1,t2⟩:=hall t (List.mem_of_getElem? ht);repeat' (first|(simp (disch:=omega) only[go_sem,f3,f8,f14,f17,f4,r3,r8,oq,CS.av,i2,rp])|(with_reducible first|apply aj|apply ah|apply ay|apply aB|apply aA|apply au)<;>intro hd<;>(rw[hd];try simp only[decide_eq_true_eq,decide_eq_false_iff_not,Bool.not_eq_true',Bool.not_eq_false']at hd)|(with_reducible refine aD ?_))
  rw[bU];refine yU _ fw.f.con hst Qv t1 t2 λh9 n9 u9=>?_;have a9:=a.up u9;have e9:=u9.le;have fw9:=a9.A.use;have Us:=fw9.f.r4;have La:=a9.uK;dsimp only at Us La;have f12:=hF 12 _ rfl;have f55:=hF 55 _ rfl;have f56:=hF 56 _ rfl;have f57:=hF 57 _ rfl;have dec:(if t= -1 then(-1:Int)else C.doer s t)=party↔(0<=t/\C.doer s t=party):=by
   by_cases ht:t= -1
   .rw[if_pos ht];constructor<;>intro e<;>omega
   .rw[if_neg ht];constructor
    .intro e;exact⟨by omega,e⟩
    .exactλe=>e.2
  have u9k:Up h n h9 n9:=uk.trans u9;have leF:∀x y m w,lk [(3,.p n 0),(4,.p (n+1) 0),(8,.p n3 0),(12,mv),(13,.p n7 0),(14,.p (n7+1) 0),(15,.f 53 [.p n7 0,.p (n7+1) 0,.p n 0,.p n3 0,.p (n+1) 0]),(55,ov)] m=some w->lk (pt (pt F 97 x) 103 y) m=some w:=λx y m w hm=>by
   have h1:m≠97:=by rintro rfl;cases hm
   have h2:m≠103:=by rintro rfl;cases hm
   have hle:∀m w,lk [(3,.p n 0),(4,.p (n+1) 0),(8,.p n3 0),(12,mv),(13,.p n7 0),(14,.p (n7+1) 0),(15,.f 53 [.p n7 0,.p (n7+1) 0,.p n 0,.p n3 0,.p (n+1) 0]),(55,ov)] m=some w->lk [(3,.p n 0),(4,.p (n+1) 0),(8,.p n3 0),(12,mv),(13,.p n7 0),(14,.p (n7+1) 0),(15,.f 53 [.p n7 0,.p (n7+1) 0,.p n 0,.p n3 0,.p (n+1) 0]),(55,ov),(56,.i .i64 (nV.length:Nat)),(57,.i .i64 (k:Nat)),(17,.i .i64 t)] m=some w:=by(repeat' (first|exact aZ|refine aW rfl ?_))
   rw[fD,if_neg h2,fD,if_neg h1];exact hF m w (hle m w hm)
  by_cases hdp:(if t= -1 then(-1:Int)else C.doer s t)=party
  .have hdd:decide ((if t= -1 then(-1:Int)else C.doer s t)=party)=true:=decide_eq_true hdp
   repeat' (first|(simp (disch:=omega) only[go_sem,Us,r4,hdd,f3,f4,f8,f12,f13,f14,f15,f17,f55,f56,f57,fD,La,a9.gl.len])|(with_reducible first|apply aj|apply ah|apply ay|apply aB|apply aA|apply au)<;>intro hd<;>(rw[hd];try simp only[decide_eq_true_eq,decide_eq_false_iff_not,Bool.not_eq_true',Bool.not_eq_false']at hd)|(with_reducible refine aD ?_))
   .exact hE 3 _ _ (.inr rfl) aL
   .refine⟨by rw[fD,if_neg (by omega),fD,if_neg (by omega)];exact f57,by rw[fD,if_neg (by omega),fD,if_neg (by omega)];exact f56,_,⟨⟨l,S,i,s,⟨X,lv,a9,fs,u9k,hX⟩,by omega⟩,rfl⟩,?_⟩
    exact leF _ _
  .have hdd:decide ((if t= -1 then(-1:Int)else C.doer s t)=party)=false:=decide_eq_false hdp
   repeat' (first|(simp (disch:=omega) only[go_sem,Us,r4,hdd,f3,f4,f8,f12,f13,f14,f15,f17,f55,f56,f57,fD,La,a9.gl.len])|(with_reducible first|apply aj|apply ah|apply ay|apply aB|apply aA|apply au)<;>intro hd<;>(rw[hd];try simp only[decide_eq_true_eq,decide_eq_false_iff_not,Bool.not_eq_true',Bool.not_eq_false']at hd)|(with_reducible refine aD ?_))
   rw[JR];show CW _ 53 [.i .i64 t,.p n7 0,.p (n7+1) 0,.p n 0,.p n3 0,.p (n+1) 0] _ _ _;refine Qx (K+9) (g:=⟨n7,n7+1,n,n3,n+1⟩) a9 (λh n e=>e.f) ia Ut hp0 fs.pos t1 t2 iZ (by omega) λv' X' j h10 n10 O5 hj ajB adD SQ adE=>?_;have Qy:=O5.uK;dsimp only at Qy;have e9k:=u9k.le;have Qk:Up h n h10 n10:=⟨by omega,λy hy=>by rw[adD y (by omega) (λe=>by have:=hX y e;omega),u9k.old y hy]⟩;repeat' (first|(simp (disch:=omega) only[go_sem,f3,f4,f8,f12,f13,f14,f15,f17,f55,f56,f57,fD,Qy,O5.gl.len])|(with_reducible first|apply aj|apply ah|apply ay|apply aB|apply aA|apply au)<;>intro hd<;>(rw[hd];try simp only[decide_eq_true_eq,decide_eq_false_iff_not,Bool.not_eq_true',Bool.not_eq_false']at hd)|(with_reducible refine aD ?_))
   .exact hE 3 _ _ (.inr rfl) aL
   .have hl1:l.length+1<=4000:=by
     have:¬(4000:Int)<((l++[t]).length:Nat):=hd;simp at this;omega
    have fs2:=fs.step t1 t2 iZ hj λhnd=>by
     have hnp:¬(0<=t/\C.doer s t=party):=λe=>hdp (dec.2 e);unfold aH.decide;rw[if_neg hnp];rcases hor with e|e
     .obtain⟨x',hx',Tj,_⟩:=Ti.2 i _ fs.pos
      rw[e]at hx';cases hx';obtain⟨r,hr,hnr⟩:=Tj rfl hnd;have hr2:=Aq hr;rw[if_pos rfl]at hr2;rw[hr2]at hnr;exact hnr
     .omega
    refine⟨by rw[fD,if_neg (by omega),fD,if_neg (by omega)];exact f57,by rw[fD,if_neg (by omega),fD,if_neg (by omega)];exact f56,_,⟨⟨_,_,j,_,⟨X',v',O5,fs2,Qk,λy hy=>?_⟩,by simp;omega⟩,rfl⟩,leF _ _⟩;rcases adE y hy with e|e
    .exact hX y e
    .omega
end
end
end
noncomputable section
section
variable {h h':AH} {n n':Nat} {v:CS} {C:aH} {tv:TS} {p:aS} {party:Int} {ps:List (TS×aS)} {wv:List AV} {M:List (List (Int×Nat))} {Q:AV->AH->Nat->Prop} {vv ww sv:AV} {sf:List Bool}
def LB(C:aH)(party:Int)(q:aS)(x:Int):Prop:=(q.own=true->∃r,(x,r)∈C.jW party q/\¬dI C party r)/\(q.own=false->x=0)
theorem Eo(K:Nat)(ai:sw h n vv ww ps wv M)(ia:bX C party p (ps.map (·.2)) M)(so:aU C p.st)(hs:SL h n 1 sv Qw sf)(sl:Lv C party (ps.map (·.2)) sf){i:Nat}{q:aS}(hi:(ps.map (·.2))[i]?=some q)(uM:¬dI C party q)
 (hQ:∀x h' n',LB C party q x->Up h n h' n'->Q (.i .i64 x) h' n'):CW (EF (K+1)) 194 [.agg (m_ party vv ww),sv,.i .i64 (i:Nat)] h n Q:=by
 have hsm:=ia.small;have hlen:=ia.len;have hl2:=ai.len;have hin:=(List.getElem?_eq_some_iff.1 hi).1;rw[List.length_map]at hsm hlen hin;have hsl:sf.length=ps.length:=by rw[sl.1,List.length_map]
 obtain⟨l,hl⟩:=ia.row hi;have hll:=qM so ia hl;obtain⟨b1,o1,x,i1,hx,hb1,rd⟩:=ai.pos.fE (k:=(i:Nat)) (by omega) (by omega) (by omega);obtain⟨b2,o2,y,i2,hy,hb2,eT⟩:=ai.row.fE (k:=(i:Nat)) (by omega) (by omega) (by omega);rw[show((i:Nat):Int).toNat=i by omega]at hx hy;have hx2:x.2=q:=by rw[List.getElem?_map,hx]at hi;simpa using hi
 have sy:=ai.mv i y l hy hl;have OW:pF (h.get b1) (o1+4) none=some (.b q.own):=by rw[rd.el 4 (by omega),<-hx2];rfl
 refine aJ c194 rfl ?_;cases hown:q.own with
 |false=>
  rw[hown]at OW;repeat' (first|(simp (disch:=omega) only[go_sem,SV,aR i1,OW])|(with_reducible first|apply aj|apply ah|apply ay|apply aB|apply aA|apply au)<;>intro hd<;>(rw[hd];try simp only[decide_eq_true_eq,decide_eq_false_iff_not,Bool.not_eq_true',Bool.not_eq_false']at hd)|(with_reducible refine aD ?_))
  exact hQ 0 _ _ ⟨(λe=>by rw[hown]at e;cases e),λ_=>rfl⟩ aL
 |true=>
  rw[hown]at OW;repeat' (first|(simp (disch:=omega) only[go_sem,SV,aR i1,OW,aR i2,eT.el,eT.hd,sy.len])|(with_reducible first|apply aj|apply ah|apply ay|apply aB|apply aA|apply au)<;>intro hd<;>(rw[hd];try simp only[decide_eq_true_eq,decide_eq_false_iff_not,Bool.not_eq_true',Bool.not_eq_false']at hd)|(with_reducible refine aD ?_))
  have u0:Up h n (Tr.set h n (.row 150 (m_ party vv ww))) (n+1):=by exact aL
  generalize Tr.set h n (.row 150 (m_ party vv ww))=h1 at*;refine dD l.length (λt h9 n9 G=>(∀j,j<t->∀z,l[j]?=some z->sf[z.2]?=some false)/\Up h n h9 n9/\G=[(1,sv),(20,y)]) (by omega) (by omega) (by omega) (by omega) (λk h8 n8 G ⟨_,_,e⟩=>by subst e;exact⟨rfl,rfl⟩) ⟨rfl,rfl,_,⟨(λj hj=>absurd hj (by omega)),u0,rfl⟩,by(repeat' (first|exact aZ|refine aW rfl ?_))⟩ ?_ ?_
  .rintro t h9 n9 G ht ⟨hno,u9,rfl⟩
   have e9:=u9.le;obtain⟨b4,o4,z,i4,hz,hb4,rd4⟩:=(sy.up u9).fE (k:=(t:Nat)) (by omega) (by omega) (by omega);rw[show((t:Nat):Int).toNat=t by omega]at hz;have QS:=List.mem_of_getElem? hz;have hlt:=ia.tgt hl QS;rw[List.length_map]at hlt;obtain⟨b5,o5,sz,i5,hsz,hb5,qO⟩:=(hs.up u9).fE (k:=(z.2:Nat)) (by omega) (by omega) (by omega);rw[show((z.2:Nat):Int).toNat=z.2 by omega]at hsz;obtain⟨r,hr1,hr2⟩:=ia.back hi hl (show(z.1,z.2)∈l from QS);obtain⟨sz',hsz',hsr⟩:=sl.2 z.2 r hr1;rw[hsz]at hsz';cases hsz'
   repeat' (first|(simp (disch:=omega) only[go_sem,Lj,aR i4,rd4.all,aR i5,qO.el,qO.hd])|(with_reducible first|apply aj|apply ah|apply ay|apply aB|apply aA|apply au)<;>intro hd<;>(rw[hd];try simp only[decide_eq_true_eq,decide_eq_false_iff_not,Bool.not_eq_true',Bool.not_eq_false']at hd)|(with_reducible refine aD ?_))
   .exact hQ z.1 _ _ ⟨λ_=>⟨r,hr2,hsr.1 hd⟩,(λe=>by rw[hown]at e;cases e)⟩ aL
   .refine⟨rfl,rfl,_,⟨λj hj w hw=>?_,by exact aL,rfl⟩,by(repeat' (first|exact aZ|refine aW rfl ?_))⟩
    by_cases e:j=t
    .subst e;rw[hz]at hw;cases hw;rw[hsz,hd]
    .exact hno j (by omega) w hw
  .rintro h9 n9 G ⟨hno,u9,rfl⟩
   exfalso;refine uM (.own hown λm r hmr=>?_);obtain⟨j,hj1,hj2⟩:=ia.move hi hl hmr;obtain⟨t,ht⟩:=List.getElem?_of_mem hj1;have:=hno t (List.getElem?_eq_some_iff.1 ht).1 _ ht;obtain⟨b,hb',hbr⟩:=sl.2 j r hj2;rw[this]at hb';cases hb';exact Classical.byContradiction λe=>by have:=hbr.2 e;cases this
@[reducible] def Tk (x:(TS×aS)×Int):List AV:=[.i .i64 x.1.2.st.day,x.1.1.h,x.1.1.u,x.1.1.m,.b x.1.2.own,.i .i64 x.2]
def XO:AV:=.agg [.i .i64 0,.k 1]
open Classical in
def Tm(C:aH)(party:Int)(p:aS)(rows:List ((TS×aS)×Int)):Prop:=(∃P M,bX C party p P M/\rows.map (λx=>x.1.2)=P.filter λq=>decide (¬dI C party q))/\∀x∈rows,LB C party x.1.2 x.2
open Classical in
theorem Hw(K:Nat)(hC:bG h n v C)(ho:C.off.length<=1000000)(hS:dO h n tv p.st)
 (xL:¬(0<=party/\party<C.aK/\aU C p.st)->∀h' n',Up h n h' n'->Q (.bV [XO,.i .i64 1]) h' n')(AU:0<=party->party<C.aK->aU C p.st->gK C party p->∀h' n',Up h n h' n'->Q (.bV [XO,.i .i64 3]) h' n')
 (IE:0<=party->party<C.aK->aU C p.st->dI C party p->∀h' n',Up h n h' n'->Q (.bV [XO,.i .i64 13]) h' n')
 (XP:0<=party->party<C.aK->aU C p.st->¬dI C party p->∀rows rv h' n',Tm C party p rows->Up h n h' n'->Kp (λx=>x<n) h' n' (λh n=>SL h n 6 rv Tk rows/\∀x∈rows,dO h n x.1.1 x.1.2.st)->Q (.bV [.agg [.i .i64 party,rv],.i .i64 0]) h' n'):
 CW (EF (K+11)) 119 [.agg (v.av C),.i .i64 party,.agg (tv.pv p)] h n Q:=by
 refine aJ c119 rfl ?_;repeat' (first|(simp (disch:=omega) only[go_sem,XD,CS.av,TS.pv])|(with_reducible first|apply aj|apply ah|apply ay|apply aB|apply aA|apply au)<;>intro hd<;>(rw[hd];try simp only[decide_eq_true_eq,decide_eq_false_iff_not,Bool.not_eq_true',Bool.not_eq_false']at hd)|(with_reducible refine aD ?_))
 rw[bA];refine FM K (hC.up aL) ho (hS.up aL) ⟨λhn h3 n3 u3=>?_,λhp0 hp1 so hbig h3 n3 u3=>?_,λhp0 hp1 so ps wv M vv ww h3 n3 ia u3 k3=>?_⟩
 .have e3:=u3.le
  have r2:h3.get (n+1+1)=some (.row 80 [.i .i64 0,.k 1]):=by rw[u3.old _ (by omega)];simp (disch:=omega) only[go_sem]
  repeat' (first|(simp (disch:=omega) only[go_sem,IG,Int.reduceEq,r2])|(with_reducible first|apply aj|apply ah|apply ay|apply aB|apply aA|apply au)<;>intro hd<;>(rw[hd];try simp only[decide_eq_true_eq,decide_eq_false_iff_not,Bool.not_eq_true',Bool.not_eq_false']at hd)|(with_reducible refine aD ?_))
  exact xL hn _ _ aL
 .have e3:=u3.le
  have r2:h3.get (n+1+1)=some (.row 80 [.i .i64 0,.k 1]):=by rw[u3.old _ (by omega)];simp (disch:=omega) only[go_sem]
  repeat' (first|(simp (disch:=omega) only[go_sem,IG,Int.reduceEq,r2])|(with_reducible first|apply aj|apply ah|apply ay|apply aB|apply aA|apply au)<;>intro hd<;>(rw[hd];try simp only[decide_eq_true_eq,decide_eq_false_iff_not,Bool.not_eq_true',Bool.not_eq_false']at hd)|(with_reducible refine aD ?_))
  exact AU hp0 hp1 so hbig _ _ aL
 .have e3:=u3.le
  have r2:h3.get (n+1+1)=some (.row 80 [.i .i64 0,.k 1]):=by rw[u3.old _ (by omega)];simp (disch:=omega) only[go_sem]
  have r3:h3.get n=some (.row 27 (v.av C)):=by rw[u3.old _ (by omega)];simp (disch:=omega) only[go_sem]
  have ux:Up h n h3 n3:=by exact aL
  clear u3;have hsm:=ia.small;rw[List.length_map]at hsm;repeat' (first|(simp (disch:=omega) only[go_sem,Int.reduceEq,r3,CS.av])|(with_reducible first|apply aj|apply ah|apply ay|apply aB|apply aA|apply au)<;>intro hd<;>(rw[hd];try simp only[decide_eq_true_eq,decide_eq_false_iff_not,Bool.not_eq_true',Bool.not_eq_false']at hd)|(with_reducible refine aD ?_))
  rw[bA];have k5:=(k3.up (show Up h3 n3 ((Tr.set h3 n3 (.row 150 [.i .i64 0,.k 1,.k 1])).set n3 (.row 150 (m_ party vv ww))) (n3+1) by exact aL));refine FP K (hC.up aL) ho k5.use ia hp0 hp1 so λsv sf h6 n6 hsf u6 k6=>?_;have e6:=u6.le;have hd0:=ia.hd;obtain⟨s0,hs0,hs1⟩:=hsf.2 0 p hd0;have ajC:sf.length=ps.length:=by rw[hsf.1,List.length_map]
  have ajD:0<ps.length:=by have:=(List.getElem?_eq_some_iff.1 hd0).1;rw[List.length_map]at this;exact this
  obtain⟨b1,o1,z,i1,hz,hb1,rd⟩:=k6.use.fE (k:=0) (by omega) (by omega) (by omega);rw[show(0:Int).toNat=0 by rfl,hs0]at hz;cases hz
  have r2':h6.get (n+1+1)=some (.row 80 [.i .i64 0,.k 1]):=by rw[u6.old _ (by omega),aI (by omega),aI (by omega)];exact r2
  have r8:h6.get n3=some (.row 150 (m_ party vv ww)):=by rw[u6.old _ (by omega),aM]
  have Z0:Up h n h6 n6:=by exact aL
  repeat' (first|(simp (disch:=omega) only[go_sem,aR i1,rd.el,rd.hd,r2',r8,(k5.up u6).use.pos.len])|(with_reducible first|apply aj|apply ah|apply ay|apply aB|apply aA|apply au)<;>intro hd<;>(rw[hd];try simp only[decide_eq_true_eq,decide_eq_false_iff_not,Bool.not_eq_true',Bool.not_eq_false']at hd)|(with_reducible refine aD ?_))
  .refine IE hp0 hp1 so (Classical.byContradiction λe=>?_) _ _ aL
   have:=hs1.2 e;rw[hd]at this;cases this
  have hnd:=hs1.1 hd;have u7:Up h6 n6 ((Tr.set h6 n6 (.row 80 [.i .i64 0,.k 1])).set n6 (.row 80 [.i .i64 party,.k 1])) (n6+1):=by exact aL
  have g7:((Tr.set h6 n6 (.row 80 [.i .i64 0,.k 1])).set n6 (.row 80 [.i .i64 party,.k 1])).get n6=some (.row 80 [.i .i64 party,.k 1]):=aM;generalize(Tr.set h6 n6 (.row 80 [.i .i64 0,.k 1])).set n6 _=h7 at*;have ar6:=k5.up u6;refine dD ps.length (λk hk nk G=>∃(rv:AV)(rows:List ((TS×aS)×Int)),Up h6 n6 hk nk/\n6<nk/\hk.get n6=some (.row 80 [.i .i64 party,rv])/\Gr hk nk 163 6 rv Tk rows/\(∀x,blk rv x->n6<x)/\rows.map (·.1)=(ps.take k).filter (λx=>decide (¬dI C party x.2))/\(∀x∈rows,LB C party x.1.2 x.2)/\
   G=[(6,.p (n+1+1) 0),(8,.p n3 0),(10,sv),(11,.p n6 0),(36,vv)]) (by omega) (by omega) (by omega) (by omega) (λk h8 n8 G ⟨_,_,_,_,_,_,_,_,_,e⟩=>by subst e;exact⟨rfl,rfl⟩) ⟨rfl,rfl,_,⟨.k 1,[],u7,Nat.lt_succ_self _,g7,Gr.nil λ_=>rfl,λx hx=>absurd hx gM,rfl,(λx hx=>by cases hx),rfl⟩,by(repeat' (first|exact aZ|refine aW rfl ?_))⟩ ?_ ?_
  .rintro k h8 n8 G hk ⟨rv,rows,u8,l8,g8,gr,hb,hm,hkq,rfl⟩
   have e8:=u8.le;have ar8:=(ar6.up u8).use;obtain⟨b2,o2,x,i2,hx,hb2,eT⟩:=ar8.pos.fE (k:=(k:Nat)) (by omega) (by omega) (by omega);obtain⟨b3,o3,sb,i3,hsb,hb3,qH⟩:=(k6.use.up u8).fE (k:=(k:Nat)) (by omega) (by omega) (by omega);rw[show((k:Nat):Int).toNat=k by omega]at hx hsb;have hP:(ps.map (·.2))[k]?=some x.2:=by rw[List.getElem?_map,hx];rfl
   obtain⟨sb',Ht,uM⟩:=hsf.2 k x.2 hP;rw[hsb]at Ht;cases Ht
   have r8k:=(u8.old n3 (by omega)).trans r8;have htk:(ps.take (k+1)).filter (λx=>decide (¬dI C party x.2))=(ps.take k).filter (λx=>decide (¬dI C party x.2))++if sb=true then[x]else[]:=by
    rw[List.take_add_one,hx,List.filter_append];congr 1;cases sb with
    |true=>have:=uM.1 rfl;simp[this]
    |false=>
     have:dI C party x.2:=Classical.byContradiction λe=>by have:=uM.2 e;cases this
     simp[this]
   repeat' (first|(simp (disch:=omega) only[go_sem,Li,aR i2,eT.all,aR i3,qH.el,qH.hd,g8,r8k])|(with_reducible first|apply aj|apply ah|apply ay|apply aB|apply aA|apply au)<;>intro hd<;>(rw[hd];try simp only[decide_eq_true_eq,decide_eq_false_iff_not,Bool.not_eq_true',Bool.not_eq_false']at hd)|(with_reducible refine aD ?_))
   .rw[bU]
    refine Eo _ (ar8.up aL) ia so ((k6.use.up u8).up aL) hsf hP (uM.1 hd) λmv h9 n9 hmv u9=>?_;have e9:=u9.le;have q13:h9.get n8=some (.row 45 (vk x)):=by rw[u9.old _ (by omega)];exact aM
    have LC:h9.get n6=some (.row 80 [.i .i64 party,rv]):=by rw[u9.old _ (by omega),aI (by omega),aI (by omega)];exact g8
    repeat' (first|(simp (disch:=omega) only[go_sem,q13,LC,g8])|(with_reducible first|apply aj|apply ah|apply ay|apply aB|apply aA|apply au)<;>intro hd<;>(rw[hd];try simp only[decide_eq_true_eq,decide_eq_false_iff_not,Bool.not_eq_true',Bool.not_eq_false']at hd)|(with_reducible refine aD ?_))
    have hrl:rows.length<=1500:=by
     have e:=congrArg List.length hm;rw[List.length_map]at e;have e1:=List.length_filter_le (λx:TS×aS=>decide (¬dI C party x.2)) (ps.take k);have e2:=List.length_take_le k ps;omega
    refine Lr (l2:=[(x,mv)]) (gr.up aL) ⟨rfl,?_⟩ (by simp;omega) λv' h10 n10 g10 l10 s10 b10=>?_
    .show bnd (iE (Tr.get _ _) 0 _) (λr=>mX (Nat.mul 1 6) r)=_
     rw[aM];rfl
    have n6b:¬blk rv n6:=λe=>by have:=hb _ e;omega
    have XQ:h10.get n6=some (.row 80 [.i .i64 party,rv]):=by rw[s10 n6 (by omega) n6b,aI (by omega)];exact LC
    simp (disch:=omega) only[go_sem,XQ,g10.cl,LC,q13];refine⟨rfl,rfl,_,⟨v',rows++[(x,mv)],⟨by omega,λy hy=>?_⟩,by omega,aM,g10.on (Nat.le_refl _) λy _ hy=>aI ?_,λy hy=>?_,by rw[htk,hd,List.map_append,hm];rfl,λy hy=>?_,rfl⟩,by(repeat' (first|exact aZ|refine aW rfl ?_))⟩
    .rw[aI (by omega),s10 y (by omega) (λe=>by have:=hb y e;omega),aI (by omega),u9.old y (by omega),aI (by omega),aI (by omega),u8.old y hy]
    .rintro rfl
     rcases b10 _ hy with e|e
     .exact n6b e
     .omega
    .rcases b10 y hy with e|e
     .exact hb y e
     .omega
    .rcases List.mem_append.1 hy with hy|hy
     .exact hkq y hy
     .simp at hy;subst hy;exact hmv
   .refine⟨rfl,rfl,_,⟨rv,rows,u8.trans aL,by omega,by simp (disch:=omega) only[go_sem,g8],gr.up aL,hb,by rw[htk,hd];simpa using hm,hkq,rfl⟩,by(repeat' (first|exact aZ|refine aW rfl ?_))⟩
  .rintro h8 n8 G ⟨rv,rows,u8,l8,g8,gr,hb,hm,hkq,rfl⟩
   have e8:=u8.le;have r2k:=(u8.old (n+1+1) (by omega)).trans r2';rw[List.take_length]at hm;have ux8:Up h n h8 n8:=Z0.trans u8;repeat' (first|(simp (disch:=omega) only[go_sem,g8,r2k])|(with_reducible first|apply aj|apply ah|apply ay|apply aB|apply aA|apply au)<;>intro hd<;>(rw[hd];try simp only[decide_eq_true_eq,decide_eq_false_iff_not,Bool.not_eq_true',Bool.not_eq_false']at hd)|(with_reducible refine aD ?_))
   have hmp:rows.map (λx=>x.1.2)=(ps.map (·.2)).filter (λq=>decide (¬dI C party q)):=by
    have e:=congrArg (List.map (λx:TS×aS=>x.2)) hm;rw[List.map_map]at e;rw[List.filter_map];exact e
   refine XP hp0 hp1 so hnd rows rv _ _ ⟨⟨_,M,ia,hmp⟩,hkq⟩ aL ?_;have kr:Kp (λx=>x<n+1+1+1) h8 n8 (λh n=>SL h n 6 rv Tk rows):=gr.sl.kp λx hx=>by have:=hb x hx;omega
   have ka:=ar6.up u8;have kk:=(kr.and ka).wk (B:=λh n=>SL h n 6 rv Tk rows/\∀x∈rows,dO h n x.1.1 x.1.2.st) λh n e=>⟨e.1,λx hx=>e.2.st x.1 ((List.mem_filter.1 (show x.1∈ps.filter (λx=>decide (¬dI C party x.2)) by rw[<-hm];exact List.mem_map_of_mem hx)).1)⟩;exact(kk.set (.inl (by omega)) (Nat.le_refl _)).le λx _ hx=>by omega
end
end
end Go.Proofs.YtjoohkjmoghmoaaGreatDoor

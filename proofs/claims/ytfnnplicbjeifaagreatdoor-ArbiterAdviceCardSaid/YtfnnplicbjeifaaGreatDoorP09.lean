/- part -/
import Derived.Test.YtfnnplicbjeifaaGreatDoorP08
import Derived.ProofKit
import Derived.OpenShut
import Derived.ShutString
import Derived.Deep.Slices
import Derived.LaidHandle
import Derived.Shelf.Strconv.Itoa1
set_option linter.all false
namespace Go.Proofs.YtfnnplicbjeifaaGreatDoor
section
noncomputable section
section
variable {h h':AH} {n n':Nat} {Q:AV->AH->Nat->Prop} {C:ay} {v:CS} {l:List Int}
def Ww:AV:=.agg [.k 1,.k 1,.k 1,.k 1]
theorem M4(K:Nat){tv:AV}(hC:aY h n v C)(ho:C.off.length<=1000000)(hl:l.length<=100000)(hT:SL h n 1 tv iw l)
 (jV:C.valid=false->∀h' n',Up h n h' n'->Q (.bJ [Ww,.i .i64 1]) h' n')
 (rQ:C.valid=true->4000<l.length->∀h' n',Up h n h' n'->Q (.bJ [Ww,.i .i64 3]) h' n')
 (KA:C.valid=true->l.length<=4000->(¬∃S,fu C C.first l S)->∀e h' n',e≠0->Up h n h' n'->Q (.bJ [Ww,.i .i64 e]) h' n')
 (hQ4:C.valid=true->l.length<=4000->∀cv sv dv vs dD h' n',fu C C.first l (dD.map (·.2))->Up h n h' n'->RS h' n' C cv sv tv dv vs dD l 0->Q (.bJ [.agg (rA cv sv tv dv),.i .i64 0]) h' n'):
 CW (EF (K+12)) 41 [.agg (v.av C),.k 1,tv] h n Q:=by
 refine aC c32 rfl ?_;repeat' (first|(simp (disch:=omega) only[go_sem,simprocAttr,m32,CS.av])|(refine aS ?_ ?_<;>(intro hb hd;rw[hb];clear hb))|(with_reducible refine aj ?_))
 generalize hh:Tr.set (Tr.set h n _) (n+1) _=h0;have u0:Up h n h0 (n+2):=by rw[<-hh];exact aH
 have g0:h0.get n=some (.row 27 (v.av C)):=by rw[<-hh];simp (disch:=omega) only[go_sem]
 have g1:h0.get (n+1)=some (.row 137 [.k 1,.k 1,.k 1,.k 1]):=by rw[<-hh];simp (disch:=omega) only[go_sem]
 clear hh;rw[aR];show CW _ 16 _ h0 (n+2) _;have bad:∀(e:Int),e≠0->(∀h' n',Up h n h' n'->Q (.bJ [Ww,.i .i64 e]) h' n')->∀h1 n1,Up h0 (n+2) h1 n1->True:=λ_ _ _ _ _ _=>trivial;refine Ju K (hC.up u0) ho hl (hT.up u0) (λhv h1 n1 u1=>?_) (λhv hln h1 n1 u1=>?_) (λhv hln hr e h1 n1 he u1=>?_) (λhv hln cv sv vs dD h1 n1 run ln u1 kR=>?_)
 .have e1:=u1.le
  have g11:=(u1.old _ (show n+1<n+2 by omega)).trans g1;have ux:=u0.trans u1;simp (disch:=omega) only[go_sem,simprocAttr,g11,Int.reduceEq];exact jV hv _ _ aH
 .have e1:=u1.le
  have g11:=(u1.old _ (show n+1<n+2 by omega)).trans g1;have ux:=u0.trans u1;simp (disch:=omega) only[go_sem,simprocAttr,g11,Int.reduceEq];exact rQ hv hln _ _ aH
 .have e1:=u1.le
  have g11:=(u1.old _ (show n+1<n+2 by omega)).trans g1;have ux:=u0.trans u1;have hd:decide (e=0)=false:=decide_eq_false he;simp (disch:=omega) only[go_sem,simprocAttr,g11,hd];exact KA hv hln hr e _ _ he aH
 .obtain⟨⟨s1,s2⟩,s3,s4⟩:=kR.use
  have e1:=u1.le;have g11:=(u1.old _ (show n+1<n+2 by omega)).trans g1;have ux:=u0.trans u1;have ok:=ay.ok hv;have hus:=qX hv;have hSl:=run.len;rw[List.length_map]at hSl;simp (disch:=omega) only[go_sem,simprocAttr,s1.cl,s2.cl,hT.cl,s2.len];generalize hh:Tr.set (Tr.set h1 n1 _) n1 _=h2;have u2:Up h1 n1 h2 (n1+1):=by rw[<-hh];exact aH
  have g2:h2.get n1=some (.row 137 [cv,sv,tv,.k 1]):=by rw[<-hh];exact aF
  clear hh;refine bP dD.length (λk hk nk G=>Up h1 n1 hk nk/\n1<nk/\(∃dv,hk.get n1=some (.row 137 [cv,sv,tv,dv])/\Gr hk nk 3 1 dv cn (List.replicate k 0)/\∀x,blk dv x->n1<x)/\G=[(6,.p (n+1) 0),(8,cv),(11,.p n1 0),(31,sv)]) (by omega) (by omega) (by omega) (by omega) (λk h8 n8 G ⟨_,_,_,e⟩=>by subst e;exact⟨rfl,rfl⟩) ⟨rfl,rfl,_,⟨u2,by omega,⟨.k 1,g2,Gr.nil λ_=>rfl,λx hx=>absurd hx fA⟩,rfl⟩,by(repeat' (first|exact aO|refine aM rfl ?_))⟩ ?_ ?_
  .rintro k hk nk G hkl ⟨uk,lk,⟨dv,gd,gr,bd⟩,rfl⟩
   obtain⟨b1,o1,x,i1,hx,hb1,rd⟩:=(s2.up uk).dL (k:=(k:Nat)) (by omega) (by omega) (by omega);rw[show((k:Nat):Int).toNat=k by omega]at hx;repeat' (first|(simp (disch:=omega) only[go_sem,simprocAttr,aJ i1,rd.all,TS.av])|(refine aS ?_ ?_<;>(intro hb hd;rw[hb];clear hb))|(with_reducible refine aj ?_))
   .have hkp:0<k:=by omega
    obtain⟨b2,o2,w2,i2,hw2,hb2,eP⟩:=(s1.up uk).dL (k:=(k:Nat)) (by omega) (by omega) (by omega);obtain⟨b3,o3,w3,i3,hw3,hb3,nA⟩:=(s1.up uk).dL (k:=((k - 1:Nat):Int)) (by omega) (by omega) (by omega);have wid:gN .i64 ((k:Int) - 1)=((k - 1:Nat):Int):=by rw[dI (by omega) (by omega)];omega
    have a2:=eP.all;have a3:=nA.all;generalize hz:Tr.set (Tr.set hk nk _) nk _=h5;have u5:Up hk nk h5 (nk+1):=by rw[<-hz];exact aH
    clear hz;rw[<-u5.old b2 hb2]at a2;rw[<-u5.old b3 hb3]at a3;repeat' (first|(simp (disch:=omega) only[go_sem,simprocAttr,wid,i2,i3,a2,a3])|(refine aS ?_ ?_<;>(intro hb hd;rw[hb];clear hb))|(with_reducible refine aj ?_))
    rw[bF];have uk5:=uk.trans u5;refine yV (K+7) ((s3 w3 (List.mem_of_getElem? hw3)).up uk5) ((s3 w2 (List.mem_of_getElem? hw2)).up uk5) ok ho (by omega) λh4 n4 u4=>?_;have e4:=u4.le;have u54:=u5.trans u4;have gd4:=(u54.old n1 (by omega)).trans gd;obtain⟨b6,o6,y6,i6,hy6,hb6,Tp⟩:=((gr.up u54).sl).dL (k:=((k - 1:Nat):Int)) (by omega) (by simp;omega) (by omega);rw[show((k - 1:Nat):Int).toNat=k - 1 by omega,List.getElem?_replicate,if_pos (by omega)]at hy6;cases hy6
    have a6:=Tp.hd;repeat' (first|(simp (disch:=omega) only[go_sem,simprocAttr,gd4,wid,i6,aJ i6,a6])|(refine aS ?_ ?_<;>(intro hb hd;rw[hb];clear hb))|(with_reducible refine aj ?_))
    generalize hz:Tr.set h4 n4 (.row 3 [.i .i64 0])=h6;have u6:Up hk nk h6 (n4+1):=by rw[<-hz];exact aH
    have q6:h6.get n4=some (.row 3 [.i .i64 0]):=by rw[<-hz];exact aF
    clear hz;obtain⟨dv',h7,n7,r7,g7,l7,s7,b7⟩:=(gr.up u6).app (l2:=[0]) (y:=.sl n4 0 0 1 (some 1)) rfl (by
     show bnd (iI (h6.get _) 0 _) _=_;rw[q6];rfl) (by simp<;>omega)
    have c7:=(s7 n1 (by have:=u6.le;omega) (λe=>by have:=bd n1 e;omega)).trans ((u6.old n1 (by omega)).trans gd);repeat' (first|(simp (disch:=omega) only[go_sem,simprocAttr,r7,g7.cl,c7])|(refine aS ?_ ?_<;>(intro hb hd;rw[hb];clear hb))|(with_reducible refine aj ?_))
    have YD:gN .i64 ((k:Int)+1)=((k+1:Nat):Int):=by rw[dI (by omega) (by omega)];rfl
    have l6:=u6.le;refine⟨rfl,rfl,_,⟨⟨by have:=uk.le;omega,λy hy=>?_⟩,by omega,⟨dv',aF,g7.on (Nat.le_refl _) (λy hy e=>au λe2=>?_)|>λg=>by rw[List.replicate_succ'];exact g,λy hy=>?_⟩,rfl⟩,by(repeat' (first|exact aO|refine aM rfl ?_))⟩
    .rw[au (by omega),s7 y (by have:=uk.le;omega) (λe=>by have:=bd y e;omega),u6.old y (by have:=uk.le;omega),uk.old y hy]
    .obtain⟨_,q⟩:=g7.ty e
     rw[e2,c7]at q;cases q
    .rcases b7 y hy with e|e
     .exact bd y e
     .omega
   .have hk0:k=0:=by omega
    subst hk0;have jW:x.2.day=0:=by
     have e:=run.hd;rw[List.getElem?_map,hx]at e;simp only[Option.map_some,Option.some.injEq]at e;rw[e];rfl
    generalize hz:Tr.set (Tr.set hk nk _) nk _=h5;have u5:Up hk nk h5 (nk+1):=by rw[<-hz];exact aH
    clear hz;have gd5:=(u5.old n1 (by omega)).trans gd;repeat' (first|(simp (disch:=omega) only[go_sem,simprocAttr,gd,gd5,jW])|(refine aS ?_ ?_<;>(intro hb hd;rw[hb];clear hb))|(with_reducible refine aj ?_))
    generalize hz:Tr.set h5 (nk+1) (.row 3 [.i .i64 0])=h6;have u6:Up hk nk h6 ((nk+1)+1):=by rw[<-hz];exact aH
    have q6:h6.get (nk+1)=some (.row 3 [.i .i64 0]):=by rw[<-hz];exact aF
    clear hz;obtain⟨dv',h7,n7,r7,g7,l7,s7,b7⟩:=(gr.up u6).app (l2:=[0]) (y:=.sl (nk+1) 0 0 1 (some 1)) rfl (by
     show bnd (iI (h6.get _) 0 _) _=_;rw[q6];rfl) (by simp<;>omega)
    have c7:=(s7 n1 (by have:=u6.le;omega) (λe=>by have:=bd n1 e;omega)).trans ((u6.old n1 (by omega)).trans gd);repeat' (first|(simp (disch:=omega) only[go_sem,simprocAttr,r7,g7.cl,c7])|(refine aS ?_ ?_<;>(intro hb hd;rw[hb];clear hb))|(with_reducible refine aj ?_))
    have YD:gN .i64 (((0:Nat):Int)+1)=((0+1:Nat):Int):=by rfl
    have l6:=u6.le;refine⟨rfl,rfl,_,⟨⟨by have:=uk.le;omega,λy hy=>?_⟩,by omega,⟨dv',aF,g7.on (Nat.le_refl _) (λy hy e=>au λe2=>?_)|>λg=>by rw[List.replicate_succ'];exact g,λy hy=>?_⟩,rfl⟩,by(repeat' (first|exact aO|refine aM rfl ?_))⟩
    .rw[au (by omega),s7 y (by have:=uk.le;omega) (λe=>by have:=bd y e;omega),u6.old y (by have:=uk.le;omega),uk.old y hy]
    .obtain⟨_,q⟩:=g7.ty e
     rw[e2,c7]at q;cases q
    .rcases b7 y hy with e|e
     .exact bd y e
     .omega
  .rintro hk nk G ⟨uk,lk,⟨dv,gd,gr,bd⟩,rfl⟩
   have g1k:=(uk.old _ (show n+1<n1 by omega)).trans g11;have uxk:=ux.trans uk;repeat' (first|(simp (disch:=omega) only[go_sem,simprocAttr,gd,g1k,gr.cl,s1.cl,s2.cl,hT.cl])|(refine aS ?_ ?_<;>(intro hb hd;rw[hb];clear hb))|(with_reducible refine aj ?_))
   have kd:Kp (λx=>x<n1) hk nk (λh n=>SL h n 1 dv cn (List.replicate dD.length 0)):=gr.sl.kp λx hx e=>by have:=bd x hx;omega
   have kf:=((kR.up uk).set (b:=n+1) (o:=.row 137 [cv,sv,tv,dv]) (.inl (by omega)) (Nat.le_refl _)).use;have kf2:=(kd.set (b:=n+1) (o:=.row 137 [cv,sv,tv,dv]) (.inl (by omega)) (Nat.le_refl _)).use;have uf:Up h n (Tr.set hk (n+1) (.row 137 [cv,sv,tv,dv])) nk:=Up.st uxk _ _ (by omega);exact hQ4 hv hln cv sv dv vs dD _ _ run uf ⟨kf.1.1,kf.2.1,kf.1.2,kf.2.2,hT.up uf,kf2,ln⟩
end
end
end
section
noncomputable section
section
variable {h h':AH} {n n':Nat} {Q:AV->AH->Nat->Prop} {C:ay} {v:CS} {l:List Int} {party:Int}
theorem Jw{S:List aI}(hv:C.valid=true)(run:fu C C.first l S):∀(k:Nat)(s:aI),S[k]?=some s->aK C s
 |0,s,e=>by rw[run.hd]at e;cases e;exact qI hv
 |k+1,s,e=>by
  have hk:=(List.getElem?_eq_some_iff.1 e).1;have hl:=run.len;obtain⟨t,ht⟩:∃t,l[k]?=some t:=⟨l[k]'(by omega),List.getElem?_eq_some_iff.2 ⟨by omega,rfl⟩⟩;obtain⟨a,ha⟩:∃a,S[k]?=some a:=⟨S[k]'(by omega),List.getElem?_eq_some_iff.2 ⟨by omega,rfl⟩⟩;obtain⟨h1,h2,h3,h4⟩:=run.step k t a ht ha;rw[e]at h4;cases h4
  exact ko (Jw hv run k a ha) h1 h2 h3
theorem KU{S:List aI}(hp:0<=party)(run:fu C C.first l S):∀(k:Nat)(s:aI),S[k]?=some s->wH C party ⟨C.first,true⟩ ⟨s,true⟩
 |0,s,e=>by rw[run.hd]at e;cases e;exact .refl
 |k+1,s,e=>by
  have hk:=(List.getElem?_eq_some_iff.1 e).1;have hl:=run.len;obtain⟨t,ht⟩:∃t,l[k]?=some t:=⟨l[k]'(by omega),List.getElem?_eq_some_iff.2 ⟨by omega,rfl⟩⟩;obtain⟨a,ha⟩:∃a,S[k]?=some a:=⟨S[k]'(by omega),List.getElem?_eq_some_iff.2 ⟨by omega,rfl⟩⟩;obtain⟨h1,h2,h3,h4⟩:=run.step k t a ht ha;rw[e]at h4;cases h4
  have ih:=KU hp run k a ha;by_cases hst:C.aU a t=a
  .rw[hst];exact ih
  by_cases ho:0<=t/\C.doer a t=party
  .obtain⟨i,rfl⟩:=Int.eq_ofNat_of_zero_le ho.1
   exact ih.step (zw (q:=⟨a,true⟩) (by omega) h3 ⟨⟨λ_=>rfl,λ_=>ho.2⟩,hst⟩)
  .have ih2:=ih.step (vX (C:=C) (party:=party) (q:=⟨a,true⟩) rfl)
   by_cases ht0:t= -1
   .subst ht0
    exact ih2.step (A8 (q:=⟨a,false⟩) rfl h3)
   .obtain⟨i,rfl⟩:=Int.eq_ofNat_of_zero_le (show 0<=t by omega)
    refine ih2.step (zw (q:=⟨a,false⟩) (by omega) h3 ⟨⟨λe=>absurd ⟨Int.natCast_nonneg _,e⟩ ho,λe=>(by cases e)⟩,hst⟩)
theorem Uz{S:List aI}(hp:0<=party)(run:fu C C.first l S){k:Nat}{s:aI}(hs:S[k]?=some s){b:Bool}(e:gT C party ⟨s,b⟩):gT C party ⟨C.first,true⟩:=by
 have r:=KU hp run k s hs;refine e.of ?_;cases b with
 |true=>exact r
 |false=>exact r.step (vX (C:=C) (party:=party) (q:=⟨s,true⟩) rfl)
theorem Q_(K:Nat){tv:AV}(hC:aY h n v C)(ho:C.off.length<=1000000)(hl:l.length<=100000)(hT:SL h n 1 tv iw l)
 (jV:∀e h' n',e≠0->(C.valid=true->0<=party->party<C.aD->l.length<=4000->¬gT C party ⟨C.first,true⟩->¬∃S,fu C C.first l S)->Up h n h' n'->Q (.bJ [.i .i64 0,.i .i64 e]) h' n')
 (rQ:C.valid=true->0<=party->party<C.aD->∀S (r:Int) h' n',fu C C.first l S->(∀k:Nat,r=(k:Nat)->Jr C party l S k)->(r= -1->Js C party l S)-> -1<=r->Up h n h' n'->Q (.bJ [.i .i64 r,.i .i64 0]) h' n'):
 CW (EF (K+410)) 19 [.agg (v.av C),.k 1,.i .i64 party,tv] h n Q:=by
 refine aC c10 rfl ?_;repeat' (first|(simp (disch:=omega) only[go_sem,simprocAttr,ub.old,m10,CS.av])|(simp (disch:=omega) only[go_sem,simprocAttr,m10,CS.av])|(refine aS ?_ ?_<;>(intro hb hd;rw[hb];clear hb))|(with_reducible refine aj ?_))
 generalize hh:Tr.set h n _=h0;have u0:Up h n h0 (n+1):=by rw[<-hh];exact aH
 have g0:h0.get n=some (.row 27 (v.av C)):=by rw[<-hh];exact aF
 clear hh;rw[aR];refine QK (K+402) (hC.up u0) ho λh1 n1 u1=>?_;have e1:=u1.le;have g1:=(u1.old n (by omega)).trans g0;cases hk:(C.valid&&(decide (0<=party)&&decide (party<C.aD)))with
 |false=>
  repeat' (first|(simp (disch:=omega) only[go_sem,simprocAttr,ub.old,hk])|(simp (disch:=omega) only[go_sem,simprocAttr,hk])|(refine aS ?_ ?_<;>(intro hb hd;rw[hb];clear hb))|(with_reducible refine aj ?_))
  refine jV 1 _ _ (by omega) (λa b c=>?_) (u0.trans u1);rw[a,decide_eq_true b,decide_eq_true c]at hk;cases hk
 |true=>
  simp only[Bool.and_eq_true,decide_eq_true_eq]at hk;obtain⟨hv,hp0,hp1⟩:=hk;repeat' (first|(simp (disch:=omega) only[go_sem,simprocAttr,ub.old,g1,CS.av])|(simp (disch:=omega) only[go_sem,simprocAttr,g1,CS.av])|(refine aS ?_ ?_<;>(intro hb hd;rw[hb];clear hb))|(with_reducible refine aj ?_))
  rw[aR];have RO:=u0.trans u1;refine M4 (K+397) (hC.up RO) ho hl (hT.up RO) (λe=>by rw[hv]at e;cases e) (λ_ hln h2 n2 u2=>?_) (λ_ hln hr e h2 n2 he u2=>?_) (λ_ hln cv sv dv vs dD h2 n2 run u2 rin=>?_)
  .have yH:=RO.trans u2
   have e2:=yH.le;repeat' (first|(simp (disch:=omega) only[go_sem,simprocAttr,ub.old,Ww,Int.reduceEq])|(simp (disch:=omega) only[go_sem,simprocAttr,Ww,Int.reduceEq])|(refine aS ?_ ?_<;>(intro hb hd;rw[hb];clear hb))|(with_reducible refine aj ?_))
   exact jV 3 _ _ (by omega) (λ_ _ _ h _=>by omega) aH
  .have yH:=RO.trans u2
   have e2:=yH.le;have hd:decide (e=0)=false:=decide_eq_false he;repeat' (first|(simp (disch:=omega) only[go_sem,simprocAttr,ub.old,Ww,hd])|(simp (disch:=omega) only[go_sem,simprocAttr,Ww,hd])|(refine aS ?_ ?_<;>(intro hb hd;rw[hb];clear hb))|(with_reducible refine aj ?_))
   exact jV e _ _ he (λ_ _ _ _ _=>hr) aH
  .have yH:=RO.trans u2
   have e2:=u2.le;simp (disch:=omega) only[go_sem,simprocAttr,rA];generalize hh:Tr.set (Tr.set h2 n2 _) n2 _=h3;have u3:Up h2 n2 h3 (n2+1):=by rw[<-hh];exact aH
   have g3:h3.get n2=some (.row 137 (rA cv sv tv dv)):=by rw[<-hh];exact aF
   clear hh;repeat' (first|(simp (disch:=omega) only[go_sem,simprocAttr,ub.old])|(simp (disch:=omega) only[go_sem,simprocAttr])|(refine aS ?_ ?_<;>(intro hb hd;rw[hb];clear hb))|(with_reducible refine aj ?_))
   rw[bF];refine Gf (K+408) λj s lm sh dd h4 n4 u4 q1 q2 q3 q4 q5 q6=>?_;have e4:=u4.le;have g4:=(u4.old n2 (by omega)).trans g3;repeat' (first|(simp (disch:=omega) only[go_sem,simprocAttr,ub.old,g3,g4,rA])|(simp (disch:=omega) only[go_sem,simprocAttr,g3,g4,rA])|(refine aS ?_ ?_<;>(intro hb hd;rw[hb];clear hb))|(with_reducible refine aj ?_))
   rw[bF];have uR:Up h2 n2 h4 n4:=u3.trans ((Up.wide h3 (by omega)).trans u4);have akZ:=rin.up uR;have oks:∀x∈dD,aK C x.2:=λx hx=>by
    obtain⟨k,hk⟩:=List.getElem?_of_mem hx;exact Jw hv run k x.2 (by rw[List.getElem?_map,hk];rfl)
   have hB:∀x∈dD,∀b,gT C party ⟨x.2,b⟩->gT C party ⟨C.first,true⟩:=λx hx b e=>by
    obtain⟨k,hk⟩:=List.getElem?_of_mem hx;exact Uz hp0 run (k:=k) (s:=x.2) (by rw[List.getElem?_map,hk];rfl) e
   refine Q6 K (B:=gT C party ⟨C.first,true⟩) (h:=h4) (n:=n4) (l:=l) (u:=0) (j:=j) (s:=s) (lm:=lm) (ent:=[]) (vs:=vs) (dD:=dD) akZ ⟨⟨_,rfl,q1⟩,q2,⟨[],q3,.inl rfl⟩,λq _ x hx=>(by cases hx),q5.1,q5.2.1,q5.2.2,q6.1,q6.2.1,q6.2.2⟩ ho hl (by omega) hp0 hp1 run oks hB (λd b e h5 n5 he hBB l5 x5=>?_) λd b h5 n5 hb1 hb2 l5 x5=>?_
   .have g5:=(x5 n2 (by omega) (by omega) (by omega)).trans g4
    have l02:=yH.le;have uF:Up h n h5 n5:=⟨by omega,λx hx=>by rw[x5 x (by omega) (by omega) (by omega)];exact(yH.trans uR).old x hx⟩;have hd:decide (e=0)=false:=decide_eq_false he;repeat' (first|(simp (disch:=omega) only[go_sem,simprocAttr,ub.old,g5,DV.av,hd])|(simp (disch:=omega) only[go_sem,simprocAttr,g5,DV.av,hd])|(refine aS ?_ ?_<;>(intro hb hd;rw[hb];clear hb))|(with_reducible refine aj ?_))
    refine⟨by rw[g3];rfl,?_⟩;exact jV e _ _ he (λ_ _ _ _ nb=>absurd hBB nb) (by first|exact uF|exact Up.st uF _ _ (by omega)|exact Up.st (Up.st uF _ _ (by omega)) _ _ (by omega))
   have g5:=(x5 n2 (by omega) (by omega) (by omega)).trans g4;have l02:=yH.le;have uF:Up h n h5 n5:=⟨by omega,λx hx=>by rw[x5 x (by omega) (by omega) (by omega)];exact(yH.trans uR).old x hx⟩;repeat' (first|(simp (disch:=omega) only[go_sem,simprocAttr,ub.old,g5,DV.av])|(simp (disch:=omega) only[go_sem,simprocAttr,g5,DV.av])|(refine aS ?_ ?_<;>(intro hb hd;rw[hb];clear hb))|(with_reducible refine aj ?_))
   refine⟨by rw[g3];rfl,?_⟩;cases b with
   |false=>
    simp (disch:=omega) only[go_sem,simprocAttr];exact rQ hv hp0 hp1 _ (-1) _ _ run (λk e=>by omega) (λ_=>hb2 rfl) (by omega) (Up.st (Up.st uF _ _ (by omega)) _ _ (by omega))
   |true=>
    simp (disch:=omega) only[go_sem,simprocAttr];exact rQ hv hp0 hp1 _ (d.i:Nat) _ _ run (λk e=>by
     have:d.i=k:=by omega
     rw[<-this];exact hb1 rfl) (λe=>by omega) (by omega) (Up.st (Up.st uF _ _ (by omega)) _ _ (by omega))
end
end
end
section
noncomputable section
section
variable {C:ay} {party:Int} {l:List Int} {S:List aI} {s:aI}
theorem M5{a:aI}{t:Int}(h1: -1<=t)(h2:t<C.acts.length)(h3:a.day<C.days)(hs:¬bM C party ⟨a,true⟩)(hd:¬bM C party (C.decide party a (C.aU a t) t)):¬bM C party ⟨C.aU a t,true⟩:=by
 unfold ay.decide at hd;by_cases ho:0<=t/\C.doer a t=party
 .rw[if_pos ho]at hd;exact hd
 .rw[if_neg ho]at hd
  by_cases hst:C.aU a t=a
  .rw[hst];exact hs
  .intro hq
   by_cases ht:t= -1
   .subst ht
    exact hd (.jM rfl (fF.2 (.inr (.inl ⟨rfl,rfl,h3,rfl⟩))) hq)
   .obtain⟨i,rfl⟩:=Int.eq_ofNat_of_zero_le (show 0<=t by omega)
    exact hd (.jM rfl (fF.2 (.inr (.inr ⟨i,by omega,rfl,h3,⟨⟨λe=>absurd ⟨Int.natCast_nonneg _,e⟩ ho,λe=>(by cases e)⟩,hst⟩,rfl⟩))) hq)
end
end
end
section
noncomputable section
section
variable {h h':AH} {n n':Nat} {C:ay} {v v':CS} {Q:AV->AH->Nat->Prop} {cv sv tv:AV} {vs:List CS} {dD:List (TS×aI)} {l:List Int} {party:Int}
theorem Zu:TQ 282 [true,true] Gc [.t 4]:=⟨ad2,rfl,rfl⟩
theorem Ra(K:Nat)(hC:aY h n v C)(hC':aY h n v' C)(ok:C.Ok)(ho:C.off.length<=1000000)(hu:C.units.length<=1000000)(hQ:∀h' n',Up h n h' n'->Q (.b true) h' n'):CW (EF (K+4)) 248 [.agg (v.av C),.agg (v'.av C)] h n Q:=by
 have:=ok.dJ;have:=ok.iX;have:=ok.jm;obtain⟨ss,hs⟩:=hC.clauses;obtain⟨st,ht⟩:=hC'.clauses;have hst:∀k∈C.clauses,k.start.length<=1000:=λk hk=>by
  obtain⟨i,hi⟩:=List.getElem?_of_mem hk;have:=(ok.clause hi).qH;omega
 have cup:∀{h' n'},Up h n h' n'->yu h' n' v.k C.clauses ss:=λ{h' n'} u=>⟨hs.1,hs.2.1.up u,λi k t a b=>(hs.2.2 i k t a b).up u⟩;have Zq:∀{h' n'},Up h n h' n'->yu h' n' v'.k C.clauses st:=λ{h' n'} u=>⟨ht.1,ht.2.1.up u,λi k t a b=>(ht.2.2 i k t a b).up u⟩;refine aC aef rfl ?_;repeat' (first|(simp (disch:=omega) only[go_sem,simprocAttr,ub.old,Q0,CS.av,decide_true,Bool.and_true,Bool.true_and,Bool.not_true])|(simp (disch:=omega) only[go_sem,simprocAttr,Q0,CS.av,decide_true,Bool.and_true,Bool.true_and,Bool.not_true])|((first|rw[aR]|rw[bF]);with_reducible refine lZ _ (hC.ah.up aH) (hC'.ah.up aH) (by omega) λh2 n2 u2=>?_;(first|replace ub:=Up.trans ub (Up.trans aH u2)|have ub:=u2);have hle:=ub.le;clear u2)|((first|rw[aR]|rw[bF]);with_reducible refine Bd _ (hC.units.up aH) (hC'.units.up aH) hu λh2 n2 u2=>?_;(first|replace ub:=Up.trans ub (Up.trans aH u2)|have ub:=u2);have hle:=ub.le;clear u2)|((first|rw[aR]|rw[bF]);with_reducible refine Cx _ (hC.acts.up aH) (hC'.acts.up aH) (by omega) λh2 n2 u2=>?_;(first|replace ub:=Up.trans ub (Up.trans aH u2)|have ub:=u2);have hle:=ub.le;clear u2)|((first|rw[aR]|rw[bF]);with_reducible refine lZ _ (hC.off.up aH) (hC'.off.up aH) ho λh2 n2 u2=>?_;(first|replace ub:=Up.trans ub (Up.trans aH u2)|have ub:=u2);have hle:=ub.le;clear u2)|((first|rw[aR]|rw[bF]);with_reducible refine wD _ Zu (cup aH) (Zq aH) (by omega) hst λh2 n2 u2=>?_;(first|replace ub:=Up.trans ub (Up.trans aH u2)|have ub:=u2);have hle:=ub.le;clear u2)|(refine aS ?_ ?_<;>(intro hb hd;rw[hb];clear hb))|(with_reducible refine aj ?_))
 exact hQ _ _ aH
structure Ew(h:AH)(n:Nat)(C:ay)(cv sv tv:AV)(vs:List CS)(dD:List (TS×aI))(l:List Int):Prop where
 con:SL h n 7 cv (Wu C) vs
 cons:∀w∈vs,aY h n w C
 NA:SL h n 4 sv QJ dD
 uN:∀x∈dD,bI h n x.1 x.2
 Jp:SL h n 1 tv iw l
 len:vs.length=dD.length
 run:fu C C.first l (dD.map (·.2))
 ok:C.Ok
 oks:∀x∈dD,aK C x.2
 ho:C.off.length<=1000000
 hu:C.units.length<=1000000
 hl:l.length<=4000
theorem Ew.up(a:Ew h n C cv sv tv vs dD l)(x:Up h n h' n'):Ew h' n' C cv sv tv vs dD l:=
 ⟨a.con.up x,λw hw=>(a.cons w hw).up x,a.NA.up x,λy hy=>(a.uN y hy).up x,a.Jp.up x,a.len,a.run,a.ok,a.oks,a.ho,a.hu,a.hl⟩
@[reducible] def CB (party:Int) (cv sv tv:AV):List AV:=[.i .i64 party,cv,sv,tv]
theorem Jy(K:Nat)(a:Ew h n C cv sv tv vs dD l){j:Nat}(hj:j+1<l.length)(hQ:∀h' n',Up h n h' n'->Q (.b false) h' n'):CW (EF (K+9)) 186 [.agg (CB party cv sv tv),.i .i64 ((j+1:Nat):Int)] h n Q:=by
 have hrl:=a.run.len;have hvl:=a.len;have hl:=a.hl;rw[List.length_map]at hrl;have wid:gN .i64 (((j+1:Nat):Int) - 1)=((j:Nat):Int):=by rw[dI (by omega) (by omega)];omega
 obtain⟨b1,o1,v1,i1,hv1,hb1,r1⟩:=a.con.dL (k:=(j:Nat)) (by omega) (by omega) (by omega);obtain⟨b2,o2,v2,i2,hv2,hb2,r2⟩:=a.con.dL (k:=((j+1:Nat):Int)) (by omega) (by omega) (by omega);obtain⟨b3,o3,s1,i3,hs1,hb3,r3⟩:=a.NA.dL (k:=(j:Nat)) (by omega) (by omega) (by omega);obtain⟨b4,o4,s2,i4,hs2,hb4,r4⟩:=a.NA.dL (k:=((j+1:Nat):Int)) (by omega) (by omega) (by omega);obtain⟨b5,o5,t,i5,ht,hb5,r5⟩:=a.Jp.dL (k:=(j:Nat)) (by omega) (by omega) (by omega);rw[show((j:Nat):Int).toNat=j by omega]at hv1 hs1 ht;rw[show((j+1:Nat):Int).toNat=j+1 by omega]at hv2 hs2;refine aC aee rfl ?_;simp (disch:=omega) only[go_sem,simprocAttr,Wq]
 with_reducible refine aj ?_
 simp (disch:=omega) only[go_sem,simprocAttr,wid,i1,i2,r1.all,r2.all,Wu,CS.av];rw[bF];generalize hh:Tr.set h n _=h1;have u1:Up h n h1 (n+1):=by rw[<-hh];exact aH
 have q1:h1.get n=some (.row 109 (CB party cv sv tv)):=by rw[<-hh];exact aF
 clear hh;have a1:=a.up u1
 with_reducible refine Ra (K+4) (a1.cons _ (List.mem_of_getElem? hv1)) (a1.cons _ (List.mem_of_getElem? hv2)) a.ok a.ho a.hu λh2 n2 u2=>?_
 have e2:=u2.le;have q2:=(u2.old n (by omega)).trans q1;have yH:=u1.trans u2;have a2:=a.up yH;have hS1:(dD.map (·.2))[j]?=some s1.2:=by rw[List.getElem?_map,hs1];rfl
 have hS2:(dD.map (·.2))[j+1]?=some s2.2:=by rw[List.getElem?_map,hs2];rfl
 obtain⟨g1,g2,g3,g4⟩:=a.run.step j t s1.2 ht hS1;rw[hS2]at g4;have g5:=Option.some.inj g4;have so:=a.oks _ (List.mem_of_getElem? hs1);have sm1:=List.mem_of_getElem? hs1;have sm2:=List.mem_of_getElem? hs2;have so2:=a.oks _ sm2;have ok1:=ay.ok so2.con;have:=so2.lh;have:=so2.lu;have:=so2.lm;have:=ok1.dJ;have:=ok1.iX;have:=ok1.jm;simp (disch:=omega) only[go_sem,simprocAttr]
 with_reducible refine aj ?_
 simp (disch:=omega) only[go_sem,simprocAttr,q2,wid,i1,i3,i5,yH.old,r1.all,r3.all,r5.hd,Wu,CS.av,QJ,TS.av];rw[bF];have u2n:Up h n h2 (n2+2):=yH.wk (by omega);have a2n:=a.up u2n
 with_reducible refine oK K (a2n.cons _ (List.mem_of_getElem? hv1)) a.ho (a2n.uN _ sm1) t (λe=>?_) (λ_ _ _ e=>?_) (λ_ _ _ _ tv3 h3 n3 u3 k3=>?_)
 .exact absurd e (by rw[(bR C s1.2).2 so];simp;omega)
 .omega
 have e3:=u3.le;have q3:=(u3.old n (by omega)).trans q2;have zn:=u2n.trans u3;rw[g5.symm]at k3⊢;simp (disch:=omega) only[go_sem,simprocAttr,TS.av];generalize hh:Tr.set (Tr.set h3 n2 _) n2 _=h4;have u4:Up h n h4 n3:=by rw[<-hh];exact Up.st (Up.st zn _ _ (by omega)) _ _ (by omega)
 have q4:h4.get n2=some (.row 77 (tv3.av s2.2)):=by rw[<-hh];exact aF
 have q5:h4.get n=some (.row 109 (CB party cv sv tv)):=by rw[<-hh,au (by omega),au (by omega)];exact q3
 have k4:=((k3.set (b:=n2) (o:=.row 77 [.i .i64 0,.k 1,.k 1,.k 1]) (.inl (by omega)) (Nat.le_refl _)).set (b:=n2) (o:=.row 77 (tv3.av s2.2)) (.inl (by omega)) (Nat.le_refl _));rw[show Tr.set (Tr.set h3 n2 (.row 77 [.i .i64 0,.k 1,.k 1,.k 1])) n2 (.row 77 (tv3.av s2.2))=h4 from hh]at k4;clear hh k3
 with_reducible refine aj ?_
 simp (disch:=omega) only[go_sem,simprocAttr,q4,q5,i4,u4.old,r4.all,QJ,TS.av];rw[bF]
 with_reducible refine zi (K+6) k4.use ((a.up u4).uN _ sm2) (by omega) (by omega) (by omega) λh5 n5 u5=>?_
 rw[yw rfl];simp (disch:=omega) only[go_sem,simprocAttr];exact hQ _ _ (u4.trans u5)
end
end
end
section
noncomputable section
section
variable {h h':AH} {n n':Nat} {C:ay} {v v':CS} {Q:AV->AH->Nat->Prop} {cv sv tv:AV} {vs:List CS} {dD:List (TS×aI)} {l:List Int} {party:Int}
@[reducible] def M6 (k:Int) (v:CS) (C:ay) (b:Bool) (tf:TS) (f:aN) (tt:TS) (t:aN):List AV:=[.i .i64 k,.i .i64 C.aD,v.h,v.u,v.a,v.k,.i .i64 C.days,v.o,.b b,.i .i64 f.st.day,tf.h,tf.u,tf.m,.b f.own,.i .i64 t.st.day,tt.h,tt.u,tt.m,.b t.own]
@[reducible] def z19:List AV:=[.i .i64 0,.i .i64 0,.k 1,.k 1,.k 1,.k 1,.i .i64 0,.k 1,.b false,.i .i64 0,.k 1,.k 1,.k 1,.b false,.i .i64 0,.k 1,.k 1,.k 1,.b false]
theorem Rb(K:Nat){h0:AH}{B:Nat}(a0:Ew h0 B C cv sv tv vs dD l)(u0:Up h0 B h n)(hp:0<=party){k:Nat}(hk:k<l.length){x y:TS×aI}{t:Int}(hx:dD[k]?=some x)(hy:dD[k+1]?=some y)(ht:l[k]?=some t)
 (hQ:∀w tq h' n',w∈vs->Up h n h' n'->Kp (λy=>B<=y/\y<n) h' n' (λh n=>bI h n tq (C.decide party x.2 y.2 t).st)->Q (.agg (M6 k w C (decide (k=0)) x.1 ⟨x.2,true⟩ tq (C.decide party x.2 y.2 t))) h' n'):CW (EF (K+10)) 122 [.agg (CB party cv sv tv),.i .i64 (k:Nat)] h n Q:=by
 have a:=a0.up u0;have hrl:=a.run.len;have hvl:=a.len;have hl:=a.hl;rw[List.length_map]at hrl;obtain⟨b1,o1,v1,i1,hv1,hb1,r1⟩:=a.con.dL (k:=(k:Nat)) (by omega) (by omega) (by omega);obtain⟨b3,o3,s1,i3,hs1,hb3,r3⟩:=a.NA.dL (k:=(k:Nat)) (by omega) (by omega) (by omega);obtain⟨b5,o5,t',i5,ht',hb5,r5⟩:=a.Jp.dL (k:=(k:Nat)) (by omega) (by omega) (by omega);rw[show((k:Nat):Int).toNat=k by omega]at hv1 hs1 ht';rw[hx]at hs1;cases hs1;rw[ht]at ht';cases ht';have hS1:(dD.map (·.2))[k]?=some x.2:=by rw[List.getElem?_map,hx];rfl
 have hS2:(dD.map (·.2))[k+1]?=some y.2:=by rw[List.getElem?_map,hy];rfl
 obtain⟨g1,g2,g3,g4⟩:=a.run.step k t x.2 ht hS1;rw[hS2]at g4;have g5:=Option.some.inj g4;have xm:=List.mem_of_getElem? hx;have vm:=List.mem_of_getElem? hv1;have so:=a.oks _ xm;have kx:∀h' n',Up h n h' n'->Kp (λy=>B<=y/\y<n) h' n' (λh n=>bI h n x.1 x.2):=λh' n' u=>by
  have s:=a0.uN _ xm;have kp:∀{α:Type}{w:Nat}{v:AV}{c:α->List AV}{l:List α},SL h0 B w v c l->Kp (λy=>B<=y/\y<n) h' n' (λh n=>SL h n w v c l):=λs=>(s.up (u0.trans u)).kp λz hz e=>by have:=s.fK hz;omega
  exact((kp s.ah).and ((kp s.used).and (kp s.marks))).wk λh n ⟨a,b,c⟩=>⟨a,b,c⟩
 refine aC aeb rfl ?_;simp (disch:=omega) only[go_sem,simprocAttr,Cy,aJ i3,r3.all,QJ,TS.av];generalize hh:Tr.set (Tr.set _ (n+1+1) _) (n+1+1) _=h1;have u1:Up h n h1 (n+3):=by rw[<-hh];exact aH
 have q2:h1.get n=some (.row 109 (CB party cv sv tv)):=by rw[<-hh];simp (disch:=omega) only[go_sem]
 have q5:h1.get (n+1+1)=some (.row 77 (x.1.av x.2)):=by rw[<-hh];exact aF
 have q4:h1.get (n+1)=some (.row 191 z19):=by rw[<-hh];simp (disch:=omega) only[go_sem]
 have q4:h1.get (n+1)=some (.row 191 z19):=by rw[<-hh];simp (disch:=omega) only[go_sem]
 clear hh;have fin:∀(h2:AH)(n2:Nat)(F:Fm),Up h n h2 n2->n+4<=n2->h2.get n=some (.row 109 (CB party cv sv tv))->h2.get (n+1+1)=some (.row 77 (x.1.av x.2))->h2.get (n+1)=some (.row 191 z19)->h2.get (n+3)=some (.row 191 (M6 k v1 C (decide (k=0)) x.1 ⟨x.2,true⟩ x.1 ⟨x.2,false⟩))->F=[(0,.agg (CB party cv sv tv)),(1,.i .i64 (k:Nat)),(2,.p n 0),(4,.p (n+1) 0),(5,.p (n+1+1) 0),(6,.p (n+3) 0),(7,.i .i64 t)]->
  SM Tryz.prog Y0 122 [.c Cy.b.b.b.b.a.a,.c Cy.b.b.b.b.a.b,.c Cy.b.b.b.b.b] .bX (EF (K+9)) h2 n2 F (Kn [.c 4 (some 19)] Q):=by
  rintro h2 n2 _ u2 l2 p2 p5 p4 p6 rfl;have a2:=a.up u2;have non:∀h3 n3,Up h n h3 n3->C.decide party x.2 y.2 t=⟨x.2,false⟩->Q (.agg (M6 k v1 C (decide (k=0)) x.1 ⟨x.2,true⟩ x.1 ⟨x.2,false⟩)) h3 n3:=λh3 n3 u e=>by rw[<-e];exact hQ _ _ _ _ vm u (by rw[e];exact kx _ _ u)
  simp (disch:=omega) only[go_sem,simprocAttr,MC.a,MC.b,Cy]
  with_reducible refine aj ?_
  by_cases ht0:0<=t
  .obtain⟨act,hact⟩:∃act,C.acts[t.toNat]?=some act:=⟨C.acts[t.toNat]'(by omega),List.getElem?_eq_getElem _⟩
   have hdo:C.doer x.2 t=bC x.2.ah act:=by unfold ay.doer;rw[hact]
   simp (disch:=omega) only[go_sem,simprocAttr,p2,p5,p6,TS.av,decide_eq_true ht0];rw[bF]
   with_reducible refine Ky (K+1) (a2.cons _ vm) a.ho (a2.uN _ xm) ((bR C x.2).2 so) ht0 hact λh3 n3 u3=>?_
   have e3:=u3.le;have zn:=u2.trans u3;have r2:=(u3.old _ (show n<n2 by omega)).trans p2;have r5':=(u3.old _ (show n+1+1<n2 by omega)).trans p5;have r6:=(u3.old _ (show n+3<n2 by omega)).trans p6;have r4:=(u3.old _ (show n+1<n2 by omega)).trans p4;by_cases hd:C.doer x.2 t=party
   .simp (disch:=omega) only[go_sem,simprocAttr,p2,r2,r5',r6,TS.av,decide_eq_true (hdo.symm.trans hd)]
    rw[aR]
    with_reducible refine oK (K+1) (((a.up zn).cons _ vm)) a.ho ((a.up zn).uN _ xm) t (λe=>?_) (λ_ _ _ e=>?_) (λ_ _ _ _ tq h4 n4 u4 k4=>?_)
    .exact absurd e (by rw[(bR C x.2).2 so];simp;omega)
    .omega
    have e4:=u4.le;have s6:=(u4.old _ (show n+3<n3 by omega)).trans r6;have s4:=(u4.old _ (show n+1<n3 by omega)).trans r4;have ZY:=zn.trans u4;simp (disch:=omega) only[go_sem,simprocAttr,TS.av,s6,s4];have hdec:C.decide party x.2 y.2 t=⟨C.aU x.2 t,true⟩:=by unfold ay.decide;rw[if_pos ⟨ht0,hd⟩,g5]
    refine(show∀a,C.decide party x.2 y.2 t=a->(∀w tq h' n',w∈vs->Up h n h' n'->Kp (λy=>B<=y/\y<n) h' n' (λh n=>bI h n tq a.st)->Q (.agg (M6 k w C (decide (k=0)) x.1 ⟨x.2,true⟩ tq a)) h' n')fromλa e=>by rw[<-e];exact hQ) _ hdec v1 tq _ _ vm (Up.st (Up.st (Up.trans ZY aH) _ _ (by omega)) _ _ (by omega)) ?_;exact((((k4.set (m:=n4) (.inr (Nat.le_refl _)) (Nat.le_refl _)).set (m:=n4+1) (.inr (Nat.le_refl _)) (Nat.le_succ _)).set (.inl (by omega)) (Nat.le_refl _)).set (.inl (by omega)) (Nat.le_refl _)).le λz _ hz=>by omega
   .simp (disch:=omega) only[go_sem,simprocAttr,p2,r2,r6,r4,decide_eq_false (λe=>hd (hdo.trans e))]
    refine non _ _ (Up.st zn _ _ (by omega)) (if_neg λe=>hd e.2)
  .simp (disch:=omega) only[go_sem,simprocAttr,p6,p4,decide_eq_false ht0]
   exact non _ _ (Up.st u2 _ _ (by omega)) (if_neg λe=>ht0 e.1)
 with_reducible refine aj ?_
 have z0:decide (((0:Nat):Int)=0)=true:=rfl;rcases k with _|k
 .replace i1:dL 7 (some cv) (some (.i .i64 0))=_:=i1
  replace i5:dL 1 (some tv) (some (.i .i64 0))=_:=i5;simp (disch:=omega) only[go_sem,simprocAttr,q2,q5,i1,aJ i5,u1.old,r1.all,r5.hd,Wu,CS.av,TS.av,z0];refine fin _ _ _ (by have u:=u1;exact Up.trans u aH) (by omega) ?_ ?_ ?_ aF rfl<;>(rw[au (by omega),au (by omega)];assumption)
 .simp (disch:=omega) only[go_sem,simprocAttr,q2,q5,i1,i5,u1.old,r1.all,r5.hd,Wu,CS.av,TS.av,decide_eq_false (show¬((k+1:Nat):Int)=0 by omega)]
  rw[bF]
  with_reducible refine Jy K (a.up (u1.wk (show n+3<=n+3+2 by omega))) hk λh2 n2 u2=>?_
  have e2:=u2.le;have q2':=(u2.old _ (show n<n+3+2 by omega)).trans q2;have q5':=(u2.old _ (show n+1+1<n+3+2 by omega)).trans q5;have q4':=(u2.old _ (show n+1<n+3+2 by omega)).trans q4;have yH:=u1.trans (Up.trans aH u2);simp (disch:=omega) only[go_sem,simprocAttr,q2,q5,q2',q5',i1,aJ i5,yH.old,u1.old,r1.all,r5.hd,Wu,CS.av,TS.av];refine fin _ _ _ (Up.st (Up.st yH _ _ (by omega)) _ _ (by omega)) (by omega) ?_ ?_ ?_ aF rfl<;>(rw[au (by omega),au (by omega)];assumption)
end
end
end
section
noncomputable section
@[reducible] def Ey (s:Int×AV):List AV:=[.i .i64 s.1,s.2]
theorem aen{w b lo o m c:Nat}(h1:1<=m)(h2:m<=c):Vo w (some (.sl b lo o m (some c))) (some (some 1)) (some none)=some (.sl b 0 (bc (Nat.beq c 1) o (Nat.add o (Nat.mul 1 w))) (m - 1) (some (c - 1))):=by
 show bnd (wK (some 1) 0) (λa=>bnd (wK none m) λz=>bc (Nat.ble a z) _ none)=_;show bc (Nat.ble 1 m) (bc (Nat.ble m c) _ none) none=_;rw[Nat.ble_eq_true_of_le h1,bD,Nat.ble_eq_true_of_le h2,bD];rfl
theorem aeo{h:AH}{n w:Nat}{v:AV}{α:Type}{c:α->List AV}{l:List α}(s:SL h n w v c l)(h1:1<=l.length):∃y m,Vo w (some v) (some (some 1)) (some none)=some y/\GA (some y)=some (.i .i64 m)/\pO y=some [y]:=by
 rcases s.2 with⟨_,e1,_⟩|⟨x,lo,o,cp,rfl,e2,e3,e4,e6⟩|⟨a,cc,_,e1,_⟩
 .omega
 .cases cp with
  |some c=>exact⟨_,_,aen h1 (e6 c rfl),rfl,rfl⟩
  |none=>
   have e:Vo w (some (.sl x lo o l.length none)) (some (some 1)) (some none)=bc (Nat.ble 2 l.length) (some (.sl x (Nat.add lo 1) (Nat.add o (Nat.mul 1 w)) (Nat.sub l.length 1) none)) (some (.es ⟨0,0,none⟩ 0)):=by
    show bnd (wK (some 1) 0) (λa=>bnd (wK none l.length) λz=>bc (Nat.ble a z) _ none)=_;show bc (Nat.ble 1 l.length) (bc (Nat.ble l.length l.length) _ none) none=_;rw[Nat.ble_eq_true_of_le h1,bD,Nat.ble_eq_true_of_le (Nat.le_refl _),bD];rfl
   rw[e];cases Nat.ble 2 l.length with
   |true=>exact⟨_,_,rfl,rfl,rfl⟩
   |false=>exact⟨_,_,rfl,rfl,rfl⟩
 .omega
section
variable {h h':AH} {n n':Nat} {C:ay} {v v':CS} {Q:AV->AH->Nat->Prop} {cv sv tv rv:AV} {vs:List CS} {dD:List (TS×aI)} {l:List Int} {party:Int} {rs:List (TS×dU)} {ss:List (Int×AV)}
theorem UA(K:Nat){lb e:Nat}(hb:h.get lb=some (.row e [sv]))(hn:lb<n)(hS:SL h n 2 sv Ey ss)(hl:ss.length<=1000000)
 (jV:ss=[]->∀h' n',Up h n h' n'->Q (.bJ [.agg [.i .i64 0,.k 1],.b false]) h' n')
 (rQ:∀s r,ss=s::r->∀lv m h' n',n<=n'->(∀x,x<n->x≠lb->h'.get x=h.get x)->h'.get lb=some (.row e [lv])->GA (some lv)=some (.i .i64 m)->pO lv=some [lv]->Q (.bJ [.agg (Ey s),.b true]) h' n'):CW (EF (K+1)) 67 [.p lb 0] h n Q:=by
 refine aC ad6 rfl ?_;simp (disch:=omega) only[go_sem,simprocAttr,Wd,hb,hS.len];by_cases h0:ss.length=0
 .simp (disch:=omega) only[go_sem,simprocAttr,decide_eq_true (show((ss.length:Nat):Int)=0 by omega)]
  exact jV (List.length_eq_zero_iff.1 h0) _ _ aH
 .obtain⟨b1,o1,s,i1,hs,hb1,rd⟩:=hS.dL (k:=0) (by omega) (by omega) (by omega)
  have hss:∃r,ss=s::r:=by
   cases ss with
   |nil=>simp at h0
   |cons a r=>simp at hs;exact⟨r,by rw[hs]⟩
  obtain⟨r,hss⟩:=hss;have hd:decide (((ss.length:Nat):Int)=0)=false:=decide_eq_false (by omega);obtain⟨y,m,y1,y2,y3⟩:=aeo hS (by omega);simp (disch:=omega) only[go_sem,simprocAttr,hd,aJ i1,rd.all,Ey,hb,y1];rw[y3];simp (disch:=omega) only[go_sem,simprocAttr];refine rQ s r hss y m _ _ (by omega) (λx hx hne=>?_) ?_ y2 y3
  .simp (disch:=omega) only[go_sem]
  .simp (disch:=omega) only[go_sem]
theorem M7(K:Nat){k:Int}{b:Bool}{tf tt:TS}{f t:aN}{dp:Int}(hC:aY h n v C)(ho:C.off.length<=1000000)(hR:iJ h n 7 rv Eo rs)(hl:rs.length<=1000000)(hsr:∀x∈rs,x.2.pos.st.ah.length<=1000000/\x.2.pos.st.used.length<=1000000/\x.2.pos.st.marks.length<=1000000)(hT:bI h n tt t.st)(hd:¬bM C party t)
 (hQ:∀h' n',Up h n h' n'->Q (.b false) h' n'):CW (EF (K+17)) 71 [.agg (CB party cv sv tv),.agg (M6 k v C b tf f tt t),.agg [.i .i64 dp,rv]] h n Q:=by
 refine aC ad_ rfl ?_;simp (disch:=omega) only[go_sem,simprocAttr,Wm];by_cases hp:dp=party
 .subst hp
  simp (disch:=omega) only[go_sem,simprocAttr,decide_eq_true (rfl:dp=dp)];generalize hh:Tr.set (Tr.set (Tr.set h n _) _ _) _ _=h1;have u1:Up h n h1 (n+3):=by rw[<-hh];exact aH
  have q4:h1.get (n+1)=some (.row 191 (M6 k v C b tf f tt t)):=by rw[<-hh];simp (disch:=omega) only[go_sem]
  have q5:h1.get (n+1+1)=some (.row 49 [.i .i64 dp,rv]):=by rw[<-hh];exact aF
  clear hh;rw[aR]
  with_reducible refine Ep K (hR.up u1) (hC.up u1) ho hl λx h2 n2 u2 hx=>?_
  have e2:=u2.le;have r4:=(u2.old _ (show n+1<n+3 by omega)).trans q4;have r5:=(u2.old _ (show n+1+1<n+3 by omega)).trans q5;have yH:=u1.trans u2;cases x with
  |false=>
   simp (disch:=omega) only[go_sem,simprocAttr];exact hQ _ _ yH
  |true=>
   have pr:=hx.1 rfl;simp (disch:=omega) only[go_sem,simprocAttr,r4,r5];rw[aR];have u3:Up h2 n2 (Tr.set h2 n2 (.row 114 (tt.pv t))) (n2+1):=by exact aH
   have zn:=yH.trans u3;have sw:SL (Tr.set h2 n2 (.row 114 (tt.pv t))) (n2+1) 5 (.sl n2 0 0 1 (some 1)) pJ [(tt,t)]:=(Gr.all (e:=114) (b:=n2) (c:=pJ) (l:=[(tt,t)]) (λ_=>rfl) (by omega) aF rfl).sl
   with_reducible refine jO (K+12) (rs:=rs) (rv:=rv) (party:=dp) (Or.inr ⟨rfl,rfl,rfl⟩) hl ((u3.old _ (by omega)).trans r5) (by omega) (hR.up zn) sw (λx hx=>by simp at hx;subst hx;exact hT.up zn) (by simp) hsr λx h4 n4 u4 hx=>?_
   have hx:x=false:=by
    cases x with
    |false=>rfl
    |true=>exact absurd (pr.XI (hx.1 rfl (tt,t) (by simp))) hd
   subst hx;simp (disch:=omega) only[go_sem,simprocAttr];exact hQ _ _ (zn.trans u4)
 .simp (disch:=omega) only[go_sem,simprocAttr,decide_eq_false hp]
  exact hQ _ _ aH
theorem Jz(K:Nat)(hQ:∀rb h' n',Up h n h' n'->h'.get rb=some (.row 109 (CB party cv sv tv))->n<=rb->rb<n'->Q (.f 121 [.p rb 0]) h' n'):CW (EF (K+1)) 68 [.agg (CB party cv sv tv)] h n Q:=by
 refine aC ad7 rfl ?_;simp (disch:=omega) only[go_sem,simprocAttr,Wh];exact hQ n _ _ aH aF (Nat.le_refl _) (by omega)
theorem UC(K:Nat){h0:AH}{B rb yr:Nat}(J:AH->Nat->Nat->Prop)(E:AH->Nat->Prop)(a0:Ew h0 B C cv sv tv vs dD l)(hp:0<=party)(j0:J h n 0)
 (KI:∀h n k,J h n k->Up h0 B h n/\h.get rb=some (.row 109 (CB party cv sv tv))/\rb<n)
 (step:∀(k:Nat)(x y:TS×aI)(t:Int)(w:CS)(tq:TS) h1 n1 h2 n2,dD[k]?=some x->dD[k+1]?=some y->l[k]?=some t->w∈vs->J h1 n1 k->Up h1 n1 h2 n2->Kp (λy=>B<=y/\y<n1) h2 n2 (λh n=>bI h n tq (C.decide party x.2 y.2 t).st)->
  RW (Y0 yr [.agg (M6 k w C (decide (k=0)) x.1 ⟨x.2,true⟩ tq (C.decide party x.2 y.2 t))] (EF (K+10)) h2 n2) λu h3 n3=>∃b,u= .b b/\(b=true->J h3 n3 (k+1))/\(b=false->E h3 n3))
 (hQ:∀h' n',J h' n' l.length->Q (.bJ []) h' n')(hE:∀h' n',E h' n'->Q (.bJ []) h' n'):CW (EF (K+11)) 121 [.y yr,.p rb 0] h n Q:=by
 obtain⟨u0,g0,l0⟩:=KI _ _ _ j0;have hrl:=a0.run.len;have hl:=a0.hl;rw[List.length_map]at hrl;refine aC aea rfl ?_;simp (disch:=omega) only[go_sem,simprocAttr,Wn,g0,(a0.up u0).Jp.len];refine bP l.length (λk h' n' G=>J h' n' k/\G=[(0,.y yr),(1,.p rb 0)]) (by omega) (by omega) (by omega) (by omega) (λk h8 n8 G ⟨_,e⟩=>by subst e;exact⟨rfl,rfl⟩) ⟨rfl,rfl,_,⟨j0,rfl⟩,by(repeat' (first|exact aO|refine aM rfl ?_))⟩ ?_ ?_
 .rintro k h1 n1 G hk ⟨j1,rfl⟩
  obtain⟨u1,g1,l1⟩:=KI _ _ _ j1;have hx:dD[k]?=some (dD[k]'(by omega)):=List.getElem?_eq_getElem _;have hy:dD[k+1]?=some (dD[k+1]'(by omega)):=List.getElem?_eq_getElem _;have ht:l[k]?=some (l[k]'(by omega)):=List.getElem?_eq_getElem _;simp (disch:=omega) only[go_sem,simprocAttr,g1];rw[aR]
  with_reducible refine Rb K a0 u1 hp hk hx hy ht λw tq h2 n2 hw u2 k2=>?_
  simp (disch:=omega) only[go_sem,simprocAttr];rw[sI];refine RW.mono (step k _ _ _ w tq _ _ _ _ hx hy ht hw j1 u2 k2) ?_;rintro _ h3 n3 ⟨b,rfl,hb1,hb2⟩;cases b with
  |true=>
   simp (disch:=omega) only[go_sem,simprocAttr];exact⟨rfl,rfl,_,⟨hb1 rfl,rfl⟩,by(repeat' (first|exact aO|refine aM rfl ?_))⟩
  |false=>
   simp (disch:=omega) only[go_sem,simprocAttr];exact hE _ _ (hb2 rfl)
 .rintro h1 n1 G ⟨j1,rfl⟩
  simp (disch:=omega) only[go_sem,simprocAttr];exact hQ _ _ j1
theorem CF(K:Nat){dp:Int}(hQ:∀sb h' n',Up h n h' n'->h'.get sb=some (.row 59 [.i .i64 dp,rv])->n<=sb->sb<n'->Q (.f 124 [.p sb 0]) h' n'):CW (EF (K+1)) 70 [.agg [.i .i64 dp,rv]] h n Q:=by
 refine aC ad9 rfl ?_;simp (disch:=omega) only[go_sem,simprocAttr,Wj];exact hQ n _ _ aH aF (Nat.le_refl _) (by omega)
end
end
end
section
noncomputable section
abbrev Wx(x:TS×dU):Prop:=x.2.pos.st.ah.length<=1000000/\x.2.pos.st.used.length<=1000000/\x.2.pos.st.marks.length<=1000000
structure Rc(h:AH)(n:Nat)(iy drv:AV)(ss:List (Int×AV))(ds:List (TS×dU)):Prop where
 sl:SL h n 2 iy Ey ss
 len:ss.length<=1000000
 sh:∀s∈ss,∃rs,iJ h n 6 s.2 A_ rs/\rs.length<=1000000/\∀x∈rs,x.2.rank=0/\Wx x
 d:iJ h n 7 drv Eo ds
 dl:ds.length<=1000000
 ds:∀x∈ds,Wx x
theorem Rc.up{h h':AH}{n n':Nat}{iy drv:AV}{ss:List (Int×AV)}{ds:List (TS×dU)}(a:Rc h n iy drv ss ds)(u:Up h n h' n'):Rc h' n' iy drv ss ds:=
 ⟨a.sl.up u,a.len,λs hs=>let⟨rs,e1,e2⟩:=a.sh s hs;⟨rs,e1.up u,e2⟩,a.d.up u,a.dl,a.ds⟩
@[reducible] def Ez (tv:AV) (at_:Int) (iy:AV) (dp:Int) (drv:AV):List AV:=[tv,.i .i64 at_,iy,.i .i64 dp,drv]
@[reducible] def fpA (tf:TS) (f:aN) (tt:TS) (t:aN):List AV:=[.i .i64 f.st.day,tf.h,tf.u,tf.m,.b f.own,.i .i64 t.st.day,tt.h,tt.u,tt.m,.b t.own]
def lH(st:LoopState)(pd:Option Code)(t:Tr AV):AO:=.lp st pd 35 t [26] (gW 35 0) (gX 35 0)
structure uQ(h:AH)(n:Nat)(cv sv tv tw:AV)(party at_:Int)(iy:AV)(dp:Int)(drv:AV)(rb L:Nat)(first:Bool)(o:AO)(h':AH)(n':Nat):Prop where
 u:Up h n h' n'
 r2:h'.get n=some (.row 109 (CB party cv sv tv))
 r3:h'.get (n+1)=some (.row 51 (Ez tw at_ iy dp drv))
 r4:h'.get (n+1+1)=some (.row 4 [.b false])
 r5:∃lv m,h'.get (n+3)=some (.row 46 [lv])/\GA (some lv)=some (.i .i64 m)/\pO lv=some [lv]/\(first=true->lv=iy)
 r6:h'.get (n+4)=some (.row 186 [.f 67 [.p (n+3) 0]])
 r7:∃sp Gm rs,h'.get (n+5)=some (.row 59 [.i .i64 sp,Gm])/\iJ h n 6 Gm A_ rs/\rs.length<=1000000/\∀x∈rs,x.2.rank=0/\Wx x
 r8:h'.get rb=some (.row 109 (CB party cv sv tv))
 l:h'.get L=some o
 b1:n+6<=rb
 b2:rb<L
 b3:L<n'
def MC.t:MC->MC
 | .cond _ a _=>a
 |m=>m
def MC.i:MC->MC
 | .blk _ a=>a
 |m=>m
theorem ak3{Y:YT}{S:SK}{q:FuncId}{cap:List AV}{d:MD}{r:List MR}{l:List AV}{s:List It}{f:FT}{h:AH}{n:Nat}{F:Fm}{Q:PQ}:kF Y S (some (.f q cap)) (some []) d r l s f h n F Q=CW f q cap h n λv h n=>mG S d v r l s f h n F Q:=rfl
section
variable {h h' h3 h4:AH} {n n' n3 n4:Nat} {cv sv tv tw iy drv:AV} {party at_ dp:Int} {rb L:Nat} {f:Bool} {o:AO}
theorem uQ.up(j:uQ h n cv sv tv tw party at_ iy dp drv rb L f o h3 n3)(u:Up h3 n3 h4 n4):uQ h n cv sv tv tw party at_ iy dp drv rb L f o h4 n4:=by
 obtain⟨u0,r2,r3,r4,⟨lv,m,e1,e2,e3,e4⟩,r6,⟨sp,Gm,rs,e5,e6,e7⟩,r8,l,b1,b2,b3⟩:=j;have:=u.le;exact⟨u0.trans u,(u.old _ (by omega)).trans r2,(u.old _ (by omega)).trans r3,(u.old _ (by omega)).trans r4,⟨lv,m,(u.old _ (by omega)).trans e1,e2,e3,e4⟩,(u.old _ (by omega)).trans r6,⟨sp,Gm,rs,(u.old _ (by omega)).trans e5,e6,e7⟩,(u.old _ (by omega)).trans r8,(u.old _ (by omega)).trans l,b1,b2,by omega⟩
theorem uQ.sQ(j:uQ h n cv sv tv tw party at_ iy dp drv rb L f o h3 n3)(o':AO):uQ h n cv sv tv tw party at_ iy dp drv rb L f o' (h3.set L o') n3:=by
 obtain⟨u0,r2,r3,r4,⟨lv,m,e1,e2,e3,e4⟩,r6,⟨sp,Gm,rs,e5,e6,e7⟩,r8,l,b1,b2,b3⟩:=j;exact⟨Up.st u0 _ _ (by omega),by rw[au (by omega)];exact r2,by rw[au (by omega)];exact r3,by rw[au (by omega)];exact r4,⟨lv,m,by rw[au (by omega)];exact e1,e2,e3,e4⟩,by rw[au (by omega)];exact r6,⟨sp,Gm,rs,by rw[au (by omega)];exact e5,e6,e7⟩,by rw[au (by omega)];exact r8,aF,b1,b2,b3⟩
theorem uQ.ak4(j:uQ h n cv sv tv tw party at_ iy dp drv rb L f o h3 n3):uQ h n cv sv tv tw party at_ iy dp drv rb L f o (h3.set (n+1+1+1+1+1) (.row 59 [.i .i64 0,.k 1])) n3:=by
 obtain⟨u0,r2,r3,r4,⟨lv,m,e1,e2,e3,e4⟩,r6,_,r8,l,b1,b2,b3⟩:=j;exact⟨Up.st u0 _ _ (by omega),by rw[au (by omega)];exact r2,by rw[au (by omega)];exact r3,by rw[au (by omega)];exact r4,⟨lv,m,by rw[au (by omega)];exact e1,e2,e3,e4⟩,by rw[au (by omega)];exact r6,⟨0,.k 1,[],aF,⟨SL.nil λ_=>rfl,λx hx=>by cases hx⟩,by simp,λx hx=>by cases hx⟩,by rw[au (by omega)];exact r8,by rw[au (by omega)];exact l,b1,b2,b3⟩
theorem uQ.JA(j:uQ h n cv sv tv tw party at_ iy dp drv rb L f o h3 n3):uQ h n cv sv tv tw party at_ iy dp drv rb L f o (h3.set (n+1+1) (.row 4 [.b false])) n3:=by
 obtain⟨u0,r2,r3,r4,⟨lv,m,e1,e2,e3,e4⟩,r6,⟨sp,Gm,rs,e5,e6,e7⟩,r8,l,b1,b2,b3⟩:=j;exact⟨Up.st u0 _ _ (by omega),by rw[au (by omega)];exact r2,by rw[au (by omega)];exact r3,aF,⟨lv,m,by rw[au (by omega)];exact e1,e2,e3,e4⟩,by rw[au (by omega)];exact r6,⟨sp,Gm,rs,by rw[au (by omega)];exact e5,e6,e7⟩,by rw[au (by omega)];exact r8,by rw[au (by omega)];exact l,b1,b2,b3⟩
end
section
variable {h h':AH} {n n':Nat} {C:ay} {Q:AV->AH->Nat->Prop} {cv sv tv tw iy drv:AV} {vs:List CS} {dD:List (TS×aI)} {l:List Int} {party at_ dp:Int} {ss:List (Int×AV)} {ds:List (TS×dU)}
theorem Rf(K:Nat)(a:Ew h n C cv sv tv vs dD l)(c:Rc h n iy drv ss ds)(hp:0<=party)
 (hD:∀(k:Nat)(x y:TS×aI)(t:Int),dD[k]?=some x->dD[k+1]?=some y->l[k]?=some t->¬bM C party (C.decide party x.2 y.2 t))
 (hQ:∀h' n',Up h n h' n'->Q (.b false) h' n'):CW (EF (K+19)) 35 [.agg (CB party cv sv tv),.agg (Ez tw at_ iy dp drv)] h n Q:=by
 refine aC ad5 rfl ?_;repeat' (first|(simp (disch:=omega) only[go_sem,simprocAttr,ub.old,QV,a.Jp.len,c.sl.cl])|(simp (disch:=omega) only[go_sem,simprocAttr,QV,a.Jp.len,c.sl.cl])|(refine aS ?_ ?_<;>(intro hb hd;rw[hb];clear hb))|(with_reducible refine aj ?_))
 .exact hQ _ _ aH
 .exact hQ _ _ aH
 .generalize hh:Tr.set _ (n+1+1+1+1+1) _=h1
  have u1:Up h n h1 (n+6):=by rw[<-hh];exact aH
  have q2:h1.get n=some (.row 109 (CB party cv sv tv)):=by rw[<-hh];simp (disch:=omega) only[go_sem]
  have q3:h1.get (n+1)=some (.row 51 (Ez tw at_ iy dp drv)):=by rw[<-hh];simp (disch:=omega) only[go_sem]
  have q4:h1.get (n+1+1)=some (.row 4 [.b false]):=by rw[<-hh];simp (disch:=omega) only[go_sem]
  have q5:h1.get (n+3)=some (.row 46 [iy]):=by rw[<-hh];simp (disch:=omega) only[go_sem]
  have q6:h1.get (n+4)=some (.row 186 [.f 67 [.p (n+3) 0]]):=by rw[<-hh];simp (disch:=omega) only[go_sem]
  have q7:h1.get (n+5)=some (.row 59 [.i .i64 0,.k 1]):=by rw[<-hh];simp (disch:=omega) only[go_sem]
  clear hh;rw[aR]
  with_reducible refine Jz (K+17) λrb h2 n2 u2 q8 b1 b2=>?_
  have e2:=u2.le;simp (disch:=omega) only[go_sem,simprocAttr];refine oH rfl λt hF=>?_;have j0:uQ h n cv sv tv tw party at_ iy dp drv rb n2 true (lH .ready none t) (h2.set n2 (lH .ready none t)) (n2+1):=by
   have g:∀x,x<n+6->(h2.set n2 (lH .ready none t)).get x=h1.get x:=λx hx=>by rw[au (by omega),u2.old x hx]
   refine⟨Up.trans (u1.trans u2) aH,(g _ (by omega)).trans q2,(g _ (by omega)).trans q3,(g _ (by omega)).trans q4,⟨iy,_,(g _ (by omega)).trans q5,c.sl.len,c.sl.cl,λ_=>rfl⟩,(g _ (by omega)).trans q6,⟨0,.k 1,[],(g _ (by omega)).trans q7,⟨SL.nil λ_=>rfl,λx hx=>by cases hx⟩,by simp,λx hx=>by cases hx⟩,by rw[au (by omega)];exact q8,aF,by omega,by omega,by omega⟩
  refine UC (K+7) (B:=n) (h0:=h) (λh' n' k=>uQ h n cv sv tv tw party at_ iy dp drv rb n2 (decide (k=0)) (lH .ready none t) h' n') (λh' n'=>∃f,uQ h n cv sv tv tw party at_ iy dp drv rb n2 f (lH .done (some .ret) t) h' n') a hp j0 (λh' n' k j=>⟨j.u,j.r8,by have:=j.b2;have:=j.b3;omega⟩) ?_ ?_ ?_
  .intro k x y tt w tq h3 n3 h4 n4 hx hy ht hw j3 u4 k4
   have u34:=u4.le;have j4:=j3.up u4;refine RW.mono (lV (d:=19) (F:=_) (bs:=[true]) (R:=λb h' n'=>(b=true->uQ h n cv sv tv tw party at_ iy dp drv rb n2 (decide (k+1=0)) (lH .ready none t) h' n')/\(b=false->∃f,uQ h n cv sv tv tw party at_ iy dp drv rb n2 f (lH .done (some .ret) t) h' n')) j4.l hF (by kernel_rfl) rfl QW QX ?_) ?_
   .simp (disch:=omega) only[go_sem,simprocAttr,Gi,Nu]
    generalize hh:Tr.set (Tr.set h4 n4 _) n4 _=h5;have u5:Up h4 n4 h5 (n4+1):=by rw[<-hh];exact aH
    have q5:h5.get n4=some (.row 191 (M6 k w C (decide (k=0)) x.1 ⟨x.2,true⟩ tq (C.decide party x.2 y.2 tt))):=by rw[<-hh];exact aF
    clear hh;have j5:=j4.up u5;refine⟨_,_,_,_,_,_,j5.l,?_⟩;have j6:=j5.sQ (.lp .busy none 35 t [26] (gW 35 0) (gX 35 0));have b3:=j3.b3;have b1':=j3.b1;have b2':=j3.b2;have q6:(h5.set n2 (.lp .busy none 35 t [26] (gW 35 0) (gX 35 0))).get n4=some (.row 191 (M6 k w C (decide (k=0)) x.1 ⟨x.2,true⟩ tq (C.decide party x.2 y.2 tt))):=by rw[au (by omega)];exact q5
    have k6:=(k4.up u5).set (b:=n2) (o:=.lp .busy none 35 t [26] (gW 35 0) (gX 35 0)) (.inl ⟨by omega,by omega⟩) (Nat.le_refl _);generalize h5.set n2 _=h6 at*;clear q5 j5 j4 u5;have bad:∀f h' n',uQ h n cv sv tv tw party at_ iy dp drv rb n2 f (.lp .busy none 35 t [26] (gW 35 0) (gX 35 0)) h' n'->∀F',yQ n2 (λb h' n'=>(b=true->uQ h n cv sv tv tw party at_ iy dp drv rb n2 (decide (k+1=0)) (lH .ready none t) h' n')/\(b=false->∃f,uQ h n cv sv tv tw party at_ iy dp drv rb n2 f (lH .done (some .ret) t) h' n')) .ret h' n' F':=λf h' n' j F'=>
     ⟨_,_,_,_,_,_,_,j.l,λe=>(by cases e),λ_=>⟨f,j.sQ _⟩⟩
    have good:∀h' n',uQ h n cv sv tv tw party at_ iy dp drv rb n2 false (.lp .busy none 35 t [26] (gW 35 0) (gX 35 0)) h' n'->∀F',yQ n2 (λb h' n'=>(b=true->uQ h n cv sv tv tw party at_ iy dp drv rb n2 (decide (k+1=0)) (lH .ready none t) h' n')/\(b=false->∃f,uQ h n cv sv tv tw party at_ iy dp drv rb n2 f (lH .done (some .ret) t) h' n')) .bX h' n' F':=λh' n' j F'=>
     ⟨_,_,_,_,_,_,_,j.l,λ_=>(by rw[decide_eq_false (by omega)];exact j.sQ _),λe=>(by cases e)⟩
    have r2:=j6.r2;have r3:=j6.r3;have r4:=j6.r4;have r6:=j6.r6;obtain⟨lv,m,r5,lvl,lvc,lv1⟩:=j6.r5;obtain⟨sp,Gm,rs,r7,_⟩:=j6.r7;have aep:∀(h7:AH)(n7:Nat)(F:Fm)(bg:Bool),uQ h n cv sv tv tw party at_ iy dp drv rb n2 false (.lp .busy none 35 t [26] (gW 35 0) (gX 35 0)) h7 n7->n4<n7->h7.get n4=some (.row 191 (M6 k w C bg x.1 ⟨x.2,true⟩ tq (C.decide party x.2 y.2 tt)))->bI h7 n7 tq (C.decide party x.2 y.2 tt).st->
     lk F 2=some (.p n 0)->lk F 3=some (.p (n+1) 0)->lk F 4=some (.p (n+1+1) 0)->lk F 5=some (.p (n+1+1+1) 0)->lk F 7=some (.p (n+1+1+1+1+1) 0)->lk F 8=some (.p n4 0)->
     SM Tryz.prog (yl Tryz.prog sl0 19) 35 [.c iQ.i.b.a.b.t.a,.c .ret,.c iQ.i.b.b,.b 1] .bX (EF (K+7+10)) h7 n7 F (yQ n2 λb h' n'=>(b=true->uQ h n cv sv tv tw party at_ iy dp drv rb n2 (decide (k+1=0)) (lH .ready none t) h' n')/\(b=false->∃f,uQ h n cv sv tv tw party at_ iy dp drv rb n2 f (lH .done (some .ret) t) h' n')):=by
     intro h7 n7 F bg j7 ln q7 s7 f2 f3 f4 f5 f7 f8;have r2:=j7.r2;have r3:=j7.r3;have r4:=j7.r4;obtain⟨lv,m,r5,lvl,lvc,lv1⟩:=j7.r5;obtain⟨sp,Gm,rs,r7,hrs,hrl,M8⟩:=j7.r7;simp (disch:=omega) only[go_sem,simprocAttr,MC.a,MC.b,MC.i,MC.t,iQ]
     with_reducible refine aj ?_
     by_cases hm:m=0
     .simp (disch:=omega) only[go_sem,simprocAttr,f5,r5,lvl,decide_eq_true hm,f7,r7]
      have u7:Up h7 n7 h7 (n7+2):=Up.ge (by omega);rw[bF]
      with_reducible refine CF (K+16) λsb h8 n8 u8 q8 c1 c2=>?_
      have e8:=u8.le;have s7':=(u8.old _ (show n4<n7+2 by omega)).trans q7;have j8:=j7.up (u7.trans u8);have r2:=j8.r2;have r3:=j8.r3;have r4:=j8.r4;simp (disch:=omega) only[go_sem,simprocAttr,f8,q7,s7'];rw[bF];have u9:Up h7 n7 (Tr.set h8 n7 (.row 114 (x.1.pv ⟨x.2,true⟩))) n8:=Up.st (u7.trans u8) _ _ (Nat.le_refl _);have q9:(Tr.set h8 n7 (.row 114 (x.1.pv ⟨x.2,true⟩))).get sb=some (.row 59 [.i .i64 sp,Gm]):=by rw[au (by omega)];exact q8
      have sw:SL (Tr.set h8 n7 (.row 114 (x.1.pv ⟨x.2,true⟩))) n8 5 (.sl n7 0 0 1 (some 1)) pJ [(x.1,(⟨x.2,true⟩:aN))]:=(Gr.all (e:=114) (b:=n7) (c:=pJ) (l:=[(x.1,(⟨x.2,true⟩:aN))]) (λ_=>rfl) (by omega) aF rfl).sl;have j9:=j7.up u9;have q79:=(u9.old _ ln).trans q7;generalize Tr.set h8 n7 (.row 114 (x.1.pv ⟨x.2,true⟩))=h9 at*
      with_reducible refine jO (K+13) (rs:=rs) (rv:=Gm) (party:=sp) (Or.inl ⟨rfl,rfl,rfl⟩) hrl q9 c2 (hrs.up j9.u) sw (λz hz=>by simp at hz;subst hz;exact(a.up j9.u).uN _ (List.mem_of_getElem? hx)) (by simp) (λz hz=>(M8 z hz).2) λbc h10 n10 rT _=>?_
      have e10:=rT.le;have j10:=j9.up rT;have ak5:=(rT.old _ (show n4<n8 by omega)).trans q79;have r2:=j10.r2;have r3:=j10.r3;have r4:=j10.r4;cases bc with
      |false=>
       simp (disch:=omega) only[go_sem,simprocAttr,f4,f8,q7,r4];exact bad _ _ _ j10.JA _
      |true=>
       simp (disch:=omega) only[go_sem,simprocAttr,f2,f3,f8,ak5,r2,r3];rw[bF];have s10:=s7.up (u9.trans rT)
       with_reducible refine M7 K (k:=(k:Int)) (b:=bg) (tf:=x.1) (f:=⟨x.2,true⟩) (tt:=tq) (t:=C.decide party x.2 y.2 tt) ((a.up j10.u).cons _ hw) a.ho ((c.up j10.u).d) c.dl c.ds s10 (hD k x y tt hx hy ht) λh11 n11 yx=>?_
       have j11:=j10.up yx;have r4:=j11.r4;simp (disch:=omega) only[go_sem,simprocAttr,f4,f8,q7,r4];exact bad _ _ _ j11.JA _
     .simp (disch:=omega) only[go_sem,simprocAttr,f5,r5,lvl,decide_eq_false hm,f4,r4]
      exact bad _ _ _ ((j7.up (Up.ge (by omega))).JA) _
    have aes:∀(h7:AH)(n7:Nat)(F:Fm)(bg:Bool),uQ h n cv sv tv tw party at_ iy dp drv rb n2 false (.lp .busy none 35 t [26] (gW 35 0) (gX 35 0)) h7 n7->n4<n7->h7.get n4=some (.row 191 (M6 k w C bg x.1 ⟨x.2,true⟩ tq (C.decide party x.2 y.2 tt)))->bI h7 n7 tq (C.decide party x.2 y.2 tt).st->
     lk F 4=some (.p (n+1+1) 0)->lk F 7=some (.p (n+1+1+1+1+1) 0)->lk F 8=some (.p n4 0)->
     SM Tryz.prog (yl Tryz.prog sl0 19) 35 [.c iQ.i.b.b.a,.c iQ.i.b.b.b,.b 1] .bX (EF (K+7+10)) h7 n7 F (yQ n2 λb h' n'=>(b=true->uQ h n cv sv tv tw party at_ iy dp drv rb n2 (decide (k+1=0)) (lH .ready none t) h' n')/\(b=false->∃f,uQ h n cv sv tv tw party at_ iy dp drv rb n2 f (lH .done (some .ret) t) h' n')):=by
     intro h7 n7 F bg j7 ln q7 s7 f4 f7 f8;obtain⟨sp,Gm,rs,r7,hrs,hrl,M8⟩:=j7.r7;simp (disch:=omega) only[go_sem,simprocAttr,MC.a,MC.b,MC.i,MC.t,iQ]
     with_reducible refine aj ?_
     simp (disch:=omega) only[go_sem,simprocAttr,f7,r7];have u7:Up h7 n7 h7 (n7+2):=Up.ge (by omega);rw[bF]
     with_reducible refine CF (K+16) λsb h8 n8 u8 q8 c1 c2=>?_
     have e8:=u8.le;have s7':=(u8.old _ (show n4<n7+2 by omega)).trans q7;simp (disch:=omega) only[go_sem,simprocAttr,f8,q7,s7'];rw[bF];have u9:Up h7 n7 (Tr.set h8 n7 (.row 114 (fpA x.1 ⟨x.2,true⟩ tq (C.decide party x.2 y.2 tt)))) n8:=Up.st (u7.trans u8) _ _ (Nat.le_refl _);have q9:(Tr.set h8 n7 (.row 114 (fpA x.1 ⟨x.2,true⟩ tq (C.decide party x.2 y.2 tt)))).get sb=some (.row 59 [.i .i64 sp,Gm]):=by rw[au (by omega)];exact q8
     have sw:SL (Tr.set h8 n7 (.row 114 (fpA x.1 ⟨x.2,true⟩ tq (C.decide party x.2 y.2 tt)))) n8 5 (.sl n7 0 0 2 (some 2)) pJ [(x.1,(⟨x.2,true⟩:aN)),(tq,C.decide party x.2 y.2 tt)]:=(Gr.all (e:=114) (b:=n7) (c:=pJ) (l:=[(x.1,(⟨x.2,true⟩:aN)),(tq,C.decide party x.2 y.2 tt)]) (λ_=>rfl) (by omega) aF rfl).sl;have j9:=j7.up u9;have s9:=s7.up u9;have s9':=(a.up j9.u).uN _ (List.mem_of_getElem? hx)
     with_reducible refine jO (K+13) (rs:=rs) (rv:=Gm) (party:=sp) (Or.inl ⟨rfl,rfl,rfl⟩) hrl q9 c2 (hrs.up j9.u) sw (λz hz=>by simp at hz;rcases hz with e|e<;>subst e;exact s9';exact s9) (by simp) (λz hz=>(M8 z hz).2) λbc h10 n10 rT _=>?_
     have j10:=j9.up rT;have r4:=j10.r4;cases bc with
     |false=>
      simp (disch:=omega) only[go_sem,simprocAttr,fM,f4,f8,q7,s7',r4];exact bad _ _ _ j10.JA _
     |true=>
      simp (disch:=omega) only[go_sem,simprocAttr,fM,f4,f8,q7,s7',r4];exact good _ _ j10 _
    by_cases k0:k=0
    .have hk0:decide (k=0)=true:=decide_eq_true k0
     rw[hk0]at q6;simp (disch:=omega) only[go_sem,simprocAttr,iQ,q6,r6];rw[ak3];have hlv:lv=iy:=lv1 hk0;subst hlv
     with_reducible refine UA (K+16) r5 (by omega) (c.up j6.u).sl c.len (λ_ h7 n7 u7=>?_) (λs rr hss lv2 m2 h7 n7 l7 o7 r5' lvl2 ak6=>?_)
     .have j7:=j6.up u7
      obtain⟨sp,Gm,rs,r7,_⟩:=j7.r7;have r4:=j7.r4;simp (disch:=omega) only[go_sem,simprocAttr,r7,r4];exact bad _ _ _ j7.ak4.JA _
     .obtain⟨rs,hrs,hrl,M8⟩:=c.sh s (by rw[hss];simp)
      have b3':=j6.b3;have j7:uQ h n cv sv tv tw party at_ lv dp drv rb n2 false (.lp .busy none 35 t [26] (gW 35 0) (gX 35 0)) (h7.set (n+1+1+1+1+1) (.row 59 (Ey s))) n7:=by
       have g:∀x,x<n4+1->x≠n+3->x≠n+5->(h7.set (n+1+1+1+1+1) (.row 59 (Ey s))).get x=h6.get x:=λx hx h1 h2=>by rw[au (by omega),o7 x hx (by omega)]
       have u6:=j6.u;refine⟨⟨by have:=u6.le;omega,λx hx=>(g x (by omega) (by omega) (by omega)).trans (u6.old x hx)⟩,(g _ (by omega) (by omega) (by omega)).trans j6.r2,(g _ (by omega) (by omega) (by omega)).trans j6.r3,(g _ (by omega) (by omega) (by omega)).trans j6.r4,⟨lv2,m2,by rw[au (by omega)];exact r5',lvl2,ak6,λe=>(by cases e)⟩,(g _ (by omega) (by omega) (by omega)).trans j6.r6,⟨s.1,s.2,rs,aF,hrs,hrl,M8⟩,(g _ (by omega) (by omega) (by omega)).trans j6.r8,(g _ (by omega) (by omega) (by omega)).trans j6.l,j6.b1,j6.b2,by omega⟩
      have g6:∀x,x<n4+1->x≠n+3->h7.get x=h6.get x:=λx hx h1=>o7 x hx (by omega);have q7:(h7.set (n+1+1+1+1+1) (.row 59 (Ey s))).get n4=some (.row 191 (M6 k w C true x.1 ⟨x.2,true⟩ tq (C.decide party x.2 y.2 tt))):=by rw[au (by omega),g6 _ (by omega) (by omega)];exact q6
      have k7:=k6.on (h':=h7.set (n+1+1+1+1+1) (.row 59 (Ey s))) (n':=n7) (by omega) (λz hz hX=>by rw[au (λe=>hX ⟨by omega,by omega⟩),o7 z hz (λe=>hX ⟨by omega,by omega⟩)]);have p7:h7.get (n+5)=some (.row 59 [.i .i64 sp,Gm]):=by rw[g6 _ (by omega) (by omega)];exact r7
      have p2:h7.get n=some (.row 109 (CB party cv sv tv)):=by rw[g6 _ (by omega) (by omega)];exact r2
      have p4:h7.get (n+1+1)=some (.row 4 [.b false]):=by rw[g6 _ (by omega) (by omega)];exact r4
      have p8:h7.get n4=some (.row 191 (M6 k w C true x.1 ⟨x.2,true⟩ tq (C.decide party x.2 y.2 tt))):=by rw[g6 _ (by omega) (by omega)];exact q6
      by_cases hsp:s.1=party
      .simp (disch:=omega) only[go_sem,simprocAttr,p7,p2,decide_eq_true hsp,p8]
       rw[aR];generalize h7.set (n+1+1+1+1+1) (.row 59 (Ey s))=h8 at*
       with_reducible refine Bb (K+1) (hrs.up j7.u) (λz hz=>(M8 z hz).1) ((a.up j7.u).cons _ hw) a.ho hrl λbs h9 n9 u9 _=>?_
       have e9:=u9.le;have j9:=j7.up u9;have q9:=(u9.old _ (show n4<n7 by omega)).trans q7;have k9:=k7.up u9;have r3:=j9.r3;have r4:=j9.r4;cases bs with
       |false=>
        simp (disch:=omega) only[go_sem,simprocAttr,r4];exact bad _ _ _ j9.JA _
       |true=>
        by_cases hat:(k:Int)=at_
        .simp (disch:=omega) only[go_sem,simprocAttr,q9,r3,decide_eq_true hat]
         exact aep _ _ _ _ j9 (by omega) q9 k9.use rfl rfl rfl rfl rfl rfl
        .simp (disch:=omega) only[go_sem,simprocAttr,q9,r3,decide_eq_false hat]
         exact aes _ _ _ _ j9 (by omega) q9 k9.use rfl rfl rfl
      .simp (disch:=omega) only[go_sem,simprocAttr,p7,p2,p4,decide_eq_false hsp]
       exact bad _ _ _ j7.JA _
    .have hk0:decide (k=0)=false:=decide_eq_false k0
     rw[hk0]at q6 j6;by_cases hat:(k:Int)=at_
     .simp (disch:=omega) only[go_sem,simprocAttr,iQ,q6,r3,decide_eq_true hat]
      exact aep _ _ _ _ j6 (Nat.lt_succ_self _) q6 k6.use rfl rfl rfl rfl rfl rfl
     .simp (disch:=omega) only[go_sem,simprocAttr,iQ,q6,r3,decide_eq_false hat]
      exact aes _ _ _ _ j6 (Nat.lt_succ_self _) q6 k6.use rfl rfl rfl
   .rintro _ h' n' ⟨b,rfl,hb⟩
    exact⟨b,rfl,hb⟩
  .intro h3 n3 j3
   refine⟨_,_,_,_,_,_,_,j3.l,.inl ⟨rfl,rfl,?_⟩⟩;have r4:=j3.r4;have:=j3.b1;have:=j3.b2;simp (disch:=omega) only[go_sem,simprocAttr,r4];exact hQ _ _ (Up.st (Up.st j3.u _ _ (by omega)) _ _ (by omega))
  .rintro h3 n3 ⟨f,j3⟩
   refine⟨_,_,_,_,_,_,_,j3.l,.inr (.inl ⟨rfl,rfl,?_⟩)⟩;have r4:=j3.r4;have:=j3.b1;have:=j3.b2;simp (disch:=omega) only[go_sem,simprocAttr,r4];exact hQ _ _ (Up.st j3.u _ _ (by omega))
end
end
end
section
noncomputable section
section
variable {h h':AH} {n n':Nat} {C:ay} {v:CS} {Q:AV->AH->Nat->Prop} {tv tw iy drv:AV} {l:List Int} {party at_ dp:Int} {ss:List (Int×AV)} {ds:List (TS×dU)} {S:List aI}
theorem M9(K:Nat)(hC:aY h n v C)(ho:C.off.length<=1000000)(hl:l.length<=4000)(hT:SL h n 1 tv iw l)(hv:C.valid=true)(hp0:0<=party)(hp1:party<C.aD)(run:fu C C.first l S)
 (hQ:∀cv sv vs dD h' n',dD.map (·.2)=S->Up h n h' n'->Ew h' n' C cv sv tv vs dD l->Q (.bJ [.agg (CB party cv sv tv),.b true]) h' n'):CW (EF (K+12)) 33 [.agg (v.av C),.k 1,.i .i64 party,tv] h n Q:=by
 refine aC ad4 rfl ?_;simp (disch:=omega) only[go_sem,simprocAttr,V_,CS.av,decide_eq_false (show¬party<0 by omega),decide_eq_false (show¬C.aD<=party by omega)];generalize hh:Tr.set (Tr.set h n _) (n+1) _=h0;have u0:Up h n h0 (n+2):=by rw[<-hh];exact aH
 have g1:h0.get (n+1)=some (.row 109 [.i .i64 0,.k 1,.k 1,.k 1]):=by rw[<-hh];exact aF
 clear hh;rw[aR];have ok:=ay.ok hv;have hus:=qX hv
 with_reducible refine Ju K (hC.up u0) ho (by omega) (hT.up u0) (λe=>?_) (λ_ e=>?_) (λ_ _ e=>?_) (λ_ _ cv sv vs dD h1 n1 run' ln u1 kR=>?_)
 .rw[hv]at e;cases e
 .omega
 .exact absurd ⟨S,run⟩ e
 .have e1:=u1.le
  have g11:=(u1.old _ (show n+1<n+2 by omega)).trans g1;obtain⟨⟨s1,s2⟩,s3,s4⟩:=kR.use;have hSl:=run'.len;have hS:dD.map (·.2)=S:=by
   apply List.ext_getElem?;intro j;have hl1:=run.len;by_cases hj:j<=l.length
   .exact run'.same (k:=l.length) (by rw[List.take_length];exact run) (Nat.le_refl _) j hj
   .rw[List.getElem?_eq_none (by omega),List.getElem?_eq_none (by omega)]
  have oks:∀x∈dD,aK C x.2:=λx hx=>by
   obtain⟨k,hk⟩:=List.getElem?_of_mem hx;exact Jw hv run' k x.2 (by rw[List.getElem?_map,hk];rfl)
  have an:Ew h1 n1 C cv sv tv vs dD l:=⟨s1,s3,s2,s4,(hT.up (u0.trans u1)),ln,run',ok,oks,ho,by omega,hl⟩;simp (disch:=omega) only[go_sem,simprocAttr,s1.cl,s2.cl,hT.cl,g11];have k2:=kR.set (b:=n+1) (o:=.row 109 (CB party cv sv tv)) (.inl (by omega)) (Nat.le_refl _);obtain⟨⟨t1,t2⟩,t3,t4⟩:=k2.use;have u2:Up h n (Tr.set h1 (n+1) (.row 109 (CB party cv sv tv))) n1:=Up.st (u0.trans u1) _ _ (by omega);exact hQ cv sv vs dD _ _ hS u2 ⟨t1,t3,t2,t4,hT.up u2,ln,run',ok,oks,ho,by omega,hl⟩
theorem UD(K:Nat)(hC:aY h n v C)(ho:C.off.length<=1000000)(hl:l.length<=4000)(hT:SL h n 1 tv iw l)(hv:C.valid=true)(hp0:0<=party)(hp1:party<C.aD)(run:fu C C.first l S)(c:Rc h n iy drv ss ds)
 (hD:∀(k:Nat)(a b:aI)(t:Int),S[k]?=some a->S[k+1]?=some b->l[k]?=some t->¬bM C party (C.decide party a b t))
 (hQ:∀h' n',Up h n h' n'->Q (.b false) h' n'):CW (EF (K+20)) 15 [.agg (v.av C),.k 1,.i .i64 party,.agg (Ez tv at_ iy dp drv)] h n Q:=by
 refine aC ad3 rfl ?_;simp (disch:=omega) only[go_sem,simprocAttr,V9,CS.av];generalize hh:Tr.set (Tr.set h n _) (n+1) _=h0;have u0:Up h n h0 (n+2):=by rw[<-hh];exact aH
 have g0:h0.get n=some (.row 27 (v.av C)):=by rw[<-hh];simp (disch:=omega) only[go_sem]
 have g1:h0.get (n+1)=some (.row 51 (Ez tv at_ iy dp drv)):=by rw[<-hh];exact aF
 clear hh;rw[aR]
 with_reducible refine M9 (K+7) (S:=S) (hC.up u0) ho hl (hT.up u0) hv hp0 hp1 run λcv sv vs dD h1 n1 hS u1 an=>?_
 have e1:=u1.le;have g11:=(u1.old _ (show n+1<n+2 by omega)).trans g1;repeat' (first|(simp (disch:=omega) only[go_sem,simprocAttr,g11])|(refine aS ?_ ?_<;>(intro hb hd;rw[hb];clear hb))|(with_reducible refine aj ?_))
 rw[aR];have u1':Up h0 (n+2) h1 n1:=u1;have ux:=u0.trans u1';have u2:Up h1 n1 (Tr.set h1 n1 (.row 109 (CB party cv sv tv))) (n1+1):=by exact aH
 refine Rf K (an.up aH) (c.up aH) hp0 (λk x y t h1 h2 h3=>hD k x.2 y.2 t ?_ ?_ h3) λh2 n2 u3=>?_
 .rw[<-hS,List.getElem?_map,h1];rfl
 .rw[<-hS,List.getElem?_map,h2];rfl
 simp (disch:=omega) only[go_sem,simprocAttr];exact hQ _ _ aH
end
end
end
section
noncomputable section
set_option maxRecDepth 1000000
set_option maxHeartbeats 4000000
def Wy:MC:=vF 9
def aeu:=vT 9 Wy
def Wz:MC:=vF 14
def aev:=vT 14 Wz
def WA:MC:=vF 21
def aew:=vT 21 WA
def WC:MC:=vF 22
def aex:=vT 22 WC
def WE:MC:=vF 47
def aey:=vT 47 WE
end
end
section
noncomputable section
section
variable {h h':AH} {n n':Nat} {v:CS} {C:ay} {p:aN} {party:Int} {ps:List (TS×aN)} {wv:List AV} {M:List (List (Int×Nat))} {Q:AV->AH->Nat->Prop} {vv ww:AV}
theorem UE(K:Nat){sv:AV}{sf:List Bool}(hC:aY h n v C)(ai:uD h n vv ww ps wv M)(ia:bZ C party p (ps.map (·.2)) M)(so:aK C p.st)(hown:p.own=true)(hs:SL h n 1 sv Ua sf)(sl:KN C party (ps.map (·.2)) sf)
 (hQ:∀(z:Int) h' n',Up h n h' n'->Q (.i .i64 z) h' n'):CW (EF (K+2)) 47 [.agg (v.av C),.agg (oL party vv ww),sv] h n Q:=by
 have hsm:=ia.small;rw[List.length_map]at hsm;have hd2:=(ay.ok so.con).O4;have hp0:=so.BJ;refine aC aey rfl ?_;simp (disch:=omega) only[go_sem,simprocAttr,WE,CS.av];generalize hh:Tr.set (Tr.set h n _) (n+1) _=h0;have u0:Up h n h0 (n+2):=by rw[<-hh];exact aH
 have g0:h0.get n=some (.row 27 (v.av C)):=by rw[<-hh];simp (disch:=omega) only[go_sem]
 have g1:h0.get (n+1)=some (.row 147 (oL party vv ww)):=by rw[<-hh];exact aF
 clear hh;refine iF (λi hk nk F=>∃(j:Nat)(q:aN)(d:Int),(ps.map (·.2))[j]?=some q/\q.own=true/\i=(C.days - q.st.day).toNat/\0<=d/\d<=q.st.day/\Up h0 (n+2) hk nk/\F=[(2,sv),(3,.p n 0),(4,.p (n+1) 0),(7,.i .i64 d),(8,.i .i64 (j:Nat))]) (C.days - p.st.day).toNat (by omega) ⟨_,⟨0,p,0,ia.hd,hown,rfl,by omega,so.BJ,Up.refl _ _,rfl⟩,by(repeat' (first|exact aO|refine aM rfl ?_))⟩ ?_;rintro i hk nk F ⟨j,q,d,hj,hqo,rfl,hd0,hd1,uk,rfl⟩;have ek:=uk.le;have k0:=(uk.old n (by omega)).trans g0;have k1:=(uk.old (n+1) (by omega)).trans g1;have hjl:=(List.getElem?_eq_some_iff.1 hj).1;rw[List.length_map]at hjl;have sq:=wH.ok so (ia.rch _ (List.mem_of_getElem? hj));have ux:=u0.trans uk;obtain⟨b1,o1,x,i1,hx,hb1,rd⟩:=(ai.up ux).pos.dL (k:=(j:Nat)) (by omega) (by omega) (by omega);rw[show((j:Nat):Int).toNat=j by omega]at hx;have hxq:x.2=q:=by rw[List.getElem?_map,hx]at hj;simpa using hj
 subst hxq;have hq0:=sq.BJ;by_cases hd:x.2.st.day<C.days
 .repeat' (first|(simp (disch:=omega) only[go_sem,simprocAttr,ub.old,k0,k1,CS.av,i1,rd.hd,pJ,TS.pv,decide_eq_true hd])|(simp (disch:=omega) only[go_sem,simprocAttr,k0,k1,CS.av,i1,rd.hd,pJ,TS.pv,decide_eq_true hd])|(refine aS ?_ ?_<;>(intro hb hd;rw[hb];clear hb))|(with_reducible refine aj ?_))
  rw[aR];refine rU K (ai.up ux) ia so hj (λj1 r1 hj1 hm1 h1 n1 u1=>?_) (λhno=>absurd (vX hqo) (hno _));obtain rfl:r1=⟨x.2.st,false⟩:=by simpa using xK hm1
  have e1:=u1.le;have k11:=(u1.old (n+1) (by omega)).trans k1;simp (disch:=omega) only[go_sem,simprocAttr,k11];rw[aR];refine rU K (ai.up (ux.trans u1)) ia so hj1 (λj2 r2 hj2 hm2 h2 n2 u2=>?_) (λhno=>absurd (A8 (q:=⟨x.2.st,false⟩) rfl hd) (hno _));obtain rfl:r2=⟨C.aU x.2.st (-1),true⟩:=by simpa using xK hm2
  have hdy:(C.aU x.2.st (-1)).day=x.2.st.day+1:=by unfold ay.aU;rw[if_pos rfl];rfl
  have wz:=(ux.trans u1).trans u2;have atf:=(List.getElem?_eq_some_iff.1 hj2).1;obtain⟨b3,o3,y,i3,hy,hb3,nA⟩:=(hs.up wz).dL (k:=(j2:Nat)) (by omega) (by rw[sl.1];omega) (by omega);cases y with
  |false=>
   simp (disch:=omega) only[go_sem,simprocAttr,aJ i3,nA.hd];exact hQ _ _ _ wz
  |true=>
   have wid:gN .i64 (d+1)=d+1:=dI (by omega) (by omega);simp (disch:=omega) only[go_sem,simprocAttr,aJ i3,nA.hd,wid];rw[vD];exact⟨_,_,by show(C.days - (C.aU x.2.st (-1)).day).toNat<_;rw[hdy];omega,⟨j2,_,d+1,hj2,rfl,rfl,by omega,by show d+1<=(C.aU x.2.st (-1)).day;rw[hdy];omega,(uk.trans u1).trans u2,rfl⟩,by(repeat' (first|exact aO|refine aM rfl ?_))⟩
 .repeat' (first|(simp (disch:=omega) only[go_sem,simprocAttr,ub.old,k0,k1,CS.av,i1,rd.hd,pJ,TS.pv,decide_eq_false hd])|(simp (disch:=omega) only[go_sem,simprocAttr,k0,k1,CS.av,i1,rd.hd,pJ,TS.pv,decide_eq_false hd])|(refine aS ?_ ?_<;>(intro hb hd;rw[hb];clear hb))|(with_reducible refine aj ?_))
  exact hQ _ _ _ ux
theorem M_(K:Nat){tv:TS}{s:aI}(hC:aY h n v C)(ho:C.off.length<=1000000)(hS:bI h n tv s)(hQ:∀(b:Bool)(m z e:Int) h' n',(e=0->b=true->¬bM C party ⟨s,true⟩)->Up h n h' n'->Q (.bJ [.agg [.b b,.i .i64 m,.i .i64 z],.i .i64 e]) h' n'):CW (EF (K+11)) 22 [.agg (v.av C),.i .i64 party,.agg (tv.av s)] h n Q:=by
 refine aC aex rfl ?_;simp (disch:=omega) only[go_sem,simprocAttr,WC,CS.av,TS.av];generalize hh:Tr.set _ (n+1+1) _=h0;have u0:Up h n h0 (n+3):=by rw[<-hh];exact aH
 have g0:h0.get n=some (.row 27 (v.av C)):=by rw[<-hh];simp (disch:=omega) only[go_sem]
 have g2:h0.get (n+1+1)=some (.row 81 [.b false,.i .i64 0,.i .i64 0]):=by rw[<-hh];exact aF
 clear hh;rw[aR];refine zq K (p:=⟨s,true⟩) (tv:=tv) (hC.up u0) ho (hS.up u0) ⟨λ_ h1 n1 u1=>?_,λ_ _ _ _ h1 n1 u1=>?_,λp0 p1 so ps wv M vv ww h1 n1 ia u1 k1=>?_⟩
 .have e1:=u1.le
  have g21:=(u1.old (n+1+1) (by omega)).trans g2;have ux:=u0.trans u1;simp (disch:=omega) only[go_sem,simprocAttr,EI,g21];exact hQ _ _ _ 1 _ _ (λe=>by cases e) aH
 .have e1:=u1.le
  have g21:=(u1.old (n+1+1) (by omega)).trans g2;have ux:=u0.trans u1;simp (disch:=omega) only[go_sem,simprocAttr,EI,g21];exact hQ _ _ _ 3 _ _ (λe=>by cases e) aH
 .have e1:=u1.le
  have g01:=(u1.old n (by omega)).trans g0;have g21:=(u1.old (n+1+1) (by omega)).trans g2;have ux:=u0.trans u1;simp (disch:=omega) only[go_sem,simprocAttr,g01,CS.av];generalize hh:Tr.set (Tr.set h1 n1 _) n1 _=h2;have u2:Up h1 n1 h2 (n1+1):=by rw[<-hh];exact aH
  have q2:h2.get n1=some (.row 147 (oL party vv ww)):=by rw[<-hh];exact aF
  clear hh;have wz:=ux.trans u2;have ai:=k1.use.up u2;rw[aR];refine zu K (hC.up wz) ho ai ia p0 p1 so λv' sf h3 n3 sl u3 k3=>?_;have e3:=u3.le;have rR:=wz.trans u3;have ai3:=ai.up u3;have s3:=k3.use;have g03:=(u3.old n (by omega)).trans ((u2.old n (by omega)).trans g01);have g23:=(u3.old (n+1+1) (by omega)).trans ((u2.old (n+1+1) (by omega)).trans g21);have q3:=(u3.old n1 (by omega)).trans q2;obtain⟨b,hb,hbd⟩:=sl.2 0 _ ia.hd;have hl0:=(List.getElem?_eq_some_iff.1 hb).1;obtain⟨b4,o4,y,i4,hy,hb4,Z_⟩:=s3.dL (k:=0) (by omega) (by omega) (by omega);have hyb:y=b:=by rw[show(0:Int).toNat=0 from rfl,hb]at hy;exact(Option.some.inj hy).symm
  subst hyb;cases y with
  |false=>
   simp (disch:=omega) only[go_sem,simprocAttr,aJ i4,Z_.hd,g23];exact hQ _ _ _ 0 _ _ (λ_ e=>by cases e) aH
  |true=>
   simp (disch:=omega) only[go_sem,simprocAttr,aJ i4,Z_.hd,g23]
   with_reducible refine aj ?_
   simp (disch:=omega) only[go_sem,simprocAttr,q3,g03,CS.av];rw[bF];refine AZ (K+9) ai3 ia so s3 sl λv5 xL h5 n5 al u5 k5=>?_;have e5:=u5.le;have GH:=rR.trans u5;have g05:=(u5.old n (by omega)).trans g03;have g25:=(u5.old (n+1+1) (by omega)).trans g23;have q5:=(u5.old n1 (by omega)).trans q3;obtain⟨x5,hx5,_⟩:=al.2 0 _ ia.hd;have hl5:=(List.getElem?_eq_some_iff.1 hx5).1;obtain⟨b6,o6,y6,i6,hy6,hb6,Tp⟩:=k5.use.dL (k:=0) (by omega) (by omega) (by omega);simp (disch:=omega) only[go_sem,simprocAttr,i6,Tp.hd,q5,g05,CS.av];rw[bF];refine UE (K+8) (hC.up GH) (ai3.up u5) ia so rfl (s3.up u5) sl λz h7 n7 u7=>?_;have e7:=u7.le;have ux7:=GH.trans u7;have g07:=(u7.old n (by omega)).trans g05;have g27:=(u7.old (n+1+1) (by omega)).trans g25;have q7:=(u7.old n1 (by omega)).trans q5;simp (disch:=omega) only[go_sem,simprocAttr,g27,i6];refine⟨⟨?_,?_,?_⟩,hQ _ _ _ 0 _ _ (λ_ _=>hbd.1 rfl) aH⟩
   .rw[u7.old b6 (by omega)];exact Tp.hd
   .rw[g03];rfl
   .rw[q3];rfl
theorem JB(K:Nat)(hC:aY h n v C)(ho:C.off.length<=1000000)(hQ:∀tv s e h' n',(e=0->C.valid=true/\s=C.first)->Up h n h' n'->Kp (λx=>x<n) h' n' (λh n=>bI h n tv s)->Q (.bJ [.agg (tv.av s),.i .i64 e]) h' n'):CW (EF (K+12)) 21 [.agg (v.av C)] h n Q:=by
 have z:∀h m,Kp (λx=>x<n) h m (λh n=>bI h n ⟨.k 1,.k 1,.k 1⟩ ⟨0,[],[],[]⟩):=λh m _ _ _ _=>⟨SL.nil λ_=>rfl,SL.nil λ_=>rfl,SL.nil λ_=>rfl⟩;refine aC aew rfl ?_;simp (disch:=omega) only[go_sem,simprocAttr,WA,CS.av];generalize hh:Tr.set _ (n+1) _=h0;have u0:Up h n h0 (n+2):=by rw[<-hh];exact aH
 have g1:h0.get (n+1)=some (.row 77 [.i .i64 0,.k 1,.k 1,.k 1]):=by rw[<-hh];exact aF
 clear hh;rw[aR];refine Ju K (l:=[]) (hC.up u0) ho (by simp) (SL.nil λ_=>rfl) (λ_ h1 n1 u1=>?_) (λ_ e=>?_) (λ_ _ e=>?_) (λhv _ cv sv vs dD h1 n1 run ln u1 kR=>?_)
 .have e1:=u1.le
  have g11:=(u1.old (n+1) (by omega)).trans g1;have ux:=u0.trans u1;repeat' (first|(simp (disch:=omega) only[go_sem,simprocAttr,g11])|(refine aS ?_ ?_<;>(intro hb hd;rw[hb];clear hb))|(with_reducible refine aj ?_))
  exact hQ ⟨.k 1,.k 1,.k 1⟩ ⟨0,[],[],[]⟩ 1 _ _ (λe=>by cases e) aH (z _ _)
 .simp at e
 .exact absurd ⟨_,fu.nil C C.first⟩ e
 .have e1:=u1.le
  have g11:=(u1.old (n+1) (by omega)).trans g1;have ux:=u0.trans u1;have hl:=run.len;have hh:=run.hd;rw[List.length_map]at hl;rw[List.getElem?_map]at hh;obtain⟨⟨s1,s2⟩,s3,s4⟩:=kR.use;obtain⟨b3,o3,y,i3,hy,hb3,nA⟩:=s2.dL (k:=0) (by omega) (by rw[hl];simp) (by omega);rw[show(0:Int).toNat=0 from rfl]at hy;rw[hy]at hh;have hy2:y.2=C.first:=Option.some.inj hh;have hs:((dD.length:Nat):Int)=1:=by rw[hl];rfl
  simp (disch:=omega) only[go_sem,simprocAttr,s2.len,hs,aJ i3,nA.all,QJ,TS.av,g11];have k5:=kR.set (b:=n+1) (o:=.row 77 [.i .i64 y.2.day,y.1.h,y.1.u,y.1.m]) (.inl (by omega)) (Nat.le_refl _);exact hQ y.1 y.2 0 _ _ (λ_=>⟨hv,hy2⟩) (Up.st ux _ _ (by omega)) ((k5.wk λh n e=>e.2.2 y (List.mem_of_getElem? hy)).le λx _ hx=>by omega)
theorem Rh(K:Nat){tv iy drv:AV}{at_ dp:Int}{l:List Int}{ss:List (Int×AV)}{ds:List (TS×dU)}(hS:SL h n 2 iy Ey ss)(hsh:∀s∈ss,∃rs,iJ h n 6 s.2 A_ rs/\∀x∈rs,x.2.rank=0)(hd:iJ h n 7 drv Eo ds)(hT:SL h n 1 tv iw l)
 (hQ:∀b h' n',(b=true->l.length<=30/\ss.length<=6/\(∀s∈ss,∃rs,iJ h n 6 s.2 A_ rs/\rs.length<=300/\∀x∈rs,x.2.rank=0/\Wx x)/\ds.length<=300/\∀x∈ds,Wx x)->Up h n h' n'->Q (.b b) h' n'):CW (EF (K+1)) 14 [.agg (Ez tv at_ iy dp drv)] h n Q:=by
 have no:∀h' n',Up h n h' n'->Q (.b false) h' n':=λh' n' u=>hQ false h' n' (λe=>by cases e) u;refine aC aev rfl ?_;simp (disch:=omega) only[go_sem,simprocAttr,Wz,hT.len];refine aS ?_ ?_<;>(intro hb h30;rw[hb];clear hb)
 .simp (disch:=omega) only[go_sem,simprocAttr]
  exact no _ _ aH
 simp (disch:=omega) only[go_sem,simprocAttr,hS.len];refine aS ?_ ?_<;>(intro hb h6;rw[hb];clear hb)
 .simp (disch:=omega) only[go_sem,simprocAttr]
  exact no _ _ aH
 simp (disch:=omega) only[go_sem,simprocAttr,hd.sl.len];refine aS ?_ ?_<;>(intro hb ati;rw[hb];clear hb)
 .simp (disch:=omega) only[go_sem,simprocAttr]
  exact no _ _ aH
 simp (disch:=omega) only[go_sem,simprocAttr];generalize hh:Tr.set h n _=h0;have u0:Up h n h0 (n+1):=by rw[<-hh];exact aH
 have g0:h0.get n=some (.row 51 (Ez tv at_ iy dp drv)):=by rw[<-hh];exact aF
 clear hh;refine iF (λi hk nk F=>∃k:Nat,k<=ss.length/\i=ss.length - k/\(∀(j:Nat) s,j<k->ss[j]?=some s->∃rs,iJ h n 6 s.2 A_ rs/\rs.length<=300/\∀x∈rs,x.2.rank=0/\Wx x)/\Up h0 (n+1) hk nk/\F=[(1,.p n 0),(2,.b false),(3,.i .i64 (k:Nat))]) ss.length (by omega) ⟨_,⟨0,by omega,rfl,λj s hj=>absurd hj (by omega),Up.refl _ _,rfl⟩,by(repeat' (first|exact aO|refine aM rfl ?_))⟩ ?_;rintro i hk nk F ⟨k,hkl,rfl,done,uk,rfl⟩;have ek:=uk.le;have gk:=(uk.old n (by omega)).trans g0;have ux:=u0.trans uk;by_cases hlt:k<ss.length
 .obtain⟨b1,o1,s,i1,hs,hb1,Qk⟩:=(hS.up ux).dL (k:=(k:Nat)) (by omega) (by omega) (by omega)
  rw[show((k:Nat):Int).toNat=k by omega]at hs;obtain⟨rs,hrs,hrk⟩:=hsh s (List.mem_of_getElem? hs);repeat' (first|(simp (disch:=omega) only[go_sem,simprocAttr,gk,(hS.up ux).len,decide_eq_true (show(k:Int)<(ss.length:Nat) by omega),aJ i1,Qk.el,Qk.hd,Ey,(hrs.up ux).sl.len])|(refine aS ?_ ?_<;>(intro hb hd;rw[hb];clear hb))|(with_reducible refine aj ?_))
  .exact no _ _ ux
  rename_i h3;refine iF (λi h2 n2 F=>∃m:Nat,m<=rs.length/\i=rs.length - m/\(∀(j:Nat) x,j<m->rs[j]?=some x->Wx x)/\Up hk nk h2 n2/\F=[(1,.p n 0),(2,.b false),(3,.i .i64 (k:Nat)),(4,.i .i64 (m:Nat))]) rs.length (by omega) ⟨_,⟨0,by omega,rfl,λj s hj=>absurd hj (by omega),Up.refl _ _,rfl⟩,by(repeat' (first|exact aO|refine aM rfl ?_))⟩ ?_;rintro i h2 n2 F ⟨m,hml,rfl,ok,u2,rfl⟩;have e2:=u2.le;have wz:=ux.trans u2;have g2:=(u2.old n (by omega)).trans gk;by_cases hlm:m<rs.length
  .obtain⟨b2,o2,x,i2,hx,hb2,eP⟩:=(hrs.up wz).sl.dL (k:=(m:Nat)) (by omega) (by omega) (by omega)
   rw[show((m:Nat):Int).toNat=m by omega]at hx;have hst:=(hrs.up wz).st x (List.mem_of_getElem? hx);simp (disch:=omega) only[go_sem,simprocAttr,g2,decide_eq_true (show(m:Int)<(rs.length:Nat) by omega),aJ i1,aJ i2,u2.old,Qk.el,Qk.hd,Ey,(hrs.up wz).sl.len,eP.pre (k:=4) (by omega),A_,List.take,hst.ah.len];refine aS ?_ ?_<;>(intro hb z1;rw[hb];clear hb)
   .simp (disch:=omega) only[go_sem,simprocAttr]
    exact no _ _ aH
   simp (disch:=omega) only[go_sem,simprocAttr,hst.used.len];refine aS ?_ ?_<;>(intro hb z2;rw[hb];clear hb)
   .simp (disch:=omega) only[go_sem,simprocAttr]
    exact no _ _ aH
   simp (disch:=omega) only[go_sem,simprocAttr,hst.marks.len];refine aS ?_ ?_<;>(intro hb z3;rw[hb];clear hb)
   .simp (disch:=omega) only[go_sem,simprocAttr]
    exact no _ _ aH
   have wid:gN .i64 ((m:Int)+1)=((m+1:Nat):Int):=by rw[dI (by omega) (by omega)];rfl
   simp (disch:=omega) only[go_sem,simprocAttr,wid];rw[vD];refine⟨_,_,by omega,⟨m+1,by omega,rfl,λj y hj hy=>?_,u2.trans aH,rfl⟩,by(repeat' (first|exact aO|refine aM rfl ?_))⟩;by_cases e:j=m
   .subst e;rw[hx]at hy;cases hy;exact⟨by omega,by omega,by omega⟩
   .exact ok j y (by omega) hy
  .simp (disch:=omega) only[go_sem,simprocAttr,g2,decide_eq_false (show¬(m:Int)<(rs.length:Nat) by omega),aJ i1,u2.old,Qk.el,Qk.hd,Ey,(hrs.up wz).sl.len]
   have wid:gN .i64 ((k:Int)+1)=((k+1:Nat):Int):=by rw[dI (by omega) (by omega)];rfl
   rw[vD,wid];refine⟨_,_,by omega,⟨k+1,by omega,rfl,λj y hj hy=>?_,uk.trans u2,rfl⟩,by(repeat' (first|exact aO|refine aM rfl ?_))⟩;by_cases e:j=k
   .subst e;rw[hs]at hy;cases hy
    exact⟨rs,hrs,by omega,λx hx=>⟨hrk x hx,by obtain⟨j,hj⟩:=List.getElem?_of_mem hx;exact ok j x (by have:=(List.getElem?_eq_some_iff.1 hj).1;omega) hj⟩⟩
   .exact done j y (by omega) hy
 .simp (disch:=omega) only[go_sem,simprocAttr,gk,(hS.up ux).len,decide_eq_false (show¬(k:Int)<(ss.length:Nat) by omega)]
  refine iF (λi h2 n2 F=>∃m:Nat,m<=ds.length/\i=ds.length - m/\(∀(j:Nat) x,j<m->ds[j]?=some x->Wx x)/\Up hk nk h2 n2/\F=[(1,.p n 0),(2,.b false),(6,.i .i64 (m:Nat))]) ds.length (by omega) ⟨_,⟨0,by omega,rfl,λj s hj=>absurd hj (by omega),Up.refl _ _,rfl⟩,by(repeat' (first|exact aO|refine aM rfl ?_))⟩ ?_;rintro i h2 n2 F ⟨m,hml,rfl,ok,u2,rfl⟩;have e2:=u2.le;have wz:=ux.trans u2;have g2:=(u2.old n (by omega)).trans gk;by_cases hlm:m<ds.length
  .obtain⟨b2,o2,x,i2,hx,hb2,eP⟩:=(hd.up wz).sl.dL (k:=(m:Nat)) (by omega) (by omega) (by omega)
   rw[show((m:Nat):Int).toNat=m by omega]at hx;have hst:=(hd.up wz).st x (List.mem_of_getElem? hx);simp (disch:=omega) only[go_sem,simprocAttr,g2,decide_eq_true (show(m:Int)<(ds.length:Nat) by omega),aJ i2,(hd.up wz).sl.len,eP.pre (k:=4) (by omega),Eo,List.take,hst.ah.len];refine aS ?_ ?_<;>(intro hb z1;rw[hb];clear hb)
   .simp (disch:=omega) only[go_sem,simprocAttr]
    exact no _ _ aH
   simp (disch:=omega) only[go_sem,simprocAttr,hst.used.len];refine aS ?_ ?_<;>(intro hb z2;rw[hb];clear hb)
   .simp (disch:=omega) only[go_sem,simprocAttr]
    exact no _ _ aH
   simp (disch:=omega) only[go_sem,simprocAttr,hst.marks.len];refine aS ?_ ?_<;>(intro hb z3;rw[hb];clear hb)
   .simp (disch:=omega) only[go_sem,simprocAttr]
    exact no _ _ aH
   have wid:gN .i64 ((m:Int)+1)=((m+1:Nat):Int):=by rw[dI (by omega) (by omega)];rfl
   simp (disch:=omega) only[go_sem,simprocAttr,wid];rw[vD];refine⟨_,_,by omega,⟨m+1,by omega,rfl,λj y hj hy=>?_,u2.trans aH,rfl⟩,by(repeat' (first|exact aO|refine aM rfl ?_))⟩;by_cases e:j=m
   .subst e;rw[hx]at hy;cases hy;exact⟨by omega,by omega,by omega⟩
   .exact ok j y (by omega) hy
  .simp (disch:=omega) only[go_sem,simprocAttr,g2,decide_eq_false (show¬(m:Int)<(ds.length:Nat) by omega),(hd.up wz).sl.len]
   refine hQ true _ _ (λ_=>⟨by omega,by omega,λs hs=>?_,by omega,λx hx=>?_⟩) wz
   .obtain⟨j,hj⟩:=List.getElem?_of_mem hs
    exact done j s (by have:=(List.getElem?_eq_some_iff.1 hj).1;omega) hj
   .obtain⟨j,hj⟩:=List.getElem?_of_mem hx
    exact ok j x (by have:=(List.getElem?_eq_some_iff.1 hj).1;omega) hj
end
end
end
section
noncomputable section
set_option maxRecDepth 1000000
set_option maxHeartbeats 4000000
def m28:MC:=vF 20
def c28:=vT 20 m28
def m14:MC:=vF 43
def c14:=vT 43 m14
end
end
section
noncomputable section
section
variable {h h':AH} {n n':Nat} {Q:AV->AH->Nat->Prop} {C:ay} {v:CS} {l:List Int} {party:Int}
theorem Gn(K:Nat)(hC:aY h n v C)(hQ:∀b h' n',(b=true->C.off.length<=100/\C.acts.length<=70)->Up h n h' n'->Q (.b b) h' n'):CW (EF (K+1)) 43 [.agg (v.av C),.i .i64 6] h n Q:=by
 refine aC c14 rfl ?_;repeat' (first|(simp (disch:=omega) only[go_sem,simprocAttr,m14,CS.av,hC.ah.len,hC.units.len,hC.acts.len,hC.lk,hC.off.len])|(refine aS ?_ ?_<;>(intro hb hd;rw[hb];clear hb))|(with_reducible refine aj ?_))
 .exact hQ false _ _ (λe=>by cases e) aH
 .exact hQ false _ _ (λe=>by cases e) aH
 .exact hQ false _ _ (λe=>by cases e) aH
 .exact hQ false _ _ (λe=>by cases e) aH
 .exact hQ false _ _ (λe=>by cases e) aH
 generalize hh:Tr.set h n _=h1;have u1:Up h n h1 (n+1):=by rw[<-hh];exact aH
 have g1:h1.get n=some (.row 27 (v.av C)):=by rw[<-hh];exact aF
 clear hh;refine iF (λi hk nk F=>∃k,k<=C.clauses.length/\i=C.clauses.length - k/\h1=hk/\nk=n+1/\F=[(2,.p n 0),(5,.i .i64 (k:Nat))]) C.clauses.length (by omega) ⟨_,⟨0,by omega,rfl,rfl,rfl,rfl⟩,by(repeat' (first|exact aO|refine aM rfl ?_))⟩ ?_;rintro i _ _ F ⟨k,hk1,rfl,rfl,rfl,rfl⟩;repeat' (first|(simp (disch:=omega) only[go_sem,simprocAttr,g1,CS.av,hC.lk])|(refine aS ?_ ?_<;>(intro hb hd;rw[hb];clear hb))|(with_reducible refine aj ?_))
 .refine oF (hC.up u1) (by omega) (by omega) λb o a t ha hb hst rd=>?_
  repeat' (first|(simp (disch:=omega) only[go_sem,simprocAttr,rd.el,aG.av,hst.len])|(refine aS ?_ ?_<;>(intro hb hd;rw[hb];clear hb))|(with_reducible refine aj ?_))
  .exact hQ false _ _ (λe=>by cases e) u1
  .have wid:gN .i64 ((k:Int)+1)=((k+1:Nat):Int):=by rw[dI (by omega) (by omega)];rfl
   rw[vD,wid];exact⟨_,_,by omega,⟨k+1,by omega,rfl,rfl,rfl,rfl⟩,by(repeat' (first|exact aO|refine aM rfl ?_))⟩
 .exact hQ true _ _ (λ_=>by omega) u1
theorem UG(K:Nat)(hC:aY h n v C)(hQ:∀b h' n',(b=true->C.off.length<=100/\C.acts.length<=70)->Up h n h' n'->Q (.b b) h' n'):CW (EF (K+2)) 20 [.agg (v.av C)] h n Q:=by
 refine aC c28 rfl ?_;repeat' (first|(simp (disch:=omega) only[go_sem,simprocAttr,m28,CS.av])|(refine aS ?_ ?_<;>(intro hb hd;rw[hb];clear hb))|(with_reducible refine aj ?_))
 generalize hh:Tr.set h n _=h1;have u1:Up h n h1 (n+1):=by rw[<-hh];exact aH
 have g1:h1.get n=some (.row 27 (v.av C)):=by rw[<-hh];exact aF
 clear hh;rw[aR];refine Gn K (hC.up u1) λb h2 n2 hb u2=>?_;have g2:=(u2.old n (by omega)).trans g1;have yH:=u1.trans u2;cases b with
 |false=>simp (disch:=omega) only[go_sem,simprocAttr];exact hQ false _ _ (λe=>by cases e) yH
 |true=>
  repeat' (first|(simp (disch:=omega) only[go_sem,simprocAttr,g2,CS.av,hC.acts.len])|(refine aS ?_ ?_<;>(intro hb hd;rw[hb];clear hb))|(with_reducible refine aj ?_))
  all_goals first|exact hQ false _ _ (λe=>by cases e) yH|exact hQ true _ _ (λ_=>hb rfl) yH|exact hQ _ _ _ (λ_=>hb rfl) yH
end
end
end
section
noncomputable section
section
variable {h h':AH} {n n':Nat} {Q:AV->AH->Nat->Prop} {C:ay} {v:CS} {party:Int}
theorem yI{l:List Int}{S:List aI}(run:fu C C.first l S)(sf:Ei C party l S)(h0:¬bM C party ⟨C.first,true⟩):∀(k:Nat)(a b:aI)(t:Int),S[k]?=some a->S[k+1]?=some b->l[k]?=some t->¬bM C party ⟨a,true⟩/\¬bM C party (C.decide party a b t)
 |0,a,b,t,ha,hb,ht=>by
  have h1:¬bM C party ⟨a,true⟩:=by rw[run.hd]at ha;cases ha;exact h0
  exact⟨h1,sf 0 t a b ht ha hb h1⟩
 |k+1,a,b,t,ha,hb,ht=>by
  have hk:=(List.getElem?_eq_some_iff.1 ht).1;have hl:=run.len;have hx:S[k]?=some (S[k]'(by omega)):=List.getElem?_eq_getElem _;have hu:l[k]?=some (l[k]'(by omega)):=List.getElem?_eq_getElem _;obtain⟨i1,i2⟩:=yI run sf h0 k _ a _ hx ha hu;obtain⟨g1,g2,g3,g4⟩:=run.step k _ _ hu hx;rw[ha]at g4;cases g4;have h1:=M5 g1 g2 g3 i1 i2;exact⟨h1,sf (k+1) t _ b ht ha hb h1⟩
theorem EA(K:Nat){ov tw iy drv:AV}{at_ dp:Int}{jM lw:List Int}{ss:List (Int×AV)}{ds:List (TS×dU)}(hH:∀{h:AH}{n:Nat}{Q:AV->AH->Nat->Prop},(∀h' n',Up h n h' n'->Q (.b true) h' n')->CW (EF (K+410)) 10 [] h n Q)(hC:aY h n v C)(hO:SL h n 1 ov iw jM)
 (hW:SL h n 1 tw iw lw)(hS:SL h n 2 iy Ey ss)(hsh:∀s∈ss,∃rs,iJ h n 6 s.2 A_ rs/\∀x∈rs,x.2.rank=0)(hd:iJ h n 7 drv Eo ds)
 (hQ:∀h' n',Up h n h' n'->Q (.b true) h' n'):CW (EF (K+411)) 9 [.agg (v.av C),.i .i64 party,ov,.agg (Ez tw at_ iy dp drv)] h n Q:=by
 refine aC aeu rfl ?_;simp (disch:=omega) only[go_sem,simprocAttr,Wy,CS.av];generalize hh:Tr.set (Tr.set h n _) (n+1) _=h1;have u1:Up h n h1 (n+2):=by rw[<-hh];exact aH
 have g1:h1.get n=some (.row 27 (v.av C)):=by rw[<-hh];simp (disch:=omega) only[go_sem]
 have q1:h1.get (n+1)=some (.row 51 (Ez tw at_ iy dp drv)):=by rw[<-hh];exact aF
 clear hh;rw[aR];refine hH λh2 n2 u2=>?_;have e2:=u2.le;have g2:=(u2.old n (by omega)).trans g1;have q2:=(u2.old (n+1) (by omega)).trans q1;have yH:=u1.trans u2;simp (disch:=omega) only[go_sem,simprocAttr,g2,CS.av];rw[aR];refine UG (K+408) (hC.up yH) λb h3 n3 hb u3=>?_;have e3:=u3.le;have g3:=(u3.old n (by omega)).trans g2;have q3:=(u3.old (n+1) (by omega)).trans q2;have zn:=yH.trans u3;cases b with
 |false=>
  simp (disch:=omega) only[go_sem,simprocAttr];exact hQ _ _ zn
 |true=>
  obtain⟨ho,ha⟩:=hb rfl;simp (disch:=omega) only[go_sem,simprocAttr,hO.len];refine aS ?_ ?_<;>(intro hb hol;rw[hb];clear hb)
  .simp (disch:=omega) only[go_sem,simprocAttr]
   exact hQ _ _ zn
  simp (disch:=omega) only[go_sem,simprocAttr,g3,CS.av];rw[aR];refine JB (K+398) (hC.up zn) (by omega) λtv s e h4 n4 hs u4 k4=>?_;have e4:=u4.le;have g4:=(u4.old n (by omega)).trans g3;have q4:=(u4.old (n+1) (by omega)).trans q3;have ZY:=zn.trans u4;simp (disch:=omega) only[go_sem,simprocAttr];generalize hh:Tr.set (Tr.set h4 n4 _) n4 _=h5;have u5:Up h4 n4 h5 (n4+1):=by rw[<-hh];exact aH
  have k5:Kp (λx=>x<n3) h5 (n4+1) (λh n=>bI h n tv s):=by rw[<-hh];exact(k4.set (.inr (Nat.le_refl _)) (Nat.le_refl _)).set (.inr (Nat.le_refl _)) (Nat.le_succ _)
  have g5:h5.get n=some (.row 27 (v.av C)):=by rw[u5.old n (by omega)];exact g4
  have r5:h5.get n4=some (.row 77 (tv.av s)):=by rw[<-hh];exact aF
  clear hh;have q5:=(u5.old (n+1) (by omega)).trans q4;have PE:=ZY.trans u5;by_cases he:e=0
  .subst he
   obtain⟨hv,rfl⟩:=hs rfl;simp (disch:=omega) only[go_sem,simprocAttr,g5,r5,CS.av,TS.av];rw[aR];refine M_ (K+399) (party:=party) (hC.up PE) (by omega) k5.use λab am az ae h6 n6 hA u6=>?_;have e6:=u6.le;have g6:=(u6.old n (by omega)).trans g5;have q6:=(u6.old (n+1) (by omega)).trans q5;have u06:=PE.trans u6;simp (disch:=omega) only[go_sem,simprocAttr,g6,CS.av];generalize hh:Tr.set (Tr.set h6 n6 _) n6 _=h7;have u7:Up h6 n6 h7 (n6+1):=by rw[<-hh];exact aH
   have r7:h7.get n6=some (.row 81 [.b ab,.i .i64 am,.i .i64 az]):=by rw[<-hh];exact aF
   clear hh;have g7:=(u7.old n (by omega)).trans g6;have q7:=(u7.old (n+1) (by omega)).trans q6;have u07:=u06.trans u7;rw[aR];refine Mi (K+398) (hC.up u07) (by omega) (hO.up u07) (by omega) (by omega) (λfe h8 n8 hfe u8=>?_) λv' l S h8 n8 _ hp0 hp1 nb run sf hll u8 k8=>?_
   .have hd:decide (fe=0)=false:=decide_eq_false (by omega)
    by_cases hae:ae=0
    .simp (disch:=omega) only[go_sem,simprocAttr,decide_eq_true hae,hd]
     exact hQ _ _ (u07.trans u8)
    .simp (disch:=omega) only[go_sem,simprocAttr,decide_eq_false hae,hd]
     exact hQ _ _ (u07.trans u8)
   .have e8:=u8.le
    have g8:=(u8.old n (by omega)).trans g7;have q8:=(u8.old (n+1) (by omega)).trans q7;have r8:=(u8.old n6 (by omega)).trans r7;have u08:=u07.trans u8;by_cases hae:ae=0
    .cases ab with
     |false=>
      simp (disch:=omega) only[go_sem,simprocAttr,decide_eq_true hae,r8];exact hQ _ _ u08
     |true=>
      have safe:=yI run sf (hA hae rfl);simp (disch:=omega) only[go_sem,simprocAttr,decide_eq_true hae,r8,q8,k8.use.cl];have s9:=(k8.set (b:=n+1) (o:=.row 51 (Ez v' at_ iy dp drv)) (.inl (by omega)) (Nat.le_refl _)).use;have u9:Up h n (h8.set (n+1) (.row 51 (Ez v' at_ iy dp drv))) n8:=Up.st u08 _ _ (by omega);have g9:(h8.set (n+1) (.row 51 (Ez v' at_ iy dp drv))).get n=some (.row 27 (v.av C)):=by rw[au (by omega)];exact g8
      have q9:(h8.set (n+1) (.row 51 (Ez v' at_ iy dp drv))).get (n+1)=some (.row 51 (Ez v' at_ iy dp drv)):=aF;generalize h8.set (n+1) (.row 51 (Ez v' at_ iy dp drv))=h9 at*;rw[aR];refine Rh (K+409) (hS.up u9) (λx hx=>let⟨rs,a,b⟩:=hsh x hx;⟨rs,a.up u9,b⟩) (hd.up u9) s9 λb h10 n10 hb rT=>?_;have e10:=rT.le;have g10:=(rT.old n (by omega)).trans g9;have RP:=(rT.old (n+1) (by omega)).trans q9;have Ri:=u9.trans rT;cases b with
      |false=>
       simp (disch:=omega) only[go_sem,simprocAttr];exact hQ _ _ Ri
      |true=>
       obtain⟨l1,l2,l3,l4,l5⟩:=hb rfl;simp (disch:=omega) only[go_sem,simprocAttr,g10,CS.av];rw[aR];have cs:∀h11 n11,Up h10 n10 h11 n11->∀Q':AV->AH->Nat->Prop,(∀h' n',Up h11 n11 h' n'->Q' (.b false) h' n')->CW (EF (K+410)) 15 [.agg (v.av C),.k 1,.i .i64 party,.agg (Ez v' at_ iy dp drv)] h11 n11 Q':=λh11 n11 yx Q' hq=>by
        have u9':=Ri.trans yx;exact UD (K+390) (hC.up u9') (by omega) hll (s9.up (rT.trans yx)) hv hp0 hp1 run ⟨hS.up u9',by omega,λx hx=>let⟨rs,a,b,c⟩:=l3 x hx;⟨rs,a.up (rT.trans yx),by omega,c⟩,hd.up u9',by omega,l5⟩ (λk a b t h1 h2 h3=>(safe k a b t h1 h2 h3).2) hq
       refine Q_ K (party:=party) (hC.up Ri) (by omega) (by omega) (s9.up rT) (λfe h11 n11 hfe hr yx=>?_) λ_ _ _ S' r h11 n11 run' r1 r2 r3 yx=>?_
       .have e11:=yx.le
        have g11:=(yx.old n (by omega)).trans g10;have Co:=(yx.old (n+1) (by omega)).trans RP;simp (disch:=omega) only[go_sem,simprocAttr,g11,Co,CS.av];rw[aR];refine cs _ _ yx _ λh12 n12 uP=>?_;simp (disch:=omega) only[go_sem,simprocAttr,decide_eq_false hfe];exact hQ _ _ ((Ri.trans yx).trans uP)
       .have e11:=yx.le
        have g11:=(yx.old n (by omega)).trans g10;have Co:=(yx.old (n+1) (by omega)).trans RP;have hr:r= -1:=Classical.byContradiction λhne=>by
         obtain⟨k,rfl⟩:=Int.eq_ofNat_of_zero_le (show 0<=r by omega);obtain⟨_,t,a,b,d1,d2,d3,_,d5⟩:=r1 k rfl;have hkl:=(List.getElem?_eq_some_iff.1 d1).1;have sm:=run'.same (k:=l.length) (by rw[List.take_length];exact run) (Nat.le_refl _);exact(safe k a b t (by rw[<-sm k (by omega)];exact d2) (by rw[<-sm (k+1) (by omega)];exact d3) d1).2 d5
        subst hr;simp (disch:=omega) only[go_sem,simprocAttr,g11,Co,CS.av];rw[aR];refine cs _ _ yx _ λh12 n12 uP=>?_;simp (disch:=omega) only[go_sem,simprocAttr];exact hQ _ _ ((Ri.trans yx).trans uP)
    .simp (disch:=omega) only[go_sem,simprocAttr,decide_eq_false hae]
     exact hQ _ _ u08
  .simp (disch:=omega) only[go_sem,simprocAttr,decide_eq_false he]
   exact hQ _ _ PE
end
end
end
section
open Go.RowKit
noncomputable section
section
variable (w:World)
def Gp:Value->Option AV
 | .bool x=>some (.b x)
 | .int k n=>some (.i k n)
 | .string s=>some (.s s.data.toList)
 | .slice none 0 0=>some (.k 1)
 | .slice (some a) n c=>if n=0 then some (.es a c)else if a.spot=none/\a.block<w.heap.size then some (.sl a.block 0 a.off n (some c))else none
 |_=>none
def mQ:List Value->Option (List AV)
 |[]=>some []
 |v::l=>match Gp w v,mQ l with
  |some a,some b=>some (a::b)
  |_,_=>none
def GI:Th:=λx=>if x<w.heap.size then some (x,0)else none
def WG(b:Nat):Option AO:=match w.heap[b]? with
 |some (.cells cs _ _)=>some (.ro λk m=>if k+m<=cs.size then mQ w ((cs.toList.drop k).take m)else none)
 |_=>none
def Na:Nat->AH
 |0=>.z
 |n+1=>match WG w n with
  |some o=>(Na n).set n o
  |none=>Na n
def hW:AH:=Na w w.heap.size
variable {w}
theorem Rj{v:Value}{a:AV}(e:Gp w v=some a):aV (GI w) a v/\v.oneCell'=true:=by
 unfold Gp at e;split at e
 .cases e;exact⟨rfl,rfl⟩
 .cases e;exact⟨rfl,rfl⟩
 .cases e
  rename_i s;obtain⟨d⟩:=s;exact⟨rfl,rfl⟩
 .cases e;exact⟨rfl,rfl⟩
 .rename_i a' n c
  split at e
  .rename_i h0;cases e;subst h0;exact⟨⟨_,_,rfl⟩,rfl⟩
  .split at e
   .rename_i h1
    cases e
    obtain⟨b,o,s⟩:=a';obtain⟨h2,h3⟩:=h1;dsimp only at h2 h3;subst h2;exact⟨⟨b,0,by unfold GI;rw[if_pos h3],λe=>(by cases e),rfl⟩,rfl⟩
   .cases e
 .cases e
theorem Bh:∀{l:List Value}{us:List AV},mQ w l=some us->fE (GI w) us l/\∀x∈l,x.oneCell'=true
 |[],_,e=>by cases e;exact⟨rfl,λx hx=>by cases hx⟩
 |v::l,us,e=>by
  unfold mQ at e;split at e
  .rename_i a b h1 h2
   cases e
   obtain⟨g1,g2⟩:=Rj h1;obtain⟨g3,g4⟩:=Bh h2;exact⟨⟨v,l,g1,g3,rfl⟩,λx hx=>by rcases List.mem_cons.1 hx with rfl|hx;exact g2;exact g4 x hx⟩
  .cases e
theorem wF:∀{l m:List Value}{us bs:List AV},mQ w l=some us->mQ w m=some bs->mQ w (l++m)=some (us++bs)
 |[],_,_,_,e,h=>by cases e;exact h
 |v::l,m,us,bs,e,h=>by
  unfold mQ at e;split at e
  .rename_i a b h1 h2
   cases e
   show mQ w (v::(l++m))=_;unfold mQ;rw[h1,wF h2 h];rfl
  .cases e
theorem Gq{α:Type}{f:α->List Value}{c:α->List AV}:∀{l:List α},(∀a∈l,mQ w (f a)=some (c a))->mQ w (l.flatMap f)=some (l.flatMap c)
 |[],_=>rfl
 |a::l,h=>by
  rw[List.flatMap_cons,List.flatMap_cons];exact wF (h a (List.mem_cons_self ..)) (Gq λb hb=>h b (List.mem_cons_of_mem _ hb))
theorem KV:∀{l:List Value}{us:List AV},mQ w l=some us->us.length=l.length:=λe=>(Bh e).1.length.symm
theorem UH{l:List Value}{us:List AV}(e:mQ w l=some us)(i m:Nat):mQ w ((l.drop i).take m)=some ((us.drop i).take m):=by
 induction l generalizing us i m with
 |nil=>cases e;simp;rfl
 |cons v l ih=>
  unfold mQ at e;split at e
  .rename_i a b h1 h2
   cases e
   cases i with
   |succ i=>exact ih h2 i m
   |zero=>
    cases m with
    |zero=>rfl
    |succ m=>
     have:=ih h2 0 m;rw[List.drop_zero,List.drop_zero]at this⊢;rw[List.take_succ_cons,List.take_succ_cons];unfold mQ;rw[h1,this]
  .cases e
theorem Bj:∀(n x:Nat),(Na w n).get x=if x<n then WG w x else none
 |0,x=>by unfold Na;rw[Tr.iL,if_neg (by omega)]
 |n+1,x=>by
  unfold Na;split
  .rename_i o ho
   rw[iR,Bj n x];by_cases h:x=n
   .rw[if_pos h,if_pos (by omega),h,ho]
   .rw[if_neg h]
    by_cases h2:x<n
    .rw[if_pos h2,if_pos (by omega)]
    .rw[if_neg h2,if_neg (by omega)]
  .rename_i ho
   rw[Bj n x];by_cases h:x=n
   .rw[if_neg (by omega),if_pos (by omega),h,ho]
   .by_cases h2:x<n
    .rw[if_pos h2,if_pos (by omega)]
    .rw[if_neg h2,if_neg (by omega)]
theorem EB(x:Nat):(hW w).get x=WG w x:=by
 unfold hW;rw[Bj];by_cases h:x<w.heap.size
 .rw[if_pos h]
 .rw[if_neg h]
  unfold WG;rw[Array.getElem?_eq_none (by omega)]
theorem JC{x:Nat}{o:AO}(e:WG w x=some o):∃cs t fz,w.heap[x]?=some (.cells cs t fz)/\o= .ro λk m=>if k+m<=cs.size then mQ w ((cs.toList.drop k).take m)else none:=by
 unfold WG at e;split at e
 .rename_i cs t fz h
  cases e
  exact⟨cs,t,fz,h,rfl⟩
 .cases e
theorem RH.world{P:Program}{sl:FuncId->Sl}(hT:Lib.TabIs P w "internal/strconv.uint64pow10" .u64 Lib.pow10Tab):RH P sl (GI w) (hW w) w.heap.size w where
 at_:=λx o e=>by
  rw[EB]at e;obtain⟨cs,t,fz,h1,rfl⟩:=JC e;refine⟨x,0,_,by unfold GI;rw[if_pos (bK h1)],h1,cs,t,fz,rfl,λk m l hl=>?_⟩;dsimp only at hl;split at hl
  .rename_i hle
   obtain⟨g1,g2⟩:=Bh hl;refine⟨_,g1,g2,λj v hv=>?_⟩;rw[List.getElem?_take]at hv;split at hv
   .rw[List.getElem?_drop]at hv
    rw[<-Array.getElem?_toList];exact hv
   .cases hv
  .cases hl
 inj:=λx y r c d _ _ e1 e2=>by
  unfold GI at e1 e2;split at e1
  .split at e2
   .cases e1;cases e2;rfl
   .cases e2
  .cases e1
 new:=λx hx=>by unfold GI;rw[if_neg (by omega)]
 gl:=λg e=>by
  unfold Lib.TabIs World.var? at hT;rw[e]at hT;replace hT:(match w.heap[g]? with|some (.cells cs _ _)=>some cs|_=>none)=some (Lib.pow10Tab.map λz=>Value.int .u64 z).toArray:=hT;split at hT
  .rename_i cs t fz h
   cases hT
   refine⟨t,fz,h,λ⟨x,c,hx,_⟩=>?_⟩;obtain⟨o,ho⟩:=Option.isSome_iff_exists.1 (gM hx);rw[ho]at hx;rw[EB]at ho;obtain⟨_,_,_,_,rfl⟩:=JC ho;cases hx
  .cases hT
theorem Zv{k:Nat}:¬Im (GI w) (hW w) k:=λ⟨x,c,hx,_⟩=>by
 obtain⟨o,ho⟩:=Option.isSome_iff_exists.1 (gM hx);rw[ho]at hx;rw[EB]at ho;obtain⟨_,_,_,_,rfl⟩:=JC ho;cases hx
theorem Nb{P:Program}{sl:FuncId->Sl}{O:OT}(hP:sF P)(hO:zV P sl O)(hT:Lib.TabIs P w "internal/strconv.uint64pow10" .u64 Lib.pow10Tab){k g:Nat}{avs:List AV}{vs:List Value}{Q:AV->AH->Nat->Prop}
 (e:CW (iU P sl O k) g avs (hW w) w.heap.size Q)(ha:fE (GI w) avs vs):Calls P g vs.toArray w λe w'=>∃v h' n' bW u,Q v h' n'/\e= .returned u/\aV bW v u/\Below w.heap.size w w':=by
 obtain⟨v,h',n',e1,e2⟩:=e;refine((qd hP hO k _ _ _ _ _ _ _ e1).2 (GI w) w vs (RH.world hT) ha).mono ?_;rintro e w' ⟨bW,u,rfl,h1,h2,F⟩;exact⟨v,h',n',bW,u,e2,rfl,h1,⟨F.os,F.tape,F.output,F.size,λk hk=>F.block k hk Zv⟩⟩
theorem Nc{b o:Nat}{cells:List Value}{us:List AV}(hb:b<w.heap.size)(hc:∀j v,cells[j]?=some v->w.cell? ⟨b,o+j,none⟩=some v)(h0:0<cells.length)(ha:mQ w cells=some us):LA ((hW w).get b) o us:=by
 have h1:∃cs t fz,w.heap[b]?=some (.cells cs t fz):=by
  obtain⟨v,hv⟩:∃v,cells[0]?=some v:=⟨cells[0],List.getElem?_eq_some_iff.2 ⟨h0,rfl⟩⟩;have:=hc 0 v hv;unfold World.cell? at this;split at this
  .exact⟨_,_,_,‹_›⟩
  .cases this
 obtain⟨cs,t,fz,h1⟩:=h1;have h2:WG w b=some (.ro λk m=>if k+m<=cs.size then mQ w ((cs.toList.drop k).take m)else none):=by unfold WG;rw[h1]
 have h3:∀j v,cells[j]?=some v->cs[o+j]?=some v:=λj v hv=>by
  have:=hc j v hv;unfold World.cell? at this;simpa only[h1,Option.isSome_none,Bool.false_eq_true,if_false]using this
 have hlen:o+cells.length<=cs.size:=by
  obtain⟨v,hv⟩:∃v,cells[cells.length - 1]?=some v:=⟨cells[cells.length - 1],List.getElem?_eq_some_iff.2 ⟨by omega,rfl⟩⟩;have:=(Array.getElem?_eq_some_iff.1 (h3 _ v hv)).1;omega
 have h4:(cs.toList.drop o).take cells.length=cells:=by
  apply List.ext_getElem?;intro j;rw[List.getElem?_take];by_cases hj:j<cells.length
  .rw[if_pos hj,List.getElem?_drop,Array.getElem?_toList]
   have hv:cells[j]?=some cells[j]:=List.getElem?_eq_getElem hj;rw[hv,h3 j _ hv]
  .rw[if_neg hj,List.getElem?_eq_none (by omega)]
 have hal:=KV ha;refine .inr ⟨_,(EB b).trans h2,λi m him=>?_⟩;rw[if_pos (by omega)];have h5:=UH ha i m;rw[<-h4,List.drop_take,List.take_take,List.drop_drop,Nat.min_eq_left (by omega)]at h5;exact h5
end
end
end
section
open Go.ChangeShapes Go.WideShapes Go.ChangeAt Go.RowKit Go.Deep
noncomputable section
theorem yJ{α:Type}{p:Nat->α->Prop}:∀(n:Nat),(∀i,i<n->∃a,p i a)->∃l:List α,l.length=n/\∀i a,l[i]?=some a->p i a
 |0,_=>⟨[],rfl,λi a h=>by simp at h⟩
 |n+1,h=>by
  obtain⟨l,hl,hp⟩:=yJ n (λi hi=>h i (by omega));obtain⟨a,ha⟩:=h n (by omega);refine⟨l++[a],by simp[hl],λi b hb=>?_⟩;rw[List.getElem?_append]at hb;split at hb
  .exact hp i b hb
  .rename_i hi
   have:i=n:=by
    by_cases e:i=n
    .exact e
    .rw[List.getElem?_eq_none (by simp;omega)]at hb;cases hb
   subst this;rw[hl,Nat.sub_self]at hb;simp at hb;subst hb;exact ha
theorem zip_unzip{α β:Type}:∀xs:List (α×β),(xs.map (·.1)).zip (xs.map (·.2))=xs
 |[]=>rfl
 |x::xs=>by simp[zip_unzip xs]
theorem CG{β γ:Type}{c:β->List γ}{size:Nat}:∀(xs:List β),(∀x∈xs,(c x).length=size)->∀(j:Nat)(v:γ),(xs.flatMap c)[j]?=some v->∃i r x,xs[i]?=some x/\j=i*size+r/\r<size/\(c x)[r]?=some v
 |[],_,j,v,h=>by simp at h
 |x::xs,hc,j,v,h=>by
  have hx:=hc x (List.mem_cons_self ..);rw[List.flatMap_cons,List.getElem?_append]at h;split at h
  .exact⟨0,j,x,rfl,by omega,by omega,h⟩
  .obtain⟨i,r,y,h1,h2,h3,h4⟩:=CG xs (λy hy=>hc y (List.mem_cons_of_mem _ hy)) _ v h
   exact⟨i+1,r,y,h1,by rw[Nat.succ_mul];omega,h3,h4⟩
theorem CJ{β γ:Type}{c:β->List γ}{size:Nat}(h:∀x,(c x).length=size):∀xs:List β,(xs.flatMap c).length=xs.length*size
 |[]=>by simp
 |y::ys=>by rw[List.flatMap_cons,List.length_append,h,CJ h ys,List.length_cons,Nat.succ_mul];omega
theorem Rk{w:World}{a:Addr}{n c:Nat}:Gp w (.slice (some a) n c)=if n=0 then some (.es a c)else if a.spot=none/\a.block<w.heap.size then some (.sl a.block 0 a.off n (some c))else none:=rfl
theorem bT{w:World}{v:Value}{l:List Value}{a:AV}{b:List AV}(h1:Gp w v=some a)(h2:mQ w l=some b):mQ w (v::l)=some (a::b):=by unfold mQ;rw[h1,h2]
theorem aeA{w:World}(s:ByteArray):Gp w (.string s)=some (.s s.toList):=by rw[ByteArray.toList_eq];rfl
section
variable {H:Type} {enc:TypeId×Value->H} {P:Program} {w:World} {spare:Nat->Bool} {held:Bool}
theorem jF{α:Type}(g:α->List AV)(G:α->Prop)(size:Nat)(hpos:0<size)(hg:∀a,(g a).length=size){t e:TypeId}(ht:P.underlying t=some (.slice e))(hC:P.cellsOf e=size)
 (dec:∀n cs y,DataW.trod enc P w 0 spare held n e cs=some y->∃a,mQ w cs=some (g a)/\G a){u:Value}{fuel:Nat}{x:DataW H×List MemPlace}(h:DataW.trod enc P w 0 spare held fuel t [u]=some x):
 ∃(a:AV)(xs:List α),Gp w u=some a/\SL (hW w) w.heap.size size a g xs/\∀a∈xs,G a:=by
 rcases open_slice ht h with⟨h0,_⟩|⟨a,l,c,m,n,D,Pl,hcs,_,hl,hm,hmm,_,hi⟩
 .cases h0
  exact⟨.k 1,[],rfl,⟨hg,.inl ⟨rfl,rfl,rfl⟩⟩,λa ha=>by cases ha⟩
 .cases hcs
  have hlm:l<=m:=by subst hmm;split<;>omega
  rw[hC]at hi;obtain⟨xs,hxl,hx⟩:=yJ (p:=λi (b:α×List Value)=>(∀j,j<size->w.cell? (a.add (i*size+j))=b.2[j]?)/\b.2.length=size/\mQ w b.2=some (g b.1)/\G b.1) l (λi hil=>by
   obtain⟨cs',hc,ht'⟩:=hi i (by omega);obtain⟨b,hb,hG⟩:=dec _ _ _ ht';obtain⟨_,hcl,hat⟩:=World.cells?_some hc;exact⟨(b,cs'),λj hj=>by rw[<-Go.Deep.add_add,hat j hj],hcl,hb,hG⟩)
  subst hxl;have hxm:∀b∈xs,b.2.length=size/\mQ w b.2=some (g b.1)/\G b.1:=λb hb=>by
   obtain⟨i,hi',he⟩:=List.mem_iff_getElem.1 hb;exact(hx i b (by rw[List.getElem?_eq_getElem hi',he])).2
  have hG:∀a∈xs.map (·.1),G a:=λb hb=>by
   obtain⟨y,hy,rfl⟩:=List.mem_map.1 hb;exact(hxm y hy).2.2
  have hcell:∀j v,(xs.flatMap (·.2))[j]?=some v->w.cell? (a.add j)=some v:=λj v hv=>by
   obtain⟨i,r,y,h1,rfl,h3,h4⟩:=CG xs (λy hy=>(hxm y hy).1) j v hv;rw[(hx i y h1).1 r h3,h4]
  have hab:mQ w (xs.flatMap (·.2))=some (xs.flatMap λb=>g b.1):=Gq λb hb=>(hxm b hb).2.1;have hfm:(xs.map (·.1)).flatMap g=xs.flatMap λb=>g b.1:=by rw[List.flatMap_map]
  have hlen:(xs.flatMap λb=>g b.1).length=xs.length*size:=CJ (λb=>hg b.1) xs;by_cases h0:xs.length=0
  .have hnil:xs=[]:=List.eq_nil_of_length_eq_zero h0
   subst hnil;exact⟨.es a c,[],by rw[Rk];exact if_pos rfl,⟨hg,.inr (.inr ⟨a,c,rfl,rfl,rfl⟩)⟩,λa ha=>by cases ha⟩
  .have hvl:=KV hab
   have hpl:0<xs.length*size:=Nat.mul_pos (by omega) hpos;obtain⟨v,hv⟩:∃v,(xs.flatMap (·.2))[0]?=some v:=⟨_,List.getElem?_eq_getElem (by omega)⟩;have hc0:=hcell 0 v hv;obtain⟨b,o,s⟩:=a;have hs:s=none/\b<w.heap.size:=by
    unfold World.cell? at hc0;split at hc0
    .rename_i h3
     refine⟨?_,bK h3⟩;cases s with
     |none=>rfl
     |some _=>simp[Addr.add]at hc0
    .cases hc0
   obtain⟨rfl,hb⟩:=hs;refine⟨.sl b 0 o xs.length (some c),xs.map (·.1),by rw[Rk,if_neg h0,if_pos ⟨rfl,hb⟩],⟨hg,.inr (.inl ⟨b,0,o,some c,by rw[List.length_map],hb,?_,by rw[hfm,hlen,List.length_map],λk e=>by cases e;rw[List.length_map];exact hl⟩)⟩,hG⟩;rw[hfm];exact Nc hb (λj v hv=>by have:=hcell j v hv;rwa [Addr.add_mid]at this) (by omega) hab
end
section
variable {H:Type} {enc:TypeId×Value->H} {w:World} {spare:Nat->Bool} {held:Bool}
theorem Rl:Tryz.prog.cellsOf 3=1:=by kernel_rfl
theorem Rm:Tryz.prog.cellsOf 4=1:=by kernel_rfl
theorem Zw:Tryz.prog.cellsOf 9=1:=by kernel_rfl
theorem UJ:Tryz.prog.cellsOf 36=2:=by kernel_rfl
theorem Gs:Tryz.prog.cellsOf 161=7:=by kernel_rfl
theorem Gt:Tryz.prog.cellsOf 217=2:=by kernel_rfl
theorem Gu:Tryz.prog.cellsOf 159=5:=by kernel_rfl
theorem Gv:Tryz.prog.cellsOf 122=16:=by kernel_rfl
theorem zD:Tryz.prog.cellsOf 22=1:=by kernel_rfl
theorem Rn:Tryz.prog.cellsOf 120=1:=by kernel_rfl
theorem UK:Tryz.prog.cellsOf 23=1:=by kernel_rfl
theorem UL:Tryz.prog.cellsOf 24=1:=by kernel_rfl
theorem UM:Tryz.prog.cellsOf 25=1:=by kernel_rfl
theorem UN:Tryz.prog.cellsOf 27=7:=by kernel_rfl
theorem take1{cs:List Value}{k:Nat}{v:Value}(h:(cs.drop k).take 1=[v]):cs[k]?=some v:=by
 have:((cs.drop k).take 1)[0]?=some v:=by rw[h];rfl
 rw[List.getElem?_take]at this;simpa using this
theorem r9{m i k:Nat}{cs:List Value}{xs:List (DataW H×List MemPlace)}(h:DataW.trod enc Tryz.prog w 0 spare held m 3 ((cs.drop k).take (Tryz.prog.cellsOf 3))=xs[i]?)(hi:i<xs.length):∃z,cs[k]?=some (.int .i64 z):=by
 rw[List.getElem?_eq_getElem hi,Rl]at h;obtain⟨v,e,_⟩:=DataW.trod_int Tryz.underlying3 h;exact⟨v,take1 e⟩
theorem f_b{m i k:Nat}{cs:List Value}{xs:List (DataW H×List MemPlace)}(h:DataW.trod enc Tryz.prog w 0 spare held m 4 ((cs.drop k).take (Tryz.prog.cellsOf 4))=xs[i]?)(hi:i<xs.length):∃z,cs[k]?=some (.bool z):=by
 rw[List.getElem?_eq_getElem hi,Rm]at h;obtain⟨v,e,_⟩:=DataW.trod_bool Tryz.underlying4 h;exact⟨v,take1 e⟩
theorem f_s{m i k:Nat}{cs:List Value}{xs:List (DataW H×List MemPlace)}(h:DataW.trod enc Tryz.prog w 0 spare held m 9 ((cs.drop k).take (Tryz.prog.cellsOf 9))=xs[i]?)(hi:i<xs.length):∃z,cs[k]?=some (.string z):=by
 rw[List.getElem?_eq_getElem hi,Zw]at h;obtain⟨v,e,_⟩:=DataW.trod_string Tryz.underlying9 h;exact⟨v,take1 e⟩
theorem Nf{m i k:Nat}{t:TypeId}{cs:List Value}{xs:List (DataW H×List MemPlace)}(hi:i<xs.length)(hk:k<cs.length)(hc:Tryz.prog.cellsOf t=1)(h:DataW.trod enc Tryz.prog w 0 spare held m t ((cs.drop k).take (Tryz.prog.cellsOf t))=xs[i]?):∃u,cs[k]?=some u/\∃y,DataW.trod enc Tryz.prog w 0 spare held m t [u]=some y:=by
 rw[List.getElem?_eq_getElem hi,hc]at h;have e:(cs.drop k).take 1=[cs[k]]:=by rw[List.drop_eq_getElem_cons hk];rfl
 rw[e]at h;exact⟨_,List.getElem?_eq_getElem hk,_,h⟩
theorem f_r{m i k:Nat}{cs:List Value}{xs:List (DataW H×List MemPlace)}(h:DataW.trod enc Tryz.prog w 0 spare held m 36 ((cs.drop k).take (Tryz.prog.cellsOf 36))=xs[i]?)(hi:i<xs.length):∃p q,cs[k]?=some (.int .i64 p)/\cs[k+1]?=some (.int .i64 q):=by
 rw[List.getElem?_eq_getElem hi,UJ]at h;obtain⟨ys,m',_,_,hl,hy,hf⟩:=DataW.trod_struct Tryz.underlying36 h;have hy:ys.length=2:=hy;obtain⟨p,e1⟩:=r9 (k:=0) (hf 0 _ rfl) (by omega);obtain⟨q,e2⟩:=r9 (k:=1) (hf 1 _ rfl) (by omega);rw[List.getElem?_take]at e1 e2;refine⟨p,q,?_,?_⟩
 .simpa using e1
 .simpa [List.getElem?_drop]using e2
theorem UO{m:Nat}{cs:List Value}{y:DataW H×List MemPlace}(h:DataW.trod enc Tryz.prog w 0 spare held m 3 cs=some y):∃a:Int,mQ w cs=some [AV.i .i64 a]:=by
 obtain⟨v,rfl,_⟩:=DataW.trod_int Tryz.underlying3 h;exact⟨v,rfl⟩
set_option maxRecDepth 100000 in
theorem UQ{m:Nat}{cs:List Value}{y:DataW H×List MemPlace}(h:DataW.trod enc Tryz.prog w 0 spare held m 161 cs=some y):∃a:dM,mQ w cs=some a.av:=by
 obtain⟨xs,m,_,_,hl,hx,hf⟩:=DataW.trod_struct Tryz.underlying161 h;have hx:xs.length=6:=hx;rw[Gs]at hl
 match cs,hl with
 |[c0,c1,c2,c3,c4,c5,c6],_=>
  obtain⟨v0,e0⟩:=r9 (k:=0) (hf 0 _ rfl) (by omega);cases e0
  obtain⟨v1,e1⟩:=r9 (k:=1) (hf 1 _ rfl) (by omega);cases e1
  obtain⟨v2,e2⟩:=r9 (k:=2) (hf 2 _ rfl) (by omega);cases e2
  obtain⟨v3,e3⟩:=r9 (k:=3) (hf 3 _ rfl) (by omega);cases e3
  obtain⟨v4,e4⟩:=r9 (k:=4) (hf 4 _ rfl) (by omega);cases e4
  obtain⟨p5,q5,e5,g5⟩:=f_r (k:=5) (hf 5 _ rfl) (by omega);cases e5;cases g5
  exact⟨⟨v0,v1,v2,v3,v4,⟨p5,q5⟩⟩,bT rfl (bT rfl (bT rfl (bT rfl (bT rfl (bT rfl (bT rfl (rfl)))))))⟩
set_option maxRecDepth 100000 in
theorem Ro{m:Nat}{cs:List Value}{y:DataW H×List MemPlace}(h:DataW.trod enc Tryz.prog w 0 spare held m 217 cs=some y):∃a:bU,mQ w cs=some a.av:=by
 obtain⟨xs,m,_,_,hl,hx,hf⟩:=DataW.trod_struct Tryz.underlying217 h;have hx:xs.length=2:=hx;rw[Gt]at hl
 match cs,hl with
 |[c0,c1],_=>
  obtain⟨v0,e0⟩:=r9 (k:=0) (hf 0 _ rfl) (by omega);cases e0
  obtain⟨v1,e1⟩:=r9 (k:=1) (hf 1 _ rfl) (by omega);cases e1
  exact⟨⟨v0,v1⟩,bT rfl (bT rfl (rfl))⟩
set_option maxRecDepth 100000 in
theorem Rp{m:Nat}{cs:List Value}{y:DataW H×List MemPlace}(h:DataW.trod enc Tryz.prog w 0 spare held m 159 cs=some y):∃a:dP,mQ w cs=some a.av:=by
 obtain⟨xs,m,_,_,hl,hx,hf⟩:=DataW.trod_struct Tryz.underlying159 h;have hx:xs.length=4:=hx;rw[Gu]at hl
 match cs,hl with
 |[c0,c1,c2,c3,c4],_=>
  obtain⟨v0,e0⟩:=f_s (k:=0) (hf 0 _ rfl) (by omega);cases e0
  obtain⟨v1,e1⟩:=r9 (k:=1) (hf 1 _ rfl) (by omega);cases e1
  obtain⟨v2,e2⟩:=r9 (k:=2) (hf 2 _ rfl) (by omega);cases e2
  obtain⟨p3,q3,e3,g3⟩:=f_r (k:=3) (hf 3 _ rfl) (by omega);cases e3;cases g3
  exact⟨⟨v0,v1,v2,⟨p3,q3⟩⟩,bT (aeA _) (bT rfl (bT rfl (bT rfl (bT rfl (rfl)))))⟩
set_option maxRecDepth 100000 in
theorem JD{m:Nat}{u:Value}{y:DataW H×List MemPlace}(h:DataW.trod enc Tryz.prog w 0 spare held m 120 [u]=some y):∃(t:AV)(l:List bU),Gp w u=some t/\SL (hW w) w.heap.size 2 t bU.av l:=by
 obtain⟨t,l,h1,h2,_⟩:=jF bU.av (λ_=>True) 2 (by omega) (λ_=>rfl) Tryz.underlying120 Gt (λn cs y h=>by obtain⟨a,ha⟩:=Ro h;exact⟨a,ha,trivial⟩) h;exact⟨t,l,h1,h2⟩
set_option maxRecDepth 100000 in
theorem JE{m:Nat}{u:Value}{y:DataW H×List MemPlace}(h:DataW.trod enc Tryz.prog w 0 spare held m 23 [u]=some y):∃(t:AV)(l:List dP),Gp w u=some t/\SL (hW w) w.heap.size 5 t dP.av l:=by
 obtain⟨t,l,h1,h2,_⟩:=jF dP.av (λ_=>True) 5 (by omega) (λ_=>rfl) Tryz.underlying23 Gu (λn cs y h=>by obtain⟨a,ha⟩:=Rp h;exact⟨a,ha,trivial⟩) h;exact⟨t,l,h1,h2⟩
set_option maxRecDepth 100000 in
theorem Ng{m:Nat}{u:Value}{y:DataW H×List MemPlace}(h:DataW.trod enc Tryz.prog w 0 spare held m 24 [u]=some y):∃(t:AV)(l:List dM),Gp w u=some t/\SL (hW w) w.heap.size 7 t dM.av l:=by
 obtain⟨t,l,h1,h2,_⟩:=jF dM.av (λ_=>True) 7 (by omega) (λ_=>rfl) Tryz.underlying24 Gs (λn cs y h=>by obtain⟨a,ha⟩:=UQ h;exact⟨a,ha,trivial⟩) h;exact⟨t,l,h1,h2⟩
set_option maxRecDepth 100000 in
theorem nO{m:Nat}{u:Value}{y:DataW H×List MemPlace}(h:DataW.trod enc Tryz.prog w 0 spare held m 22 [u]=some y):∃(t:AV)(l:List Int),Gp w u=some t/\SL (hW w) w.heap.size 1 t (λx:Int=>[AV.i .i64 x]) l:=by
 obtain⟨t,l,h1,h2,_⟩:=jF (λx:Int=>[AV.i .i64 x]) (λ_=>True) 1 (by omega) (λ_=>rfl) Tryz.underlying22 Rl (λn cs y h=>by obtain⟨a,ha⟩:=UO h;exact⟨a,ha,trivial⟩) h;exact⟨t,l,h1,h2⟩
set_option maxRecDepth 100000 in
theorem JF{m:Nat}{cs:List Value}{y:DataW H×List MemPlace}(h:DataW.trod enc Tryz.prog w 0 spare held m 122 cs=some y):∃a:aG×AV,mQ w cs=some (a.1.av a.2)/\SL (hW w) w.heap.size 2 a.2 bU.av a.1.start:=by
 obtain⟨xs,m,_,_,hl,hx,hf⟩:=DataW.trod_struct Tryz.underlying122 h;have hx:xs.length=15:=hx;rw[Gv]at hl
 match cs,hl with
 |[c0,c1,c2,c3,c4,c5,c6,c7,c8,c9,c10,c11,c12,c13,c14,c15],_=>
  obtain⟨v0,e0⟩:=r9 (k:=0) (hf 0 _ rfl) (by omega);cases e0
  obtain⟨v1,e1⟩:=r9 (k:=1) (hf 1 _ rfl) (by omega);cases e1
  obtain⟨v2,e2⟩:=r9 (k:=2) (hf 2 _ rfl) (by omega);cases e2
  obtain⟨v3,e3⟩:=r9 (k:=3) (hf 3 _ rfl) (by omega);cases e3
  obtain⟨u4,e4,Zx⟩:=Nf (k:=4) (by omega:4<xs.length) (by simp) Rn (hf 4 _ rfl);cases e4
  obtain⟨y4,Zx⟩:=Zx;obtain⟨t4,v4,a4,s4⟩:=JD Zx;obtain⟨v5,e5⟩:=r9 (k:=5) (hf 5 _ rfl) (by omega);cases e5
  obtain⟨v6,e6⟩:=r9 (k:=6) (hf 6 _ rfl) (by omega);cases e6
  obtain⟨v7,e7⟩:=f_b (k:=7) (hf 7 _ rfl) (by omega);cases e7
  obtain⟨v8,e8⟩:=f_b (k:=8) (hf 8 _ rfl) (by omega);cases e8
  obtain⟨v9,e9⟩:=r9 (k:=9) (hf 9 _ rfl) (by omega);cases e9
  obtain⟨v10,e10⟩:=r9 (k:=10) (hf 10 _ rfl) (by omega);cases e10
  obtain⟨p11,Co,e11,g11⟩:=f_r (k:=11) (hf 11 _ rfl) (by omega);cases e11;cases g11
  obtain⟨v12,e12⟩:=r9 (k:=13) (hf 12 _ rfl) (by omega);cases e12
  obtain⟨v13,e13⟩:=r9 (k:=14) (hf 13 _ rfl) (by omega);cases e13
  obtain⟨v14,e14⟩:=f_b (k:=15) (hf 14 _ rfl) (by omega);cases e14
  exact⟨(⟨v0,v1,v2,v3,v4,v5,v6,v7,v8,v9,v10,⟨p11,Co⟩,v12,v13,v14⟩,t4),bT rfl (bT rfl (bT rfl (bT rfl (bT a4 (bT rfl (bT rfl (bT rfl (bT rfl (bT rfl (bT rfl (bT rfl (bT rfl (bT rfl (bT rfl (bT rfl (rfl)))))))))))))))),s4⟩
set_option maxRecDepth 100000 in
theorem EC{m:Nat}{u:Value}{y:DataW H×List MemPlace}(h:DataW.trod enc Tryz.prog w 0 spare held m 25 [u]=some y):∃(t:AV)(l:List aG),Gp w u=some t/\∃ss,yu (hW w) w.heap.size t l ss:=by
 obtain⟨t,l,h1,h2,h3⟩:=jF (λa:aG×AV=>a.1.av a.2) (λa=>SL (hW w) w.heap.size 2 a.2 bU.av a.1.start) 16 (by omega) (λ_=>rfl) Tryz.underlying25 Gv (λn cs y h=>JF h) h;refine⟨t,l.map (·.1),h1,l.map (·.2),by simp,?_,λi k t e1 e2=>?_⟩
 .rw[zip_unzip,List.length_map];exact h2.2
 .rw[List.getElem?_map]at e1 e2
  cases hl:l[i]? with
  |none=>rw[hl]at e1;cases e1
  |some a=>
   rw[hl]at e1 e2;cases e1;cases e2;exact h3 a (List.mem_of_getElem? hl)
set_option maxRecDepth 100000 in
theorem UR{m:Nat}{cs:List Value}{y:DataW H×List MemPlace}(h:DataW.trod enc Tryz.prog w 0 spare held m 27 cs=some y):∃(v:CS)(C:ay),mQ w cs=some (v.av C)/\aY (hW w) w.heap.size v C:=by
 obtain⟨xs,m,_,_,hl,hx,hf⟩:=DataW.trod_struct Tryz.underlying27 h;have hx:xs.length=7:=hx;rw[UN]at hl
 match cs,hl with
 |[c0,c1,c2,c3,c4,c5,c6],_=>
  obtain⟨v0,e0⟩:=r9 (k:=0) (hf 0 _ rfl) (by omega);cases e0
  obtain⟨u1,e1,hu1⟩:=Nf (k:=1) (by omega:1<xs.length) (by simp) zD (hf 1 _ rfl);cases e1
  obtain⟨y1,hu1⟩:=hu1;obtain⟨t1,v1,a1,s1⟩:=nO hu1;obtain⟨u2,e2,hu2⟩:=Nf (k:=2) (by omega:2<xs.length) (by simp) UK (hf 2 _ rfl);cases e2
  obtain⟨y2,hu2⟩:=hu2;obtain⟨t2,v2,a2,s2⟩:=JE hu2;obtain⟨u3,e3,hu3⟩:=Nf (k:=3) (by omega:3<xs.length) (by simp) UL (hf 3 _ rfl);cases e3
  obtain⟨y3,hu3⟩:=hu3;obtain⟨t3,v3,a3,s3⟩:=Ng hu3;obtain⟨u4,e4,Zx⟩:=Nf (k:=4) (by omega:4<xs.length) (by simp) UM (hf 4 _ rfl);cases e4
  obtain⟨y4,Zx⟩:=Zx;obtain⟨t4,v4,a4,s4⟩:=EC Zx;obtain⟨v5,e5⟩:=r9 (k:=5) (hf 5 _ rfl) (by omega);cases e5
  obtain⟨u6,e6,hu6⟩:=Nf (k:=6) (by omega:6<xs.length) (by simp) zD (hf 6 _ rfl);cases e6
  obtain⟨y6,hu6⟩:=hu6;obtain⟨t6,v6,a6,s6⟩:=nO hu6;exact⟨⟨t1,t2,t3,t4,t6⟩,⟨v0,v1,v2,v3,v4,v5,v6⟩,bT rfl (bT a1 (bT a2 (bT a3 (bT a4 (bT rfl (bT a6 (rfl))))))),⟨s1,s2,s3,s4,s6⟩⟩
set_option maxRecDepth 100000 in
theorem Rq{v:Value}{d:DataW H}{p:List MemPlace}{r:Go.Reach}{base:Nat}(hv:Value.okWide Tryz.prog w r base 27 v)(h:DataW.Trod enc Tryz.prog w 0 (λ_=>true) true 27 v d p):∃(cv:CS)(C:ay),aV (GI w) (.agg (cv.av C)) v/\aY (hW w) w.heap.size cv C:=by
 obtain⟨cs,rfl,_⟩:=okWide_struct Tryz.underlying27 hv;obtain⟨fuel,hf⟩:=h;obtain⟨cv,C,hy,hC⟩:=UR hf;obtain⟨l⟩:=cs;obtain⟨h1,h2⟩:=Bh hy;exact⟨cv,C,⟨_,h1,h2,rfl⟩,hC⟩
set_option maxRecDepth 100000 in
theorem open_ints{v:Value}{d:DataW H}{p:List MemPlace}{r:Go.Reach}{base:Nat}(hv:Value.okWide Tryz.prog w r base 22 v)(h:DataW.Trod enc Tryz.prog w 0 (λ_=>true) true 22 v d p):∃(t:AV)(l:List Int),aV (GI w) t v/\SL (hW w) w.heap.size 1 t (λx:Int=>[AV.i .i64 x]) l:=by
 obtain⟨A,len,cap,rfl⟩:=okWide_slice Tryz.underlying22 hv;obtain⟨fuel,hf⟩:=h;obtain⟨t,l,h1,h2⟩:=nO (show DataW.trod enc Tryz.prog w 0 (λ_=>true) true fuel 22 [.slice A len cap]=some _ from hf);exact⟨t,l,(Rj h1).1,h2⟩
end
end
end
open Go.ChangeShapes Go.WideShapes Go.ChangeAt Go.RowKit Go.Deep
noncomputable section
section
variable {H:Type} {enc:TypeId×Value->H} {w:World} {spare:Nat->Bool} {held:Bool}
theorem f_n{m i k c:Nat}{t:TypeId}{cs:List Value}{xs:List (DataW H×List MemPlace)}(hi:i<xs.length)(hc:Tryz.prog.cellsOf t=c)(h:DataW.trod enc Tryz.prog w 0 spare held m t ((cs.drop k).take (Tryz.prog.cellsOf t))=xs[i]?):∃y,DataW.trod enc Tryz.prog w 0 spare held m t ((cs.drop k).take c)=some y:=by
 rw[List.getElem?_eq_getElem hi,hc]at h;exact⟨_,h⟩
theorem Gw:Tryz.prog.cellsOf 185=5:=by kernel_rfl
theorem UU:Tryz.prog.cellsOf 74=1:=by kernel_rfl
theorem UW:Tryz.prog.cellsOf 75=1:=by kernel_rfl
theorem KW:Tryz.prog.cellsOf 77=4:=by kernel_rfl
theorem Bl:Tryz.prog.cellsOf 114=5:=by kernel_rfl
theorem Gx:Tryz.prog.cellsOf 116=6:=by kernel_rfl
theorem UY:Tryz.prog.cellsOf 57=1:=by kernel_rfl
theorem Gy:Tryz.prog.cellsOf 118=7:=by kernel_rfl
theorem UZ:Tryz.prog.cellsOf 47=1:=by kernel_rfl
theorem KX:Tryz.prog.cellsOf 59=2:=by kernel_rfl
theorem U0:Tryz.prog.cellsOf 46=1:=by kernel_rfl
theorem KY:Tryz.prog.cellsOf 49=2:=by kernel_rfl
theorem U1:Tryz.prog.cellsOf 51=5:=by kernel_rfl
set_option maxRecDepth 100000 in
theorem Rs{m:Nat}{cs:List Value}{y:DataW H×List MemPlace}(h:DataW.trod enc Tryz.prog w 0 spare held m 185 cs=some y):∃a:aA,mQ w cs=some a.av:=by
 obtain⟨xs,m,_,_,hl,hx,hf⟩:=DataW.trod_struct Tryz.underlying185 h;have hx:xs.length=5:=hx;rw[Gw]at hl
 match cs,hl with
 |[c0,c1,c2,c3,c4],_=>
  obtain⟨v0,e0⟩:=r9 (k:=0) (hf 0 _ rfl) (by omega);cases e0
  obtain⟨v1,e1⟩:=r9 (k:=1) (hf 1 _ rfl) (by omega);cases e1
  obtain⟨v2,e2⟩:=r9 (k:=2) (hf 2 _ rfl) (by omega);cases e2
  obtain⟨v3,e3⟩:=r9 (k:=3) (hf 3 _ rfl) (by omega);cases e3
  obtain⟨v4,e4⟩:=f_b (k:=4) (hf 4 _ rfl) (by omega);cases e4
  exact⟨⟨v0,v1,v2,v3,v4⟩,bT rfl (bT rfl (bT rfl (bT rfl (bT rfl (rfl)))))⟩
set_option maxRecDepth 100000 in
theorem JG{m:Nat}{u:Value}{y:DataW H×List MemPlace}(h:DataW.trod enc Tryz.prog w 0 spare held m 75 [u]=some y):∃(t:AV)(l:List aA),Gp w u=some t/\SL (hW w) w.heap.size 5 t aA.av l:=by
 obtain⟨t,l,h1,h2,_⟩:=jF aA.av (λ_=>True) 5 (by omega) (λ_=>rfl) Tryz.underlying75 Gw (λn cs y h=>by obtain⟨a,ha⟩:=Rs h;exact⟨a,ha,trivial⟩) h;exact⟨t,l,h1,h2⟩
theorem Rt{m:Nat}{cs:List Value}{y:DataW H×List MemPlace}(h:DataW.trod enc Tryz.prog w 0 spare held m 4 cs=some y):∃a:Bool,mQ w cs=some [AV.b a]:=by
 obtain⟨v,rfl,_⟩:=DataW.trod_bool Tryz.underlying4 h;exact⟨v,rfl⟩
set_option maxRecDepth 100000 in
theorem JH{m:Nat}{u:Value}{y:DataW H×List MemPlace}(h:DataW.trod enc Tryz.prog w 0 spare held m 74 [u]=some y):∃(t:AV)(l:List Bool),Gp w u=some t/\SL (hW w) w.heap.size 1 t (λx:Bool=>[AV.b x]) l:=by
 obtain⟨t,l,h1,h2,_⟩:=jF (λx:Bool=>[AV.b x]) (λ_=>True) 1 (by omega) (λ_=>rfl) Tryz.underlying74 Rm (λn cs y h=>by obtain⟨a,ha⟩:=Rt h;exact⟨a,ha,trivial⟩) h;exact⟨t,l,h1,h2⟩
set_option maxRecDepth 100000 in
theorem Nh{m:Nat}{cs:List Value}{y:DataW H×List MemPlace}(h:DataW.trod enc Tryz.prog w 0 spare held m 77 cs=some y):∃(t:TS)(a:aI),mQ w cs=some (t.av a)/\bI (hW w) w.heap.size t a:=by
 obtain⟨xs,m,_,_,hl,hx,hf⟩:=DataW.trod_struct Tryz.underlying77 h;have hx:xs.length=4:=hx;rw[KW]at hl
 match cs,hl with
 |[c0,c1,c2,c3],_=>
  obtain⟨v0,e0⟩:=r9 (k:=0) (hf 0 _ rfl) (by omega);cases e0
  obtain⟨u1,e1,hu1⟩:=Nf (k:=1) (by omega:1<xs.length) (by simp) zD (hf 1 _ rfl);cases e1
  obtain⟨y1,hu1⟩:=hu1;obtain⟨t1,v1,a1,s1⟩:=nO hu1;obtain⟨u2,e2,hu2⟩:=Nf (k:=2) (by omega:2<xs.length) (by simp) UU (hf 2 _ rfl);cases e2
  obtain⟨y2,hu2⟩:=hu2;obtain⟨t2,v2,a2,s2⟩:=JH hu2;obtain⟨u3,e3,hu3⟩:=Nf (k:=3) (by omega:3<xs.length) (by simp) UW (hf 3 _ rfl);cases e3
  obtain⟨y3,hu3⟩:=hu3;obtain⟨t3,v3,a3,s3⟩:=JG hu3;exact⟨⟨t1,t2,t3⟩,⟨v0,v1,v2,v3⟩,bT rfl (bT a1 (bT a2 (bT a3 (rfl)))),⟨s1,s2,s3⟩⟩
set_option maxRecDepth 100000 in
theorem KZ{m:Nat}{cs:List Value}{y:DataW H×List MemPlace}(h:DataW.trod enc Tryz.prog w 0 spare held m 114 cs=some y):∃(t:TS)(p:aN),mQ w cs=some (t.pv p)/\bI (hW w) w.heap.size t p.st:=by
 obtain⟨xs,m,_,_,hl,hx,hf⟩:=DataW.trod_struct Tryz.underlying114 h;have hx:xs.length=2:=hx;rw[Bl]at hl
 match cs,hl with
 |[c0,c1,c2,c3,c4],_=>
  obtain⟨y0,h0⟩:=f_n (k:=0) (by omega:0<xs.length) KW (hf 0 _ rfl);obtain⟨t,s,a0,g0⟩:=Nh (show DataW.trod enc Tryz.prog w 0 spare held m 77 [c0,c1,c2,c3]=some _ from h0);obtain⟨v1,e1⟩:=f_b (k:=4) (hf 1 _ rfl) (by omega);cases e1
  exact⟨t,⟨s,v1⟩,(wF a0 (bT rfl rfl)),g0⟩
set_option maxRecDepth 100000 in
theorem Ru{m:Nat}{cs:List Value}{y:DataW H×List MemPlace}(h:DataW.trod enc Tryz.prog w 0 spare held m 116 cs=some y):∃x:TS×dU,mQ w cs=some (A_ x)/\bI (hW w) w.heap.size x.1 x.2.pos.st/\x.2.rank=0:=by
 obtain⟨xs,m,_,_,hl,hx,hf⟩:=DataW.trod_struct Tryz.underlying116 h;have hx:xs.length=2:=hx;rw[Gx]at hl
 match cs,hl with
 |[c0,c1,c2,c3,c4,c5],_=>
  obtain⟨y0,h0⟩:=f_n (k:=0) (by omega:0<xs.length) Bl (hf 0 _ rfl);obtain⟨t,p,a0,g0⟩:=KZ (show DataW.trod enc Tryz.prog w 0 spare held m 114 [c0,c1,c2,c3,c4]=some _ from h0);obtain⟨v1,e1⟩:=r9 (k:=5) (hf 1 _ rfl) (by omega);cases e1
  exact⟨(t,⟨p,v1,0⟩),(wF a0 (bT rfl rfl)),g0,rfl⟩
set_option maxRecDepth 100000 in
theorem Rv{m:Nat}{cs:List Value}{y:DataW H×List MemPlace}(h:DataW.trod enc Tryz.prog w 0 spare held m 118 cs=some y):∃x:TS×dU,mQ w cs=some (Eo x)/\bI (hW w) w.heap.size x.1 x.2.pos.st:=by
 obtain⟨xs,m,_,_,hl,hx,hf⟩:=DataW.trod_struct Tryz.underlying118 h;have hx:xs.length=3:=hx;rw[Gy]at hl
 match cs,hl with
 |[c0,c1,c2,c3,c4,c5,c6],_=>
  obtain⟨y0,h0⟩:=f_n (k:=0) (by omega:0<xs.length) Bl (hf 0 _ rfl);obtain⟨t,p,a0,g0⟩:=KZ (show DataW.trod enc Tryz.prog w 0 spare held m 114 [c0,c1,c2,c3,c4]=some _ from h0);obtain⟨v1,e1⟩:=r9 (k:=5) (hf 1 _ rfl) (by omega);cases e1
  obtain⟨v2,e2⟩:=r9 (k:=6) (hf 2 _ rfl) (by omega);cases e2
  exact⟨(t,⟨p,v2,v1⟩),(wF a0 (bT rfl (bT rfl rfl))),g0⟩
theorem JI{m:Nat}{u:Value}{y:DataW H×List MemPlace}(h:DataW.trod enc Tryz.prog w 0 spare held m 57 [u]=some y):∃(t:AV)(rs:List (TS×dU)),Gp w u=some t/\iJ (hW w) w.heap.size 6 t A_ rs/\∀x∈rs,x.2.rank=0:=by
 obtain⟨t,l,h1,h2,h3⟩:=jF A_ (λx=>bI (hW w) w.heap.size x.1 x.2.pos.st/\x.2.rank=0) 6 (by omega) (λ_=>rfl) Tryz.underlying57 Gx (λn cs y h=>Ru h) h;exact⟨t,l,h1,⟨h2,λx hx=>(h3 x hx).1⟩,λx hx=>(h3 x hx).2⟩
theorem JJ{m:Nat}{u:Value}{y:DataW H×List MemPlace}(h:DataW.trod enc Tryz.prog w 0 spare held m 47 [u]=some y):∃(t:AV)(rs:List (TS×dU)),Gp w u=some t/\iJ (hW w) w.heap.size 7 t Eo rs:=by
 obtain⟨t,l,h1,h2,h3⟩:=jF Eo (λx=>bI (hW w) w.heap.size x.1 x.2.pos.st) 7 (by omega) (λ_=>rfl) Tryz.underlying47 Gy (λn cs y h=>Rv h) h;exact⟨t,l,h1,h2,h3⟩
set_option maxRecDepth 100000 in
theorem JK{m:Nat}{cs:List Value}{y:DataW H×List MemPlace}(h:DataW.trod enc Tryz.prog w 0 spare held m 59 cs=some y):∃s:Int×AV,mQ w cs=some (Ey s)/\∃rs,iJ (hW w) w.heap.size 6 s.2 A_ rs/\∀x∈rs,x.2.rank=0:=by
 obtain⟨xs,m,_,_,hl,hx,hf⟩:=DataW.trod_struct Tryz.underlying59 h;have hx:xs.length=2:=hx;rw[KX]at hl
 match cs,hl with
 |[c0,c1],_=>
  obtain⟨v0,e0⟩:=r9 (k:=0) (hf 0 _ rfl) (by omega);cases e0
  obtain⟨u1,e1,hu1⟩:=Nf (k:=1) (by omega:1<xs.length) (by simp) UY (hf 1 _ rfl);cases e1
  obtain⟨y1,hu1⟩:=hu1;obtain⟨t1,v1,a1,s1⟩:=JI hu1;exact⟨(v0,t1),bT rfl (bT a1 (rfl)),v1,s1⟩
theorem ED{m:Nat}{u:Value}{y:DataW H×List MemPlace}(h:DataW.trod enc Tryz.prog w 0 spare held m 46 [u]=some y):∃(t:AV)(ss:List (Int×AV)),Gp w u=some t/\SL (hW w) w.heap.size 2 t Ey ss/\∀s∈ss,∃rs,iJ (hW w) w.heap.size 6 s.2 A_ rs/\∀x∈rs,x.2.rank=0:=jF Ey (λs=>∃rs,iJ (hW w) w.heap.size 6 s.2 A_ rs/\∀x∈rs,x.2.rank=0) 2 (by omega) (λ_=>rfl) Tryz.underlying46 KX (λn cs y h=>JK h) h
set_option maxRecDepth 100000 in
theorem Rw{m:Nat}{cs:List Value}{y:DataW H×List MemPlace}(h:DataW.trod enc Tryz.prog w 0 spare held m 49 cs=some y):∃s:Int×AV,mQ w cs=some (Ey s)/\∃rs,iJ (hW w) w.heap.size 7 s.2 Eo rs:=by
 obtain⟨xs,m,_,_,hl,hx,hf⟩:=DataW.trod_struct Tryz.underlying49 h;have hx:xs.length=2:=hx;rw[KY]at hl
 match cs,hl with
 |[c0,c1],_=>
  obtain⟨v0,e0⟩:=r9 (k:=0) (hf 0 _ rfl) (by omega);cases e0
  obtain⟨u1,e1,hu1⟩:=Nf (k:=1) (by omega:1<xs.length) (by simp) UZ (hf 1 _ rfl);cases e1
  obtain⟨y1,hu1⟩:=hu1;obtain⟨t1,v1,a1,s1⟩:=JJ hu1;exact⟨(v0,t1),bT rfl (bT a1 (rfl)),v1,s1⟩
def Zy(h:AH)(n:Nat)(tv:AV)(at_:Int)(iy:AV)(dp:Int)(drv:AV)(l:List Int)(ss:List (Int×AV))(ds:List (TS×dU)):Prop:=SL h n 1 tv iw l/\SL h n 2 iy Ey ss/\(∀s∈ss,∃rs,iJ h n 6 s.2 A_ rs/\∀x∈rs,x.2.rank=0)/\iJ h n 7 drv Eo ds
set_option maxRecDepth 100000 in
theorem Rx{m:Nat}{cs:List Value}{y:DataW H×List MemPlace}(h:DataW.trod enc Tryz.prog w 0 spare held m 51 cs=some y):∃tv at_ iy dp drv l ss ds,mQ w cs=some (Ez tv at_ iy dp drv)/\Zy (hW w) w.heap.size tv at_ iy dp drv l ss ds:=by
 obtain⟨xs,m,_,_,hl,hx,hf⟩:=DataW.trod_struct Tryz.underlying51 h;have hx:xs.length=4:=hx;rw[U1]at hl
 match cs,hl with
 |[c0,c1,c2,c3,c4],_=>
  obtain⟨u0,e0,hu0⟩:=Nf (k:=0) (by omega:0<xs.length) (by simp) zD (hf 0 _ rfl);cases e0
  obtain⟨y0,hu0⟩:=hu0;obtain⟨t0,l,a0,s0⟩:=nO hu0;obtain⟨v1,e1⟩:=r9 (k:=1) (hf 1 _ rfl) (by omega);cases e1
  obtain⟨u2,e2,hu2⟩:=Nf (k:=2) (by omega:2<xs.length) (by simp) U0 (hf 2 _ rfl);cases e2
  obtain⟨y2,hu2⟩:=hu2;obtain⟨t2,ss,a2,s2,g2⟩:=ED hu2;obtain⟨y3,h3⟩:=f_n (k:=3) (by omega:3<xs.length) KY (hf 3 _ rfl);obtain⟨d,a3,rs,g3⟩:=Rw (show DataW.trod enc Tryz.prog w 0 spare held m 49 [c3,c4]=some _ from h3);exact⟨t0,v1,t2,d.1,d.2,l,ss,rs,bT a0 (bT rfl (bT a2 a3)),s0,s2,g2,g3⟩
set_option maxRecDepth 100000 in
theorem Ni{v:Value}{d:DataW H}{p:List MemPlace}{r:Go.Reach}{base:Nat}(hv:Value.okWide Tryz.prog w r base 51 v)(h:DataW.Trod enc Tryz.prog w 0 (λ_=>true) true 51 v d p):∃tv at_ iy dp drv l ss ds,aV (GI w) (.agg (Ez tv at_ iy dp drv)) v/\Zy (hW w) w.heap.size tv at_ iy dp drv l ss ds:=by
 obtain⟨cs,rfl,_⟩:=okWide_struct Tryz.underlying51 hv;obtain⟨fuel,hf⟩:=h;obtain⟨tv,at_,iy,dp,drv,l,ss,ds,hy,hC⟩:=Rx hf;obtain⟨cl⟩:=cs;obtain⟨h1,h2⟩:=Bh hy;exact⟨tv,at_,iy,dp,drv,l,ss,ds,⟨_,h1,h2,rfl⟩,hC⟩
end
end
end Go.Proofs.YtfnnplicbjeifaaGreatDoor
namespace Go.Proofs
open Go.Shelf
def Tryz.laysDigits_ren:Go.Shelf.Ren:=⟨λ|284=>279|129=>198|317=>291|318=>292|n=>n,λ|53=>359|3=>3|212=>432|0=>0|4=>4|46=>294|5=>5|9=>9|n=>n,λ|17=>0|n=>n⟩
theorem Tryz.laysDigits:Go.Proofs.LaysM.n284 Tryz.prog Tryz.laysDigits_ren:={
 mixed:=by kernel_rfl
 f129:=Tryz.func198.trans (congrArg some (by kernel_rfl))
 f284:=Tryz.func279.trans (congrArg some (by kernel_rfl))
 f317:=Tryz.func291.trans (congrArg some (by kernel_rfl))
 f318:=Tryz.func292.trans (congrArg some (by kernel_rfl))
 t0:=Tryz.underlying0
 a0:=Tryz.isAgg0
 z0:=Tryz.sizeOf0
 v0:=Tryz.zeroValue0
 t3:=Tryz.underlying3
 a3:=Tryz.isAgg3
 z3:=Tryz.sizeOf3
 v3:=Tryz.zeroValue3
 t4:=Tryz.underlying4
 a4:=Tryz.isAgg4
 z4:=Tryz.sizeOf4
 v4:=Tryz.zeroValue4
 t5:=Tryz.underlying5
 a5:=Tryz.isAgg5
 z5:=Tryz.sizeOf5
 v5:=Tryz.zeroValue5
 t9:=Tryz.underlying9
 a9:=Tryz.isAgg9
 z9:=Tryz.sizeOf9
 v9:=Tryz.zeroValue9
 t46:=Tryz.underlying294
 a46:=Tryz.isAgg294
 z46:=Tryz.sizeOf294
 v46:=Tryz.zeroValue294
 t53:=Tryz.underlying359
 a53:=Tryz.isAgg359
 z53:=Tryz.sizeOf359
 v53:=Tryz.zeroValue359
 t212:=Tryz.underlying432
 a212:=Tryz.isAgg432
 z212:=Tryz.sizeOf432
 v212:=Tryz.zeroValue432
 g17:=by kernel_rfl
 i0:=by kernel_rfl
 i3:=by kernel_rfl
 i4:=by kernel_rfl
 i5:=by kernel_rfl
 i9:=by kernel_rfl
 i46:=by kernel_rfl
 i53:=by kernel_rfl
 i212:=by kernel_rfl
 m17:=by kernel_rfl}
end Go.Proofs
namespace Go.Proofs.YtfnnplicbjeifaaGreatDoor
section
noncomputable section
theorem U2:sF Tryz.prog:=by
 refine⟨by kernel_rfl,λg fn e=>?_⟩;have h:Tryz.prog.funcs.toList.all (λfn=> !(fn.name== "runtime.NumGoroutine"))=true:=by kernel_rfl
 have:=List.all_eq_true.1 h fn (by
  rw[<-Array.getElem?_toList]at e;exact List.mem_of_getElem? e)
 simpa using this
def OE:OT:=λf g args h n=>bc (Nat.beq g 31) (some (XB f args h n)) (OD f g args h n)
theorem WH:zV Tryz.prog sl0 OD:=λf hf g args h n v h' n' e=>by
 obtain⟨e1,e2⟩:=bL (show bc (Nat.beq g Nr) _ none=some _ from e);obtain rfl:=beq_eq e1;split at e2
 case h_2=>cases e2
 rename_i u;obtain⟨e3,e4⟩:=bL e2;obtain⟨e5,e6⟩:=bL e4;cases e6
 refine⟨⟨_,_,Tryz.func279,rfl⟩,λθ w vs H ha=>?_⟩;obtain⟨_,_,rfl,rfl,rfl⟩:=ha;have hg:Tryz.prog.globalNamed "internal/strconv.uint64pow10"=some 0:=by kernel_rfl
 obtain⟨ty,q,k1,_⟩:=H.gl 0 hg;have ht:Lib.TabIs Tryz.prog w "internal/strconv.uint64pow10" .u64 Lib.pow10Tab:=by
  unfold Lib.TabIs World.var?;rw[hg];simp only[Option.bind_some,k1]
 refine(Any.internal_strconv_numDigits Tryz.laysDigits u (Nat.le_of_ble_eq_true e3) (Nat.lt_succ_of_le (Nat.le_of_ble_eq_true e5)) w ht).mono ?_;rintro en w' ⟨rfl,rfl⟩;exact⟨θ,_,rfl,rfl,H,Fr.refl _ _ _⟩
theorem wG:zV Tryz.prog sl0 OE:=λf hf g args h n v h' n' e=>by
 have e':bc (Nat.beq g 31) (some (XB f args h n)) (OD f g args h n)=some (.ok v h' n'):=e;cases hg:Nat.beq g 31 with
 |true=>
  rw[hg,bD]at e';obtain rfl:=beq_eq hg;exact SH U2 hf (Option.some.inj e')
 |false=>rw[hg,gH]at e';exact WH f hf g args h n v h' n' e'
end
end
section
noncomputable section
def U3(G h:AH):List Nat->Bool:=@List.rec Nat (λ_=>Bool) true (λx _ ih=>bc (LB (G.get x) (h.get x)) ih false)
theorem K3{G h:AH}:∀{l:List Nat},U3 G h l=true->∀x,l.contains x=true->∀o,G.get x=some o->h.get x=some o
 |[],_,_,hx,_,_=>by cases hx
 |y::l,e,x,hx,o,ho=>by
  obtain⟨e1,e2⟩:=bY (show bc (LB (G.get y) (h.get y)) (U3 G h l) false=true from e);by_cases q:x=y
  .subst q
   rw[ho]at e1;unfold LB at e1;split at e1
   .rename_i q1 q2
    obtain⟨a1,a2⟩:=bY e1;cases q1
    rw[q2,beq_eq a1,oh _ _ a2]
   .rename_i q1;cases q1
   .cases e1
  .refine K3 e2 x ?_ o ho
   rw[List.contains_cons]at hx;simpa [q]using hx
theorem Zz{O:OT}{k n:Nat}{g:FuncId}{args:List AV}{G h:AH}{v:AV}(hO:zV Tryz.prog sl0 O)(e:Ns v G n (iU Tryz.prog sl0 O k g args G n)=true)(hsub:∀x o,G.get x=some o->h.get x=some o):
 (∃fn c,Tryz.prog.funcs[g]?=some fn/\fn.body=some c)/\∀θ w vs,RH Tryz.prog sl0 θ h n w->fE θ args vs->Calls Tryz.prog g vs.toArray w (wU Tryz.prog sl0 θ h w v h n):=by
 cases hr:iU Tryz.prog sl0 O k g args G n with
 |bad=>rw[hr]at e;cases e
 |ok v' h' n'=>
  rw[hr]at e;obtain⟨e1,e⟩:=bY e;obtain⟨e2,e3⟩:=bY e;obtain rfl:=wX _ _ e1;obtain⟨q1,q2⟩:=qd U2 hO k _ _ _ _ _ _ _ hr;exact⟨q1,λθ w vs H ha=>(q2 θ w vs (H.sub hsub) ha).mono λen w' R=>R.shrink H hsub e2 e3⟩
def kl(g0:Nat)(A:List AV)(G:AH)(ns:List Nat)(n0 n1:Nat)(v:AV)(O:OT):OT:=λf g args h n=>bc (bc (Nat.beq g g0) (bc (Nat.beq n n0) (bc (wO args A) (U3 G h ns) false) false) false) (some (.ok v h n1)) (O f g args h n)
theorem yK{g0 n0 n1 K:Nat}{A:List AV}{G:AH}{ns:List Nat}{v:AV}{O O':OT}(hO':zV Tryz.prog sl0 O')(e:Ns v G n0 (iU Tryz.prog sl0 O' K g0 A G n0)=true)(hn:∀x o,G.get x=some o->ns.contains x=true)(hO:zV Tryz.prog sl0 O)(hm:n0<=n1):zV Tryz.prog sl0 (kl g0 A G ns n0 n1 v O):=λf hf g args h n v' h' n' e'=>by
 cases hc:bc (Nat.beq g g0) (bc (Nat.beq n n0) (bc (wO args A) (U3 G h ns) false) false) false with
 |false=>
  refine hO f hf g args h n v' h' n' ?_;rw[<-e'];unfold kl;rw[hc];rfl
 |true=>
  have e2:some (fH.ok v h n1)=some (.ok v' h' n'):=by rw[<-e'];unfold kl;rw[hc];rfl
  cases e2
  obtain⟨h1,h2⟩:=bY hc;obtain⟨h3,h4⟩:=bY h2;obtain⟨h5,h6⟩:=bY h4;obtain rfl:=beq_eq h1;obtain rfl:=beq_eq h3;obtain rfl:=oh _ _ h5;obtain⟨q1,q2⟩:=Zz hO' e λx o q=>K3 h6 x (hn x o q) o q;refine⟨q1,λθ w vs H ha=>(q2 θ w vs H ha).mono λen w' R=>?_⟩;obtain⟨bW,u,r1,r2,H',F⟩:=R;exact⟨bW,u,r1,r2,⟨H'.at_,H'.inj,λx hx=>H'.new x (Nat.le_trans hm hx),H'.gl⟩,F⟩
theorem ZA{G:AH}{j:Nat}{a:AO}{ns:List Nat}(hG:∀x o,G.get x=some o->ns.contains x=true)(hj:ns.contains j=true):∀x o,(G.set j a).get x=some o->ns.contains x=true:=λx o e=>by
 rw[iR]at e;split at e
 .rename_i q;subst q;exact hj
 .exact hG x o e
theorem U4{ns:List Nat}{a x:Nat}(h:ns.contains x=true):(a::ns).contains x=true:=by
 rw[List.contains_cons,h,Bool.or_true]
theorem dx{G:AH}{j:Nat}{a:AO}{ns:List Nat}(hG:∀x o,G.get x=some o->ns.contains x=true):∀x o,(G.set j a).get x=some o->(j::ns).contains x=true:=
 ZA (λx o e=>U4 (hG x o e)) (by rw[List.contains_cons,beq_self_eq_true];rfl)
end
end
noncomputable section
def sA:AV:=.agg [.i .i64 1,.sl 3 0 0 1 (some 1),.sl 4 0 0 1 (some 1),.sl 5 0 0 1 (some 1),.sl 6 0 0 1 (some 1),.i .i64 5,.k 1]
def sG:AH:=(((Tr.z.set 3 (AO.row 3 [.i .i64 0])).set 4 (.row 159 [.s [69,85,82],.i .i64 2,.i .i64 0,.i .i64 1,.i .i64 1])).set 5 (.row 161 [.i .i64 1,.i .i64 0,.i .i64 0,.i .i64 (.negSucc 0),.i .i64 (.negSucc 0),.i .i64 0,.i .i64 1])).set 6
 (.row 122 [.i .i64 1,.i .i64 0,.i .i64 0,.i .i64 1,.k 1,.i .i64 2,.i .i64 0,.b false,.b true,.i .i64 (.negSucc 0),.i .i64 (.negSucc 0),.i .i64 50,.i .i64 1,.i .i64 0,.i .i64 0,.b false])
abbrev RwD:=AV×AV×List AV×List AV
def prw(b:Nat):List RwD->List AV
 |[]=>[]
 |(d,o,t,_)::l=>d:: .sl b 0 0 1 none:: .sl (b+2) 0 0 1 none:: .sl (b+4) 0 0 1 none::o::CP t (prw (b+8) l)
def rws(h:AH)(b:Nat):List RwD->AH
 |[]=>h
 |(_,_,_,m)::l=>((((rws h (b+8) l).set b (.row 3 [.i .i64 0])).set (b+2) (.row 4 [.b false])).set (b+4) (.row 185 m))
def xS:List RwD:=[(.i .i64 0,.b true,[.i .i64 (.negSucc 1)],[.i .i64 1,.i .i64 2,.i .i64 0,.i .i64 0,.b false]),(.i .i64 0,.b false,[.i .i64 0],[.i .i64 1,.i .i64 2,.i .i64 0,.i .i64 0,.b false]),(.i .i64 0,.b true,[.i .i64 (.negSucc 1)],[.i .i64 3,.i .i64 0,.i .i64 1,.i .i64 0,.b false]),(.i .i64 1,.b true,[.i .i64 0],[.i .i64 1,.i .i64 1,.i .i64 0,.i .i64 0,.b false]),(.i .i64 0,.b false,[.i .i64 0],[.i .i64 3,.i .i64 0,.i .i64 1,.i .i64 0,.b false]),(.i .i64 1,.b true,[.i .i64 (.negSucc 1)],[.i .i64 3,.i .i64 0,.i .i64 1,.i .i64 0,.b false]),(.i .i64 1,.b false,[.i .i64 0],[.i .i64 3,.i .i64 0,.i .i64 1,.i .i64 0,.b false]),(.i .i64 2,.b true,[.i .i64 (.negSucc 1)],[.i .i64 3,.i .i64 0,.i .i64 1,.i .i64 0,.b false]),(.i .i64 2,.b false,[.i .i64 0],[.i .i64 3,.i .i64 0,.i .i64 1,.i .i64 0,.b false]),(.i .i64 3,.b true,[.i .i64 (.negSucc 1)],[.i .i64 3,.i .i64 0,.i .i64 1,.i .i64 0,.b false]),(.i .i64 3,.b false,[.i .i64 0],[.i .i64 3,.i .i64 0,.i .i64 1,.i .i64 0,.b false]),(.i .i64 4,.b true,[.i .i64 (.negSucc 1)],[.i .i64 3,.i .i64 0,.i .i64 1,.i .i64 0,.b false]),(.i .i64 4,.b false,[.i .i64 0],[.i .i64 3,.i .i64 0,.i .i64 1,.i .i64 0,.b false]),(.i .i64 5,.b true,[.i .i64 (.negSucc 1)],[.i .i64 3,.i .i64 0,.i .i64 1,.i .i64 0,.b false]),(.i .i64 5,.b false,[.i .i64 0],[.i .i64 3,.i .i64 0,.i .i64 1,.i .i64 0,.b false])]
def xD:List RwD:=[(.i .i64 1,.b false,[.i .i64 1,.i .i64 (.negSucc 0)],[.i .i64 1,.i .i64 1,.i .i64 0,.i .i64 0,.b false]),(.i .i64 2,.b true,[.i .i64 0,.i .i64 0],[.i .i64 4,.i .i64 0,.i .i64 0,.i .i64 0,.b false]),(.i .i64 2,.b false,[.i .i64 0,.i .i64 0],[.i .i64 4,.i .i64 0,.i .i64 0,.i .i64 0,.b false]),(.i .i64 3,.b true,[.i .i64 0,.i .i64 0],[.i .i64 4,.i .i64 0,.i .i64 0,.i .i64 0,.b false]),(.i .i64 3,.b false,[.i .i64 0,.i .i64 0],[.i .i64 4,.i .i64 0,.i .i64 0,.i .i64 0,.b false]),(.i .i64 4,.b true,[.i .i64 0,.i .i64 0],[.i .i64 4,.i .i64 0,.i .i64 0,.i .i64 0,.b false]),(.i .i64 4,.b false,[.i .i64 0,.i .i64 0],[.i .i64 4,.i .i64 0,.i .i64 0,.i .i64 0,.b false]),(.i .i64 5,.b true,[.i .i64 0,.i .i64 0],[.i .i64 4,.i .i64 0,.i .i64 0,.i .i64 0,.b false]),(.i .i64 5,.b false,[.i .i64 0,.i .i64 0],[.i .i64 4,.i .i64 0,.i .i64 0,.i .i64 0,.b false])]
def ZB(at_:Int):AV:=.agg [.sl 5359 0 0 3 none,.i .i64 at_,.sl 8526 0 0 1 none,.i .i64 0,.sl 9761 0 0 9 none]
def xA(v:Int):AV:=.agg [.i .i64 0,.i .i64 0,.sl 9836 0 0 1 none,.i .i64 0,.i .i64 v,.i .i64 1]
def xG:AH:=(((((rws (rws sG 8409 xS) 9765 xD).set 5359 (.row 3 [.i .i64 (.negSucc 0),.i .i64 (.negSucc 0),.i .i64 (.negSucc 0)])).set 8405 (.row 116 (prw 8409 xS))).set 8526 (.row 59 [.i .i64 0,.sl 8405 0 0 15 none])).set 9761 (.row 118 (prw 9765 xD))).set 9836 (.row 51 [.sl 5359 0 0 3 none,.i .i64 1,.sl 8526 0 0 1 none,.i .i64 0,.sl 9761 0 0 9 none])
def nmR(b:Nat)(ns:List Nat):List RwD->List Nat
 |[]=>ns
 |_::l=>(b+4)::(b+2)::b::nmR (b+8) ns l
theorem JL:∀(l:List RwD){h:AH}{b:Nat}{ns:List Nat},(∀x o,h.get x=some o->ns.contains x=true)->∀x o,(rws h b l).get x=some o->(nmR b ns l).contains x=true
 |[],_,_,_,hh=>hh
 |_::l,_,_,_,hh=>dx (dx (dx (JL l hh)))
def sN:List Nat:=[6,5,4,3]
def xN:List Nat:=9836::9761::8526::8405::5359::nmR 9765 (nmR 8409 sN xS) xD
theorem Bo:∀x o,xG.get x=some o->xN.contains x=true:=
 dx (dx (dx (dx (dx (JL xD (JL xS (dx (dx (dx (dx λx o e=>by rw[Tr.iL]at e;cases e))))))))))
end
end Go.Proofs.YtfnnplicbjeifaaGreatDoor

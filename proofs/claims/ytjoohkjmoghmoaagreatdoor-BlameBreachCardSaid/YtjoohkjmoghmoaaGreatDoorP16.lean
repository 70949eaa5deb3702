/- part -/
import Derived.Test.YtjoohkjmoghmoaaGreatDoorP15
set_option linter.all false
namespace Go.Proofs.YtjoohkjmoghmoaaGreatDoor
section
noncomputable section
def wm(k:Nat):List Nat:=(List.range 400).map λi=>if i<k then i else 0
theorem mJ(k:Nat):(wm k).length=400:=by simp[wm]
theorem xM{k i:Nat}(h:i<400):(wm k)[i]?=some (if i<k then i else 0):=by simp[wm,h]
theorem NW{k:Nat}(h:k<400):(wm k).set k k=wm (k+1):=by
 apply List.ext_getElem?;intro j;by_cases hj:j<400
 .rw[List.getElem?_set,xM hj]
  by_cases e:k=j
  .subst e;rw[if_pos rfl,if_pos (by rw[mJ];exact hj),xM hj,if_pos (by omega)]
  .rw[if_neg e,xM hj]
   by_cases h1:j<k
   .rw[if_pos h1,if_pos (by omega)]
   .rw[if_neg h1,if_neg (by omega)]
 .rw[List.getElem?_eq_none (by rw[List.length_set,mJ];omega),List.getElem?_eq_none (by rw[mJ];omega)]
theorem Gv(k:Nat):jo (λi=>(wm k).getD i 0) (λi=>if i<k/\i<400 then i else 0):=by
 have e:∀i,(wm k).getD i 0=if i<k/\i<400 then i else 0:=λi=>by
  rw[List.getD_eq_getElem?_getD];by_cases h:i<400
  .rw[xM h];simp[h]
  .rw[List.getElem?_eq_none (by rw[mJ];omega),if_neg (by omega)];rfl
 refine⟨λi=>?_,λi=>?_,λi=>?_⟩
 .rw[e];split<;>omega
 .rw[e];exact id
 .rw[e]
  by_cases h:i<k/\i<400
  .rw[if_pos h,if_pos h]
  .rw[if_neg h];split<;>rfl
section
variable {h h':AH} {n n' ab rb:Nat} {A:List Nat} {r:Nat->Nat} {Q:AV->AH->Nat->Prop} {v:CS} {C:aA}
structure IC(h:AH)(n ab rb mb:Nat)(v:CS)(C:aA)(A:List Nat)(r:Nat->Nat)(m:List (Int×AV))(w:Bool)(ks ka:Nat)(hk:AH)(nk:Nat):Prop where
 uf:UF hk nk ab rb A r
 mp:uh hk mb (λi:Int=>AV.i .i64 i) m
 vals:∀(a:Int)(x:AV),nI m a=some x->∃u:Nat,u<400/\x= .i .i64 (u:Nat)
 seen:∀(j:Nat)(kc:aF),j<ks->C.clauses[j]?=some kc->∀a∈kc.nums,∃u:Nat,nI m a=some (.i .i64 (u:Nat))/\r u=r j
 all:w=true->∀j,j<ka->r j=r 0
 up:Up h n hk nk
 box:hk.get n=some (.row 27 (v.av C))
 KO:mb<nk
 d:n<ab/\n<rb/\n<mb/\mb≠ab/\mb≠rb
theorem IC.join{mb:Nat}{m:List (Int×AV)}{w:Bool}{ks ka:Nat}{hk hk':AH}{nk WC:Nat}{A':List Nat}{r':Nat->Nat}(a:IC h n ab rb mb v C A r m w ks ka hk nk)(u:UF hk' WC ab rb A' r')(mr:KR r r')(hn:nk<=WC)(same:∀x,x<nk->x≠ab->hk'.get x=hk.get x):IC h n ab rb mb v C A' r' m w ks ka hk' WC:=by
 obtain⟨d1,d2,d3,d4,d5⟩:=a.d;have:=a.up.le;have:=a.KO;exact⟨u,a.mp.on (same mb a.KO d4),a.vals,λj kc hj hk x hx=>(a.seen j kc hj hk x hx).imp λu e=>⟨e.1,mr _ _ e.2⟩,λhw j hj=>mr _ _ (a.all hw j hj),⟨by omega,λx hx=>by rw[same x (by omega) (by omega)];exact a.up.old x hx⟩,by rw[same n (by omega) (by omega)];exact a.box,by omega,a.d⟩
theorem IC.more{mb:Nat}{m:List (Int×AV)}{w:Bool}{ks ka:Nat}{hk hk':AH}{nk WC:Nat}(a:IC h n ab rb mb v C A r m w ks ka hk nk)(x:Up hk nk hk' WC):IC h n ab rb mb v C A r m w ks ka hk' WC:=
 a.join (a.uf.up x) (KR.refl r) x.le λy hy _=>x.old y hy
theorem IC.put{mb:Nat}{m:List (Int×AV)}{w:Bool}{ks ka k:Nat}{hk:AH}{nk:Nat}{a:Int}{o:AO}(c:IC h n ab rb mb v C A r m w ks ka hk nk)(mp:uh (hk.set mb o) mb (λi:Int=>AV.i .i64 i) (DN m a (.i .i64 (k:Nat))))(hn:nI m a=none)(hk4:k<400):IC h n ab rb mb v C A r (DN m a (.i .i64 (k:Nat))) w ks ka (hk.set mb o) nk:=by
 obtain⟨d1,d2,d3,d4,d5⟩:=c.d;refine⟨c.uf.on (Nat.le_refl _) (ay (Ne.symm d4)) (ay (Ne.symm d5)),mp,λa' x hx=>?_,λj kc hj hk a' ha=>?_,c.all,Up.st c.up _ _ (by omega),by rw[ay (by omega)];exact c.box,c.KO,c.d⟩
 .rw[nK]at hx
  split at hx
  .cases hx;exact⟨k,hk4,rfl⟩
  .exact c.vals a' x hx
 .obtain⟨u,h1,h2⟩:=c.seen j kc hj hk a' ha
  refine⟨u,?_,h2⟩;rw[nK,if_neg (λe=>by rw[e,hn]at h1;cases h1)];exact h1
def CmI(h:AH)(n ab rb mb:Nat)(v:CS)(C:aA)(w:Bool)(k:Nat)(hk:AH)(nk:Nat)(G:Fm):Prop:=∃A r m,IC h n ab rb mb v C A r m w k k hk nk/\G=[(1,.p n 0),(7,.p rb 0),(8,.f 224 [.p rb 0,.p ab 0]),(9,.b w),(10,.m mb),(43,v.k)]
def mC3:MC:=match Ct with
 | .seq _ (.seq _ (.seq _ d))=>d
 |x=>x
theorem Ay{K k N mb nb:Nat}{m:List (Int×AV)}{w:Bool}{h9:AH}{n9:Nat}{kc:aF}{t:AV}{S:List It}{Qx:PQ}(hv:C.valid=true)(hkc:C.clauses[k]?=some kc)(hN:N=C.clauses.length)(c:IC h n ab rb mb v C A r m w k (k+1) h9 n9)(st:SL h9 n9 2 t bN.av kc.start)(g9:h9.get nb=some (.row 112 (kc.av t)))(hb:nb<n9)(hn:n<nb)(hab:nb≠ab/\nb≠rb/\nb≠mb)(tab:∀x,blk t x->x≠ab):
 SM Tryz.prog Y0 130 [.c (zW 3 57 56 58 4 5 Gi),.b 4,.c mC3] .bT (EF (K+402)) h9 n9 [(1,.p n 0),(7,.p rb 0),(8,.f 224 [.p rb 0,.p ab 0]),(9,.b w),(10,.m mb),(43,v.k),(44,.i .i64 (N:Nat)),(45,.i .i64 (k:Nat)),(12,.p nb 0),(11,.i .i64 (k:Nat)),(50,.b w),(55,t),(56,.i .i64 (kc.start.length:Nat)),(57,.i .i64 0)] (RY Tryz.prog Y0 130 (CmI h n ab rb mb v C w) k 45 44 N 3 S (EF (K+402)) Qx):=by
 have ok:=aA.ok hv;have:=ok.dL;have hkl:=(List.getElem?_eq_some_iff.1 hkc).1;have hns:=(ok.clause hkc).r9;have hst:=(ok.clause hkc).start;refine b_ kc.start.length (λ_ hk nk G=>∃A r,IC h n ab rb mb v C A r m w k (k+1) hk nk/\Kp (λx=>x=ab) hk nk (λh n=>SL h n 2 t bN.av kc.start/\h.get nb=some (.row 112 (kc.av t))/\nb<n)/\G=[(1,.p n 0),(7,.p rb 0),(8,.f 224 [.p rb 0,.p ab 0]),(9,.b w),(10,.m mb),(43,v.k),(44,.i .i64 (N:Nat)),(45,.i .i64 (k:Nat)),(12,.p nb 0),(11,.i .i64 (k:Nat)),(55,t)]) (by omega) (by omega) (by omega) (by omega) (λk h8 n8 G ⟨_,_,_,_,e⟩=>by subst e;exact⟨rfl,rfl⟩) ⟨rfl,rfl,_,⟨A,r,c,(st.kp λx hx e=>tab x hx e).and λh' n' hn' e=>⟨by rw[e nb hb hab.1];exact g9,by omega⟩,rfl⟩,by(repeat' (first|exact aR|refine aN rfl ?_))⟩ ?_ ?_
 .rintro s hk nk G hs ⟨A1,r1,c1,k1,rfl⟩
  obtain⟨b1,o1,cd,i1,hcd,hb1,rd⟩:=k1.use.1.gD (k:=(s:Nat)) (by omega) (by omega) (by omega);rw[show((s:Nat):Int).toNat=s by omega]at hcd;obtain⟨q1,q2,_⟩:=hst cd (List.mem_of_getElem? hcd);obtain⟨i,hi⟩:=Int.eq_ofNat_of_zero_le q1;simp (disch:=omega) only[go_sem,simprocAttr,Gi,aK i1,rd.all,bN.av];generalize hz:(Tr.set (Tr.set hk _ _) nk _)=h8;have u8:Up hk nk h8 (nk+1):=by rw[<-hz];exact aI
  clear hz;have c8:=c1.more u8;rw[Fu,hi];show CW (EF (K+402)) 224 [.i .i64 (k:Nat),.i .i64 (i:Nat),.p rb 0,.p ab 0] _ _ _;refine Cw K c8.uf (by omega) (by omega) λA2 r2 h2 n2 u2 mr _ l2 x2=>?_;simp (disch:=omega) only[go_sem,simprocAttr];exact⟨rfl,rfl,_,⟨A2,r2,c8.join u2 mr l2 x2,(k1.up u8).on l2 x2,rfl⟩,by(repeat' (first|exact aR|refine aN rfl ?_))⟩
 .rintro hk nk G ⟨A1,r1,c1,k1,rfl⟩
  unfold mC3;simp (disch:=omega) only[go_sem,simprocAttr,Ct,k1.use.2.1,aF.av];rw[aU];refine Gt (K+401) kc t λv4 h4 n4 u4 s4 b4=>?_;have c4:=c1.more u4;have hnl:kc.nums.length<=3:=by unfold aF.nums;split<;>simp
  have KS:=c1.uf.KS;have KO:=c1.KO;simp (disch:=omega) only[go_sem,simprocAttr,s4.len];refine b_ kc.nums.length (λs hk nk G=>∃A r m,IC h n ab rb mb v C A r m w k (k+1) hk nk/\(∀a∈kc.nums.take s,∃u:Nat,nI m a=some (.i .i64 (u:Nat))/\r u=r k)/\Kp (λx=>x=ab\/x=mb) hk nk (λh n=>SL h n 1 v4 kD kc.nums)/\G=[(1,.p n 0),(7,.p rb 0),(8,.f 224 [.p rb 0,.p ab 0]),(9,.b w),(10,.m mb),(43,v.k),(44,.i .i64 (N:Nat)),(45,.i .i64 (k:Nat)),(11,.i .i64 (k:Nat)),(68,v4)]) (by omega) (by omega) (by omega) (by omega) (λk h8 n8 G ⟨_,_,_,_,_,_,e⟩=>by subst e;exact⟨rfl,rfl⟩) ⟨rfl,rfl,_,⟨A1,r1,m,c4,(λa ha=>by simp at ha),s4.kp λx hx e=>by have:=b4 x hx;omega,rfl⟩,by(repeat' (first|exact aR|refine aN rfl ?_))⟩ ?_ ?_
  .rintro s h5 n5 G hs ⟨A5,r5,m5,c5,Z9,k5,rfl⟩
   obtain⟨b1,o1,a,i1,ha,hb1,rd⟩:=k5.use.gD (k:=(s:Nat)) (by omega) (by omega) (by omega);rw[show((s:Nat):Int).toNat=s by omega]at ha;have lk:=c5.mp.look (k:=a) Gu (z:=some (.i .i64 0)) (ok:=true) rfl;have htk:∀a'∈kc.nums.take (s+1),a'∈kc.nums.take s\/a'=a:=λa' h=>by
    rw[List.take_add_one,ha]at h;simpa using h
   cases hal:nI m5 a with
   |some x=>
    obtain⟨u,hu,rfl⟩:=c5.vals a x hal;rw[hal]at lk;simp only[bD]at lk;simp (disch:=omega) only[go_sem,simprocAttr,Gh,aK i1,rd.el,rd.hd,lk];rw[Fu];show CW (EF (K+402)) 224 [.i .i64 (u:Nat),.i .i64 (k:Nat),.p rb 0,.p ab 0] _ _ _;refine Cw K c5.uf (by omega) (by omega) λA2 r2 h2 n2 u2 mr req l2 x2=>?_;simp (disch:=omega) only[go_sem,simprocAttr];refine⟨rfl,rfl,_,⟨A2,r2,m5,c5.join u2 mr l2 x2,λa' h=>?_,k5.on l2 λx hx hne=>x2 x hx λe=>hne (.inl e),rfl⟩,by(repeat' (first|exact aR|refine aN rfl ?_))⟩;rcases htk a' h with h|rfl
    .exact(Z9 a' h).imp λu e=>⟨e.1,mr _ _ e.2⟩
    .exact⟨u,hal,req⟩
   |none=>
    rw[hal]at lk;simp only[bD]at lk;obtain⟨o,up1,mp6⟩:=c5.mp.put (n:=n5) (k:=a) Gu (.i .i64 (k:Nat));simp (disch:=omega) only[go_sem,simprocAttr,Gh,aK i1,rd.el,rd.hd,lk,up1];refine⟨rfl,rfl,_,⟨A5,r5,_,c5.put mp6 hal (by omega),λa' h=>?_,k5.set (.inl (.inr rfl)) (Nat.le_refl _),rfl⟩,by(repeat' (first|exact aR|refine aN rfl ?_))⟩;rcases htk a' h with h|rfl
    .obtain⟨u,h1,h2⟩:=Z9 a' h
     exact⟨u,by rw[nK,if_neg (λe=>by rw[e,hal]at h1;cases h1)];exact h1,h2⟩
    .exact⟨k,by rw[nK,if_pos rfl],rfl⟩
  .rintro h5 n5 G ⟨A5,r5,m5,c5,Z9,k5,rfl⟩
   rw[List.take_length]at Z9;simp (disch:=omega) only[go_sem,simprocAttr];refine⟨rfl,rfl,_,⟨A5,r5,m5,⟨c5.uf,c5.mp,c5.vals,λj kc' hj hk'=>?_,c5.all,c5.up,c5.box,c5.KO,c5.d⟩,rfl⟩,by(repeat' (first|exact aR|refine aN rfl ?_))⟩;by_cases e:j=k
   .subst e;rw[hkc]at hk';cases hk';exact Z9
   .exact c5.seen j kc' (by omega) hk'
theorem z_(K:Nat)(hC:aY h n v C)(ho:C.off.length<=1000000)(hv:C.valid=true)(hQ:∀P pv h' n',vZ C P->Up h n h' n'->Ee h' n' n pv P->Q pv h' n'):CW (EF (K+403)) 130 [.agg (v.av C)] h n Q:=by
 have ok:=aA.ok hv;have:=ok.dL;have:=ok.jY;refine aD c130 rfl ?_;simp (disch:=omega) only[go_sem,simprocAttr,ZU,CS.av];rw[aU];refine pK _ (hC.up aI) ho λei h2 n2 u2=>?_;have e2:=u2.le;have g2:h2.get n=some (.row 27 (v.av C)):=by rw[u2.old _ (by omega)];exact aG
 have ux:Up h n h2 n2:=by exact aI
 clear u2;rw[(mE C).2 hv];simp (disch:=omega) only[go_sem,simprocAttr,g2,CS.av,hC.lk];generalize hz:Tr.set h2 n2 _=h3;have u3:Up h2 n2 h3 (n2+1):=by rw[<-hz];exact aI
 have g3:h3.get n2=some (.row 347 ((wm 0).flatMap cn)):=by rw[<-hz,aG];kernel_rfl
 clear hz;refine b_ C.clauses.length (λk hk nk G=>hk.get n2=some (.row 347 ((wm k).flatMap cn))/\nk=n2+1/\(∀x,x≠n2->hk.get x=h3.get x)/\G=[(1,.p n 0),(5,.p n2 0)]) (by omega) (by omega) (by omega) (by omega) (λk h8 n8 G ⟨_,_,_,e⟩=>by subst e;exact⟨rfl,rfl⟩) ⟨rfl,rfl,_,⟨g3,rfl,λ_ _=>rfl,rfl⟩,by(repeat' (first|exact aR|refine aN rfl ?_))⟩ ?_ ?_
 .rintro k hk nk G hkN ⟨gk,rfl,sk,rfl⟩
  have st:=Vz (A:=wm k) (i:=k) (x:=k) (by rw[mJ];omega);rw[NW (by omega)]at st;simp (disch:=omega) only[go_sem,simprocAttr,NM,r_,Int.toNat_natCast,gk,st,Option.map_some];exact⟨rfl,rfl,_,⟨aG,rfl,λx hx=>by rw[ay hx];exact sk x hx,rfl⟩,by(repeat' (first|exact aR|refine aN rfl ?_))⟩
 rintro h4 n4 G ⟨g4,rfl,s4,rfl⟩;have u4:Up h n h4 (n2+1):=⟨by omega,λx hx=>by rw[s4 x (by omega),u3.old x (by omega),ux.old x hx]⟩;have q4:h4.get n=some (.row 27 (v.av C)):=by rw[s4 n (by omega),u3.old n (by omega)];exact g2
 simp (disch:=omega) only[go_sem,simprocAttr,q4,CS.av];generalize hz:(Tr.set (Tr.set h4 _ _) (n2+1) _)=h5;have u5:Up h4 (n2+1) h5 (n2+1+1):=by rw[<-hz];exact aI
 have g5:h5.get (n2+1)=some (.row 348 [.f 223 [.p n2 0,.p (n2+1) 0]]):=by rw[<-hz,aG]
 clear hz;have OG:=u4.trans u5;rw[aU];refine QT _ (hC.acts.up OG) (by omega) λw h6 n6 hw u6=>?_;have e6:=u6.le;have q6:h6.get n=some (.row 27 (v.av C)):=by rw[u6.old n (by omega),u5.old n (by omega)];exact q4
 have uf6:UF h6 n6 n2 (n2+1) (wm C.clauses.length) (λi=>if i<C.clauses.length/\i<400 then i else 0):=⟨by rw[u6.old _ (by omega),u5.old _ (by omega)];exact g4,by rw[u6.old _ (by omega)];exact g5,mJ _,Gv _,by omega,by omega,by omega⟩;simp (disch:=omega) only[go_sem,simprocAttr,q6,CS.av,hC.lk];have c0:IC h n n2 (n2+1) n6 v C (wm C.clauses.length) (λi=>if i<C.clauses.length/\i<400 then i else 0) [] w 0 0 (Tr.set h6 n6 (.mp [] 0)) (n6+1):=⟨uf6.up aI,uh.new _,(λa x e=>by cases e),(λj kc hj=>absurd hj (by omega)),(λ_ j hj=>absurd hj (by omega)),by exact aI,by rw[ay (by omega)];exact q6,by omega,by omega⟩;generalize Tr.set h6 n6 _=h7 at*;refine b_ C.clauses.length (CmI h n n2 (n2+1) n6 v C w) (by omega) (by omega) (by omega) (by omega) (λk h8 n8 G ⟨_,_,_,_,e⟩=>by subst e;exact⟨rfl,rfl⟩) ⟨rfl,rfl,_,⟨_,_,_,c0,rfl⟩,by(repeat' (first|exact aR|refine aN rfl ?_))⟩ ?_ ?_
 .rintro k hk nk G hkN ⟨A,r,m,c,rfl⟩
  simp (disch:=omega) only[go_sem,simprocAttr,Ct];refine nH hC (by omega) (by omega) λb o kc t hkc hb st rd=>?_;rw[show((k:Nat):Int).toNat=k by omega]at hkc;simp (disch:=omega) only[go_sem,simprocAttr,c.up.old b hb,rd.all,aF.av];generalize hz:(Tr.set (Tr.set hk _ _) nk _)=h8;have u8:Up hk nk h8 (nk+1):=by rw[<-hz];exact aI
  have g8:h8.get nk=some (.row 112 (kc.av t)):=by rw[<-hz,aG]
  clear hz;have c8:=c.more u8;have tab:∀x,blk t x->x≠n2:=λx hx=>by have:=st.fE hx;omega
  have s8:=st.up (c.up.trans u8);have nkg:n6<nk:=c.KO;cases w with
  |false=>
   simp (disch:=omega) only[go_sem,simprocAttr,g8,aF.av,s8.len];exact Ay hv hkc rfl ⟨c8.uf,c8.mp,c8.vals,c8.seen,(λe=>by cases e),c8.up,c8.box,c8.KO,c8.d⟩ s8 g8 (by omega) (by omega) (by omega) tab
  |true=>
   simp (disch:=omega) only[go_sem,simprocAttr];rw[Fu];show CW (EF (K+402)) 224 [.i .i64 ((0:Nat):Int),.i .i64 (k:Nat),.p (n2+1) 0,.p n2 0] _ _ _;refine Cw K c8.uf (by omega) (by omega) λA2 r2 h9 n9 u9 mr req l9 x9=>?_;have g9:=(x9 nk (by omega) (by omega)).trans g8;have s9:=(s8.kp (X:=λx=>x=n2) λx hx e=>tab x hx e).on l9 x9;have c9:=c8.join u9 mr l9 x9;simp (disch:=omega) only[go_sem,simprocAttr,g9,aF.av,s9.use.len];refine Ay hv hkc rfl ⟨c9.uf,c9.mp,c9.vals,c9.seen,λ_ j hj=>?_,c9.up,c9.box,c9.KO,c9.d⟩ s9.use g9 (by omega) (by omega) (by omega) tab;by_cases e:j=k
   .subst e;exact req.symm
   .exact c9.all rfl j (by omega)
 .rintro hk nk G ⟨A,r,m,c,rfl⟩
  have fn:=c.uf.fn;simp (disch:=omega) only[go_sem,simprocAttr,c.box,CS.av,hC.lk,fn];rw[aU];refine Kc K (N:=C.clauses.length) c.uf (by omega) λA' mm P pv h8 n8 u8 ga hP rows l8 x8=>?_;simp (disch:=omega) only[go_sem,simprocAttr];have:=c.up.le;refine hQ P pv _ _ (vZ.of hP c.uf.roots ga (λe i hi=>c.all (hw.2 e) i hi) λi j k k' hk hk' t ht ht'=>?_) ⟨by omega,λx hx=>by rw[x8 x (by omega) (by omega)];exact c.up.old x hx⟩ (rows.lo (by omega));obtain⟨u,e1,e2⟩:=c.seen i k (List.getElem?_eq_some_iff.1 hk).1 hk t ht;obtain⟨u',e3,e4⟩:=c.seen j k' (List.getElem?_eq_some_iff.1 hk').1 hk' t ht';rw[e1]at e3;have e5:u=u':=by simp at e3;omega
  rw[<-e2,<-e4,e5]
end
end
end
section
noncomputable section
@[reducible] def zcn:AV:=.agg [.i .i64 0,.k 1,.k 1,.k 1,.k 1,.i .i64 0,.k 1]
theorem SL.int{h:AH}{n:Nat}{y:AV}{cl:List Nat}(s:SL h n 1 y cn cl):SL h n 1 y kD (cl.map λi:Nat=>(i:Int)):=by
 refine⟨λ_=>rfl,?_⟩;rw[List.length_map];have e:(cl.map λi:Nat=>(i:Int)).flatMap kD=cl.flatMap cn:=by rw[List.flatMap_map]
 rw[e];exact s.2
theorem NY{cl:List Nat}(hs:cl.Pairwise (· < ·)){i a:Nat}(h:cl[i]?=some a):cl.idxOf a=i:=by
 have hm:=List.mem_of_getElem? h;have h1:=List.idxOf_lt_length_of_mem hm;have h2:cl[cl.idxOf a]?=some a:=by rw[List.getElem?_eq_getElem h1,List.getElem_idxOf]
 obtain⟨h3,h4⟩:=List.getElem?_eq_some_iff.1 h;obtain⟨h5,h6⟩:=List.getElem?_eq_some_iff.1 h2;by_cases e1:cl.idxOf a<i
 .have:=List.pairwise_iff_getElem.1 hs _ _ h5 h3 e1;omega
 .by_cases e2:i<cl.idxOf a
  .have:=List.pairwise_iff_getElem.1 hs _ _ h3 h5 e2;omega
  .omega
theorem QU{k:Nat}{y:AV}{L L' R:List AV}(h:st1 k y L=some L'):st1 k y (L++R)=some (L'++R):=by
 rw[rV]at h⊢;unfold oh at h⊢;split at h
 .rename_i hl
  cases h
  rw[if_pos (by simp at hl⊢;omega),List.take_append_of_le_length (by simp at hl;omega),List.drop_append_of_le_length (by simp at hl⊢;omega)];simp
 .cases h
theorem Gr.cell{h:AH}{n e w:Nat}{v:AV}{α:Type}{c:α->List AV}{l:List α}(g:Gr h n e w v c l){i j:Nat}{a a':α}{y:AV}(hi:l[i]?=some a)(hj:j<w)(hy:c a'=(c a).set j y):∃b cap cells cells',v= .sl b 0 0 l.length cap/\b<n/\h.get b=some (.row e cells)/\st1 (i*w+j) y cells=some cells'/\Gr (h.set b (.row e cells')) n e w v c (l.set i a'):=by
 have hw:=g.1;rcases g.2 with⟨_,rfl⟩|⟨b,cap,cells,rfl,h1,h2,h3,h4,h5,h6⟩
 .simp at hi
 .have hc:cells=l.flatMap c++cells.drop (l.length*w):=by conv=>lhs;rw[<-List.take_append_drop (l.length*w) cells,h3]
  have st:=QU (R:=cells.drop (l.length*w)) (Eb hw hi hj hy);rw[<-hc]at st;have hl2:((l.set i a').flatMap c).length=l.length*w:=by rw[bJ hw,List.length_set]
  refine⟨b,cap,cells,_,rfl,h1,h2,st,hw,.inr ⟨b,cap,_,by rw[List.length_set],h1,aG,?_,?_,λe=>?_,λk e=>?_⟩⟩
  .rw[List.length_set,<-hl2,List.take_left]
  .rw[List.length_set,List.length_append,hl2];omega
  .rw[List.length_set,List.length_append,hl2,List.length_drop,h5 e];omega
  .obtain⟨a1,a2⟩:=h6 k e
   rw[List.length_set,List.length_append,hl2,List.length_drop,a2];exact⟨a1,by have:=Nat.mul_le_mul_right w a1;omega⟩
def Aa(cl:List Nat)(c:bN):bN:=⟨(cl.idxOf c.clause.toNat:Nat),c.is⟩
def rJ(cl:List Nat)(l:List bN)(s:Nat):List bN:=(l.take s).map (Aa cl)++l.drop s
theorem Az(cl:List Nat)(l:List bN)(s:Nat):(rJ cl l s).length=l.length:=by simp[rJ];omega
theorem Ef{cl:List Nat}{l:List bN}{s:Nat}{c:bN}(h:l[s]?=some c):(rJ cl l s)[s]?=some c:=by
 have hs:=(List.getElem?_eq_some_iff.1 h).1;unfold rJ;rw[List.getElem?_append_right (by simp;omega),List.getElem?_drop];simp[Nat.min_eq_left (Nat.le_of_lt hs),h]
theorem Ke{cl:List Nat}{l:List bN}{s:Nat}{c:bN}(h:l[s]?=some c):(rJ cl l s).set s (Aa cl c)=rJ cl l (s+1):=by
 have hs:=(List.getElem?_eq_some_iff.1 h).1;have hl:((l.take s).map (Aa cl)).length=s:=by simp;omega
 have e1:l.drop s=c::l.drop (s+1):=by
  rw[List.drop_eq_getElem_cons hs];congr 1;exact(List.getElem?_eq_some_iff.1 h).2
 unfold rJ;rw[e1,List.set_append_right _ _ (by omega),hl,Nat.sub_self,List.set_cons_zero,List.take_add_one,h];simp
theorem Kg(cl:List Nat)(l:List bN):rJ cl l l.length=l.map (Aa cl):=by simp[rJ]
section
variable {h h':AH} {n n':Nat} {v:CS} {C:aA} {Q:AV->AH->Nat->Prop}
def PaI(h:AH)(n n1 nk pb:Nat)(y:AV)(v:CS)(C:aA)(cl:List Nat)(v2 v3 v4 v5:AV)(k:Nat)(hk:AH)(mk:Nat)(G:Fm):Prop:=∃l':List (aF×AV),l'.length=cl.length/\
 (∀(j i:Nat)(x:aF×AV),j<k->l'[j]?=some x->cl[j]?=some i->x.1=sP C cl i/\Kp (λx=>x<n1\/x=pb) hk mk (λh n=>SL h n 2 x.2 bN.av x.1.start))/\
 (∀(j i:Nat)(kc:aF),j<k->cl[j]?=some i->C.clauses[i]?=some kc->∀c∈kc.start,0<=c.clause/\c.clause.toNat∈cl)/\
 hk.get pb=some (.row 112 (l'.flatMap Cq))/\hk.get nk=some (.row 27 [.i .i64 C.aC,v2,v3,v4,.sl pb 0 0 cl.length (some cl.length),.i .i64 C.days,v5])/\hk.get n=some (.row 27 (v.av C))/\hk.get (n+1)=some (.row 27 [.i .i64 0,.k 1,.k 1,.k 1,.k 1,.i .i64 0,.k 1])/\Up h n hk mk/\pb<mk/\
 Kp (λx=>x<n1\/x=pb) hk mk (λh n=>(SL h n 1 v2 (λx=>[AV.i .i64 x]) C.ah/\SL h n 5 v3 dB.av C.units)/\SL h n 7 v4 dh.av C.acts/\SL h n 1 v5 (λx=>[AV.i .i64 x]) C.off)/\
 G=[(1,y),(2,.p n 0),(4,.p (n+1) 0),(11,.p nk 0),(66,y)]
theorem Kh(K:Nat){cl:List Nat}{y v2 v3 v4 v5:AV}{n1 nk pb:Nat}{h6:AH}{last:Int}(hC:aY h n v C)(hv:C.valid=true)(hcl:SL h n 1 y cn cl)(hln:cl.length<=1000000)
 (lK:∀h' n',Up h n h' n'->Q (.bQ [zcn,.i .i64 1]) h' n')
 (uS:eO C (C.part cl) cl->∀v' h' n',Up h n h' n'->Kp (λx=>x<n) h' n' (λh n=>aY h n v' (C.part cl))->Q (.bQ [.agg (v'.av (C.part cl)),.i .i64 0]) h' n')
 (hp:cl.Pairwise (· < ·))(hlt:∀i∈cl,i<C.clauses.length)(u6:Up h n h6 (pb+1))(q6:h6.get nk=some (.row 27 [.i .i64 C.aC,v2,v3,v4,.sl pb 0 0 cl.length (some cl.length),.i .i64 C.days,v5]))(s6:h6.get pb=some (.row 112 ((List.replicate cl.length ((⟨0,0,0,0,[],0,0,false,false,0,0,⟨0,0⟩,0,0,false⟩,.k 1):aF×AV)).flatMap Cq)))(p6:h6.get n=some (.row 27 (v.av C)))(r6:h6.get (n+1)=some (.row 27 [.i .i64 0,.k 1,.k 1,.k 1,.k 1,.i .i64 0,.k 1]))
 (kA:Kp (λx=>x<n1\/x=pb) h6 (pb+1) (λh n=>(SL h n 1 v2 (λx=>[AV.i .i64 x]) C.ah/\SL h n 5 v3 dB.av C.units)/\SL h n 7 v4 dh.av C.acts/\SL h n 1 v5 (λx=>[AV.i .i64 x]) C.off))(hn:n+1<nk/\nk<n1/\n1<=pb)(hkn:n+2<=nk):
 sK Tryz.prog Y0 131 99945 [.c (zW 3 68 67 69 2 3 Gj),.b 2,.c (.seq (.reg [⟨none,.ld (some 7) (.s 11),.l⟩,⟨none,.st 7 (.s 4) (.v 0),.n⟩,⟨none,.mv (.c (.i .i64 0)),.k 5⟩]) .ret)] .bT (EF (K+6)) h6 (pb+1)
  [(1,y),(2,.p n 0),(4,.p (n+1) 0),(8,.i .i64 last),(26,y),(11,.p nk 0),(66,y),(67,.i .i64 (cl.length:Nat)),(68,.i .i64 0)] (RS [.c 4 (some 7),.t 5] Q):=by
 have ok:=aA.ok hv;have:=ok.dL;obtain⟨hn2,hn3,hn4⟩:=hn;refine b_ cl.length (PaI h n n1 nk pb y v C cl v2 v3 v4 v5) (by omega) (by omega) (by omega) (by omega) (λk h8 n8 G ⟨_,_,_,_,_,_,_,_,_,_,_,e⟩=>by subst e;exact⟨rfl,rfl⟩) ⟨rfl,rfl,_,⟨_,by simp,(λj i x hj=>absurd hj (by omega)),(λj i kc hj=>absurd hj (by omega)),s6,q6,p6,r6,u6,Nat.lt_succ_self _,kA,rfl⟩,by(repeat' (first|exact aR|refine aN rfl ?_))⟩ ?_ ?_
 .rintro k hk mk G hkN ⟨l',hl',hx,hcd,s',q',p',r',uk,lb,kA',rfl⟩
  obtain⟨b1,o1,i,i1,hi,hb1,rd⟩:=(hcl.up uk).gD (k:=(k:Nat)) (by omega) (by omega) (by omega);rw[show((k:Nat):Int).toNat=k by omega]at hi;have hil:=hlt i (List.mem_of_getElem? hi);simp (disch:=omega) only[go_sem,simprocAttr,Gj,aK i1,rd.el,rd.hd,p',CS.av];refine nH hC (by omega) (by omega) λb o kc t hkc hb st gu=>?_;rw[show((i:Nat):Int).toNat=i by omega]at hkc;have xI:=ok.clause hkc;have hns:=xI.r9;simp (disch:=omega) only[go_sem,simprocAttr,uk.old b hb,gu.all,aF.av];rw[aU];have uks:=uk.le;refine eG k71 NI _ (st.up (uk.trans aI)) (by omega) λv7 h7 n7 u7 g7 b7 x7=>?_;have e7:=u7.le;have c7:h7.get mk=some (.row 112 (kc.av t)):=by rw[u7.old _ (by omega)];simp (disch:=omega) only[go_sem]
  have st1':st1 4 v7 (kc.av t)=some (kc.av v7):=rfl;simp (disch:=omega) only[go_sem,simprocAttr,g7.cl,c7,st1',Option.map_some,g7.len];generalize hz:Tr.set h7 mk _=h8;have c8:h8.get mk=some (.row 112 (kc.av v7)):=by rw[<-hz,aG]
  have o8:∀x,x<mk->h8.get x=hk.get x:=λx hx=>by rw[<-hz,ay (by omega),u7.old x (by omega),ay (by omega),ay (by omega)]
  have g8:Gr h8 n7 191 2 v7 bN.av kc.start:=g7.on (Nat.le_refl _) λx hx hb=>by rw[<-hz,ay (by have:=b7 x hb;omega)]
  clear hz;refine b_ kc.start.length (λs h9 n9 G=>Gr h9 n9 191 2 v7 bN.av (rJ cl kc.start s)/\(∀c∈kc.start.take s,c.clause.toNat∈cl)/\(∀x,x<n7->¬blk v7 x->h9.get x=h8.get x)/\n7<=n9/\G=[(1,y),(2,.p n 0),(4,.p (n+1) 0),(11,.p nk 0),(66,y),(67,.i .i64 (cl.length:Nat)),(68,.i .i64 (k:Nat)),(12,.i .i64 (k:Nat)),(14,.p mk 0)]) (by omega) (by omega) (by omega) (by omega) (λk h8 n8 G ⟨_,_,_,_,e⟩=>by subst e;exact⟨rfl,rfl⟩) ⟨rfl,rfl,_,⟨g8,(λc hc=>by simp at hc),λ_ _ _=>rfl,Nat.le_refl _,rfl⟩,by(repeat' (first|exact aR|refine aN rfl ?_))⟩ ?_ ?_
  .rintro s h9 n9 G hs ⟨g9,m9,o9,l9,rfl⟩
   obtain⟨cd,hcd⟩:∃cd,kc.start[s]?=some cd:=⟨kc.start[s],List.getElem?_eq_getElem _⟩;have WE:∀x,x<mk+1->¬blk v7 x:=λx hx e=>by have:=b7 x e;omega
   have c9:=(o9 mk (by omega) (WE mk (by omega))).trans c8;obtain⟨b3,o3,cd',i3,Z_,hb3,sj⟩:=g9.sl.gD (k:=(s:Nat)) (by omega) (by rw[Az];omega) (by omega);rw[show((s:Nat):Int).toNat=s by omega,Ef hcd]at Z_;cases Z_
   have QV:∀x,x<n->h9.get x=h.get x:=λx hx=>by rw[o9 x (by omega) (WE x (by omega)),o8 x (by omega)];exact uk.old x hx
   simp (disch:=omega) only[go_sem,simprocAttr,NP,c9,aF.av,aK i3,sj.el,sj.hd,bN.av];rw[aU];have u9:Up h n h9 n9:=⟨by omega,QV⟩;have hps:(cl.map λi:Nat=>(i:Int)).Pairwise (· < ·):=by
    rw[List.pairwise_map];exact hp.imp λh=>by omega
   refine zm (K+3) cd.clause (hcl.up u9).int hps (by rw[List.length_map];exact hln) λq h10 n10 hI JG=>?_;have e10:=JG.le;have r10:h10.get (n+1)=some (.row 27 [.i .i64 0,.k 1,.k 1,.k 1,.k 1,.i .i64 0,.k 1]):=by rw[JG.old _ (by omega),o9 _ (by omega) (WE _ (by omega)),o8 _ (by omega)];exact r'
   have c10:=(JG.old mk (by omega)).trans c9;have u0a:=u9.trans JG;cases hf:(cl.map λi:Nat=>(i:Int)).contains cd.clause with
   |false=>
    simp (disch:=omega) only[go_sem,simprocAttr,r10];exact lK _ _ (Up.st u0a _ _ (by omega))
   |true=>
    have hq:=hI hf;rw[List.getElem?_map]at hq;obtain⟨a,ha,hac⟩:=Option.map_eq_some_iff.1 hq;have hat:cd.clause.toNat=a:=by omega
    have hix:cl.idxOf cd.clause.toNat=q:=by rw[hat];exact NY hp ha
    have g10:=g9.up JG;have af8:(Aa cl cd).av=cd.av.set 0 (.i .i64 (q:Nat)):=by unfold Aa;rw[hix];rfl
    obtain⟨vb,cap,cells,cells',hv7,hvb,gv,stc,gr⟩:=g10.cell (j:=0) (Ef (cl:=cl) hcd) (by omega) af8;rw[Az]at hv7;subst hv7;have hvm:=b7 vb (d_.2 rfl);rw[Nat.add_zero]at stc;simp (disch:=omega) only[go_sem,simprocAttr,c10,aF.av,bZ hs,gv,stc,Option.map_some];refine⟨rfl,rfl,_,⟨by rw[<-Ke hcd];exact gr,λc hc=>?_,λx hx hb=>?_,by omega,rfl⟩,by(repeat' (first|exact aR|refine aN rfl ?_))⟩
    .rw[List.take_add_one,hcd]at hc
     simp at hc;rcases hc with hc|rfl
     .exact m9 c hc
     .rw[hat];exact List.mem_of_getElem? ha
    .rw[ay (λe=>hb (d_.2 e)),JG.old x (by omega),o9 x hx hb]
  .rintro h9 n9 G ⟨g9,m9,o9,l9,rfl⟩
   have WE:∀x,x<mk+1->¬blk v7 x:=λx hx e=>by have:=b7 x e;omega
   have QV:∀x,x<mk->h9.get x=hk.get x:=λx hx=>by rw[o9 x (by omega) (WE x (by omega)),o8 x (by omega)]
   have c9:=(o9 mk (by omega) (WE mk (by omega))).trans c8;have q9:=(QV nk (by omega)).trans q';have s9:=(QV pb lb).trans s';have sp:oh (kc.av v7) (k*16) (l'.flatMap Cq)=some ((l'.set k (kc.onto (kc.start.map (Aa cl)),v7)).flatMap Cq):=ug (c:=Cq) (w:=16) (λ_=>rfl) l' k (kc.onto (kc.start.map (Aa cl)),v7) (by omega);simp only[aF.av]at sp;simp (disch:=omega) only[go_sem,simprocAttr,q9,c9,aF.av,bZ hkN,s9,sp,Option.map_some];rw[List.take_length]at m9;rw[Kg]at g9;have hpc:sP C cl i=kc.onto (kc.start.map (Aa cl)):=by unfold sP;rw[hkc];rfl
   refine⟨rfl,rfl,_,⟨l'.set k (kc.onto (kc.start.map (Aa cl)),v7),by simp[hl'],λj i' x hj hjx hji=>?_,λj i' kc' hj hji hk'=>?_,aG,by rw[ay (by omega)];exact q9,by rw[ay (by omega),QV n (by omega)];exact p',by rw[ay (by omega),QV (n+1) (by omega)];exact r',⟨by omega,λx hx=>by rw[ay (by omega),QV x (by omega)];exact uk.old x hx⟩,by omega,(kA'.on (by omega) λx hx _=>QV x hx).set (.inl (.inr rfl)) (Nat.le_refl _),rfl⟩,by(repeat' (first|exact aR|refine aN rfl ?_))⟩
   .rw[List.getElem?_set]at hjx
    by_cases e:k=j
    .subst e
     rw[if_pos rfl,if_pos (by omega)]at hjx;cases hjx
     rw[hi]at hji;cases hji
     exact⟨hpc.symm,(g9.sl.kp (X:=λx=>x<n1\/x=pb) λy hy e=>by have:=b7 y hy;omega).set (.inl (.inr rfl)) (Nat.le_refl _)⟩
    .rw[if_neg e]at hjx
     obtain⟨y1,y2⟩:=hx j i' x (by omega) hjx hji;exact⟨y1,(y2.on (by omega) λx hx _=>QV x hx).set (.inl (.inr rfl)) (Nat.le_refl _)⟩
   .by_cases e:j=k
    .subst e
     rw[hi]at hji;cases hji
     rw[hkc]at hk';cases hk'
     exactλc hc=>⟨(xI.start c hc).1,m9 c hc⟩
    .exact hcd j i' kc' (by omega) hji hk'
 .rintro hk mk G ⟨l',hl',hx,hcd,s',q',p',r',uk,lb,kA',rfl⟩
  simp (disch:=omega) only[go_sem,simprocAttr,q',r'];have hpart:eO C (C.part cl) cl:=eO.of hlt λi hi kc hkc=>by
   obtain⟨j,hj⟩:=List.getElem?_of_mem hi;exact hcd j i kc (List.getElem?_eq_some_iff.1 hj).1 hj hkc
  have get:∀(j:Nat)(x:aF×AV),l'[j]?=some x->(C.part cl).clauses[j]?=some x.1/\Kp (λx=>x<n1\/x=pb) hk mk (λh n=>SL h n 2 x.2 bN.av x.1.start):=λj x e=>by
   have hj:=(List.getElem?_eq_some_iff.1 e).1;have hj2:cl[j]?=some (cl[j]'(by omega)):=List.getElem?_eq_getElem _;obtain⟨y1,y2⟩:=hx j _ x (by omega) e hj2;refine⟨?_,y2⟩;show(cl.map (sP C cl))[j]?=_;rw[List.getElem?_map,hj2,Option.map_some,y1]
  refine uS hpart ⟨v2,v3,v4,_,v5⟩ _ _ (Up.st uk _ _ (by omega)) ?_;have hpl:(C.part cl).clauses.length=cl.length:=by simp[aA.part]
  have slk:SL hk mk 16 (.sl pb 0 0 cl.length (some cl.length)) Cq l':=SL.of (λ_=>rfl) lb s' rfl hl'.symm (λk hk=>by cases hk;exact Nat.le_refl _);have ksl:Kp (λx=>x<n1) hk mk (λh n=>SL h n 16 (.sl pb 0 0 cl.length (some cl.length)) Cq l'):=slk.kp λx hx e=>by rw[d_]at hx;omega
  have MP:Kp (λx=>x<n1) hk mk (λh n=>∀(j:Nat)(x:aF×AV),l'[j]?=some x->SL h n 2 x.2 bN.av x.1.start):=λh' n' a1 a2 j x e=>
   ((get j x e).2.le λy _ hy=>.inl hy) h' n' a1 a2
  have kA2:=kA'.le (Y:=λx=>x<n1) λy _ hy=>.inl hy;have hl1:(C.part cl).clauses.zip (l'.map (·.2))=l':=by
   apply List.ext_getElem?;intro j;cases hj:l'[j]? with
   |none=>
    rw[List.getElem?_eq_none_iff]at hj⊢;simp;omega
   |some x=>
    rw[List.getElem?_zip_eq_some];exact⟨(get j x hj).1,by rw[List.getElem?_map,hj];rfl⟩
  have kk:=((kA2.and ksl).and MP).wk (B:=λh n=>aY h n ⟨v2,v3,v4,.sl pb 0 0 cl.length (some cl.length),v5⟩ (C.part cl)) λh n e=>⟨e.1.1.1.1,e.1.1.1.2,e.1.1.2.1,⟨l'.map (·.2),by simp[hl',hpl],by rw[hl1];have:=e.1.2.2;rw[hl']at this;rw[hpl];exact this,λi k t h1 h2=>by
   rw[List.getElem?_map]at h2;cases hj:l'[i]? with
   |none=>rw[hj]at h2;cases h2
   |some x=>
    rw[hj]at h2;cases h2
    have h3:=(get i x hj).1;rw[h1]at h3;cases h3
    exact e.2 i x hj⟩,e.1.1.2.2⟩
  exact(kk.set (.inl (by omega)) (Nat.le_refl _)).le λx _ hx=>by omega
theorem QW(K:Nat){cl:List Nat}{y:AV}(hC:aY h n v C)(ho:C.off.length<=1000000)(hv:C.valid=true)(hcl:SL h n 1 y cn cl)(hln:cl.length<=1000000)
 (lK:∀h' n',Up h n h' n'->Q (.bQ [zcn,.i .i64 1]) h' n')
 (uS:eO C (C.part cl) cl->∀v' h' n',Up h n h' n'->Kp (λx=>x<n) h' n' (λh n=>aY h n v' (C.part cl))->Q (.bQ [.agg (v'.av (C.part cl)),.i .i64 0]) h' n'):CW (EF (K+7)) 131 [.agg (v.av C),y] h n Q:=by
 have ok:=aA.ok hv;have:=ok.dL;have:=ok.jY;have:=ok.lG;have hu:C.units.length<=20:=by
  have h1:=hv;simp only[aA.valid,aA.over,Bool.and_eq_true,Bool.not_eq_true',Bool.or_eq_false_iff,decide_eq_false_iff_not]at h1;omega
 refine aD c131 rfl ?_;simp (disch:=omega) only[go_sem,simprocAttr,ZV,CS.av];rw[aU];refine pK _ (hC.up aI) ho λei h2 n2 u2=>?_;have e2:=u2.le;have g2:h2.get n=some (.row 27 (v.av C)):=by rw[u2.old _ (by omega)];simp (disch:=omega) only[go_sem]
 have r2:h2.get (n+1)=some (.row 27 [.i .i64 0,.k 1,.k 1,.k 1,.k 1,.i .i64 0,.k 1]):=by rw[u2.old _ (by omega)];simp (disch:=omega) only[go_sem]
 have ux:Up h n h2 n2:=by exact aI
 clear u2;rw[(mE C).2 hv];simp (disch:=omega) only[go_sem,simprocAttr,hcl.len];refine b_ cl.length (λk hk nk G=>hk=h2/\nk=n2/\∃last:Int, -1<=last/\(cl.take k).Pairwise (· < ·)/\(∀i∈cl.take k,(i:Int)<=last/\i<C.clauses.length)/\G=[(1,y),(2,.p n 0),(4,.p (n+1) 0),(8,.i .i64 last),(26,y)]) (by omega) (by omega) (by omega) (by omega) (λk h8 n8 G ⟨_,_,_,_,_,_,e⟩=>by subst e;exact⟨rfl,rfl⟩) ⟨rfl,rfl,_,⟨rfl,rfl, -1,by omega,by simp,(λi hi=>by simp at hi),rfl⟩,by(repeat' (first|exact aR|refine aN rfl ?_))⟩ ?_ ?_
 .rintro k _ _ G hk ⟨rfl,rfl,last,hl0,hp,hlt,rfl⟩
  obtain⟨b1,o1,i,i1,hi,hb1,rd⟩:=(hcl.up ux).gD (k:=(k:Nat)) (by omega) (by omega) (by omega);rw[show((k:Nat):Int).toNat=k by omega]at hi;repeat' (first|(simp (disch:=omega) only[go_sem,simprocAttr,ub.old,Gl,aK i1,rd.el,rd.hd,g2,r2,CS.av,hC.lk])|(simp (disch:=omega) only[go_sem,simprocAttr,Gl,aK i1,rd.el,rd.hd,g2,r2,CS.av,hC.lk])|(refine aT ?_ ?_<;>(intro hb hd;rw[hb];clear hb))|(with_reducible refine aj ?_))
  .exact lK _ _ aI
  .exact lK _ _ aI
  .refine⟨rfl,rfl,_,⟨rfl,rfl,i,by omega,?_,λj hj=>?_,rfl⟩,by(repeat' (first|exact aR|refine aN rfl ?_))⟩
   .rw[List.take_add_one,hi,List.pairwise_append]
    exact⟨hp,by simp,λa ha b hb=>by simp at hb;have:=(hlt a ha).1;omega⟩
   .rw[List.take_add_one,hi]at hj
    simp at hj;rcases hj with hj|hj
    .have:=hlt j hj;omega
    .omega
 rintro hk nk G ⟨rfl,rfl,last,_,hp,hlt,rfl⟩;rw[List.take_length]at hp hlt;replace hlt:=λi hi=>(hlt i hi).2;simp (disch:=omega) only[go_sem,simprocAttr,g2,CS.av];generalize hz:Tr.set (Tr.set hk nk _) nk _=h1;have ZQ:Up h n h1 (nk+1):=by rw[<-hz];exact aI
 have q1:h1.get nk=some (.row 27 [.i .i64 C.aC,v.h,v.u,v.a,v.k,.i .i64 C.days,v.o]):=by rw[<-hz,aG]
 have p1:h1.get n=some (.row 27 (v.av C)):=by rw[<-hz,ay (by omega),ay (by omega)];exact g2
 have r1:h1.get (n+1)=some (.row 27 [.i .i64 0,.k 1,.k 1,.k 1,.k 1,.i .i64 0,.k 1]):=by rw[<-hz,ay (by omega),ay (by omega)];exact r2
 clear hz;generalize hn1:nk+1=n1 at*;rw[aU];refine eG UE zh _ (hC.ah.up ZQ) (by omega) λv2 h2 n2 u2 g2 b2 _=>?_;have e2:=u2.le;have q2:=(u2.old nk (by omega)).trans q1;have p2':=(u2.old n (by omega)).trans p1;simp (disch:=omega) only[go_sem,simprocAttr,g2.cl,q2,p2',CS.av];have CP:=(g2.sl.kp (X:=λx=>x<n1) λx hx=>by have:=b2 x hx;omega).set (b:=nk) (o:=.row 27 [.i .i64 C.aC,v2,v.u,v.a,v.k,.i .i64 C.days,v.o]) (.inl (by omega)) (Nat.le_refl _);have KQ:Up h n (h2.set nk (.row 27 [.i .i64 C.aC,v2,v.u,v.a,v.k,.i .i64 C.days,v.o])) n2:=Up.st (ZQ.trans u2) _ _ (by omega);replace q2:(h2.set nk (.row 27 [.i .i64 C.aC,v2,v.u,v.a,v.k,.i .i64 C.days,v.o])).get nk=some (.row 27 [.i .i64 C.aC,v2,v.u,v.a,v.k,.i .i64 C.days,v.o]):=aG;have p2:(h2.set nk (.row 27 [.i .i64 C.aC,v2,v.u,v.a,v.k,.i .i64 C.days,v.o])).get n=some (.row 27 (v.av C)):=by rw[ay (by omega),u2.old n (by omega)];exact p1
 have r2:(h2.set nk (.row 27 [.i .i64 C.aC,v2,v.u,v.a,v.k,.i .i64 C.days,v.o])).get (n+1)=some (.row 27 [.i .i64 0,.k 1,.k 1,.k 1,.k 1,.i .i64 0,.k 1]):=by rw[ay (by omega),u2.old (n+1) (by omega)];exact r1
 generalize Tr.set h2 nk _=h2a at*;rw[aU];refine eG k68 SG _ (hC.units.up KQ) (by omega) λv3 h3 n3 u3 g3 b3 _=>?_;have e3:=u3.le;have q3:=(u3.old nk (by omega)).trans q2;have p3':=(u3.old n (by omega)).trans p2;simp (disch:=omega) only[go_sem,simprocAttr,g3.cl,q3,p3',CS.av];have CP:=(CP.up u3).set (b:=nk) (o:=.row 27 [.i .i64 C.aC,v2,v3,v.a,v.k,.i .i64 C.days,v.o]) (.inl (by omega)) (Nat.le_refl _);have Iw:=(g3.sl.kp (X:=λx=>x<n1) λx hx=>by have:=b3 x hx;omega).set (b:=nk) (o:=.row 27 [.i .i64 C.aC,v2,v3,v.a,v.k,.i .i64 C.days,v.o]) (.inl (by omega)) (Nat.le_refl _);have rG:Up h n (h3.set nk (.row 27 [.i .i64 C.aC,v2,v3,v.a,v.k,.i .i64 C.days,v.o])) n3:=Up.st (KQ.trans u3) _ _ (by omega);replace q3:(h3.set nk (.row 27 [.i .i64 C.aC,v2,v3,v.a,v.k,.i .i64 C.days,v.o])).get nk=some (.row 27 [.i .i64 C.aC,v2,v3,v.a,v.k,.i .i64 C.days,v.o]):=aG;have p3:(h3.set nk (.row 27 [.i .i64 C.aC,v2,v3,v.a,v.k,.i .i64 C.days,v.o])).get n=some (.row 27 (v.av C)):=by rw[ay (by omega),u3.old n (by omega)];exact p2
 have r3:(h3.set nk (.row 27 [.i .i64 C.aC,v2,v3,v.a,v.k,.i .i64 C.days,v.o])).get (n+1)=some (.row 27 [.i .i64 0,.k 1,.k 1,.k 1,.k 1,.i .i64 0,.k 1]):=by rw[ay (by omega),u3.old (n+1) (by omega)];exact r2
 generalize Tr.set h3 nk _=h3a at*;rw[aU];refine eG k69 SH _ (hC.acts.up rG) (by omega) λv4 h4 n4 u4 g4 b4 _=>?_;have e4:=u4.le;have q4:=(u4.old nk (by omega)).trans q3;have p4':=(u4.old n (by omega)).trans p3;simp (disch:=omega) only[go_sem,simprocAttr,g4.cl,q4,p4',CS.av];have CP:=(CP.up u4).set (b:=nk) (o:=.row 27 [.i .i64 C.aC,v2,v3,v4,v.k,.i .i64 C.days,v.o]) (.inl (by omega)) (Nat.le_refl _);have Iw:=(Iw.up u4).set (b:=nk) (o:=.row 27 [.i .i64 C.aC,v2,v3,v4,v.k,.i .i64 C.days,v.o]) (.inl (by omega)) (Nat.le_refl _);have OJ:=(g4.sl.kp (X:=λx=>x<n1) λx hx=>by have:=b4 x hx;omega).set (b:=nk) (o:=.row 27 [.i .i64 C.aC,v2,v3,v4,v.k,.i .i64 C.days,v.o]) (.inl (by omega)) (Nat.le_refl _);have Vq:Up h n (h4.set nk (.row 27 [.i .i64 C.aC,v2,v3,v4,v.k,.i .i64 C.days,v.o])) n4:=Up.st (rG.trans u4) _ _ (by omega);replace q4:(h4.set nk (.row 27 [.i .i64 C.aC,v2,v3,v4,v.k,.i .i64 C.days,v.o])).get nk=some (.row 27 [.i .i64 C.aC,v2,v3,v4,v.k,.i .i64 C.days,v.o]):=aG;have p4:(h4.set nk (.row 27 [.i .i64 C.aC,v2,v3,v4,v.k,.i .i64 C.days,v.o])).get n=some (.row 27 (v.av C)):=by rw[ay (by omega),u4.old n (by omega)];exact p3
 have r4:(h4.set nk (.row 27 [.i .i64 C.aC,v2,v3,v4,v.k,.i .i64 C.days,v.o])).get (n+1)=some (.row 27 [.i .i64 0,.k 1,.k 1,.k 1,.k 1,.i .i64 0,.k 1]):=by rw[ay (by omega),u4.old (n+1) (by omega)];exact r3
 generalize Tr.set h4 nk _=h4a at*;rw[aU];refine eG UE zh _ (hC.off.up Vq) (by exact ho) λv5 h5 n5 u5 g5 b5 _=>?_;have e5:=u5.le;have q5:=(u5.old nk (by omega)).trans q4;have p5':=(u5.old n (by omega)).trans p4;simp (disch:=omega) only[go_sem,simprocAttr,g5.cl,q5,p5',CS.av];have CP:=(CP.up u5).set (b:=nk) (o:=.row 27 [.i .i64 C.aC,v2,v3,v4,v.k,.i .i64 C.days,v5]) (.inl (by omega)) (Nat.le_refl _);have Iw:=(Iw.up u5).set (b:=nk) (o:=.row 27 [.i .i64 C.aC,v2,v3,v4,v.k,.i .i64 C.days,v5]) (.inl (by omega)) (Nat.le_refl _);have OJ:=(OJ.up u5).set (b:=nk) (o:=.row 27 [.i .i64 C.aC,v2,v3,v4,v.k,.i .i64 C.days,v5]) (.inl (by omega)) (Nat.le_refl _);have Ww:=(g5.sl.kp (X:=λx=>x<n1) λx hx=>by have:=b5 x hx;omega).set (b:=nk) (o:=.row 27 [.i .i64 C.aC,v2,v3,v4,v.k,.i .i64 C.days,v5]) (.inl (by omega)) (Nat.le_refl _);have Wo:Up h n (h5.set nk (.row 27 [.i .i64 C.aC,v2,v3,v4,v.k,.i .i64 C.days,v5])) n5:=Up.st (Vq.trans u5) _ _ (by omega);replace q5:(h5.set nk (.row 27 [.i .i64 C.aC,v2,v3,v4,v.k,.i .i64 C.days,v5])).get nk=some (.row 27 [.i .i64 C.aC,v2,v3,v4,v.k,.i .i64 C.days,v5]):=aG;have p5:(h5.set nk (.row 27 [.i .i64 C.aC,v2,v3,v4,v.k,.i .i64 C.days,v5])).get n=some (.row 27 (v.av C)):=by rw[ay (by omega),u5.old n (by omega)];exact p4
 have r5:(h5.set nk (.row 27 [.i .i64 C.aC,v2,v3,v4,v.k,.i .i64 C.days,v5])).get (n+1)=some (.row 27 [.i .i64 0,.k 1,.k 1,.k 1,.k 1,.i .i64 0,.k 1]):=by rw[ay (by omega),u5.old (n+1) (by omega)];exact r4
 generalize Tr.set h5 nk _=h5a at*;simp (disch:=omega) only[go_sem,simprocAttr,hcl.len,q5,DL];generalize hz:Tr.set (Tr.set h5a n5 _) nk _=h6;have u6:Up h n h6 (n5+1):=by rw[<-hz];exact Up.st (Up.st (Wo.wk (Nat.le_succ _)) _ _ (by omega)) _ _ (by omega)
 have q6:h6.get nk=some (.row 27 [.i .i64 C.aC,v2,v3,v4,.sl n5 0 0 cl.length (some cl.length),.i .i64 C.days,v5]):=by rw[<-hz,aG]
 have s6:h6.get n5=some (.row 112 ((List.replicate cl.length ((⟨0,0,0,0,[],0,0,false,false,0,0,⟨0,0⟩,0,0,false⟩,.k 1):aF×AV)).flatMap Cq)):=by rw[<-hz,ay (by omega),aG,<-jk Cq]
 have p6:h6.get n=some (.row 27 (v.av C)):=by rw[<-hz,ay (by omega),ay (by omega)];exact p5
 have r6:h6.get (n+1)=some (.row 27 [.i .i64 0,.k 1,.k 1,.k 1,.k 1,.i .i64 0,.k 1]):=by rw[<-hz,ay (by omega),ay (by omega)];exact r5
 have kA:Kp (λx=>x<n1\/x=n5) h6 (n5+1) (λh n=>(SL h n 1 v2 (λx=>[AV.i .i64 x]) C.ah/\SL h n 5 v3 dB.av C.units)/\SL h n 7 v4 dh.av C.acts/\SL h n 1 v5 (λx=>[AV.i .i64 x]) C.off):=by
  have k0:=(CP.and Iw).and (OJ.and Ww);have k1:Kp (λx=>x<n1\/x=n5) h5a n5 (λh n=>(SL h n 1 v2 (λx=>[AV.i .i64 x]) C.ah/\SL h n 5 v3 dB.av C.units)/\SL h n 7 v4 dh.av C.acts/\SL h n 1 v5 (λx=>[AV.i .i64 x]) C.off):=k0.le λx hx e=>by omega
  rw[<-hz];exact(k1.set (.inr (Nat.le_refl _)) (Nat.le_succ _)).set (.inl (.inl (by omega))) (Nat.le_refl _)
 clear hz;exact Kh K hC hv hcl hln lK uS hp hlt u6 q6 s6 p6 r6 kA (by omega) (by omega)
end
end
end
section
noncomputable section
section
variable {h h':AH} {n n':Nat} {v:CS} {C:aA} {tv:TS} {s:aH} {Q:AV->AH->Nat->Prop}
theorem Ab(K:Nat){cl:List Nat}{y:AV}(hcl:SL h n 1 y cn cl)(hln:cl.length<=1000000)(hS:bX h n tv s)(l1:s.ah.length<=1000000)(l2:s.used.length<=1000000)(l3:s.marks.length<=1000000)(hlt:∀i∈cl,i<s.marks.length)
 (hQ:∀tv' h' n',Up h n h' n'->Kp (λx=>x<n) h' n' (λh n=>bX h n tv' (s.rs cl))->Q (.agg (tv'.av (s.rs cl))) h' n'):CW (EF (K+2)) 132 [y,.agg (tv.av s)] h n Q:=by
 refine aD afW rfl ?_;repeat' (first|(simp (disch:=omega) only[go_sem,simprocAttr,ub.old,Vt,TS.av])|(simp (disch:=omega) only[go_sem,simprocAttr,Vt,TS.av])|(refine aT ?_ ?_<;>(intro hb hd;rw[hb];clear hb))|(with_reducible refine aj ?_))
 rw[bR];refine eG UE zh _ (hS.ah.up aI) l1 λv2 h2 n2 u2 g2 b2 _=>?_;have e2:=u2.le;have q2:h2.get n=some (.row 43 (tv.av s)):=by rw[u2.old _ (by omega)];simp (disch:=omega) only[go_sem]
 have z2:h2.get (n+1)=some (.row 43 [.i .i64 0,.k 1,.k 1,.k 1]):=by rw[u2.old _ (by omega)];simp (disch:=omega) only[go_sem]
 have KQ:Up h n h2 n2:=by exact aI
 clear u2;simp (disch:=omega) only[go_sem,simprocAttr,q2,TS.av];rw[bR];refine eG YO R_ _ (hS.used.up KQ) l2 λv3 h3 n3 u3 g3 b3 _=>?_;have e3:=u3.le;have q3:=(u3.old n (by omega)).trans q2;have z3:=(u3.old (n+1) (by omega)).trans z2;have rG:=KQ.trans u3;simp (disch:=omega) only[go_sem,simprocAttr,q2,q3,TS.av,g2.cl,g3.cl,hcl.len];generalize hz:Tr.set (Tr.set h3 (n+2) _) (n+2) _=h4;have Vq:Up h n h4 n3:=by rw[<-hz];exact Up.st (Up.st rG _ _ (by omega)) _ _ (by omega)
 have o4:h4.get (n+2)=some (.row 43 [.i .i64 s.day,v2,v3,.k 1]):=by rw[<-hz,aG]
 have q4:h4.get n=some (.row 43 (tv.av s)):=by rw[<-hz,ay (by omega),ay (by omega)];exact q3
 have z4:h4.get (n+1)=some (.row 43 [.i .i64 0,.k 1,.k 1,.k 1]):=by rw[<-hz,ay (by omega),ay (by omega)];exact z3
 have kA:Kp (λx=>x<n+4\/n3<=x) h4 n3 (λh n=>SL h n 1 v2 (λx=>[AV.i .i64 x]) s.ah/\SL h n 1 v3 (λx=>[AV.b x]) s.used):=by
  have k2:=((g2.sl.up u3).kp (X:=λx=>x<n+4\/n3<=x) λx hx e=>by have:=b2 x hx;have:=g2.fE hx;omega).and (g3.sl.kp (X:=λx=>x<n+4\/n3<=x) λx hx e=>by have:=b3 x hx;have:=g3.fE hx;omega);rw[<-hz];exact(k2.set (.inl (.inl (by omega))) (Nat.le_refl _)).set (.inl (.inl (by omega))) (Nat.le_refl _)
 clear hz;refine b_ cl.length (λk hk nk G=>∃mv,Gr hk nk 144 5 mv au.av (bO (cl.take k) s.marks)/\hk.get (n+2)=some (.row 43 [.i .i64 s.day,v2,v3,mv])/\(∀x,blk mv x->n3<=x)/\hk.get n=some (.row 43 (tv.av s))/\hk.get (n+1)=some (.row 43 [.i .i64 0,.k 1,.k 1,.k 1])/\Up h n hk nk/\n3<=nk/\Kp (λx=>x<n+4\/n3<=x) hk nk (λh n=>SL h n 1 v2 (λx=>[AV.i .i64 x]) s.ah/\SL h n 1 v3 (λx=>[AV.b x]) s.used)/\G=[(3,.p n 0),(4,.p (n+1) 0),(5,.p (n+2) 0),(17,y)]) (by omega) (by omega) (by omega) (by omega) (λk h8 n8 G ⟨_,_,_,_,_,_,_,_,_,e⟩=>by subst e;exact⟨rfl,rfl⟩) ⟨rfl,rfl,_,⟨.k 1,Gr.nil λ_=>rfl,o4,(λx hx=>absurd hx fA),q4,z4,Vq,Nat.le_refl _,kA,rfl⟩,by(repeat' (first|exact aR|refine aN rfl ?_))⟩ ?_ ?_
 .rintro k hk nk G hkN ⟨mv,gm,ok',bm,qk,zk,uk,lk,kA',rfl⟩
  obtain⟨b1,o1,i,i1,hi,hb1,rd⟩:=(hcl.up uk).gD (k:=(k:Nat)) (by omega) (by omega) (by omega);rw[show((k:Nat):Int).toNat=k by omega]at hi;have hil:=hlt i (List.mem_of_getElem? hi);obtain⟨b5,o5,m,i5,hm,hb5,sQ⟩:=(hS.marks.up uk).gD (k:=(i:Nat)) (by omega) (by omega) (by omega);rw[show((i:Nat):Int).toNat=i by omega]at hm;have hrl:(bO (cl.take k) s.marks).length=k:=by simp[bO];omega
  repeat' (first|(simp (disch:=omega) only[go_sem,simprocAttr,ub.old,aK i1,rd.el,rd.hd,ok',qk,TS.av,i5,sQ.all,au.av])|(simp (disch:=omega) only[go_sem,simprocAttr,aK i1,rd.el,rd.hd,ok',qk,TS.av,i5,sQ.all,au.av])|(refine aT ?_ ?_<;>(intro hb hd;rw[hb];clear hb))|(with_reducible refine aj ?_))
  refine Co (l2:=[m]) (gm.up aI) ⟨rfl,?_⟩ (by simp;omega) λmv' h6 n6 g6 l6 s6 b6=>?_
  .show bnd (iD (Tr.get _ _) 0 _) (λr=>mO (Nat.mul 1 5) r)=_
   rw[aG];rfl
  have NU:∀x,x<n3->h6.get x=hk.get x:=λx hx=>by rw[s6 x (by omega) (λe=>by have:=bm x e;omega),ay (by omega)]
  have o6:=(NU (n+2) (by omega)).trans ok';have hnew:bO (cl.take k) s.marks++[m]=bO (cl.take (k+1)) s.marks:=by
   unfold bO;rw[List.take_add_one,hi,List.map_append];simp[hm]
  rw[hnew]at g6;simp (disch:=omega) only[go_sem,simprocAttr,o6,g6.cl];refine⟨rfl,rfl,_,⟨mv',g6.on (Nat.le_refl _) λx _ hx=>ay (by rcases b6 x hx with e|e;(have:=bm x e;omega);omega),aG,λx hx=>?_,by rw[ay (by omega),NU n (by omega)];exact qk,by rw[ay (by omega),NU (n+1) (by omega)];exact zk,⟨by have:=uk.le;omega,λx hx=>by rw[ay (by omega),NU x (by omega)];exact uk.old x hx⟩,by omega,(kA'.on (by omega) λx hx hX=>?_).set (.inl (.inl (by omega))) (Nat.le_refl _),rfl⟩,by(repeat' (first|exact aR|refine aN rfl ?_))⟩
  .rcases b6 x hx with e|e
   .exact bm x e
   .omega
  .exact NU x (by omega)
 .rintro hk nk G ⟨mv,gm,ok',bm,qk,zk,uk,lk,kA',rfl⟩
  rw[List.take_length]at gm;simp (disch:=omega) only[go_sem,simprocAttr,ok',zk];refine hQ ⟨v2,v3,mv⟩ _ _ (Up.st uk _ _ (by omega)) ?_;have km:Kp (λx=>x<n+2) hk nk (λh n=>SL h n 5 mv au.av (bO cl s.marks)):=gm.sl.kp λx hx e=>by have:=bm x hx;omega
  have kk:=((kA'.le (Y:=λx=>x<n+2) λx _ hx=>.inl (by omega)).and km).wk (B:=λh n=>bX h n ⟨v2,v3,mv⟩ (s.rs cl)) λh n e=>⟨e.1.1,e.1.2,e.2⟩;exact(kk.set (.inl (by omega)) (Nat.le_refl _)).le λx _ hx=>by omega
end
end
end
section
noncomputable section
structure SQ(h:AH)(n lb:Nat)(lv:AV)(L:List AV):Prop where
 box:h.get lb=some (.row 50 [lv])
 gr:Gr h n 22 1 lv one L
 VA:lb<n
 ne:¬blk lv lb
def LX(lb:Nat)(lv:AV)(x:Nat):Prop:=x=lb\/blk lv x
section
variable {h h':AH} {n n':Nat} {v:CS} {C D:aA} {tv:TS} {q:aP} {party:Int} {Q:AV->AH->Nat->Prop} {lb pb:Nat} {lv y:AV} {L:List AV}
theorem SQ.up(a:SQ h n lb lv L)(u:Up h n h' n'):SQ h' n' lb lv L:=⟨(u.old _ a.VA).trans a.box,a.gr.up u,Nat.lt_of_lt_of_le a.VA u.le,a.ne⟩
theorem QX(K:Nat)(hC:aY h n v D)(ho:D.off.length<=1000000)(hS:bX h n tv q.st)(hp:h.get pb=some (.row 3 [.i .i64 party]))(hpn:pb<n)(ls:SQ h n lb lv L)(hL:L.length<=1000000)(hy:qI y=some [y])
 (lK:∀e h' n',e≠0->Up h n h' n'->Q (.i .i64 e) h' n')
 (uS:D.valid=true->¬bY D party q->∀h' n',Up h n h' n'->Q (.i .i64 0) h' n')
 (KN:D.valid=true->bY D party q->∀QY h' n',SQ h' n' lb QY (L++[y])->n<=n'->(∀x,x<n->¬LX lb lv x->h'.get x=h.get x)->(∀x,blk QY x->blk lv x\/n<=x)->Q (.i .i64 0) h' n'):CW (EF (K+11)) 73 [y,.agg (v.av D),.agg (tv.pv q),.p pb 0,.p lb 0] h n Q:=by
 refine aD c73 rfl ?_;repeat' (first|(simp (disch:=omega) only[go_sem,simprocAttr,ub.old,m73,CS.av,TS.pv,hp])|(simp (disch:=omega) only[go_sem,simprocAttr,m73,CS.av,TS.pv,hp])|(refine aT ?_ ?_<;>(intro hb hd;rw[hb];clear hb))|(with_reducible refine aj ?_))
 rw[aU];have VA:=ls.VA;refine Il K (hC.up aI) ho (hS.up aI) ⟨λ_ h2 n2 u2=>?_,λ_ _ _ _ h2 n2 u2=>?_,λhp0 hp1 so ps wv M vv ww h2 n2 ia u2 k2=>?_⟩
 .have e2:=u2.le
  repeat' (first|(simp (disch:=omega) only[go_sem,simprocAttr,ub.old,SB,Int.reduceEq])|(simp (disch:=omega) only[go_sem,simprocAttr,SB,Int.reduceEq])|(refine aT ?_ ?_<;>(intro hb hd;rw[hb];clear hb))|(with_reducible refine aj ?_))
  exact lK 1 _ _ (by omega) aI
 .have e2:=u2.le
  repeat' (first|(simp (disch:=omega) only[go_sem,simprocAttr,ub.old,SB,Int.reduceEq])|(simp (disch:=omega) only[go_sem,simprocAttr,SB,Int.reduceEq])|(refine aT ?_ ?_<;>(intro hb hd;rw[hb];clear hb))|(with_reducible refine aj ?_))
  exact lK 3 _ _ (by omega) aI
 .have e2:=u2.le
  have g2:h2.get n=some (.row 27 (v.av D)):=by rw[u2.old _ (by omega)];simp (disch:=omega) only[go_sem]
  have ux:Up h n h2 n2:=by exact aI
  clear u2;repeat' (first|(simp (disch:=omega) only[go_sem,simprocAttr,ub.old,g2,CS.av])|(simp (disch:=omega) only[go_sem,simprocAttr,g2,CS.av])|(refine aT ?_ ?_<;>(intro hb hd;rw[hb];clear hb))|(with_reducible refine aj ?_))
  rw[aU];have ka:=(k2.set (b:=n2) (o:=.row 150 [.i .i64 0,.k 1,.k 1]) (.inr (Nat.le_refl _)) (Nat.le_refl _)).set (b:=n2) (o:=.row 150 [.i .i64 party,vv,ww]) (m:=n2+1) (.inr (Nat.le_refl _)) (Nat.le_succ _);refine Ir K (hC.up aI) ho ka.use ia hp0 hp1 so λv' sf h3 n3 sl u3 k3=>?_;have e3:=u3.le;obtain⟨b,hb,wL⟩:=sl.2 0 q ia.hd;obtain⟨b1,o1,b',i1,hb',hb1,rd⟩:=k3.use.gD (k:=(0:Int)) (by omega) (by have:=(List.getElem?_eq_some_iff.1 hb).1;omega) (by omega);rw[show((0:Int)).toNat=0 by rfl,hb]at hb';cases hb'
  have uf:Up h n h3 n3:=by exact aI
  cases b with
  |true=>
   simp (disch:=omega) only[go_sem,simprocAttr,aK i1,rd.el,rd.hd];exact uS so.con (wL.1 rfl) _ _ uf
  |false=>
   have hd:bY D party q:=Classical.byContradiction λe=>by cases wL.2 e
   have ls3:=ls.up uf;have bx:=ls3.box;simp (disch:=omega) only[go_sem,simprocAttr,aK i1,rd.el,rd.hd,bx,hy];refine jZ (l2:=[y]) (ls3.gr.up aI) ⟨rfl,?_⟩ (by simp;omega) λQY h4 n4 g4 l4 s4 b4=>?_
   .show bnd (iD (Tr.get _ _) 0 _) (λr=>mO (Nat.mul 1 1) r)=_
    rw[aG];rfl
   have lb3:=ls3.VA;have s4':∀x,x<n3->¬blk lv x->h4.get x=h3.get x:=λx hx hb=>by rw[s4 x (by omega) hb,ay (by omega)]
   have bx4:=(s4' lb lb3 ls3.ne).trans bx;have ne4:¬blk QY lb:=λe=>by
    rcases b4 lb e with e|e
    .exact ls3.ne e
    .omega
   simp (disch:=omega) only[go_sem,simprocAttr,g4.cl,bx4];refine KN so.con hd QY _ _ ⟨aG,g4.on (Nat.le_refl _) λx _ hx=>ay λe=>ne4 (by rw[<-e];exact hx),by omega,ne4⟩ (by have:=uf.le;omega) (λx hx hX=>?_) λx hx=>?_
   .rw[ay (λe=>hX (.inl e)),s4' x (by have:=uf.le;omega) (λe=>hX (.inr e)),uf.old x hx]
   .rcases b4 x hx with e|e
    .exact .inl e
    .exact .inr (by have:=uf.le;omega)
end
end
end
noncomputable section
section
variable {h h':AH} {n n':Nat} {v:CS} {C:aA} {tv:TS} {p:aP} {party:Int} {Q:AV->AH->Nat->Prop} {lb pb:Nat}
theorem NZ(K:Nat){n0:Nat}(hC:aY h n0 v C)(ho:C.off.length<=1000000)(hS:bX h n0 tv p.st)(hn0:n0<=lb)(hp:h.get pb=some (.row 3 [.i .i64 party]))(hpn:pb<n)(ls:SQ h n lb (.k 1) [])(hne:pb≠lb)
 (lK:∀e h' n',e≠0->n<=n'->(∀x,x<n->x≠lb->h'.get x=h.get x)->Q (.i .i64 e) h' n')
 (uS:0<=party->party<C.aC->aM C p.st->∀lv L h' n',(L=[]↔¬bY C party p)->SQ h' n' lb lv L->n<=n'->(∀x,x<n->x≠lb->h'.get x=h.get x)->L.length<=400->Q (.i .i64 0) h' n'):
 CW (EF (K+404)) 72 [.agg (v.av C),.i .i64 party,.agg (tv.pv p),.f 73 [.p pb 0,.p lb 0]] h n Q:=by
 have Wt:∀e h' n',e≠0->Up h n h' n'->Q (.i .i64 e) h' n':=λe h' n' he u=>lK e h' n' he u.le λx hx _=>u.old x hx;have VA:=ls.VA;have c0:Up h n0 h n:=Up.ge (by omega);have hC0:=hC;have hS0:=hS;replace hC:=hC.up c0;replace hS:=hS.up c0;refine aD c72 rfl ?_;by_cases hp0:party<0
 .have d0:decide (party<0)=true:=decide_eq_true hp0
  repeat' (first|(simp (disch:=omega) only[go_sem,simprocAttr,ub.old,Wy,CS.av,TS.pv,d0])|(simp (disch:=omega) only[go_sem,simprocAttr,Wy,CS.av,TS.pv,d0])|(refine aT ?_ ?_<;>(intro hb hd;rw[hb];clear hb))|(with_reducible refine aj ?_))
  exact Wt 1 _ _ (by omega) aI
 have d0:decide (party<0)=false:=decide_eq_false hp0;by_cases hp1:C.aC<=party
 .have d1:decide (C.aC<=party)=true:=decide_eq_true hp1
  repeat' (first|(simp (disch:=omega) only[go_sem,simprocAttr,ub.old,Wy,CS.av,TS.pv,d0,d1])|(simp (disch:=omega) only[go_sem,simprocAttr,Wy,CS.av,TS.pv,d0,d1])|(refine aT ?_ ?_<;>(intro hb hd;rw[hb];clear hb))|(with_reducible refine aj ?_))
  exact Wt 1 _ _ (by omega) aI
 have d1:decide (C.aC<=party)=false:=decide_eq_false hp1;simp (disch:=omega) only[go_sem,simprocAttr,Wy,CS.av,TS.pv,d0,d1];rw[aU];refine gQ _ (hC.up aI) ho (hS.up aI) λh2 n2 u2=>?_;have e2:=u2.le;have g2:h2.get n=some (.row 27 (v.av C)):=by rw[u2.old _ (by omega)];simp (disch:=omega) only[go_sem]
 have q2:h2.get (n+1)=some (.row 45 (tv.pv p)):=by rw[u2.old _ (by omega)];simp (disch:=omega) only[go_sem]
 have KQ:Up h n h2 n2:=by exact aI
 clear u2;cases hok:C.dQ p.st with
 |false=>
  simp (disch:=omega) only[go_sem,simprocAttr];exact Wt 1 _ _ (by omega) KQ
 |true=>
  have so:=(dP C p.st).1 hok;have ok:=aA.ok so.con;have:=ok.dL;have:=ok.jY;have:=ok.lG;have:=so.lh;have:=so.lu;have:=so.lm;simp (disch:=omega) only[go_sem,simprocAttr,g2,CS.av];rw[aU];refine z_ K (hC.up KQ) ho so.con λP pv h3 n3 ic u3 rows=>?_;have e3:=u3.le;have hPl:=ic.af2;obtain⟨bs,rw1,rw2,rw3,rw4,rw5⟩:=rows;have g3:=(u3.old n (by omega)).trans g2;have q3:=(u3.old (n+1) (by omega)).trans q2;have rG:=KQ.trans u3;simp (disch:=omega) only[go_sem,simprocAttr,rw1.len];refine b_ bs.length (λk hk nk G=>∃lv L X,SQ hk nk lb lv L/\L.length<=k/\(L=[]↔∀l∈P.take k,¬bY (C.part l) party ⟨p.st.rs l,p.own⟩)/\(∀l∈P.take k,eO C (C.part l) l/\(C.part l).valid=true)/\n3<=nk/\(∀x,x<n->x≠lb->hk.get x=h.get x)/\((∀x,LX lb lv x->X x)/\∀x,X x->x=lb\/n3<=x)/\Kp X hk nk (λh n=>aY h n v C/\bX h n tv p.st)/\Kp X hk nk (λh n=>SL h n 1 pv one bs/\∀(j:Nat)(y:AV)(l:List Nat),bs[j]?=some y->P[j]?=some l->SL h n 1 y cn l)/\(hk.get n=some (.row 27 (v.av C))/\hk.get (n+1)=some (.row 45 (tv.pv p)))/\G=[(3,.f 73 [.p pb 0,.p lb 0]),(4,.p n 0),(6,.p (n+1) 0),(9,.i .i64 0),(30,pv)]) (by omega) (by omega) (by omega) (by omega) (λk h8 n8 G ⟨_,_,_,_,_,_,_,_,_,_,_,_,_,e⟩=>by subst e;exact⟨rfl,rfl⟩) ⟨rfl,rfl,_,⟨.k 1,[],LX lb (.k 1),ls.up rG,Nat.le_refl _,by simp,by simp,Nat.le_refl _,λx hx _=>rG.old x hx,⟨λx hx=>hx,λx hx=>hx.elim .inl λe=>absurd e fA⟩,?_,?_,⟨g3,q3⟩,rfl⟩,by(repeat' (first|exact aR|refine aN rfl ?_))⟩ ?_ ?_
  .have k0:Kp (LX lb (.k 1)) h n0 (λh n=>aY h n v C/\bX h n tv p.st):=Kp.Jv (λh' n' u=>⟨hC0.up u,hS0.up u⟩) λx hx=>by
    rcases hx with rfl|hx
    .exact hn0
    .exact absurd hx fA
   exact k0.on (by omega) λx hx _=>rG.old x (by omega)
  .have no:∀x,n2<=x->¬LX lb (.k 1) x:=λx hx e=>by
    rcases e with rfl|e
    .omega
    .exact absurd e fA
   exact(rw1.kp λx hx=>no x (rw4 x hx)).and λh' n' a1 a2 j y l e1 e2=>((rw3 j y l e1 e2).kp λx hx=>no x (rw5 j y e1 x hx)) h' n' a1 a2
  .rintro k hk nk G hkN ⟨lv,L,X,lsk,hLk,hLi,hPk,lk,same,⟨hX1,hX2⟩,kC,kR,⟨gk,qk⟩,rfl⟩
   obtain⟨b1,o1,y,i1,hy,hb1,rd⟩:=kR.use.1.gD (k:=(k:Nat)) (by omega) (by omega) (by omega);rw[show((k:Nat):Int).toNat=k by omega]at hy;obtain⟨l,hl⟩:∃l,P[k]?=some l:=⟨P[k]'(by omega),List.getElem?_eq_getElem _⟩;have hlP:=List.mem_of_getElem? hl;have sy:=kR.use.2 k y l hy hl;have hll:=ic.len l hlP;have uk:Up hk n hk nk:=Up.ge (by omega);simp (disch:=omega) only[go_sem,simprocAttr,aK i1,rd.el,rd.hd,gk,CS.av];rw[aU];refine QW _ kC.use.1 ho so.con sy (by omega) (λh5 n5 u5=>?_) λhpart v' h5 n5 u5 k5=>?_
   .have e5:=u5.le
    simp (disch:=omega) only[go_sem,simprocAttr,Int.reduceEq];exact lK 1 _ _ (by omega) (by omega) λx hx hx2=>by rw[ay (by omega),ay (by omega),u5.old x (by omega)];exact same x hx hx2
   .have e5:=u5.le
    have g5:=(u5.old n (by omega)).trans gk;have q5:=(u5.old (n+1) (by omega)).trans qk;repeat' (first|(simp (disch:=omega) only[go_sem,simprocAttr,ub.old,g5,q5,CS.av,TS.pv])|(simp (disch:=omega) only[go_sem,simprocAttr,g5,q5,CS.av,TS.pv])|(refine aT ?_ ?_<;>(intro hb hd;rw[hb];clear hb))|(with_reducible refine aj ?_))
    generalize hz:Tr.set (Tr.set h5 n5 _) n5 _=h6;have u6:Up h5 n5 h6 (n5+1):=by rw[<-hz];exact aI
    have g6:h6.get n5=some (.row 27 (v'.av (C.part l))):=by rw[<-hz,aG]
    clear hz;have u56:=u5.trans u6;have q6:=(u6.old (n+1) (by omega)).trans q5;rw[bR];refine Ab (K+401) (sy.up u56) (by omega) (kC.use.2.up u56) (by omega) (by omega) (by omega) (λi hi=>by have:=hpart.lt hi;omega) λtv' h7 n7 u7 k7=>?_;have e7:=u7.le;have g7:=(u7.old n5 (by omega)).trans g6;have q7:=(u7.old (n+1) (by omega)).trans q6;have u57:=u56.trans u7;simp (disch:=omega) only[go_sem,simprocAttr,g6,g7,q6,q7,TS.pv,CS.av];rw[vI];show CW (EF (K+403)) 73 [y,.agg (v'.av (C.part l)),.agg (tv'.pv ⟨p.st.rs l,p.own⟩),.p pb 0,.p lb 0] _ _ _;rw[show K+403=(K+392)+11 by omega];have tk:P.take (k+1)=P.take k++[l]:=by rw[List.take_add_one,hl];rfl
    refine QX (K+392) (D:=C.part l) (q:=⟨p.st.rs l,p.own⟩) (k5.use.up (u6.trans u7)) ho k7.use (by rw[u57.old pb (by omega),same pb hpn hne];exact hp) (by omega) (lsk.up u57) (by omega) sy.cl (λe h8 n8 he u8=>?_) (λhv hnd h8 n8 u8=>?_) λhv SS QY h8 n8 ls8 l8 s8 b8=>?_
    .have e8:=u8.le
     have hd:decide (e=0)=false:=decide_eq_false he;simp (disch:=omega) only[go_sem,simprocAttr,g6,g7,q6,q7,hd];exact lK e _ _ he (by omega) λx hx hx2=>by rw[u8.old x (by omega),u57.old x (by omega)];exact same x hx hx2
    .have e8:=u8.le
     have u58:=u57.trans u8;simp (disch:=omega) only[go_sem,simprocAttr];refine⟨⟨by rw[g7];rfl,by rw[q6];rfl⟩,rfl,rfl,_,⟨lv,L,X,lsk.up u58,by omega,?_,λl' hl'=>?_,by omega,λx hx hx2=>by rw[u58.old x (by omega)];exact same x hx hx2,⟨hX1,hX2⟩,kC.up u58,kR.up u58,⟨(u58.old n (by omega)).trans gk,(u58.old (n+1) (by omega)).trans qk⟩,rfl⟩,by(repeat' (first|exact aR|refine aN rfl ?_))⟩
     .rw[hLi,tk]
      refine⟨λh l' hl'=>?_,λh l' hl'=>h l' (List.mem_append_left _ hl')⟩;rcases List.mem_append.1 hl' with h1|h1
      .exact h l' h1
      .rw[List.mem_singleton]at h1;subst h1;exact hnd
     .rw[tk]at hl'
      rcases List.mem_append.1 hl' with h1|h1
      .exact hPk l' h1
      .rw[List.mem_singleton]at h1;subst h1;exact⟨hpart,hv⟩
    .have o8:∀x,x<nk->¬X x->h8.get x=hk.get x:=λx hx hX=>by rw[s8 x (by omega) (λe=>hX (hX1 x e)),u57.old x hx]
     have nX:∀x,x<nk->(X x\/blk QY x)->X x:=λx hx hX=>by
      rcases hX with e|e
      .exact e
      .rcases b8 x e with e|e
       .exact hX1 x (.inr e)
       .omega
     have nlv:∀x,x<n3->x≠lb->¬X x:=λx hx hne e=>by
      rcases hX2 x e with e|e
      .exact hne e
      .omega
     simp (disch:=omega) only[go_sem,simprocAttr];refine⟨⟨by rw[g7];rfl,by rw[q6];rfl⟩,rfl,rfl,_,⟨QY,L++[y],λx=>X x\/blk QY x,ls8,by simp;omega,?_,λl' hl'=>?_,by omega,λx hx hx2=>by rw[o8 x (by omega) (nlv x (by omega) hx2)];exact same x hx hx2,⟨λx hx=>?_,λx hx=>?_⟩,(kC.le λx hx hX=>nX x hx hX).on (by omega) λx hx hX=>o8 x hx λe=>hX (.inl e),(kR.le λx hx hX=>nX x hx hX).on (by omega) λx hx hX=>o8 x hx λe=>hX (.inl e),⟨(o8 n (by omega) (nlv n (by omega) (by omega))).trans gk,(o8 (n+1) (by omega) (nlv (n+1) (by omega) (by omega))).trans qk⟩,rfl⟩,by(repeat' (first|exact aR|refine aN rfl ?_))⟩
     .refine⟨λh=>by simp at h,λh=>absurd SS (h l ?_)⟩
      rw[tk];simp
     .rw[tk]at hl'
      rcases List.mem_append.1 hl' with h1|h1
      .exact hPk l' h1
      .rw[List.mem_singleton]at h1;subst h1;exact⟨hpart,hv⟩
     .rcases hx with e|e
      .exact .inl (hX1 x (.inl e))
      .exact .inr e
     .rcases hx with e|e
      .exact hX2 x e
      .rcases b8 x e with e|e
       .exact hX2 x (hX1 x (.inr e))
       .exact .inr (by omega)
  .rintro hk nk G ⟨lv,L,X,lsk,hLk,hLi,hPk,lk,same,⟨hX1,hX2⟩,kC,kR,⟨gk,qk⟩,rfl⟩
   rw[rw2,List.take_length]at hLi hPk;simp (disch:=omega) only[go_sem,simprocAttr];exact uS (by omega) (by omega) so lv L _ _ (hLi.trans (Gs ic (by omega) so hPk)) lsk (by omega) same (by omega)
theorem QZ(K:Nat)(hC:aY h n v C)(ho:C.off.length<=1000000)(hS:bX h n tv p.st)(lK:∀e h' n',e≠0->Up h n h' n'->Q (.bQ [.k 1,.i .i64 e]) h' n')
 (uS:0<=party->party<C.aC->aM C p.st->∀lv (L:List AV) h' n',(L=[]↔¬bY C party p)->SL h' n' 1 lv one L->L.length<=400->Up h n h' n'->Q (.bQ [lv,.i .i64 0]) h' n'):CW (EF (K+405)) 38 [.agg (v.av C),.i .i64 party,.agg (tv.pv p)] h n Q:=by
 refine aD c38 rfl ?_;simp (disch:=omega) only[go_sem,simprocAttr,m38,CS.av,TS.pv];generalize hz:Tr.set (Tr.set (Tr.set (Tr.set h n _) (n+1) _) (n+1+1) _) (n+1+1+1) _=h1;have u1:Up h n h1 (n+4):=by rw[<-hz];exact aI
 have u1':Up h n h1 n:=⟨Nat.le_refl _,u1.old⟩;have p1:h1.get (n+1)=some (.row 3 [.i .i64 party]):=by rw[<-hz];simp (disch:=omega) only[go_sem]
 have l1:h1.get (n+1+1+1)=some (.row 50 [.k 1]):=by rw[<-hz];simp (disch:=omega) only[go_sem]
 clear hz;rw[aU];refine NZ K (n0:=n) (lb:=n+1+1+1) (pb:=n+1) (hC.up u1') ho (hS.up u1') (by omega) p1 (by omega) ⟨l1,Gr.nil λ_=>rfl,by omega,fA⟩ (by omega) (λe h2 n2 he l2 x2=>?_) λhp0 hp1 so lv L h2 n2 hL ls l2 x2 hL4=>?_
 .have hd:decide (e=0)=false:=decide_eq_false he
  simp (disch:=omega) only[go_sem,simprocAttr,hd];exact lK e _ _ he ⟨by omega,λx hx=>by rw[x2 x (by omega) (by omega)];exact u1.old x hx⟩
 .have bx:=ls.box
  simp (disch:=omega) only[go_sem,simprocAttr,bx];exact uS hp0 hp1 so lv L _ _ hL ls.gr.sl hL4 ⟨by omega,λx hx=>by rw[x2 x (by omega) (by omega)];exact u1.old x hx⟩
theorem Eh(K:Nat)(hC:aY h n v C)(ho:C.off.length<=1000000)(hS:bX h n tv p.st)(lK:∀e h' n',e≠0->Up h n h' n'->Q (.bQ [.b false,.i .i64 e]) h' n')
 (uS:0<=party->party<C.aC->aM C p.st->∀b h' n',(b=true↔¬bY C party p)->Up h n h' n'->Q (.bQ [.b b,.i .i64 0]) h' n'):CW (EF (K+406)) 12 [.agg (v.av C),.i .i64 party,.agg (tv.pv p)] h n Q:=by
 refine aD c12 rfl ?_;simp (disch:=omega) only[go_sem,simprocAttr,m12,CS.av,TS.pv];rw[aU];refine QZ K (party:=party) (p:=p) (tv:=tv) (hC.up aI) ho (hS.up aI) (λe h2 n2 he u2=>?_) λhp0 hp1 so lv L h2 n2 hL sl hL4 u2=>?_
 .have e2:=u2.le
  have hd:decide (e=0)=false:=decide_eq_false he;simp (disch:=omega) only[go_sem,simprocAttr,hd];exact lK e _ _ he aI
 .have e2:=u2.le
  simp (disch:=omega) only[go_sem,simprocAttr,sl.len];refine uS hp0 hp1 so _ _ _ ?_ aI;rw[<-hL,decide_eq_true_iff];cases L<;>simp
  omega
end
end
end Go.Proofs.YtjoohkjmoghmoaaGreatDoor

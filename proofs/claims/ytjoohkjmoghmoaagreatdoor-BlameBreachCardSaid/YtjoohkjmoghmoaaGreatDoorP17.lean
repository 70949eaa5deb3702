/- part -/
import Derived.Test.YtjoohkjmoghmoaaGreatDoorP16
set_option linter.all false
namespace Go.Proofs.YtjoohkjmoghmoaaGreatDoor
section
noncomputable section
structure Jd(C:aA)(u:Nat)(party:Int)(B:Prop)(h:AH)(n j s l:Nat)(ent:List (List UInt8×AV)):Prop where
 row:∃r,r.length=6/\h.get j=some (.row 136 (.i .i64 party:: .m s:: .m l::r))
 ms:uh h s AV.s ent
 ml:∃le,uh h l (λi:Int=>AV.i .i64 i) le/\(le=[]\/le=[((u:Int),AV.b true)]/\B)
 ok:∀q,aM C q.st->∀x,nI ent (lJ u q)=some x->∃b,x= .b b/\(b=true↔¬bY C party q)
 jn:j<n
 sn:s<n
 ln:l<n
 js:j≠s
 jl:j≠l
 sl:s≠l
section
variable {h h':AH} {n n':Nat} {Q:AV->AH->Nat->Prop} {C:aA} {cv sv tv dv:AV} {tq:TS} {p:aP} {party:Int} {u j s l:Nat} {ent:List (List UInt8×AV)} {B:Prop} {vs:List CS} {N:Nat}
theorem Jd.up(a:Jd C u party B h n j s l ent)(x:Up h n h' n'):Jd C u party B h' n' j s l ent:=by
 obtain⟨r,h1,h2⟩:=a.row;exact⟨⟨r,h1,(x.old _ a.jn).trans h2⟩,a.ms.on (x.old _ a.sn),a.ml.imp λ_ e=>⟨e.1.on (x.old _ a.ln),e.2⟩,a.ok,Nat.lt_of_lt_of_le a.jn x.le,Nat.lt_of_lt_of_le a.sn x.le,Nat.lt_of_lt_of_le a.ln x.le,a.js,a.jl,a.sl⟩
theorem Jd.put(a:Jd C u party B h n j s l ent){q:aP}(hq:aM C q.st){b:Bool}(hb:b=true↔¬bY C party q):∃o xg,CV (qQ Tryz.prog 30 9) (xQ Tryz.prog 30 9) h n (.m s) (.s (lJ u q)) (.b b)= .ok (.bQ []) (h.set s o) n/\Jd C u party B (h.set s o) n j s l xg:=by
 obtain⟨o,h1,h2⟩:=a.ms.put (k:=lJ u q) (n:=n) Nn (.b b);obtain⟨r,h3,h4⟩:=a.row;refine⟨o,_,h1,⟨⟨r,h3,by rw[ay a.js];exact h4⟩,h2,a.ml.imp λ_ e=>⟨e.1.on (ay (Ne.symm a.sl)),e.2⟩,λq' hq' x hx=>?_,a.jn,a.sn,a.ln,a.js,a.jl,a.sl⟩⟩;rw[nK]at hx;split at hx
 .rename_i e
  cases JX hq' hq e
  cases hx
  exact⟨b,rfl,hb⟩
 .exact a.ok q' hq' x hx
theorem Jd.large(a:Jd C u party B h n j s l ent)(hB:B):∃o,CV (qQ Tryz.prog 30 3) (xQ Tryz.prog 30 3) h n (.m l) (.i .i64 (u:Nat)) (.b true)= .ok (.bQ []) (h.set l o) n/\Jd C u party B (h.set l o) n j s l ent:=by
 obtain⟨le,h1,h2⟩:=a.ml;obtain⟨o,h3,h4⟩:=h1.put (k:=(u:Int)) (n:=n) Gu (.b true);obtain⟨r,h5,h6⟩:=a.row;refine⟨o,h3,⟨r,h5,by rw[ay a.jl];exact h6⟩,a.ms.on (ay a.sl),⟨_,h4,.inr ⟨?_,hB⟩⟩,a.ok,a.jn,a.sn,a.ln,a.js,a.jl,a.sl⟩;rcases h2 with rfl|⟨rfl,_⟩
 .rfl
 .rw[DN,if_pos rfl]
def Q0(X:Nat->Prop)(h:AH):Prop:=∀x,X x->∃es oK,h.get x=some (.mp es oK)
theorem uh.mps{h:AH}{κ:Type}{ke:κ->AV}{m:List (κ×AV)}{s:Nat}(b:uh h s ke m):Q0 (λx=>x=s) h:=λx e=>by
 subst e;obtain⟨es,oK,h1,_⟩:=b;exact⟨es,oK,h1⟩
theorem Q0.or{X Y:Nat->Prop}{h:AH}(a:Q0 X h)(b:Q0 Y h):Q0 (λx=>X x\/Y x) h:=λx e=>e.elim (a x) (b x)
theorem SL.mK{h:AH}{n w:Nat}{v:AV}{α:Type}{c:α->List AV}{l:List α}{X:Nat->Prop}(a:SL h n w v c l)(b:Q0 X h):∀x,blk v x->¬X x:=by
 intro x hx hX;obtain⟨es,oK,h1⟩:=b x hX;rcases a.2 with⟨rfl,_⟩|⟨y,lo,o,cp,rfl,_,h3,_⟩|⟨_,_,rfl,_⟩
 rotate_left 2
 .exact Mw hx
 .exact fA hx
 .rw[d_]at hx
  subst hx;rw[h1]at h3;rcases h3 with⟨_,_,h3,_⟩|⟨_,h3,_⟩<;>cases h3
theorem bX.SV{h:AH}{n:Nat}{tv:TS}{st:aH}{X:Nat->Prop}(a:bX h n tv st)(b:Q0 X h):Kp X h n (λh n=>bX h n tv st):=
 (((a.ah.kp (a.ah.mK b)).and (a.used.kp (a.used.mK b))).and (a.marks.kp (a.marks.mK b))).wk λh n e=>⟨e.1.1,e.1.2,e.2⟩
theorem aY.SV{v:CS}{X:Nat->Prop}(a:aY h n v C)(b:Q0 X h):Kp X h n (λh n=>aY h n v C):=by
 obtain⟨ss,h1,h2,h3⟩:=a.clauses;have hz:(C.clauses.zip ss).length=C.clauses.length:=by simp[h1]
 have hk:SL h n 16 v.k Cq (C.clauses.zip ss):=⟨λ_=>rfl,by rw[hz];exact h2⟩;have k1:=((a.ah.kp (a.ah.mK b)).and (a.units.kp (a.units.mK b))).and (a.acts.kp (a.acts.mK b));have k2:=(a.off.kp (a.off.mK b)).and (hk.kp (hk.mK b));have k3:Kp X h n (λh n=>∀(i:Nat)(k:aF)(t:AV),C.clauses[i]?=some k->ss[i]?=some t->SL h n 2 t bN.av k.start):=
  λh' n' a1 a2 i k t b1 b2=>((h3 i k t b1 b2).kp ((h3 i k t b1 b2).mK b)) h' n' a1 a2
 exact((k1.and k2).and k3).wk λh n e=>⟨e.1.1.1.1,e.1.1.1.2,e.1.1.2,⟨ss,h1,by have:=e.1.2.2.2;rw[hz]at this;exact this,e.2⟩,e.1.2.1⟩
theorem SM.fr{P:Program}{Y:YT}{g:FuncId}{s:List It}{x:Ex}{f:FT}{h:AH}{n:Nat}{F F':Fm}{Q:PQ}(a:SM P Y g s x f h n F' Q)(e:∀m v,lk F' m=some v->lk F m=some v):SM P Y g s x f h n F Q:=λt hF=>a t λm v hm=>hF m v (e m v hm)
def VB:MC:=match ZI with
 | .seq _ (.seq _ (.seq _ (.seq _ (.seq _ d))))=>d
 |x=>x
def aah:MC:=match VB with
 | .seq a _=>a
 |x=>x
def aai:MC:=match VB with
 | .seq _ b=>b
 |x=>x
theorem AA(K:Nat){v:CS}{b7 b10 b11:Nat}(hC:aY h n v C)(ho:C.off.length<=1000000)(hu:u<100)(a:Jd C u party B h n j s l ent)(hS:bX h n tq p.st)(so:aM C p.st)(r7:h.get b7=some (.row 45 (tq.pv p)))(r10:h.get b10=some (.row 27 (v.av C)))(r11:h.get b11=some (.row 3 [.i .i64 (u:Nat)]))(l7:b7<n)(l11:b11<n)
 (lK:∀e h' n',e≠0->Up h n h' n'->Q (.bQ [.b false,.i .i64 e]) h' n')
 (uS:∀b xg h' n',(b=true↔¬bY C party p)->Jd C u party B h' n' j s l xg->n<=n'->(∀x,x<n->x≠s->h'.get x=h.get x)->Q (.bQ [.b b,.i .i64 0]) h' n'):
 SM Tryz.prog Y0 62 [.c aah,.c aai] .bT (EF (K+406)) h n [(0,.p j 0),(7,.p b7 0),(10,.p b10 0),(12,.f 116 [.p b11 0])] (RS [.t 8,.t 9] Q):=by
 obtain⟨r,Us,hrow⟩:=a.row;have hjn:=a.jn;unfold aah aai VB;repeat' (first|(simp (disch:=omega) only[go_sem,simprocAttr,ZI,r10,r7,CS.av,TS.pv,hrow])|(refine aT ?_ ?_<;>(intro hb hd;rw[hb];clear hb))|(with_reducible refine aj ?_))
 have pb:=so.pb p.own;rw[bR];refine Eh K (party:=party) (p:=p) (tv:=tq) hC ho hS (λe h2 n2 he u2=>?_) λ_ _ _ b h2 n2 hb u2=>?_
 .have hd:decide (e=0)=false:=decide_eq_false he
  repeat' (first|(simp (disch:=omega) only[go_sem,simprocAttr,hd])|(refine aT ?_ ?_<;>(intro hb hd;rw[hb];clear hb))|(with_reducible refine aj ?_))
  exact lK e _ _ he u2
 .have e2:=u2.le
  have a2:=a.up u2;have wh:=(u2.old j hjn).trans hrow;have q7:=(u2.old b7 l7).trans r7;have Ey:=(u2.old b11 l11).trans r11;repeat' (first|(simp (disch:=omega) only[go_sem,simprocAttr,wh,q7,TS.pv])|(refine aT ?_ ?_<;>(intro hb hd;rw[hb];clear hb))|(with_reducible refine aj ?_))
  rw[vI];show CW _ 116 [.agg (tq.pv p),.p b11 0] _ _ _;refine pW (K+398) (u:=u) (b11:=b11) hu Ey (show b11<n2 by omega) (p:=p) (tv:=tq) (h:=h2) (n:=n2) (hS.up u2) pb λh9 n9 u9=>?_;have e9:=u9.le;have a9:=a2.up u9;have Gw:=(u9.old j (by omega)).trans wh;obtain⟨o,Gx,m1,VD⟩:=a9.put so (b:=b) hb;simp (disch:=omega) only[go_sem,simprocAttr,Gw,wh,m1];refine uS b Gx _ _ hb VD (by omega) λx hx hne=>?_;rw[ay hne,u9.old x (by omega),u2.old x hx]
open Classical in
theorem AB(K:Nat){k:Nat}{v:CS}(hv:vs[k]?=some v)(hvs:SL h n 7 cv (λw:CS=>w.av C) vs)(hC:aY h n v C)(ho:C.off.length<=1000000)(hd:SL h n 1 dv cn (List.replicate N u))(hkN:k<N)(hu:u<100)(a:Jd C u party B h n j s l ent)(hS:bX h n tq p.st)(so:aM C p.st)(hp0:0<=party)(hp1:party<C.aC)(hB:iw C party p->B)
 (lK:∀e h' n',e≠0->B->n<=n'->(∀x,x<n->x≠s->x≠l->h'.get x=h.get x)->Q (.bQ [.b false,.i .i64 e]) h' n')
 (hQ:∀b xg h' n',(b=true↔¬bY C party p)->Jd C u party B h' n' j s l xg->n<=n'->(∀x,x<n->x≠s->x≠l->h'.get x=h.get x)->Q (.bQ [.b b,.i .i64 0]) h' n'):CW (EF (K+407)) 62 [.p j 0,.agg (rA cv sv tv dv),.i .i64 (k:Nat),.agg (tq.pv p)] h n Q:=by
 have hkl:=(List.getElem?_eq_some_iff.1 hv).1;obtain⟨b1,o1,v',i1,hv',hb1,rd1⟩:=hvs.gD (k:=(k:Nat)) (by omega) (by omega) (by omega);obtain⟨b2,o2,u',i2,hu',hb2,gu⟩:=hd.gD (k:=(k:Nat)) (by omega) (by simp;omega) (by omega);rw[show((k:Nat):Int).toNat=k by omega]at hv' hu';rw[hv]at hv';cases hv';rw[List.getElem?_replicate,if_pos hkN]at hu';cases hu';obtain⟨r,Us,hrow⟩:=a.row;have hjn:=a.jn;have hpre:∀x,nI ent (lJ u p)=some x->nI ent (lJ u p)=some (.b (decide (¬bY C party p))):=λx hk=>by
  obtain⟨b,rfl,hb⟩:=a.ok p so x hk;rw[hk];congr 2;by_cases hd:bY C party p
  .cases b with
   |true=>exact absurd hd (hb.1 rfl)
   |false=>simp[hd]
  .cases b with
   |true=>simp[hd]
   |false=>have:=hb.2 hd;cases this
 refine aD c62 rfl ?_;repeat' (first|(simp (disch:=omega) only[go_sem,simprocAttr,ub.old,ZI,rA,i1,i2,rd1.all,gu.el,gu.hd])|(simp (disch:=omega) only[go_sem,simprocAttr,ZI,rA,i1,i2,rd1.all,gu.el,gu.hd])|(refine aT ?_ ?_<;>(intro hb hd;rw[hb];clear hb))|(with_reducible refine aj ?_))
 have pb:=so.pb p.own;generalize hh:Tr.set (Tr.set (Tr.set (Tr.set (Tr.set (Tr.set h n _) (n+1) _) (n+2) _) (n+1+1+1) _) (n+2) _) (n+1+1+1) _=h1;have u1:Up h n h1 (n+5):=by rw[<-hh];exact aI
 have r7:h1.get (n+1)=some (.row 45 (tq.pv p)):=by rw[<-hh];simp (disch:=omega) only[go_sem]
 have r10:h1.get (n+2)=some (.row 27 (v.av C)):=by rw[<-hh];simp (disch:=omega) only[go_sem]
 have r11:h1.get (n+1+1+1)=some (.row 3 [.i .i64 (u:Nat)]):=by rw[<-hh];simp (disch:=omega) only[go_sem]
 clear hh;have a1:=a.up u1;have N7:h1.get j=some (.row 136 (.i .i64 party:: .m s:: .m l::r)):=(u1.old _ hjn).trans hrow;rw[<-u1.old j hjn];repeat' (first|(simp (disch:=omega) only[go_sem,simprocAttr,ub.old,N7,r7])|(simp (disch:=omega) only[go_sem,simprocAttr,N7,r7])|(refine aT ?_ ?_<;>(intro hb hd;rw[hb];clear hb))|(with_reducible refine aj ?_))
 rw[vI];show CW _ 116 [.agg (tq.pv p),.p (n+1+1+1) 0] _ _ _;refine pW (K+398) (u:=u) (b11:=n+1+1+1) hu r11 (show n+1+1+1<n+5 by omega) (p:=p) (tv:=tq) (h:=h1) (n:=n+5) (hS.up u1) pb λh2 n2 u2=>?_;have e2:=u2.le;have a2:=a1.up u2;have wh:h2.get j=some (.row 136 (.i .i64 party:: .m s:: .m l::r)):=(u2.old _ (by omega)).trans N7;have JK:=a2.ms.look (k:=lJ u p) Nn (z:=some (.b false)) (ok:=true) rfl;cases hk:nI ent (lJ u p)with
 |some x=>
  rw[hpre x hk]at JK;simp only[bD]at JK;simp (disch:=omega) only[go_sem,simprocAttr,JK,wh,N7];exact hQ _ ent _ _ (by simp) a2 (by omega) λx hx _ _=>by rw[u2.old x (by omega),u1.old x hx]
 |none=>
  rw[hk]at JK;simp only[bD]at JK;simp (disch:=omega) only[go_sem,simprocAttr,JK,wh,N7];obtain⟨le,ml2,hle⟩:=a2.ml;have ll2:=ml2.look (k:=(u:Int)) Gu (z:=some (.b false)) (ok:=false) rfl;have Ey:h2.get (n+1+1+1)=some (.row 3 [.i .i64 (u:Nat)]):=(u2.old _ (by omega)).trans r11;have Vl:h2.get (n+2)=some (.row 27 (v.av C)):=(u2.old _ (by omega)).trans r10;have q7:h2.get (n+1)=some (.row 45 (tq.pv p)):=(u2.old _ (by omega)).trans r7;have amP:j<n2:=by omega
  rcases hle with rfl|⟨rfl,hBt⟩
  rotate_left
  .simp only[nI,if_true,fU]at ll2
   refine aj ?_;simp (disch:=omega) only[go_sem,simprocAttr,ll2,wh,Ey];have wK:=u1.trans u2;exact SM.fr (AA K (v:=v) (b7:=n+1) (b10:=n+2) (b11:=n+1+1+1) (hC.up wK) ho hu a2 (hS.up wK) so q7 Vl Ey (by omega) (by omega) (λe h3 n3 he u3=>lK e _ _ he hBt (by have:=u3.le;omega) λx hx _ _=>by rw[u3.old x (by omega),wK.old x hx]) λb VE h3 n3 hb a3 l3 x3=>hQ b VE _ _ hb a3 (by omega) λx hx hne _=>by rw[x3 x (by omega) hne,wK.old x hx]) (by(repeat' (first|exact aR|refine aN rfl ?_)))
  simp only[nI,fU]at ll2;repeat' (first|(simp (disch:=omega) only[go_sem,simprocAttr,ub.old,ll2,wh,Ey,Vl,q7,CS.av])|(simp (disch:=omega) only[go_sem,simprocAttr,ll2,wh,Ey,Vl,q7,CS.av])|(refine aT ?_ ?_<;>(intro hb hd;rw[hb];clear hb))|(with_reducible refine aj ?_))
  rw[bR];have wK:=u1.trans u2;refine JR (K+395) (p:=p) (tv:=tq) ((hC.up wK).up aI) ho ((hS.up wK).up aI) (λhn=>absurd ⟨hp0,hp1,so⟩ hn) (λ_ _ _ e h3 n3 u3=>?_) (λ_ _ _ aak h3 n3 u3=>?_) (λ_ _ _ hnd rows rv h3 n3 hrows u3 k3=>?_)
  .have e3:=u3.le
   have ln0:Jl (some (AV.k 1))=some (.i .i64 ((0:Nat):Int)):=(SL.nil (h:=h) (n:=n) (c:=SF) (w:=6) λ_=>rfl).len;repeat' (first|(simp (disch:=omega) only[go_sem,simprocAttr,ub.old,Vj,ln0])|(simp (disch:=omega) only[go_sem,simprocAttr,Vj,ln0])|(refine aT ?_ ?_<;>(intro hb hd;rw[hb];clear hb))|(with_reducible refine aj ?_))
   have uz:Up h2 n2 ((Tr.set h3 n2 (.row 80 [.i .i64 0,.k 1])).set n2 (.row 80 [.i .i64 0,.k 1])) n3:=by exact aI
   generalize(Tr.set h3 n2 _).set n2 _=hz at*;have az:=a2.up uz;have uf:=wK.trans uz;have e0:=uf.le;refine b_ 0 (λk hk nk G=>hk=hz/\nk=n3/\G=[(0,.p j 0),(7,.p (n+1) 0),(10,.p (n+2) 0),(11,.p (n+1+1+1) 0),(12,.f 116 [.p (n+1+1+1) 0]),(16,.i .i64 3)]) (by omega) (by omega) (by omega) (by omega) (λk h8 n8 G ⟨_,_,e⟩=>by subst e;exact⟨rfl,rfl⟩) ⟨rfl,rfl,_,⟨rfl,rfl,rfl⟩,by(repeat' (first|exact aR|refine aN rfl ?_))⟩ (λk _ _ _ hk=>absurd hk (by omega)) ?_;rintro _ _ G ⟨rfl,rfl,rfl⟩;obtain⟨rZ,hrZ,aga⟩:=az.row;have q7Z:=(uz.old (n+1) (by omega)).trans q7;have agb:=(uz.old (n+2) (by omega)).trans Vl;have aam:=(uz.old (n+1+1+1) (by omega)).trans Ey;obtain⟨o,m1,aL⟩:=az.large (hB e);simp (disch:=omega) only[go_sem,simprocAttr,Int.reduceEq];refine aj ?_;simp (disch:=omega) only[go_sem,simprocAttr,aga,aam,m1];obtain⟨le,mlZ,_⟩:=az.ml;have lln:=a.ln;have cL:=(((hC.up uf).SV mlZ.mps).set (b:=l) (o:=o) (.inl rfl) (Nat.le_refl _)).use;have sL:=(((hS.up uf).SV mlZ.mps).set (b:=l) (o:=o) (.inl rfl) (Nat.le_refl _)).use;exact SM.fr (AA K (v:=v) (b7:=n+1) (b10:=n+2) (b11:=n+1+1+1) cL ho hu aL sL so ((ay (by omega)).trans q7Z) ((ay (by omega)).trans agb) ((ay (by omega)).trans aam) (by omega) (by omega) (λe' h3 n3 he u3=>lK e' _ _ he (hB e) (by have:=u3.le;omega) λx hx _ hxl=>by rw[u3.old x (by omega),ay hxl,uf.old x hx]) λb VE h3 n3 hb a3 l3 x3=>hQ b VE _ _ hb a3 (by omega) λx hx hne hxl=>by rw[x3 x (by omega) hne,ay hxl,uf.old x hx]) (by(repeat' (first|exact aR|refine aN rfl ?_)))
  .have e3:=u3.le
   have a3:=a2.up (Up.trans (show Up h2 n2 h2 (n2+2) by exact aI) u3);have agc:h3.get j=some (.row 136 (.i .i64 party:: .m s:: .m l::r)):=(u3.old _ (by omega)).trans wh;have q7':h3.get (n+1)=some (.row 45 (tq.pv p)):=(u3.old _ (by omega)).trans q7;have amS:h3.get (n+1+1+1)=some (.row 3 [.i .i64 (u:Nat)]):=(u3.old _ (by omega)).trans Ey;have ln0:Jl (some (AV.k 1))=some (.i .i64 ((0:Nat):Int)):=(SL.nil (h:=h) (n:=n) (c:=SF) (w:=6) λ_=>rfl).len;repeat' (first|(simp (disch:=omega) only[go_sem,simprocAttr,ub.old,Vj,ln0])|(simp (disch:=omega) only[go_sem,simprocAttr,Vj,ln0])|(refine aT ?_ ?_<;>(intro hb hd;rw[hb];clear hb))|(with_reducible refine aj ?_))
   have uz:Up h2 n2 ((Tr.set h3 n2 (.row 80 [.i .i64 0,.k 1])).set n2 (.row 80 [.i .i64 0,.k 1])) n3:=by exact aI
   have az:=a2.up uz;have q7z:=(uz.old _ (by omega)).trans q7;have VF:=(uz.old _ (by omega)).trans Ey;have sz:∀x,x<n->x≠s->((Tr.set h3 n2 (.row 80 [.i .i64 0,.k 1])).set n2 (.row 80 [.i .i64 0,.k 1])).get x=h.get x:=λx hx _=>(uz.old x (by omega)).trans (wK.old x hx);generalize(Tr.set h3 n2 _).set n2 _=hz at*;have SS:false=true↔¬bY C party p:=⟨(λe=>by cases e),λe=>absurd aak e⟩;refine b_ 0 (λk hk nk G=>(∃xg,Jd C u party B hk nk j s l xg/\(∀x,x<n->x≠s->hk.get x=h.get x)/\hk.get (n+1)=some (.row 45 (tq.pv p))/\hk.get (n+1+1+1)=some (.row 3 [.i .i64 (u:Nat)])/\n+5<=nk)/\Up h2 n2 hk nk/\G=[(0,.p j 0),(7,.p (n+1) 0),(12,.f 116 [.p (n+1+1+1) 0]),(16,.i .i64 13)]) (by omega) (by omega) (by omega) (by omega) (λk h8 n8 G ⟨_,_,e⟩=>by subst e;exact⟨rfl,rfl⟩) ⟨rfl,rfl,_,⟨⟨ent,az,sz,q7z,VF,by omega⟩,uz,rfl⟩,by(repeat' (first|exact aR|refine aN rfl ?_))⟩ (λk _ _ _ hk=>absurd hk (by omega)) ?_;rintro hk nk G ⟨⟨xg,aX,sX,VG,Ki,lX⟩,ux,rfl⟩;obtain⟨rX,hrX,uP⟩:=aX.row;have sXu:s<nk:=aX.sn;repeat' (first|(simp (disch:=omega) only[go_sem,simprocAttr,ub.old,Int.reduceEq,uP,VG])|(simp (disch:=omega) only[go_sem,simprocAttr,Int.reduceEq,uP,VG])|(refine aT ?_ ?_<;>(intro hb hd;rw[hb];clear hb))|(with_reducible refine aj ?_))
   rw[vI];show CW _ 116 [.agg (tq.pv p),.p (n+1+1+1) 0] _ _ _;refine pW (K+398) (u:=u) (b11:=n+1+1+1) hu Ki (show n+1+1+1<nk by omega) (p:=p) (tv:=tq) (h:=hk) (n:=nk) ((hS.up wK).up ux) pb λh9 n9 u9=>?_;have e9:=u9.le;have a9:=aX.up u9;have Gw:h9.get j=some (.row 136 (.i .i64 party:: .m s:: .m l::rX)):=(u9.old _ aX.jn).trans uP;obtain⟨o,Gx,m1,VD⟩:=a9.put so (b:=false) SS;simp (disch:=omega) only[go_sem,simprocAttr,Gw,uP,Int.reduceEq,m1];refine hQ false Gx _ _ SS VD (by omega) λx hx hne _=>?_;rw[ay hne,u9.old x (by omega),sX x hx hne]
  .have e3:=u3.le
   have agc:h3.get j=some (.row 136 (.i .i64 party:: .m s:: .m l::r)):=(u3.old _ (by omega)).trans wh;repeat' (first|(simp (disch:=omega) only[go_sem,simprocAttr,ub.old,k3.use.1.len])|(simp (disch:=omega) only[go_sem,simprocAttr,k3.use.1.len])|(refine aT ?_ ?_<;>(intro hb hd;rw[hb];clear hb))|(with_reducible refine aj ?_))
   have uz:Up h2 n2 ((Tr.set h3 n2 (.row 80 [.i .i64 0,.k 1])).set n2 (.row 80 [.i .i64 party,rv])) n3:=by exact aI
   have kz:=(k3.set (b:=n2) (o:=.row 80 [.i .i64 0,.k 1]) (.inl (by omega)) (Nat.le_refl _)).set (b:=n2) (o:=.row 80 [.i .i64 party,rv]) (.inl (by omega)) (Nat.le_refl _);have az:=a2.up uz;have q7z:=(uz.old _ (by omega)).trans q7;have VF:=(uz.old _ (by omega)).trans Ey;have sz:∀x,x<n->x≠s->((Tr.set h3 n2 (.row 80 [.i .i64 0,.k 1])).set n2 (.row 80 [.i .i64 party,rv])).get x=h.get x:=λx hx _=>(uz.old x (by omega)).trans (wK.old x hx);generalize(Tr.set h3 n2 _).set n2 _=hz at*;have hsf:true=true↔¬bY C party p:=⟨λ_=>hnd,λ_=>rfl⟩;have MP:Kp (λx=>x=s) hz n3 (λh n=>bX h n tq p.st):=((hS.up wK).up uz).SV az.ms.mps;obtain⟨⟨PP,MM,hia,hmap⟩,hkeep⟩:=hrows;have hrow:∀x∈rows,aM C x.1.2.st/\¬bY C party x.1.2:=λx hx=>by
    have hm:x.1.2∈PP.filter (λq=>decide (¬bY C party q)):=by rw[<-hmap];exact List.mem_map_of_mem (f:=λx:(TS×aP)×Int=>x.1.2) hx
    obtain⟨h4,h5⟩:=List.mem_filter.1 hm;exact⟨zo.ok so (hia.rch _ h4),by simpa using h5⟩
   have hrl:rows.length<=1500:=by
    have e:=congrArg List.length hmap;rw[List.length_map]at e;have:=List.length_filter_le (λq=>decide (¬bY C party q)) PP;have:=hia.small;omega
   refine b_ rows.length (λk hk nk G=>(∃xg,Jd C u party B hk nk j s l xg/\(∀x,x<n->x≠s->hk.get x=h.get x)/\hk.get (n+1)=some (.row 45 (tq.pv p))/\hk.get (n+1+1+1)=some (.row 3 [.i .i64 (u:Nat)])/\n+5<=nk)/\Kp (λx=>x=s) hk nk (λh n=>bX h n tq p.st)/\Kp (λx=>x<n2+2) hk nk (λh n=>SL h n 6 rv SF rows/\∀x∈rows,bX h n x.1.1 x.1.2.st)/\G=[(0,.p j 0),(7,.p (n+1) 0),(12,.f 116 [.p (n+1+1+1) 0]),(16,.i .i64 0),(63,rv)]) (by omega) (by omega) (by omega) (by omega) (λk h8 n8 G ⟨_,_,_,e⟩=>by subst e;exact⟨rfl,rfl⟩) ⟨rfl,rfl,_,⟨⟨ent,az,sz,q7z,VF,by omega⟩,MP,kz,rfl⟩,by(repeat' (first|exact aR|refine aN rfl ?_))⟩ ?_ ?_
   .rintro i hk nk G hi ⟨⟨xg,aX,sX,VG,Ki,lX⟩,kX,kR,rfl⟩
    obtain⟨rX,hrX,uP⟩:=aX.row;obtain⟨b3,o3,x,i3,hx,hb3,sj⟩:=kR.use.1.gD (k:=(i:Nat)) (by omega) (by omega) (by omega);rw[show((i:Nat):Int).toNat=i by omega]at hx;have hxm:=List.mem_of_getElem? hx;obtain⟨Ws,ndx⟩:=hrow x hxm;have hsx:true=true↔¬bY C party x.1.2:=⟨λ_=>ndx,λ_=>rfl⟩;have jnk:=aX.jn;have snk:=aX.sn;repeat' (first|(simp (disch:=omega) only[go_sem,simprocAttr,ub.old,aK i3,sj.all,uP])|(simp (disch:=omega) only[go_sem,simprocAttr,aK i3,sj.all,uP])|(refine aT ?_ ?_<;>(intro hb hd;rw[hb];clear hb))|(with_reducible refine aj ?_))
    rw[vI];show CW _ 116 [.agg (x.1.1.pv x.1.2),.p (n+1+1+1) 0] _ _ _;have ub:Up hk nk ((Tr.set hk nk (.row 163 [.i .i64 0,.k 1,.k 1,.k 1,.b false,.i .i64 0])).set nk (.row 163 (SF x))) (nk+1):=by exact aI
    refine pW (K+398) (u:=u) (b11:=n+1+1+1) hu ((ub.old _ (by omega)).trans Ki) (show n+1+1+1<nk+1 by omega) (p:=x.1.2) (tv:=x.1.1) ((kR.use.2 x hxm).up ub) (Ws.pb x.1.2.own) λh9 n9 u9=>?_;have e9:=u9.le;have VH:=ub.trans u9;have a9:=aX.up VH;have Gw:h9.get j=some (.row 136 (.i .i64 party:: .m s:: .m l::rX)):=(VH.old _ aX.jn).trans uP;obtain⟨o,Gx,m1,VD⟩:=a9.put Ws (b:=true) hsx;simp (disch:=omega) only[go_sem,simprocAttr,Gw,uP,m1];have n1s:n+1≠s:=λe=>by have:=a.sn;omega
    have n3s:n+1+1+1≠s:=λe=>by have:=a.sn;omega
    have sn:=a.sn;refine⟨rfl,rfl,_,⟨⟨Gx,VD,λy hy hne=>?_,by rw[ay n1s,VH.old _ (by omega)];exact VG,by rw[ay n3s,VH.old _ (by omega)];exact Ki,by omega⟩,(kX.up VH).set (.inl rfl) (Nat.le_refl _),(kR.up VH).set (.inl (by omega)) (Nat.le_refl _),rfl⟩,by(repeat' (first|exact aR|refine aN rfl ?_))⟩;rw[ay hne,VH.old y (by omega),sX y hy hne]
   .rintro hk nk G ⟨⟨xg,aX,sX,VG,Ki,lX⟩,kX,kR,rfl⟩
    obtain⟨rX,hrX,uP⟩:=aX.row;repeat' (first|(simp (disch:=omega) only[go_sem,simprocAttr,ub.old,Int.reduceEq,uP,VG])|(simp (disch:=omega) only[go_sem,simprocAttr,Int.reduceEq,uP,VG])|(refine aT ?_ ?_<;>(intro hb hd;rw[hb];clear hb))|(with_reducible refine aj ?_))
    rw[vI];show CW _ 116 [.agg (tq.pv p),.p (n+1+1+1) 0] _ _ _;refine pW (K+398) (u:=u) (b11:=n+1+1+1) hu Ki (show n+1+1+1<nk by omega) (p:=p) (tv:=tq) (h:=hk) (n:=nk) kX.use pb λh9 n9 u9=>?_;have e9:=u9.le;have a9:=aX.up u9;have Gw:h9.get j=some (.row 136 (.i .i64 party:: .m s:: .m l::rX)):=(u9.old _ aX.jn).trans uP;obtain⟨o,Gx,m1,VD⟩:=a9.put so (b:=true) hsf;simp (disch:=omega) only[go_sem,simprocAttr,Gw,uP,Int.reduceEq,m1];refine hQ true Gx _ _ hsf VD (by omega) λx hx hne _=>?_;rw[ay hne,u9.old x (by omega),sX x hx hne]
end
end
end
section
noncomputable section
theorem Kj(l:List UInt8):qJ l l=true:=by rw[iV];simp
theorem qG(a:Int):fM a a=true:=by rw[cK];simp
theorem VI(a b c d:Int):(dY Tryz.prog 191 .neq).run (.agg [.i .i64 a,.i .i64 b]) (.agg [.i .i64 c,.i .i64 d])=bnd (bc (fM a c) (bc (fM b d) (some true) (some false)) (some false)) λe=>some (.b (p9 e)):=by kernel_rfl
theorem VJ(a b c d e f g a' b' c' d' e' f' g':Int):(dY Tryz.prog 169 .neq).run (.agg [.i .i64 a,.i .i64 b,.i .i64 c,.i .i64 d,.i .i64 e,.i .i64 f,.i .i64 g]) (.agg [.i .i64 a',.i .i64 b',.i .i64 c',.i .i64 d',.i .i64 e',.i .i64 f',.i .i64 g'])=
 bnd (bc (fM a a') (bc (fM b b') (bc (fM c c') (bc (fM d d') (bc (fM e e') (bnd (bc (fM f f') (bc (fM g g') (some true) (some false)) (some false)) λx=>bc x (some true) (some false)) (some false)) (some false)) (some false)) (some false)) (some false)) λe=>some (.b (p9 e)):=by kernel_rfl
theorem VK(a a':List UInt8)(b c f g b' c' f' g':Int):(dY Tryz.prog 167 .neq).run (.agg [.s a,.i .i64 b,.i .i64 c,.i .i64 f,.i .i64 g]) (.agg [.s a',.i .i64 b',.i .i64 c',.i .i64 f',.i .i64 g'])=
 bnd (bc (qJ a a') (bc (fM b b') (bc (fM c c') (bnd (bc (fM f f') (bc (fM g g') (some true) (some false)) (some false)) λx=>bc x (some true) (some false)) (some false)) (some false)) (some false)) λe=>some (.b (p9 e)):=by kernel_rfl
theorem agf(a b:Bool):(dY Tryz.prog 4 .eql).run (.b a) (.b b)=bnd (some (bc a b (p9 b))) λe=>some (.b e):=by kernel_rfl
theorem eqb(a:Bool):(dY Tryz.prog 4 .eql).run (.b a) (.b a)=some (.b true):=by rw[agf];cases a<;>rfl
theorem aan(k:bN):(dY Tryz.prog 191 .neq).run (.agg k.av) (.agg k.av)=some (.b false):=by
 rw[VI,qG,qG];rfl
theorem aao(k:dh):(dY Tryz.prog 169 .neq).run (.agg k.av) (.agg k.av)=some (.b false):=by
 rw[VJ];simp only[qG];rfl
theorem aap(k:dB):(dY Tryz.prog 167 .neq).run (.agg k.av) (.agg k.av)=some (.b false):=by
 rw[VK];simp only[qG,Kj];rfl
section
variable {h h':AH} {n n':Nat} {Q:AV->AH->Nat->Prop}
theorem Gy(K:Nat){x y:AV}{a:List bN}(hx:SL h n 2 x bN.av a)(hy:SL h n 2 y bN.av a)(hl:a.length<=1000000)(hQ:∀h' n',Up h n h' n'->Q (.b true) h' n'):CW (EF (K+1)) 190 [x,y] h n Q:=by
 refine aD afN rfl ?_;have hd:decide ((a.length:Int)=(a.length:Int))=true:=decide_eq_true rfl;simp (disch:=omega) only[go_sem,simprocAttr,ZN,hx.len,hy.len,hd];refine gI a.length (λk=>True) h n (λk=>[(0,x),(1,y),(4,.b false)]) (by omega) (by omega) (by omega) (by omega) (λ_=>⟨rfl,rfl⟩) rfl rfl (by(repeat' (first|exact aR|refine aN rfl ?_))) aI trivial (λk h4 n4 hk hr u4=>?_) (λh4 n4 hr u4=>?_)
 .obtain⟨b1,o1,w1,i1,hw1,hb1,r1⟩:=(hx.up u4).gD (k:=(k:Nat)) (by omega) (by omega) (by omega)
  obtain⟨b2,o2,w2,i2,hw2,hb2,r2⟩:=(hy.up u4).gD (k:=(k:Nat)) (by omega) (by omega) (by omega);rw[hw1]at hw2;cases hw2;repeat' (first|(simp (disch:=omega) only[go_sem,simprocAttr,i1,i2,r1.all,r2.all,aan w1])|(refine aT ?_ ?_<;>(intro hb hd;rw[hb];clear hb))|(with_reducible refine aj ?_))
  exact iB rfl rfl trivial aI (by(repeat' (first|exact aR|refine aN rfl ?_)))
 .repeat' (first|(simp (disch:=omega) only[go_sem,simprocAttr])|(refine aT ?_ ?_<;>(intro hb hd;rw[hb];clear hb))|(with_reducible refine aj ?_))
  exact hQ _ _ u4
theorem Kk(K:Nat){x y:AV}{a:List dh}(hx:SL h n 7 x dh.av a)(hy:SL h n 7 y dh.av a)(hl:a.length<=1000000)(hQ:∀h' n',Up h n h' n'->Q (.b true) h' n'):CW (EF (K+1)) 111 [x,y] h n Q:=by
 refine aD afM rfl ?_;have hd:decide ((a.length:Int)=(a.length:Int))=true:=decide_eq_true rfl;simp (disch:=omega) only[go_sem,simprocAttr,ZM,hx.len,hy.len,hd];refine gI a.length (λk=>True) h n (λk=>[(0,x),(1,y),(4,.b false)]) (by omega) (by omega) (by omega) (by omega) (λ_=>⟨rfl,rfl⟩) rfl rfl (by(repeat' (first|exact aR|refine aN rfl ?_))) aI trivial (λk h4 n4 hk hr u4=>?_) (λh4 n4 hr u4=>?_)
 .obtain⟨b1,o1,w1,i1,hw1,hb1,r1⟩:=(hx.up u4).gD (k:=(k:Nat)) (by omega) (by omega) (by omega)
  obtain⟨b2,o2,w2,i2,hw2,hb2,r2⟩:=(hy.up u4).gD (k:=(k:Nat)) (by omega) (by omega) (by omega);rw[hw1]at hw2;cases hw2;repeat' (first|(simp (disch:=omega) only[go_sem,simprocAttr,i1,i2,r1.all,r2.all,aao w1])|(refine aT ?_ ?_<;>(intro hb hd;rw[hb];clear hb))|(with_reducible refine aj ?_))
  exact iB rfl rfl trivial aI (by(repeat' (first|exact aR|refine aN rfl ?_)))
 .repeat' (first|(simp (disch:=omega) only[go_sem,simprocAttr])|(refine aT ?_ ?_<;>(intro hb hd;rw[hb];clear hb))|(with_reducible refine aj ?_))
  exact hQ _ _ u4
theorem Gz(K:Nat){x y:AV}{a:List dB}(hx:SL h n 5 x dB.av a)(hy:SL h n 5 y dB.av a)(hl:a.length<=1000000)(hQ:∀h' n',Up h n h' n'->Q (.b true) h' n'):CW (EF (K+1)) 110 [x,y] h n Q:=by
 refine aD afL rfl ?_;have hd:decide ((a.length:Int)=(a.length:Int))=true:=decide_eq_true rfl;simp (disch:=omega) only[go_sem,simprocAttr,ZL,hx.len,hy.len,hd];refine gI a.length (λk=>True) h n (λk=>[(0,x),(1,y),(4,.b false)]) (by omega) (by omega) (by omega) (by omega) (λ_=>⟨rfl,rfl⟩) rfl rfl (by(repeat' (first|exact aR|refine aN rfl ?_))) aI trivial (λk h4 n4 hk hr u4=>?_) (λh4 n4 hr u4=>?_)
 .obtain⟨b1,o1,w1,i1,hw1,hb1,r1⟩:=(hx.up u4).gD (k:=(k:Nat)) (by omega) (by omega) (by omega)
  obtain⟨b2,o2,w2,i2,hw2,hb2,r2⟩:=(hy.up u4).gD (k:=(k:Nat)) (by omega) (by omega) (by omega);rw[hw1]at hw2;cases hw2;repeat' (first|(simp (disch:=omega) only[go_sem,simprocAttr,i1,i2,r1.all,r2.all,aap w1])|(refine aT ?_ ?_<;>(intro hb hd;rw[hb];clear hb))|(with_reducible refine aj ?_))
  exact iB rfl rfl trivial aI (by(repeat' (first|exact aR|refine aN rfl ?_)))
 .repeat' (first|(simp (disch:=omega) only[go_sem,simprocAttr])|(refine aT ?_ ?_<;>(intro hb hd;rw[hb];clear hb))|(with_reducible refine aj ?_))
  exact hQ _ _ u4
theorem wP(K:Nat){x y:AV}{a:List Int}(hx:SL h n 1 x (λx:Int=>[AV.i .i64 x]) a)(hy:SL h n 1 y (λx:Int=>[AV.i .i64 x]) a)(hl:a.length<=1000000)(hQ:∀h' n',Up h n h' n'->Q (.b true) h' n'):CW (EF (K+1)) 109 [x,y] h n Q:=
 Aq K hx hy hl λh' n' u=>by rw[Ap rfl];exact hQ _ _ u
theorem Ac(K:Nat){g:FuncId}(cg:Sr g [true,true] JU [.t 4]){k:aF}{x y:AV}(hx:SL h n 2 x bN.av k.start)(hy:SL h n 2 y bN.av k.start)(hl:k.start.length<=1000000)(hQ:∀h' n',Up h n h' n'->Q (.b true) h' n'):CW (EF (K+2)) g [.agg (k.av x),.agg (k.av y)] h n Q:=by
 refine aD cg.1 rfl (hg:=cg.2.1) (hg':=cg.2.2) ?_;repeat' (first|(simp (disch:=omega) only[go_sem,simprocAttr,ub.old,JU,decide_true,eqb,Bool.and_true,Bool.true_and])|(simp (disch:=omega) only[go_sem,simprocAttr,JU,decide_true,eqb,Bool.and_true,Bool.true_and])|((first|rw[aU]|rw[bR]);with_reducible refine Gy _ (hx.up aI) (hy.up aI) hl λh2 n2 u2=>?_;(first|replace ub:=Up.trans ub (Up.trans aI u2)|have ub:=u2);have hle:=ub.le;clear u2)|(refine aT ?_ ?_<;>(intro hb hd;rw[hb];clear hb))|(with_reducible refine aj ?_))
 exact hQ _ _ aI
theorem Cx(K:Nat){g:FuncId}(cg:Sr g [true,true] JU [.t 4]){x y:AV}{l:List aF}{ss st:List AV}(hx:Ao h n x l ss)(hy:Ao h n y l st)(hl:l.length<=1000)(hst:∀k∈l,k.start.length<=1000)(hQ:∀h' n',Up h n h' n'->Q (.b true) h' n'):CW (EF (K+3)) 112 [x,y,.f g []] h n Q:=by
 obtain⟨x1,x2,x3⟩:=hx;obtain⟨y1,y2,y3⟩:=hy;have zx:(l.zip ss).length=l.length:=by simp[x1]
 have zy:(l.zip st).length=l.length:=by simp[y1]
 have hx':SL h n 16 x Cq (l.zip ss):=⟨λ_=>rfl,by rw[zx];exact x2⟩;have hy':SL h n 16 y Cq (l.zip st):=⟨λ_=>rfl,by rw[zy];exact y2⟩;refine aD afO rfl ?_;have hd:decide ((l.length:Int)=(l.length:Int))=true:=decide_eq_true rfl;simp (disch:=omega) only[go_sem,simprocAttr,ZO,hx'.len,hy'.len,zx,zy,hd];refine b_ l.length (λk hk nk G=>Up h n hk nk/\G=[(1,y),(2,.f g []),(15,x)]) (by omega) (by omega) (by omega) (by omega) (λk h8 n8 G ⟨_,e⟩=>by subst e;exact⟨rfl,rfl⟩) ⟨rfl,rfl,_,⟨Up.refl _ _,rfl⟩,by(repeat' (first|exact aR|refine aN rfl ?_))⟩ ?_ ?_
 .rintro k h4 n4 G hk ⟨u4,rfl⟩
  have e4:=u4.le;obtain⟨b1,o1,w1,i1,hw1,hb1,r1⟩:=(hx'.up u4).gD (k:=(k:Nat)) (by omega) (by omega) (by omega);obtain⟨b2,o2,w2,i2,hw2,hb2,r2⟩:=(hy'.up u4).gD (k:=(k:Nat)) (by omega) (by omega) (by omega);rw[show((k:Nat):Int).toNat=k by omega]at hw1 hw2;rw[List.getElem?_zip_eq_some]at hw1 hw2;obtain⟨kc,ka⟩:=w1;obtain⟨kc',kb⟩:=w2;obtain⟨f1,f2⟩:=hw1;obtain⟨f3,f4⟩:=hw2;dsimp only at f1 f2 f3 f4;rw[f1]at f3;cases f3
  repeat' (first|(simp (disch:=omega) only[go_sem,simprocAttr,aK i1,aK i2,r1.all,r2.all])|(refine aT ?_ ?_<;>(intro hb hd;rw[hb];clear hb))|(with_reducible refine aj ?_))
  rw[aU];refine Ac _ cg (k:=kc) ((x3 k kc ka f1 f2).up (u4.trans aI)) ((y3 k kc kb f1 f4).up (u4.trans aI)) (by have:=hst kc (List.mem_of_getElem? f1);omega) λh5 n5 u5=>?_;have e5:=u5.le;repeat' (first|(simp (disch:=omega) only[go_sem,simprocAttr])|(refine aT ?_ ?_<;>(intro hb hd;rw[hb];clear hb))|(with_reducible refine aj ?_))
  exact⟨rfl,rfl,_,⟨by exact aI,rfl⟩,by(repeat' (first|exact aR|refine aN rfl ?_))⟩
 .rintro h4 n4 G ⟨u4,rfl⟩
  repeat' (first|(simp (disch:=omega) only[go_sem,simprocAttr])|(refine aT ?_ ?_<;>(intro hb hd;rw[hb];clear hb))|(with_reducible refine aj ?_))
  exact hQ _ _ u4
theorem aaq:Sr 113 [true,true] JU [.t 4]:=⟨afK,rfl,rfl⟩
theorem xk(K:Nat){C:aA}{v v':CS}(hC:aY h n v C)(hC':aY h n v' C)(ok:C.Ok)(ho:C.off.length<=1000000)(hu:C.units.length<=1000000)(hQ:∀h' n',Up h n h' n'->Q (.b true) h' n'):CW (EF (K+4)) 60 [.agg (v.av C),.agg (v'.av C)] h n Q:=by
 have:=ok.dL;have:=ok.jY;have:=ok.lG;obtain⟨ss,hs⟩:=hC.clauses;obtain⟨st,ht⟩:=hC'.clauses;have hst:∀k∈C.clauses,k.start.length<=1000:=λk hk=>by
  obtain⟨i,hi⟩:=List.getElem?_of_mem hk;have:=(ok.clause hi).r9;omega
 have cup:∀{h' n'},Up h n h' n'->Ao h' n' v.k C.clauses ss:=λ{h' n'} u=>⟨hs.1,hs.2.1.up u,λi k t a b=>(hs.2.2 i k t a b).up u⟩;have agh:∀{h' n'},Up h n h' n'->Ao h' n' v'.k C.clauses st:=λ{h' n'} u=>⟨ht.1,ht.2.1.up u,λi k t a b=>(ht.2.2 i k t a b).up u⟩;refine aD c60 rfl ?_;repeat' (first|(simp (disch:=omega) only[go_sem,simprocAttr,ub.old,m60,CS.av,decide_true,Bool.and_true,Bool.true_and])|(simp (disch:=omega) only[go_sem,simprocAttr,m60,CS.av,decide_true,Bool.and_true,Bool.true_and])|((first|rw[aU]|rw[bR]);with_reducible refine wP _ (hC.ah.up aI) (hC'.ah.up aI) (by omega) λh2 n2 u2=>?_;(first|replace ub:=Up.trans ub (Up.trans aI u2)|have ub:=u2);have hle:=ub.le;clear u2)|((first|rw[aU]|rw[bR]);with_reducible refine Gz _ (hC.units.up aI) (hC'.units.up aI) hu λh2 n2 u2=>?_;(first|replace ub:=Up.trans ub (Up.trans aI u2)|have ub:=u2);have hle:=ub.le;clear u2)|((first|rw[aU]|rw[bR]);with_reducible refine Kk _ (hC.acts.up aI) (hC'.acts.up aI) (by omega) λh2 n2 u2=>?_;(first|replace ub:=Up.trans ub (Up.trans aI u2)|have ub:=u2);have hle:=ub.le;clear u2)|((first|rw[aU]|rw[bR]);with_reducible refine wP _ (hC.off.up aI) (hC'.off.up aI) ho λh2 n2 u2=>?_;(first|replace ub:=Up.trans ub (Up.trans aI u2)|have ub:=u2);have hle:=ub.le;clear u2)|((first|rw[aU]|rw[bR]);with_reducible refine Cx _ aaq (cup aI) (agh aI) (by omega) hst λh2 n2 u2=>?_;(first|replace ub:=Up.trans ub (Up.trans aI u2)|have ub:=u2);have hle:=ub.le;clear u2)|(refine aT ?_ ?_<;>(intro hb hd;rw[hb];clear hb))|(with_reducible refine aj ?_))
 exact hQ _ _ aI
end
end
end
section
noncomputable section
structure DV where
 i:Nat
 tf:TS
 pf:aP
 tt:TS
 pt:aP
@[reducible] def DV.av (d:DV):List AV:=[.i .i64 (d.i:Nat),.i .i64 d.pf.st.day,d.tf.h,d.tf.u,d.tf.m,.b d.pf.own,.i .i64 d.pt.st.day,d.tt.h,d.tt.u,d.tt.m,.b d.pt.own]
structure OL(h:AH)(n:Nat)(C:aA)(cv sv tv dv:AV)(vs:List CS)(fq:List (TS×aH))(l:List Int)(u:Nat):Prop where
 con:SL h n 7 cv (λw:CS=>w.av C) vs
 cons:∀w∈vs,aY h n w C
 VL:SL h n 4 sv Wx fq
 Kl:∀x∈fq,bX h n x.1 x.2
 SX:SL h n 1 tv kD l
 day:SL h n 1 dv cn (List.replicate fq.length u)
 len:vs.length=fq.length
theorem OL.up{h h':AH}{n n':Nat}{C:aA}{cv sv tv dv:AV}{vs:List CS}{fq:List (TS×aH)}{l:List Int}{u:Nat}(a:OL h n C cv sv tv dv vs fq l u)(x:Up h n h' n'):OL h' n' C cv sv tv dv vs fq l u:=
 ⟨a.con.up x,λw hw=>(a.cons w hw).up x,a.VL.up x,λy hy=>(a.Kl y hy).up x,a.SX.up x,a.day.up x,a.len⟩
structure agi(h:AH)(n rb pb:Nat)(C:aA)(cv sv tv dv:AV)(vs:List CS)(fq:List (TS×aH))(l:List Int)(u:Nat)(party:Int):Prop where
 r:h.get rb=some (.row 100 (rA cv sv tv dv))
 p:h.get pb=some (.row 3 [.i .i64 party])
 rn:rb<n
 pn:pb<n
 i:OL h n C cv sv tv dv vs fq l u
section
variable {h h':AH} {n n':Nat} {Q:AV->AH->Nat->Prop}
theorem Cy(K:Nat){cv sv tv dv:AV}{party:Int}(hQ:∀rb pb h' n',Up h n h' n'->h'.get rb=some (.row 100 (rA cv sv tv dv))->h'.get pb=some (.row 3 [.i .i64 party])->n<=rb->n<=pb->rb<n'->pb<n'->Q (.f 114 [.p rb 0,.p pb 0]) h' n'):CW (EF (K+1)) 61 [.agg (rA cv sv tv dv),.i .i64 party] h n Q:=by
 refine aD c61 rfl ?_;repeat' (first|(simp (disch:=omega) only[go_sem,simprocAttr,m61,rA])|(refine aT ?_ ?_<;>(intro hb hd;rw[hb];clear hb))|(with_reducible refine aj ?_))
 exact hQ n (n+1) _ _ aI (by simp (disch:=omega) only[go_sem]) (by simp (disch:=omega) only[go_sem]) (by omega) (by omega) (by omega) (by omega)
theorem GA(K:Nat){C:aA}{cv sv tv dv:AV}{vs:List CS}{fq:List (TS×aH)}{l:List Int}{u:Nat}{party:Int}{rb pb yr:Nat}(J:AH->Nat->Nat->Prop)(E:AH->Nat->Prop)(ho:C.off.length<=1000000)(hl:l.length<=100000)(hp:0<=party)(run:eX C C.first l (fq.map (·.2)))(oks:∀x∈fq,aM C x.2)
 (hJ:∀h n h' n' k,J h n k->Up h n h' n'->J h' n' k)(U5:∀h n k,J h n k->agi h n rb pb C cv sv tv dv vs fq l u party)(j0:J h n 0)
 (hstep:∀(k:Nat)(t:Int)(x y:TS×aH)(d:DV) h1 n1,l[k]?=some t->fq[k]?=some x->fq[k+1]?=some y->J h1 n1 k->d.i=k->d.tf=x.1->d.pf=⟨x.2,true⟩->d.pt=C.decide party x.2 y.2 t->(d.tt=x.1/\d.pt.st=x.2\/d.tt=y.1/\d.pt.st=y.2)->RW (Y0 yr [.agg d.av] (EF (K+8)) h1 n1) λw h2 n2=>∃b,w= .b b/\(b=true->J h2 n2 (k+1))/\(b=false->E h2 n2))
 (hQ:∀h' n',J h' n' l.length->Q (.bQ []) h' n')(hE:∀h' n',E h' n'->Q (.bQ []) h' n'):CW (EF (K+9)) 114 [.y yr,.p rb 0,.p pb 0] h n Q:=by
 have d0:=U5 _ _ _ j0;have r0:=d0.r;refine aD afE rfl ?_;repeat' (first|(simp (disch:=omega) only[go_sem,simprocAttr,ZH,r0,rA,d0.i.SX.len])|(refine aT ?_ ?_<;>(intro hb hd;rw[hb];clear hb))|(with_reducible refine aj ?_))
 refine b_ l.length (λk hk nk G=>J hk nk k/\G=[(0,.y yr),(1,.p rb 0),(2,.p pb 0),(8,tv)]) (by omega) (by omega) (by omega) (by omega) (λk h8 n8 G ⟨_,e⟩=>by subst e;exact⟨rfl,rfl⟩) ⟨rfl,rfl,_,⟨j0,rfl⟩,by(repeat' (first|exact aR|refine aN rfl ?_))⟩ ?_ ?_
 .rintro k h3 n3 G hk ⟨j3,rfl⟩
  have d3:=U5 _ _ _ j3;have r3:=d3.r;have p3:=d3.p;have rn:=d3.rn;have pn:=d3.pn;obtain⟨b1,o1,t,i1,ht,hb1,rd⟩:=d3.i.SX.gD (k:=(k:Nat)) (by omega) (by omega) (by omega);rw[show((k:Nat):Int).toNat=k by omega]at ht;repeat' (first|(simp (disch:=omega) only[go_sem,simprocAttr,aK i1,rd.el,rd.hd,r3])|(refine aT ?_ ?_<;>(intro hb hd;rw[hb];clear hb))|(with_reducible refine aj ?_))
  have hS:=run.len;rw[List.length_map]at hS;obtain⟨x,hx⟩:∃x,fq[k]?=some x:=⟨fq[k]'(by omega),List.getElem?_eq_some_iff.2 ⟨by omega,rfl⟩⟩;obtain⟨y,hy⟩:∃y,fq[k+1]?=some y:=⟨fq[k+1]'(by omega),List.getElem?_eq_some_iff.2 ⟨by omega,rfl⟩⟩;have WG:(fq.map (·.2))[k]?=some x.2:=by rw[List.getElem?_map,hx];rfl
  obtain⟨s1,s2,s3,s4⟩:=run.step k t x.2 ht WG;have Ws:=oks x (List.mem_of_getElem? hx);rw[bR];refine pX _ (d3.i.VL.up (show Up h3 n3 h3 (n3+2) by exact aI)) hx λh4 n4 u4=>?_;have e4:=u4.le;have r4:=(u4.old rb (by omega)).trans r3;repeat' (first|(simp (disch:=omega) only[go_sem,simprocAttr,r3,r4])|(refine aT ?_ ?_<;>(intro hb hd;rw[hb];clear hb))|(with_reducible refine aj ?_))
  rw[bR];refine pX _ ((d3.i.VL.up (show Up h3 n3 h3 (n3+2) by exact aI)).up u4) hx λh5 n5 u5=>?_;have e5:=u5.le;have u35:Up h3 n3 h5 n5:=Up.trans (Up.trans (show Up h3 n3 h3 (n3+2) by exact aI) u4) u5;have d5:=d3.i.up u35;have r5:=(u35.old rb rn).trans r3;have p5:=(u35.old pb pn).trans p3;have j5:=hJ _ _ _ _ _ j3 u35;simp (disch:=omega) only[go_sem,simprocAttr,r3,r4,r5];generalize hg:Tr.set (Tr.set (Tr.set h5 n3 _) n3 _) n3 _=h6;have u36:Up h3 n3 h6 n5:=by rw[<-hg];exact aI
  have g6:h6.get n3=some (.row 104 (DV.av ⟨k,x.1,⟨x.2,true⟩,x.1,⟨x.2,false⟩⟩)):=by rw[<-hg];exact aG
  clear hg r5 p5 j5 d5;have d6:=d3.i.up u36;have r6:=(u36.old rb rn).trans r3;have p6:=(u36.old pb pn).trans p3;have j6:=hJ _ _ _ _ _ j3 u36;by_cases ht0:0<=t
  .have hd0:decide (0<=t)=true:=decide_eq_true ht0
   have hlv:=d3.i.len;obtain⟨b6,o6,w,i6,hw,hb6,Wi⟩:=d6.con.gD (k:=(k:Nat)) (by omega) (by omega) (by omega);obtain⟨b7,o7,x',i7,hx',hb7,Wj⟩:=d6.VL.gD (k:=(k:Nat)) (by omega) (by omega) (by omega);rw[show((k:Nat):Int).toNat=k by omega]at hw hx';rw[hx]at hx';cases hx'
   obtain⟨a,ha⟩:∃a,C.acts[t.toNat]?=some a:=⟨C.acts[t.toNat]'(by omega),List.getElem?_eq_some_iff.2 ⟨by omega,rfl⟩⟩;have hdo:C.doer x.2 t=bH x.2.ah a:=by unfold aA.doer;rw[ha]
   repeat' (first|(simp (disch:=omega) only[go_sem,simprocAttr,hd0,r6,i6,i7,Wi.all,Wj.all])|(refine aT ?_ ?_<;>(intro hb hd;rw[hb];clear hb))|(with_reducible refine aj ?_))
   rw[bR];refine P9 _ (d6.cons w (List.mem_of_getElem? hw)) ho (d6.Kl x (List.mem_of_getElem? hx)) ((dP C x.2).2 Ws) ht0 ha λh7 n7 u7=>?_;have e7:=u7.le;have d7:=d6.up u7;have r7:=(u7.old rb (by omega)).trans r6;have p7:=(u7.old pb (by omega)).trans p6;have g7:=(u7.old n3 (by omega)).trans g6;have j7:=hJ _ _ _ _ _ j6 u7;rw[<-hdo];by_cases hdp:C.doer x.2 t=party
   .have hdd:decide (C.doer x.2 t=party)=true:=decide_eq_true hdp
    repeat' (first|(simp (disch:=omega) only[go_sem,simprocAttr,p6,p7,hdd,r7])|(refine aT ?_ ?_<;>(intro hb hd;rw[hb];clear hb))|(with_reducible refine aj ?_))
    have wid:gK .i64 ((k:Int)+1)=((k+1:Nat):Int):=by rw[dJ (by omega) (by omega)];rfl
    rw[wid,aU];refine pX _ d7.VL hy λh8 n8 u8=>?_;have e8:=u8.le;have g8:=(u8.old n3 (by omega)).trans g7;have u38:Up h3 n3 h8 n8:=(u36.trans u7).trans u8;simp (disch:=omega) only[go_sem,simprocAttr,g8];rw[vH];refine RW.mono (hstep k t x y ⟨k,x.1,⟨x.2,true⟩,y.1,⟨y.2,true⟩⟩ _ _ ht hx hy (hJ _ _ _ _ _ j3 (Up.st u38 _ _ (Nat.le_refl _))) rfl rfl rfl (by unfold aA.decide;rw[if_pos ⟨ht0,hdp⟩]) (.inr ⟨rfl,rfl⟩)) ?_;rintro _ h9 n9 ⟨b,rfl,hb1,hb2⟩;cases b with
    |false=>
     simp (disch:=omega) only[go_sem,simprocAttr];exact hE _ _ (hb2 rfl)
    |true=>
     simp (disch:=omega) only[go_sem,simprocAttr];exact⟨rfl,rfl,_,⟨hb1 rfl,rfl⟩,by(repeat' (first|exact aR|refine aN rfl ?_))⟩
   .have hdd:decide (C.doer x.2 t=party)=false:=decide_eq_false hdp
    repeat' (first|(simp (disch:=omega) only[go_sem,simprocAttr,p6,p7,hdd,g7])|(refine aT ?_ ?_<;>(intro hb hd;rw[hb];clear hb))|(with_reducible refine aj ?_))
    rw[vH];refine RW.mono (hstep k t x y ⟨k,x.1,⟨x.2,true⟩,x.1,⟨x.2,false⟩⟩ _ _ ht hx hy j7 rfl rfl rfl (by unfold aA.decide;rw[if_neg (λe=>hdp e.2)]) (.inl ⟨rfl,rfl⟩)) ?_;rintro _ h9 n9 ⟨b,rfl,hb1,hb2⟩;cases b with
    |false=>
     simp (disch:=omega) only[go_sem,simprocAttr];exact hE _ _ (hb2 rfl)
    |true=>
     simp (disch:=omega) only[go_sem,simprocAttr];exact⟨rfl,rfl,_,⟨hb1 rfl,rfl⟩,by(repeat' (first|exact aR|refine aN rfl ?_))⟩
  .have hd0:decide (0<=t)=false:=decide_eq_false ht0
   repeat' (first|(simp (disch:=omega) only[go_sem,simprocAttr,hd0,g6])|(refine aT ?_ ?_<;>(intro hb hd;rw[hb];clear hb))|(with_reducible refine aj ?_))
   rw[vH];refine RW.mono (hstep k t x y ⟨k,x.1,⟨x.2,true⟩,x.1,⟨x.2,false⟩⟩ _ _ ht hx hy j6 rfl rfl rfl (by unfold aA.decide;rw[if_neg (λe=>ht0 e.1)]) (.inl ⟨rfl,rfl⟩)) ?_;rintro _ h9 n9 ⟨b,rfl,hb1,hb2⟩;cases b with
   |false=>
    simp (disch:=omega) only[go_sem,simprocAttr];exact hE _ _ (hb2 rfl)
   |true=>
    simp (disch:=omega) only[go_sem,simprocAttr];exact⟨rfl,rfl,_,⟨hb1 rfl,rfl⟩,by(repeat' (first|exact aR|refine aN rfl ?_))⟩
 .rintro h3 n3 G ⟨j3,rfl⟩
  repeat' (first|(simp (disch:=omega) only[go_sem,simprocAttr])|(refine aT ?_ ?_<;>(intro hb hd;rw[hb];clear hb))|(with_reducible refine aj ?_))
  exact hQ _ _ j3
end
end
end
section
noncomputable section
def p8(C:aA)(party:Int)(l:List Int)(S:List aH)(k:Nat):Prop:=∀(i:Nat)(t:Int)(a b:aH),i<k->l[i]?=some t->S[i]?=some a->S[i+1]?=some b->¬bY C party ⟨a,true⟩/\¬bY C party (C.decide party a b t)
def zB(C:aA)(party:Int)(l:List Int)(S:List aH)(k:Nat):Prop:=p8 C party l S k/\∃t a b,l[k]?=some t/\S[k]?=some a/\S[k+1]?=some b/\¬bY C party ⟨a,true⟩/\bY C party (C.decide party a b t)
def zC(C:aA)(party:Int)(l:List Int)(S:List aH):Prop:=∃k,k<=l.length/\p8 C party l S k/\(k=l.length\/k<l.length/\∃a,S[k]?=some a/\bY C party ⟨a,true⟩)
section
variable {h h':AH} {n n':Nat} {Q:AV->AH->Nat->Prop} {C:aA} {v:CS} {cv sv tv dv:AV} {vs:List CS} {fq:List (TS×aH)} {l:List Int} {party:Int} {u j s lm rb pb:Nat} {ent:List (List UInt8×AV)} {B:Prop}
theorem OL.SV{X:Nat->Prop}(a:OL h n C cv sv tv dv vs fq l u)(b:Q0 X h):Kp X h n (λh n=>OL h n C cv sv tv dv vs fq l u):=by
 have k1:=((a.con.kp (a.con.mK b)).and (a.VL.kp (a.VL.mK b))).and ((a.SX.kp (a.SX.mK b)).and (a.day.kp (a.day.mK b)));have k2:Kp X h n (λh n=>∀w∈vs,aY h n w C):=λh' n' a1 a2 w hw=>(a.cons w hw).SV b h' n' a1 a2;have k3:Kp X h n (λh n=>∀x∈fq,bX h n x.1 x.2):=λh' n' a1 a2 x hx=>(a.Kl x hx).SV b h' n' a1 a2;exact((k1.and k2).and k3).wk λh n e=>⟨e.1.1.1.1,e.1.2,e.1.1.1.2,e.2,e.1.1.2.1,e.1.1.2.2,a.len⟩
@[reducible] def dZ:List AV:=[.i .i64 0,.i .i64 0,.k 1,.k 1,.k 1,.b false,.i .i64 0,.k 1,.k 1,.k 1,.b false]
def N8(st:LoopState)(pd:Option Code)(t:Tr AV):AO:=.lp st pd 34 t [16] (jE 34 0) (jF 34 0)
structure Q5(C:aA)(party:Int)(B:Prop)(u j s lm:Nat)(cv sv tv dv:AV)(vs:List CS)(fq:List (TS×aH))(l:List Int)(h0:AH)(n:Nat)(h:AH):Prop where
 i:OL h n C cv sv tv dv vs fq l u
 jd:∃ent,Jd C u party B h n j s lm ent
 b0:h.get n=some (.row 106 [.p j 0])
 b1:h.get (n+1)=some (.row 100 (rA cv sv tv dv))
 b2:h.get (n+1+1)=some (.row 104 dZ)
 b3:h.get (n+1+1+1)=some (.row 4 [.b false])
 b4:h.get (n+1+1+1+1)=some (.row 31 [.i .i64 0])
 same:∀x,x<n->x≠s->x≠lm->h.get x=h0.get x
 sn:s<n
 ln:lm<n
theorem Up.wide(h:AH){n n':Nat}(e:n<=n'):Up h n h n':=⟨e,λ_ _=>rfl⟩
theorem Q5.mv{h0:AH}(a:Q5 C party B u j s lm cv sv tv dv vs fq l h0 n h)(x:∀y,y<n+5->h'.get y=h.get y):Q5 C party B u j s lm cv sv tv dv vs fq l h0 n h':=by
 obtain⟨ent,jd⟩:=a.jd;have up:Up h n h' n:=⟨Nat.le_refl _,λy hy=>x y (by omega)⟩;exact⟨a.i.up up,⟨ent,jd.up up⟩,(x _ (by omega)).trans a.b0,(x _ (by omega)).trans a.b1,(x _ (by omega)).trans a.b2,(x _ (by omega)).trans a.b3,(x _ (by omega)).trans a.b4,λy h1 h2 h3=>(x y (by omega)).trans (a.same y h1 h2 h3),a.sn,a.ln⟩
theorem Jd.dn{n':Nat}(a:Jd C u party B h n j s lm ent)(h1:j<n')(h2:s<n')(h3:lm<n'):Jd C u party B h n' j s lm ent:=⟨a.row,a.ms,a.ml,a.ok,h1,h2,h3,a.js,a.jl,a.sl⟩
theorem Q5.on{h0:AH}(a:Q5 C party B u j s lm cv sv tv dv vs fq l h0 n h){ent:List (List UInt8×AV)}{m:Nat}(jd:Jd C u party B h' m j s lm ent)(x:∀y,y<n+5->y≠s->y≠lm->h'.get y=h.get y):Q5 C party B u j s lm cv sv tv dv vs fq l h0 n h':=by
 obtain⟨amX,jd0⟩:=a.jd;obtain⟨le,ml0,_⟩:=jd0.ml;have:=a.sn;have:=a.ln;exact⟨a.i.SV (jd0.ms.mps.or ml0.mps) h' n (Nat.le_refl _) λy h1 h2=>x y (by omega) (λe=>h2 (.inl e)) λe=>h2 (.inr e),⟨ent,jd.dn jd0.jn jd0.sn jd0.ln⟩,(x _ (by omega) (by omega) (by omega)).trans a.b0,(x _ (by omega) (by omega) (by omega)).trans a.b1,(x _ (by omega) (by omega) (by omega)).trans a.b2,(x _ (by omega) (by omega) (by omega)).trans a.b3,(x _ (by omega) (by omega) (by omega)).trans a.b4,λy h1 h2 h3=>(x y (by omega) h2 h3).trans (a.same y h1 h2 h3),a.sn,a.ln⟩
theorem p8.succ{S:List aH}{k:Nat}{t:Int}{a b:aH}(h:p8 C party l S k)(h1:l[k]?=some t)(h2:S[k]?=some a)(h3:S[k+1]?=some b)(h4:¬bY C party ⟨a,true⟩)(h5:¬bY C party (C.decide party a b t)):p8 C party l S (k+1):=λi t' a' b' hi e1 e2 e3=>by
 by_cases e:i<k
 .exact h i t' a' b' e e1 e2 e3
 .obtain rfl:i=k:=by omega
  rw[h1]at e1;rw[h2]at e2;rw[h3]at e3;cases e1;cases e2;cases e3
  exact⟨h4,h5⟩
def LsE(C:aA)(party:Int)(B:Prop)(l:List Int)(S:List aH)(s lm:Nat)(h0:AH)(n L:Nat)(t:Tr AV)(h:AH)(m:Nat):Prop:=∃(d:DV)(b:Bool)(e:Int),h.get (n+1+1)=some (.row 104 d.av)/\h.get (n+1+1+1)=some (.row 4 [.b b])/\h.get (n+1+1+1+1)=some (.row 31 [.i .i64 e])/\
 h.get L=some (N8 .done (some .ret) t)/\(e=0->b=true->zB C party l S d.i)/\(e=0->b=false->zC C party l S)/\(e≠0->B)/\n<=m/\(∀x,x<n->x≠s->x≠lm->h.get x=h0.get x)/\n+5<=L
def dD0:DV:=⟨0,⟨.k 1,.k 1,.k 1⟩,⟨⟨0,[],[],[]⟩,false⟩,⟨.k 1,.k 1,.k 1⟩,⟨⟨0,[],[],[]⟩,false⟩⟩
theorem N9(K:Nat)(hR:OL h n C cv sv tv dv vs fq l u)(a:Jd C u party B h n j s lm ent)(ho:C.off.length<=1000000)(hl:l.length<=100000)(hu:u<100)(hp0:0<=party)(hp1:party<C.aC)(run:eX C C.first l (fq.map (·.2)))(oks:∀x∈fq,aM C x.2)(hB:∀x∈fq,∀b,iw C party ⟨x.2,b⟩->B)
 (lK:∀(d:DV)(b:Bool) e h' n',e≠0->B->n<=n'->(∀x,x<n->x≠s->x≠lm->h'.get x=h.get x)->Q (.bQ [.agg d.av,.b b,.i .i64 e]) h' n')
 (hQ:∀(d:DV)(b:Bool) h' n',(b=true->zB C party l (fq.map (·.2)) d.i)->(b=false->zC C party l (fq.map (·.2)))->n<=n'->(∀x,x<n->x≠s->x≠lm->h'.get x=h.get x)->Q (.bQ [.agg d.av,.b b,.i .i64 0]) h' n'):CW (EF (K+409)) 34 [.p j 0,.agg (rA cv sv tv dv)] h n Q:=by
 obtain⟨r,Us,hrow⟩:=a.row;have hjn:=a.jn;have hsn:=a.sn;have hln:=a.ln;refine aD c34 rfl ?_;repeat' (first|(simp (disch:=omega) only[go_sem,simprocAttr,ub.old,m34,rA,hrow])|(simp (disch:=omega) only[go_sem,simprocAttr,m34,rA,hrow])|(refine aT ?_ ?_<;>(intro hb hd;rw[hb];clear hb))|(with_reducible refine aj ?_))
 generalize hh:Tr.set (Tr.set (Tr.set (Tr.set (Tr.set h n _) (n+1) _) (n+1+1) _) (n+1+1+1) _) (n+1+1+1+1) _=h1;have u1:Up h n h1 (n+5):=by rw[<-hh];exact aI
 have b0:h1.get n=some (.row 106 [.p j 0]):=by rw[<-hh];simp (disch:=omega) only[go_sem]
 have b1:h1.get (n+1)=some (.row 100 (rA cv sv tv dv)):=by rw[<-hh];simp (disch:=omega) only[go_sem]
 have b2:h1.get (n+1+1)=some (.row 104 dZ):=by rw[<-hh];simp (disch:=omega) only[go_sem]
 have b3:h1.get (n+1+1+1)=some (.row 4 [.b false]):=by rw[<-hh];simp (disch:=omega) only[go_sem]
 have b4:h1.get (n+1+1+1+1)=some (.row 31 [.i .i64 0]):=by rw[<-hh];simp (disch:=omega) only[go_sem]
 clear hh;have A1:Q5 C party B u j s lm cv sv tv dv vs fq l h n h1:=⟨hR.up ⟨Nat.le_refl _,u1.old⟩,⟨ent,a.up ⟨Nat.le_refl _,u1.old⟩⟩,b0,b1,b2,b3,b4,λx hx _ _=>u1.old x hx,hsn,hln⟩;rw[bR];show CW _ 61 [.agg (rA cv sv tv dv),.i .i64 party] h1 (n+5) _;refine Cy (K+407) λrb pb h2 n2 u2 r2 p2 g1 g2 g3 g4=>?_;have e2:=u2.le;have A2:=A1.mv u2.old;simp (disch:=omega) only[go_sem,simprocAttr,b1,A2.b1];refine xH rfl λt hF=>?_;refine GA (K+399) (C:=C) (vs:=vs) (fq:=fq) (l:=l) (u:=u) (party:=party) (cv:=cv) (sv:=sv) (tv:=tv) (dv:=dv) (rb:=rb) (pb:=pb) (λhk nk k=>Q5 C party B u j s lm cv sv tv dv vs fq l h n hk/\hk.get rb=some (.row 100 (rA cv sv tv dv))/\hk.get pb=some (.row 3 [.i .i64 party])/\hk.get n2=some (N8 .ready none t)/\n2<nk/\p8 C party l (fq.map (·.2)) k) (LsE C party B l (fq.map (·.2)) s lm h n n2 t) ho hl hp0 run oks ?_ ?_ ?_ ?_ ?_ ?_
 .rintro h' n' h'' n'' k ⟨c1,c2,c3,c6,c7,c8⟩ u
  have:=u.le;exact⟨c1.mv λy hy=>u.old y (by omega),(u.old _ (by omega)).trans c2,(u.old _ (by omega)).trans c3,(u.old _ c7).trans c6,by omega,c8⟩
 .rintro h' n' k ⟨c1,c2,c3,c6,c7,c8⟩
  exact⟨c2,c3,by omega,by omega,c1.i.up (Up.wide _ (by omega))⟩
 .exact⟨A2.mv λy hy=>ay (by omega),(ay (by omega)).trans r2,(ay (by omega)).trans p2,aG,by omega,λi _ _ _ hi=>absurd hi (by omega)⟩
 .rintro k tk x y d h3 n3 hlk hx hy ⟨c1,c2,c3,c6,c7,c8⟩ d1 d2 d3 d4 d5
  have hk1:k<l.length:=(List.getElem?_eq_some_iff.1 hlk).1;have hkS:k<fq.length:=(List.getElem?_eq_some_iff.1 hx).1;have hlv:=c1.i.len;obtain⟨w,hw⟩:∃w,vs[k]?=some w:=⟨vs[k]'(by omega),List.getElem?_eq_some_iff.2 ⟨by omega,rfl⟩⟩;have hxm:=List.mem_of_getElem? hx;have hym:=List.mem_of_getElem? hy;have hS1:(fq.map (·.2))[k]?=some x.2:=by rw[List.getElem?_map,hx];rfl
  have hS2:(fq.map (·.2))[k+1]?=some y.2:=by rw[List.getElem?_map,hy];rfl
  refine RW.mono (uj (d:=19) (F:=_) (bs:=[true]) (R:=λb h' n'=>(b=true->Q5 C party B u j s lm cv sv tv dv vs fq l h n h'/\h'.get rb=some (.row 100 (rA cv sv tv dv))/\h'.get pb=some (.row 3 [.i .i64 party])/\h'.get n2=some (N8 .ready none t)/\n2<n'/\p8 C party l (fq.map (·.2)) (k+1))/\(b=false->LsE C party B l (fq.map (·.2)) s lm h n n2 t h' n')) c6 hF (by kernel_rfl) rfl Vo Vp ?_) ?_
  .simp (disch:=omega) only[go_sem,simprocAttr,NC,PX]
   generalize hx3:Tr.set (Tr.set h3 n3 _) n3 _=h4;have u34:Up h3 n3 h4 (n3+1):=by rw[<-hx3];exact aI
   have g7:h4.get n3=some (.row 104 d.av):=by rw[<-hx3];exact aG
   clear hx3;have r6:=(u34.old n2 c7).trans c6;refine⟨_,_,_,_,_,_,r6,?_⟩;have A4:=c1.mv (h':=h4.set n2 (.lp .busy none 34 t [16] (jE 34 0) (jF 34 0))) λy hy=>by rw[ay (by omega),u34.old y (by omega)]
   have r2':(h4.set n2 (.lp .busy none 34 t [16] (jE 34 0) (jF 34 0))).get rb=some (.row 100 (rA cv sv tv dv)):=by rw[ay (by omega),u34.old rb (by omega)];exact c2
   have p2':(h4.set n2 (.lp .busy none 34 t [16] (jE 34 0) (jF 34 0))).get pb=some (.row 3 [.i .i64 party]):=by rw[ay (by omega),u34.old pb (by omega)];exact c3
   have r6':(h4.set n2 (.lp .busy none 34 t [16] (jE 34 0) (jF 34 0))).get n2=some (.lp .busy none 34 t [16] (jE 34 0) (jF 34 0)):=aG;have g7':(h4.set n2 (.lp .busy none 34 t [16] (jE 34 0) (jF 34 0))).get n3=some (.row 104 d.av):=by rw[ay (by omega)];exact g7
   generalize h4.set n2 _=h5 at*;obtain⟨amZ,jd5⟩:=A4.jd;obtain⟨r5,Un,ajh⟩:=jd5.row;obtain⟨i0,tf,pf,tt,pt⟩:=d;dsimp only at d1 d2 d3 d4 d5;subst d1 d2 d3;simp (disch:=omega) only[go_sem,simprocAttr,ND,A4.b0,A4.b1,g7',DV.av];rw[aU];have R5:=A4.i.up (Up.wide h5 (show n<=n3+1 by omega));have sn:=A4.sn;have ln:=A4.ln;refine AB K (k:=i0) (vs:=vs) (C:=C) (party:=party) (p:=⟨x.2,true⟩) (tq:=x.1) (N:=fq.length) (u:=u) hw R5.con (R5.cons w (List.mem_of_getElem? hw)) ho R5.day hkS hu (jd5.dn (by have:=jd5.jn;omega) (by omega) (by have:=jd5.ln;omega)) (R5.Kl x hxm) (oks x hxm) hp0 hp1 (hB x hxm true) (λe h6 n6 he hBB l6 x6=>?_) λb1 am0 h6 n6 hb1 jd6 l6 x6=>?_
   .have r66:=(x6 n2 (by omega) (by omega) (by omega)).trans r6'
    have b26:=(x6 (n+1+1) (by omega) (by omega) (by omega)).trans A4.b2;have b36:=(x6 (n+1+1+1) (by omega) (by omega) (by omega)).trans A4.b3;have b46:=(x6 (n+1+1+1+1) (by omega) (by omega) (by omega)).trans A4.b4;have hd:decide (e=0)=false:=decide_eq_false he;simp (disch:=omega) only[go_sem,simprocAttr,b26,b36,b46,hd];refine⟨_,_,_,_,_,_,_,by simp (disch:=omega) only[go_sem];exact r66,(λe=>by cases e),λ_=>?_⟩;refine⟨dD0,false,e,by simp (disch:=omega) only[go_sem];rfl,by simp (disch:=omega) only[go_sem],by simp (disch:=omega) only[go_sem],aG,(λh=>absurd h he),(λh=>absurd h he),λ_=>hBB,by omega,λy hy hne hne2=>?_,by omega⟩;simp (disch:=omega) only[go_sem];rw[x6 y (by omega) hne hne2];exact A4.same y hy hne hne2
   have A6:=A4.on jd6 λy hy hne hne2=>x6 y (by omega) hne hne2;have r26:=(x6 rb (by omega) (by omega) (by omega)).trans r2';have p26:=(x6 pb (by omega) (by omega) (by omega)).trans p2';have r66:=(x6 n2 (by omega) (by omega) (by omega)).trans r6';have g76:=(x6 n3 (by omega) (by omega) (by omega)).trans g7';cases b1 with
   |false=>
    have SS:bY C party ⟨x.2,true⟩:=Classical.byContradiction λe=>by cases hb1.2 e
    simp (disch:=omega) only[go_sem,simprocAttr,A6.b2,A6.b3,A6.b4];refine⟨_,_,_,_,_,_,_,by simp (disch:=omega) only[go_sem];exact r66,(λe=>by cases e),λ_=>?_⟩;refine⟨dD0,false,0,by simp (disch:=omega) only[go_sem];rfl,by simp (disch:=omega) only[go_sem],by simp (disch:=omega) only[go_sem],aG,(λ_ e=>by cases e),λ_ _=>⟨i0,by omega,c8,.inr ⟨hk1,_,hS1,SS⟩⟩,(λe=>absurd rfl e),by omega,λy hy hne hne2=>?_,by omega⟩;simp (disch:=omega) only[go_sem];exact A6.same y hy hne hne2
   |true=>
    have hsf:¬bY C party ⟨x.2,true⟩:=hb1.1 rfl;have R6:=A6.i.up (Up.wide h6 (show n<=n6 by omega));obtain⟨WH,Q6⟩:=pt;have hpt:bX h6 n6 tt WH/\aM C WH/\(iw C party ⟨WH,Q6⟩->B):=by
     rcases d5 with⟨rfl,e⟩|⟨rfl,e⟩
     .dsimp only at e;subst e;exact⟨R6.Kl x hxm,oks x hxm,hB x hxm _⟩
     .dsimp only at e;subst e;exact⟨R6.Kl y hym,oks y hym,hB y hym _⟩
    simp (disch:=omega) only[go_sem,simprocAttr,A6.b0,A6.b1,g76,DV.av];rw[aU];refine AB K (k:=i0) (vs:=vs) (C:=C) (party:=party) (p:=⟨WH,Q6⟩) (tq:=tt) (N:=fq.length) (u:=u) hw R6.con (R6.cons w (List.mem_of_getElem? hw)) ho R6.day hkS hu jd6 hpt.1 hpt.2.1 hp0 hp1 hpt.2.2 (λe h7 n7 he hBB l7 x7=>?_) λb2 am5 h7 n7 hb2 jd7 l7 x7=>?_
    .have r67:=(x7 n2 (by omega) (by omega) (by omega)).trans r66
     have b27:=(x7 (n+1+1) (by omega) (by omega) (by omega)).trans A6.b2;have b37:=(x7 (n+1+1+1) (by omega) (by omega) (by omega)).trans A6.b3;have b47:=(x7 (n+1+1+1+1) (by omega) (by omega) (by omega)).trans A6.b4;have hd:decide (e=0)=false:=decide_eq_false he;simp (disch:=omega) only[go_sem,simprocAttr,b27,b37,b47,hd];refine⟨_,_,_,_,_,_,_,by simp (disch:=omega) only[go_sem];exact r67,(λe=>by cases e),λ_=>?_⟩;refine⟨dD0,false,e,by simp (disch:=omega) only[go_sem];rfl,by simp (disch:=omega) only[go_sem],by simp (disch:=omega) only[go_sem],aG,(λh=>absurd h he),(λh=>absurd h he),λ_=>hBB,by omega,λy hy hne hne2=>?_,by omega⟩;simp (disch:=omega) only[go_sem];rw[x7 y (by omega) hne hne2];exact A6.same y hy hne hne2
    have A7:=A6.on jd7 λy hy hne hne2=>x7 y (by omega) hne hne2;have r27:=(x7 rb (by omega) (by omega) (by omega)).trans r26;have p27:=(x7 pb (by omega) (by omega) (by omega)).trans p26;have r67:=(x7 n2 (by omega) (by omega) (by omega)).trans r66;have g77:=(x7 n3 (by omega) (by omega) (by omega)).trans g76;cases b2 with
    |false=>
     have SS:bY C party ⟨WH,Q6⟩:=Classical.byContradiction λe=>by cases hb2.2 e
     simp (disch:=omega) only[go_sem,simprocAttr,g77,DV.av,A7.b2,A7.b3,A7.b4];refine⟨_,_,_,_,_,_,_,by simp (disch:=omega) only[go_sem];exact r67,(λe=>by cases e),λ_=>?_⟩;refine⟨⟨i0,x.1,⟨x.2,true⟩,tt,⟨WH,Q6⟩⟩,true,0,by simp (disch:=omega) only[go_sem],by simp (disch:=omega) only[go_sem],by simp (disch:=omega) only[go_sem],aG,λ_ _=>⟨c8,_,_,_,hlk,hS1,hS2,hsf,by rw[<-d4];exact SS⟩,(λ_ e=>by cases e),(λe=>absurd rfl e),by omega,λy hy hne hne2=>?_,by omega⟩;simp (disch:=omega) only[go_sem];exact A7.same y hy hne hne2
    |true=>
     simp (disch:=omega) only[go_sem,simprocAttr];refine⟨_,_,_,_,_,_,_,r67,λ_=>⟨A7.mv λy hy=>ay (by omega),(ay (by omega)).trans r27,(ay (by omega)).trans p27,aG,by omega,c8.succ hlk hS1 hS2 hsf (by rw[<-d4];exact hb2.1 rfl)⟩,(λe=>by cases e)⟩
  .rintro u h' n' ⟨b,rfl,hb⟩
   exact⟨b,rfl,hb⟩
 .rintro h3 n3 ⟨c1,c2,c3,c6,c7,c8⟩
  refine⟨_,_,_,_,_,_,_,c6,.inl ⟨rfl,rfl,?_⟩⟩;simp (disch:=omega) only[go_sem,simprocAttr,c1.b2,c1.b3,c1.b4];refine hQ dD0 false _ _ (λe=>by cases e) (λ_=>⟨l.length,Nat.le_refl _,c8,.inl rfl⟩) (by omega) λx hx hne hne2=>?_;simp (disch:=omega) only[go_sem];exact c1.same x hx hne hne2
 .rintro h3 n3 ⟨d,b,e,q2,q3,q4,q5,q6,q7,qB,q8,q9,Vl⟩
  refine⟨_,_,_,_,_,_,_,q5,.inr (.inl ⟨rfl,rfl,?_⟩)⟩;simp (disch:=omega) only[go_sem,simprocAttr,q2,q3,q4];by_cases he:e=0
  .subst he
   exact hQ d b _ _ (q6 rfl) (q7 rfl) (by omega) λx hx hne hne2=>by rw[ay (by omega)];exact q9 x hx hne hne2
  .exact lK d b e _ _ he (qB he) (by omega) λx hx hne hne2=>by rw[ay (by omega)];exact q9 x hx hne hne2
end
end
end
section
noncomputable section
set_option maxRecDepth 1000000
set_option maxHeartbeats 4000000
end
end
section
noncomputable section
section
variable {h h':AH} {n n':Nat} {Q:AV->AH->Nat->Prop}
theorem Km(K b c:Nat)(fv:AV)(h:AH)(n:Nat):EF (K+3) 63 [.sl b 0 0 0 (some c),fv] h n= .ok (.bQ []) h n:=by kernel_rfl
theorem N_(K:Nat){b c:Nat}{fv:AV}(hQ:Q (.bQ []) h n):CW (EF (K+3)) 63 [.sl b 0 0 0 (some c),fv] h n Q:=⟨_,_,_,Km K b c fv h n,hQ⟩
theorem AJ:Jl (some (AV.k 1))=some (.i .i64 ((0:Nat):Int)):=rfl
theorem SY{b:Nat}{c:Option Nat}:Jl (some (.sl b 0 0 0 c))=some (.i .i64 ((0:Nat):Int)):=rfl
theorem Oa(K:Nat)(hQ:∀b h' n',Up h n h' n'->b<n'->Q (.sl b 0 0 0 (some 0)) h' n'):CW (EF (K+4)) 35 [.k 1] h n Q:=by
 refine aD c35 rfl ?_;repeat' (first|(simp (disch:=omega) only[go_sem,simprocAttr,m35,AJ])|(refine aT ?_ ?_<;>(intro hb hd;rw[hb];clear hb))|(with_reducible refine aj ?_))
 refine b_ 0 (λk hk nk G=>Up h n hk nk/\n<nk/\G=[(0,.k 1),(3,.sl n 0 0 0 (some 0))]) (by omega) (by omega) (by omega) (by omega) (λk h8 n8 G ⟨_,_,e⟩=>by subst e;exact⟨rfl,rfl⟩) ⟨rfl,rfl,_,⟨by exact aI,by omega,rfl⟩,by(repeat' (first|exact aR|refine aN rfl ?_))⟩ (λk _ _ _ hk=>absurd hk (by omega)) ?_;rintro h1 n1 G ⟨u1,l1,rfl⟩;have e1:=u1.le;simp (disch:=omega) only[go_sem,simprocAttr];rw[aU];refine N_ K ?_;repeat' (first|(simp (disch:=omega) only[go_sem,simprocAttr,AJ,SY])|(refine aT ?_ ?_<;>(intro hb hd;rw[hb];clear hb))|(with_reducible refine aj ?_))
 refine b_ 0 (λk hk nk G=>Up h n hk nk/\n1<nk/\G=[(6,.sl n1 0 0 0 (some 0))]) (by omega) (by omega) (by omega) (by omega) (λk h8 n8 G ⟨_,_,e⟩=>by subst e;exact⟨rfl,rfl⟩) ⟨rfl,rfl,_,⟨by exact aI,by omega,rfl⟩,by(repeat' (first|exact aR|refine aN rfl ?_))⟩ (λk _ _ _ hk=>absurd hk (by omega)) ?_;rintro h2 n2 G ⟨u2,l2,rfl⟩;simp (disch:=omega) only[go_sem,simprocAttr];exact hQ n1 _ _ u2 l2
end
end
end
noncomputable section
section
variable {h h':AH} {n n':Nat} {Q:AV->AH->Nat->Prop} {C:aA} {v:CS} {l:List Int}
theorem Kn(K:Nat){tv:AV}(hQ:∀cb lb tb h' n',Up h n h' n'->h'.get cb=some (.row 27 (v.av C))->h'.get lb=some (.row 28 [.k 1])->h'.get tb=some (.row 22 [tv])->n<=cb->n<=lb->n<=tb->cb<n'->lb<n'->tb<n'->Q (.f 65 [.p cb 0,.p lb 0,.p tb 0]) h' n')(hc:qI tv=some [tv]):CW (EF (K+1)) 36 [.agg (v.av C),.k 1,tv] h n Q:=by
 refine aD c36 rfl ?_;repeat' (first|(simp (disch:=omega) only[go_sem,simprocAttr,m36,CS.av,hc])|(refine aT ?_ ?_<;>(intro hb hd;rw[hb];clear hb))|(with_reducible refine aj ?_))
 exact hQ n (n+1) (n+2) _ _ aI (by simp (disch:=omega) only[go_sem]) (by simp (disch:=omega) only[go_sem]) (by simp (disch:=omega) only[go_sem]) (by omega) (by omega) (by omega) (by omega) (by omega) (by omega)
structure VN(h:AH)(n cb lb tb:Nat)(v:CS)(C:aA)(tv:AV)(l:List Int):Prop where
 c:h.get cb=some (.row 27 (v.av C))
 l0:h.get lb=some (.row 28 [.k 1])
 t:h.get tb=some (.row 22 [tv])
 cn:cb<n
 ln:lb<n
 tn:tb<n
 con:aY h n v C
 SX:SL h n 1 tv kD l
def zD(C:aA)(l:List Int)(S:List aH):Prop:=S.length<=l.length+1/\(S≠[]->eX C C.first (l.take (S.length - 1)) S)
theorem zD.snoc{S:List aH}{k:Nat}{t:Int}{s:aH}(h:zD C l S)(hk:S.length=k+1)(ht:l[k]?=some t)(hs:S[k]?=some s)(h1: -1<=t)(h2:t<C.acts.length)(h3:s.day<C.days):zD C l (S++[C.aZ s t]):=by
 have hkl:=(List.getElem?_eq_some_iff.1 ht).1;refine⟨by rw[List.length_append,List.length_singleton];omega,λ_=>?_⟩;have r:=h.2 (by rintro rfl;cases hk);rw[hk,Nat.add_sub_cancel]at r;have hlen:(l.take k).length=k:=by rw[List.length_take];omega
 have:=r.snoc (t:=t) (a:=s) (by rw[hlen];exact hs) h1 h2 h3;rw[List.length_append,List.length_singleton,hk,show k+1+1 - 1=k+1 by omega];have e:l.take (k+1)=l.take k++[t]:=by
  rw[List.take_succ,ht];rfl
 rw[e];exact this
theorem Kp.QI{X X' P:Nat->Prop}{A:HP}(k:Kp (λx=>X x\/P x) h n A)(le:n<=n')(s:∀x,x<n->¬X x->h'.get x=h.get x)(hx:∀x,X' x->X x\/n<=x):Kp (λx=>X' x\/P x) h' n' A:=λh2 n2 l2 s2=>k h2 n2 (Nat.le_trans le l2) λx hxn hX=>by
 rw[s2 x (by omega) (λe=>?_),s x hxn λe=>hX (.inl e)];rcases e with e|e
 .rcases hx x e with e|e
  .exact hX (.inl e)
  .omega
 .exact hX (.inr e)
theorem Kp.tr{Z Y:Nat->Prop}{A:HP}(k:Kp Z h n A)(le:n<=n')(s:∀x,x<n->¬Z x->h'.get x=h.get x)(y:∀x,x<n->Y x->Z x):Kp Y h' n' A:=
 λh2 n2 l2 s2=>k h2 n2 (Nat.le_trans le l2) λx hx hz=>(s2 x (by omega) λe=>hz (y x hx e)).trans (s x hx hz)
theorem eX.same{S S':List aH}{s:aH}{k:Nat}(a:eX C s l S')(b:eX C s (l.take k) S)(hk:k<=l.length):∀j,j<=k->S'[j]?=S[j]?:=by
 intro j;induction j with
 |zero=>intro _;rw[a.hd,b.hd]
 |succ j ih=>
  intro hj;have e:=ih (by omega);obtain⟨t,ht⟩:∃t,l[j]?=some t:=⟨l[j]'(by omega),List.getElem?_eq_some_iff.2 ⟨by omega,rfl⟩⟩;have ht':(l.take k)[j]?=some t:=by rw[List.getElem?_take,if_pos (by omega),ht]
  have hl:=b.len;rw[List.length_take]at hl;obtain⟨x,hx⟩:∃x,S[j]?=some x:=⟨S[j]'(by omega),List.getElem?_eq_some_iff.2 ⟨by omega,rfl⟩⟩;rw[(a.step j t x ht (e.trans hx)).2.2.2,(b.step j t x ht' hx).2.2.2]
theorem zD.at_{S S':List aH}{k:Nat}{t:Int}{s:aH}(h:zD C l S)(hk:S.length=k+1)(ht:l[k]?=some t)(hs:S[k]?=some s)(a:eX C C.first l S'): -1<=t/\t<C.acts.length/\s.day<C.days:=by
 have hkl:=(List.getElem?_eq_some_iff.1 ht).1;have r:=h.2 (by rintro rfl;cases hk);rw[hk,Nat.add_sub_cancel]at r;have e:=a.same r (by omega) k (Nat.le_refl _);obtain⟨h1,h2,h3,_⟩:=a.step k t s ht (e.trans hs);exact⟨h1,h2,h3⟩
structure SgJ(J:(Nat->Prop)->(Nat->Prop)->AH->Nat->List aH->Prop)(E:AH->Nat->Prop)(K cb lb tb yr:Nat)(v:CS)(C:aA)(tv:AV)(l:List Int)(h0:AH)(n0:Nat):Prop where
 up:∀P X h n h' n' S,J P X h n S->Up h n h' n'->J P X h' n' S
 pv:∀P X h n S b o,J P X h n S->P b->J P X (h.set b o) n S
 X:∀P X h n S,J P X h n S->∀x,X x->x<n/\¬P x
 i:∀P X h n S,J P X h n S->VN h n cb lb tb v C tv l
 j0:∃X:Nat->Prop,(∀x,X x->x<n0)/\∀P h' n',Up h0 n0 h' n'->(∀x,P x->n0<=x/\x<n')->J P X h' n' []
 step:∀P X h1 n1 S s tq,J P X h1 n1 S->zD C l (S++[s])->aM C s->Kp (λx=>X x\/(P x\/x<n0)) h1 n1 (λh n=>bX h n tq s)->RW (Y0 yr [.agg (v.av C++tq.av s),.i .i64 0] (EF (K+9)) h1 n1) λw h2 n2=>∃X',w= .b true/\J P X' h2 n2 (S++[s])/\n1<=n2/\(∀x,x<n1->¬X x->h2.get x=h1.get x)/\∀x,X' x->X x\/n1<=x
 err:∀P X h1 n1 S e c0 c1 c2 c3,J P X h1 n1 S->e≠0->(¬∃S',eX C C.first l S')->RW (Y0 yr [.agg (v.av C++[c0,c1,c2,c3]),.i .i64 e] (EF (K+9)) h1 n1) λw h2 n2=>w= .b false/\E h2 n2
theorem GD(K:Nat){yr cb lb tb:Nat}{tv:AV}{J:(Nat->Prop)->(Nat->Prop)->AH->Nat->List aH->Prop}{E:AH->Nat->Prop}(hv:C.valid=true)(ho:C.off.length<=1000000)(hl:l.length<=100000)(c:SgJ J E K cb lb tb yr v C tv l h n)
 (hQ:∀P X h' n' S,eX C C.first l S->J P X h' n' S->Q (.bQ []) h' n')(hE:∀h' n',E h' n'->Q (.bQ []) h' n'):CW (EF (K+10)) 65 [.y yr,.p cb 0,.p lb 0,.p tb 0] h n Q:=by
 obtain⟨X0,x0,j0⟩:=c.j0;have d0:=c.i _ _ _ _ _ (j0 (λ_=>False) h n (Up.refl _ _) (λ_ h=>h.elim));have q1:=d0.c;have q2:=d0.l0;have q3:=d0.t;have cn:=d0.cn;have ln:=d0.ln;have tn:=d0.tn;refine aD c65 rfl ?_;repeat' (first|(simp (disch:=omega) only[go_sem,simprocAttr,ub.old,m65,CS.av,q1,q2,q3,AJ])|(simp (disch:=omega) only[go_sem,simprocAttr,m65,CS.av,q1,q2,q3,AJ])|(refine aT ?_ ?_<;>(intro hb hd;rw[hb];clear hb))|(with_reducible refine aj ?_))
 generalize hh:Tr.set (Tr.set h n _) n _=h1;have u1:Up h n h1 (n+1):=by rw[<-hh];exact aI
 have g1:h1.get n=some (.row 27 (v.av C)):=by rw[<-hh];exact aG
 clear hh;refine b_ 0 (λk hk nk G=>hk=h1/\nk=n+1/\G=[(0,.y yr),(1,.p cb 0),(2,.p lb 0),(3,.p tb 0),(5,.p n 0)]) (by omega) (by omega) (by omega) (by omega) (λk h8 n8 G ⟨_,_,e⟩=>by subst e;exact⟨rfl,rfl⟩) ⟨rfl,rfl,_,⟨rfl,rfl,rfl⟩,by(repeat' (first|exact aR|refine aN rfl ?_))⟩ (λk _ _ _ hk=>absurd hk (by omega)) ?_;rintro _ _ G ⟨rfl,rfl,rfl⟩;simp (disch:=omega) only[go_sem,simprocAttr,g1,CS.av];rw[aU];refine zn _ (d0.con.up u1) ho (λe=>by rw[hv]at e;cases e) λ_ Sz h2 n2 u2 k2=>?_;have e2:=u2.le;have g2:=(u2.old n (by omega)).trans g1;simp (disch:=omega) only[go_sem,simprocAttr,TS.av,g2,CS.av];generalize hh:Tr.set (Tr.set h2 n2 _) n2 _=h3;have u3:Up h2 n2 h3 (n2+1):=by rw[<-hh];exact aI
 have k3:Kp (λx=>x<n+1\/x=n2) h3 (n2+1) (λh n=>bX h n Sz C.first):=by
  rw[<-hh];exact((k2.le (Y:=λx=>x<n+1\/x=n2) λx hx e=>by omega).set (.inl (.inr rfl)) (Nat.le_refl _)).set (.inl (.inr rfl)) (by omega)
 have g3:h3.get n2=some (.row 43 (Sz.av C.first)):=by rw[<-hh];exact aG
 clear hh;have g23:=(u3.old n (by omega)).trans g2;have J3:=j0 (λx=>x=n\/x=n2) h3 (n2+1) ((u1.trans u2).trans u3) (λx hx=>by rcases hx with rfl|rfl<;>exact⟨by omega,by omega⟩);have nX0:∀x,n<=x->¬X0 x:=λx hx e=>by have:=x0 _ e;omega
 have k3':Kp (λx=>X0 x\/((x=n\/x=n2)\/x<n)) h3 (n2+1) (λh n=>bX h n Sz C.first):=k3.le λx _ e=>by
  rcases e with e|e
  .have:=x0 x e;omega
  .omega
 rw[vH];refine RW.mono (c.step _ _ _ _ _ C.first Sz J3 ⟨by simp,λ_=>eX.nil C C.first⟩ (yV hv) k3') ?_;rintro _ h4 n4 ⟨X4,rfl,J4,l4,s4,x4⟩;have g4:=(s4 n (by omega) (nX0 _ (by omega))).trans g23;have g44:=(s4 n2 (by omega) (nX0 _ (by omega))).trans g3;have d4:=c.i _ _ _ _ _ J4;have q34:=d4.t;simp (disch:=omega) only[go_sem,simprocAttr,q34,d4.SX.len];refine b_ l.length (λk hk nk G=>∃X S s tq,J (λx=>x=n\/x=n2) X hk nk S/\S.length=k+1/\S[k]?=some s/\zD C l S/\aM C s/\Kp (λx=>X x\/((x=n\/x=n2)\/x<n)) hk nk (λh n=>bX h n tq s)/\hk.get n=some (.row 27 (v.av C))/\hk.get n2=some (.row 43 (tq.av s))/\n2<nk/\G=[(0,.y yr),(2,.p lb 0),(5,.p n 0),(10,.p n2 0),(56,tv)]) (by omega) (by omega) (by omega) (by omega) (λk h8 n8 G ⟨_,_,_,_,_,_,_,_,_,_,_,_,_,e⟩=>by subst e;exact⟨rfl,rfl⟩) ⟨rfl,rfl,_,⟨X4,_,C.first,Sz,J4,rfl,rfl,⟨by simp,λ_=>eX.nil C C.first⟩,yV hv,k3'.QI l4 s4 x4,g4,g44,by omega,rfl⟩,by(repeat' (first|exact aR|refine aN rfl ?_))⟩ ?_ ?_
 .rintro k0 hk nk G hkl ⟨X,S,s,tq,Jk,hS,hs,rt,so,ks,gn,WI,ln2,rfl⟩
  have dk:=c.i _ _ _ _ _ Jk;have Xk:=c.X _ _ _ _ _ Jk;obtain⟨b1,o1,t,i1,ht,hb1,rd⟩:=dk.SX.gD (k:=(k0:Nat)) (by omega) (by omega) (by omega);rw[show((k0:Nat):Int).toNat=k0 by omega]at ht;repeat' (first|(simp (disch:=omega) only[go_sem,simprocAttr,ub.old,aK i1,rd.el,rd.hd,gn,WI,CS.av,TS.av])|(simp (disch:=omega) only[go_sem,simprocAttr,aK i1,rd.el,rd.hd,gn,WI,CS.av,TS.av])|(refine aT ?_ ?_<;>(intro hb hd;rw[hb];clear hb))|(with_reducible refine aj ?_))
  rw[aU];have hst:=(dP C s).2 so;refine uD (K+1) (s:=s) (tv:=tq) dk.con ho ks.use t (λe h5 n5 u5=>?_) (λ_ e1 e2 e3 h5 n5 u5=>?_) (λ_ e1 e2 e3 S9 h5 n5 u5 k5=>?_)
  .have e5:=u5.le
   have gn5:=(u5.old n (by omega)).trans gn;have Ob:=(u5.old n2 (by omega)).trans WI;have J6:=c.pv _ _ _ _ _ n2 (.row 43 [.i .i64 0,.k 1,.k 1,.k 1]) (c.up _ _ _ _ _ _ _ Jk u5) (.inr rfl);simp (disch:=omega) only[go_sem,simprocAttr,Sj,Ob,TS.av,gn5,CS.av,Int.reduceEq];rw[vH];refine RW.mono (c.err _ _ _ _ _ 1 (.i .i64 0) (.k 1) (.k 1) (.k 1) J6 (by omega) λ⟨S',a⟩=>by
    obtain⟨w1,w2,w3⟩:=rt.at_ hS ht hs a;rcases e with e|e|e
    .rw[hst]at e;cases e
    .omega
    .omega) ?_
   rintro _ h6 n6 ⟨rfl,e6⟩;simp (disch:=omega) only[go_sem,simprocAttr];exact hE _ _ e6
  .have e5:=u5.le
   have gn5:=(u5.old n (by omega)).trans gn;have Ob:=(u5.old n2 (by omega)).trans WI;have J6:=c.pv _ _ _ _ _ n2 (.row 43 [.i .i64 0,.k 1,.k 1,.k 1]) (c.up _ _ _ _ _ _ _ Jk u5) (.inr rfl);simp (disch:=omega) only[go_sem,simprocAttr,Sj,Ob,TS.av,gn5,CS.av,Int.reduceEq];rw[vH];refine RW.mono (c.err _ _ _ _ _ 13 (.i .i64 0) (.k 1) (.k 1) (.k 1) J6 (by omega) λ⟨S',a⟩=>by
    obtain⟨w1,w2,w3⟩:=rt.at_ hS ht hs a;omega) ?_
   rintro _ h6 n6 ⟨rfl,e6⟩;simp (disch:=omega) only[go_sem,simprocAttr];exact hE _ _ e6
  .have e5:=u5.le
   have gn5:=(u5.old n (by omega)).trans gn;have Ob:=(u5.old n2 (by omega)).trans WI;have l05:=(u5.old lb dk.ln).trans dk.l0;have J6:=c.pv _ _ _ _ _ n2 (.row 43 (S9.av (C.aZ s t))) (c.up _ _ _ _ _ _ _ Jk u5) (.inr rfl);have so6:=jI so e1 e2 e3;have k6:Kp (λx=>X x\/((x=n\/x=n2)\/x<n)) (h5.set n2 (.row 43 (S9.av (C.aZ s t)))) n5 (λh n=>bX h n S9 (C.aZ s t)):=(k5.le (Y:=λx=>X x\/((x=n\/x=n2)\/x<n)) λx _ e=>by
    rcases e with e|e
    .exact(Xk x e).1
    .omega).set (.inl (.inr (.inl (.inr rfl)))) (Nat.le_refl _)
   have rt6:=rt.snoc hS ht hs e1 e2 e3;have hS6:(S++[C.aZ s t])[k0+1]?=some (C.aZ s t):=by rw[<-hS,List.getElem?_append_right (Nat.le_refl _)];simp
   simp (disch:=omega) only[go_sem,simprocAttr,Ob,TS.av];generalize hh:h5.set n2 _=h6 at*;have g6:h6.get n=some (.row 27 (v.av C)):=by rw[<-hh,ay (by omega)];exact gn5
   have g26:h6.get n2=some (.row 43 (S9.av (C.aZ s t))):=by rw[<-hh];exact aG
   have l06:h6.get lb=some (.row 28 [.k 1]):=by rw[<-hh,ay (by omega)];exact l05
   clear hh;refine xG (λhd=>?_) (λhd=>?_)<;>rw[hd]
   .simp (disch:=omega) only[go_sem,simprocAttr,l06,AJ]
    refine b_ 0 (λk hk nk G=>hk=h6/\nk=n5/\G=[(0,.y yr),(2,.p lb 0),(5,.p n 0),(10,.p n2 0),(11,.i .i64 0),(56,tv),(57,.i .i64 (l.length:Nat)),(58,.i .i64 (k0:Nat))]) (by omega) (by omega) (by omega) (by omega) (λk h8 n8 G ⟨_,_,e⟩=>by subst e;exact⟨rfl,rfl⟩) ⟨rfl,rfl,_,⟨rfl,rfl,rfl⟩,by(repeat' (first|exact aR|refine aN rfl ?_))⟩ (λk _ _ _ hk=>absurd hk (by omega)) ?_;rintro _ _ G ⟨rfl,rfl,rfl⟩;simp (disch:=omega) only[go_sem,simprocAttr,g6,CS.av,g26,TS.av];rw[vH];refine RW.mono (c.step _ _ _ _ _ (C.aZ s t) S9 J6 rt6 so6 k6) ?_;rintro _ h7 n7 ⟨X7,rfl,J7,l7,s7,x7⟩;have nX:∀x,(x=n\/x=n2)->¬X x:=λx hx e=>(Xk x e).2 hx;simp (disch:=omega) only[go_sem,simprocAttr];have wid:gK .i64 ((k0:Int)+1)=((k0+1:Nat):Int):=by rw[dJ (by omega) (by omega)];rfl
    exact⟨rfl,rfl,_,⟨X7,_,_,S9,J7,by rw[List.length_append,hS];rfl,hS6,rt6,so6,k6.QI l7 s7 x7,(s7 n (by omega) (nX _ (.inl rfl))).trans g6,(s7 n2 (by omega) (nX _ (.inr rfl))).trans g26,by omega,rfl⟩,by(repeat' (first|exact aR|refine aN rfl ?_))⟩
   .simp (disch:=omega) only[go_sem,simprocAttr,g6,CS.av,g26,TS.av]
    rw[vH];refine RW.mono (c.step _ _ _ _ _ (C.aZ s t) S9 J6 rt6 so6 k6) ?_;rintro _ h7 n7 ⟨X7,rfl,J7,l7,s7,x7⟩;have nX:∀x,(x=n\/x=n2)->¬X x:=λx hx e=>(Xk x e).2 hx;simp (disch:=omega) only[go_sem,simprocAttr];have wid:gK .i64 ((k0:Int)+1)=((k0+1:Nat):Int):=by rw[dJ (by omega) (by omega)];rfl
    exact⟨rfl,rfl,_,⟨X7,_,_,S9,J7,by rw[List.length_append,hS];rfl,hS6,rt6,so6,k6.QI l7 s7 x7,(s7 n (by omega) (nX _ (.inl rfl))).trans g6,(s7 n2 (by omega) (nX _ (.inr rfl))).trans g26,by omega,rfl⟩,by(repeat' (first|exact aR|refine aN rfl ?_))⟩
 .rintro hk nk G ⟨X,S,s,tq,Jk,hS,hs,rt,so,ks,gn,WI,ln2,rfl⟩
  simp (disch:=omega) only[go_sem,simprocAttr];have r:=rt.2 (by rintro rfl;cases hS);rw[hS,Nat.add_sub_cancel,List.take_length]at r;exact hQ _ _ _ _ _ r Jk
end
end
end Go.Proofs.YtjoohkjmoghmoaaGreatDoor

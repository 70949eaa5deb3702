/- part -/
import Derived.Test.YtjoohkjmoghmoaaGreatDoorP07
import Derived.Test.YtjoohkjmoghmoaaGreatDoorP09
set_option linter.all false
namespace Go.Proofs.YtjoohkjmoghmoaaGreatDoor
section
noncomputable section
theorem aD{k:Nat}{g:FuncId}{kb:List Bool}{m:MC}{rs:List MS}{args:List AV}{h:AH}{n:Nat}{Q:AV->AH->Nat->Prop}(hc:dx Tryz.prog sl0 g=some (kb,m,rs))(hl:args.length=kb.length)
 (e:sK Tryz.prog Y0 g 100000 [.c m] .bV (EF k) h n (wQ 0 kb args) (R9 rs Q))(hg:Nat.beq g Uj=false:=by rfl)(hg':Nat.beq g P6=false:=by rfl):CW (EF (k+1)) g args h n Q:=by
 obtain⟨v,h',n',e1,e2⟩:=LP hc hl e;refine⟨v,h',n',?_,e2⟩;show@Option.rec fq (λ_=>fq) ((TH Tryz.prog sl0 g).run (EF k) args h n) (λr=>r) (bc (Nat.beq g P6) _ (bc (Nat.beq g Uj) _ none))=_;rw[hg',hg];exact e1
theorem Up.ge{h:AH}{n m:Nat}(e:n<=m):Up h n h m:=⟨e,λ_ _=>rfl⟩
theorem Up.wk{h:AH}{n:Nat}{h':AH}{n' m:Nat}(a:Up h n h' n')(e:n'<=m):Up h n h' m:=⟨Nat.le_trans a.le e,a.old⟩
theorem aH{h:AH}{n:Nat}{h':AH}{n':Nat}(q:Up h n h' n':=by(repeat' (first|(with_reducible refine Up.ge ?_;omega)|assumption|refine Up.st ?_ _ _ (by omega)|(apply Up.trans;rotate_left;first|assumption|(apply Up.wk;assumption;omega))|(apply Up.wk;assumption;omega)))):Up h n h' n':=q
attribute [go_sem_proc ↓] reduceIte
attribute [go_sem_proc] Nat.reduceEqDiff Nat.reduceAdd Nat.reduceMul Nat.reduceSub Nat.reduceLT Int.reduceToNat Int.reduceNegSucc Int.reduceNeg
attribute [go_sem] decide_true decide_false Bool.not_true Bool.not_false BEq.rfl Bool.true_beq Bool.false_beq Nat.add_zero true_and and_true
abbrev av(x:Int):AV:=.i .i64 x
@[reducible] def bC.av (r:bC):List AV:=[.i .i64 r.num,.i .i64 r.den]
@[reducible] def dB.av (a:dB):List AV:=[.i .i64 a.kind,.i .i64 a.role,.i .i64 a.give,.i .i64 a.tgt,.i .i64 a.unit,.i .i64 a.lot.num,.i .i64 a.lot.den]
@[reducible] def bP.av (k:bP):List AV:=[.i .i64 k.clause,.i .i64 k.is]
@[reducible] def dI.av (u:dI):List AV:=[.s u.name.toList,.i .i64 u.kind,.i .i64 u.base,.i .i64 u.factor.num,.i .i64 u.factor.den]
@[reducible] def au.av (m:au):List AV:=[.i .i64 m.status,.i .i64 m.left,.i .i64 m.got,.i .i64 m.aO,.b m.paused]
@[reducible] def aF.av (k:aF) (s:AV):List AV:=
 [.i .i64 k.kind,.i .i64 k.role,.i .i64 k.act,.i .i64 k.need,s,.i .i64 k.after,.i .i64 k.fT,.b k.gP,.b k.final,.i .i64 k.pause,.i .i64 k.resume,.i .i64 k.value.num,.i .i64 k.value.den,.i .i64 k.unit,.i .i64 k.tgt,.b k.iL]
structure CS where
 h:AV
 u:AV
 a:AV
 k:AV
 o:AV
@[reducible] def CS.av (v:CS) (C:aA):List AV:=[.i .i64 C.aC,v.h,v.u,v.a,v.k,.i .i64 C.days,v.o]
structure TS where
 h:AV
 u:AV
 m:AV
@[reducible] def TS.av (v:TS) (s:aI):List AV:=[.i .i64 s.day,v.h,v.u,v.m]
def SL(h:AH)(n w:Nat)(v:AV){α:Type}(c:α->List AV)(l:List α):Prop:=(∀a,(c a).length=w)/\SR h n w v l.length (l.flatMap c)
section
variable {h:AH} {n w:Nat} {v:AV} {α:Type} {c:α->List AV} {l:List α} {h':AH} {n':Nat}
theorem SL.up(s:SL h n w v c l)(u:Up h n h' n'):SL h' n' w v c l:=⟨s.1,s.2.up u⟩
theorem SL.len(s:SL h n w v c l):Jg (some v)=some (.i .i64 (l.length:Nat)):=Ab s.2.len
theorem SL.cl(s:SL h n w v c l):qE v=some [v]:=s.2.cl
theorem SL.of{x t m:Nat}{cells:List AV}{cap:Option Nat}{lo:Nat}(hw:∀a,(c a).length=w)(hx:x<n)(hg:h.get x=some (.row t cells))(hc:cells=l.flatMap c)(hm:m=l.length)(hk:∀k,cap=some k->m<=k):SL h n w (.sl x lo 0 m cap) c l:=by
 subst hc;subst hm;have hl:(l.flatMap c).length=l.length*w:=by
  clear hg hk;induction l with
  |nil=>simp
  |cons a l ih=>rw[List.flatMap_cons,List.length_append,hw,ih,List.length_cons,Nat.succ_mul];omega
 exact⟨hw,.inr (.inl ⟨x,lo,0,cap,rfl,hx,by rw[hg];exact .of (m:=(l.flatMap c).length) (by omega) (by rw[List.drop_zero,List.take_length]),hl,hk⟩)⟩
theorem SL.take(s:SL h n w v c l){i:Nat}(h0:0<l.length)(hi:i<=l.length):∃y,X_ w (some v) (some none) (some (some (i:Nat)))=some y/\SL h n w y c (l.take i):=by
 obtain⟨hw,s⟩:=s;rcases s with⟨_,e,_⟩|⟨x,lo,o,cp,rfl,e2,e3,e4,e6⟩|⟨_,_,_,e,_⟩
 rotate_left 2
 .omega
 .omega
 have hc:(l.flatMap c).take (i*w)=(l.take i).flatMap c:=by
  clear e6 e4 e3 h0;induction l generalizing i with
  |nil=>simp
  |cons a l ih=>
   cases i with
   |zero=>simp
   |succ i=>
    rw[List.take_succ_cons,List.flatMap_cons,List.flatMap_cons,Nat.succ_mul,Nat.add_comm (i*w) w,List.take_append,hw];rw[List.take_of_length_le (by rw[hw];omega),show w+i*w - w=i*w by omega];rw[ih (by simpa using hi)]
 have e3':=e3.take (i*w);rw[hc]at e3';have hm:i*w<=l.length*w:=Nat.mul_le_mul_right w hi;have e4':((l.take i).flatMap c).length=(l.take i).length*w:=by rw[<-hc,List.length_take,List.length_take,e4,Nat.min_eq_left hm,Nat.min_eq_left hi]
 cases cp with
 |none=>
  refine⟨.sl x lo o i none,?_,hw,.inr (.inl ⟨x,lo,o,none,?_,e2,e3',e4',λk hk=>by cases hk⟩)⟩
  .show bc (Nat.ble 0 i) (bc (Nat.ble i l.length) (bc (Nat.beq 0 0) (some (AV.sl x lo o i none)) _) none) none=_
   rw[Nat.ble_eq_true_of_le (Nat.zero_le _),bF,Nat.ble_eq_true_of_le hi,bF];rfl
  .rw[List.length_take,Nat.min_eq_left hi]
 |some k=>
  have hk:=e6 k rfl;refine⟨.sl x 0 o i (some k),?_,hw,.inr (.inl ⟨x,0,o,some k,?_,e2,e3',e4',λk' hk'=>by cases hk';rw[List.length_take];omega⟩)⟩
  .show bc (Nat.ble 0 i) (bc (Nat.ble i k) (some (AV.sl x 0 (bc (Nat.beq k 0) o (Nat.add o (Nat.mul 0 w))) (Nat.sub i 0) (some (Nat.sub k 0)))) none) none=_
   rw[Nat.ble_eq_true_of_le (Nat.zero_le _),bF,Nat.ble_eq_true_of_le (by omega:i<=k),bF];have:bc (Nat.beq k 0) o (Nat.add o (Nat.mul 0 w))=o:=by
    have e:Nat.add o (Nat.mul 0 w)=o:=by show o+0*w=o;omega
    rw[e];cases Nat.beq k 0<;>rfl
   rw[this];rfl
  .rw[List.length_take,Nat.min_eq_left hi]
theorem SL.nil(hw:∀a,(c a).length=w):SL h n w (.k 1) c []:=⟨hw,.inl ⟨rfl,rfl,rfl⟩⟩
end
structure RD(h:AH)(b o w:Nat)(cs:List AV):Prop where
 el:∀j,j<w->rR (h.get b) (o+j) none=nv cs j
 hd:rR (h.get b) o none=nv cs 0
 all:rR (h.get b) o (some w)=some (.agg cs)
 pre':∀k,k<=w->rR (h.get b) o (some k)=some (.agg (cs.take k))
theorem SL.rd{h:AH}{n w:Nat}{v:AV}{α:Type}{c:α->List AV}{l:List α}(s:SL h n w v c l){i:Nat}{a:α}(hi:l[i]?=some a)(hw:0<w){b o:Nat}
 (q1:∀j,j<w->rR (h.get b) (o+j) none=(l.flatMap c)[i*w+j]?)(q2:∀m,m<=w->rR (h.get b) o (some m)=some (.agg (((l.flatMap c).drop (i*w)).take m))):RD h b o w (c a):=by
 have q0:∀j,j<w->rR (h.get b) (o+j) none=nv (c a) j:=λj hj=>by rw[q1 j hj,vB s.1 hi hj,qU]
 exact⟨q0,q0 0 hw,by rw[q2 w (Nat.le_refl _),mX s.1 hi],λk hk=>by rw[q2 k hk,<-mX s.1 hi,List.take_take,Nat.min_eq_left hk]⟩
theorem FM{α:Type}{l:List α}{k:Int}(h0:0<=k)(h1:k<l.length):∃a,l[k.toNat]?=some a:=⟨l[k.toNat],List.getElem?_eq_some_iff.2 ⟨by omega,rfl⟩⟩
theorem gV{S:SK}{h0 h:AH}{n0 n w:Nat}{v:AV}{α:Type}{c:α->List AV}{l:List α}{d:MD}{r:List MR}{l':List AV}{s:List It}{f:FT}{F:Fm}{Q:PQ}(hs:SL h0 n0 w v c l){k:Int}(h1:0<=k)(h2:k<l.length)(hw:0<w)
 (q:∀b o a,l[k.toNat]?=some a->b<n0->RD h0 b o w (c a)->mI S d (.p b o) r l' s f h n F Q):R8 S w (some v) (some (.i .i64 k)) d r l' s f h n F Q:=by
 obtain⟨a,ha⟩:=FM h1 h2;obtain⟨i,rfl⟩:=Int.eq_ofNat_of_zero_le h1;exact show IA w v i λp=>mI S d p r l' s f h n F Q from hs.2.ia (Up.refl _ _) rfl (by simpa using h2) λb o h3 h4 h5=>q b o a ha h3 (hs.rd ha hw h4 h5)
theorem SL.fQ{h:AH}{n w:Nat}{v:AV}{α:Type}{c:α->List AV}{l:List α}(hs:SL h n w v c l){k:Int}(h1:0<=k)(h2:k<l.length)(hw:0<w):
 ∃b o a,fQ w (some v) (some (.i .i64 k))=some (.p b o)/\l[k.toNat]?=some a/\b<n/\RD h b o w (c a):=by
 obtain⟨a,ha⟩:=FM h1 h2;obtain⟨i,rfl⟩:=Int.eq_ofNat_of_zero_le h1;rcases hs.2 with⟨_,e,_⟩|⟨x,lo,o,cp,rfl,e2,e3,e4,e6⟩|⟨_,_,_,e,_⟩
 rotate_left 2
 .omega
 .omega
 have key:IA w (.sl x lo o l.length cp) (i:Nat) λp=>∃b o',p= .p b o'/\l[i]?=some a/\b<n/\RD h b o' w (c a):=hs.2.ia (Up.refl _ _) rfl (by simpa using h2) λb o h3 h4 h5=>⟨b,o,rfl,ha,h3,hs.rd ha hw h4 h5⟩;obtain⟨b',lo',o',m,cp',q1,q2,q3,b2,o2,q4,q5,q6,q7⟩:=key;cases q1
 cases q4
 refine⟨x,_,a,?_,ha,e2,q7⟩;show(if 0<=(i:Int)/\(i:Int)<(l.length:Nat)then some (AV.p x (o+(i:Int).toNat*w))else none)=_;rw[if_pos ⟨h1,h2⟩]
def Ae(h:AH)(n:Nat)(v:AV)(l:List aF)(ss:List AV):Prop:=ss.length=l.length/\SR h n 16 v l.length ((l.zip ss).flatMap λp=>p.1.av p.2)/\∀(i:Nat)(k:aF)(t:AV),l[i]?=some k->ss[i]?=some t->SL h n 2 t bP.av k.start
structure aZ(h:AH)(n:Nat)(v:CS)(C:aA):Prop where
 ah:SL h n 1 v.h (λx:Int=>[AV.i .i64 x]) C.ah
 units:SL h n 5 v.u dI.av C.units
 acts:SL h n 7 v.a dB.av C.acts
 clauses:∃ss,Ae h n v.k C.clauses ss
 off:SL h n 1 v.o (λx:Int=>[AV.i .i64 x]) C.off
structure bZ(h:AH)(n:Nat)(v:TS)(s:aI):Prop where
 ah:SL h n 1 v.h (λx:Int=>[AV.i .i64 x]) s.ah
 used:SL h n 1 v.u (λx:Bool=>[AV.b x]) s.used
 marks:SL h n 5 v.m au.av s.marks
section
variable {h:AH} {n:Nat} {h':AH} {n':Nat}
theorem aZ.up{v:CS}{C:aA}(s:aZ h n v C)(u:Up h n h' n'):aZ h' n' v C:=by
 refine⟨s.ah.up u,s.units.up u,s.acts.up u,?_,s.off.up u⟩;obtain⟨ss,h1,h2,h3⟩:=s.clauses;exact⟨ss,h1,h2.up u,λi k t a b=>(h3 i k t a b).up u⟩
theorem bZ.up{v:TS}{s:aI}(a:bZ h n v s)(u:Up h n h' n'):bZ h' n' v s:=⟨a.ah.up u,a.used.up u,a.marks.up u⟩
theorem aZ.lk{v:CS}{C:aA}(s:aZ h n v C):Jg (some v.k)=some (.i .i64 (C.clauses.length:Nat)):=by
 obtain⟨ss,h1,h2,h3⟩:=s.clauses;exact Ab h2.len
end
theorem ni{S:SK}{h0 h:AH}{n0 n:Nat}{v:CS}{C:aA}{d:MD}{r:List MR}{l':List AV}{s:List It}{f:FT}{F:Fm}{Q:PQ}(hs:aZ h0 n0 v C){k:Int}(h1:0<=k)(h2:k<C.clauses.length)
 (q:∀b o a t,C.clauses[k.toNat]?=some a->b<n0->SL h0 n0 2 t bP.av a.start->RD h0 b o 16 (a.av t)->mI S d (.p b o) r l' s f h n F Q):R8 S 16 (some v.k) (some (.i .i64 k)) d r l' s f h n F Q:=by
 obtain⟨ss,e1,e2,e3⟩:=hs.clauses;obtain⟨a,ha⟩:=FM h1 h2;obtain⟨i,rfl⟩:=Int.eq_ofNat_of_zero_le h1;have hi:i<C.clauses.length:=by simpa using h2
 obtain⟨t,ht⟩:∃t,ss[i]?=some t:=⟨ss[i],List.getElem?_eq_some_iff.2 ⟨by omega,rfl⟩⟩;have hz:(C.clauses.zip ss)[i]?=some (a,t):=by rw[List.getElem?_zip_eq_some];exact⟨ha,ht⟩
 have hl:(C.clauses.zip ss).length=C.clauses.length:=by simp[e1]
 exact show IA 16 v.k i λp=>mI S d p r l' s f h n F Q from e2.ia (Up.refl _ _) rfl hi λb o h3 h4 h5=>q b o a t ha h3 (e3 i a t ha ht) (SL.rd (c:=λp:aF×AV=>p.1.av p.2) (l:=C.clauses.zip ss) ⟨λ_=>rfl,by rw[hl];exact e2⟩ hz (by omega) h4 h5)
section
variable {P:Program} {Y:YT} {S:SK} {b w:Bool} {i:MI} {d:MD} {r:List MR} {l:List AV} {s:List It} {f:FT} {h:AH} {n:Nat} {F:Fm} {Q:PQ}
theorem xk{x y:MC}(h1:b=true->kB S (some (.b b)) x y s f h n F Q)(h2:b=false->kB S (some (.b b)) x y s f h n F Q):kB S (some (.b b)) x y s f h n F Q:=by
 cases hb:b with
 |true=>subst hb;exact h1 rfl
 |false=>subst hb;exact h2 rfl
end
class yO (b:Bool) (p q:outParam Prop):Prop where
 ok:(b=true->p)/\(b=false->q)
instance (priority:=low) bcA (b:Bool):yO b (b=true) (b=false):=⟨id,id⟩
instance bcD (p:Prop) [Decidable p]:yO (decide p) p (¬p):=⟨of_decide_eq_true,of_decide_eq_false⟩
instance bcN (b:Bool) (p q:Prop) [yO b p q]:yO (!b) q p:=⟨λh=>yO.ok.2 (by simpa using h),λh=>yO.ok.1 (by simpa using h)⟩
class uj (G:Prop) (b:outParam Bool):Prop where
 ok:(b=true->G)->(b=false->G)->G
theorem aS{G p q:Prop}{b:Bool}[g:uj G b][c:yO b p q](h1:b=true->p->G)(h2:b=false->q->G):G:=g.ok (λh=>h1 h (c.ok.1 h)) λh=>h2 h (c.ok.2 h)
section
variable {P:Program} {Y:YT} {S:SK} {b w:Bool} {i:MI} {d:MD} {r:List MR} {l:List AV} {s:List It} {f:FT} {h:AH} {n:Nat} {F:Fm} {Q:PQ}
theorem uj.of{b:Bool}(G:Prop):uj G b:=⟨λh1 h2=>by cases b with|true=>exact h1 rfl|false=>exact h2 rfl⟩
instance:uj (kW P Y S (some (.b b)) w i d r l s f h n F Q) b:=.of _
instance {x y:MC}:uj (kB S (some (.b b)) x y s f h n F Q) b:=.of _
instance {x y:Option AV}:uj (kS S (vZ (some (.b b)) x y) d r l s f h n F Q) b:=.of _
variable {D:DK} {l':List MQ} {j r' n0:Nat} {vs u:List AV} {hs:List (Nat×AH)}
instance {x:Option AV}:uj (dV D (Uq (Sc w (some (.b b))) x) l' j r' n0 f h n vs hs F) b:=.of _
instance {x y:Option AV}:uj (dV D (vZ (some (.b b)) x y) l' j r' n0 f h n vs hs F) b:=.of _
instance:uj (dG P Y D (Sc w (some (.b b))) i u l' j r' n0 f h n vs hs F) b:=.of _
end
theorem aU{Y:YT}{S:SK}{q:FuncId}{c:List AV}{d:MD}{r:List MR}{l:List AV}{s:List It}{f:FT}{h:AH}{n:Nat}{F:Fm}{Q:PQ}:kF Y S (some (.f q [])) (some c) d r l s f h n F Q=CW f q c h n λv h n=>mI S d v r l s f h n F Q:=by rw[E_,List.append_nil]
theorem bT{Y:YT}{D:DK}{q:FuncId}{c:List AV}{l:List MQ}{j r n0:Nat}{f:FT}{h:AH}{n:Nat}{vs:List AV}{hs:List (Nat×AH)}{F:Fm}:dF Y D (some (.f q [])) (some c) l j r n0 f h n vs hs F=CW f q c h n λv h n=>D l (j+1) r n0 f h n (v::vs) ((j+1,h)::hs) F:=by rw[vD,List.append_nil]
theorem fO{h:AH}{n:Nat}{m x:Bool}{Q:AV->AH->Nat->Prop}(hQ:∀h' n',Up h n h' n'->Q (.b m) h' n'){h1:AH}{n1:Nat}(u:Up h n h1 n1)(e1:x=true->m=true)(e2:x=false->m=false):Q (.b x) h1 n1:=by
 have e:m=x:=by cases x with|true=>exact e1 rfl|false=>exact e2 rfl
 subst e;exact hQ _ _ u
theorem ieq(a b:Int):(a==b)=decide (a=b):=by by_cases h:a=b<;>simp[h]
theorem bY{h:AH}{n:Nat}{m x:Bool}{Q:AV->AH->Nat->Prop}(hQ:∀h' n',Up h n h' n'->Q (.b m) h' n'){h1:AH}{n1:Nat}(e:m=x)(u:Up h n h1 n1):Q (.b x) h1 n1:=by subst e;exact hQ _ _ u
section
variable {P:Program} {ty:TypeId} {a b:Int}
@[go_sem] theorem Y7:(d_ P ty .eql).run (.i .u64 a) (.i .u64 b)=some (.b (decide (a=b))):=by
 show bc true (some (AV.b (fJ a b))) none=_;rw[bF,cO]
@[go_sem] theorem Y8:(d_ P ty .neq).run (.i .u64 a) (.i .u64 b)=some (.b (!decide (a=b))):=by
 show bc true (some (AV.b (pV (fJ a b)))) none=_;rw[bF,jc,cO]
@[go_sem] theorem Y9:(d_ P ty .add).run (.i .u64 a) (.i .u64 b)=some (.i .u64 (gF .u64 (a+b))):=rfl
def U0(k:IntKind)(a b:Int):Option AV:=if b=0 then none else some (.i k (Int.tmod a b))
theorem Qw{k:IntKind}{a b:Int}(h:b≠0):U0 k a b=some (.i k (Int.tmod a b)):=if_neg h
@[go_sem] theorem Y_:(d_ P ty .rem).run (.i .u64 a) (.i .u64 b)=U0 .u64 a b:=by
 show bc true (bc (fJ b 0) none (some (AV.i .u64 (Int.tmod a b)))) none=_;rw[bF,cO];unfold U0;by_cases h:b=0<;>simp[h,bc]
@[go_sem] theorem Za {x y:List UInt8}:(d_ P ty .eql).run (.s x) (.s y)=some (.b (decide (x=y))):=by
 show some (AV.b (bc false (pV (qF x y)) (qF x y)))=_;rw[fU,iQ];by_cases h:x=y<;>simp[h]
@[go_sem] theorem Zb {x y:List UInt8}:(d_ P ty .neq).run (.s x) (.s y)=some (.b (!decide (x=y))):=by
 show some (AV.b (bc true (pV (qF x y)) (qF x y)))=_;rw[bF,iQ,jc];by_cases h:x=y<;>simp[h]
theorem um{x:Int}(h1:0<=x)(h2:x<=18446744073709551615):gF .u64 x=x:=by
 unfold gF;rw[eX,eX,show IntKind.u64.min=0 from by decide,show IntKind.u64.max=18446744073709551615 from by decide];simp[h1,h2,bc]
end
def RgI(R:Nat->Prop)(hb:AH)(nb:Nat)(G0:Nat->Fm):Nat->AH->Nat->Fm->Prop:=λk h n G=>R k/\Up hb nb h n/\G=G0 k
section
variable {P:Program} {Y:YT} {g:FuncId} {f:FT} {R:Nat->Prop} {hb:AH} {nb:Nat} {G0:Nat->Fm} {k i L N B1:Nat} {s:List It} {Q:PQ} {h:AH} {n:Nat} {F:Fm}
@[go_sem ↓] theorem ais {I:Nat->AH->Nat->Fm->Prop} {j:Nat}:Sd P Y g I k i L N B1 s f Q (.exit j) h n F=if j=B1 then Sd P Y g I k i L N B1 s f Q .bV h n F else sK P Y g 100000 s (.exit j) f h n F Q:=bD rfl
@[go_sem ↓] theorem ait {I:Nat->AH->Nat->Fm->Prop}:Sd P Y g I k i L N B1 s f Q .ret h n F=sK P Y g 100000 s .ret f h n F Q:=bD rfl
theorem iw(h1:lk F i=some (.i .i64 (k:Nat)))(h2:lk F L=some (.i .i64 (N:Nat)))(h3:R (k+1))(h4:Up hb nb h n)(h5:∀m v,lk (G0 (k+1)) m=some v->lk F m=some v):Sd P Y g (RgI R hb nb G0) k i L N B1 s f Q .bV h n F:=
 ⟨h1,h2,_,⟨h3,h4,rfl⟩,h5⟩
theorem gu{ty c B:Nat}{body:MC}(N:Nat)(R:Nat->Prop)(hb:AH)(nb:Nat)(G0:Nat->Fm)(hN:N<=1125899906842623)(hic:i≠c)(hLc:L≠c)(hiL:i≠L)
 (hfr:∀k,lk (G0 k) c=none/\lk (G0 k) i=none)(e1:lk F i=some (.i .i64 0))(e2:lk F L=some (.i .i64 (N:Nat)))(e3:∀m v,lk (G0 0) m=some v->lk F m=some v)(u:Up hb nb h n)(r0:R 0)
 (step:∀k h n,k<N->R k->Up hb nb h n->sK P Y g 100000 [.c body] .bV f h n (pt (pt (G0 k) L (.i .i64 (N:Nat))) i (.i .i64 (k:Nat))) (Sd P Y g (RgI R hb nb G0) k i L N B1 s f Q))
 (fin:∀h n,R N->Up hb nb h n->sK P Y g 100000 s (.exit B) f h n (G0 N) Q):SM P Y g (.c (g_ ty i L c B B1 body)::s) .bV f h n F Q:=
 cK N (RgI R hb nb G0) hN hic hLc hiL (λk h n G ⟨_,_,e⟩=>by subst e;exact hfr k) ⟨e1,e2,G0 0,⟨r0,u,rfl⟩,e3⟩
  (λk h n G hk ⟨hr,hu,e⟩=>by subst e;exact step k h n hk hr hu) (λh n G ⟨hr,hu,e⟩=>by subst e;exact fin h n hr hu)
end
end
end
section
noncomputable section
section
variable {h:AH} {n w:Nat} {v:AV} {α:Type} {c:α->List AV} {l:List α}
theorem SR.src{len:Nat}{cells:List AV}(s:SR h n w v len cells):iV h w len v=some cells/\lG v=some len:=by
 rcases s with⟨rfl,rfl,rfl⟩|⟨x,lo,o,cp,rfl,e2,e3,e4,e6⟩|⟨a,c,rfl,rfl,rfl⟩
 rotate_left 2
 .exact⟨rfl,rfl⟩
 .exact⟨rfl,rfl⟩
 .refine⟨?_,rfl⟩
  show bnd (iA (h.get x) o (len*w)) (λl=>mH (len*w) l)=_;rw[<-e4];exact e3.cut
theorem SL.src(s:SL h n w v c l):iV h w l.length v=some (l.flatMap c)/\lG v=some l.length:=s.2.src
end
end
end
section
noncomputable section
abbrev HP:=AH->Nat->Prop
def Kp(X:Nat->Prop)(h:AH)(n:Nat)(A:HP):Prop:=∀h' n',n<=n'->(∀x,x<n->¬X x->h'.get x=h.get x)->A h' n'
section
variable {X Y:Nat->Prop} {h h':AH} {n n':Nat} {A B:HP}
theorem Kp.use(k:Kp X h n A):A h n:=k h n (Nat.le_refl _) λ_ _ _=>rfl
theorem Kp.on(k:Kp X h n A)(hn:n<=n')(e:∀x,x<n->¬X x->h'.get x=h.get x):Kp X h' n' A:=λh2 n2 h3 h4=>k h2 n2 (Nat.le_trans hn h3) λx hx hX=>(h4 x (Nat.lt_of_lt_of_le hx hn) hX).trans (e x hx hX)
theorem Kp.up(k:Kp X h n A)(u:Up h n h' n'):Kp X h' n' A:=k.on u.le λx hx _=>u.old x hx
theorem Kp.set(k:Kp X h n A){b m:Nat}{o:AO}(hb:X b\/n<=b)(hm:n<=m):Kp X (h.set b o) m A:=k.on hm λx hx hX=>ay (by rintro rfl;rcases hb with e|e;exact hX e;omega)
theorem Kp.le(k:Kp X h n A)(e:∀x,x<n->Y x->X x):Kp Y h n A:=λh2 n2 h3 h4=>k h2 n2 h3 λx hx hX=>h4 x hx λhY=>hX (e x hx hY)
theorem Kp.wk(k:Kp X h n A)(e:∀h n,A h n->B h n):Kp X h n B:=λh2 n2 h3 h4=>e _ _ (k h2 n2 h3 h4)
theorem Kp.and(k:Kp X h n A)(l:Kp X h n B):Kp X h n λh n=>A h n/\B h n:=λh2 n2 h3 h4=>⟨k h2 n2 h3 h4,l h2 n2 h3 h4⟩
theorem Kp.JB(k:∀h' n',Up h n h' n'->A h' n')(e:∀x,X x->n<=x):Kp X h n A:=λh2 n2 h3 h4=>k h2 n2 ⟨h3,λx hx=>h4 x hx λhX=>by have:=e x hX;omega⟩
end
def blk(v:AV)(x:Nat):Prop:=∃lo o len c,v= .sl x lo o len c
theorem eB{x lo o len:Nat}{c:Option Nat}{y:Nat}:blk (.sl x lo o len c) y↔y=x:=⟨λ⟨_,_,_,_,e⟩=>by cases e;rfl,λe=>⟨_,_,_,_,by rw[e]⟩⟩
theorem MP{a:Addr}{c y:Nat}:¬blk (.es a c) y:=λ⟨_,_,_,_,e⟩=>by cases e
theorem fE{c y:Nat}:¬blk (.k c) y:=λ⟨_,_,_,_,e⟩=>by cases e
theorem SL.kp{X:Nat->Prop}{h:AH}{n w:Nat}{v:AV}{α:Type}{c:α->List AV}{l:List α}(s:SL h n w v c l)(hX:∀x,blk v x->¬X x):Kp X h n λh n=>SL h n w v c l:=λh2 n2 h3 h4=>by
 refine⟨s.1,?_⟩;rcases s.2 with e|⟨x,lo,o,cp,rfl,e2,e3,e4,e6⟩|e
 .exact .inl e
 .exact .inr (.inl ⟨x,lo,o,cp,rfl,by omega,by rw[h4 x e2 (hX x (eB.2 rfl))];exact e3,e4,e6⟩)
 .exact .inr (.inr e)
theorem SL.fH{h:AH}{n w:Nat}{v:AV}{α:Type}{c:α->List AV}{l:List α}(s:SL h n w v c l){x:Nat}(hx:blk v x):x<n:=by
 rcases s.2 with⟨rfl,_⟩|⟨y,lo,o,cp,rfl,e2,_⟩|⟨a,c,rfl,_⟩
 rotate_left 2
 .exact absurd hx MP
 .exact absurd hx fE
 .rw[eB]at hx;omega
def Gr(h:AH)(n e w:Nat)(v:AV){α:Type}(c:α->List AV)(l:List α):Prop:=(∀a,(c a).length=w)/\((v= .k 1/\l=[])\/
 ∃b cap cells,v= .sl b 0 0 l.length cap/\b<n/\h.get b=some (.row e cells)/\cells.take (l.length*w)=l.flatMap c/\l.length*w<=cells.length/\(cap=none->cells.length=l.length*w)/\∀k,cap=some k->l.length<=k/\cells.length=k*w)
section
variable {h h':AH} {n n' e w:Nat} {v:AV} {α:Type} {c:α->List AV} {l l2:List α}
theorem bL(hw:∀a,(c a).length=w)(l:List α):(l.flatMap c).length=l.length*w:=by
 induction l with
 |nil=>simp
 |cons a l ih=>rw[List.flatMap_cons,List.length_append,hw,ih,List.length_cons,Nat.succ_mul];omega
theorem Gr.nil(hw:∀a,(c a).length=w):Gr h n e w (.k 1) c []:=⟨hw,.inl ⟨rfl,rfl⟩⟩
theorem Gr.of{b cap:Nat}{cells:List AV}(hw:∀a,(c a).length=w)(hb:b<n)(hg:h.get b=some (.row e cells))(hc:cells.take (l.length*w)=l.flatMap c)(h1:l.length<=cap)(h2:cells.length=cap*w):Gr h n e w (.sl b 0 0 l.length (some cap)) c l:=
 ⟨hw,.inr ⟨b,some cap,cells,rfl,hb,hg,hc,by rw[h2];exact Nat.mul_le_mul_right _ h1,λe=>(by cases e),λk e=>by cases e;exact⟨h1,h2⟩⟩⟩
theorem Gr.all{b len:Nat}(hw:∀a,(c a).length=w)(hb:b<n)(hg:h.get b=some (.row e (l.flatMap c)))(hl:len=l.length):Gr h n e w (.sl b 0 0 len (some len)) c l:=by
 subst hl;exact Gr.of hw hb hg (by rw[<-bL hw,List.take_length]) (Nat.le_refl _) (bL hw l)
theorem Gr.sl(g:Gr h n e w v c l):SL h n w v c l:=by
 refine⟨g.1,?_⟩;rcases g.2 with⟨rfl,rfl⟩|⟨b,cap,cells,rfl,h1,h2,h3,h4,h5,h6⟩
 .exact .inl ⟨rfl,rfl,rfl⟩
 .exact .inr (.inl ⟨b,0,0,cap,rfl,h1,by rw[h2];exact .of (m:=l.length*w) (by omega) (by rw[List.drop_zero];exact h3),bL g.1 l,λk hk=>(h6 k hk).1⟩)
theorem Gr.len(g:Gr h n e w v c l):Jg (some v)=some (.i .i64 (l.length:Nat)):=g.sl.len
theorem Gr.cl(g:Gr h n e w v c l):qE v=some [v]:=g.sl.cl
theorem Gr.on(g:Gr h n e w v c l)(hn:n<=n')(hs:∀x,x<n->blk v x->h'.get x=h.get x):Gr h' n' e w v c l:=by
 refine⟨g.1,?_⟩;rcases g.2 with h1|⟨b,cap,cells,rfl,h1,h2,h3⟩
 .exact .inl h1
 .exact .inr ⟨b,cap,cells,rfl,by omega,by rw[hs b h1 (eB.2 rfl)];exact h2,h3⟩
theorem Gr.up(g:Gr h n e w v c l)(u:Up h n h' n'):Gr h' n' e w v c l:=g.on u.le λx hx _=>u.old x hx
theorem Gr.fH(g:Gr h n e w v c l){x:Nat}(hx:blk v x):x<n:=g.sl.fH hx
theorem Gr.ty(g:Gr h n e w v c l){x:Nat}(hx:blk v x):∃cells,h.get x=some (.row e cells):=by
 rcases g.2 with⟨rfl,_⟩|⟨b,cap,cells,rfl,h1,h2,h3⟩
 .exact absurd hx fE
 .rw[eB]at hx;subst hx;exact⟨_,h2⟩
theorem H9{x y:AV}:(jh e w).run h n x y=aJ (lG x) λlx=>aJ (lG y) λly=>aJ (iV h w lx x) λcx=>aJ (iV h w ly y) λcy=>
 bc (Nat.ble (Nat.add lx ly) 1048576)
 (match x with
 | .sl b _ o _ (some c)=>
  bc (Nat.ble (Nat.add lx ly) c)
   (match h.get b with
    |some (.row t l)=>aJ (uP cy (Nat.add o (Nat.mul lx w)) l) λl=>.ok (.sl b 0 o (Nat.add lx ly) (some c)) (h.set b (.row t l)) n
    |_=>.bad)
   (mk h n (.sl n 0 0 (Nat.add lx ly) none) (.row e (Cv cx cy)))
 | .k 1=>bc (Nat.beq ly 0) (.ok (.k 1) h n) (mk h n (.sl n 0 0 ly none) (.row e cy))
 | .sl b 0 0 _ none=>
  (match h.get b with
   |some (.row t l)=>bc (Nat.beq t e) (bc (Nat.beq (mG l) (Nat.mul lx w)) (mk (h.del b) n (.sl n 0 0 (Nat.add lx ly) none) (.row e (Cv cx cy)))
    (bc (Nat.beq w 0) .bad (aJ (uP cy (Nat.mul lx w) l) λl=>.ok (.sl b 0 0 (Nat.add lx ly) none) (h.set b (.row t l)) n))) .bad
   |_=>.bad)
 |_=>.bad) .bad:=rfl
theorem Gr.app(g:Gr h n e w v c l){y:AV}(hy1:lG y=some l2.length)(hy2:iV h w l2.length y=some (l2.flatMap c))(hl:l.length+l2.length<=1048576):
 ∃v' h' n',(jh e w).run h n v y= .ok v' h' n'/\Gr h' n' e w v' c (l++l2)/\n<=n'/\(∀x,x<n->¬blk v x->h'.get x=h.get x)/\∀x,blk v' x->blk v x\/n<=x:=by
 have hw:=g.1;rw[H9,hy1];rcases g.2 with⟨rfl,rfl⟩|⟨b,cap,cells,rfl,h1,h2,h3,h4,h5,h6⟩
 .show∃v' h' n',aJ (iV h w l2.length y) _=fq.ok v' h' n'/\_
  rw[hy2];show∃v' h' n',bc (Nat.ble (Nat.add 0 l2.length) 1048576) (bc (Nat.beq l2.length 0) (fq.ok (.k 1) h n) (mk h n (.sl n 0 0 l2.length none) (.row e (l2.flatMap c)))) .bad=fq.ok v' h' n'/\_;rw[show Nat.add 0 l2.length=l2.length from Nat.zero_add _,Nat.ble_eq_true_of_le (by simpa using hl),bF];cases l2 with
  |nil=>exact⟨_,_,_,rfl,Gr.nil hw,Nat.le_refl _,λ_ _ _=>rfl,λx hx=>.inl hx⟩
  |cons a l2=>
   refine⟨_,_,_,rfl,⟨hw,.inr ⟨n,none,_,rfl,Nat.lt_succ_self n,aG,?_,?_,λ_=>bL hw _,λk hk=>by cases hk⟩⟩,Nat.le_succ _,λx hx _=>ay (by omega),λx hx=>?_⟩
   .rw[List.nil_append,<-bL hw,List.take_length]
   .rw[List.nil_append,<-bL hw];exact Nat.le_refl _
   .rw[eB]at hx;exact .inr (by omega)
 .have hsrc:iV h w l.length (.sl b 0 0 l.length cap)=some (l.flatMap c):=by
   show bnd (iA (h.get b) 0 _) (λr=>mH (Nat.mul l.length w) r)=_;rw[h2];show mH (l.length*w) (qC 0 cells)=_;rw[qh,if_pos (by omega),List.drop_zero,h3]
  show∃v' h' n',aJ (iV h w l.length (.sl b 0 0 l.length cap)) _=fq.ok v' h' n'/\_;rw[hsrc];show∃v' h' n',aJ (iV h w l2.length y) _=fq.ok v' h' n'/\_;rw[hy2];have happ:(l++l2).flatMap c=l.flatMap c++l2.flatMap c:=List.flatMap_append;cases cap with
  |none=>
   show∃v' h' n',bc (Nat.ble (Nat.add l.length l2.length) 1048576) (match h.get b with
    |some (.row t r)=>bc (Nat.beq t e) (bc (Nat.beq (mG r) (Nat.mul l.length w)) (mk (h.del b) n (.sl n 0 0 (Nat.add l.length l2.length) none) (.row e (Cv (l.flatMap c) (l2.flatMap c)))) (bc (Nat.beq w 0) .bad (aJ (uP (l2.flatMap c) (Nat.mul l.length w) r) λr=>.ok (.sl b 0 0 (Nat.add l.length l2.length) none) (h.set b (.row t r)) n))) .bad
    |_=>.bad) .bad=fq.ok v' h' n'/\_
   rw[show Nat.add l.length l2.length=l.length+l2.length from rfl,Nat.ble_eq_true_of_le hl,bF,h2];show∃v' h' n',bc (Nat.beq e e) (bc (Nat.beq (mG cells) (l.length*w)) _ _) .bad=fq.ok v' h' n'/\_;rw[Nat.beq_refl,bF,eO,h5 rfl,Nat.beq_refl,bF,iG,<-happ];refine⟨_,_,_,rfl,⟨hw,.inr ⟨n,none,_,by rw[List.length_append],Nat.lt_succ_self n,aG,?_,?_,λ_=>bL hw _,λk hk=>by cases hk⟩⟩,Nat.le_succ _,λx hx hb=>?_,λx hx=>?_⟩
   .rw[<-bL hw,List.take_length]
   .rw[<-bL hw];exact Nat.le_refl _
   .rw[ay (by omega),AU,if_neg (λe=>hb (eB.2 e))]
   .rw[eB]at hx;exact .inr (by omega)
  |some k=>
   obtain⟨h7,h8⟩:=h6 k rfl;show∃v' h' n',bc (Nat.ble (l.length+l2.length) 1048576) (bc (Nat.ble (l.length+l2.length) k)
    (match h.get b with
     |some (.row t r)=>aJ (uP (l2.flatMap c) (Nat.add 0 (Nat.mul l.length w)) r) λr=>.ok (.sl b 0 0 (l.length+l2.length) (some k)) (h.set b (.row t r)) n
     |_=>.bad)
    (mk h n (.sl n 0 0 (l.length+l2.length) none) (.row e (Cv (l.flatMap c) (l2.flatMap c))))) .bad=fq.ok v' h' n'/\_
   rw[Nat.ble_eq_true_of_le hl,bF,h2];by_cases hk:l.length+l2.length<=k
   .have hfit:(l.length+l2.length)*w<=k*w:=Nat.mul_le_mul_right _ hk
    rw[Nat.add_mul]at hfit;have hsp:uP (l2.flatMap c) (Nat.add 0 (Nat.mul l.length w)) cells=some (cells.take (l.length*w)++(l2.flatMap c++cells.drop (l.length*w+(l2.flatMap c).length))):=by
     rw[show Nat.add 0 (Nat.mul l.length w)=l.length*w from Nat.zero_add _];refine xY ?_;unfold nV;rw[if_pos (by rw[bL hw];omega)]
    rw[Nat.ble_eq_true_of_le hk,bF];show∃v' h' n',aJ (uP _ _ cells) _=fq.ok v' h' n'/\_;rw[hsp];refine⟨_,_,_,rfl,⟨hw,.inr ⟨b,some k,_,by rw[List.length_append],h1,aG,?_,?_,λe=>(by cases e),?_⟩⟩,Nat.le_refl _,λx hx hb=>?_,λx hx=>.inl (by rw[eB]at hx⊢;exact hx)⟩
    .rw[happ,h3,List.length_append,Nat.add_mul,<-List.append_assoc,List.take_left' (by rw[List.length_append,bL hw,bL hw])]
    .rw[List.length_append,Nat.add_mul,List.length_append,List.length_append,List.length_take,List.length_drop,bL hw];omega
    .rintro k' hk'
     cases hk'
     rw[List.length_append];refine⟨hk,?_⟩;rw[List.length_append,List.length_append,List.length_take,List.length_drop,bL hw];omega
    .exact ay λe=>hb (eB.2 e)
   .have hf:Nat.ble (l.length+l2.length) k=false:=by
     cases hq:Nat.ble (l.length+l2.length) k with
     |false=>rfl
     |true=>exact absurd (Nat.le_of_ble_eq_true hq) hk
    rw[hf,fU,iG,<-happ];refine⟨_,_,_,rfl,⟨hw,.inr ⟨n,none,_,by rw[List.length_append],Nat.lt_succ_self n,aG,?_,?_,λ_=>bL hw _,λk hk=>by cases hk⟩⟩,Nat.le_succ _,λx hx hb=>ay (by omega),λx hx=>?_⟩
    .rw[<-bL hw,List.take_length]
    .rw[<-bL hw];exact Nat.le_refl _
    .rw[eB]at hx;exact .inr (by omega)
end
theorem jW{S:SK}{h:AH}{n e w:Nat}{v y:AV}{α:Type}{c:α->List AV}{l l2:List α}{d:MD}{r:List MR}{l':List AV}{s:List It}{f:FT}{F:Fm}{Q:PQ}
 (g:Gr h n e w v c l)(hy:lG y=some l2.length/\iV h w l2.length y=some (l2.flatMap c))(hl:l.length+l2.length<=1048576)
 (q:∀v' h' n',Gr h' n' e w v' c (l++l2)->n<=n'->(∀x,x<n->¬blk v x->h'.get x=h.get x)->(∀x,blk v' x->blk v x\/n<=x)->mI S d v' r l' s f h' n' F Q):kR S (PY e w h n (some v) (some y)) d r l' s f F Q:=by
 obtain⟨v',h',n',e1,e2,e3,e4,e5⟩:=g.app hy.1 hy.2 hl;rw[Yq,e1,adD];exact q v' h' n' e2 e3 e4 e5
theorem SL.ap{h:AH}{n w:Nat}{v:AV}{α:Type}{c:α->List AV}{l:List α}(s:SL h n w v c l):lG v=some l.length/\iV h w l.length v=some (l.flatMap c):=⟨s.src.2,s.src.1⟩
abbrev bv(b:UInt8):List AV:=[.i .u8 (Int.ofNat b.toNat)]
theorem ae0{h:AH}{l:List UInt8}:lG (.s l)=some l.length/\iV h 1 l.length (.s l)=some (l.flatMap bv):=by
 refine⟨by show some (mG l)=_;rw[eO],?_⟩;show bc (Nat.beq 1 1) (bnd (mH l.length l) λl=>some (xE l)) none=_;have h1:∀l:List UInt8,mH l.length l=some l:=by
  intro l;induction l with
  |nil=>rfl
  |cons a l ih=>show bnd (mH l.length l) (λx=>some (a::x))=_;rw[ih];rfl
 rw[h1];show some (xE l)=_;congr 1;induction l with
 |nil=>rfl
 |cons a l ih=>
  show AV.i .u8 (Int.ofNat a.toNat)::xE l=_;rw[List.flatMap_cons,ih];rfl
theorem uq{α:Type}{c:α->List AV}{w:Nat}(hw:∀a,(c a).length=w)(l:List α)(i:Nat)(a:α)(hi:i<l.length):nV (c a) (i*w) (l.flatMap c)=some ((l.set i a).flatMap c):=by
 have hm:(i+1)*w<=l.length*w:=Nat.mul_le_mul_right w hi;rw[Nat.succ_mul]at hm;unfold nV;rw[if_pos (by rw[hw,bL hw];omega),hw];congr 1;clear hm;induction l generalizing i with
 |nil=>simp at hi
 |cons b l ih=>
  cases i with
  |zero=>
   rw[List.set_cons_zero,List.flatMap_cons,List.flatMap_cons,Nat.zero_mul,List.take_zero,List.nil_append,Nat.zero_add,List.drop_left' (hw b)]
  |succ i=>
   rw[List.set_cons_succ,List.flatMap_cons,List.flatMap_cons,<-ih i (by simpa using hi)];rw[Nat.succ_mul,show i*w+w=(c b).length+i*w by rw[hw];omega,List.take_length_add_append,List.append_assoc];congr 1;rw[Nat.add_assoc,List.drop_length_add_append,hw b,Nat.add_comm (i*w) w]
theorem qy{α:Type}{c:α->List AV}{w e:Nat}(hw:∀a,(c a).length=w){l:List α}{i:Nat}{a:α}(hi:i<l.length):fC (some (.row e (l.flatMap c))) (i*w) (some (c a))=some (.row e ((l.set i a).flatMap c)):=by
 show(match nV (c a) (i*w) (l.flatMap c)with|some m=>some (AO.row e m)|none=>none)=_;rw[uq hw l i a hi]
theorem Sw{k:Int}{m:Nat}{f:Nat->Option AV}(h0:0<=k)(h:k<(m:Nat)):Em k m f=f k.toNat:=by
 obtain⟨i,rfl⟩:=Int.eq_ofNat_of_zero_le h0;show bc (Nat.ble (Nat.succ i) m) (f i) none=_;rw[Nat.ble_eq_true_of_le (by omega),bF];rfl
@[go_sem] theorem sF {w m b o:Nat} {k:Int} {j:IntKind} (h0:0<=k) (h:k<(m:Nat)):LH w m (some (.p b o)) (some (.i j k))=some (.p b (o+k.toNat*w)):=by
 show Em k m (λk=>some (AV.p b (Nat.add o (Nat.mul k w))))=_;rw[Sw h0 h];rfl
@[go_sem] theorem acs {e:TypeId} {z:List AV} {x:Nat} {a c:MO} {F:Fm} {u:List AV}:Qh (.Bu e z a c) x F u=msA e z x (ev a F u) (ev c F u):=rfl
@[go_sem] theorem aiu {e:TypeId} {z:List AV} {x a c:Nat} {k j:IntKind} (h1:a<=c) (h2:c<=1048576):msA e z x (some (.i k (a:Nat))) (some (.i j (c:Nat)))=some (.sl x 0 0 a (some c),.row e (rep c z)):=by
 show(if a<=c/\c<=1048576 then some (AV.sl x 0 0 a (some c),AO.row e (rep c z))else none)=_;rw[if_pos ⟨h1,h2⟩]
@[go_sem] theorem Dw {e:TypeId} {z:List AV} {h:AH} {n a c:Nat} {k j:IntKind} (h1:a<=c) (h2:c<=1048576):Ye e z h n (some (.i k (a:Nat))) (some (.i j (c:Nat)))=some (.ok (.sl n 0 0 a (some c)) (h.set n (.row e (rep c z))) (n+1)):=by
 show some (bc (Nat.ble a c) (bc (Nat.ble c 1048576) (mk h n (.sl n 0 0 a (some c)) (.row e (rep c z))) .bad) .bad)=_;rw[Nat.ble_eq_true_of_le h1,bF,Nat.ble_eq_true_of_le h2,bF];rfl
theorem je{α:Type}(c:α->List AV)(a:α):∀n,rep n (c a)=(List.replicate n a).flatMap c
 |0=>rfl
 |n+1=>by
  show Cv (c a) (rep n (c a))=_;rw[iG,je c a n,List.replicate_succ,List.flatMap_cons]
structure MU(P:Program)(kt:TypeId){κ:Type}(ke:κ->AV):Prop where
 eq:∀a b,∃x,(qM P 30 kt).run (ke a) (ke b)=some x/\(x=true↔a=b)
 ck:∀a,(xG P 30 kt).run (ke a)=true
 sc:∀a,KP (ke a)=true
open Classical in
def nu{κ:Type}(m:List (κ×AV))(k:κ):Option AV:=match m with
 |[]=>none
 |x::r=>if k=x.1 then some x.2 else nu r k
open Classical in
def Dx{κ:Type}(m:List (κ×AV))(k:κ)(v:AV):List (κ×AV):=match m with
 |[]=>[(k,v)]
 |x::r=>if k=x.1 then(k,v)::r else x::Dx r k v
theorem nA{κ:Type}(m:List (κ×AV))(k k':κ)(v:AV):nu (Dx m k v) k'=(open Classical in if k'=k then some v else nu m k'):=by
 classical
 induction m with
 |nil=>rw[Dx,nu];by_cases h:k'=k<;>simp[h,nu]
 |cons x r ih=>
  rw[Dx];by_cases h:k=x.1
  .rw[if_pos h,nu,nu]
   by_cases h2:k'=k
   .rw[if_pos h2,if_pos h2]
   .rw[if_neg h2,if_neg h2,if_neg (by rw[<-h];exact h2)]
  .rw[if_neg h,nu,nu,ih]
   by_cases h2:k'=x.1
   .rw[if_pos h2,if_pos h2,if_neg (by rw[h2];exactλe=>h e.symm)]
   .rw[if_neg h2,if_neg h2]
def uw(h:AH)(b:Nat){κ:Type}(ke:κ->AV)(m:List (κ×AV)):Prop:=∃es oz,h.get b=some (.mp es oz)/\es.map (λe=>(e.1,e.2.1))=m.map λx=>(ke x.1,x.2)
section
variable {P:Program} {kt:TypeId} {κ:Type} {ke:κ->AV} {h:AH} {n b:Nat} {m:List (κ×AV)} {k:κ}
theorem yP(T:MU P kt ke):∀(m:List (κ×AV))(es:List (AV×AV×Nat))(i:Nat),es.map (λe=>(e.1,e.2.1))=m.map (λx=>(ke x.1,x.2))->
 (nu m k=none->nI (qM P 30 kt) (ke k) es i=some none)/\∀v,nu m k=some v->∃j,nI (qM P 30 kt) (ke k) es i=some (some (i+j,v))/\∀u,(Er (ke k) u j es).map (λe=>(e.1,e.2.1))=(Dx m k u).map λx=>(ke x.1,x.2)
 |[],es,i,e=>by
  have:es=[]:=by simpa using e
  subst this;exact⟨λ_=>rfl,λv hv=>by cases hv⟩
 |x::r,[],i,e=>by cases e
 |x::r,a::es,i,e=>by
  rw[List.map_cons,List.map_cons]at e;obtain⟨e1,e2⟩:=List.cons.inj e;obtain⟨e3,e4⟩:=Prod.mk.inj e1;have e3:a.1=ke x.1:=e3;obtain⟨q,q1,q2⟩:=T.eq k x.1;obtain⟨g1,g2⟩:=yP T r es (i+1) e2;have step:nI (qM P 30 kt) (ke k) (a::es) i=bc q (some (some (i,a.2.1))) (nI (qM P 30 kt) (ke k) es (Nat.succ i)):=by
   show bnd ((qM P 30 kt).run (ke k) a.1) _=_;rw[e3,q1];rfl
  rw[nu];by_cases hk:k=x.1
  .rw[if_pos hk,step,q2.2 hk,bF]
   refine⟨λh=>(by cases h),λv hv=>⟨0,by cases hv;rw[e4];rfl,λu=>?_⟩⟩;rw[Dx,if_pos hk];show((ke k,u,a.2.2)::es).map _=_;rw[List.map_cons,List.map_cons,e2]
  .have hq:q=false:=by
    cases q with
    |false=>rfl
    |true=>exact absurd (q2.1 rfl) hk
   rw[if_neg hk,step,hq,fU];refine⟨g1,λv hv=>?_⟩;obtain⟨j,j1,j2⟩:=g2 v hv;refine⟨j+1,by rw[show Nat.succ i=i+1 from rfl,j1];congr 3;omega,λu=>?_⟩;rw[Dx,if_neg hk];show(a::Er (ke k) u j es).map _=_;rw[List.map_cons,List.map_cons,j2 u,e1]
theorem uw.look(g:uw h b ke m)(T:MU P kt ke){z:Option AV}{ok:Bool}{zv:AV}(hz:z=some zv):WC P kt z ok h (some (.m b)) (some (ke k))=match nu m k with|some v=>some (bc ok (.bS [v,.b true]) v)|none=>some (bc ok (.bS [zv,.b false]) zv):=by
 obtain⟨es,oz,h1,h2⟩:=g;obtain⟨g1,g2⟩:=yP (k:=k) T m es 0 h2;show bc ((xG P 30 kt).run (ke k)) (bnd (bnd (IG (h.get b)) λes=>nI (qM P 30 kt) (ke k) es 0) λr=>
  @Option.rec (Nat×AV) (λ_=>Option AV) (bnd z λz=>some (bc ok (.bS [z,.b false]) z)) (λv=>some (bc ok (.bS [v.2,.b true]) v.2)) r) none=_
 rw[T.ck,bF,h1];show bnd (nI (qM P 30 kt) (ke k) es 0) _=_;cases ha:nu m k with
 |none=>rw[g1 ha,hz];rfl
 |some v=>
  obtain⟨j,j1,_⟩:=g2 v ha;rw[j1];rfl
theorem uw.put(g:uw h b ke m)(T:MU P kt ke)(v:AV):∃o,CB (qM P 30 kt) (xG P 30 kt) h n (.m b) (ke k) v= .ok (.bS []) (h.set b o) n/\uw (h.set b o) b ke (Dx m k v):=by
 obtain⟨es,oz,h1,h2⟩:=g;obtain⟨g1,g2⟩:=yP (k:=k) T m es 0 h2;show∃o,(match h.get b with
  |some (.mp es c)=>bc ((xG P 30 kt).run (ke k)) (aJ (nI (qM P 30 kt) (ke k) es 0) λr=>@Option.rec (Nat×AV) (λ_=>fq) (.ok (.bS []) (h.set b (.mp (Cv es [(ke k,v,c)]) (Nat.succ c))) n)
   (λi=>bc (KP (ke k)) (.ok (.bS []) (h.set b (.mp (Er (ke k) v i.1 es) c)) n) .bad) r) .bad
  |_=>.bad)=fq.ok (.bS []) (h.set b o) n/\_
 rw[h1];dsimp only;rw[T.ck,bF];cases ha:nu m k with
 |none=>
  rw[g1 ha];refine⟨_,rfl,_,_,aG,?_⟩;rw[iG,List.map_append,h2];clear h2 g1 g2;induction m with
  |nil=>rfl
  |cons x r ih=>
   rw[nu]at ha;by_cases hk:k=x.1
   .rw[if_pos hk]at ha;cases ha
   .rw[if_neg hk]at ha
    rw[Dx,if_neg hk,List.map_cons (f:=λx:κ×AV=>(ke x.1,x.2)),List.map_cons (f:=λx:κ×AV=>(ke x.1,x.2)),List.cons_append,<-ih ha]
 |some w=>
  obtain⟨j,j1,j2⟩:=g2 w ha;rw[j1];show∃o,bc (KP (ke k)) (fq.ok (.bS []) (h.set b (.mp (Er (ke k) v (0+j) es) oz)) n) .bad=fq.ok (.bS []) (h.set b o) n/\_;rw[T.sc,bF,Nat.zero_add];exact⟨_,rfl,_,_,aG,j2 v⟩
theorem uw.on{h':AH}(g:uw h b ke m)(e:h'.get b=h.get b):uw h' b ke m:=by unfold uw;rw[e];exact g
theorem uw.new(ke:κ->AV):uw (h.set b (.mp [] 0)) b ke []:=⟨[],0,aG,rfl⟩
end
end
end
section
noncomputable section
def Zc(s:Sl):List Tmp->Option (List Bool)
 |[]=>some []
 |k::r=>bc (Nat.ble (Nat.succ k) s.N) (bnd (Zc s r) λb=>some (s.S k::b)) none
def Qy:List Tmp->List Bool->List AV->Fm->Fm
 |k::ks,true::bs,v::vs,F=>Qy ks bs vs (pt F k v)
 |_::ks,false::bs,_::vs,F=>Qy ks bs vs F
 |_,_,_,F=>F
theorem yR{s:Sl}:∀{ps:List Tmp}{bs:List Bool}{vs:List AV}{t:Tr AV}{F:Fm},Zc s ps=some bs->vs.length=ps.length->Fk t F->∃t',vV s ps vs t=some t'/\Fk t' (Qy ps bs vs F)
 |[],_,[],t,F,e,_,hF=>by cases e;exact⟨t,rfl,hF⟩
 |[],_,_::_,_,_,_,hl,_=>by cases hl
 |_::_,_,[],_,_,_,hl,_=>by cases hl
 |k::ps,bs,v::vs,t,F,e,hl,hF=>by
  obtain⟨e1,e⟩:=bK (show bc (Nat.ble (Nat.succ k) s.N) (bnd (Zc s ps) λb=>some (s.S k::b)) none=some bs from e);obtain⟨b,e2,e⟩:=aB e;cases e
  have hp:(uQ s k).run t v=some (bc (s.S k) ((pp 20 k).run v t) t):=by
   unfold uQ;rw[e1,bF];cases s.S k<;>rfl
  cases hS:s.S k with
  |true=>
   obtain⟨t',g1,g2⟩:=yR (t:=(pp 20 k).run v t) e2 (by simpa using hl) (hF.put k v);refine⟨t',?_,g2⟩;show bnd ((uQ s k).run t v) _=_;rw[hp,hS];exact g1
  |false=>
   obtain⟨t',g1,g2⟩:=yR (t:=t) e2 (by simpa using hl) hF;refine⟨t',?_,g2⟩;show bnd ((uQ s k).run t v) _=_;rw[hp,hS];exact g1
section
variable {P:Program} {sl:FuncId->Sl}
def yQ(l:Nat)(R:Bool->AH->Nat->Prop):PQ:=λx h n _=>∃st pd g t ps fF body,h.get l=some (.lp st pd g t ps fF body)/\match x with
 | .bV=>R true (h.set l (.lp .ready none g t ps fF body)) n
 | .ret=>R false (h.set l (.lp .done (some .ret) g t ps fF body)) n
 | .exit id=>R false (h.set l (.lp .done (some (.exit id)) g t ps fF body)) n
 | .goto _=>False
def aQ(P:Program)(Y:YT)(g:FuncId)(f:FT)(l:Nat)(mb:MC)(R:Bool->AH->Nat->Prop):PQ:=λx h n F=>match x with
 | .bV=>∃pd g1 t1 ps fF body,h.get l=some (.lp .ready pd g1 t1 ps fF body)/\sK P Y g 100000 [.c mb] .bV f (h.set l (.lp .busy pd g1 t1 ps fF body)) n F (yQ l R)
 |_=>False
theorem uy{d l:Nat}{g:FuncId}{f:FT}{h:AH}{n:Nat}{t:Tr AV}{F:Fm}{ps:List Tmp}{fF body:Code}{pd:Option Code}{bs:List Bool}{ma mb:MC}{args:List AV}{R:Bool->AH->Nat->Prop}
 (hg:h.get l=some (.lp .ready pd g t ps fF body))(hF:Fk t F)(hp:Zc (sl g) ps=some bs)(hl:args.length=ps.length)(ha:qg P (sl g) fF=some ma)(hb:qg P (sl g) body=some mb)
 (e:sK P (yl P sl d) g 100000 [.c ma] .bV f h n (Qy ps bs args F) (aQ P (yl P sl d) g f l mb R)):RW (yl P sl (d+1) l args f h n) λv h n=>∃b,v= .b b/\R b h n:=by
 obtain⟨t1,e1,e2⟩:=yR (t:=t) (F:=F) hp hl hF;have run:yl P sl (d+1) l args f h n=aJ (vV (sl g) ps args t) λt1=>
  n_ ((cc P sl g (yl P sl d) fF).run f h n t1) λx h n t2=>match x with
   | .bV=>match h.get l with
    |some (.lp .ready pd g1 u1 ps1 wL nK)=>n_ ((cc P sl g (yl P sl d) body).run f (h.set l (.lp .busy pd g1 u1 ps1 wL nK)) n t2) λx h n _=>yE l x h n
    |_=>.bad
   |_=>.bad:=by
  show(match h.get l with
   |some (.lp .ready pd g t ps fF body)=>aJ (vV (sl g) ps args t) λt1=>
    n_ ((cc P sl g (yl P sl d) fF).run f h n t1) λx h n t2=>match x with
     | .bV=>match h.get l with
      |some (.lp .ready pd g1 u1 ps1 wL nK)=>n_ ((cc P sl g (yl P sl d) body).run f (h.set l (.lp .busy pd g1 u1 ps1 wL nK)) n t2) λx h n _=>yE l x h n
      |_=>.bad
     |_=>.bad
   |_=>.bad)=_
  rw[hg]
 unfold RW;rw[run,e1];show∃v h' n',n_ ((cc P sl g (yl P sl d) fF).run f h n t1) _=fq.ok v h' n'/\_;rw[kU g ha];obtain⟨x,h1,n1,t2,F1,b1,b2,b3⟩:=oI _ _ _ _ _ _ _ _ e t1 e2;obtain⟨x0,h0',n0',t0',b0,b1⟩:=iZ (show iK (ma.run P (yl P sl d) g f h n t1) (λx h n t=>mW P (yl P sl d) g [] x f h n t)= .ok x h1 n1 t2 from b1);cases b1
 rw[b0];cases x with
 |ret=>exact b3.elim
 |exit j=>exact b3.elim
 |goto j=>exact b3.elim
 |bV=>
  obtain⟨pd1,g1,u1,ps1,wL,nK,c1,c2⟩:=b3;show∃v h' n',(match h1.get l with
   |some (.lp .ready pd g1 u1 ps1 wL nK)=>n_ ((cc P sl g (yl P sl d) body).run f (h1.set l (.lp .busy pd g1 u1 ps1 wL nK)) n1 t2) λx h n _=>yE l x h n
   |_=>.bad)=fq.ok v h' n'/\_
  rw[c1];show∃v h' n',n_ ((cc P sl g (yl P sl d) body).run f _ n1 t2) _=fq.ok v h' n'/\_;rw[kU g hb];obtain⟨x,h2,n2,t3,F2,d1,d2,d3⟩:=oI _ _ _ _ _ _ _ _ c2 t2 b2;obtain⟨x0,h0',n0',t0',d0,d1⟩:=iZ (show iK (mb.run P (yl P sl d) g f _ n1 t2) (λx h n t=>mW P (yl P sl d) g [] x f h n t)= .ok x h2 n2 t3 from d1);cases d1
  rw[d0];show∃v h' n',yE l x h2 n2=fq.ok v h' n'/\_;obtain⟨st,pd2,g2,u2,ps2,adb,XT,k1,k2⟩:=d3;unfold yE;rw[k1];cases x with
  |bV=>exact⟨_,_,_,rfl,true,rfl,k2⟩
  |ret=>exact⟨_,_,_,rfl,false,rfl,k2⟩
  |exit j=>exact⟨_,_,_,rfl,false,rfl,k2⟩
  |goto j=>exact k2.elim
def eQ(P:Program)(Y:YT)(g:FuncId)(l:Nat)(s:List It)(f:FT)(F:Fm)(Q:PQ)(h:AH)(n:Nat):Prop:=∃st pd g1 t ps fF body,h.get l=some (.lp st pd g1 t ps fF body)/\
 ((st= .ready/\pd=none/\sK P Y g 100000 s .bV f (h.set l (.lp .exhausted none g1 t ps fF body)) n F Q)\/
  (st= .done/\pd=some .ret/\sK P Y g 100000 s .ret f (h.set l (.lp .exhausted (some .ret) g1 t ps fF body)) n F Q)\/
  ∃id,st= .done/\pd=some (.exit id)/\sK P Y g 100000 s (.exit id) f (h.set l (.lp .exhausted (some (.exit id)) g1 t ps fF body)) n F Q)
theorem xu{Y:YT}{g:FuncId}{r:MO}{ps:List Tmp}{fF body:Code}{s:List It}{f:FT}{h:AH}{n:Nat}{F:Fm}{Q:PQ}{q:FuncId}{cap:List AV}(hr:ev r F []=some (.f q cap))
 (e:∀t,Fk t F->CW f q (.y n::cap) (h.set n (.lp .ready none g t ps fF body)) (n+1) λ_ h2 n2=>eQ P Y g n s f F Q h2 n2):SM P Y g (.c (.rng r ps fF body)::s) .bV f h n F Q:=by
 intro t hF;obtain⟨v,h2,n2,e1,st,pd,g1,t1,ps1,wL,nK,e2,e3⟩:=e t hF;have run:∀c,GX n h2 n2 t=c->mW P Y g (.c (.rng r ps fF body)::s) .bV f h n t=iK c λx h n t=>mW P Y g s x f h n t:=λc hc=>by
  show iK (match gH r t []with
   |some (.f q cap)=>mJ (f q (.y n::cap) (h.set n (.lp .ready none g t ps fF body)) (Nat.succ n)) λ_ h2 n2=>GX n h2 n2 t
   |_=>.bad) _=_
  rw[bf hF hr];show iK (mJ (f q (.y n::cap) (h.set n (.lp .ready none g t ps fF body)) (n+1)) λ_ h2 n2=>GX n h2 n2 t) _=_;rw[e1,<-hc];rfl
 have out:∀x h3,GX n h2 n2 t= .ok x h3 n2 t->sK P Y g 100000 s x f h3 n2 F Q->∃x' h' n' t' F',mW P Y g (.c (.rng r ps fF body)::s) .bV f h n t= .ok x' h' n' t'/\Fk t' F'/\Q x' h' n' F':=λx h3 a b=>by
  obtain⟨x',h',n',t',F',c1,c2,c3⟩:=oI _ _ _ _ _ _ _ _ b t hF;exact⟨x',h',n',t',F',(run _ a).trans c1,c2,c3⟩
 rcases e3 with⟨rfl,rfl,e3⟩|⟨rfl,rfl,e3⟩|⟨id,rfl,rfl,e3⟩
 .exact out _ _ (by unfold GX;rw[e2]) e3
 .exact out _ _ (by unfold GX;rw[e2]) e3
 .exact out _ _ (by unfold GX;rw[e2]) e3
theorem RW.mono{r:fq}{Q R:AV->AH->Nat->Prop}(e:RW r Q)(k:∀v h n,Q v h n->R v h n):RW r R:=let⟨v,h,n,e1,e2⟩:=e;⟨v,h,n,e1,k v h n e2⟩
end
end
end
section
noncomputable section
variable {h:AH} {n:Nat} {Q:AV->AH->Nat->Prop} {v:CS} {C:aA}
theorem nC(K:Nat)(hC:aZ h n v C)(r:Int)(hQ:∀h' n',Up h n h' n'->Q (.b (C.role r)) h' n'):CW (EF (K+1)) 174 [.agg (v.av C),.i .i64 r] h n Q:=by
 refine aD aev rfl ?_;repeat' (first|(simp (disch:=omega) only[go_sem,YL,CS.av,hC.ah.len])|(refine aS ?_ ?_<;>(intro hb hd;rw[hb];clear hb))|(with_reducible refine aj ?_))
 all_goals(first|(with_reducible refine bY hQ ?_ aH;first|(simp[aA.role,ieq];done)|(simp[aA.role,ieq];omega)|(simp_all [aA.role,ieq];done)|(simp_all [aA.role,ieq];omega))|((with_reducible refine fO hQ aH (λhz=>?_) (λhz=>?_))<;>first|(simp_all [aA.role,ieq];done)|(simp_all [aA.role,ieq];omega)))
theorem Dy{r:Int}(e:¬0<=r\/¬r<C.acts.length):C.natural r=false:=by
 unfold aA.natural aA.Dp;by_cases h0:0<=r
 .rw[if_pos h0,List.getElem?_eq_none (by omega)]
 .rw[if_neg h0]
theorem yS{r:Int}{a:dB}(h0:0<=r)(e:C.acts[r.toNat]?=some a):C.natural r=((a.kind==1)&&(a.role== -1)):=by
 unfold aA.natural aA.Dp;rw[if_pos h0,e]
theorem yT(K:Nat)(hC:aZ h n v C)(r:Int)(hQ:∀h' n',Up h n h' n'->Q (.b (C.natural r)) h' n'):CW (EF (K+1)) 171 [.agg (v.av C),.i .i64 r] h n Q:=by
 refine aD c171 rfl ?_;repeat' (first|(simp (disch:=omega) only[go_sem,YM,CS.av,hC.acts.len])|(refine aS ?_ ?_<;>(intro hb hd;rw[hb];clear hb))|(with_reducible refine aj ?_))
 any_goals(with_reducible refine bY hQ ?_ aH;exact Dy (by omega))
 refine gV hC.acts (by omega) (by omega) (by omega) λb o a ha hb rd=>?_;repeat' (first|(simp (disch:=omega) only[go_sem,rd.el,rd.hd,dB.av])|(refine aS ?_ ?_<;>(intro hb hd;rw[hb];clear hb))|(with_reducible refine aj ?_))
 any_goals(with_reducible refine bY hQ ?_ aH;rw[yS (by omega) ha];simp_all [ieq])
 refine gV hC.acts (by omega) (by omega) (by omega) λb o a' ha' hb rd=>?_;obtain rfl:a=a':=by rw[ha]at ha';cases ha';rfl
 repeat' (first|(simp (disch:=omega) only[go_sem,rd.el,rd.hd,dB.av])|(refine aS ?_ ?_<;>(intro hb hd;rw[hb];clear hb))|(with_reducible refine aj ?_))
 all_goals(with_reducible refine bY hQ ?_ aH;rw[yS (by omega) ha];simp_all [ieq])
theorem Qz(K:Nat)(hC:aZ h n v C)(k:aF)(t:AV)(hQ:∀h' n',Up h n h' n'->Q (.b (jq C k.kind k.role k.act k.need k.fT k.final)) h' n'):CW (EF (K+2)) 170 [.agg (v.av C),.agg (k.av t)] h n Q:=by
 refine aD aeA rfl ?_;repeat' (first|(simp (disch:=omega) only[go_sem,ub.old,UD,CS.av,aF.av])|(simp (disch:=omega) only[go_sem,UD,CS.av,aF.av])|((first|rw[aU]|rw[bT]);with_reducible refine nC _ (hC.up aH) _ λh2 n2 u2=>?_;(first|replace ub:=Up.trans ub (Up.trans aH u2)|have ub:=u2);have hle:=ub.le;clear u2)|((first|rw[aU]|rw[bT]);with_reducible refine yT _ (hC.up aH) _ λh2 n2 u2=>?_;(first|replace ub:=Up.trans ub (Up.trans aH u2)|have ub:=u2);have hle:=ub.le;clear u2)|(refine aS ?_ ?_<;>(intro hb hd;rw[hb];clear hb))|(with_reducible refine aj ?_))
 all_goals(first|(with_reducible refine bY hQ ?_ aH;first|(simp[jq,ieq];done)|(simp[jq,ieq];omega)|(simp_all [jq,ieq];done)|(simp_all [jq,ieq];omega))|((with_reducible refine fO hQ aH (λhz=>?_) (λhz=>?_))<;>first|(simp_all [jq,ieq];done)|(simp_all [jq,ieq];omega)))
theorem H_(K:Nat)(hQ:∀h' n',Up h n h' n'->Q (.agg [.i .i64 0,.i .i64 1]) h' n'):CW (EF (K+1)) 172 [] h n Q:=by
 refine aD aeu rfl ?_;repeat' (first|(simp (disch:=omega) only[go_sem,YK])|(refine aS ?_ ?_<;>(intro hb hd;rw[hb];clear hb))|(with_reducible refine aj ?_))
 exact hQ _ _ aH
theorem U1(K:Nat)(x:Int)(h0: -1000000000000<=x)(h1:x<=1000000000000)(hQ:∀h' n',Up h n h' n'->Q (.i .u64 (x.natAbs:Nat)) h' n'):CW (EF (K+1)) 285 [.i .i64 x] h n Q:=by
 refine aD aey rfl ?_;repeat' (first|(simp (disch:=omega) only[go_sem,YO])|(refine aS ?_ ?_<;>(intro hb hd;rw[hb];clear hb))|(with_reducible refine aj ?_))
 .rw[show gF .i64 (x+1)=x+1 from dM (by omega) (by omega),show gF .i64 (0 - (x+1))=0 - (x+1)from dM (by omega) (by omega),show gF .u64 (0 - (x+1))=0 - (x+1)from um (by omega) (by omega),show gF .u64 (0 - (x+1)+1)=(x.natAbs:Nat) by rw[um (by omega) (by omega)];omega]
  exact hQ _ _ aH
 .rw[show gF .u64 x=(x.natAbs:Nat) by rw[um (by omega) (by omega)];omega]
  exact hQ _ _ aH
def BQ(l:List Nat):Nat:=l.foldl Nat.gcd 0
theorem JC{l:List Nat}{k x:Nat}(h:l[k]?=some x):BQ (l.take (k+1))=Nat.gcd (BQ (l.take k)) x:=by
 unfold BQ;rw[List.take_add_one,h];simp
theorem FN(K:Nat){x:AV}{ns:List Nat}(hx:SL h n 1 x (λx:Nat=>[AV.i .u64 (x:Nat)]) ns)(hb:∀x∈ns,x<=1000000000000)(hl:ns.length<=100)(hQ:∀h' n',Up h n h' n'->Q (.i .u64 (BQ ns:Nat)) h' n'):CW (EF (K+1)) 284 [x] h n Q:=by
 refine aD aex rfl ?_;repeat' (first|(simp (disch:=omega) only[go_sem,YN,hx.len])|(refine aS ?_ ?_<;>(intro hb hd;rw[hb];clear hb))|(with_reducible refine aj ?_))
 refine gu ns.length (λ_=>True) h n (λk=>[(3,.i .u64 (BQ (ns.take k):Nat)),(6,x)]) (by omega) (by omega) (by omega) (by omega) (λ_=>⟨rfl,rfl⟩) rfl rfl (by(repeat' (first|exact aP|refine aN rfl ?_))) aH trivial (λk h' n' hk _ u=>?_) (λh' n' _ u=>?_)
 .repeat' (first|(simp (disch:=omega) only[go_sem,Mt])|(refine aS ?_ ?_<;>(intro hb hd;rw[hb];clear hb))|(with_reducible refine aj ?_))
  refine gV hx (by omega) (by omega) (by omega) λb o a ha hbn rd=>?_;rw[show((k:Nat):Int).toNat=k by omega]at ha;have ua:=u.old b hbn;repeat' (first|(simp (disch:=omega) only[go_sem,rd.el,rd.hd,ua])|(refine aS ?_ ?_<;>(intro hb hd;rw[hb];clear hb))|(with_reducible refine aj ?_))
  refine jo (λm h'' n'' F=>∃g:Nat,m<=1000000000000/\Nat.gcd g m=BQ (ns.take (k+1))/\Up h n h'' n''/\F=[(3,.i .u64 (g:Nat)),(5,.i .u64 (m:Nat)),(6,x),(7,.i .i64 (ns.length:Nat)),(8,.i .i64 (k:Nat))]) a (by have:=hb a (List.mem_of_getElem? ha);omega) ⟨_,⟨BQ (ns.take k),hb a (List.mem_of_getElem? ha),(JC ha).symm,u,rfl⟩,by(repeat' (first|exact aP|refine aN rfl ?_))⟩ ?_;rintro m h2 n2 F ⟨g,hm,hg,u2,rfl⟩;repeat' (first|(simp (disch:=omega) only[go_sem,Ms])|(refine aS ?_ ?_<;>(intro hb hd;rw[hb];clear hb))|(with_reducible refine aj ?_))
  .rename_i hd
   have hm0:m≠0:=by intro e;subst e;exact hd rfl
   rw[Qw (by omega)];repeat' (first|(simp (disch:=omega) only[go_sem])|(refine aS ?_ ?_<;>(intro hb hd;rw[hb];clear hb))|(with_reducible refine aj ?_))
   rw[Aa];refine⟨g % m,_,Nat.mod_lt _ (by omega),⟨m,by have:=Nat.mod_lt g (show 0<m by omega);omega,?_,u2,rfl⟩,by(repeat' (first|exact aP|refine aN rfl ?_))⟩;rw[<-hg,Nat.gcd_comm m,<-Nat.gcd_rec,Nat.gcd_comm]
  .rename_i hd
   have hm0:m=0:=by omega
   subst hm0;rw[Nat.gcd_zero_right]at hg;refine iw rfl rfl trivial u2 ?_;rw[<-hg]
   (repeat' (first|exact aP|refine aN rfl ?_))
 .repeat' (first|(simp (disch:=omega) only[go_sem])|(refine aS ?_ ?_<;>(intro hb hd;rw[hb];clear hb))|(with_reducible refine aj ?_))
  rw[List.take_length];exact hQ _ _ u
end
end
section
noncomputable section
variable {h:AH} {n:Nat} {Q:AV->AH->Nat->Prop} {v:CS} {C:aA}
theorem U2(a b:Nat):BQ [a,b]=Nat.gcd a b:=by simp[BQ]
theorem yU(K:Nat)(r:bC)(hQ:∀h' n',Up h n h' n'->Q (.b r.ok) h' n'):CW (EF (K+2)) 253 [.agg r.av] h n Q:=by
 refine aD aew rfl ?_;repeat' (first|(simp (disch:=omega) only[go_sem,ub.old,Uy,bC.av])|(simp (disch:=omega) only[go_sem,Uy,bC.av])|((first|rw[aU]|rw[bT]);with_reducible refine U1 _ _ (by omega) (by omega) λh2 n2 u2=>?_;(first|replace ub:=Up.trans ub (Up.trans aH u2)|have ub:=u2);have hle:=ub.le;clear u2)|(refine aS ?_ ?_<;>(intro hb hd;rw[hb];clear hb))|(with_reducible refine aj ?_))
 any_goals(first|(with_reducible refine bY hQ ?_ aH;first|(simp[bC.ok,ieq];done)|(simp[bC.ok,ieq];omega)|(simp_all [bC.ok,ieq];done)|(simp_all [bC.ok,ieq];omega))|((with_reducible refine fO hQ aH (λhz=>?_) (λhz=>?_))<;>first|(simp_all [bC.ok,ieq];done)|(simp_all [bC.ok,ieq];omega)))
 rw[bT];refine FN (ns:=[r.num.natAbs,r.den.natAbs]) _ (SL.of (λ_=>rfl) (by omega) tL rfl rfl (by rintro k ⟨⟩;exact Nat.le_refl _)) (by simp;omega) (by simp) λh3 n3 u3=>?_;rw[U2];repeat' (first|(simp (disch:=omega) only[go_sem,ub.old])|(simp (disch:=omega) only[go_sem])|(refine aS ?_ ?_<;>(intro hb hd;rw[hb];clear hb))|(with_reducible refine aj ?_))
 refine bY hQ ?_ aH;have key:decide (r.num.natAbs.gcd r.den.natAbs=1)=decide (((r.num.natAbs.gcd r.den.natAbs:Nat):Int)=1):=decide_eq_decide.2 (by omega);rw[<-key];simp[bC.ok];omega
theorem QA(K:Nat)(hC:aZ h n v C)(h1:1<=C.aC)(h2:C.aC<=100)(hl:C.ah.length<=1000)(hQ:∀h' n',Up h n h' n'->Q (.b C.held) h' n'):CW (EF (K+1)) 167 [.agg (v.av C)] h n Q:=by
 refine aD c167 rfl ?_;repeat' (first|(simp (disch:=omega) only[go_sem,ub.old,UA,CS.av,hC.ah.len])|(simp (disch:=omega) only[go_sem,UA,CS.av,hC.ah.len])|(refine aS ?_ ?_<;>(intro hb hd;rw[hb];clear hb))|(with_reducible refine aj ?_))
 obtain⟨N,hN⟩:=Int.eq_ofNat_of_zero_le (show 0<=C.aC by omega);generalize hh:Tr.set h n _=hb;have ub:Up h n hb (n+1):=by rw[<-hh];exact aH
 have g1:hb.get n=some (.row 27 (v.av C)):=by rw[<-hh];exact tL
 clear hh;refine gu C.ah.length (λk=>∀i p,i<k->C.ah[i]?=some p->C.party p=true) hb (n+1) (λk=>[(1,.p n 0),(2,.b false)]) (by omega) (by omega) (by omega) (by omega) (λ_=>⟨rfl,rfl⟩) rfl rfl (by(repeat' (first|exact aP|refine aN rfl ?_))) aH (by omega) (λk h' n' hk hr u=>?_) (λh' n' hr u=>?_)
 .have g2:=(u.old n (by omega)).trans g1
  repeat' (first|(simp (disch:=omega) only[go_sem,ub.old,Fz,g2,CS.av])|(simp (disch:=omega) only[go_sem,Fz,g2,CS.av])|(refine aS ?_ ?_<;>(intro hb hd;rw[hb];clear hb))|(with_reducible refine aj ?_))
  rw[hN];refine gu N (λj=>∀i:Nat,i<j->C.ah[k]?≠some (i:Int)) h' n' (λ_=>[(1,.p n 0),(2,.b false),(3,.i .i64 (k:Nat)),(7,.i .i64 (C.ah.length:Nat)),(8,.i .i64 (k:Nat))]) (by omega) (by omega) (by omega) (by omega) (λ_=>⟨rfl,rfl⟩) rfl rfl (by(repeat' (first|exact aP|refine aN rfl ?_))) aH (by omega) (λj h2 n2 hj hr2 u2=>?_) (λh2 n2 hr2 u2=>?_)
  .have g3:=(u2.old n (by have:=u.le;omega)).trans g2
   repeat' (first|(simp (disch:=omega) only[go_sem,ub.old,Fy,g3,CS.av])|(simp (disch:=omega) only[go_sem,Fy,g3,CS.av])|(refine aS ?_ ?_<;>(intro hb hd;rw[hb];clear hb))|(with_reducible refine aj ?_))
   refine gV hC.ah (by omega) (by omega) (by omega) λb o a ha hbn rd=>?_;rw[show((k:Nat):Int).toNat=k by omega]at ha;have ua:=(u2.old b (by have:=u.le;omega)).trans ((u.old b (by omega)).trans (ub.old b hbn));repeat' (first|(simp (disch:=omega) only[go_sem,ub.old,rd.el,rd.hd,ua])|(simp (disch:=omega) only[go_sem,rd.el,rd.hd,ua])|(refine aS ?_ ?_<;>(intro hb hd;rw[hb];clear hb))|(with_reducible refine aj ?_))
   .rename_i hd
    refine iw rfl rfl (λi p hi hp=>?_) (u.trans u2) (by(repeat' (first|exact aP|refine aN rfl ?_)));by_cases e:i=k
    .subst e
     rw[ha]at hp;cases hp;simp[aA.party];omega
    .exact hr i p (by omega) hp
   .rename_i hd
    refine iw rfl rfl (λi hi e=>?_) u2 (by(repeat' (first|exact aP|refine aN rfl ?_)));by_cases e2:i=j
    .subst e2;rw[ha]at e;cases e;exact hd rfl
    .exact hr2 i (by omega) e
  .repeat' (first|(simp (disch:=omega) only[go_sem,ub.old])|(simp (disch:=omega) only[go_sem])|(refine aS ?_ ?_<;>(intro hb hd;rw[hb];clear hb))|(with_reducible refine aj ?_))
   refine bY hQ ?_ aH;obtain⟨a,ha⟩:∃a,C.ah[k]?=some a:=⟨C.ah[k],List.getElem?_eq_some_iff.2 ⟨hk,rfl⟩⟩;unfold aA.held;rw[List.all_eq_false];refine⟨a,List.mem_of_getElem? ha,?_⟩;simp only[aA.party,Bool.and_eq_true,decide_eq_true_eq];rintro⟨q1,q2⟩;obtain⟨i,rfl⟩:=Int.eq_ofNat_of_zero_le q1;exact hr2 i (by omega) ha
 .repeat' (first|(simp (disch:=omega) only[go_sem,ub.old])|(simp (disch:=omega) only[go_sem])|(refine aS ?_ ?_<;>(intro hb hd;rw[hb];clear hb))|(with_reducible refine aj ?_))
  refine bY hQ ?_ aH;unfold aA.held;rw[List.all_eq_true];intro p hp;obtain⟨i,hi⟩:=List.getElem?_of_mem hp;exact hr i p (List.getElem?_eq_some_iff.1 hi).1 hi
theorem pF(K:Nat)(r:bC)(hQ:∀h' n',Up h n h' n'->Q (.b r.plus) h' n'):CW (EF (K+3)) 173 [.agg r.av] h n Q:=by
 refine aD c173 rfl ?_;repeat' (first|(simp (disch:=omega) only[go_sem,ub.old,Uz,bC.av])|(simp (disch:=omega) only[go_sem,Uz,bC.av])|((first|rw[aU]|rw[bT]);with_reducible refine yU _ r λh2 n2 u2=>?_;(first|replace ub:=Up.trans ub (Up.trans aH u2)|have ub:=u2);have hle:=ub.le;clear u2)|(refine aS ?_ ?_<;>(intro hb hd;rw[hb];clear hb))|(with_reducible refine aj ?_))
 all_goals(first|(with_reducible refine bY hQ ?_ aH;first|(simp[bC.plus,ieq];done)|(simp[bC.plus,ieq];omega)|(simp_all [bC.plus,ieq];done)|(simp_all [bC.plus,ieq];omega))|((with_reducible refine fO hQ aH (λhz=>?_) (λhz=>?_))<;>first|(simp_all [bC.plus,ieq];done)|(simp_all [bC.plus,ieq];omega)))
theorem QB(a b c d:Int):(d_ Tryz.prog 55 .eql).run (.agg [.i .i64 a,.i .i64 b]) (.agg [.i .i64 c,.i .i64 d])=bnd (bc (fJ a c) (bc (fJ b d) (some true) (some false)) (some false)) λe=>some (.b e):=by kernel_rfl
@[go_sem] theorem ae1 (a b c d:Int):(d_ Tryz.prog 55 .eql).run (.agg [.i .i64 a,.i .i64 b]) (.agg [.i .i64 c,.i .i64 d])=some (.b (decide (a=c)&&decide (b=d))):=by
 rw[QB,cO,cO];by_cases h1:a=c<;>by_cases h2:b=d<;>simp[h1,h2,bc,bnd]
theorem U3(K:Nat)(hC:aZ h n v C)(a:dB)(hQ:∀h' n',Up h n h' n'->Q (.b (C.oL a)) h' n'):CW (EF (K+4)) 169 [.agg (v.av C),.agg a.av] h n Q:=by
 refine aD aez rfl ?_;repeat' (first|(simp (disch:=omega) only[go_sem,ub.old,UC,CS.av,dB.av,hC.units.len])|(simp (disch:=omega) only[go_sem,UC,CS.av,dB.av,hC.units.len])|((first|rw[aU]|rw[bT]);with_reducible refine nC _ (hC.up aH) _ λh2 n2 u2=>?_;(first|replace ub:=Up.trans ub (Up.trans aH u2)|have ub:=u2);have hle:=ub.le;clear u2)|((first|rw[aU]|rw[bT]);with_reducible refine H_ _ λh2 n2 u2=>?_;(first|replace ub:=Up.trans ub (Up.trans aH u2)|have ub:=u2);have hle:=ub.le;clear u2)|((first|rw[aU]|rw[bT]);with_reducible refine pF _ a.lot λh2 n2 u2=>?_;(first|replace ub:=Up.trans ub (Up.trans aH u2)|have ub:=u2);have hle:=ub.le;clear u2)|(refine aS ?_ ?_<;>(intro hb hd;rw[hb];clear hb))|(with_reducible refine aj ?_))
 any_goals(first|(with_reducible refine bY hQ ?_ aH;first|(simp[aA.oL,oK,bC.zero,ieq];done)|(simp[aA.oL,oK,bC.zero,ieq];omega)|(simp_all [aA.oL,oK,bC.zero,ieq];done)|(simp_all [aA.oL,oK,bC.zero,ieq];omega))|((with_reducible refine fO hQ aH (λhz=>?_) (λhz=>?_))<;>first|(simp_all [aA.oL,oK,bC.zero,ieq];done)|(simp_all [aA.oL,oK,bC.zero,ieq];omega)))
 all_goals trace_state
 done
end
end
noncomputable section
variable {h:AH} {n:Nat} {Q:AV->AH->Nat->Prop} {v:CS} {C:aA} {x:AV} {us:List dI}
theorem Dz(K:Nat)(hx:SL h n 5 x dI.av us)(i:Int)(hQ:∀h' n',Up h n h' n'->Q (.b (kV us i)) h' n'):CW (EF (K+1)) 283 [x,.i .i64 i] h n Q:=by
 refine aD aeC rfl ?_;repeat' (first|(simp (disch:=omega) only[go_sem,YP,hx.len])|(refine aS ?_ ?_<;>(intro hb hd;rw[hb];clear hb))|(with_reducible refine aj ?_))
 all_goals(first|(with_reducible refine bY hQ ?_ aH;first|(simp[kV,ieq];done)|(simp[kV,ieq];omega)|(simp_all [kV,ieq];done)|(simp_all [kV,ieq];omega))|((with_reducible refine fO hQ aH (λhz=>?_) (λhz=>?_))<;>first|(simp_all [kV,ieq];done)|(simp_all [kV,ieq];omega)))
theorem QC(K:Nat)(hx:SL h n 5 x dI.av us)(hl:us.length<=1000){i:Nat}{u:dI}(hi:us[i]?=some u)(hQ:∀h' n',Up h n h' n'->Q (.b (fG us i u)) h' n'):CW (EF (K+3)) 252 [x,.i .i64 (i:Nat)] h n Q:=by
 have hil:=(List.getElem?_eq_some_iff.1 hi).1;refine aD aeD rfl ?_;repeat' (first|(simp (disch:=omega) only[go_sem,ub.old,UE])|(simp (disch:=omega) only[go_sem,UE])|(refine aS ?_ ?_<;>(intro hb hd;rw[hb];clear hb))|(with_reducible refine aj ?_))
 refine gV hx (by omega) (by omega) (by omega) λb o a ha hb rd=>?_;rw[show((i:Nat):Int).toNat=i by omega,hi]at ha;cases ha;obtain⟨y,hy,hs⟩:=SL.take hx (i:=i) (by omega) (by omega);repeat' (first|(simp (disch:=omega) only[go_sem,ub.old,rd.el,rd.hd,rd.all,dI.av,hy,hs.len])|(simp (disch:=omega) only[go_sem,rd.el,rd.hd,rd.all,dI.av,hy,hs.len])|(refine aS ?_ ?_<;>(intro hb hd;rw[hb];clear hb))|(with_reducible refine aj ?_))
 any_goals(first|(with_reducible refine bY hQ ?_ aH;first|(simp[fG,BM,ieq];done)|(simp[fG,BM,ieq];omega)|(simp_all [fG,BM,ieq];done)|(simp_all [fG,BM,ieq];omega))|((with_reducible refine fO hQ aH (λhz=>?_) (λhz=>?_))<;>first|(simp_all [fG,BM,ieq];done)|(simp_all [fG,BM,ieq];omega)))
 have hd1:BM i u.name=true:=by simp_all [BM]
 generalize hh:Tr.set (Tr.set h n _) n _=hb0;have u0:Up h n hb0 (n+1):=by rw[<-hh];exact aH
 have g1:hb0.get n=some (.row 167 u.av):=by rw[<-hh];exact tL
 clear hh;have hlen:(us.take i).length=i:=by rw[List.length_take];omega
 refine gu (us.take i).length (λk=>∀j w,j<k->(us.take i)[j]?=some w->¬w.name.toList=u.name.toList) hb0 (n+1) (λk=>[(0,x),(1,.i .i64 (i:Nat)),(4,.b false),(5,.p n 0),(21,y)]) (by omega) (by omega) (by omega) (by omega) (λ_=>⟨rfl,rfl⟩) rfl rfl (by(repeat' (first|exact aP|refine aN rfl ?_))) aH (by omega) (λk h' n' hk hr u1=>?_) (λh' n' hr u1=>?_)
 .have g2:=(u1.old n (by omega)).trans g1
  have ule:=u1.le;repeat' (first|(simp (disch:=omega) only[go_sem,ub.old,FB])|(simp (disch:=omega) only[go_sem,FB])|(refine aS ?_ ?_<;>(intro hb hd;rw[hb];clear hb))|(with_reducible refine aj ?_))
  refine gV hs (by omega) (by omega) (by omega) λb2 o2 w hw hbn fP=>?_;rw[show((k:Nat):Int).toNat=k by omega]at hw;have ua:=(u1.old b2 (by omega)).trans (u0.old b2 hbn);repeat' (first|(simp (disch:=omega) only[go_sem,ub.old,fP.el,fP.hd,fP.all,ua,g2,dI.av])|(simp (disch:=omega) only[go_sem,fP.el,fP.hd,fP.all,ua,g2,dI.av])|(refine aS ?_ ?_<;>(intro hb hd;rw[hb];clear hb))|(with_reducible refine aj ?_))
  .refine bY hQ ?_ aH
   rename_i hd;have:newName (us.take i) u.name=false:=by
    unfold newName;rw[List.all_eq_false];exact⟨w,List.mem_of_getElem? hw,by simp[hd]⟩
   simp[fG,this]
  .rename_i hd
   refine iw rfl rfl (λj w' hj hw'=>?_) aH (by(repeat' (first|exact aP|refine aN rfl ?_)));by_cases e:j=k
   .subst e;rw[hw]at hw';cases hw';exact hd
   .exact hr j w' (by omega) hw'
 .have g2:=(u1.old n (by omega)).trans g1
  have ule:=u1.le;have hn:newName (us.take i) u.name=true:=by
   unfold newName;rw[List.all_eq_true];intro w hw;obtain⟨j,hj⟩:=List.getElem?_of_mem hw;have:=hr j w (List.getElem?_eq_some_iff.1 hj).1 hj;simp[this]
  by_cases hb:kV us u.base=true
  .have hb2:=hb
   simp only[kV,Bool.and_eq_true,decide_eq_true_eq]at hb2;obtain⟨b3,o3,z,q1,q2,q3,q4⟩:=hx.fQ hb2.1 hb2.2 (by omega);have ua:=(u1.old b3 (by omega)).trans (u0.old b3 (by omega));repeat' (first|(simp (disch:=omega) only[go_sem,ub.old,g2,dI.av,q1,ua,q4.el,q4.hd,hb])|(simp (disch:=omega) only[go_sem,g2,dI.av,q1,ua,q4.el,q4.hd,hb])|((first|rw[aU]|rw[bT]);with_reducible refine yU _ u.factor λh2 n2 u2=>?_;(first|replace ub:=Up.trans ub (Up.trans aH u2)|have ub:=u2);have hle:=ub.le;clear u2)|((first|rw[aU]|rw[bT]);with_reducible refine Dz _ (hx.up aH) _ λh2 n2 u2=>?_;(first|replace ub:=Up.trans ub (Up.trans aH u2)|have ub:=u2);have hle:=ub.le;clear u2)|(refine aS ?_ ?_<;>(intro hb hd;rw[hb];clear hb))|(with_reducible refine aj ?_))
   any_goals(first|(with_reducible refine bY hQ ?_ aH;first|(simp[fG,vE,vF,Fb,yj,yu,ieq];done)|(simp[fG,vE,vF,Fb,yj,yu,ieq];omega)|(simp_all [fG,vE,vF,Fb,yj,yu,ieq];done)|(simp_all [fG,vE,vF,Fb,yj,yu,ieq];omega))|((with_reducible refine fO hQ aH (λhz=>?_) (λhz=>?_))<;>first|(simp_all [fG,vE,vF,Fb,yj,yu,ieq];done)|(simp_all [fG,vE,vF,Fb,yj,yu,ieq];omega)))
  .repeat' (first|(simp (disch:=omega) only[go_sem,ub.old,g2,dI.av,hb])|(simp (disch:=omega) only[go_sem,g2,dI.av,hb])|((first|rw[aU]|rw[bT]);with_reducible refine yU _ u.factor λh2 n2 u2=>?_;(first|replace ub:=Up.trans ub (Up.trans aH u2)|have ub:=u2);have hle:=ub.le;clear u2)|((first|rw[aU]|rw[bT]);with_reducible refine Dz _ (hx.up aH) _ λh2 n2 u2=>?_;(first|replace ub:=Up.trans ub (Up.trans aH u2)|have ub:=u2);have hle:=ub.le;clear u2)|(refine aS ?_ ?_<;>(intro hb hd;rw[hb];clear hb))|(with_reducible refine aj ?_))
   any_goals(first|(with_reducible refine bY hQ ?_ aH;first|(simp[fG,vE,vF,ieq];done)|(simp[fG,vE,vF,ieq];omega)|(simp_all [fG,vE,vF,ieq];done)|(simp_all [fG,vE,vF,ieq];omega))|((with_reducible refine fO hQ aH (λhz=>?_) (λhz=>?_))<;>first|(simp_all [fG,vE,vF,ieq];done)|(simp_all [fG,vE,vF,ieq];omega)))
theorem MV(K:Nat)(hx:SL h n 5 x dI.av us)(hl:us.length<=1000)(hQ:∀i h' n',Up h n h' n'->Q (.bS [.i .i64 i,.b (mY us)]) h' n'):CW (EF (K+4)) 168 [x] h n Q:=by
 refine aD c168 rfl ?_;repeat' (first|(simp (disch:=omega) only[go_sem,ub.old,UG,hx.len])|(simp (disch:=omega) only[go_sem,UG,hx.len])|(refine aS ?_ ?_<;>(intro hb hd;rw[hb];clear hb))|(with_reducible refine aj ?_))
 refine gu us.length (λk=>∀i u,i<k->us[i]?=some u->fG us i u=true) h n (λk=>[(0,x),(3,.b false)]) (by omega) (by omega) (by omega) (by omega) (λ_=>⟨rfl,rfl⟩) rfl rfl (by(repeat' (first|exact aP|refine aN rfl ?_))) aH (by omega) (λk h' n' hk hr u1=>?_) (λh' n' hr u1=>?_)
 .obtain⟨u,hu⟩:∃u,us[k]?=some u:=⟨us[k],List.getElem?_eq_some_iff.2 ⟨hk,rfl⟩⟩
  repeat' (first|(simp (disch:=omega) only[go_sem,ub.old,FC])|(simp (disch:=omega) only[go_sem,FC])|((first|rw[aU]|rw[bT]);with_reducible refine QC _ (hx.up aH) hl hu λh2 n2 u2=>?_;(first|replace ub:=Up.trans ub (Up.trans aH u2)|have ub:=u2);have hle:=ub.le;clear u2)|(refine aS ?_ ?_<;>(intro hb hd;rw[hb];clear hb))|(with_reducible refine aj ?_))
  .rw[show AV.b false=AV.b (mY us) by
    congr 1;symm;unfold mY;rw[List.all_eq_false];exact⟨k,List.mem_range.2 hk,by rw[hu];simp[hd]⟩]
   exact hQ _ _ _ aH
  .refine iw rfl rfl (λj w' hj hw'=>?_) aH (by(repeat' (first|exact aP|refine aN rfl ?_)))
   by_cases e:j=k
   .subst e;rw[hu]at hw';cases hw';exact hd
   .exact hr j w' (by omega) hw'
 .repeat' (first|(simp (disch:=omega) only[go_sem,ub.old])|(simp (disch:=omega) only[go_sem])|(refine aS ?_ ?_<;>(intro hb hd;rw[hb];clear hb))|(with_reducible refine aj ?_))
  rw[show AV.b true=AV.b (mY us) by
   congr 1;symm;unfold mY;rw[List.all_eq_true];intro i hi;have hi:=List.mem_range.1 hi;obtain⟨u,hu⟩:∃u,us[i]?=some u:=⟨us[i],List.getElem?_eq_some_iff.2 ⟨hi,rfl⟩⟩;rw[hu];exact hr i u hi hu]
  exact hQ _ _ _ aH
end
end Go.Proofs.YtjoohkjmoghmoaaGreatDoor

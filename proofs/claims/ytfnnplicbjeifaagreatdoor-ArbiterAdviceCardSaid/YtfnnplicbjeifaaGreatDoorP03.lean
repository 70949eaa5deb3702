/- part -/
import Derived.Test.YtfnnplicbjeifaaGreatDoorP02
set_option linter.all false
namespace Go.Proofs.YtfnnplicbjeifaaGreatDoor
section
mutual
theorem zZ:∀(a:AV),K7 a a=true
 | .b x=>by cases x<;>rfl
 | .i k n=>by
  show bc (yL k k) (gu n n) false=true;rw[dz,show yL k k=true from decide_eq_true rfl];simp[bc]
 | .s l=>by show sj l l=true;rw[jy];simp
 | .p x o=>by show bc (Nat.beq x x) (Nat.beq o o) false=true;rw[Nat.beq_refl,Nat.beq_refl];rfl
 | .sl x l o n none=>by show bc (Nat.beq x x) (bc (Nat.beq l l) (bc (Nat.beq o o) (Nat.beq n n) false) false) false=true;rw[Nat.beq_refl,Nat.beq_refl,Nat.beq_refl,Nat.beq_refl];rfl
 | .sl x l o n (some c)=>by show bc (Nat.beq x x) (bc (Nat.beq l l) (bc (Nat.beq o o) (bc (Nat.beq n n) (Nat.beq c c) false) false) false) false=true;rw[Nat.beq_refl,Nat.beq_refl,Nat.beq_refl,Nat.beq_refl,Nat.beq_refl];rfl
 | .m x=>Nat.beq_refl x
 | .f g l=>by show bc (Nat.beq g g) (wO l l) false=true;rw[Nat.beq_refl,rH l];rfl
 | .y x=>Nat.beq_refl x
 | .wI t v=>by show bc (Nat.beq t t) (K7 v v) false=true;rw[Nat.beq_refl,zZ v];rfl
 | .agg l=>rH l
 | .bJ l=>rH l
 | .es a c=>by show bc (decide (a=a)) (Nat.beq c c) false=true;rw[decide_eq_true rfl,Nat.beq_refl];rfl
 | .k c=>Nat.beq_refl c
theorem rH:∀(l:List AV),wO l l=true
 |[]=>rfl
 |a::l=>by show bc (K7 a a) (wO l l) false=true;rw[zZ a,rH l];rfl
end
def Ko(i:Nat):List Nat->List AV->Option (List AV)
 |[],_=>some []
 |k::ks,vs=>DY (nv vs (i - 1 - k)) (Ko i ks vs)
theorem z8{i:Nat}:∀{ks:List Nat}{vs l:List AV},Ko i ks vs=some l->(NR i ks).run vs=some l
 |[],vs,l,e=>e
 |k::ks,vs,l,e=>by
  rw[Ko]at e;cases h1:nv vs (i - 1 - k)with
  |none=>rw[h1]at e;cases e
  |some a=>
   cases h2:Ko i ks vs with
   |none=>rw[h1,h2]at e;cases e
   |some b=>
    rw[h1,h2]at e;cases e
    show bnd ((EL (i - 1 - k)).run vs) _=_;rw[jT,<-tF,h1];show bnd ((NR i ks).run vs) _=_;rw[z8 h2];rfl
def dL(w:Nat)(a k:Option AV):Option AV:=match a,k with
 |some (.sl b _ o m _),some (.i _ k)=>if 0<=k/\k<(m:Nat)then some (.p b (o+k.toNat*w))else none
 |_,_=>none
section
variable (P:Program) (Y:YT)
noncomputable def sJ (i:MI)(h:AH)(F:Fm)(l:List AV):Option AV:=match i with
 | .je w x ix=>dL w (ev x F l) (ev ix F l)
 |i=>pv P i h F l
theorem OW{i:MI}{f:FT}{h:AH}{n:Nat}{F:Fm}{l:List AV}{t:Tr AV}{v:AV}(e:sJ P i h F l=some v)(hF:Fk t F):i.run P Y f t l h n= .ok v h n:=by
 unfold sJ at e;split at e
 .unfold dL at e
  split at e
  .rename_i hx hk
   split at e
   .rename_i hr
    cases e
    obtain⟨k',rfl⟩:=Int.eq_ofNat_of_zero_le hr.1;simp only[MI.run,bf hF hx,bf hF hk];rename_i m _ _ _ _ _;show ok1 (bc (Nat.ble (Nat.succ k') _) _ none) h n=_;rw[Nat.ble_eq_true_of_le (by have:=hr.2;omega),bD];rfl
   .cases e
  .cases e
 .exact Vp P Y e hF
def XE(g:Option Bool)(v:Option AV):Option AV:=match g with
 |some true=>v
 |some false=>some (.bJ [])
 |none=>none
noncomputable def LC (i:Nat)(o:MQ)(h:AH)(F:Fm)(vs:List AV):Option AV:=match Ko i o.ks vs with
 |some l=>XE (gO o.g F l) (sJ P o.i h F l)
 |none=>none
noncomputable def msA (e:TypeId)(z:List AV)(x:Nat)(a c:Option AV):Option (AV×AO):=match a,c with
 |some (.i _ (.ofNat a)),some (.i _ (.ofNat c))=>if a<=c/\c<=1048576 then some (.sl x 0 0 a (some c),.row e (rep c z))else none
 |_,_=>none
noncomputable def SY (i:MI)(x:Nat)(F:Fm)(l:List AV):Option (AV×AO):=match i with
 | .al e z=>some (.p x 0,.row e z)
 | .box e w a=>(Lv w (ev a F l)).map λc=>(.p x 0,.row e c)
 | .Nn e len z fs=>(colE fs F l z).map λc=>(.sl x 0 0 len (some len),.row e c)
 | .Om=>some (.m x,.mp [] 0)
 | .Lr e z a c=>msA e z x (ev a F l) (ev c F l)
 |_=>none
structure DE where
 g:FuncId
 S:SK
 all:List MQ
 ck:List (Nat×Nat)
 wr:List (Nat×Tmp)
 s:List It
 Q:PQ
abbrev DK:=List MQ->Nat->Nat->Nat->FT->AH->Nat->List AV->List (Nat×AH)->Fm->Prop
def Ia(p:Nat):List (Nat×AH)->Option AH
 |[]=>none
 |x::l=>if x.1=p then some x.2 else Ia p l
def nq:List MQ->Nat->Option MQ
 |[],_=>none
 |a::_,0=>some a
 |_::l,k+1=>nq l k
noncomputable def S9 (N:Nat)(F:Fm)(vs:List AV)(o:Option MQ)(H:Option AH)(v:Option AV):Prop:=match o,H,v with
 |some o,some H,some v=>o.k=1/\LC P N o H F vs=some v
 |_,_,_=>False
noncomputable def S_ (all:List MQ)(F:Fm)(vs:List AV)(hs:List (Nat×AH)):List (Nat×Nat)->Prop
 |[]=>True
 |x::l=>S9 P all.length F vs (nq all x.1) (Ia x.2 hs) (nv vs (all.length - 1 - x.1))/\S_ all F vs hs l
def wr1(F:Fm)(k:Nat)(v:Option AV):Option Fm:=match v with
 |some v=>some (pt F k v)
 |none=>none
def LG(i:Nat):List (Nat×Tmp)->List AV->Option Fm->Option Fm
 |[],_,F=>F
 |x::l,vs,F=>match F with
  |some F=>LG i l vs (wr1 F x.2 (nv vs (i - 1 - x.1)))
  |none=>none
def dW(E:DE)(F:Option Fm)(f:FT)(h:AH)(n:Nat):Prop:=match F with
 |some F=>E.S E.s .bX f h n F E.Q
 |none=>False
def dV(D:DK)(v:Option AV)(l:List MQ)(j r n0:Nat)(f:FT)(h:AH)(n:Nat)(vs:List AV)(hs:List (Nat×AH))(F:Fm):Prop:=match v with
 |some v=>D l (j+1) r n0 f h n (v::vs) hs F
 |none=>False
noncomputable def dA (D:DK)(b:Option Bool)(v:Option (AV×AO))(l:List MQ)(j r n0:Nat)(f:FT)(h:AH)(n:Nat)(vs:List AV)(hs:List (Nat×AH))(F:Fm):Prop:=match b,v with
 |some true,some v=>D l (j+1) (r+1) n0 f (h.set (n0+r) v.2) n (v.1::vs) hs F
 |some false,_=>D l (j+1) (r+1) n0 f h n (.bJ []::vs) hs F
 |_,_=>False
noncomputable def dH (D:DK)(b:Nat)(a:Option AO)(l:List MQ)(j r n0:Nat)(f:FT)(h:AH)(n:Nat)(vs:List AV)(hs:List (Nat×AH))(F:Fm):Prop:=match a with
 |some a=>D l (j+1) r n0 f (h.set b a) n (.bJ []::vs) ((j+1,h.set b a)::hs) F
 |none=>False
noncomputable def dT (D:DK)(a:Option AV)(u:Option (List AV))(l:List MQ)(j r n0:Nat)(f:FT)(h:AH)(n:Nat)(vs:List AV)(hs:List (Nat×AH))(F:Fm):Prop:=match a with
 |some (.p b o)=>dH D b (fQ (h.get b) o u) l j r n0 f h n vs hs F
 |_=>False
def dF(D:DK)(g:Option AV)(c:Option (List AV))(l:List MQ)(j r n0:Nat)(f:FT)(h:AH)(n:Nat)(vs:List AV)(hs:List (Nat×AH))(F:Fm):Prop:=match g,c with
 |some (.f g cap),some c=>CW f g (c++cap) h n λv h n=>D l (j+1) r n0 f h n (v::vs) ((j+1,h)::hs) F
 |some (.y q),some c=>RW (Y q c f h n) λv h n=>D l (j+1) r n0 f h n (v::vs) ((j+1,h)::hs) F
 |_,_=>False
def dR(D:DK)(o:Option fH)(l:List MQ)(j r n0:Nat)(f:FT)(vs:List AV)(hs:List (Nat×AH))(F:Fm):Prop:=match o with
 |some (.ok v h n)=>D l (j+1) r n0 f h n (v::vs) ((j+1,h)::hs) F
 |_=>False
noncomputable def dX (D:DK)(i:MI)(u:List AV)(l:List MQ)(j r n0:Nat)(f:FT)(h:AH)(n:Nat)(vs:List AV)(hs:List (Nat×AH))(F:Fm):Prop:=match i with
 | .st w a x=>dT D (ev a F u) (Lv w (ev x F u)) l j r n0 f h n vs hs F
 | .call g cs=>dF Y D (ev g F u) (evs cs F u) l j r n0 f h n vs hs F
 | .app e w x y=>dR D (SA e w h n (ev x F u) (ev y F u)) l j r n0 f vs hs F
 | .Vi w x y=>dR D (Xt w h n (ev x F u) (ev y F u)) l j r n0 f vs hs F
 | .upd kt m k x=>dR D (Xu P kt h n (ev m F u) (ev k F u) (ev x F u)) l j r n0 f vs hs F
 |i=>∀t,Fk t F->RW (i.run P Y f t u h n) λv h n=>D l (j+1) r n0 f h n (v::vs) ((j+1,h)::hs) F
noncomputable def dG (D:DK)(b:Option Bool)(i:MI)(u:List AV)(l:List MQ)(j r n0:Nat)(f:FT)(h:AH)(n:Nat)(vs:List AV)(hs:List (Nat×AH))(F:Fm):Prop:=match b with
 |some true=>dX P Y D i u l j r n0 f h n vs hs F
 |some false=>D l (j+1) r n0 f h n (.bJ []::vs) ((j+1,h)::hs) F
 |none=>False
noncomputable def d3 (D:DK)(u:Option (List AV))(o:MQ)(l:List MQ)(j r n0:Nat)(f:FT)(h:AH)(n:Nat)(vs:List AV)(hs:List (Nat×AH))(F:Fm):Prop:=match u with
 |some u=>dG P Y D (gO o.g F u) o.i u l j r n0 f h n vs hs F
 |none=>False
noncomputable def d2 (D:DK)(u:Option (List AV))(o:MQ)(l:List MQ)(j r n0:Nat)(f:FT)(h:AH)(n:Nat)(vs:List AV)(hs:List (Nat×AH))(F:Fm):Prop:=match u with
 |some u=>dA D (gO o.g F u) (SY o.i (n0+r) F u) l j r n0 f h n vs hs F
 |none=>False
noncomputable def dK (E:DE):Nat->DK
 |0=>λ_ _ _ _ _ _ _ _ _ _=>False
 |k+1=>λl j r n0 f h n vs hs F=>match l with
  |[]=>S_ P E.all F vs hs E.ck/\dW E (LG E.all.length E.wr vs (some F)) f h n
  |o::l=>match o.k with
   |3=>d3 P Y (dK E k) (Ko j o.ks vs) o l j r n0 f h n vs hs F
   |2=>d2 (dK E k) (Ko j o.ks vs) o l j r n0 f h n vs hs F
   |1=>(match o.r with
    |true=>dV (dK E k) (LC P j o h F vs) l j r n0 f h n vs hs F
    |false=>(match hs with|[]=>False|x::_=>dV (dK E k) (LC P j o x.2 F vs) l j r n0 f h n vs hs F))
   |0=>dV (dK E k) (LC P j o .z F vs) l j r n0 f h n vs hs F
   |_=>False
section
variable {P Y} {f:FT} {F:Fm} {t:Tr AV}
theorem DZ{i j:Nat}{o:MQ}{h:AH}{n:Nat}{vs:List AV}{v:AV}(hF:Fk t F)(hk:o.k=0\/o.k=1)(e:LC P i o (if o.k=0 then .z else h) F vs=some v):mE P Y i o f t j h n vs= .ok v h n:=by
 unfold LC at e;split at e
 case h_2=>cases e
 rename_i l hl;unfold XE at e;unfold mE;rcases hk with hk|hk<;>rw[hk]<;>(try dsimp only)<;>rw[z8 hl]
 .rw[hk,if_pos rfl]at e
  split at e
  .rename_i hg
   show Gz (DI o.g t l) _ _=_;rw[tC hF hg];show RF (o.i.run P Y f t l .z 0) _=_;rw[OW P Y e hF];rfl
  .rename_i hg
   cases e
   show Gz (DI o.g t l) _ _=_;rw[tC hF hg];rfl
  .cases e
 .rw[hk,if_neg (by decide)]at e
  split at e
  .rename_i hg
   show Gz (DI o.g t l) _ _=_;rw[tC hF hg];show RF (o.i.run P Y f t l h 0) _=_;rw[OW P Y e hF];rfl
  .rename_i hg
   cases e
   show Gz (DI o.g t l) _ _=_;rw[tC hF hg];rfl
  .cases e
theorem XF{i:MI}{x:Nat}{l:List AV}{v:AV×AO}(hF:Fk t F)(e:SY i x F l=some v):i.run P Y f t l .z x= .ok v.1 ((Tr.z:AH).set x v.2) (x+1):=by
 unfold SY at e;split at e
 .cases e;rfl
 .obtain⟨c,h1,rfl⟩:=Option.map_eq_some_iff.1 e
  obtain⟨v,h2,h3,h4⟩:=Kl h1;simp only[MI.run,bf hF h2,aP,h3,eT,h4,Nat.beq_refl,bD];rfl
 .obtain⟨c,h1,rfl⟩:=Option.map_eq_some_iff.1 e
  simp only[MI.run,ze hF h1,aP];rfl
 .cases e;rfl
 .unfold msA at e
  split at e
  .rename_i h1 h2
   split at e
   .rename_i h3
    cases e
    simp only[MI.run,bf hF h1,bf hF h2];rw[Nat.ble_eq_true_of_le h3.1,bD,Nat.ble_eq_true_of_le h3.2,bD];rfl
   .cases e
  .cases e
 .cases e
theorem abk{D:DK}{i:MI}{u:List AV}{l:List MQ}{j r n0:Nat}{h:AH}{n:Nat}{vs:List AV}{hs:List (Nat×AH)}(hF:Fk t F)(e:dX P Y D i u l j r n0 f h n vs hs F):
 ∃v h' n',i.run P Y f t u h n= .ok v h' n'/\D l (j+1) r n0 f h' n' (v::vs) ((j+1,h')::hs) F:=by
 unfold dX at e;split at e
 .unfold dT at e
  split at e
  case h_2=>exact e.elim
  rename_i b o hb;unfold dH at e;split at e
  case h_2=>exact e.elim
  rename_i a ha;refine⟨_,_,_,?_,e⟩;unfold fQ at ha;split at ha
  case h_2=>cases ha
  rename_i q1 q2 ty lo u h5 h6;split at ha
  case h_2=>cases ha
  cases ha
  obtain⟨v,h1,h2,h3⟩:=Kl h6;simp only[MI.run,bf hF hb,bf hF h1,aP];unfold zH;dsimp only;rw[h5];dsimp only;rw[h2];show bc (Nat.beq (nP u) _) (aP (wJ u o lo) _) .bad=_;rw[eT,h3,Nat.beq_refl,bD,zY ‹_›];rfl
 .unfold dF at e
  split at e
  .rename_i h1 h2
   obtain⟨v,h',n',e1,e2⟩:=e;refine⟨v,h',n',?_,e2⟩;simp only[MI.run,bf hF h1,qh hF h2,aP,iZ,e1]
  .rename_i h1 h2
   obtain⟨v,h',n',e1,e2⟩:=e;refine⟨v,h',n',?_,e2⟩;simp only[MI.run,bf hF h1,qh hF h2,aP,e1]
  .exact e.elim
 .unfold dR SA at e
  split at e
  case h_2=>exact e.elim
  rename_i ho;split at ho
  case h_2=>cases ho
  rename_i h1 h2;refine⟨_,_,_,?_,e⟩;simp only[MI.run,bf hF h1,bf hF h2,aP];exact Option.some.inj ho
 .unfold dR Xt at e
  split at e
  case h_2=>exact e.elim
  rename_i ho;split at ho
  case h_2=>cases ho
  rename_i h1 h2;refine⟨_,_,_,?_,e⟩;simp only[MI.run,bf hF h1,bf hF h2,aP];exact Option.some.inj ho
 .unfold dR Xu at e
  split at e
  case h_2=>exact e.elim
  rename_i ho;split at ho
  case h_2=>cases ho
  rename_i h1 h2 h3;refine⟨_,_,_,?_,e⟩;simp only[MI.run,bf hF h1,bf hF h2,bf hF h3,aP];exact Option.some.inj ho
 .exact e t hF
theorem Kq{p:Nat}:∀{hs:List (Nat×AH)},ER p hs=Ia p hs
 |[]=>rfl
 |(q,h)::hs=>by rw[Dw,Ia,Kq]
theorem Vs:∀(l:List MQ)(k:Nat),nq l k=l[k]?
 |[],k=>by simp[nq]
 |a::l,0=>rfl
 |a::l,k+1=>by simp[nq,Vs l k]
theorem OX{all:List MQ}{vs:List AV}{hs:List (Nat×AH)}(hF:Fk t F):∀{ck:List (Nat×Nat)},S_ P all F vs hs ck->Xf P Y all ck f t vs hs=true
 |[],_=>rfl
 |x::l,e=>by
  obtain⟨e0,e⟩:=e;unfold S9 at e0;split at e0
  case h_2=>exact e0.elim
  rename_i o H v h1 h2 h3;obtain⟨h4,h5⟩:=e0;rw[Vs]at h1;rw[Xf,OX hF e,h1];dsimp only;rw[Kq,h2,jT,<-tF,h3];dsimp only;have:mE P Y all.length o f t 0 H 0 vs= .ok v H 0:=DZ hF (.inr h4) (by rw[if_neg (by rw[h4];decide)];exact h5);rw[this];dsimp only;rw[zZ];rfl
theorem OY{i:Nat}{vs:List AV}:∀{wr:List (Nat×Tmp)}{G:Fm},LG i wr vs none=some G->False
 |[],_,e=>by cases e
 |_::_,_,e=>by cases e
theorem OZ{i:Nat}{vs:List AV}:∀{wr:List (Nat×Tmp)}{F G:Fm}{t:Tr AV},LG i wr vs (some F)=some G->Fk t F->∃t',Lu i wr vs t=some t'/\Fk t' G
 |[],F,G,t,e,hF=>by cases e;exact⟨t,rfl,hF⟩
 |x::l,F,G,t,e,hF=>by
  rw[LG]at e;cases hv:nv vs (i - 1 - x.1)with
  |none=>rw[hv]at e;exact(OY (show LG i l vs none=some G from e)).elim
  |some v=>
   rw[hv]at e;obtain⟨t',h1,h2⟩:=OZ (show LG i l vs (some (pt F x.2 v))=some G from e) (hF.put x.2 v);refine⟨t',?_,h2⟩;show bnd ((EL (i - 1 - x.1)).run vs) _=_;rw[jT,<-tF,hv];exact h1
theorem z_{E:DE}:∀(k:Nat){l:List MQ}{j r n0:Nat}{h:AH}{n:Nat}{vs:List AV}{hs:List (Nat×AH)},Fk t F->dK P Y E k l j r n0 f h n vs hs F->
 ∃h1 n1 vs1 hs1,wY P Y l j r f t n0 h n vs hs= .ok h1 n1 vs1 hs1/\S_ P E.all F vs1 hs1 E.ck/\dW E (LG E.all.length E.wr vs1 (some F)) f h1 n1
 |0,l,j,r,n0,h,n,vs,hs,hF,e=>e.elim
 |k+1,[],j,r,n0,h,n,vs,hs,hF,e=>⟨_,_,_,_,rfl,e.1,e.2⟩
 |k+1,o::l,j,r,n0,h,n,vs,hs,hF,e=>by
  rw[wY.eq_def];dsimp only;rw[dK]at e;dsimp only at e;have val:∀{H:AH}{v:Option AV},(∀v,LC P j o H F vs=some v->∃H' n',mE P Y j o f t 0 H n vs= .ok v H' n')->dV (dK P Y E k) (LC P j o H F vs) l j r n0 f h n vs hs F->
   ∃v H' n',mE P Y j o f t 0 H n vs= .ok v H' n'/\∃h1 n1 vs1 hs1,wY P Y l (j+1) r f t n0 h n (v::vs) hs= .ok h1 n1 vs1 hs1/\S_ P E.all F vs1 hs1 E.ck/\dW E (LG E.all.length E.wr vs1 (some F)) f h1 n1:=by
   intro H _ q e;unfold dV at e;split at e
   .obtain⟨H',n',q⟩:=q _ ‹_›
    exact⟨_,_,_,q,z_ k hF e⟩
   .exact e.elim
  split at e
  .rename_i hk
   simp only[hk];unfold d3 at e;split at e
   case h_2=>exact e.elim
   rename_i u hu;unfold dG at e;have hd:∀x,mE P Y j o f t x h n vs=Gz (DI o.g t u) (o.i.run P Y f t u h n) (.ok (.bJ []) h n):=λx=>by
    unfold mE;rw[hk];try dsimp only
    rw[z8 hu];rfl
   split at e
   .rename_i hg
    obtain⟨v,h',n',e1,e2⟩:=abk hF e;rw[hd,tC hF hg,e1];exact z_ k hF e2
   .rename_i hg
    rw[hd,tC hF hg];exact z_ k hF e
   .exact e.elim
  .rename_i hk
   simp only[hk];unfold d2 at e;split at e
   case h_2=>exact e.elim
   rename_i u hu;unfold dA at e;split at e
   .rename_i v hg hv
    have:mE P Y j o f t (Nat.add n0 r) h n vs= .ok v.1 (h.set (n0+r) v.2) n:=by
     unfold mE;rw[hk];try dsimp only
     rw[z8 hu];show Gz (DI o.g t u) _ _=_;rw[tC hF hg];show RF (o.i.run P Y f t u .z (n0+r)) _=_;rw[XF hF hv];show bc (Nat.beq (n0+r+1) (Nat.succ (n0+r))) (aP (((Tr.z:AH).set (n0+r) v.2).get (n0+r)) _) .bad=_;rw[Nat.beq_refl,aF];rfl
    rw[this];exact z_ k hF e
   .rename_i hg
    have:mE P Y j o f t (Nat.add n0 r) h n vs= .ok (.bJ []) h n:=by
     unfold mE;rw[hk];try dsimp only
     rw[z8 hu];show Gz (DI o.g t u) _ _=_;rw[tC hF hg];rfl
    rw[this];exact z_ k hF e
   .exact e.elim
  .rename_i hk
   simp only[hk];split at e
   .rename_i hr
    simp only[hr];obtain⟨v,H',n',e1,e2⟩:=val (v:=none) (λv hv=>⟨_,_,DZ hF (.inr hk) (by rw[if_neg (by rw[hk];decide)];exact hv)⟩) e;rw[e1];exact e2
   .rename_i hr
    simp only[hr];split at e
    .exact e.elim
    .rename_i x hs'
     obtain⟨v,H',n',e1,e2⟩:=val (v:=none) (λv hv=>⟨_,_,DZ hF (.inr hk) (by rw[if_neg (by rw[hk];decide)];exact hv)⟩) e;dsimp only;rw[e1];exact e2
  .rename_i hk
   simp only[hk];have e1:∃v,LC P j o .z F vs=some v/\dK P Y E k l (j+1) r n0 f h n (v::vs) hs F:=by
    unfold dV at e;split at e
    .exact⟨_,‹_›,e⟩
    .exact e.elim
   obtain⟨v,hv,e2⟩:=e1;have:mE P Y j o f t 0 h n vs= .ok v h n:=DZ hF (.inl hk) (by rw[if_pos hk];exact hv);rw[this];exact z_ k hF e2
  .exact e.elim
theorem aj{g:FuncId}{K:Nat}{l:List MQ}{ck:List (Nat×Nat)}{wr:List (Nat×Tmp)}{s:List It}{h:AH}{n:Nat}{Q:PQ}(e:dK P Y ⟨g,sK P Y g 100000,l,ck,wr,s,Q⟩ 100000 l 0 0 n f h (n+K) [] [(0,h)] F):
 SM P Y g (.c (.zW K l ck wr)::s) .bX f h n F Q:=by
 intro t hF;obtain⟨h1,n1,vs,hs,e1,e2,e3⟩:=z_ 100000 hF e;unfold dW at e3;split at e3
 case h_2=>exact e3.elim
 rename_i G hG;obtain⟨t',w1,w2⟩:=OZ hG hF;obtain⟨x,h2,n2,t2,F2,g1,g2⟩:=qj _ _ _ _ _ _ _ _ e3 t' w2;refine⟨x,h2,n2,t2,F2,?_,g2⟩;rw[<-g1];show jh (HV P Y K l ck wr f h n t) _=_;unfold HV;rw[show wY P Y l 0 0 f t n h (Nat.add n K) [] [(0,h)]= .ok h1 n1 vs hs from e1];dsimp only;rw[OX hF e2,bD,w1];rfl
end
end
end
section
section
variable {P:Program} {Y:YT} {E:DE} {D:DK} {k j r n0:Nat} {b:Bool} {ks:List Nat} {g:Option (MO×Bool)} {i:MI} {l:List MQ} {f:FT} {h:AH} {n:Nat} {vs u:List AV} {hs:List (Nat×AH)} {F:Fm}
@[go_sem ↓] theorem ahw {q:FuncId} {S:SK} {all:List MQ} {ck:List (Nat×Nat)} {wr:List (Nat×Tmp)} {s:List It} {Q:PQ}:dK P Y ⟨q,S,all,ck,wr,s,Q⟩ (k+1) [] j r n0 f h n vs hs F=(S_ P all F vs hs ck/\dW ⟨q,S,all,ck,wr,s,Q⟩ (LG all.length wr vs (some F)) f h n):=bG rfl
@[go_sem ↓] theorem apG:dK P Y E (k+1) (⟨3,b,ks,g,i⟩::l) j r n0 f h n vs hs F=d3 P Y (dK P Y E k) (Ko j ks vs) ⟨3,b,ks,g,i⟩ l j r n0 f h n vs hs F:=bG rfl
@[go_sem ↓] theorem apH:dK P Y E (k+1) (⟨2,b,ks,g,i⟩::l) j r n0 f h n vs hs F=d2 (dK P Y E k) (Ko j ks vs) ⟨2,b,ks,g,i⟩ l j r n0 f h n vs hs F:=bG rfl
@[go_sem ↓] theorem apI:dK P Y E (k+1) (⟨1,true,ks,g,i⟩::l) j r n0 f h n vs hs F=dV (dK P Y E k) (LC P j ⟨1,true,ks,g,i⟩ h F vs) l j r n0 f h n vs hs F:=bG rfl
@[go_sem ↓] theorem amx {x:Nat×AH}:dK P Y E (k+1) (⟨1,false,ks,g,i⟩::l) j r n0 f h n vs (x::hs) F=dV (dK P Y E k) (LC P j ⟨1,false,ks,g,i⟩ x.2 F vs) l j r n0 f h n vs (x::hs) F:=bG rfl
@[go_sem ↓] theorem apJ:dK P Y E (k+1) (⟨0,b,ks,g,i⟩::l) j r n0 f h n vs hs F=dV (dK P Y E k) (LC P j ⟨0,b,ks,g,i⟩ .z F vs) l j r n0 f h n vs hs F:=bG rfl
@[go_sem] theorem apL {o:MQ}:d3 P Y D (some u) o l j r n0 f h n vs hs F=dG P Y D (gO o.g F u) o.i u l j r n0 f h n vs hs F:=bG rfl
@[go_sem] theorem apM {o:MQ}:d2 D (some u) o l j r n0 f h n vs hs F=dA D (gO o.g F u) (SY o.i (n0+r) F u) l j r n0 f h n vs hs F:=bG rfl
def Vt(w:Bool)(a:Option AV):Option Bool:=match a with|some (.b x)=>some (w==x)|some (.bJ _)=>some false|_=>none
@[go_sem] theorem amy {w:Bool} {c:List AV}:Vt w (some (.bJ c))=some false:=rfl
@[go_sem] theorem ahx:Vt true (some (.b true))=some true:=rfl
@[go_sem] theorem ahy:Vt true (some (.b false))=some false:=rfl
@[go_sem] theorem ahz:Vt false (some (.b true))=some false:=rfl
@[go_sem] theorem ahA:Vt false (some (.b false))=some true:=rfl
@[go_sem] theorem apN:gO none F u=some true:=rfl
@[go_sem] theorem apP {x:MO} {w:Bool}:gO (some (x,w)) F u=Vt w (ev x F u):=rfl
@[go_sem] theorem apQ:dG P Y D (some true) i u l j r n0 f h n vs hs F=dX P Y D i u l j r n0 f h n vs hs F:=bG rfl
@[go_sem] theorem apR:dG P Y D (some false) i u l j r n0 f h n vs hs F=D l (j+1) r n0 f h n (.bJ []::vs) ((j+1,h)::hs) F:=bG rfl
@[go_sem ↓] theorem amA {w:Nat} {a x:MO}:dX P Y D (.st w a x) u l j r n0 f h n vs hs F=dT D (ev a F u) (Lv w (ev x F u)) l j r n0 f h n vs hs F:=bG rfl
@[go_sem ↓] theorem ahB {e w:Nat} {x y:MO}:dX P Y D (.app e w x y) u l j r n0 f h n vs hs F=dR D (SA e w h n (ev x F u) (ev y F u)) l j r n0 f vs hs F:=bG rfl
@[go_sem ↓] theorem ahC {w:Nat} {x y:MO}:dX P Y D (.Vi w x y) u l j r n0 f h n vs hs F=dR D (Xt w h n (ev x F u) (ev y F u)) l j r n0 f vs hs F:=bG rfl
@[go_sem ↓] theorem ahD {kt:TypeId} {m k x:MO}:dX P Y D (.upd kt m k x) u l j r n0 f h n vs hs F=dR D (Xu P kt h n (ev m F u) (ev k F u) (ev x F u)) l j r n0 f vs hs F:=bG rfl
@[go_sem] theorem ahE {v:AV}:dR D (some (.ok v h n)) l j r n0 f vs hs F=D l (j+1) r n0 f h n (v::vs) ((j+1,h)::hs) F:=bG rfl
@[go_sem ↓] theorem afv {q:MO} {cs:List MO}:dX P Y D (.call q cs) u l j r n0 f h n vs hs F=dF Y D (ev q F u) (evs cs F u) l j r n0 f h n vs hs F:=bG rfl
@[go_sem] theorem apS {x o:Nat} {c:Option (List AV)}:dT D (some (.p x o)) c l j r n0 f h n vs hs F=dH D x (fQ (h.get x) o c) l j r n0 f h n vs hs F:=bG rfl
@[go_sem] theorem apT {x:Nat} {a:AO}:dH D x (some a) l j r n0 f h n vs hs F=D l (j+1) r n0 f (h.set x a) n (.bJ []::vs) ((j+1,h.set x a)::hs) F:=bG rfl
theorem w_{q:FuncId}{cap c:List AV}:dF Y D (some (.f q cap)) (some c) l j r n0 f h n vs hs F=CW f q (c++cap) h n λv h n=>D l (j+1) r n0 f h n (v::vs) ((j+1,h)::hs) F:=rfl
@[go_sem] theorem apU {v:AV}:dV D (some v) l j r n0 f h n vs hs F=D l (j+1) r n0 f h n (v::vs) hs F:=bG rfl
@[go_sem] theorem apV {v:AV} {o:AO}:dA D (some true) (some (v,o)) l j r n0 f h n vs hs F=D l (j+1) (r+1) n0 f (h.set (n0+r) o) n (v::vs) hs F:=bG rfl
@[go_sem] theorem apW {v:Option (AV×AO)}:dA D (some false) v l j r n0 f h n vs hs F=D l (j+1) (r+1) n0 f h n (.bJ []::vs) hs F:=by cases v<;>rfl
@[go_sem] theorem ahF {e:TypeId} {z:List AV} {x:Nat}:SY (.al e z) x F u=some (.p x 0,.row e z):=rfl
@[go_sem] theorem afw {e w:Nat} {a:MO} {x:Nat}:SY (.box e w a) x F u=(Lv w (ev a F u)).map λc=>(.p x 0,.row e c):=rfl
@[go_sem] theorem afx {e len:Nat} {z:List AV} {fs:List (Nat×Nat×MO)} {x:Nat}:SY (.Nn e len z fs) x F u=(colE fs F u z).map λc=>(.sl x 0 0 len (some len),.row e c):=rfl
@[go_sem] theorem afy {x:Nat}:SY .Om x F u=some (.m x,.mp [] 0):=rfl
noncomputable def dvL (P:Program)(u:Option (List AV))(g:Option (MO×Bool))(i:MI)(h:AH)(F:Fm):Option AV:=match u with
 |some l=>XE (gO g F l) (sJ P i h F l)
 |none=>none
@[go_sem] theorem amB {N k:Nat}:LC P N ⟨k,b,ks,g,i⟩ h F vs=dvL P (Ko N ks vs) g i h F:=rfl
@[go_sem] theorem amC:dvL P (some u) g i h F=XE (gO g F u) (sJ P i h F u):=rfl
@[go_sem] theorem amD {v:Option AV}:XE (some true) v=v:=rfl
@[go_sem] theorem amE {v:Option AV}:XE (some false) v=some (.bJ []):=rfl
@[go_sem] theorem amF {N:Nat}:Ko N [] vs=some []:=rfl
@[go_sem] theorem amG {N k:Nat}:Ko N (k::ks) vs=DY (nv vs (N - 1 - k)) (Ko N ks vs):=rfl
@[go_sem] theorem amH {all:List MQ}:S_ P all F vs hs []=True:=bG rfl
@[go_sem] theorem amI {all:List MQ} {a p:Nat} {c:List (Nat×Nat)}:S_ P all F vs hs ((a,p)::c)=(S9 P all.length F vs (nq all a) (Ia p hs) (nv vs (all.length - 1 - a))/\S_ P all F vs hs c):=bG rfl
@[go_sem] theorem ahH {N:Nat} {H:AH} {v:AV}:S9 P N F vs (some ⟨1,b,ks,g,i⟩) (some H) (some v)=(dvL P (Ko N ks vs) g i H F=some v):=by
 show(1=1/\_)=_;simp only[true_and];rfl
@[go_sem] theorem apX {a:MQ} {l:List MQ}:nq (a::l) 0=some a:=rfl
@[go_sem] theorem apY {a:MQ} {l:List MQ} {k:Nat}:nq (a::l) (k+1)=nq l k:=rfl
@[go_sem] theorem ahI {p q:Nat} {H:AH}:Ia p ((q,H)::hs)=if q=p then some H else Ia p hs:=rfl
@[go_sem] theorem amJ {N:Nat} {o:Option Fm}:LG N [] vs o=o:=by cases o<;>rfl
@[go_sem] theorem amK {N a:Nat} {d:Tmp} {c:List (Nat×Tmp)}:LG N ((a,d)::c) vs (some F)=LG N c vs (wr1 F d (nv vs (N - 1 - a))):=rfl
@[go_sem] theorem amL {d:Nat} {v:AV}:wr1 F d (some v)=some (pt F d v):=rfl
@[go_sem] theorem apZ {q:FuncId} {S:SK} {all:List MQ} {ck:List (Nat×Nat)} {wr:List (Nat×Tmp)} {s:List It} {Q:PQ} {G:Fm}:dW ⟨q,S,all,ck,wr,s,Q⟩ (some G) f h n=S s .bX f h n G Q:=bG rfl
@[go_sem] theorem ahJ {x:MO}:sJ P (.mv x) h F u=ev x F u:=rfl
@[go_sem] theorem abl {c a b:MO}:sJ P (.pick c a b) h F u=xZ (ev c F u) (ev a F u) (ev b F u):=rfl
@[go_sem] theorem afz {z:List AV} {fs:List (Nat×Nat×MO)}:sJ P (.Ki z fs) h F u=(colE fs F u z).map .agg:=rfl
@[go_sem] theorem ahK {w:Option Nat} {a:MO}:sJ P (.ld w a) h F u=Vn h (ev a F u) w:=rfl
@[go_sem] theorem afA {op:BinOp} {ty:TypeId} {x y:MO}:sJ P (.bin op ty x y) h F u=b2O P op ty (ev x F u) (ev y F u):=rfl
@[go_sem] theorem afB {x:MO}:sJ P (.not x) h F u=Oz (ev x F u):=rfl
@[go_sem] theorem ahL {o:Nat} {x:MO}:sJ P (.fa o x) h F u=faO o (ev x F u):=rfl
@[go_sem] theorem afC {w:Option Nat} {o:Nat} {x:MO}:sJ P (.Vh w o x) h F u=OA w o (ev x F u):=rfl
@[go_sem] theorem afD {ty:TypeId} {x:MO}:sJ P (.Ve ty x) h F u=(ev x F u).map (.wI ty):=rfl
@[go_sem] theorem afE {q:FuncId} {cs:List MO}:sJ P (.Hw q cs) h F u=(evs cs F u).map (.f q):=rfl
@[go_sem] theorem afF {x:MO} {k:Nat}:sJ P (.ext x k) h F u=OC k (ev x F u):=rfl
@[go_sem] theorem abm {x:MO}:sJ P (.Fh x) h F u=lnS (ev x F u):=rfl
@[go_sem] theorem abo {x:MO}:sJ P (.ig x) h F u=GA (ev x F u):=rfl
@[go_sem] theorem afG {x:MO}:sJ P (.neg x) h F u=ngO (ev x F u):=rfl
@[go_sem] theorem afH {x:MO} {k:IntKind}:sJ P (.Ol k x) h F u=cvO k (ev x F u):=rfl
@[go_sem] theorem afI {x:MO}:sJ P (.Vd x) h F u=csO (ev x F u):=rfl
@[go_sem] theorem afJ {x:MO}:sJ P (.Vb x) h F u=HY (ev x F u):=rfl
@[go_sem] theorem afK {w:Nat} {x:MO} {lo hi:Option MO}:sJ P (.Vf w x lo hi) h F u=Vo w (ev x F u) (Bt lo F u) (Bt hi F u):=rfl
@[go_sem] theorem abp {kt:TypeId} {z:Option AV} {x k:MO} {ok:Bool}:sJ P (.look kt z x k ok) h F u=Xj P kt z ok h (ev x F u) (ev k F u):=rfl
@[go_sem] theorem afL {w m:Nat} {x k:MO}:sJ P (.Sq w m x k) h F u=OG w m (ev x F u) (ev k F u):=rfl
@[go_sem] theorem afM {x k:MO}:sJ P (.Br x k) h F u=OH (ev x F u) (ev k F u):=rfl
@[go_sem] theorem afN {w m:Nat} {x:MO} {lo hi:Option MO}:sJ P (.Vg w m x lo hi) h F u=Lx w m (ev x F u) (Bt lo F u) (Bt hi F u):=rfl
@[go_sem] theorem afO {x:MO} {lo hi:Option MO}:sJ P (.RG x lo hi) h F u=ssO (ev x F u) (Bt lo F u) (Bt hi F u):=rfl
@[go_sem] theorem abq {x:MO}:sJ P (.Fj x) h F u=lmO h (ev x F u):=rfl
@[go_sem] theorem afP {x:MO}:sJ P (.Np x) h F u=Xm h (ev x F u):=rfl
@[go_sem] theorem ahM {x y:MO}:sJ P (.mx x y) h F u=mxO (ev x F u) (ev y F u):=rfl
@[go_sem] theorem ahN {x y:MO}:sJ P (.mn x y) h F u=mnO (ev x F u) (ev y F u):=rfl
@[go_sem] theorem afQ {w:Nat} {x k:MO}:sJ P (.je w x k) h F u=dL w (ev x F u) (ev k F u):=rfl
end
section
variable {F:Fm} {l c:List AV}
def XG(r:List (Nat×Nat×MO))(F:Fm)(l:List AV)(c:Option (List AV)):Option (List AV):=match c with
 |some c=>colE r F l c
 |none=>none
def spS(u:Option (List AV))(o:Nat)(c:List AV):Option (List AV):=match u with
 |some u=>pI u o c
 |none=>none
@[go_sem] theorem ahP:colE [] F l c=some c:=rfl
@[go_sem] theorem ahQ {o w:Nat} {x:MO} {r:List (Nat×Nat×MO)}:colE ((o,w,x)::r) F l c=XG r F l (spS (Lv w (ev x F l)) o c):=by
 rw[colE];unfold XG spS Lv;cases ev x F l with
 |none=>rfl
 |some v=>
  dsimp only;cases pO v with
  |none=>rfl
  |some u=>
   dsimp only;by_cases h:u.length=w
   .rw[if_pos h,if_pos h];dsimp only;cases pI u o c<;>rfl
   .rw[if_neg h,if_neg h]
@[go_sem] theorem ahR {r:List (Nat×Nat×MO)}:XG r F l (some c)=colE r F l c:=rfl
@[go_sem] theorem amM {u:List AV} {o:Nat}:spS (some u) o c=pI u o c:=rfl
end
@[reducible] def zf (ty i L c B B1:Nat) (body:MC):MC:=.loop (.seq (.reg [⟨none,.bin .lss ty (.s i) (.s L),.k c⟩]) (.seq (.cond (.s c) .skip (.exit B)) (.seq (.blk B1 body) (.reg [⟨none,.bin .add ty (.s i) (.c (.i .i64 1)),.l⟩,⟨none,.mv (.v 0),.k i⟩]))))
section
variable {P:Program} {Y:YT} {g:FuncId} {f:FT}
def Vu(P:Program)(Y:YT)(g:FuncId)(I:Nat->AH->Nat->Fm->Prop)(k i L N B1:Nat)(s:List It)(f:FT)(Q:PQ):PQ:=λx h n F=>match x with
 | .bX=>lk F i=some (.i .i64 (k:Nat))/\lk F L=some (.i .i64 (N:Nat))/\∃G,I (k+1) h n G/\∀m v,lk G m=some v->lk F m=some v
 | .exit j=>if j=B1 then lk F i=some (.i .i64 (k:Nat))/\lk F L=some (.i .i64 (N:Nat))/\∃G,I (k+1) h n G/\∀m v,lk G m=some v->lk F m=some v else sK P Y g 100000 s (.exit j) f h n F Q
 |x=>sK P Y g 100000 s x f h n F Q
theorem bP{ty i L c B B1:Nat}{body:MC}{s:List It}{Q:PQ}{h:AH}{n:Nat}{F:Fm}(N:Nat)(I:Nat->AH->Nat->Fm->Prop)(hN:N<=1125899906842623)(hic:i≠c)(hLc:L≠c)(hiL:i≠L)
 (hfr:∀k h n G,I k h n G->lk G c=none/\lk G i=none)
 (h0:lk F i=some (.i .i64 0)/\lk F L=some (.i .i64 (N:Nat))/\∃G,I 0 h n G/\∀m v,lk G m=some v->lk F m=some v)
 (step:∀k h n G,k<N->I k h n G->sK P Y g 100000 [.c body] .bX f h n (pt (pt G L (.i .i64 (N:Nat))) i (.i .i64 (k:Nat))) (Vu P Y g I k i L N B1 s f Q))
 (fin:∀h n G,I N h n G->sK P Y g 100000 s (.exit B) f h n G Q):SM P Y g (.c (zf ty i L c B B1 body)::s) .bX f h n F Q:=by
 refine Fq (λm h n F=>∃k,k<=N/\m=N - k/\lk F i=some (.i .i64 (k:Nat))/\lk F L=some (.i .i64 (N:Nat))/\∃G,I k h n G/\∀m v,lk G m=some v->lk F m=some v) N hN ⟨F,⟨0,Nat.zero_le _,rfl,h0⟩,λ_ _ e=>e⟩ ?_;rintro m h n F ⟨k,hk,rfl,e1,e2,G,hI,hG⟩ t hF;obtain⟨f1,f2⟩:=hfr k h n G hI;have t1:=hF i _ e1;have t2:=hF L _ e2;have r1:(MC.reg [⟨none,.bin .lss ty (.s i) (.s L),.k c⟩]).run P Y g f h n t= .ok .bX h n ((pp 20 c).run (.b (decide ((k:Int)<(N:Int)))) t):=by
  show qg P Y _ f h n t []=_;rw[qg];show nR (aP ((gp 20 i).run t) λx=>aP ((gp 20 L).run t) λy=>ok1 ((eB P ty .lss).run x y) h n) _=_;rw[mh,t1];show nR (aP ((gp 20 L).run t) λy=>ok1 ((eB P ty .lss).run _ y) h n) _=_;rw[mh,t2];show nR (ok1 ((eB P ty .lss).run (.i .i64 k) (.i .i64 N)) h n) _=_;rw[SV];rfl
 have gc:∀t0:Tr AV,gU (.s c) ((pp 20 c).run (.b (decide ((k:Int)<(N:Int)))) t0) []=some (.b (decide ((k:Int)<(N:Int)))):=λt0=>by
  show(gp 20 c).run _=_;rw[mh,jJ,if_pos rfl]
 have hG1:Fk ((pp 20 c).run (.b (decide ((k:Int)<(N:Int)))) t) G:=λm v e=>by
  rw[jJ,if_neg (λe0=>by rw[e0,f1]at e;cases e)];exact hF m v (hG m v e)
 have out:∀r:fJ,(MC.seq (.reg [⟨none,.bin .lss ty (.s i) (.s L),.k c⟩]) (.seq (.cond (.s c) .skip (.exit B)) (.seq (.blk B1 body) (.reg [⟨none,.bin .add ty (.s i) (.c (.i .i64 1)),.l⟩,⟨none,.mv (.v 0),.k i⟩])))).run P Y g f h n t=r->
  jh ((MC.seq (.reg [⟨none,.bin .lss ty (.s i) (.s L),.k c⟩]) (.seq (.cond (.s c) .skip (.exit B)) (.seq (.blk B1 body) (.reg [⟨none,.bin .add ty (.s i) (.c (.i .i64 1)),.l⟩,⟨none,.mv (.v 0),.k i⟩])))).run P Y g f h n t) (λx h n t=>oq P Y g [] x f h n t)=r:=λr e=>by
  rw[e];cases r<;>rfl
 by_cases hlt:k<N
 .have hd:decide ((k:Int)<(N:Int))=true:=decide_eq_true (by omega)
  have hF2:Fk ((pp 20 c).run (.b (decide ((k:Int)<(N:Int)))) t) (pt (pt G L (.i .i64 (N:Nat))) i (.i .i64 (k:Nat))):=λm v e=>by
   rw[fM,fM]at e;split at e
   .cases e;subst_vars;rw[jJ,if_neg hic];exact t1
   .split at e
    .cases e;subst_vars;rw[jJ,if_neg hLc];exact t2
    .exact hG1 m v e
  obtain⟨x,h1,n1,t3,F3,b1,b2,b3⟩:=qj _ _ _ _ _ _ _ _ (step k h n G hlt hI) _ hF2;obtain⟨x0,h0',n0',t0',b0,b1⟩:=jK (show jh (body.run P Y g f h n _) (λx h n t=>oq P Y g [] x f h n t)= .ok x h1 n1 t3 from b1);cases b1
  have head:∀r:fJ,jh (jh (body.run P Y g f h n ((pp 20 c).run (.b (decide ((k:Int)<(N:Int)))) t)) λx h n t=>match x with
   | .exit j=>bc (Nat.beq j B1) (.ok .bX h n t) (.ok (.exit j) h n t)
   |x=>.ok x h n t) (λx h n t=>EK x ((MC.reg [⟨none,.bin .add ty (.s i) (.c (.i .i64 1)),.l⟩,⟨none,.mv (.v 0),.k i⟩]).run P Y g f h n t) (.ok x h n t))=r->
   (MC.seq (.reg [⟨none,.bin .lss ty (.s i) (.s L),.k c⟩]) (.seq (.cond (.s c) .skip (.exit B)) (.seq (.blk B1 body) (.reg [⟨none,.bin .add ty (.s i) (.c (.i .i64 1)),.l⟩,⟨none,.mv (.v 0),.k i⟩])))).run P Y g f h n t=r:=λr e=>by
   rw[<-e];show jh ((MC.reg _).run P Y g f h n t) _=_;rw[r1];show jh (match gU (.s c) _ []with|some (.b x)=>bc x (fJ.ok .bX h n _) (.ok (.exit B) h n _)|_=>.bad) _=_;rw[gc,hd];rfl
  rw[b0]at head
  -- the next round
  have next:(lk F3 i=some (.i .i64 (k:Nat))/\lk F3 L=some (.i .i64 (N:Nat))/\∃G,I (k+1) h1 n1 G/\∀m v,lk G m=some v->lk F3 m=some v)->
   (MC.reg [⟨none,.bin .add ty (.s i) (.c (.i .i64 1)),.l⟩,⟨none,.mv (.v 0),.k i⟩]).run P Y g f h1 n1 t3= .ok .bX h1 n1 ((pp 20 i).run (.i .i64 ((k+1:Nat):Int)) t3)/\Fk ((pp 20 i).run (.i .i64 ((k+1:Nat):Int)) t3) (pt F3 i (.i .i64 ((k+1:Nat):Int)))/\
    ZU P Y g (λm h n F=>∃k,k<=N/\m=N - k/\lk F i=some (.i .i64 (k:Nat))/\lk F L=some (.i .i64 (N:Nat))/\∃G,I k h n G/\∀m v,lk G m=some v->lk F m=some v) (N - k) s f Q .bX h1 n1 (pt F3 i (.i .i64 ((k+1:Nat):Int))):=by
   rintro⟨c1,c2,G',c3,c4⟩;refine⟨?_,b2.put _ _,⟨N - (k+1),_,by omega,⟨k+1,by omega,rfl,by rw[fM,if_pos rfl],by rw[fM,if_neg (λe=>hiL e.symm)];exact c2,G',c3,λm v e=>?_⟩,λ_ _ e=>e⟩⟩
   .show qg P Y _ f h1 n1 t3 []=_
    rw[qg];show nR (aP ((gp 20 i).run t3) λx=>aP (some (AV.i .i64 1)) λy=>ok1 ((eB P ty .add).run x y) h1 n1) _=_;rw[mh,b2 i _ c1];show nR (ok1 ((eB P ty .add).run (.i .i64 k) (.i .i64 1)) h1 n1) _=_;rw[SX,dI (by omega) (by omega)];rfl
   .rw[fM,if_neg (λe0=>by rw[e0,(hfr _ _ _ _ c3).2]at e;cases e)]
    exact c4 m v e
  cases x with
  |bX=>
   obtain⟨n1',n2,n3⟩:=next b3;refine⟨_,_,_,_,_,out _ (head _ ?_),n2,n3⟩;exact n1'
  |exit j=>
   by_cases hj:j=B1
   .obtain⟨n1',n2,n3⟩:=next (by have b3:(if j=B1 then _ else _):=b3;rw[if_pos hj]at b3;exact b3)
    refine⟨_,_,_,_,_,out _ (head _ ?_),n2,n3⟩;show jh (bc (Nat.beq j B1) (fJ.ok .bX h1 n1 t3) (.ok (.exit j) h1 n1 t3)) _=_;rw[hj,Nat.beq_refl];exact n1'
   .refine⟨.exit j,h1,n1,_,F3,out _ (head _ ?_),b2,?_⟩
    .show jh (bc (Nat.beq j B1) (fJ.ok .bX h1 n1 t3) (.ok (.exit j) h1 n1 t3)) _=_
     have:Nat.beq j B1=false:=by
      cases e:Nat.beq j B1 with
      |false=>rfl
      |true=>exact absurd (beq_eq e) hj
     rw[this];rfl
    .have b3:(if j=B1 then _ else sK P Y g 100000 s (.exit j) f h1 n1 F3 Q):=b3
     rw[if_neg hj]at b3;exact b3
  |goto j=>exact⟨.goto j,h1,n1,_,F3,out _ (head _ rfl),b2,b3⟩
  |ret=>exact⟨.ret,h1,n1,_,F3,out _ (head _ rfl),b2,b3⟩
 .obtain rfl:k=N:=by omega
  have hd:decide ((k:Int)<(k:Int))=false:=by simp
  refine⟨.exit B,h,n,_,G,out _ ?_,hG1,fin h n G hI⟩;show jh ((MC.reg _).run P Y g f h n t) _=_;rw[r1];show jh (match gU (.s c) _ []with|some (.b x)=>bc x (fJ.ok .bX h n _) (.ok (.exit B) h n _)|_=>.bad) _=_;rw[gc,hd];rfl
@[reducible] def nl (i:MI):MR:=⟨none,i,.l⟩
@[reducible] def nk (k:Nat) (i:MI):MR:=⟨none,i,.k k⟩
@[reducible] def ng (k:Nat) (b:Bool) (i:MI):MR:=⟨some (.v k,b),i,.l⟩
@[reducible] def mq (k:Nat) (ks:List Nat) (i:MI):MQ:=⟨k,true,ks,none,i⟩
end
end
section
structure bA where
 num:Int
 den:Int
structure dM where
 kind:Int
 role:Int
 give:Int
 tgt:Int
 unit:Int
 lot:bA
structure bU where
 clause:Int
 is:Int
structure aG where
 kind:Int
 role:Int
 act:Int
 need:Int
 start:List bU
 after:Int
 gK:Int
 iA:Bool
 final:Bool
 pause:Int
 resume:Int
 value:bA
 unit:Int
 tgt:Int
 ji:Bool
structure dP where
 name:ByteArray
 kind:Int
 base:Int
 factor:bA
structure ay where
 aD:Int
 ah:List Int
 units:List dP
 acts:List dM
 clauses:List aG
 days:Int
 off:List Int
structure aA where
 status:Int
 left:Int
 got:Int
 aT:Int
 paused:Bool
structure aI where
 day:Int
 ah:List Int
 used:List Bool
 marks:List aA
def bA.ok(r:bA):Bool:=decide (1<=r.den)&&decide (r.den<=1000000)&&decide (-1000000000000<=r.num)&&decide (r.num<=1000000000000)&&decide (Nat.gcd r.num.natAbs r.den.natAbs=1)
def ay.role(C:ay)(r:Int):Bool:=decide (0<=r)&&decide (r<C.ah.length)
def bA.zero(r:bA):Bool:=(r.num==0)&&(r.den==1)
def bA.plus(r:bA):Bool:=decide (0<r.num)&&r.ok
def ay.Fx(C:ay)(i:Int):Option dM:=if 0<=i then C.acts[i.toNat]? else none
def ay.natural(C:ay)(i:Int):Bool:=
 match C.Fx i with
 |none=>false
 |some a=>(a.kind==1)&&(a.role== -1)
def qo(C:ay)(ki ro gi tg un ln ld:Int):Bool:=(cond (!(C.role ro)) ((ki==1)&&((ro== -1)&&((gi==0)&&(((tg== -1)||(C.role tg))&&((un== -1)&&(bA.zero ⟨ln,ld⟩)))))) (cond (ki==1) (cond ((!(gi==0))||((!(tg== -1))&&(!(C.role tg)))) false (cond (un== -1) (bA.zero ⟨ln,ld⟩) (decide (0<=un)&&(decide (un<(C.units.length:Int))&&(bA.plus ⟨ln,ld⟩))))) (cond ((ki==2)||(ki==3)) ((C.role gi)&&(decide (0<=tg)&&(decide (tg<C.aD)&&((un== -1)&&(bA.zero ⟨ln,ld⟩))))) false)))
def jU(C:ay)(ki ro ac ne gr:Int)(fi:Bool):Bool:=(cond (ki==4) ((ro== -1)&&((ne==1)&&((gr==0)&&(!fi)))) (cond ((!(C.role ro))||(C.natural ac)) false (cond (ki==1) (decide (1<=ne)&&(decide (ne<=9)&&(decide (0<=gr)&&decide (gr<=400)))) (cond (ki==2) ((ne==1)&&(gr==0)) (cond (ki==3) ((ne==1)&&((gr==0)&&(!fi))) false)))))
def vG(C:ay)(i:Nat)(cl is:Int):Bool:=((!decide (cl<0))&&((!decide ((C.clauses.length:Int)<=cl))&&((!(cl==(i:Int)))&&((!decide (is<1))&&(!decide (4<is))))))
def rJ(C:ay)(i:Nat)(l:List bU):Bool:=l.all (λk=>vG C i k.clause k.is)
def tH(C:ay)(ki ro ac ne gr af:Int)(fi:Bool)(sl:Nat):Bool:=((!decide (ac<0))&&((!decide ((C.acts.length:Int)<=ac))&&((!decide (af<1))&&((!decide (400<af))&&((jU C ki ro ac ne gr fi)&&(!decide (8<(sl:Int))))))))
def lS(C:ay)(pa re:Int):Bool:=(cond ((!(pa== -1))||(!(re== -1))) ((!(pa==re))&&((C.natural pa)&&(C.natural re))) true)
def ay.Aa(C:ay)(i:Int):Int:=if 0<=i then(C.units[i.toNat]?.map (·.kind)).getD 0 else 0
def ni(C:ay)(ki un vn vd tg:Int):Bool:=(cond (un== -1) ((bA.zero ⟨vn,vd⟩)&&(tg== -1)) (((ki==1)||(ki==2))&&(decide (0<=un)&&(decide (un<(C.units.length:Int))&&((C.Aa un==2)&&((bA.plus ⟨vn,vd⟩)&&(C.role tg)))))))
def ay.cO(C:ay)(i:Nat)(k:aG):Bool:=
 tH C k.kind k.role k.act k.need k.gK k.after k.final k.start.length&&(rJ C i k.start&&(lS C k.pause k.resume&&ni C k.kind k.unit k.value.num k.value.den k.tgt))
def mH(us:List dP)(x:Int):Bool:=decide (0<=x)&&decide (x<us.length)
def Ab(us:List dP)(x:Int):Int:=((us[x.toNat]?).map (·.kind)).getD 0
def Ac(us:List dP)(x:Int):Int:=((us[x.toNat]?).map (·.base)).getD 0
def D5(i:Nat)(nm:ByteArray):Bool:=((!decide (20<=(i:Int)))&&(!nm.toList.isEmpty))
def xg(ki fn fd:Int):Bool:=(((ki==1)||(ki==2))&&((bA.ok ⟨fn,fd⟩)&&(!decide (fn<=0))))
def xk(us:List dP)(ki ba:Int):Bool:=((mH us ba)&&(((Ab us ba)==ki)&&((Ac us ba)==ba)))
def Ib(i:Nat)(ba fn fd:Int):Bool:=((!(ba==(i:Int)))||((fn==1)&&(fd==1)))
def newName(l:List dP)(nm:ByteArray):Bool:=l.all (λu=> !(u.name.toList==nm.toList))
def fU(us:List dP)(i:Nat)(u:dP):Bool:=
 D5 i u.name&&(newName (us.take i) u.name&&(xg u.kind u.factor.num u.factor.den&&(xk us u.kind u.base&&Ib i u.base u.factor.num u.factor.den)))
def oz(us:List dP):Bool:=(List.range us.length).all (λi=>match us[i]? with|some u=>fU us i u|none=>true)
def ay.party(C:ay)(p:Int):Bool:=decide (0<=p)&&decide (p<C.aD)
def ay.held(C:ay):Bool:=C.ah.all (λp=>C.party p)
def ay.qw(C:ay)(a:dM):Bool:=qo C a.kind a.role a.give a.tgt a.unit a.lot.num a.lot.den
def ay.Ad(C:ay):Bool:=C.acts.all (λa=>C.qw a)
def oU(days:Int):Int->List Int->Bool
 |_,[]=>true
 |last,d::l=>(!decide (d<=last))&&((!decide (days<=d))&&oU days d l)
def RL(C:ay):Bool:=((!decide (C.aD<1))&&((!decide (C.days<1))&&((!((C.ah.length:Int)==0))&&C.held)))
def ay.framed(C:ay):Bool:=RL C&&(oz C.units&&(C.Ad&&oU C.days (-1) C.off))
def ay.over(C:ay):Bool:=(decide (12<C.aD)||(decide (2000<C.days)||(decide (12<(C.ah.length:Int))||(decide (20<(C.units.length:Int))||(decide (60<(C.acts.length:Int))||decide (400<(C.clauses.length:Int)))))))
def ay.iW(C:ay):Bool:=(List.range C.clauses.length).all (λi=>match C.clauses[i]? with|some k=>C.cO i k|none=>true)
def ay.errno(C:ay):Int:=cond C.over 3 (cond (C.framed&&C.iW) 0 1)
def ay.valid(C:ay):Bool:=(!C.over)&&(C.framed&&C.iW)
def kQ(C:ay)(ki ne pa:Int)(wa:Bool)(ml mg mb:Int)(mp:Bool):Bool:=(cond (wa||(decide (ml<1)||(mp&&(pa== -1)))) false (cond ((!(mg==0))&&((!(ki==1))||(decide (mg<0)||decide (ne<=mg)))) false (cond (ki==4) (mb== -1) (decide (0<=mb)&&decide (mb<C.aD)))))
def qx(ms ml mg mb:Int)(mp:Bool):Bool:=(ms==0)&&((ml==0)&&((mg==0)&&((mb== -1)&& !mp)))
def lT(C:ay)(ki ne af gr pa:Int)(wa:Bool)(ms ml mg mb:Int)(mp:Bool):Bool:=(cond (ms==0) ((!wa)&&(qx ms ml mg mb mp)) (cond (ms==1) (decide (ml<=af)&&(kQ C ki ne pa wa ml mg mb mp)) (cond (ms==2) ((ki==1)&&(decide (ml<=gr)&&(kQ C ki ne pa wa ml mg mb mp))) (cond ((ms==3)||((ms==4)||(ms==5))) ((ml==0)&&(decide (0<=mg)&&(decide (mg<=9)&&(decide (-1<=mb)&&(decide (mb<C.aD)&&(!mp)))))) false))))
def ay.kU(C:ay)(k:aG)(m:aA):Bool:=lT C k.kind k.need k.after k.gK k.pause k.ji m.status m.left m.got m.aT m.paused
def uj(is x:Int):Bool:=(cond (is==1) (!(x==0)) (cond (is==2) (x==3) (cond (is==3) (x==4) (cond (is==4) (x==5) false))))
def kV(ms:List aA)(x:Int):Int:=((ms[x.toNat]?).map (·.status)).getD 0
def eF(ms:List aA)(c:bU):Bool:=uj c.is (kV ms c.clause)
def gZ(ms:List aA)(l:List bU):Bool:=l.all (eF ms)
def dO(ms:List aA)(k:aG)(m:aA):Bool:=(m.status==0)&&((!k.ji)&&gZ ms k.start)
def Nt(C:ay)(s:aI):Bool:=((!decide (s.day<0))&&((!decide (C.days<s.day))&&(((s.ah.length:Int)==(C.ah.length:Int))&&(((s.used.length:Int)==(C.acts.length:Int))&&((s.marks.length:Int)==(C.clauses.length:Int))))))
def xu(C:ay)(p:Int):Bool:=(!decide (p<0))&&(!decide (C.aD<=p))
def kY(C:ay)(s:aI):Bool:=s.ah.all (xu C)
def Ae(C:ay)(s:aI):Bool:=(List.range s.used.length).all (λi=>match s.used[i]?,C.acts[i]? with|some u,some a=> !(u&&(a.kind==1))|_,_=>true)
def um(C:ay)(s:aI):Bool:=(List.range s.marks.length).all (λi=>match s.marks[i]?,C.clauses[i]? with|some m,some k=>C.kU k m&& !(dO s.marks k m)|_,_=>true)
def ay.dB(C:ay)(s:aI):Bool:=C.valid&&(Nt C s&&(kY C s&&(Ae C s&&um C s)))
def iN(k:aG)(m:aA)(p:Int):Bool:=k.final&&((m.status==4)&&(m.aT==p))
def anyFailed(C:ay)(s:aI)(p:Int):Bool:=(List.range s.marks.length).any (λi=>match s.marks[i]?,C.clauses[i]? with|some m,some k=>iN k m p|_,_=>false)
def aA.ended(m:aA)(st:Int):aA:=⟨st,0,m.got,m.aT,false⟩
def aA.violated(m:aA):aA:=cond m.paused m (m.ended 4)
def aA.performed(m:aA)(need:Int):aA:=cond (m.got+1==need) (aA.ended ⟨m.status,m.left,m.got+1,m.aT,m.paused⟩ 3) ⟨m.status,m.left,m.got+1,m.aT,m.paused⟩
def aA.expired(m:aA)(gK:Int):aA:=cond ((m.status==1)&&decide (0<gK)) ⟨2,gK,m.got,m.aT,m.paused⟩ (m.ended 4)
def aA.runs(m:aA):Bool:=(m.status==1)||(m.status==2)
def gY(l:List Int)(x:Int):Int:=(l[x.toNat]?).getD 0
def bC(hs:List Int)(a:dM):Int:=cond (a.role== -1) (-1) (gY hs a.role)
def kZ(hs:List Int)(k:aG):Int:=cond (k.kind==4) (-1) (gY hs k.role)
def nu(hs:List Int)(k:aG):aA:=⟨1,k.after,0,kZ hs k,false⟩
def eH(C:ay)(ms:List aA)(i:Nat):Bool:=match C.clauses[i]?,ms[i]? with|some k,some m=>dO ms k m|_,_=>false
def iq(C:ay)(hs:List Int)(ms:List aA)(i:Nat):List aA:=match C.clauses[i]? with|some k=>cond (eH C ms i) (ms.set i (nu hs k)) ms|none=>ms
def bQ(C:ay)(hs:List Int)(ms:List aA):Nat->List aA
 |0=>ms
 |j+1=>iq C hs (bQ C hs ms j) j
def cZ(C:ay)(hs:List Int)(ms:List aA):Nat->Bool
 |0=>false
 |j+1=>cZ C hs ms j||eH C (bQ C hs ms j) j
def idle(ms:List aA):Nat:=(ms.filter (λm=>m.status==0)).length
theorem qy(C:ay)(hs:List Int)(ms:List aA)(i:Nat):(iq C hs ms i).length=ms.length:=by
 unfold iq;cases C.clauses[i]? with
 |none=>rfl
 |some k=>cases eH C ms i<;>simp
theorem qz(C:ay)(hs:List Int)(ms:List aA):∀j,(bQ C hs ms j).length=ms.length
 |0=>rfl
 |j+1=>by rw[bQ,qy,qz C hs ms j]
theorem O1{l:List aA}{i:Nat}{m m':aA}(hm:l[i]?=some m)(h0:(m.status==0)=true)(h1:(m'.status==0)=false):idle (l.set i m')+1=idle l:=by
 induction l generalizing i with
 |nil=>simp at hm
 |cons a l ih=>
  cases i with
  |zero=>
   simp at hm;subst hm;simp only[idle,List.set_cons_zero,List.filter_cons,h0,h1,if_true];simp
  |succ i=>
   have:=ih (i:=i) (by simpa using hm);simp only[idle,List.set_cons_succ,List.filter_cons]at this⊢;split
   .simp only[List.length_cons]
    omega
   .exact this
theorem oC(C:ay)(hs:List Int)(ms:List aA)(i:Nat):(eH C ms i=true->idle (iq C hs ms i)+1=idle ms)/\(eH C ms i=false->iq C hs ms i=ms):=by
 refine⟨λh=>?_,λh=>?_⟩
 .have hf:=h
  unfold eH at hf;unfold iq;cases hk:C.clauses[i]? with
  |none=>simp[hk]at hf
  |some k=>
   cases hm:ms[i]? with
   |none=>simp[hk,hm]at hf
   |some m=>
    simp only[hk,hm]at hf;simp only[h,cond_true];refine O1 hm ?_ rfl;unfold dO at hf;simp only[Bool.and_eq_true]at hf;exact hf.1
 .unfold iq
  cases hk:C.clauses[i]? with
  |none=>rfl
  |some k=>simp only[h,cond_false]
theorem gD(C:ay)(hs:List Int)(ms:List aA):∀j,(cZ C hs ms j=true->idle (bQ C hs ms j)<idle ms)/\(cZ C hs ms j=false->bQ C hs ms j=ms)
 |0=>⟨λh=>(by cases h),λ_=>rfl⟩
 |j+1=>by
  obtain⟨h1,h2⟩:=gD C hs ms j;obtain⟨h3,h4⟩:=oC C hs (bQ C hs ms j) j;refine⟨λh=>?_,λh=>?_⟩
  .rw[cZ,Bool.or_eq_true]at h
   rw[bQ];cases hf:eH C (bQ C hs ms j) j with
   |true=>
    have h5:=h3 hf;cases hg:cZ C hs ms j with
    |true=>have:=h1 hg;omega
    |false=>rw[h2 hg]at h5⊢;omega
   |false=>
    rw[h4 hf];rcases h with h|h
    .exact h1 h
    .rw[hf]at h;cases h
  .rw[cZ,Bool.or_eq_false_iff]at h
   rw[bQ,h4 h.2,h2 h.1]
def gF(C:ay)(hs:List Int):Nat->List aA->List aA
 |0,ms=>ms
 |f+1,ms=>cond (cZ C hs ms C.clauses.length) (gF C hs f (bQ C hs ms C.clauses.length)) ms
theorem tJ(C:ay)(hs:List Int):∀(f f':Nat)(ms:List aA),idle ms<f->idle ms<f'->gF C hs f ms=gF C hs f' ms
 |0,_,_,h,_=>by omega
 |_,0,_,_,h=>by omega
 |f+1,f'+1,ms,h,h'=>by
  rw[gF,gF];cases hf:cZ C hs ms C.clauses.length with
  |false=>rfl
  |true=>
   have:=(gD C hs ms C.clauses.length).1 hf;simp only[cond_true];exact tJ C hs f f' _ (by omega) (by omega)
def ay.begin(C:ay)(hs:List Int)(ms:List aA):List aA:=gF C hs (idle ms+1) ms
theorem Fy{C:ay}{hs:List Int}{ms:List aA}(h:cZ C hs ms C.clauses.length=true):C.begin hs ms=C.begin hs (bQ C hs ms C.clauses.length):=by
 have h1:=(gD C hs ms C.clauses.length).1 h;unfold ay.begin;rw[gF,h,cond_true];exact tJ C hs _ _ _ h1 (by omega)
theorem yg{C:ay}{hs:List Int}{ms:List aA}(h:cZ C hs ms C.clauses.length=false):C.begin hs ms=ms:=by
 unfold ay.begin;rw[gF,h,cond_false]
def iB(ms:List aA):Nat->List Nat
 |0=>[]
 |k+1=>match ms[k]? with|some m=>cond m.runs (iB ms k++[k]) (iB ms k)|none=>iB ms k
def dY(C:ay)(give tgt:Int)(i:Nat)(ms:List aA):List aA:=
 match C.clauses[i]?,ms[i]? with
 |some k,some m=>cond ((k.kind !=4)&&(k.role==give)) (ms.set i ⟨m.status,m.left,m.got,tgt,m.paused⟩) ms
 |_,_=>ms
theorem jB(C:ay)(give tgt:Int)(i:Nat)(ms:List aA):(dY C give tgt i ms).length=ms.length:=by
 unfold dY;split
 .rename_i k m _ _
  cases ((k.kind !=4)&&(k.role==give))<;>simp
 .rfl
theorem oV(C:ay)(give tgt:Int)(i:Nat)(ms:List aA)(j:Nat)(h:j≠i):(dY C give tgt i ms)[j]?=ms[j]?:=by
 unfold dY;split
 .rename_i k m _ _
  cases ((k.kind !=4)&&(k.role==give))
  .rfl
  .simp only[cond_true]
   rw[List.getElem?_set,if_neg (λe=>h e.symm)]
 .rfl
def ay.shift(C:ay)(i:Nat)(a:dM)(s:aI):aI:=
 ⟨s.day,s.ah.set a.give.toNat a.tgt,s.used.set i true,cond (a.kind !=3) s.marks ((iB s.marks s.marks.length).foldl (λms j=>dY C a.give a.tgt j ms) s.marks)⟩
theorem xw(upd:Nat->List aA->List aA)(Dc:∀i ms,(upd i ms).length=ms.length):∀(l:List Nat)(ms:List aA),(l.foldl (λms i=>upd i ms) ms).length=ms.length
 |[],_=>rfl
 |x::l,ms=>by rw[List.foldl_cons,xw upd Dc l,Dc]
def d9(C:ay)(act:Int)(i:Nat)(ms:List aA):List aA:=
 match C.clauses[i]?,ms[i]? with
 |some k,some m=>cond (act==k.pause) (ms.set i ⟨m.status,m.left,m.got,m.aT,true⟩) (cond (act==k.resume) (ms.set i ⟨m.status,m.left,m.got,m.aT,false⟩) ms)
 |_,_=>ms
def aA.hit(m:aA)(k:aG):aA:=cond (k.kind==1) (m.performed k.need) (cond (k.kind==2) m.violated (m.ended 3))
def eO(C:ay)(act who:Int)(i:Nat)(ms:List aA):List aA:=
 match C.clauses[i]?,ms[i]? with
 |some k,some m=>cond ((k.act==act)&&((k.kind==4)||(m.aT==who))) (ms.set i (m.hit k)) ms
 |_,_=>ms
def aA.due(m:aA)(k:aG):aA:=cond (k.kind==1) (m.expired k.gK) (cond (k.kind==2) (m.ended 3) (m.ended 5))
def aA.yS(m:aA)(k:aG):aA:=cond (m.left - 1==0) (aA.due ⟨m.status,m.left - 1,m.got,m.aT,m.paused⟩ k) ⟨m.status,m.left - 1,m.got,m.aT,m.paused⟩
def iC(C:ay)(free:Bool)(i:Nat)(ms:List aA):List aA:=
 match C.clauses[i]?,ms[i]? with
 |some k,some m=>cond (m.paused||(k.iA&&free)) ms (ms.set i (m.yS k))
 |_,_=>ms
theorem tK(C:ay)(act:Int)(i:Nat)(ms:List aA):(d9 C act i ms).length=ms.length:=by
 unfold d9;split
 .rename_i k m _ _
  cases (act==k.pause)<;>cases (act==k.resume)<;>simp
 .rfl
theorem oW(C:ay)(act:Int)(i:Nat)(ms:List aA)(j:Nat)(h:j≠i):(d9 C act i ms)[j]?=ms[j]?:=by
 have h2:∀x,(ms.set i x)[j]?=ms[j]?:=λx=>by rw[List.getElem?_set,if_neg (λe=>h e.symm)]
 unfold d9;split
 .rename_i k m _ _
  cases (act==k.pause)<;>cases (act==k.resume)<;>simp only[cond_true,cond_false,h2]
 .rfl
theorem yh(C:ay)(act who:Int)(i:Nat)(ms:List aA):(eO C act who i ms).length=ms.length:=by
 unfold eO;split
 .rename_i k m _ _
  cases ((k.act==act)&&((k.kind==4)||(m.aT==who)))<;>simp
 .rfl
theorem tL(C:ay)(act who:Int)(i:Nat)(ms:List aA)(j:Nat)(h:j≠i):(eO C act who i ms)[j]?=ms[j]?:=by
 have h2:∀x,(ms.set i x)[j]?=ms[j]?:=λx=>by rw[List.getElem?_set,if_neg (λe=>h e.symm)]
 unfold eO;split
 .rename_i k m _ _
  cases ((k.act==act)&&((k.kind==4)||(m.aT==who)))<;>simp only[cond_true,cond_false,h2]
 .rfl
theorem vH(C:ay)(free:Bool)(i:Nat)(ms:List aA):(iC C free i ms).length=ms.length:=by
 unfold iC;split
 .rename_i k m _ _
  cases (m.paused||(k.iA&&free))<;>simp
 .rfl
theorem qA(C:ay)(free:Bool)(i:Nat)(ms:List aA)(j:Nat)(h:j≠i):(iC C free i ms)[j]?=ms[j]?:=by
 have h2:∀x,(ms.set i x)[j]?=ms[j]?:=λx=>by rw[List.getElem?_set,if_neg (λe=>h e.symm)]
 unfold iC;split
 .rename_i k m _ _
  cases (m.paused||(k.iA&&free))<;>simp only[cond_true,cond_false,h2]
 .rfl
def ay.paused(C:ay)(act:Int)(ms:List aA):List aA:=(iB ms ms.length).foldl (λms j=>d9 C act j ms) ms
def ay.oZ(C:ay)(act who:Int)(ms:List aA):List aA:=(iB ms ms.length).foldl (λms j=>eO C act who j ms) ms
def ay.xB(C:ay)(free:Bool)(ms:List aA):List aA:=(iB ms ms.length).foldl (λms j=>iC C free j ms) ms
def ay.act(C:ay)(i:Nat)(a:dM)(s:aI):aI:=
 cond ((a.kind !=1)&&s.used.getD i false) s
  (let s2:aI:=⟨s.day,s.ah,s.used,C.oZ i (bC s.ah a) (C.paused i s.marks)⟩
   let s3:=cond (a.kind !=1) (C.shift i a s2) s2
   ⟨s3.day,s3.ah,s3.used,C.begin s3.ah s3.marks⟩)
def ay.tick(C:ay)(s:aI):aI:=
 ⟨s.day+1,s.ah,s.used,C.begin s.ah (C.xB (C.off.contains s.day) s.marks)⟩
theorem Cb(upd:Nat->List aA->List aA)(f:Nat->aA->aA)(hu:∀i ms j,j≠i->(upd i ms)[j]?=ms[j]?)(hs:∀i ms,(upd i ms)[i]?=(ms[i]?).map (f i))(ms:List aA):∀(k j:Nat),
 ((iB ms k).foldl (λms i=>upd i ms) ms)[j]?=(ms[j]?).map (λm=>cond (decide (j<k)&&m.runs) (f j m) m)
 |0,j=>by simp[iB]
 |k+1,j=>by
  have ih:=Cb upd f hu hs ms k;unfold iB;by_cases hjk:j=k
  .subst hjk
   cases hm:ms[j]? with
   |none=>
    have h2:=ih j;rw[hm]at h2;simpa using h2
   |some m=>
    have h2:=ih j;rw[hm]at h2;simp only[Option.map_some,show decide (j<j)=false by simp,Bool.false_and,cond_false]at h2;cases hr:m.runs with
    |false=>
     simp only[cond_false,Option.map_some,hr,Bool.and_false];exact h2
    |true=>
     simp only[cond_true,List.foldl_append,List.foldl_cons,List.foldl_nil,Option.map_some,hr,show decide (j<j+1)=true by simp,Bool.and_true];rw[hs,h2];rfl
  .have hlt:decide (j<k+1)=decide (j<k):=by
    by_cases h:j<k
    .rw[decide_eq_true h,decide_eq_true (by omega)]
    .rw[decide_eq_false h,decide_eq_false (by omega)]
   rw[hlt];cases hm:ms[k]? with
   |none=>exact ih j
   |some m=>
    cases hr:m.runs with
    |false=>simpa [hr]using ih j
    |true=>
     simp only[hr,cond_true,List.foldl_append,List.foldl_cons,List.foldl_nil];rw[hu _ _ _ hjk];exact ih j
theorem jC(upd:Nat->List aA->List aA)(f:Nat->aA->aA)(hu:∀i ms j,j≠i->(upd i ms)[j]?=ms[j]?)(hs:∀i ms,(upd i ms)[i]?=(ms[i]?).map (f i))(ms:List aA)(j:Nat):
 ((iB ms ms.length).foldl (λms i=>upd i ms) ms)[j]?=(ms[j]?).map (λm=>cond m.runs (f j m) m):=by
 rw[Cb upd f hu hs ms ms.length j];cases hm:ms[j]? with
 |none=>rfl
 |some m=>
  have hj:j<ms.length:=(List.getElem?_eq_some_iff.1 hm).1;simp[hj]
def jH(C:ay)(act:Int)(i:Nat)(m:aA):aA:=
 match C.clauses[i]? with
 |some k=>cond (act==k.pause) ⟨m.status,m.left,m.got,m.aT,true⟩ (cond (act==k.resume) ⟨m.status,m.left,m.got,m.aT,false⟩ m)
 |none=>m
def qC(C:ay)(act who:Int)(i:Nat)(m:aA):aA:=
 match C.clauses[i]? with
 |some k=>cond ((k.act==act)&&((k.kind==4)||(m.aT==who))) (m.hit k) m
 |none=>m
def rM(C:ay)(free:Bool)(i:Nat)(m:aA):aA:=
 match C.clauses[i]? with
 |some k=>cond (m.paused||(k.iA&&free)) m (m.yS k)
 |none=>m
def qE(C:ay)(give tgt:Int)(i:Nat)(m:aA):aA:=
 match C.clauses[i]? with
 |some k=>cond ((k.kind !=4)&&(k.role==give)) ⟨m.status,m.left,m.got,tgt,m.paused⟩ m
 |none=>m
theorem j_{ms:List aA}{i:Nat}{m:aA}(hm:ms[i]?=some m)(x:aA):(ms.set i x)[i]?=some x:=List.getElem?_set_self (List.getElem?_eq_some_iff.1 hm).1
theorem Af(C:ay)(act:Int)(i:Nat)(ms:List aA):(d9 C act i ms)[i]?=(ms[i]?).map (jH C act i):=by
 unfold d9 jH;cases hk:C.clauses[i]? with
 |none=>cases ms[i]?<;>rfl
 |some k=>
  cases hm:ms[i]? with
  |none=>simp[hm]
  |some m=>cases h1:(act==k.pause)<;>cases h2:(act==k.resume)<;>simp only[h1,h2,cond_true,cond_false,Option.map_some]<;>first|exact j_ hm _|exact hm
theorem D6(C:ay)(act who:Int)(i:Nat)(ms:List aA):(eO C act who i ms)[i]?=(ms[i]?).map (qC C act who i):=by
 unfold eO qC;cases hk:C.clauses[i]? with
 |none=>cases ms[i]?<;>rfl
 |some k=>
  cases hm:ms[i]? with
  |none=>simp[hm]
  |some m=>cases h1:((k.act==act)&&((k.kind==4)||(m.aT==who)))<;>simp only[h1,cond_true,cond_false,Option.map_some]<;>first|exact j_ hm _|exact hm
theorem BI(C:ay)(free:Bool)(i:Nat)(ms:List aA):(iC C free i ms)[i]?=(ms[i]?).map (rM C free i):=by
 unfold iC rM;cases hk:C.clauses[i]? with
 |none=>cases ms[i]?<;>rfl
 |some k=>
  cases hm:ms[i]? with
  |none=>simp[hm]
  |some m=>cases h1:(m.paused||(k.iA&&free))<;>simp only[h1,cond_true,cond_false,Option.map_some]<;>first|exact j_ hm _|exact hm
theorem Ag(C:ay)(give tgt:Int)(i:Nat)(ms:List aA):(dY C give tgt i ms)[i]?=(ms[i]?).map (qE C give tgt i):=by
 unfold dY qE;cases hk:C.clauses[i]? with
 |none=>cases ms[i]?<;>rfl
 |some k=>
  cases hm:ms[i]? with
  |none=>simp[hm]
  |some m=>cases h1:((k.kind !=4)&&(k.role==give))<;>simp only[h1,cond_true,cond_false,Option.map_some]<;>first|exact j_ hm _|exact hm
theorem jk(C:ay)(act:Int)(ms:List aA)(j:Nat):(C.paused act ms)[j]?=(ms[j]?).map (λm=>cond m.runs (jH C act j m) m):=
 jC _ _ (λi ms j h=>oW C act i ms j h) (Af C act) ms j
theorem kg(C:ay)(act who:Int)(ms:List aA)(j:Nat):(C.oZ act who ms)[j]?=(ms[j]?).map (λm=>cond m.runs (qC C act who j m) m):=
 jC _ _ (λi ms j h=>tL C act who i ms j h) (D6 C act who) ms j
theorem oD(C:ay)(free:Bool)(ms:List aA)(j:Nat):(C.xB free ms)[j]?=(ms[j]?).map (λm=>cond m.runs (rM C free j m) m):=
 jC _ _ (λi ms j h=>qA C free i ms j h) (BI C free) ms j
theorem qF(C:ay)(give tgt:Int)(ms:List aA)(j:Nat):((iB ms ms.length).foldl (λms i=>dY C give tgt i ms) ms)[j]?=(ms[j]?).map (λm=>cond m.runs (qE C give tgt j m) m):=
 jC _ _ (λi ms j h=>oV C give tgt i ms j h) (Ag C give tgt) ms j
theorem lC{ms ms':List aA}{f:Nat->aA->aA}(h:∀j:Nat,ms'[j]?=(ms[j]?).map (f j)):ms'.length=ms.length:=by
 apply Nat.le_antisymm
 .rcases Nat.lt_or_ge ms.length ms'.length with h1|h1
  .have h2:=h ms.length
   rw[List.getElem?_eq_getElem h1,List.getElem?_eq_none (Nat.le_refl _)]at h2;cases h2
  .exact h1
 .rcases Nat.lt_or_ge ms'.length ms.length with h1|h1
  .have h2:=h ms'.length
   rw[List.getElem?_eq_getElem h1,List.getElem?_eq_none (Nat.le_refl _)]at h2;cases h2
  .exact h1
theorem Ah(C:ay)(act:Int)(ms:List aA):(C.paused act ms).length=ms.length:=lC (f:=λj m=>cond m.runs (jH C act j m) m) (jk C act ms)
theorem xC(C:ay)(act who:Int)(ms:List aA):(C.oZ act who ms).length=ms.length:=lC (f:=λj m=>cond m.runs (qC C act who j m) m) (kg C act who ms)
theorem Ai(C:ay)(free:Bool)(ms:List aA):(C.xB free ms).length=ms.length:=lC (f:=λj m=>cond m.runs (rM C free j m) m) (oD C free ms)
theorem rO{n:Nat}{f:Nat->Bool}(h:(List.range n).all f=true){i:Nat}(hi:i<n):f i=true:=List.all_eq_true.1 h i (List.mem_range.2 hi)
structure ay.Ok(C:ay):Prop where
 aD:1<=C.aD
 days:1<=C.days
 O4:C.days<=2000
 roles:C.ah.length≠0
 held:∀p∈C.ah,0<=p/\p<C.aD
 acts:∀a∈C.acts,C.qw a=true
 off:oU C.days (-1) C.off=true
 clauses:∀(i:Nat)(k:aG),C.clauses[i]?=some k->C.cO i k=true
 O5:C.aD<=12
 jm:C.ah.length<=12
 iX:C.acts.length<=60
 dJ:C.clauses.length<=400
theorem ay.ok{C:ay}(h:C.valid=true):C.Ok:=by
 simp only[ay.valid,ay.over,ay.framed,RL,Bool.and_eq_true,Bool.not_eq_true',Bool.or_eq_false_iff,decide_eq_false_iff_not]at h;obtain⟨⟨o1,o2,o3,o4,o5,o6⟩,⟨⟨f1,f2,f3,f4⟩,f5,f6,f7⟩,hc⟩:=h;refine⟨by omega,by omega,by omega,?_,?_,?_,f7,?_,by omega,by omega,by omega,by omega⟩
 .intro e
  rw[e]at f3;exact absurd f3 (by decide)
 .intro p hp
  have h1:=List.all_eq_true.1 f4 p hp;simp only[ay.party,Bool.and_eq_true,decide_eq_true_eq]at h1;exact h1
 .intro a ha
  exact List.all_eq_true.1 f6 a ha
 .intro i k hk
  have hi:i<C.clauses.length:=(List.getElem?_eq_some_iff.1 hk).1;have h1:=rO hc hi;rw[hk]at h1;exact h1
structure qG(C:ay)(i:Nat)(k:aG):Prop where
 ap0:0<=k.act
 ap1:k.act<C.acts.length
 Vv:1<=k.kind
 Vw:k.kind<=4
 XH:1<=k.after
 O6:k.after<=400
 role:k.kind≠4->0<=k.role/\k.role<C.ah.length
 abr:1<=k.need
 Vx:k.need<=9
 ahU:0<=k.gK
 O7:k.gK<=400
 ahV:k.kind≠1->k.gK=0
 pause:k.pause≠ -1\/k.resume≠ -1->k.pause≠k.resume/\C.natural k.pause=true/\C.natural k.resume=true
 start:∀c∈k.start,0<=c.clause/\c.clause<C.clauses.length/\c.clause≠i/\1<=c.is/\c.is<=4
 qH:k.start.length<=8
theorem ay.Ok.clause{C:ay}(h:C.Ok){i:Nat}{k:aG}(hk:C.clauses[i]?=some k):qG C i k:=by
 have hc:=h.clauses i k hk;simp only[ay.cO,tH,jU,rJ,lS,Bool.and_eq_true,Bool.not_eq_true',decide_eq_false_iff_not]at hc;obtain⟨⟨c1,c2,c3,c4,ck,c5⟩,cs,cp,_⟩:=hc;have hkd:1<=k.kind/\k.kind<=4/\(k.kind≠4->0<=k.role/\k.role<C.ah.length)/\1<=k.need/\k.need<=9/\0<=k.gK/\k.gK<=400/\(k.kind≠1->k.gK=0):=by
  cases q4:(k.kind==4)with
  |true=>
   simp only[q4,cond_true,Bool.and_eq_true,beq_iff_eq]at ck;have q4:k.kind=4:=by simpa using q4
   obtain⟨a1,a2,a3,_⟩:=ck;refine⟨by omega,by omega,λh=>absurd q4 h,by omega,by omega,by omega,by omega,λ_=>a3⟩
  |false=>
   simp only[q4,cond_false]at ck;have q4':k.kind≠4:=by simpa using q4
   cases qr:(!C.role k.role||C.natural k.act)with
   |true=>simp only[qr,cond_true]at ck;cases ck
   |false=>
    simp only[qr,cond_false]at ck;simp only[Bool.or_eq_false_iff,Bool.not_eq_false',ay.role,Bool.and_eq_true,decide_eq_true_eq]at qr;cases q1:(k.kind==1)with
    |true=>
     simp only[q1,cond_true,Bool.and_eq_true,decide_eq_true_eq]at ck;have q1:k.kind=1:=by simpa using q1
     refine⟨by omega,by omega,λ_=>qr.1,ck.1,ck.2.1,ck.2.2.1,ck.2.2.2,λh=>absurd q1 h⟩
    |false=>
     simp only[q1,cond_false]at ck;cases q2:(k.kind==2)with
     |true=>
      simp only[q2,cond_true,Bool.and_eq_true,beq_iff_eq]at ck;have q2:k.kind=2:=by simpa using q2
      refine⟨by omega,by omega,λ_=>qr.1,by omega,by omega,by omega,by omega,λ_=>ck.2⟩
     |false=>
      simp only[q2,cond_false]at ck;cases q3:(k.kind==3)with
      |true=>
       simp only[q3,cond_true,Bool.and_eq_true,beq_iff_eq]at ck;have q3:k.kind=3:=by simpa using q3
       refine⟨by omega,by omega,λ_=>qr.1,by omega,by omega,by omega,by omega,λ_=>ck.2.1⟩
      |false=>simp only[q3,cond_false]at ck;cases ck
 obtain⟨k1,k2,k3,k4,k5,k6,k7,k8⟩:=hkd;refine⟨by omega,by omega,k1,k2,by omega,by omega,k3,k4,k5,k6,k7,k8,?_,?_,by omega⟩
 .intro hp
  cases qp:(!(k.pause== -1)|| !(k.resume== -1))with
  |true=>
   simp only[qp,cond_true,Bool.and_eq_true,Bool.not_eq_true',beq_eq_false_iff_ne]at cp;exact⟨cp.1,cp.2.1,cp.2.2⟩
  |false=>
   simp only[Bool.or_eq_false_iff,Bool.not_eq_false',beq_iff_eq]at qp;omega
 .intro c hc
  have h1:=List.all_eq_true.1 cs c hc;simp only[vG,Bool.and_eq_true,Bool.not_eq_true',decide_eq_false_iff_not,beq_eq_false_iff_ne]at h1;obtain⟨e1,e2,e3,e4,e5⟩:=h1;exact⟨by omega,by omega,e3,by omega,by omega⟩
def bS(C:ay)(k:aG)(m:aA):Prop:=
 (m.status=0/\k.ji=false/\m.left=0/\m.got=0/\m.aT= -1/\m.paused=false)\/
 ((m.status=1/\m.left<=k.after\/m.status=2/\k.kind=1/\m.left<=k.gK)/\k.ji=false/\1<=m.left/\(m.paused=true->k.pause≠ -1)/\(m.got≠0->k.kind=1/\0<=m.got/\m.got<k.need)/\(k.kind=4->m.aT= -1)/\(k.kind≠4->0<=m.aT/\m.aT<C.aD))\/
 ((m.status=3\/m.status=4\/m.status=5)/\m.left=0/\0<=m.got/\m.got<=9/\ -1<=m.aT/\m.aT<C.aD/\m.paused=false)
theorem Aj(C:ay)(k:aG)(m:aA):C.kU k m=true↔bS C k m:=by
 obtain⟨ms,ml,mg,mb,mp⟩:=m;obtain⟨ki,ro,ac,ne,start,af,gr,bu,fi,pa,re,va,un,tg,wa⟩:=k;simp only[ay.kU,bS,lT];cases q0:(ms==0)with
 |true=>
  have h0:ms=0:=by simpa using q0
  subst h0;cases wa<;>cases mp<;>simp[qx]
 |false=>
  have h0:ms≠0:=by simpa using q0
  have hrun:kQ C ki ne pa wa ml mg mb mp=true↔(wa=false/\1<=ml/\(mp=true->pa≠ -1)/\(mg≠0->ki=1/\0<=mg/\mg<ne)/\(ki=4->mb= -1)/\(ki≠4->0<=mb/\mb<C.aD)):=by
   simp only[kQ];cases wa with
   |true=>simp
   |false=>
    cases q1:(decide (ml<1)||(mp&&(pa== -1)))with
    |true=>
     simp only[Bool.or_eq_true,decide_eq_true_eq,Bool.and_eq_true,beq_iff_eq]at q1;simp only[Bool.false_or,cond_true];constructor
     .intro h;cases h
     .rintro⟨_,a1,a2,_⟩
      rcases q1 with h|⟨h1,h2⟩
      .omega
      .exact absurd h2 (a2 h1)
    |false=>
     simp only[Bool.or_eq_false_iff,decide_eq_false_iff_not]at q1;have hp:mp=true->pa≠ -1:=by
      intro hm e;rw[hm,e]at q1;exact absurd q1.2 (by decide)
     simp only[Bool.false_or,cond_false];cases q2:(!(mg==0)&&(!(ki==1)||(decide (mg<0)||decide (ne<=mg))))with
     |true=>
      simp only[Bool.and_eq_true,Bool.not_eq_true',beq_eq_false_iff_ne,Bool.or_eq_true,decide_eq_true_eq]at q2;simp only[cond_true];constructor
      .intro h;cases h
      .rintro⟨_,_,_,a3,_⟩
       have:=a3 q2.1;omega
     |false=>
      have q3:mg≠0->ki=1/\0<=mg/\mg<ne:=by
       intro hne;simp only[show(mg==0)=false by simpa using hne,Bool.not_false,Bool.true_and,Bool.or_eq_false_iff,Bool.not_eq_false',beq_iff_eq,decide_eq_false_iff_not]at q2;omega
      simp only[cond_false];cases q4:(ki==4)with
      |true=>
       have h4:ki=4:=by simpa using q4
       simp only[cond_true,beq_iff_eq];constructor
       .intro h;exact⟨trivial,by omega,hp,q3,λ_=>h,λh=>absurd h4 h⟩
       .rintro⟨_,_,_,_,a4,_⟩;exact a4 h4
      |false=>
       have h4:ki≠4:=by simpa using q4
       simp only[cond_false,Bool.and_eq_true,decide_eq_true_eq];constructor
       .intro h;exact⟨trivial,by omega,hp,q3,λh=>absurd h h4,λ_=>h⟩
       .rintro⟨_,_,_,_,_,a4⟩;exact a4 h4
  simp only[cond_false];cases q1:(ms==1)with
  |true=>
   have h1:ms=1:=by simpa using q1
   subst h1;simp only[cond_true,Bool.and_eq_true,decide_eq_true_eq,hrun];constructor
   .rintro⟨a,b⟩;exact .inr (.inl ⟨.inl ⟨trivial,a⟩,b⟩)
   .rintro(⟨h,_⟩|⟨h|⟨h,_⟩,b⟩|⟨h,_⟩)
    .omega
    .exact⟨h.2,b⟩
    .omega
    .omega
  |false=>
   have h1:ms≠1:=by simpa using q1
   simp only[cond_false];cases q2:(ms==2)with
   |true=>
    have h2:ms=2:=by simpa using q2
    subst h2;simp only[cond_true,Bool.and_eq_true,decide_eq_true_eq,beq_iff_eq,hrun];constructor
    .rintro⟨a0,a,b⟩;exact .inr (.inl ⟨.inr ⟨trivial,a0,a⟩,b⟩)
    .rintro(⟨h,_⟩|⟨⟨h,_⟩|h,b⟩|⟨h,_⟩)
     .omega
     .omega
     .exact⟨h.2.1,h.2.2,b⟩
     .omega
   |false=>
    have h2:ms≠2:=by simpa using q2
    simp only[cond_false];cases q3:((ms==3)||((ms==4)||(ms==5)))with
    |true=>
     simp only[Bool.or_eq_true,beq_iff_eq]at q3;simp only[cond_true,Bool.and_eq_true,beq_iff_eq,decide_eq_true_eq,Bool.not_eq_true'];constructor
     .intro h;exact .inr (.inr ⟨q3,h⟩)
     .rintro(⟨h,_⟩|⟨⟨h,_⟩|⟨h,_⟩,_⟩|⟨_,b⟩)
      .omega
      .omega
      .omega
      .exact b
    |false=>
     simp only[Bool.or_eq_false_iff,beq_eq_false_iff_ne]at q3;simp only[cond_false];constructor
     .intro h;cases h
     .rintro(⟨h,_⟩|⟨⟨h,_⟩|⟨h,_⟩,_⟩|⟨h,_⟩)<;>omega
theorem jI(m:aA):m.runs=true↔m.status=1\/m.status=2:=by simp[aA.runs]
section
variable {C:ay} {i:Nat} {k:aG} {m:aA}
theorem bS.ended(h:bS C k m)(hr:m.runs=true)(hp:1<=C.aD){st:Int}(hst:st=3\/st=4\/st=5)(g:Int)(hg0:0<=g)(hg:g<=9):bS C k ⟨st,0,g,m.aT,false⟩:=by
 rw[jI]at hr;rcases h with⟨h0,_⟩|⟨_,_,_,_,_,hb1,hb2⟩|⟨h0,_⟩
 .omega
 .refine .inr (.inr ⟨hst,rfl,hg0,hg,?_,?_,rfl⟩)
  .by_cases h4:k.kind=4
   .have h5:=hb1 h4;show -1<=m.aT;omega
   .have h5:=hb2 h4;show -1<=m.aT;omega
  .by_cases h4:k.kind=4
   .have h5:=hb1 h4;show m.aT<_;omega
   .have h5:=hb2 h4;show m.aT<_;omega
 .omega
theorem bS.got(hk:qG C i k)(h:bS C k m):0<=m.got/\m.got<=9:=by
 have:=hk.Vx;rcases h with⟨_,_,_,h0,_⟩|⟨_,_,_,_,h0,_⟩|⟨_,_,h0,h1,_⟩
 .omega
 .by_cases hg:m.got=0
  .omega
  .have:=h0 hg;omega
 .omega
theorem bS.Ta(h:bS C k m)(hr:m.runs=true)(hp:k.pause≠ -1)(b:Bool):bS C k ⟨m.status,m.left,m.got,m.aT,b⟩:=by
 rw[jI]at hr;rcases h with⟨h0,_⟩|⟨h1,h2,h3,h4,h5⟩|⟨h0,_⟩
 .omega
 .exact .inr (.inl ⟨h1,h2,h3,λ_=>hp,h5⟩)
 .omega
theorem bS.resumed(h:bS C k m)(hr:m.runs=true):bS C k ⟨m.status,m.left,m.got,m.aT,false⟩:=by
 rw[jI]at hr;rcases h with⟨h0,_⟩|⟨h1,h2,h3,h4,h5⟩|⟨h0,_⟩
 .omega
 .exact .inr (.inl ⟨h1,h2,h3,(λh=>by cases h),h5⟩)
 .omega
theorem bS.borne(h:bS C k m)(hr:m.runs=true)(hk4:k.kind≠4){p:Int}(h0:0<=p)(h1:p<C.aD):bS C k ⟨m.status,m.left,m.got,p,m.paused⟩:=by
 rw[jI]at hr;rcases h with⟨h0,_⟩|⟨a1,a2,a3,a4,a5,_⟩|⟨h0,_⟩
 .omega
 .exact .inr (.inl ⟨a1,a2,a3,a4,a5,λh=>absurd h hk4,λ_=>⟨h0,h1⟩⟩)
 .omega
theorem bS.hit(hk:qG C i k)(h:bS C k m)(hr:m.runs=true)(hp:1<=C.aD):bS C k (m.hit k):=by
 have hg:=h.got hk;have n1:=hk.abr;have n2:=hk.Vx;have hr':=hr;rw[jI]at hr';unfold aA.hit;cases q1:(k.kind==1)with
 |true=>
  have h1:k.kind=1:=by simpa using q1
  simp only[cond_true,aA.performed];cases q:(m.got+1==k.need)with
  |true=>
   have hq:m.got+1=k.need:=by simpa using q
   simp only[cond_true,aA.ended];exact h.ended hr hp (.inl rfl) _ (by omega) (by omega)
  |false=>
   have hq:m.got+1≠k.need:=by simpa using q
   simp only[cond_false];rcases h with⟨h0,_⟩|⟨a1,a2,a3,a4,a5,a6⟩|⟨h0,_⟩
   .omega
   .refine .inr (.inl ⟨a1,a2,a3,a4,λ_=>⟨h1,?_,?_⟩,a6⟩)
    .show 0<=m.got+1;omega
    .show m.got+1<k.need
     by_cases h0:m.got=0
     .omega
     .have:=a5 h0;omega
   .omega
 |false=>
  simp only[cond_false];cases q2:(k.kind==2)with
  |true=>
   simp only[cond_true,aA.violated];cases m.paused with
   |true=>exact h
   |false=>exact h.ended hr hp (.inr (.inl rfl)) _ hg.1 hg.2
  |false=>exact h.ended hr hp (.inl rfl) _ hg.1 hg.2
theorem bS.yS(hk:qG C i k)(h:bS C k m)(hr:m.runs=true)(hp:1<=C.aD):bS C k (m.yS k):=by
 have hg:=h.got hk;have hr':=hr;rw[jI]at hr';unfold aA.yS;have hl:1<=m.left/\(m.status=1->m.left<=k.after)/\(m.status=2->k.kind=1/\m.left<=k.gK):=by
  rcases h with⟨h0,_⟩|⟨a1,_,a3,_⟩|⟨h0,_⟩
  .omega
  .exact⟨a3,λ_=>by omega,λ_=>by omega⟩
  .omega
 cases q:(m.left - 1==0)with
 |true=>
  simp only[cond_true,aA.due];cases q1:(k.kind==1)with
  |true=>
   have h1:k.kind=1:=by simpa using q1
   simp only[cond_true,aA.expired];cases q3:((m.status==1)&&decide (0<k.gK))with
   |true=>
    simp only[Bool.and_eq_true,beq_iff_eq,decide_eq_true_eq]at q3;simp only[cond_true];rcases h with⟨h0,_⟩|⟨a1,a2,a3,a4,a5,a6⟩|⟨h0,_⟩
    .omega
    .exact .inr (.inl ⟨.inr ⟨rfl,h1,Int.le_refl _⟩,a2,by show 1<=k.gK;omega,a4,a5,a6⟩)
    .omega
   |false=>exact h.ended hr hp (.inr (.inl rfl)) _ hg.1 hg.2
  |false=>
   simp only[cond_false];cases q2:(k.kind==2)with
   |true=>exact h.ended hr hp (.inl rfl) _ hg.1 hg.2
   |false=>exact h.ended hr hp (.inr (.inr rfl)) _ hg.1 hg.2
 |false=>
  have hq:m.left - 1≠0:=by simpa using q
  simp only[cond_false];rcases h with⟨h0,_⟩|⟨a1,a2,a3,a4,a5,a6⟩|⟨h0,_⟩
  .omega
  .refine .inr (.inl ⟨?_,a2,?_,a4,a5,a6⟩)
   .show(m.status=1/\m.left - 1<=k.after)\/(m.status=2/\k.kind=1/\m.left - 1<=k.gK)
    omega
   .show 1<=m.left - 1
    omega
  .omega
end
structure Vy(C:ay)(a:dM):Prop where
 role:a.role≠ -1->0<=a.role/\a.role<C.ah.length
 kind:a.kind=1\/a.kind=2\/a.kind=3
 give:a.kind≠1->0<=a.give/\a.give<C.ah.length
 tgt:a.kind≠1->0<=a.tgt/\a.tgt<C.aD
 seen:a.kind=1->a.tgt= -1\/(0<=a.tgt/\a.tgt<C.ah.length)
theorem ay.Ok.act{C:ay}(h:C.Ok){a:dM}(ha:a∈C.acts):Vy C a:=by
 have hc:=h.acts a ha;simp only[ay.qw,qo]at hc;cases qr:(C.role a.role)with
 |false=>
  simp only[qr,Bool.not_false,cond_true,Bool.and_eq_true,beq_iff_eq,Bool.or_eq_true]at hc;obtain⟨h1,h2,h3,h4,_⟩:=hc;refine⟨λh=>absurd h2 h,.inl h1,λh=>absurd h1 h,λh=>absurd h1 h,λ_=>?_⟩;rcases h4 with h4|h4
  .exact .inl h4
  .simp only[ay.role,Bool.and_eq_true,decide_eq_true_eq]at h4
   exact .inr h4
 |true=>
  have qr':=qr;simp only[ay.role,Bool.and_eq_true,decide_eq_true_eq]at qr';simp only[qr,Bool.not_true,cond_false]at hc;cases q1:(a.kind==1)with
  |true=>
   have h1:a.kind=1:=by simpa using q1
   simp only[q1,cond_true]at hc;refine⟨λ_=>qr',.inl h1,λh=>absurd h1 h,λh=>absurd h1 h,λ_=>?_⟩;cases q2:(!(a.give==0)||(!(a.tgt== -1)&& !(C.role a.tgt)))with
   |true=>simp only[q2,cond_true]at hc;cases hc
   |false=>
    simp only[Bool.or_eq_false_iff,Bool.and_eq_false_iff,Bool.not_eq_false',beq_iff_eq]at q2;rcases q2.2 with h4|h4
    .exact .inl h4
    .simp only[ay.role,Bool.and_eq_true,decide_eq_true_eq]at h4
     exact .inr h4
  |false=>
   have h1:a.kind≠1:=by simpa using q1
   simp only[q1,cond_false]at hc;cases q2:((a.kind==2)||(a.kind==3))with
   |false=>simp only[q2,cond_false]at hc;cases hc
   |true=>
    simp only[q2,cond_true,Bool.and_eq_true,decide_eq_true_eq,ay.role]at hc;simp only[Bool.or_eq_true,beq_iff_eq]at q2;exact⟨λ_=>qr',.inr q2,λ_=>hc.1,λ_=>⟨hc.2.1,hc.2.2.1⟩,λh=>absurd h h1⟩
structure aK(C:ay)(s:aI):Prop where
 con:C.valid=true
 BJ:0<=s.day
 Fz:s.day<=C.days
 lh:s.ah.length=C.ah.length
 lu:s.used.length=C.acts.length
 lm:s.marks.length=C.clauses.length
 held:∀p∈s.ah,0<=p/\p<C.aD
 used:∀(i:Nat)(a:dM),s.used[i]?=some true->C.acts[i]?=some a->a.kind≠1
 marks:∀(i:Nat)(m:aA)(k:aG),s.marks[i]?=some m->C.clauses[i]?=some k->bS C k m
 still:∀(i:Nat)(m:aA)(k:aG),s.marks[i]?=some m->C.clauses[i]?=some k->dO s.marks k m=false
theorem bR(C:ay)(s:aI):C.dB s=true↔aK C s:=by
 constructor
 .intro h
  simp only[ay.dB,Nt,kY,Ae,um,Bool.and_eq_true,Bool.not_eq_true',decide_eq_false_iff_not,beq_iff_eq]at h;obtain⟨h1,⟨h2,h3,h4,h5,h6⟩,h7,h8,h9⟩:=h;refine⟨h1,by omega,by omega,by omega,by omega,by omega,?_,?_,?_,?_⟩
  .intro p hp
   have h10:=List.all_eq_true.1 h7 p hp;simp only[xu,Bool.and_eq_true,Bool.not_eq_true',decide_eq_false_iff_not]at h10;omega
  .intro i a hu ha
   have h10:=rO h8 (List.getElem?_eq_some_iff.1 hu).1;rw[hu,ha]at h10;simpa using h10
  .intro i m k hm hk
   have h10:=rO h9 (List.getElem?_eq_some_iff.1 hm).1;rw[hm,hk]at h10;simp only[Bool.and_eq_true]at h10;exact(Aj _ _ _).1 h10.1
  .intro i m k hm hk
   have h10:=rO h9 (List.getElem?_eq_some_iff.1 hm).1;rw[hm,hk]at h10;simp only[Bool.and_eq_true,Bool.not_eq_true']at h10;exact h10.2
 .intro h
  simp only[ay.dB,Nt,kY,Ae,um,Bool.and_eq_true,Bool.not_eq_true',decide_eq_false_iff_not,beq_iff_eq];refine⟨h.con,⟨by have:=h.BJ;omega,by have:=h.Fz;omega,by have:=h.lh;omega,by have:=h.lu;omega,by have:=h.lm;omega⟩,?_,?_,?_⟩
  .apply List.all_eq_true.2
   intro p hp;have:=h.held p hp;simp only[xu,Bool.and_eq_true,Bool.not_eq_true',decide_eq_false_iff_not];omega
  .apply List.all_eq_true.2
   intro i _;cases hu:s.used[i]? with
   |none=>rfl
   |some u=>
    cases ha:C.acts[i]? with
    |none=>rfl
    |some a=>
     cases u with
     |false=>simp
     |true=>
      have:=h.used i a hu ha;simpa using this
  .apply List.all_eq_true.2
   intro i _;cases hm:s.marks[i]? with
   |none=>rfl
   |some m=>
    cases hk:C.clauses[i]? with
    |none=>rfl
    |some k=>
     simp only[Bool.and_eq_true,Bool.not_eq_true'];exact⟨(Aj _ _ _).2 (h.marks i m k hm hk),h.still i m k hm hk⟩
def Beg(C:ay)(hs:List Int)(j:Nat)(m m':aA):Prop:=m'=m\/(m.status=0/\∃k,C.clauses[j]?=some k/\k.ji=false/\m'=nu hs k)
theorem Beg.trans{C:ay}{hs:List Int}{j:Nat}{a b c:aA}(h:Beg C hs j a b)(h':Beg C hs j b c):Beg C hs j a c:=by
 rcases h with rfl|⟨h0,k,hk,hw,rfl⟩
 .exact h'
 .rcases h' with rfl|⟨h1,_⟩
  .exact .inr ⟨h0,k,hk,hw,rfl⟩
  .exact absurd h1 (by show(1:Int)≠0;decide)
def jo(C:ay)(hs:List Int)(ms ms':List aA):Prop:=ms'.length=ms.length/\∀(j:Nat)(m':aA),ms'[j]?=some m'->∃m,ms[j]?=some m/\Beg C hs j m m'
theorem jo.refl(C:ay)(hs:List Int)(ms:List aA):jo C hs ms ms:=⟨rfl,λ_ m' h=>⟨m',h,.inl rfl⟩⟩
theorem jo.trans{C:ay}{hs:List Int}{a b c:List aA}(h:jo C hs a b)(h':jo C hs b c):jo C hs a c:=
 ⟨h'.1.trans h.1,λj m' hm=>by
  obtain⟨m1,h1,h2⟩:=h'.2 j m' hm;obtain⟨m2,h3,h4⟩:=h.2 j m1 h1;exact⟨m2,h3,h4.trans h2⟩⟩
theorem FB(C:ay)(hs:List Int)(ms:List aA)(i:Nat):jo C hs ms (iq C hs ms i):=by
 refine⟨qy C hs ms i,λj m' hm=>?_⟩;cases hf:eH C ms i with
 |false=>
  rw[(oC C hs ms i).2 hf]at hm;exact⟨m',hm,.inl rfl⟩
 |true=>
  have hf':=hf;unfold eH at hf';unfold iq at hm;cases hk:C.clauses[i]? with
  |none=>simp[hk]at hf'
  |some k=>
   cases Tc:ms[i]? with
   |none=>simp[hk,Tc]at hf'
   |some m=>
    simp only[hk,Tc]at hf';simp only[hk,hf,cond_true]at hm;by_cases hij:i=j
    .subst hij
     rw[j_ Tc]at hm;injection hm with hm
     simp only[dO,Bool.and_eq_true,beq_iff_eq,Bool.not_eq_true']at hf';exact⟨m,Tc,.inr ⟨hf'.1,k,hk,hf'.2.1,hm.symm⟩⟩
    .rw[List.getElem?_set,if_neg hij]at hm
     exact⟨m',hm,.inl rfl⟩
theorem yj(C:ay)(hs:List Int)(ms:List aA):∀n,jo C hs ms (bQ C hs ms n)
 |0=>jo.refl _ _ _
 |n+1=>(yj C hs ms n).trans (FB C hs _ n)
theorem vI(C:ay)(hs:List Int):∀(f:Nat)(ms:List aA),jo C hs ms (gF C hs f ms)
 |0,ms=>jo.refl _ _ _
 |f+1,ms=>by
  rw[gF];cases cZ C hs ms C.clauses.length with
  |false=>exact jo.refl _ _ _
  |true=>exact(yj C hs ms _).trans (vI C hs f _)
theorem xE(C:ay)(hs:List Int)(ms:List aA):jo C hs ms (C.begin hs ms):=vI C hs _ ms
theorem tN(C:ay)(hs:List Int):∀(f:Nat)(ms:List aA),idle ms<f->cZ C hs (gF C hs f ms) C.clauses.length=false
 |0,_,h=>by omega
 |f+1,ms,h=>by
  rw[gF];cases hf:cZ C hs ms C.clauses.length with
  |false=>exact hf
  |true=>
   have:=(gD C hs ms C.clauses.length).1 hf;exact tN C hs f _ (by omega)
theorem Ak{C:ay}{hs:List Int}{ms:List aA}:∀{n:Nat},cZ C hs ms n=false->∀i,i<n->eH C ms i=false
 |0,_,i,hi=>by omega
 |n+1,h,i,hi=>by
  rw[cZ,Bool.or_eq_false_iff]at h;by_cases hin:i=n
  .subst hin
   have h2:=(gD C hs ms i).2 h.1;rw[h2]at h;exact h.2
  .exact Ak h.1 i (by omega)
theorem Al{C:ay}{hs:List Int}{ms:List aA}:∀{n:Nat},(∀i,i<n->eH C ms i=false)->cZ C hs ms n=false
 |0,_=>rfl
 |n+1,h=>by
  have h1:=Al (hs:=hs) (n:=n) (λi hi=>h i (by omega));rw[cZ,h1,(gD C hs ms n).2 h1];exact h n (by omega)
theorem Am(C:ay)(hs:List Int)(ms:List aA)(i:Nat)(hi:i<C.clauses.length):eH C (C.begin hs ms) i=false:=Ak (tN C hs _ ms (by omega)) i hi
theorem D7{hs:List Int}{r:Int}(h0:0<=r)(h1:r<hs.length):gY hs r∈hs:=by
 unfold gY;have:r.toNat<hs.length:=by omega
 rw[List.getElem?_eq_getElem this];exact List.getElem_mem this
theorem O8{C:ay}{hs:List Int}{i:Nat}{k:aG}(hk:qG C i k)(hw:k.ji=false)(hl:hs.length=C.ah.length)(hh:∀p∈hs,0<=p/\p<C.aD):bS C k (nu hs k):=by
 refine .inr (.inl ⟨.inl ⟨rfl,Int.le_refl _⟩,hw,hk.XH,(λh=>by cases h),λh=>absurd rfl h,λh=>?_,λh=>?_⟩)
 .simp[nu,kZ,h]
 .have h4:(k.kind==4)=false:=by simpa using h
  have:=hk.role h;have h5:=hh _ (D7 (hs:=hs) this.1 (by omega));simp only[nu,kZ,h4,cond_false];exact h5
theorem vJ{C:ay}{hs:List Int}{ms:List aA}(hC:C.Ok)(hl:hs.length=C.ah.length)(hh:∀p∈hs,0<=p/\p<C.aD)(hm:∀(i:Nat)(m:aA)(k:aG),ms[i]?=some m->C.clauses[i]?=some k->bS C k m):
 (∀(i:Nat)(m:aA)(k:aG),(C.begin hs ms)[i]?=some m->C.clauses[i]?=some k->bS C k m)/\(∀(i:Nat)(m:aA)(k:aG),(C.begin hs ms)[i]?=some m->C.clauses[i]?=some k->dO (C.begin hs ms) k m=false):=by
 refine⟨λi m k h hk=>?_,λi m k h hk=>?_⟩
 .obtain⟨m0,h0,hb⟩:=(xE C hs ms).2 i m h
  rcases hb with rfl|⟨_,k',hk',hw,rfl⟩
  .exact hm i _ k h0 hk
  .rw[hk]at hk'
   injection hk' with hk'
   subst hk';exact O8 (hC.clause hk) hw hl hh
 .have h1:=Am C hs ms i (List.getElem?_eq_some_iff.1 hk).1
  unfold eH at h1;rw[hk,h]at h1;exact h1
theorem g_(C:ay)(hs:List Int)(ms:List aA):(C.begin hs ms).length=ms.length:=(xE C hs ms).1
theorem Ic{C:ay}{hs:List Int}{ms:List aA}{j:Nat}{m:aA}(h:ms[j]?=some m)(h0:m.status≠0):(C.begin hs ms)[j]?=some m:=by
 have hj:j<(C.begin hs ms).length:=by rw[g_];exact(List.getElem?_eq_some_iff.1 h).1
 obtain⟨m',hm'⟩:∃m',(C.begin hs ms)[j]?=some m':=⟨_,List.getElem?_eq_getElem hj⟩;obtain⟨m0,h1,hb⟩:=(xE C hs ms).2 j m' hm';rw[h]at h1;injection h1 with h1
 subst h1;rcases hb with rfl|⟨h2,_⟩
 .exact hm'
 .exact absurd h2 h0
theorem map_ok{C:ay}{ms ms':List aA}{f:Nat->aA->aA}(hg:∀j:Nat,ms'[j]?=(ms[j]?).map (λm=>cond m.runs (f j m) m))(hm:∀(i:Nat)(m:aA)(k:aG),ms[i]?=some m->C.clauses[i]?=some k->bS C k m)
 (hf:∀(i:Nat)(m:aA)(k:aG),C.clauses[i]?=some k->bS C k m->m.runs=true->bS C k (f i m)):∀(i:Nat)(m:aA)(k:aG),ms'[i]?=some m->C.clauses[i]?=some k->bS C k m:=by
 intro i m k h hk;rw[hg]at h;cases hm0:ms[i]? with
 |none=>rw[hm0]at h;cases h
 |some m0=>
  rw[hm0]at h;simp only[Option.map_some,Option.some.injEq]at h;have h1:=hm i m0 k hm0 hk;cases hr:m0.runs with
  |false=>
   rw[hr]at h;subst h;exact h1
  |true=>
   rw[hr]at h;subst h;exact hf i m0 k hk h1 hr
theorem LH{C:ay}{ms:List aA}{act:Int}(h0:0<=act)(hm:∀(i:Nat)(m:aA)(k:aG),ms[i]?=some m->C.clauses[i]?=some k->bS C k m):
 ∀(i:Nat)(m:aA)(k:aG),(C.paused act ms)[i]?=some m->C.clauses[i]?=some k->bS C k m:=
 map_ok (jk C act ms) hm (λi m k hk h hr=>by
  unfold jH;rw[hk];dsimp only;cases q1:(act==k.pause)with
  |true=>
   have e1:act=k.pause:=by simpa using q1
   exact h.Ta hr (by omega) true
  |false=>
   cases q2:(act==k.resume)with
   |true=>exact h.resumed hr
   |false=>exact h)
theorem O9{C:ay}(hC:C.Ok){ms:List aA}{act who:Int}(hm:∀(i:Nat)(m:aA)(k:aG),ms[i]?=some m->C.clauses[i]?=some k->bS C k m):
 ∀(i:Nat)(m:aA)(k:aG),(C.oZ act who ms)[i]?=some m->C.clauses[i]?=some k->bS C k m:=
 map_ok (kg C act who ms) hm (λi m k hk h hr=>by
  unfold qC;rw[hk];cases q1:((k.act==act)&&((k.kind==4)||(m.aT==who)))with
  |true=>simpa only[q1,cond_true]using h.hit (hC.clause hk) hr hC.aD
  |false=>simpa only[q1,cond_false]using h)
theorem LJ{C:ay}(hC:C.Ok){ms:List aA}{free:Bool}(hm:∀(i:Nat)(m:aA)(k:aG),ms[i]?=some m->C.clauses[i]?=some k->bS C k m):
 ∀(i:Nat)(m:aA)(k:aG),(C.xB free ms)[i]?=some m->C.clauses[i]?=some k->bS C k m:=
 map_ok (oD C free ms) hm (λi m k hk h hr=>by
  unfold rM;rw[hk];cases q1:(m.paused||(k.iA&&free))with
  |true=>simpa only[q1,cond_true]using h
  |false=>simpa only[q1,cond_false]using h.yS (hC.clause hk) hr hC.aD)
theorem Ie{C:ay}{ms:List aA}{give tgt:Int}(h0:0<=tgt)(h1:tgt<C.aD)(hm:∀(i:Nat)(m:aA)(k:aG),ms[i]?=some m->C.clauses[i]?=some k->bS C k m):
 ∀(i:Nat)(m:aA)(k:aG),((iB ms ms.length).foldl (λms j=>dY C give tgt j ms) ms)[i]?=some m->C.clauses[i]?=some k->bS C k m:=
 map_ok (qF C give tgt ms) hm (λi m k hk h hr=>by
  unfold qE;rw[hk];dsimp only;cases q1:((k.kind !=4)&&(k.role==give))with
  |true=>
   simp only[Bool.and_eq_true,bne_iff_ne]at q1;exact h.borne hr q1.1 h0 h1
  |false=>exact h)
theorem Kr{C:ay}{s:aI}(h:aK C s)(hd:s.day<C.days):aK C (C.tick s):=by
 have hC:=ay.ok h.con;obtain⟨b1,b2⟩:=vJ hC h.lh h.held (LJ hC (free:=C.off.contains s.day) h.marks);exact⟨h.con,by show 0<=s.day+1;have:=h.BJ;omega,by show s.day+1<=C.days;omega,h.lh,h.lu,by show(C.begin _ _).length=_;rw[g_,Ai];exact h.lm,h.held,h.used,b1,b2⟩
theorem mem_set{α:Type}{l:List α}{i:Nat}{x y:α}(h:y∈l.set i x):y=x\/y∈l:=by
 rcases List.mem_or_eq_of_mem_set h with h|h
 .exact .inr h
 .exact .inl h
theorem O_{C:ay}{s:aI}{i:Nat}{a:dM}(hA:Vy C a)(ha:C.acts[i]?=some a)(hk:a.kind≠1)(h1:s.ah.length=C.ah.length)(h2:s.used.length=C.acts.length)(h3:s.marks.length=C.clauses.length)(h4:∀p∈s.ah,0<=p/\p<C.aD)
 (h5:∀(i:Nat)(a:dM),s.used[i]?=some true->C.acts[i]?=some a->a.kind≠1)(h6:∀(i:Nat)(m:aA)(k:aG),s.marks[i]?=some m->C.clauses[i]?=some k->bS C k m):
 (C.shift i a s).ah.length=C.ah.length/\(C.shift i a s).used.length=C.acts.length/\(C.shift i a s).marks.length=C.clauses.length/\(∀p∈(C.shift i a s).ah,0<=p/\p<C.aD)/\(∀(j:Nat)(a':dM),(C.shift i a s).used[j]?=some true->C.acts[j]?=some a'->a'.kind≠1)/\
  (∀(j:Nat)(m:aA)(k:aG),(C.shift i a s).marks[j]?=some m->C.clauses[j]?=some k->bS C k m):=by
 refine⟨by simp[ay.shift,h1],by simp[ay.shift,h2],?_,?_,?_,?_⟩
 .simp only[ay.shift]
  cases (a.kind !=3)with
  |true=>exact h3
  |false=>simp only[cond_false];rw[xw _ (λi ms=>jB C _ _ i ms)];exact h3
 .intro p hp
  simp only[ay.shift]at hp;rcases mem_set hp with rfl|hp
  .exact hA.tgt hk
  .exact h4 p hp
 .intro j a' hu ha'
  simp only[ay.shift]at hu;by_cases hij:i=j
  .subst hij
   rw[ha]at ha';injection ha' with ha'
   subst ha';exact hk
  .rw[List.getElem?_set,if_neg hij]at hu
   exact h5 j a' hu ha'
 .simp only[ay.shift]
  cases (a.kind !=3)with
  |true=>exact h6
  |false=>exact Ie (hA.tgt hk).1 (hA.tgt hk).2 h6
theorem Pb{C:ay}{s:aI}(h:aK C s){i:Nat}{a:dM}(ha:C.acts[i]?=some a):aK C (C.act i a s):=by
 have hC:=ay.ok h.con;have hA:=hC.act (List.mem_of_getElem? ha);unfold ay.act;cases q:((a.kind !=1)&&s.used.getD i false)with
 |true=>exact h
 |false=>
  simp only[cond_false];have hm:=O9 hC (who:=bC s.ah a) (act:=i) (LH (act:=i) (by omega) h.marks);have hl:(C.oZ i (bC s.ah a) (C.paused i s.marks)).length=C.clauses.length:=by rw[xC,Ah];exact h.lm
  cases q1:(a.kind !=1)with
  |false=>
   simp only[cond_false];obtain⟨b1,b2⟩:=vJ hC h.lh h.held hm;exact⟨h.con,h.BJ,h.Fz,h.lh,h.lu,by show(C.begin _ _).length=_;rw[g_];exact hl,h.held,h.used,b1,b2⟩
  |true=>
   simp only[cond_true];have hk1:a.kind≠1:=by simpa using q1
   obtain⟨s1,s2,s3,s4,s5,s6⟩:=O_ (s:=⟨s.day,s.ah,s.used,C.oZ i (bC s.ah a) (C.paused i s.marks)⟩) hA ha hk1 h.lh h.lu hl h.held h.used hm;obtain⟨b1,b2⟩:=vJ hC s1 s4 s6;exact⟨h.con,h.BJ,h.Fz,s1,s2,by show(C.begin _ _).length=_;rw[g_];exact s3,s4,s5,b1,b2⟩
def fq(k:aG):aA:=⟨cond k.ji 5 0,0,0, -1,false⟩
def ay.first(C:ay):aI:=⟨0,C.ah,List.replicate C.acts.length false,C.begin C.ah (C.clauses.map fq)⟩
theorem qI{C:ay}(h:C.valid=true):aK C C.first:=by
 have hC:=ay.ok h;obtain⟨b1,b2⟩:=vJ (ms:=C.clauses.map fq) hC rfl hC.held (λi m k hm hk=>by
  rw[List.getElem?_map,hk]at hm;simp only[Option.map_some,Option.some.injEq]at hm;subst hm;have hp:=hC.aD;cases hw:k.ji with
  |true=>exact .inr (.inr ⟨.inr (.inr (by simp[fq,hw])),rfl,by simp[fq],by simp[fq],by simp[fq],by simp[fq];omega,rfl⟩)
  |false=>exact .inl ⟨by simp[fq,hw],hw,rfl,rfl,rfl,rfl⟩)
 refine⟨h,Int.le_refl _,by show 0<=C.days;have:=hC.days;omega,rfl,by simp[ay.first],by simp[ay.first,g_],hC.held,?_,b1,b2⟩;intro i a hu;simp only[ay.first]at hu;have:=List.mem_of_getElem? hu;simp at this
theorem Ao{m:aA}(h:m.status=3\/m.status=4\/m.status=5):m.runs=false:=by
 cases hr:m.runs with
 |false=>rfl
 |true=>rw[jI]at hr;omega
theorem Ig{C:ay}{hs:List Int}{ms:List aA}(h:∀(i:Nat)(m:aA)(k:aG),ms[i]?=some m->C.clauses[i]?=some k->dO ms k m=false):C.begin hs ms=ms:=by
 apply yg;apply Al;intro i hi;unfold eH;cases hk:C.clauses[i]? with
 |none=>rfl
 |some k=>
  cases hm:ms[i]? with
  |none=>rfl
  |some m=>exact h i m k hm hk
theorem Ap{ms ms':List aA}{f:Nat->aA->aA}(hg:∀j:Nat,ms'[j]?=(ms[j]?).map (λm=>cond m.runs (f j m) m))(hf:∀(j:Nat)(m:aA),ms[j]?=some m->m.runs=true->f j m=m):ms'=ms:=by
 apply List.ext_getElem?;intro j;rw[hg];cases hm:ms[j]? with
 |none=>rfl
 |some m=>
  simp only[Option.map_some,Option.some.injEq];cases hr:m.runs with
  |false=>rfl
  |true=>exact hf j m hm hr
theorem Pf{C:ay}{s:aI}(h:aK C s){i:Nat}{a:dM}(hk1:a.kind=1)
 (hn:∀(j:Nat)(m:aA)(k:aG),s.marks[j]?=some m->C.clauses[j]?=some k->m.runs=true->k.act≠i/\k.pause≠i/\k.resume≠i):C.act i a s=s:=by
 have h1:C.paused i s.marks=s.marks:=Ap (jk C i s.marks) (λj m hm hr=>by
  unfold jH;cases hk:C.clauses[j]? with
  |none=>rfl
  |some k=>
   obtain⟨_,n2,n3⟩:=hn j m k hm hk hr;have e2:((i:Int)==k.pause)=false:=by simpa usingλe=>n2 e.symm
   have e3:((i:Int)==k.resume)=false:=by simpa usingλe=>n3 e.symm
   simp only[e2,e3,cond_false])
 have h2:C.oZ i (bC s.ah a) s.marks=s.marks:=Ap (kg C i _ s.marks) (λj m hm hr=>by
  unfold qC;cases hk:C.clauses[j]? with
  |none=>rfl
  |some k=>
   obtain⟨n1,_,_⟩:=hn j m k hm hk hr;have e1:(k.act==(i:Int))=false:=by simpa using n1
   simp only[e1,Bool.false_and,cond_false])
 have h3:C.begin s.ah s.marks=s.marks:=Ig h.still;have q:(a.kind !=1)=false:=by simpa using hk1
 unfold ay.act;simp only[q,Bool.false_and,cond_false,h1,h2,h3]
end
section
noncomputable section
open Classical
structure aN where
 st:aI
 own:Bool
def ay.aU(C:ay)(s:aI)(t:Int):aI:=if t= -1 then C.tick s else match C.acts[t.toNat]? with|some a=>C.act t.toNat a s|none=>s
def ay.doer(C:ay)(s:aI)(t:Int):Int:=match C.acts[t.toNat]? with|some a=>bC s.ah a|none=> -2
def ay.Kt(C:ay)(party:Int)(p:aN)(i:Nat):Prop:=(C.doer p.st i=party↔p.own=true)/\C.aU p.st i≠p.st
def ay.mI(C:ay)(p:aN):List (Int×aN):=(if p.own=true then[(-2,⟨p.st,false⟩)]else[])++(if p.own=false/\p.st.day<C.days then[(-1,⟨C.aU p.st (-1),true⟩)]else[])
def ay.mJ(C:ay)(party:Int)(p:aN)(n:Nat):List (Int×aN):=((List.range n).filter λi=>decide (C.Kt party p i)).map λ(i:Nat)=>((i:Int),(⟨C.aU p.st i,true⟩:aN))
def ay.iK(C:ay)(party:Int)(p:aN):List (Int×aN):=C.mI p++(if p.st.day<C.days then C.mJ party p C.acts.length else[])
theorem xH{C:ay}{party:Int}{p:aN}{n:Nat}:C.mJ party p (n+1)=C.mJ party p n++if C.Kt party p n then[((n:Int),⟨C.aU p.st n,true⟩)]else[]:=by
 unfold ay.mJ;rw[List.range_succ,List.filter_append,List.map_append];congr 1;by_cases h:C.Kt party p n<;>simp[h]
inductive bM (C:ay) (party:Int):aN->Prop
 |lost {p:aN}:anyFailed C p.st party=true->bM C party p
 |own {p:aN}:p.own=true->(∀m q,(m,q)∈C.iK party p->bM C party q)->bM C party p
 |jM {p:aN} {m:Int} {q:aN}:p.own=false->(m,q)∈C.iK party p->bM C party q->bM C party p
inductive wH (C:ay) (party:Int) (p:aN):aN->Prop
 |refl:wH C party p p
 |step {q r:aN} {m:Int}:wH C party p q->(m,r)∈C.iK party q->wH C party p r
theorem wH.trans{C:ay}{party:Int}{p q r:aN}(a:wH C party p q)(b:wH C party q r):wH C party p r:=by
 induction b with
 |refl=>exact a
 |step _ h ih=>exact ih.step h
def gT(C:ay)(party:Int)(p:aN):Prop:=∃l:List aN,l.Nodup/\1500<l.length/\∀q∈l,wH C party p q
theorem gT.of{C:ay}{party:Int}{p q:aN}(h:gT C party q)(k:wH C party p q):gT C party p:=
 let⟨l,h1,h2,h3⟩:=h
 ⟨l,h1,h2,λr hr=>k.trans (h3 r hr)⟩
structure bZ(C:ay)(party:Int)(p:aN)(P:List aN)(M:List (List (Int×Nat))):Prop where
 hd:P[0]?=some p
 nd:P.Nodup
 len:M.length=P.length
 mv:∀(i:Nat)(q:aN)(l:List (Int×Nat)),P[i]?=some q->M[i]?=some l->l.length=(C.iK party q).length/\∀(k:Nat)(m:Int)(j:Nat),l[k]?=some (m,j)->∃r,P[j]?=some r/\(C.iK party q)[k]?=some (m,r)
 rch:∀q∈P,wH C party p q
 small:P.length<=1500
section
variable {C:ay} {party:Int} {p q:aN} {P:List aN} {M:List (List (Int×Nat))}
theorem bZ.row(a:bZ C party p P M){i:Nat}(h:P[i]?=some q):∃l,M[i]?=some l:=
 ⟨M[i]'(by rw[a.len];exact(List.getElem?_eq_some_iff.1 h).1),List.getElem?_eq_some_iff.2 ⟨_,rfl⟩⟩
theorem bZ.at_(a:bZ C party p P M){i:Nat}{l:List (Int×Nat)}(h:P[i]?=some q)(hl:M[i]?=some l){k:Nat}{m:Int}{r:aN}(hk:(C.iK party q)[k]?=some (m,r)):∃j,l[k]?=some (m,j)/\P[j]?=some r:=by
 obtain⟨h1,h2⟩:=a.mv i q l h hl;have hlt:k<l.length:=by rw[h1];exact(List.getElem?_eq_some_iff.1 hk).1
 obtain⟨r',h3,h4⟩:=h2 k l[k].1 l[k].2 (List.getElem?_eq_some_iff.2 ⟨hlt,rfl⟩);rw[hk]at h4;cases h4
 exact⟨_,List.getElem?_eq_some_iff.2 ⟨hlt,rfl⟩,h3⟩
theorem bZ.move(a:bZ C party p P M){i:Nat}{l:List (Int×Nat)}(h:P[i]?=some q)(hl:M[i]?=some l){m:Int}{r:aN}(hk:(m,r)∈C.iK party q):∃j,(m,j)∈l/\P[j]?=some r:=by
 obtain⟨k,hk⟩:=List.getElem?_of_mem hk;obtain⟨j,h1,h2⟩:=a.at_ h hl hk;exact⟨j,List.mem_of_getElem? h1,h2⟩
theorem bZ.back(a:bZ C party p P M){i:Nat}{l:List (Int×Nat)}(h:P[i]?=some q)(hl:M[i]?=some l){m:Int}{j:Nat}(hk:(m,j)∈l):∃r,P[j]?=some r/\(m,r)∈C.iK party q:=by
 obtain⟨k,hk⟩:=List.getElem?_of_mem hk;obtain⟨r,h1,h2⟩:=(a.mv i q l h hl).2 k m j hk;exact⟨r,h1,List.mem_of_getElem? h2⟩
theorem bZ.closed(a:bZ C party p P M)(h:wH C party p q):q∈P:=by
 induction h with
 |refl=>exact List.mem_of_getElem? a.hd
 |step _ hm ih=>
  obtain⟨i,hi⟩:=List.getElem?_of_mem ih;obtain⟨l,hl⟩:=a.row hi;obtain⟨j,_,h2⟩:=a.move hi hl hm;exact List.mem_of_getElem? h2
theorem LK{l P:List aN}(h:l.Nodup)(hs:∀q∈l,q∈P):l.length<=P.length:=by
 induction l generalizing P with
 |nil=>exact Nat.zero_le _
 |cons a l ih=>
  rw[List.nodup_cons]at h;have ha:=hs a (by simp);have:=ih (P:=P.erase a) h.2 λq hq=>(List.mem_erase_of_ne (λe=>h.1 (by rw[<-e];exact hq))).2 (hs q (by simp[hq]));rw[List.length_erase_of_mem ha]at this;have:=List.length_pos_of_mem ha;simp only[List.length_cons];omega
theorem bZ.Pg(a:bZ C party p P M)(h:wH C party p q):¬gT C party q:=λ⟨l,h1,h2,h3⟩=>by
 have:=LK h1 λr hr=>a.closed (h.trans (h3 r hr));have:=a.small;omega
end
structure qJ(C:ay)(party:Int)(P:List aN)(M:List (List (Int×Nat)))(r:List Int):Prop where
 len:r.length=P.length
 neg:∀(i:Nat)(x:Int),r[i]?=some x-> -1<=x
 lost:∀(i:Nat)(p:aN)(x:Int),P[i]?=some p->r[i]?=some x->(x=0↔anyFailed C p.st party=true)
 own:∀(i:Nat)(p:aN)(l:List (Int×Nat))(x:Int),P[i]?=some p->M[i]?=some l->r[i]?=some x->p.own=true->0<x->∀m j,(m,j)∈l->∃y,r[j]?=some y/\0<=y/\y<x
 jM:∀(i:Nat)(p:aN)(l:List (Int×Nat))(x:Int),P[i]?=some p->M[i]?=some l->r[i]?=some x->p.own=false->0<x->∃m j y,(m,j)∈l/\r[j]?=some y/\0<=y/\y<x
 Td:∀(i:Nat)(p:aN)(l:List (Int×Nat)),P[i]?=some p->M[i]?=some l->r[i]?=some (-1)->p.own=true->∃m j,(m,j)∈l/\r[j]?=some (-1)
 Te:∀(i:Nat)(p:aN)(l:List (Int×Nat)),P[i]?=some p->M[i]?=some l->r[i]?=some (-1)->p.own=false->∀m j,(m,j)∈l->r[j]?=some (-1)
section
variable {C:ay} {party:Int} {p q:aN} {P:List aN} {M:List (List (Int×Nat))} {r:List Int}
theorem qJ.XI(a:bZ C party p P M)(k:qJ C party P M r):∀(x:Nat)(i:Nat)(q:aN),P[i]?=some q->r[i]?=some (x:Int)->bM C party q:=by
 intro x;induction x using Nat.strongRecOn with
 |_ x ih=>
  intro i q hi hx;by_cases h0:x=0
  .subst h0
   exact .lost ((k.lost i q 0 hi hx).1 rfl)
  .obtain⟨l,hl⟩:=a.row hi
   cases ho:q.own with
   |true=>
    refine .own ho λm q' hm=>?_;obtain⟨j,h1,h2⟩:=a.move hi hl hm;obtain⟨y,h3,h4,h5⟩:=k.own i q l x hi hl hx ho (by omega) m j h1;obtain⟨z,rfl⟩:=Int.eq_ofNat_of_zero_le h4;exact ih z (by omega) j q' h2 h3
   |false=>
    obtain⟨m,j,y,h1,h3,h4,h5⟩:=k.jM i q l x hi hl hx ho (by omega);obtain⟨q',h2,hm⟩:=a.back hi hl h1;obtain⟨z,rfl⟩:=Int.eq_ofNat_of_zero_le h4;exact .jM ho hm (ih z (by omega) j q' h2 h3)
theorem qJ.Tf(a:bZ C party p P M)(k:qJ C party P M r)(h:bM C party q):∀i:Nat,P[i]?=some q->r[i]?≠some (-1):=by
 induction h with
 |lost hf=>
  intro i hi e;have:=(k.lost i _ _ hi e).2 hf;omega
 |own ho _ ih=>
  intro i hi e;obtain⟨l,hl⟩:=a.row hi;obtain⟨m,j,h1,h2⟩:=k.Td i _ l hi hl e ho;obtain⟨q',h3,h4⟩:=a.back hi hl h1;exact ih m q' h4 j h3 h2
 |jM ho hm _ ih=>
  intro i hi e;obtain⟨l,hl⟩:=a.row hi;obtain⟨j,h1,h2⟩:=a.move hi hl hm;exact ih j h2 (k.Te i _ l hi hl e ho _ j h1)
theorem qJ.safe(a:bZ C party p P M)(k:qJ C party P M r){i:Nat}{x:Int}(h:P[i]?=some q)(hx:r[i]?=some x):x= -1↔¬bM C party q:=by
 constructor
 .rintro rfl hd
  exact k.Tf a hd i h hx
 .intro hn
  have:=k.neg i x hx;by_cases e:x= -1
  .exact e
  .obtain⟨z,rfl⟩:=Int.eq_ofNat_of_zero_le (show 0<=x by omega)
   exact absurd (k.XI a z i q h hx) hn
end
def ay.decide(C:ay)(party:Int)(s s':aI)(t:Int):aN:=if 0<=t/\C.doer s t=party then⟨s',true⟩else⟨s,false⟩
structure fu(C:ay)(s:aI)(l:List Int)(S:List aI):Prop where
 hd:S[0]?=some s
 len:S.length=l.length+1
 step:∀(k:Nat)(t:Int)(a:aI),l[k]?=some t->S[k]?=some a-> -1<=t/\t<C.acts.length/\a.day<C.days/\S[k+1]?=some (C.aU a t)
theorem fu.nil(C:ay)(s:aI):fu C s [] [s]:=⟨rfl,rfl,λk t a h=>by cases h⟩
theorem fu.snoc{C:ay}{s:aI}{l:List Int}{S:List aI}(h:fu C s l S){t:Int}{a:aI}(ha:S[l.length]?=some a)(h1: -1<=t)(h2:t<C.acts.length)(h3:a.day<C.days):fu C s (l++[t]) (S++[C.aU a t]):=by
 have hl:=h.len;refine⟨?_,by simp[hl],λk u b hu hb=>?_⟩
 .rw[List.getElem?_append_left (by omega)];exact h.hd
 .by_cases hk:k<l.length
  .rw[List.getElem?_append_left hk]at hu
   rw[List.getElem?_append_left (by omega)]at hb;obtain⟨g1,g2,g3,g4⟩:=h.step k u b hu hb;refine⟨g1,g2,g3,?_⟩;rw[List.getElem?_append_left (by omega)];exact g4
  .have hk2:k<(l++[t]).length:=(List.getElem?_eq_some_iff.1 hu).1
   obtain rfl:k=l.length:=by simp at hk2;omega
   rw[List.getElem?_append_right (Nat.le_refl _)]at hu;rw[List.getElem?_append_left (by omega),ha]at hb;simp at hu;subst hu;cases hb
   refine⟨h1,h2,h3,?_⟩;rw[List.getElem?_append_right (by omega),hl];simp
end
end
section
noncomputable section
structure dU where
 pos:aN
 move:Int
 rank:Int
def ay.toPos(C:ay)(p:aN)(m:Int):aN:=if m= -2 then⟨p.st,false⟩else⟨C.aU p.st m,true⟩
def Ph(l:List dU)(q:aN):Prop:=∃x∈l,x.pos=q
def XJ(l:List dU)(q:aN)(r:Int):Prop:=∃x∈l,x.pos=q/\x.rank<r
def Pj(C:ay)(party:Int)(l:List dU)(x:dU):Prop:=anyFailed C x.pos.st party=false/\
 (x.pos.own=true->x.move∈(C.iK party x.pos).map (·.1)/\Ph l (C.toPos x.pos x.move))/\(x.pos.own=false->∀m∈(C.iK party x.pos).map (·.1),Ph l (C.toPos x.pos m))
def FC(C:ay)(party:Int)(l:List dU)(x:dU):Prop:=(x.rank<=0->x.rank=0/\anyFailed C x.pos.st party=true)/\
 (0<x.rank->x.pos.own=false->x.move∈(C.iK party x.pos).map (·.1)/\XJ l (C.toPos x.pos x.move) x.rank)/\(0<x.rank->x.pos.own=true->∀m∈(C.iK party x.pos).map (·.1),XJ l (C.toPos x.pos m) x.rank)
structure LM(C:ay)(party:Int)(R:List dU->dU->Prop)(l:List dU):Prop where
 p0:0<=party
 p1:party<C.aD
 l0:1<=l.length
 l1:l.length<=1500
 ok:∀x∈l,C.dB x.pos.st=true
 row:∀x∈l,R l x
section
variable {C:ay} {party:Int} {p q:aN} {l:List dU}
theorem Pk{m:Int}(h:(m,q)∈C.iK party p):q=C.toPos p m:=by
 unfold ay.iK ay.mI at h;unfold ay.toPos;rcases List.mem_append.1 h with h|h
 .rcases List.mem_append.1 h with h|h
  .split at h
   .simp at h;rw[h.1,if_pos rfl,h.2]
   .cases h
  .split at h
   .simp at h;rw[h.1,if_neg (by decide),h.2]
   .cases h
 .split at h
  .unfold ay.mJ at h
   obtain⟨i,_,e⟩:=List.mem_map.1 h;cases e
   rw[if_neg (by omega)]
  .cases h
theorem D8{m:Int}(h:m∈(C.iK party p).map (·.1)):(m,C.toPos p m)∈C.iK party p:=by
 obtain⟨x,hx,rfl⟩:=List.mem_map.1 h;have:=Pk (m:=x.1) (q:=x.2) hx;rw[<-this];exact hx
theorem LP(h:∀x∈l,FC C party l x):∀(k:Nat)(x:dU),x∈l->x.rank=k->bM C party x.pos:=by
 intro k;induction k using Nat.strongRecOn with
 |_ k ih=>
  intro x hx hk;obtain⟨h1,h2,h3⟩:=h x hx;have below:∀q,XJ l q x.rank->bM C party q:=by
   rintro q ⟨y,hy,rfl,hlt⟩;have h0:0<=y.rank:=by
    by_cases hn:y.rank<=0
    .have:=((h y hy).1 hn).1;omega
    .omega
   obtain⟨z,hz⟩:=Int.eq_ofNat_of_zero_le h0;exact ih z (by omega) y hy hz
  by_cases h0:x.rank<=0
  .exact .lost (h1 h0).2
  .cases ho:x.pos.own with
   |true=>
    refine .own ho λm q hm=>?_;have:=h3 (by omega) ho m (List.mem_map.2 ⟨_,hm,rfl⟩);rw[Pk hm];exact below _ this
   |false=>
    obtain⟨g1,g2⟩:=h2 (by omega) ho;exact .jM ho (D8 g1) (below _ g2)
theorem LM.XI(h:LM C party (FC C party) l)(hq:Ph l q):bM C party q:=by
 obtain⟨x,hx,rfl⟩:=hq;have h0:0<=x.rank:=by
  by_cases hn:x.rank<=0
  .have:=((h.row x hx).1 hn).1;omega
  .omega
 obtain⟨z,hz⟩:=Int.eq_ofNat_of_zero_le h0;exact LP h.row z x hx hz
end
end
end
section
noncomputable section
theorem aC{k:Nat}{g:FuncId}{kb:List Bool}{m:MC}{rs:List MS}{args:List AV}{h:AH}{n:Nat}{Q:AV->AH->Nat->Prop}(hc:yc Tryz.prog sl0 g=some (kb,m,rs))(hl:args.length=kb.length)
 (e:sK Tryz.prog Y0 g 100000 [.c m] .bX (EF k) h n (yR 0 kb args) (Kn rs Q))(hg:Nat.beq g Nr=false:=by rfl)(hg':Nat.beq g RJ=false:=by rfl):CW (EF (k+1)) g args h n Q:=by
 obtain⟨v,h',n',e1,e2⟩:=OL hc hl e;refine⟨v,h',n',?_,e2⟩;show@Option.rec fH (λ_=>fH) ((WL Tryz.prog sl0 g).run (EF k) args h n) (λr=>r) (bc (Nat.beq g RJ) _ (bc (Nat.beq g Nr) _ none))=_;rw[hg',hg];exact e1
theorem Up.ge{h:AH}{n m:Nat}(e:n<=m):Up h n h m:=⟨e,λ_ _=>rfl⟩
theorem Up.wk{h:AH}{n:Nat}{h':AH}{n' m:Nat}(a:Up h n h' n')(e:n'<=m):Up h n h' m:=⟨Nat.le_trans a.le e,a.old⟩
theorem aH{h:AH}{n:Nat}{h':AH}{n':Nat}(q:Up h n h' n':=by(repeat' (first|(with_reducible refine Up.ge ?_;omega)|assumption|refine Up.st ?_ _ _ (by omega)|(apply Up.trans;rotate_left;first|assumption|(apply Up.wk;assumption;omega))|(apply Up.wk;assumption;omega)))):Up h n h' n':=q
attribute [go_sem] decide_true decide_false Bool.not_true Bool.not_false BEq.rfl Bool.true_beq Bool.false_beq Nat.add_zero true_and and_true
abbrev av(x:Int):AV:=.i .i64 x
@[reducible] def bA.av (r:bA):List AV:=[.i .i64 r.num,.i .i64 r.den]
@[reducible] def dM.av (a:dM):List AV:=[.i .i64 a.kind,.i .i64 a.role,.i .i64 a.give,.i .i64 a.tgt,.i .i64 a.unit,.i .i64 a.lot.num,.i .i64 a.lot.den]
@[reducible] def bU.av (k:bU):List AV:=[.i .i64 k.clause,.i .i64 k.is]
@[reducible] def dP.av (u:dP):List AV:=[.s u.name.toList,.i .i64 u.kind,.i .i64 u.base,.i .i64 u.factor.num,.i .i64 u.factor.den]
@[reducible] def aA.av (m:aA):List AV:=[.i .i64 m.status,.i .i64 m.left,.i .i64 m.got,.i .i64 m.aT,.b m.paused]
@[reducible] def aG.av (k:aG) (s:AV):List AV:=
 [.i .i64 k.kind,.i .i64 k.role,.i .i64 k.act,.i .i64 k.need,s,.i .i64 k.after,.i .i64 k.gK,.b k.iA,.b k.final,.i .i64 k.pause,.i .i64 k.resume,.i .i64 k.value.num,.i .i64 k.value.den,.i .i64 k.unit,.i .i64 k.tgt,.b k.ji]
structure CS where
 h:AV
 u:AV
 a:AV
 k:AV
 o:AV
@[reducible] def CS.av (v:CS) (C:ay):List AV:=[.i .i64 C.aD,v.h,v.u,v.a,v.k,.i .i64 C.days,v.o]
structure TS where
 h:AV
 u:AV
 m:AV
@[reducible] def TS.av (v:TS) (s:aI):List AV:=[.i .i64 s.day,v.h,v.u,v.m]
def SL(h:AH)(n w:Nat)(v:AV){α:Type}(c:α->List AV)(l:List α):Prop:=(∀a,(c a).length=w)/\SR h n w v l.length (l.flatMap c)
section
variable {h:AH} {n w:Nat} {v:AV} {α:Type} {c:α->List AV} {l:List α} {h':AH} {n':Nat}
theorem SL.up(s:SL h n w v c l)(u:Up h n h' n'):SL h' n' w v c l:=⟨s.1,s.2.up u⟩
theorem SL.len(s:SL h n w v c l):GA (some v)=some (.i .i64 (l.length:Nat)):=Ca s.2.len
theorem SL.cl(s:SL h n w v c l):pO v=some [v]:=s.2.cl
theorem SL.of{x t m:Nat}{cells:List AV}{cap:Option Nat}{lo:Nat}(hw:∀a,(c a).length=w)(hx:x<n)(hg:h.get x=some (.row t cells))(hc:cells=l.flatMap c)(hm:m=l.length)(hk:∀k,cap=some k->m<=k):SL h n w (.sl x lo 0 m cap) c l:=by
 subst hc;subst hm;have hl:(l.flatMap c).length=l.length*w:=by
  clear hg hk;induction l with
  |nil=>simp
  |cons a l ih=>rw[List.flatMap_cons,List.length_append,hw,ih,List.length_cons,Nat.succ_mul];omega
 exact⟨hw,.inr (.inl ⟨x,lo,0,cap,rfl,hx,by rw[hg];exact .of (m:=(l.flatMap c).length) (by omega) (by rw[List.drop_zero,List.take_length]),hl,hk⟩)⟩
theorem SL.take(s:SL h n w v c l){i:Nat}(h0:0<l.length)(hi:i<=l.length):∃y,Vo w (some v) (some none) (some (some (i:Nat)))=some y/\SL h n w y c (l.take i):=by
 obtain⟨hw,s⟩:=s;rcases s with⟨_,e,_⟩|⟨x,lo,o,cp,rfl,e2,e3,e4,e6⟩|⟨_,_,_,e,_⟩
 rotate_left 2
 .omega
 .omega
 have hc:(l.flatMap c).take (i*w)=(l.take i).flatMap c:=by
  clear e6 e4 e3 h0;induction l generalizing i with
  |nil=>simp
  |cons a l ih=>
   cases i with
   |zero=>simp
   |succ i=>
    rw[List.take_succ_cons,List.flatMap_cons,List.flatMap_cons,Nat.succ_mul,Nat.add_comm (i*w) w,List.take_append,hw];rw[List.take_of_length_le (by rw[hw];omega),show w+i*w - w=i*w by omega];rw[ih (by simpa using hi)]
 have e3':=e3.take (i*w);rw[hc]at e3';have hm:i*w<=l.length*w:=Nat.mul_le_mul_right w hi;have e4':((l.take i).flatMap c).length=(l.take i).length*w:=by rw[<-hc,List.length_take,List.length_take,e4,Nat.min_eq_left hm,Nat.min_eq_left hi]
 cases cp with
 |none=>
  refine⟨.sl x lo o i none,?_,hw,.inr (.inl ⟨x,lo,o,none,?_,e2,e3',e4',λk hk=>by cases hk⟩)⟩
  .show bc (Nat.ble 0 i) (bc (Nat.ble i l.length) (bc (Nat.beq 0 0) (some (AV.sl x lo o i none)) _) none) none=_
   rw[Nat.ble_eq_true_of_le (Nat.zero_le _),bD,Nat.ble_eq_true_of_le hi,bD];rfl
  .rw[List.length_take,Nat.min_eq_left hi]
 |some k=>
  have hk:=e6 k rfl;refine⟨.sl x 0 o i (some k),?_,hw,.inr (.inl ⟨x,0,o,some k,?_,e2,e3',e4',λk' hk'=>by cases hk';rw[List.length_take];omega⟩)⟩
  .show bc (Nat.ble 0 i) (bc (Nat.ble i k) (some (AV.sl x 0 (bc (Nat.beq k 0) o (Nat.add o (Nat.mul 0 w))) (Nat.sub i 0) (some (Nat.sub k 0)))) none) none=_
   rw[Nat.ble_eq_true_of_le (Nat.zero_le _),bD,Nat.ble_eq_true_of_le (by omega:i<=k),bD];have:bc (Nat.beq k 0) o (Nat.add o (Nat.mul 0 w))=o:=by
    have e:Nat.add o (Nat.mul 0 w)=o:=by show o+0*w=o;omega
    rw[e];cases Nat.beq k 0<;>rfl
   rw[this];rfl
  .rw[List.length_take,Nat.min_eq_left hi]
theorem SL.nil(hw:∀a,(c a).length=w):SL h n w (.k 1) c []:=⟨hw,.inl ⟨rfl,rfl,rfl⟩⟩
end
structure RD(h:AH)(b o w:Nat)(cs:List AV):Prop where
 el:∀j,j<w->pG (h.get b) (o+j) none=nv cs j
 hd:pG (h.get b) o none=nv cs 0
 all:pG (h.get b) o (some w)=some (.agg cs)
 pre':∀k,k<=w->pG (h.get b) o (some k)=some (.agg (cs.take k))
theorem SL.rd{h:AH}{n w:Nat}{v:AV}{α:Type}{c:α->List AV}{l:List α}(s:SL h n w v c l){i:Nat}{a:α}(hi:l[i]?=some a)(hw:0<w){b o:Nat}
 (q1:∀j,j<w->pG (h.get b) (o+j) none=(l.flatMap c)[i*w+j]?)(q2:∀m,m<=w->pG (h.get b) o (some m)=some (.agg (((l.flatMap c).drop (i*w)).take m))):RD h b o w (c a):=by
 have q0:∀j,j<w->pG (h.get b) (o+j) none=nv (c a) j:=λj hj=>by rw[q1 j hj,w9 s.1 hi hj,tF]
 exact⟨q0,q0 0 hw,by rw[q2 w (Nat.le_refl _),ou s.1 hi],λk hk=>by rw[q2 k hk,<-ou s.1 hi,List.take_take,Nat.min_eq_left hk]⟩
theorem Ih{α:Type}{l:List α}{k:Int}(h0:0<=k)(h1:k<l.length):∃a,l[k.toNat]?=some a:=⟨l[k.toNat],List.getElem?_eq_some_iff.2 ⟨by omega,rfl⟩⟩
theorem iD{S:SK}{h0 h:AH}{n0 n w:Nat}{v:AV}{α:Type}{c:α->List AV}{l:List α}{d:MD}{r:List MR}{l':List AV}{s:List It}{f:FT}{F:Fm}{Q:PQ}(hs:SL h0 n0 w v c l){k:Int}(h1:0<=k)(h2:k<l.length)(hw:0<w)
 (q:∀b o a,l[k.toNat]?=some a->b<n0->RD h0 b o w (c a)->mG S d (.p b o) r l' s f h n F Q):Vq S w (some v) (some (.i .i64 k)) d r l' s f h n F Q:=by
 obtain⟨a,ha⟩:=Ih h1 h2;obtain⟨i,rfl⟩:=Int.eq_ofNat_of_zero_le h1;exact show IA w v i λp=>mG S d p r l' s f h n F Q from hs.2.ia (Up.refl _ _) rfl (by simpa using h2) λb o h3 h4 h5=>q b o a ha h3 (hs.rd ha hw h4 h5)
theorem SL.dL{h:AH}{n w:Nat}{v:AV}{α:Type}{c:α->List AV}{l:List α}(hs:SL h n w v c l){k:Int}(h1:0<=k)(h2:k<l.length)(hw:0<w):
 ∃b o a,dL w (some v) (some (.i .i64 k))=some (.p b o)/\l[k.toNat]?=some a/\b<n/\RD h b o w (c a):=by
 obtain⟨a,ha⟩:=Ih h1 h2;obtain⟨i,rfl⟩:=Int.eq_ofNat_of_zero_le h1;rcases hs.2 with⟨_,e,_⟩|⟨x,lo,o,cp,rfl,e2,e3,e4,e6⟩|⟨_,_,_,e,_⟩
 rotate_left 2
 .omega
 .omega
 have key:IA w (.sl x lo o l.length cp) (i:Nat) λp=>∃b o',p= .p b o'/\l[i]?=some a/\b<n/\RD h b o' w (c a):=hs.2.ia (Up.refl _ _) rfl (by simpa using h2) λb o h3 h4 h5=>⟨b,o,rfl,ha,h3,hs.rd ha hw h4 h5⟩;obtain⟨b',lo',o',m,cp',q1,q2,q3,b2,o2,q4,q5,q6,q7⟩:=key;cases q1
 cases q4
 refine⟨x,_,a,?_,ha,e2,q7⟩;show(if 0<=(i:Int)/\(i:Int)<(l.length:Nat)then some (AV.p x (o+(i:Int).toNat*w))else none)=_;rw[if_pos ⟨h1,h2⟩]
def yu(h:AH)(n:Nat)(v:AV)(l:List aG)(ss:List AV):Prop:=ss.length=l.length/\SR h n 16 v l.length ((l.zip ss).flatMap λp=>p.1.av p.2)/\∀(i:Nat)(k:aG)(t:AV),l[i]?=some k->ss[i]?=some t->SL h n 2 t bU.av k.start
structure aY(h:AH)(n:Nat)(v:CS)(C:ay):Prop where
 ah:SL h n 1 v.h (λx:Int=>[AV.i .i64 x]) C.ah
 units:SL h n 5 v.u dP.av C.units
 acts:SL h n 7 v.a dM.av C.acts
 clauses:∃ss,yu h n v.k C.clauses ss
 off:SL h n 1 v.o (λx:Int=>[AV.i .i64 x]) C.off
structure bI(h:AH)(n:Nat)(v:TS)(s:aI):Prop where
 ah:SL h n 1 v.h (λx:Int=>[AV.i .i64 x]) s.ah
 used:SL h n 1 v.u (λx:Bool=>[AV.b x]) s.used
 marks:SL h n 5 v.m aA.av s.marks
section
variable {h:AH} {n:Nat} {h':AH} {n':Nat}
theorem aY.up{v:CS}{C:ay}(s:aY h n v C)(u:Up h n h' n'):aY h' n' v C:=by
 refine⟨s.ah.up u,s.units.up u,s.acts.up u,?_,s.off.up u⟩;obtain⟨ss,h1,h2,h3⟩:=s.clauses;exact⟨ss,h1,h2.up u,λi k t a b=>(h3 i k t a b).up u⟩
theorem bI.up{v:TS}{s:aI}(a:bI h n v s)(u:Up h n h' n'):bI h' n' v s:=⟨a.ah.up u,a.used.up u,a.marks.up u⟩
theorem aY.lk{v:CS}{C:ay}(s:aY h n v C):GA (some v.k)=some (.i .i64 (C.clauses.length:Nat)):=by
 obtain⟨ss,h1,h2,h3⟩:=s.clauses;exact Ca h2.len
end
theorem oF{S:SK}{h0 h:AH}{n0 n:Nat}{v:CS}{C:ay}{d:MD}{r:List MR}{l':List AV}{s:List It}{f:FT}{F:Fm}{Q:PQ}(hs:aY h0 n0 v C){k:Int}(h1:0<=k)(h2:k<C.clauses.length)
 (q:∀b o a t,C.clauses[k.toNat]?=some a->b<n0->SL h0 n0 2 t bU.av a.start->RD h0 b o 16 (a.av t)->mG S d (.p b o) r l' s f h n F Q):Vq S 16 (some v.k) (some (.i .i64 k)) d r l' s f h n F Q:=by
 obtain⟨ss,e1,e2,e3⟩:=hs.clauses;obtain⟨a,ha⟩:=Ih h1 h2;obtain⟨i,rfl⟩:=Int.eq_ofNat_of_zero_le h1;have hi:i<C.clauses.length:=by simpa using h2
 obtain⟨t,ht⟩:∃t,ss[i]?=some t:=⟨ss[i],List.getElem?_eq_some_iff.2 ⟨by omega,rfl⟩⟩;have hz:(C.clauses.zip ss)[i]?=some (a,t):=by rw[List.getElem?_zip_eq_some];exact⟨ha,ht⟩
 have hl:(C.clauses.zip ss).length=C.clauses.length:=by simp[e1]
 exact show IA 16 v.k i λp=>mG S d p r l' s f h n F Q from e2.ia (Up.refl _ _) rfl hi λb o h3 h4 h5=>q b o a t ha h3 (e3 i a t ha ht) (SL.rd (c:=λp:aG×AV=>p.1.av p.2) (l:=C.clauses.zip ss) ⟨λ_=>rfl,by rw[hl];exact e2⟩ hz (by omega) h4 h5)
section
variable {P:Program} {Y:YT} {S:SK} {b w:Bool} {i:MI} {d:MD} {r:List MR} {l:List AV} {s:List It} {f:FT} {h:AH} {n:Nat} {F:Fm} {Q:PQ}
theorem zh{x y:MC}(h1:b=true->kB S (some (.b b)) x y s f h n F Q)(h2:b=false->kB S (some (.b b)) x y s f h n F Q):kB S (some (.b b)) x y s f h n F Q:=by
 cases hb:b with
 |true=>subst hb;exact h1 rfl
 |false=>subst hb;exact h2 rfl
end
class Aq (b:Bool) (p q:outParam Prop):Prop where
 ok:(b=true->p)/\(b=false->q)
instance (priority:=low) bcA (b:Bool):Aq b (b=true) (b=false):=⟨id,id⟩
instance bcD (p:Prop) [Decidable p]:Aq (decide p) p (¬p):=⟨of_decide_eq_true,of_decide_eq_false⟩
instance bcN (b:Bool) (p q:Prop) [Aq b p q]:Aq (!b) q p:=⟨λh=>Aq.ok.2 (by simpa using h),λh=>Aq.ok.1 (by simpa using h)⟩
class vK (G:Prop) (b:outParam Bool):Prop where
 ok:(b=true->G)->(b=false->G)->G
theorem aS{G p q:Prop}{b:Bool}[g:vK G b][c:Aq b p q](h1:b=true->p->G)(h2:b=false->q->G):G:=g.ok (λh=>h1 h (c.ok.1 h)) λh=>h2 h (c.ok.2 h)
section
variable {P:Program} {Y:YT} {S:SK} {b w:Bool} {i:MI} {d:MD} {r:List MR} {l:List AV} {s:List It} {f:FT} {h:AH} {n:Nat} {F:Fm} {Q:PQ}
theorem vK.of{b:Bool}(G:Prop):vK G b:=⟨λh1 h2=>by cases b with|true=>exact h1 rfl|false=>exact h2 rfl⟩
instance:vK (kW P Y S (some (.b b)) w i d r l s f h n F Q) b:=.of _
instance {x y:MC}:vK (kB S (some (.b b)) x y s f h n F Q) b:=.of _
instance {x y:Option AV}:vK (kS S (xZ (some (.b b)) x y) d r l s f h n F Q) b:=.of _
variable {D:DK} {l':List MQ} {j r' n0:Nat} {vs u:List AV} {hs:List (Nat×AH)}
instance {x:Option AV}:vK (dV D (XE (Vt w (some (.b b))) x) l' j r' n0 f h n vs hs F) b:=.of _
instance {x y:Option AV}:vK (dV D (xZ (some (.b b)) x y) l' j r' n0 f h n vs hs F) b:=.of _
instance:vK (dG P Y D (Vt w (some (.b b))) i u l' j r' n0 f h n vs hs F) b:=.of _
end
theorem aR{Y:YT}{S:SK}{q:FuncId}{c:List AV}{d:MD}{r:List MR}{l:List AV}{s:List It}{f:FT}{h:AH}{n:Nat}{F:Fm}{Q:PQ}:kF Y S (some (.f q [])) (some c) d r l s f h n F Q=CW f q c h n λv h n=>mG S d v r l s f h n F Q:=by rw[DX,List.append_nil]
theorem bF{Y:YT}{D:DK}{q:FuncId}{c:List AV}{l:List MQ}{j r n0:Nat}{f:FT}{h:AH}{n:Nat}{vs:List AV}{hs:List (Nat×AH)}{F:Fm}:dF Y D (some (.f q [])) (some c) l j r n0 f h n vs hs F=CW f q c h n λv h n=>D l (j+1) r n0 f h n (v::vs) ((j+1,h)::hs) F:=by rw[w_,List.append_nil]
theorem gI{h:AH}{n:Nat}{m x:Bool}{Q:AV->AH->Nat->Prop}(hQ:∀h' n',Up h n h' n'->Q (.b m) h' n'){h1:AH}{n1:Nat}(u:Up h n h1 n1)(e1:x=true->m=true)(e2:x=false->m=false):Q (.b x) h1 n1:=by
 have e:m=x:=by cases x with|true=>exact e1 rfl|false=>exact e2 rfl
 subst e;exact hQ _ _ u
theorem ieq(a b:Int):(a==b)=decide (a=b):=by by_cases h:a=b<;>simp[h]
theorem dh{h:AH}{n:Nat}{m x:Bool}{Q:AV->AH->Nat->Prop}(hQ:∀h' n',Up h n h' n'->Q (.b m) h' n'){h1:AH}{n1:Nat}(e:m=x)(u:Up h n h1 n1):Q (.b x) h1 n1:=by subst e;exact hQ _ _ u
section
variable {P:Program} {ty:TypeId} {a b:Int}
@[go_sem] theorem abu:(eB P ty .eql).run (.i .u64 a) (.i .u64 b)=some (.b (decide (a=b))):=by
 show bc true (some (AV.b (gu a b))) none=_;rw[bD,dz]
@[go_sem] theorem abv:(eB P ty .neq).run (.i .u64 a) (.i .u64 b)=some (.b (!decide (a=b))):=by
 show bc true (some (AV.b (qY (gu a b)))) none=_;rw[bD,jL,dz]
@[go_sem] theorem abw:(eB P ty .add).run (.i .u64 a) (.i .u64 b)=some (.i .u64 (gN .u64 (a+b))):=rfl
def XK(k:IntKind)(a b:Int):Option AV:=if b=0 then none else some (.i k (Int.tmod a b))
theorem Tg{k:IntKind}{a b:Int}(h:b≠0):XK k a b=some (.i k (Int.tmod a b)):=if_neg h
@[go_sem] theorem abx:(eB P ty .rem).run (.i .u64 a) (.i .u64 b)=XK .u64 a b:=by
 show bc true (bc (gu b 0) none (some (AV.i .u64 (Int.tmod a b)))) none=_;rw[bD,dz];unfold XK;by_cases h:b=0<;>simp[h,bc]
@[go_sem] theorem aby {x y:List UInt8}:(eB P ty .eql).run (.s x) (.s y)=some (.b (decide (x=y))):=by
 show some (AV.b (bc false (qY (sj x y)) (sj x y)))=_;rw[gH,jy];by_cases h:x=y<;>simp[h]
@[go_sem] theorem abz {x y:List UInt8}:(eB P ty .neq).run (.s x) (.s y)=some (.b (!decide (x=y))):=by
 show some (AV.b (bc true (qY (sj x y)) (sj x y)))=_;rw[bD,jy,jL];by_cases h:x=y<;>simp[h]
theorem vL{x:Int}(h1:0<=x)(h2:x<=18446744073709551615):gN .u64 x=x:=by
 unfold gN;rw[eZ,eZ,show IntKind.u64.min=0 from by decide,show IntKind.u64.max=18446744073709551615 from by decide];simp[h1,h2,bc]
end
def RgI(R:Nat->Prop)(hb:AH)(nb:Nat)(G0:Nat->Fm):Nat->AH->Nat->Fm->Prop:=λk h n G=>R k/\Up hb nb h n/\G=G0 k
section
variable {P:Program} {Y:YT} {g:FuncId} {f:FT} {R:Nat->Prop} {hb:AH} {nb:Nat} {G0:Nat->Fm} {k i L N B1:Nat} {s:List It} {Q:PQ} {h:AH} {n:Nat} {F:Fm}
@[go_sem ↓] theorem amN {I:Nat->AH->Nat->Fm->Prop} {j:Nat}:Vu P Y g I k i L N B1 s f Q (.exit j) h n F=if j=B1 then Vu P Y g I k i L N B1 s f Q .bX h n F else sK P Y g 100000 s (.exit j) f h n F Q:=bG rfl
@[go_sem ↓] theorem amO {I:Nat->AH->Nat->Fm->Prop}:Vu P Y g I k i L N B1 s f Q .ret h n F=sK P Y g 100000 s .ret f h n F Q:=bG rfl
theorem iO(h1:lk F i=some (.i .i64 (k:Nat)))(h2:lk F L=some (.i .i64 (N:Nat)))(h3:R (k+1))(h4:Up hb nb h n)(h5:∀m v,lk (G0 (k+1)) m=some v->lk F m=some v):Vu P Y g (RgI R hb nb G0) k i L N B1 s f Q .bX h n F:=
 ⟨h1,h2,_,⟨h3,h4,rfl⟩,h5⟩
theorem gP{ty c B:Nat}{body:MC}(N:Nat)(R:Nat->Prop)(hb:AH)(nb:Nat)(G0:Nat->Fm)(hN:N<=1125899906842623)(hic:i≠c)(hLc:L≠c)(hiL:i≠L)
 (hfr:∀k,lk (G0 k) c=none/\lk (G0 k) i=none)(e1:lk F i=some (.i .i64 0))(e2:lk F L=some (.i .i64 (N:Nat)))(e3:∀m v,lk (G0 0) m=some v->lk F m=some v)(u:Up hb nb h n)(r0:R 0)
 (step:∀k h n,k<N->R k->Up hb nb h n->sK P Y g 100000 [.c body] .bX f h n (pt (pt (G0 k) L (.i .i64 (N:Nat))) i (.i .i64 (k:Nat))) (Vu P Y g (RgI R hb nb G0) k i L N B1 s f Q))
 (fin:∀h n,R N->Up hb nb h n->sK P Y g 100000 s (.exit B) f h n (G0 N) Q):SM P Y g (.c (zf ty i L c B B1 body)::s) .bX f h n F Q:=
 bP N (RgI R hb nb G0) hN hic hLc hiL (λk h n G ⟨_,_,e⟩=>by subst e;exact hfr k) ⟨e1,e2,G0 0,⟨r0,u,rfl⟩,e3⟩
  (λk h n G hk ⟨hr,hu,e⟩=>by subst e;exact step k h n hk hr hu) (λh n G ⟨hr,hu,e⟩=>by subst e;exact fin h n hr hu)
end
end
end
section
noncomputable section
section
variable {h:AH} {n w:Nat} {v:AV} {α:Type} {c:α->List AV} {l:List α}
theorem SR.src{len:Nat}{cells:List AV}(s:SR h n w v len cells):jG h w len v=some cells/\mR v=some len:=by
 rcases s with⟨rfl,rfl,rfl⟩|⟨x,lo,o,cp,rfl,e2,e3,e4,e6⟩|⟨a,c,rfl,rfl,rfl⟩
 rotate_left 2
 .exact⟨rfl,rfl⟩
 .exact⟨rfl,rfl⟩
 .refine⟨?_,rfl⟩
  show bnd (iI (h.get x) o (len*w)) (λl=>mP (len*w) l)=_;rw[<-e4];exact e3.cut
theorem SL.src(s:SL h n w v c l):jG h w l.length v=some (l.flatMap c)/\mR v=some l.length:=s.2.src
end
end
end
section
noncomputable section
abbrev HP:=AH->Nat->Prop
def Kp(X:Nat->Prop)(h:AH)(n:Nat)(A:HP):Prop:=∀h' n',n<=n'->(∀x,x<n->¬X x->h'.get x=h.get x)->A h' n'
section
variable {X Y:Nat->Prop} {h h':AH} {n n':Nat} {A B:HP}
theorem Kp.use(k:Kp X h n A):A h n:=k h n (Nat.le_refl _) λ_ _ _=>rfl
theorem Kp.on(k:Kp X h n A)(hn:n<=n')(e:∀x,x<n->¬X x->h'.get x=h.get x):Kp X h' n' A:=λh2 n2 h3 h4=>k h2 n2 (Nat.le_trans hn h3) λx hx hX=>(h4 x (Nat.lt_of_lt_of_le hx hn) hX).trans (e x hx hX)
theorem Kp.up(k:Kp X h n A)(u:Up h n h' n'):Kp X h' n' A:=k.on u.le λx hx _=>u.old x hx
theorem Kp.set(k:Kp X h n A){b m:Nat}{o:AO}(hb:X b\/n<=b)(hm:n<=m):Kp X (h.set b o) m A:=k.on hm λx hx hX=>au (by rintro rfl;rcases hb with e|e;exact hX e;omega)
theorem Kp.le(k:Kp X h n A)(e:∀x,x<n->Y x->X x):Kp Y h n A:=λh2 n2 h3 h4=>k h2 n2 h3 λx hx hX=>h4 x hx λhY=>hX (e x hx hY)
theorem Kp.wk(k:Kp X h n A)(e:∀h n,A h n->B h n):Kp X h n B:=λh2 n2 h3 h4=>e _ _ (k h2 n2 h3 h4)
theorem Kp.and(k:Kp X h n A)(l:Kp X h n B):Kp X h n λh n=>A h n/\B h n:=λh2 n2 h3 h4=>⟨k h2 n2 h3 h4,l h2 n2 h3 h4⟩
theorem Kp.Pm(k:∀h' n',Up h n h' n'->A h' n')(e:∀x,X x->n<=x):Kp X h n A:=λh2 n2 h3 h4=>k h2 n2 ⟨h3,λx hx=>h4 x hx λhX=>by have:=e x hX;omega⟩
end
def blk(v:AV)(x:Nat):Prop:=∃lo o len c,v= .sl x lo o len c
theorem eu{x lo o len:Nat}{c:Option Nat}{y:Nat}:blk (.sl x lo o len c) y↔y=x:=⟨λ⟨_,_,_,_,e⟩=>by cases e;rfl,λe=>⟨_,_,_,_,by rw[e]⟩⟩
theorem Pn{a:Addr}{c y:Nat}:¬blk (.es a c) y:=λ⟨_,_,_,_,e⟩=>by cases e
theorem fA{c y:Nat}:¬blk (.k c) y:=λ⟨_,_,_,_,e⟩=>by cases e
theorem SL.kp{X:Nat->Prop}{h:AH}{n w:Nat}{v:AV}{α:Type}{c:α->List AV}{l:List α}(s:SL h n w v c l)(hX:∀x,blk v x->¬X x):Kp X h n λh n=>SL h n w v c l:=λh2 n2 h3 h4=>by
 refine⟨s.1,?_⟩;rcases s.2 with e|⟨x,lo,o,cp,rfl,e2,e3,e4,e6⟩|e
 .exact .inl e
 .exact .inr (.inl ⟨x,lo,o,cp,rfl,by omega,by rw[h4 x e2 (hX x (eu.2 rfl))];exact e3,e4,e6⟩)
 .exact .inr (.inr e)
theorem SL.fK{h:AH}{n w:Nat}{v:AV}{α:Type}{c:α->List AV}{l:List α}(s:SL h n w v c l){x:Nat}(hx:blk v x):x<n:=by
 rcases s.2 with⟨rfl,_⟩|⟨y,lo,o,cp,rfl,e2,_⟩|⟨a,c,rfl,_⟩
 rotate_left 2
 .exact absurd hx Pn
 .exact absurd hx fA
 .rw[eu]at hx;omega
def Gr(h:AH)(n e w:Nat)(v:AV){α:Type}(c:α->List AV)(l:List α):Prop:=(∀a,(c a).length=w)/\((v= .k 1/\l=[])\/
 ∃b cap cells,v= .sl b 0 0 l.length cap/\b<n/\h.get b=some (.row e cells)/\cells.take (l.length*w)=l.flatMap c/\l.length*w<=cells.length/\(cap=none->cells.length=l.length*w)/\∀k,cap=some k->l.length<=k/\cells.length=k*w)
section
variable {h h':AH} {n n' e w:Nat} {v:AV} {α:Type} {c:α->List AV} {l l2:List α}
theorem bN(hw:∀a,(c a).length=w)(l:List α):(l.flatMap c).length=l.length*w:=by
 induction l with
 |nil=>simp
 |cons a l ih=>rw[List.flatMap_cons,List.length_append,hw,ih,List.length_cons,Nat.succ_mul];omega
theorem Gr.nil(hw:∀a,(c a).length=w):Gr h n e w (.k 1) c []:=⟨hw,.inl ⟨rfl,rfl⟩⟩
theorem Gr.of{b cap:Nat}{cells:List AV}(hw:∀a,(c a).length=w)(hb:b<n)(hg:h.get b=some (.row e cells))(hc:cells.take (l.length*w)=l.flatMap c)(h1:l.length<=cap)(h2:cells.length=cap*w):Gr h n e w (.sl b 0 0 l.length (some cap)) c l:=
 ⟨hw,.inr ⟨b,some cap,cells,rfl,hb,hg,hc,by rw[h2];exact Nat.mul_le_mul_right _ h1,λe=>(by cases e),λk e=>by cases e;exact⟨h1,h2⟩⟩⟩
theorem Gr.all{b len:Nat}(hw:∀a,(c a).length=w)(hb:b<n)(hg:h.get b=some (.row e (l.flatMap c)))(hl:len=l.length):Gr h n e w (.sl b 0 0 len (some len)) c l:=by
 subst hl;exact Gr.of hw hb hg (by rw[<-bN hw,List.take_length]) (Nat.le_refl _) (bN hw l)
theorem Gr.sl(g:Gr h n e w v c l):SL h n w v c l:=by
 refine⟨g.1,?_⟩;rcases g.2 with⟨rfl,rfl⟩|⟨b,cap,cells,rfl,h1,h2,h3,h4,h5,h6⟩
 .exact .inl ⟨rfl,rfl,rfl⟩
 .exact .inr (.inl ⟨b,0,0,cap,rfl,h1,by rw[h2];exact .of (m:=l.length*w) (by omega) (by rw[List.drop_zero];exact h3),bN g.1 l,λk hk=>(h6 k hk).1⟩)
theorem Gr.len(g:Gr h n e w v c l):GA (some v)=some (.i .i64 (l.length:Nat)):=g.sl.len
theorem Gr.cl(g:Gr h n e w v c l):pO v=some [v]:=g.sl.cl
theorem Gr.on(g:Gr h n e w v c l)(hn:n<=n')(hs:∀x,x<n->blk v x->h'.get x=h.get x):Gr h' n' e w v c l:=by
 refine⟨g.1,?_⟩;rcases g.2 with h1|⟨b,cap,cells,rfl,h1,h2,h3⟩
 .exact .inl h1
 .exact .inr ⟨b,cap,cells,rfl,by omega,by rw[hs b h1 (eu.2 rfl)];exact h2,h3⟩
theorem Gr.up(g:Gr h n e w v c l)(u:Up h n h' n'):Gr h' n' e w v c l:=g.on u.le λx hx _=>u.old x hx
theorem Gr.fK(g:Gr h n e w v c l){x:Nat}(hx:blk v x):x<n:=g.sl.fK hx
theorem Gr.ty(g:Gr h n e w v c l){x:Nat}(hx:blk v x):∃cells,h.get x=some (.row e cells):=by
 rcases g.2 with⟨rfl,_⟩|⟨b,cap,cells,rfl,h1,h2,h3⟩
 .exact absurd hx fA
 .rw[eu]at hx;subst hx;exact⟨_,h2⟩
theorem Ku{x y:AV}:(jS e w).run h n x y=aP (mR x) λlx=>aP (mR y) λly=>aP (jG h w lx x) λcx=>aP (jG h w ly y) λcy=>
 bc (Nat.ble (Nat.add lx ly) 1048576)
 (match x with
 | .sl b _ o _ (some c)=>
  bc (Nat.ble (Nat.add lx ly) c)
   (match h.get b with
    |some (.row t l)=>aP (wJ cy (Nat.add o (Nat.mul lx w)) l) λl=>.ok (.sl b 0 o (Nat.add lx ly) (some c)) (h.set b (.row t l)) n
    |_=>.bad)
   (mk h n (.sl n 0 0 (Nat.add lx ly) none) (.row e (CP cx cy)))
 | .k 1=>bc (Nat.beq ly 0) (.ok (.k 1) h n) (mk h n (.sl n 0 0 ly none) (.row e cy))
 | .sl b 0 0 _ none=>
  (match h.get b with
   |some (.row t l)=>bc (Nat.beq t e) (bc (Nat.beq (nP l) (Nat.mul lx w)) (mk (h.del b) n (.sl n 0 0 (Nat.add lx ly) none) (.row e (CP cx cy)))
    (bc (Nat.beq w 0) .bad (aP (wJ cy (Nat.mul lx w) l) λl=>.ok (.sl b 0 0 (Nat.add lx ly) none) (h.set b (.row t l)) n))) .bad
   |_=>.bad)
 |_=>.bad) .bad:=rfl
theorem Gr.app(g:Gr h n e w v c l){y:AV}(hy1:mR y=some l2.length)(hy2:jG h w l2.length y=some (l2.flatMap c))(hl:l.length+l2.length<=1048576):
 ∃v' h' n',(jS e w).run h n v y= .ok v' h' n'/\Gr h' n' e w v' c (l++l2)/\n<=n'/\(∀x,x<n->¬blk v x->h'.get x=h.get x)/\∀x,blk v' x->blk v x\/n<=x:=by
 have hw:=g.1;rw[Ku,hy1];rcases g.2 with⟨rfl,rfl⟩|⟨b,cap,cells,rfl,h1,h2,h3,h4,h5,h6⟩
 .show∃v' h' n',aP (jG h w l2.length y) _=fH.ok v' h' n'/\_
  rw[hy2];show∃v' h' n',bc (Nat.ble (Nat.add 0 l2.length) 1048576) (bc (Nat.beq l2.length 0) (fH.ok (.k 1) h n) (mk h n (.sl n 0 0 l2.length none) (.row e (l2.flatMap c)))) .bad=fH.ok v' h' n'/\_;rw[show Nat.add 0 l2.length=l2.length from Nat.zero_add _,Nat.ble_eq_true_of_le (by simpa using hl),bD];cases l2 with
  |nil=>exact⟨_,_,_,rfl,Gr.nil hw,Nat.le_refl _,λ_ _ _=>rfl,λx hx=>.inl hx⟩
  |cons a l2=>
   refine⟨_,_,_,rfl,⟨hw,.inr ⟨n,none,_,rfl,Nat.lt_succ_self n,aF,?_,?_,λ_=>bN hw _,λk hk=>by cases hk⟩⟩,Nat.le_succ _,λx hx _=>au (by omega),λx hx=>?_⟩
   .rw[List.nil_append,<-bN hw,List.take_length]
   .rw[List.nil_append,<-bN hw];exact Nat.le_refl _
   .rw[eu]at hx;exact .inr (by omega)
 .have hsrc:jG h w l.length (.sl b 0 0 l.length cap)=some (l.flatMap c):=by
   show bnd (iI (h.get b) 0 _) (λr=>mP (Nat.mul l.length w) r)=_;rw[h2];show mP (l.length*w) (r_ 0 cells)=_;rw[rG,if_pos (by omega),List.drop_zero,h3]
  show∃v' h' n',aP (jG h w l.length (.sl b 0 0 l.length cap)) _=fH.ok v' h' n'/\_;rw[hsrc];show∃v' h' n',aP (jG h w l2.length y) _=fH.ok v' h' n'/\_;rw[hy2];have happ:(l++l2).flatMap c=l.flatMap c++l2.flatMap c:=List.flatMap_append;cases cap with
  |none=>
   show∃v' h' n',bc (Nat.ble (Nat.add l.length l2.length) 1048576) (match h.get b with
    |some (.row t r)=>bc (Nat.beq t e) (bc (Nat.beq (nP r) (Nat.mul l.length w)) (mk (h.del b) n (.sl n 0 0 (Nat.add l.length l2.length) none) (.row e (CP (l.flatMap c) (l2.flatMap c)))) (bc (Nat.beq w 0) .bad (aP (wJ (l2.flatMap c) (Nat.mul l.length w) r) λr=>.ok (.sl b 0 0 (Nat.add l.length l2.length) none) (h.set b (.row t r)) n))) .bad
    |_=>.bad) .bad=fH.ok v' h' n'/\_
   rw[show Nat.add l.length l2.length=l.length+l2.length from rfl,Nat.ble_eq_true_of_le hl,bD,h2];show∃v' h' n',bc (Nat.beq e e) (bc (Nat.beq (nP cells) (l.length*w)) _ _) .bad=fH.ok v' h' n'/\_;rw[Nat.beq_refl,bD,eT,h5 rfl,Nat.beq_refl,bD,iZ,<-happ];refine⟨_,_,_,rfl,⟨hw,.inr ⟨n,none,_,by rw[List.length_append],Nat.lt_succ_self n,aF,?_,?_,λ_=>bN hw _,λk hk=>by cases hk⟩⟩,Nat.le_succ _,λx hx hb=>?_,λx hx=>?_⟩
   .rw[<-bN hw,List.take_length]
   .rw[<-bN hw];exact Nat.le_refl _
   .rw[au (by omega),C_,if_neg (λe=>hb (eu.2 e))]
   .rw[eu]at hx;exact .inr (by omega)
  |some k=>
   obtain⟨h7,h8⟩:=h6 k rfl;show∃v' h' n',bc (Nat.ble (l.length+l2.length) 1048576) (bc (Nat.ble (l.length+l2.length) k)
    (match h.get b with
     |some (.row t r)=>aP (wJ (l2.flatMap c) (Nat.add 0 (Nat.mul l.length w)) r) λr=>.ok (.sl b 0 0 (l.length+l2.length) (some k)) (h.set b (.row t r)) n
     |_=>.bad)
    (mk h n (.sl n 0 0 (l.length+l2.length) none) (.row e (CP (l.flatMap c) (l2.flatMap c))))) .bad=fH.ok v' h' n'/\_
   rw[Nat.ble_eq_true_of_le hl,bD,h2];by_cases hk:l.length+l2.length<=k
   .have hfit:(l.length+l2.length)*w<=k*w:=Nat.mul_le_mul_right _ hk
    rw[Nat.add_mul]at hfit;have hsp:wJ (l2.flatMap c) (Nat.add 0 (Nat.mul l.length w)) cells=some (cells.take (l.length*w)++(l2.flatMap c++cells.drop (l.length*w+(l2.flatMap c).length))):=by
     rw[show Nat.add 0 (Nat.mul l.length w)=l.length*w from Nat.zero_add _];refine zY ?_;unfold pI;rw[if_pos (by rw[bN hw];omega)]
    rw[Nat.ble_eq_true_of_le hk,bD];show∃v' h' n',aP (wJ _ _ cells) _=fH.ok v' h' n'/\_;rw[hsp];refine⟨_,_,_,rfl,⟨hw,.inr ⟨b,some k,_,by rw[List.length_append],h1,aF,?_,?_,λe=>(by cases e),?_⟩⟩,Nat.le_refl _,λx hx hb=>?_,λx hx=>.inl (by rw[eu]at hx⊢;exact hx)⟩
    .rw[happ,h3,List.length_append,Nat.add_mul,<-List.append_assoc,List.take_left' (by rw[List.length_append,bN hw,bN hw])]
    .rw[List.length_append,Nat.add_mul,List.length_append,List.length_append,List.length_take,List.length_drop,bN hw];omega
    .rintro k' hk'
     cases hk'
     rw[List.length_append];refine⟨hk,?_⟩;rw[List.length_append,List.length_append,List.length_take,List.length_drop,bN hw];omega
    .exact au λe=>hb (eu.2 e)
   .have hf:Nat.ble (l.length+l2.length) k=false:=by
     cases hq:Nat.ble (l.length+l2.length) k with
     |false=>rfl
     |true=>exact absurd (Nat.le_of_ble_eq_true hq) hk
    rw[hf,gH,iZ,<-happ];refine⟨_,_,_,rfl,⟨hw,.inr ⟨n,none,_,by rw[List.length_append],Nat.lt_succ_self n,aF,?_,?_,λ_=>bN hw _,λk hk=>by cases hk⟩⟩,Nat.le_succ _,λx hx hb=>au (by omega),λx hx=>?_⟩
    .rw[<-bN hw,List.take_length]
    .rw[<-bN hw];exact Nat.le_refl _
    .rw[eu]at hx;exact .inr (by omega)
end
theorem jq{S:SK}{h:AH}{n e w:Nat}{v y:AV}{α:Type}{c:α->List AV}{l l2:List α}{d:MD}{r:List MR}{l':List AV}{s:List It}{f:FT}{F:Fm}{Q:PQ}
 (g:Gr h n e w v c l)(hy:mR y=some l2.length/\jG h w l2.length y=some (l2.flatMap c))(hl:l.length+l2.length<=1048576)
 (q:∀v' h' n',Gr h' n' e w v' c (l++l2)->n<=n'->(∀x,x<n->¬blk v x->h'.get x=h.get x)->(∀x,blk v' x->blk v x\/n<=x)->mG S d v' r l' s f h' n' F Q):kR S (SA e w h n (some v) (some y)) d r l' s f F Q:=by
 obtain⟨v',h',n',e1,e2,e3,e4,e5⟩:=g.app hy.1 hy.2 hl;rw[abb,e1,ahc];exact q v' h' n' e2 e3 e4 e5
theorem SL.ap{h:AH}{n w:Nat}{v:AV}{α:Type}{c:α->List AV}{l:List α}(s:SL h n w v c l):mR v=some l.length/\jG h w l.length v=some (l.flatMap c):=⟨s.src.2,s.src.1⟩
abbrev bv(b:UInt8):List AV:=[.i .u8 (Int.ofNat b.toNat)]
theorem ahY{h:AH}{l:List UInt8}:mR (.s l)=some l.length/\jG h 1 l.length (.s l)=some (l.flatMap bv):=by
 refine⟨by show some (nP l)=_;rw[eT],?_⟩;show bc (Nat.beq 1 1) (bnd (mP l.length l) λl=>some (zG l)) none=_;have h1:∀l:List UInt8,mP l.length l=some l:=by
  intro l;induction l with
  |nil=>rfl
  |cons a l ih=>show bnd (mP l.length l) (λx=>some (a::x))=_;rw[ih];rfl
 rw[h1];show some (zG l)=_;congr 1;induction l with
 |nil=>rfl
 |cons a l ih=>
  show AV.i .u8 (Int.ofNat a.toNat)::zG l=_;rw[List.flatMap_cons,ih];rfl
theorem vM{α:Type}{c:α->List AV}{w:Nat}(hw:∀a,(c a).length=w)(l:List α)(i:Nat)(a:α)(hi:i<l.length):pI (c a) (i*w) (l.flatMap c)=some ((l.set i a).flatMap c):=by
 have hm:(i+1)*w<=l.length*w:=Nat.mul_le_mul_right w hi;rw[Nat.succ_mul]at hm;unfold pI;rw[if_pos (by rw[hw,bN hw];omega),hw];congr 1;clear hm;induction l generalizing i with
 |nil=>simp at hi
 |cons b l ih=>
  cases i with
  |zero=>
   rw[List.set_cons_zero,List.flatMap_cons,List.flatMap_cons,Nat.zero_mul,List.take_zero,List.nil_append,Nat.zero_add,List.drop_left' (hw b)]
  |succ i=>
   rw[List.set_cons_succ,List.flatMap_cons,List.flatMap_cons,<-ih i (by simpa using hi)];rw[Nat.succ_mul,show i*w+w=(c b).length+i*w by rw[hw];omega,List.take_length_add_append,List.append_assoc];congr 1;rw[Nat.add_assoc,List.drop_length_add_append,hw b,Nat.add_comm (i*w) w]
theorem rP{α:Type}{c:α->List AV}{w e:Nat}(hw:∀a,(c a).length=w){l:List α}{i:Nat}{a:α}(hi:i<l.length):fQ (some (.row e (l.flatMap c))) (i*w) (some (c a))=some (.row e ((l.set i a).flatMap c)):=by
 show(match pI (c a) (i*w) (l.flatMap c)with|some m=>some (AO.row e m)|none=>none)=_;rw[vM hw l i a hi]
theorem Vz{k:Int}{m:Nat}{f:Nat->Option AV}(h0:0<=k)(h:k<(m:Nat)):GJ k m f=f k.toNat:=by
 obtain⟨i,rfl⟩:=Int.eq_ofNat_of_zero_le h0;show bc (Nat.ble (Nat.succ i) m) (f i) none=_;rw[Nat.ble_eq_true_of_le (by omega),bD];rfl
@[go_sem] theorem uq {w m b o:Nat} {k:Int} {j:IntKind} (h0:0<=k) (h:k<(m:Nat)):OG w m (some (.p b o)) (some (.i j k))=some (.p b (o+k.toNat*w)):=by
 show GJ k m (λk=>some (AV.p b (Nat.add o (Nat.mul k w))))=_;rw[Vz h0 h];rfl
@[go_sem] theorem afR {e:TypeId} {z:List AV} {x:Nat} {a c:MO} {F:Fm} {u:List AV}:SY (.Lr e z a c) x F u=msA e z x (ev a F u) (ev c F u):=rfl
@[go_sem] theorem amP {e:TypeId} {z:List AV} {x a c:Nat} {k j:IntKind} (h1:a<=c) (h2:c<=1048576):msA e z x (some (.i k (a:Nat))) (some (.i j (c:Nat)))=some (.sl x 0 0 a (some c),.row e (rep c z)):=by
 show(if a<=c/\c<=1048576 then some (AV.sl x 0 0 a (some c),AO.row e (rep c z))else none)=_;rw[if_pos ⟨h1,h2⟩]
@[go_sem] theorem Ce {e:TypeId} {z:List AV} {h:AH} {n a c:Nat} {k j:IntKind} (h1:a<=c) (h2:c<=1048576):msO e z h n (some (.i k (a:Nat))) (some (.i j (c:Nat)))=some (.ok (.sl n 0 0 a (some c)) (h.set n (.row e (rep c z))) (n+1)):=by
 show some (bc (Nat.ble a c) (bc (Nat.ble c 1048576) (mk h n (.sl n 0 0 a (some c)) (.row e (rep c z))) .bad) .bad)=_;rw[Nat.ble_eq_true_of_le h1,bD,Nat.ble_eq_true_of_le h2,bD];rfl
theorem jr{α:Type}(c:α->List AV)(a:α):∀n,rep n (c a)=(List.replicate n a).flatMap c
 |0=>rfl
 |n+1=>by
  show CP (c a) (rep n (c a))=_;rw[iZ,jr c a n,List.replicate_succ,List.flatMap_cons]
structure Po(P:Program)(kt:TypeId){κ:Type}(ke:κ->AV):Prop where
 eq:∀a b,∃x,(su P 30 kt).run (ke a) (ke b)=some x/\(x=true↔a=b)
 ck:∀a,(yX P 30 kt).run (ke a)=true
 sc:∀a,NH (ke a)=true
open Classical in
def jD{κ:Type}(m:List (κ×AV))(k:κ):Option AV:=match m with
 |[]=>none
 |x::r=>if k=x.1 then some x.2 else jD r k
open Classical in
def Ch{κ:Type}(m:List (κ×AV))(k:κ)(v:AV):List (κ×AV):=match m with
 |[]=>[(k,v)]
 |x::r=>if k=x.1 then(k,v)::r else x::Ch r k v
theorem lU{κ:Type}(m:List (κ×AV))(k k':κ)(v:AV):jD (Ch m k v) k'=(open Classical in if k'=k then some v else jD m k'):=by
 classical
 induction m with
 |nil=>rw[Ch,jD];by_cases h:k'=k<;>simp[h,jD]
 |cons x r ih=>
  rw[Ch];by_cases h:k=x.1
  .rw[if_pos h,jD,jD]
   by_cases h2:k'=k
   .rw[if_pos h2,if_pos h2]
   .rw[if_neg h2,if_neg h2,if_neg (by rw[<-h];exact h2)]
  .rw[if_neg h,jD,jD,ih]
   by_cases h2:k'=x.1
   .rw[if_pos h2,if_pos h2,if_neg (by rw[h2];exactλe=>h e.symm)]
   .rw[if_neg h2,if_neg h2]
def qK(h:AH)(b:Nat){κ:Type}(ke:κ->AV)(m:List (κ×AV)):Prop:=∃es pX,h.get b=some (.mp es pX)/\es.map (λe=>(e.1,e.2.1))=m.map λx=>(ke x.1,x.2)
section
variable {P:Program} {kt:TypeId} {κ:Type} {ke:κ->AV} {h:AH} {n b:Nat} {m:List (κ×AV)} {k:κ}
theorem Ar(T:Po P kt ke):∀(m:List (κ×AV))(es:List (AV×AV×Nat))(i:Nat),es.map (λe=>(e.1,e.2.1))=m.map (λx=>(ke x.1,x.2))->
 (jD m k=none->oO (su P 30 kt) (ke k) es i=some none)/\∀v,jD m k=some v->∃j,oO (su P 30 kt) (ke k) es i=some (some (i+j,v))/\∀u,(GR (ke k) u j es).map (λe=>(e.1,e.2.1))=(Ch m k u).map λx=>(ke x.1,x.2)
 |[],es,i,e=>by
  have:es=[]:=by simpa using e
  subst this;exact⟨λ_=>rfl,λv hv=>by cases hv⟩
 |x::r,[],i,e=>by cases e
 |x::r,a::es,i,e=>by
  rw[List.map_cons,List.map_cons]at e;obtain⟨e1,e2⟩:=List.cons.inj e;obtain⟨e3,e4⟩:=Prod.mk.inj e1;have e3:a.1=ke x.1:=e3;obtain⟨q,q1,q2⟩:=T.eq k x.1;obtain⟨g1,g2⟩:=Ar T r es (i+1) e2;have step:oO (su P 30 kt) (ke k) (a::es) i=bc q (some (some (i,a.2.1))) (oO (su P 30 kt) (ke k) es (Nat.succ i)):=by
   show bnd ((su P 30 kt).run (ke k) a.1) _=_;rw[e3,q1];rfl
  rw[jD];by_cases hk:k=x.1
  .rw[if_pos hk,step,q2.2 hk,bD]
   refine⟨λh=>(by cases h),λv hv=>⟨0,by cases hv;rw[e4];rfl,λu=>?_⟩⟩;rw[Ch,if_pos hk];show((ke k,u,a.2.2)::es).map _=_;rw[List.map_cons,List.map_cons,e2]
  .have hq:q=false:=by
    cases q with
    |false=>rfl
    |true=>exact absurd (q2.1 rfl) hk
   rw[if_neg hk,step,hq,gH];refine⟨g1,λv hv=>?_⟩;obtain⟨j,j1,j2⟩:=g2 v hv;refine⟨j+1,by rw[show Nat.succ i=i+1 from rfl,j1];congr 3;omega,λu=>?_⟩;rw[Ch,if_neg hk];show(a::GR (ke k) u j es).map _=_;rw[List.map_cons,List.map_cons,j2 u,e1]
theorem qK.look(g:qK h b ke m)(T:Po P kt ke){z:Option AV}{ok:Bool}{zv:AV}(hz:z=some zv):Xj P kt z ok h (some (.m b)) (some (ke k))=match jD m k with|some v=>some (bc ok (.bJ [v,.b true]) v)|none=>some (bc ok (.bJ [zv,.b false]) zv):=by
 obtain⟨es,pX,h1,h2⟩:=g;obtain⟨g1,g2⟩:=Ar (k:=k) T m es 0 h2;show bc ((yX P 30 kt).run (ke k)) (bnd (bnd (K4 (h.get b)) λes=>oO (su P 30 kt) (ke k) es 0) λr=>
  @Option.rec (Nat×AV) (λ_=>Option AV) (bnd z λz=>some (bc ok (.bJ [z,.b false]) z)) (λv=>some (bc ok (.bJ [v.2,.b true]) v.2)) r) none=_
 rw[T.ck,bD,h1];show bnd (oO (su P 30 kt) (ke k) es 0) _=_;cases ha:jD m k with
 |none=>rw[g1 ha,hz];rfl
 |some v=>
  obtain⟨j,j1,_⟩:=g2 v ha;rw[j1];rfl
theorem qK.put(g:qK h b ke m)(T:Po P kt ke)(v:AV):∃o,CU (su P 30 kt) (yX P 30 kt) h n (.m b) (ke k) v= .ok (.bJ []) (h.set b o) n/\qK (h.set b o) b ke (Ch m k v):=by
 obtain⟨es,pX,h1,h2⟩:=g;obtain⟨g1,g2⟩:=Ar (k:=k) T m es 0 h2;show∃o,(match h.get b with
  |some (.mp es c)=>bc ((yX P 30 kt).run (ke k)) (aP (oO (su P 30 kt) (ke k) es 0) λr=>@Option.rec (Nat×AV) (λ_=>fH) (.ok (.bJ []) (h.set b (.mp (CP es [(ke k,v,c)]) (Nat.succ c))) n)
   (λi=>bc (NH (ke k)) (.ok (.bJ []) (h.set b (.mp (GR (ke k) v i.1 es) c)) n) .bad) r) .bad
  |_=>.bad)=fH.ok (.bJ []) (h.set b o) n/\_
 rw[h1];dsimp only;rw[T.ck,bD];cases ha:jD m k with
 |none=>
  rw[g1 ha];refine⟨_,rfl,_,_,aF,?_⟩;rw[iZ,List.map_append,h2];clear h2 g1 g2;induction m with
  |nil=>rfl
  |cons x r ih=>
   rw[jD]at ha;by_cases hk:k=x.1
   .rw[if_pos hk]at ha;cases ha
   .rw[if_neg hk]at ha
    rw[Ch,if_neg hk,List.map_cons (f:=λx:κ×AV=>(ke x.1,x.2)),List.map_cons (f:=λx:κ×AV=>(ke x.1,x.2)),List.cons_append,<-ih ha]
 |some w=>
  obtain⟨j,j1,j2⟩:=g2 w ha;rw[j1];show∃o,bc (NH (ke k)) (fH.ok (.bJ []) (h.set b (.mp (GR (ke k) v (0+j) es) pX)) n) .bad=fH.ok (.bJ []) (h.set b o) n/\_;rw[T.sc,bD,Nat.zero_add];exact⟨_,rfl,_,_,aF,j2 v⟩
theorem qK.on{h':AH}(g:qK h b ke m)(e:h'.get b=h.get b):qK h' b ke m:=by unfold qK;rw[e];exact g
theorem qK.new(ke:κ->AV):qK (h.set b (.mp [] 0)) b ke []:=⟨[],0,aF,rfl⟩
end
end
end
section
noncomputable section
def psK(s:Sl):List Tmp->Option (List Bool)
 |[]=>some []
 |k::r=>bc (Nat.ble (Nat.succ k) s.N) (bnd (psK s r) λb=>some (s.S k::b)) none
def Nu:List Tmp->List Bool->List AV->Fm->Fm
 |k::ks,true::bs,v::vs,F=>Nu ks bs vs (pt F k v)
 |_::ks,false::bs,_::vs,F=>Nu ks bs vs F
 |_,_,_,F=>F
theorem Au{s:Sl}:∀{ps:List Tmp}{bs:List Bool}{vs:List AV}{t:Tr AV}{F:Fm},psK s ps=some bs->vs.length=ps.length->Fk t F->∃t',xV s ps vs t=some t'/\Fk t' (Nu ps bs vs F)
 |[],_,[],t,F,e,_,hF=>by cases e;exact⟨t,rfl,hF⟩
 |[],_,_::_,_,_,_,hl,_=>by cases hl
 |_::_,_,[],_,_,_,hl,_=>by cases hl
 |k::ps,bs,v::vs,t,F,e,hl,hF=>by
  obtain⟨e1,e⟩:=bL (show bc (Nat.ble (Nat.succ k) s.N) (bnd (psK s ps) λb=>some (s.S k::b)) none=some bs from e);obtain⟨b,e2,e⟩:=aB e;cases e
  have hp:(wL s k).run t v=some (bc (s.S k) ((pp 20 k).run v t) t):=by
   unfold wL;rw[e1,bD];cases s.S k<;>rfl
  cases hS:s.S k with
  |true=>
   obtain⟨t',g1,g2⟩:=Au (t:=(pp 20 k).run v t) e2 (by simpa using hl) (hF.put k v);refine⟨t',?_,g2⟩;show bnd ((wL s k).run t v) _=_;rw[hp,hS];exact g1
  |false=>
   obtain⟨t',g1,g2⟩:=Au (t:=t) e2 (by simpa using hl) hF;refine⟨t',?_,g2⟩;show bnd ((wL s k).run t v) _=_;rw[hp,hS];exact g1
section
variable {P:Program} {sl:FuncId->Sl}
def yQ(l:Nat)(R:Bool->AH->Nat->Prop):PQ:=λx h n _=>∃st pd g t ps fT body,h.get l=some (.lp st pd g t ps fT body)/\match x with
 | .bX=>R true (h.set l (.lp .ready none g t ps fT body)) n
 | .ret=>R false (h.set l (.lp .done (some .ret) g t ps fT body)) n
 | .exit id=>R false (h.set l (.lp .done (some (.exit id)) g t ps fT body)) n
 | .goto _=>False
def aQ(P:Program)(Y:YT)(g:FuncId)(f:FT)(l:Nat)(mb:MC)(R:Bool->AH->Nat->Prop):PQ:=λx h n F=>match x with
 | .bX=>∃pd g1 t1 ps fT body,h.get l=some (.lp .ready pd g1 t1 ps fT body)/\sK P Y g 100000 [.c mb] .bX f (h.set l (.lp .busy pd g1 t1 ps fT body)) n F (yQ l R)
 |_=>False
theorem lV{d l:Nat}{g:FuncId}{f:FT}{h:AH}{n:Nat}{t:Tr AV}{F:Fm}{ps:List Tmp}{fT body:Code}{pd:Option Code}{bs:List Bool}{ma mb:MC}{args:List AV}{R:Bool->AH->Nat->Prop}
 (hg:h.get l=some (.lp .ready pd g t ps fT body))(hF:Fk t F)(hp:psK (sl g) ps=some bs)(hl:args.length=ps.length)(ha:zX P (sl g) fT=some ma)(hb:zX P (sl g) body=some mb)
 (e:sK P (yl P sl d) g 100000 [.c ma] .bX f h n (Nu ps bs args F) (aQ P (yl P sl d) g f l mb R)):RW (yl P sl (d+1) l args f h n) λv h n=>∃b,v= .b b/\R b h n:=by
 obtain⟨t1,e1,e2⟩:=Au (t:=t) (F:=F) hp hl hF;have run:yl P sl (d+1) l args f h n=aP (xV (sl g) ps args t) λt1=>
  pQ ((cc P sl g (yl P sl d) fT).run f h n t1) λx h n t2=>match x with
   | .bX=>match h.get l with
    |some (.lp .ready pd g1 u1 ps1 yN oP)=>pQ ((cc P sl g (yl P sl d) body).run f (h.set l (.lp .busy pd g1 u1 ps1 yN oP)) n t2) λx h n _=>yE l x h n
    |_=>.bad
   |_=>.bad:=by
  show(match h.get l with
   |some (.lp .ready pd g t ps fT body)=>aP (xV (sl g) ps args t) λt1=>
    pQ ((cc P sl g (yl P sl d) fT).run f h n t1) λx h n t2=>match x with
     | .bX=>match h.get l with
      |some (.lp .ready pd g1 u1 ps1 yN oP)=>pQ ((cc P sl g (yl P sl d) body).run f (h.set l (.lp .busy pd g1 u1 ps1 yN oP)) n t2) λx h n _=>yE l x h n
      |_=>.bad
     |_=>.bad
   |_=>.bad)=_
  rw[hg]
 unfold RW;rw[run,e1];show∃v h' n',pQ ((cc P sl g (yl P sl d) fT).run f h n t1) _=fH.ok v h' n'/\_;rw[mF g ha];obtain⟨x,h1,n1,t2,F1,b1,b2,b3⟩:=qj _ _ _ _ _ _ _ _ e t1 e2;obtain⟨x0,h0',n0',t0',b0,b1⟩:=jK (show jh (ma.run P (yl P sl d) g f h n t1) (λx h n t=>oq P (yl P sl d) g [] x f h n t)= .ok x h1 n1 t2 from b1);cases b1
 rw[b0];cases x with
 |ret=>exact b3.elim
 |exit j=>exact b3.elim
 |goto j=>exact b3.elim
 |bX=>
  obtain⟨pd1,g1,u1,ps1,yN,oP,c1,c2⟩:=b3;show∃v h' n',(match h1.get l with
   |some (.lp .ready pd g1 u1 ps1 yN oP)=>pQ ((cc P sl g (yl P sl d) body).run f (h1.set l (.lp .busy pd g1 u1 ps1 yN oP)) n1 t2) λx h n _=>yE l x h n
   |_=>.bad)=fH.ok v h' n'/\_
  rw[c1];show∃v h' n',pQ ((cc P sl g (yl P sl d) body).run f _ n1 t2) _=fH.ok v h' n'/\_;rw[mF g hb];obtain⟨x,h2,n2,t3,F2,d1,d2,d3⟩:=qj _ _ _ _ _ _ _ _ c2 t2 b2;obtain⟨x0,h0',n0',t0',d0,d1⟩:=jK (show jh (mb.run P (yl P sl d) g f _ n1 t2) (λx h n t=>oq P (yl P sl d) g [] x f h n t)= .ok x h2 n2 t3 from d1);cases d1
  rw[d0];show∃v h' n',yE l x h2 n2=fH.ok v h' n'/\_;obtain⟨st,pd2,g2,u2,ps2,agO,aaN,k1,k2⟩:=d3;unfold yE;rw[k1];cases x with
  |bX=>exact⟨_,_,_,rfl,true,rfl,k2⟩
  |ret=>exact⟨_,_,_,rfl,false,rfl,k2⟩
  |exit j=>exact⟨_,_,_,rfl,false,rfl,k2⟩
  |goto j=>exact k2.elim
def eQ(P:Program)(Y:YT)(g:FuncId)(l:Nat)(s:List It)(f:FT)(F:Fm)(Q:PQ)(h:AH)(n:Nat):Prop:=∃st pd g1 t ps fT body,h.get l=some (.lp st pd g1 t ps fT body)/\
 ((st= .ready/\pd=none/\sK P Y g 100000 s .bX f (h.set l (.lp .exhausted none g1 t ps fT body)) n F Q)\/
  (st= .done/\pd=some .ret/\sK P Y g 100000 s .ret f (h.set l (.lp .exhausted (some .ret) g1 t ps fT body)) n F Q)\/
  ∃id,st= .done/\pd=some (.exit id)/\sK P Y g 100000 s (.exit id) f (h.set l (.lp .exhausted (some (.exit id)) g1 t ps fT body)) n F Q)
theorem oH{Y:YT}{g:FuncId}{r:MO}{ps:List Tmp}{fT body:Code}{s:List It}{f:FT}{h:AH}{n:Nat}{F:Fm}{Q:PQ}{q:FuncId}{cap:List AV}(hr:ev r F []=some (.f q cap))
 (e:∀t,Fk t F->CW f q (.y n::cap) (h.set n (.lp .ready none g t ps fT body)) (n+1) λ_ h2 n2=>eQ P Y g n s f F Q h2 n2):SM P Y g (.c (.rng r ps fT body)::s) .bX f h n F Q:=by
 intro t hF;obtain⟨v,h2,n2,e1,st,pd,g1,t1,ps1,yN,oP,e2,e3⟩:=e t hF;have run:∀c,JU n h2 n2 t=c->oq P Y g (.c (.rng r ps fT body)::s) .bX f h n t=jh c λx h n t=>oq P Y g s x f h n t:=λc hc=>by
  show jh (match gU r t []with
   |some (.f q cap)=>nR (f q (.y n::cap) (h.set n (.lp .ready none g t ps fT body)) (Nat.succ n)) λ_ h2 n2=>JU n h2 n2 t
   |_=>.bad) _=_
  rw[bf hF hr];show jh (nR (f q (.y n::cap) (h.set n (.lp .ready none g t ps fT body)) (n+1)) λ_ h2 n2=>JU n h2 n2 t) _=_;rw[e1,<-hc];rfl
 have out:∀x h3,JU n h2 n2 t= .ok x h3 n2 t->sK P Y g 100000 s x f h3 n2 F Q->∃x' h' n' t' F',oq P Y g (.c (.rng r ps fT body)::s) .bX f h n t= .ok x' h' n' t'/\Fk t' F'/\Q x' h' n' F':=λx h3 a b=>by
  obtain⟨x',h',n',t',F',c1,c2,c3⟩:=qj _ _ _ _ _ _ _ _ b t hF;exact⟨x',h',n',t',F',(run _ a).trans c1,c2,c3⟩
 rcases e3 with⟨rfl,rfl,e3⟩|⟨rfl,rfl,e3⟩|⟨id,rfl,rfl,e3⟩
 .exact out _ _ (by unfold JU;rw[e2]) e3
 .exact out _ _ (by unfold JU;rw[e2]) e3
 .exact out _ _ (by unfold JU;rw[e2]) e3
theorem RW.mono{r:fH}{Q R:AV->AH->Nat->Prop}(e:RW r Q)(k:∀v h n,Q v h n->R v h n):RW r R:=let⟨v,h,n,e1,e2⟩:=e;⟨v,h,n,e1,k v h n e2⟩
theorem CW.mono{f:FT}{g:FuncId}{args:List AV}{h:AH}{n:Nat}{Q R:AV->AH->Nat->Prop}(e:CW f g args h n Q)(k:∀v h n,Q v h n->R v h n):CW f g args h n R:=let⟨v,h,n,e1,e2⟩:=e;⟨v,h,n,e1,k v h n e2⟩
end
end
end
section
noncomputable section
section
variable {β:Type}
def fN(n:Nat)(k:Nat->Option β):Option β:=bc (Nat.beq n 0) (k 0)<|bc (Nat.beq n 1) (k 1)<|bc (Nat.beq n 2) (k 2)<|bc (Nat.beq n 3) (k 3)<|bc (Nat.beq n 4) (k 4)<|bc (Nat.beq n 5) (k 5)<|bc (Nat.beq n 6) (k 6)<|bc (Nat.beq n 7) (k 7)<|bc (Nat.beq n 8) (k 8)<|bc (Nat.beq n 9) (k 9)<|bc (Nat.beq n 10) (k 10)<|bc (Nat.beq n 11) (k 11)<|bc (Nat.beq n 12) (k 12)<|bc (Nat.beq n 13) (k 13)<|bc (Nat.beq n 14) (k 14)<|bc (Nat.beq n 15) (k 15)<|bc (Nat.beq n 16) (k 16)<|bc (Nat.beq n 17) (k 17)<|bc (Nat.beq n 18) (k 18)<|bc (Nat.beq n 19) (k 19)<|bc (Nat.beq n 20) (k 20)<|bc (Nat.beq n 21) (k 21)<|bc (Nat.beq n 22) (k 22)<|bc (Nat.beq n 23) (k 23)<|bc (Nat.beq n 24) (k 24)<|bc (Nat.beq n 25) (k 25)<|bc (Nat.beq n 26) (k 26)<|bc (Nat.beq n 27) (k 27)<|bc (Nat.beq n 28) (k 28)<|bc (Nat.beq n 29) (k 29)<|bc (Nat.beq n 30) (k 30)<|bc (Nat.beq n 31) (k 31)<|bc (Nat.beq n 32) (k 32)<|bc (Nat.beq n 33) (k 33)<|bc (Nat.beq n 34) (k 34)<|bc (Nat.beq n 35) (k 35)<|bc (Nat.beq n 36) (k 36)<|bc (Nat.beq n 37) (k 37)<|bc (Nat.beq n 38) (k 38)<|bc (Nat.beq n 39) (k 39)<|bc (Nat.beq n 40) (k 40)<|bc (Nat.beq n 41) (k 41)<|bc (Nat.beq n 42) (k 42)<|bc (Nat.beq n 43) (k 43)<|bc (Nat.beq n 44) (k 44)<|bc (Nat.beq n 45) (k 45)<|bc (Nat.beq n 46) (k 46)<|bc (Nat.beq n 47) (k 47)<|bc (Nat.beq n 48) (k 48)<|bc (Nat.beq n 49) (k 49)<|bc (Nat.beq n 50) (k 50)<|bc (Nat.beq n 51) (k 51)<|bc (Nat.beq n 52) (k 52)<|bc (Nat.beq n 53) (k 53)<|bc (Nat.beq n 54) (k 54)<|bc (Nat.beq n 55) (k 55)<|bc (Nat.beq n 56) (k 56)<|bc (Nat.beq n 57) (k 57)<|bc (Nat.beq n 58) (k 58)<|bc (Nat.beq n 59) (k 59)<|bc (Nat.beq n 60) (k 60)<|bc (Nat.beq n 61) (k 61)<|bc (Nat.beq n 62) (k 62)<|bc (Nat.beq n 63) (k 63)<|bc (Nat.beq n 64) (k 64)<|bc (Nat.beq n 65) (k 65)<|bc (Nat.beq n 66) (k 66)<|bc (Nat.beq n 67) (k 67)<|bc (Nat.beq n 68) (k 68)<|bc (Nat.beq n 69) (k 69)<|bc (Nat.beq n 70) (k 70)<|bc (Nat.beq n 71) (k 71)<|bc (Nat.beq n 72) (k 72)<|bc (Nat.beq n 73) (k 73)<|bc (Nat.beq n 74) (k 74)<|bc (Nat.beq n 75) (k 75)<|bc (Nat.beq n 76) (k 76)<|bc (Nat.beq n 77) (k 77)<|bc (Nat.beq n 78) (k 78)<|bc (Nat.beq n 79) (k 79)<|bc (Nat.beq n 80) (k 80)<|bc (Nat.beq n 81) (k 81)<|bc (Nat.beq n 82) (k 82)<|bc (Nat.beq n 83) (k 83)<|bc (Nat.beq n 84) (k 84)<|bc (Nat.beq n 85) (k 85)<|bc (Nat.beq n 86) (k 86)<|bc (Nat.beq n 87) (k 87)<|bc (Nat.beq n 88) (k 88)<|bc (Nat.beq n 89) (k 89)<|bc (Nat.beq n 90) (k 90)<|bc (Nat.beq n 91) (k 91)<|bc (Nat.beq n 92) (k 92)<|bc (Nat.beq n 93) (k 93)<|bc (Nat.beq n 94) (k 94)<|bc (Nat.beq n 95) (k 95)<|bc (Nat.beq n 96) (k 96)<|bc (Nat.beq n 97) (k 97)<|bc (Nat.beq n 98) (k 98)<|bc (Nat.beq n 99) (k 99) none
def fNs:List Nat->(List Nat->Option β)->Option β
 |[],k=>k []
 |a::l,k=>fN a λa=>fNs l λl=>k (a::l)
def fB(b:Bool)(k:Bool->Option β):Option β:=bc b (k true) (k false)
def fBs:List Bool->(List Bool->Option β)->Option β
 |[],k=>k []
 |a::l,k=>fB a λa=>fBs l λl=>k (a::l)
mutual
def fV:AV->(AV->Option β)->Option β
 | .k a,k=>fN a λa=>k (.k a)
 | .agg l,k=>fZ l λl=>k (.agg l)
 | .i a b,k=>k (.i a b)
 |a,k=>k a
def fZ:List AV->(List AV->Option β)->Option β
 |[],k=>k []
 |a::l,k=>fV a λa=>fZ l λl=>k (a::l)
end
def fVo:Option AV->(Option AV->Option β)->Option β
 |none,k=>k none
 |some a,k=>fV a λa=>k (some a)
def fO:MO->(MO->Option β)->Option β
 | .s a,k=>k (.s a)
 | .v j,k=>fN j λj=>k (.v j)
 | .c a,k=>fV a λa=>k (.c a)
def fOs:List MO->(List MO->Option β)->Option β
 |[],k=>k []
 |a::l,k=>fO a λa=>fOs l λl=>k (a::l)
def ZW:Option MO->(Option MO->Option β)->Option β
 |none,k=>k none
 |some a,k=>fO a λa=>k (some a)
def fW:Option Nat->(Option Nat->Option β)->Option β
 |none,k=>k none
 |some a,k=>fN a λa=>k (some a)
def fP:List (Nat×Nat×MO)->(List (Nat×Nat×MO)->Option β)->Option β
 |[],k=>k []
 |(a,b,x)::l,k=>fN a λa=>fN b λb=>fO x λx=>fP l λl=>k ((a,b,x)::l)
def fI:MI->(MI->Option β)->Option β
 | .mv x,k=>fO x λx=>k (.mv x)
 | .pick c a b,k=>fO c λc=>fO a λa=>fO b λb=>k (.pick c a b)
 | .al e z,k=>fZ z λz=>k (.al e z)
 | .box e w x,k=>fN w λw=>fO x λx=>k (.box e w x)
 | .Ki z fs,k=>fZ z λz=>fP fs λfs=>k (.Ki z fs)
 | .Nn e len z fs,k=>fN len λlen=>fZ z λz=>fP fs λfs=>k (.Nn e len z fs)
 | .ld w x,k=>fW w λw=>fO x λx=>k (.ld w x)
 | .st w a x,k=>fN w λw=>fO a λa=>fO x λx=>k (.st w a x)
 | .Vb x,k=>fO x λx=>k (.Vb x)
 | .bin op ty x y,k=>fO x λx=>fO y λy=>k (.bin op ty x y)
 | .not x,k=>fO x λx=>k (.not x)
 | .neg x,k=>fO x λx=>k (.neg x)
 | .Ol kk x,k=>fO x λx=>k (.Ol kk x)
 | .Vd x,k=>fO x λx=>k (.Vd x)
 | .Np x,k=>fO x λx=>k (.Np x)
 | .Ve ty x,k=>fO x λx=>k (.Ve ty x)
 | .Hw g cs,k=>fOs cs λcs=>k (.Hw g cs)
 | .Om,k=>k .Om
 | .Lr e z x y,k=>fZ z λz=>fO x λx=>fO y λy=>k (.Lr e z x y)
 | .RG x lo hi,k=>fO x λx=>ZW lo λlo=>ZW hi λhi=>k (.RG x lo hi)
 | .Vf w x lo hi,k=>fN w λw=>fO x λx=>ZW lo λlo=>ZW hi λhi=>k (.Vf w x lo hi)
 | .Vg w m x lo hi,k=>fN w λw=>fO x λx=>ZW lo λlo=>ZW hi λhi=>k (.Vg w m x lo hi)
 | .fa o x,k=>fN o λo=>fO x λx=>k (.fa o x)
 | .Vh w o x,k=>fW w λw=>fN o λo=>fO x λx=>k (.Vh w o x)
 | .je w x i,k=>fN w λw=>fO x λx=>fO i λi=>k (.je w x i)
 | .Sq w m x i,k=>fN w λw=>fO x λx=>fO i λi=>k (.Sq w m x i)
 | .Br x i,k=>fO x λx=>fO i λi=>k (.Br x i)
 | .Xd lw w m x i,k=>fW lw λlw=>fN w λw=>fO x λx=>fO i λi=>k (.Xd lw w m x i)
 | .look kt z x kk ok,k=>fVo z λz=>fO x λx=>fO kk λkk=>k (.look kt z x kk ok)
 | .upd kt m kk x,k=>fO m λm=>fO kk λkk=>fO x λx=>k (.upd kt m kk x)
 | .ext x kk,k=>fO x λx=>k (.ext x kk)
 | .rng x,k=>fO x λx=>k (.rng x)
 | .Oo x,k=>fO x λx=>k (.Oo x)
 | .ent x,k=>fO x λx=>k (.ent x)
 | .call g cs,k=>fO g λg=>fOs cs λcs=>k (.call g cs)
 | .inv x nm cs,k=>fO x λx=>fOs cs λcs=>k (.inv x nm cs)
 | .Fh x,k=>fO x λx=>k (.Fh x)
 | .ig x,k=>fO x λx=>k (.ig x)
 | .Hy m x,k=>fO x λx=>k (.Hy m x)
 | .Fj x,k=>fO x λx=>k (.Fj x)
 | .app e w x y,k=>fN w λw=>fO x λx=>fO y λy=>k (.app e w x y)
 | .Vi w x y,k=>fN w λw=>fO x λx=>fO y λy=>k (.Vi w x y)
 | .mx x y,k=>fO x λx=>fO y λy=>k (.mx x y)
 | .mn x y,k=>fO x λx=>fO y λy=>k (.mn x y)
def fD:MD->(MD->Option β)->Option β
 | .n,k=>k .n
 | .k d,k=>k (.k d)
 | .l,k=>k .l
def fG:Option (MO×Bool)->(Option (MO×Bool)->Option β)->Option β
 |none,k=>k none
 |some (x,b),k=>fO x λx=>fB b λb=>k (some (x,b))
def fR:List MR->(List MR->Option β)->Option β
 |[],k=>k []
 |⟨g,i,d⟩::l,k=>fG g λg=>fI i λi=>fD d λd=>fR l λl=>k (⟨g,i,d⟩::l)
def fQs:List MQ->(List MQ->Option β)->Option β
 |[],k=>k []
 |⟨n,r,ks,g,i⟩::l,k=>fN n λn=>fB r λr=>fNs ks λks=>fG g λg=>fI i λi=>fQs l λl=>k (⟨n,r,ks,g,i⟩::l)
def fPr:List (Nat×Nat)->(List (Nat×Nat)->Option β)->Option β
 |[],k=>k []
 |(a,b)::l,k=>fN a λa=>fN b λb=>fPr l λl=>k ((a,b)::l)
def fPt:List (Nat×Tmp)->(List (Nat×Tmp)->Option β)->Option β
 |[],k=>k []
 |(a,b)::l,k=>fN a λa=>fPt l λl=>k ((a,b)::l)
def fSs:List MS->(List MS->Option β)->Option β
 |[],k=>k []
 | .t a::l,k=>fSs l λl=>k (.t a::l)
 | .c a w::l,k=>fW w λw=>fSs l λl=>k (.c a w::l)
def fC:MC->(MC->Option β)->Option β
 | .skip,k=>k .skip
 | .reg l,k=>fR l λl=>k (.reg l)
 | .zW n l c w,k=>fN n λn=>fQs l λl=>fPr c λc=>fPt w λw=>k (.zW n l c w)
 | .seq a b,k=>fC a λa=>fC b λb=>k (.seq a b)
 | .cond c a b,k=>fO c λc=>fC a λa=>fC b λb=>k (.cond c a b)
 | .blk n a,k=>fC a λa=>k (.blk n a)
 | .loop a,k=>fC a λa=>k (.loop a)
 | .exit n,k=>k (.exit n)
 | .ret,k=>k .ret
 | .rng r p a b,k=>fO r λr=>k (.rng r p a b)
end
def hF(g:FuncId):Option (List Bool×List MS):=bnd (yc Tryz.prog sl0 g) λx=>fBs x.1 λk=>fSs x.2.2 λr=>some (k,r)
def cF(g:FuncId):Option MC:=bnd (yc Tryz.prog sl0 g) λx=>fC x.2.1 some
def cB(g:FuncId)(c:Code):Option MC:=bnd (zX Tryz.prog (sl0 g) c) λx=>fC x some
def vF(g:FuncId){m:MC}(h0:cF g=some m:=by conv=>lhs;whnf):MC:=m
def vB(g:FuncId)(c:Code){m:MC}(h0:cB g c=some m:=by conv=>lhs;whnf):MC:=m
theorem vT(g:FuncId)(m:MC){k:List Bool}{r:List MS}(h0:hF g=some (k,r):=by conv=>lhs;whnf)(h:yc Tryz.prog sl0 g=some (k,m,r):=by kernel_rfl):yc Tryz.prog sl0 g=some (k,m,r):=h
theorem vU(g:FuncId)(c:Code)(m:MC)(h:zX Tryz.prog (sl0 g) c=some m:=by kernel_rfl):zX Tryz.prog (sl0 g) c=some m:=h
@[go_sem ↓] theorem amV {g:FuncId} {m:MC} {h:cF g=some m}:vF g h=m:=rfl
@[go_sem ↓] theorem amW {g:FuncId} {c:Code} {m:MC} {h:cB g c=some m}:vB g c h=m:=rfl
end
end
noncomputable section
set_option maxRecDepth 1000000
set_option maxHeartbeats 4000000
def abB:MC:=vF 166
def ah0:=vT 166 abB
def abC:MC:=vF 168
def ah1:=vT 168 abC
def abD:MC:=vF 165
def c171:=vT 165 abD
def XM:MC:=vF 230
def ah2:=vT 230 XM
def abE:MC:=vF 264
def ah3:=vT 264 abE
def abF:MC:=vF 265
def ah4:=vT 265 abF
def XO:MC:=vF 167
def c173:=vT 167 XO
def XP:MC:=vF 161
def c167:=vT 161 XP
def XQ:MC:=vF 163
def ah5:=vT 163 XQ
def XR:MC:=vF 164
def ah6:=vT 164 XR
def m93:MC:=vF 94
def c93:=vT 94 m93
def abG:MC:=vF 263
def ah8:=vT 263 abG
def XT:MC:=vF 229
def ah9:=vT 229 XT
def XU:MC:=vF 162
def c168:=vT 162 XU
def m92:MC:=vF 93
def c92:=vT 93 m92
def m44:MC:=vF 52
def c44:=vT 52 m44
end
end Go.Proofs.YtfnnplicbjeifaaGreatDoor

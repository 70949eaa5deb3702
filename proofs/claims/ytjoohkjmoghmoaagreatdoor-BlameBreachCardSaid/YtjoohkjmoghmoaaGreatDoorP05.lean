/- part -/
import Derived.Test.YtjoohkjmoghmoaaGreatDoorP04
import Derived.Test.YtjoohkjmoghmoaaGreatDoorProg
import Derived.RecoverIn
import Derived.TacticsInMore
set_option linter.all false
namespace Go.Proofs.YtjoohkjmoghmoaaGreatDoor
section
abbrev Fm:=List (Nat×AV)
def lk:Fm->Nat->Option AV
 |[],_=>none
 |(j,v)::r,k=>if k=j then some v else lk r k
def pt:Fm->Nat->AV->Fm
 |[],k,v=>[(k,v)]
 |(j,u)::r,k,v=>if k=j then(k,v)::r else(j,u)::pt r k v
theorem jR:∀(F:Fm)(k:Nat)(v:AV)(m:Nat),lk (pt F k v) m=if m=k then some v else lk F m
 |[],k,v,m=>by simp only[pt,lk]
 |(j,u)::r,k,v,m=>by
  simp only[pt];by_cases h:k=j
  .subst h
   rw[if_pos rfl];simp only[lk];split<;>rfl
  .rw[if_neg h]
   simp only[lk,jR r k v m];by_cases h1:m=j
   .subst h1;rw[if_pos rfl,if_pos rfl,if_neg (λe=>h e.symm)]
   .rw[if_neg h1,if_neg h1]
def Fk(t:Tr AV)(F:Fm):Prop:=∀k v,lk F k=some v->t.get k=some v
theorem Fk.put{t:Tr AV}{F:Fm}(h:Fk t F)(k:Nat)(v:AV):Fk ((pp 20 k).run v t) (pt F k v):=λm u e=>by
 rw[jg];rw[jR]at e;split at e
 .rw[if_pos ‹_›];exact e
 .rw[if_neg ‹_›];exact h m u e
theorem Fk.nil(t:Tr AV):Fk t []:=λ_ _ e=>by cases e
theorem Fk.le{t:Tr AV}{F G:Fm}(h:Fk t F)(k:∀m v,lk G m=some v->lk F m=some v):Fk t G:=λm v e=>h m v (k m v e)
def ev(x:MO)(F:Fm)(l:List AV):Option AV:=match x with
 | .s k=>lk F k
 | .v j=>l[j]?
 | .c a=>some a
theorem bf{x:MO}{F:Fm}{l:List AV}{t:Tr AV}{v:AV}(h:Fk t F)(e:ev x F l=some v):gL x t l=some v:=by
 cases x with
 |s k=>show(gp 20 k).run t=_;rw[kV];exact h k v e
 |v j=>show(CU j).run l=_;rw[jr];exact e
 |c a=>exact e
def evs:List MO->Fm->List AV->Option (List AV)
 |[],_,_=>some []
 |x::r,F,l=>match ev x F l with
  |some a=>(match evs r F l with|some b=>some (a::b)|none=>none)
  |none=>none
theorem vD{F:Fm}{l:List AV}{t:Tr AV}(h:Fk t F):∀{xs:List MO}{vs:List AV},evs xs F l=some vs->Dw xs t l=some vs
 |[],_,e=>by cases e;rfl
 |x::xs,vs,e=>by
  rw[evs]at e;split at e
  case h_2=>cases e
  split at e
  case h_2=>cases e
  cases e
  show bnd (gL x t l) _=_;rw[bf h ‹_›];show bnd (Dw xs t l) _=_;rw[vD h ‹_›];rfl
def zK(x:Option MO)(F:Fm)(l:List AV):Option (Option Int):=match x with
 |none=>some none
 |some x=>match ev x F l with|some (.i _ n)=>some (some n)|_=>none
theorem vE{x:Option MO}{F:Fm}{l:List AV}{t:Tr AV}{v:Option Int}(h:Fk t F)(e:zK x F l=some v):Ph x t l=some v:=by
 cases x with
 |none=>exact e
 |some x=>
  unfold zK at e;dsimp only at e;split at e
  .cases e
   unfold Ph;dsimp only;rw[bf h ‹_›]
  .cases e
def qX(g:Option AO)(o:Nat)(w:Option Nat):Option AV:=match g with
 |some (.row _ l)=>(match w with
  |none=>l[o]?
  |some k=>if o+k<=l.length then some (.agg ((l.drop o).take k))else none)
 |some (.ro f)=>(match w with
  |none=>(match f o 1 with|some l=>l[0]?|none=>none)
  |some k=>(match f o k with|some l=>(if k<=l.length then some (.agg (l.take k))else none)|none=>none))
 |_=>none
noncomputable def LD (h:AH)(b o:Nat)(w:Option Nat):Option AV:=qX (h.get b) o w
theorem qw(k o:Nat)(l:List AV):mO k (qH o l)=if k<=l.length - o then some ((l.drop o).take k)else none:=by
 rw[rP];have key:∀(k:Nat)(l:List AV),mO k l=if k<=l.length then some (l.take k)else none:=by
  intro k;induction k with
  |zero=>intro l;simp;rfl
  |succ k ih=>
   intro l;cases l with
   |nil=>rfl
   |cons a l=>
    show bnd (mO k l) (λx=>some (a::x))=_;rw[ih];by_cases h:k<=l.length
    .rw[if_pos h,if_pos (by simp;exact h)];rfl
    .rw[if_neg h,if_neg (by simp;omega)];rfl
 rw[key,List.length_drop]
theorem RN{h:AH}{b o:Nat}{w:Option Nat}{v:AV}(e:LD h b o w=some v):bnd (iD (h.get b) o (wN w)) (λl=>KJ w l 0)=some v:=by
 unfold LD qX at e;split at e
 .rename_i t l hg
  rw[hg];show KJ w (qH o l) 0=_;cases w with
  |none=>show hd (qH o l)=_;rw[mW];exact e
  |some k=>
   show bnd (mO k (qH o l)) _=_;rw[qw];dsimp only at e;split at e
   .rw[if_pos (by omega)];exact e
   .cases e
 .rename_i f hg
  rw[hg];show bnd (f o (wN w)) (λl=>KJ w l 0)=_;cases w with
  |none=>
   dsimp only at e;show bnd (f o 1) _=_;split at e
   .rename_i l hl
    rw[hl];show hd (qH 0 l)=_;rw[mW];exact e
   .cases e
  |some k=>
   dsimp only at e;show bnd (f o k) _=_;split at e
   .rename_i l hl
    rw[hl];split at e
    .show bnd (mO k (qH 0 l)) _=_
     rw[qw,if_pos (by omega),List.drop_zero];exact e
    .cases e
   .cases e
 .cases e
def oh(u:List AV)(o:Nat)(l:List AV):Option (List AV):=if o+u.length<=l.length then some (l.take o++(u++l.drop (o+u.length)))else none
theorem yB{u:List AV}{o:Nat}{l m:List AV}(e:oh u o l=some m):uT u o l=some m:=by
 have ov:∀(u l:List AV),u.length<=l.length->Te u l=some (u++l.drop u.length):=by
  intro u;induction u with
  |nil=>intro l _;simp;rfl
  |cons a u ih=>
   intro l h;cases l with
   |nil=>simp at h
   |cons b l=>
    show bnd (Te u l) (λx=>some (a::x))=_;rw[ih l (by simpa using h)];simp[bnd]
 have key:∀(o:Nat)(l:List AV),o+u.length<=l.length->uT u o l=some (l.take o++(u++l.drop (o+u.length))):=by
  intro o;induction o with
  |zero=>intro l h;show Te u l=_;rw[ov u l (by omega)];simp
  |succ o ih=>
   intro l h;cases l with
   |nil=>simp at h
   |cons b l=>
    show bnd (uT u o l) (λx=>some (b::x))=_;rw[ih l (by simp at h;omega)];simp[bnd,show o+1+u.length=(o+u.length)+1 by omega]
 unfold oh at e;split at e
 .cases e;exact key o l ‹_›
 .cases e
def CW(f:FT)(g:FuncId)(args:List AV)(h:AH)(n:Nat)(Q:AV->AH->Nat->Prop):Prop:=∃v h' n',f g args h n= .ok v h' n'/\Q v h' n'
def RW(r:eY)(Q:AV->AH->Nat->Prop):Prop:=∃v h' n',r= .ok v h' n'/\Q v h' n'
def IA(w:Nat)(v:AV)(k:Int)(K:AV->Prop):Prop:=∃b lo o m c,v= .sl b lo o m c/\0<=k/\k<(m:Nat)/\K (.p b (o+k.toNat*w))
def Pn:AV->Option Nat
 | .sl _ _ _ m _=>some m
 | .k 1=>some 0
 | .es _ _=>some 0
 |_=>none
def colE:List (Nat×Nat×MO)->Fm->List AV->List AV->Option (List AV)
 |[],_,_,c=>some c
 |(o,w,x)::r,F,l,c=>match ev x F l with
  |some a=>(match qI a with
   |some u=>if u.length=w then(match oh u o c with|some c=>colE r F l c|none=>none)else none
   |none=>none)
  |none=>none
theorem xE{F:Fm}{l:List AV}{t:Tr AV}(h:Fk t F):∀{fs:List (Nat×Nat×MO)}{c m:List AV},colE fs F l c=some m->LB fs t l c=some m
 |[],c,m,e=>e
 |(o,w,x)::r,c,m,e=>by
  rw[colE]at e;split at e
  case h_2=>cases e
  rename_i a ha;split at e
  case h_2=>cases e
  rename_i u hu;split at e
  case isFalse=>cases e
  rename_i hw;split at e
  case h_2=>cases e
  rename_i c' hc;show bnd (gL x t l) _=_;rw[bf h ha];show bnd (qI a) _=_;rw[hu];show bc (Nat.beq (mM u) w) (bnd (uT u o c) _) none=_;rw[eF,hw,Nat.beq_refl,bD,yB hc];exact xE h e
def wF(c a b:Option AV):Option AV:=match c with
 |some (.b true)=>a
 |some (.b false)=>b
 |_=>none
noncomputable def RO (h:AH)(a:Option AV)(w:Option Nat):Option AV:=match a with
 |some (.p x k)=>qX (h.get x) k w
 |_=>none
def LP(a:Option AV):Option AV:=match a with
 |some (.b v)=>some (.b (!v))
 |_=>none
def Xx(o:Nat)(a:Option AV):Option AV:=match a with
 |some (.p b k)=>some (.p b (k+o))
 |_=>none
noncomputable def LQ (w:Option Nat)(o:Nat)(a:Option AV):Option AV:=match a with
 |some (.agg c)=>KJ w c o
 |_=>none
def LU(k:Nat)(a:Option AV):Option AV:=match a with
 |some (.bQ c)=>c[k]?
 |_=>none
def Xz(a:Option AV):Option AV:=match a with
 |some (.s c)=>some (.i .i64 (c.length:Nat))
 |_=>none
def Jl(a:Option AV):Option AV:=match a with
 |some v=>(match Pn v with|some m=>some (.i .i64 (m:Nat))|none=>none)
 |none=>none
def Jm(w:Nat)(a:Option AV):Option (List AV):=match a with
 |some v=>(match qI v with|some c=>if c.length=w then some c else none|none=>none)
 |none=>none
def fu(g:Option AO)(o:Nat)(u:Option (List AV)):Option AO:=match g,u with
 |some (.row t l),some u=>(match oh u o l with|some m=>some (.row t m)|none=>none)
 |_,_=>none
noncomputable def XA (a:Option AV):Option AV:=match a with
 |some (.i k v)=>some (.i k (gK k (0 - v)))
 |_=>none
noncomputable def XB (k:IntKind)(a:Option AV):Option AV:=match a with
 |some (.i _ v)=>some (.i k (gK k v))
 |_=>none
def XC(a:Option AV):Option AV:=match a with
 |some (.s c)=>some (.s c)
 |_=>none
noncomputable def XD (w:Nat)(x:Option AV)(lo hi:Option (Option Int)):Option AV:=match x,lo,hi with
 |some (.sl b m o k c),some lo,some hi=>EH w b m o k c lo hi
 |_,_,_=>none
noncomputable def XE (x:Option AV)(lo hi:Option (Option Int)):Option AV:=match x,lo,hi with
 |some (.s c),some lo,some hi=>oH c lo hi
 |_,_,_=>none
noncomputable def lmO (h:AH)(x:Option AV):Option AV:=match x with
 |some (.m r)=>(match IQ (h.get r)with|some es=>some (.i .i64 (es.length:Nat))|none=>none)
 |_=>none
noncomputable def V5 (P:Program)(kt:TypeId)(z:Option AV)(ok:Bool)(h:AH)(x k:Option AV):Option AV:=match x,k with
 |some x,some k=>lookO (qQ P 30 kt) (xQ P 30 kt) z ok h x k
 |_,_=>none
noncomputable def TK (h:AH)(x:Option AV):Option AV:=match x with
 |some (.k 1)=>some (.s [])
 |some (.sl b m o k c)=>(match iZ h 1 k (.sl b m o k c)with|some u=>(match oF u with|some b=>some (.s b)|none=>none)|none=>none)
 |_=>none
def Fb(a:Option AV):Option AV:=match a with
 |some (.p b o)=>some (.p b o)
 |some (.f g c)=>some (.f g c)
 |some (.y q)=>some (.y q)
 |_=>none
noncomputable def LV (w m:Nat)(a k:Option AV):Option AV:=match a,k with
 |some (.p b o),some (.i _ k)=>Ez k m λk=>some (.p b (Nat.add o (Nat.mul k w)))
 |_,_=>none
noncomputable def LW (a k:Option AV):Option AV:=match a,k with
 |some (.s c),some (.i _ k)=>Ez k 1048576 λk=>bnd (hd (qH k c)) λb=>some (.i .u8 (Int.ofNat b.toNat))
 |_,_=>none
noncomputable def TL (lw:Option Nat)(w m:Nat)(a k:Option AV):Option AV:=match a,k with
 |some (.agg c),some (.i _ k)=>Ez k m λk=>KJ lw c (Nat.mul k w)
 |_,_=>none
noncomputable def Jo (w m:Nat)(x:Option AV)(lo hi:Option (Option Int)):Option AV:=match x,lo,hi with
 |some (.p b o),some lo,some hi=>EI w m b o lo hi
 |_,_,_=>none
noncomputable def XF (a b:Option AV):Option AV:=match a,b with
 |some (.i k a),some (.i _ b)=>some (.i k (bc (kY b a) a b))
 |_,_=>none
noncomputable def XG (a b:Option AV):Option AV:=match a,b with
 |some (.i k a),some (.i _ b)=>some (.i k (bc (kY a b) a b))
 |_,_=>none
section
variable (P:Program) (Y:YT)
noncomputable def XH (op:BinOp)(ty:TypeId)(a b:Option AV):Option AV:=match a,b with
 |some a,some b=>(dY P ty op).run a b
 |_,_=>none
noncomputable def pv (i:MI)(h:AH)(F:Fm)(l:List AV):Option AV:=match i with
 | .mv x=>ev x F l
 | .pick c a b=>wF (ev c F l) (ev a F l) (ev b F l)
 | .Hz z fs=>(colE fs F l z).map .agg
 | .ld w a=>RO h (ev a F l) w
 | .bin op ty x y=>XH P op ty (ev x F l) (ev y F l)
 | .not x=>LP (ev x F l)
 | .fa o x=>Xx o (ev x F l)
 | .RA w o x=>LQ w o (ev x F l)
 | .Rx ty x=>(ev x F l).map (.zH ty)
 | .HV g cs=>(evs cs F l).map (.f g)
 | .ext x k=>LU k (ev x F l)
 | .Du x=>Xz (ev x F l)
 | .iE x=>Jl (ev x F l)
 | .neg x=>XA (ev x F l)
 | .Lx k x=>XB k (ev x F l)
 | .Rw x=>XC (ev x F l)
 | .Rv x=>Fb (ev x F l)
 | .Ry w x lo hi=>XD w (ev x F l) (zK lo F l) (zK hi F l)
 | .Oz x lo hi=>XE (ev x F l) (zK lo F l) (zK hi F l)
 | .Dv x=>lmO h (ev x F l)
 | .look kt z x k ok=>V5 P kt z ok h (ev x F l) (ev k F l)
 | .KI x=>TK h (ev x F l)
 | .Pg w m x k=>LV w m (ev x F l) (ev k F l)
 | .zJ x k=>LW (ev x F l) (ev k F l)
 | .TF lw w m x k=>TL lw w m (ev x F l) (ev k F l)
 | .Rz w m x lo hi=>Jo w m (ev x F l) (zK lo F l) (zK hi F l)
 | .E9 m x=>(ev x F l).map λ_=>.i .i64 (m:Nat)
 | .mx x y=>XF (ev x F l) (ev y F l)
 | .mn x y=>XG (ev x F l) (ev y F l)
 |_=>none
theorem RP{i:MI}{f:FT}{h:AH}{n:Nat}{F:Fm}{l:List AV}{t:Tr AV}{v:AV}(e:pv P i h F l=some v)(hF:Fk t F):i.run P Y f t l h n= .ok v h n:=by
 unfold pv at e;split at e
 .show ok1 (gL _ t l) h n=_;rw[bf hF e];rfl
 .rename_i c a b
  unfold wF at e;split at e
  .rename_i hc;simp only[MI.run,bf hF hc,bf hF e];rfl
  .rename_i hc;simp only[MI.run,bf hF hc,bf hF e];rfl
  .cases e
 .obtain⟨c,h1,rfl⟩:=Option.map_eq_some_iff.1 e
  simp only[MI.run,xE hF h1,aJ]
 .unfold RO at e
  split at e
  .rename_i hc
   simp only[MI.run,bf hF hc,RN (show LD h _ _ _=some v from e)];rfl
  .cases e
 .unfold XH at e
  split at e
  .rename_i h1 h2;simp only[MI.run,bf hF h1,bf hF h2,aJ,e];rfl
  .cases e
 .unfold LP at e
  split at e
  .rename_i h1;cases e;simp only[MI.run,bf hF h1,aJ,ji]
  .cases e
 .unfold Xx at e
  split at e
  .rename_i h1;cases e;simp only[MI.run,bf hF h1];rfl
  .cases e
 .unfold LQ at e
  split at e
  .rename_i h1;simp only[MI.run,bf hF h1,e];rfl
  .cases e
 .obtain⟨c,h1,rfl⟩:=Option.map_eq_some_iff.1 e
  simp only[MI.run,bf hF h1,aJ]
 .obtain⟨c,h1,rfl⟩:=Option.map_eq_some_iff.1 e
  simp only[MI.run,vD hF h1,aJ]
 .unfold LU at e
  split at e
  .rename_i h1;simp only[MI.run,bf hF h1,mW,e];rfl
  .cases e
 .unfold Xz at e
  split at e
  .rename_i h1;cases e;simp only[MI.run,bf hF h1,eF];rfl
  .cases e
 .unfold Jl at e
  split at e
  .rename_i w h1
   split at e
   .rename_i m hm
    cases e
    simp only[MI.run,bf hF h1];unfold Pn at hm;split at hm<;>cases hm<;>rfl
   .cases e
  .cases e
 .unfold XA at e
  split at e
  .rename_i h1;cases e;simp only[MI.run,bf hF h1,aJ];rfl
  .cases e
 .unfold XB at e
  split at e
  .rename_i h1;cases e;simp only[MI.run,bf hF h1]
  .cases e
 .unfold XC at e
  split at e
  .rename_i h1;cases e;simp only[MI.run,bf hF h1]
  .cases e
 .unfold Fb at e
  split at e
  .rename_i h1;cases e;simp only[MI.run,bf hF h1,aJ]
  .rename_i h1;cases e;simp only[MI.run,bf hF h1,aJ]
  .rename_i h1;cases e;simp only[MI.run,bf hF h1,aJ]
  .cases e
 .unfold XD at e
  split at e
  .rename_i h1 h2 h3;simp only[MI.run,bf hF h1,vE hF h2,vE hF h3,aJ,e];rfl
  .cases e
 .unfold XE at e
  split at e
  .rename_i h1 h2 h3;simp only[MI.run,bf hF h1,vE hF h2,vE hF h3,aJ,e];rfl
  .cases e
 .unfold lmO at e
  split at e
  .rename_i h1
   split at e
   .rename_i h2;cases e;simp only[MI.run,bf hF h1,h2,aJ,eF];rfl
   .cases e
  .cases e
 .unfold V5 at e
  split at e
  .rename_i h1 h2;simp only[MI.run,bf hF h1,bf hF h2,aJ,e];rfl
  .cases e
 .unfold TK at e
  split at e
  .rename_i h1;cases e;simp only[MI.run,bf hF h1]
  .rename_i h1
   split at e
   .rename_i h2
    split at e
    .rename_i h3;cases e;simp only[MI.run,bf hF h1,h2,h3,aJ]
    .cases e
   .cases e
  .cases e
 .unfold LV at e
  split at e
  .rename_i h1 h2;simp only[MI.run,bf hF h1,bf hF h2,e];rfl
  .cases e
 .unfold LW at e
  split at e
  .rename_i h1 h2;simp only[MI.run,bf hF h1,bf hF h2,e];rfl
  .cases e
 .unfold TL at e
  split at e
  .rename_i h1 h2;simp only[MI.run,bf hF h1,bf hF h2,e];rfl
  .cases e
 .unfold Jo at e
  split at e
  .rename_i h1 h2 h3;simp only[MI.run,bf hF h1,vE hF h2,vE hF h3,aJ,e];rfl
  .cases e
 .obtain⟨c,h1,rfl⟩:=Option.map_eq_some_iff.1 e
  simp only[MI.run,bf hF h1,aJ];rfl
 .unfold XF at e
  split at e
  .rename_i h1 h2;cases e;simp only[MI.run,bf hF h1,bf hF h2]
  .cases e
 .unfold XG at e
  split at e
  .rename_i h1 h2;cases e;simp only[MI.run,bf hF h1,bf hF h2]
  .cases e
 .cases e
theorem bC{a b:Prop}(h:a=b):a=b:=h
inductive It where
 |c (m:MC)
 |r (r:List MR) (l:List AV)
 |b (id:Nat)
abbrev PQ:=Ex->AH->Nat->Fm->Prop
abbrev SK:=List It->Ex->FT->AH->Nat->Fm->PQ->Prop
def TM(x:Ex)(id:Nat):Ex:=match x with| .exit j=>if j=id then .bT else .exit j|x=>x
noncomputable def nu (g:FuncId):List It->Ex->FT->AH->Nat->Tr AV->eZ
 |[],x,_,h,n,t=>.ok x h n t
 | .b id::s,x,f,h,n,t=>nu g s (TM x id) f h n t
 | .c m::s,x,f,h,n,t=>match x with
  | .bT=>iO (m.run P Y g f h n t) λx h n t=>nu g s x f h n t
  |x=>nu g s x f h n t
 | .r r l::s,x,f,h,n,t=>match x with
  | .bT=>iO (oO P Y r f h n t l) λx h n t=>nu g s x f h n t
  |x=>nu g s x f h n t
def SM(g:FuncId)(s:List It)(x:Ex)(f:FT)(h:AH)(n:Nat)(F:Fm)(Q:PQ):Prop:=∀t,Fk t F->∃x' h' n' t' F',nu P Y g s x f h n t= .ok x' h' n' t'/\Fk t' F'/\Q x' h' n' F'
def mP(S:SK)(d:MD)(v:AV)(r:List MR)(l:List AV)(s:List It)(f:FT)(h:AH)(n:Nat)(F:Fm)(Q:PQ):Prop:=match d with
 | .n=>S (.r r l::s) .bT f h n F Q
 | .k d=>S (.r r l::s) .bT f h n (pt F d v) Q
 | .l=>S (.r r (v::l)::s) .bT f h n F Q
def kS(S:SK)(o:Option AV)(d:MD)(r:List MR)(l:List AV)(s:List It)(f:FT)(h:AH)(n:Nat)(F:Fm)(Q:PQ):Prop:=match o with
 |some v=>mP S d v r l s f h n F Q
 |none=>False
noncomputable def kC (S:SK)(o:Option (List AV))(e:TypeId)(v:AV)(d:MD)(r:List MR)(l:List AV)(s:List It)(f:FT)(h:AH)(n:Nat)(F:Fm)(Q:PQ):Prop:=match o with
 |some c=>mP S d v r l s f (h.set n (.row e c)) (n+1) F Q
 |none=>False
noncomputable def kH (S:SK)(b:Nat)(o:Option AO)(d:MD)(r:List MR)(l:List AV)(s:List It)(f:FT)(h:AH)(n:Nat)(F:Fm)(Q:PQ):Prop:=match o with
 |some a=>mP S d (.bQ []) r l s f (h.set b a) n F Q
 |none=>False
noncomputable def kT (S:SK)(a:Option AV)(u:Option (List AV))(d:MD)(r:List MR)(l:List AV)(s:List It)(f:FT)(h:AH)(n:Nat)(F:Fm)(Q:PQ):Prop:=match a with
 |some (.p b o)=>kH S b (fu (h.get b) o u) d r l s f h n F Q
 |_=>False
def RQ(S:SK)(w:Nat)(a k:Option AV)(d:MD)(r:List MR)(l:List AV)(s:List It)(f:FT)(h:AH)(n:Nat)(F:Fm)(Q:PQ):Prop:=match a,k with
 |some a,some (.i _ k)=>IA w a k λp=>mP S d p r l s f h n F Q
 |_,_=>False
def kF(S:SK)(g:Option AV)(c:Option (List AV))(d:MD)(r:List MR)(l:List AV)(s:List It)(f:FT)(h:AH)(n:Nat)(F:Fm)(Q:PQ):Prop:=match g,c with
 |some (.f g cap),some c=>CW f g (c++cap) h n λv h n=>mP S d v r l s f h n F Q
 |some (.y q),some c=>RW (Y q c f h n) λv h n=>mP S d v r l s f h n F Q
 |_,_=>False
def kG(S:SK)(b:Option Bool)(i:MI)(d:MD)(r:List MR)(l:List AV)(s:List It)(f:FT)(h:AH)(n:Nat)(F:Fm)(Q:PQ)(T:SK->MI->MD->List MR->List AV->List It->FT->AH->Nat->Fm->PQ->Prop):Prop:=match b with
 |some true=>T S i d r l s f h n F Q
 |some false=>mP S d (.bQ []) r l s f h n F Q
 |none=>False
def kR(S:SK)(o:Option eY)(d:MD)(r:List MR)(l:List AV)(s:List It)(f:FT)(F:Fm)(Q:PQ):Prop:=match o with
 |some (.ok v h n)=>mP S d v r l s f h n F Q
 |_=>False
noncomputable def Po (e:TypeId)(w:Nat)(h:AH)(n:Nat)(x y:Option AV):Option eY:=match x,y with
 |some x,some y=>some ((jq e w).run h n x y)
 |_,_=>none
noncomputable def TN (w:Nat)(h:AH)(n:Nat)(x y:Option AV):Option eY:=match x,y with
 |some x,some y=>some (qU w h n x y)
 |_,_=>none
noncomputable def TP (kt:TypeId)(h:AH)(n:Nat)(m k x:Option AV):Option eY:=match m,k,x with
 |some m,some k,some x=>some (CV (qQ P 30 kt) (xQ P 30 kt) h n m k x)
 |_,_,_=>none
noncomputable def XI (e:TypeId)(z:List AV)(h:AH)(n:Nat)(x y:Option AV):Option eY:=match x,y with
 |some (.i _ (.ofNat a)),some (.i _ (.ofNat c))=>some (bc (Nat.ble a c) (bc (Nat.ble c 1048576) (mk h n (.sl n 0 0 a (some c)) (.row e (rep c z))) .bad) .bad)
 |_,_=>none
noncomputable def jv (S:SK)(i:MI)(d:MD)(r:List MR)(l:List AV)(s:List It)(f:FT)(h:AH)(n:Nat)(F:Fm)(Q:PQ):Prop:=match i with
 | .al e z=>kC S (some z) e (.p n 0) d r l s f h n F Q
 | .box e w x=>kC S (Jm w (ev x F l)) e (.p n 0) d r l s f h n F Q
 | .KH e len z fs=>kC S (colE fs F l z) e (.sl n 0 0 len (some len)) d r l s f h n F Q
 | .st w a x=>kT S (ev a F l) (Jm w (ev x F l)) d r l s f h n F Q
 | .LA=>mP S d (.m n) r l s f (h.set n (.mp [] 0)) (n+1) F Q
 | .jc w x ix=>RQ S w (ev x F l) (ev ix F l) d r l s f h n F Q
 | .call g cs=>kF Y S (ev g F l) (evs cs F l) d r l s f h n F Q
 | .app e w x y=>kR S (Po e w h n (ev x F l) (ev y F l)) d r l s f F Q
 | .RF w x y=>kR S (TN w h n (ev x F l) (ev y F l)) d r l s f F Q
 | .upd kt m k x=>kR S (TP P kt h n (ev m F l) (ev k F l) (ev x F l)) d r l s f F Q
 | .Jh e z x y=>kR S (XI e z h n (ev x F l) (ev y F l)) d r l s f F Q
 | .mv _| .pick _ _ _| .Hz _ _| .ld _ _| .bin _ _ _ _| .not _| .fa _ _| .RA _ _ _| .Rx _ _| .HV _ _| .ext _ _| .Du _| .iE _| .neg _| .Lx _ _| .Rw _| .Rv _| .Ry _ _ _ _| .Oz _ _ _| .Dv _| .look _ _ _ _ _| .KI _| .Pg _ _ _ _| .zJ _ _| .TF _ _ _ _ _| .Rz _ _ _ _ _| .E9 _ _| .mx _ _| .mn _ _=>kS S (pv P i h F l) d r l s f h n F Q
 |i=>∀t,Fk t F->RW (i.run P Y f t l h n) λv h n=>mP S d v r l s f h n F Q
def gO(g:Option (MO×Bool))(F:Fm)(l:List AV):Option Bool:=match g with
 |none=>some true
 |some (x,w)=>match ev x F l with|some (.b x)=>some (w==x)|some (.bQ _)=>some false|_=>none
def kB(S:SK)(o:Option AV)(a b:MC)(s:List It)(f:FT)(h:AH)(n:Nat)(F:Fm)(Q:PQ):Prop:=match o with
 |some (.b true)=>S (.c a::s) .bT f h n F Q
 |some (.b false)=>S (.c b::s) .bT f h n F Q
 |_=>False
noncomputable def sM (g:FuncId)(S:SK)(m:MC)(s:List It)(f:FT)(h:AH)(n:Nat)(F:Fm)(Q:PQ):Prop:=match m with
 | .skip=>S s .bT f h n F Q
 | .reg r=>S (.r r []::s) .bT f h n F Q
 | .seq a b=>S (.c a:: .c b::s) .bT f h n F Q
 | .cond c a b=>kB S (ev c F []) a b s f h n F Q
 | .blk id a=>S (.c a:: .b id::s) .bT f h n F Q
 | .exit id=>S s (.exit id) f h n F Q
 | .ret=>S s .ret f h n F Q
 |m=>SM P Y g (.c m::s) .bT f h n F Q
noncomputable def sK (g:FuncId):Nat->SK
 |0=>λ_ _ _ _ _ _ _=>False
 |k+1=>λs x f h n F Q=>match s with
  |[]=>Q x h n F
  | .b id::s=>sK g k s (TM x id) f h n F Q
  | .c m::s=>(match x with
   | .bT=>sM P Y g (sK g k) m s f h n F Q
   |x=>sK g k s x f h n F Q)
  | .r [] _::s=>sK g k s x f h n F Q
  | .r (o::r) l::s=>(match x with
   | .bT=>kG (sK g k) (gO o.g F l) o.i o.d r l s f h n F Q (jv P Y)
   |x=>sK g k s x f h n F Q)
theorem qY{g:Option (MO×Bool)}{F:Fm}{l:List AV}{t:Tr AV}{b:Bool}(h:Fk t F)(e:gO g F l=some b):BL g t l=some b:=by
 cases g with
 |none=>exact e
 |some g=>
  obtain⟨x,w⟩:=g;unfold gO at e;dsimp only at e;split at e
  .cases e
   unfold BL;dsimp only;rw[bf h ‹_›];dsimp only;rename_i x' _;cases w<;>cases x'<;>rfl
  .cases e
   unfold BL;dsimp only;rw[bf h ‹_›]
  .cases e
theorem H6{w:Nat}{a:Option AV}{c:List AV}(e:Jm w a=some c):∃v,a=some v/\qI v=some c/\c.length=w:=by
 unfold Jm at e;split at e
 case h_2=>cases e
 split at e
 case h_2=>cases e
 split at e
 case isFalse=>cases e
 cases e
 exact⟨_,rfl,‹_›,‹_›⟩
section
variable {P Y} {g:FuncId} {f:FT} {s:List It} {Q:PQ} {S:SK}
def Tru(P:Program)(Y:YT)(g:FuncId)(S:SK):Prop:=∀s x f h n F Q,S s x f h n F Q->SM P Y g s x f h n F Q
theorem LY(hS:Tru P Y g S){d:MD}{v:AV}{r:List MR}{l:List AV}{h:AH}{n:Nat}{F:Fm}{t:Tr AV}(e:mP S d v r l s f h n F Q)(hF:Fk t F):
 ∃x' h' n' t' F',iO (RJ d t l v λt l=>oO P Y r f h n t l) (λx h n t=>nu P Y g s x f h n t)= .ok x' h' n' t'/\Fk t' F'/\Q x' h' n' F':=by
 cases d with
 |n=>exact hS _ _ _ _ _ _ _ e t hF
 |k d=>exact hS _ _ _ _ _ _ _ e _ (hF.put d v)
 |l=>exact hS _ _ _ _ _ _ _ e t hF
theorem TQ(hS:Tru P Y g S){i:MI}{d:MD}{r:List MR}{l:List AV}{h:AH}{n:Nat}{F:Fm}{t:Tr AV}(e:jv P Y S i d r l s f h n F Q)(hF:Fk t F):
 ∃v h' n',i.run P Y f t l h n= .ok v h' n'/\mP S d v r l s f h' n' F Q:=by
 have pure:kS S (pv P i h F l) d r l s f h n F Q->∃v h' n',i.run P Y f t l h n= .ok v h' n'/\mP S d v r l s f h' n' F Q:=by
  intro e;unfold kS at e;split at e
  .exact⟨_,_,_,RP P Y ‹_› hF,e⟩
  .exact e.elim
 unfold jv at e;split at e<;>try exact pure e
 .exact⟨_,_,_,rfl,e⟩
 .unfold kC at e
  split at e
  .obtain⟨v,h1,h2,h3⟩:=H6 ‹_›
   refine⟨_,_,_,?_,e⟩;simp only[MI.run,bf hF h1,aJ,h2,eF,h3,Nat.beq_refl,bD];rfl
  .exact e.elim
 .unfold kC at e
  split at e
  .refine⟨_,_,_,?_,e⟩;simp only[MI.run,xE hF ‹_›,aJ];rfl
  .exact e.elim
 .unfold kT at e
  split at e
  case h_2=>exact e.elim
  rename_i b o hb;unfold kH at e;split at e
  case h_2=>exact e.elim
  rename_i a ha;refine⟨_,_,_,?_,e⟩;unfold fu at ha;split at ha
  case h_2=>cases ha
  rename_i q1 q2 ty lo u h5 h6;split at ha
  case h_2=>cases ha
  cases ha
  obtain⟨v,h1,h2,h3⟩:=H6 h6;simp only[MI.run,bf hF hb,bf hF h1,aJ];unfold xR;dsimp only;rw[h5];dsimp only;rw[h2];show bc (Nat.beq (mM u) _) (aJ (uT u o lo) _) .bad=_;rw[eF,h3,Nat.beq_refl,bD,yB ‹_›];rfl
 .exact⟨_,_,_,rfl,e⟩
 .unfold RQ at e
  split at e
  case h_2=>exact e.elim
  rename_i hx hk;obtain⟨b,lo,o,m,cp,rfl,e1,e2,e3⟩:=e;obtain⟨k',rfl⟩:=Int.eq_ofNat_of_zero_le e1;refine⟨_,_,_,?_,e3⟩;simp only[MI.run,bf hF hx,bf hF hk];show ok1 (bc (Nat.ble (Nat.succ k') m) _ none) h n=_;rw[Nat.ble_eq_true_of_le (show k'+1<=m by omega),bD];rfl
 .unfold kF at e
  split at e
  .rename_i h1 h2
   obtain⟨v,h',n',e1,e2⟩:=e;refine⟨v,h',n',?_,e2⟩;simp only[MI.run,bf hF h1,vD hF h2,aJ,iK,e1]
  .rename_i h1 h2
   obtain⟨v,h',n',e1,e2⟩:=e;refine⟨v,h',n',?_,e2⟩;simp only[MI.run,bf hF h1,vD hF h2,aJ,e1]
  .exact e.elim
 .unfold kR Po at e
  split at e
  case h_2=>exact e.elim
  rename_i ho;split at ho
  case h_2=>cases ho
  rename_i h1 h2;refine⟨_,_,_,?_,e⟩;simp only[MI.run,bf hF h1,bf hF h2,aJ];exact Option.some.inj ho
 .unfold kR TN at e
  split at e
  case h_2=>exact e.elim
  rename_i ho;split at ho
  case h_2=>cases ho
  rename_i h1 h2;refine⟨_,_,_,?_,e⟩;simp only[MI.run,bf hF h1,bf hF h2,aJ];exact Option.some.inj ho
 .unfold kR TP at e
  split at e
  case h_2=>exact e.elim
  rename_i ho;split at ho
  case h_2=>cases ho
  rename_i h1 h2 h3;refine⟨_,_,_,?_,e⟩;simp only[MI.run,bf hF h1,bf hF h2,bf hF h3,aJ];exact Option.some.inj ho
 .unfold kR XI at e
  split at e
  case h_2=>exact e.elim
  rename_i ho;split at ho
  case h_2=>cases ho
  rename_i h1 h2;refine⟨_,_,_,?_,e⟩;simp only[MI.run,bf hF h1,bf hF h2];exact Option.some.inj ho
 .exact e t hF
theorem XJ(hS:Tru P Y g S){m:MC}{h:AH}{n:Nat}{F:Fm}(e:sM P Y g S m s f h n F Q):SM P Y g (.c m::s) .bT f h n F Q:=by
 intro t hF;have ass:∀(a:eZ)(p q:Ex->AH->Nat->Tr AV->eZ),iO (iO a p) q=iO a λx h n t=>iO (p x h n t) q:=λa p q=>by cases a<;>rfl
 cases m with
 |skip=>exact hS _ _ _ _ _ _ _ (show S s .bT f h n F Q from e) t hF
 |reg r=>exact hS _ _ _ _ _ _ _ (show S (.r r []::s) .bT f h n F Q from e) t hF
 |seq a b=>
  obtain⟨x,h1,n1,t1,F1,e1,e2⟩:=hS _ _ _ _ _ _ _ (show S (.c a:: .c b::s) .bT f h n F Q from e) t hF;refine⟨x,h1,n1,t1,F1,?_,e2⟩;rw[<-e1];show iO (iO (a.run P Y g f h n t) _) _=iO (a.run P Y g f h n t) _;rw[ass];congr 1;funext x h n t;cases x<;>rfl
 |cond c a b=>
  have e:kB S (ev c F []) a b s f h n F Q:=e;unfold kB at e;split at e
  .rename_i hc
   obtain⟨x,h1,n1,t1,F1,e1,e2⟩:=hS _ _ _ _ _ _ _ e t hF;refine⟨x,h1,n1,t1,F1,?_,e2⟩;rw[<-e1];show iO (match gL c t []with|some (.b x)=>bc x (a.run P Y g f h n t) (b.run P Y g f h n t)|_=>.bad) _=_;rw[bf hF hc];rfl
  .rename_i hc
   obtain⟨x,h1,n1,t1,F1,e1,e2⟩:=hS _ _ _ _ _ _ _ e t hF;refine⟨x,h1,n1,t1,F1,?_,e2⟩;rw[<-e1];show iO (match gL c t []with|some (.b x)=>bc x (a.run P Y g f h n t) (b.run P Y g f h n t)|_=>.bad) _=_;rw[bf hF hc];rfl
  .exact e.elim
 |blk id a=>
  obtain⟨x,h1,n1,t1,F1,e1,e2⟩:=hS _ _ _ _ _ _ _ (show S (.c a:: .b id::s) .bT f h n F Q from e) t hF;refine⟨x,h1,n1,t1,F1,?_,e2⟩;rw[<-e1];show iO (iO (a.run P Y g f h n t) _) _=iO (a.run P Y g f h n t) _;rw[ass];congr 1;funext x h n t;cases x with
  |exit j=>
   show iO (bc (Nat.beq j id) (.ok .bT h n t) (.ok (.exit j) h n t)) _=nu P Y g s (if j=id then .bT else .exit j) f h n t;by_cases hj:j=id
   .rw[if_pos hj];subst hj;rw[Nat.beq_refl];rfl
   .rw[if_neg hj]
    have:Nat.beq j id=false:=by
     cases e:Nat.beq j id with
     |false=>rfl
     |true=>exact absurd (beq_eq e) hj
    rw[this];rfl
  |bT=>rfl
  |ret=>rfl
  |goto j=>rfl
 |exit id=>exact hS _ _ _ _ _ _ _ (show S s (.exit id) f h n F Q from e) t hF
 |ret=>exact hS _ _ _ _ _ _ _ (show S s .ret f h n F Q from e) t hF
 |loop a=>exact(show SM P Y g (.c (.loop a)::s) .bT f h n F Q from e) t hF
 |Aj K r c w=>exact(show SM P Y g (.c (.Aj K r c w)::s) .bT f h n F Q from e) t hF
 |rng a b c d=>exact(show SM P Y g (.c (.rng a b c d)::s) .bT f h n F Q from e) t hF
theorem oP:∀(k:Nat),Tru P Y g (sK P Y g k)
 |0=>λs x f h n F Q e=>e.elim
 |k+1=>λs x f h n F Q e=>by
  have ih:=oP k;cases s with
  |nil=>exactλt hF=>⟨_,_,_,_,F,rfl,hF,e⟩
  |cons i s=>
   cases i with
   |b id=>exactλt hF=>ih s (TM x id) f h n F Q e t hF
   |c m=>
    cases x with
    |bT=>exact XJ ih e
    |exit j=>exactλt hF=>ih s (.exit j) f h n F Q e t hF
    |goto j=>exactλt hF=>ih s (.goto j) f h n F Q e t hF
    |ret=>exactλt hF=>ih s .ret f h n F Q e t hF
   |r r l=>
    cases r with
    |nil=>
     have:=ih _ _ _ _ _ _ _ (show sK P Y g k s x f h n F Q from e);cases x<;>exact this
    |cons o r=>
     cases x with
     |bT=>
      intro t hF;have e:kG (sK P Y g k) (gO o.g F l) o.i o.d r l s f h n F Q (jv P Y):=e;unfold kG at e;show∃x' h' n' t' F',iO (oO P Y (o::r) f h n t l) (λx h n t=>nu P Y g s x f h n t)= .ok x' h' n' t'/\_;rw[oO];split at e
      .rename_i hg
       obtain⟨v,h',n',e1,e2⟩:=TQ ih e hF;rw[qY hF hg];dsimp only;rw[e1];exact LY ih e2 hF
      .rename_i hg
       rw[qY hF hg];exact LY ih e hF
      .exact e.elim
     |exit j=>exactλt hF=>ih s (.exit j) f h n F Q e t hF
     |goto j=>exactλt hF=>ih s (.goto j) f h n F Q e t hF
     |ret=>exactλt hF=>ih s .ret f h n F Q e t hF
end
end
end
section
noncomputable section
inductive MS where
 |t (k:Nat)
 |c (k:Nat) (w:Option Nat)
def Fe(r:MS)(t:Tr AV)(h:AH):Option AV:=match r with
 | .t k=>(gp 20 k).run t
 | .c k w=>(match(gp 20 k).run t with|some (.p x o)=>bnd (iD (h.get x) o (wN w)) λl=>KJ w l 0|_=>none)
def V6:List MS->Tr AV->AH->Option (List AV)
 |[],_,_=>some []
 |r::l,t,h=>bnd (Fe r t h) λa=>bnd (V6 l t h) λb=>some (a::b)
def Fg(r:MS)(F:Fm)(h:AH):Option AV:=match r with
 | .t k=>lk F k
 | .c k w=>RO h (lk F k) w
def rsE:List MS->Fm->AH->Option (List AV)
 |[],_,_=>some []
 |r::l,F,h=>match Fg r F h with
  |some a=>(match rsE l F h with|some b=>some (a::b)|none=>none)
  |none=>none
def XK(l:List AV):AV:=match l with|[v]=>v|l=>.bQ l
section
variable (P:Program)
def V7(s:Sl):List ResultVar->Option (List MS)
 |[]=>some []
 | .tmp k::l=>bc (s.S k) (bnd (V7 s l) λb=>some (.t k::b)) none
 | .cell a ty::l=>bc (s.S a) (bnd (Pj P ty) λw=>bnd (V7 s l) λb=>some (.c a w::b)) none
def V8(s:Sl):Nat->Nat->List Bool
 |0,_=>[]
 |m+1,k=>s.S k::V8 s m (k+1)
def yC(sl:FuncId->Sl)(g:FuncId):Option (List Bool×MC×List MS):=bnd (hd (qH g P.funcs.toList)) λfn=>bnd fn.body λc=>
 bc (Nat.ble (sl g).N fn.ntmps) (bc (Nat.ble (fn.params.size+fn.nfree) (sl g).N) (bnd (yA P (sl g) c) λm=>bnd (V7 P (sl g) fn.results.toList) λrs=>some (V8 (sl g) (fn.params.size+fn.nfree) 0,m,rs)) none) none
end
def wZ:Nat->List Bool->List AV->Fm
 |k,true::bs,v::l=>(k,v)::wZ (k+1) bs l
 |k,false::bs,_::l=>wZ (k+1) bs l
 |_,_,_=>[]
end
section
variable {P:Program} {sl:FuncId->Sl} {s:Sl} {Y:YT} {t:Tr AV} {h:AH} {n:Nat} {f:FT} {F:Fm}
theorem Fh:∀{rs:List ResultVar}{ms:List MS},V7 P s rs=some ms->(Bc P s rs).run t h=V6 ms t h
 |[],ms,e=>by cases e;rfl
 | .tmp k::l,ms,e=>by
  obtain⟨e0,e⟩:=bI (show bc (s.S k) (bnd (V7 P s l) λb=>some (MS.t k::b)) none=some ms from e);obtain⟨b,e1,e⟩:=aB e;cases e
  show bnd ((KE s [] k).run t []) (λa=>bnd ((Bc P s l).run t h) λb=>some (a::b))=bnd (Fe (.t k) t h) λa=>bnd (V6 b t h) λb=>some (a::b);rw[Fh e1];unfold KE;rw[e0];rfl
 | .cell a ty::l,ms,e=>by
  obtain⟨e0,e⟩:=bI (show bc (s.S a) (bnd (Pj P ty) λw=>bnd (V7 P s l) λb=>some (MS.c a w::b)) none=some ms from e);obtain⟨w,e1,e⟩:=aB e;obtain⟨b,e2,e⟩:=aB e;cases e
  show(match(KE s [] a).run t []with|some (.p x o)=>bnd (xO P ty h x o) λa=>bnd ((Bc P s l).run t h) λb=>some (a::b)|_=>none)=bnd (Fe (.c a w) t h) λa=>bnd (V6 b t h) λb=>some (a::b);rw[Fh e2];unfold KE;rw[e0,bD];unfold Fe;dsimp only;unfold xO;simp only[BK e1,RG e1];split<;>rfl
theorem Pp{r:MS}{v:AV}(hF:Fk t F)(e:Fg r F h=some v):Fe r t h=some v:=by
 cases r with
 |t k=>show(gp 20 k).run t=_;rw[kV];exact hF k v e
 |c k w=>
  unfold Fg RO at e;dsimp only at e;split at e
  case h_2=>cases e
  rename_i x o hx;unfold Fe;dsimp only;rw[kV,hF k _ hx];exact RN (show LD h _ _ _=some v from e)
theorem LZ(hF:Fk t F):∀{rs:List MS}{l:List AV},rsE rs F h=some l->V6 rs t h=some l
 |[],l,e=>e
 |r::rs,l,e=>by
  rw[rsE]at e;split at e
  case h_2=>cases e
  split at e
  case h_2=>cases e
  cases e
  show bnd (Fe r t h) _=_;rw[Pp hF ‹_›];show bnd (V6 rs t h) _=_;rw[LZ hF ‹_›];rfl
theorem H7:∀{args:List AV}{m k:Nat}{t:Tr AV},args.length=m->k+m<=s.N->(∀j,k<=j->∀v,t.get j=some v->False)->∃t',uX s k args t=some t'/\Fk t' (wZ k (V8 s m k) args)/\∀j,j<k->t'.get j=t.get j
 |[],m,k,t,hl,hN,hz=>by
  subst hl;exact⟨t,rfl,Fk.nil t,λ_ _=>rfl⟩
 |v::l,0,k,t,hl,hN,hz=>by cases hl
 |v::l,m+1,k,t,hl,hN,hz=>by
  have hp:(uU s k).run t v=some (bc (s.S k) ((pp 20 k).run v t) t):=by
   unfold uU;rw[Nat.ble_eq_true_of_le (show Nat.succ k<=s.N by omega),bD];cases s.S k<;>rfl
  have hz':∀j,k+1<=j->∀u,(bc (s.S k) ((pp 20 k).run v t) t).get j=some u->False:=λj hj u e=>by
   cases hS:s.S k with
   |true=>
    rw[hS,bD,jg,if_neg (by omega)]at e;exact hz j (by omega) u e
   |false=>rw[hS,fU]at e;exact hz j (by omega) u e
  obtain⟨t',e1,e2,e3⟩:=H7 (args:=l) (m:=m) (k:=k+1) (t:=bc (s.S k) ((pp 20 k).run v t) t) (by simpa using hl) (by omega) hz';refine⟨t',?_,?_,λj hj=>?_⟩
  .show bnd ((uU s k).run t v) _=_
   rw[hp];exact e1
  .show Fk t' (wZ k (s.S k::V8 s m (k+1)) (v::l))
   cases hS:s.S k with
   |false=>exact e2
   |true=>
    intro j u hj;rw[wZ,lk]at hj;split at hj
    .rename_i hjk
     subst hjk;rw[e3 j (by omega),hS,bD,jg,if_pos rfl];exact hj
    .exact e2 j u hj
  .rw[e3 j (by omega)]
   cases s.S k with
   |true=>rw[bD,jg,if_neg (by omega)]
   |false=>rfl
def TR(o:Option (List AV))(h:AH)(n:Nat)(Q:AV->AH->Nat->Prop):Prop:=match o with
 |some l=>Q (XK l) h n
 |none=>False
def RS(rs:List MS)(Q:AV->AH->Nat->Prop):PQ:=λx h n F=>match x with
 | .bT=>TR (rsE rs F h) h n Q
 | .ret=>TR (rsE rs F h) h n Q
 |_=>False
theorem L6{K:Nat}{g:FuncId}{kb:List Bool}{m:MC}{rs:List MS}{args:List AV}{Q:AV->AH->Nat->Prop}(hc:yC P sl g=some (kb,m,rs))(hl:args.length=kb.length)
 (e:sK P (yl P sl 20) g K [.c m] .bT f h n (wZ 0 kb args) (RS rs Q)):∃v h' n',(Ti P sl g).run f args h n= .ok v h' n'/\Q v h' n':=by
 obtain⟨fn,h1,hc⟩:=aB hc;obtain⟨c,h2,hc⟩:=aB hc;obtain⟨h3,hc⟩:=bI hc;obtain⟨h4,hc⟩:=bI hc;obtain⟨m',h5,hc⟩:=aB hc;obtain⟨rs',h6,hc⟩:=aB hc;cases hc
 have hlen:∀m k,(V8 (sl g) m k).length=m:=by
  intro m;induction m with
  |zero=>intro k;rfl
  |succ m ih=>intro k;show(V8 (sl g) m (k+1)).length+1=_;rw[ih]
 rw[hlen]at hl;obtain⟨t,t1,t2,_⟩:=H7 (s:=sl g) (args:=args) (m:=fn.params.size+fn.nfree) (k:=0) (t:=.z) hl (by have:=Nat.le_of_ble_eq_true h4;omega) (λj _ v e=>by rw[Tr.iI]at e;cases e);obtain⟨x,h',n',t',F',e1,e2,e3⟩:=oP _ _ _ _ _ _ _ _ e t t2;obtain⟨x0,h0',n0',t0',e0,e1⟩:=jh (show iO (m.run P (yl P sl 20) g f h n t) (λx h n t=>nu P (yl P sl 20) g [] x f h n t)= .ok x h' n' t' from e1);cases e1
 have e1:=e0;unfold Ti;rw[h1];dsimp only;rw[h2];dsimp only;rw[h3,bD];show∃v h' n',aJ (uX (sl g) 0 args .z) _=eY.ok v h' n'/\_;rw[t1];show∃v h' n',oD ((cc P sl g (yl P sl 20) c).run f h n t) _=eY.ok v h' n'/\_;rw[lD g h5,e1];have key:∀{Q':AV->AH->Nat->Prop},TR (rsE rs F' h') h' n' Q'->∃v h2 n2,ok1 (wW P (sl g) fn.results.toList t' h') h' n'= .ok v h2 n2/\Q' v h2 n2:=by
  intro Q' q;unfold TR at q;split at q
  case h_2=>exact q.elim
  rename_i l hl;refine⟨_,_,_,?_,q⟩;unfold wW;rw[Fh h6,LZ e2 hl];clear q hl;cases l with
  |nil=>rfl
  |cons a r=>cases r<;>rfl
 cases x with
 |bT=>exact key e3
 |ret=>exact key e3
 |exit j=>exact e3.elim
 |goto j=>exact e3.elim
variable (P Y)in
def V9(g:FuncId)(I:Nat->AH->Nat->Fm->Prop)(i:Nat)(s:List It)(f:FT)(Q:PQ):PQ:=λx h n F=>match x with
 | .bT=>∃j G,j<i/\I j h n G/\∀m v,lk G m=some v->lk F m=some v
 |x=>sK P Y g 100000 s x f h n F Q
theorem Dx{g:FuncId}{a:MC}{s:List It}{Q:PQ}(I:Nat->AH->Nat->Fm->Prop)(i:Nat)(hi:i<=1125899906842623)(h0:∃G,I i h n G/\∀m v,lk G m=some v->lk F m=some v)
 (step:∀i h n F,I i h n F->SM P Y g [.c a] .bT f h n F (V9 P Y g I i s f Q)):SM P Y g (.c (.loop a)::s) .bT f h n F Q:=by
 have key:∀(K i:Nat)(h:AH)(n:Nat)(F:Fm)(t:Tr AV),i<K->I i h n F->Fk t F->∃x h' n' t' F',iO (oL K ⟨a.run P Y g⟩ f h n t) (λx h n t=>nu P Y g s x f h n t)= .ok x h' n' t'/\Fk t' F'/\Q x h' n' F':=by
  intro K;induction K with
  |zero=>intro i h n F t hi;omega
  |succ K ih=>
   intro i h n F t hi hI hF;obtain⟨x,h1,n1,t1,F1,e1,e2,e3⟩:=step i h n F hI t hF;obtain⟨x0,h0',n0',t0',e0,e1⟩:=jh (show iO (a.run P Y g f h n t) (λx h n t=>nu P Y g [] x f h n t)= .ok x h1 n1 t1 from e1);cases e1
   show∃x h' n' t' F',iO (iO (a.run P Y g f h n t) (λx h n t=>CQ x (oL K ⟨a.run P Y g⟩ f h n t) (.ok x h n t))) _= .ok x h' n' t'/\_;rw[e0];cases x with
   |bT=>
    obtain⟨j,G,g1,g2,g3⟩:=e3;exact ih j h1 n1 G t1 (by omega) g2 (e2.le g3)
   |exit j=>exact oP _ _ _ _ _ _ _ _ (show sK P Y g 100000 s (.exit j) f h1 n1 F1 Q from e3) t1 e2
   |goto j=>exact oP _ _ _ _ _ _ _ _ (show sK P Y g 100000 s (.goto j) f h1 n1 F1 Q from e3) t1 e2
   |ret=>exact oP _ _ _ _ _ _ _ _ (show sK P Y g 100000 s .ret f h1 n1 F1 Q from e3) t1 e2
 intro t hF;obtain⟨G,g1,g2⟩:=h0;exact key 1125899906842624 i h n G t (by omega) g1 (hF.le g2)
theorem jw{g:FuncId}{a:MC}{s:List It}{Q:PQ}(I:Nat->AH->Nat->Fm->Prop)(i:Nat)(hi:i<=1125899906842623)(h0:∃G,I i h n G/\∀m v,lk G m=some v->lk F m=some v)
 (step:∀i h n F,I i h n F->sK P Y g 100000 [.c a] .bT f h n F (V9 P Y g I i s f Q)):SM P Y g (.c (.loop a)::s) .bT f h n F Q:=
 Dx I i hi h0 λi h n F hI=>oP _ _ _ _ _ _ _ _ (step i h n F hI)
end
structure Up(h:AH)(n:Nat)(h':AH)(n':Nat):Prop where
 le:n<=n'
 old:∀x,x<n->h'.get x=h.get x
theorem Up.refl(h:AH)(n:Nat):Up h n h n:=⟨Nat.le_refl _,λ_ _=>rfl⟩
theorem Up.trans{h:AH}{n:Nat}{h1:AH}{n1:Nat}{h2:AH}{n2:Nat}(a:Up h n h1 n1)(b:Up h1 n1 h2 n2):Up h n h2 n2:=
 ⟨Nat.le_trans a.le b.le,λx hx=>(b.old x (Nat.lt_of_lt_of_le hx a.le)).trans (a.old x hx)⟩
theorem ay{α:Type}{t:Tr α}{n m:Nat}{v:α}(h:m≠n):(t.set n v).get m=t.get m:=by rw[h_,if_neg h]
theorem aG{α:Type}{t:Tr α}{n:Nat}{v:α}:(t.set n v).get n=some v:=by rw[h_,if_pos rfl]
theorem Up.set{h:AH}{n:Nat}{h':AH}{n':Nat}(a:Up h n h' n')(x:Nat)(o:AO)(hx:n<=x)(m:Nat)(hm:n'<=m):Up h n (h'.set x o) m:=
 ⟨Nat.le_trans a.le hm,λy hy=>by rw[ay (by omega)];exact a.old y hy⟩
theorem Up.al{h:AH}{n:Nat}{h':AH}{n':Nat}(a:Up h n h' n')(o:AO):Up h n (h'.set n' o) (n'+1):=a.set n' o a.le _ (Nat.le_succ _)
theorem Up.st{h:AH}{n:Nat}{h':AH}{n':Nat}(a:Up h n h' n')(x:Nat)(o:AO)(hx:n<=x):Up h n (h'.set x o) n':=a.set x o hx _ (Nat.le_refl _)
def Jp(b:Option AO)(o:Nat)(cells:List AV):Prop:=(∃t l,b=some (.row t l)/\o+cells.length<=l.length/\(l.drop o).take cells.length=cells)\/
 ∃f,b=some (.ro f)/\∀i m,i+m<=cells.length->f (o+i) m=some ((cells.drop i).take m)
section
variable {b:Option AO} {o:Nat} {cells:List AV}
theorem Jp.row(r:Jp b o cells){i m:Nat}(h:i+m<=cells.length):qX b (o+i) (some m)=some (.agg ((cells.drop i).take m)):=by
 rcases r with⟨t,l,rfl,h1,h2⟩|⟨f,rfl,h1⟩
 .show(if o+i+m<=l.length then some (AV.agg ((l.drop (o+i)).take m))else none)=_
  rw[if_pos (by omega),<-h2];congr 2;rw[List.drop_take,List.take_take,List.drop_drop,Nat.min_eq_left (by omega)]
 .show(match f (o+i) m with|some l=>(if m<=l.length then some (AV.agg (l.take m))else none)|none=>none)=_
  rw[h1 i m h];dsimp only;rw[if_pos (by rw[List.length_take,List.length_drop];omega),List.take_take,Nat.min_self]
theorem Jp.cell(r:Jp b o cells){i:Nat}(h:i<cells.length):qX b (o+i) none=cells[i]?:=by
 rcases r with⟨t,l,rfl,h1,h2⟩|⟨f,rfl,h1⟩
 .show l[o+i]?=_
  rw[<-h2,List.getElem?_take,if_pos h,List.getElem?_drop]
 .show(match f (o+i) 1 with|some l=>l[0]?|none=>none)=_
  rw[h1 i 1 h];dsimp only;rw[List.getElem?_take,if_pos (by omega),List.getElem?_drop];rfl
theorem Jp.cut(r:Jp b o cells):bnd (iD b o cells.length) (mO cells.length)=some cells:=by
 rcases r with⟨t,l,rfl,h1,h2⟩|⟨f,rfl,h1⟩
 .show mO cells.length (qH o l)=_
  rw[qw,if_pos (by omega),h2]
 .show bnd (f o cells.length) (mO cells.length)=_
  have:=h1 0 cells.length (by omega);rw[Nat.add_zero]at this;rw[this,List.drop_zero,List.take_length];show mO cells.length (qH 0 cells)=_;rw[qw,if_pos (by omega),List.drop_zero,List.take_length]
theorem Jp.take(r:Jp b o cells)(k:Nat):Jp b o (cells.take k):=by
 rcases r with⟨t,l,rfl,h1,h2⟩|⟨f,rfl,h1⟩
 .refine .inl ⟨t,l,rfl,by rw[List.length_take];omega,?_⟩
  conv=>rhs;rw[<-h2]
  rw[List.take_take,List.length_take]
 .refine .inr ⟨f,rfl,λi m h=>?_⟩
  rw[List.length_take]at h;rw[h1 i m (by omega),List.drop_take,List.take_take,Nat.min_eq_left (by omega)]
theorem Jp.of{t m:Nat}{l:List AV}(h1:o+m<=l.length)(h2:(l.drop o).take m=cells):Jp (some (.row t l)) o cells:=by
 have h3:cells.length=m:=by rw[<-h2,List.length_take,List.length_drop];omega
 exact .inl ⟨t,l,rfl,by omega,by rw[h3];exact h2⟩
end
def SR(h:AH)(n w:Nat)(v:AV)(len:Nat)(cells:List AV):Prop:=
 (v= .k 1/\len=0/\cells=[])\/(∃x lo o c,v= .sl x lo o len c/\x<n/\Jp (h.get x) o cells/\cells.length=len*w/\∀k,c=some k->len<=k)\/∃a c,v= .es a c/\len=0/\cells=[]
theorem SR.up{h:AH}{n w:Nat}{v:AV}{len:Nat}{cells:List AV}{h':AH}{n':Nat}(s:SR h n w v len cells)(u:Up h n h' n'):SR h' n' w v len cells:=by
 rcases s with s|⟨x,lo,o,c,e1,e2,e3,e4,e5⟩|s
 .exact .inl s
 .exact .inr (.inl ⟨x,lo,o,c,e1,Nat.lt_of_lt_of_le e2 u.le,by rw[u.old x e2];exact e3,e4,e5⟩)
 .exact .inr (.inr s)
theorem SR.len{h:AH}{n w:Nat}{v:AV}{len:Nat}{cells:List AV}(s:SR h n w v len cells):Pn v=some len:=by
 rcases s with⟨rfl,rfl,_⟩|⟨x,lo,o,c,rfl,_⟩|⟨a,c,rfl,rfl,_⟩<;>rfl
theorem SR.size{h:AH}{n w:Nat}{v:AV}{len:Nat}{cells:List AV}(s:SR h n w v len cells):cells.length=len*w:=by
 rcases s with⟨rfl,rfl,rfl⟩|⟨x,lo,o,c,rfl,_,_,e4,_⟩|⟨a,c,rfl,rfl,rfl⟩
 .simp
 .exact e4
 .simp
theorem SR.ia{h:AH}{n w:Nat}{v:AV}{len:Nat}{cells:List AV}(s:SR h n w v len cells){h':AH}{n':Nat}(u:Up h n h' n'){k:Int}{i:Nat}(hk:k=i)(hi:i<len){K:AV->Prop}
 (q:∀b o,b<n->(∀j,j<w->qX (h'.get b) (o+j) none=cells[i*w+j]?)->(∀m,m<=w->qX (h'.get b) o (some m)=some (.agg ((cells.drop (i*w)).take m)))->K (.p b o)):IA w v k K:=by
 rcases s with⟨rfl,rfl,_⟩|⟨x,lo,o,c,rfl,e2,e3,e4,_⟩|⟨_,_,_,rfl,_⟩
 rotate_left 2
 .omega
 .omega
 .subst hk
  have hw:(i+1)*w<=len*w:=Nat.mul_le_mul_right w hi;rw[Nat.succ_mul]at hw;refine⟨x,lo,o,len,c,rfl,by omega,by omega,?_⟩;rw[<-u.old x e2]at e3;rw[show(i:Int).toNat=i by simp];refine q x _ e2 (λj hj=>?_) λm hm=>e3.row (by omega);rw[Nat.add_assoc];exact e3.cell (by omega)
theorem nA{α:Type}{c:α->List AV}{w:Nat}(hw:∀a,(c a).length=w):∀{l:List α}{i:Nat}{a:α},l[i]?=some a->((l.flatMap c).drop (i*w)).take w=c a
 |[],i,a,h=>by simp at h
 |b::l,0,a,h=>by cases h;rw[List.flatMap_cons,Nat.zero_mul,List.drop_zero,List.take_append_of_le_length (by rw[hw];omega),List.take_of_length_le (by rw[hw];omega)]
 |b::l,i+1,a,h=>by
  rw[List.flatMap_cons,Nat.succ_mul,Nat.add_comm,<-List.drop_drop,List.drop_left' (hw b)];exact nA hw (by simpa using h)
theorem vG{α:Type}{c:α->List AV}{w:Nat}(hw:∀a,(c a).length=w){l:List α}{i:Nat}{a:α}(h:l[i]?=some a){j:Nat}(hj:j<w):(l.flatMap c)[i*w+j]?=(c a)[j]?:=by
 have h1:=nA hw h;have h2:(((l.flatMap c).drop (i*w)).take w)[j]?=(c a)[j]?:=by rw[h1]
 rw[List.getElem?_take,if_pos hj,List.getElem?_drop]at h2;exact h2
end
section
noncomputable section
def XM:List Nat:=[0,0,0,6805647340003333804036462241118495440671,563224836882687,9444732983331611246543,67178447,14355632401324774412375357123792803268831592561455607259409296331273875583,72057594037929727,287,1237017837343,26517477128974350111,1007,1049407,563516889104439,1056719,1180861907098232418431,563078802473439,18889465931479126114783,140737744208351,10299662336961315837038112734175,33555215,31,1049663,31,31,15,33571891,7,4203059,268436557,55,9007231483805647,5,1196272946086911,32212316669,127,1006632991,66559,2097247,2420113631,2159799,288384376767545343,54060787714620543,594354754289695,21,2415949949,2596218373022487222114204889911103,1180591902192413180023,85153668480087229986601158663989101567,16631,571213470991095,492031,549789369279,131167,8635087,309523969493447531001020543,9904767023790339133974511871,10174395256028802968151138295,7,31,31,2596148438938958724023430292570031,19,31,1298153482067421959907032534855599,19342821761027101203382143,1057730194358271,21,21,21,21,144132796636478303,134219743,152193521006965555183,85755975569193865531715486613646606847,8287,2147516479,20779328641359026107032662446182367,21267647932558939669633663148285253567,87112324879057868343137446111446855507325,8444249804643831,7,1165102295547650482039519175,1005,16543,9,9444877080996085762007,31,1970324870537207,23,1970324870537207,18463777501957063383,365083450388098250955716615471287,9530848296784889695,72057868949438703,33554435,3,3,134251507,7,17179869187,8195,8287,36029020357263479,81689056478219510098259207464416898445311,33571891,67126323,1081127857784097471,16806963,16806963,16806963,1074250695,31,2256197860200311,2097247,15,5,8446311388940991,71401688023023,42535296023574879666274036850519702559,5,17389,604275,3,11260099091759871,7,1099511627895,37759,17609365929471,1213353579882117966815215,1267786001026830886586890321271,1966267,111,7,1081127857784097471,127,15,2920666992597256321347370042261887,17593261883599,17182032767,283501398047,8598454527,7,21037215,31,59,31,13,7,51,7,31,18717100788840198895,4026563071,31,9903529759016537937447755743,81129928561528061540916265017031,28711,5,71,262295,2097527,21,7,141770432200687,21,4223903,8669,154742587921231972287906335,590872272004362272927,23,1,7,23,39582422794367,7,19,5,134221323,7,4683760113327014271,8589950431,3,15,17179869247,16413,85081300842505343948403956758924492863,3,11,16806963,5,3,11,1089503567,17179886351,8592039695,35218731966223,1333065575601045263,33551,21268317252094917911888073248812900111,1217485249602318769183,22997644815212700899627017342834150232570911,277,16661,5,3931,27,27,3931,7,1,623,541151,519,7,4503874538831999,1082239,311,27,15,71589947,19,535,207,19,7,39,531955,21,21,3,11,1237940629655394484003801007,31,1144110568177695,7,16443,23,59,15,5,8363,5,19,8363,7696581459687,32871,7,10384593871817177683247510831234831,2247,1125907976687055,604462914310916393926835,1048583,17188391667,288231475663604767,5,5,271,4159,23,66483,66483,16806963,16806963,5070602400989012747530289545463,27584919741294990221616777605602007815641669539419128055,2147618759,47,247,247,42535296023574879666274036850519702559,7,262411,1073746119,1074268103,8804682991559,20829169751433159,8391,83087207854311395603287443752634311,19023213622105999119,22458641409078797123448399039441150152463,5575,19,9197,21,21,13,2923003971560093291123168138537876760321514930163,20426010943356750102455122975,4197407,16669,23,166020696663385964639,23,23,23,7,7,17179886351,8592039695,35218731966223,1333065575601045263,33551,21268317252094917911888073248812900111,1217485249602318769183,22997644815212700899627017342834150232570911,262411,4503668346913551,71,1055,5,13,5,5,36934020544065437939,7,7,288231475663604767,271,4159,262927,21,21,83,21,4197407,1,1,1,1,1,1,1,1,1,1,1,1,1,1,1,9363028706271,7,55,7,59,19,19,87,133079,1852399,66483,66483,18014407099418591,7,55,7,1839,47,1,0,0,0,0,0,0]
def ntL:List Nat:=[0,0,1,144,80,98,48,245,100,35,43,79,25,32,50,34,86,65,84,49,106,52,10,21,17,10,18,26,16,23,29,24,68,10,53,45,8,43,19,26,39,28,66,83,52,8,53,113,89,132,24,58,29,41,28,27,94,94,95,14,52,6,122,14,26,112,103,70,8,8,8,8,60,33,91,127,24,54,139,126,139,93,4,104,20,16,6,87,6,67,11,67,67,160,65,90,54,7,7,54,4,38,17,24,66,144,26,27,85,26,26,26,32,108,53,26,10,5,78,60,148,8,18,20,11,65,8,49,18,57,95,116,35,21,16,85,8,12,137,45,35,43,49,11,30,57,11,17,9,4,12,4,17,66,49,14,94,112,33,11,11,19,56,8,22,65,8,25,16,117,84,32,2,10,14,59,31,17,6,29,11,64,35,14,12,43,34,127,8,10,26,5,8,8,34,53,60,67,63,34,141,90,178,19,25,6,20,11,15,22,78,2,25,49,13,11,59,31,12,7,9,30,9,20,25,9,6,16,43,8,8,8,10,92,31,52,16,22,10,11,8,5,14,5,14,14,63,41,4,134,21,56,90,30,54,82,7,33,18,41,10,19,19,26,26,103,230,49,9,13,13,148,4,19,49,56,65,57,32,133,84,168,36,13,20,12,15,15,167,102,32,16,13,92,14,14,26,11,10,53,60,67,63,34,141,90,178,19,76,15,36,6,4,8,8,101,11,31,82,18,41,28,14,14,12,10,32,1,1,1,1,1,1,1,1,1,1,1,1,1,1,1,50,6,13,7,21,9,9,16,42,26,19,19,69,6,20,7,24,12,1,0,0,0,0,0,3]
def nth(l:List Nat)(g:Nat):Nat:=@Option.rec Nat (λ_=>Nat) 0 (λl=>l) (hd (qH g l))
def sl0(g:FuncId):Sl:=⟨λk=>Nat.beq (Nat.land (Nat.shiftRight (nth XM g) k) 1) 1,nth ntL g⟩
def Pq:Code->List (Code×Code)
 | .seq a b=>Pq a++Pq b
 | .cond _ a b=>Pq a++Pq b
 | .block _ a| .loop a| .scope a=>Pq a
 | .rangeFunc _ _ a b=>(a,b)::(Pq a++Pq b)
 |_=>[]
def jE(g i:Nat):Code:=(((((hd (qH g Tryz.prog.funcs.toList)).bind (·.body)).map Pq).getD [])[i]?.map (·.1)).getD .skip
def jF(g i:Nat):Code:=(((((hd (qH g Tryz.prog.funcs.toList)).bind (·.body)).map Pq).getD [])[i]?.map (·.2)).getD .skip
abbrev KL:Nat:=287
abbrev OA:Nat:=8
def OD:OT:=λ_ g args h n=>bc (Nat.beq g KL) (match args with|[.i .u64 (.ofNat u)]=>bc (Nat.ble 1 u) (bc (Nat.ble u 18446744073709551615) (some (.ok (.i .i64 (Lib.nDigits u:Nat)) h n)) none) none|_=>none) none
def O0:OT:=λf g args h n=>bc (Nat.beq g OA) (match args with|[]=>some (.ok (.b true) h n)|_=>none) (OD f g args h n)
abbrev EF(k:Nat):FT:=lS Tryz.prog sl0 O0 k
abbrev Y0:YT:=yl Tryz.prog sl0 20
end
end
section
noncomputable section
section
variable {w:World} {m:Nat} {p q:Addr}
theorem Fj(p q:Value)(w:World):CallsDIn Fence.wide m Tryz.prog 85 #[p,q] .returning w λe u' w'=>(∃v,e= .returned v)/\u'= .returning/\w'=w:=by
 refine callsDIn_of_wpSIn Tryz.func85 rfl trivial λc₀ cs hu=>?_;apply wpSIn_seq;apply wpSIn_region;simp[wpOpsSIn,go_sem,recoverD,hu,Tryz.ntmps85,Exit.thenS,Fence.wide];apply wpSIn_seq;apply wpSIn_region;simp[wpOpsSIn,go_sem,Exit.thenS];refine wpSIn_cond (t:=false) (by simp[Act.eval,Array.replicate]) ?_;simp only[Bool.false_eq_true,if_false];refine wpSIn_of_wpIn rfl (wpIn_skip ?_);cases c₀
 simp_all [bodyPostS,results,Tryz.results85]
def Dy:List Value:=[.slice none 0 0,.int .i64 0,.slice none 0 0,.int .i64 0,.slice none 0 0]
theorem acN:Dy.length=5:=rfl
theorem Pt(w:World):(Instr.build 76 #[]).run Tryz.prog w= .ok (.agg Dy.toArray) w:=by kernel_rfl
theorem Dz(e:Int){b1 b2:Nat}{w W1:World}{x:Value}(hs:(storeCells ⟨b1,0,none⟩ Dy).run Tryz.prog w= .ok () W1)(hc:W1.cell? ⟨b2,0,none⟩=some x)(hz:W1.frozen? ⟨b2,0,none⟩=false):
 CallsDIn Fence.wide m Tryz.prog 85 #[.pointer (some ⟨b1,0,none⟩),.pointer (some ⟨b2,0,none⟩)] (.panicking [{v:=.iface 206 (.int .i64 e),recovered:=false}]) w λen u' w'=>
  (∃v,en= .returned v)/\u'= .panicking [{v:=.iface 206 (.int .i64 e),recovered:=true}]/\w'=(W1.setCell ⟨b2,0,none⟩ (.int .i64 24)).setCell ⟨b2,0,none⟩ (.int .i64 e):=by
 refine callsDIn_of_wpSIn Tryz.func85 rfl trivial λc₀ cs hu=>?_;apply wpSIn_seq;apply wpSIn_region;simp[wpOpsSIn,go_sem,recoverD,hu,Tryz.ntmps85,Exit.thenS,Fence.wide];apply wpSIn_seq;apply wpSIn_region;simp[wpOpsSIn,go_sem,Exit.thenS];refine wpSIn_cond (t:=true) (by simp[Act.eval,Array.replicate]) ?_;simp only[if_true];apply wpSIn_seq;apply wpSIn_region;simp[wpOpsSIn,go_sem,Exit.thenS,Pt,acN,hs,hc,hz];apply wpSIn_seq;apply wpSIn_region;have ht:∀w,(Instr.typeAssert (.iface 206 (.int .i64 e)) 20 206 true).run Tryz.prog w= .ok (.tuple #[.int .i64 e,.bool true]) w:=λw=>by kernel_rfl
 simp[wpOpsSIn,go_sem,Exit.thenS,ht];apply wpSIn_seq;apply wpSIn_region;simp[wpOpsSIn,go_sem,Exit.thenS];refine wpSIn_cond (t:=true) (by simp[Act.eval,Array.replicate]) ?_;simp only[if_true];apply wpSIn_region;simp[wpOpsSIn,go_sem,hc,hz,bodyPostS,results,Tryz.results85]
theorem BP(e:Int)(he:e≠0)(w:World):Calls Tryz.prog 86 #[.int .i64 e] w λen w'=>en= .panicked [{v:=.iface 206 (.int .i64 e),recovered:=false}]/\w'=w:=by
 refine(callsIn_wide (n:=0)).1 (callsIn_of_wp_marks Tryz.func86 rfl trivial ?_);have hm:∀w,(Instr.makeInterface 206 (.int .i64 e)).run Tryz.prog w= .ok (.iface 206 (.int .i64 e)) w:=λw=>by kernel_rfl
 apply wpIn_seq;apply wpIn_region;simp[wpOpsIn,go_sem,Exit.then,he,Tryz.ntmps86];refine wpIn_cond (t:=true) (by simp[Act.eval,Array.replicate,he]) ?_;simp only[if_true];apply wpIn_region;have hp:∀w,(Instr.panic (.iface 206 (.int .i64 e))).run Tryz.prog w= .halt (.panic (.iface 206 (.int .i64 e))) w:=λw=>rfl;simp[wpOpsIn,go_sem,hm,hp,Oper.wpIn,Oper.uponIn,bodyPostM,LeavesInM,LeavesIn]
end
end
end
section
noncomputable section
noncomputable def Pv:Code->Code
 | .seq a _=>a
 |c=>c
noncomputable def oQ:Code->Code
 | .seq _ b=>b
 |c=>c
noncomputable def cdA:Code->Code
 | .cond _ a _=>a
 |c=>c
noncomputable def Pw:Code:=Tryz.f43.body.getD .skip
noncomputable def bR0:Code:=Pv Pw
noncomputable def bRd:Code:=Pv (oQ Pw)
noncomputable def bR2:Code:=Pv (oQ (oQ Pw))
noncomputable def bR3:Code:=Pv (oQ (oQ (oQ Pw)))
noncomputable def bR4:Code:=Pv (oQ (oQ (oQ (oQ Pw))))
noncomputable def bR5:Code:=Pv (oQ (oQ (oQ (oQ (oQ Pw)))))
noncomputable def bR6:Code:=Pv (Pv (oQ (oQ (oQ (oQ (oQ (oQ Pw)))))))
noncomputable def bR7:Code:=cdA (oQ (Pv (oQ (oQ (oQ (oQ (oQ (oQ Pw))))))))
noncomputable def L8:Code:=oQ (oQ (oQ (oQ (oQ (oQ (oQ Pw))))))
theorem L9:Tryz.f43.body=some (.seq bR0 (.seq bRd (.seq bR2 (.seq bR3 (.seq bR4 (.seq bR5 (.seq (.seq bR6 (.cond (.tmp 44) bR7 .skip)) L8))))))):=rfl
noncomputable def TT (x:Ex)(r:eY):eY:=match x with
 | .bT=>r
 |_=>.bad
noncomputable def zc:List AV:=[.k 1,.i .i64 0,.k 1,.i .i64 0,.k 1]
noncomputable def DC:List ResultVar:=[.cell 10 76,.cell 11 31]
noncomputable def XO (h:AH)(x:Nat)(u:List AV)(k:AH->eY):eY:=match h.get x with
 |some (.row t l)=>aJ (uT u 0 l) λm=>k (h.set x (.row t m))
 |_=>.bad
noncomputable def ccL (f:FT):List Code->AH->Nat->Tr AV->(AH->Nat->Tr AV->eY)->eY
 |[],h,n,t,k=>k h n t
 |c::cs,h,n,t,k=>oD ((cc Tryz.prog sl0 43 Y0 c).run f h n t) λx h n t=>TT x (ccL f cs h n t k)
noncomputable def XP:List Code->Code->Code
 |[],d=>d
 |c::cs,d=>.seq c (XP cs d)
noncomputable def TU (f:FT)(args:List AV)(h:AH)(n:Nat):eY:=
 bc (Nat.ble (sl0 43).N 83) (aJ (uX (sl0 43) 0 args .z) λt=>oD ((cc Tryz.prog sl0 43 Y0 bR0).run f h n t) λx h n t=>TT x
  (match(co (sl0 43) [] (.tmp 10)).run t [],(co (sl0 43) [] (.tmp 11)).run t []with
  |some (.p x1 0),some (.p y1 0)=>ccL f [bR2,bR3,bR4,bR5] h n t λh n t=>ccL f [bR6] h n t λh n t=>
   (match(co (sl0 43) [] (.tmp 44)).run t []with
   |some (.b false)=>oD ((cc Tryz.prog sl0 43 Y0 L8).run f h n t) λx h n t=>(match x with
    | .bT=>ok1 (wW Tryz.prog (sl0 43) DC t h) h n
    | .ret=>ok1 (wW Tryz.prog (sl0 43) DC t h) h n
    |_=>.bad)
   |some (.b true)=>XO h x1 zc λh=>XO h y1 [.i .i64 24] λh=>XO h y1 [.i .i64 24] λh=>ok1 (wW Tryz.prog (sl0 43) DC t h) h n
   |_=>.bad)
  |_,_=>.bad)) .bad
theorem BQ{x:Ex}{r:eY}{v:AV}{h:AH}{n:Nat}(e:TT x r= .ok v h n):x= .bT/\r= .ok v h n:=by
 cases x with
 |bT=>exact⟨rfl,e⟩
 |_=>cases e
theorem Fp{h h':AH}{x n':Nat}{u:List AV}{k:AH->eY}{v:AV}(e:XO h x u k= .ok v h' n'):∃(l:TypeId×List AV)(m:List AV),h.get x=some (.row l.1 l.2)/\uT u 0 l.2=some m/\k (h.set x (.row l.1 m))= .ok v h' n':=by
 unfold XO at e;split at e
 .rename_i t l hg
  obtain⟨m,h1,h2⟩:=aS e;exact⟨(t,l),m,hg,h1,h2⟩
 .cases e
theorem BR{q:Nat}{fn:Func}{c:Code}{cap args:Array Value}{w:World}(hP:qK Tryz.prog)(hq:Tryz.prog.funcs[q]?=some fn)(hb:fn.body=some c):(invoke (.fn (.func q) cap) args).run Tryz.prog w= .ok (.enter q (args++cap)) w:=by
 have hne:¬fn.name= "runtime.NumGoroutine":=by simpa using hP.2 _ _ hq
 simp[invoke,callFunc,hq,hb,hne]
section
variable {f:FT} {args:List AV} {h h':AH} {n n':Nat} {v:AV}
theorem L_{lo:Nat}{B:List Deferred}{d:Code}{Q:Exit->Act->World->Prop}{k:AH->Nat->Tr AV->eY}(hP:qK Tryz.prog)(hf:Good Tryz.prog sl0 f):∀(cs:List Code){θ:Th}{h1:AH}{n1:Nat}{w:World}{t:Tr AV}{ac:Act},ccL f cs h1 n1 t k= .ok v h' n'->RT (sl0 43) θ t ac.tmps->RH Tryz.prog sl0 θ h1 n1 w->nS lo B θ h1 w ac.defers->lo<=w.heap.size->
 (∀bP h2 n2 t' a' w',k h2 n2 t'= .ok v h' n'->RT (sl0 43) bP t' a'.tmps->RH Tryz.prog sl0 bP h2 n2 w'->nS lo B bP h2 w' a'.defers->Fr θ h1 w bP h2 w'->d.wpIn (FR none) 0 Tryz.prog Q a' w')->(XP cs d).wpIn (FR none) 0 Tryz.prog Q ac w
 |[],θ,h1,n1,w,t,ac,e,T,H,D,hl,hQ=>hQ _ _ _ _ _ _ e T H D (Fr.refl _ _ _)
 |c::cs,θ,h1,n1,w,t,ac,e,T,H,D,hl,hQ=>by
  obtain⟨x,h2,n2,t2,e2,e⟩:=mV e;obtain⟨rfl,e⟩:=BQ e;exact wpIn_seq (kM hP hf (Hw hP hf 20) c e2 T H D hl (λl hl=>by cases hl) λn_ a1 w1 T1 H1 D1 F1=>
   L_ hP hf cs e T1 H1 D1 (Nat.le_trans hl F1.size) λAX h3 n3 t3 a3 w3 e3 T3 H3 D3 F3=>hQ _ _ _ _ _ _ e3 T3 H3 D3 (F1.trans F3))
theorem Px(hP:qK Tryz.prog)(hf:Good Tryz.prog sl0 f)(e:TU f args h n= .ok v h' n'):(∃fn c,Tryz.prog.funcs[43]?=some fn/\fn.body=some c)/\∀θ w vs,RH Tryz.prog sl0 θ h n w->eU θ args vs->Calls Tryz.prog 43 vs.toArray w (wX Tryz.prog sl0 θ h w v h' n'):=by
 refine⟨⟨_,_,Tryz.func43,L9⟩,λθ w vs H ha=>?_⟩;obtain⟨hN,e⟩:=iN e;obtain⟨t,e1,e⟩:=aS e;obtain⟨x,h1,n1,t1,e2,e⟩:=mV e;obtain⟨rfl,e⟩:=BQ e;have hT:RT (sl0 43) θ t (vs.toArray++Array.replicate (Tryz.f43.ntmps - vs.toArray.size) undef):=by
  refine BJ e1 ha (λj u hj=>?_) (RT.empty _ _ ?_)
  .rw[Nat.zero_add,Array.getElem?_append_left (by simpa using(List.getElem?_eq_some_iff.1 hj).1)]
   simpa using hj
  .have:=Nat.le_of_ble_eq_true hN
   rw[Tryz.ntmps43];simp;omega
 have hY:wE Tryz.prog sl0 Y0 f:=Hw hP hf 20;refine(callsIn_wide (n:=0)).1 (callsIn_of_wp_marks Tryz.func43 L9 trivial ?_);have hfr:FR none=Fence.wide:=rfl;rw[<-hfr];refine wpIn_seq (kM (lo:=w.heap.size) (B:=[]) hP hf hY bR0 e2 hT H ⟨[],rfl,List.Pairwise.nil,by simp⟩ (Nat.le_refl _) (λl hl=>by cases hl) λn_ a1 w1 T1 H1 D1 F1=>?_);split at e
 case h_2=>cases e
 rename_i x1 y1 q1 q2;obtain⟨r1,c1,k1,k2⟩:=EO q1 T1 (LR.nil _ _ _);obtain⟨r2,c2,k3,k4⟩:=EO q2 T1 (LR.nil _ _ _);refine wpIn_seq (wpIn_region ?_);have hmf:∀(fn:Fn)(first cap:Array Value)(w:World),(Instr.makeFunc fn first cap).run Tryz.prog w= .ok (.func fn first cap) w:=λ_ _ _ _=>rfl;have hNe:(sl0 43).N=83:=by kernel_rfl
 have hsz:17<a1.tmps.size:=by have:=T1.size;omega
 have e17:(a1.put (some 17) (.func (.func 85) #[] #[.pointer (some ⟨r1,0,none⟩),.pointer (some ⟨r2,0,none⟩)])).eval (.tmp 17)= .func (.func 85) #[] #[.pointer (some ⟨r1,0,none⟩),.pointer (some ⟨r2,0,none⟩)]:=by
  simp[Act.put,Act.eval,hsz]
 have g85:Tryz.prog.funcs[85]?=some Tryz.f85:=Tryz.func85;have hfn:∀g,(FR none).fn g:=λ_=>trivial;have hrd:(FR none).round=none:=rfl;change wpOpsIn (FR none) 0 Tryz.prog _ _ [0,1] a1 w1;simp[wpOpsIn,Oper.wpIn,Oper.uponIn,Oper.semAt,Region.wanted,execOp,resolve,k2,k4,hmf,e17,Exit.then,Deferred.ofValue,hfn,hrd];have acU:(sl0 43).S 17=false:=by kernel_rfl
 have T2:=T1.skip acU (u:=.func (.func 85) #[] #[.pointer (some ⟨r1,0,none⟩),.pointer (some ⟨r2,0,none⟩)]);generalize ha2:Act.put _ none undef=a2;have ht2:RT (sl0 43) n_ t1 a2.tmps:=by rw[<-ha2];exact T2
 have hd2:a2.defers={target:=.fn (.func 85) #[.pointer (some ⟨r1,0,none⟩),.pointer (some ⟨r2,0,none⟩)],args:=#[]}::a1.defers:=by rw[<-ha2];rfl
 clear ha2
 -- the marks that were laid ahead of the deferred call
 have lv:∀(AX:Th)(h2:AH)(n2:Nat)(w2:World)(t2:Tr AV)(tm:Array Value),RH Tryz.prog sl0 AX h2 n2 w2->Fr θ h w AX h2 w2->Fr n_ h1 w1 AX h2 w2->RT (sl0 43) AX t2 tm->ok1 (wW Tryz.prog (sl0 43) DC t2 h2) h2 n2= .ok v h' n'->LeavesInM Fence.wide 0 Tryz.prog Tryz.f43 tm (wX Tryz.prog sl0 θ h w v h' n') a1.defers .returning w2:=λAX h2 n2 w2 t2 tm H2 F2 F12 T2 e=>by
  obtain⟨q1,rfl,rfl⟩:=gT e;obtain⟨pre,e0,D2,D3⟩:=D1.fr F12;rw[e0];refine lY (u:=.returning) (by simp) (Nat.le_refl _) (λw' H' F'=>?_) pre w2 D2 D3 H2 F2;have q1':wW Tryz.prog (sl0 43) Tryz.f43.results.toList t2 h'=some v:=by rw[Tryz.results43];exact q1
  obtain⟨u,k1,k2⟩:=Hy q1' T2 H';exact⟨u,k1,AX,u,rfl,k2,H',F'⟩
 refine L_ (d:=.seq (.seq bR6 (.cond (.tmp 44) bR7 .skip)) L8) (lo:=w1.heap.size) (B:={target:=.fn (.func 85) #[.pointer (some ⟨r1,0,none⟩),.pointer (some ⟨r2,0,none⟩)],args:=#[]}::a1.defers) hP hf [bR2,bR3,bR4,bR5] e ht2 H1 ⟨[],by rw[hd2];rfl,List.Pairwise.nil,by simp⟩ (Nat.le_refl _) λAX h2 n2 t2 a2 w2 e T2 H2 D2 F2=>?_;obtain⟨x,h3,n3,t3,e3,e⟩:=mV e;obtain⟨rfl,e5⟩:=BQ e;refine wpIn_seq (wpIn_seq (kM hP hf hY bR6 e3 T2 H2 D2 F2.size (λl hl=>by cases hl) λTB a3 w3 T3 H3 D3 F3=>?_));change Code.wpIn (FR none) 0 Tryz.prog (.cond (.tmp 44) bR7 .skip) _ a3 w3;have TV:=F2.trans F3;change(match(co (sl0 43) [] (Operand.tmp 44)).run t3 []with|some (AV.b false)=>_|some (AV.b true)=>_|_=>_)=_ at e5;split at e5
 case h_3=>cases e5
 .rename_i q3
  refine wpIn_cond (t:=false) (bF q3 T3 (LR.nil _ _ _)) ?_;simp only[Bool.false_eq_true,if_false];refine wpIn_skip ?_;change Code.wpIn (FR none) 0 Tryz.prog L8 _ a3 w3;obtain⟨x4,h4,n4,t4,e4,e⟩:=mV e5;refine kM hP hf hY L8 e4 T3 H3 D3 TV.size (λl hl=>by cases hl) λθ4 a4 w4 T4 H4 D4 F4=>?_;have key:ok1 (wW Tryz.prog (sl0 43) DC t4 h4) h4 n4= .ok v h' n'->LeavesInM Fence.wide 0 Tryz.prog Tryz.f43 a4.tmps (wX Tryz.prog sl0 θ h w v h' n') a4.defers .returning w4:=λe=>by
   obtain⟨pre,e0,P1,P2⟩:=D4;rw[e0];refine lY (u:=.returning) (by simp) (Nat.le_refl _) (λw' H' F'=>?_) pre w4 P1 P2 H4 (TV.trans F4);refine⟨by simp,.inr ⟨λq=>by simp[Fence.wide]at q,_,_,85,#[.pointer (some ⟨r1,0,none⟩),.pointer (some ⟨r2,0,none⟩)],rfl,BR hP Tryz.func85 rfl,λ_ _=>trivial,?_⟩⟩;obtain⟨g1,g2⟩:=Fj (m:=0) (.pointer (some ⟨r1,0,none⟩)) (.pointer (some ⟨r2,0,none⟩)) w';refine⟨g1,λc cs hm hr=>?_⟩;obtain⟨en,u',w'',fr,⟨⟨rv,rfl⟩,rfl,rfl⟩,q⟩:=g2 c cs hm hr;exact⟨_,_,_,fr,lv _ _ _ _ _ _ H' (F1.trans F') F' T4 e,q⟩
  cases x4 with
  |bT=>exact key e
  |ret=>exact key e
  |exit id=>cases e
  |goto l=>cases e
 .rename_i q3
  refine wpIn_cond (t:=true) (bF q3 T3 (LR.nil _ _ _)) ?_;simp only[if_true];refine wpIn_region ?_;have hex:∀(ρ:Operand->Value)(o:Oper)(w:World),o.op= .call {callee:=.value (.func 86),args:=#[.const (.int .i64 24)],argTypes:=#[31]}->ρ (.func 86)= .func (.func 86) #[] #[]->ρ (.const (.int .i64 24))= .int .i64 24->(execOp ρ o).run Tryz.prog w= .ok (.enter 86 #[.int .i64 24]) w:=λρ o w ho h1 h2=>by
   have hne:¬Tryz.f86.name= "runtime.NumGoroutine":=by simpa using hP.2 _ _ Tryz.func86
   simp[execOp,ho,resolve,h1,h2,Deferred.ofValue,BR hP Tryz.func86 rfl]
  change wpOpsIn (FR none) 0 Tryz.prog _ _ [0] a3 w3;simp only[wpOpsIn,Oper.wpIn];simp[Oper.semAt,Region.wanted,hfn,hrd];rw[hex _ _ _ rfl rfl rfl,Oper.uponIn_enter];refine⟨λhd=>by simp[FR,Fence.wide]at hd,(mY none (BP 24 (by decide) w3)).mono ?_⟩;rintro e7 w4 ⟨rfl,rfl⟩;simp only[Exit.then,bodyPostM];obtain⟨pre,e0,P1,P2⟩:=D3;rw[e0];refine lY (u:=.panicking _) (by simp) (Nat.le_refl _) (λw' H' F'=>?_) pre w4 P1 P2 H3 TV;refine⟨by simp,.inr ⟨λq=>by simp[Fence.wide]at q,_,_,85,#[.pointer (some ⟨r1,0,none⟩),.pointer (some ⟨r2,0,none⟩)],rfl,BR hP Tryz.func85 rfl,λ_ _=>trivial,?_⟩⟩;obtain⟨l1,m1,p1,p2,e6⟩:=Fp e5;obtain⟨l2,m2,p3,p4,e8⟩:=Fp e6;obtain⟨l3,m3,p5,p6,e9⟩:=Fp e8;have hz1:eU TB zc Dy:=⟨_,_,mX rfl,⟨_,_,mX rfl,⟨_,_,mX rfl,⟨_,_,mX rfl,⟨_,_,mX rfl,rfl,rfl⟩,rfl⟩,rfl⟩,rfl⟩,rfl⟩;have hz2:eU TB [.i .i64 24] [.int .i64 24]:=⟨_,_,mX rfl,rfl,rfl⟩;obtain⟨a1',a2',a3'⟩:=H'.write p1 (TV.le _ _ k1) p2 hz1 (by simp[Dy,Value.oneCell']);obtain⟨b1',b2',b3'⟩:=a2'.write p3 (TV.le _ _ k3) p4 hz2 (by simp[Value.oneCell']);obtain⟨d1',d2',d3'⟩:=b2'.write p5 (TV.le _ _ k3) p6 hz2 (by simp[Value.oneCell']);obtain⟨r',c',cs,us,q1',q2',q3',q4',q5',q6',q7',rest,q8'⟩:=a2'.row p3;rw[TV.le _ _ k3]at q1';cases q1';have hlen:0<cs.size:=by
   have:=(lT p4).1;rw[<-Array.length_toList,q8',List.length_append,q7'];simp at this;omega
  obtain⟨g1,g2⟩:=Dz (m:=0) 24 (b2:=r2) a1' ((iy q2' 0).trans (Array.getElem?_eq_getElem hlen)) (jO q2' 0);refine⟨g1,λc cs hm hr=>?_⟩;obtain⟨en,u',w'',fr,⟨⟨rv,rfl⟩,rfl,rfl⟩,q⟩:=g2 c cs hm hr;have F5:=F'.trans (a3'.trans (b3'.trans d3'));exact⟨_,_,_,fr,lv _ _ _ _ _ _ d2' (F1.trans F5) F5 T3 e9,q⟩
end
end
end
noncomputable section
mutual
theorem aV.back{θ bP:Th}(h:iq θ bP):∀(a:AV){v0 v:Value},aV θ a v0->aV bP a v->aV θ a v
 | .b _,_,_,_,e=>e
 | .i _ _,_,_,_,e=>e
 | .s _,_,_,_,e=>e
 | .p _ _,_,_,⟨r0,c0,q1,_⟩,⟨r,c,e1,e2⟩=>by rw[h _ _ q1]at e1;cases e1;exact⟨_,_,q1,e2⟩
 | .sl _ _ _ _ _,_,_,⟨r0,c0,q1,_⟩,⟨r,c,e1,e2⟩=>by rw[h _ _ q1]at e1;cases e1;exact⟨_,_,q1,e2⟩
 | .m _,_,_,⟨r0,c0,q1,_⟩,⟨r,c,e1,e2⟩=>by rw[h _ _ q1]at e1;cases e1;exact⟨_,_,q1,e2⟩
 | .f _ l,_,_,⟨_,q1,_⟩,⟨vs,e1,e2⟩=>⟨vs,eU.back h l q1 e1,e2⟩
 | .y _,_,_,⟨r0,c0,q1,_⟩,⟨r,c,e1,e2⟩=>by rw[h _ _ q1]at e1;cases e1;exact⟨_,_,q1,e2⟩
 | .zH _ a,_,_,⟨_,q1,_⟩,⟨u,e1,e2⟩=>⟨u,aV.back h a q1 e1,e2⟩
 | .agg l,_,_,⟨_,q1,_⟩,⟨vs,e1,e2⟩=>⟨vs,eU.back h l q1 e1,e2⟩
 | .bQ l,_,_,⟨_,q1,_⟩,⟨vs,e1,e2⟩=>⟨vs,eU.back h l q1 e1,e2⟩
 | .k _,_,_,_,e=>e
 | .es _ _,_,_,_,e=>e
theorem eU.back{θ bP:Th}(h:iq θ bP):∀(l:List AV){v0 vs:List Value},eU θ l v0->eU bP l vs->eU θ l vs
 |[],_,_,_,e=>e
 |a::r,_,_,⟨_,_,q1,q2,_⟩,⟨v,vs,e1,e2,e3⟩=>⟨v,vs,aV.back h a q1 e1,eU.back h r q2 e2,e3⟩
end
mutual
def flt:AV->Bool
 | .b _| .i _ _| .s _| .k _=>true
 | .agg l| .bQ l=>Py l
 |_=>false
def Py:List AV->Bool
 |[]=>true
 |a::l=>bc (flt a) (Py l) false
end
mutual
theorem Ma{θ bP:Th}:∀(a:AV){v:Value},flt a=true->aV θ a v->aV bP a v
 | .b _,_,_,e=>e
 | .i _ _,_,_,e=>e
 | .s _,_,_,e=>e
 | .k _,_,_,e=>e
 | .agg l,_,f,⟨vs,e1,e2⟩=>⟨vs,BS l f e1,e2⟩
 | .bQ l,_,f,⟨vs,e1,e2⟩=>⟨vs,BS l f e1,e2⟩
 | .p _ _,_,f,_=>by cases f
 | .sl _ _ _ _ _,_,f,_=>by cases f
 | .m _,_,f,_=>by cases f
 | .f _ _,_,f,_=>by cases f
 | .y _,_,f,_=>by cases f
 | .zH _ _,_,f,_=>by cases f
 | .es _ _,_,f,_=>by cases f
theorem BS{θ bP:Th}:∀(l:List AV){vs:List Value},Py l=true->eU θ l vs->eU bP l vs
 |[],_,_,e=>e
 |a::r,_,f,⟨v,vs,e1,e2,e3⟩=>
  have f':bc (flt a) (Py r) false=true:=f
  ⟨v,vs,Ma a (cO f').1 e1,BS r (cO f').2 e2,e3⟩
end
def TW:Option AO->Option AO->Bool
 |some (.row t l),some (.row t' l')=>bc (Nat.beq t t') (uW l l') false
 |none,_=>true
 |_,_=>false
def std(h h':AH):Nat->Bool:=@Nat.rec (λ_=>Bool) true (λk ih=>bc (TW (h.get k) (h'.get k)) ih false)
theorem Fq{h h':AH}:∀(n:Nat),std h h' n=true->∀x,x<n->∀o,h.get x=some o->∃t l,o= .row t l/\h'.get x=some (.row t l)
 |0,_,x,hx,_,_=>by omega
 |n+1,e,x,hx,o,ho=>by
  obtain⟨e1,e2⟩:=cO (show bc (TW (h.get n) (h'.get n)) (std h h' n) false=true from e);rcases Nat.lt_succ_iff_lt_or_eq.1 hx with q|rfl
  .exact Fq n e2 x q o ho
  .rw[ho]at e1
   unfold TW at e1;split at e1
   .rename_i q1 q2
    obtain⟨a1,a2⟩:=cO e1;cases q1
    exact⟨_,_,rfl,by rw[q2,beq_eq a1,qm _ _ a2]⟩
   .rename_i q1;cases q1
   .cases e1
section
variable {P:Program} {sl:FuncId->Sl} {θ:Th} {h h':AH} {n n':Nat} {w w':World} {v:AV} {en:Ending}
theorem wX.shrink{g:AH}(H:RH P sl θ h n w)(hg:∀x o,g.get x=some o->h.get x=some o)(R:wX P sl θ g w v h' n' en w')(hf:flt v=true)(hs:std g h' n=true):wX P sl θ h w v h n en w':=by
 obtain⟨bP,u,rfl,q1,H',F0⟩:=R;have F:=Fr.sub H hg F0;refine⟨θ,u,rfl,Ma v hf q1,⟨λx o e=>?_,H.inj,H.new,λg e=>?_⟩,F.os,F.tape,F.output,F.size,F.block,iq.refl _,λk q=>.inl q,F.kind,λx y e1 e2=>absurd e1 e2,λ_ _ e=>e⟩
 .obtain⟨r,c,obj,k1,k2,k3⟩:=H.at_ x o e
  have hx:x<n:=by
   rcases Nat.lt_or_ge x n with q|q
   .exact q
   .rw[H.new x q]at k1;cases k1
  cases hgx:g.get x with
  |some o'=>
   have:=hg x o' hgx;rw[e]at this;cases this;obtain⟨t,l,rfl,k4⟩:=Fq n hs x hx o hgx;obtain⟨r',c',zP,g1,g2,g3⟩:=H'.at_ x _ k4;rw[F.le _ _ k1]at g1;cases g1;obtain⟨_,_,_,_,_,_,j4,_⟩:=k3;obtain⟨cs,vs,rest,i1,i2,i3,i4,i5⟩:=g3;exact⟨r,c,zP,k1,g2,cs,vs,rest,i1,i2,i3,eU.back F.le l j4 i4,i5⟩
  |none=>
   refine⟨r,c,obj,k1,(F0.block r (bG k2) ?_).trans k2,k3⟩;rintro⟨y,d,hy,hr⟩;have hys:=gH hy;obtain⟨o',ho'⟩:=Option.isSome_iff_exists.1 hys;have:=H.inj y x r d c (by rw[hg _ _ ho'];rfl) (by rw[e];rfl) hr k1;subst this;rw[hgx]at ho';cases ho'
 .obtain⟨ty,q,e1,e2⟩:=H.gl g e
  exact⟨ty,q,(F.block g (bG e1) e2).trans e1,e2⟩
def V_(v:AV)(h:AH)(n:Nat):eY->Bool
 | .ok v' h' _=>bc (IW v' v) (bc (flt v) (std h h' n) false) false
 | .bad=>false
theorem TY{g:AH}(hs:std g h n=true)(hn:∀x o,g.get x=some o->x<n):∀x o,g.get x=some o->h.get x=some o:=λx o e=>by
 obtain⟨t,l,rfl,q⟩:=Fq n hs x (hn x o e) o e;exact q
theorem apart{O:OT}{k:Nat}{g:FuncId}{args:List AV}{G:AH}(hP:qK P)(hO:zV P sl O)(e:V_ v G n (lS P sl O k g args G n)=true)(hs:std G h n=true)(hn:∀x o,G.get x=some o->x<n):
 (∃fn c,P.funcs[g]?=some fn/\fn.body=some c)/\∀θ w vs,RH P sl θ h n w->eU θ args vs->Calls P g vs.toArray w (wX P sl θ h w v h n):=by
 cases hr:lS P sl O k g args G n with
 |bad=>rw[hr]at e;cases e
 |ok v' h' n'=>
  rw[hr]at e;obtain⟨e1,e⟩:=cO e;obtain⟨e2,e3⟩:=cO e;obtain rfl:=yu _ _ e1;obtain⟨q1,q2⟩:=tO hP hO k _ _ _ _ _ _ _ hr;refine⟨q1,λθ w vs H ha=>?_⟩;have hsub:=TY hs hn;exact(q2 θ w vs (H.sub hsub) ha).mono λen w' R=>R.shrink H hsub e2 e3
end
end
end Go.Proofs.YtjoohkjmoghmoaaGreatDoor

/- part -/
import Derived.Test.YtfnnplicbjeifaaGreatDoorP01
import Derived.Test.YtfnnplicbjeifaaGreatDoorProg
import Derived.RecoverIn
import Derived.TacticsInMore
set_option linter.all false
namespace Go.Proofs.YtfnnplicbjeifaaGreatDoor
section
noncomputable section
inductive MO where
 |s (k:Nat)
 |v (j:Nat)
 |c (a:AV)
inductive MI where
 |mv (x:MO)
 |pick (c a b:MO)
 |al (e:TypeId) (z:List AV)
 |box (e:TypeId) (w:Nat) (x:MO)
 |Ki (z:List AV) (fs:List (Nat×Nat×MO))
 |Nn (e:TypeId) (len:Nat) (z:List AV) (fs:List (Nat×Nat×MO))
 |ld (w:Option Nat) (x:MO)
 |st (w:Nat) (a x:MO)
 |Vb (x:MO)
 |bin (op:BinOp) (ty:TypeId) (x y:MO)
 |not (x:MO)
 |neg (x:MO)
 |Ol (k:IntKind) (x:MO)
 |Vd (x:MO)
 |Np (x:MO)
 |Ve (ty:TypeId) (x:MO)
 |Hw (g:FuncId) (cs:List MO)
 |Om
 |Lr (e:TypeId) (z:List AV) (x y:MO)
 |RG (x:MO) (lo hi:Option MO)
 |Vf (w:Nat) (x:MO) (lo hi:Option MO)
 |Vg (w m:Nat) (x:MO) (lo hi:Option MO)
 |fa (o:Nat) (x:MO)
 |Vh (w:Option Nat) (o:Nat) (x:MO)
 |je (w:Nat) (x i:MO)
 |Sq (w m:Nat) (x i:MO)
 |Br (x i:MO)
 |Xd (lw:Option Nat) (w m:Nat) (x i:MO)
 |look (kt:TypeId) (z:Option AV) (x k:MO) (ok:Bool)
 |upd (kt:TypeId) (m k x:MO)
 |ext (x:MO) (k:Nat)
 |rng (x:MO)
 |Oo (x:MO)
 |ent (x:MO)
 |call (g:MO) (cs:List MO)
 |inv (x:MO) (nm:String) (cs:List MO)
 |Fh (x:MO)
 |ig (x:MO)
 |Hy (m:Nat) (x:MO)
 |Fj (x:MO)
 |app (e:TypeId) (w:Nat) (x y:MO)
 |Vi (w:Nat) (x y:MO)
 |mx (x y:MO)
 |mn (x y:MO)
def gU(x:MO)(t:Tr AV)(l:List AV):Option AV:=match x with
 | .s k=>(gp 20 k).run t
 | .v j=>(EL j).run l
 | .c a=>some a
def Fp:List MO->Tr AV->List AV->Option (List AV)
 |[],_,_=>some []
 |x::r,t,l=>bnd (gU x t l) λa=>bnd (Fp r t l) λb=>some (a::b)
def Sr(x:Option MO)(t:Tr AV)(l:List AV):Option (Option Int):=match x with
 |none=>some none
 |some x=>match gU x t l with|some (.i _ n)=>some (some n)|_=>none
def wN(w:Option Nat):Nat:=match w with
 |none=>1
 |some k=>k
def Nq(w:Option Nat)(l:List AV)(o:Nat):Option AV:=match w with
 |none=>hd (r_ o l)
 |some k=>bnd (mP k (r_ o l)) λx=>some (.agg x)
def Oq:List (Nat×Nat×MO)->Tr AV->List AV->List AV->Option (List AV)
 |[],_,_,c=>some c
 |(o,w,x)::r,t,l,c=>bnd (gU x t l) λa=>bnd (pO a) λu=>bc (Nat.beq (nP u) w) (bnd (wJ u o c) λc=>Oq r t l c) none
section
variable (P:Program) (Y:YT)
def MI.run(i:MI)(f:FT)(t:Tr AV)(l:List AV)(h:AH)(n:Nat):fH:=match i with
 | .mv x=>ok1 (gU x t l) h n
 | .pick c a b=>(match gU c t l with|some (.b true)=>ok1 (gU a t l) h n|some (.b false)=>ok1 (gU b t l) h n|_=>.bad)
 | .al e z=>mk h n (.p n 0) (.row e z)
 | .box e w x=>aP (gU x t l) λv=>aP (pO v) λc=>bc (Nat.beq (nP c) w) (mk h n (.p n 0) (.row e c)) .bad
 | .Ki z fs=>aP (Oq fs t l z) λc=>.ok (.agg c) h n
 | .Nn e len z fs=>aP (Oq fs t l z) λc=>mk h n (.sl n 0 0 len (some len)) (.row e c)
 | .ld w a=>(match gU a t l with|some (.p x k)=>ok1 (bnd (iI (h.get x) k (wN w)) λl=>Nq w l 0) h n|_=>.bad)
 | .st w a x=>aP (gU a t l) λa=>aP (gU x t l) λx=>zH w h n a x
 | .Vb x=>aP (gU x t l) λv=>match v with| .p _ _=>.ok v h n| .f _ _=>.ok v h n| .y _=>.ok v h n|_=>.bad
 | .bin op ty x y=>aP (gU x t l) λx=>aP (gU y t l) λy=>ok1 ((eB P ty op).run x y) h n
 | .not x=>aP (gU x t l) λv=>match v with| .b v=>.ok (.b (qY v)) h n|_=>.bad
 | .neg x=>aP (gU x t l) λv=>match v with| .i k v=>.ok (.i k (gN k (Int.sub 0 v))) h n|_=>.bad
 | .Ol k x=>(match gU x t l with|some (.i _ v)=>.ok (.i k (gN k v)) h n|_=>.bad)
 | .Vd x=>(match gU x t l with|some (.s l)=>.ok (.s l) h n|_=>.bad)
 | .Np x=>(match gU x t l with
  |some (.k 1)=>.ok (.s []) h n
  |some (.sl b m o k c)=>aP (jG h 1 k (.sl b m o k c)) λu=>aP (pR u) λb=>.ok (.s b) h n
  |_=>.bad)
 | .Ve ty x=>aP (gU x t l) λv=>.ok (.wI ty v) h n
 | .Hw g cs=>aP (Fp cs t l) λc=>.ok (.f g c) h n
 | .Om=>mk h n (.m n) (.mp [] 0)
 | .Lr e z x y=>(match gU x t l,gU y t l with
  |some (.i _ (.ofNat a)),some (.i _ (.ofNat c))=>bc (Nat.ble a c) (bc (Nat.ble c 1048576) (mk h n (.sl n 0 0 a (some c)) (.row e (rep c z))) .bad) .bad
  |_,_=>.bad)
 | .RG x lo hi=>aP (Sr lo t l) λlo=>aP (Sr hi t l) λhi=>match gU x t l with|some (.s c)=>ok1 (pU c lo hi) h n|_=>.bad
 | .Vf w x lo hi=>aP (Sr lo t l) λlo=>aP (Sr hi t l) λhi=>match gU x t l with|some (.sl b m o k c)=>ok1 (GV w b m o k c lo hi) h n|_=>.bad
 | .Vg w m x lo hi=>aP (Sr lo t l) λlo=>aP (Sr hi t l) λhi=>match gU x t l with|some (.p b o)=>ok1 (GX w m b o lo hi) h n|_=>.bad
 | .fa o x=>(match gU x t l with|some (.p b k)=>.ok (.p b (Nat.add k o)) h n|_=>.bad)
 | .Vh w o x=>(match gU x t l with|some (.agg c)=>ok1 (Nq w c o) h n|_=>.bad)
 | .je w x ix=>(match gU x t l,gU ix t l with|some (.sl b _ o m _),some (.i _ k)=>ok1 (GJ k m λk=>some (.p b (Nat.add o (Nat.mul k w)))) h n|_,_=>.bad)
 | .Sq w m x ix=>(match gU x t l,gU ix t l with|some (.p b o),some (.i _ k)=>ok1 (GJ k m λk=>some (.p b (Nat.add o (Nat.mul k w)))) h n|_,_=>.bad)
 | .Br x ix=>(match gU x t l,gU ix t l with|some (.s c),some (.i _ k)=>ok1 (GJ k 1048576 λk=>bnd (hd (r_ k c)) λb=>some (.i .u8 (Int.ofNat b.toNat))) h n|_,_=>.bad)
 | .Xd lw w m x ix=>(match gU x t l,gU ix t l with|some (.agg c),some (.i _ k)=>ok1 (GJ k m λk=>Nq lw c (Nat.mul k w)) h n|_,_=>.bad)
 | .look kt z x k ok=>aP (gU x t l) λx=>aP (gU k t l) λk=>ok1 (lookO (su P 30 kt) (yX P 30 kt) z ok h x k) h n
 | .upd kt m k x=>aP (gU m t l) λm=>aP (gU k t l) λk=>aP (gU x t l) λx=>CU (su P 30 kt) (yX P 30 kt) h n m k x
 | .ext x k=>(match gU x t l with|some (.bJ c)=>ok1 (hd (r_ k c)) h n|_=>.bad)
 | .rng x=>(match gU x t l with
  |some (.m b)=>(match h.get b with
   |some (.mp _ pX)=>mk h n (.p n 0) (.it (some b) pX [] pX)
   |_=>.bad)
  |some (.k 2)=>mk h n (.p n 0) (.it none 0 [] 0)
  |_=>.bad)
 | .Oo x=>(match gU x t l with|some (.p i 0)=>NP h n i|_=>.bad)
 | .ent x=>(match gU x t l with|some (.p i 0)=>G6 h n i|_=>.bad)
 | .call g cs=>aP (gU g t l) λg=>aP (Fp cs t l) λc=>(match g with
  | .f g cap=>f g (CP c cap) h n
  | .y r=>Y r c f h n
  |_=>.bad)
 | .inv x nm cs=>(match gU x t l with
  |some (.wI ty v)=>aP (Fp cs t l) λc=>aP (sW P ty nm) λg=>f g (v::c) h n
  |_=>.bad)
 | .Fh x=>(match gU x t l with|some (.s c)=>.ok (.i .i64 (Int.ofNat (nP c))) h n|_=>.bad)
 | .ig x=>(match gU x t l with|some (.sl _ _ _ m _)=>.ok (.i .i64 (Int.ofNat m)) h n|some (.k 1)=>.ok (.i .i64 0) h n|some (.es _ _)=>.ok (.i .i64 0) h n|_=>.bad)
 | .Hy m x=>aP (gU x t l) λ_=>.ok (.i .i64 (Int.ofNat m)) h n
 | .Fj x=>(match gU x t l with|some (.m r)=>aP (K4 (h.get r)) (λes=>.ok (.i .i64 (Int.ofNat (nP es))) h n)|some (.k 2)=>.ok (.i .i64 0) h n|_=>.bad)
 | .app e w x y=>aP (gU x t l) λa=>aP (gU y t l) λx=>(jS e w).run h n a x
 | .Vi w x y=>aP (gU x t l) λd=>aP (gU y t l) λx=>sV w h n d x
 | .mx x y=>(match gU x t l,gU y t l with|some (.i k a),some (.i _ b)=>.ok (.i k (bc (mo b a) a b)) h n|_,_=>.bad)
 | .mn x y=>(match gU x t l,gU y t l with|some (.i k a),some (.i _ b)=>.ok (.i k (bc (mo a b) a b)) h n|_,_=>.bad)
end
def jf(s:Sl)(L:List Tmp):Operand->Option MO
 | .tmp k=>bc (s.S k) (some (.s k)) (bnd (idx k L) λj=>some (.v j))
 | .const v=>bnd (U6 v) λa=>some (.c a)
 | .global _=>none
 | .func f=>some (.c (.f f []))
def Ls(s:Sl)(L:List Tmp):List Operand->Option (List MO)
 |[]=>some []
 |x::r=>bnd (jf s L x) λa=>bnd (Ls s L r) λb=>some (a::b)
def Xe(s:Sl)(L:List Tmp):Option Operand->Option (Option MO)
 |none=>some none
 |some x=>bnd (jf s L x) λa=>some (some a)
def cmP(s:Sl)(L:List Tmp)(pl:Nat->Option (Nat×Nat)):List (Nat×Operand)->Option (List (Nat×Nat×MO))
 |[]=>some []
 |(k,x)::r=>bnd (pl k) λp=>bnd (jf s L x) λa=>bnd (cmP s L pl r) λb=>some ((p.1,p.2,a)::b)
section
variable (P:Program)
def Sv(t:TypeId):Option (Option Nat):=match P.underlying t with
 |none=>none
 |some (.struct _)|some (.array _ _)=>some (some (sz P t))
 |some _=>some none
def Sw(s:Sl)(L:List Tmp)(o:Oper):Option MI:=match o.op with
 | .move x| .assign x=>bnd (jf s L x) λx=>some (.mv x)
 | .pick c a b=>bnd (jf s L c) λc=>bnd (jf s L a) λa=>bnd (jf s L b) λb=>some (.pick c a b)
 | .alloc e=>bnd (lJ P e) λz=>bc (Nat.beq (nP z) (sz P e)) (some (.al e z)) none
 | .box e x=>bnd (jf s L x) λx=>some (.box e (sz P e) x)
 | .build ty ps=>bnd (CQ P ty) λpl=>bnd (lJ P ty) λz=>bnd (cmP s L pl ps.toList) λfs=>some (.Ki z fs)
 | .buildSlice ty len ps=>(match P.underlying ty with
  |some (.slice e)=>bnd (lJ P e) λz=>bnd (BR P e) λw=>bc (Nat.beq (nP z) w) (bc (Nat.ble (Nat.mul len w) 1048576) (bnd (cmP s L (λk=>some (Nat.mul k w,w)) ps.toList) λfs=>some (.Nn e len (rep len z) fs)) none) none
  |_=>none)
 | .load ty a=>bnd (Sv P ty) λw=>bnd (jf s L a) λa=>some (.ld w a)
 | .store ty a x=>bnd (BR P ty) λw=>bnd (jf s L a) λa=>bnd (jf s L x) λx=>some (.st w a x)
 | .nilCheck x=>bnd (jf s L x) λx=>some (.Vb x)
 | .binOp op ty x y _=>bnd (jf s L x) λx=>bnd (jf s L y) λy=>some (.bin op ty x y)
 | .unOp .not _ x=>bnd (jf s L x) λx=>some (.not x)
 | .unOp .neg _ x=>bnd (jf s L x) λx=>some (.neg x)
 | .convert c d x=>bnd (jf s L x) λx=>(match P.underlying c,P.underlying d with
  |some _,some (.int k)=>some (.Ol k x)
  |some .string,some .string=>some (.Vd x)
  |some (.slice e),some .string=>bc (RX P e) (some (.Np x)) none
  |_,_=>none)
 | .makeInterface ty x=>bnd (jf s L x) λx=>(match P.underlying ty with|some (.interface _)=>none|some _=>some (.Ve ty x)|none=>none)
 | .makeFunc (.func g) ⟨[]⟩ cs=>bnd (Ls s L cs.toList) λcs=>some (.Hw g cs)
 | .makeMap _ none=>some .Om
 | .makeMap ty (some (.const (.int _ _)))=>(match P.underlying ty with|some (.map _ _)=>some .Om|_=>none)
 | .makeSlice ty x y=>bnd (jf s L x) λx=>bnd (jf s L y) λy=>(match P.underlying ty,P.info? (sU P ty),lJ P (sU P ty)with
  |some (.slice e),some i,some z=>bc (Nat.beq (nP z) i.size) (bc (Nat.ble i.bytes 65536) (some (.Lr e z x y)) none) none
  |_,_,_=>none)
 | .slice ty x lo hi none=>bnd (jf s L x) λx=>bnd (Xe s L lo) λlo=>bnd (Xe s L hi) λhi=>(match P.underlying ty with
  |some .string=>some (.RG x lo hi)
  |some (.slice e)=>bnd (BR P e) λw=>some (.Vf w x lo hi)
  |some (.array m e)=>bnd (BR P e) λw=>some (.Vg w m x lo hi)
  |_=>none)
 | .fieldAddr ty x f=>bnd (jf s L x) λx=>bnd (ZN P ty f) λd=>bnd (BR P d.type) λw=>bc (Nat.beq w 0) none (some (.fa d.offset x))
 | .field ty x f=>bnd (jf s L x) λx=>bnd (ZN P ty f) λd=>bnd (Sv P d.type) λw=>some (.Vh w d.offset x)
 | .indexAddr ty x ix=>bnd (jf s L x) λx=>bnd (jf s L ix) λix=>(match P.underlying ty with
  |some (.slice e)=>bnd (BR P e) λw=>some (.je w x ix)
  |some (.array m e)=>bnd (BR P e) λw=>some (.Sq w m x ix)
  |_=>none)
 | .index ty x ix=>bnd (jf s L x) λx=>bnd (jf s L ix) λix=>(match P.underlying ty with
  |some .string=>some (.Br x ix)
  |some (.array m e)=>bnd (BR P e) λw=>bnd (Sv P e) λlw=>some (.Xd lw w m x ix)
  |_=>none)
 | .lookup ty x k ok=>bnd (jf s L x) λx=>bnd (jf s L k) λk=>(match P.underlying ty with|some (.map kt e)=>some (.look kt (zeroV P e) x k ok)|_=>none)
 | .mapUpdate ty m k x| .insert ty m k x=>bnd (jf s L m) λm=>bnd (jf s L k) λk=>bnd (jf s L x) λx=>(match P.underlying ty with|some (.map kt _)=>some (.upd kt m k x)|_=>none)
 | .extract x k=>bnd (jf s L x) λx=>some (.ext x k)
 | .range ty x=>bnd (jf s L x) λx=>(match P.underlying ty with|some (.map _ _)=>some (.rng x)|_=>none)
 | .next x false=>bnd (jf s L x) λx=>some (.Oo x)
 | .entry x=>bnd (jf s L x) λx=>some (.ent x)
 | .call {callee:=.value g,args,..}=>bnd (jf s L g) λg=>bnd (Ls s L args.toList) λcs=>some (.call g cs)
 | .call {callee:=.invoke x nm,args,..}=>bnd (jf s L x) λx=>bnd (Ls s L args.toList) λcs=>some (.inv x nm cs)
 | .call {callee:=.builtin b,args,argTypes}=>
  match b,args.toList with
  | .len,[x]=>(match argTypes.toList with
   |[ty]=>bnd (jf s L x) λx=>(match P.underlying ty with|some .string=>some (.Fh x)|some (.slice _)=>some (.ig x)|some (.array m _)=>some (.Hy m x)|some (.map _ _)=>some (.Fj x)|_=>none)
   |_=>none)
  | .append,[a,x]=>(match argTypes.toList with
   |[ty,G5]=>bnd (jf s L a) λa=>bnd (jf s L x) λx=>(match P.underlying ty,P.info? (sU P ty),lJ P (sU P ty)with
    |some (.slice e),some i,some z=>bc (ZO P G5) (bc (Nat.beq (nP z) i.size) (bc (Nat.beq i.size 0) none (bc (Nat.ble i.bytes 65536) (some (.app e i.size a x)) none)) none) none
    |_,_,_=>none)
   |_=>none)
  | .copy,[d,x]=>(match argTypes.toList with
   |ty::_=>bnd (jf s L d) λd=>bnd (jf s L x) λx=>(match P.underlying ty with|some (.slice e)=>bnd (BR P e) λw=>some (.Vi w d x)|_=>none)
   |_=>none)
  | .max,[x,y]=>bnd (jf s L x) λx=>bnd (jf s L y) λy=>some (.mx x y)
  | .min,[x,y]=>bnd (jf s L x) λx=>bnd (jf s L y) λy=>some (.mn x y)
  |_,_=>none
 |_=>none
end
end
section
variable {P:Program} {s:Sl} {Y:YT} {L:List Tmp} {t:Tr AV} {l:List AV} {h:AH} {n:Nat} {f:FT}
theorem aZ{x:Operand}{m:MO}(e:jf s L x=some m):(co s L x).run t l=gU m t l:=by
 cases x with
 |tmp k=>
  have e:bc (s.S k) (some (.s k)) (bnd (idx k L) λj=>some (.v j))=some m:=e;show(Nj s L k).run t l=_;unfold Nj;cases hS:s.S k with
  |true=>rw[hS]at e;cases e;rfl
  |false=>
   rw[hS,gH]at e;obtain⟨j,e1,e2⟩:=aB e;cases e2
   rw[e1];rfl
 |const v=>
  obtain⟨a,e1,e2⟩:=aB (show bnd (U6 v) (λa=>some (.c a))=some m from e);cases e2;exact e1
 |global g=>cases e
 |func g=>cases e;rfl
theorem za:∀{xs:List Operand}{ms:List MO},Ls s L xs=some ms->(col s L xs).run t l=Fp ms t l
 |[],_,e=>by cases e;rfl
 |x::xs,_,e=>by
  obtain⟨a,e1,e2⟩:=aB (show bnd (jf s L x) (λa=>bnd (Ls s L xs) λb=>some (a::b))=some _ from e);obtain⟨b,e3,e4⟩:=aB e2;cases e4
  show bnd ((co s L x).run t l) (λa=>bnd ((col s L xs).run t l) λb=>some (a::b))=bnd (gU a t l) λa=>bnd (Fp b t l) λb=>some (a::b);rw[aZ e1,za e3]
theorem rF{x:Option Operand}{m:Option MO}(e:Xe s L x=some m):(uT s L x).run t l=Sr m t l:=by
 cases x with
 |none=>cases e;rfl
 |some x=>
  obtain⟨a,e1,e2⟩:=aB (show bnd (jf s L x) (λa=>some (some a))=some m from e);cases e2
  show(match(co s L x).run t l with|some (.i _ n)=>some (some n)|_=>none)=_;rw[aZ e1];rfl
theorem Hz{pl:Nat->Option (Nat×Nat)}:∀{xs:List (Nat×Operand)}{fs:List (Nat×Nat×MO)},cmP s L pl xs=some fs->∀c,(GQ s L pl xs).run t l c=Oq fs t l c
 |[],_,e,c=>by cases e;rfl
 |(k,x)::xs,_,e,c=>by
  obtain⟨p,e1,e2⟩:=aB (show bnd (pl k) (λp=>bnd (jf s L x) λa=>bnd (cmP s L pl xs) λb=>some ((p.1,p.2,a)::b))=some _ from e);obtain⟨a,e3,e4⟩:=aB e2;obtain⟨b,e5,e6⟩:=aB e4;cases e6
  obtain⟨o,w⟩:=p;unfold GQ;rw[e1];show bnd ((co s L x).run t l) _=bnd (gU a t l) _;rw[aZ e3];cases gU a t l with
  |none=>rfl
  |some v=>
   show bnd (pO v) _=bnd (pO v) _;cases pO v with
   |none=>rfl
   |some u=>
    show bc (Nat.beq (nP u) w) _ none=bc (Nat.beq (nP u) w) _ none;cases Nat.beq (nP u) w with
    |false=>rfl
    |true=>
     show bnd (wJ u o c) _=bnd (wJ u o c) _;cases wJ u o c with
     |none=>rfl
     |some c=>exact Hz e5 c
theorem Vj{ty:TypeId}{w:Option Nat}(e:Sv P ty=some w):ldN P ty=wN w:=by
 unfold Sv at e;unfold ldN;cases hd:P.underlying ty with
 |none=>rw[hd]at e;cases e
 |some d=>rw[hd]at e;cases d<;>(cases e;rfl)
theorem DF{ty:TypeId}{w:Option Nat}(e:Sv P ty=some w)(l:List AV)(o:Nat):(Nk P ty).run l o=Nq w l o:=by
 unfold Sv at e;unfold Nk;cases hd:P.underlying ty with
 |none=>rw[hd]at e;cases e
 |some d=>rw[hd]at e;cases d<;>(cases e;rfl)
end
end
section
section
variable {P:Program} {s:Sl} {Y:YT} {L:List Tmp} {t:Tr AV} {l:List AV} {h:AH} {n:Nat} {f:FT}
theorem Ot{o:Oper}{i:MI}(e:Sw P s L o=some i):(cop P s Y L o).run f t l h n=i.run P Y f t l h n:=by
 unfold Sw at e;unfold cop;split at e
 .rename_i x ho
  obtain⟨a,e1,e2⟩:=aB e;cases e2;rw[ho];show ok1 ((co s L x).run t l) h n=_;rw[aZ e1];rfl
 .rename_i x ho
  obtain⟨a,e1,e2⟩:=aB e;cases e2;rw[ho];show ok1 ((co s L x).run t l) h n=_;rw[aZ e1];rfl
 .rename_i c a b ho
  obtain⟨c',e1,e⟩:=aB e;obtain⟨a',e2,e⟩:=aB e;obtain⟨b',e3,e⟩:=aB e;cases e
  rw[ho];simp only[EM,MI.run,aZ e1,aZ e2,aZ e3];try rfl
 .rename_i ty ho
  obtain⟨z,e1,e⟩:=aB e;obtain⟨e2,e⟩:=bL e;cases e
  rw[ho];simp only[GY,MI.run,e1,aP,e2,bD];try rfl
 .rename_i ty x ho
  obtain⟨a,e1,e⟩:=aB e;cases e;rw[ho];simp only[WJ,MI.run,aZ e1];try rfl
 .rename_i ty ps ho
  obtain⟨pl,e1,e⟩:=aB e;obtain⟨z,e2,e⟩:=aB e;obtain⟨fs,e3,e⟩:=aB e;cases e
  rw[ho];simp only[zI,e1,MI.run,e2,aP,Hz e3];try rfl
 .rename_i ty len ps ho
  rw[ho];unfold lK;split at e
  case h_2=>cases e
  rename_i el hu;obtain⟨z,e1,e⟩:=aB e;obtain⟨w,e2,e⟩:=aB e;obtain⟨e3,e⟩:=bL e;obtain⟨e4,e⟩:=bL e;obtain⟨fs,e5,e⟩:=aB e;cases e
  simp only[hu,MI.run,e1,e2,aP,e3,e4,bD,Hz e5];try rfl
 .rename_i ty a ho
  obtain⟨w,e1,e⟩:=aB e;obtain⟨a',e2,e⟩:=aB e;cases e
  rw[ho];simp only[EN,MI.run,aZ e2,zF,DF e1,Vj e1];try rfl
 .rename_i ty a x ho
  obtain⟨w,e1,e⟩:=aB e;obtain⟨a',e2,e⟩:=aB e;obtain⟨x',e3,e⟩:=aB e;cases e
  rw[ho];simp only[GZ,MI.run,aZ e2,aZ e3,e1];try rfl
 .rename_i x ho
  obtain⟨a,e1,e⟩:=aB e;cases e;rw[ho];simp only[qZ,MI.run,aZ e1];try rfl
 .rename_i op ty x y yt ho
  obtain⟨a,e1,e⟩:=aB e;obtain⟨b,e2,e⟩:=aB e;cases e
  rw[ho];simp only[CV,MI.run,aZ e1,aZ e2];try rfl
 .rename_i ty x ho
  obtain⟨a,e1,e⟩:=aB e;cases e;rw[ho];simp only[RU,MI.run,aZ e1];try rfl
 .rename_i ty x ho
  obtain⟨a,e1,e⟩:=aB e;cases e;rw[ho];simp only[RV,MI.run,aZ e1];try rfl
 .rename_i c d x ho
  obtain⟨a,e1,e⟩:=aB e;rw[ho];unfold pV;split at e
  .cases e;simp only[*,MI.run];rw[aZ e1];try rfl
  .cases e;simp only[*,MI.run];rw[aZ e1];try rfl
  .obtain⟨e2,e⟩:=bL e
   cases e;simp only[*,MI.run,bD];rw[aZ e1];try rfl
  .cases e
 .rename_i ty x ho
  obtain⟨a,e1,e⟩:=aB e;rw[ho];simp only[iY,aZ e1];split at e
  .cases e
  .rename_i hd hn
   cases e
   simp only[MI.run];try rfl
   rw[hn];split
   .rename_i q hq;cases hq;exact absurd rfl (hd _)
   .rfl
   .rename_i q;cases q
  .cases e
 .rename_i g cs ho
  obtain⟨a,e1,e⟩:=aB e;cases e;rw[ho];simp only[ru,MI.run,za e1];try rfl
 .rename_i ty ho
  cases e;rw[ho];rfl
 .rename_i ty k v ho
  rw[ho];simp only[rz];split at e
  .cases e;simp only[*,MI.run];try rfl
  .cases e
 .rename_i ty x y ho
  obtain⟨a,e1,e⟩:=aB e;obtain⟨b,e2,e⟩:=aB e;rw[ho];unfold nS;split at e
  .rename_i el i z h1 h2 h3
   obtain⟨e3,e⟩:=bL e;obtain⟨e4,e⟩:=bL e;cases e
   simp only[h1,h2,h3,e3,e4,bD,MI.run,aZ e1,aZ e2];try rfl
  .cases e
 .rename_i ty x lo hi ho
  obtain⟨a,e1,e⟩:=aB e;obtain⟨lo',e2,e⟩:=aB e;obtain⟨hi',e3,e⟩:=aB e;rw[ho];unfold zJ;split at e
  .cases e;simp only[*,MI.run];rw[aZ e1,rF e2,rF e3];try rfl
  .obtain⟨w,e4,e⟩:=aB e
   cases e;simp only[*,MI.run];rw[aZ e1,rF e2,rF e3];try rfl
  .obtain⟨w,e4,e⟩:=aB e
   cases e;simp only[*,MI.run];rw[aZ e1,rF e2,rF e3];try rfl
  .cases e
 .rename_i ty x k ho
  obtain⟨a,e1,e⟩:=aB e;obtain⟨d,e2,e⟩:=aB e;obtain⟨w,e3,e⟩:=aB e;rw[ho];simp only[kD,e2,e3];cases hz:Nat.beq w 0 with
  |true=>rw[hz]at e;cases e
  |false=>rw[hz]at e;cases e;simp only[gH,MI.run,aZ e1];try rfl
 .rename_i ty x k ho
  obtain⟨a,e1,e⟩:=aB e;obtain⟨d,e2,e⟩:=aB e;obtain⟨w,e3,e⟩:=aB e;cases e
  rw[ho];simp only[zK,e2,MI.run,aZ e1,DF e3];try rfl
 .rename_i ty x ix ho
  obtain⟨a,e1,e⟩:=aB e;obtain⟨b,e2,e⟩:=aB e;rw[ho];unfold kE;split at e
  .obtain⟨w,e4,e⟩:=aB e
   cases e;simp only[*,MI.run];rw[aZ e1,aZ e2];try rfl
  .obtain⟨w,e4,e⟩:=aB e
   cases e;simp only[*,MI.run];rw[aZ e1,aZ e2];try rfl
  .cases e
 .rename_i ty x ix ho
  obtain⟨a,e1,e⟩:=aB e;obtain⟨b,e2,e⟩:=aB e;rw[ho];unfold zL;split at e
  .cases e;simp only[*,MI.run];rw[aZ e1,aZ e2];try rfl
  .obtain⟨w,e4,e⟩:=aB e
   obtain⟨lw,e5,e⟩:=aB e;cases e;simp only[*,MI.run,DF e5];rw[aZ e1,aZ e2];try rfl
  .cases e
 .rename_i ty x k ok ho
  obtain⟨a,e1,e⟩:=aB e;obtain⟨b,e2,e⟩:=aB e;rw[ho];unfold uU;split at e
  .cases e;simp only[*,MI.run];rw[aZ e1,aZ e2];try rfl
  .cases e
 .rename_i ty m k x ho
  obtain⟨a,e1,e⟩:=aB e;obtain⟨b,e2,e⟩:=aB e;obtain⟨c,e3,e⟩:=aB e;rw[ho];simp only[kI];split at e
  .cases e;simp only[*,MI.run];rw[aZ e1,aZ e2,aZ e3];try rfl
  .cases e
 .rename_i ty m k x ho
  obtain⟨a,e1,e⟩:=aB e;obtain⟨b,e2,e⟩:=aB e;obtain⟨c,e3,e⟩:=aB e;rw[ho];simp only[kI];split at e
  .cases e;simp only[*,MI.run];rw[aZ e1,aZ e2,aZ e3];try rfl
  .cases e
 .rename_i x k ho
  obtain⟨a,e1,e⟩:=aB e;cases e;rw[ho];simp only[pW,MI.run,aZ e1];try rfl
 .rename_i ty x ho
  obtain⟨a,e1,e⟩:=aB e;rw[ho];unfold CX;split at e
  .cases e;simp only[*,MI.run];rw[aZ e1];try rfl
  .cases e
 .rename_i x ho
  obtain⟨a,e1,e⟩:=aB e;cases e;rw[ho];simp only[JQ,MI.run,aZ e1];try rfl
 .rename_i x ho
  obtain⟨a,e1,e⟩:=aB e;cases e;rw[ho];simp only[CY,MI.run,aZ e1];try rfl
 .rename_i g args ts ho
  obtain⟨a,e1,e⟩:=aB e;obtain⟨b,e2,e⟩:=aB e;cases e
  rw[ho];simp only[JN,MI.run,aZ e1,za e2];try rfl
 .rename_i x nm args ts ho
  obtain⟨a,e1,e⟩:=aB e;obtain⟨b,e2,e⟩:=aB e;cases e
  rw[ho];simp only[uV,MI.run,aZ e1,za e2];try rfl
 .rename_i b args ts ho
  rw[ho];split at e
  .rename_i x ha
   simp only[ha];split at e
   .rename_i ty ht
    simp only[ht];obtain⟨a,e1,e⟩:=aB e;unfold NJ;split at e
    .cases e;simp only[*,MI.run];rw[aZ e1];try rfl
    .cases e;simp only[*,MI.run];rw[aZ e1];try rfl
    .cases e;simp only[*,MI.run];rw[aZ e1];try rfl
    .cases e;simp only[*,MI.run];rw[aZ e1];try rfl
    .cases e
   .cases e
  .rename_i a x ha
   simp only[ha];split at e
   .rename_i ty G5 ht
    simp only[ht];obtain⟨a',e1,e⟩:=aB e;obtain⟨x',e2,e⟩:=aB e;unfold yY;split at e
    .rename_i el i z h1 h2 h3
     obtain⟨e3,e⟩:=bL e;obtain⟨e4,e⟩:=bL e;cases hz:Nat.beq i.size 0 with
     |true=>rw[hz]at e;cases e
     |false=>
      rw[hz]at e;obtain⟨e5,e⟩:=bL (show bc (Nat.ble i.bytes 65536) _ none=_ from e);cases e
      simp only[h1,h2,h3,e3,e4,hz,e5,bD,gH,MI.run,aZ e1,aZ e2];try rfl
    .cases e
   .cases e
  .rename_i d x ha
   simp only[ha];split at e
   .rename_i ty r ht
    simp only[ht];obtain⟨a',e1,e⟩:=aB e;obtain⟨x',e2,e⟩:=aB e;unfold JO;split at e
    .obtain⟨w,e3,e⟩:=aB e
     cases e;simp only[*,MI.run];rw[aZ e1,aZ e2];try rfl
    .cases e
   .cases e
  .rename_i x y ha
   simp only[ha];obtain⟨a,e1,e⟩:=aB e;obtain⟨b,e2,e⟩:=aB e;cases e
   simp only[NK,MI.run,aZ e1,aZ e2];try rfl
  .rename_i x y ha
   simp only[ha];obtain⟨a,e1,e⟩:=aB e;obtain⟨b,e2,e⟩:=aB e;cases e
   simp only[NM,MI.run,aZ e1,aZ e2];try rfl
  .cases e
 .cases e
end
end
section
noncomputable section
inductive MD where
 |n
 |k (d:Nat)
 |l
structure MR where
 g:Option (MO×Bool)
 i:MI
 d:MD
structure MQ where
 k:Nat
 r:Bool
 ks:List Nat
 g:Option (MO×Bool)
 i:MI
inductive MC where
 |skip
 |reg (l:List MR)
 |zW (K:Nat) (l:List MQ) (ck:List (Nat×Nat)) (wr:List (Nat×Tmp))
 |seq (a b:MC)
 |cond (c:MO) (a b:MC)
 |blk (id:Nat) (a:MC)
 |loop (a:MC)
 |exit (id:Nat)
 |ret
 |rng (r:MO) (ps:List Tmp) (fT body:Code)
def DI(g:Option (MO×Bool))(t:Tr AV)(l:List AV):Option Bool:=match g with
 |none=>some true
 |some (x,w)=>match gU x t l with|some (.b x)=>some (bc w x (qY x))|some _=>some false|none=>none
def Vk{α:Type}(d:MD)(t:Tr AV)(l:List AV)(v:AV)(K:Tr AV->List AV->α):α:=match d with
 | .n=>K t l
 | .k d=>K ((pp 20 d).run v t) l
 | .l=>K t (v::l)
section
variable (P:Program) (Y:YT)
def qg:List MR->FT->AH->Nat->Tr AV->List AV->fJ
 |[],_,h,n,t,_=>.ok .bX h n t
 |o::r,f,h,n,t,l=>match DI o.g t l with
  |none=>.bad
  |some true=>nR (o.i.run P Y f t l h n) λv h n=>Vk o.d t l v λt l=>qg r f h n t l
  |some false=>Vk o.d t l (.bJ []) λt l=>qg r f h n t l
def mE(i:Nat)(o:MQ)(f:FT)(t:Tr AV)(x:Nat)(h:AH)(n:Nat)(vs:List AV):fH:=match o.k with
 |0=>aP ((NR i o.ks).run vs) λl=>Gz (DI o.g t l) (RF (o.i.run P Y f t l .z 0) λv _ _=>.ok v h n) (.ok (.bJ []) h n)
 |1=>aP ((NR i o.ks).run vs) λl=>Gz (DI o.g t l) (RF (o.i.run P Y f t l h 0) λv _ _=>.ok v h n) (.ok (.bJ []) h n)
 |2=>aP ((NR i o.ks).run vs) λl=>Gz (DI o.g t l) (RF (o.i.run P Y f t l .z x) λv h1 n1=>bc (Nat.beq n1 (Nat.succ x)) (aP (h1.get x) λob=>.ok v (h.set x ob) n) .bad) (.ok (.bJ []) h n)
 |_=>aP ((NR i o.ks).run vs) λl=>Gz (DI o.g t l) (o.i.run P Y f t l h n) (.ok (.bJ []) h n)
def wY:List MQ->Nat->Nat->FT->Tr AV->Nat->AH->Nat->List AV->List (Nat×AH)->CZ
 |[],_,_,_,_,_,h,n,vs,hs=>.ok h n vs hs
 |o::l,j,r,f,t,n0,h,n,vs,hs=>match o.k with
  |3=>pF (mE P Y j o f t 0 h n vs) λv h n=>wY l (j+1) r f t n0 h n (v::vs) ((j+1,h)::hs)
  |2=>pF (mE P Y j o f t (Nat.add n0 r) h n vs) λv h n=>wY l (j+1) (r+1) f t n0 h n (v::vs) hs
  |1=>(match o.r with
   |true=>pF (mE P Y j o f t 0 h n vs) λv _ _=>wY l (j+1) r f t n0 h n (v::vs) hs
   |false=>(match hs with
    |[]=>.bad
    |x::_=>pF (mE P Y j o f t 0 x.2 n vs) λv _ _=>wY l (j+1) r f t n0 h n (v::vs) hs))
  |_=>pF (mE P Y j o f t 0 h n vs) λv h n=>wY l (j+1) r f t n0 h n (v::vs) hs
def Xf(ops:List MQ):List (Nat×Nat)->FT->Tr AV->List AV->List (Nat×AH)->Bool
 |[],_,_,_,_=>true
 |x::l,f,t,vs,hs=>bc (match ops[x.1]? with
  |some o=>(match ER x.2 hs,(EL (ops.length - 1 - x.1)).run vs with
   |some H,some v=>(match mE P Y ops.length o f t 0 H 0 vs with| .ok v' _ _=>K7 v v'| .bad=>false)
   |_,_=>false)
  |none=>false) (Xf ops l f t vs hs) false
def Lu(i:Nat):List (Nat×Tmp)->List AV->Tr AV->Option (Tr AV)
 |[],_,t=>some t
 |x::l,vs,t=>bnd ((EL (i - 1 - x.1)).run vs) λv=>Lu i l vs ((pp 20 x.2).run v t)
def HV(K:Nat)(l:List MQ)(ck:List (Nat×Nat))(wr:List (Nat×Tmp))(f:FT)(h:AH)(n:Nat)(t:Tr AV):fJ:=
 match wY P Y l 0 0 f t n h (Nat.add n K) [] [(0,h)]with
 | .bad=>.bad
 | .ok h1 n1 vs hs=>bc (Xf P Y l ck f t vs hs) (@Option.rec (Tr AV) (λ_=>fJ) .bad (λt1=>.ok .bX h1 n1 t1) (Lu l.length wr vs t)) .bad
def MC.run(g:FuncId):MC->FT->AH->Nat->Tr AV->fJ
 | .skip,_,h,n,t=>.ok .bX h n t
 | .reg l,f,h,n,t=>qg P Y l f h n t []
 | .zW K l ck wr,f,h,n,t=>HV P Y K l ck wr f h n t
 | .seq a b,f,h,n,t=>jh (a.run g f h n t) λx h n t=>EK x (b.run g f h n t) (.ok x h n t)
 | .cond c a b,f,h,n,t=>match gU c t []with
  |some (.b x)=>bc x (a.run g f h n t) (b.run g f h n t)
  |_=>.bad
 | .blk id a,f,h,n,t=>jh (a.run g f h n t) λx h n t=>match x with
  | .exit j=>bc (Nat.beq j id) (.ok .bX h n t) (.ok (.exit j) h n t)
  |x=>.ok x h n t
 | .loop a,f,h,n,t=>pY 1125899906842624 ⟨a.run g⟩ f h n t
 | .exit id,_,h,n,t=>.ok (.exit id) h n t
 | .ret,_,h,n,t=>.ok .ret h n t
 | .rng r ps fT body,f,h,n,t=>match gU r t []with
  |some (.f q cap)=>nR (f q (.y n::cap) (h.set n (.lp .ready none g t ps fT body)) (Nat.succ n)) λ_ h2 n2=>JU n h2 n2 t
  |_=>.bad
end
section
variable (P:Program)
def Vl(s:Sl)(L:List Tmp)(ops:Array Oper):Option (Nat×Bool)->Option (Option (MO×Bool))
 |none=>some none
 |some (j,w)=>bnd ((ops[j]?).bind (·.dst)) λd=>bnd (jf s L (.tmp d)) λx=>some (some (x,w))
def cmD(s:Sl):Option Tmp->Option MD
 |none=>some .n
 |some d=>bc (Nat.ble (Nat.succ d) s.N) (some (bc (s.S d) (.k d) .l)) none
def cmR(s:Sl)(ops:Array Oper):List Oper->List Tmp->Option (List MR)
 |[],_=>some []
 |o::l,L=>bnd (Vl s L ops o.guard) λg=>bnd (Sw P s L o) λi=>bnd (cmD s o.dst) λd=>bnd (cmR s ops l (RY s o.dst L)) λr=>some (⟨g,i,d⟩::r)
def Xh(s:Sl)(ops:Array Oper)(W:List (Nat×Tmp))(A E B:List Nat):List Oper->Nat->Option (List MQ)
 |[],_=>some []
 |o::l,j=>bnd (Vl (kJ s W A j) ((mU W A j (Bq ops.toList o)).map (·.2)) ops o.guard) λg=>bnd (Sw P (kJ s W A j) ((mU W A j (Bq ops.toList o)).map (·.2)) o) λi=>
  bnd (Xh s ops W A E B l (j+1)) λr=>some (⟨d_ o.op,K6 E B A j,(mU W A j (Bq ops.toList o)).map (·.1),g,i⟩::r)
def ZP(s:Sl):List (Nat×Tmp)->List (Nat×Tmp)
 |[]=>[]
 |x::l=>bc (s.S x.2) (x::ZP s l) (ZP s l)
def Xi(s:Sl)(ops:Array Oper):Option MC:=
 bc (okS s ops (wM ops.toList 0) (lI ops.toList) (iT 3 ops.toList 0) (iT 2 ops.toList 0))
  (bnd (Xh P s ops (wM ops.toList 0) (lI ops.toList) (iT 3 ops.toList 0) (iT 2 ops.toList 0) ops.toList 0) λl=>
   some (.zW (kOf (iT 2 ops.toList 0)) l (pairs (iT 3 ops.toList 0) (iT 1 ops.toList 0) (lI ops.toList)) (ZP s (wM ops.toList 0)))) none
def zX(s:Sl):Code->Option MC
 | .skip=>some .skip
 | .region _ ops d=>bc d (Xi P s ops) (bnd (cmR P s ops ops.toList []) λl=>some (.reg l))
 | .seq a b=>bnd (zX s a) λa=>bnd (zX s b) λb=>some (.seq a b)
 | .cond c a b=>bnd (jf s [] c) λc=>bnd (zX s a) λa=>bnd (zX s b) λb=>some (.cond c a b)
 | .block id a=>bnd (zX s a) λa=>some (.blk id a)
 | .loop a=>bnd (zX s a) λa=>some (.loop a)
 | .label _=>some .skip
 | .exit id=>some (.exit id)
 | .ret=>some .ret
 | .rangeFunc r ps fT body=>bnd (jf s [] r) λr=>some (.rng r ps.toList fT body)
 | .scope a=>zX s a
 |_=>none
end
end
section
variable {P:Program} {sl:FuncId->Sl} {s:Sl} {Y:YT} {L:List Tmp} {t:Tr AV} {l:List AV} {h:AH} {n:Nat} {f:FT}
theorem Ou{ops:Array Oper}{g:Option (Nat×Bool)}{m:Option (MO×Bool)}(e:Vl s L ops g=some m):(JR s L ops g).run t l=DI m t l:=by
 cases g with
 |none=>cases e;rfl
 |some g=>
  obtain⟨j,w⟩:=g;obtain⟨d,e1,e⟩:=aB (show bnd ((ops[j]?).bind (·.dst)) (λd=>bnd (jf s L (.tmp d)) λx=>some (some (x,w)))=some m from e);obtain⟨x,e2,e⟩:=aB e;cases e
  simp only[JR,e1,DI,aZ e2];rfl
theorem Ov{d:Option Tmp}{m:MD}{v:AV}{K:Tr AV->List AV->fJ}(e:cmD s d=some m):(U8 s d).run t l v K=Vk m t l v K:=by
 cases d with
 |none=>cases e;rfl
 |some d=>
  obtain⟨e1,e⟩:=bL (show bc (Nat.ble (Nat.succ d) s.N) (some (bc (s.S d) (MD.k d) .l)) none=some m from e);cases e
  show(bc (Nat.ble (Nat.succ d) s.N) _ _:WK).run t l v K=_;rw[e1,bD];cases s.S d<;>rfl
theorem Ow{ops:Array Oper}:∀{lo:List Oper}{L:List Tmp}{r:List MR},cmR P s ops lo L=some r->∀(h:AH)(n:Nat)(t:Tr AV)(l:List AV),(EP P s Y ops lo L).run f h n t l=qg P Y r f h n t l
 |[],L,r,e,h,n,t,l=>by cases e;rfl
 |o::lo,L,r,e,h,n,t,l=>by
  obtain⟨g,e1,e⟩:=aB (show bnd (Vl s L ops o.guard) (λg=>bnd (Sw P s L o) λi=>bnd (cmD s o.dst) λd=>bnd (cmR P s ops lo (RY s o.dst L)) λr=>some (⟨g,i,d⟩::r))=some r from e);obtain⟨i,e2,e⟩:=aB e;obtain⟨d,e3,e⟩:=aB e;obtain⟨r',e4,e⟩:=aB e;cases e
  have ih:=Ow e4;have hg:=Ou (t:=t) (l:=l) e1;have yes:nR ((cop P s Y L o).run f t l h n) (λv h n=>(U8 s o.dst).run t l v λt l=>(EP P s Y ops lo (RY s o.dst L)).run f h n t l)=nR (i.run P Y f t l h n) λv h n=>Vk d t l v λt l=>qg P Y r' f h n t l:=by
   rw[Ot e2];cases i.run P Y f t l h n with
   |bad=>rfl
   |ok v h n=>
    show(U8 s o.dst).run t l v _=Vk d t l v _;rw[Ov e3];congr 1;funext t l;exact ih h n t l
  have no:(U8 s o.dst).run t l (.bJ []) (λt l=>(EP P s Y ops lo (RY s o.dst L)).run f h n t l)=Vk d t l (.bJ []) λt l=>qg P Y r' f h n t l:=by
   rw[Ov e3];congr 1;funext t l;exact ih h n t l
  show(@Option.rec (Nat×Bool) (λ_=>Cg) _ _ o.guard:Cg).run f h n t l=_;rw[qg];cases hgd:o.guard with
  |none=>
   rw[hgd]at e1;cases e1;exact yes
  |some gd=>
   rw[hgd]at hg;show@Option.rec Bool (λ_=>fJ) fJ.bad (λb=>bc b _ _) ((JR s L ops (some gd)).run t l)=_;rw[hg];cases DI g t l with
   |none=>rfl
   |some b=>
    cases b with
    |true=>exact yes
    |false=>exact no
theorem Kj{ops:Array Oper}{W:List (Nat×Tmp)}{A:List Nat}{i j:Nat}{o:Oper}{q:MQ}(hk:q.k=d_ o.op)(hks:q.ks=(mU W A j (Bq ops.toList o)).map (·.1))
 (hg:Vl (kJ s W A j) ((mU W A j (Bq ops.toList o)).map (·.2)) ops o.guard=some q.g)(hi:Sw P (kJ s W A j) ((mU W A j (Bq ops.toList o)).map (·.2)) o=some q.i)(x:Nat)(h:AH)(n:Nat)(vs:List AV):
 (mV P s Y ops W A i j o).run f t x h n vs=mE P Y i q f t x h n vs:=by
 have h1:∀l,(JR (kJ s W A j) ((mU W A j (Bq ops.toList o)).map (·.2)) ops o.guard).run t l=DI q.g t l:=λl=>Ou hg;have h2:∀f t l h n,(cop P (kJ s W A j) Y ((mU W A j (Bq ops.toList o)).map (·.2)) o).run f t l h n=q.i.run P Y f t l h n:=λf t l h n=>Ot hi;unfold mV mE;dsimp only;rw[hk,hks];rcases mX o.op with e|e|e|e<;>rw[e]<;>simp only[h1,h2]<;>rfl
theorem Kk{ops:Array Oper}{W:List (Nat×Tmp)}{A E B:List Nat}:∀{lo:List Oper}{j:Nat}{q:List MQ},Xh P s ops W A E B lo j=some q->∀(r n0:Nat)(h:AH)(n:Nat)(vs:List AV)(hs:List (Nat×AH)),
 (Bw P s Y ops W A E B lo j r).run f t n0 h n vs hs=wY P Y q j r f t n0 h n vs hs
 |[],j,q,e,r,n0,h,n,vs,hs=>by cases e;rfl
 |o::lo,j,q,e,r,n0,h,n,vs,hs=>by
  obtain⟨g,e1,e⟩:=aB (show bnd (Vl (kJ s W A j) ((mU W A j (Bq ops.toList o)).map (·.2)) ops o.guard) (λg=>bnd (Sw P (kJ s W A j) ((mU W A j (Bq ops.toList o)).map (·.2)) o) λi=>
   bnd (Xh P s ops W A E B lo (j+1)) λr=>some (⟨d_ o.op,K6 E B A j,(mU W A j (Bq ops.toList o)).map (·.1),g,i⟩::r))=some q from e)
  obtain⟨i,e2,e⟩:=aB e;obtain⟨q',e3,e⟩:=aB e;cases e
  have ih:=Kk e3;have hd:∀x h n vs,(mV P s Y ops W A j j o).run f t x h n vs=mE P Y j ⟨d_ o.op,K6 E B A j,(mU W A j (Bq ops.toList o)).map (·.1),g,i⟩ f t x h n vs:=λx h n vs=>Kj rfl rfl e1 e2 x h n vs;show(bc (Nat.beq (d_ o.op) 3) _ (bc (Nat.beq (d_ o.op) 2) _ (bc (Nat.beq (d_ o.op) 1) (bc (K6 E B A j) _ _) _)):Dk).run f t n0 h n vs hs=_;rw[wY.eq_def];dsimp only;have cg:∀(x:fH)(F G:AV->AH->Nat->CZ),(∀v h n,F v h n=G v h n)->pF x F=pF x G:=λx F G h=>by
   cases x with
   |bad=>rfl
   |ok v a b=>exact h v a b
  rcases mX o.op with e|e|e|e<;>rw[e]at hd⊢
  .refine Eq.trans (congrArg (λz=>pF z _) (hd _ _ _ _)) (cg _ _ _ λv h n=>ih _ _ _ _ _ _)
  .cases hr:K6 E B A j with
   |true=>
    rw[hr]at hd;refine Eq.trans (congrArg (λz=>pF z _) (hd _ _ _ _)) (cg _ _ _ λv _ _=>ih _ _ _ _ _ _)
   |false=>
    rw[hr]at hd;cases hs with
    |nil=>rfl
    |cons x hs=>refine Eq.trans (congrArg (λz=>pF z _) (hd _ _ _ _)) (cg _ _ _ λv _ _=>ih _ _ _ _ _ _)
  .refine Eq.trans (congrArg (λz=>pF z _) (hd _ _ _ _)) (cg _ _ _ λv h n=>ih _ _ _ _ _ _)
  .refine Eq.trans (congrArg (λz=>pF z _) (hd _ _ _ _)) (cg _ _ _ λv h n=>ih _ _ _ _ _ _)
theorem DJ{ops:Array Oper}{W:List (Nat×Tmp)}{A E B:List Nat}:∀{lo:List Oper}{j:Nat}{q:List MQ},Xh P s ops W A E B lo j=some q->q.length=lo.length/\∀k o,lo[k]?=some o->∃m,q[k]?=some m/\m.k=d_ o.op/\m.ks=(mU W A (j+k) (Bq ops.toList o)).map (·.1)/\
 Vl (kJ s W A (j+k)) ((mU W A (j+k) (Bq ops.toList o)).map (·.2)) ops o.guard=some m.g/\Sw P (kJ s W A (j+k)) ((mU W A (j+k) (Bq ops.toList o)).map (·.2)) o=some m.i
 |[],j,q,e=>by cases e;exact⟨rfl,λk o h=>by simp at h⟩
 |o::lo,j,q,e=>by
  obtain⟨g,e1,e⟩:=aB (show bnd (Vl (kJ s W A j) ((mU W A j (Bq ops.toList o)).map (·.2)) ops o.guard) (λg=>bnd (Sw P (kJ s W A j) ((mU W A j (Bq ops.toList o)).map (·.2)) o) λi=>
   bnd (Xh P s ops W A E B lo (j+1)) λr=>some (⟨d_ o.op,K6 E B A j,(mU W A j (Bq ops.toList o)).map (·.1),g,i⟩::r))=some q from e)
  obtain⟨i,e2,e⟩:=aB e;obtain⟨q',e3,e⟩:=aB e;cases e
  obtain⟨h1,h2⟩:=DJ e3;refine⟨by simp[h1],λk o' hk=>?_⟩;cases k with
  |zero=>cases hk;exact⟨_,rfl,rfl,rfl,e1,e2⟩
  |succ k=>
   have:=h2 k o' hk;rw[show j+1+k=j+(k+1) by omega]at this;exact this
theorem Ox{ops:Array Oper}{W:List (Nat×Tmp)}{A E B:List Nat}{q:List MQ}(e:Xh P s ops W A E B ops.toList 0=some q){vs:List AV}{hs:List (Nat×AH)}:∀(l:List (Nat×Nat)),(zM P s Y ops W A l).run f t vs hs=Xf P Y q l f t vs hs
 |[]=>rfl
 |x::l=>by
  obtain⟨h1,h2⟩:=DJ e;have h1:q.length=ops.size:=by rw[h1];simp
  show bc ((ck1 P s Y ops W A x.1 x.2).run f t vs hs) ((zM P s Y ops W A l).run f t vs hs) false=_;rw[Xf,Ox e l];congr 1;unfold ck1;cases ho:ops[x.1]? with
  |none=>
   have:q[x.1]?=none:=by rw[List.getElem?_eq_none_iff,h1];exact Array.getElem?_eq_none_iff.1 ho
   rw[this]
  |some o=>
   obtain⟨m,g1,g2,g3,g4,g5⟩:=h2 x.1 o (by rw[Array.getElem?_toList];exact ho);rw[Nat.zero_add]at g3 g4 g5;rw[g1,h1];dsimp only;cases ER x.2 hs with
   |none=>rfl
   |some H=>
    cases (EL (ops.size - 1 - x.1)).run vs with
    |none=>rfl
    |some v=>dsimp only;rw[Kj g2 g3 g4 g5];rfl
theorem DL{i:Nat}{vs:List AV}:∀(W:List (Nat×Tmp))(t:Tr AV),(C8 s i W).run vs t=Lu i (ZP s W) vs t
 |[],_=>rfl
 |x::l,t=>by
  show(bc (s.S x.2) _ (C8 s i l):PdF).run vs t=Lu i (bc (s.S x.2) (x::ZP s l) (ZP s l)) vs t;cases s.S x.2 with
  |false=>exact DL l t
  |true=>
   show bnd ((EL (i - 1 - x.1)).run vs) _=bnd ((EL (i - 1 - x.1)).run vs) _;congr 1;funext v;exact DL l _
theorem Sy{ops:Array Oper}{m:MC}(g:FuncId)(e:Xi P s ops=some m):(K8 P s Y ops).run f h n t=m.run P Y g f h n t:=by
 obtain⟨e1,e⟩:=bL e;obtain⟨l,e2,e⟩:=aB e;cases e
 unfold K8;dsimp only;rw[e1,bD];dsimp only;show _=HV P Y _ l _ _ f h n t;unfold HV;rw[Kk e2];obtain⟨h1,_⟩:=DJ e2;have h1:l.length=ops.size:=by rw[h1];simp
 cases wY P Y l 0 0 f t n h (Nat.add n (kOf (iT 2 ops.toList 0))) [] [(0,h)]with
 |bad=>rfl
 |ok h1' n1 vs hs=>
  dsimp only;rw[Ox e2,DL,h1]
theorem Oy{d:MD}{t:Tr AV}{l:List AV}{v:AV}{K:Tr AV->List AV->fJ}{j:Nat}{h':AH}{n':Nat}{t':Tr AV}(hK:∀t l,K t l= .ok (.goto j) h' n' t'->False)(e:Vk d t l v K= .ok (.goto j) h' n' t'):False:=by
 cases d<;>exact hK _ _ e
theorem DN{j:Nat}{h':AH}{n':Nat}{t':Tr AV}:∀{r:List MR}{h:AH}{n:Nat}{t:Tr AV}{l:List AV},qg P Y r f h n t l= .ok (.goto j) h' n' t'->False
 |[],h,n,t,l,e=>by cases e
 |o::r,h,n,t,l,e=>by
  rw[qg]at e;split at e
  .cases e
  .obtain⟨v,h1,n1,e1,e2⟩:=yZ e
   exact Oy (λt l e=>DN e) e2
  .exact Oy (λt l e=>DN e) e
theorem ug{g:FuncId}{j:Nat}{h':AH}{n':Nat}{t':Tr AV}:∀{m:MC}{h:AH}{n:Nat}{t:Tr AV},m.run P Y g f h n t= .ok (.goto j) h' n' t'->False
 | .skip,h,n,t,e=>by cases e
 | .reg l,h,n,t,e=>DN e
 | .zW K l ck wr,h,n,t,e=>by
  have e:HV P Y K l ck wr f h n t= .ok (.goto j) h' n' t':=e;unfold HV at e;split at e
  .cases e
  .rename_i h1 n1 vs hs _
   cases hc:Xf P Y l ck f t vs hs with
   |false=>rw[hc]at e;cases e
   |true=>
    rw[hc]at e;cases hp:Lu l.length wr vs t with
    |none=>rw[hp]at e;cases e
    |some t1=>rw[hp]at e;cases e
 | .seq a b,h,n,t,e=>by
  obtain⟨x,h1,n1,t1,e1,e2⟩:=jK (show jh (a.run P Y g f h n t) _=_ from e);cases x with
  |bX=>exact ug (m:=b) e2
  |goto i=>exact ug (m:=a) e1
  |exit i=>cases e2
  |ret=>cases e2
 | .cond c a b,h,n,t,e=>by
  have e:(match gU c t []with|some (.b x)=>bc x (a.run P Y g f h n t) (b.run P Y g f h n t)|_=>.bad)= .ok (.goto j) h' n' t':=e;split at e
  .rename_i x _
   cases x
   .exact ug (m:=b) e
   .exact ug (m:=a) e
  .cases e
 | .blk id a,h,n,t,e=>by
  obtain⟨x,h1,n1,t1,e1,e2⟩:=jK (show jh (a.run P Y g f h n t) _=_ from e);cases x with
  |bX=>cases e2
  |goto i=>exact ug (m:=a) e1
  |exit i=>
   have e2:bc (Nat.beq i id) (fJ.ok .bX h1 n1 t1) (.ok (.exit i) h1 n1 t1)= .ok (.goto j) h' n' t':=e2;cases hb:Nat.beq i id<;>rw[hb]at e2<;>cases e2
  |ret=>cases e2
 | .loop a,h,n,t,e=>by
  have key:∀(K:Nat)(h:AH)(n:Nat)(t:Tr AV),pY K ⟨a.run P Y g⟩ f h n t= .ok (.goto j) h' n' t'->False:=by
   intro K;induction K with
   |zero=>intro h n t e;cases e
   |succ K ih=>
    intro h n t e;obtain⟨x,h1,n1,t1,e1,e2⟩:=jK (show jh (a.run P Y g f h n t) (λx h n t=>EK x (pY K ⟨a.run P Y g⟩ f h n t) (.ok x h n t))=_ from e);cases x with
    |bX=>exact ih _ _ _ e2
    |goto i=>exact ug (m:=a) e1
    |exit i=>cases e2
    |ret=>cases e2
  exact key _ _ _ _ e
 | .exit id,h,n,t,e=>by cases e
 | .ret,h,n,t,e=>by cases e
 | .rng r ps fT body,h,n,t,e=>by
  have e:(match gU r t []with|some (.f q cap)=>nR (f q (.y n::cap) (h.set n (.lp .ready none g t ps fT body)) (Nat.succ n)) (λ_ h2 n2=>JU n h2 n2 t)|_=>.bad)= .ok (.goto j) h' n' t':=e;split at e
  .obtain⟨v,h1,n1,e1,e2⟩:=yZ e
   obtain⟨_,pd,_,_,_,_,_,_,_,_,_,_,e3⟩:=Oi e2;rcases e3 with⟨_,e3⟩|⟨_,e3⟩|⟨_,_,e3⟩<;>cases e3
  .cases e
theorem mF(g:FuncId):∀{c:Code}{m:MC},zX P (sl g) c=some m->∀f h n t,(cc P sl g Y c).run f h n t=m.run P Y g f h n t
 | .skip,m,e,f,h,n,t=>by cases e;rfl
 | .region id ops d,m,e,f,h,n,t=>by
  cases d with
  |true=>exact Sy g (show Xi P (sl g) ops=some m from e)
  |false=>
   obtain⟨l,e1,e⟩:=aB (show bnd (cmR P (sl g) ops ops.toList []) (λl=>some (MC.reg l))=some m from e);cases e
   exact Ow e1 h n t []
 | .seq a b,m,e,f,h,n,t=>by
  obtain⟨a',e1,e⟩:=aB (show bnd (zX P (sl g) a) (λa=>bnd (zX P (sl g) b) λb=>some (MC.seq a b))=some m from e);obtain⟨b',e2,e⟩:=aB e;cases e
  show jh ((cc P sl g Y a).run f h n t) _=jh (a'.run P Y g f h n t) _;rw[mF g e1];congr 1;funext x h n t;rw[mF g e2]
 | .cond c a b,m,e,f,h,n,t=>by
  obtain⟨c',e0,e⟩:=aB (show bnd (jf (sl g) [] c) (λc=>bnd (zX P (sl g) a) λa=>bnd (zX P (sl g) b) λb=>some (MC.cond c a b))=some m from e);obtain⟨a',e1,e⟩:=aB e;obtain⟨b',e2,e⟩:=aB e;cases e
  show(match(co (sl g) [] c).run t []with|some (.b x)=>bc x ((cc P sl g Y a).run f h n t) ((cc P sl g Y b).run f h n t)|_=>.bad)=match gU c' t []with|some (.b x)=>bc x (a'.run P Y g f h n t) (b'.run P Y g f h n t)|_=>.bad
  rw[aZ e0,mF g e1,mF g e2]
 | .block id a,m,e,f,h,n,t=>by
  obtain⟨a',e1,e⟩:=aB (show bnd (zX P (sl g) a) (λa=>some (MC.blk id a))=some m from e);cases e
  show jh ((cc P sl g Y a).run f h n t) _=jh (a'.run P Y g f h n t) _;rw[mF g e1];rfl
 | .loop a,m,e,f,h,n,t=>by
  obtain⟨a',e1,e⟩:=aB (show bnd (zX P (sl g) a) (λa=>some (MC.loop a))=some m from e);cases e
  show pY 1125899906842624 (cc P sl g Y a) f h n t=pY 1125899906842624 ⟨a'.run P Y g⟩ f h n t;congr 1;have:(cc P sl g Y a).run=a'.run P Y g:=by funext f h n t;exact mF g e1 f h n t
  rw[<-this]
 | .label _,m,e,f,h,n,t=>by cases e;rfl
 | .exit id,m,e,f,h,n,t=>by cases e;rfl
 | .ret,m,e,f,h,n,t=>by cases e;rfl
 | .rangeFunc r ps fT body,m,e,f,h,n,t=>by
  obtain⟨r',e1,e⟩:=aB (show bnd (jf (sl g) [] r) (λr=>some (MC.rng r ps.toList fT body))=some m from e);cases e
  show(match(co (sl g) [] r).run t []with|some (.f q cap)=>nR (f q (.y n::cap) (h.set n (.lp .ready none g t ps.toList fT body)) (Nat.succ n)) (λ_ h2 n2=>JU n h2 n2 t)|_=>.bad)=_;rw[aZ e1];rfl
 | .goto _,m,e,f,h,n,t=>by cases e
 | .scope a,m,e,f,h,n,t=>by
  show jh ((cc P sl g Y a).run f h n t) (λx h n t=>match x with
   | .goto _=>.bad
   |x=>.ok x h n t)=_
  rw[mF g (show zX P (sl g) a=some m from e)];cases hr:m.run P Y g f h n t with
  |bad=>rfl
  |ok x h1 n1 t1=>
   cases x with
   |goto i=>exact(ug hr).elim
   |bX=>rfl
   |exit i=>rfl
   |ret=>rfl
 | .refuse _,m,e,f,h,n,t=>by cases e
end
end
section
abbrev Fm:=List (Nat×AV)
def lk:Fm->Nat->Option AV
 |[],_=>none
 |(j,v)::r,k=>if k=j then some v else lk r k
def pt:Fm->Nat->AV->Fm
 |[],k,v=>[(k,v)]
 |(j,u)::r,k,v=>if k=j then(k,v)::r else(j,u)::pt r k v
theorem fM:∀(F:Fm)(k:Nat)(v:AV)(m:Nat),lk (pt F k v) m=if m=k then some v else lk F m
 |[],k,v,m=>by simp only[pt,lk]
 |(j,u)::r,k,v,m=>by
  simp only[pt];by_cases h:k=j
  .subst h
   rw[if_pos rfl];simp only[lk];split<;>rfl
  .rw[if_neg h]
   simp only[lk,fM r k v m];by_cases h1:m=j
   .subst h1;rw[if_pos rfl,if_pos rfl,if_neg (λe=>h e.symm)]
   .rw[if_neg h1,if_neg h1]
def Fk(t:Tr AV)(F:Fm):Prop:=∀k v,lk F k=some v->t.get k=some v
theorem Fk.put{t:Tr AV}{F:Fm}(h:Fk t F)(k:Nat)(v:AV):Fk ((pp 20 k).run v t) (pt F k v):=λm u e=>by
 rw[jJ];rw[fM]at e;split at e
 .rw[if_pos ‹_›];exact e
 .rw[if_neg ‹_›];exact h m u e
theorem Fk.nil(t:Tr AV):Fk t []:=λ_ _ e=>by cases e
theorem Fk.le{t:Tr AV}{F G:Fm}(h:Fk t F)(k:∀m v,lk G m=some v->lk F m=some v):Fk t G:=λm v e=>h m v (k m v e)
def ev(x:MO)(F:Fm)(l:List AV):Option AV:=match x with
 | .s k=>lk F k
 | .v j=>l[j]?
 | .c a=>some a
theorem bf{x:MO}{F:Fm}{l:List AV}{t:Tr AV}{v:AV}(h:Fk t F)(e:ev x F l=some v):gU x t l=some v:=by
 cases x with
 |s k=>show(gp 20 k).run t=_;rw[mh];exact h k v e
 |v j=>show(EL j).run l=_;rw[jT];exact e
 |c a=>exact e
def evs:List MO->Fm->List AV->Option (List AV)
 |[],_,_=>some []
 |x::r,F,l=>match ev x F l with
  |some a=>(match evs r F l with|some b=>some (a::b)|none=>none)
  |none=>none
theorem qh{F:Fm}{l:List AV}{t:Tr AV}(h:Fk t F):∀{xs:List MO}{vs:List AV},evs xs F l=some vs->Fp xs t l=some vs
 |[],_,e=>by cases e;rfl
 |x::xs,vs,e=>by
  rw[evs]at e;split at e
  case h_2=>cases e
  split at e
  case h_2=>cases e
  cases e
  show bnd (gU x t l) _=_;rw[bf h ‹_›];show bnd (Fp xs t l) _=_;rw[qh h ‹_›];rfl
def Bt(x:Option MO)(F:Fm)(l:List AV):Option (Option Int):=match x with
 |none=>some none
 |some x=>match ev x F l with|some (.i _ n)=>some (some n)|_=>none
theorem wZ{x:Option MO}{F:Fm}{l:List AV}{t:Tr AV}{v:Option Int}(h:Fk t F)(e:Bt x F l=some v):Sr x t l=some v:=by
 cases x with
 |none=>exact e
 |some x=>
  unfold Bt at e;dsimp only at e;split at e
  .cases e
   unfold Sr;dsimp only;rw[bf h ‹_›]
  .cases e
def pG(g:Option AO)(o:Nat)(w:Option Nat):Option AV:=match g with
 |some (.row _ l)=>(match w with
  |none=>l[o]?
  |some k=>if o+k<=l.length then some (.agg ((l.drop o).take k))else none)
 |some (.ro f)=>(match w with
  |none=>(match f o 1 with|some l=>l[0]?|none=>none)
  |some k=>(match f o k with|some l=>(if k<=l.length then some (.agg (l.take k))else none)|none=>none))
 |_=>none
noncomputable def LD (h:AH)(b o:Nat)(w:Option Nat):Option AV:=pG (h.get b) o w
theorem rG(k o:Nat)(l:List AV):mP k (r_ o l)=if k<=l.length - o then some ((l.drop o).take k)else none:=by
 rw[tX];have key:∀(k:Nat)(l:List AV),mP k l=if k<=l.length then some (l.take k)else none:=by
  intro k;induction k with
  |zero=>intro l;simp;rfl
  |succ k ih=>
   intro l;cases l with
   |nil=>rfl
   |cons a l=>
    show bnd (mP k l) (λx=>some (a::x))=_;rw[ih];by_cases h:k<=l.length
    .rw[if_pos h,if_pos (by simp;exact h)];rfl
    .rw[if_neg h,if_neg (by simp;omega)];rfl
 rw[key,List.length_drop]
theorem Vm{h:AH}{b o:Nat}{w:Option Nat}{v:AV}(e:LD h b o w=some v):bnd (iI (h.get b) o (wN w)) (λl=>Nq w l 0)=some v:=by
 unfold LD pG at e;split at e
 .rename_i t l hg
  rw[hg];show Nq w (r_ o l) 0=_;cases w with
  |none=>show hd (r_ o l)=_;rw[nV];exact e
  |some k=>
   show bnd (mP k (r_ o l)) _=_;rw[rG];dsimp only at e;split at e
   .rw[if_pos (by omega)];exact e
   .cases e
 .rename_i f hg
  rw[hg];show bnd (f o (wN w)) (λl=>Nq w l 0)=_;cases w with
  |none=>
   dsimp only at e;show bnd (f o 1) _=_;split at e
   .rename_i l hl
    rw[hl];show hd (r_ 0 l)=_;rw[nV];exact e
   .cases e
  |some k=>
   dsimp only at e;show bnd (f o k) _=_;split at e
   .rename_i l hl
    rw[hl];split at e
    .show bnd (mP k (r_ 0 l)) _=_
     rw[rG,if_pos (by omega),List.drop_zero];exact e
    .cases e
   .cases e
 .cases e
def pI(u:List AV)(o:Nat)(l:List AV):Option (List AV):=if o+u.length<=l.length then some (l.take o++(u++l.drop (o+u.length)))else none
theorem zY{u:List AV}{o:Nat}{l m:List AV}(e:pI u o l=some m):wJ u o l=some m:=by
 have ov:∀(u l:List AV),u.length<=l.length->WI u l=some (u++l.drop u.length):=by
  intro u;induction u with
  |nil=>intro l _;simp;rfl
  |cons a u ih=>
   intro l h;cases l with
   |nil=>simp at h
   |cons b l=>
    show bnd (WI u l) (λx=>some (a::x))=_;rw[ih l (by simpa using h)];simp[bnd]
 have key:∀(o:Nat)(l:List AV),o+u.length<=l.length->wJ u o l=some (l.take o++(u++l.drop (o+u.length))):=by
  intro o;induction o with
  |zero=>intro l h;show WI u l=_;rw[ov u l (by omega)];simp
  |succ o ih=>
   intro l h;cases l with
   |nil=>simp at h
   |cons b l=>
    show bnd (wJ u o l) (λx=>some (b::x))=_;rw[ih l (by simp at h;omega)];simp[bnd,show o+1+u.length=(o+u.length)+1 by omega]
 unfold pI at e;split at e
 .cases e;exact key o l ‹_›
 .cases e
def CW(f:FT)(g:FuncId)(args:List AV)(h:AH)(n:Nat)(Q:AV->AH->Nat->Prop):Prop:=∃v h' n',f g args h n= .ok v h' n'/\Q v h' n'
def RW(r:fH)(Q:AV->AH->Nat->Prop):Prop:=∃v h' n',r= .ok v h' n'/\Q v h' n'
def IA(w:Nat)(v:AV)(k:Int)(K:AV->Prop):Prop:=∃b lo o m c,v= .sl b lo o m c/\0<=k/\k<(m:Nat)/\K (.p b (o+k.toNat*w))
def Sz:AV->Option Nat
 | .sl _ _ _ m _=>some m
 | .k 1=>some 0
 | .es _ _=>some 0
 |_=>none
def colE:List (Nat×Nat×MO)->Fm->List AV->List AV->Option (List AV)
 |[],_,_,c=>some c
 |(o,w,x)::r,F,l,c=>match ev x F l with
  |some a=>(match pO a with
   |some u=>if u.length=w then(match pI u o c with|some c=>colE r F l c|none=>none)else none
   |none=>none)
  |none=>none
theorem ze{F:Fm}{l:List AV}{t:Tr AV}(h:Fk t F):∀{fs:List (Nat×Nat×MO)}{c m:List AV},colE fs F l c=some m->Oq fs t l c=some m
 |[],c,m,e=>e
 |(o,w,x)::r,c,m,e=>by
  rw[colE]at e;split at e
  case h_2=>cases e
  rename_i a ha;split at e
  case h_2=>cases e
  rename_i u hu;split at e
  case isFalse=>cases e
  rename_i hw;split at e
  case h_2=>cases e
  rename_i c' hc;show bnd (gU x t l) _=_;rw[bf h ha];show bnd (pO a) _=_;rw[hu];show bc (Nat.beq (nP u) w) (bnd (wJ u o c) _) none=_;rw[eT,hw,Nat.beq_refl,bD,zY hc];exact ze h e
def xZ(c a b:Option AV):Option AV:=match c with
 |some (.b true)=>a
 |some (.b false)=>b
 |_=>none
noncomputable def Vn (h:AH)(a:Option AV)(w:Option Nat):Option AV:=match a with
 |some (.p x k)=>pG (h.get x) k w
 |_=>none
def Oz(a:Option AV):Option AV:=match a with
 |some (.b v)=>some (.b (!v))
 |_=>none
def faO(o:Nat)(a:Option AV):Option AV:=match a with
 |some (.p b k)=>some (.p b (k+o))
 |_=>none
noncomputable def OA (w:Option Nat)(o:Nat)(a:Option AV):Option AV:=match a with
 |some (.agg c)=>Nq w c o
 |_=>none
def OC(k:Nat)(a:Option AV):Option AV:=match a with
 |some (.bJ c)=>c[k]?
 |_=>none
def lnS(a:Option AV):Option AV:=match a with
 |some (.s c)=>some (.i .i64 (c.length:Nat))
 |_=>none
def GA(a:Option AV):Option AV:=match a with
 |some v=>(match Sz v with|some m=>some (.i .i64 (m:Nat))|none=>none)
 |none=>none
def Lv(w:Nat)(a:Option AV):Option (List AV):=match a with
 |some v=>(match pO v with|some c=>if c.length=w then some c else none|none=>none)
 |none=>none
def fQ(g:Option AO)(o:Nat)(u:Option (List AV)):Option AO:=match g,u with
 |some (.row t l),some u=>(match pI u o l with|some m=>some (.row t m)|none=>none)
 |_,_=>none
noncomputable def ngO (a:Option AV):Option AV:=match a with
 |some (.i k v)=>some (.i k (gN k (0 - v)))
 |_=>none
noncomputable def cvO (k:IntKind)(a:Option AV):Option AV:=match a with
 |some (.i _ v)=>some (.i k (gN k v))
 |_=>none
def csO(a:Option AV):Option AV:=match a with
 |some (.s c)=>some (.s c)
 |_=>none
noncomputable def Vo (w:Nat)(x:Option AV)(lo hi:Option (Option Int)):Option AV:=match x,lo,hi with
 |some (.sl b m o k c),some lo,some hi=>GV w b m o k c lo hi
 |_,_,_=>none
noncomputable def ssO (x:Option AV)(lo hi:Option (Option Int)):Option AV:=match x,lo,hi with
 |some (.s c),some lo,some hi=>pU c lo hi
 |_,_,_=>none
noncomputable def lmO (h:AH)(x:Option AV):Option AV:=match x with
 |some (.m r)=>(match K4 (h.get r)with|some es=>some (.i .i64 (es.length:Nat))|none=>none)
 |_=>none
noncomputable def Xj (P:Program)(kt:TypeId)(z:Option AV)(ok:Bool)(h:AH)(x k:Option AV):Option AV:=match x,k with
 |some x,some k=>lookO (su P 30 kt) (yX P 30 kt) z ok h x k
 |_,_=>none
noncomputable def Xm (h:AH)(x:Option AV):Option AV:=match x with
 |some (.k 1)=>some (.s [])
 |some (.sl b m o k c)=>(match jG h 1 k (.sl b m o k c)with|some u=>(match pR u with|some b=>some (.s b)|none=>none)|none=>none)
 |_=>none
def HY(a:Option AV):Option AV:=match a with
 |some (.p b o)=>some (.p b o)
 |some (.f g c)=>some (.f g c)
 |some (.y q)=>some (.y q)
 |_=>none
noncomputable def OG (w m:Nat)(a k:Option AV):Option AV:=match a,k with
 |some (.p b o),some (.i _ k)=>GJ k m λk=>some (.p b (Nat.add o (Nat.mul k w)))
 |_,_=>none
noncomputable def OH (a k:Option AV):Option AV:=match a,k with
 |some (.s c),some (.i _ k)=>GJ k 1048576 λk=>bnd (hd (r_ k c)) λb=>some (.i .u8 (Int.ofNat b.toNat))
 |_,_=>none
noncomputable def Xn (lw:Option Nat)(w m:Nat)(a k:Option AV):Option AV:=match a,k with
 |some (.agg c),some (.i _ k)=>GJ k m λk=>Nq lw c (Nat.mul k w)
 |_,_=>none
noncomputable def Lx (w m:Nat)(x:Option AV)(lo hi:Option (Option Int)):Option AV:=match x,lo,hi with
 |some (.p b o),some lo,some hi=>GX w m b o lo hi
 |_,_,_=>none
noncomputable def mxO (a b:Option AV):Option AV:=match a,b with
 |some (.i k a),some (.i _ b)=>some (.i k (bc (mo b a) a b))
 |_,_=>none
noncomputable def mnO (a b:Option AV):Option AV:=match a,b with
 |some (.i k a),some (.i _ b)=>some (.i k (bc (mo a b) a b))
 |_,_=>none
section
variable (P:Program) (Y:YT)
noncomputable def b2O (op:BinOp)(ty:TypeId)(a b:Option AV):Option AV:=match a,b with
 |some a,some b=>(eB P ty op).run a b
 |_,_=>none
noncomputable def pv (i:MI)(h:AH)(F:Fm)(l:List AV):Option AV:=match i with
 | .mv x=>ev x F l
 | .pick c a b=>xZ (ev c F l) (ev a F l) (ev b F l)
 | .Ki z fs=>(colE fs F l z).map .agg
 | .ld w a=>Vn h (ev a F l) w
 | .bin op ty x y=>b2O P op ty (ev x F l) (ev y F l)
 | .not x=>Oz (ev x F l)
 | .fa o x=>faO o (ev x F l)
 | .Vh w o x=>OA w o (ev x F l)
 | .Ve ty x=>(ev x F l).map (.wI ty)
 | .Hw g cs=>(evs cs F l).map (.f g)
 | .ext x k=>OC k (ev x F l)
 | .Fh x=>lnS (ev x F l)
 | .ig x=>GA (ev x F l)
 | .neg x=>ngO (ev x F l)
 | .Ol k x=>cvO k (ev x F l)
 | .Vd x=>csO (ev x F l)
 | .Vb x=>HY (ev x F l)
 | .Vf w x lo hi=>Vo w (ev x F l) (Bt lo F l) (Bt hi F l)
 | .RG x lo hi=>ssO (ev x F l) (Bt lo F l) (Bt hi F l)
 | .Fj x=>lmO h (ev x F l)
 | .look kt z x k ok=>Xj P kt z ok h (ev x F l) (ev k F l)
 | .Np x=>Xm h (ev x F l)
 | .Sq w m x k=>OG w m (ev x F l) (ev k F l)
 | .Br x k=>OH (ev x F l) (ev k F l)
 | .Xd lw w m x k=>Xn lw w m (ev x F l) (ev k F l)
 | .Vg w m x lo hi=>Lx w m (ev x F l) (Bt lo F l) (Bt hi F l)
 | .Hy m x=>(ev x F l).map λ_=>.i .i64 (m:Nat)
 | .mx x y=>mxO (ev x F l) (ev y F l)
 | .mn x y=>mnO (ev x F l) (ev y F l)
 |_=>none
theorem Vp{i:MI}{f:FT}{h:AH}{n:Nat}{F:Fm}{l:List AV}{t:Tr AV}{v:AV}(e:pv P i h F l=some v)(hF:Fk t F):i.run P Y f t l h n= .ok v h n:=by
 unfold pv at e;split at e
 .show ok1 (gU _ t l) h n=_;rw[bf hF e];rfl
 .rename_i c a b
  unfold xZ at e;split at e
  .rename_i hc;simp only[MI.run,bf hF hc,bf hF e];rfl
  .rename_i hc;simp only[MI.run,bf hF hc,bf hF e];rfl
  .cases e
 .obtain⟨c,h1,rfl⟩:=Option.map_eq_some_iff.1 e
  simp only[MI.run,ze hF h1,aP]
 .unfold Vn at e
  split at e
  .rename_i hc
   simp only[MI.run,bf hF hc,Vm (show LD h _ _ _=some v from e)];rfl
  .cases e
 .unfold b2O at e
  split at e
  .rename_i h1 h2;simp only[MI.run,bf hF h1,bf hF h2,aP,e];rfl
  .cases e
 .unfold Oz at e
  split at e
  .rename_i h1;cases e;simp only[MI.run,bf hF h1,aP,jL]
  .cases e
 .unfold faO at e
  split at e
  .rename_i h1;cases e;simp only[MI.run,bf hF h1];rfl
  .cases e
 .unfold OA at e
  split at e
  .rename_i h1;simp only[MI.run,bf hF h1,e];rfl
  .cases e
 .obtain⟨c,h1,rfl⟩:=Option.map_eq_some_iff.1 e
  simp only[MI.run,bf hF h1,aP]
 .obtain⟨c,h1,rfl⟩:=Option.map_eq_some_iff.1 e
  simp only[MI.run,qh hF h1,aP]
 .unfold OC at e
  split at e
  .rename_i h1;simp only[MI.run,bf hF h1,nV,e];rfl
  .cases e
 .unfold lnS at e
  split at e
  .rename_i h1;cases e;simp only[MI.run,bf hF h1,eT];rfl
  .cases e
 .unfold GA at e
  split at e
  .rename_i w h1
   split at e
   .rename_i m hm
    cases e
    simp only[MI.run,bf hF h1];unfold Sz at hm;split at hm<;>cases hm<;>rfl
   .cases e
  .cases e
 .unfold ngO at e
  split at e
  .rename_i h1;cases e;simp only[MI.run,bf hF h1,aP];rfl
  .cases e
 .unfold cvO at e
  split at e
  .rename_i h1;cases e;simp only[MI.run,bf hF h1]
  .cases e
 .unfold csO at e
  split at e
  .rename_i h1;cases e;simp only[MI.run,bf hF h1]
  .cases e
 .unfold HY at e
  split at e
  .rename_i h1;cases e;simp only[MI.run,bf hF h1,aP]
  .rename_i h1;cases e;simp only[MI.run,bf hF h1,aP]
  .rename_i h1;cases e;simp only[MI.run,bf hF h1,aP]
  .cases e
 .unfold Vo at e
  split at e
  .rename_i h1 h2 h3;simp only[MI.run,bf hF h1,wZ hF h2,wZ hF h3,aP,e];rfl
  .cases e
 .unfold ssO at e
  split at e
  .rename_i h1 h2 h3;simp only[MI.run,bf hF h1,wZ hF h2,wZ hF h3,aP,e];rfl
  .cases e
 .unfold lmO at e
  split at e
  .rename_i h1
   split at e
   .rename_i h2;cases e;simp only[MI.run,bf hF h1,h2,aP,eT];rfl
   .cases e
  .cases e
 .unfold Xj at e
  split at e
  .rename_i h1 h2;simp only[MI.run,bf hF h1,bf hF h2,aP,e];rfl
  .cases e
 .unfold Xm at e
  split at e
  .rename_i h1;cases e;simp only[MI.run,bf hF h1]
  .rename_i h1
   split at e
   .rename_i h2
    split at e
    .rename_i h3;cases e;simp only[MI.run,bf hF h1,h2,h3,aP]
    .cases e
   .cases e
  .cases e
 .unfold OG at e
  split at e
  .rename_i h1 h2;simp only[MI.run,bf hF h1,bf hF h2,e];rfl
  .cases e
 .unfold OH at e
  split at e
  .rename_i h1 h2;simp only[MI.run,bf hF h1,bf hF h2,e];rfl
  .cases e
 .unfold Xn at e
  split at e
  .rename_i h1 h2;simp only[MI.run,bf hF h1,bf hF h2,e];rfl
  .cases e
 .unfold Lx at e
  split at e
  .rename_i h1 h2 h3;simp only[MI.run,bf hF h1,wZ hF h2,wZ hF h3,aP,e];rfl
  .cases e
 .obtain⟨c,h1,rfl⟩:=Option.map_eq_some_iff.1 e
  simp only[MI.run,bf hF h1,aP];rfl
 .unfold mxO at e
  split at e
  .rename_i h1 h2;cases e;simp only[MI.run,bf hF h1,bf hF h2]
  .cases e
 .unfold mnO at e
  split at e
  .rename_i h1 h2;cases e;simp only[MI.run,bf hF h1,bf hF h2]
  .cases e
 .cases e
theorem bG{a b:Prop}(h:a=b):a=b:=h
inductive It where
 |c (m:MC)
 |r (r:List MR) (l:List AV)
 |b (id:Nat)
abbrev PQ:=Ex->AH->Nat->Fm->Prop
abbrev SK:=List It->Ex->FT->AH->Nat->Fm->PQ->Prop
def Xp(x:Ex)(id:Nat):Ex:=match x with| .exit j=>if j=id then .bX else .exit j|x=>x
noncomputable def oq (g:FuncId):List It->Ex->FT->AH->Nat->Tr AV->fJ
 |[],x,_,h,n,t=>.ok x h n t
 | .b id::s,x,f,h,n,t=>oq g s (Xp x id) f h n t
 | .c m::s,x,f,h,n,t=>match x with
  | .bX=>jh (m.run P Y g f h n t) λx h n t=>oq g s x f h n t
  |x=>oq g s x f h n t
 | .r r l::s,x,f,h,n,t=>match x with
  | .bX=>jh (qg P Y r f h n t l) λx h n t=>oq g s x f h n t
  |x=>oq g s x f h n t
def SM(g:FuncId)(s:List It)(x:Ex)(f:FT)(h:AH)(n:Nat)(F:Fm)(Q:PQ):Prop:=∀t,Fk t F->∃x' h' n' t' F',oq P Y g s x f h n t= .ok x' h' n' t'/\Fk t' F'/\Q x' h' n' F'
def mG(S:SK)(d:MD)(v:AV)(r:List MR)(l:List AV)(s:List It)(f:FT)(h:AH)(n:Nat)(F:Fm)(Q:PQ):Prop:=match d with
 | .n=>S (.r r l::s) .bX f h n F Q
 | .k d=>S (.r r l::s) .bX f h n (pt F d v) Q
 | .l=>S (.r r (v::l)::s) .bX f h n F Q
def kS(S:SK)(o:Option AV)(d:MD)(r:List MR)(l:List AV)(s:List It)(f:FT)(h:AH)(n:Nat)(F:Fm)(Q:PQ):Prop:=match o with
 |some v=>mG S d v r l s f h n F Q
 |none=>False
noncomputable def kC (S:SK)(o:Option (List AV))(e:TypeId)(v:AV)(d:MD)(r:List MR)(l:List AV)(s:List It)(f:FT)(h:AH)(n:Nat)(F:Fm)(Q:PQ):Prop:=match o with
 |some c=>mG S d v r l s f (h.set n (.row e c)) (n+1) F Q
 |none=>False
noncomputable def kH (S:SK)(b:Nat)(o:Option AO)(d:MD)(r:List MR)(l:List AV)(s:List It)(f:FT)(h:AH)(n:Nat)(F:Fm)(Q:PQ):Prop:=match o with
 |some a=>mG S d (.bJ []) r l s f (h.set b a) n F Q
 |none=>False
noncomputable def kT (S:SK)(a:Option AV)(u:Option (List AV))(d:MD)(r:List MR)(l:List AV)(s:List It)(f:FT)(h:AH)(n:Nat)(F:Fm)(Q:PQ):Prop:=match a with
 |some (.p b o)=>kH S b (fQ (h.get b) o u) d r l s f h n F Q
 |_=>False
def Vq(S:SK)(w:Nat)(a k:Option AV)(d:MD)(r:List MR)(l:List AV)(s:List It)(f:FT)(h:AH)(n:Nat)(F:Fm)(Q:PQ):Prop:=match a,k with
 |some a,some (.i _ k)=>IA w a k λp=>mG S d p r l s f h n F Q
 |_,_=>False
def kF(S:SK)(g:Option AV)(c:Option (List AV))(d:MD)(r:List MR)(l:List AV)(s:List It)(f:FT)(h:AH)(n:Nat)(F:Fm)(Q:PQ):Prop:=match g,c with
 |some (.f g cap),some c=>CW f g (c++cap) h n λv h n=>mG S d v r l s f h n F Q
 |some (.y q),some c=>RW (Y q c f h n) λv h n=>mG S d v r l s f h n F Q
 |_,_=>False
def kG(S:SK)(b:Option Bool)(i:MI)(d:MD)(r:List MR)(l:List AV)(s:List It)(f:FT)(h:AH)(n:Nat)(F:Fm)(Q:PQ)(T:SK->MI->MD->List MR->List AV->List It->FT->AH->Nat->Fm->PQ->Prop):Prop:=match b with
 |some true=>T S i d r l s f h n F Q
 |some false=>mG S d (.bJ []) r l s f h n F Q
 |none=>False
def kR(S:SK)(o:Option fH)(d:MD)(r:List MR)(l:List AV)(s:List It)(f:FT)(F:Fm)(Q:PQ):Prop:=match o with
 |some (.ok v h n)=>mG S d v r l s f h n F Q
 |_=>False
noncomputable def SA (e:TypeId)(w:Nat)(h:AH)(n:Nat)(x y:Option AV):Option fH:=match x,y with
 |some x,some y=>some ((jS e w).run h n x y)
 |_,_=>none
noncomputable def Xt (w:Nat)(h:AH)(n:Nat)(x y:Option AV):Option fH:=match x,y with
 |some x,some y=>some (sV w h n x y)
 |_,_=>none
noncomputable def Xu (kt:TypeId)(h:AH)(n:Nat)(m k x:Option AV):Option fH:=match m,k,x with
 |some m,some k,some x=>some (CU (su P 30 kt) (yX P 30 kt) h n m k x)
 |_,_,_=>none
noncomputable def msO (e:TypeId)(z:List AV)(h:AH)(n:Nat)(x y:Option AV):Option fH:=match x,y with
 |some (.i _ (.ofNat a)),some (.i _ (.ofNat c))=>some (bc (Nat.ble a c) (bc (Nat.ble c 1048576) (mk h n (.sl n 0 0 a (some c)) (.row e (rep c z))) .bad) .bad)
 |_,_=>none
noncomputable def jP (S:SK)(i:MI)(d:MD)(r:List MR)(l:List AV)(s:List It)(f:FT)(h:AH)(n:Nat)(F:Fm)(Q:PQ):Prop:=match i with
 | .al e z=>kC S (some z) e (.p n 0) d r l s f h n F Q
 | .box e w x=>kC S (Lv w (ev x F l)) e (.p n 0) d r l s f h n F Q
 | .Nn e len z fs=>kC S (colE fs F l z) e (.sl n 0 0 len (some len)) d r l s f h n F Q
 | .st w a x=>kT S (ev a F l) (Lv w (ev x F l)) d r l s f h n F Q
 | .Om=>mG S d (.m n) r l s f (h.set n (.mp [] 0)) (n+1) F Q
 | .je w x ix=>Vq S w (ev x F l) (ev ix F l) d r l s f h n F Q
 | .call g cs=>kF Y S (ev g F l) (evs cs F l) d r l s f h n F Q
 | .app e w x y=>kR S (SA e w h n (ev x F l) (ev y F l)) d r l s f F Q
 | .Vi w x y=>kR S (Xt w h n (ev x F l) (ev y F l)) d r l s f F Q
 | .upd kt m k x=>kR S (Xu P kt h n (ev m F l) (ev k F l) (ev x F l)) d r l s f F Q
 | .Lr e z x y=>kR S (msO e z h n (ev x F l) (ev y F l)) d r l s f F Q
 | .mv _| .pick _ _ _| .Ki _ _| .ld _ _| .bin _ _ _ _| .not _| .fa _ _| .Vh _ _ _| .Ve _ _| .Hw _ _| .ext _ _| .Fh _| .ig _| .neg _| .Ol _ _| .Vd _| .Vb _| .Vf _ _ _ _| .RG _ _ _| .Fj _| .look _ _ _ _ _| .Np _| .Sq _ _ _ _| .Br _ _| .Xd _ _ _ _ _| .Vg _ _ _ _ _| .Hy _ _| .mx _ _| .mn _ _=>kS S (pv P i h F l) d r l s f h n F Q
 |i=>∀t,Fk t F->RW (i.run P Y f t l h n) λv h n=>mG S d v r l s f h n F Q
def gO(g:Option (MO×Bool))(F:Fm)(l:List AV):Option Bool:=match g with
 |none=>some true
 |some (x,w)=>match ev x F l with|some (.b x)=>some (w==x)|some (.bJ _)=>some false|_=>none
def kB(S:SK)(o:Option AV)(a b:MC)(s:List It)(f:FT)(h:AH)(n:Nat)(F:Fm)(Q:PQ):Prop:=match o with
 |some (.b true)=>S (.c a::s) .bX f h n F Q
 |some (.b false)=>S (.c b::s) .bX f h n F Q
 |_=>False
noncomputable def sM (g:FuncId)(S:SK)(m:MC)(s:List It)(f:FT)(h:AH)(n:Nat)(F:Fm)(Q:PQ):Prop:=match m with
 | .skip=>S s .bX f h n F Q
 | .reg r=>S (.r r []::s) .bX f h n F Q
 | .seq a b=>S (.c a:: .c b::s) .bX f h n F Q
 | .cond c a b=>kB S (ev c F []) a b s f h n F Q
 | .blk id a=>S (.c a:: .b id::s) .bX f h n F Q
 | .exit id=>S s (.exit id) f h n F Q
 | .ret=>S s .ret f h n F Q
 |m=>SM P Y g (.c m::s) .bX f h n F Q
noncomputable def sK (g:FuncId):Nat->SK
 |0=>λ_ _ _ _ _ _ _=>False
 |k+1=>λs x f h n F Q=>match s with
  |[]=>Q x h n F
  | .b id::s=>sK g k s (Xp x id) f h n F Q
  | .c m::s=>(match x with
   | .bX=>sM P Y g (sK g k) m s f h n F Q
   |x=>sK g k s x f h n F Q)
  | .r [] _::s=>sK g k s x f h n F Q
  | .r (o::r) l::s=>(match x with
   | .bX=>kG (sK g k) (gO o.g F l) o.i o.d r l s f h n F Q (jP P Y)
   |x=>sK g k s x f h n F Q)
theorem tC{g:Option (MO×Bool)}{F:Fm}{l:List AV}{t:Tr AV}{b:Bool}(h:Fk t F)(e:gO g F l=some b):DI g t l=some b:=by
 cases g with
 |none=>exact e
 |some g=>
  obtain⟨x,w⟩:=g;unfold gO at e;dsimp only at e;split at e
  .cases e
   unfold DI;dsimp only;rw[bf h ‹_›];dsimp only;rename_i x' _;cases w<;>cases x'<;>rfl
  .cases e
   unfold DI;dsimp only;rw[bf h ‹_›]
  .cases e
theorem Kl{w:Nat}{a:Option AV}{c:List AV}(e:Lv w a=some c):∃v,a=some v/\pO v=some c/\c.length=w:=by
 unfold Lv at e;split at e
 case h_2=>cases e
 split at e
 case h_2=>cases e
 split at e
 case isFalse=>cases e
 cases e
 exact⟨_,rfl,‹_›,‹_›⟩
section
variable {P Y} {g:FuncId} {f:FT} {s:List It} {Q:PQ} {S:SK}
def Tru(P:Program)(Y:YT)(g:FuncId)(S:SK):Prop:=∀s x f h n F Q,S s x f h n F Q->SM P Y g s x f h n F Q
theorem OI(hS:Tru P Y g S){d:MD}{v:AV}{r:List MR}{l:List AV}{h:AH}{n:Nat}{F:Fm}{t:Tr AV}(e:mG S d v r l s f h n F Q)(hF:Fk t F):
 ∃x' h' n' t' F',jh (Vk d t l v λt l=>qg P Y r f h n t l) (λx h n t=>oq P Y g s x f h n t)= .ok x' h' n' t'/\Fk t' F'/\Q x' h' n' F':=by
 cases d with
 |n=>exact hS _ _ _ _ _ _ _ e t hF
 |k d=>exact hS _ _ _ _ _ _ _ e _ (hF.put d v)
 |l=>exact hS _ _ _ _ _ _ _ e t hF
theorem Xx(hS:Tru P Y g S){i:MI}{d:MD}{r:List MR}{l:List AV}{h:AH}{n:Nat}{F:Fm}{t:Tr AV}(e:jP P Y S i d r l s f h n F Q)(hF:Fk t F):
 ∃v h' n',i.run P Y f t l h n= .ok v h' n'/\mG S d v r l s f h' n' F Q:=by
 have pure:kS S (pv P i h F l) d r l s f h n F Q->∃v h' n',i.run P Y f t l h n= .ok v h' n'/\mG S d v r l s f h' n' F Q:=by
  intro e;unfold kS at e;split at e
  .exact⟨_,_,_,Vp P Y ‹_› hF,e⟩
  .exact e.elim
 unfold jP at e;split at e<;>try exact pure e
 .exact⟨_,_,_,rfl,e⟩
 .unfold kC at e
  split at e
  .obtain⟨v,h1,h2,h3⟩:=Kl ‹_›
   refine⟨_,_,_,?_,e⟩;simp only[MI.run,bf hF h1,aP,h2,eT,h3,Nat.beq_refl,bD];rfl
  .exact e.elim
 .unfold kC at e
  split at e
  .refine⟨_,_,_,?_,e⟩;simp only[MI.run,ze hF ‹_›,aP];rfl
  .exact e.elim
 .unfold kT at e
  split at e
  case h_2=>exact e.elim
  rename_i b o hb;unfold kH at e;split at e
  case h_2=>exact e.elim
  rename_i a ha;refine⟨_,_,_,?_,e⟩;unfold fQ at ha;split at ha
  case h_2=>cases ha
  rename_i q1 q2 ty lo u h5 h6;split at ha
  case h_2=>cases ha
  cases ha
  obtain⟨v,h1,h2,h3⟩:=Kl h6;simp only[MI.run,bf hF hb,bf hF h1,aP];unfold zH;dsimp only;rw[h5];dsimp only;rw[h2];show bc (Nat.beq (nP u) _) (aP (wJ u o lo) _) .bad=_;rw[eT,h3,Nat.beq_refl,bD,zY ‹_›];rfl
 .exact⟨_,_,_,rfl,e⟩
 .unfold Vq at e
  split at e
  case h_2=>exact e.elim
  rename_i hx hk;obtain⟨b,lo,o,m,cp,rfl,e1,e2,e3⟩:=e;obtain⟨k',rfl⟩:=Int.eq_ofNat_of_zero_le e1;refine⟨_,_,_,?_,e3⟩;simp only[MI.run,bf hF hx,bf hF hk];show ok1 (bc (Nat.ble (Nat.succ k') m) _ none) h n=_;rw[Nat.ble_eq_true_of_le (show k'+1<=m by omega),bD];rfl
 .unfold kF at e
  split at e
  .rename_i h1 h2
   obtain⟨v,h',n',e1,e2⟩:=e;refine⟨v,h',n',?_,e2⟩;simp only[MI.run,bf hF h1,qh hF h2,aP,iZ,e1]
  .rename_i h1 h2
   obtain⟨v,h',n',e1,e2⟩:=e;refine⟨v,h',n',?_,e2⟩;simp only[MI.run,bf hF h1,qh hF h2,aP,e1]
  .exact e.elim
 .unfold kR SA at e
  split at e
  case h_2=>exact e.elim
  rename_i ho;split at ho
  case h_2=>cases ho
  rename_i h1 h2;refine⟨_,_,_,?_,e⟩;simp only[MI.run,bf hF h1,bf hF h2,aP];exact Option.some.inj ho
 .unfold kR Xt at e
  split at e
  case h_2=>exact e.elim
  rename_i ho;split at ho
  case h_2=>cases ho
  rename_i h1 h2;refine⟨_,_,_,?_,e⟩;simp only[MI.run,bf hF h1,bf hF h2,aP];exact Option.some.inj ho
 .unfold kR Xu at e
  split at e
  case h_2=>exact e.elim
  rename_i ho;split at ho
  case h_2=>cases ho
  rename_i h1 h2 h3;refine⟨_,_,_,?_,e⟩;simp only[MI.run,bf hF h1,bf hF h2,bf hF h3,aP];exact Option.some.inj ho
 .unfold kR msO at e
  split at e
  case h_2=>exact e.elim
  rename_i ho;split at ho
  case h_2=>cases ho
  rename_i h1 h2;refine⟨_,_,_,?_,e⟩;simp only[MI.run,bf hF h1,bf hF h2];exact Option.some.inj ho
 .exact e t hF
theorem aa0(hS:Tru P Y g S){m:MC}{h:AH}{n:Nat}{F:Fm}(e:sM P Y g S m s f h n F Q):SM P Y g (.c m::s) .bX f h n F Q:=by
 intro t hF;have ass:∀(a:fJ)(p q:Ex->AH->Nat->Tr AV->fJ),jh (jh a p) q=jh a λx h n t=>jh (p x h n t) q:=λa p q=>by cases a<;>rfl
 cases m with
 |skip=>exact hS _ _ _ _ _ _ _ (show S s .bX f h n F Q from e) t hF
 |reg r=>exact hS _ _ _ _ _ _ _ (show S (.r r []::s) .bX f h n F Q from e) t hF
 |seq a b=>
  obtain⟨x,h1,n1,t1,F1,e1,e2⟩:=hS _ _ _ _ _ _ _ (show S (.c a:: .c b::s) .bX f h n F Q from e) t hF;refine⟨x,h1,n1,t1,F1,?_,e2⟩;rw[<-e1];show jh (jh (a.run P Y g f h n t) _) _=jh (a.run P Y g f h n t) _;rw[ass];congr 1;funext x h n t;cases x<;>rfl
 |cond c a b=>
  have e:kB S (ev c F []) a b s f h n F Q:=e;unfold kB at e;split at e
  .rename_i hc
   obtain⟨x,h1,n1,t1,F1,e1,e2⟩:=hS _ _ _ _ _ _ _ e t hF;refine⟨x,h1,n1,t1,F1,?_,e2⟩;rw[<-e1];show jh (match gU c t []with|some (.b x)=>bc x (a.run P Y g f h n t) (b.run P Y g f h n t)|_=>.bad) _=_;rw[bf hF hc];rfl
  .rename_i hc
   obtain⟨x,h1,n1,t1,F1,e1,e2⟩:=hS _ _ _ _ _ _ _ e t hF;refine⟨x,h1,n1,t1,F1,?_,e2⟩;rw[<-e1];show jh (match gU c t []with|some (.b x)=>bc x (a.run P Y g f h n t) (b.run P Y g f h n t)|_=>.bad) _=_;rw[bf hF hc];rfl
  .exact e.elim
 |blk id a=>
  obtain⟨x,h1,n1,t1,F1,e1,e2⟩:=hS _ _ _ _ _ _ _ (show S (.c a:: .b id::s) .bX f h n F Q from e) t hF;refine⟨x,h1,n1,t1,F1,?_,e2⟩;rw[<-e1];show jh (jh (a.run P Y g f h n t) _) _=jh (a.run P Y g f h n t) _;rw[ass];congr 1;funext x h n t;cases x with
  |exit j=>
   show jh (bc (Nat.beq j id) (.ok .bX h n t) (.ok (.exit j) h n t)) _=oq P Y g s (if j=id then .bX else .exit j) f h n t;by_cases hj:j=id
   .rw[if_pos hj];subst hj;rw[Nat.beq_refl];rfl
   .rw[if_neg hj]
    have:Nat.beq j id=false:=by
     cases e:Nat.beq j id with
     |false=>rfl
     |true=>exact absurd (beq_eq e) hj
    rw[this];rfl
  |bX=>rfl
  |ret=>rfl
  |goto j=>rfl
 |exit id=>exact hS _ _ _ _ _ _ _ (show S s (.exit id) f h n F Q from e) t hF
 |ret=>exact hS _ _ _ _ _ _ _ (show S s .ret f h n F Q from e) t hF
 |loop a=>exact(show SM P Y g (.c (.loop a)::s) .bX f h n F Q from e) t hF
 |zW K r c w=>exact(show SM P Y g (.c (.zW K r c w)::s) .bX f h n F Q from e) t hF
 |rng a b c d=>exact(show SM P Y g (.c (.rng a b c d)::s) .bX f h n F Q from e) t hF
theorem qj:∀(k:Nat),Tru P Y g (sK P Y g k)
 |0=>λs x f h n F Q e=>e.elim
 |k+1=>λs x f h n F Q e=>by
  have ih:=qj k;cases s with
  |nil=>exactλt hF=>⟨_,_,_,_,F,rfl,hF,e⟩
  |cons i s=>
   cases i with
   |b id=>exactλt hF=>ih s (Xp x id) f h n F Q e t hF
   |c m=>
    cases x with
    |bX=>exact aa0 ih e
    |exit j=>exactλt hF=>ih s (.exit j) f h n F Q e t hF
    |goto j=>exactλt hF=>ih s (.goto j) f h n F Q e t hF
    |ret=>exactλt hF=>ih s .ret f h n F Q e t hF
   |r r l=>
    cases r with
    |nil=>
     have:=ih _ _ _ _ _ _ _ (show sK P Y g k s x f h n F Q from e);cases x<;>exact this
    |cons o r=>
     cases x with
     |bX=>
      intro t hF;have e:kG (sK P Y g k) (gO o.g F l) o.i o.d r l s f h n F Q (jP P Y):=e;unfold kG at e;show∃x' h' n' t' F',jh (qg P Y (o::r) f h n t l) (λx h n t=>oq P Y g s x f h n t)= .ok x' h' n' t'/\_;rw[qg];split at e
      .rename_i hg
       obtain⟨v,h',n',e1,e2⟩:=Xx ih e hF;rw[tC hF hg];dsimp only;rw[e1];exact OI ih e2 hF
      .rename_i hg
       rw[tC hF hg];exact OI ih e hF
      .exact e.elim
     |exit j=>exactλt hF=>ih s (.exit j) f h n F Q e t hF
     |goto j=>exactλt hF=>ih s (.goto j) f h n F Q e t hF
     |ret=>exactλt hF=>ih s .ret f h n F Q e t hF
end
end
end
section
noncomputable section
inductive MS where
 |t (k:Nat)
 |c (k:Nat) (w:Option Nat)
def HZ(r:MS)(t:Tr AV)(h:AH):Option AV:=match r with
 | .t k=>(gp 20 k).run t
 | .c k w=>(match(gp 20 k).run t with|some (.p x o)=>bnd (iI (h.get x) o (wN w)) λl=>Nq w l 0|_=>none)
def ZQ:List MS->Tr AV->AH->Option (List AV)
 |[],_,_=>some []
 |r::l,t,h=>bnd (HZ r t h) λa=>bnd (ZQ l t h) λb=>some (a::b)
def H6(r:MS)(F:Fm)(h:AH):Option AV:=match r with
 | .t k=>lk F k
 | .c k w=>Vn h (lk F k) w
def rsE:List MS->Fm->AH->Option (List AV)
 |[],_,_=>some []
 |r::l,F,h=>match H6 r F h with
  |some a=>(match rsE l F h with|some b=>some (a::b)|none=>none)
  |none=>none
def rsV(l:List AV):AV:=match l with|[v]=>v|l=>.bJ l
section
variable (P:Program)
def ZR(s:Sl):List ResultVar->Option (List MS)
 |[]=>some []
 | .tmp k::l=>bc (s.S k) (bnd (ZR s l) λb=>some (.t k::b)) none
 | .cell a ty::l=>bc (s.S a) (bnd (Sv P ty) λw=>bnd (ZR s l) λb=>some (.c a w::b)) none
def ZT(s:Sl):Nat->Nat->List Bool
 |0,_=>[]
 |m+1,k=>s.S k::ZT s m (k+1)
def yc(sl:FuncId->Sl)(g:FuncId):Option (List Bool×MC×List MS):=bnd (hd (r_ g P.funcs.toList)) λfn=>bnd fn.body λc=>
 bc (Nat.ble (sl g).N fn.ntmps) (bc (Nat.ble (fn.params.size+fn.nfree) (sl g).N) (bnd (zX P (sl g) c) λm=>bnd (ZR P (sl g) fn.results.toList) λrs=>some (ZT (sl g) (fn.params.size+fn.nfree) 0,m,rs)) none) none
end
def yR:Nat->List Bool->List AV->Fm
 |k,true::bs,v::l=>(k,v)::yR (k+1) bs l
 |k,false::bs,_::l=>yR (k+1) bs l
 |_,_,_=>[]
end
section
variable {P:Program} {sl:FuncId->Sl} {s:Sl} {Y:YT} {t:Tr AV} {h:AH} {n:Nat} {f:FT} {F:Fm}
theorem H7:∀{rs:List ResultVar}{ms:List MS},ZR P s rs=some ms->(C9 P s rs).run t h=ZQ ms t h
 |[],ms,e=>by cases e;rfl
 | .tmp k::l,ms,e=>by
  obtain⟨e0,e⟩:=bL (show bc (s.S k) (bnd (ZR P s l) λb=>some (MS.t k::b)) none=some ms from e);obtain⟨b,e1,e⟩:=aB e;cases e
  show bnd ((Nj s [] k).run t []) (λa=>bnd ((C9 P s l).run t h) λb=>some (a::b))=bnd (HZ (.t k) t h) λa=>bnd (ZQ b t h) λb=>some (a::b);rw[H7 e1];unfold Nj;rw[e0];rfl
 | .cell a ty::l,ms,e=>by
  obtain⟨e0,e⟩:=bL (show bc (s.S a) (bnd (Sv P ty) λw=>bnd (ZR P s l) λb=>some (MS.c a w::b)) none=some ms from e);obtain⟨w,e1,e⟩:=aB e;obtain⟨b,e2,e⟩:=aB e;cases e
  show(match(Nj s [] a).run t []with|some (.p x o)=>bnd (zF P ty h x o) λa=>bnd ((C9 P s l).run t h) λb=>some (a::b)|_=>none)=bnd (HZ (.c a w) t h) λa=>bnd (ZQ b t h) λb=>some (a::b);rw[H7 e2];unfold Nj;rw[e0,bD];unfold HZ;dsimp only;unfold zF;simp only[DF e1,Vj e1];split<;>rfl
theorem SB{r:MS}{v:AV}(hF:Fk t F)(e:H6 r F h=some v):HZ r t h=some v:=by
 cases r with
 |t k=>show(gp 20 k).run t=_;rw[mh];exact hF k v e
 |c k w=>
  unfold H6 Vn at e;dsimp only at e;split at e
  case h_2=>cases e
  rename_i x o hx;unfold HZ;dsimp only;rw[mh,hF k _ hx];exact Vm (show LD h _ _ _=some v from e)
theorem OJ(hF:Fk t F):∀{rs:List MS}{l:List AV},rsE rs F h=some l->ZQ rs t h=some l
 |[],l,e=>e
 |r::rs,l,e=>by
  rw[rsE]at e;split at e
  case h_2=>cases e
  split at e
  case h_2=>cases e
  cases e
  show bnd (HZ r t h) _=_;rw[SB hF ‹_›];show bnd (ZQ rs t h) _=_;rw[OJ hF ‹_›];rfl
theorem Km:∀{args:List AV}{m k:Nat}{t:Tr AV},args.length=m->k+m<=s.N->(∀j,k<=j->∀v,t.get j=some v->False)->∃t',wP s k args t=some t'/\Fk t' (yR k (ZT s m k) args)/\∀j,j<k->t'.get j=t.get j
 |[],m,k,t,hl,hN,hz=>by
  subst hl;exact⟨t,rfl,Fk.nil t,λ_ _=>rfl⟩
 |v::l,0,k,t,hl,hN,hz=>by cases hl
 |v::l,m+1,k,t,hl,hN,hz=>by
  have hp:(wL s k).run t v=some (bc (s.S k) ((pp 20 k).run v t) t):=by
   unfold wL;rw[Nat.ble_eq_true_of_le (show Nat.succ k<=s.N by omega),bD];cases s.S k<;>rfl
  have hz':∀j,k+1<=j->∀u,(bc (s.S k) ((pp 20 k).run v t) t).get j=some u->False:=λj hj u e=>by
   cases hS:s.S k with
   |true=>
    rw[hS,bD,jJ,if_neg (by omega)]at e;exact hz j (by omega) u e
   |false=>rw[hS,gH]at e;exact hz j (by omega) u e
  obtain⟨t',e1,e2,e3⟩:=Km (args:=l) (m:=m) (k:=k+1) (t:=bc (s.S k) ((pp 20 k).run v t) t) (by simpa using hl) (by omega) hz';refine⟨t',?_,?_,λj hj=>?_⟩
  .show bnd ((wL s k).run t v) _=_
   rw[hp];exact e1
  .show Fk t' (yR k (s.S k::ZT s m (k+1)) (v::l))
   cases hS:s.S k with
   |false=>exact e2
   |true=>
    intro j u hj;rw[yR,lk]at hj;split at hj
    .rename_i hjk
     subst hjk;rw[e3 j (by omega),hS,bD,jJ,if_pos rfl];exact hj
    .exact e2 j u hj
  .rw[e3 j (by omega)]
   cases s.S k with
   |true=>rw[bD,jJ,if_neg (by omega)]
   |false=>rfl
def Xz(o:Option (List AV))(h:AH)(n:Nat)(Q:AV->AH->Nat->Prop):Prop:=match o with
 |some l=>Q (rsV l) h n
 |none=>False
def Kn(rs:List MS)(Q:AV->AH->Nat->Prop):PQ:=λx h n F=>match x with
 | .bX=>Xz (rsE rs F h) h n Q
 | .ret=>Xz (rsE rs F h) h n Q
 |_=>False
theorem OL{K:Nat}{g:FuncId}{kb:List Bool}{m:MC}{rs:List MS}{args:List AV}{Q:AV->AH->Nat->Prop}(hc:yc P sl g=some (kb,m,rs))(hl:args.length=kb.length)
 (e:sK P (yl P sl 20) g K [.c m] .bX f h n (yR 0 kb args) (Kn rs Q)):∃v h' n',(WL P sl g).run f args h n= .ok v h' n'/\Q v h' n':=by
 obtain⟨fn,h1,hc⟩:=aB hc;obtain⟨c,h2,hc⟩:=aB hc;obtain⟨h3,hc⟩:=bL hc;obtain⟨h4,hc⟩:=bL hc;obtain⟨m',h5,hc⟩:=aB hc;obtain⟨rs',h6,hc⟩:=aB hc;cases hc
 have hlen:∀m k,(ZT (sl g) m k).length=m:=by
  intro m;induction m with
  |zero=>intro k;rfl
  |succ m ih=>intro k;show(ZT (sl g) m (k+1)).length+1=_;rw[ih]
 rw[hlen]at hl;obtain⟨t,t1,t2,_⟩:=Km (s:=sl g) (args:=args) (m:=fn.params.size+fn.nfree) (k:=0) (t:=.z) hl (by have:=Nat.le_of_ble_eq_true h4;omega) (λj _ v e=>by rw[Tr.iL]at e;cases e);obtain⟨x,h',n',t',F',e1,e2,e3⟩:=qj _ _ _ _ _ _ _ _ e t t2;obtain⟨x0,h0',n0',t0',e0,e1⟩:=jK (show jh (m.run P (yl P sl 20) g f h n t) (λx h n t=>oq P (yl P sl 20) g [] x f h n t)= .ok x h' n' t' from e1);cases e1
 have e1:=e0;unfold WL;rw[h1];dsimp only;rw[h2];dsimp only;rw[h3,bD];show∃v h' n',aP (wP (sl g) 0 args .z) _=fH.ok v h' n'/\_;rw[t1];show∃v h' n',pQ ((cc P sl g (yl P sl 20) c).run f h n t) _=fH.ok v h' n'/\_;rw[mF g h5,e1];have key:∀{Q':AV->AH->Nat->Prop},Xz (rsE rs F' h') h' n' Q'->∃v h2 n2,ok1 (yO P (sl g) fn.results.toList t' h') h' n'= .ok v h2 n2/\Q' v h2 n2:=by
  intro Q' q;unfold Xz at q;split at q
  case h_2=>exact q.elim
  rename_i l hl;refine⟨_,_,_,?_,q⟩;unfold yO;rw[H7 h6,OJ e2 hl];clear q hl;cases l with
  |nil=>rfl
  |cons a r=>cases r<;>rfl
 cases x with
 |bX=>exact key e3
 |ret=>exact key e3
 |exit j=>exact e3.elim
 |goto j=>exact e3.elim
variable (P Y)in
def ZU(g:FuncId)(I:Nat->AH->Nat->Fm->Prop)(i:Nat)(s:List It)(f:FT)(Q:PQ):PQ:=λx h n F=>match x with
 | .bX=>∃j G,j<i/\I j h n G/\∀m v,lk G m=some v->lk F m=some v
 |x=>sK P Y g 100000 s x f h n F Q
theorem Fq{g:FuncId}{a:MC}{s:List It}{Q:PQ}(I:Nat->AH->Nat->Fm->Prop)(i:Nat)(hi:i<=1125899906842623)(h0:∃G,I i h n G/\∀m v,lk G m=some v->lk F m=some v)
 (step:∀i h n F,I i h n F->SM P Y g [.c a] .bX f h n F (ZU P Y g I i s f Q)):SM P Y g (.c (.loop a)::s) .bX f h n F Q:=by
 have key:∀(K i:Nat)(h:AH)(n:Nat)(F:Fm)(t:Tr AV),i<K->I i h n F->Fk t F->∃x h' n' t' F',jh (pY K ⟨a.run P Y g⟩ f h n t) (λx h n t=>oq P Y g s x f h n t)= .ok x h' n' t'/\Fk t' F'/\Q x h' n' F':=by
  intro K;induction K with
  |zero=>intro i h n F t hi;omega
  |succ K ih=>
   intro i h n F t hi hI hF;obtain⟨x,h1,n1,t1,F1,e1,e2,e3⟩:=step i h n F hI t hF;obtain⟨x0,h0',n0',t0',e0,e1⟩:=jK (show jh (a.run P Y g f h n t) (λx h n t=>oq P Y g [] x f h n t)= .ok x h1 n1 t1 from e1);cases e1
   show∃x h' n' t' F',jh (jh (a.run P Y g f h n t) (λx h n t=>EK x (pY K ⟨a.run P Y g⟩ f h n t) (.ok x h n t))) _= .ok x h' n' t'/\_;rw[e0];cases x with
   |bX=>
    obtain⟨j,G,g1,g2,g3⟩:=e3;exact ih j h1 n1 G t1 (by omega) g2 (e2.le g3)
   |exit j=>exact qj _ _ _ _ _ _ _ _ (show sK P Y g 100000 s (.exit j) f h1 n1 F1 Q from e3) t1 e2
   |goto j=>exact qj _ _ _ _ _ _ _ _ (show sK P Y g 100000 s (.goto j) f h1 n1 F1 Q from e3) t1 e2
   |ret=>exact qj _ _ _ _ _ _ _ _ (show sK P Y g 100000 s .ret f h1 n1 F1 Q from e3) t1 e2
 intro t hF;obtain⟨G,g1,g2⟩:=h0;exact key 1125899906842624 i h n G t (by omega) g1 (hF.le g2)
theorem iF{g:FuncId}{a:MC}{s:List It}{Q:PQ}(I:Nat->AH->Nat->Fm->Prop)(i:Nat)(hi:i<=1125899906842623)(h0:∃G,I i h n G/\∀m v,lk G m=some v->lk F m=some v)
 (step:∀i h n F,I i h n F->sK P Y g 100000 [.c a] .bX f h n F (ZU P Y g I i s f Q)):SM P Y g (.c (.loop a)::s) .bX f h n F Q:=
 Fq I i hi h0 λi h n F hI=>qj _ _ _ _ _ _ _ _ (step i h n F hI)
end
structure Up(h:AH)(n:Nat)(h':AH)(n':Nat):Prop where
 le:n<=n'
 old:∀x,x<n->h'.get x=h.get x
theorem Up.refl(h:AH)(n:Nat):Up h n h n:=⟨Nat.le_refl _,λ_ _=>rfl⟩
theorem Up.trans{h:AH}{n:Nat}{h1:AH}{n1:Nat}{h2:AH}{n2:Nat}(a:Up h n h1 n1)(b:Up h1 n1 h2 n2):Up h n h2 n2:=
 ⟨Nat.le_trans a.le b.le,λx hx=>(b.old x (Nat.lt_of_lt_of_le hx a.le)).trans (a.old x hx)⟩
theorem au{α:Type}{t:Tr α}{n m:Nat}{v:α}(h:m≠n):(t.set n v).get m=t.get m:=by rw[iR,if_neg h]
theorem aF{α:Type}{t:Tr α}{n:Nat}{v:α}:(t.set n v).get n=some v:=by rw[iR,if_pos rfl]
theorem Up.set{h:AH}{n:Nat}{h':AH}{n':Nat}(a:Up h n h' n')(x:Nat)(o:AO)(hx:n<=x)(m:Nat)(hm:n'<=m):Up h n (h'.set x o) m:=
 ⟨Nat.le_trans a.le hm,λy hy=>by rw[au (by omega)];exact a.old y hy⟩
theorem Up.st{h:AH}{n:Nat}{h':AH}{n':Nat}(a:Up h n h' n')(x:Nat)(o:AO)(hx:n<=x):Up h n (h'.set x o) n':=a.set x o hx _ (Nat.le_refl _)
def LA(b:Option AO)(o:Nat)(cells:List AV):Prop:=(∃t l,b=some (.row t l)/\o+cells.length<=l.length/\(l.drop o).take cells.length=cells)\/
 ∃f,b=some (.ro f)/\∀i m,i+m<=cells.length->f (o+i) m=some ((cells.drop i).take m)
section
variable {b:Option AO} {o:Nat} {cells:List AV}
theorem LA.row(r:LA b o cells){i m:Nat}(h:i+m<=cells.length):pG b (o+i) (some m)=some (.agg ((cells.drop i).take m)):=by
 rcases r with⟨t,l,rfl,h1,h2⟩|⟨f,rfl,h1⟩
 .show(if o+i+m<=l.length then some (AV.agg ((l.drop (o+i)).take m))else none)=_
  rw[if_pos (by omega),<-h2];congr 2;rw[List.drop_take,List.take_take,List.drop_drop,Nat.min_eq_left (by omega)]
 .show(match f (o+i) m with|some l=>(if m<=l.length then some (AV.agg (l.take m))else none)|none=>none)=_
  rw[h1 i m h];dsimp only;rw[if_pos (by rw[List.length_take,List.length_drop];omega),List.take_take,Nat.min_self]
theorem LA.cell(r:LA b o cells){i:Nat}(h:i<cells.length):pG b (o+i) none=cells[i]?:=by
 rcases r with⟨t,l,rfl,h1,h2⟩|⟨f,rfl,h1⟩
 .show l[o+i]?=_
  rw[<-h2,List.getElem?_take,if_pos h,List.getElem?_drop]
 .show(match f (o+i) 1 with|some l=>l[0]?|none=>none)=_
  rw[h1 i 1 h];dsimp only;rw[List.getElem?_take,if_pos (by omega),List.getElem?_drop];rfl
theorem LA.cut(r:LA b o cells):bnd (iI b o cells.length) (mP cells.length)=some cells:=by
 rcases r with⟨t,l,rfl,h1,h2⟩|⟨f,rfl,h1⟩
 .show mP cells.length (r_ o l)=_
  rw[rG,if_pos (by omega),h2]
 .show bnd (f o cells.length) (mP cells.length)=_
  have:=h1 0 cells.length (by omega);rw[Nat.add_zero]at this;rw[this,List.drop_zero,List.take_length];show mP cells.length (r_ 0 cells)=_;rw[rG,if_pos (by omega),List.drop_zero,List.take_length]
theorem LA.take(r:LA b o cells)(k:Nat):LA b o (cells.take k):=by
 rcases r with⟨t,l,rfl,h1,h2⟩|⟨f,rfl,h1⟩
 .refine .inl ⟨t,l,rfl,by rw[List.length_take];omega,?_⟩
  conv=>rhs;rw[<-h2]
  rw[List.take_take,List.length_take]
 .refine .inr ⟨f,rfl,λi m h=>?_⟩
  rw[List.length_take]at h;rw[h1 i m (by omega),List.drop_take,List.take_take,Nat.min_eq_left (by omega)]
theorem LA.of{t m:Nat}{l:List AV}(h1:o+m<=l.length)(h2:(l.drop o).take m=cells):LA (some (.row t l)) o cells:=by
 have h3:cells.length=m:=by rw[<-h2,List.length_take,List.length_drop];omega
 exact .inl ⟨t,l,rfl,by omega,by rw[h3];exact h2⟩
end
def SR(h:AH)(n w:Nat)(v:AV)(len:Nat)(cells:List AV):Prop:=
 (v= .k 1/\len=0/\cells=[])\/(∃x lo o c,v= .sl x lo o len c/\x<n/\LA (h.get x) o cells/\cells.length=len*w/\∀k,c=some k->len<=k)\/∃a c,v= .es a c/\len=0/\cells=[]
theorem SR.up{h:AH}{n w:Nat}{v:AV}{len:Nat}{cells:List AV}{h':AH}{n':Nat}(s:SR h n w v len cells)(u:Up h n h' n'):SR h' n' w v len cells:=by
 rcases s with s|⟨x,lo,o,c,e1,e2,e3,e4,e5⟩|s
 .exact .inl s
 .exact .inr (.inl ⟨x,lo,o,c,e1,Nat.lt_of_lt_of_le e2 u.le,by rw[u.old x e2];exact e3,e4,e5⟩)
 .exact .inr (.inr s)
theorem SR.len{h:AH}{n w:Nat}{v:AV}{len:Nat}{cells:List AV}(s:SR h n w v len cells):Sz v=some len:=by
 rcases s with⟨rfl,rfl,_⟩|⟨x,lo,o,c,rfl,_⟩|⟨a,c,rfl,rfl,_⟩<;>rfl
theorem SR.ia{h:AH}{n w:Nat}{v:AV}{len:Nat}{cells:List AV}(s:SR h n w v len cells){h':AH}{n':Nat}(u:Up h n h' n'){k:Int}{i:Nat}(hk:k=i)(hi:i<len){K:AV->Prop}
 (q:∀b o,b<n->(∀j,j<w->pG (h'.get b) (o+j) none=cells[i*w+j]?)->(∀m,m<=w->pG (h'.get b) o (some m)=some (.agg ((cells.drop (i*w)).take m)))->K (.p b o)):IA w v k K:=by
 rcases s with⟨rfl,rfl,_⟩|⟨x,lo,o,c,rfl,e2,e3,e4,_⟩|⟨_,_,_,rfl,_⟩
 rotate_left 2
 .omega
 .omega
 .subst hk
  have hw:(i+1)*w<=len*w:=Nat.mul_le_mul_right w hi;rw[Nat.succ_mul]at hw;refine⟨x,lo,o,len,c,rfl,by omega,by omega,?_⟩;rw[<-u.old x e2]at e3;rw[show(i:Int).toNat=i by simp];refine q x _ e2 (λj hj=>?_) λm hm=>e3.row (by omega);rw[Nat.add_assoc];exact e3.cell (by omega)
theorem ou{α:Type}{c:α->List AV}{w:Nat}(hw:∀a,(c a).length=w):∀{l:List α}{i:Nat}{a:α},l[i]?=some a->((l.flatMap c).drop (i*w)).take w=c a
 |[],i,a,h=>by simp at h
 |b::l,0,a,h=>by cases h;rw[List.flatMap_cons,Nat.zero_mul,List.drop_zero,List.take_append_of_le_length (by rw[hw];omega),List.take_of_length_le (by rw[hw];omega)]
 |b::l,i+1,a,h=>by
  rw[List.flatMap_cons,Nat.succ_mul,Nat.add_comm,<-List.drop_drop,List.drop_left' (hw b)];exact ou hw (by simpa using h)
theorem w9{α:Type}{c:α->List AV}{w:Nat}(hw:∀a,(c a).length=w){l:List α}{i:Nat}{a:α}(h:l[i]?=some a){j:Nat}(hj:j<w):(l.flatMap c)[i*w+j]?=(c a)[j]?:=by
 have h1:=ou hw h;have h2:(((l.flatMap c).drop (i*w)).take w)[j]?=(c a)[j]?:=by rw[h1]
 rw[List.getElem?_take,if_pos hj,List.getElem?_drop]at h2;exact h2
end
section
noncomputable section
def aa2:List Nat:=[0,0,0,2147501007,1267690494780281187859095880191,135267327,38369227743684611553247,79228162514264338710235451359,536871919,74939897816692293535,2147483903,2203452440639,1180861907098232418431,4951760296645568514927558207,649037117139375738217199371813119,1951,26517477128974350111,31,33571891,1237017837343,7,524399,537921519,10299662336961315837038112734175,7,4611686018427396659,268436557,55,2159799,288384376767545343,5,54060787714620543,16806963,2148540191,268435967,2417851657806607182463999,563078802473439,32212316669,127,1006632991,10174395256028802968151138295,9007231483805647,1196272946086911,563516889104439,152193521006965555183,492031,571213470991095,137440003039,16631,549789369279,131167,8635087,594354754289695,21267647932558939669633663148285253567,87112324879057868343137446111446855507325,8444249804643831,7,1165102295547650482039519175,1005,16543,9,9444877080996085762007,21,31,1970324870537207,23,1970324870537207,79,7,687194873811,7,524543,2415949949,19,31,1298153482067421959907032534855599,19342821761027101203382143,18889465931479126114783,1057730194358271,21,21,21,21,2596218373022487222114204889911103,1081127857784097471,31,31,2596148438938958724023430292570031,111,7,1081127857784097471,127,81689056478219510098259207464416898445311,18463777501957063383,365083450388098250955716615471287,31,59,31,13,7,51,7,31,17389,604275,18717100788840198895,4026563071,31,9903529759016537937447755743,81129928561528061540916265017031,28711,5,71,262295,2097527,8446311388940991,71401688023023,21,7,141770432200687,21,33227,577023702256845815,31,66515,31,66515,9530848296784889695,42535296023574879666274036850519702559,5,3,11260099091759871,7,1180591902192413180023,85153668480087229986601158663989101567,1099511627895,37759,17609365929471,72057868949438703,3,11,16806963,16806963,1074250695,31,2256197860200311,2097247,15,5,1007,21,21,3,11,1237940629655394484003801007,4683760113327014271,8589950431,3,15,17179869247,16413,4223903,8669,154742587921231972287906335,590872272004362272927,23,1,7,23,59,15,5,8363,5,19,8363,5,7696581459687,32871,7,10384593871817177683247510831234831,2247,3,11,1089503567,1125907976687055,524407,16806963,16806963,17179886351,8592039695,35218731966223,1333065575601045263,33551,21268317252094917911888073248812900111,1217485249602318769183,22997644815212700899627017342834150232570911,277,16661,3931,27,27,3931,7,33554435,3,3,134251507,7,17179869187,8195,8287,36029020357263479,1,623,541151,519,7,4503874538831999,1082239,311,27,15,71589947,19,39582422794367,16806963,5,66559,604462914310916393926835,1048583,2147618759,47,247,247,42535296023574879666274036850519702559,7,262411,1073746119,1074268103,8804682991559,20829169751433159,8391,83087207854311395603287443752634311,19,19023213622105999119,22458641409078797123448399039441150152463,5575,17593259851807,288231475663604767,5,5,271,4159,7,5,134221323,7,23,66483,17188391667,144132796636478303,134219743,19,9197,21,17179886351,8592039695,35218731966223,1333065575601045263,33551,21268317252094917911888073248812900111,1217485249602318769183,22997644815212700899627017342834150232570911,262411,4503668346913551,71,1055,21,13,2923003971560093291123168138537876760321514930163,20426010943356750102455122975,31,4197407,1213353579882117966815215,1267786001026830886586890321271,1966267,288231475663604767,271,4159,262927,5,13,5,5,535,207,19,7,39,531955,4197407,21,21,66483,1,1,1,1,1,1,1,1,1,1,1,1,1,1,1,9363028706271,7,55,7,140737744208351,59,19,19,87,133079,1852399,66483,66483,18014407099418591,7,55,7,1839,47,1,0,0,0,0,0,0]
def ntL:List Nat:=[0,0,1,52,102,89,107,122,57,91,97,42,86,94,110,26,79,10,26,43,16,24,41,106,16,63,29,24,28,66,10,83,26,38,74,82,65,45,8,43,95,68,53,50,91,29,58,41,24,41,28,27,52,126,139,93,4,104,20,16,6,87,8,6,67,11,67,14,4,41,4,26,53,14,26,112,103,84,70,8,8,8,8,113,85,52,6,122,21,16,85,8,144,67,160,57,11,17,9,4,12,4,17,18,20,66,49,14,94,112,33,11,11,19,56,78,60,8,22,65,8,17,64,31,18,10,18,65,148,8,11,65,8,89,132,49,18,57,90,8,10,26,26,32,108,53,26,10,5,25,8,8,8,10,92,64,35,14,12,43,34,25,16,117,84,32,2,10,14,11,8,5,14,5,14,14,6,63,41,4,134,21,8,8,34,56,54,26,26,53,60,67,63,34,141,90,178,19,25,20,11,15,22,78,54,7,7,54,4,38,17,24,66,2,25,49,13,11,59,31,12,7,9,30,9,59,26,5,19,90,30,49,9,13,13,148,4,19,49,56,65,57,32,133,17,84,168,36,50,82,7,33,18,41,31,6,29,11,10,19,54,60,33,13,20,12,53,60,67,63,34,141,90,178,19,76,15,36,15,15,167,102,108,32,95,116,35,82,18,41,28,6,4,8,8,20,25,9,6,16,43,32,14,14,19,1,1,1,1,1,1,1,1,1,1,1,1,1,1,1,50,6,13,7,49,21,9,9,16,42,26,19,19,69,6,20,7,24,12,1,0,0,0,0,0,3]
def nth(l:List Nat)(g:Nat):Nat:=@Option.rec Nat (λ_=>Nat) 0 (λl=>l) (hd (r_ g l))
def sl0(g:FuncId):Sl:=⟨λk=>Nat.beq (Nat.land (Nat.shiftRight (nth aa2 g) k) 1) 1,nth ntL g⟩
def SC:Code->List (Code×Code)
 | .seq a b=>SC a++SC b
 | .cond _ a b=>SC a++SC b
 | .block _ a| .loop a| .scope a=>SC a
 | .rangeFunc _ _ a b=>(a,b)::(SC a++SC b)
 |_=>[]
def gW(g i:Nat):Code:=(((((hd (r_ g Tryz.prog.funcs.toList)).bind (·.body)).map SC).getD [])[i]?.map (·.1)).getD .skip
def gX(g i:Nat):Code:=(((((hd (r_ g Tryz.prog.funcs.toList)).bind (·.body)).map SC).getD [])[i]?.map (·.2)).getD .skip
abbrev Nr:Nat:=279
abbrev RJ:Nat:=10
def OD:OT:=λ_ g args h n=>bc (Nat.beq g Nr) (match args with|[.i .u64 (.ofNat u)]=>bc (Nat.ble 1 u) (bc (Nat.ble u 18446744073709551615) (some (.ok (.i .i64 (Lib.nDigits u:Nat)) h n)) none) none|_=>none) none
def O0:OT:=λf g args h n=>bc (Nat.beq g RJ) (match args with|[]=>some (.ok (.b true) h n)|_=>none) (OD f g args h n)
abbrev EF(k:Nat):FT:=iU Tryz.prog sl0 O0 k
abbrev Y0:YT:=yl Tryz.prog sl0 20
end
end
section
noncomputable section
section
variable {w:World} {m:Nat} {p q:Addr}
theorem H8(p q:Value)(w:World):CallsDIn Fence.wide m Tryz.prog 59 #[p,q] .returning w λe u' w'=>(∃v,e= .returned v)/\u'= .returning/\w'=w:=by
 refine callsDIn_of_wpSIn Tryz.func59 rfl trivial λc₀ cs hu=>?_;apply wpSIn_seq;apply wpSIn_region;simp[wpOpsSIn,go_sem,recoverD,hu,Tryz.ntmps59,Exit.thenS,Fence.wide];apply wpSIn_seq;apply wpSIn_region;simp[wpOpsSIn,go_sem,Exit.thenS];refine wpSIn_cond (t:=false) (by simp[Act.eval,Array.replicate]) ?_;simp only[Bool.false_eq_true,if_false];refine wpSIn_of_wpIn rfl (wpIn_skip ?_);cases c₀
 simp_all [bodyPostS,results,Tryz.results59]
def Fu:List Value:=[.slice none 0 0,.int .i64 0,.slice none 0 0,.int .i64 0,.slice none 0 0]
theorem agQ:Fu.length=5:=rfl
theorem SE(w:World):(Instr.build 51 #[]).run Tryz.prog w= .ok (.agg Fu.toArray) w:=by kernel_rfl
theorem Fv(e:Int){b1 b2:Nat}{w W1:World}{x:Value}(hs:(storeCells ⟨b1,0,none⟩ Fu).run Tryz.prog w= .ok () W1)(hc:W1.cell? ⟨b2,0,none⟩=some x)(hz:W1.frozen? ⟨b2,0,none⟩=false):
 CallsDIn Fence.wide m Tryz.prog 59 #[.pointer (some ⟨b1,0,none⟩),.pointer (some ⟨b2,0,none⟩)] (.panicking [{v:=.iface 173 (.int .i64 e),recovered:=false}]) w λen u' w'=>
  (∃v,en= .returned v)/\u'= .panicking [{v:=.iface 173 (.int .i64 e),recovered:=true}]/\w'=(W1.setCell ⟨b2,0,none⟩ (.int .i64 24)).setCell ⟨b2,0,none⟩ (.int .i64 e):=by
 refine callsDIn_of_wpSIn Tryz.func59 rfl trivial λc₀ cs hu=>?_;apply wpSIn_seq;apply wpSIn_region;simp[wpOpsSIn,go_sem,recoverD,hu,Tryz.ntmps59,Exit.thenS,Fence.wide];apply wpSIn_seq;apply wpSIn_region;simp[wpOpsSIn,go_sem,Exit.thenS];refine wpSIn_cond (t:=true) (by simp[Act.eval,Array.replicate]) ?_;simp only[if_true];apply wpSIn_seq;apply wpSIn_region;simp[wpOpsSIn,go_sem,Exit.thenS,SE,agQ,hs,hc,hz];apply wpSIn_seq;apply wpSIn_region;have ht:∀w,(Instr.typeAssert (.iface 173 (.int .i64 e)) 20 173 true).run Tryz.prog w= .ok (.tuple #[.int .i64 e,.bool true]) w:=λw=>by kernel_rfl
 simp[wpOpsSIn,go_sem,Exit.thenS,ht];apply wpSIn_seq;apply wpSIn_region;simp[wpOpsSIn,go_sem,Exit.thenS];refine wpSIn_cond (t:=true) (by simp[Act.eval,Array.replicate]) ?_;simp only[if_true];apply wpSIn_region;simp[wpOpsSIn,go_sem,hc,hz,bodyPostS,results,Tryz.results59]
theorem DR(e:Int)(he:e≠0)(w:World):Calls Tryz.prog 60 #[.int .i64 e] w λen w'=>en= .panicked [{v:=.iface 173 (.int .i64 e),recovered:=false}]/\w'=w:=by
 refine(callsIn_wide (n:=0)).1 (callsIn_of_wp_marks Tryz.func60 rfl trivial ?_);have hm:∀w,(Instr.makeInterface 173 (.int .i64 e)).run Tryz.prog w= .ok (.iface 173 (.int .i64 e)) w:=λw=>by kernel_rfl
 apply wpIn_seq;apply wpIn_region;simp[wpOpsIn,go_sem,Exit.then,he,Tryz.ntmps60];refine wpIn_cond (t:=true) (by simp[Act.eval,Array.replicate,he]) ?_;simp only[if_true];apply wpIn_region;have hp:∀w,(Instr.panic (.iface 173 (.int .i64 e))).run Tryz.prog w= .halt (.panic (.iface 173 (.int .i64 e))) w:=λw=>rfl;simp[wpOpsIn,go_sem,hm,hp,Oper.wpIn,Oper.uponIn,bodyPostM,LeavesInM,LeavesIn]
end
end
end
section
noncomputable section
noncomputable def SF:Code->Code
 | .seq a _=>a
 |c=>c
noncomputable def qm:Code->Code
 | .seq _ b=>b
 |c=>c
noncomputable def cdA:Code->Code
 | .cond _ a _=>a
 |c=>c
noncomputable def SG:Code:=Tryz.f31.body.getD .skip
noncomputable def bR0:Code:=SF SG
noncomputable def bRd:Code:=SF (qm SG)
noncomputable def bR2:Code:=SF (qm (qm SG))
noncomputable def bR3:Code:=SF (qm (qm (qm SG)))
noncomputable def bR4:Code:=SF (qm (qm (qm (qm SG))))
noncomputable def bR5:Code:=SF (qm (qm (qm (qm (qm SG)))))
noncomputable def bR6:Code:=SF (SF (qm (qm (qm (qm (qm (qm SG)))))))
noncomputable def bR7:Code:=cdA (qm (SF (qm (qm (qm (qm (qm (qm SG))))))))
noncomputable def OM:Code:=qm (qm (qm (qm (qm (qm (qm SG))))))
theorem OO:Tryz.f31.body=some (.seq bR0 (.seq bRd (.seq bR2 (.seq bR3 (.seq bR4 (.seq bR5 (.seq (.seq bR6 (.cond (.tmp 44) bR7 .skip)) OM))))))):=rfl
noncomputable def XA (x:Ex)(r:fH):fH:=match x with
 | .bX=>r
 |_=>.bad
noncomputable def zc:List AV:=[.k 1,.i .i64 0,.k 1,.i .i64 0,.k 1]
noncomputable def Fw:List ResultVar:=[.cell 10 51,.cell 11 41]
noncomputable def wrR (h:AH)(x:Nat)(u:List AV)(k:AH->fH):fH:=match h.get x with
 |some (.row t l)=>aP (wJ u 0 l) λm=>k (h.set x (.row t m))
 |_=>.bad
noncomputable def ccL (f:FT):List Code->AH->Nat->Tr AV->(AH->Nat->Tr AV->fH)->fH
 |[],h,n,t,k=>k h n t
 |c::cs,h,n,t,k=>pQ ((cc Tryz.prog sl0 31 Y0 c).run f h n t) λx h n t=>XA x (ccL f cs h n t k)
noncomputable def aa4:List Code->Code->Code
 |[],d=>d
 |c::cs,d=>.seq c (aa4 cs d)
noncomputable def XB (f:FT)(args:List AV)(h:AH)(n:Nat):fH:=
 bc (Nat.ble (sl0 31).N 83) (aP (wP (sl0 31) 0 args .z) λt=>pQ ((cc Tryz.prog sl0 31 Y0 bR0).run f h n t) λx h n t=>XA x
  (match(co (sl0 31) [] (.tmp 10)).run t [],(co (sl0 31) [] (.tmp 11)).run t []with
  |some (.p x1 0),some (.p y1 0)=>ccL f [bR2,bR3,bR4,bR5] h n t λh n t=>ccL f [bR6] h n t λh n t=>
   (match(co (sl0 31) [] (.tmp 44)).run t []with
   |some (.b false)=>pQ ((cc Tryz.prog sl0 31 Y0 OM).run f h n t) λx h n t=>(match x with
    | .bX=>ok1 (yO Tryz.prog (sl0 31) Fw t h) h n
    | .ret=>ok1 (yO Tryz.prog (sl0 31) Fw t h) h n
    |_=>.bad)
   |some (.b true)=>wrR h x1 zc λh=>wrR h y1 [.i .i64 24] λh=>wrR h y1 [.i .i64 24] λh=>ok1 (yO Tryz.prog (sl0 31) Fw t h) h n
   |_=>.bad)
  |_,_=>.bad)) .bad
theorem DT{x:Ex}{r:fH}{v:AV}{h:AH}{n:Nat}(e:XA x r= .ok v h n):x= .bX/\r= .ok v h n:=by
 cases x with
 |bX=>exact⟨rfl,e⟩
 |_=>cases e
theorem H9{h h':AH}{x n':Nat}{u:List AV}{k:AH->fH}{v:AV}(e:wrR h x u k= .ok v h' n'):∃(l:TypeId×List AV)(m:List AV),h.get x=some (.row l.1 l.2)/\wJ u 0 l.2=some m/\k (h.set x (.row l.1 m))= .ok v h' n':=by
 unfold wrR at e;split at e
 .rename_i t l hg
  obtain⟨m,h1,h2⟩:=aW e;exact⟨(t,l),m,hg,h1,h2⟩
 .cases e
theorem DU{q:Nat}{fn:Func}{c:Code}{cap args:Array Value}{w:World}(hP:sF Tryz.prog)(hq:Tryz.prog.funcs[q]?=some fn)(hb:fn.body=some c):(invoke (.fn (.func q) cap) args).run Tryz.prog w= .ok (.enter q (args++cap)) w:=by
 have hne:¬fn.name= "runtime.NumGoroutine":=by simpa using hP.2 _ _ hq
 simp[invoke,callFunc,hq,hb,hne]
section
variable {f:FT} {args:List AV} {h h':AH} {n n':Nat} {v:AV}
theorem OP{lo:Nat}{B:List Deferred}{d:Code}{Q:Exit->Act->World->Prop}{k:AH->Nat->Tr AV->fH}(hP:sF Tryz.prog)(hf:Good Tryz.prog sl0 f):∀(cs:List Code){θ:Th}{h1:AH}{n1:Nat}{w:World}{t:Tr AV}{ac:Act},ccL f cs h1 n1 t k= .ok v h' n'->RT (sl0 31) θ t ac.tmps->RH Tryz.prog sl0 θ h1 n1 w->oQ lo B θ h1 w ac.defers->lo<=w.heap.size->
 (∀bW h2 n2 t' a' w',k h2 n2 t'= .ok v h' n'->RT (sl0 31) bW t' a'.tmps->RH Tryz.prog sl0 bW h2 n2 w'->oQ lo B bW h2 w' a'.defers->Fr θ h1 w bW h2 w'->d.wpIn (FR none) 0 Tryz.prog Q a' w')->(aa4 cs d).wpIn (FR none) 0 Tryz.prog Q ac w
 |[],θ,h1,n1,w,t,ac,e,T,H,D,hl,hQ=>hQ _ _ _ _ _ _ e T H D (Fr.refl _ _ _)
 |c::cs,θ,h1,n1,w,t,ac,e,T,H,D,hl,hQ=>by
  obtain⟨x,h2,n2,t2,e2,e⟩:=nU e;obtain⟨rfl,e⟩:=DT e;exact wpIn_seq (lQ hP hf (Kg hP hf 20) c e2 T H D hl (λl hl=>by cases hl) λpz a1 w1 T1 H1 D1 F1=>
   OP hP hf cs e T1 H1 D1 (Nat.le_trans hl F1.size) λCO h3 n3 t3 a3 w3 e3 T3 H3 D3 F3=>hQ _ _ _ _ _ _ e3 T3 H3 D3 (F1.trans F3))
theorem SH(hP:sF Tryz.prog)(hf:Good Tryz.prog sl0 f)(e:XB f args h n= .ok v h' n'):(∃fn c,Tryz.prog.funcs[31]?=some fn/\fn.body=some c)/\∀θ w vs,RH Tryz.prog sl0 θ h n w->fE θ args vs->Calls Tryz.prog 31 vs.toArray w (wU Tryz.prog sl0 θ h w v h' n'):=by
 refine⟨⟨_,_,Tryz.func31,OO⟩,λθ w vs H ha=>?_⟩;obtain⟨hN,e⟩:=jg e;obtain⟨t,e1,e⟩:=aW e;obtain⟨x,h1,n1,t1,e2,e⟩:=nU e;obtain⟨rfl,e⟩:=DT e;have hT:RT (sl0 31) θ t (vs.toArray++Array.replicate (Tryz.f31.ntmps - vs.toArray.size) undef):=by
  refine DC e1 ha (λj u hj=>?_) (RT.empty _ _ ?_)
  .rw[Nat.zero_add,Array.getElem?_append_left (by simpa using(List.getElem?_eq_some_iff.1 hj).1)]
   simpa using hj
  .have:=Nat.le_of_ble_eq_true hN
   rw[Tryz.ntmps31];simp;omega
 have hY:xY Tryz.prog sl0 Y0 f:=Kg hP hf 20;refine(callsIn_wide (n:=0)).1 (callsIn_of_wp_marks Tryz.func31 OO trivial ?_);have hfr:FR none=Fence.wide:=rfl;rw[<-hfr];refine wpIn_seq (lQ (lo:=w.heap.size) (B:=[]) hP hf hY bR0 e2 hT H ⟨[],rfl,List.Pairwise.nil,by simp⟩ (Nat.le_refl _) (λl hl=>by cases hl) λpz a1 w1 T1 H1 D1 F1=>?_);split at e
 case h_2=>cases e
 rename_i x1 y1 q1 q2;obtain⟨r1,c1,k1,k2⟩:=G8 q1 T1 (LR.nil _ _ _);obtain⟨r2,c2,k3,k4⟩:=G8 q2 T1 (LR.nil _ _ _);refine wpIn_seq (wpIn_region ?_);have hmf:∀(fn:Fn)(first cap:Array Value)(w:World),(Instr.makeFunc fn first cap).run Tryz.prog w= .ok (.func fn first cap) w:=λ_ _ _ _=>rfl;have hNe:(sl0 31).N=83:=by kernel_rfl
 have hsz:17<a1.tmps.size:=by have:=T1.size;omega
 have e17:(a1.put (some 17) (.func (.func 59) #[] #[.pointer (some ⟨r1,0,none⟩),.pointer (some ⟨r2,0,none⟩)])).eval (.tmp 17)= .func (.func 59) #[] #[.pointer (some ⟨r1,0,none⟩),.pointer (some ⟨r2,0,none⟩)]:=by
  simp[Act.put,Act.eval,hsz]
 have g85:Tryz.prog.funcs[59]?=some Tryz.f59:=Tryz.func59;have hfn:∀g,(FR none).fn g:=λ_=>trivial;have hrd:(FR none).round=none:=rfl;change wpOpsIn (FR none) 0 Tryz.prog _ _ [0,1] a1 w1;simp[wpOpsIn,Oper.wpIn,Oper.uponIn,Oper.semAt,Region.wanted,execOp,resolve,k2,k4,hmf,e17,Exit.then,Deferred.ofValue,hfn,hrd];have agX:(sl0 31).S 17=false:=by kernel_rfl
 have T2:=T1.skip agX (u:=.func (.func 59) #[] #[.pointer (some ⟨r1,0,none⟩),.pointer (some ⟨r2,0,none⟩)]);generalize ha2:Act.put _ none undef=a2;have ht2:RT (sl0 31) pz t1 a2.tmps:=by rw[<-ha2];exact T2
 have hd2:a2.defers={target:=.fn (.func 59) #[.pointer (some ⟨r1,0,none⟩),.pointer (some ⟨r2,0,none⟩)],args:=#[]}::a1.defers:=by rw[<-ha2];rfl
 clear ha2
 -- the marks that were laid ahead of the deferred call
 have lv:∀(CO:Th)(h2:AH)(n2:Nat)(w2:World)(t2:Tr AV)(tm:Array Value),RH Tryz.prog sl0 CO h2 n2 w2->Fr θ h w CO h2 w2->Fr pz h1 w1 CO h2 w2->RT (sl0 31) CO t2 tm->ok1 (yO Tryz.prog (sl0 31) Fw t2 h2) h2 n2= .ok v h' n'->LeavesInM Fence.wide 0 Tryz.prog Tryz.f31 tm (wU Tryz.prog sl0 θ h w v h' n') a1.defers .returning w2:=λCO h2 n2 w2 t2 tm H2 F2 F12 T2 e=>by
  obtain⟨q1,rfl,rfl⟩:=h_ e;obtain⟨pre,e0,D2,D3⟩:=D1.fr F12;rw[e0];refine m_ (u:=.returning) (by simp) (Nat.le_refl _) (λw' H' F'=>?_) pre w2 D2 D3 H2 F2;have q1':yO Tryz.prog (sl0 31) Tryz.f31.results.toList t2 h'=some v:=by rw[Tryz.results31];exact q1
  obtain⟨u,k1,k2⟩:=Kh q1' T2 H';exact⟨u,k1,CO,u,rfl,k2,H',F'⟩
 refine OP (d:=.seq (.seq bR6 (.cond (.tmp 44) bR7 .skip)) OM) (lo:=w1.heap.size) (B:={target:=.fn (.func 59) #[.pointer (some ⟨r1,0,none⟩),.pointer (some ⟨r2,0,none⟩)],args:=#[]}::a1.defers) hP hf [bR2,bR3,bR4,bR5] e ht2 H1 ⟨[],by rw[hd2];rfl,List.Pairwise.nil,by simp⟩ (Nat.le_refl _) λCO h2 n2 t2 a2 w2 e T2 H2 D2 F2=>?_;obtain⟨x,h3,n3,t3,e3,e⟩:=nU e;obtain⟨rfl,e5⟩:=DT e;refine wpIn_seq (wpIn_seq (lQ hP hf hY bR6 e3 T2 H2 D2 F2.size (λl hl=>by cases hl) λW9 a3 w3 T3 H3 D3 F3=>?_));change Code.wpIn (FR none) 0 Tryz.prog (.cond (.tmp 44) bR7 .skip) _ a3 w3;have XC:=F2.trans F3;change(match(co (sl0 31) [] (Operand.tmp 44)).run t3 []with|some (AV.b false)=>_|some (AV.b true)=>_|_=>_)=_ at e5;split at e5
 case h_3=>cases e5
 .rename_i q3
  refine wpIn_cond (t:=false) (bH q3 T3 (LR.nil _ _ _)) ?_;simp only[Bool.false_eq_true,if_false];refine wpIn_skip ?_;change Code.wpIn (FR none) 0 Tryz.prog OM _ a3 w3;obtain⟨x4,h4,n4,t4,e4,e⟩:=nU e5;refine lQ hP hf hY OM e4 T3 H3 D3 XC.size (λl hl=>by cases hl) λθ4 a4 w4 T4 H4 D4 F4=>?_;have key:ok1 (yO Tryz.prog (sl0 31) Fw t4 h4) h4 n4= .ok v h' n'->LeavesInM Fence.wide 0 Tryz.prog Tryz.f31 a4.tmps (wU Tryz.prog sl0 θ h w v h' n') a4.defers .returning w4:=λe=>by
   obtain⟨pre,e0,P1,P2⟩:=D4;rw[e0];refine m_ (u:=.returning) (by simp) (Nat.le_refl _) (λw' H' F'=>?_) pre w4 P1 P2 H4 (XC.trans F4);refine⟨by simp,.inr ⟨λq=>by simp[Fence.wide]at q,_,_,59,#[.pointer (some ⟨r1,0,none⟩),.pointer (some ⟨r2,0,none⟩)],rfl,DU hP Tryz.func59 rfl,λ_ _=>trivial,?_⟩⟩;obtain⟨g1,g2⟩:=H8 (m:=0) (.pointer (some ⟨r1,0,none⟩)) (.pointer (some ⟨r2,0,none⟩)) w';refine⟨g1,λc cs hm hr=>?_⟩;obtain⟨en,u',w'',fr,⟨⟨rv,rfl⟩,rfl,rfl⟩,q⟩:=g2 c cs hm hr;exact⟨_,_,_,fr,lv _ _ _ _ _ _ H' (F1.trans F') F' T4 e,q⟩
  cases x4 with
  |bX=>exact key e
  |ret=>exact key e
  |exit id=>cases e
  |goto l=>cases e
 .rename_i q3
  refine wpIn_cond (t:=true) (bH q3 T3 (LR.nil _ _ _)) ?_;simp only[if_true];refine wpIn_region ?_;have hex:∀(ρ:Operand->Value)(o:Oper)(w:World),o.op= .call {callee:=.value (.func 60),args:=#[.const (.int .i64 24)],argTypes:=#[41]}->ρ (.func 60)= .func (.func 60) #[] #[]->ρ (.const (.int .i64 24))= .int .i64 24->(execOp ρ o).run Tryz.prog w= .ok (.enter 60 #[.int .i64 24]) w:=λρ o w ho h1 h2=>by
   have hne:¬Tryz.f60.name= "runtime.NumGoroutine":=by simpa using hP.2 _ _ Tryz.func60
   simp[execOp,ho,resolve,h1,h2,Deferred.ofValue,DU hP Tryz.func60 rfl]
  change wpOpsIn (FR none) 0 Tryz.prog _ _ [0] a3 w3;simp only[wpOpsIn,Oper.wpIn];simp[Oper.semAt,Region.wanted,hfn,hrd];rw[hex _ _ _ rfl rfl rfl,Oper.uponIn_enter];refine⟨λhd=>by simp[FR,Fence.wide]at hd,(nY none (DR 24 (by decide) w3)).mono ?_⟩;rintro e7 w4 ⟨rfl,rfl⟩;simp only[Exit.then,bodyPostM];obtain⟨pre,e0,P1,P2⟩:=D3;rw[e0];refine m_ (u:=.panicking _) (by simp) (Nat.le_refl _) (λw' H' F'=>?_) pre w4 P1 P2 H3 XC;refine⟨by simp,.inr ⟨λq=>by simp[Fence.wide]at q,_,_,59,#[.pointer (some ⟨r1,0,none⟩),.pointer (some ⟨r2,0,none⟩)],rfl,DU hP Tryz.func59 rfl,λ_ _=>trivial,?_⟩⟩;obtain⟨l1,m1,p1,p2,e6⟩:=H9 e5;obtain⟨l2,m2,p3,p4,e8⟩:=H9 e6;obtain⟨l3,m3,p5,p6,e9⟩:=H9 e8;have hz1:fE W9 zc Fu:=⟨_,_,nW rfl,⟨_,_,nW rfl,⟨_,_,nW rfl,⟨_,_,nW rfl,⟨_,_,nW rfl,rfl,rfl⟩,rfl⟩,rfl⟩,rfl⟩,rfl⟩;have hz2:fE W9 [.i .i64 24] [.int .i64 24]:=⟨_,_,nW rfl,rfl,rfl⟩;obtain⟨a1',a2',a3'⟩:=H'.write p1 (XC.le _ _ k1) p2 hz1 (by simp[Fu,Value.oneCell']);obtain⟨b1',b2',b3'⟩:=a2'.write p3 (XC.le _ _ k3) p4 hz2 (by simp[Value.oneCell']);obtain⟨d1',d2',d3'⟩:=b2'.write p5 (XC.le _ _ k3) p6 hz2 (by simp[Value.oneCell']);obtain⟨r',c',cs,us,q1',q2',q3',q4',q5',q6',q7',rest,q8'⟩:=a2'.row p3;rw[XC.le _ _ k3]at q1';cases q1';have hlen:0<cs.size:=by
   have:=(mW p4).1;rw[<-Array.length_toList,q8',List.length_append,q7'];simp at this;omega
  obtain⟨g1,g2⟩:=Fv (m:=0) 24 (b2:=r2) a1' ((iM q2' 0).trans (Array.getElem?_eq_getElem hlen)) (kL q2' 0);refine⟨g1,λc cs hm hr=>?_⟩;obtain⟨en,u',w'',fr,⟨⟨rv,rfl⟩,rfl,rfl⟩,q⟩:=g2 c cs hm hr;have F5:=F'.trans (a3'.trans (b3'.trans d3'));exact⟨_,_,_,fr,lv _ _ _ _ _ _ d2' (F1.trans F5) F5 T3 e9,q⟩
end
end
end
section
noncomputable section
mutual
theorem aV.back{θ bW:Th}(h:iH θ bW):∀(a:AV){v0 v:Value},aV θ a v0->aV bW a v->aV θ a v
 | .b _,_,_,_,e=>e
 | .i _ _,_,_,_,e=>e
 | .s _,_,_,_,e=>e
 | .p _ _,_,_,⟨r0,c0,q1,_⟩,⟨r,c,e1,e2⟩=>by rw[h _ _ q1]at e1;cases e1;exact⟨_,_,q1,e2⟩
 | .sl _ _ _ _ _,_,_,⟨r0,c0,q1,_⟩,⟨r,c,e1,e2⟩=>by rw[h _ _ q1]at e1;cases e1;exact⟨_,_,q1,e2⟩
 | .m _,_,_,⟨r0,c0,q1,_⟩,⟨r,c,e1,e2⟩=>by rw[h _ _ q1]at e1;cases e1;exact⟨_,_,q1,e2⟩
 | .f _ l,_,_,⟨_,q1,_⟩,⟨vs,e1,e2⟩=>⟨vs,fE.back h l q1 e1,e2⟩
 | .y _,_,_,⟨r0,c0,q1,_⟩,⟨r,c,e1,e2⟩=>by rw[h _ _ q1]at e1;cases e1;exact⟨_,_,q1,e2⟩
 | .wI _ a,_,_,⟨_,q1,_⟩,⟨u,e1,e2⟩=>⟨u,aV.back h a q1 e1,e2⟩
 | .agg l,_,_,⟨_,q1,_⟩,⟨vs,e1,e2⟩=>⟨vs,fE.back h l q1 e1,e2⟩
 | .bJ l,_,_,⟨_,q1,_⟩,⟨vs,e1,e2⟩=>⟨vs,fE.back h l q1 e1,e2⟩
 | .k _,_,_,_,e=>e
 | .es _ _,_,_,_,e=>e
theorem fE.back{θ bW:Th}(h:iH θ bW):∀(l:List AV){v0 vs:List Value},fE θ l v0->fE bW l vs->fE θ l vs
 |[],_,_,_,e=>e
 |a::r,_,_,⟨_,_,q1,q2,_⟩,⟨v,vs,e1,e2,e3⟩=>⟨v,vs,aV.back h a q1 e1,fE.back h r q2 e2,e3⟩
end
mutual
def flt:AV->Bool
 | .b _| .i _ _| .s _| .k _=>true
 | .agg l| .bJ l=>SI l
 |_=>false
def SI:List AV->Bool
 |[]=>true
 |a::l=>bc (flt a) (SI l) false
end
mutual
theorem OQ{θ bW:Th}:∀(a:AV){v:Value},flt a=true->aV θ a v->aV bW a v
 | .b _,_,_,e=>e
 | .i _ _,_,_,e=>e
 | .s _,_,_,e=>e
 | .k _,_,_,e=>e
 | .agg l,_,f,⟨vs,e1,e2⟩=>⟨vs,DW l f e1,e2⟩
 | .bJ l,_,f,⟨vs,e1,e2⟩=>⟨vs,DW l f e1,e2⟩
 | .p _ _,_,f,_=>by cases f
 | .sl _ _ _ _ _,_,f,_=>by cases f
 | .m _,_,f,_=>by cases f
 | .f _ _,_,f,_=>by cases f
 | .y _,_,f,_=>by cases f
 | .wI _ _,_,f,_=>by cases f
 | .es _ _,_,f,_=>by cases f
theorem DW{θ bW:Th}:∀(l:List AV){vs:List Value},SI l=true->fE θ l vs->fE bW l vs
 |[],_,_,e=>e
 |a::r,_,f,⟨v,vs,e1,e2,e3⟩=>
  have f':bc (flt a) (SI r) false=true:=f
  ⟨v,vs,OQ a (bY f').1 e1,DW r (bY f').2 e2,e3⟩
end
def LB:Option AO->Option AO->Bool
 |some (.row t l),some (.row t' l')=>bc (Nat.beq t t') (wO l l') false
 |none,_=>true
 |_,_=>false
def std(h h':AH):Nat->Bool:=@Nat.rec (λ_=>Bool) true (λk ih=>bc (LB (h.get k) (h'.get k)) ih false)
theorem H_{h h':AH}:∀(n:Nat),std h h' n=true->∀x,x<n->∀o,h.get x=some o->∃t l,o= .row t l/\h'.get x=some (.row t l)
 |0,_,x,hx,_,_=>by omega
 |n+1,e,x,hx,o,ho=>by
  obtain⟨e1,e2⟩:=bY (show bc (LB (h.get n) (h'.get n)) (std h h' n) false=true from e);rcases Nat.lt_succ_iff_lt_or_eq.1 hx with q|rfl
  .exact H_ n e2 x q o ho
  .rw[ho]at e1
   unfold LB at e1;split at e1
   .rename_i q1 q2
    obtain⟨a1,a2⟩:=bY e1;cases q1
    exact⟨_,_,rfl,by rw[q2,beq_eq a1,oh _ _ a2]⟩
   .rename_i q1;cases q1
   .cases e1
section
variable {P:Program} {sl:FuncId->Sl} {θ:Th} {h h':AH} {n n':Nat} {w w':World} {v:AV} {en:Ending}
theorem wU.shrink{g:AH}(H:RH P sl θ h n w)(hg:∀x o,g.get x=some o->h.get x=some o)(R:wU P sl θ g w v h' n' en w')(hf:flt v=true)(hs:std g h' n=true):wU P sl θ h w v h n en w':=by
 obtain⟨bW,u,rfl,q1,H',F0⟩:=R;have F:=Fr.sub H hg F0;refine⟨θ,u,rfl,OQ v hf q1,⟨λx o e=>?_,H.inj,H.new,λg e=>?_⟩,F.os,F.tape,F.output,F.size,F.block,iH.refl _,λk q=>.inl q,F.kind,λx y e1 e2=>absurd e1 e2,λ_ _ e=>e⟩
 .obtain⟨r,c,obj,k1,k2,k3⟩:=H.at_ x o e
  have hx:x<n:=by
   rcases Nat.lt_or_ge x n with q|q
   .exact q
   .rw[H.new x q]at k1;cases k1
  cases hgx:g.get x with
  |some o'=>
   have:=hg x o' hgx;rw[e]at this;cases this;obtain⟨t,l,rfl,k4⟩:=H_ n hs x hx o hgx;obtain⟨r',c',Bz,g1,g2,g3⟩:=H'.at_ x _ k4;rw[F.le _ _ k1]at g1;cases g1;obtain⟨_,_,_,_,_,_,j4,_⟩:=k3;obtain⟨cs,vs,rest,i1,i2,i3,i4,i5⟩:=g3;exact⟨r,c,Bz,k1,g2,cs,vs,rest,i1,i2,i3,fE.back F.le l j4 i4,i5⟩
  |none=>
   refine⟨r,c,obj,k1,(F0.block r (bK k2) ?_).trans k2,k3⟩;rintro⟨y,d,hy,hr⟩;have hys:=gM hy;obtain⟨o',ho'⟩:=Option.isSome_iff_exists.1 hys;have:=H.inj y x r d c (by rw[hg _ _ ho'];rfl) (by rw[e];rfl) hr k1;subst this;rw[hgx]at ho';cases ho'
 .obtain⟨ty,q,e1,e2⟩:=H.gl g e
  exact⟨ty,q,(F.block g (bK e1) e2).trans e1,e2⟩
def Ns(v:AV)(h:AH)(n:Nat):fH->Bool
 | .ok v' h' _=>bc (K7 v' v) (bc (flt v) (std h h' n) false) false
 | .bad=>false
theorem XD{g:AH}(hs:std g h n=true)(hn:∀x o,g.get x=some o->x<n):∀x o,g.get x=some o->h.get x=some o:=λx o e=>by
 obtain⟨t,l,rfl,q⟩:=H_ n hs x (hn x o e) o e;exact q
theorem apart{O:OT}{k:Nat}{g:FuncId}{args:List AV}{G:AH}(hP:sF P)(hO:zV P sl O)(e:Ns v G n (iU P sl O k g args G n)=true)(hs:std G h n=true)(hn:∀x o,G.get x=some o->x<n):
 (∃fn c,P.funcs[g]?=some fn/\fn.body=some c)/\∀θ w vs,RH P sl θ h n w->fE θ args vs->Calls P g vs.toArray w (wU P sl θ h w v h n):=by
 cases hr:iU P sl O k g args G n with
 |bad=>rw[hr]at e;cases e
 |ok v' h' n'=>
  rw[hr]at e;obtain⟨e1,e⟩:=bY e;obtain⟨e2,e3⟩:=bY e;obtain rfl:=wX _ _ e1;obtain⟨q1,q2⟩:=qd hP hO k _ _ _ _ _ _ _ hr;refine⟨q1,λθ w vs H ha=>?_⟩;have hsub:=XD hs hn;exact(q2 θ w vs (H.sub hsub) ha).mono λen w' R=>R.shrink H hsub e2 e3
end
end
end
section
variable {P:Program} {Y:YT} {g:FuncId} {f:FT} {h:AH} {n k:Nat} {F:Fm} {l:List AV} {s:List It} {r:List MR} {Q:PQ} {S:SK} {d:MD} {x:Ex}
@[go_sem ↓] theorem agY:sK P Y g (k+1) [] x f h n F Q=Q x h n F:=bG rfl
@[go_sem ↓] theorem apq {id:Nat}:sK P Y g (k+1) (.b id::s) x f h n F Q=sK P Y g k s (Xp x id) f h n F Q:=bG rfl
@[go_sem ↓] theorem aeP:sK P Y g (k+1) (.c .skip::s) .bX f h n F Q=sK P Y g k s .bX f h n F Q:=bG rfl
@[go_sem ↓] theorem agZ:sK P Y g (k+1) (.c (.reg r)::s) .bX f h n F Q=sK P Y g k (.r r []::s) .bX f h n F Q:=bG rfl
@[go_sem ↓] theorem ag1 {a b:MC}:sK P Y g (k+1) (.c (.seq a b)::s) .bX f h n F Q=sK P Y g k (.c a:: .c b::s) .bX f h n F Q:=bG rfl
@[go_sem ↓] theorem aeQ {c:MO} {a b:MC}:sK P Y g (k+1) (.c (.cond c a b)::s) .bX f h n F Q=kB (sK P Y g k) (ev c F []) a b s f h n F Q:=bG rfl
@[go_sem ↓] theorem ag2 {id:Nat} {a:MC}:sK P Y g (k+1) (.c (.blk id a)::s) .bX f h n F Q=sK P Y g k (.c a:: .b id::s) .bX f h n F Q:=bG rfl
@[go_sem ↓] theorem aeR {id:Nat}:sK P Y g (k+1) (.c (.exit id)::s) .bX f h n F Q=sK P Y g k s (.exit id) f h n F Q:=bG rfl
@[go_sem ↓] theorem ag3:sK P Y g (k+1) (.c .ret::s) .bX f h n F Q=sK P Y g k s .ret f h n F Q:=bG rfl
@[go_sem ↓] theorem aeS {a:MC}:sK P Y g (k+1) (.c (.loop a)::s) .bX f h n F Q=SM P Y g (.c (.loop a)::s) .bX f h n F Q:=bG rfl
@[go_sem ↓] theorem ag4 {a:MO} {b:List Tmp} {c d:Code}:sK P Y g (k+1) (.c (.rng a b c d)::s) .bX f h n F Q=SM P Y g (.c (.rng a b c d)::s) .bX f h n F Q:=bG rfl
@[go_sem ↓] theorem ag5 {a:Nat} {b:List MQ} {c:List (Nat×Nat)} {d:List (Nat×Tmp)}:sK P Y g (k+1) (.c (.zW a b c d)::s) .bX f h n F Q=SM P Y g (.c (.zW a b c d)::s) .bX f h n F Q:=bG rfl
@[go_sem ↓] theorem alE {id:Nat} {m:MC}:sK P Y g (k+1) (.c m::s) (.exit id) f h n F Q=sK P Y g k s (.exit id) f h n F Q:=bG rfl
@[go_sem ↓] theorem alF {m:MC}:sK P Y g (k+1) (.c m::s) .ret f h n F Q=sK P Y g k s .ret f h n F Q:=bG rfl
@[go_sem ↓] theorem alG:sK P Y g (k+1) (.r [] l::s) x f h n F Q=sK P Y g k s x f h n F Q:=bG rfl
@[go_sem ↓] theorem alH {i:MI}:sK P Y g (k+1) (.r (⟨none,i,d⟩::r) l::s) .bX f h n F Q=jP P Y (sK P Y g k) i d r l s f h n F Q:=bG rfl
def kW(P:Program)(Y:YT)(S:SK)(o:Option AV)(w:Bool)(i:MI)(d:MD)(r:List MR)(l:List AV)(s:List It)(f:FT)(h:AH)(n:Nat)(F:Fm)(Q:PQ):Prop:=match o with
 |some (.b x)=>kG S (some (w==x)) i d r l s f h n F Q (jP P Y)
 |some (.bJ _)=>mG S d (.bJ []) r l s f h n F Q
 |_=>False
@[go_sem ↓] theorem alI {a:MO} {w:Bool} {i:MI}:sK P Y g (k+1) (.r (⟨some (a,w),i,d⟩::r) l::s) .bX f h n F Q=kW P Y (sK P Y g k) (ev a F l) w i d r l s f h n F Q:=by
 show kG (sK P Y g k) (gO (some (a,w)) F l) i d r l s f h n F Q (jP P Y)=_;unfold gO kW;dsimp only;cases ev a F l with
 |none=>rfl
 |some v=>cases v<;>rfl
@[go_sem] theorem apr {i:MI} {w:Bool} {c:List AV}:kW P Y S (some (.bJ c)) w i d r l s f h n F Q=mG S d (.bJ []) r l s f h n F Q:=bG rfl
@[go_sem] theorem alJ {i:MI}:kW P Y S (some (.b true)) true i d r l s f h n F Q=jP P Y S i d r l s f h n F Q:=bG rfl
@[go_sem] theorem alK {i:MI}:kW P Y S (some (.b false)) false i d r l s f h n F Q=jP P Y S i d r l s f h n F Q:=bG rfl
@[go_sem] theorem alL {i:MI}:kW P Y S (some (.b true)) false i d r l s f h n F Q=mG S d (.bJ []) r l s f h n F Q:=bG rfl
@[go_sem] theorem alM {i:MI}:kW P Y S (some (.b false)) true i d r l s f h n F Q=mG S d (.bJ []) r l s f h n F Q:=bG rfl
@[go_sem] theorem aps {a b:MC}:kB S (some (.b true)) a b s f h n F Q=S (.c a::s) .bX f h n F Q:=bG rfl
@[go_sem] theorem apt {a b:MC}:kB S (some (.b false)) a b s f h n F Q=S (.c b::s) .bX f h n F Q:=bG rfl
@[go_sem] theorem alN {v:AV}:mG S .n v r l s f h n F Q=S (.r r l::s) .bX f h n F Q:=bG rfl
@[go_sem] theorem alO {v:AV}:mG S .l v r l s f h n F Q=S (.r r (v::l)::s) .bX f h n F Q:=bG rfl
def kP(S:SK)(G:Fm)(r:List MR)(l:List AV)(s:List It)(f:FT)(h:AH)(n:Nat)(Q:PQ):Prop:=S (.r r l::s) .bX f h n G Q
@[go_sem ↓] theorem alP {v:AV} {e:Nat}:mG S (.k e) v r l s f h n F Q=kP S (pt F e v) r l s f h n Q:=bG rfl
@[go_sem] theorem apu:kP S F r l s f h n Q=S (.r r l::s) .bX f h n F Q:=rfl
@[go_sem] theorem apv {v:AV}:kS S (some v) d r l s f h n F Q=mG S d v r l s f h n F Q:=bG rfl
@[go_sem] theorem apw {c:List AV} {e:TypeId} {v:AV}:kC S (some c) e v d r l s f h n F Q=mG S d v r l s f (h.set n (.row e c)) (n+1) F Q:=bG rfl
@[go_sem] theorem apx {b:Nat} {a:AO}:kH S b (some a) d r l s f h n F Q=mG S d (.bJ []) r l s f (h.set b a) n F Q:=bG rfl
@[go_sem] theorem apy {b o:Nat} {u:Option (List AV)}:kT S (some (.p b o)) u d r l s f h n F Q=kH S b (fQ (h.get b) o u) d r l s f h n F Q:=bG rfl
theorem DX{q:FuncId}{cap c:List AV}:kF Y S (some (.f q cap)) (some c) d r l s f h n F Q=CW f q (c++cap) h n λv h n=>mG S d v r l s f h n F Q:=rfl
theorem sI{q:Nat}{c:List AV}:kF Y S (some (.y q)) (some c) d r l s f h n F Q=RW (Y q c f h n) λv h n=>mG S d v r l s f h n F Q:=rfl
@[go_sem ↓] theorem ag6 {e:TypeId} {z:List AV}:jP P Y S (.al e z) d r l s f h n F Q=kC S (some z) e (.p n 0) d r l s f h n F Q:=bG rfl
@[go_sem ↓] theorem aeT {e w:Nat} {x:MO}:jP P Y S (.box e w x) d r l s f h n F Q=kC S (Lv w (ev x F l)) e (.p n 0) d r l s f h n F Q:=bG rfl
@[go_sem ↓] theorem aeU {e len:Nat} {z:List AV} {fs:List (Nat×Nat×MO)}:jP P Y S (.Nn e len z fs) d r l s f h n F Q=kC S (colE fs F l z) e (.sl n 0 0 len (some len)) d r l s f h n F Q:=bG rfl
@[go_sem ↓] theorem ag7 {w:Nat} {a x:MO}:jP P Y S (.st w a x) d r l s f h n F Q=kT S (ev a F l) (Lv w (ev x F l)) d r l s f h n F Q:=bG rfl
@[go_sem ↓] theorem aeV:jP P Y S .Om d r l s f h n F Q=mG S d (.m n) r l s f (h.set n (.mp [] 0)) (n+1) F Q:=bG rfl
@[go_sem ↓] theorem aeW {w:Nat} {x i:MO}:jP P Y S (.je w x i) d r l s f h n F Q=Vq S w (ev x F l) (ev i F l) d r l s f h n F Q:=bG rfl
@[go_sem ↓] theorem aa5 {q:MO} {c:List MO}:jP P Y S (.call q c) d r l s f h n F Q=kF Y S (ev q F l) (evs c F l) d r l s f h n F Q:=bG rfl
@[go_sem ↓] theorem ag8 {x:MO}:jP P Y S (.mv x) d r l s f h n F Q=kS S (ev x F l) d r l s f h n F Q:=bG rfl
@[go_sem ↓] theorem aa6 {c a b:MO}:jP P Y S (.pick c a b) d r l s f h n F Q=kS S (xZ (ev c F l) (ev a F l) (ev b F l)) d r l s f h n F Q:=bG rfl
@[go_sem ↓] theorem aeX {z:List AV} {fs:List (Nat×Nat×MO)}:jP P Y S (.Ki z fs) d r l s f h n F Q=kS S ((colE fs F l z).map .agg) d r l s f h n F Q:=bG rfl
@[go_sem ↓] theorem ag9 {w:Option Nat} {a:MO}:jP P Y S (.ld w a) d r l s f h n F Q=kS S (Vn h (ev a F l) w) d r l s f h n F Q:=bG rfl
@[go_sem ↓] theorem aeY {op:BinOp} {ty:TypeId} {x y:MO}:jP P Y S (.bin op ty x y) d r l s f h n F Q=kS S (b2O P op ty (ev x F l) (ev y F l)) d r l s f h n F Q:=bG rfl
@[go_sem ↓] theorem aeZ {x:MO}:jP P Y S (.not x) d r l s f h n F Q=kS S (Oz (ev x F l)) d r l s f h n F Q:=bG rfl
@[go_sem ↓] theorem ag_ {o:Nat} {x:MO}:jP P Y S (.fa o x) d r l s f h n F Q=kS S (faO o (ev x F l)) d r l s f h n F Q:=bG rfl
@[go_sem ↓] theorem ae0 {w:Option Nat} {o:Nat} {x:MO}:jP P Y S (.Vh w o x) d r l s f h n F Q=kS S (OA w o (ev x F l)) d r l s f h n F Q:=bG rfl
@[go_sem ↓] theorem ae1 {ty:TypeId} {x:MO}:jP P Y S (.Ve ty x) d r l s f h n F Q=kS S ((ev x F l).map (.wI ty)) d r l s f h n F Q:=bG rfl
@[go_sem ↓] theorem ae2 {q:FuncId} {cs:List MO}:jP P Y S (.Hw q cs) d r l s f h n F Q=kS S ((evs cs F l).map (.f q)) d r l s f h n F Q:=bG rfl
@[go_sem ↓] theorem ae3 {x:MO} {i:Nat}:jP P Y S (.ext x i) d r l s f h n F Q=kS S (OC i (ev x F l)) d r l s f h n F Q:=bG rfl
@[go_sem ↓] theorem aa7 {x:MO}:jP P Y S (.Fh x) d r l s f h n F Q=kS S (lnS (ev x F l)) d r l s f h n F Q:=bG rfl
@[go_sem ↓] theorem ae4 {x:MO}:jP P Y S (.neg x) d r l s f h n F Q=kS S (ngO (ev x F l)) d r l s f h n F Q:=bG rfl
@[go_sem ↓] theorem ae5 {x:MO} {k:IntKind}:jP P Y S (.Ol k x) d r l s f h n F Q=kS S (cvO k (ev x F l)) d r l s f h n F Q:=bG rfl
@[go_sem ↓] theorem ae6 {x:MO}:jP P Y S (.Vd x) d r l s f h n F Q=kS S (csO (ev x F l)) d r l s f h n F Q:=bG rfl
@[go_sem ↓] theorem ae7 {x:MO}:jP P Y S (.Vb x) d r l s f h n F Q=kS S (HY (ev x F l)) d r l s f h n F Q:=bG rfl
@[go_sem ↓] theorem ae8 {w:Nat} {x:MO} {lo hi:Option MO}:jP P Y S (.Vf w x lo hi) d r l s f h n F Q=kS S (Vo w (ev x F l) (Bt lo F l) (Bt hi F l)) d r l s f h n F Q:=bG rfl
@[go_sem ↓] theorem ae9 {x:MO} {lo hi:Option MO}:jP P Y S (.RG x lo hi) d r l s f h n F Q=kS S (ssO (ev x F l) (Bt lo F l) (Bt hi F l)) d r l s f h n F Q:=bG rfl
@[go_sem ↓] theorem aa8 {x:MO}:jP P Y S (.Fj x) d r l s f h n F Q=kS S (lmO h (ev x F l)) d r l s f h n F Q:=bG rfl
@[go_sem ↓] theorem aa9 {kt:TypeId} {z:Option AV} {x k:MO} {ok:Bool}:jP P Y S (.look kt z x k ok) d r l s f h n F Q=kS S (Xj P kt z ok h (ev x F l) (ev k F l)) d r l s f h n F Q:=bG rfl
@[go_sem ↓] theorem ae_ {w m:Nat} {x k:MO}:jP P Y S (.Sq w m x k) d r l s f h n F Q=kS S (OG w m (ev x F l) (ev k F l)) d r l s f h n F Q:=bG rfl
@[go_sem ↓] theorem afa {x k:MO}:jP P Y S (.Br x k) d r l s f h n F Q=kS S (OH (ev x F l) (ev k F l)) d r l s f h n F Q:=bG rfl
@[go_sem ↓] theorem afb {lw:Option Nat} {w m:Nat} {x k:MO}:jP P Y S (.Xd lw w m x k) d r l s f h n F Q=kS S (Xn lw w m (ev x F l) (ev k F l)) d r l s f h n F Q:=bG rfl
@[go_sem ↓] theorem afc {w m:Nat} {x:MO} {lo hi:Option MO}:jP P Y S (.Vg w m x lo hi) d r l s f h n F Q=kS S (Lx w m (ev x F l) (Bt lo F l) (Bt hi F l)) d r l s f h n F Q:=bG rfl
@[go_sem ↓] theorem aa_ {m:Nat} {x:MO}:jP P Y S (.Hy m x) d r l s f h n F Q=kS S ((ev x F l).map λ_=>.i .i64 (m:Nat)) d r l s f h n F Q:=bG rfl
@[go_sem ↓] theorem aha {x y:MO}:jP P Y S (.mx x y) d r l s f h n F Q=kS S (mxO (ev x F l) (ev y F l)) d r l s f h n F Q:=bG rfl
@[go_sem ↓] theorem ahb {x y:MO}:jP P Y S (.mn x y) d r l s f h n F Q=kS S (mnO (ev x F l) (ev y F l)) d r l s f h n F Q:=bG rfl
@[go_sem ↓] theorem afd {x:MO}:jP P Y S (.Np x) d r l s f h n F Q=kS S (Xm h (ev x F l)) d r l s f h n F Q:=bG rfl
@[go_sem ↓] theorem afe {e w:Nat} {x y:MO}:jP P Y S (.app e w x y) d r l s f h n F Q=kR S (SA e w h n (ev x F l) (ev y F l)) d r l s f F Q:=bG rfl
@[go_sem ↓] theorem aff {w:Nat} {x y:MO}:jP P Y S (.Vi w x y) d r l s f h n F Q=kR S (Xt w h n (ev x F l) (ev y F l)) d r l s f F Q:=bG rfl
@[go_sem ↓] theorem afg {kt:TypeId} {m k x:MO}:jP P Y S (.upd kt m k x) d r l s f h n F Q=kR S (Xu P kt h n (ev m F l) (ev k F l) (ev x F l)) d r l s f F Q:=bG rfl
@[go_sem ↓] theorem afh {e:TypeId} {z:List AV} {x y:MO}:jP P Y S (.Lr e z x y) d r l s f h n F Q=kR S (msO e z h n (ev x F l) (ev y F l)) d r l s f F Q:=bG rfl
@[go_sem] theorem ahc {v:AV} {h':AH} {n':Nat}:kR S (some (.ok v h' n')) d r l s f F Q=mG S d v r l s f h' n' F Q:=bG rfl
@[go_sem] theorem abb {e w:Nat} {x y:AV}:SA e w h n (some x) (some y)=some ((jS e w).run h n x y):=rfl
@[go_sem] theorem alQ {w:Nat} {x y:AV}:Xt w h n (some x) (some y)=some (sV w h n x y):=rfl
@[go_sem] theorem alR {kt:TypeId} {m k x:AV}:Xu P kt h n (some m) (some k) (some x)=some (CU (su P 30 kt) (yX P 30 kt) h n m k x):=rfl
@[go_sem] theorem alS {k:IntKind} {v:Int}:ngO (some (.i k v))=some (.i k (gN k (0 - v))):=rfl
@[go_sem] theorem alT {k j:IntKind} {v:Int}:cvO k (some (.i j v))=some (.i k (gN k v)):=rfl
@[go_sem] theorem alU {c:List UInt8}:csO (some (.s c))=some (.s c):=rfl
@[go_sem] theorem ahd {b o:Nat}:HY (some (.p b o))=some (.p b o):=rfl
@[go_sem] theorem ahe {q:FuncId} {c:List AV}:HY (some (.f q c))=some (.f q c):=rfl
@[go_sem] theorem ahf {q:Nat}:HY (some (.y q))=some (.y q):=rfl
@[go_sem] theorem alV:Bt none F l=some none:=rfl
def evj(a:Option AV):Option (Option Int):=match a with|some (.i _ n)=>some (some n)|_=>none
@[go_sem] theorem alX {k:IntKind} {v:Int}:evj (some (.i k v))=some (some v):=rfl
@[go_sem] theorem alY {x:MO}:Bt (some x) F l=evj (ev x F l):=rfl
@[go_sem] theorem alZ {kt:TypeId} {z:Option AV} {ok:Bool} {x k:AV}:Xj P kt z ok h (some x) (some k)=lookO (su P 30 kt) (yX P 30 kt) z ok h x k:=rfl
@[go_sem ↓] theorem abd {x:MO}:jP P Y S (.ig x) d r l s f h n F Q=kS S (GA (ev x F l)) d r l s f h n F Q:=bG rfl
@[go_sem] theorem al0 {id:Nat}:Xp .bX id= .bX:=rfl
@[go_sem] theorem al1 {id:Nat}:Xp .ret id= .ret:=rfl
@[go_sem] theorem al2 {j id:Nat}:Xp (.exit j) id=if j=id then .bX else .exit j:=rfl
@[go_sem] theorem al3 {rs:List MS} {Q:AV->AH->Nat->Prop}:Kn rs Q .ret h n F=Xz (rsE rs F h) h n Q:=bG rfl
@[go_sem] theorem al4 {rs:List MS} {Q:AV->AH->Nat->Prop}:Kn rs Q .bX h n F=Xz (rsE rs F h) h n Q:=bG rfl
@[go_sem] theorem al5 {c:List AV} {Q:AV->AH->Nat->Prop}:Xz (some c) h n Q=Q (rsV c) h n:=bG rfl
@[go_sem] theorem al6 {a:AV}:rsV [a]=a:=rfl
@[go_sem] theorem al7:rsV []= .bJ []:=rfl
@[go_sem] theorem al8 {a b:AV} {c:List AV}:rsV (a::b::c)= .bJ (a::b::c):=rfl
theorem vD{I:Nat->AH->Nat->Fm->Prop}{i:Nat}:ZU P Y g I i s f Q .bX h n F=∃j G,j<i/\I j h n G/\∀m v,lk G m=some v->lk F m=some v:=rfl
@[go_sem ↓] theorem al9 {I:Nat->AH->Nat->Fm->Prop} {i j:Nat}:ZU P Y g I i s f Q (.exit j) h n F=sK P Y g 100000 s (.exit j) f h n F Q:=bG rfl
@[go_sem ↓] theorem al_ {I:Nat->AH->Nat->Fm->Prop} {i:Nat}:ZU P Y g I i s f Q .ret h n F=sK P Y g 100000 s .ret f h n F Q:=bG rfl
end
section
variable {h:AH} {w:Option Nat}
@[go_sem] theorem afi {a b:Option AV}:xZ (some (.b true)) a b=a:=rfl
@[go_sem] theorem afj {a b:Option AV}:xZ (some (.b false)) a b=b:=rfl
@[go_sem] theorem ama {x k:Nat}:Vn h (some (.p x k)) w=pG (h.get x) k w:=rfl
@[go_sem] theorem amb {P:Program} {op:BinOp} {ty:TypeId} {a b:AV}:b2O P op ty (some a) (some b)=(eB P ty op).run a b:=rfl
@[go_sem] theorem ahg {b:Bool}:Oz (some (.b b))=some (.b (!b)):=rfl
@[go_sem] theorem amc {o b k:Nat}:faO o (some (.p b k))=some (.p b (k+o)):=rfl
@[go_sem] theorem ahh {o:Nat} {c:List AV}:OA w o (some (.agg c))=Nq w c o:=rfl
@[go_sem] theorem amd {c:List UInt8}:lnS (some (.s c))=some (.i .i64 (c.length:Nat)):=rfl
theorem Ca{v:AV}{m:Nat}(e:Sz v=some m):GA (some v)=some (.i .i64 (m:Nat)):=by unfold GA;dsimp only;rw[e]
@[go_sem] theorem ame {w:Nat} {v:AV}:Lv w (some v)=(match pO v with|some c=>if c.length=w then some c else none|none=>none):=rfl
@[go_sem] theorem abe {t:TypeId} {l u:List AV} {o:Nat}:fQ (some (.row t l)) o (some u)=(pI u o l).map (.row t):=by
 show(match pI u o l with|some m=>some (AO.row t m)|none=>none)=_;cases pI u o l<;>rfl
end
def nv:List AV->Nat->Option AV
 |[],_=>none
 |a::_,0=>some a
 |_::l,k+1=>nv l k
theorem tF:∀(l:List AV)(k:Nat),nv l k=l[k]?
 |[],k=>by simp[nv]
 |a::l,0=>rfl
 |a::l,k+1=>by simp[nv,tF l k]
@[go_sem] theorem apz {a:AV} {l:List AV}:nv (a::l) 0=some a:=rfl
@[go_sem] theorem apA {a:AV} {l:List AV} {k:Nat}:nv (a::l) (k+1)=nv l k:=rfl
@[go_sem] theorem ahi {k:Nat} {c:List AV}:OC k (some (.bJ c))=nv c k:=(tF c k).symm
@[go_sem] theorem apB {k:Nat} {F:Fm} {l:List AV}:ev (.s k) F l=lk F k:=rfl
@[go_sem] theorem apC {k:Nat} {F:Fm} {l:List AV}:ev (.v k) F l=nv l k:=(tF l k).symm
@[go_sem] theorem apD {a:AV} {F:Fm} {l:List AV}:ev (.c a) F l=some a:=rfl
@[go_sem] theorem afk {F:Fm} {l:List AV}:evs [] F l=some []:=rfl
def DY(a:Option AV)(b:Option (List AV)):Option (List AV):=match a,b with|some a,some b=>some (a::b)|_,_=>none
@[go_sem] theorem ahj {a:AV} {b:List AV}:DY (some a) (some b)=some (a::b):=rfl
@[go_sem] theorem abf {x:MO} {r:List MO} {F:Fm} {l:List AV}:evs (x::r) F l=DY (ev x F l) (evs r F l):=by
 rw[evs];unfold DY;cases ev x F l with
 |none=>rfl
 |some a=>cases evs r F l<;>rfl
@[go_sem] theorem afl {F:Fm} {h:AH}:rsE [] F h=some []:=rfl
@[go_sem] theorem abg {r:MS} {l:List MS} {F:Fm} {h:AH}:rsE (r::l) F h=DY (H6 r F h) (rsE l F h):=by
 rw[rsE];unfold DY;cases H6 r F h with
 |none=>rfl
 |some a=>cases rsE l F h<;>rfl
@[go_sem] theorem ahk {k:Nat} {F:Fm} {h:AH}:H6 (.t k) F h=lk F k:=rfl
@[go_sem] theorem ahl {k:Nat} {w:Option Nat} {F:Fm} {h:AH}:H6 (.c k w) F h=Vn h (lk F k) w:=rfl
@[go_sem] theorem ahm {k:Nat}:lk [] k=none:=rfl
@[go_sem] theorem SN {j k:Nat} {v:AV} {r:Fm}:lk ((j,v)::r) k=if k=j then some v else lk r k:=rfl
@[go_sem] theorem ahn {k:Nat} {v:AV}:pt [] k v=[(k,v)]:=rfl
@[go_sem] theorem afm {j k:Nat} {u v:AV} {r:Fm}:pt ((j,u)::r) k v=if k=j then(k,v)::r else(j,u)::pt r k v:=rfl
@[go_sem] theorem aho {k:Nat} {bs:List Bool} {v:AV} {l:List AV}:yR k (true::bs) (v::l)=(k,v)::yR (k+1) bs l:=rfl
@[go_sem] theorem ahp {k:Nat} {bs:List Bool} {v:AV} {l:List AV}:yR k (false::bs) (v::l)=yR (k+1) bs l:=rfl
@[go_sem] theorem ahq {k:Nat}:yR k [] []=[]:=rfl
theorem aO{F:Fm}:∀m v,lk [] m=some v->lk F m=some v:=λ_ _ e=>by cases e
theorem aM{F:Fm}{k:Nat}{u:AV}{r:Fm}(h:lk F k=some u)(q:∀m v,lk r m=some v->lk F m=some v):∀m v,lk ((k,u)::r) m=some v->lk F m=some v:=λm v e=>by
 rw[SN]at e;split at e
 .cases e;subst_vars;exact h
 .exact q m v e
@[go_sem] theorem amf {k:IntKind} {n:Int}:pO (.i k n)=some [.i k n]:=rfl
@[go_sem] theorem amg {b:Bool}:pO (.b b)=some [.b b]:=rfl
@[go_sem] theorem amh {b:List UInt8}:pO (.s b)=some [.s b]:=rfl
@[go_sem] theorem ami {b o:Nat}:pO (.p b o)=some [.p b o]:=rfl
@[go_sem] theorem ahr {b l o n:Nat} {c:Option Nat}:pO (.sl b l o n c)=some [.sl b l o n c]:=rfl
@[go_sem] theorem amj {b:Nat}:pO (.m b)=some [.m b]:=rfl
@[go_sem] theorem amk {g:FuncId} {c:List AV}:pO (.f g c)=some [.f g c]:=rfl
@[go_sem] theorem aml {b:Nat}:pO (.y b)=some [.y b]:=rfl
@[go_sem] theorem amm {c:Nat}:pO (.k c)=some [.k c]:=rfl
@[go_sem] theorem ahs {a:Addr} {c:Nat}:pO (.es a c)=some [.es a c]:=rfl
@[go_sem] theorem afn {c:List AV}:pO (.agg c)=some c:=rfl
theorem SR.cl{h:AH}{n w:Nat}{v:AV}{len:Nat}{cells:List AV}(s:SR h n w v len cells):pO v=some [v]:=by
 rcases s with⟨rfl,rfl,_⟩|⟨x,lo,o,c,rfl,_⟩|⟨a,c,rfl,_⟩<;>rfl
def tk:Nat->List AV->Option (List AV)
 |0,_=>some []
 |_+1,[]=>none
 |k+1,a::l=>DY (some a) (tk k l)
theorem Vr:∀(k:Nat)(l:List AV),tk k l=if k<=l.length then some (l.take k)else none
 |0,l=>by simp[tk]
 |k+1,[]=>by simp[tk]
 |k+1,a::l=>by
  rw[tk,Vr k l];by_cases h:k<=l.length
  .rw[if_pos h,if_pos (by simpa using h)];rfl
  .rw[if_neg h,if_neg (by simpa using h)];rfl
def SQ:Nat->Nat->List AV->Option (List AV)
 |0,k,l=>tk k l
 |_+1,_,[]=>none
 |o+1,k,_::l=>SQ o k l
theorem OU:∀(o k:Nat)(l:List AV),0<k->SQ o k l=if o+k<=l.length then some ((l.drop o).take k)else none
 |0,k,l,_=>by rw[SQ,Vr];simp
 |o+1,k,[],h=>by rw[SQ,if_neg (by simp)]
 |o+1,k,a::l,h=>by
  rw[SQ,OU o k l h];simp only[List.length_cons,List.drop_succ_cons,show o+1+k<=l.length+1↔o+k<=l.length by omega]
@[go_sem] theorem apE {l:List AV}:tk 0 l=some []:=by cases l<;>rfl
@[go_sem] theorem apF {a:AV} {l:List AV} {k:Nat}:tk (k+1) (a::l)=DY (some a) (tk k l):=rfl
@[go_sem] theorem amn {l:List AV} {k:Nat}:SQ 0 k l=tk k l:=by cases l<;>rfl
@[go_sem] theorem amo {a:AV} {l:List AV} {o k:Nat}:SQ (o+1) k (a::l)=SQ o k l:=rfl
@[go_sem] theorem abh {t:TypeId} {l:List AV} {o:Nat}:pG (some (.row t l)) o none=nv l o:=(tF l o).symm
@[go_sem] theorem amq {t:TypeId} {l:List AV} {o k:Nat}:pG (some (.row t l)) o (some (k+1))=(SQ o (k+1) l).map .agg:=by
 rw[OU _ _ _ (by omega)];show(if o+(k+1)<=l.length then some (AV.agg ((l.drop o).take (k+1)))else none)=_;split<;>rfl
@[go_sem] theorem amr {l:List AV} {o:Nat}:Nq none l o=nv l o:=by rw[tF];exact nV o l
attribute [go_sem] Option.map_some
def st1:Nat->AV->List AV->Option (List AV)
 |_,_,[]=>none
 |0,v,_::l=>some (v::l)
 |o+1,v,a::l=>DY (some a) (st1 o v l)
theorem uh:∀(o:Nat)(v:AV)(l:List AV),st1 o v l=pI [v] o l
 |o,v,[]=>by simp[st1,pI]
 |0,v,a::l=>by simp[st1,pI]
 |o+1,v,a::l=>by
  rw[st1,uh o v l];unfold pI;by_cases h:o+1<=l.length
  .simp[h,DY,show o+1+1<=l.length+1 by omega]
  .simp[h,DY]
@[go_sem] theorem ams {o:Nat} {v:AV} {l:List AV}:pI [v] o l=st1 o v l:=(uh o v l).symm
@[go_sem] theorem amt {v a:AV} {l:List AV}:st1 0 v (a::l)=some (v::l):=rfl
@[go_sem] theorem amu {v a:AV} {l:List AV} {o:Nat}:st1 (o+1) v (a::l)=DY (some a) (st1 o v l):=rfl
theorem abj{u l:List AV}(h:u.length=l.length):pI u 0 l=some u:=by
 unfold pI;rw[if_pos (by omega)];simp[h]
def SS:List AV->List AV->Option (List AV)
 |[],l=>some l
 |_::_,[]=>none
 |a::u,_::l=>DY (some a) (SS u l)
theorem OV:∀(u l:List AV),SS u l=pI u 0 l
 |[],l=>by simp[SS,pI]
 |a::u,[]=>by simp[SS,pI]
 |a::u,c::l=>by
  rw[SS,OV u l];unfold pI;by_cases h:u.length<=l.length
  .simp[h,DY]
  .simp[h,DY]
@[go_sem] theorem amv {l:List AV}:SS [] l=some l:=by cases l<;>rfl
@[go_sem] theorem amw {a c:AV} {u l:List AV}:SS (a::u) (c::l)=DY (some a) (SS u l):=rfl
@[go_sem] theorem aht {a b c:AV} {u l:List AV}:pI (a::b::u) 0 (c::l)=SS (a::b::u) (c::l):=(OV _ _).symm
@[go_sem] theorem ahu {a b c:AV} {u l:List AV} {o:Nat}:pI (a::b::u) (o+1) (c::l)=DY (some c) (pI (a::b::u) o l):=by
 unfold pI;by_cases h:o+(a::b::u).length<=l.length
 .rw[if_pos h,if_pos (by simp at h⊢;omega)]
  simp[DY,show o+1+(u.length+1+1)=o+(u.length+1+1)+1 by omega]
 .rw[if_neg h,if_neg (by simp at h⊢;omega)];rfl
attribute [go_sem] List.length_cons List.length_nil
@[go_sem] theorem vE {t:AH} {n:Nat} {v:AO}:(t.set n v).get n=some v:=aF
@[go_sem] theorem ZV {t:AH} {n m:Nat} {v:AO} (h:m≠n):(t.set n v).get m=t.get m:=au h
section
variable {P:Program} {ty:TypeId} {a b:Int}
@[go_sem] theorem SV:(eB P ty .lss).run (.i .i64 a) (.i .i64 b)=some (.b (decide (a<b))):=by
 show bc true (some (AV.b (qY (mo b a)))) none=_;rw[bD,jL,eZ];congr 2;by_cases h:a<b<;>simp[h]<;>omega
@[go_sem] theorem afo:(eB P ty .leq).run (.i .i64 a) (.i .i64 b)=some (.b (decide (a<=b))):=by
 show bc true (some (AV.b (mo a b))) none=_;rw[bD,eZ]
@[go_sem] theorem afp:(eB P ty .gtr).run (.i .i64 a) (.i .i64 b)=some (.b (decide (b<a))):=by
 show bc true (some (AV.b (qY (mo a b)))) none=_;rw[bD,jL,eZ];congr 2;by_cases h:b<a<;>simp[h]<;>omega
@[go_sem] theorem afq:(eB P ty .geq).run (.i .i64 a) (.i .i64 b)=some (.b (decide (b<=a))):=by
 show bc true (some (AV.b (mo b a))) none=_;rw[bD,eZ]
@[go_sem] theorem afr:(eB P ty .eql).run (.i .i64 a) (.i .i64 b)=some (.b (decide (a=b))):=by
 show bc true (some (AV.b (gu a b))) none=_;rw[bD,dz]
@[go_sem] theorem afs:(eB P ty .neq).run (.i .i64 a) (.i .i64 b)=some (.b (!decide (a=b))):=by
 show bc true (some (AV.b (qY (gu a b)))) none=_;rw[bD,jL,dz]
@[go_sem] theorem SX:(eB P ty .add).run (.i .i64 a) (.i .i64 b)=some (.i .i64 (gN .i64 (a+b))):=rfl
@[go_sem] theorem aft:(eB P ty .sub).run (.i .i64 a) (.i .i64 b)=some (.i .i64 (gN .i64 (a - b))):=rfl
@[go_sem] theorem afu:(eB P ty .mul).run (.i .i64 a) (.i .i64 b)=some (.i .i64 (gN .i64 (a*b))):=rfl
theorem dI{x:Int}(h1: -9223372036854775808<=x)(h2:x<=9223372036854775807):gN .i64 x=x:=by
 unfold gN;rw[eZ,eZ,show IntKind.i64.min= -9223372036854775808 from by decide,show IntKind.i64.max=9223372036854775807 from by decide];simp[h1,h2,bc]
end
end Go.Proofs.YtfnnplicbjeifaaGreatDoor

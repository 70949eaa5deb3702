/- part -/
import Derived.RangeFuncLeaves
import Derived.RowKit3
import Derived.Lib.ItoaNum
import Derived.Lib.LaidTab
set_option linter.all false
namespace Go.Proofs.YtjoohkjmoghmoaaGreatDoor
section
noncomputable section
inductive Tr (α:Type) where
 |z
 |nd (l:Tr α) (v:Option α) (r:Tr α)
def rD(n:Nat):Bool:=Nat.beq (Nat.mod n 2) 1
def bc{α:Type}(c:Bool)(a b:α):α:=@Bool.rec (λ_=>α) b a c
def Tr.get{α:Type}(t:Tr α):Nat->Option α:=
 @Tr.rec α (λ_=>Nat->Option α) (λ_=>none)
  (λ_ v _ gl gr n=>bc (Nat.beq n 0) v (bc (rD n) (gl (Nat.div n 2)) (gr (Nat.sub (Nat.div n 2) 1)))) t
def Tr.one{α:Type}(v:Option α)(k:Nat):Nat->Tr α:=
 @Nat.rec (λ_=>Nat->Tr α) (λ_=>.nd .z v .z)
  (λ_ ih n=>bc (Nat.beq n 0) (.nd .z v .z) (bc (rD n) (.nd (ih (Nat.div n 2)) none .z) (.nd .z none (ih (Nat.sub (Nat.div n 2) 1))))) k
def Tr.put{α:Type}(v:Option α)(t:Tr α):Nat->Tr α:=
 @Tr.rec α (λ_=>Nat->Tr α) (λn=>Tr.one v n n)
  (λl u r pl pr n=>bc (Nat.beq n 0) (.nd l v r) (bc (rD n) (.nd (pl (Nat.div n 2)) u r) (.nd l u (pr (Nat.sub (Nat.div n 2) 1))))) t
def Tr.set{α:Type}(t:Tr α)(n:Nat)(v:α):Tr α:=t.put (some v) n
def Tr.del{α:Type}(t:Tr α)(n:Nat):Tr α:=t.put none n
theorem Tr.iE{α:Type}(n:Nat):(Tr.z:Tr α).get n=none:=rfl
theorem Tr.d9{α:Type}(l r:Tr α)(v:Option α)(n:Nat):(Tr.nd l v r).get n=if n=0 then v else if n % 2=1 then l.get (n/2)else r.get (n/2 - 1):=by
 show bc (Nat.beq n 0) v (bc (rD n) (l.get (n/2)) (r.get (n/2 - 1)))=_;unfold bc rD;by_cases h:n=0
 .subst h;rfl
 .have h1:Nat.beq n 0=false:=by cases n<;>simp_all [Nat.beq]
  rw[h1,if_neg h];by_cases h2:n % 2=1
  .rw[if_pos h2,show Nat.mod n 2=1 from h2];rfl
  .have h3:n % 2=0:=by omega
   rw[if_neg h2,show Nat.mod n 2=0 from h3];rfl
theorem Tr.Au{α:Type}(v:Option α):∀(f n m:Nat),n<2 ^ f->(Tr.one v f n).get m=if m=n then v else none
 |0,n,m,h=>by
  obtain rfl:n=0:=by simpa using h
  show(Tr.nd .z v .z).get m=_;rw[d9];split<;>simp_all [iE]
 |f+1,n,m,h=>by
  show(bc (Nat.beq n 0) (Tr.nd .z v .z) (bc (rD n) (.nd (Tr.one v f (n/2)) none .z) (.nd .z none (Tr.one v f (n/2 - 1))))).get m=_;unfold bc rD;rw[Nat.pow_succ]at h;by_cases h0:n=0
  .subst h0
   show(Tr.nd .z v .z).get m=_;rw[d9];split<;>simp_all [iE]
  .have h1:Nat.beq n 0=false:=by cases n<;>simp_all [Nat.beq]
   rw[h1];by_cases h2:n % 2=1
   .rw[show Nat.mod n 2=1 from h2]
    show(Tr.nd (Tr.one v f (n/2)) none .z).get m=_;rw[d9,Au v f _ _ (by omega)];by_cases hm:m=0
    .subst hm;simp;intro e;omega
    .rw[if_neg hm]
     by_cases hm2:m % 2=1
     .rw[if_pos hm2];by_cases e:m=n
      .subst e;simp
      .rw[if_neg e,if_neg (by omega)]
     .rw[if_neg hm2,iE,if_neg (by omega)]
   .rw[show Nat.mod n 2=0 from(by omega:n % 2=0)]
    show(Tr.nd .z none (Tr.one v f (n/2 - 1))).get m=_;rw[d9,Au v f _ _ (by omega)];by_cases hm:m=0
    .subst hm;simp;intro e;omega
    .rw[if_neg hm]
     by_cases hm2:m % 2=1
     .rw[if_pos hm2,iE,if_neg (by omega)]
     .rw[if_neg hm2];by_cases e:m=n
      .subst e;simp
      .rw[if_neg e,if_neg (by omega)]
theorem Tr.get_put{α:Type}(v:Option α)(t:Tr α):∀n m:Nat,(t.put v n).get m=if m=n then v else t.get m:=by
 induction t with
 |z=>intro n m;exact Au v n n m Nat.lt_two_pow_self
 |nd l u r ihl ihr=>
  intro n m;show(bc (Nat.beq n 0) (Tr.nd l v r) (bc (rD n) (.nd (l.put v (n/2)) u r) (.nd l u (r.put v (n/2 - 1))))).get m=_;unfold bc rD;by_cases h0:n=0
  .subst h0
   show(Tr.nd l v r).get m=_;rw[d9,d9];split<;>simp_all
  .have h1:Nat.beq n 0=false:=by cases n<;>simp_all [Nat.beq]
   rw[h1];by_cases h2:n % 2=1
   .rw[show Nat.mod n 2=1 from h2]
    show(Tr.nd (l.put v (n/2)) u r).get m=_;rw[d9,d9,ihl];by_cases hm:m=0
    .subst hm;rw[if_pos rfl,if_pos rfl,if_neg (by omega)]
    .rw[if_neg hm,if_neg hm]
     by_cases hm2:m % 2=1
     .rw[if_pos hm2,if_pos hm2];by_cases e:m=n
      .subst e;simp
      .rw[if_neg e,if_neg (by omega)]
     .rw[if_neg hm2,if_neg hm2,if_neg (by omega)]
   .rw[show Nat.mod n 2=0 from(by omega:n % 2=0)]
    show(Tr.nd l u (r.put v (n/2 - 1))).get m=_;rw[d9,d9,ihr];by_cases hm:m=0
    .subst hm;rw[if_pos rfl,if_pos rfl,if_neg (by omega)]
    .rw[if_neg hm,if_neg hm]
     by_cases hm2:m % 2=1
     .rw[if_pos hm2,if_pos hm2,if_neg (by omega)]
     .rw[if_neg hm2,if_neg hm2];by_cases e:m=n
      .subst e;simp
      .rw[if_neg e,if_neg (by omega)]
structure GpF(α:Type) where run:Tr α->Option α
structure PpF(α:Type) where run:α->Tr α->Tr α
def gp{α:Type}(f:Nat):Nat->GpF α:=
 @Nat.rec (λ_=>Nat->GpF α) (λk=>⟨λt=>t.get k⟩)
  (λ_ ih k=>bc (Nat.beq k 0) ⟨λt=>@Tr.rec α (λ_=>Option α) none (λ_ v _ _ _=>v) t⟩
   (bc (rD k) ⟨λt=>@Tr.rec α (λ_=>Option α) none (λl _ _ _ _=>(ih (Nat.div k 2)).run l) t⟩
    ⟨λt=>@Tr.rec α (λ_=>Option α) none (λ_ _ r _ _=>(ih (Nat.sub (Nat.div k 2) 1)).run r) t⟩)) f
def pp{α:Type}(f:Nat):Nat->PpF α:=
 @Nat.rec (λ_=>Nat->PpF α) (λk=>⟨λv t=>t.set k v⟩)
  (λ_ ih k=>bc (Nat.beq k 0) ⟨λv t=>@Tr.rec α (λ_=>Tr α) (.nd .z (some v) .z) (λl _ r _ _=>.nd l (some v) r) t⟩
   (bc (rD k) ⟨λv t=>@Tr.rec α (λ_=>Tr α) (.nd ((ih (Nat.div k 2)).run v .z) none .z) (λl u r _ _=>.nd ((ih (Nat.div k 2)).run v l) u r) t⟩
    ⟨λv t=>@Tr.rec α (λ_=>Tr α) (.nd .z none ((ih (Nat.sub (Nat.div k 2) 1)).run v .z)) (λl u r _ _=>.nd l u ((ih (Nat.sub (Nat.div k 2) 1)).run v r)) t⟩)) f
theorem kL{α:Type}:∀(f k:Nat)(t:Tr α),(gp f k).run t=t.get k
 |0,_,_=>rfl
 |f+1,k,t=>by
  show(bc (Nat.beq k 0) _ (bc (rD k) _ _):GpF α).run t=_;unfold bc rD;by_cases h0:k=0
  .subst h0;cases t<;>rfl
  .have h1:Nat.beq k 0=false:=by cases k<;>simp_all [Nat.beq]
   rw[h1];by_cases h2:k % 2=1
   .rw[show Nat.mod k 2=1 from h2]
    cases t with
    |z=>rfl
    |nd l u r=>show(gp f (k/2)).run l=_;rw[kL f,Tr.d9,if_neg h0,if_pos h2]
   .rw[show Nat.mod k 2=0 from(by omega:k % 2=0)]
    cases t with
    |z=>rfl
    |nd l u r=>show(gp f (k/2 - 1)).run r=_;rw[kL f,Tr.d9,if_neg h0,if_neg h2]
theorem iY{α:Type}(v:α):∀(f k:Nat)(t:Tr α)(m:Nat),((pp f k).run v t).get m=if m=k then some v else t.get m
 |0,k,t,m=>Tr.get_put (some v) t k m
 |f+1,k,t,m=>by
  show((bc (Nat.beq k 0) _ (bc (rD k) _ _):PpF α).run v t).get m=_;unfold bc rD;by_cases h0:k=0
  .subst h0
   cases t with
   |z=>show(Tr.nd .z (some v) .z).get m=_;rw[Tr.d9];split<;>simp_all [Tr.iE]
   |nd l u r=>show(Tr.nd l (some v) r).get m=_;rw[Tr.d9,Tr.d9];split<;>simp_all
  .have h1:Nat.beq k 0=false:=by cases k<;>simp_all [Nat.beq]
   rw[h1];by_cases h2:k % 2=1
   .rw[show Nat.mod k 2=1 from h2]
    have key:∀(l r:Tr α)(u:Option α),(Tr.nd ((pp f (k/2)).run v l) u r).get m=if m=k then some v else(Tr.nd l u r).get m:=by
     intro l r u;rw[Tr.d9,Tr.d9,iY v f];by_cases hm:m=0
     .subst hm;rw[if_pos rfl,if_pos rfl,if_neg (by omega)]
     .rw[if_neg hm,if_neg hm]
      by_cases hm2:m % 2=1
      .rw[if_pos hm2,if_pos hm2];by_cases e:m=k
       .subst e;simp
       .rw[if_neg e,if_neg (by omega)]
      .rw[if_neg hm2,if_neg hm2,if_neg (by omega)]
    cases t with
    |z=>refine(key .z .z none).trans ?_;rw[Tr.d9];simp[Tr.iE]
    |nd l u r=>exact key l r u
   .rw[show Nat.mod k 2=0 from(by omega:k % 2=0)]
    have key:∀(l r:Tr α)(u:Option α),(Tr.nd l u ((pp f (k/2 - 1)).run v r)).get m=if m=k then some v else(Tr.nd l u r).get m:=by
     intro l r u;rw[Tr.d9,Tr.d9,iY v f];by_cases hm:m=0
     .subst hm;rw[if_pos rfl,if_pos rfl,if_neg (by omega)]
     .rw[if_neg hm,if_neg hm]
      by_cases hm2:m % 2=1
      .rw[if_pos hm2,if_pos hm2,if_neg (by omega)]
      .rw[if_neg hm2,if_neg hm2];by_cases e:m=k
       .subst e;simp
       .rw[if_neg e,if_neg (by omega)]
    cases t with
    |z=>refine(key .z .z none).trans ?_;rw[Tr.d9];simp[Tr.iE]
    |nd l u r=>exact key l r u
end
end
section
noncomputable section
inductive AV where
 |b (x:Bool)
 |i (k:IntKind) (n:Int)
 |s (l:List UInt8)
 |p (x o:Nat)
 |sl (x l o n:Nat) (c:Option Nat)
 |m (x:Nat)
 |f (g:FuncId) (cap:List AV)
 |y (l:Nat)
 |zT (t:TypeId) (v:AV)
 |agg (l:List AV)
 |bS (l:List AV)
 |k (c:Nat)
 |es (a:Addr) (c:Nat)
inductive AO where
 |row (t:TypeId) (l:List AV)
 |mp (es:List (AV×AV×Nat)) (clock:Nat)
 |lp (st:LoopState) (pd:Option Code) (g:FuncId) (t:Tr AV) (ps:List Tmp) (fF body:Code)
 |it (m:Option Nat) (since:Nat) (seen:List Nat) (KM:Nat)
 |ro (f:Nat->Nat->Option (List AV))
abbrev AH:=Tr AO
abbrev Th:=Nat->Option (Nat×Nat)
def kv:Nat->Value
 |0=>.pointer none
 |1=>.slice none 0 0
 |2=>.map none
 |3=>.nilFunc
 |_=>.nilIface
mutual
def aV(θ:Th):AV->Value->Prop
 | .b x,v=>v= .bool x
 | .i k n,v=>v= .int k n
 | .s l,v=>v= .string ⟨l.toArray⟩
 | .p x o,v=>∃r c,θ x=some (r,c)/\v= .pointer (some ⟨r,o,none⟩)
 | .sl x l o n c,v=>∃r d,θ x=some (r,d)/\(c=none->l+n<=d)/\v= .slice (some ⟨r,o,none⟩) n (c.getD (d - l))
 | .m x,v=>∃r c,θ x=some (r,c)/\v= .map (some r)
 | .f g cap,v=>∃vs,eZ θ cap vs/\v= .func (.func g) #[] vs.toArray
 | .y l,v=>∃r c,θ l=some (r,c)/\v= .func (.yield r) #[] #[]
 | .zT t a,v=>∃u,aV θ a u/\v= .iface t u
 | .agg l,v=>∃vs,eZ θ l vs/\(∀x∈vs,x.oneCell'=true)/\v= .agg vs.toArray
 | .bS l,v=>∃vs,eZ θ l vs/\v= .tuple vs.toArray
 | .k c,v=>v=kv c
 | .es a c,v=>v= .slice (some a) 0 c
def eZ(θ:Th):List AV->List Value->Prop
 |[],l=>l=[]
 |a::r,l=>∃v vs,aV θ a v/\eZ θ r vs/\l=v::vs
end
def gZ(θ bR:Th):Prop:=∀x r,θ x=some r->bR x=some r
theorem gZ.refl(θ:Th):gZ θ θ:=λ_ _ h=>h
theorem gZ.trans{a b c:Th}(h:gZ a b)(k:gZ b c):gZ a c:=λx r e=>k x r (h x r e)
mutual
theorem aV.mono{θ bR:Th}(h:gZ θ bR):∀(a:AV){v:Value},aV θ a v->aV bR a v
 | .b _,_,e=>e
 | .i _ _,_,e=>e
 | .s _,_,e=>e
 | .p _ _,_,⟨r,c,e1,e2⟩=>⟨r,c,h _ _ e1,e2⟩
 | .sl _ _ _ _ _,_,⟨r,c,e1,e2,e3⟩=>⟨r,c,h _ _ e1,e2,e3⟩
 | .m _,_,⟨r,c,e1,e2⟩=>⟨r,c,h _ _ e1,e2⟩
 | .f _ l,_,⟨vs,e1,e2⟩=>⟨vs,eZ.mono h l e1,e2⟩
 | .y _,_,⟨r,c,e1,e2⟩=>⟨r,c,h _ _ e1,e2⟩
 | .zT _ a,_,⟨u,e1,e2⟩=>⟨u,aV.mono h a e1,e2⟩
 | .agg l,_,⟨vs,e1,e2⟩=>⟨vs,eZ.mono h l e1,e2⟩
 | .bS l,_,⟨vs,e1,e2⟩=>⟨vs,eZ.mono h l e1,e2⟩
 | .k _,_,e=>e
 | .es _ _,_,e=>e
theorem eZ.mono{θ bR:Th}(h:gZ θ bR):∀(l:List AV){vs:List Value},eZ θ l vs->eZ bR l vs
 |[],_,e=>e
 |a::r,_,⟨v,vs,e1,e2,e3⟩=>⟨v,vs,aV.mono h a e1,eZ.mono h r e2,e3⟩
end
theorem eZ.length{θ:Th}:∀{l:List AV}{vs:List Value},eZ θ l vs->vs.length=l.length
 |[],_,e=>by rw[eZ]at e;subst e;rfl
 |a::r,_,e=>by rw[eZ]at e;obtain⟨v,vs,_,e2,rfl⟩:=e;simp[eZ.length e2]
theorem eZ.append{θ:Th}:∀{l m:List AV}{vs us:List Value},eZ θ l vs->eZ θ m us->eZ θ (l++m) (vs++us)
 |[],_,_,_,e,h=>by rw[eZ]at e;subst e;exact h
 |a::r,_,_,_,e,h=>by rw[eZ]at e;obtain⟨v,vs,e1,e2,rfl⟩:=e;exact⟨v,_,e1,eZ.append e2 h,rfl⟩
theorem eZ.drop{θ:Th}:∀{l:List AV}{vs:List Value}(k:Nat),eZ θ l vs->eZ θ (l.drop k) (vs.drop k)
 |_,_,0,e=>by simpa using e
 |[],_,k+1,e=>by rw[eZ]at e;subst e;rfl
 |a::r,_,k+1,e=>by rw[eZ]at e;obtain⟨v,vs,_,e2,rfl⟩:=e;exact eZ.drop k e2
theorem eZ.take{θ:Th}:∀{l:List AV}{vs:List Value}(k:Nat),eZ θ l vs->eZ θ (l.take k) (vs.take k)
 |_,_,0,_=>by simp[eZ]
 |[],_,k+1,e=>by rw[eZ]at e;subst e;rfl
 |a::r,_,k+1,e=>by rw[eZ]at e;obtain⟨v,vs,e1,e2,rfl⟩:=e;exact⟨v,_,e1,eZ.take k e2,rfl⟩
theorem eZ.get{θ:Th}:∀{l:List AV}{vs:List Value}(k:Nat){a:AV},eZ θ l vs->l[k]?=some a->∃v,vs[k]?=some v/\aV θ a v
 |[],_,_,_,_,h=>by simp at h
 |a::r,_,0,_,e,h=>by rw[eZ]at e;obtain⟨v,vs,e1,_,rfl⟩:=e;cases h;exact⟨v,rfl,e1⟩
 |a::r,_,k+1,_,e,h=>by rw[eZ]at e;obtain⟨v,vs,_,e2,rfl⟩:=e;exact eZ.get k e2 h
structure Sl where
 S:Nat->Bool
 N:Nat
structure RT(s:Sl)(θ:Th)(t:Tr AV)(tm:Array Value):Prop where
 size:s.N<=tm.size
 at_:∀k a,s.S k=true->t.get k=some a->∃v,tm[k]?=some v/\aV θ a v
theorem RT.mono{s:Sl}{θ bR:Th}{t:Tr AV}{tm:Array Value}(h:gZ θ bR)(k:RT s θ t tm):RT s bR t tm:=
 ⟨k.size,λj a hj hg=>let⟨v,h1,h2⟩:=k.at_ j a hj hg;⟨v,h1,aV.mono h a h2⟩⟩
def Es(θ:Th):List (AV×AV×Nat)->List MapEntry->Prop
 |[],l=>l=[]
 |(a,b,c)::r,l=>∃e es,aV θ a e.key/\aV θ b e.val/\e.born=c/\Es θ r es/\l=e::es
theorem Es.mono{θ bR:Th}(h:gZ θ bR):∀{l:List (AV×AV×Nat)}{es:List MapEntry},Es θ l es->Es bR l es
 |[],_,e=>e
 |(a,b,c)::r,_,⟨e,es,e1,e2,e3,e4,e5⟩=>⟨e,es,aV.mono h a e1,aV.mono h b e2,e3,Es.mono h e4,e5⟩
def Xp(θ:Th):Option Nat->Option Nat->Prop
 |none,mr=>mr=none
 |some b,mr=>∃r c,θ b=some (r,c)/\mr=some r
theorem Xp.mono{θ bR:Th}(h:gZ θ bR):∀{m mr:Option Nat},Xp θ m mr->Xp bR m mr
 |none,_,e=>e
 |some _,_,⟨r,c,e1,e2⟩=>⟨r,c,h _ _ e1,e2⟩
section
variable (P:Program) (sl:FuncId->Sl)
def rF(θ:Th)(c:Nat):AO->Obj->Prop
 | .row t l,o=>∃cs vs rest,o= .cells cs t (0,0)/\cs.size=c*P.cellsOf t/\cs.toList=vs++rest/\eZ θ l vs/\∀x∈cs.toList,x.oneCell'=true
 | .mp es clock,o=>∃en,o= .map en clock/\Es θ es en.toList
 | .lp st pd g t ps fF body,o=>∃fn tm df,o= .loop {state:=st,pending:=pd,fn:=fn,tmps:=tm,params:=ps.toArray,assign:=fF,body:=body,defers:=df}/\RT (sl g) θ t tm
 | .it m since seen KM,o=>∃mr,o= .mapIter mr since seen.toArray KM/\Xp θ m mr
 | .ro f,o=>∃cs t fz,o= .cells cs t fz/\∀k m l,f k m=some l->∃vs:List Value,eZ θ l vs/\(∀x∈vs,x.oneCell'=true)/\∀(j:Nat)(v:Value),vs[j]?=some v->cs[k+j]?=some v
theorem rF.mono{P:Program}{sl:FuncId->Sl}{θ bR:Th}(h:gZ θ bR){c:Nat}:∀{a:AO}{o:Obj},rF P sl θ c a o->rF P sl bR c a o
 | .row _ _,_,⟨cs,vs,rest,e1,e2,e3,e4,e5⟩=>⟨cs,vs,rest,e1,e2,e3,eZ.mono h _ e4,e5⟩
 | .mp _ _,_,⟨en,e1,e2⟩=>⟨en,e1,Es.mono h e2⟩
 | .lp ..,_,⟨fn,tm,df,e1,e2⟩=>⟨fn,tm,df,e1,e2.mono h⟩
 | .it ..,_,⟨mr,e1,e2⟩=>⟨mr,e1,e2.mono h⟩
 | .ro _,_,⟨cs,t,fz,e1,e2⟩=>⟨cs,t,fz,e1,λk m l e=>let⟨vs,h1,h2⟩:=e2 k m l e;⟨vs,eZ.mono h _ h1,h2⟩⟩
def zA:Option AO->Bool
 |some (.ro _)=>false
 |some _=>true
 |none=>false
def Im(θ:Th)(h:AH)(k:Nat):Prop:=∃x c,zA (h.get x)=true/\θ x=some (k,c)
theorem f_{x:Option AO}(e:zA x=true):x.isSome:=by cases x with|none=>cases e|some _=>rfl
def GL(P:Program)(θ:Th)(h:AH)(w:World):Prop:=∀g,P.globalNamed "internal/strconv.uint64pow10"=some g->∃ty q,w.heap[g]?=some (.cells (Lib.pow10Tab.map λz=>Value.int .u64 z).toArray ty q)/\¬Im θ h g
structure RH(θ:Th)(h:AH)(n:Nat)(w:World):Prop where
 at_:∀x o,h.get x=some o->∃r c obj,θ x=some (r,c)/\w.heap[r]?=some obj/\rF P sl θ c o obj
 inj:∀x y r c d,(h.get x).isSome->(h.get y).isSome->θ x=some (r,c)->θ y=some (r,d)->x=y
 new:∀x,n<=x->θ x=none
 gl:GL P θ h w
structure Fr(θ:Th)(h:AH)(w:World)(bR:Th)(h':AH)(w':World):Prop where
 os:w'.os=w.os
 tape:w'.tape=w.tape
 output:w'.output=w.output
 size:w.heap.size<=w'.heap.size
 block:∀k,k<w.heap.size->¬Im θ h k->w'.heap[k]?=w.heap[k]?
 le:gZ θ bR
 from_:∀k,Im bR h' k->Im θ h k\/w.heap.size<=k
 kind:∀(k:Nat) r,w.heap[k]?=some (.loop r)->∃r',w'.heap[k]?=some (.loop r')
 low:∀x y,θ x=none->bR x≠none->θ y≠none->y<x
 ro:∀x f,h'.get x=some (.ro f)->h.get x=some (.ro f)
theorem Fr.refl(θ:Th)(h:AH)(w:World):Fr θ h w θ h w:=⟨rfl,rfl,rfl,Nat.le_refl _,λ_ _ _=>rfl,gZ.refl _,λ_ e=>.inl e,λ_ r e=>⟨r,e⟩,λ_ _ e e'=>absurd e e',λ_ _ e=>e⟩
theorem Fr.trans{θ nT Av:Th}{h h1 h2:AH}{w w1 w2:World}(a:Fr θ h w nT h1 w1)(b:Fr nT h1 w1 Av h2 w2):Fr θ h w Av h2 w2 where
 os:=b.os.trans a.os
 tape:=b.tape.trans a.tape
 output:=b.output.trans a.output
 size:=Nat.le_trans a.size b.size
 block:=λk hk hn=>(b.block k (Nat.lt_of_lt_of_le hk a.size) (λe=>(a.from_ k e).elim hn (λe=>by omega))).trans (a.block k hk hn)
 le:=a.le.trans b.le
 from_:=λk e=>(b.from_ k e).elim (λe=>a.from_ k e) (λe=>.inr (Nat.le_trans a.size e))
 kind:=λk r e=>let⟨r1,e1⟩:=a.kind k r e;b.kind k r1 e1
 low:=λx y e1 e2 e3=>by
  by_cases e:nT x=none
  .exact b.low x y e e2 (λe4=>e3 (by cases e5:θ y with
    |none=>rfl
    |some r=>rw[a.le y r e5]at e4;cases e4))
  .exact a.low x y e1 e e3
 ro:=λx f e=>a.ro x f (b.ro x f e)
theorem Fr.drew{θ:Th}{h:AH}{w:World}{bR:Th}{h':AH}{w':World}(a:Fr θ h w.drew bR h' w'):Fr θ h w bR h' w':=
 ⟨a.os,a.tape,a.output,a.size,a.block,a.le,a.from_,a.kind,a.low,a.ro⟩
theorem GL.fr{P:Program}{θ:Th}{h:AH}{w:World}{bR:Th}{h':AH}{w':World}(k:GL P θ h w)(F:Fr θ h w bR h' w'):GL P bR h' w':=λg e=>by
 obtain⟨ty,q,e1,e2⟩:=k g e;have hlt:g<w.heap.size:=by
  rcases Nat.lt_or_ge g w.heap.size with h|h
  .exact h
  .rw[Array.getElem?_eq_none h]at e1;cases e1
 exact⟨ty,q,(F.block g hlt e2).trans e1,λhi=>(F.from_ g hi).elim e2 λe=>by omega⟩
variable {P sl}in
theorem RH.Xt{θ:Th}{h:AH}{n:Nat}{w:World}{bR:Th}{h':AH}{n':Nat}{w':World}(H:RH P sl θ h n w)
 (a:∀x o,h'.get x=some o->∃r c obj,bR x=some (r,c)/\w'.heap[r]?=some obj/\rF P sl bR c o obj)
 (b:∀x y r c d,(h'.get x).isSome->(h'.get y).isSome->bR x=some (r,c)->bR y=some (r,d)->x=y)(c:∀x,n'<=x->bR x=none)(F:Fr θ h w bR h' w'):RH P sl bR h' n' w'/\Fr θ h w bR h' w':=⟨⟨a,b,c,H.gl.fr F⟩,F⟩
end
end
end
section
noncomputable section
inductive Ex where
 |bV|exit (id:Nat)|goto (l:Nat)|ret
inductive fq where
 |bad|ok (v:AV) (h:AH) (n:Nat)
inductive fu where
 |bad|ok (x:Ex) (h:AH) (n:Nat) (t:Tr AV)
abbrev FT:=FuncId->List AV->AH->Nat->fq
def bnd{α β:Type}(x:Option α)(f:α->Option β):Option β:=@Option.rec α (λ_=>Option β) none f x
def aJ{α:Type}(x:Option α)(f:α->fq):fq:=@Option.rec α (λ_=>fq) .bad f x
def O7(x:fq)(f:AV->AH->Nat->fq):fq:=@fq.rec (λ_=>fq) .bad f x
def mJ(x:fq)(f:AV->AH->Nat->fu):fu:=@fq.rec (λ_=>fu) .bad f x
def iK(r:fu)(g:Ex->AH->Nat->Tr AV->fu):fu:=@fu.rec (λ_=>fu) .bad g r
def n_(r:fu)(g:Ex->AH->Nat->Tr AV->fq):fq:=@fu.rec (λ_=>fq) .bad g r
def Cy(x:Ex)(a b:fu):fu:=@Ex.rec (λ_=>fu) a (λ_=>b) (λ_=>b) b x
def ok1(x:Option AV)(h:AH)(n:Nat):fq:=@Option.rec AV (λ_=>fq) .bad (λv=>.ok v h n) x
def qC{α:Type}(k:Nat):List α->List α:=@Nat.rec (λ_=>List α->List α) (λl=>l) (λ_ ih l=>@List.rec α (λ_=>List α) [] (λ_ r _=>ih r) l) k
def hd{α:Type}(l:List α):Option α:=@List.rec α (λ_=>Option α) none (λa _ _=>some a) l
def Cv{α:Type}(l m:List α):List α:=@List.rec α (λ_=>List α) m (λa _ ih=>a::ih) l
def mG{α:Type}(l:List α):Nat:=@List.rec α (λ_=>Nat->Nat) (λk=>k) (λ_ _ ih k=>ih (Nat.succ k)) l 0
def mH{α:Type}(k:Nat):List α->Option (List α):=
 @Nat.rec (λ_=>List α->Option (List α)) (λ_=>some []) (λ_ ih l=>@List.rec α (λ_=>Option (List α)) none (λa r _=>bnd (ih r) λx=>some (a::x)) l) k
def TD{α:Type}(c:List α):List α->Option (List α):=
 @List.rec α (λ_=>List α->Option (List α)) (λl=>some l) (λa _ ih l=>@List.rec α (λ_=>Option (List α)) none (λ_ r _=>bnd (ih r) λx=>some (a::x)) l) c
def uP{α:Type}(c:List α)(o:Nat):List α->Option (List α):=
 @Nat.rec (λ_=>List α->Option (List α)) (TD c) (λ_ ih l=>@List.rec α (λ_=>Option (List α)) none (λa r _=>bnd (ih r) λx=>some (a::x)) l) o
def kM(a b:Int):Bool:=@Int.rec (λ_=>Bool)
 (λm=>@Int.rec (λ_=>Bool) (λk=>Nat.ble m k) (λ_=>false) b)
 (λm=>@Int.rec (λ_=>Bool) (λ_=>true) (λk=>Nat.ble k m) b) a
def fJ(a b:Int):Bool:=@Int.rec (λ_=>Bool)
 (λm=>@Int.rec (λ_=>Bool) (λk=>Nat.beq m k) (λ_=>false) b)
 (λm=>@Int.rec (λ_=>Bool) (λ_=>false) (λk=>Nat.beq m k) b) a
def pV(a:Bool):Bool:=bc a false true
def Em(i:Int)(n:Nat)(f:Nat->Option AV):Option AV:=@Int.rec (λ_=>Option AV) (λk=>bc (Nat.ble (Nat.succ k) n) (f k) none) (λ_=>none) i
mutual
def RN:Value->Option AV
 | .bool x=>some (.b x)
 | .int k n=>some (.i k n)
 | .string s=>some (.s s.data.toList)
 | .pointer none=>some (.k 0)
 | .slice none 0 0=>some (.k 1)
 | .map none=>some (.k 2)
 | .nilFunc=>some (.k 3)
 | .nilIface=>some (.k 4)
 | .func (.func g) ⟨[]⟩ ⟨[]⟩=>some (.f g [])
 | .agg ⟨cs⟩=>bc (cs.all (·.oneCell')) (bnd (KN cs) λl=>some (.agg l)) none
 |_=>none
def KN:List Value->Option (List AV)
 |[]=>some []
 |v::l=>bnd (RN v) λa=>bnd (KN l) λb=>some (a::b)
end
def qE(v:AV):Option (List AV):=match v with
 | .agg l=>some l
 | .bS _=>none
 |v=>some [v]
section
variable (P:Program)
def und(t:TypeId):TypeDesc:=(P.underlying t).getD .invalid
def sz(t:TypeId):Nat:=P.cellsOf t
def zU(t:TypeId):Option Nat:=(P.info? t).map (·.size)
def zeroV(t:TypeId):Option AV:=bnd ((P.info? t).bind (·.zero)) RN
def j_(t:TypeId):Option (List AV):=bnd (zeroV P t) qE
def idx(k:Nat)(l:List Nat):Option Nat:=@List.rec Nat (λ_=>Nat->Option Nat) (λ_=>none) (λa _ ih j=>bc (Nat.beq k a) (some j) (ih (Nat.succ j))) l 0
structure En where run:Tr AV->List AV->Option AV
structure ac1 where run:Tr AV->List AV->Option (List AV)
structure NtF where run:List AV->Option AV
def Cz(j:Nat):NtF:=@Nat.rec (λ_=>NtF) ⟨λl=>@List.rec AV (λ_=>Option AV) none (λa _ _=>some a) l⟩ (λ_ ih=>⟨λl=>@List.rec AV (λ_=>Option AV) none (λ_ r _=>ih.run r) l⟩) j
def Kz(s:Sl)(L:List Tmp)(k:Tmp):En:=
 bc (s.S k) ⟨λt _=>(gp 20 k).run t⟩ (@Option.rec Nat (λ_=>En) ⟨λ_ _=>none⟩ (λj=>⟨λ_ l=>(Cz j).run l⟩) (idx k L))
def coC(v:Value):En:=⟨λ_ _=>RN v⟩
def coF(f:FuncId):En:=⟨λ_ _=>some (.f f [])⟩
def coG:En:=⟨λ_ _=>none⟩
def co(s:Sl)(L:List Tmp)(x:Operand):En:=@Operand.rec (λ_=>En) (Kz s L) coC (λ_=>coG) coF x
def col(s:Sl)(L:List Tmp):List Operand->ac1
 |[]=>⟨λ_ _=>some []⟩
 |x::r=>⟨λt l=>bnd ((co s L x).run t l) λa=>bnd ((col s L r).run t l) λb=>some (a::b)⟩
structure LdF where run:List AV->Nat->Option AV
def KA(t:TypeId):LdF:=match P.underlying t with
 |none=>⟨λ_ _=>none⟩
 |some (.struct _)|some (.array _ _)=>⟨λl o=>bnd (mH (sz P t) (qC o l)) λx=>some (.agg x)⟩
 |some _=>⟨λl o=>hd (qC o l)⟩
def iA(x:Option AO)(o m:Nat):Option (List AV):=bnd x λb=>@AO.rec (λ_=>Option (List AV)) (λ_ l=>some (qC o l)) (λ_ _=>none) (λ_ _ _ _ _ _ _=>none) (λ_ _ _ _=>none) (λf=>f o m) b
def IG(x:Option AO):Option (List (AV×AV×Nat)):=bnd x λo=>@AO.rec (λ_=>Option (List (AV×AV×Nat))) (λ_ _=>none) (λes _=>some es) (λ_ _ _ _ _ _ _=>none) (λ_ _ _ _=>none) (λ_=>none) o
def ldN(t:TypeId):Nat:=match P.underlying t with
 |some (.struct _)|some (.array _ _)=>sz P t
 |_=>1
def xD(t:TypeId)(h:AH)(x o:Nat):Option AV:=bnd (iA (h.get x) o (ldN P t)) λl=>(KA P t).run l 0
def gF(k:IntKind)(n:Int):Int:=bc (kM k.min n) (bc (kM n k.max) n (IntKind.wrap k n)) (IntKind.wrap k n)
def qF(a:List UInt8):List UInt8->Bool:=
 @List.rec UInt8 (λ_=>List UInt8->Bool) (λl=>@List.rec UInt8 (λ_=>Bool) true (λ_ _ _=>false) l)
  (λx _ ih l=>@List.rec UInt8 (λ_=>Bool) false (λy r _=>bc (Nat.beq x.toNat y.toNat) (ih r) false) l) a
structure KO where run:AV->AV->Option Bool
def wJ(j k:IntKind):Bool:=decide (j=k)
def Eo(f:TypeId->KO):List Field->KO
 |[]=>⟨λ_ _=>some true⟩
 |d::r=>bc (d.name== "_") (Eo f r) ⟨λx y=>match x,y with
  | .agg a,.agg b=>bnd ((KA P d.type).run a d.offset) λu=>bnd ((KA P d.type).run b d.offset) λv=>bnd ((f d.type).run u v) λe=>bc e ((Eo f r).run x y) (some false)
  |_,_=>none⟩
def qM:Nat->TypeId->KO
 |0,_=>⟨λ_ _=>none⟩
 |d+1,t=>match und P t with
  | .bool=>⟨λx y=>match x,y with| .b a,.b b=>some (bc a b (pV b))|_,_=>none⟩
  | .int _=>⟨λx y=>match x,y with| .i j a,.i k b=>bc (wJ j k) (some (fJ a b)) none|_,_=>none⟩
  | .string=>⟨λx y=>match x,y with| .s a,.s b=>some (qF a b)|_,_=>none⟩
  | .pointer _=>⟨λx y=>match x,y with| .k 0,.k 0=>some true| .k 0,.p _ _=>some false| .p _ _,.k 0=>some false|_,_=>none⟩
  | .slice _=>⟨λx y=>match x,y with| .k 1,.k 1=>some true| .k 1,.sl ..=>some false| .sl ..,.k 1=>some false| .k 1,.es ..=>some false| .es ..,.k 1=>some false|_,_=>none⟩
  | .map _ _=>⟨λx y=>match x,y with| .k 2,.k 2=>some true| .k 2,.m _=>some false| .m _,.k 2=>some false|_,_=>none⟩
  | .func _ _ _=>⟨λx y=>match x,y with| .k 3,.k 3=>some true| .k 3,.f ..=>some false| .f ..,.k 3=>some false|_,_=>none⟩
  | .interface _=>⟨λx y=>match x,y with| .k 4,.zT ..=>some false| .zT ..,.k 4=>some false|_,_=>none⟩
  | .struct fs=>bc (P.stoodInHeld t) ⟨λ_ _=>none⟩ ⟨λx y=>match x,y with| .agg a,.agg b=>(Eo P (qM d) fs.toList).run (.agg a) (.agg b)|_,_=>none⟩
  |_=>⟨λ_ _=>none⟩
structure Xu where run:AV->AV->Option AV
def sP(f:IntKind->Int->Int->Option AV)(g:AV->AV->Option AV)(x y:AV):Option AV:=
 match x,y with
 | .i j a,.i k b=>bc (wJ j k) (f j a b) none
 |x,y=>g x y
def eqO(t:TypeId)(neg:Bool):Xu:=⟨λx y=>match x,y with
 | .s a,.s b=>some (.b (bc neg (pV (qF a b)) (qF a b)))
 |x,y=>bc (P.eqGuardType P.depth t) none (bnd ((qM P 30 t).run x y) λe=>some (.b (bc neg (pV e) e)))⟩
def d_(t:TypeId)(op:BinOp):Xu:=
 match op with
 | .add=>⟨sP (λk a b=>some (.i k (gF k (Int.add a b)))) (λx y=>match x,y with| .s a,.s b=>bc (Nat.ble (Nat.add (mG a) (mG b)) 1048576) (some (.s (Cv a b))) none|_,_=>none)⟩
 | .sub=>⟨sP (λk a b=>some (.i k (gF k (Int.sub a b)))) (λ_ _=>none)⟩
 | .mul=>⟨sP (λk a b=>some (.i k (gF k (Int.mul a b)))) (λ_ _=>none)⟩
 | .quo=>⟨sP (λk a b=>bc (fJ b 0) none (some (.i k (gF k (Int.tdiv a b))))) (λ_ _=>none)⟩
 | .rem=>⟨sP (λk a b=>bc (fJ b 0) none (some (.i k (Int.tmod a b)))) (λ_ _=>none)⟩
 | .eql=>⟨sP (λ_ a b=>some (.b (fJ a b))) (eqO P t false).run⟩
 | .neq=>⟨sP (λ_ a b=>some (.b (pV (fJ a b)))) (eqO P t true).run⟩
 | .lss=>⟨sP (λ_ a b=>some (.b (pV (kM b a)))) (λ_ _=>none)⟩
 | .leq=>⟨sP (λ_ a b=>some (.b (kM a b))) (λ_ _=>none)⟩
 | .gtr=>⟨sP (λ_ a b=>some (.b (pV (kM a b)))) (λ_ _=>none)⟩
 | .geq=>⟨sP (λ_ a b=>some (.b (kM b a))) (λ_ _=>none)⟩
 | .shr=>⟨sP (λk a b=>bc (fJ b 1) (some (.i k (a/2))) none) (λ_ _=>none)⟩
 |_=>⟨λ_ _=>none⟩
structure Xx where run:Tr AV->List AV->List AV->Option (List AV)
def Aw(t:TypeId):Option (Nat->Option (Nat×Nat)):=match P.underlying t with
 |some (.array _ e)=>(P.info? e).map λi k=>some (Nat.mul k i.size,i.size)
 |some (.struct fs)=>(fs.toList.mapM λf=>(P.info? f.type).map λi=>(f.offset,i.size)).map λl k=>l[k]?
 |_=>none
def Ep(s:Sl)(L:List Tmp)(pl:Nat->Option (Nat×Nat)):List (Nat×Operand)->Xx
 |[]=>⟨λ_ _ c=>some c⟩
 |(k,x)::r=>match pl k with
  |none=>⟨λ_ _ _=>none⟩
  |some (o,w)=>⟨λt l c=>bnd ((co s L x).run t l) λa=>bnd (qE a) λu=>bc (Nat.beq (mG u) w) (bnd (uP u o c) λc=>(Ep s L pl r).run t l c) none⟩
def qN(t:TypeId):TypeId:=match und P t with| .slice e=>e| .array _ e=>e| .map _ e=>e|_=>0
def Wu(t:TypeId)(k:Nat):Option Field:=match P.underlying t with|some (.struct fs)=>fs[k]?|_=>none
def rep(n:Nat)(z:List AV):List AV:=@Nat.rec (λ_=>List AV) [] (λ_ l=>Cv z l) n
def xE(l:List UInt8):List AV:=@List.rec UInt8 (λ_=>List AV) [] (λb _ ih=>.i .u8 (Int.ofNat b.toNat)::ih) l
def GN(v:AV):Option UInt8:=match v with| .i .u8 (.ofNat k)=>bc (Nat.ble k 255) (some (UInt8.ofNat k)) none|_=>none
def og(l:List AV):Option (List UInt8):=@List.rec AV (λ_=>Option (List UInt8)) (some []) (λv _ ih=>bnd (GN v) λb=>bnd ih λr=>some (b::r)) l
def iV(h:AH)(s n:Nat)(v:AV):Option (List AV):=match v with
 | .k 1=>some []
 | .s l=>bc (Nat.beq s 1) (bnd (mH n l) λl=>some (xE l)) none
 | .es _ _=>bc (Nat.beq n 0) (some []) none
 | .sl x _ o _ _=>bnd (iA (h.get x) o (Nat.mul n s)) λl=>mH (Nat.mul n s) l
 |_=>none
def lG(v:AV):Option Nat:=match v with
 | .k 1=>some 0
 | .s l=>some (mG l)
 | .sl _ _ _ n _=>some n
 | .es _ _=>some 0
 |_=>none
def nI(q:KO)(k:AV)(l:List (AV×AV×Nat)):Nat->Option (Option (Nat×AV)):=
 @List.rec (AV×AV×Nat) (λ_=>Nat->Option (Option (Nat×AV))) (λ_=>some none) (λe _ ih i=>bnd (q.run k e.1) λb=>bc b (some (some (i,e.2.1))) (ih (Nat.succ i))) l
def Er(k v:AV)(i:Nat):List (AV×AV×Nat)->List (AV×AV×Nat):=
 @Nat.rec (λ_=>List (AV×AV×Nat)->List (AV×AV×Nat)) (λl=>@List.rec (AV×AV×Nat) (λ_=>List (AV×AV×Nat)) [] (λe r _=>(k,v,e.2.2)::r) l)
  (λ_ ih l=>@List.rec (AV×AV×Nat) (λ_=>List (AV×AV×Nat)) [] (λe r _=>e::ih r) l) i
structure RO where run:AV->Bool
def Et(f:TypeId->RO):List Field->RO
 |[]=>⟨λ_=>true⟩
 |d::r=>bc (d.name== "_") (Et f r) ⟨λx=>match x with
  | .agg a=>@Option.rec AV (λ_=>Bool) false (λu=>bc ((f d.type).run u) ((Et f r).run x) false) ((KA P d.type).run a d.offset)
  |_=>false⟩
def xG:Nat->TypeId->RO
 |0,_=>⟨λ_=>false⟩
 |d+1,t=>match P.underlying t with
  |some .bool=>⟨λ_=>true⟩
  |some (.int _)=>⟨λ_=>true⟩
  |some .string=>⟨λ_=>true⟩
  |some (.struct fs)=>⟨λx=>match x with| .agg a=>(Et P (xG d) fs.toList).run (.agg a)|_=>false⟩
  |_=>⟨λ_=>false⟩
def KP(k:AV):Bool:=match k with| .i _ _=>true| .s _=>true| .b _=>true|_=>false
def mk(h:AH)(n:Nat)(v:AV)(o:AO):fq:=.ok v (h.set n o) (Nat.succ n)
structure ApF where run:AH->Nat->AV->AV->fq
def jh(e:TypeId)(w:Nat):ApF:=⟨λh n x y=>
 aJ (lG x) λlx=>aJ (lG y) λly=>aJ (iV h w lx x) λcx=>aJ (iV h w ly y) λcy=>
  bc (Nat.ble (Nat.add lx ly) 1048576)
  (match x with
  | .sl b _ o _ (some c)=>
   bc (Nat.ble (Nat.add lx ly) c)
    (match h.get b with
     |some (.row t l)=>aJ (uP cy (Nat.add o (Nat.mul lx w)) l) λl=>.ok (.sl b 0 o (Nat.add lx ly) (some c)) (h.set b (.row t l)) n
     |_=>.bad)
    (mk h n (.sl n 0 0 (Nat.add lx ly) none) (.row e (Cv cx cy)))
  | .k 1=>bc (Nat.beq ly 0) (.ok (.k 1) h n) (mk h n (.sl n 0 0 ly none) (.row e cy))
  | .sl b 0 0 _ none=>
   (match h.get b with
    |some (.row t l)=>bc (Nat.beq t e) (bc (Nat.beq (mG l) (Nat.mul lx w)) (mk (h.del b) n (.sl n 0 0 (Nat.add lx ly) none) (.row e (Cv cx cy)))
     (bc (Nat.beq w 0) .bad (aJ (uP cy (Nat.mul lx w) l) λl=>.ok (.sl b 0 0 (Nat.add lx ly) none) (h.set b (.row t l)) n))) .bad
    |_=>.bad)
  |_=>.bad) .bad⟩
def Ay(x:Option Int)(d:Nat):Option Nat:=@Option.rec Int (λ_=>Option Nat) (some d) (λn=>@Int.rec (λ_=>Option Nat) (λk=>some k) (λ_=>none) n) x
def oh(c:List UInt8)(lo hi:Option Int):Option AV:=
 bnd (Ay lo 0) λa=>bnd (Ay hi (mG c)) λz=>bc (Nat.ble a z) (bnd (mH z c) λu=>some (.s (qC a u))) none
def Eu(w:Nat)(b l o n:Nat)(c:Option Nat)(lo hi:Option Int):Option AV:=
 bnd (Ay lo 0) λa=>bnd (Ay hi n) λz=>bc (Nat.ble a z) (@Option.rec Nat (λ_=>Option AV)
  (bc (Nat.ble z n) (bc (Nat.beq a 0) (some (.sl b l o z none)) (bc (Nat.ble (Nat.succ a) z) (some (.sl b (Nat.add l a) (Nat.add o (Nat.mul a w)) (Nat.sub z a) none)) none)) none)
  (λc=>bc (Nat.ble z c) (some (.sl b 0 (bc (Nat.beq c a) o (Nat.add o (Nat.mul a w))) (Nat.sub z a) (some (Nat.sub c a)))) none) c) none
def Ev(w m b o:Nat)(lo hi:Option Int):Option AV:=
 bnd (Ay lo 0) λa=>bnd (Ay hi m) λz=>bc (Nat.ble a z) (bc (Nat.ble z m) (some (.sl b 0 (bc (Nat.beq m a) o (Nat.add o (Nat.mul a w))) (Nat.sub z a) (some (Nat.sub m a)))) none) none
structure ac3 where run:Tr AV->List AV->Option (Option Int)
def sQ(s:Sl)(L:List Tmp)(x:Option Operand):ac3:=match x with
 |none=>⟨λ_ _=>some none⟩
 |some x=>⟨λt l=>match(co s L x).run t l with|some (.i _ n)=>some (some n)|_=>none⟩
def lookO(q:KO)(ck:RO)(zv:Option AV)(ok:Bool)(h:AH)(x k:AV):Option AV:=
 bc (ck.run k) (bnd (match x with| .m b=>bnd (IG (h.get b)) λes=>nI q k es 0| .k 2=>some none|_=>none) λr=>
  @Option.rec (Nat×AV) (λ_=>Option AV) (bnd zv λz=>some (bc ok (.bS [z,.b false]) z)) (λv=>some (bc ok (.bS [v.2,.b true]) v.2)) r) none
def CB(q:KO)(ck:RO)(h:AH)(n:Nat)(x k v:AV):fq:=
 match x with
 | .m b=>match h.get b with
  |some (.mp es c)=>bc (ck.run k) (aJ (nI q k es 0) λr=>@Option.rec (Nat×AV) (λ_=>fq) (.ok (.bS []) (h.set b (.mp (Cv es [(k,v,c)]) (Nat.succ c))) n)
   (λi=>bc (KP k) (.ok (.bS []) (h.set b (.mp (Er k v i.1 es) c)) n) .bad) r) .bad
  |_=>.bad
 |_=>.bad
def xH(w:Nat)(h:AH)(n:Nat)(a v:AV):fq:=
 match a with
 | .p x o=>match h.get x with
  |some (.row t l)=>aJ (qE v) λu=>bc (Nat.beq (mG u) w) (aJ (uP u o l) λl=>.ok (.bS []) (h.set x (.row t l)) n) .bad
  |_=>.bad
 |_=>.bad
def qO(s:Nat)(h:AH)(n:Nat)(d x:AV):fq:=
 aJ (lG d) λa=>aJ (lG x) λb=>aJ (iV h s (Nat.min b a) x) λc=>match d with
  | .sl r _ o _ _=>(match h.get r with
   |some (.row ty l)=>aJ (uP c o l) λl=>.ok (.i .i64 (Int.ofNat (Nat.min b a))) (h.set r (.row ty l)) n
   |_=>.bad)
  | .k 1=>.ok (.i .i64 0) h n
  |_=>.bad
structure Cl where run:FT->Tr AV->List AV->AH->Nat->fq
abbrev YT:=Nat->List AV->FT->AH->Nat->fq
def KQ(s:Sl)(L:List Tmp)(x:Operand):Cl:=⟨λ_ t l h n=>ok1 ((co s L x).run t l) h n⟩
def CF(s:Sl)(L:List Tmp)(c a b:Operand):Cl:=⟨λ_ t l h n=>match(co s L c).run t l with|some (.b true)=>ok1 ((co s L a).run t l) h n|some (.b false)=>ok1 ((co s L b).run t l) h n|_=>.bad⟩
def Ew(s:Sl)(L:List Tmp)(e:TypeId):Cl:=⟨λ_ _ _ h n=>aJ (j_ P e) λz=>bc (Nat.beq (mG z) (sz P e)) (mk h n (.p n 0) (.row e z)) .bad⟩
def TF(s:Sl)(L:List Tmp)(e:TypeId)(x:Operand):Cl:=⟨λ_ t l h n=>aJ ((co s L x).run t l) λv=>aJ (qE v) λc=>bc (Nat.beq (mG c) (sz P e)) (mk h n (.p n 0) (.row e c)) .bad⟩
def xI(s:Sl)(L:List Tmp)(ty:TypeId)(ps:List (Nat×Operand)):Cl:=match Aw P ty with
 |none=>⟨λ_ _ _ _ _=>.bad⟩
 |some pl=>⟨λ_ t l h n=>aJ (j_ P ty) λz=>aJ ((Ep s L pl ps).run t l z) λc=>.ok (.agg c) h n⟩
def kg(s:Sl)(L:List Tmp)(ty:TypeId)(len:Nat)(ps:List (Nat×Operand)):Cl:=match P.underlying ty with
 |some (.slice e)=>⟨λ_ t l h n=>aJ (j_ P e) λz=>aJ (zU P e) λw=>bc (Nat.beq (mG z) w) (bc (Nat.ble (Nat.mul len w) 1048576) (aJ ((Ep s L (λk=>some (Nat.mul k w,w)) ps).run t l (rep len z)) λc=>
  mk h n (.sl n 0 0 len (some len)) (.row e c)) .bad) .bad⟩
 |_=>⟨λ_ _ _ _ _=>.bad⟩
def CG(s:Sl)(L:List Tmp)(ty:TypeId)(a:Operand):Cl:=⟨λ_ t l h n=>match(co s L a).run t l with|some (.p x k)=>ok1 (xD P ty h x k) h n|_=>.bad⟩
def Ey(s:Sl)(L:List Tmp)(ty:TypeId)(a x:Operand):Cl:=⟨λ_ t l h n=>aJ ((co s L a).run t l) λa=>aJ ((co s L x).run t l) λx=>aJ (zU P ty) λw=>xH w h n a x⟩
def pW(s:Sl)(L:List Tmp)(x:Operand):Cl:=⟨λ_ t l h n=>aJ ((co s L x).run t l) λv=>match v with| .p _ _=>.ok v h n| .f _ _=>.ok v h n| .y _=>.ok v h n|_=>.bad⟩
def Az(s:Sl)(L:List Tmp)(op:BinOp)(ty:TypeId)(x y:Operand):Cl:=⟨λ_ t l h n=>aJ ((co s L x).run t l) λx=>aJ ((co s L y).run t l) λy=>ok1 ((d_ P ty op).run x y) h n⟩
def Pg(s:Sl)(L:List Tmp)(x:Operand):Cl:=⟨λ_ t l h n=>aJ ((co s L x).run t l) λv=>match v with| .b v=>.ok (.b (pV v)) h n|_=>.bad⟩
def Ph(s:Sl)(L:List Tmp)(x:Operand):Cl:=⟨λ_ t l h n=>aJ ((co s L x).run t l) λv=>match v with| .i k v=>.ok (.i k (gF k (Int.sub 0 v))) h n|_=>.bad⟩
def Pj(t:TypeId):Bool:=match P.underlying t with|some (.int .u8)=>true|_=>false
def oq(s:Sl)(L:List Tmp)(c d:TypeId)(x:Operand):Cl:=match P.underlying c,P.underlying d with
 |some _,some (.int k)=>⟨λ_ t l h n=>match(co s L x).run t l with|some (.i _ v)=>.ok (.i k (gF k v)) h n|_=>.bad⟩
 |some .string,some .string=>⟨λ_ t l h n=>match(co s L x).run t l with|some (.s l)=>.ok (.s l) h n|_=>.bad⟩
 |some (.slice e),some .string=>bc (Pj P e) ⟨λ_ t l h n=>match(co s L x).run t l with
  |some (.k 1)=>.ok (.s []) h n
  |some (.sl b m o k c)=>aJ (iV h 1 k (.sl b m o k c)) λu=>aJ (og u) λb=>.ok (.s b) h n
  |_=>.bad⟩ ⟨λ_ _ _ _ _=>.bad⟩
 |_,_=>⟨λ_ _ _ _ _=>.bad⟩
def iF(s:Sl)(L:List Tmp)(ty:TypeId)(x:Operand):Cl:=⟨λ_ t l h n=>aJ ((co s L x).run t l) λv=>match P.underlying ty with|some (.interface _)=>.bad|some _=>.ok (.zT ty v) h n|none=>.bad⟩
def pX(s:Sl)(L:List Tmp)(g:FuncId)(cs:List Operand):Cl:=⟨λ_ t l h n=>aJ ((col s L cs).run t l) λc=>.ok (.f g c) h n⟩
def CJ(s:Sl)(L:List Tmp):Cl:=⟨λ_ _ _ h n=>mk h n (.m n) (.mp [] 0)⟩
def pY(s:Sl)(L:List Tmp)(ty:TypeId):Cl:=⟨λ_ _ _ h n=>match P.underlying ty with|some (.map _ _)=>mk h n (.m n) (.mp [] 0)|_=>.bad⟩
def mK(s:Sl)(L:List Tmp)(ty:TypeId)(x y:Operand):Cl:=match P.underlying ty,P.info? (qN P ty),j_ P (qN P ty)with
 |some (.slice e),some i,some z=>bc (Nat.beq (mG z) i.size) (bc (Nat.ble i.bytes 65536)
  ⟨λ_ t l h n=>match(co s L x).run t l,(co s L y).run t l with
   |some (.i _ (.ofNat a)),some (.i _ (.ofNat c))=>bc (Nat.ble a c) (bc (Nat.ble c 1048576) (mk h n (.sl n 0 0 a (some c)) (.row e (rep c z))) .bad) .bad
   |_,_=>.bad⟩ ⟨λ_ _ _ _ _=>.bad⟩) ⟨λ_ _ _ _ _=>.bad⟩
 |_,_,_=>⟨λ_ _ _ _ _=>.bad⟩
def xJ(s:Sl)(L:List Tmp)(ty:TypeId)(x:Operand)(lo hi:Option Operand):Cl:=match P.underlying ty with
 |some .string=>⟨λ_ t l h n=>aJ ((sQ s L lo).run t l) λlo=>aJ ((sQ s L hi).run t l) λhi=>match(co s L x).run t l with|some (.s c)=>ok1 (oh c lo hi) h n|_=>.bad⟩
 |some (.slice e)=>(match zU P e with
  |some w=>⟨λ_ t l h n=>aJ ((sQ s L lo).run t l) λlo=>aJ ((sQ s L hi).run t l) λhi=>match(co s L x).run t l with|some (.sl b m o k c)=>ok1 (Eu w b m o k c lo hi) h n|_=>.bad⟩
  |none=>⟨λ_ _ _ _ _=>.bad⟩)
 |some (.array m e)=>(match zU P e with
  |some w=>⟨λ_ t l h n=>aJ ((sQ s L lo).run t l) λlo=>aJ ((sQ s L hi).run t l) λhi=>match(co s L x).run t l with|some (.p b o)=>ok1 (Ev w m b o lo hi) h n|_=>.bad⟩
  |none=>⟨λ_ _ _ _ _=>.bad⟩)
 |_=>⟨λ_ _ _ _ _=>.bad⟩
def jF(s:Sl)(L:List Tmp)(ty:TypeId)(x:Operand)(f:Nat):Cl:=match Wu P ty f with
 |none=>⟨λ_ _ _ _ _=>.bad⟩
 |some d=>match zU P d.type with
  |none=>⟨λ_ _ _ _ _=>.bad⟩
  |some w=>bc (Nat.beq w 0) ⟨λ_ _ _ _ _=>.bad⟩ ⟨λ_ t l h n=>match(co s L x).run t l with|some (.p b k)=>.ok (.p b (Nat.add k d.offset)) h n|_=>.bad⟩
def xK(s:Sl)(L:List Tmp)(ty:TypeId)(x:Operand)(f:Nat):Cl:=match Wu P ty f with
 |none=>⟨λ_ _ _ _ _=>.bad⟩
 |some d=>⟨λ_ t l h n=>match(co s L x).run t l with|some (.agg c)=>ok1 ((KA P d.type).run c d.offset) h n|_=>.bad⟩
def jG(s:Sl)(L:List Tmp)(ty:TypeId)(x ix:Operand):Cl:=match P.underlying ty with
 |some (.slice e)=>(match zU P e with
  |none=>⟨λ_ _ _ _ _=>.bad⟩
  |some w=>⟨λ_ t l h n=>match(co s L x).run t l,(co s L ix).run t l with|some (.sl b _ o m _),some (.i _ k)=>ok1 (Em k m λk=>some (.p b (Nat.add o (Nat.mul k w)))) h n|_,_=>.bad⟩)
 |some (.array m e)=>(match zU P e with
  |none=>⟨λ_ _ _ _ _=>.bad⟩
  |some w=>⟨λ_ t l h n=>match(co s L x).run t l,(co s L ix).run t l with|some (.p b o),some (.i _ k)=>ok1 (Em k m λk=>some (.p b (Nat.add o (Nat.mul k w)))) h n|_,_=>.bad⟩)
 |_=>⟨λ_ _ _ _ _=>.bad⟩
def xL(s:Sl)(L:List Tmp)(ty:TypeId)(x ix:Operand):Cl:=match P.underlying ty with
 |some .string=>⟨λ_ t l h n=>match(co s L x).run t l,(co s L ix).run t l with|some (.s c),some (.i _ k)=>ok1 (Em k 1048576 λk=>bnd (hd (qC k c)) λb=>some (.i .u8 (Int.ofNat b.toNat))) h n|_,_=>.bad⟩
 |some (.array m e)=>(match zU P e with
  |none=>⟨λ_ _ _ _ _=>.bad⟩
  |some w=>⟨λ_ t l h n=>match(co s L x).run t l,(co s L ix).run t l with|some (.agg c),some (.i _ k)=>ok1 (Em k m λk=>(KA P e).run c (Nat.mul k w)) h n|_,_=>.bad⟩)
 |_=>⟨λ_ _ _ _ _=>.bad⟩
def sS(s:Sl)(L:List Tmp)(ty:TypeId)(x k:Operand)(ok:Bool):Cl:=match P.underlying ty with
 |some (.map kt e)=>⟨λ_ t l h n=>aJ ((co s L x).run t l) λx=>aJ ((co s L k).run t l) λk=>ok1 (lookO (qM P 30 kt) (xG P 30 kt) (zeroV P e) ok h x k) h n⟩
 |_=>⟨λ_ _ _ _ _=>.bad⟩
def jH(s:Sl)(L:List Tmp)(ty:TypeId)(m k x:Operand):Cl:=match P.underlying ty with
 |some (.map kt _)=>⟨λ_ t l h n=>aJ ((co s L m).run t l) λm=>aJ ((co s L k).run t l) λk=>aJ ((co s L x).run t l) λx=>CB (qM P 30 kt) (xG P 30 kt) h n m k x⟩
 |_=>⟨λ_ _ _ _ _=>.bad⟩
def ou(s:Sl)(L:List Tmp)(x:Operand)(k:Nat):Cl:=⟨λ_ t l h n=>match(co s L x).run t l with|some (.bS c)=>ok1 (hd (qC k c)) h n|_=>.bad⟩
def GQ(s:Sl)(Y:YT)(L:List Tmp)(g:Operand)(args:List Operand):Cl:=⟨λf t l h n=>aJ ((co s L g).run t l) λg=>aJ ((col s L args).run t l) λc=>match g with
 | .f g cap=>f g (Cv c cap) h n
 | .y r=>Y r c f h n
 |_=>.bad⟩
def KR(s:Sl)(L:List Tmp)(ty:TypeId)(x:Operand):Cl:=match P.underlying ty with
 |some .string=>⟨λ_ t l h n=>match(co s L x).run t l with|some (.s c)=>.ok (.i .i64 (Int.ofNat (mG c))) h n|_=>.bad⟩
 |some (.slice _)=>⟨λ_ t l h n=>match(co s L x).run t l with|some (.sl _ _ _ m _)=>.ok (.i .i64 (Int.ofNat m)) h n|some (.k 1)=>.ok (.i .i64 0) h n|some (.es _ _)=>.ok (.i .i64 0) h n|_=>.bad⟩
 |some (.array m _)=>⟨λ_ t l h n=>aJ ((co s L x).run t l) λ_=>.ok (.i .i64 (Int.ofNat m)) h n⟩
 |some (.map _ _)=>⟨λ_ t l h n=>match(co s L x).run t l with|some (.m r)=>aJ (IG (h.get r)) (λes=>.ok (.i .i64 (Int.ofNat (mG es))) h n)|some (.k 2)=>.ok (.i .i64 0) h n|_=>.bad⟩
 |_=>⟨λ_ _ _ _ _=>.bad⟩
def Wv(ty:TypeId):Bool:=match P.underlying ty with|some (.slice _)=>true|some .string=>true|_=>false
def wW(s:Sl)(L:List Tmp)(ty Ez:TypeId)(a x:Operand):Cl:=match P.underlying ty,P.info? (qN P ty),j_ P (qN P ty)with
 |some (.slice e),some i,some z=>bc (Wv P Ez) (bc (Nat.beq (mG z) i.size) (bc (Nat.beq i.size 0) ⟨λ_ _ _ _ _=>.bad⟩ (bc (Nat.ble i.bytes 65536)
  ⟨λ_ t l h n=>aJ ((co s L a).run t l) λa=>aJ ((co s L x).run t l) λx=>(jh e i.size).run h n a x⟩ ⟨λ_ _ _ _ _=>.bad⟩)) ⟨λ_ _ _ _ _=>.bad⟩) ⟨λ_ _ _ _ _=>.bad⟩
 |_,_,_=>⟨λ_ _ _ _ _=>.bad⟩
def GR(s:Sl)(L:List Tmp)(ty:TypeId)(d x:Operand):Cl:=match P.underlying ty with
 |some (.slice e)=>(match zU P e with
  |some w=>⟨λ_ t l h n=>aJ ((co s L d).run t l) λd=>aJ ((co s L x).run t l) λx=>qO w h n d x⟩
  |none=>⟨λ_ _ _ _ _=>.bad⟩)
 |_=>⟨λ_ _ _ _ _=>.bad⟩
def KS(s:Sl)(L:List Tmp)(x y:Operand):Cl:=⟨λ_ t l h n=>match(co s L x).run t l,(co s L y).run t l with|some (.i k a),some (.i _ b)=>.ok (.i k (bc (kM b a) a b)) h n|_,_=>.bad⟩
def KT(s:Sl)(L:List Tmp)(x y:Operand):Cl:=⟨λ_ t l h n=>match(co s L x).run t l,(co s L y).run t l with|some (.i k a),some (.i _ b)=>.ok (.i k (bc (kM a b) a b)) h n|_,_=>.bad⟩
def AA(s:Sl)(L:List Tmp)(ty:TypeId)(x:Operand):Cl:=match P.underlying ty with
 |some (.map _ _)=>⟨λ_ t l h n=>match(co s L x).run t l with
  |some (.m b)=>(match h.get b with
   |some (.mp _ oz)=>mk h n (.p n 0) (.it (some b) oz [] oz)
   |_=>.bad)
  |some (.k 2)=>mk h n (.p n 0) (.it none 0 [] 0)
  |_=>.bad⟩
 |_=>⟨λ_ _ _ _ _=>.bad⟩
def KU(h:AH)(n i:Nat):fq:=match h.get i with
 |some (.it none _ _ _)=>.ok (.bS [.b false]) h n
 |some (.it (some b) since [] _)=>(match h.get b with
  |some (.mp [] _)=>.ok (.bS [.b false]) h n
  |some (.mp [(k,v,c)] oz)=>bc (Nat.ble (Nat.succ c) since) (.ok (.bS [.b true,k,v]) (h.set i (.it (some b) since [c] oz)) n) .bad
  |_=>.bad)
 |some (.it (some b) _ [q] KM)=>(match h.get b with
  |some (.mp [(_,_,c)] _)=>bc (Nat.beq c q) (bc (Nat.ble (Nat.succ c) KM) (.ok (.bS [.b false]) h n) .bad) .bad
  |_=>.bad)
 |_=>.bad
def EA(h:AH)(n i:Nat):fq:=match h.get i with
 |some (.it (some b) _ [q] KM)=>(match h.get b with
  |some (.mp [(k,v,c)] oz)=>bc (Nat.beq oz KM) (bc (Nat.beq c q) (.ok (.bS [k,v]) h n) .bad) .bad
  |_=>.bad)
 |_=>.bad
def GU(s:Sl)(L:List Tmp)(x:Operand):Cl:=⟨λ_ t l h n=>match(co s L x).run t l with|some (.p i 0)=>KU h n i|_=>.bad⟩
def AB(s:Sl)(L:List Tmp)(x:Operand):Cl:=⟨λ_ t l h n=>match(co s L x).run t l with|some (.p i 0)=>EA h n i|_=>.bad⟩
def KV:Cl:=⟨λ_ _ _ _ _=>.bad⟩
def cop(s:Sl)(Y:YT)(L:List Tmp)(o:Oper):Cl:=
 match o.op with
 | .move x| .assign x=>KQ s L x
 | .pick c a b=>CF s L c a b
 | .alloc e=>Ew P s L e
 | .box e x=>TF P s L e x
 | .build ty ps=>xI P s L ty ps.toList
 | .buildSlice ty len ps=>kg P s L ty len ps.toList
 | .load ty a=>CG P s L ty a
 | .store ty a x=>Ey P s L ty a x
 | .nilCheck x=>pW s L x
 | .binOp op ty x y _=>Az P s L op ty x y
 | .unOp .not _ x=>Pg s L x
 | .unOp .neg _ x=>Ph s L x
 | .convert c d x=>oq P s L c d x
 | .makeInterface ty x=>iF P s L ty x
 | .makeFunc (.func g) ⟨[]⟩ cs=>pX s L g cs.toList
 | .makeMap _ none=>CJ s L
 | .makeMap ty (some (.const (.int _ _)))=>pY P s L ty
 | .makeSlice ty x y=>mK P s L ty x y
 | .slice ty x lo hi none=>xJ P s L ty x lo hi
 | .fieldAddr ty x f=>jF P s L ty x f
 | .field ty x f=>xK P s L ty x f
 | .indexAddr ty x ix=>jG P s L ty x ix
 | .index ty x ix=>xL P s L ty x ix
 | .lookup ty x k ok=>sS P s L ty x k ok
 | .mapUpdate ty m k x| .insert ty m k x=>jH P s L ty m k x
 | .extract x k=>ou s L x k
 | .range ty x=>AA P s L ty x
 | .next x false=>GU s L x
 | .entry x=>AB s L x
 | .call {callee:=.value g,args,..}=>GQ s Y L g args.toList
 | .call {callee:=.builtin b,args,argTypes}=>
  match b,args.toList with
  | .len,[x]=>(match argTypes.toList with|[ty]=>KR P s L ty x|_=>KV)
  | .append,[a,x]=>(match argTypes.toList with|[ty,Ez]=>wW P s L ty Ez a x|_=>KV)
  | .copy,[d,x]=>(match argTypes.toList with|ty::_=>GR P s L ty d x|_=>KV)
  | .max,[x,y]=>KS s L x y
  | .min,[x,y]=>KT s L x y
  |_,_=>KV
 |_=>KV
end
end
end
section
noncomputable section
def dQ:Op->Nat
 | .move _| .assign _| .pick ..| .build ..| .nilCheck _| .binOp ..| .unOp ..| .convert ..| .makeInterface ..| .makeFunc ..| .slice ..| .fieldAddr ..| .field ..| .indexAddr ..| .index ..| .extract ..=>0
 | .load ..| .lookup ..=>1
 | .alloc _| .box ..| .buildSlice ..| .makeMap ..| .makeSlice ..=>2
 | .call {callee:=.builtin .len,..}=>1
 | .call {callee:=.builtin .max,..}| .call {callee:=.builtin .min,..}=>0
 |_=>3
section
variable (P:Program) (sl:FuncId->Sl)
structure Cc where run:FT->AH->Nat->Tr AV->fu
structure Cg where run:FT->AH->Nat->Tr AV->List AV->fu
structure PtF where run:Tr AV->AV->Option (Tr AV)
def uQ(s:Sl)(d:Tmp):PtF:=bc (Nat.ble (Nat.succ d) s.N) (bc (s.S d) ⟨λt v=>some ((pp 20 d).run v t)⟩ ⟨λt _=>some t⟩) ⟨λ_ _=>none⟩
structure GdF where run:Tr AV->List AV->Option Bool
def GV(s:Sl)(L:List Tmp)(ops:Array Oper):Option (Nat×Bool)->GdF
 |none=>⟨λ_ _=>some true⟩
 |some (j,w)=>match(ops[j]?).bind (·.dst)with
  |some d=>⟨λt l=>match(co s L (.tmp d)).run t l with|some (.b x)=>some (bc w x (pV x))|some _=>some false|none=>none⟩
  |none=>⟨λ_ _=>none⟩
structure TG where run:Tr AV->List AV->AV->(Tr AV->List AV->fu)->fu
def RP(s:Sl)(d:Option Tmp):TG:=@Option.rec Tmp (λ_=>TG) ⟨λt l _ k=>k t l⟩ (λd=>bc (Nat.ble (Nat.succ d) s.N) (bc (s.S d) ⟨λt l v k=>k ((pp 20 d).run v t) l⟩ ⟨λt l v k=>k t (v::l)⟩) ⟨λ_ _ _ _=>.bad⟩) d
def Pk(s:Sl)(d:Option Tmp)(L:List Tmp):List Tmp:=@Option.rec Tmp (λ_=>List Tmp) L (λd=>bc (s.S d) L (d::L)) d
def g0(c:Cl)(p:TG)(k:Cg):Cg:=⟨λf h n t l=>mJ (c.run f t l h n) λv h n=>p.run t l v λt l=>k.run f h n t l⟩
def g1(g:GdF)(c:Cl)(p:TG)(k:Cg):Cg:=⟨λf h n t l=>@Option.rec Bool (λ_=>fu) .bad (λb=>bc b
 (mJ (c.run f t l h n) λv h n=>p.run t l v λt l=>k.run f h n t l)
 (p.run t l (.bS []) λt l=>k.run f h n t l)) (g.run t l)⟩
def gE:Cg:=⟨λ_ h n t _=>.ok .bV h n t⟩
def CK(s:Sl)(Y:YT)(ops:Array Oper)(l:List Oper):List Tmp->Cg:=
 @List.rec Oper (λ_=>List Tmp->Cg) (λ_=>gE) (λo _ ih L=>
  @Option.rec (Nat×Bool) (λ_=>Cg) (g0 (cop P s Y L o) (RP s o.dst) (ih (Pk s o.dst L)))
   (λg=>g1 (GV s L ops (some g)) (cop P s Y L o) (RP s o.dst) (ih (Pk s o.dst L))) o.guard) l
def opT:Operand->List Tmp| .tmp k=>[k]|_=>[]
def bit(m i:Nat):Bool:=Nat.beq (Nat.land (Nat.shiftRight m i) 1) 1
def II(A:List Nat)(o:Oper):Nat:=o.after.toList.foldl (λm e=>bc (Region.binds .any e) (Nat.lor (Nat.lor m (Nat.shiftLeft 1 e.on)) (A.getD e.on 0)) m) 0
def jZ(ops:List Oper):List Nat:=ops.foldl (λA o=>A++[II A o]) []
def zn(ops:List Oper)(o:Oper):List Tmp:=o.op.operands.toList.flatMap opT++(match o.guard with
 |some (j,_)=>(match ops[j]? with|some q=>q.dst.toList|none=>[])
 |none=>[])
def uS:List Oper->Nat->List (Nat×Tmp)
 |[],_=>[]
 |o::l,i=>match o.dst with|some d=>(i,d)::uS l (i+1)|none=>uS l (i+1)
def jI(s:Sl)(W:List (Nat×Tmp))(A:List Nat)(j:Nat):Sl:=⟨λk=>bc (s.S k) (W.all λx=>bc (Nat.beq x.2 k) (bc (Nat.beq x.1 j) true (bit (A.getD x.1 0) j)) true) false,s.N⟩
def lH(W:List (Nat×Tmp))(A:List Nat)(j:Nat)(K:List Tmp):List (Nat×Tmp):=W.filter λx=>bc (bit (A.getD j 0) x.1) (K.contains x.2) false
structure PkF where run:List AV->Option (List AV)
def KW(i:Nat):List Nat->PkF
 |[]=>⟨λ_=>some []⟩
 |k::r=>⟨λvs=>bnd ((Cz (i - 1 - k)).run vs) λv=>bnd ((KW i r).run vs) λl=>some (v::l)⟩
structure Ds where run:FT->Tr AV->Nat->AH->Nat->List AV->fq
def Ef(b:Option Bool)(x y:fq):fq:=@Option.rec Bool (λ_=>fq) .bad (λb=>bc b x y) b
def lI(s:Sl)(Y:YT)(ops:Array Oper)(W:List (Nat×Tmp))(A:List Nat)(i j:Nat)(o:Oper):Ds:=
 let s1:=jI s W A j;let a:=lH W A j (zn ops.toList o);let L:=a.map (·.2);let p:=KW i (a.map (·.1));let g:=GV s1 L ops o.guard;let c:=cop P s1 Y L o
 match dQ o.op with
 |0=>⟨λf t _ h n vs=>aJ (p.run vs) λl=>Ef (g.run t l) (O7 (c.run f t l .z 0) λv _ _=>.ok v h n) (.ok (.bS []) h n)⟩
 |1=>⟨λf t _ h n vs=>aJ (p.run vs) λl=>Ef (g.run t l) (O7 (c.run f t l h 0) λv _ _=>.ok v h n) (.ok (.bS []) h n)⟩
 |2=>⟨λf t x h n vs=>aJ (p.run vs) λl=>Ef (g.run t l) (O7 (c.run f t l .z x) λv h1 n1=>bc (Nat.beq n1 (Nat.succ x)) (aJ (h1.get x) λob=>.ok v (h.set x ob) n) .bad) (.ok (.bS []) h n)⟩
 |_=>⟨λf t _ h n vs=>aJ (p.run vs) λl=>Ef (g.run t l) (c.run f t l h n) (.ok (.bS []) h n)⟩
inductive AJ where
 |bad|ok (h:AH) (n:Nat) (vs:List AV) (hs:List (Nat×AH))
def nU(x:fq)(f:AV->AH->Nat->AJ):AJ:=@fq.rec (λ_=>AJ) .bad f x
structure Dk where run:FT->Tr AV->Nat->AH->Nat->List AV->List (Nat×AH)->AJ
def iB(k:Nat):List Oper->Nat->List Nat
 |[],_=>[]
 |o::l,j=>bc (Nat.beq (dQ o.op) k) (j::iB k l (j+1)) (iB k l (j+1))
def mM{α:Type}(l:List α)(p:α->Bool):Bool:=@List.rec α (λ_=>Bool) true (λa _ ih=>bc (p a) ih false) l
def Pm(a b:Nat):Bool:=Nat.ble (Nat.succ a) b
def wK(a b:Bool):Bool:=bc a b true
def calm(E:List Nat)(p j:Nat):Bool:=mM E λe=>wK (Nat.ble p e) (Nat.ble j e)
def IJ(E B A:List Nat)(j:Nat):Bool:=mM B λa=>wK (bc (Pm a j) (calm E a j) false) (bit (A.getD j 0) a)
def zB(s:Sl)(Y:YT)(ops:Array Oper)(W:List (Nat×Tmp))(A E B:List Nat):List Oper->Nat->Nat->Dk
 |[],_,_=>⟨λ_ _ _ h n vs hs=>.ok h n vs hs⟩
 |o::l,j,r=>bc (Nat.beq (dQ o.op) 3)
  ⟨λf t n0 h n vs hs=>nU ((lI P s Y ops W A j j o).run f t 0 h n vs) λv h n=>(zB s Y ops W A E B l (j+1) r).run f t n0 h n (v::vs) ((j+1,h)::hs)⟩
  (bc (Nat.beq (dQ o.op) 2)
  ⟨λf t n0 h n vs hs=>nU ((lI P s Y ops W A j j o).run f t (Nat.add n0 r) h n vs) λv h n=>(zB s Y ops W A E B l (j+1) (r+1)).run f t n0 h n (v::vs) hs⟩
  (bc (Nat.beq (dQ o.op) 1) (bc (IJ E B A j)
  ⟨λf t n0 h n vs hs=>nU ((lI P s Y ops W A j j o).run f t 0 h n vs) λv _ _=>(zB s Y ops W A E B l (j+1) r).run f t n0 h n (v::vs) hs⟩
  ⟨λf t n0 h n vs hs=>@Option.rec (Nat×AH) (λ_=>AJ) .bad (λx=>nU ((lI P s Y ops W A j j o).run f t 0 x.2 n vs) λv _ _=>(zB s Y ops W A E B l (j+1) r).run f t n0 h n (v::vs) hs) (hd hs)⟩)
  ⟨λf t n0 h n vs hs=>nU ((lI P s Y ops W A j j o).run f t 0 h n vs) λv h n=>(zB s Y ops W A E B l (j+1) r).run f t n0 h n (v::vs) hs⟩))
mutual
def IK:AV->AV->Bool
 | .b x,.b y=>bc x y (pV y)
 | .i k n,.i k' n'=>bc (wJ k k') (fJ n n') false
 | .s l,.s l'=>qF l l'
 | .p x o,.p x' o'=>bc (Nat.beq x x') (Nat.beq o o') false
 | .sl x l o n none,.sl x' l' o' n' none=>bc (Nat.beq x x') (bc (Nat.beq l l') (bc (Nat.beq o o') (Nat.beq n n') false) false) false
 | .sl x l o n (some c),.sl x' l' o' n' (some c')=>bc (Nat.beq x x') (bc (Nat.beq l l') (bc (Nat.beq o o') (bc (Nat.beq n n') (Nat.beq c c') false) false) false) false
 | .m x,.m y=>Nat.beq x y
 | .f g l,.f g' l'=>bc (Nat.beq g g') (uT l l') false
 | .y x,.y y=>Nat.beq x y
 | .zT t v,.zT t' v'=>bc (Nat.beq t t') (IK v v') false
 | .agg l,.agg l'=>uT l l'
 | .bS l,.bS l'=>uT l l'
 | .k c,.k c'=>Nat.beq c c'
 | .es a c,.es a' c'=>bc (decide (a=a')) (Nat.beq c c') false
 |_,_=>false
def uT:List AV->List AV->Bool
 |[],[]=>true
 |a::l,b::r=>bc (IK a b) (uT l r) false
 |_,_=>false
end
def adm(E:List Nat)(A:List Nat)(j p:Nat):Bool:=bc (mM E λe=>wK (bit (A.getD j 0) e) (Pm e p)) (mM E λe=>wK (Pm e p) (pV (bit (A.getD e 0) j))) false
def own(E:List Nat)(j p:Nat):Bool:=bc (Nat.ble p j) (calm E p j) false
structure RkF where run:FT->Tr AV->List AV->List (Nat×AH)->Bool
def CO(p:Nat)(hs:List (Nat×AH)):Option AH:=@List.rec (Nat×AH) (λ_=>Option AH) none (λx _ ih=>bc (Nat.beq x.1 p) (some x.2) ih) hs
def ck1(s:Sl)(Y:YT)(ops:Array Oper)(W:List (Nat×Tmp))(A:List Nat)(j p:Nat):RkF:=match ops[j]? with
 |some o=>⟨λf t vs hs=>match CO p hs,(Cz (ops.size - 1 - j)).run vs with
  |some H,some v=>(match(lI P s Y ops W A ops.size j o).run f t 0 H 0 vs with| .ok v' _ _=>IK v v'| .bad=>false)
  |_,_=>false⟩
 |none=>⟨λ_ _ _ _=>false⟩
def xM(s:Sl)(Y:YT)(ops:Array Oper)(W:List (Nat×Tmp))(A:List Nat):List (Nat×Nat)->RkF
 |[]=>⟨λ_ _ _ _=>true⟩
 |x::l=>⟨λf t vs hs=>bc ((ck1 P s Y ops W A x.1 x.2).run f t vs hs) ((xM s Y ops W A l).run f t vs hs) false⟩
def pairs(E R:List Nat)(A:List Nat):List (Nat×Nat):=R.flatMap λj=>((0::E.map (·+1)).filter λp=>bc (own E j p) false (adm E A j p)).map λp=>(j,p)
def Xz(s:Sl)(ops:Array Oper)(W:List (Nat×Tmp))(A E B:List Nat):Bool:=
 bc (mM (List.range ops.size) λj=>match ops[j]? with|some o=>mM o.after.toList λe=>wK (Region.binds .any e) (Pm e.on j)|none=>false)
 (bc (mM E λe'=>bc (mM E λe=>wK (Pm e e') (bit (A.getD e' 0) e)) (mM B λa=>wK (Pm a e') (bit (A.getD e' 0) a)) false)
 (mM W λx=>bc (Nat.ble (Nat.succ x.2) s.N) (mM W λy=>wK (Nat.beq x.2 y.2) (Nat.beq x.1 y.1)) false) false) false
structure PdF where run:List AV->Tr AV->Option (Tr AV)
def AL(s:Sl)(i:Nat):List (Nat×Tmp)->PdF
 |[]=>⟨λ_ t=>some t⟩
 |x::l=>bc (s.S x.2) ⟨λvs t=>bnd ((Cz (i - 1 - x.1)).run vs) λv=>(AL s i l).run vs ((pp 20 x.2).run v t)⟩ (AL s i l)
def kOf(B:List Nat):Nat:=@List.rec Nat (λ_=>Nat) 0 (λ_ l _=>Nat.succ (Nat.succ (mG l))) B
def IL(s:Sl)(Y:YT)(ops:Array Oper):Cc:=
 let W:=uS ops.toList 0;let A:=jZ ops.toList;let E:=iB 3 ops.toList 0;let R:=iB 1 ops.toList 0;let B:=iB 2 ops.toList 0;let K:=kOf B;let D:=zB P s Y ops W A E B ops.toList 0 0;let C:=xM P s Y ops W A (pairs E R A);let T:=AL s ops.size W
 bc (Xz s ops W A E B) ⟨λf h n t=>
  (@AJ.rec (λ_=>fu) .bad (λh1 n1 vs hs=>bc (C.run f t vs hs) (@Option.rec (Tr AV) (λ_=>fu) .bad (λt1=>.ok .bV h1 n1 t1) (T.run vs t)) .bad)
   (D.run f t n h (Nat.add n K) [] [(0,h)]))⟩ ⟨λ_ _ _ _=>.bad⟩
def oC(k:Nat)(b:Cc)(f:FT):AH->Nat->Tr AV->fu:=
 @Nat.rec (λ_=>AH->Nat->Tr AV->fu) (λ_ _ _=>.bad) (λ_ ih h n t=>iK (b.run f h n t) λx h n t=>Cy x (ih h n t) (.ok x h n t)) k
def GX(l:Nat)(h:AH)(n:Nat)(t:Tr AV):fu:=match h.get l with
 |some (.lp .ready none g u ps fF body)=>.ok .bV (h.set l (.lp .exhausted none g u ps fF body)) n t
 |some (.lp .done (some .ret) g u ps fF body)=>.ok .ret (h.set l (.lp .exhausted (some .ret) g u ps fF body)) n t
 |some (.lp .done (some (.exit id)) g u ps fF body)=>.ok (.exit id) (h.set l (.lp .exhausted (some (.exit id)) g u ps fF body)) n t
 |_=>.bad
def cc(g:FuncId)(Y:YT):Code->Cc
 | .skip=>⟨λ_ h n t=>.ok .bV h n t⟩
 | .region _ ops d=>bc d (IL P (sl g) Y ops) ⟨λf h n t=>(CK P (sl g) Y ops ops.toList []).run f h n t []⟩
 | .seq a b=>⟨λf h n t=>iK ((cc g Y a).run f h n t) λx h n t=>Cy x ((cc g Y b).run f h n t) (.ok x h n t)⟩
 | .cond c a b=>⟨λf h n t=>match(co (sl g) [] c).run t []with
  |some (.b x)=>bc x ((cc g Y a).run f h n t) ((cc g Y b).run f h n t)
  |_=>.bad⟩
 | .block id a=>⟨λf h n t=>iK ((cc g Y a).run f h n t) λx h n t=>match x with
  | .exit j=>bc (Nat.beq j id) (.ok .bV h n t) (.ok (.exit j) h n t)
  |x=>.ok x h n t⟩
 | .loop a=>⟨λf h n t=>oC 1125899906842624 (cc g Y a) f h n t⟩
 | .scope a=>⟨λf h n t=>iK ((cc g Y a).run f h n t) λx h n t=>match x with
  | .goto _=>.bad
  |x=>.ok x h n t⟩
 | .label _=>⟨λ_ h n t=>.ok .bV h n t⟩
 | .exit id=>⟨λ_ h n t=>.ok (.exit id) h n t⟩
 | .goto l=>⟨λ_ h n t=>.ok (.goto l) h n t⟩
 | .ret=>⟨λ_ h n t=>.ok .ret h n t⟩
 | .rangeFunc r ps fF body=>⟨λf h n t=>match(co (sl g) [] r).run t []with
  |some (.f q cap)=>mJ (f q (.y n::cap) (h.set n (.lp .ready none g t ps.toList fF body)) (Nat.succ n)) λ_ h2 n2=>GX n h2 n2 t
  |_=>.bad⟩
 | .refuse _=>⟨λ_ _ _ _=>.bad⟩
def vV(s:Sl):List Tmp->List AV->Tr AV->Option (Tr AV)
 |k::ks,v::l,t=>bnd ((uQ s k).run t v) λt=>vV s ks l t
 |[],[],t=>some t
 |_,_,_=>none
def yE(l:Nat)(x:Ex)(h:AH)(n:Nat):fq:=match h.get l with
 |some (.lp _ _ g u ps fF body)=>match x with
  | .bV=>.ok (.b true) (h.set l (.lp .ready none g u ps fF body)) n
  | .ret=>.ok (.b false) (h.set l (.lp .done (some .ret) g u ps fF body)) n
  | .exit id=>.ok (.b false) (h.set l (.lp .done (some (.exit id)) g u ps fF body)) n
  | .goto _=>.bad
 |_=>.bad
def yl(k:Nat):YT:=
 @Nat.rec (λ_=>YT) (λ_ _ _ _ _=>.bad)
  (λ_ ih l args f h n=>match h.get l with
   |some (.lp .ready pd g t ps fF body)=>aJ (vV (sl g) ps args t) λt1=>
    n_ ((cc P sl g ih fF).run f h n t1) λx h n t2=>match x with
     | .bV=>match h.get l with
      |some (.lp .ready pd g1 u1 ps1 wL nK)=>n_ ((cc P sl g ih body).run f (h.set l (.lp .busy pd g1 u1 ps1 wL nK)) n t2) λx h n _=>yE l x h n
      |_=>.bad
     |_=>.bad
   |_=>.bad) k
structure RsF where run:Tr AV->AH->Option (List AV)
def AQ(s:Sl):List ResultVar->RsF
 |[]=>⟨λ_ _=>some []⟩
 | .tmp k::l=>⟨λt h=>bnd ((co s [] (.tmp k)).run t []) λa=>bnd ((AQ s l).run t h) λb=>some (a::b)⟩
 | .cell a ty::l=>⟨λt h=>match(co s [] (.tmp a)).run t []with|some (.p x o)=>bnd (xD P ty h x o) λa=>bnd ((AQ s l).run t h) λb=>some (a::b)|_=>none⟩
def wM(s:Sl)(l:List ResultVar)(t:Tr AV)(h:AH):Option AV:=
 bnd ((AQ P s l).run t h) λl=>match l with|[v]=>some v|l=>some (.bS l)
def uU(s:Sl):Nat->List AV->Tr AV->Option (Tr AV)
 |_,[],t=>some t
 |k,v::l,t=>bnd ((uQ s k).run t v) λt=>uU s (k+1) l t
structure Fc where run:FT->List AV->AH->Nat->fq
def TH(g:FuncId):Fc:=
 match hd (qC g P.funcs.toList)with
 |some fn=>match fn.body with
  |some c=>bc (Nat.ble (sl g).N fn.ntmps) ⟨λf args h n=>aJ (uU (sl g) 0 args .z) λt=>n_ ((cc P sl g (yl P sl 20) c).run f h n t) λx h n t=>match x with
   | .bV=>ok1 (wM P (sl g) fn.results.toList t h) h n
   | .ret=>ok1 (wM P (sl g) fn.results.toList t h) h n
   |_=>.bad⟩ ⟨λ_ _ _ _=>.bad⟩
  |none=>⟨λ_ _ _ _=>.bad⟩
 |none=>⟨λ_ _ _ _=>.bad⟩
abbrev OT:=FT->FuncId->List AV->AH->Nat->Option fq
def lJ(O:OT)(k:Nat):FT:=@Nat.rec (λ_=>FT) (λ_ _ _ _=>.bad) (λ_ ih g args h n=>@Option.rec fq (λ_=>fq) ((TH P sl g).run ih args h n) (λr=>r) (O ih g args h n)) k
end
end
end
theorem bF{α:Type}(a b:α):bc true a b=a:=rfl
theorem fU{α:Type}(a b:α):bc false a b=b:=rfl
theorem aB{α β:Type}{x:Option α}{f:α->Option β}{y:β}(h:bnd x f=some y):∃a,x=some a/\f a=some y:=by
 cases x with
 |none=>cases h
 |some a=>exact⟨a,rfl,h⟩
theorem aT{α:Type}{x:Option α}{f:α->fq}{v:AV}{h:AH}{n:Nat}(e:aJ x f= .ok v h n):∃a,x=some a/\f a= .ok v h n:=by
 cases x with
 |none=>cases e
 |some a=>exact⟨a,rfl,e⟩
theorem gL{x:Option AV}{h h':AH}{n n':Nat}{v:AV}(e:ok1 x h n= .ok v h' n'):x=some v/\h'=h/\n'=n:=by
 cases x with
 |none=>cases e
 |some a=>cases e;exact⟨rfl,rfl,rfl⟩
theorem wX{r:fq}{f:AV->AH->Nat->fu}{x:Ex}{h:AH}{n:Nat}{t:Tr AV}(e:mJ r f= .ok x h n t):∃v h1 n1,r= .ok v h1 n1/\f v h1 n1= .ok x h n t:=by
 cases r with
 |bad=>cases e
 |ok v h1 n1=>exact⟨v,h1,n1,rfl,e⟩
theorem iZ{r:fu}{f:Ex->AH->Nat->Tr AV->fu}{x:Ex}{h:AH}{n:Nat}{t:Tr AV}(e:iK r f= .ok x h n t):∃x1 h1 n1 t1,r= .ok x1 h1 n1 t1/\f x1 h1 n1 t1= .ok x h n t:=by
 cases r with
 |bad=>cases e
 |ok x1 h1 n1 t1=>exact⟨x1,h1,n1,t1,rfl,e⟩
theorem mO{r:fu}{f:Ex->AH->Nat->Tr AV->fq}{v:AV}{h:AH}{n:Nat}(e:n_ r f= .ok v h n):∃x1 h1 n1 t1,r= .ok x1 h1 n1 t1/\f x1 h1 n1 t1= .ok v h n:=by
 cases r with
 |bad=>cases e
 |ok x1 h1 n1 t1=>exact⟨x1,h1,n1,t1,rfl,e⟩
theorem iI{c:Bool}{a:fq}{v:AV}{h:AH}{n:Nat}(e:bc c a .bad= .ok v h n):c=true/\a= .ok v h n:=by
 cases c with
 |false=>cases e
 |true=>exact⟨rfl,e⟩
theorem bK{α:Type}{c:Bool}{a:Option α}{v:α}(e:bc c a none=some v):c=true/\a=some v:=by
 cases c with
 |false=>cases e
 |true=>exact⟨rfl,e⟩
theorem beq_eq{a b:Nat}(h:Nat.beq a b=true):a=b:=Nat.eq_of_beq_eq_true h
theorem rG{α:Type}:∀(k:Nat)(l:List α),qC k l=l.drop k
 |0,_=>rfl
 |k+1,[]=>by show[]=_;simp
 |k+1,a::l=>by show qC k l=_;rw[rG k];rfl
theorem XA{α:Type}(l:List α):hd l=l.head?:=by cases l<;>rfl
theorem mP{α:Type}(k:Nat)(l:List α):hd (qC k l)=l[k]?:=by rw[rG,XA,List.head?_drop]
theorem iG{α:Type}:∀(l m:List α),Cv l m=l++m
 |[],_=>rfl
 |a::l,m=>by show a::Cv l m=_;rw[iG l];rfl
theorem eO{α:Type}(l:List α):mG l=l.length:=by
 have key:∀(l:List α)(k:Nat),@List.rec α (λ_=>Nat->Nat) (λk=>k) (λ_ _ ih k=>ih (Nat.succ k)) l k=l.length+k:=by
  intro l;induction l with
  |nil=>intro k;simp
  |cons a l ih=>intro k;show@List.rec α (λ_=>Nat->Nat) (λk=>k) (λ_ _ ih k=>ih (Nat.succ k)) l (k+1)=_;rw[ih];simp;omega
 exact key l 0
theorem jJ{α:Type}:∀{k:Nat}{l m:List α},mH k l=some m->k<=l.length/\m=l.take k
 |0,_,_,h=>by cases h;simp
 |k+1,[],_,h=>by cases h
 |k+1,a::l,m,h=>by
  obtain⟨x,h1,h2⟩:=aB (show bnd (mH k l) (λx=>some (a::x))=some m from h);cases h2;obtain⟨h3,rfl⟩:=jJ h1;exact⟨by simp;omega,rfl⟩
theorem CP{α:Type}:∀{c l m:List α},TD c l=some m->c.length<=l.length/\m=c++l.drop c.length
 |[],_,_,h=>by cases h;simp
 |a::c,[],_,h=>by cases h
 |a::c,b::l,m,h=>by
  obtain⟨x,h1,h2⟩:=aB (show bnd (TD c l) (λx=>some (a::x))=some m from h);cases h2;obtain⟨h3,rfl⟩:=CP h1;exact⟨by simp;omega,rfl⟩
theorem lK{α:Type}{c:List α}:∀{o:Nat}{l m:List α},uP c o l=some m->o+c.length<=l.length/\m=l.take o++(c++l.drop (o+c.length))
 |0,l,m,h=>by obtain⟨h1,h2⟩:=CP (show TD c l=some m from h);exact⟨by omega,by simpa using h2⟩
 |o+1,[],_,h=>by cases h
 |o+1,b::l,m,h=>by
  obtain⟨x,h1,h2⟩:=aB (show bnd (uP c o l) (λx=>some (b::x))=some m from h);cases h2;obtain⟨h3,rfl⟩:=lK h1;exact⟨by simp;omega,by simp[show o+1+c.length=(o+c.length)+1 by omega]⟩
theorem eX(a b:Int):kM a b=decide (a<=b):=by
 cases a with
 |ofNat m=>cases b with
  |ofNat k=>show Nat.ble m k=_;rw[Bool.eq_iff_iff];simp
  |negSucc k=>show false=_;simp;omega
 |negSucc m=>cases b with
  |ofNat k=>show true=_;simp;omega
  |negSucc k=>show Nat.ble k m=_;rw[Bool.eq_iff_iff];simp;omega
theorem cO(a b:Int):fJ a b=decide (a=b):=by
 cases a with
 |ofNat m=>cases b with
  |ofNat k=>show Nat.beq m k=_;rw[Bool.eq_iff_iff];simp;omega
  |negSucc k=>rfl
 |negSucc m=>cases b with
  |ofNat k=>rfl
  |negSucc k=>show Nat.beq m k=_;rw[Bool.eq_iff_iff];simp
theorem jc(a:Bool):pV a= !a:=by cases a<;>rfl
theorem sU{i:Int}{n:Nat}{f:Nat->Option AV}{v:AV}(h:Em i n f=some v):∃k:Nat,i=k/\k<n/\f k=some v:=by
 cases i with
 |ofNat k=>
  obtain⟨h1,h2⟩:=bK (show bc (Nat.ble (Nat.succ k) n) (f k) none=some v from h);exact⟨k,rfl,Nat.le_of_ble_eq_true h1,h2⟩
 |negSucc k=>cases h
theorem uV(k:IntKind)(n:Int):gF k n=k.wrap n:=by
 unfold gF;rw[eX,eX];by_cases h1:k.min<=n
 .by_cases h2:n<=k.max
  .simp only[h1,h2,decide_true,bF]
   have:k.wrap n=n:=by
    cases k<;>simp only[IntKind.min,IntKind.max,IntKind.signed,IntKind.bits,if_true,Bool.false_eq_true,if_false]at h1 h2<;>simp only[IntKind.wrap,IntKind.signed,IntKind.bits,Bool.true_and,Bool.false_and]<;>(try split)<;>simp_all<;>omega
   exact this.symm
  .simp only[h1,h2,decide_true,decide_false,bF,fU]
 .simp only[h1,decide_false,fU]
theorem iQ:∀(a b:List UInt8),qF a b=(a==b)
 |[],[]=>rfl
 |[],_::_=>rfl
 |_::_,[]=>rfl
 |x::a,y::b=>by
  show bc (Nat.beq x.toNat y.toNat) (qF a b) false=_;rw[iQ a b];by_cases h:x=y
  .subst h;rw[show Nat.beq x.toNat x.toNat=true from Nat.beq_refl _];simp[bc]
  .have:Nat.beq x.toNat y.toNat=false:=by
    cases e:Nat.beq x.toNat y.toNat with
    |false=>rfl
    |true=>exact absurd (UInt8.toNat_inj.1 (Nat.eq_of_beq_eq_true e)) h
   rw[this];simp[bc,h]
theorem zV{h h':AH}{n n':Nat}{v u:AV}{o:AO}(e:mk h n v o= .ok u h' n'):u=v/\h'=h.set n o/\n'=n+1:=by
 cases e;exact⟨rfl,rfl,rfl⟩
theorem gX{α:Type}(t:Tr α)(n m:Nat)(v:α):(t.set n v).get m=if m=n then some v else t.get m:=Tr.get_put _ _ _ _
theorem AU{α:Type}(t:Tr α)(n m:Nat):(t.del n).get m=if m=n then none else t.get m:=Tr.get_put _ _ _ _
section
variable {P:Program} {sl:FuncId->Sl} {θ:Th} {h:AH} {n:Nat} {w:World}
theorem RH.lt(H:RH P sl θ h n w){x:Nat}{r:Nat×Nat}(e:θ x=some r):x<n:=by
 rcases Nat.lt_or_ge x n with h1|h1
 .exact h1
 .rw[H.new x h1]at e;cases e
theorem RH.dom(H:RH P sl θ h n w){x:Nat}{o:AO}(e:h.get x=some o):x<n:=by
 obtain⟨r,c,_,h1,_⟩:=H.at_ x o e;exact H.lt h1
def Th.ins(θ:Th)(n:Nat)(r:Nat×Nat):Th:=λx=>if x=n then some r else θ x
theorem gZ.ins(H:RH P sl θ h n w)(r:Nat×Nat):gZ θ (θ.ins n r):=λx q e=>by
 have:=H.lt e;unfold Th.ins;rw[if_neg (by omega)];exact e
theorem Th.dz(θ:Th)(n:Nat)(r:Nat×Nat):θ.ins n r n=some r:=if_pos rfl
theorem RH.GY(H:RH P sl θ h n w)(r:Nat×Nat)(x y:Nat)(e1:θ x=none)(e2:θ.ins n r x≠none)(e3:θ y≠none):y<x:=by
 have hx:x=n:=by
  by_cases hx:x=n
  .exact hx
  .unfold Th.ins at e2;rw[if_neg hx]at e2;exact absurd e1 e2
 subst hx;rcases Nat.lt_or_ge y x with h1|h1
 .exact h1
 .exact absurd (H.new y h1) e3
theorem bH{w:World}{k:Nat}{o:Obj}(e:w.heap[k]?=some o):k<w.heap.size:=by
 rcases Nat.lt_or_ge k w.heap.size with h|h
 .exact h
 .rw[Array.getElem?_eq_none h]at e;cases e
theorem RH.alloc(H:RH P sl θ h n w)(c:Nat){o:AO}{obj:Obj}(hA:rF P sl θ c o obj)(ho:zA (some o)=true:=by rfl):
 RH P sl (θ.ins n (w.heap.size,c)) (h.set n o) (n+1) (w.alloc obj)/\Fr θ h w (θ.ins n (w.heap.size,c)) (h.set n o) (w.alloc obj):=by
 have hle:=gZ.ins H (w.heap.size,c);have hget:∀x,(h.set n o).get x=if x=n then some o else h.get x:=λx=>gX _ _ _ _
 have hheap:∀k,(w.alloc obj).heap[k]?=if k=w.heap.size then some obj else w.heap[k]?:=λk=>by
  show(w.heap.push obj)[k]?=_;rw[Array.getElem?_push]
 refine H.Xt ?_ ?_ ?_ ⟨rfl,rfl,rfl,by show _<=(w.heap.push obj).size;simp,?_,hle,?_,λk r e=>⟨r,by rw[hheap,if_neg (by have:=bH e;omega)];exact e⟩,H.GY _,λx f e=>by
  rw[hget]at e;by_cases hx:x=n
  .rw[if_pos hx]at e;cases e;cases ho
  .rw[if_neg hx]at e;exact e⟩
 .intro x a ha
  rw[hget]at ha;by_cases hx:x=n
  .subst hx;rw[if_pos rfl]at ha;cases ha
   exact⟨_,_,obj,Th.dz _ _ _,by rw[hheap,if_pos rfl],rF.mono hle hA⟩
  .rw[if_neg hx]at ha
   obtain⟨r,d,ob,h1,h2,h3⟩:=H.at_ x a ha;refine⟨r,d,ob,hle _ _ h1,?_,rF.mono hle h3⟩;rw[hheap,if_neg ?_];· exact h2
   rintro rfl;simp at h2
 .intro x y r c1 d1 hx hy e1 e2
  rw[hget]at hx hy;unfold Th.ins at e1 e2;by_cases hx1:x=n
  .by_cases hy1:y=n
   .rw[hx1,hy1]
   .exfalso
    rw[if_pos hx1]at e1;cases e1;rw[if_neg hy1]at e2 hy;obtain⟨b,hb⟩:=Option.isSome_iff_exists.1 hy;obtain⟨r',d',ob,h1,h2,_⟩:=H.at_ y b hb;rw[h1]at e2;cases e2;simp at h2
  .rw[if_neg hx1]at e1 hx
   by_cases hy1:y=n
   .exfalso
    rw[if_pos hy1]at e2;cases e2;obtain⟨b,hb⟩:=Option.isSome_iff_exists.1 hx;obtain⟨r',d',ob,h1,h2,_⟩:=H.at_ x b hb;rw[h1]at e1;cases e1;simp at h2
   .rw[if_neg hy1]at e2 hy
    exact H.inj x y r c1 d1 hx hy e1 e2
 .intro x hx
  unfold Th.ins;rw[if_neg (by omega)];exact H.new x (by omega)
 .intro k hk _
  rw[hheap,if_neg (by omega)]
 .rintro k ⟨x,d,hx,e⟩
  rw[hget]at hx;unfold Th.ins at e;by_cases hx1:x=n
  .rw[if_pos hx1]at e;cases e;exact .inr (Nat.le_refl _)
  .rw[if_neg hx1]at e hx;exact .inl ⟨x,d,hx,e⟩
theorem RH.turn(H:RH P sl θ h n w){x r c:Nat}{o o':AO}{zC:Obj}{w':World}(hx:h.get x=some o)(hr:θ x=some (r,c))(hA:rF P sl θ c o' zC)
 (hos:w'.os=w.os)(XB:w'.tape=w.tape)(hout:w'.output=w.output)(hsize:w'.heap.size=w.heap.size)(hw:∀k,w'.heap[k]?=if k=r then some zC else w.heap[k]?)
 (hk:∀d q,rF P sl θ d o (.loop q)->∃q',zC= .loop q')(ho:zA (some o)=true:=by rfl)(ho':zA (some o')=true:=by rfl):
 RH P sl θ (h.set x o') n w'/\Fr θ h w θ (h.set x o') w':=by
 have hxn:=H.dom hx;have hget:∀y,(h.set x o').get y=if y=x then some o' else h.get y:=λy=>gX _ _ _ _
 have hsome:∀y,((h.set x o').get y).isSome=true->(h.get y).isSome=true:=λy hy=>by
  rw[hget]at hy;by_cases e:y=x
  .rw[e,hx];rfl
  .rw[if_neg e]at hy;exact hy
 refine H.Xt ?_ (λy z r' c1 d1 hy hz=>H.inj y z r' c1 d1 (hsome y hy) (hsome z hz)) H.new ⟨hos,XB,hout,Nat.le_of_eq hsize.symm,?_,gZ.refl _,?_,?_,λ_ _ e e'=>absurd e e',λy f e=>by
  rw[hget]at e;by_cases hy:y=x
  .rw[if_pos hy]at e;cases e;cases ho'
  .rw[if_neg hy]at e;exact e⟩
 .intro y a ha
  rw[hget]at ha;by_cases hy:y=x
  .subst hy;rw[if_pos rfl]at ha;cases ha
   exact⟨r,c,zC,hr,by rw[hw,if_pos rfl],hA⟩
  .rw[if_neg hy]at ha
   obtain⟨r',d,ob,h1,h2,h3⟩:=H.at_ y a ha;refine⟨r',d,ob,h1,?_,h3⟩;rw[hw,if_neg ?_];· exact h2
   rintro rfl;exact hy (H.inj y x r' d c (by rw[ha];rfl) (by rw[hx];rfl) h1 hr)
 .intro k _ hk
  rw[hw,if_neg];rintro rfl;exact hk ⟨x,c,by rw[hx];exact ho,hr⟩
 .rintro k ⟨y,d,hy,e⟩
  refine .inl ⟨y,d,?_,e⟩;rw[hget]at hy;by_cases e:y=x
  .rw[e,hx];exact ho
  .rw[if_neg e]at hy;exact hy
 .intro k q e
  rw[hw];by_cases hkr:k=r
  .subst hkr
   obtain⟨r',d,ob,h1,h2,h3⟩:=H.at_ x o hx;rw[hr]at h1;cases h1;rw[e]at h2;cases h2;obtain⟨q',e'⟩:=hk _ q h3;exact⟨q',by rw[if_pos rfl,e']⟩
  .exact⟨q,by rw[if_neg hkr];exact e⟩
end
end Go.Proofs.YtjoohkjmoghmoaaGreatDoor

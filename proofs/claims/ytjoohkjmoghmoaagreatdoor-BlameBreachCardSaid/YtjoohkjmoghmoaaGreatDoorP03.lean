/- part -/
import Derived.Test.YtjoohkjmoghmoaaGreatDoorP02
set_option linter.all false
namespace Go.Proofs.YtjoohkjmoghmoaaGreatDoor
section
section
variable {α β:Type}
def Tr.Lj:Tr α->Tr α->Tr α
 | .z,b=>b
 | .nd l v r,.z=>.nd l v r
 | .nd l v r,.nd l' v' r'=>.nd (Lj l l') (v.or v') (Lj r r')
def Tr.dif:Tr α->Tr β->Tr α
 | .z,_=>.z
 | .nd l v r,.z=>.nd l v r
 | .nd l v r,.nd l' v' r'=>.nd (dif l l') (if v'.isSome then none else v) (dif r r')
theorem Tr.tK:∀(a b:Tr α)(x:Nat),(Tr.Lj a b).get x=(a.get x).or (b.get x)
 | .z,b,x=>by simp[Tr.Lj,Tr.iI]
 | .nd l v r,.z,x=>by simp[Tr.Lj,Tr.iI]
 | .nd l v r,.nd l' v' r',x=>by
  rw[Tr.Lj,Tr.dU,Tr.dU,Tr.dU,tK l l',tK r r'];split
  .rfl
  .split<;>rfl
theorem Tr.xC:∀(a:Tr α)(b:Tr β)(x:Nat),(Tr.dif a b).get x=if(b.get x).isSome then none else a.get x
 | .z,b,x=>by simp[Tr.dif,Tr.iI]
 | .nd l v r,.z,x=>by simp[Tr.dif,Tr.iI]
 | .nd l v r,.nd l' v' r',x=>by
  rw[Tr.dif,Tr.dU,Tr.dU,Tr.dU,xC l l',xC r r'];split
  .rfl
  .split<;>rfl
end
def Sub(g h:AH):Prop:=∀x o,g.get x=some o->h.get x=some o
theorem Sub.refl(h:AH):Sub h h:=λ_ _ e=>e
theorem Sub.z(h:AH):Sub .z h:=λx o e=>by rw[Tr.iI]at e;cases e
theorem Sub.trans{a b c:AH}(h:Sub a b)(k:Sub b c):Sub a c:=λx o e=>k x o (h x o e)
section
variable {P:Program} {sl:FuncId->Sl} {θ bP mZ:Th} {g h h' G h0:AH} {n n' n0:Nat} {w w' w0:World}
theorem Sub.isSome(h:Sub g G){x:Nat}(e:(g.get x).isSome):(G.get x).isSome:=by
 obtain⟨o,ho⟩:=Option.isSome_iff_exists.1 e;rw[h x o ho];rfl
theorem Sub.zN(h:Sub g G){x:Nat}(e:zN (g.get x)=true):zN (G.get x)=true:=by
 obtain⟨o,ho⟩:=Option.isSome_iff_exists.1 (gH e);rw[h x o ho,<-ho];exact e
theorem Im.sub(s:Sub g G){k:Nat}(h:Im θ g k):Im θ G k:=let⟨x,c,h1,h2⟩:=h;⟨x,c,s.zN h1,h2⟩
theorem Fr.part(F:Fr mZ h0 w0 θ G w)(s:Sub g G):Fr mZ h0 w0 θ g w:=
 ⟨F.os,F.tape,F.output,F.size,F.block,F.le,λk hk=>F.from_ k (hk.sub s),F.kind,F.low,λx f e=>F.ro x f (s x _ e)⟩
theorem RH.apart(H:RH P sl θ G n w)(s:Sub g G)(F:Fr θ g w bP h' w'){x:Nat}(hx:(G.get x).isSome)(hg:g.get x=none):h'.get x=none:=by
 cases e:h'.get x with
 |none=>rfl
 |some o=>
  exfalso;obtain⟨oG,hoG⟩:=Option.isSome_iff_exists.1 hx;obtain⟨r,c,ob,h1,h2,_⟩:=H.at_ x oG hoG;have h3:=F.le _ _ h1;cases hw:zN (some o)with
  |false=>
   cases o with
   |ro f=>
    have e1:=F.ro x f e;rw[hg]at e1;cases e1
   |_=>cases hw
  |true=>
  rcases F.from_ r ⟨x,c,by rw[e];exact hw,h3⟩with⟨y,d,hy,hr⟩|hs
  .have:=H.inj x y r c d hx (s.isSome (gH hy)) h1 hr
   subst this;rw[hg]at hy;cases hy
  .have:=bG h2;omega
theorem RH.frame(H:RH P sl θ G n w)(s:Sub g G)(H':RH P sl bP h' n' w')(F:Fr θ g w bP h' w'):
 RH P sl bP (Tr.Lj h' (Tr.dif G g)) n' w'/\(Fr mZ h0 w0 θ G w->Fr mZ h0 w0 bP (Tr.Lj h' (Tr.dif G g)) w'):=by
 have hget:∀x,(Tr.Lj h' (Tr.dif G g)).get x=(h'.get x).or (if(g.get x).isSome then none else G.get x):=λx=>by rw[Tr.tK,Tr.xC]
 have hcase:∀x o,(Tr.Lj h' (Tr.dif G g)).get x=some o->h'.get x=some o\/(h'.get x=none/\g.get x=none/\G.get x=some o):=λx o e=>by
  rw[hget]at e;cases e1:h'.get x with
  |some o1=>rw[e1]at e;exact .inl e
  |none=>
   rw[e1]at e;cases e2:g.get x with
   |some _=>rw[e2]at e;cases e
   |none=>rw[e2]at e;exact .inr ⟨rfl,rfl,e⟩
 have vk:∀x o,g.get x=none->G.get x=some o->∃r c ob,θ x=some (r,c)/\w.heap[r]?=some ob/\w'.heap[r]?=some ob/\rO P sl θ c o ob/\¬Im θ g r:=λx o e1 e2=>by
  obtain⟨r,c,ob,h1,h2,h3⟩:=H.at_ x o e2;have hi:¬Im θ g r:=by
   rintro⟨y,d,hy,hr⟩;have:=H.inj x y r c d (by rw[e2];rfl) (s.isSome (gH hy)) h1 hr;subst this;rw[e1]at hy;cases hy
  exact⟨r,c,ob,h1,h2,(F.block r (bG h2) hi).trans h2,h3,hi⟩
 have gl:GL P bP (Tr.Lj h' (Tr.dif G g)) w':=λk e=>by
  obtain⟨ty,q,e1,e2⟩:=H'.gl k e;refine⟨ty,q,e1,λ⟨x,c,hx,hr⟩=>?_⟩;obtain⟨o,ho⟩:=Option.isSome_iff_exists.1 (gH hx);rcases hcase x o ho with a1|⟨_,a1,a2⟩
  .exact e2 ⟨x,c,by rw[a1,<-ho];exact hx,hr⟩
  .obtain⟨_,_,_,g2⟩:=H.gl k e
   obtain⟨r1,c1,_,h1,_⟩:=vk x o a1 a2;rw[F.le _ _ h1]at hr;cases hr;exact g2 ⟨x,c,by rw[a2,<-ho];exact hx,h1⟩
 refine⟨⟨λx o e=>?_,λx y r c d hx hy e1 e2=>?_,H'.new,gl⟩,λF0=>⟨F.os.trans F0.os,F.tape.trans F0.tape,F.output.trans F0.output,Nat.le_trans F0.size F.size,λk hk hn=>?_,F0.le.trans F.le,?_,λk r e=>?_,λx y e1 e2 e3=>?_,λx f e=>(hcase x _ e).elim (λe1=>F0.ro x f (s x _ (F.ro x f e1))) λe1=>F0.ro x f e1.2.2⟩⟩
 .rcases hcase x o e with e1|⟨_,e2,e3⟩
  .exact H'.at_ x o e1
  .obtain⟨r,c,ob,h1,_,h2,h3,_⟩:=vk x o e2 e3
   exact⟨r,c,ob,F.le _ _ h1,h2,rO.mono F.le h3⟩
 .obtain⟨ox,hox⟩:=Option.isSome_iff_exists.1 hx
  obtain⟨oy,hoy⟩:=Option.isSome_iff_exists.1 hy;have mixed:∀x y c d oy,(h'.get x).isSome->g.get y=none->G.get y=some oy->bP x=some (r,c)->bP y=some (r,d)->False:=λx y c d oy hx g1 g2 e1 e2=>by
   obtain⟨r',c',ob,h1,h2,_,_,h4⟩:=vk y oy g1 g2;rw[F.le _ _ h1]at e2;cases e2;obtain⟨ox,hox⟩:=Option.isSome_iff_exists.1 hx;cases hw:zN (some ox)with
   |false=>
    cases ox with
    |ro f=>
     have e3:=F.ro x f hox;have hG:=s x _ e3;obtain⟨r2,c2,_,g3,_⟩:=H.at_ x _ hG;rw[F.le _ _ g3]at e1;cases e1;have:=H.inj x y _ _ _ (by rw[hG];rfl) (by rw[g2];rfl) g3 h1;subst this;rw[g1]at e3;cases e3
    |_=>cases hw
   |true=>
   rcases F.from_ r ⟨x,c,by rw[hox];exact hw,e1⟩with hi|hs
   .exact h4 hi
   .have:=bG h2;omega
  rcases hcase x ox hox with a1|⟨a0,a1,a2⟩<;>rcases hcase y oy hoy with b1|⟨b0,b1,b2⟩
  .exact H'.inj x y r c d (by rw[a1];rfl) (by rw[b1];rfl) e1 e2
  .exact(mixed x y c d oy (by rw[a1];rfl) b1 b2 e1 e2).elim
  .exact(mixed y x d c ox (by rw[b1];rfl) a1 a2 e2 e1).elim
  .obtain⟨r1,c1,_,h1,_⟩:=vk x ox a1 a2
   obtain⟨r2,c2,_,h2,_⟩:=vk y oy b1 b2;have f1:=F.le _ _ h1;have f2:=F.le _ _ h2;rw[f1]at e1;cases e1;rw[f2]at e2;cases e2;exact H.inj x y r c d (by rw[a2];rfl) (by rw[b2];rfl) h1 h2
 .refine(F.block k (Nat.lt_of_lt_of_le hk F0.size) λhi=>?_).trans (F0.block k hk hn)
  rcases F0.from_ k (hi.sub s)with e|e
  .exact hn e
  .omega
 .rintro k ⟨x,c,hx,e⟩
  obtain⟨o,ho⟩:=Option.isSome_iff_exists.1 (gH hx);rcases hcase x o ho with a1|⟨a0,a1,a2⟩
  .rcases F.from_ k ⟨x,c,by rw[a1,<-ho];exact hx,e⟩with hi|hs
   .exact F0.from_ k (hi.sub s)
   .exact .inr (Nat.le_trans F0.size hs)
  .obtain⟨r1,c1,_,h1,_⟩:=vk x o a1 a2
   rw[F.le _ _ h1]at e;cases e;exact F0.from_ k ⟨x,c,by rw[a2,<-ho];exact hx,h1⟩
 .obtain⟨r1,h1⟩:=F0.kind k r e
  exact F.kind k r1 h1
 .by_cases e:θ x=none
  .refine F.low x y e e2 λhy=>e3 ?_
   cases hq:mZ y with
   |none=>rfl
   |some q=>rw[F0.le _ _ hq]at hy;cases hy
  .exact F0.low x y e1 e e3
theorem RH.O8(H:RH P sl θ G n w){x:Nat}(hx:θ x=none)(hn:x<n)(c:Nat){o:AO}{obj:Obj}(hA:rO P sl θ c o obj)(ho:zN (some o)=true:=by rfl):
 iq θ (θ.ins x (w.heap.size,c))/\RH P sl (θ.ins x (w.heap.size,c)) (G.set x o) n (w.alloc obj)/\
 (Fr mZ h0 w0 θ G w->(∀y,mZ y≠none->y<x)->Fr mZ h0 w0 (θ.ins x (w.heap.size,c)) (G.set x o) (w.alloc obj)):=by
 have hle:iq θ (θ.ins x (w.heap.size,c)):=λy q e=>by
  unfold Th.ins;rw[if_neg (λe1=>by rw[e1,hx]at e;cases e)];exact e
 have hG:G.get x=none:=by
  cases e:G.get x with
  |none=>rfl
  |some a=>obtain⟨r,c,_,h1,_⟩:=H.at_ x a e;rw[hx]at h1;cases h1
 have hget:∀y,(G.set x o).get y=if y=x then some o else G.get y:=λy=>h_ _ _ _ _
 have hheap:∀k,(w.alloc obj).heap[k]?=if k=w.heap.size then some obj else w.heap[k]?:=λk=>by
  show(w.heap.push obj)[k]?=_;rw[Array.getElem?_push]
 have hins:∀y,y≠x->θ.ins x (w.heap.size,c) y=θ y:=λy hy=>by unfold Th.ins;rw[if_neg hy]
 have gl:GL P (θ.ins x (w.heap.size,c)) (G.set x o) (w.alloc obj):=λk e=>by
  obtain⟨ty,q,e1,e2⟩:=H.gl k e;have:=bG e1;refine⟨ty,q,by rw[hheap,if_neg (by omega)];exact e1,λ⟨y,d,hy,hr⟩=>?_⟩;rw[hget]at hy;by_cases hy1:y=x
  .rw[hy1,Th.cZ]at hr;cases hr;omega
  .rw[if_neg hy1]at hy;rw[hins y hy1]at hr;exact e2 ⟨y,d,hy,hr⟩
 refine⟨hle,⟨λy a ha=>?_,λy z r c1 d1 hy hz e1 e2=>?_,λy hy=>?_,gl⟩,λF0 h0x=>⟨F0.os,F0.tape,F0.output,?_,λk hk hn=>?_,F0.le.trans hle,?_,λk r e=>?_,λy z e1 e2 e3=>?_,λy f e=>by
  rw[hget]at e;by_cases hy:y=x
  .rw[if_pos hy]at e;cases e;cases ho
  .rw[if_neg hy]at e;exact F0.ro y f e⟩⟩
 .rw[hget]at ha
  by_cases hy:y=x
  .subst hy;rw[if_pos rfl]at ha;cases ha
   exact⟨_,_,obj,Th.cZ _ _ _,by rw[hheap,if_pos rfl],rO.mono hle hA⟩
  .rw[if_neg hy]at ha
   obtain⟨r,d,ob,h1,h2,h3⟩:=H.at_ y a ha;refine⟨r,d,ob,hle _ _ h1,?_,rO.mono hle h3⟩;rw[hheap,if_neg ?_];· exact h2
   rintro rfl;simp at h2
 .rw[hget]at hy hz
  have old:∀y d,y≠x->(G.get y).isSome->θ.ins x (w.heap.size,c) y=some (w.heap.size,d)->False:=λy d hy hs e=>by
   obtain⟨b,hb⟩:=Option.isSome_iff_exists.1 hs;obtain⟨r',d',ob,h1,h2,_⟩:=H.at_ y b hb;rw[hins y hy,h1]at e;cases e;simp at h2
  by_cases hy1:y=x
  .by_cases hz1:z=x
   .rw[hy1,hz1]
   .exfalso
    rw[hy1,Th.cZ]at e1;cases e1;rw[if_neg hz1]at hz;exact old z _ hz1 hz e2
  .rw[if_neg hy1]at hy
   by_cases hz1:z=x
   .exfalso
    rw[hz1,Th.cZ]at e2;cases e2;exact old y _ hy1 hy e1
   .rw[if_neg hz1]at hz
    rw[hins y hy1]at e1;rw[hins z hz1]at e2;exact H.inj y z r c1 d1 hy hz e1 e2
 .rw[hins y (by omega)];exact H.new y hy
 .show _<=(w.heap.push obj).size;have:=F0.size;simp;omega
 .rw[hheap,if_neg (by have:=F0.size;omega)];exact F0.block k hk hn
 .rintro k ⟨y,d,hy,e⟩
  rw[hget]at hy;by_cases hy1:y=x
  .rw[hy1,Th.cZ]at e;cases e;exact .inr F0.size
  .rw[if_neg hy1]at hy;rw[hins y hy1]at e;exact F0.from_ k ⟨y,d,hy,e⟩
 .obtain⟨r1,h1⟩:=F0.kind k r e
  exact⟨r1,by rw[hheap,if_neg (by have:=bG h1;omega)];exact h1⟩
 .by_cases hy1:y=x
  .subst hy1;exact h0x z e3
  .rw[hins y hy1]at e2;exact F0.low y z e1 e2 e3
theorem RH.dummy(H:RH P sl θ h n w){k:Nat}:RH P sl (θ.ins (n+k) (0,0)) h (n+(k+1)) w/\Fr θ h w (θ.ins (n+k) (0,0)) h w:=by
 have hle:iq θ (θ.ins (n+k) (0,0)):=λy q e=>by
  have:=H.lt e;unfold Th.ins;rw[if_neg (by omega)];exact e
 have hins:∀y,y≠n+k->θ.ins (n+k) (0,0) y=θ y:=λy hy=>by unfold Th.ins;rw[if_neg hy]
 have hdom:∀y,(h.get y).isSome->y≠n+k:=λy hy e=>by
  obtain⟨o,ho⟩:=Option.isSome_iff_exists.1 hy;have:=H.dom ho;omega
 refine H.WO (λx o e=>?_) (λx y r c d hx hy e1 e2=>?_) (λx hx=>?_) ⟨rfl,rfl,rfl,Nat.le_refl _,λ_ _ _=>rfl,hle,?_,λk r e=>⟨r,e⟩,λx y e1 e2 e3=>?_,λ_ _ e=>e⟩
 .obtain⟨r,c,ob,h1,h2,h3⟩:=H.at_ x o e
  exact⟨r,c,ob,hle _ _ h1,h2,rO.mono hle h3⟩
 .rw[hins x (hdom x hx)]at e1;rw[hins y (hdom y hy)]at e2
  exact H.inj x y r c d hx hy e1 e2
 .rw[hins x (by omega)];exact H.new x (by omega)
 .rintro k' ⟨x,c,hx,e⟩
  rw[hins x (hdom x (gH hx))]at e;exact .inl ⟨x,c,hx,e⟩
 .by_cases hx:x=n+k
  .subst hx
   rcases Nat.lt_or_ge y (n+k)with h1|h1
   .exact h1
   .exact absurd (H.new y (by omega)) e3
  .rw[hins x hx]at e2;exact absurd e1 e2
end
theorem cO{a b:Bool}(h:bc a b false=true):a=true/\b=true:=by cases a<;>cases b<;>first|exact⟨rfl,rfl⟩|cases h
theorem fK{α:Type}{p:α->Bool}:∀{l:List α},mU l p=true->∀a∈l,p a=true
 |[],_,a,h=>by cases h
 |b::l,e,a,h=>by
  obtain⟨h1,h2⟩:=cO (show bc (p b) (mU l p) false=true from e);rcases List.mem_cons.1 h with rfl|h
  .exact h1
  .exact fK h2 a h
theorem m_{α:Type}{p:α->Bool}:∀{l:List α},(∀a∈l,p a=true)->mU l p=true
 |[],_=>rfl
 |b::l,h=>by
  show bc (p b) (mU l p) false=true;rw[h b (List.mem_cons_self ..),m_ λa ha=>h a (List.mem_cons_of_mem _ ha)];rfl
theorem jD{a b:Bool}(h:wU a b=true)(ha:a=true):b=true:=by subst ha;exact h
theorem rT{a b:Bool}(h:a=true->b=true):wU a b=true:=by
 cases a;· rfl
 .exact h rfl
theorem qj{a b:Nat}:OU a b=true↔a<b:=⟨λh=>Nat.le_of_ble_eq_true h,λh=>Nat.ble_eq_true_of_le h⟩
theorem ni{a b:Nat}:Nat.ble a b=true↔a<=b:=⟨λh=>Nat.le_of_ble_eq_true h,λh=>Nat.ble_eq_true_of_le h⟩
theorem vw(m i:Nat):bit m i=m.testBit i:=by
 unfold bit Nat.testBit;have h:Nat.land (Nat.shiftRight m i) 1=(m >>> i)&&& 1:=rfl;rw[h,Nat.and_comm];have h2:=Nat.one_and_eq_mod_two (m >>> i);rw[h2];rcases Nat.mod_two_eq_zero_or_one (m >>> i)with e|e<;>rw[e]<;>rfl
theorem Ll{A:List Nat}{o:Oper}{i:Nat}(h:bit (IU A o) i=true):∃e∈o.after.toList,Region.binds .any e=true/\(e.on=i\/bit (A.getD e.on 0) i=true):=by
 have key:∀(l:List Edge)(m:Nat),bit (l.foldl (λm e=>bc (Region.binds .any e) (Nat.lor (Nat.lor m (Nat.shiftLeft 1 e.on)) (A.getD e.on 0)) m) m) i=true->
  bit m i=true\/∃e∈l,Region.binds .any e=true/\(e.on=i\/bit (A.getD e.on 0) i=true):=by
  intro l;induction l with
  |nil=>intro m h;exact .inl h
  |cons e l ih=>
   intro m h;rcases ih _ h with h1|⟨e',h1,h2⟩
   .dsimp only at h1
    cases hb:Region.binds .any e with
    |false=>rw[hb]at h1;exact .inl h1
    |true=>
     rw[hb]at h1;replace h1:bit ((m|||(1<<<e.on))|||A.getD e.on 0) i=true:=h1;rw[vw,Nat.testBit_or,Nat.testBit_or]at h1;rw[Bool.or_eq_true,Bool.or_eq_true]at h1;rcases h1 with(h1|h1)|h1
     .exact .inl (by rw[vw];exact h1)
     .refine .inr ⟨e,List.mem_cons_self ..,hb,.inl ?_⟩
      rw[Nat.shiftLeft_eq,Nat.one_mul,Nat.testBit_two_pow]at h1;exact of_decide_eq_true h1
     .exact .inr ⟨e,List.mem_cons_self ..,hb,.inr (by rw[vw];exact h1)⟩
   .exact .inr ⟨e',List.mem_cons_of_mem _ h1,h2⟩
 rcases key _ _ h with h1|h1
 .rw[vw]at h1;simp at h1
 .exact h1
theorem Hg:∀(ops:List Oper)(A:List Nat),∃B,ops.foldl (λA o=>A++[IU A o]) A=A++B/\B.length=ops.length/\∀j o,ops[j]?=some o->(A++B)[A.length+j]?=some (IU ((A++B).take (A.length+j)) o)
 |[],A=>⟨[],by simp,rfl,λj o h=>by simp at h⟩
 |o::ops,A=>by
  obtain⟨B,h1,h2,h3⟩:=Hg ops (A++[IU A o]);refine⟨IU A o::B,by rw[List.foldl_cons,h1];simp,by simp[h2],λj q hq=>?_⟩;cases j with
  |zero=>cases hq;simp
  |succ j=>
   have:=h3 j q hq;simp only[List.append_assoc,List.singleton_append,List.length_append,List.length_cons,List.length_nil]at this;rw[show A.length+(0+1)+j=A.length+(j+1) by omega]at this;exact this
theorem Lm{ops:List Oper}{j i:Nat}(h:bit ((kE ops).getD j 0) i=true):∃o,ops[j]?=some o/\∃e∈o.after.toList,Region.binds .any e=true/\(e.on=i\/bit ((kE ops).getD e.on 0) i=true):=by
 obtain⟨B,h1,h2,h3⟩:=Hg ops [];have hA:kE ops=B:=by unfold kE;rw[h1];simp
 rw[hA]at h⊢;simp only[List.nil_append,List.length_nil,Nat.zero_add]at h3;cases hj:ops[j]? with
 |none=>
  have:B[j]?=none:=by rw[List.getElem?_eq_none_iff]at hj⊢;omega
  rw[List.getD_eq_getElem?_getD,this,vw]at h;simp at h
 |some o=>
  have hB:=h3 j o hj;rw[List.getD_eq_getElem?_getD,hB]at h;obtain⟨e,h4,h5,h6⟩:=Ll h;refine⟨o,rfl,e,h4,h5,h6.imp id λh7=>?_⟩;rw[List.getD_eq_getElem?_getD,List.getElem?_take]at h7;rw[List.getD_eq_getElem?_getD];split at h7
  .exact h7
  .rw[vw]at h7;simp at h7
end
section
def rv(V:Nat->AV):Nat->List AV
 |0=>[]
 |j+1=>V j::rv V j
theorem yh{V U:Nat->AV}:∀{j:Nat},(∀k,k<j->V k=U k)->rv V j=rv U j
 |0,_=>rfl
 |j+1,h=>by rw[rv,rv,h j (by omega),yh λk hk=>h k (by omega)]
theorem Bz{V:Nat->AV}:∀{i k:Nat},k<i->(rv V i)[i - 1 - k]?=some (V k)
 |0,k,h=>by omega
 |i+1,k,h=>by
  rw[rv];by_cases e:k=i
  .subst e;simp
  .rw[show i+1 - 1 - k=(i - 1 - k)+1 by omega,List.getElem?_cons_succ]
   exact Bz (by omega)
theorem Hl{V:Nat->AV}{i:Nat}:∀{ks:List Nat}{l:List AV},(∀k∈ks,k<i)->(K7 i ks).run (rv V i)=some l->l=ks.map V
 |[],l,_,e=>by cases e;rfl
 |k::ks,l,h,e=>by
  obtain⟨v,h1,h2⟩:=aB (show bnd ((CU (i - 1 - k)).run (rv V i)) (λv=>bnd ((K7 i ks).run (rv V i)) λl=>some (v::l))=some l from e);obtain⟨l',h3,h4⟩:=aB h2;cases h4
  rw[jr,Bz (h k (List.mem_cons_self ..))]at h1;cases h1
  rw[Hl (λk hk=>h k (List.mem_cons_of_mem _ hk)) h3];rfl
theorem lU(op:Op):dO op=0\/dO op=1\/dO op=2\/dO op=3:=by
 unfold dO;split<;>simp
theorem kL{k:Nat}:∀{l:List Oper}{m j:Nat},j∈iF k l m↔∃i o,l[i]?=some o/\dO o.op=k/\j=m+i
 |[],m,j=>by simp[iF]
 |o::l,m,j=>by
  have hc:j∈iF k (o::l) m↔(dO o.op=k/\j=m)\/j∈iF k l (m+1):=by
   show j∈bc (Nat.beq (dO o.op) k) (m::iF k l (m+1)) (iF k l (m+1))↔_;by_cases hk:dO o.op=k
   .have h1:Nat.beq (dO o.op) k=true:=by rw[hk];exact Nat.beq_refl _
    rw[h1,bD,List.mem_cons];simp[hk]
   .have h1:Nat.beq (dO o.op) k=false:=by
     cases e:Nat.beq (dO o.op) k with
     |false=>rfl
     |true=>exact absurd (Nat.eq_of_beq_eq_true e) hk
    rw[h1,fU];simp[hk]
  rw[hc,kL];constructor
  .rintro(⟨h1,rfl⟩|⟨i,q,h1,h2,rfl⟩)
   .exact⟨0,o,rfl,h1,rfl⟩
   .exact⟨i+1,q,h1,h2,by omega⟩
  .rintro⟨i,q,h1,h2,rfl⟩
   cases i with
   |zero=>cases h1;exact .inl ⟨h2,rfl⟩
   |succ i=>exact .inr ⟨i,q,h1,h2,by omega⟩
theorem Ho:∀{l:List Oper}{m i:Nat}{d:Tmp},(i,d)∈uV l m↔∃k o,l[k]?=some o/\o.dst=some d/\i=m+k
 |[],m,i,d=>by simp[uV]
 |o::l,m,i,d=>by
  have hc:(i,d)∈uV (o::l) m↔(o.dst=some d/\i=m)\/(i,d)∈uV l (m+1):=by
   cases ho:o.dst with
   |none=>simp[uV,ho]
   |some d'=>
    rw[show uV (o::l) m=(m,d')::uV l (m+1) by simp[uV,ho],List.mem_cons];simp only[Prod.mk.injEq,Option.some.injEq];constructor
    .rintro(⟨rfl,rfl⟩|h)
     .exact .inl ⟨rfl,rfl⟩
     .exact .inr h
    .rintro(⟨rfl,rfl⟩|h)
     .exact .inl ⟨rfl,rfl⟩
     .exact .inr h
  rw[hc,Ho];constructor
  .rintro(⟨h1,rfl⟩|⟨k,q,h1,h2,rfl⟩)
   .exact⟨0,o,rfl,h1,rfl⟩
   .exact⟨k+1,q,h1,h2,by omega⟩
  .rintro⟨k,q,h1,h2,rfl⟩
   cases k with
   |zero=>cases h1;exact .inl ⟨h2,rfl⟩
   |succ k=>exact .inr ⟨k,q,h1,h2,by omega⟩
theorem Dp{k:Nat}:∀{L:List Nat}{q:Nat},idx k L=some q->L[q]?=some k
 |[],q,e=>by cases e
 |a::L,q,e=>by
  rw[Dn]at e;by_cases h:k=a
  .rw[if_pos h]at e;cases e;subst h;rfl
  .rw[if_neg h]at e
   cases e2:idx k L with
   |none=>rw[e2]at e;cases e
   |some q'=>rw[e2]at e;cases e;show(a::L)[q'+1]?=some k;rw[List.getElem?_cons_succ];exact Dp e2
theorem EZ{r:eY}{f:AV->AH->Nat->eY}{v:AV}{h:AH}{n:Nat}(e:Oy r f= .ok v h n):∃v1 h1 n1,r= .ok v1 h1 n1/\f v1 h1 n1= .ok v h n:=by
 cases r with
 |bad=>cases e
 |ok v h n=>exact⟨v,h,n,rfl,e⟩
theorem tL{r:eY}{f:AV->AH->Nat->Ba}{h:AH}{n:Nat}{vs:List AV}{hs:List (Nat×AH)}(e:og r f= .ok h n vs hs):∃v1 h1 n1,r= .ok v1 h1 n1/\f v1 h1 n1= .ok h n vs hs:=by
 cases r with
 |bad=>cases e
 |ok v h n=>exact⟨v,h,n,rfl,e⟩
noncomputable def Hq (W:List (Nat×Tmp))(A:List Nat)(ops:Array Oper)(j:Nat)(o:Oper):List (Nat×Tmp):=lN W A j (zI ops.toList o)
section
variable (P:Program) (s:Sl) (Y:YT) (ops:Array Oper) (W:List (Nat×Tmp)) (A:List Nat) (f:FT) (t:Tr AV)
def wY(l:List AV)(j:Nat)(o:Oper)(x:Nat)(h:AH)(n:Nat)(v:AV)(h':AH)(n':Nat):Prop:=
 ∃b,(G5 (jM s W A j) ((Hq W A ops j o).map (·.2)) ops o.guard).run t l=some b/\
  (b=false->v= .bQ []/\h'=h/\n'=n)/\
  (b=true->
   (dO o.op=0->∃h2 n2,(cop P (jM s W A j) Y ((Hq W A ops j o).map (·.2)) o).run f t l .z 0= .ok v h2 n2/\h'=h/\n'=n)/\
   (dO o.op=1->∃h2 n2,(cop P (jM s W A j) Y ((Hq W A ops j o).map (·.2)) o).run f t l h 0= .ok v h2 n2/\h'=h/\n'=n)/\
   (dO o.op=2->∃h2 ob,(cop P (jM s W A j) Y ((Hq W A ops j o).map (·.2)) o).run f t l .z x= .ok v h2 (x+1)/\h2.get x=some ob/\h'=h.set x ob/\n'=n)/\
   (dO o.op=3->(cop P (jM s W A j) Y ((Hq W A ops j o).map (·.2)) o).run f t l h n= .ok v h' n'))
end
section
variable {P:Program} {s:Sl} {Y:YT} {ops:Array Oper} {W:List (Nat×Tmp)} {A:List Nat} {f:FT} {t:Tr AV}
theorem BA{b:Option Bool}{x y:eY}{v:AV}{h:AH}{n:Nat}(e:Et b x y= .ok v h n):(b=some true/\x= .ok v h n)\/(b=some false/\y= .ok v h n):=by
 cases b with
 |none=>cases e
 |some b=>cases b with
  |true=>exact .inl ⟨rfl,e⟩
  |false=>exact .inr ⟨rfl,e⟩
theorem yj{V:Nat->AV}{i j:Nat}{o:Oper}{x:Nat}{h:AH}{n:Nat}{v:AV}{h':AH}{n':Nat}(e:(lQ P s Y ops W A i j o).run f t x h n (rv V i)= .ok v h' n')(hi:∀k,bit (A.getD j 0) k=true->k<i):
 wY P s Y ops W A f t ((Hq W A ops j o).map (λx=>V x.1)) j o x h n v h' n':=by
 have hpk:∀l,(K7 i ((Hq W A ops j o).map (·.1))).run (rv V i)=some l->l=(Hq W A ops j o).map (λx=>V x.1):=λl hl=>by
  have:=Hl (V:=V) (i:=i) (λk hk=>by
   obtain⟨y,hy,rfl⟩:=List.mem_map.1 hk;have hy2:y∈W.filter λx=>bc (bit (A.getD j 0) x.1) ((zI ops.toList o).contains x.2) false:=hy;exact hi _ (cO (List.mem_filter.1 hy2).2).1) hl
  rw[this,List.map_map];rfl
 unfold lQ at e;dsimp only at e;unfold wY;split at e
 .rename_i hk
  obtain⟨l,h1,h2⟩:=aS e;cases hpk l h1
  rcases BA h2 with⟨h3,h4⟩|⟨h3,h4⟩
  .obtain⟨v1,h5,n5,h6,h7⟩:=EZ h4
   cases h7
   exact⟨true,h3,by simp,λ_=>⟨λ_=>⟨_,_,h6,rfl,rfl⟩,λh=>(by rw[hk]at h;cases h),λh=>(by rw[hk]at h;cases h),λh=>(by rw[hk]at h;cases h)⟩⟩
  .cases h4;exact⟨false,h3,λ_=>⟨rfl,rfl,rfl⟩,by simp⟩
 .rename_i hk
  obtain⟨l,h1,h2⟩:=aS e;cases hpk l h1
  rcases BA h2 with⟨h3,h4⟩|⟨h3,h4⟩
  .obtain⟨v1,h5,n5,h6,h7⟩:=EZ h4
   cases h7
   exact⟨true,h3,by simp,λ_=>⟨λh=>(by rw[hk]at h;cases h),λ_=>⟨_,_,h6,rfl,rfl⟩,λh=>(by rw[hk]at h;cases h),λh=>(by rw[hk]at h;cases h)⟩⟩
  .cases h4;exact⟨false,h3,λ_=>⟨rfl,rfl,rfl⟩,by simp⟩
 .rename_i hk
  obtain⟨l,h1,h2⟩:=aS e;cases hpk l h1
  rcases BA h2 with⟨h3,h4⟩|⟨h3,h4⟩
  .obtain⟨v1,h5,n5,h6,h7⟩:=EZ h4
   obtain⟨h8,h9⟩:=iN h7;obtain⟨ob,h10,h11⟩:=aS h9;cases h11
   have:=beq_eq h8;subst this;exact⟨true,h3,by simp,λ_=>⟨λh=>(by rw[hk]at h;cases h),λh=>(by rw[hk]at h;cases h),λ_=>⟨_,_,h6,h10,rfl,rfl⟩,λh=>(by rw[hk]at h;cases h)⟩⟩
  .cases h4;exact⟨false,h3,λ_=>⟨rfl,rfl,rfl⟩,by simp⟩
 .rename_i hk0 hk1 hk2
  obtain⟨l,h1,h2⟩:=aS e;cases hpk l h1
  rcases BA h2 with⟨h3,h4⟩|⟨h3,h4⟩
  .exact⟨true,h3,by simp,λ_=>⟨λh=>absurd h hk0,λh=>absurd h hk1,λh=>absurd h hk2,λ_=>h4⟩⟩
  .cases h4;exact⟨false,h3,λ_=>⟨rfl,rfl,rfl⟩,by simp⟩
structure DS where
 h:AH
 n:Nat
 r:Nat
 hs:List (Nat×AH)
variable (P s Y ops W A f t)in
def BD(E B:List Nat)(n0:Nat)(V:Nat->AV)(j:Nat)(o:Oper)(a b:DS):Prop:=
 (∃H h' n',(lQ P s Y ops W A j j o).run f t (if dO o.op=2 then n0+a.r else 0) H a.n (rv V j)= .ok (V j) h' n'/\
  ((dO o.op=1/\b.h=a.h/\b.n=a.n/\((IV E B A j=true/\H=a.h)\/∃q,a.hs.head?=some (q,H)))\/(dO o.op≠1/\H=a.h/\b.h=h'/\b.n=n')))/\
 b.r=(if dO o.op=2 then a.r+1 else a.r)/\b.hs=(if dO o.op=3 then(j+1,b.h)::a.hs else a.hs)
theorem Dq{E B:List Nat}{n0:Nat}{h1:AH}{n1:Nat}{vs1:List AV}{hs1:List (Nat×AH)}:∀(l:List Oper)(j r:Nat)(h:AH)(n:Nat)(hs:List (Nat×AH))(V0:Nat->AV),(zO P s Y ops W A E B l j r).run f t n0 h n (rv V0 j) hs= .ok h1 n1 vs1 hs1->
 ∃(V:Nat->AV)(D:Nat->DS),(∀k,k<j->V k=V0 k)/\D j=⟨h,n,r,hs⟩/\D (j+l.length)=⟨h1,n1,r+(iF 2 l j).length,hs1⟩/\vs1=rv V (j+l.length)/\∀k o,l[k]?=some o->BD P s Y ops W A f t E B n0 V (j+k) o (D (j+k)) (D (j+k+1))
 |[],j,r,h,n,hs,V0,e=>by
  cases e
  exact⟨V0,λ_=>⟨_,_,r,_⟩,λ_ _=>rfl,rfl,rfl,rfl,λk o h=>by simp at h⟩
 |o::l,j,r,h,n,hs,V0,e=>by
  have e0:∃v H h' n' hb nb,(lQ P s Y ops W A j j o).run f t (if dO o.op=2 then n0+r else 0) H n (rv V0 j)= .ok v h' n'/\
   ((dO o.op=1/\hb=h/\nb=n/\((IV E B A j=true/\H=h)\/∃q,hs.head?=some (q,H)))\/(dO o.op≠1/\H=h/\hb=h'/\nb=n'))/\
   (zO P s Y ops W A E B l (j+1) (if dO o.op=2 then r+1 else r)).run f t n0 hb nb (v::rv V0 j) (if dO o.op=3 then(j+1,hb)::hs else hs)= .ok h1 n1 vs1 hs1/\(iF 2 (o::l) j).length=(if dO o.op=2 then 1 else 0)+(iF 2 l (j+1)).length:=by
   have e1:(bc (Nat.beq (dO o.op) 3) _ (bc (Nat.beq (dO o.op) 2) _ (bc (Nat.beq (dO o.op) 1) (bc (IV E B A j) _ _) _)):Dk).run f t n0 h n (rv V0 j) hs= .ok h1 n1 vs1 hs1:=e;have e2:iF 2 (o::l) j=bc (Nat.beq (dO o.op) 2) (j::iF 2 l (j+1)) (iF 2 l (j+1)):=rfl;rw[e2];rcases lU o.op with hk|hk|hk|hk
   .simp only[hk]at e1⊢
    obtain⟨v,h',n',g1,g2⟩:=tL e1;exact⟨v,h,h',n',h',n',g1,.inr ⟨by decide,rfl,rfl,rfl⟩,g2,by simp[bc,Nat.beq]⟩
   .simp only[hk]at e1⊢
    have e1:(bc (IV E B A j) _ _:Dk).run f t n0 h n (rv V0 j) hs= .ok h1 n1 vs1 hs1:=e1;cases hr:IV E B A j with
    |true=>
     rw[hr,bD]at e1;obtain⟨v,h',n',g1,g2⟩:=tL e1;exact⟨v,h,h',n',h,n,g1,.inl ⟨trivial,rfl,rfl,.inl ⟨rfl,rfl⟩⟩,g2,by simp[bc,Nat.beq]⟩
    |false=>
     rw[hr,fU]at e1;cases hs with
     |nil=>cases e1
     |cons x hs=>
      obtain⟨v,h',n',g1,g2⟩:=tL e1;exact⟨v,x.2,h',n',h,n,g1,.inl ⟨trivial,rfl,rfl,.inr ⟨x.1,rfl⟩⟩,g2,by simp[bc,Nat.beq]⟩
   .simp only[hk]at e1⊢
    obtain⟨v,h',n',g1,g2⟩:=tL e1;refine⟨v,h,h',n',h',n',g1,.inr ⟨by decide,rfl,rfl,rfl⟩,g2,?_⟩;simp[bc,Nat.beq];omega
   .simp only[hk]at e1⊢
    obtain⟨v,h',n',g1,g2⟩:=tL e1;exact⟨v,h,h',n',h',n',g1,.inr ⟨by decide,rfl,rfl,rfl⟩,g2,by simp[bc,Nat.beq]⟩
  obtain⟨v,H,h',n',hb,nb,g1,g0,g2,g3⟩:=e0;have hV:rv (λk=>if k=j then v else V0 k) (j+1)=v::rv V0 j:=by
   rw[rv,if_pos rfl];exact congrArg _ (yh λk hk=>if_neg (by omega))
  rw[<-hV]at g2;obtain⟨V,D,k1,k2,k3,k4,k5⟩:=Dq l (j+1) _ hb nb _ _ g2;have hVj:V j=v:=by rw[k1 j (by omega),if_pos rfl]
  have hVk:∀k,k<j->V k=V0 k:=λk hk=>by rw[k1 k (by omega),if_neg (by omega)]
  refine⟨V,λk=>if k=j then⟨h,n,r,hs⟩else D k,hVk,if_pos rfl,?_,?_,λk q hq=>?_⟩
  .dsimp only
   rw[if_neg (by simp),List.length_cons,show j+(l.length+1)=j+1+l.length by omega,k3,g3];congr 1;split<;>omega
  .rw[k4,List.length_cons,show j+(l.length+1)=j+1+l.length by omega]
  .cases k with
   |zero=>
    cases hq
    dsimp only;rw[Nat.add_zero,if_pos rfl,if_neg (by omega),k2];refine⟨⟨H,h',n',?_,g0⟩,rfl,rfl⟩;rw[hVj,yh hVk];exact g1
   |succ k=>
    dsimp only;rw[if_neg (by omega),if_neg (by omega)];have:=k5 k q hq
    rwa [show j+1+k=j+(k+1) by omega]at this
structure Ru(s:Sl)(ops:Array Oper)(W:List (Nat×Tmp))(A:List Nat):Prop where
 anc:∀j i,bit (A.getD j 0) i=true->∃o,ops[j]?=some o/\∃e∈o.after,Region.binds .any e=true/\(e.on=i\/bit (A.getD e.on 0) i=true)
 edge:∀j o,ops[j]?=some o->∀e∈o.after,Region.binds .any e=true->e.on<j
 Lp:∀e o e' o',ops[e]?=some o->dO o.op=3->ops[e']?=some o'->dO o'.op=3->e<e'->bit (A.getD e' 0) e=true
 all:∀a o e' o',ops[a]?=some o->dO o.op=2->ops[e']?=some o'->dO o'.op=3->a<e'->bit (A.getD e' 0) a=true
 zN:∀i d,(i,d)∈W↔∃o,ops[i]?=some o/\o.dst=some d
 bnd:∀(i:Nat)(o:Oper)(d:Tmp),ops[i]?=some o->o.dst=some d->d+1<=s.N
 uni:∀(i:Nat)(o:Oper)(j:Nat)(o':Oper)(d:Tmp),ops[i]?=some o->o.dst=some d->ops[j]?=some o'->o'.dst=some d->i=j
theorem Tv(e:WS s ops (uV ops.toList 0) (kE ops.toList) (iF 3 ops.toList 0) (iF 2 ops.toList 0)=true):Ru s ops (uV ops.toList 0) (kE ops.toList):=by
 unfold WS at e;obtain⟨e1,e⟩:=cO e;obtain⟨e2,e4⟩:=cO e;have hE:∀{k e o},ops[e]?=some o->dO o.op=k->e∈iF k ops.toList 0:=λ{k e o} h1 h2=>kL.2 ⟨e,o,by rw[Array.getElem?_toList];exact h1,h2,by omega⟩;have hW:∀i d,(i,d)∈uV ops.toList 0↔∃o,ops[i]?=some o/\o.dst=some d:=λi d=>by
  rw[Ho];constructor
  .rintro⟨k,o,h1,h2,rfl⟩;rw[Array.getElem?_toList]at h1;exact⟨o,by rw[Nat.zero_add];exact h1,h2⟩
  .rintro⟨o,h1,h2⟩;exact⟨i,o,by rw[Array.getElem?_toList];exact h1,h2,by omega⟩
 refine⟨λj i h=>?_,λj o ho e he hb=>?_,λa o e' o' h1 h2 h3 h4 h5=>?_,λa o e' o' h1 h2 h3 h4 h5=>?_,hW,λi o d h1 h2=>?_,λi o j o' d h1 h2 h3 h4=>?_⟩
 .obtain⟨o,h1,e,h2,h3⟩:=Lm h
  rw[Array.getElem?_toList]at h1;exact⟨o,h1,e,by simpa using h2,h3⟩
 .have:=fK e1 j (List.mem_range.2 (Array.getElem?_eq_some_iff.1 ho).1)
  rw[ho]at this;exact qj.1 (jD (fK this e (by simpa using he)) hb)
 .exact jD (fK (cO (fK e2 e' (hE h3 h4))).1 a (hE h1 h2)) (qj.2 h5)
 .exact jD (fK (cO (fK e2 e' (hE h3 h4))).2 a (hE h1 h2)) (qj.2 h5)
 .exact ni.1 (cO (fK e4 (i,d) ((hW i d).2 ⟨o,h1,h2⟩))).1
 .have:=jD (fK (cO (fK e4 (i,d) ((hW i d).2 ⟨o,h1,h2⟩))).2 (j,d) ((hW j d).2 ⟨o',h3,h4⟩)) (Nat.beq_refl d)
  exact beq_eq this
theorem Ru.back(K:Ru s ops W A):∀j i,bit (A.getD j 0) i=true->i<j:=by
 intro j;induction j using Nat.strongRecOn with
 |ind j ih=>
  intro i h;obtain⟨o,h1,e,h2,h3,h4⟩:=K.anc j i h;have h5:=K.edge j o h1 e h2 h3;rcases h4 with rfl|h4
  .exact h5
  .exact Nat.lt_trans (ih _ h5 i h4) h5
end
mutual
theorem yu:∀(a b:AV),IW a b=true->a=b
 | .b x,v,h=>by
  cases v with
  |b y=>cases x<;>cases y<;>first|rfl|cases h
  |_=>cases h
 | .i k n,v,h=>by
  cases v with
  |i k' n'=>
   obtain⟨h1,h2⟩:=cO h;rw[cK]at h2;have h1:decide (k=k')=true:=h1;rw[of_decide_eq_true h1,of_decide_eq_true h2]
  |_=>cases h
 | .s l,v,h=>by
  cases v with
  |s l'=>
   have h:qJ l l'=true:=h;rw[iV]at h;rw[eq_of_beq h]
  |_=>cases h
 | .p x o,v,h=>by
  cases v with
  |p x' o'=>obtain⟨h1,h2⟩:=cO h;rw[beq_eq h1,beq_eq h2]
  |_=>cases h
 | .sl x l o n c,v,h=>by
  cases v with
  |sl x' l' o' n' c'=>
   cases c with
   |none=>
    cases c' with
    |none=>obtain⟨h1,h⟩:=cO h;obtain⟨h2,h⟩:=cO h;obtain⟨h3,h4⟩:=cO h;rw[beq_eq h1,beq_eq h2,beq_eq h3,beq_eq h4]
    |some c'=>cases h
   |some c=>
    cases c' with
    |none=>cases h
    |some c'=>obtain⟨h1,h⟩:=cO h;obtain⟨h2,h⟩:=cO h;obtain⟨h3,h⟩:=cO h;obtain⟨h4,h5⟩:=cO h;rw[beq_eq h1,beq_eq h2,beq_eq h3,beq_eq h4,beq_eq h5]
  |_=>cases c<;>cases h
 | .m x,v,h=>by
  cases v with
  |m y=>rw[beq_eq h]
  |_=>cases h
 | .f g l,v,h=>by
  cases v with
  |f g' l'=>obtain⟨h1,h2⟩:=cO h;rw[beq_eq h1,qm l l' h2]
  |_=>cases h
 | .y x,v,h=>by
  cases v with
  |y y=>rw[beq_eq h]
  |_=>cases h
 | .zH t u,v,h=>by
  cases v with
  |zH t' u'=>obtain⟨h1,h2⟩:=cO h;rw[beq_eq h1,yu u u' h2]
  |_=>cases h
 | .agg l,v,h=>by
  cases v with
  |agg l'=>rw[qm l l' h]
  |_=>cases h
 | .bQ l,v,h=>by
  cases v with
  |bQ l'=>rw[qm l l' h]
  |_=>cases h
 | .k c,v,h=>by
  cases v with
  |k c'=>rw[beq_eq h]
  |_=>cases h
 | .es a c,v,h=>by
  cases v with
  |es a' c'=>obtain⟨h1,h2⟩:=cO h;rw[of_decide_eq_true h1,beq_eq h2]
  |_=>cases h
theorem qm:∀(a b:List AV),uW a b=true->a=b
 |[],[],_=>rfl
 |[],_::_,h=>by cases h
 |_::_,[],h=>by cases h
 |a::l,b::r,h=>by
  obtain⟨h1,h2⟩:=cO (show bc (IW a b) (uW l r) false=true by first|exact h|(rw[uW]at h;exact h));rw[yu a b h1,qm l r h2]
end
end
section
section
variable (P:Program) (s:Sl) (Y:YT) (ops:Array Oper) (W:List (Nat×Tmp)) (A:List Nat) (f:FT) (t:Tr AV)
def Tw(l:List AV)(j:Nat)(o:Oper)(x:Nat)(h:AH)(n:Nat)(v:AV)(h':AH)(n':Nat)(oo:Option AO):Prop:=
 n'=n/\(((G5 (jM s W A j) ((Hq W A ops j o).map (·.2)) ops o.guard).run t l=some false/\oo=none/\v= .bQ []/\h'=h)\/
  ((G5 (jM s W A j) ((Hq W A ops j o).map (·.2)) ops o.guard).run t l=some true/\∃h2 ob,oo=some ob/\(cop P (jM s W A j) Y ((Hq W A ops j o).map (·.2)) o).run f t l .z x= .ok v h2 (x+1)/\h2.get x=some ob/\h'=h.set x ob))
noncomputable def O9 (V:Nat->AV)(j:Nat)(o:Oper):List AV:=(Hq W A ops j o).map (λx=>V x.1)
structure lV(n0:Nat)(V:Nat->AV)(D:Nat->DS)(OB:Nat->Option AO)(K:Nat):Prop where
 op:∀j o,ops[j]?=some o->dO o.op≠1->wY P s Y ops W A f t (O9 ops W A V j o) j o (n0+(D j).r) (D j).h (D j).n (V j) (D (j+1)).h (D (j+1)).n
 rd:∀j o,ops[j]?=some o->dO o.op=1->(D (j+1)).h=(D j).h/\(D (j+1)).n=(D j).n
 ro:∀j o p,ops[j]?=some o->dO o.op=1->(p=0\/∃e q,ops[e]?=some q/\dO q.op=3/\p=e+1)->p<=j->(∀e q,ops[e]?=some q->dO q.op=3->e<j->e<p)->
  ∃H h' n',wY P s Y ops W A f t (O9 ops W A V j o) j o 0 H (D j).n (V j) h' n'/\((IV (iF 3 ops.toList 0) (iF 2 ops.toList 0) A j=true/\H=(D j).h)\/H=(D p).h)
 rk:∀j o,ops[j]?=some o->(D (j+1)).r=(if dO o.op=2 then(D j).r+1 else(D j).r)
 al:∀j o,ops[j]?=some o->dO o.op=2->Tw P s Y ops W A f t (O9 ops W A V j o) j o (n0+(D j).r) (D j).h (D j).n (V j) (D (j+1)).h (D (j+1)).n (OB j)
 re:∀j o p,ops[j]?=some o->dO o.op=1->(p=0\/∃e q,ops[e]?=some q/\dO q.op=3/\p=e+1)->own (iF 3 ops.toList 0) j p=false->adm (iF 3 ops.toList 0) A j p=true->
  ∃h' n',wY P s Y ops W A f t (O9 ops W A V j o) j o 0 (D p).h 0 (V j) h' n'
 rN:(D ops.size).r=K
structure Inv(sl:FuncId->Sl)(n0:Nat)(V:Nat->AV)(D:Nat->DS)(OB:Nat->Option AO)(K:Nat)(mZ:Th)(h0:AH)(w0:World)(CO:Array Value)(listed:Array Bool)(p:Nat)(θ:Th)(tm:Array Value)(w:World):Prop where
 size:listed.size=ops.size
 dc:∀j,listed.getD j false=true->∀i,bit (A.getD j 0) i=true->listed.getD i false=true
 pN:p<=ops.size
 pE:p=0\/∃e q,ops[e]?=some q/\dO q.op=3/\p=e+1
 Lp:∀e q,ops[e]?=some q->dO q.op=3->(listed.getD e false=true↔e<p)
 t1:s.N<=tm.size
 t2:∀(i:Nat)(o:Oper)(d:Tmp),listed.getD i false=true->ops[i]?=some o->o.dst=some d->∃u,tm[d]?=some u/\aV θ (V i) u
 t3:∀(k:Tmp),(∀(i:Nat)(o:Oper),listed.getD i false=true->ops[i]?=some o->o.dst≠some k)->tm[k]?=CO[k]?
 G:∃G,RH P sl θ G (D p).n w/\Fr mZ h0 w0 θ G w/\Sub (D p).h G/\∀a o ob,ops[a]?=some o->dO o.op=2->OB a=some ob->listed.getD a false=true->p<=a->G.get (n0+(D a).r)=some ob
 un:∀a o,ops[a]?=some o->dO o.op=2->(listed.getD a false=false\/OB a=none)->θ (n0+(D a).r)=none
 fresh:∀a o,ops[a]?=some o->dO o.op=2->p<=a->(D p).h.get (n0+(D a).r)=none
 Xd:0<K->θ (n0+K)≠none
end
section
variable {P:Program} {sl:FuncId->Sl} {s:Sl} {Y:YT} {ops:Array Oper} {W:List (Nat×Tmp)} {A:List Nat} {f:FT} {t:Tr AV}
variable {n0:Nat} {V:Nat->AV} {D:Nat->DS} {OB:Nat->Option AO} {K:Nat} {mZ:Th} {h0:AH} {w0:World} {CO:Array Value} {listed:Array Bool} {p:Nat} {θ:Th} {tm:Array Value} {w:World}
theorem wY.Xe{l:List AV}{j:Nat}{o:Oper}{x:Nat}{h h':AH}{n n':Nat}{v:AV}(e:wY P s Y ops W A f t l j o x h n v h' n')(hk:dO o.op=2):∃oo,Tw P s Y ops W A f t l j o x h n v h' n' oo:=by
 obtain⟨b,h1,h2,h3⟩:=e;cases b with
 |false=>obtain⟨rfl,rfl,rfl⟩:=h2 rfl;exact⟨none,rfl,.inl ⟨h1,rfl,rfl,rfl⟩⟩
 |true=>
  obtain⟨h2,ob,h4,h5,rfl,rfl⟩:=(h3 rfl).2.2.1 hk;exact⟨some ob,rfl,.inr ⟨h1,_,ob,rfl,h4,h5,rfl⟩⟩
theorem dD{j:Nat}{o:Oper}(e:ops[j]?=some o):j<ops.size:=(Array.getElem?_eq_some_iff.1 e).1
theorem jQ{j:Nat}(e:j<ops.size):∃o,ops[j]?=some o:=⟨ops[j],Array.getElem?_eq_some_iff.2 ⟨e,rfl⟩⟩
section
variable (R:lV P s Y ops W A f t n0 V D OB K)
include R
theorem lV.mono:∀(d i:Nat),i+d<=ops.size->(D i).r<=(D (i+d)).r
 |0,_,_=>Nat.le_refl _
 |d+1,i,h=>by
  obtain⟨o,ho⟩:=jQ (ops:=ops) (j:=i+d) (by omega);refine Nat.le_trans (lV.mono d i (by omega)) ?_;rw[show i+(d+1)=i+d+1 by omega,R.rk _ _ ho];split<;>omega
theorem lV.lt{i j:Nat}{o:Oper}(ho:ops[i]?=some o)(hk:dO o.op=2)(h:i<j)(hj:j<=ops.size):(D i).r<(D j).r:=by
 have h1:=R.rk i o ho;rw[if_pos hk]at h1;have h2:=R.mono (j - (i+1)) (i+1) (by omega);rw[show i+1+(j - (i+1))=j by omega]at h2;omega
theorem lV.Xf{i:Nat}{o:Oper}(ho:ops[i]?=some o)(hk:dO o.op=2):(D i).r<K:=by
 have:=R.lt ho hk (dD ho) (Nat.le_refl _)
 rwa [R.rN]at this
theorem lV.ne{i j:Nat}{o o':Oper}(ho:ops[i]?=some o)(hk:dO o.op=2)(ho':ops[j]?=some o')(hk':dO o'.op=2)(h:i≠j):n0+(D i).r≠n0+(D j).r:=by
 rcases Nat.lt_or_gt_of_ne h with h|h
 .have:=R.lt ho hk h (Nat.le_of_lt (dD ho'));omega
 .have:=R.lt ho' hk' h (Nat.le_of_lt (dD ho));omega
theorem lV.step{j:Nat}{o:Oper}(ho:ops[j]?=some o)(hk:dO o.op≠3):(D (j+1)).n=(D j).n/\((D (j+1)).h=(D j).h\/(dO o.op=2/\∃ob,OB j=some ob/\(D (j+1)).h=(D j).h.set (n0+(D j).r) ob)):=by
 rcases lU o.op with h|h|h|h
 .obtain⟨b,_,h2,h3⟩:=R.op j o ho (by omega)
  cases b with
  |false=>obtain⟨_,e1,e2⟩:=h2 rfl;exact⟨e2,.inl e1⟩
  |true=>obtain⟨_,_,_,e1,e2⟩:=(h3 rfl).1 h;exact⟨e2,.inl e1⟩
 .obtain⟨e1,e2⟩:=R.rd j o ho h
  exact⟨e2,.inl e1⟩
 .obtain⟨h1,h2⟩:=R.al j o ho h
  rcases h2 with⟨_,_,_,h3⟩|⟨_,_,ob,h3,_,_,h4⟩
  .exact⟨h1,.inl h3⟩
  .exact⟨h1,.inr ⟨h,ob,h3,h4⟩⟩
 .exact absurd h hk
theorem lV.seg:∀(d p:Nat),p+d<=ops.size->(∀e q,ops[e]?=some q->dO q.op=3->e<p+d->e<p)->
 (D (p+d)).n=(D p).n/\(∀G,Sub (D p).h G->(∀a o ob,ops[a]?=some o->dO o.op=2->OB a=some ob->p<=a->a<p+d->G.get (n0+(D a).r)=some ob)->Sub (D (p+d)).h G)/\
 (∀x,(D p).h.get x=none->(∀a o,ops[a]?=some o->dO o.op=2->p<=a->a<p+d->x≠n0+(D a).r)->(D (p+d)).h.get x=none)
 |0,p,_,_=>⟨rfl,λ_ h _=>h,λ_ h _=>h⟩
 |d+1,p,hN,hE=>by
  obtain⟨o,ho⟩:=jQ (ops:=ops) (j:=p+d) (by omega);obtain⟨i1,i2,i3⟩:=lV.seg d p (by omega) λe q h1 h2 h3=>hE e q h1 h2 (by omega);have hk:dO o.op≠3:=λhk=>by have:=hE _ o ho hk (by omega);omega
  obtain⟨s1,s2⟩:=R.step ho hk;rw[show p+(d+1)=p+d+1 by omega];refine⟨s1.trans i1,λG hG hal=>?_,λx hx hne=>?_⟩
  .have hb:=i2 G hG λa o ob h1 h2 h3 h4 h5=>hal a o ob h1 h2 h3 h4 (by omega)
   rcases s2 with s2|⟨k2,ob,k3,s2⟩
   .rw[s2];exact hb
   .rw[s2]
    intro x q hq;rw[h_]at hq;by_cases hx:x=n0+(D (p+d)).r
    .rw[if_pos hx]at hq;cases hq;rw[hx];exact hal _ o ob ho k2 k3 (by omega) (by omega)
    .rw[if_neg hx]at hq;exact hb x q hq
  .have hb:=i3 x hx λa o h1 h2 h3 h4=>hne a o h1 h2 h3 (by omega)
   rcases s2 with s2|⟨k2,ob,k3,s2⟩
   .rw[s2];exact hb
   .rw[s2,h_,if_neg (hne _ o ho k2 (by omega) (by omega))];exact hb
end
theorem dI{listed:Array Bool}{j i:Nat}(hj:j<listed.size):(listed.setIfInBounds j true).getD i false=true↔i=j\/listed.getD i false=true:=by
 by_cases h:i=j
 .subst h;simp[hj]
 .rw[getD_set_ne false (λe=>h e.symm)]
  simp[h]
structure Rdy(listed:Array Bool)(j:Nat)(o:Oper):Prop where
 ho:ops[j]?=some o
 lt:j<listed.size
 un:listed.getD j false=false
 an:∀i,bit (A.getD j 0) i=true->listed.getD i false=true
theorem Lr(I:Inv P s ops A sl n0 V D OB K mZ h0 w0 CO listed p θ tm w)(K1:Ru s ops W A){j:Nat}(h:j∈Region.ready .any ops listed):∃o,Rdy (ops:=ops) (A:=A) listed j o:=by
 obtain⟨h1,o,ho,h2⟩:=mem_ready.1 h;have hlt:j<listed.size:=by rw[I.size];exact dD ho
 refine⟨o,ho,hlt,?_,λi hi=>?_⟩
 .rw[Array.getD_eq_getD_getElem?]at h1⊢
  rw[Array.getElem?_eq_getElem hlt]at h1⊢;exact h1
 .obtain⟨o',ho',e,he,hb,h3⟩:=K1.anc j i hi
  rw[ho]at ho';cases ho';have h4:=h2 e he hb;rcases h3 with rfl|h3
  .exact h4
  .exact I.dc _ h4 _ h3
section
variable (I:Inv P s ops A sl n0 V D OB K mZ h0 w0 CO listed p θ tm w) (K1:Ru s ops W A) {j:Nat} {o:Oper} (J:Rdy (ops:=ops) (A:=A) listed j o)
include I K1 J
theorem Inv.frame(hT0:RT s mZ t CO)(hle:iq mZ θ):RT (jM s W A j) θ t tm/\LR (jM s W A j) θ ((Hq W A ops j o).map (·.2)) (O9 ops W A V j o) tm:=by
 refine⟨⟨I.t1,λk a hk hg=>?_⟩,λk q a _ hi hl=>?_⟩
 .obtain⟨hS,hw⟩:=cO (show bc (s.S k) (W.all λx=>bc (Nat.beq x.2 k) (bc (Nat.beq x.1 j) true (bit (A.getD x.1 0) j)) true) false=true from hk)
  obtain⟨u,h1,h2⟩:=hT0.at_ k a hS hg;refine⟨u,(I.t3 k λi o' hli hi hd=>?_).trans h1,aV.mono hle a h2⟩;have:=List.all_eq_true.1 hw (i,k) ((K1.zN i k).2 ⟨o',hi,hd⟩);dsimp only at this;rw[Nat.beq_refl,bD]at this;cases hb:Nat.beq i j with
  |true=>rw[beq_eq hb,J.un]at hli;cases hli
  |false=>
   rw[hb,fU]at this;have:=I.dc i hli j this;rw[J.un]at this;cases this
 .have h1:=Dp hi
  rw[List.getElem?_map]at h1;unfold O9 at hl;rw[List.getElem?_map]at hl;cases hx:(Hq W A ops j o)[q]? with
  |none=>rw[hx]at h1;cases h1
  |some x=>
   rw[hx]at h1 hl;cases h1;cases hl
   have hm:x∈W.filter λx=>bc (bit (A.getD j 0) x.1) ((zI ops.toList o).contains x.2) false:=List.mem_of_getElem? hx;obtain⟨m1,m2⟩:=List.mem_filter.1 hm;obtain⟨o',g1,g2⟩:=(K1.zN x.1 x.2).1 m1;exact I.t2 x.1 o' x.2 (J.an _ (cO m2).1) g1 g2
theorem Inv.put{bP:Th}{a:Act}{u:Value}(ha:a.tmps=tm)(hle:iq θ bP)(hv:aV bP (V j) u):
 s.N<=(a.put o.dst u).tmps.size/\(∀(i:Nat)(q:Oper)(d:Tmp),(listed.setIfInBounds j true).getD i false=true->ops[i]?=some q->q.dst=some d->∃u',(a.put o.dst u).tmps[d]?=some u'/\aV bP (V i) u')/\
 (∀(k:Tmp),(∀(i:Nat)(q:Oper),(listed.setIfInBounds j true).getD i false=true->ops[i]?=some q->q.dst≠some k)->(a.put o.dst u).tmps[k]?=CO[k]?):=by
 have old:∀(i:Nat)(q:Oper)(d:Tmp),listed.getD i false=true->ops[i]?=some q->q.dst=some d->∃u',tm[d]?=some u'/\aV bP (V i) u':=λi q d h1 h2 h3=>let⟨u',g1,g2⟩:=I.t2 i q d h1 h2 h3;⟨u',g1,aV.mono hle _ g2⟩
 cases hd:o.dst with
 |none=>
  have hp:(a.put none u).tmps=tm:=ha;rw[hp];refine⟨I.t1,λi q d h1 h2 h3=>?_,λk h=>I.t3 k λi q h1 h2=>h i q ((dI J.lt).2 (.inr h1)) h2⟩;rcases(dI J.lt).1 h1 with rfl|h1
  .rw[J.ho]at h2;cases h2;rw[hd]at h3;cases h3
  .exact old i q d h1 h2 h3
 |some d0=>
  have hp:(a.put (some d0) u).tmps=tm.setIfInBounds d0 u:=by rw[<-ha];rfl
  have hlt:d0<tm.size:=Nat.lt_of_lt_of_le (K1.bnd j o d0 J.ho hd) I.t1;rw[hp];refine⟨by simpa using I.t1,λi q d h1 h2 h3=>?_,λk h=>?_⟩
  .rw[xB hlt]
   rcases(dI J.lt).1 h1 with rfl|h1
   .rw[J.ho]at h2;cases h2;rw[hd]at h3;cases h3
    exact⟨u,if_pos rfl,hv⟩
   .rw[if_neg ?_]
    .exact old i q d h1 h2 h3
    .rintro rfl
     have:=K1.uni i q j o d h2 h3 J.ho hd;rw[this,J.un]at h1;cases h1
  .rw[xB hlt,if_neg ?_]
   .exact I.t3 k λi q h1 h2=>h i q ((dI J.lt).2 (.inr h1)) h2
   .rintro rfl
    exact h j o ((dI J.lt).2 (.inl rfl)) J.ho hd
theorem Inv.dc':∀i,(listed.setIfInBounds j true).getD i false=true->∀k,bit (A.getD i 0) k=true->(listed.setIfInBounds j true).getD k false=true:=λi h k hk=>by
 rcases(dI J.lt).1 h with rfl|h
 .exact(dI J.lt).2 (.inr (J.an k hk))
 .exact(dI J.lt).2 (.inr (I.dc i h k hk))
theorem Inv.quiet{a:Act}{u:Value}(ha:a.tmps=tm)(hk:dO o.op=0\/dO o.op=1\/(dO o.op=2/\OB j=none))(hv:aV θ (V j) u):
 Inv P s ops A sl n0 V D OB K mZ h0 w0 CO (listed.setIfInBounds j true) p θ (a.put o.dst u).tmps w:=by
 obtain⟨p1,p2,p3⟩:=I.put K1 J ha (iq.refl _) hv;refine⟨by simpa using I.size,I.dc' K1 J,I.pN,I.pE,λe q h1 h2=>?_,p1,p2,p3,?_,λb q h1 h2 h3=>?_,I.fresh,I.Xd⟩
 .rw[dI J.lt,<-I.Lp e q h1 h2]
  refine⟨λh=>h.resolve_left λh=>?_,.inr⟩;subst h;rw[J.ho]at h1;cases h1;omega
 .obtain⟨G,g1,g2,g3,g4⟩:=I.G
  refine⟨G,g1,g2,g3,λb q ob h1 h2 h3 h4 h5=>?_⟩;rcases(dI J.lt).1 h4 with rfl|h4
  .rw[J.ho]at h1;cases h1
   rcases hk with hk|hk|⟨_,hk⟩
   .omega
   .omega
   .rw[hk]at h3;cases h3
  .exact g4 b q ob h1 h2 h3 h4 h5
 .refine I.un b q h1 h2 (h3.imp (λh=>?_) id)
  cases e:listed.getD b false with
  |false=>rfl
  |true=>rw[(dI J.lt).2 (.inr e)]at h;cases h
end
section
variable (R:lV P s Y ops W A f t n0 V D OB K) (I:Inv P s ops A sl n0 V D OB K mZ h0 w0 CO listed p θ tm w) (K1:Ru s ops W A) {j:Nat} {o:Oper} (J:Rdy (ops:=ops) (A:=A) listed j o)
include R I K1 J
theorem Inv.laid{a:Act}{u:Value}{ob:AO}{obj:Obj}{c:Nat}(ha:a.tmps=tm)(E5:∀y,mZ y≠none->y<n0)(hk:dO o.op=2)(hOB:OB j=some ob)(hA:rO P sl θ c ob obj)(hv:aV (θ.ins (n0+(D j).r) (w.heap.size,c)) (V j) u)(ho:zN (some ob)=true):
 Inv P s ops A sl n0 V D OB K mZ h0 w0 CO (listed.setIfInBounds j true) p (θ.ins (n0+(D j).r) (w.heap.size,c)) (a.put o.dst u).tmps (w.alloc obj):=by
 have hun:=I.un j o J.ho hk (.inl J.un);obtain⟨G,g1,g2,g3,g4⟩:=I.G;have hK:0<K:=by have:=R.Xf J.ho hk;omega
 have hn:n0+(D j).r<(D p).n:=by
  have h1:n0+K<(D p).n:=by
   rcases Nat.lt_or_ge (n0+K) (D p).n with h|h
   .exact h
   .exact absurd (g1.new _ h) (I.Xd hK)
  have:=R.Xf J.ho hk;omega
 obtain⟨hle,a1,a2⟩:=g1.O8 (mZ:=mZ) (h0:=h0) (w0:=w0) hun hn c hA ho;obtain⟨p1,p2,p3⟩:=I.put K1 J ha hle hv;have hget:∀y,(G.set (n0+(D j).r) ob).get y=if y=n0+(D j).r then some ob else G.get y:=λy=>h_ _ _ _ _
 have hins:∀y,y≠n0+(D j).r->θ.ins (n0+(D j).r) (w.heap.size,c) y=θ y:=λy hy=>by unfold Th.ins;rw[if_neg hy]
 refine⟨by simpa using I.size,I.dc' K1 J,I.pN,I.pE,λe q h1 h2=>?_,p1,p2,p3,⟨_,a1,a2 g2 λy hy=>by have:=E5 y hy;omega,λx q hx=>?_,λb q ob' h1 h2 h3 h4 h5=>?_⟩,λb q h1 h2 h3=>?_,I.fresh,λh=>?_⟩
 .rw[dI J.lt,<-I.Lp e q h1 h2]
  refine⟨λh=>h.resolve_left λh=>?_,.inr⟩;subst h;rw[J.ho]at h1;cases h1;omega
 .rw[hget,if_neg]
  .exact g3 x q hx
  .rintro rfl
   obtain⟨_,_,_,h1,_⟩:=g1.at_ _ _ (g3 _ _ hx);rw[hun]at h1;cases h1
 .rw[hget]
  by_cases hb:b=j
  .subst hb;rw[hOB]at h3;cases h3;rw[if_pos rfl]
  .rw[if_neg (R.ne h1 h2 J.ho hk hb)]
   exact g4 b q ob' h1 h2 h3 (((dI J.lt).1 h4).resolve_left hb) h5
 .by_cases hb:b=j
  .subst hb
   rcases h3 with h3|h3
   .rw[(dI J.lt).2 (.inl rfl)]at h3;cases h3
   .rw[hOB]at h3;cases h3
  .rw[hins _ (R.ne h1 h2 J.ho hk hb)]
   refine I.un b q h1 h2 (h3.imp (λh=>?_) id);cases e:listed.getD b false with
   |false=>rfl
   |true=>rw[(dI J.lt).2 (.inr e)]at h;cases h
 .rw[hins _ (by have:=R.Xf J.ho hk;omega)];exact I.Xd h
theorem Inv.ahead(hk:dO o.op=3):p<=j/\(∀e q,ops[e]?=some q->dO q.op=3->e<j->e<p)/\(D j).n=(D p).n/\
 ∃G,RH P sl θ G (D j).n w/\Fr mZ h0 w0 θ G w/\Sub (D j).h G/\∀a o ob,ops[a]?=some o->dO o.op=2->OB a=some ob->listed.getD a false=true->j<a->G.get (n0+(D a).r)=some ob/\(D j).h.get (n0+(D a).r)=none:=by
 have hp:p<=j:=by
  rcases Nat.lt_or_ge j p with h|h
  .have:=(I.Lp j o J.ho hk).2 h
   rw[J.un]at this;cases this
  .exact h
 have hE:∀e q,ops[e]?=some q->dO q.op=3->e<j->e<p:=λe q h1 h2 h3=>(I.Lp e q h1 h2).1 (J.an e (K1.Lp e q j o h1 h2 J.ho hk h3));have hj:=dD J.ho;have Jg:p+(j - p)=j:=by omega
 obtain⟨s1,s2,s3⟩:=R.seg (j - p) p (by omega) (by rw[Jg];exact hE);rw[Jg]at s1 s2 s3;obtain⟨G,g1,g2,g3,g4⟩:=I.G;refine⟨hp,hE,s1,G,by rw[s1];exact g1,g2,s2 G g3 λa q ob h1 h2 h3 h4 h5=>g4 a q ob h1 h2 h3 (J.an a (K1.all a q j o h1 h2 J.ho hk h5)) h4,λa q ob h1 h2 h3 h4 h5=>⟨g4 a q ob h1 h2 h3 h4 (by omega),?_⟩⟩;exact s3 _ (I.fresh a q h1 h2 (by omega)) λb q' k1 k2 k3 k4=>R.ne h1 h2 k1 k2 (by omega)
theorem Inv.effect{a:Act}{u:Value}{bP:Th}{w':World}{G:AH}(ha:a.tmps=tm)(hk:dO o.op=3)(hle:iq θ bP)
 (hG:RH P sl bP G (D (j+1)).n w')(hF:Fr mZ h0 w0 bP G w')(hS:Sub (D (j+1)).h G)(hAl:∀a o ob,ops[a]?=some o->dO o.op=2->OB a=some ob->listed.getD a false=true->j<a->G.get (n0+(D a).r)=some ob/\(D (j+1)).h.get (n0+(D a).r)=none)
 (hUn:∀a o,ops[a]?=some o->dO o.op=2->θ (n0+(D a).r)=none->bP (n0+(D a).r)=none)(hv:aV bP (V j) u):
 Inv P s ops A sl n0 V D OB K mZ h0 w0 CO (listed.setIfInBounds j true) (j+1) bP (a.put o.dst u).tmps w':=by
 obtain⟨p1,p2,p3⟩:=I.put K1 J ha hle hv;obtain⟨hp,hE,_⟩:=I.ahead R K1 J hk;have hun:∀b q,ops[b]?=some q->dO q.op=2->((listed.setIfInBounds j true).getD b false=false\/OB b=none)->bP (n0+(D b).r)=none:=λb q h1 h2 h3=>by
  refine hUn b q h1 h2 (I.un b q h1 h2 (h3.imp (λh=>?_) id));cases e:listed.getD b false with
  |false=>rfl
  |true=>rw[(dI J.lt).2 (.inr e)]at h;cases h
 refine⟨by simpa using I.size,I.dc' K1 J,dD J.ho,.inr ⟨j,o,J.ho,hk,rfl⟩,λe q h1 h2=>?_,p1,p2,p3,⟨G,hG,hF,hS,λb q ob h1 h2 h3 h4 h5=>?_⟩,hun,λb q h1 h2 h3=>?_,λh h'=>?_⟩
 .rw[dI J.lt]
  constructor
  .rintro(rfl|h)
   .omega
   .have:=(I.Lp e q h1 h2).1 h;omega
  .intro h
   by_cases he:e=j
   .exact .inl he
   .exact .inr ((I.Lp e q h1 h2).2 (hE e q h1 h2 (by omega)))
 .refine(hAl b q ob h1 h2 h3 (((dI J.lt).1 h4).resolve_left ?_) (by omega)).1
  rintro rfl;rw[J.ho]at h1;cases h1;omega
 .cases e:(D (j+1)).h.get (n0+(D b).r)with
  |none=>rfl
  |some ob'=>
   exfalso;obtain⟨_,_,_,k1,_⟩:=hG.at_ _ _ (hS _ _ e);cases hl:listed.getD b false with
   |false=>
    rw[hun b q h1 h2 (.inl ?_)]at k1;· cases k1
    cases e2:(listed.setIfInBounds j true).getD b false with
    |false=>rfl
    |true=>
     rcases(dI J.lt).1 e2 with rfl|e3
     .rw[J.ho]at h1;cases h1;omega
     .rw[hl]at e3;cases e3
   |true=>
    cases hob:OB b with
    |none=>rw[hun b q h1 h2 (.inr hob)]at k1;cases k1
    |some ob=>
     have:=(hAl b q ob h1 h2 hob hl (by omega)).2;rw[this]at e;cases e
 .have h1:=I.Xd h
  cases e:θ (n0+K)with
  |none=>exact h1 e
  |some q=>rw[hle _ _ e]at h';cases h'
end
end
end
section
variable {P:Program} {sl:FuncId->Sl} {s:Sl} {Y:YT} {ops:Array Oper} {W:List (Nat×Tmp)} {A:List Nat} {f:FT} {t:Tr AV}
variable {n0:Nat} {V:Nat->AV} {D:Nat->DS} {OB:Nat->Option AO} {K:Nat} {mZ:Th} {h0:AH} {w0:World} {CO:Array Value} {listed:Array Bool} {p:Nat} {θ:Th} {w:World}
theorem wY.name{l:List AV}{j:Nat}{o:Oper}{x x':Nat}{h h':AH}{n n':Nat}{v:AV}(e:wY P s Y ops W A f t l j o x h n v h' n')(hx:dO o.op=2->x=x'):wY P s Y ops W A f t l j o x' h n v h' n':=by
 obtain⟨b,h1,h2,h3⟩:=e;exact⟨b,h1,h2,λhb=>⟨(h3 hb).1,(h3 hb).2.1,λhk=>by rw[<-hx hk];exact(h3 hb).2.2.1 hk,(h3 hb).2.2.2⟩⟩
theorem lW{L:List Tmp}{l:List AV}{o:Oper}{ac:Act}{b:Bool}(e:(G5 s L ops o.guard).run t l=some b)(hT:RT s θ t ac.tmps)(hL:LR s θ L l ac.tmps):Region.wanted o (yielded ops ac.tmps)=b:=by
 cases hg:o.guard with
 |none=>
  rw[hg]at e;have e:some true=some b:=e;cases e
  simp[Region.wanted,hg]
 |some g=>rw[hg]at e;exact Li hg e hT hL
theorem tN{F:Fence}{m:Nat}{Q:Exit->Act->World->Prop}{j:Nat}{o:Oper}{ac:Act}{b:Bool}{Kp:Act->World->Prop}(ho:ops[j]?=some o)(hb:Region.wanted o (yielded ops ac.tmps)=b)(hF:∀f,F.fn f)
 (h0:b=false->Kp (ac.put o.dst undef) w)(h1:b=true->o.wpIn F m P ac w Kp Q):wpOpIn F m P ops Q j Kp ac w:=by
 unfold wpOpIn;simp only[ho];cases b with
 |false=>rw[if_neg (by rw[hb];simp)];exact⟨λf _=>hF f,h0 rfl⟩
 |true=>rw[if_pos hb];exact h1 rfl
theorem yw{r:Option Nat}{m:Nat}{Q:Exit->Act->World->Prop}{o:Oper}{ac:Act}{u:Value}{w':World}{Kp:Act->World->Prop}(hd:∀c,o.op≠ .defer c)(hr:(execOp ac.eval o).run P w= .ok (.value u) w')(hK:Kp (ac.put o.dst u) w'):o.wpIn (FR r) m P ac w Kp Q:=by
 refine⟨λ_ _=>trivial,?_⟩;have Tt:o.semAt (FR r).round ac.eval=execOp ac.eval o:=by
  unfold Oper.semAt;split
  .exact absurd ‹_› (hd _)
  .rfl
 rw[Tt,hr];exact hK
theorem Tz(hP:qK P)(r:Option Nat)(m:Nat)(hf:Good P sl f)(hY:wE P sl Y f)(R:lV P s Y ops W A f t n0 V D OB K){ac:Act}(I:Inv P s ops A sl n0 V D OB K mZ h0 w0 CO listed p θ ac.tmps w)(K1:Ru s ops W A)(hT0:RT s mZ t CO)(E5:∀y,mZ y≠none->y<n0)
 {j:Nat}{o:Oper}(J:Rdy (ops:=ops) (A:=A) listed j o){Q:Exit->Act->World->Prop}{Kp:Act->World->Prop}
 (hK:∀p' bP a' w',Inv P s ops A sl n0 V D OB K mZ h0 w0 CO (listed.setIfInBounds j true) p' bP a'.tmps w'->a'.defers=ac.defers->Kp a' w'):wpOpIn (FR r) m P ops Q j Kp ac w:=by
 obtain⟨G,g1,g2,g3,g4⟩:=id I.G;obtain⟨hT,hL⟩:=I.frame K1 J hT0 g2.le;have hF:∀f',(FR r).fn f':=λ_=>trivial;have hput:∀u,(ac.put o.dst u).defers=ac.defers:=λu=>by cases o.dst<;>rfl
 have O_:aV θ (.bQ []) undef:=⟨[],rfl,rfl⟩;rcases lU o.op with hk|hk|hk|hk
 .obtain⟨b,e1,e2,e3⟩:=R.op j o J.ho (by omega)
  refine tN J.ho (lW e1 hT hL) hF (λhb=>?_) (λhb=>?_)
  .obtain⟨hv,_⟩:=e2 hb
   exact hK p θ _ w (I.quiet K1 J rfl (.inl hk) (by rw[hv];exact O_)) (hput _)
  .obtain⟨h2,n2,k1,_⟩:=(e3 hb).1 hk
   obtain⟨u,k2,k3⟩:=Ai (.inl hk) k1 hT hL (g1.sub (Sub.z G));exact yw (kK k1) k2 (hK p θ _ w (I.quiet K1 J rfl (.inl hk) k3) (hput _))
 .have key:∃H h' n',Sub H G/\wY P s Y ops W A f t (O9 ops W A V j o) j o (n0+(D j).r) H (D j).n (V j) h' n':=by
   cases ow:own (iF 3 ops.toList 0) j p with
   |true=>
    obtain⟨o1,o2⟩:=cO (show bc (Nat.ble p j) (calm (iF 3 ops.toList 0) p j) false=true from ow);have Jg:p+(j - p)=j:=by have:=ni.1 o1;omega
    have hE:∀e q,ops[e]?=some q->dO q.op=3->e<j->e<p:=λe q h1 h2 h3=>by
     rcases Nat.lt_or_ge e p with h|h
     .exact h
     .have:=ni.1 (jD (fK (show mU (iF 3 ops.toList 0) _=true from o2) e (kL.2 ⟨e,q,by rw[Array.getElem?_toList];exact h1,h2,by omega⟩)) (ni.2 h))
      omega
    obtain⟨_,s2,_⟩:=R.seg (j - p) p (by have:=dD J.ho;omega) (by rw[Jg];exact hE);rw[Jg]at s2;obtain⟨H,h',n',r1,r2⟩:=R.ro j o p J.ho hk I.pE (ni.1 o1) hE;refine⟨H,h',n',?_,r1.name λh=>by omega⟩;rcases r2 with⟨hr,rfl⟩|rfl
    .refine s2 G g3 λa q ob h1 h2 h3 h4 h5=>g4 a q ob h1 h2 h3 (J.an a ?_) h4
     refine jD (fK (show mU (iF 2 ops.toList 0) _=true from hr) a (kL.2 ⟨a,q,by rw[Array.getElem?_toList];exact h1,h2,by omega⟩)) ?_;rw[qj.2 h5,bD];refine m_ λe he=>rT λhle=>?_;obtain⟨i,q',q1,q2,rfl⟩:=kL.1 he;rw[Array.getElem?_toList]at q1;rw[Nat.zero_add]at hle⊢;refine ni.2 ?_;rcases Nat.lt_or_ge i j with h|h
     .have:=hE i q' q1 q2 h
      have:=ni.1 hle;omega
     .exact h
    .exact g3
   |false=>
    have hadm:adm (iF 3 ops.toList 0) A j p=true:=by
     have hmem:∀e,e∈iF 3 ops.toList 0->∃q,ops[e]?=some q/\dO q.op=3:=λe he=>by
      obtain⟨i,q,q1,q2,rfl⟩:=kL.1 he;rw[Array.getElem?_toList]at q1;exact⟨q,by rw[Nat.zero_add];exact q1,q2⟩
     have a1:mU (iF 3 ops.toList 0) (λe=>wU (bit (A.getD j 0) e) (OU e p))=true:=m_ λe he=>rT λh=>by
      obtain⟨q,q1,q2⟩:=hmem e he;exact qj.2 ((I.Lp e q q1 q2).1 (J.an e h))
     have a2:mU (iF 3 ops.toList 0) (λe=>wU (OU e p) (p9 (bit (A.getD e 0) j)))=true:=m_ λe he=>rT λh=>by
      obtain⟨q,q1,q2⟩:=hmem e he;have hl:=(I.Lp e q q1 q2).2 (qj.1 h);rw[ji];cases hb:bit (A.getD e 0) j with
      |false=>rfl
      |true=>have:=I.dc e hl j hb;rw[J.un]at this;cases this
     show bc _ _ false=true;rw[a1,a2];rfl
    obtain⟨h',n',b,e1,e2,e3⟩:=R.re j o p J.ho hk I.pE ow hadm;refine⟨(D p).h,(D p).h,(D j).n,g3,b,e1,λhb=>⟨(e2 hb).1,rfl,rfl⟩,λhb=>⟨λh=>by omega,λ_=>?_,λh=>by omega,λh=>by omega⟩⟩;obtain⟨h2,n2,k1,_⟩:=(e3 hb).2.1 hk;exact⟨h2,n2,k1,rfl,rfl⟩
  obtain⟨H,h',n',hs,b,e1,e2,e3⟩:=key;refine tN J.ho (lW e1 hT hL) hF (λhb=>?_) (λhb=>?_)
  .obtain⟨hv,_⟩:=e2 hb
   exact hK p θ _ w (I.quiet K1 J rfl (.inr (.inl hk)) (by rw[hv];exact O_)) (hput _)
  .obtain⟨h2,n2,k1,_⟩:=(e3 hb).2.1 hk
   obtain⟨u,k2,k3⟩:=Ai (.inr hk) k1 hT hL (g1.sub hs);exact yw (kK k1) k2 (hK p θ _ w (I.quiet K1 J rfl (.inr (.inl hk)) k3) (hput _))
 .obtain⟨_,e1⟩:=R.al j o J.ho hk
  rcases e1 with⟨e1,e2,hv,_⟩|⟨e1,h2,ob,e2,k1,k2,_⟩
  .refine tN J.ho (lW e1 hT hL) hF (λ_=>?_) (λhb=>by cases hb)
   exact hK p θ _ w (I.quiet K1 J rfl (.inr (.inr ⟨hk,e2⟩)) (by rw[hv];exact O_)) (hput _)
  .refine tN J.ho (lW e1 hT hL) hF (λhb=>by cases hb) (λ_=>?_)
   obtain⟨ob',obj,c,u,rfl,q2,q3,q4,q5⟩:=Je (w:=w) hk k1 hT hL;rw[h_,if_pos rfl]at k2;cases k2
   exact yw (kK k1) q3 (hK p _ _ _ (I.laid R K1 J rfl E5 hk e2 q2 q4 q5) (hput _))
 .obtain⟨b,e1,e2,e3⟩:=R.op j o J.ho (by omega)
  obtain⟨_,_,_,G1,a1,a2,a3,a4⟩:=I.ahead R K1 J hk;refine tN J.ho (lW e1 hT hL) hF (λhb=>?_) (λhb=>?_)
  .obtain⟨hv,d1,d2⟩:=e2 hb
   refine hK (j+1) θ _ w (I.effect R K1 J rfl hk (iq.refl _) (G:=G1) (by rw[d2];exact a1) a2 (by rw[d1];exact a3) (by rw[d1];exact a4) (λ_ _ _ _ h=>h) (by rw[hv];exact O_)) (hput _)
  .have k1:=(e3 hb).2.2.2 hk
   refine Rt hP r m hf hY k1 hT hL (a1.sub a3) λbP u w' hv hR hFr=>?_;obtain⟨b1,b2⟩:=RH.frame (mZ:=mZ) (h0:=h0) (w0:=w0) a1 a3 hR hFr;refine hK (j+1) bP _ w' (I.effect R K1 J rfl hk hFr.le b1 (b2 a2) (λx q hx=>?_) (λa q ob h1 h2 h3 h4 h5=>?_) (λa q h1 h2 h3=>?_) hv) (hput _)
   .rw[Tr.tK,hx];rfl
   .obtain⟨c1,c2⟩:=a4 a q ob h1 h2 h3 h4 h5
    have c3:=RH.apart a1 a3 hFr (x:=n0+(D a).r) (by rw[c1];rfl) c2;refine⟨?_,c3⟩;rw[Tr.tK,c3,Tr.xC,c2,c1];rfl
   .cases e:bP (n0+(D a).r)with
    |none=>rfl
    |some q'=>
     exfalso;have hr:=R.Xf h1 h2;have:=hFr.low _ _ h3 (by rw[e];simp) (I.Xd (by omega));omega
theorem count_set:∀{l:List Bool}{j:Nat},l[j]?=some false->(l.set j true).count false+1=l.count false
 |[],_,h=>by simp at h
 |b::l,0,h=>by cases h;simp
 |b::l,j+1,h=>by
  have:=count_set (l:=l) (j:=j) (by simpa using h);rw[List.set_cons_succ,List.count_cons,List.count_cons];omega
theorem any_ok(hP:qK P)(r:Option Nat)(m:Nat)(hf:Good P sl f)(hY:wE P sl Y f)(R:lV P s Y ops W A f t n0 V D OB K)(K1:Ru s ops W A)(hT0:RT s mZ t CO)(E5:∀y,mZ y≠none->y<n0){Q:Exit->Act->World->Prop}{ds:List Deferred}
 (hQ:∀listed p θ a' w',Inv P s ops A sl n0 V D OB K mZ h0 w0 CO listed p θ a'.tmps w'->a'.defers=ds->(∀j,j<ops.size->listed.getD j false=true)->Q .normal a' w'):
 ∀(fuel:Nat)(listed:Array Bool)(p:Nat)(θ:Th)(ac:Act)(w:World),Inv P s ops A sl n0 V D OB K mZ h0 w0 CO listed p θ ac.tmps w->ac.defers=ds->listed.toList.count false<=fuel->wpAnyIn (FR r) m P .any ops Q fuel listed ac w:=by
 have hall:∀(listed:Array Bool) p θ tm w,Inv P s ops A sl n0 V D OB K mZ h0 w0 CO listed p θ tm w->Region.ready .any ops listed=[]->∀j,j<ops.size->listed.getD j false=true:=by
  intro listed p θ tm w I h j;induction j using Nat.strongRecOn with
  |ind j ih=>
   intro hj;cases e:listed.getD j false with
   |true=>rfl
   |false=>
    exfalso;obtain⟨o,ho⟩:=jQ hj;have hlt:j<listed.size:=by rw[I.size];exact hj
    have:j∈Region.ready .any ops listed:=mem_ready.2 ⟨by simp only[Array.getD_eq_getD_getElem?,Array.getElem?_eq_getElem hlt]at e⊢;exact e,o,ho,λed h1 h2=>by
     have h3:=K1.edge j o ho ed h1 h2;exact ih _ h3 (by omega)⟩
    rw[h]at this;cases this
 intro fuel;induction fuel with
 |zero=>
  intro listed p θ ac w I hd hc;have hr:Region.ready .any ops listed=[]:=by
   cases e:Region.ready .any ops listed with
   |nil=>rfl
   |cons j js=>
    exfalso;obtain⟨o,J⟩:=Lr I K1 (j:=j) (by rw[e];exact List.mem_cons_self ..);have h1:listed.toList[j]?=some false:=by
     have hu:=J.un;rw[Array.getElem?_toList,Array.getElem?_eq_getElem J.lt];simp only[Array.getD_eq_getD_getElem?,Array.getElem?_eq_getElem J.lt]at hu;exact congrArg some hu
    have:=count_set h1;omega
  exact⟨hr,hQ _ _ _ _ _ I hd (hall _ _ _ _ _ I hr)⟩
 |succ fuel ih=>
  intro listed p θ ac w I hd hc;refine⟨λhr=>hQ _ _ _ _ _ I hd (hall _ _ _ _ _ I hr),λj hj=>?_⟩;obtain⟨o,J⟩:=Lr I K1 hj;refine Tz hP r m hf hY R I K1 hT0 E5 J λp' bP a' w' I' hd'=>ih _ p' bP a' w' I' (hd'.trans hd) ?_;have h1:listed.toList[j]?=some false:=by
   have hu:=J.un;rw[Array.getElem?_toList,Array.getElem?_eq_getElem J.lt];simp only[Array.getD_eq_getD_getElem?,Array.getElem?_eq_getElem J.lt]at hu;exact congrArg some hu
  have:=count_set h1;rw[Array.toList_setIfInBounds];omega
theorem BF{p q:Nat}{h:AH}{hs:List (Nat×AH)}:C9 p ((q,h)::hs)=if q=p then some h else C9 p hs:=by
 show bc (Nat.beq q p) (some h) (C9 p hs)=_;by_cases e:q=p
 .subst e;rw[Nat.beq_refl,if_pos rfl];rfl
 .have:Nat.beq q p=false:=by
   cases e2:Nat.beq q p with
   |false=>rfl
   |true=>exact absurd (beq_eq e2) e
  rw[this,if_neg e];rfl
theorem BG{E B:List Nat}{H0:AH}{N0:Nat}(hD:D 0=⟨H0,N0,0,[(0,H0)]⟩)(hst:∀k o,ops[k]?=some o->BD P s Y ops W A f t E B n0 V k o (D k) (D (k+1))):∀(j p:Nat),j<=ops.size->p<=j->(p=0\/∃e q,ops[e]?=some q/\dO q.op=3/\p=e+1)->C9 p (D j).hs=some (D p).h
 |0,p,_,hp,_=>by
  obtain rfl:p=0:=by omega
  rw[hD,BF,if_pos rfl]
 |j+1,p,hj,hp,hE=>by
  obtain⟨o,ho⟩:=jQ (ops:=ops) (j:=j) (by omega);obtain⟨_,_,h3⟩:=hst j o ho;rw[h3];by_cases hk:dO o.op=3
  .rw[if_pos hk,BF]
   by_cases Jg:j+1=p
   .rw[if_pos Jg,Jg]
   .rw[if_neg Jg];exact BG hD hst j p (by omega) (by omega) hE
  .rw[if_neg hk]
   refine BG hD hst j p (by omega) ?_ hE;rcases hE with rfl|⟨e,q,h4,h5,rfl⟩
   .omega
   .rcases Nat.lt_or_ge e j with h|h
    .omega
    .obtain rfl:e=j:=by omega
     rw[ho]at h4;cases h4;exact absurd h5 hk
theorem Hr{E B:List Nat}{H0:AH}{N0:Nat}(hD:D 0=⟨H0,N0,0,[(0,H0)]⟩)(hst:∀k o,ops[k]?=some o->BD P s Y ops W A f t E B n0 V k o (D k) (D (k+1))):∀(j p:Nat),j<=ops.size->p<=j->(p=0\/∃e q,ops[e]?=some q/\dO q.op=3/\p=e+1)->(∀e q,ops[e]?=some q->dO q.op=3->e<j->e<p)->(D j).hs.head?=some (p,(D p).h)
 |0,p,_,hp,_,_=>by
  obtain rfl:p=0:=by omega
  rw[hD];rfl
 |j+1,p,hj,hp,hE,hN=>by
  obtain⟨o,ho⟩:=jQ (ops:=ops) (j:=j) (by omega);obtain⟨_,_,h3⟩:=hst j o ho;rw[h3];by_cases hk:dO o.op=3
  .have:=hN j o ho hk (by omega)
   obtain rfl:p=j+1:=by omega
   rw[if_pos hk];rfl
  .rw[if_neg hk]
   refine Hr hD hst j p (by omega) ?_ hE λe q h1 h2 h3=>hN e q h1 h2 (by omega);rcases hE with rfl|⟨e,q,h4,h5,rfl⟩
   .omega
   .rcases Nat.lt_or_ge e j with h|h
    .omega
    .obtain rfl:e=j:=by omega
     rw[ho]at h4;cases h4;exact absurd h5 hk
theorem yx{vs:List AV}{hs:List (Nat×AH)}:∀{l:List (Nat×Nat)},(xX P s Y ops W A l).run f t vs hs=true->∀x∈l,(ck1 P s Y ops W A x.1 x.2).run f t vs hs=true
 |[],_,x,h=>by cases h
 |y::l,e,x,h=>by
  obtain⟨h1,h2⟩:=cO (show bc ((ck1 P s Y ops W A y.1 y.2).run f t vs hs) ((xX P s Y ops W A l).run f t vs hs) false=true from e);rcases List.mem_cons.1 h with rfl|h
  .exact h1
  .exact yx h2 x h
theorem BH{i:Nat}{tm:Array Value}(hN:s.N<=tm.size):∀{l:List (Nat×Tmp)}{t t1:Tr AV},(Bb s i l).run (rv V i) t=some t1->(∀x∈l,x.1<i/\x.2+1<=s.N/\∃u,tm[x.2]?=some u/\aV θ (V x.1) u)->
 (∀k a,s.S k=true->t.get k=some a->(∃u,tm[k]?=some u/\aV θ a u)\/∃x∈l,x.2=k)->RT s θ t1 tm
 |[],t,t1,e,_,hb=>by
  cases e
  exact⟨hN,λk a hk hg=>(hb k a hk hg).resolve_right (by simp)⟩
 |x::l,t,t1,e,hl,hb=>by
  obtain⟨x1,x2,x3⟩:=hl x (List.mem_cons_self ..);have hl':=λy hy=>hl y (List.mem_cons_of_mem _ hy);have e':(bc (s.S x.2) _ (Bb s i l):PdF).run (rv V i) t=some t1:=e;cases hS:s.S x.2 with
  |true=>
   rw[hS,bD]at e';obtain⟨v,h1,h2⟩:=aB (show bnd ((CU (i - 1 - x.1)).run (rv V i)) (λv=>(Bb s i l).run (rv V i) ((pp 20 x.2).run v t))=some t1 from e');rw[jr,Bz x1]at h1;cases h1
   refine BH hN h2 hl' λk a hk hg=>?_;rw[jg]at hg;by_cases hkx:k=x.2
   .rw[if_pos hkx]at hg;cases hg;rw[hkx];exact .inl x3
   .rw[if_neg hkx]at hg
    rcases hb k a hk hg with h|⟨y,hy,rfl⟩
    .exact .inl h
    .rcases List.mem_cons.1 hy with rfl|hy
     .exact absurd rfl hkx
     .exact .inr ⟨y,hy,rfl⟩
  |false=>
   rw[hS,fU]at e';refine BH hN e' hl' λk a hk hg=>?_;rcases hb k a hk hg with h|⟨y,hy,rfl⟩
   .exact .inl h
   .rcases List.mem_cons.1 hy with rfl|hy
    .rw[hS]at hk;cases hk
    .exact .inr ⟨y,hy,rfl⟩
theorem Pb(hP:qK P)(hm:P.follows .mixedOrders=true)(r:Option Nat)(m:Nat)(hf:Good P sl f)(hY:wE P sl Y f){id:Nat}{Q:Exit->Act->World->Prop}{h h':AH}{n n':Nat}{t':Tr AV}{x:Ex}{ac:Act}
 (e:(IX P s Y ops).run f h n t= .ok x h' n' t')(hT:RT s θ t ac.tmps)(H:RH P sl θ h n w)
 (hQ:∀bP a' w',x= .bT->RT s bP t' a'.tmps->a'.defers=ac.defers->RH P sl bP h' n' w'->Fr θ h w bP h' w'->Q .normal a' w'):(Code.region id ops true).wpIn (FR r) m P Q ac w:=by
 refine wpIn_region_any hm ?_;unfold IX at e;dsimp only at e;cases hS:WS s ops (uV ops.toList 0) (kE ops.toList) (iF 3 ops.toList 0) (iF 2 ops.toList 0)with
 |false=>rw[hS]at e;cases e
 |true=>
  rw[hS,bD]at e;have K1:=Tv hS;dsimp only at e;generalize hK':kOf (iF 2 ops.toList 0)=K' at e;have hKK:((iF 2 ops.toList 0).length=0/\K'=0)\/(0<(iF 2 ops.toList 0).length/\K'=(iF 2 ops.toList 0).length+1):=by
   rw[<-hK'];cases iF 2 ops.toList 0 with
   |nil=>exact .inl ⟨rfl,rfl⟩
   |cons a l=>exact .inr ⟨by simp,by show mM l+1+1=_;rw[eF];simp⟩
  cases hD:(zO P s Y ops (uV ops.toList 0) (kE ops.toList) (iF 3 ops.toList 0) (iF 2 ops.toList 0) ops.toList 0 0).run f t n h (Nat.add n K') [] [(0,h)]with
  |bad=>rw[hD]at e;cases e
  |ok h1 n1 vs hs=>
   rw[hD]at e;dsimp only at e;cases hC:(xX P s Y ops (uV ops.toList 0) (kE ops.toList) (pairs (iF 3 ops.toList 0) (iF 1 ops.toList 0) (kE ops.toList))).run f t vs hs with
   |false=>rw[hC]at e;cases e
   |true=>
    rw[hC,bD]at e;cases hW:(Bb s ops.size (uV ops.toList 0)).run vs t with
    |none=>rw[hW]at e;cases e
    |some t1=>
     rw[hW]at e;cases e
     obtain⟨V,D,_,d2,d3,rfl,d5⟩:=Dq (n0:=n) ops.toList 0 0 h (n+K') [(0,h)] (λ_=>.b true) hD;have hlen:0+ops.toList.length=ops.size:=by simp
     rw[hlen]at d3 hC hW;have hst:∀k o,ops[k]?=some o->BD P s Y ops (uV ops.toList 0) (kE ops.toList) f t (iF 3 ops.toList 0) (iF 2 ops.toList 0) n V k o (D k) (D (k+1)):=λk o ho=>by
      have:=d5 k o (by rw[Array.getElem?_toList];exact ho)
      rwa [Nat.zero_add]at this
     have hop:∀j o,ops[j]?=some o->dO o.op≠1->wY P s Y ops (uV ops.toList 0) (kE ops.toList) f t (O9 ops (uV ops.toList 0) (kE ops.toList) V j o) j o (n+(D j).r) (D j).h (D j).n (V j) (D (j+1)).h (D (j+1)).n:=λj o ho hk=>by
      obtain⟨⟨H,h',n',g1,g2⟩,_⟩:=hst j o ho;rcases g2 with⟨g2,_⟩|⟨_,rfl,g3,g4⟩
      .exact absurd g2 hk
      .rw[g3,g4];exact(yj g1 (λk hk=>K1.back j k hk)).name λh2=>if_pos h2
     obtain⟨OB,hOB⟩:=Classical.axiomOfChoice (r:=λ(j:Nat)(oo:Option AO)=>∀o,ops[j]?=some o->dO o.op=2->Tw P s Y ops (uV ops.toList 0) (kE ops.toList) f t (O9 ops (uV ops.toList 0) (kE ops.toList) V j o) j o (n+(D j).r) (D j).h (D j).n (V j) (D (j+1)).h (D (j+1)).n oo) (λj=>by
      cases ho:ops[j]? with
      |none=>exact⟨none,λo h=>by cases h⟩
      |some o=>
       by_cases hk:dO o.op=2
       .obtain⟨oo,h⟩:=(hop j o ho (by omega)).Xe hk
        exact⟨oo,λo' h1 _=>by cases h1;exact h⟩
       .exact⟨none,λo' h1 h2=>by cases h1;exact absurd h2 hk⟩)
     have R:lV P s Y ops (uV ops.toList 0) (kE ops.toList) f t n V D OB (iF 2 ops.toList 0).length:=by
      refine⟨hop,λj o ho hk=>?_,λj o p ho hk hp Jg hE=>?_,λj o ho=>(hst j o ho).2.1,λj o ho hk=>hOB j o ho hk,λj o p ho hk hp how had=>?_,by rw[d3];simp⟩
      .obtain⟨⟨H,h',n',_,g2⟩,_⟩:=hst j o ho
       rcases g2 with⟨_,g3,g4,_⟩|⟨g2,_⟩
       .exact⟨g3,g4⟩
       .exact absurd hk g2
      .obtain⟨⟨H,h',n',g1,g2⟩,_⟩:=hst j o ho
       rcases g2 with⟨_,_,_,g5⟩|⟨g2,_⟩
       .refine⟨H,h',n',(yj g1 (λk hk=>K1.back j k hk)).name λh=>by omega,g5.imp (λz=>z) λ⟨q,hq⟩=>?_⟩
        have:=Hr d2 hst j p (Nat.le_of_lt (dD ho)) Jg hp hE;rw[this]at hq;cases hq;rfl
       .exact absurd hk g2
      have hmem:(j,p)∈pairs (iF 3 ops.toList 0) (iF 1 ops.toList 0) (kE ops.toList):=by
       refine List.mem_flatMap.2 ⟨j,kL.2 ⟨j,o,by rw[Array.getElem?_toList];exact ho,hk,by omega⟩,List.mem_map.2 ⟨p,List.mem_filter.2 ⟨?_,?_⟩,rfl⟩⟩
       .rcases hp with rfl|⟨e,q,h1,h2,rfl⟩
        .exact List.mem_cons_self ..
        .exact List.mem_cons_of_mem _ (List.mem_map.2 ⟨e,kL.2 ⟨e,q,by rw[Array.getElem?_toList];exact h1,h2,by omega⟩,rfl⟩)
       .rw[how,fU];exact had
      have hck:=yx hC _ hmem;dsimp only at hck;unfold ck1 at hck;rw[ho]at hck;dsimp only at hck;have hj:=dD ho;have hpN:p<=ops.size:=by
       rcases hp with rfl|⟨e,q,h1,_,rfl⟩
       .omega
       .exact dD h1
      have Xh:=BG d2 hst ops.size p (Nat.le_refl _) hpN hp;rw[d3]at Xh;rw[Xh,jr,Bz hj]at hck;dsimp only at hck;split at hck
      .rename_i v' h' n' hd
       have:=yu _ _ hck;subst this;exact⟨h',n',yj hd (λk hk=>Nat.lt_trans (K1.back j k hk) hj)⟩
      .cases hck
     have E5:∀y,θ y≠none->y<n:=λy hy=>by
      rcases Nat.lt_or_ge y n with h|h
      .exact h
      .exact absurd (H.new y h) hy
     have H0:RH P sl θ h n w.drew:=⟨H.at_,H.inj,H.new,H.gl⟩;have base:∃n_,RH P sl n_ h (n+K') w.drew/\Fr θ h w.drew n_ h w.drew/\(0<(iF 2 ops.toList 0).length->n_ (n+(iF 2 ops.toList 0).length)≠none)/\(∀x,n<=x->x<n+(iF 2 ops.toList 0).length->n_ x=none):=by
      rcases hKK with⟨k1,rfl⟩|⟨k1,k2⟩
      .exact⟨θ,H0,Fr.refl _ _ _,λh=>by omega,λx h1 h2=>by omega⟩
      .obtain⟨b1,b2⟩:=H0.dummy (k:=(iF 2 ops.toList 0).length)
       refine⟨_,by rw[k2];exact b1,b2,λ_=>by rw[Th.cZ];simp,λx h1 h2=>?_⟩;unfold Th.ins;rw[if_neg (by omega)];exact H.new x h1
     obtain⟨n_,b1,b2,b3,b4⟩:=base;have hnf:∀j,(Array.replicate ops.size false).getD j false=false:=λj=>by
      simp only[Array.getD_eq_getD_getElem?,Array.getElem?_replicate];split<;>rfl
     have hno:∀j,(Array.replicate ops.size false).getD j false=true->False:=λj hj=>by rw[hnf]at hj;cases hj
     have rlt:∀a o,ops[a]?=some o->dO o.op=2->(D a).r<(iF 2 ops.toList 0).length:=λa o h1 h2=>R.Xf h1 h2;have I0:Inv P s ops (kE ops.toList) sl n V D OB (iF 2 ops.toList 0).length θ h w.drew ac.tmps (Array.replicate ops.size false) 0 n_ ac.tmps w.drew:=by
      refine⟨by simp,λj hj=>(hno j hj).elim,Nat.zero_le _,.inl rfl,λe q _ _=>⟨λh=>(hno _ h).elim,λh=>by omega⟩,hT.size,λi o d hl=>(hno _ hl).elim,λk _=>rfl,⟨h,by rw[d2];exact b1,b2,by rw[d2];exact Sub.refl _,λa o ob _ _ _ hl=>(hno _ hl).elim⟩,λa o h1 h2 _=>b4 _ (by omega) (by have:=rlt a o h1 h2;omega),λa o h1 h2 _=>?_,b3⟩;rw[d2];cases hg:h.get (n+(D a).r)with
      |none=>rfl
      |some ob=>have:=H.dom hg;omega
     refine any_ok hP r m hf hY R K1 hT E5 (ds:=ac.defers) (λlisted p bP a' w' I hd hall=>?_) ops.size _ 0 n_ ac _ I0 rfl (by simp);obtain⟨G,g1,g2,g3,g4⟩:=I.G;have hpN:=I.pN;have Jg:p+(ops.size - p)=ops.size:=by omega
     obtain⟨s1,s2,_⟩:=R.seg (ops.size - p) p (by omega) (λe q h1 h2 h3=>(I.Lp e q h1 h2).1 (hall e (dD h1)));rw[Jg,d3]at s1 s2;have hs:=s2 G g3 λa o ob h1 h2 h3 h4 h5=>g4 a o ob h1 h2 h3 (hall a (dD h1)) h4;dsimp only at s1 hs;refine hQ bP a' w' rfl (BH I.t1 hW (λy hy=>?_) λk a hk hg=>?_) hd (by rw[s1];exact g1.sub hs) (g2.part hs).drew
     .obtain⟨o,k1,k2⟩:=(K1.zN y.1 y.2).1 hy
      exact⟨dD k1,K1.bnd _ _ _ k1 k2,I.t2 y.1 o y.2 (hall _ (dD k1)) k1 k2⟩
     .by_cases hw:∃(i:Nat)(o:Oper),ops[i]?=some o/\o.dst=some k
      .obtain⟨i,o,k1,k2⟩:=hw
       exact .inr ⟨(i,k),(K1.zN i k).2 ⟨o,k1,k2⟩,rfl⟩
      .obtain⟨u,k1,k2⟩:=hT.at_ k a hk hg
       refine .inl ⟨u,(I.t3 k λi o _ k3 k4=>hw ⟨i,o,k3,k4⟩).trans k1,aV.mono g2.le a k2⟩
end
end Go.Proofs.YtjoohkjmoghmoaaGreatDoor

/- part -/
import Derived.Test.YtjoohkjmoghmoaaGreatDoorP20
import Derived.ProofKit
import Derived.OpenShut
import Derived.ShutString
import Derived.Deep.Slices
import Derived.LaidHandle
import Derived.Shelf.Strconv.Itoa1
set_option linter.all false
namespace Go.Proofs.YtjoohkjmoghmoaaGreatDoor
section
noncomputable section
section
variable {h h':AH} {n n':Nat} {Q:AV->AH->Nat->Prop} {C:aH} {v:CS} {l:List Int} {party:Int}
theorem Cj(K:Nat)(hC:bG h n v C)(hQ:∀b h' n',(b=true->C.off.length<=100/\C.acts.length<=70)->Up h n h' n'->Q (.b b) h' n'):CW (EF (K+1)) 14 [.agg (v.av C),.i .i64 6] h n Q:=by
 refine aJ c14 rfl ?_;repeat' (first|(simp (disch:=omega) only[go_sem,m14,CS.av,hC.aC.len,hC.units.len,hC.acts.len,hC.lk,hC.off.len])|(with_reducible first|apply aj|apply ah|apply ay|apply aB|apply aA|apply au)<;>intro hd<;>(rw[hd];try simp only[decide_eq_true_eq,decide_eq_false_iff_not,Bool.not_eq_true',Bool.not_eq_false']at hd)|(with_reducible refine aD ?_))
 .exact hQ false _ _ (λe=>by cases e) aL
 .exact hQ false _ _ (λe=>by cases e) aL
 .exact hQ false _ _ (λe=>by cases e) aL
 .exact hQ false _ _ (λe=>by cases e) aL
 .exact hQ false _ _ (λe=>by cases e) aL
 generalize hh:Tr.set h n _=h1;have u1:Up h n h1 (n+1):=by rw[<-hh];exact aL
 have g1:h1.get n=some (.row 27 (v.av C)):=by rw[<-hh];exact aM
 clear hh;refine iX (λi hk nk F=>∃k,k<=C.clauses.length/\i=C.clauses.length - k/\h1=hk/\nk=n+1/\F=[(2,.p n 0),(5,.i .i64 (k:Nat))]) C.clauses.length (by omega) ⟨_,⟨0,by omega,rfl,rfl,rfl,rfl⟩,by(repeat' (first|exact aZ|refine aW rfl ?_))⟩ ?_;rintro i _ _ F ⟨k,hk1,rfl,rfl,rfl,rfl⟩;repeat' (first|(simp (disch:=omega) only[go_sem,QG,g1,CS.av,hC.lk])|(with_reducible first|apply aj|apply ah|apply ay|apply aB|apply aA|apply au)<;>intro hd<;>(rw[hd];try simp only[decide_eq_true_eq,decide_eq_false_iff_not,Bool.not_eq_true',Bool.not_eq_false']at hd)|(with_reducible refine aD ?_))
 .refine tZ (hC.up u1) (by omega) (by omega) λb o a t ha hb hst rd=>?_
  repeat' (first|(simp (disch:=omega) only[go_sem,rd.el,aN.av,hst.len])|(with_reducible first|apply aj|apply ah|apply ay|apply aB|apply aA|apply au)<;>intro hd<;>(rw[hd];try simp only[decide_eq_true_eq,decide_eq_false_iff_not,Bool.not_eq_true',Bool.not_eq_false']at hd)|(with_reducible refine aD ?_))
  .exact hQ false _ _ (λe=>by cases e) u1
  .have wid:f_ .i64 ((k:Int)+1)=((k+1:Nat):Int):=by rw[dN (by omega) (by omega)];rfl
   rw[BG,wid];exact⟨_,_,by omega,⟨k+1,by omega,rfl,rfl,rfl,rfl⟩,by(repeat' (first|exact aZ|refine aW rfl ?_))⟩
 .exact hQ true _ _ (λ_=>by omega) u1
theorem Pb(K:Nat)(hC:bG h n v C)(hQ:∀b h' n',(b=true->C.off.length<=100/\C.acts.length<=70)->Up h n h' n'->Q (.b b) h' n'):CW (EF (K+2)) 28 [.agg (v.av C)] h n Q:=by
 refine aJ c28 rfl ?_;repeat' (first|(simp (disch:=omega) only[go_sem,m28,CS.av])|(with_reducible first|apply aj|apply ah|apply ay|apply aB|apply aA|apply au)<;>intro hd<;>(rw[hd];try simp only[decide_eq_true_eq,decide_eq_false_iff_not,Bool.not_eq_true',Bool.not_eq_false']at hd)|(with_reducible refine aD ?_))
 generalize hh:Tr.set h n _=h1;have u1:Up h n h1 (n+1):=by rw[<-hh];exact aL
 have g1:h1.get n=some (.row 27 (v.av C)):=by rw[<-hh];exact aM
 clear hh;rw[bA];refine Cj K (hC.up u1) λb h2 n2 hb u2=>?_;have g2:=(u2.old n (by omega)).trans g1;have yY:=u1.trans u2;cases b with
 |false=>simp (disch:=omega) only[go_sem];exact hQ false _ _ (λe=>by cases e) yY
 |true=>
  repeat' (first|(simp (disch:=omega) only[go_sem,g2,CS.av,hC.acts.len])|(with_reducible first|apply aj|apply ah|apply ay|apply aB|apply aA|apply au)<;>intro hd<;>(rw[hd];try simp only[decide_eq_true_eq,decide_eq_false_iff_not,Bool.not_eq_true',Bool.not_eq_false']at hd)|(with_reducible refine aD ?_))
  all_goals first|exact hQ false _ _ (λe=>by cases e) yY|exact hQ true _ _ (λ_=>hb rfl) yY|exact hQ _ _ _ (λ_=>hb rfl) yY
theorem Ie(K:Nat)(hQ:Q (.b true) h n):CW (EF (K+1)) 29 [.k 1,.i .i64 2] h n Q:=⟨_,_,_,(by kernel_rfl:EF (K+1) 29 [.k 1,.i .i64 2] h n= .ok (.b true) h n),hQ⟩
theorem Pf(K:Nat)(hQ:Q (.b true) h n):CW (EF (K+1)) 30 [.k 1] h n Q:=⟨_,_,_,(by kernel_rfl:EF (K+1) 30 [.k 1] h n= .ok (.b true) h n),hQ⟩
theorem Mq(K:Nat){tv:AV}(hC:bG h n v C)(hT:SL h n 1 tv iJ l)(hQ:∀b h' n',(b=true->C.off.length<=100/\C.acts.length<=70/\l.length<=16)->Up h n h' n'->Q (.b b) h' n'):CW (EF (K+3)) 9 [.agg (v.av C),.k 1,.k 1,tv] h n Q:=by
 refine aJ c9 rfl ?_;repeat' (first|(simp (disch:=omega) only[go_sem,m9,CS.av])|(with_reducible first|apply aj|apply ah|apply ay|apply aB|apply aA|apply au)<;>intro hd<;>(rw[hd];try simp only[decide_eq_true_eq,decide_eq_false_iff_not,Bool.not_eq_true',Bool.not_eq_false']at hd)|(with_reducible refine aD ?_))
 generalize hh:Tr.set h n _=h1;have u1:Up h n h1 (n+1):=by rw[<-hh];exact aL
 have g1:h1.get n=some (.row 27 (v.av C)):=by rw[<-hh];exact aM
 clear hh;rw[bA];refine Pb K (hC.up u1) λb h2 n2 hb u2=>?_;have g2:=(u2.old n (by omega)).trans g1;have yY:=u1.trans u2;cases b with
 |false=>simp (disch:=omega) only[go_sem];exact hQ false _ _ (λe=>by cases e) yY
 |true=>
  repeat' (first|(simp (disch:=omega) only[go_sem,g2,CS.av,hC.lk])|(with_reducible first|apply aj|apply ah|apply ay|apply aB|apply aA|apply au)<;>intro hd<;>(rw[hd];try simp only[decide_eq_true_eq,decide_eq_false_iff_not,Bool.not_eq_true',Bool.not_eq_false']at hd)|(with_reducible refine aD ?_))
  .rw[bA]
   refine Ie (K+1) ?_;simp (disch:=omega) only[go_sem];rw[bA];refine Pf (K+1) ?_;repeat' (first|(simp (disch:=omega) only[go_sem,hT.len])|(with_reducible first|apply aj|apply ah|apply ay|apply aB|apply aA|apply au)<;>intro hd<;>(rw[hd];try simp only[decide_eq_true_eq,decide_eq_false_iff_not,Bool.not_eq_true',Bool.not_eq_false']at hd)|(with_reducible refine aD ?_))
   exact hQ _ _ _ (λe=>⟨(hb rfl).1,(hb rfl).2,by have:=of_decide_eq_true e;omega⟩) yY
  .exact hQ false _ _ (λe=>by cases e) yY
  .exact hQ false _ _ (λe=>by cases e) yY
theorem Ig(K:Nat){ov:AV}{nV:List Int}(hH:∀{h:AH}{n:Nat}{Q:AV->AH->Nat->Prop},(∀h' n',Up h n h' n'->Q (.b true) h' n')->CW (EF (K+15)) 8 [] h n Q)(hC:bG h n v C)(hO:SL h n 1 ov iJ nV)(hQ:∀h' n',Up h n h' n'->Q (.b true) h' n'):CW (EF (K+16)) 6 [.agg (v.av C),.i .i64 party,ov] h n Q:=by
 refine aJ c6 rfl ?_;repeat' (first|(simp (disch:=omega) only[go_sem,ub.old,m6,CS.av])|(simp (disch:=omega) only[go_sem,m6,CS.av])|(with_reducible first|apply aj|apply ah|apply ay|apply aB|apply aA|apply au)<;>intro hd<;>(rw[hd];try simp only[decide_eq_true_eq,decide_eq_false_iff_not,Bool.not_eq_true',Bool.not_eq_false']at hd)|(with_reducible refine aD ?_))
 generalize hh:Tr.set h n _=h1;have u1:Up h n h1 (n+1):=by rw[<-hh];exact aL
 have g1:h1.get n=some (.row 27 (v.av C)):=by rw[<-hh];exact aM
 clear hh;rw[bA];refine hH λh2 n2 u2=>?_;have e2:=u2.le;have g2:=(u2.old n (by omega)).trans g1;have yY:=u1.trans u2;simp (disch:=omega) only[go_sem,g2,CS.av];rw[bA];refine Mq (K+12) (hC.up yY) (hO.up yY) λb h3 n3 hb u3=>?_;have e3:=u3.le;have g3:=(u3.old n (by omega)).trans g2;have FB:=yY.trans u3;cases b with
 |false=>
  simp (disch:=omega) only[go_sem];exact hQ _ _ FB
 |true=>
  obtain⟨ho,ha,hl⟩:=hb rfl;simp (disch:=omega) only[go_sem,g3,CS.av];rw[bA];refine Hu (K+3) (hC.up FB) (by omega) (hO.up FB) (by omega) (by omega) (λe h4 n4 he u4=>?_) λv' l S h4 n4 hv hp0 hp1 nb run safe hll u4 k4=>?_
  .have hd:decide (e=0)=false:=decide_eq_false (by omega)
   simp (disch:=omega) only[go_sem,hd];exact hQ _ _ (FB.trans u4)
  .have e4:=u4.le
   have g4:=(u4.old n (by omega)).trans g3;have WJ:=FB.trans u4;simp (disch:=omega) only[go_sem,g4,CS.av];rw[bA];refine Ml K (hC.up WJ) (by omega) (by omega) k4.use nb (λe h5 n5 he hr u5=>?_) λ_ _ _ S' r h5 n5 run' r1 r2 r3 u5=>?_
   .exact absurd ⟨S,run⟩ (hr hv hp0 hp1 hll)
   .have hS:S'=S:=by
     apply List.ext_getElem?;intro j;have hl1:=run.len;have hl2:=run'.len;by_cases hj:j<=l.length
     .exact run'.same (k:=l.length) (by rw[List.take_length];exact run) (Nat.le_refl _) j hj
     .rw[List.getElem?_eq_none (by omega),List.getElem?_eq_none (by omega)]
    subst hS;have hr:r= -1:=by
     apply Classical.byContradiction;intro hne;obtain⟨k,rfl⟩:=Int.eq_ofNat_of_zero_le (show 0<=r by omega);obtain⟨_,t,a,b,e1,e2,e3,e4,e5⟩:=r1 k rfl;exact safe k t a b e1 e2 e3 e4 e5
    subst hr;simp (disch:=omega) only[go_sem];exact hQ _ _ (WJ.trans u5)
end
end
end
section
open Go.RowKit
noncomputable section
section
variable (w:World)
def IK:Value->Option AV
 | .bool x=>some (.b x)
 | .int k n=>some (.i k n)
 | .string s=>some (.s s.data.toList)
 | .slice none 0 0=>some (.k 1)
 | .slice (some a) n c=>if n=0 then some (.es a c)else if a.spot=none/\a.block<w.heap.size then some (.sl a.block 0 a.off n (some c))else none
 |_=>none
def pO:List Value->Option (List AV)
 |[]=>some []
 |v::l=>match IK w v,pO l with
  |some a,some b=>some (a::b)
  |_,_=>none
def FX:Th:=λx=>if x<w.heap.size then some (x,0)else none
def QH(b:Nat):Option AO:=match w.heap[b]? with
 |some (.cells cs _ _)=>some (.ro λk m=>if k+m<=cs.size then pO w ((cs.toList.drop k).take m)else none)
 |_=>none
def Ih:Nat->AH
 |0=>.z
 |n+1=>match QH w n with
  |some o=>(Ih n).set n o
  |none=>Ih n
def hW:AH:=Ih w w.heap.size
variable {w}
theorem Mr{v:Value}{a:AV}(e:IK w v=some a):aV (FX w) a v/\v.oneCell'=true:=by
 unfold IK at e;split at e
 .cases e;exact⟨rfl,rfl⟩
 .cases e;exact⟨rfl,rfl⟩
 .cases e
  rename_i s;obtain⟨d⟩:=s;exact⟨rfl,rfl⟩
 .cases e;exact⟨rfl,rfl⟩
 .rename_i a' n c
  split at e
  .rename_i h0;cases e;subst h0;exact⟨rfl,rfl⟩
  .split at e
   .rename_i h1
    cases e
    obtain⟨b,o,s⟩:=a';obtain⟨h2,h3⟩:=h1;dsimp only at h2 h3;subst h2;exact⟨⟨b,0,by unfold FX;rw[if_pos h3],λe=>(by cases e),rfl⟩,rfl⟩
   .cases e
 .cases e
theorem Aw:∀{l:List Value}{us:List AV},pO w l=some us->eG (FX w) us l/\∀x∈l,x.oneCell'=true
 |[],_,e=>by cases e;exact⟨rfl,λx hx=>by cases hx⟩
 |v::l,us,e=>by
  unfold pO at e;split at e
  .rename_i a b h1 h2
   cases e
   obtain⟨g1,g2⟩:=Mr h1;obtain⟨g3,g4⟩:=Aw h2;exact⟨⟨v,l,g1,g3,rfl⟩,λx hx=>by rcases List.mem_cons.1 hx with rfl|hx;exact g2;exact g4 x hx⟩
  .cases e
theorem FY:∀{l m:List Value}{us bs:List AV},pO w l=some us->pO w m=some bs->pO w (l++m)=some (us++bs)
 |[],_,_,_,e,h=>by cases e;exact h
 |v::l,m,us,bs,e,h=>by
  unfold pO at e;split at e
  .rename_i a b h1 h2
   cases e
   show pO w (v::(l++m))=_;unfold pO;rw[h1,FY h2 h];rfl
  .cases e
theorem Ck{α:Type}{f:α->List Value}{c:α->List AV}:∀{l:List α},(∀a∈l,pO w (f a)=some (c a))->pO w (l.flatMap f)=some (l.flatMap c)
 |[],_=>rfl
 |a::l,h=>by
  rw[List.flatMap_cons,List.flatMap_cons];exact FY (h a (List.mem_cons_self ..)) (Ck λb hb=>h b (List.mem_cons_of_mem _ hb))
theorem FZ:∀{l:List Value}{us:List AV},pO w l=some us->us.length=l.length:=λe=>(Aw e).1.length.symm
theorem Pg{l:List Value}{us:List AV}(e:pO w l=some us)(i m:Nat):pO w ((l.drop i).take m)=some ((us.drop i).take m):=by
 induction l generalizing us i m with
 |nil=>cases e;simp;rfl
 |cons v l ih=>
  unfold pO at e;split at e
  .rename_i a b h1 h2
   cases e
   cases i with
   |succ i=>exact ih h2 i m
   |zero=>
    cases m with
    |zero=>rfl
    |succ m=>
     have:=ih h2 0 m;rw[List.drop_zero,List.drop_zero]at this⊢;rw[List.take_succ_cons,List.take_succ_cons];unfold pO;rw[h1,this]
  .cases e
theorem xG:∀(n x:Nat),(Ih w n).get x=if x<n then QH w x else none
 |0,x=>by unfold Ih;rw[Tr.iy,if_neg (by omega)]
 |n+1,x=>by
  unfold Ih;split
  .rename_i o ho
   rw[gP,xG n x];by_cases h:x=n
   .rw[if_pos h,if_pos (by omega),h,ho]
   .rw[if_neg h]
    by_cases h2:x<n
    .rw[if_pos h2,if_pos (by omega)]
    .rw[if_neg h2,if_neg (by omega)]
  .rename_i ho
   rw[xG n x];by_cases h:x=n
   .rw[if_neg (by omega),if_pos (by omega),h,ho]
   .by_cases h2:x<n
    .rw[if_pos h2,if_pos (by omega)]
    .rw[if_neg h2,if_neg (by omega)]
theorem Ay(x:Nat):(hW w).get x=QH w x:=by
 unfold hW;rw[xG];by_cases h:x<w.heap.size
 .rw[if_pos h]
 .rw[if_neg h]
  unfold QH;rw[Array.getElem?_eq_none (by omega)]
theorem EB{x:Nat}{o:AO}(e:QH w x=some o):∃cs t fz,w.heap[x]?=some (.cells cs t fz)/\o= .ro λk m=>if k+m<=cs.size then pO w ((cs.toList.drop k).take m)else none:=by
 unfold QH at e;split at e
 .rename_i cs t fz h
  cases e
  exact⟨cs,t,fz,h,rfl⟩
 .cases e
theorem RH.world{P:Program}{sl:FuncId->Sl}(hT:Lib.TabIs P w "internal/strconv.uint64pow10" .u64 Lib.pow10Tab):RH P sl (FX w) (hW w) w.heap.size w where
 at_:=λx o e=>by
  rw[Ay]at e;obtain⟨cs,t,fz,h1,rfl⟩:=EB e;refine⟨x,0,_,by unfold FX;rw[if_pos (bK h1)],h1,cs,t,fz,rfl,λk m l hl=>?_⟩;dsimp only at hl;split at hl
  .rename_i hle
   obtain⟨g1,g2⟩:=Aw hl;refine⟨_,g1,g2,λj v hv=>?_⟩;rw[List.getElem?_take]at hv;split at hv
   .rw[List.getElem?_drop]at hv
    rw[<-Array.getElem?_toList];exact hv
   .cases hv
  .cases hl
 inj:=λx y r c d _ _ e1 e2=>by
  unfold FX at e1 e2;split at e1
  .split at e2
   .cases e1;cases e2;rfl
   .cases e2
  .cases e1
 new:=λx hx=>by unfold FX;rw[if_neg (by omega)]
 gl:=λg e=>by
  unfold Lib.TabIs World.var? at hT;rw[e]at hT;replace hT:(match w.heap[g]? with|some (.cells cs _ _)=>some cs|_=>none)=some (Lib.pow10Tab.map λz=>Value.int .u64 z).toArray:=hT;split at hT
  .rename_i cs t fz h
   cases hT
   refine⟨t,fz,h,λ⟨x,c,hx,_⟩=>?_⟩;obtain⟨o,ho⟩:=Option.isSome_iff_exists.1 (fK hx);rw[ho]at hx;rw[Ay]at ho;obtain⟨_,_,_,_,rfl⟩:=EB ho;cases hx
  .cases hT
theorem TL{k:Nat}:¬Im (FX w) (hW w) k:=λ⟨x,c,hx,_⟩=>by
 obtain⟨o,ho⟩:=Option.isSome_iff_exists.1 (fK hx);rw[ho]at hx;rw[Ay]at ho;obtain⟨_,_,_,_,rfl⟩:=EB ho;cases hx
theorem Ii{P:Program}{sl:FuncId->Sl}{O:OT}(hP:pq P)(hO:xX P sl O)(hT:Lib.TabIs P w "internal/strconv.uint64pow10" .u64 Lib.pow10Tab){k g:Nat}{avs:List AV}{vs:List Value}{Q:AV->AH->Nat->Prop}
 (e:CW (kE P sl O k) g avs (hW w) w.heap.size Q)(ha:eG (FX w) avs vs):Calls P g vs.toArray w λe w'=>∃v h' n' bT u,Q v h' n'/\e= .returned u/\aV bT v u/\Below w.heap.size w w':=by
 obtain⟨v,h',n',e1,e2⟩:=e;refine((rD hP hO k _ _ _ _ _ _ _ e1).2 (FX w) w vs (RH.world hT) ha).mono ?_;rintro e w' ⟨bT,u,rfl,h1,h2,F⟩;exact⟨v,h',n',bT,u,e2,rfl,h1,⟨F.os,F.tape,F.output,F.size,λk hk=>F.block k hk TL⟩⟩
theorem Ij{b o:Nat}{cells:List Value}{us:List AV}(hb:b<w.heap.size)(hc:∀j v,cells[j]?=some v->w.cell? ⟨b,o+j,none⟩=some v)(h0:0<cells.length)(ha:pO w cells=some us):GH ((hW w).get b) o us:=by
 have h1:∃cs t fz,w.heap[b]?=some (.cells cs t fz):=by
  obtain⟨v,hv⟩:∃v,cells[0]?=some v:=⟨cells[0],List.getElem?_eq_some_iff.2 ⟨h0,rfl⟩⟩;have:=hc 0 v hv;unfold World.cell? at this;split at this
  .exact⟨_,_,_,‹_›⟩
  .cases this
 obtain⟨cs,t,fz,h1⟩:=h1;have h2:QH w b=some (.ro λk m=>if k+m<=cs.size then pO w ((cs.toList.drop k).take m)else none):=by unfold QH;rw[h1]
 have h3:∀j v,cells[j]?=some v->cs[o+j]?=some v:=λj v hv=>by
  have:=hc j v hv;unfold World.cell? at this;simpa only[h1,Option.isSome_none,Bool.false_eq_true,if_false]using this
 have hlen:o+cells.length<=cs.size:=by
  obtain⟨v,hv⟩:∃v,cells[cells.length - 1]?=some v:=⟨cells[cells.length - 1],List.getElem?_eq_some_iff.2 ⟨by omega,rfl⟩⟩;have:=(Array.getElem?_eq_some_iff.1 (h3 _ v hv)).1;omega
 have h4:(cs.toList.drop o).take cells.length=cells:=by
  apply List.ext_getElem?;intro j;rw[List.getElem?_take];by_cases hj:j<cells.length
  .rw[if_pos hj,List.getElem?_drop,Array.getElem?_toList]
   have hv:cells[j]?=some cells[j]:=List.getElem?_eq_getElem hj;rw[hv,h3 j _ hv]
  .rw[if_neg hj,List.getElem?_eq_none (by omega)]
 have hal:=FZ ha;refine .inr ⟨_,(Ay b).trans h2,λi m him=>?_⟩;rw[if_pos (by omega)];have h5:=Pg ha i m;rw[<-h4,List.drop_take,List.take_take,List.drop_drop,Nat.min_eq_left (by omega)]at h5;exact h5
end
end
end
open Go.ChangeShapes Go.WideShapes Go.ChangeAt Go.RowKit Go.Deep
noncomputable section
theorem uS{α:Type}{p:Nat->α->Prop}:∀(n:Nat),(∀i,i<n->∃a,p i a)->∃l:List α,l.length=n/\∀i a,l[i]?=some a->p i a
 |0,_=>⟨[],rfl,λi a h=>by simp at h⟩
 |n+1,h=>by
  obtain⟨l,hl,hp⟩:=uS n (λi hi=>h i (by omega));obtain⟨a,ha⟩:=h n (by omega);refine⟨l++[a],by simp[hl],λi b hb=>?_⟩;rw[List.getElem?_append]at hb;split at hb
  .exact hp i b hb
  .rename_i hi
   have:i=n:=by
    by_cases e:i=n
    .exact e
    .rw[List.getElem?_eq_none (by simp;omega)]at hb;cases hb
   subst this;rw[hl,Nat.sub_self]at hb;simp at hb;subst hb;exact ha
theorem zip_unzip{α β:Type}:∀xs:List (α×β),(xs.map (·.1)).zip (xs.map (·.2))=xs
 |[]=>rfl
 |x::xs=>by simp[zip_unzip xs]
theorem yZ{β γ:Type}{c:β->List γ}{size:Nat}:∀(xs:List β),(∀x∈xs,(c x).length=size)->∀(j:Nat)(v:γ),(xs.flatMap c)[j]?=some v->∃i r x,xs[i]?=some x/\j=i*size+r/\r<size/\(c x)[r]?=some v
 |[],_,j,v,h=>by simp at h
 |x::xs,hc,j,v,h=>by
  have hx:=hc x (List.mem_cons_self ..);rw[List.flatMap_cons,List.getElem?_append]at h;split at h
  .exact⟨0,j,x,rfl,by omega,by omega,h⟩
  .obtain⟨i,r,y,h1,h2,h3,h4⟩:=yZ xs (λy hy=>hc y (List.mem_cons_of_mem _ hy)) _ v h
   exact⟨i+1,r,y,h1,by rw[Nat.succ_mul];omega,h3,h4⟩
theorem y7{β γ:Type}{c:β->List γ}{size:Nat}(h:∀x,(c x).length=size):∀xs:List β,(xs.flatMap c).length=xs.length*size
 |[]=>by simp
 |y::ys=>by rw[List.flatMap_cons,List.length_append,h,y7 h ys,List.length_cons,Nat.succ_mul];omega
theorem Ms{w:World}{a:Addr}{n c:Nat}:IK w (.slice (some a) n c)=if n=0 then some (.es a c)else if a.spot=none/\a.block<w.heap.size then some (.sl a.block 0 a.off n (some c))else none:=rfl
theorem dP{w:World}{v:Value}{l:List Value}{a:AV}{b:List AV}(h1:IK w v=some a)(h2:pO w l=some b):pO w (v::l)=some (a::b):=by unfold pO;rw[h1,h2]
theorem Ym{w:World}(s:ByteArray):IK w (.string s)=some (.s s.toList):=by rw[ByteArray.toList_eq];rfl
section
variable {H:Type} {enc:TypeId×Value->H} {P:Program} {w:World} {spare:Nat->Bool} {held:Bool}
theorem sN{α:Type}(g:α->List AV)(G:α->Prop)(size:Nat)(hpos:0<size)(hg:∀a,(g a).length=size){t e:TypeId}(ht:P.underlying t=some (.slice e))(hC:P.cellsOf e=size)
 (dec:∀n cs y,DataW.trod enc P w 0 spare held n e cs=some y->∃a,pO w cs=some (g a)/\G a){u:Value}{fuel:Nat}{x:DataW H×List MemPlace}(h:DataW.trod enc P w 0 spare held fuel t [u]=some x):
 ∃(a:AV)(xs:List α),IK w u=some a/\SL (hW w) w.heap.size size a g xs/\∀a∈xs,G a:=by
 rcases open_slice ht h with⟨h0,_⟩|⟨a,l,c,m,n,D,Pl,hcs,_,hl,hm,hmm,_,hi⟩
 .cases h0
  exact⟨.k 1,[],rfl,⟨hg,.inl ⟨rfl,rfl,rfl⟩⟩,λa ha=>by cases ha⟩
 .cases hcs
  have hlm:l<=m:=by subst hmm;split<;>omega
  rw[hC]at hi;obtain⟨xs,hxl,hx⟩:=uS (p:=λi (b:α×List Value)=>(∀j,j<size->w.cell? (a.add (i*size+j))=b.2[j]?)/\b.2.length=size/\pO w b.2=some (g b.1)/\G b.1) l (λi hil=>by
   obtain⟨cs',hc,ht'⟩:=hi i (by omega);obtain⟨b,hb,hG⟩:=dec _ _ _ ht';obtain⟨_,hcl,hat⟩:=World.cells?_some hc;exact⟨(b,cs'),λj hj=>by rw[<-Go.Deep.add_add,hat j hj],hcl,hb,hG⟩)
  subst hxl;have hxm:∀b∈xs,b.2.length=size/\pO w b.2=some (g b.1)/\G b.1:=λb hb=>by
   obtain⟨i,hi',he⟩:=List.mem_iff_getElem.1 hb;exact(hx i b (by rw[List.getElem?_eq_getElem hi',he])).2
  have hG:∀a∈xs.map (·.1),G a:=λb hb=>by
   obtain⟨y,hy,rfl⟩:=List.mem_map.1 hb;exact(hxm y hy).2.2
  have hcell:∀j v,(xs.flatMap (·.2))[j]?=some v->w.cell? (a.add j)=some v:=λj v hv=>by
   obtain⟨i,r,y,h1,rfl,h3,h4⟩:=yZ xs (λy hy=>(hxm y hy).1) j v hv;rw[(hx i y h1).1 r h3,h4]
  have hab:pO w (xs.flatMap (·.2))=some (xs.flatMap λb=>g b.1):=Ck λb hb=>(hxm b hb).2.1;have hfm:(xs.map (·.1)).flatMap g=xs.flatMap λb=>g b.1:=by rw[List.flatMap_map]
  have hlen:(xs.flatMap λb=>g b.1).length=xs.length*size:=y7 (λb=>hg b.1) xs;by_cases h0:xs.length=0
  .have hnil:xs=[]:=List.eq_nil_of_length_eq_zero h0
   subst hnil;exact⟨.es a c,[],by rw[Ms];exact if_pos rfl,⟨hg,.inr (.inr ⟨a,c,rfl,rfl,rfl⟩)⟩,λa ha=>by cases ha⟩
  .have hvl:=FZ hab
   have hpl:0<xs.length*size:=Nat.mul_pos (by omega) hpos;obtain⟨v,hv⟩:∃v,(xs.flatMap (·.2))[0]?=some v:=⟨_,List.getElem?_eq_getElem (by omega)⟩;have hc0:=hcell 0 v hv;obtain⟨b,o,s⟩:=a;have hs:s=none/\b<w.heap.size:=by
    unfold World.cell? at hc0;split at hc0
    .rename_i h3
     refine⟨?_,bK h3⟩;cases s with
     |none=>rfl
     |some _=>simp[Addr.add]at hc0
    .cases hc0
   obtain⟨rfl,hb⟩:=hs;refine⟨.sl b 0 o xs.length (some c),xs.map (·.1),by rw[Ms,if_neg h0,if_pos ⟨rfl,hb⟩],⟨hg,.inr (.inl ⟨b,0,o,some c,by rw[List.length_map],hb,?_,by rw[hfm,hlen,List.length_map],λk e=>by cases e;rw[List.length_map];exact hl⟩)⟩,hG⟩;rw[hfm];exact Ij hb (λj v hv=>by have:=hcell j v hv;rwa [Addr.add_mid]at this) (by omega) hab
end
section
variable {H:Type} {enc:TypeId×Value->H} {w:World} {spare:Nat->Bool} {held:Bool}
theorem Mt:Tryz.prog.cellsOf 3=1:=by kernel_rfl
theorem TM:Tryz.prog.cellsOf 4=1:=by kernel_rfl
theorem TN:Tryz.prog.cellsOf 9=1:=by kernel_rfl
theorem Ph:Tryz.prog.cellsOf 55=2:=by kernel_rfl
theorem Cm:Tryz.prog.cellsOf 169=7:=by kernel_rfl
theorem Cn:Tryz.prog.cellsOf 191=2:=by kernel_rfl
theorem Co:Tryz.prog.cellsOf 167=5:=by kernel_rfl
theorem Cq:Tryz.prog.cellsOf 112=16:=by kernel_rfl
theorem F6:Tryz.prog.cellsOf 22=1:=by kernel_rfl
theorem Mv:Tryz.prog.cellsOf 110=1:=by kernel_rfl
theorem Pj:Tryz.prog.cellsOf 23=1:=by kernel_rfl
theorem Pk:Tryz.prog.cellsOf 24=1:=by kernel_rfl
theorem Pm:Tryz.prog.cellsOf 25=1:=by kernel_rfl
theorem Pn:Tryz.prog.cellsOf 27=7:=by kernel_rfl
theorem take1{cs:List Value}{k:Nat}{v:Value}(h:(cs.drop k).take 1=[v]):cs[k]?=some v:=by
 have:((cs.drop k).take 1)[0]?=some v:=by rw[h];rfl
 rw[List.getElem?_take]at this;simpa using this
theorem xH{m i k:Nat}{cs:List Value}{xs:List (DataW H×List MemPlace)}(h:DataW.trod enc Tryz.prog w 0 spare held m 3 ((cs.drop k).take (Tryz.prog.cellsOf 3))=xs[i]?)(hi:i<xs.length):∃z,cs[k]?=some (.int .i64 z):=by
 rw[List.getElem?_eq_getElem hi,Mt]at h;obtain⟨v,e,_⟩:=DataW.trod_int Tryz.underlying3 h;exact⟨v,take1 e⟩
theorem f_b{m i k:Nat}{cs:List Value}{xs:List (DataW H×List MemPlace)}(h:DataW.trod enc Tryz.prog w 0 spare held m 4 ((cs.drop k).take (Tryz.prog.cellsOf 4))=xs[i]?)(hi:i<xs.length):∃z,cs[k]?=some (.bool z):=by
 rw[List.getElem?_eq_getElem hi,TM]at h;obtain⟨v,e,_⟩:=DataW.trod_bool Tryz.underlying4 h;exact⟨v,take1 e⟩
theorem f_s{m i k:Nat}{cs:List Value}{xs:List (DataW H×List MemPlace)}(h:DataW.trod enc Tryz.prog w 0 spare held m 9 ((cs.drop k).take (Tryz.prog.cellsOf 9))=xs[i]?)(hi:i<xs.length):∃z,cs[k]?=some (.string z):=by
 rw[List.getElem?_eq_getElem hi,TN]at h;obtain⟨v,e,_⟩:=DataW.trod_string Tryz.underlying9 h;exact⟨v,take1 e⟩
theorem UD{m i k:Nat}{t:TypeId}{cs:List Value}{xs:List (DataW H×List MemPlace)}(hi:i<xs.length)(hk:k<cs.length)(hc:Tryz.prog.cellsOf t=1)(h:DataW.trod enc Tryz.prog w 0 spare held m t ((cs.drop k).take (Tryz.prog.cellsOf t))=xs[i]?):∃u,cs[k]?=some u/\∃y,DataW.trod enc Tryz.prog w 0 spare held m t [u]=some y:=by
 rw[List.getElem?_eq_getElem hi,hc]at h;have e:(cs.drop k).take 1=[cs[k]]:=by rw[List.drop_eq_getElem_cons hk];rfl
 rw[e]at h;exact⟨_,List.getElem?_eq_getElem hk,_,h⟩
theorem f_r{m i k:Nat}{cs:List Value}{xs:List (DataW H×List MemPlace)}(h:DataW.trod enc Tryz.prog w 0 spare held m 55 ((cs.drop k).take (Tryz.prog.cellsOf 55))=xs[i]?)(hi:i<xs.length):∃p q,cs[k]?=some (.int .i64 p)/\cs[k+1]?=some (.int .i64 q):=by
 rw[List.getElem?_eq_getElem hi,Ph]at h;obtain⟨ys,m',_,_,hl,hy,hf⟩:=DataW.trod_struct Tryz.underlying55 h;have hy:ys.length=2:=hy;obtain⟨p,e1⟩:=xH (k:=0) (hf 0 _ rfl) (by omega);obtain⟨q,e2⟩:=xH (k:=1) (hf 1 _ rfl) (by omega);rw[List.getElem?_take]at e1 e2;refine⟨p,q,?_,?_⟩
 .simpa using e1
 .simpa [List.getElem?_drop]using e2
theorem Po{m:Nat}{cs:List Value}{y:DataW H×List MemPlace}(h:DataW.trod enc Tryz.prog w 0 spare held m 3 cs=some y):∃a:Int,pO w cs=some [AV.i .i64 a]:=by
 obtain⟨v,rfl,_⟩:=DataW.trod_int Tryz.underlying3 h;exact⟨v,rfl⟩
set_option maxRecDepth 100000 in
theorem Pp{m:Nat}{cs:List Value}{y:DataW H×List MemPlace}(h:DataW.trod enc Tryz.prog w 0 spare held m 169 cs=some y):∃a:eY,pO w cs=some a.av:=by
 obtain⟨xs,m,_,_,hl,hx,hf⟩:=DataW.trod_struct Tryz.underlying169 h;have hx:xs.length=6:=hx;rw[Cm]at hl
 match cs,hl with
 |[c0,c1,c2,c3,c4,c5,c6],_=>
  obtain⟨v0,e0⟩:=xH (k:=0) (hf 0 _ rfl) (by omega);cases e0
  obtain⟨v1,e1⟩:=xH (k:=1) (hf 1 _ rfl) (by omega);cases e1
  obtain⟨v2,e2⟩:=xH (k:=2) (hf 2 _ rfl) (by omega);cases e2
  obtain⟨v3,e3⟩:=xH (k:=3) (hf 3 _ rfl) (by omega);cases e3
  obtain⟨v4,e4⟩:=xH (k:=4) (hf 4 _ rfl) (by omega);cases e4
  obtain⟨p5,q5,e5,g5⟩:=f_r (k:=5) (hf 5 _ rfl) (by omega);cases e5;cases g5
  exact⟨⟨v0,v1,v2,v3,v4,⟨p5,q5⟩⟩,dP rfl (dP rfl (dP rfl (dP rfl (dP rfl (dP rfl (dP rfl (rfl)))))))⟩
set_option maxRecDepth 100000 in
theorem Mw{m:Nat}{cs:List Value}{y:DataW H×List MemPlace}(h:DataW.trod enc Tryz.prog w 0 spare held m 191 cs=some y):∃a:fO,pO w cs=some a.av:=by
 obtain⟨xs,m,_,_,hl,hx,hf⟩:=DataW.trod_struct Tryz.underlying191 h;have hx:xs.length=2:=hx;rw[Cn]at hl
 match cs,hl with
 |[c0,c1],_=>
  obtain⟨v0,e0⟩:=xH (k:=0) (hf 0 _ rfl) (by omega);cases e0
  obtain⟨v1,e1⟩:=xH (k:=1) (hf 1 _ rfl) (by omega);cases e1
  exact⟨⟨v0,v1⟩,dP rfl (dP rfl (rfl))⟩
set_option maxRecDepth 100000 in
theorem Mx{m:Nat}{cs:List Value}{y:DataW H×List MemPlace}(h:DataW.trod enc Tryz.prog w 0 spare held m 167 cs=some y):∃a:dY,pO w cs=some a.av:=by
 obtain⟨xs,m,_,_,hl,hx,hf⟩:=DataW.trod_struct Tryz.underlying167 h;have hx:xs.length=4:=hx;rw[Co]at hl
 match cs,hl with
 |[c0,c1,c2,c3,c4],_=>
  obtain⟨v0,e0⟩:=f_s (k:=0) (hf 0 _ rfl) (by omega);cases e0
  obtain⟨v1,e1⟩:=xH (k:=1) (hf 1 _ rfl) (by omega);cases e1
  obtain⟨v2,e2⟩:=xH (k:=2) (hf 2 _ rfl) (by omega);cases e2
  obtain⟨p3,q3,e3,g3⟩:=f_r (k:=3) (hf 3 _ rfl) (by omega);cases e3;cases g3
  exact⟨⟨v0,v1,v2,⟨p3,q3⟩⟩,dP (Ym _) (dP rfl (dP rfl (dP rfl (dP rfl (rfl)))))⟩
set_option maxRecDepth 100000 in
theorem EC{m:Nat}{u:Value}{y:DataW H×List MemPlace}(h:DataW.trod enc Tryz.prog w 0 spare held m 110 [u]=some y):∃(t:AV)(l:List fO),IK w u=some t/\SL (hW w) w.heap.size 2 t fO.av l:=by
 obtain⟨t,l,h1,h2,_⟩:=sN fO.av (λ_=>True) 2 (by omega) (λ_=>rfl) Tryz.underlying110 Cn (λn cs y h=>by obtain⟨a,ha⟩:=Mw h;exact⟨a,ha,trivial⟩) h;exact⟨t,l,h1,h2⟩
set_option maxRecDepth 100000 in
theorem ED{m:Nat}{u:Value}{y:DataW H×List MemPlace}(h:DataW.trod enc Tryz.prog w 0 spare held m 23 [u]=some y):∃(t:AV)(l:List dY),IK w u=some t/\SL (hW w) w.heap.size 5 t dY.av l:=by
 obtain⟨t,l,h1,h2,_⟩:=sN dY.av (λ_=>True) 5 (by omega) (λ_=>rfl) Tryz.underlying23 Co (λn cs y h=>by obtain⟨a,ha⟩:=Mx h;exact⟨a,ha,trivial⟩) h;exact⟨t,l,h1,h2⟩
set_option maxRecDepth 100000 in
theorem Ik{m:Nat}{u:Value}{y:DataW H×List MemPlace}(h:DataW.trod enc Tryz.prog w 0 spare held m 24 [u]=some y):∃(t:AV)(l:List eY),IK w u=some t/\SL (hW w) w.heap.size 7 t eY.av l:=by
 obtain⟨t,l,h1,h2,_⟩:=sN eY.av (λ_=>True) 7 (by omega) (λ_=>rfl) Tryz.underlying24 Cm (λn cs y h=>by obtain⟨a,ha⟩:=Pp h;exact⟨a,ha,trivial⟩) h;exact⟨t,l,h1,h2⟩
set_option maxRecDepth 100000 in
theorem uj{m:Nat}{u:Value}{y:DataW H×List MemPlace}(h:DataW.trod enc Tryz.prog w 0 spare held m 22 [u]=some y):∃(t:AV)(l:List Int),IK w u=some t/\SL (hW w) w.heap.size 1 t (λx:Int=>[AV.i .i64 x]) l:=by
 obtain⟨t,l,h1,h2,_⟩:=sN (λx:Int=>[AV.i .i64 x]) (λ_=>True) 1 (by omega) (λ_=>rfl) Tryz.underlying22 Mt (λn cs y h=>by obtain⟨a,ha⟩:=Po h;exact⟨a,ha,trivial⟩) h;exact⟨t,l,h1,h2⟩
set_option maxRecDepth 100000 in
theorem EG{m:Nat}{cs:List Value}{y:DataW H×List MemPlace}(h:DataW.trod enc Tryz.prog w 0 spare held m 112 cs=some y):∃a:aN×AV,pO w cs=some (a.1.av a.2)/\SL (hW w) w.heap.size 2 a.2 fO.av a.1.start:=by
 obtain⟨xs,m,_,_,hl,hx,hf⟩:=DataW.trod_struct Tryz.underlying112 h;have hx:xs.length=15:=hx;rw[Cq]at hl
 match cs,hl with
 |[c0,c1,c2,c3,c4,c5,c6,c7,c8,c9,c10,c11,c12,c13,c14,c15],_=>
  obtain⟨v0,e0⟩:=xH (k:=0) (hf 0 _ rfl) (by omega);cases e0
  obtain⟨v1,e1⟩:=xH (k:=1) (hf 1 _ rfl) (by omega);cases e1
  obtain⟨v2,e2⟩:=xH (k:=2) (hf 2 _ rfl) (by omega);cases e2
  obtain⟨v3,e3⟩:=xH (k:=3) (hf 3 _ rfl) (by omega);cases e3
  obtain⟨u4,e4,TP⟩:=UD (k:=4) (by omega:4<xs.length) (by simp) Mv (hf 4 _ rfl);cases e4
  obtain⟨y4,TP⟩:=TP;obtain⟨t4,v4,a4,s4⟩:=EC TP;obtain⟨v5,e5⟩:=xH (k:=5) (hf 5 _ rfl) (by omega);cases e5
  obtain⟨v6,e6⟩:=xH (k:=6) (hf 6 _ rfl) (by omega);cases e6
  obtain⟨v7,e7⟩:=f_b (k:=7) (hf 7 _ rfl) (by omega);cases e7
  obtain⟨v8,e8⟩:=f_b (k:=8) (hf 8 _ rfl) (by omega);cases e8
  obtain⟨v9,e9⟩:=xH (k:=9) (hf 9 _ rfl) (by omega);cases e9
  obtain⟨v10,e10⟩:=xH (k:=10) (hf 10 _ rfl) (by omega);cases e10
  obtain⟨p11,LC,e11,g11⟩:=f_r (k:=11) (hf 11 _ rfl) (by omega);cases e11;cases g11
  obtain⟨v12,e12⟩:=xH (k:=13) (hf 12 _ rfl) (by omega);cases e12
  obtain⟨v13,e13⟩:=xH (k:=14) (hf 13 _ rfl) (by omega);cases e13
  obtain⟨v14,e14⟩:=f_b (k:=15) (hf 14 _ rfl) (by omega);cases e14
  exact⟨(⟨v0,v1,v2,v3,v4,v5,v6,v7,v8,v9,v10,⟨p11,LC⟩,v12,v13,v14⟩,t4),dP rfl (dP rfl (dP rfl (dP rfl (dP a4 (dP rfl (dP rfl (dP rfl (dP rfl (dP rfl (dP rfl (dP rfl (dP rfl (dP rfl (dP rfl (dP rfl (rfl)))))))))))))))),s4⟩
set_option maxRecDepth 100000 in
theorem Az{m:Nat}{u:Value}{y:DataW H×List MemPlace}(h:DataW.trod enc Tryz.prog w 0 spare held m 25 [u]=some y):∃(t:AV)(l:List aN),IK w u=some t/\∃ss,yL (hW w) w.heap.size t l ss:=by
 obtain⟨t,l,h1,h2,h3⟩:=sN (λa:aN×AV=>a.1.av a.2) (λa=>SL (hW w) w.heap.size 2 a.2 fO.av a.1.start) 16 (by omega) (λ_=>rfl) Tryz.underlying25 Cq (λn cs y h=>EG h) h;refine⟨t,l.map (·.1),h1,l.map (·.2),by simp,?_,λi k t e1 e2=>?_⟩
 .rw[zip_unzip,List.length_map];exact h2.2
 .rw[List.getElem?_map]at e1 e2
  cases hl:l[i]? with
  |none=>rw[hl]at e1;cases e1
  |some a=>
   rw[hl]at e1 e2;cases e1;cases e2;exact h3 a (List.mem_of_getElem? hl)
set_option maxRecDepth 100000 in
theorem Pq{m:Nat}{cs:List Value}{y:DataW H×List MemPlace}(h:DataW.trod enc Tryz.prog w 0 spare held m 27 cs=some y):∃(v:CS)(C:aH),pO w cs=some (v.av C)/\bG (hW w) w.heap.size v C:=by
 obtain⟨xs,m,_,_,hl,hx,hf⟩:=DataW.trod_struct Tryz.underlying27 h;have hx:xs.length=7:=hx;rw[Pn]at hl
 match cs,hl with
 |[c0,c1,c2,c3,c4,c5,c6],_=>
  obtain⟨v0,e0⟩:=xH (k:=0) (hf 0 _ rfl) (by omega);cases e0
  obtain⟨u1,e1,hu1⟩:=UD (k:=1) (by omega:1<xs.length) (by simp) F6 (hf 1 _ rfl);cases e1
  obtain⟨y1,hu1⟩:=hu1;obtain⟨t1,v1,a1,s1⟩:=uj hu1;obtain⟨u2,e2,hu2⟩:=UD (k:=2) (by omega:2<xs.length) (by simp) Pj (hf 2 _ rfl);cases e2
  obtain⟨y2,hu2⟩:=hu2;obtain⟨t2,v2,a2,s2⟩:=ED hu2;obtain⟨u3,e3,hu3⟩:=UD (k:=3) (by omega:3<xs.length) (by simp) Pk (hf 3 _ rfl);cases e3
  obtain⟨y3,hu3⟩:=hu3;obtain⟨t3,v3,a3,s3⟩:=Ik hu3;obtain⟨u4,e4,TP⟩:=UD (k:=4) (by omega:4<xs.length) (by simp) Pm (hf 4 _ rfl);cases e4
  obtain⟨y4,TP⟩:=TP;obtain⟨t4,v4,a4,s4⟩:=Az TP;obtain⟨v5,e5⟩:=xH (k:=5) (hf 5 _ rfl) (by omega);cases e5
  obtain⟨u6,e6,hu6⟩:=UD (k:=6) (by omega:6<xs.length) (by simp) F6 (hf 6 _ rfl);cases e6
  obtain⟨y6,hu6⟩:=hu6;obtain⟨t6,v6,a6,s6⟩:=uj hu6;exact⟨⟨t1,t2,t3,t4,t6⟩,⟨v0,v1,v2,v3,v4,v5,v6⟩,dP rfl (dP a1 (dP a2 (dP a3 (dP a4 (dP rfl (dP a6 (rfl))))))),⟨s1,s2,s3,s4,s6⟩⟩
set_option maxRecDepth 100000 in
theorem ME{v:Value}{d:DataW H}{p:List MemPlace}{r:Go.Reach}{base:Nat}(hv:Value.okWide Tryz.prog w r base 27 v)(h:DataW.Trod enc Tryz.prog w 0 (λ_=>true) true 27 v d p):∃(cv:CS)(C:aH),aV (FX w) (.agg (cv.av C)) v/\bG (hW w) w.heap.size cv C:=by
 obtain⟨cs,rfl,_⟩:=okWide_struct Tryz.underlying27 hv;obtain⟨fuel,hf⟩:=h;obtain⟨cv,C,hy,hC⟩:=Pq hf;obtain⟨l⟩:=cs;obtain⟨h1,h2⟩:=Aw hy;exact⟨cv,C,⟨_,h1,h2,rfl⟩,hC⟩
set_option maxRecDepth 100000 in
theorem open_ints{v:Value}{d:DataW H}{p:List MemPlace}{r:Go.Reach}{base:Nat}(hv:Value.okWide Tryz.prog w r base 22 v)(h:DataW.Trod enc Tryz.prog w 0 (λ_=>true) true 22 v d p):∃(t:AV)(l:List Int),aV (FX w) t v/\SL (hW w) w.heap.size 1 t (λx:Int=>[AV.i .i64 x]) l:=by
 obtain⟨A,len,cap,rfl⟩:=okWide_slice Tryz.underlying22 hv;obtain⟨fuel,hf⟩:=h;obtain⟨t,l,h1,h2⟩:=uj (show DataW.trod enc Tryz.prog w 0 (λ_=>true) true fuel 22 [.slice A len cap]=some _ from hf);exact⟨t,l,(Mr h1).1,h2⟩
end
end
end Go.Proofs.YtjoohkjmoghmoaaGreatDoor
namespace Go.Proofs
open Go.Shelf
def Tryz.laysDigits_ren:Go.Shelf.Ren:=⟨λ|284=>287|129=>204|317=>311|318=>312|n=>n,λ|53=>338|3=>3|212=>419|0=>0|4=>4|46=>248|5=>5|9=>9|n=>n,λ|17=>0|n=>n⟩
theorem Tryz.laysDigits:Go.Proofs.LaysM.n284 Tryz.prog Tryz.laysDigits_ren:={
 mixed:=by kernel_rfl
 f129:=Tryz.func204.trans (congrArg some (by kernel_rfl))
 f284:=Tryz.func287.trans (congrArg some (by kernel_rfl))
 f317:=Tryz.func311.trans (congrArg some (by kernel_rfl))
 f318:=Tryz.func312.trans (congrArg some (by kernel_rfl))
 t0:=Tryz.underlying0
 a0:=Tryz.isAgg0
 z0:=Tryz.sizeOf0
 v0:=Tryz.zeroValue0
 t3:=Tryz.underlying3
 a3:=Tryz.isAgg3
 z3:=Tryz.sizeOf3
 v3:=Tryz.zeroValue3
 t4:=Tryz.underlying4
 a4:=Tryz.isAgg4
 z4:=Tryz.sizeOf4
 v4:=Tryz.zeroValue4
 t5:=Tryz.underlying5
 a5:=Tryz.isAgg5
 z5:=Tryz.sizeOf5
 v5:=Tryz.zeroValue5
 t9:=Tryz.underlying9
 a9:=Tryz.isAgg9
 z9:=Tryz.sizeOf9
 v9:=Tryz.zeroValue9
 t46:=Tryz.underlying248
 a46:=Tryz.isAgg248
 z46:=Tryz.sizeOf248
 v46:=Tryz.zeroValue248
 t53:=Tryz.underlying338
 a53:=Tryz.isAgg338
 z53:=Tryz.sizeOf338
 v53:=Tryz.zeroValue338
 t212:=Tryz.underlying419
 a212:=Tryz.isAgg419
 z212:=Tryz.sizeOf419
 v212:=Tryz.zeroValue419
 g17:=by kernel_rfl
 i0:=by kernel_rfl
 i3:=by kernel_rfl
 i4:=by kernel_rfl
 i5:=by kernel_rfl
 i9:=by kernel_rfl
 i46:=by kernel_rfl
 i53:=by kernel_rfl
 i212:=by kernel_rfl
 m17:=by kernel_rfl}
end Go.Proofs
namespace Go.Proofs.YtjoohkjmoghmoaaGreatDoor
section
noncomputable section
theorem Pt:pq Tryz.prog:=by
 refine⟨by kernel_rfl,λg fn e=>?_⟩;have h:Tryz.prog.funcs.toList.all (λfn=> !(fn.name== "runtime.NumGoroutine"))=true:=by kernel_rfl
 have:=List.all_eq_true.1 h fn (by
  rw[<-Array.getElem?_toList]at e;exact List.mem_of_getElem? e)
 simpa using this
def OE:OT:=λf g args h n=>bc (Nat.beq g 43) (some (Ro f args h n)) (OD f g args h n)
theorem QI:xX Tryz.prog sl0 OD:=λf hf g args h n v h' n' e=>by
 obtain⟨e1,e2⟩:=bN (show bc (Nat.beq g Rm) _ none=some _ from e);obtain rfl:=beq_eq e1;split at e2
 case h_2=>cases e2
 rename_i u;obtain⟨e3,e4⟩:=bN e2;obtain⟨e5,e6⟩:=bN e4;cases e6
 refine⟨⟨_,_,Tryz.func287,rfl⟩,λθ w vs H ha=>?_⟩;obtain⟨_,_,rfl,rfl,rfl⟩:=ha;have hg:Tryz.prog.globalNamed "internal/strconv.uint64pow10"=some 0:=by kernel_rfl
 obtain⟨ty,q,k1,_⟩:=H.gl 0 hg;have ht:Lib.TabIs Tryz.prog w "internal/strconv.uint64pow10" .u64 Lib.pow10Tab:=by
  unfold Lib.TabIs World.var?;rw[hg];simp only[Option.bind_some,k1]
 refine(Any.internal_strconv_numDigits Tryz.laysDigits u (Nat.le_of_ble_eq_true e3) (Nat.lt_succ_of_le (Nat.le_of_ble_eq_true e5)) w ht).mono ?_;rintro en w' ⟨rfl,rfl⟩;exact⟨θ,_,rfl,rfl,H,Fr.refl _ _ _⟩
theorem F7:xX Tryz.prog sl0 OE:=λf hf g args h n v h' n' e=>by
 have e':bc (Nat.beq g 43) (some (Ro f args h n)) (OD f g args h n)=some (.ok v h' n'):=e;cases hg:Nat.beq g 43 with
 |true=>
  rw[hg,bJ]at e';obtain rfl:=beq_eq hg;exact NJ Pt hf (Option.some.inj e')
 |false=>rw[hg,fU]at e';exact QI f hf g args h n v h' n' e'
end
end
noncomputable section
def kn(g0:Nat)(A:List AV)(G:AH)(n0:Nat)(v:AV)(O:OT):OT:=λf g args h n=>bc (bc (Nat.beq g g0) (bc (Nat.beq n n0) (bc (sU args A) (std G h n0) false) false) false) (some (.ok v h n)) (O f g args h n)
theorem MF{g0 n0 K:Nat}{A:List AV}{G:AH}{v:AV}{O O':OT}(hO':xX Tryz.prog sl0 O')(e:Ug v G n0 (kE Tryz.prog sl0 O' K g0 A G n0)=true)(hn:∀x o,G.get x=some o->x<n0)(hO:xX Tryz.prog sl0 O):xX Tryz.prog sl0 (kn g0 A G n0 v O):=λf hf g args h n v' h' n' e'=>by
 cases hc:bc (Nat.beq g g0) (bc (Nat.beq n n0) (bc (sU args A) (std G h n0) false) false) false with
 |false=>
  refine hO f hf g args h n v' h' n' ?_;rw[<-e'];unfold kn;rw[hc];rfl
 |true=>
  have e2:some (eH.ok v h n)=some (.ok v' h' n'):=by rw[<-e'];unfold kn;rw[hc];rfl
  cases e2
  obtain⟨h1,h2⟩:=cZ hc;obtain⟨h3,h4⟩:=cZ h2;obtain⟨h5,h6⟩:=cZ h4;obtain rfl:=beq_eq h1;obtain rfl:=beq_eq h3;obtain rfl:=oK _ _ h5;exact apart Pt hO' e h6 hn
def sA:AV:=.agg [.i .i64 1,.sl 4 0 0 1 (some 1),.sl 5 0 0 1 (some 1),.sl 6 0 0 1 (some 1),.sl 7 0 0 1 (some 1),.i .i64 5,.k 1]
def sG:AH:=(((Tr.z.set 4 (AO.row 3 [.i .i64 0])).set 5 (.row 167 [.s [69,85,82],.i .i64 2,.i .i64 0,.i .i64 1,.i .i64 1])).set 6 (.row 169 [.i .i64 1,.i .i64 0,.i .i64 0,.i .i64 (.negSucc 0),.i .i64 (.negSucc 0),.i .i64 0,.i .i64 1])).set 7
 (.row 112 [.i .i64 1,.i .i64 0,.i .i64 0,.i .i64 1,.k 1,.i .i64 2,.i .i64 0,.b false,.b true,.i .i64 (.negSucc 0),.i .i64 (.negSucc 0),.i .i64 50,.i .i64 1,.i .i64 0,.i .i64 0,.b false])
theorem MG{k:Nat}(hk:8<=k):∀x o,sG.get x=some o->x<k:=λx o e=>by
 unfold sG at e;simp only[gP]at e;repeat' split at e
 all_goals first|omega|cases e
theorem AA{G:AH}{k j:Nat}{a:AO}(hG:∀x o,G.get x=some o->x<k)(hj:j<k):∀x o,(G.set j a).get x=some o->x<k:=λx o e=>by
 rw[gP]at e;split at e
 .omega
 .exact hG x o e
end
end Go.Proofs.YtjoohkjmoghmoaaGreatDoor
